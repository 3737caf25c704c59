/- A part of the proof: plain logic, contracts and laws over the given program. -/
import Derived.Lib.LaidTab
import Derived.Test.YtflgockgjnddnaaGreatDoorRows
import Derived.Test.YtflgockgjnddnaaGreatDoorTie
import Derived.Test.YtflgockgjnddnaaGreatDoorCards
import Derived.ProofKit
import Derived.OpenShut
import Derived.LaidMore
import Derived.Lay
import Derived.LaidSub
import Derived.SevenTiedAt
import Derived.Stop.Joined
import Derived.Stop.LaidErr
import Derived.Lib.LaidU8T
import Derived.JoinedOf
import Derived.Deep.Slices
import Derived.ChangeArms
import Derived.DataReads
import Derived.Lib.MapLaws
import Derived.Test.YtflgockgjnddnaaGreatDoorU09
set_option linter.unusedVariables false
set_option linter.unusedSimpArgs false
set_option linter.all false
section
set_option maxRecDepth 100000
namespace Go.PM.Lex
def spP:Pc:=.blank 32
def nlP:Pc:=.blank 10
@[simp] theorem bs_sp:spP.bs=[32]:=rfl
@[simp] theorem bs_nl:nlP.bs=[10]:=rfl
@[simp] theorem ts_sp:spP.ts=[]:=rfl
@[simp] theorem ts_nl:nlP.ts=[]:=rfl
@[simp] theorem bs_nm (s:Bs):(nmP s).bs=s:=rfl
@[simp] theorem bs_sg (s:Bs):(sgP s).bs=s:=rfl
@[simp] theorem ts_nm (s:Bs):(nmP s).ts=[nmT s]:=rfl
@[simp] theorem ts_sg (s:Bs):(sgP s).ts=[sgT s]:=rfl
@[simp] theorem bs_tok (s:Bs) (t:T0):(Pc.tok s t).bs=s:=rfl
@[simp] theorem ts_tok (s:Bs) (t:T0):(Pc.tok s t).ts=[t]:=rfl
theorem ok_sp (k:Bs):OkPc spP k:=by show ws.contains 32=true;decide
def tailsP (sep:List Pc):List (List Pc)→List Pc
 | []=>[]
 | x::l=>sep++(x++tailsP sep l)
def commasP (sep:List Pc):List (List Pc)→List Pc
 | []=>[]
 | x::l=>x++tailsP sep l
def cmP:List Pc:=[sgP [44],spP]
def barP:List Pc:=[spP,sgP [124],spP]
theorem commas_tails (sep:Bs):∀(x:Bs) (l:List Bs),commas sep (x::l)=x++(l.map fun y=>sep++y).flatten
 | x,[]=>by simp [commas]
 | x,y::l=>by rw [commas,commas_tails sep y l];simp;intro h;cases h
theorem tailsP_bs (sep:List Pc):∀l:List (List Pc),bsP (tailsP sep l)=((l.map bsP).map fun y=>bsP sep++y).flatten
 | []=>rfl
 | x::l=>by simp [tailsP,tailsP_bs sep l]
theorem tailsP_ts {sep:List Pc} {w:Bs} (h:tsP sep=[sgT w]):∀l:List (List Pc),tsP (tailsP sep l)=tailsK w (l.map tsP)
 | []=>rfl
 | x::l=>by simp [tailsP,tailsK,tailsP_ts h l,h]
theorem commasP_bs (sep:List Pc) (l:List (List Pc)):bsP (commasP sep l)=commas (bsP sep) (l.map bsP):=by
 cases l with
 | nil=>rfl
 | cons x l=>rw [List.map_cons,commas_tails,commasP,bsP_app,tailsP_bs]
theorem commasP_ts {sep:List Pc} {w:Bs} (h:tsP sep=[sgT w]) (l:List (List Pc)):tsP (commasP sep l)=commasK w (l.map tsP):=by
 cases l with
 | nil=>rfl
 | cons x l=>rw [List.map_cons,commasK,commasP,tsP_app,tailsP_ts h]
theorem tailsP_ok {sep:List Pc} {Ok:Bs→Prop} (hsep:∀x,VF sep x) (hOk:∀x,Ok (bsP sep++x)):∀(l:List (List Pc)) (k:Bs),Ok k→(∀x∈l,∀k,Ok k→VF x k)→VF (tailsP sep l) k∧Ok (bsP (tailsP sep l)++k)
 | [],k,hk,h=>⟨trivial,hk⟩
 | x::l,k,hk,h=>by
  obtain ⟨h1,h2⟩:=tailsP_ok hsep hOk l k hk fun y hy=>h y (List.mem_cons_of_mem _ hy)
  rw [tailsP]
  refine ⟨?_,?_⟩
  ·rw [VF_app,VF_app]
   exact ⟨hsep _,h x (by simp) _ h2,h1⟩
  ·rw [bsP_app,List.append_assoc];exact hOk _
theorem commasP_ok {sep:List Pc} {Ok:Bs→Prop} (hsep:∀x,VF sep x) (hOk:∀x,Ok (bsP sep++x)) {l:List (List Pc)} {k:Bs} (hk:Ok k) (h:∀x∈l,∀k,Ok k→VF x k):VF (commasP sep l) k:=by
 cases l with
 | nil=>exact trivial
 | cons x l =>
  obtain ⟨h1,h2⟩:=tailsP_ok hsep hOk l k hk fun y hy=>h y (List.mem_cons_of_mem _ hy)
  rw [commasP,VF_app]
  exact ⟨h x (by simp) _ h2,h1⟩
def Aft (k:Bs):Prop:=k=[]∨(∃c z,k=c::z∧c∈([32,41,44,93]:Bs))∨k=[46]∨∃z,k=46::10::z
theorem aft_cons {c:UInt8} (hc:c∈([32,41,44,93]:Bs)) (z:Bs):Aft (c::z):=.inr (.inl ⟨c,z,rfl,hc⟩)
theorem fol_of {c:UInt8} (h:c.toNat<128∧isLetter c.toNat=false∧isDigit c.toNat=false∧c≠46) (z:Bs):Fol c z:=⟨h.1,h.2.1,h.2.2.1,fun e=>absurd e h.2.2.2⟩
def folBs:Bs:=[32,41,44,93,58,40,10,60,62,125,123]
theorem folk_cons {c:UInt8} (hc:c∈folBs) (z:Bs):FolK (c::z):=by
 have h:∀c∈folBs,c.toNat<128∧isLetter c.toNat=false∧isDigit c.toNat=false∧c≠46:=by decide
 exact .inr ⟨c,z,rfl,fol_of (h c hc) z⟩
theorem aft_fol {k:Bs} (h:Aft k):FolK k:=by
 rcases h with rfl | ⟨c,z,rfl,hc⟩ | rfl | ⟨z,rfl⟩
 ·exact .inl rfl
 ·have h:∀c∈([32,41,44,93]:Bs),c∈folBs:=by decide
  exact folk_cons (h c hc) z
 ·exact .inr ⟨46,[],rfl,by decide,by decide,by decide,fun _=>by rw [pk_nil];decide⟩
 ·exact .inr ⟨46,10::z,rfl,by decide,by decide,by decide,fun _=>by rw [pk_low1 (by decide)];decide⟩
theorem nam_name {s:Bs} (h:namB s=true):nameB s=true:=by
 simp only [namB,Bool.and_eq_true] at h;exact h.1
def freeW:List Bs:=[[40],[41],[91],[93],[123],[125],[44],[46],[61],[43],[45],[42],[37],[124],[36],[126],[58,45],[33,61],[60,61],[62,61],[60,58]]
theorem ok_free {w:Bs} (hw:w∈freeW) (k:Bs):OkPc (sgP w) k:=by
 have h:∀w∈freeW,(w∈twos∨w∈ones.map fun b=>[b])∧(w≠[58]∧w≠[33]∧w≠[60]∧w≠[62]∧w≠[47]):=by decide
 obtain ⟨h1,h2⟩:=h w hw
 exact ok_sg ⟨h1,.inl h2⟩
theorem ok_sgsp {w:Bs} (hw:w∈twos∨w∈ones.map fun b=>[b]) {c:UInt8} (hc:c=32∨c=10) (z:Bs):OkPc (sgP w) (c::z):=by
 refine ok_sg ⟨hw,.inr (.inr ⟨c,z,rfl,?_⟩)⟩
 rcases hc with rfl | rfl <;> decide
theorem cm_ok (k:Bs):VF cmP k:=⟨ok_free (by decide) _,ok_sp _,trivial⟩
def opP (op:Nat):Pc:=if 15≤op∧op≤19 then nmP (wordF op) else sgP (wordF op)
def parPc (want:Nat) (p:Nat×List Pc):List Pc:=if p.1<want then sgP [40]::(p.2++[sgP [41]]) else p.2
def exAP (w1 w2:Nat) (mid:List Pc):List (Nat×List Pc)→List Pc
 | []=>[]
 | [a]=>parPc w1 a
 | a::b::_=>parPc w1 a++(mid++parPc w2 b)
def brP (fr fin:Bs) (ps:List (List Pc)):List Pc:=sgP fr::(commasP cmP ps++[sgP fin])
def exNP (op:Nat) (text:Bs) (n:Int) (ps:List (Nat×List Pc)):List Pc :=
 if lineF op<5 then exAP (lineF op) (lineF op+1) [spP,opP op,spP] ps
 else if lineF op=5 then sgP (wordF op)::exAP 5 5 [] ps
 else if wordF op≠[] then nmP (wordF op)::brP [40] [41] (ps.map Prod.snd)
 else if op=6 then brP [91] [93] (ps.map Prod.snd)
 else if op=7 then sgP [36]::nmP text::(if ps.length=0 then [] else brP [40] [41] (ps.map Prod.snd))
 else if op=3 then [.tok (numT n) ⟨2,[],n⟩]
 else if op=4 then [.tok (quoT text) ⟨3,text,0⟩]
 else if op=5 then [nmP [110,105,108]]
 else if op=2 then [nmP [95]]
 else [nmP text]
mutual
def exP:Ex→List Pc
 | .mk op text n args _=>exNP op text n (exPsP args)
def exPsP:List Ex→List (Nat×List Pc)
 | []=>[]
 | e::l=>(lineF (opE e),exP e)::exPsP l
end
theorem exPsP_eq (l:List Ex):exPsP l=l.map fun e=>(lineF (opE e),exP e):=by induction l with | nil=>rfl | cons x l ih=>simp [exPsP,ih]
theorem exP_mk (op:Nat) (t:Bs) (n:Int) (l:List Ex) (a:Nat):exP (.mk op t n l a)=exNP op t n (exPsP l):=by rw [exP]
def bs2 (p:Nat×List Pc):Nat×Bs:=(p.1,bsP p.2)
def ts2 (p:Nat×List Pc):Nat×Ts:=(p.1,tsP p.2)
theorem parPc_bs (w:Nat) (p:Nat×List Pc):bsP (parPc w p)=parP w (bs2 p):=by
 unfold parPc parP bs2
 simp only
 split <;> simp
theorem parPc_ts (w:Nat) (p:Nat×List Pc):tsP (parPc w p)=parK w (ts2 p):=by
 unfold parPc parK ts2
 simp only
 split <;> simp
theorem exAP_bs (w1 w2:Nat) (mid:List Pc) (l:List (Nat×List Pc)):bsP (exAP w1 w2 mid l)=exA w1 w2 (bsP mid) (l.map bs2):=by
 match l with
 | []=>rfl
 | [a]=>simp [exAP,exA,parPc_bs]
 | a::b::l=>simp [exAP,exA,parPc_bs]
theorem exAP_ts (w1 w2:Nat) (mid:List Pc) (l:List (Nat×List Pc)):tsP (exAP w1 w2 mid l)=exAK w1 w2 (tsP mid) (l.map ts2):=by
 match l with
 | []=>rfl
 | [a]=>simp [exAP,exAK,parPc_ts]
 | a::b::l=>simp [exAP,exAK,parPc_ts]
theorem cm_bs:bsP cmP=cmm:=rfl
theorem cm_ts:tsP cmP=[sgT [44]]:=rfl
theorem brP_bs (fr fin:Bs) (l:List (List Pc)):bsP (brP fr fin l)=fr++(commas cmm (l.map bsP)++fin):=by simp [brP,commasP_bs,cm_bs]
theorem brP_ts (fr fin:Bs) (l:List (List Pc)):tsP (brP fr fin l)=brK fr fin (l.map tsP):=by simp [brP,brK,commasP_ts cm_ts]
theorem opP_bs (op:Nat):(opP op).bs=wordF op:=by unfold opP;split <;> rfl
theorem opP_ts (op:Nat):(opP op).ts=[opT op]:=by unfold opP opT;split <;> rfl
theorem snd_bs2 (l:List (Nat×List Pc)):(l.map Prod.snd).map bsP=(l.map bs2).map Prod.snd:=by rw [List.map_map,List.map_map];rfl
theorem snd_ts2 (l:List (Nat×List Pc)):(l.map Prod.snd).map tsP=(l.map ts2).map Prod.snd:=by rw [List.map_map,List.map_map];rfl
theorem exNP_bs (op:Nat) (t:Bs) (n:Int) (l:List (Nat×List Pc)):bsP (exNP op t n l)=exN op t n (l.map bs2):=by
 unfold exNP exN
 split
 ·rw [exAP_bs];simp [opP_bs]
 split
 ·rw [bsP_cons,exAP_bs];rfl
 split
 ·rw [bsP_cons,brP_bs,snd_bs2];rfl
 split
 ·rw [brP_bs,snd_bs2]
 split
 ·rw [bsP_cons,bsP_cons,List.length_map]
  split
  ·rfl
  ·rw [brP_bs,snd_bs2];rfl
 split
 ·simp
 split
 ·simp
 split
 ·simp
 split
 ·simp
 ·simp
theorem exNP_ts (op:Nat) (t:Bs) (n:Int) (l:List (Nat×List Pc)):tsP (exNP op t n l)=exNK op t n (l.map ts2):=by
 unfold exNP exNK
 split
 ·rw [exAP_ts];simp [opP_ts]
 split
 ·rw [tsP_cons,exAP_ts];rfl
 split
 ·rw [tsP_cons,brP_ts,snd_ts2];rfl
 split
 ·rw [brP_ts,snd_ts2]
 split
 ·rw [tsP_cons,tsP_cons,List.length_map]
  split
  ·rfl
  ·rw [brP_ts,snd_ts2];rfl
 split
 ·simp
 split
 ·simp
 split
 ·simp
 split
 ·simp
 ·simp
mutual
theorem exP_bs:∀e:Ex,bsP (exP e)=exT e
 | .mk op t n l a=>by rw [exP,exT,exNP_bs,exPsP_bs l]
theorem exPsP_bs:∀l:List Ex,(exPsP l).map bs2=exPs l
 | []=>by rw [exPsP,exPs];rfl
 | x::l=>by rw [exPsP,exPs,List.map_cons,exPsP_bs l,bs2,exP_bs x]
end
mutual
theorem exP_ts:∀e:Ex,tsP (exP e)=exK e
 | .mk op t n l a=>by rw [exP,exK,exNP_ts,exPsP_ts l]
theorem exPsP_ts:∀l:List Ex,(exPsP l).map ts2=exKs l
 | []=>by rw [exPsP,exKs];rfl
 | x::l=>by rw [exPsP,exKs,List.map_cons,exPsP_ts l,ts2,exP_ts x]
end
theorem op_pc {op:Nat} (h:-2<argsN op):(lineF op<5→(15≤op∧op≤19→nameB (wordF op)=true)∧(¬(15≤op∧op≤19)→wordF op∈ones.map fun b=>[b]))∧(lineF op=5→wordF op∈freeW)∧(lineF op=6→wordF op≠[]→nameB (wordF op)=true):=by
 have h1:∀o:Fin 26,-2<argsN o.val→lineF o.val<5→15≤o.val∧o.val≤19→nameB (wordF o.val)=true:=by decide +kernel
 have h2:∀o:Fin 26,-2<argsN o.val→lineF o.val<5→¬(15≤o.val∧o.val≤19)→wordF o.val∈ones.map fun b=>[b]:=by decide +kernel
 have h3:∀o:Fin 26,-2<argsN o.val→lineF o.val=5→wordF o.val∈freeW:=by decide +kernel
 have h4:∀o:Fin 26,-2<argsN o.val→lineF o.val=6→wordF o.val≠[]→nameB (wordF o.val)=true:=by decide +kernel
 obtain ⟨o,ho⟩:∃o:Fin 26,o.val=op:=⟨⟨op,op_lt h⟩,rfl⟩
 subst ho
 exact ⟨fun c=>⟨h1 o h c,h2 o h c⟩,h3 o h,h4 o h⟩
theorem parPc_ok {w:Nat} {p:Nat×List Pc} {k:Bs} (hk:Aft k) (h:∀k,Aft k→VF p.2 k):VF (parPc w p) k:=by
 unfold parPc
 split
 ·refine ⟨ok_free (by decide) _,(VF_app _ _ _).2 ⟨h _ ?_,ok_free (by decide) _,trivial⟩⟩
  simp only [bsP_cons,bs_sg,bsP_nil,List.append_nil,List.cons_append,List.nil_append]
  exact aft_cons (by decide) _
 ·exact h k hk
theorem brP_ok {fr fin:Bs} (hfr:fr∈freeW) (hfin:fin∈[[41],[93]]) {l:List (List Pc)} (h:∀x∈l,∀k,Aft k→VF x k) (k:Bs):VF (brP fr fin l) k:=by
 have hk:∀w∈[[41],[93]],w∈freeW∧w=[w.getD 0 0]∧w.getD 0 0∈([32,41,44,93]:Bs):=by decide
 obtain ⟨h1,h3,h2⟩:=hk fin hfin
 generalize fin.getD 0 0=c at h2 h3
 subst h3
 refine ⟨ok_free hfr _,(VF_app _ _ _).2 ⟨commasP_ok cm_ok (fun x=>?_) ?_ h,ok_free h1 _,trivial⟩⟩
 ·exact aft_cons (by decide) _
 ·simp only [bsP_cons,bs_sg,bsP_nil,List.append_nil,List.cons_append,List.nil_append]
  exact aft_cons h2 _
theorem ex_ok:∀(n:Nat) (e:Ex),SizeOf.sizeOf e<n→mayE e=true→rngE e=true→∀k,Aft k→VF (exP e) k
 | 0,e,h,_,_=>by omega
 | q+1,.mk op t n l a,h,hm,hr=>fun k hk=>by
  obtain ⟨m1,m2,m3,m4,m5⟩:=mayE_mk hm
  obtain ⟨f1,f2,f3,f4,f5⟩:=op_facts m1
  obtain ⟨p1,p2,p3⟩:=op_pc m1
  obtain ⟨r1,r2⟩:=rngE_mk hr
  have ih:∀x∈l,∀k,Aft k→VF (exP x) k:=fun x hx=>ex_ok q x (sz_lt h hx) (m5 x hx) (r2 x hx)
  have ihm:∀x∈l.map exP,∀k,Aft k→VF x k:=fun x hx=>by obtain ⟨y,hy,rfl⟩:=List.mem_map.1 hx;exact ih y hy
  rw [exP_mk,exPsP_eq]
  unfold exNP
  by_cases c1:lineF op<5
  ·obtain ⟨x,y,rfl⟩:=two_of (l:=l) (by have:=f1 c1;omega)
   rw [if_pos c1]
   simp only [List.map_cons,List.map_nil,exAP]
   refine (VF_app _ _ _).2 ⟨parPc_ok ?_ (ih x (by simp)),(VF_app _ _ _).2 ⟨⟨ok_sp _,?_,ok_sp _,trivial⟩,parPc_ok hk (ih y (by simp))⟩⟩
   ·simp only [List.cons_append,bsP_cons,bs_sp,List.nil_append]
    exact aft_cons (by decide) _
   ·simp only [bsP_cons,bs_sp,List.cons_append,List.nil_append,bsP_nil]
    unfold opP
    split
    ·rename_i c;exact ok_nm ((p1 c1).1 c) (folk_cons (by decide) _)
    ·rename_i c;exact ok_sgsp (.inr ((p1 c1).2 c)) (.inl rfl) _
  rw [if_neg c1]
  by_cases c2:lineF op=5
  ·obtain ⟨x,rfl⟩:=one_of (l:=l) (by have:=f2 c2;omega)
   rw [if_pos c2]
   simp only [List.map_cons,List.map_nil,exAP]
   exact ⟨ok_free (p2 c2) _,parPc_ok hk (ih x (by simp))⟩
  have c3:lineF op=6:=by omega
  rw [if_neg c2]
  have hsnd:(l.map fun e=>(lineF (opE e),exP e)).map Prod.snd=l.map exP:=by rw [List.map_map];rfl
  rw [hsnd]
  by_cases c4:wordF op≠[]
  ·rw [if_pos c4]
   exact ⟨ok_nm (p3 c3 c4) (folk_cons (c:=40) (by decide) _),brP_ok (by decide) (by decide) ihm k⟩
  rw [if_neg c4]
  have hf:=aft_fol hk
  rcases f5 c3 (by simpa using c4) with rfl | rfl | rfl | rfl | rfl | rfl | rfl
  ·exact ⟨ok_nm (nam_name (text_nam m4 (.inl rfl))) hf,trivial⟩
  ·exact ⟨ok_nm (by decide +kernel) hf,trivial⟩
  ·exact ⟨ok_num r1.1 r1.2 hf,trivial⟩
  ·have hq:(quoteF t).isSome=true:=by unfold textB at m4;rw [if_neg (by decide),if_pos rfl] at m4;exact m4
   obtain ⟨v,hv⟩:=Option.isSome_iff_exists.1 hq
   have:quoT t=v:=by rw [quoT,hv];rfl
   show VF [.tok (quoT t) ⟨3,t,0⟩] k
   rw [this]
   exact ⟨ok_quo hv hf,trivial⟩
  ·exact ⟨ok_nm (by decide +kernel) hf,trivial⟩
  ·exact brP_ok (by decide) (by decide) ihm k
  ·have hn:=nam_name (text_nam m4 (.inr rfl))
   show VF (sgP [36]::nmP t::(if (l.map fun e=>(lineF (opE e),exP e)).length=0 then [] else brP [40] [41] (l.map exP))) k
   rw [List.length_map]
   by_cases hl:l.length=0
   ·rw [if_pos hl]
    exact ⟨ok_free (by decide) _,ok_nm hn hf,trivial⟩
   ·rw [if_neg hl]
    exact ⟨ok_free (by decide) _,ok_nm hn (folk_cons (c:=40) (by decide) _),brP_ok (by decide) (by decide) ihm k⟩
theorem exP_ok {e:Ex} (h:mayE e=true) (hr:rngE e=true) {k:Bs} (hk:Aft k):VF (exP e) k:=ex_ok _ e (Nat.lt_succ_self _) h hr k hk
def relP (op:Nat):List Pc:=[spP,sgP (relW op),spP]
def fstP:List Ex→List Pc
 | []=>[]
 | e::_=>exP e
def aggP (l:List Ex):List Pc:=(l.map fun e=>spP::exP e).flatten
mutual
def liP:Li→List Pc
 | .mk op rel args body _ =>
  if op=2 then sgP [33]::nmP rel::brP [40] [41] (args.map exP)
  else if op=1 then nmP rel::brP [40] [41] (args.map exP)
  else if op≤8 then fstP args++(relP op++fstP args.tail)
  else fstP args++(spP::sgP [61]::spP::nmP (aggSg op)::(aggP args.tail++(spP::sgP [58]::spP::sgP [123]::spP::(commasP cmP (liPs body)++[spP,sgP [125]]))))
def liPs:List Li→List (List Pc)
 | []=>[]
 | e::l=>liP e::liPs l
end
theorem liPs_eq (l:List Li):liPs l=l.map liP:=by induction l with | nil=>rfl | cons x l ih=>simp [liPs,ih]
theorem fstP_bs (l:List Ex):bsP (fstP l)=fstT l:=by cases l with | nil=>rfl | cons x l=>exact exP_bs x
theorem fstP_ts (l:List Ex):tsP (fstP l)=fstK l:=by cases l with | nil=>rfl | cons x l=>exact exP_ts x
theorem aggP_bs (l:List Ex):bsP (aggP l)=aggT l:=by
 unfold aggP aggT
 rw [bsP_flat,List.map_map]
 congr 1
 refine List.map_congr_left fun x _=>?_
 simp [exP_bs]
theorem aggP_ts (l:List Ex):tsP (aggP l)=(l.map exK).flatten:=by
 unfold aggP
 rw [tsP_flat,List.map_map]
 congr 1
 refine List.map_congr_left fun x _=>?_
 simp [exP_ts]
theorem mapP_bs (l:List Ex):(l.map exP).map bsP=exTs l:=by rw [List.map_map];exact List.map_congr_left fun x _=>exP_bs x
theorem mapP_ts (l:List Ex):(l.map exP).map tsP=l.map exK:=by rw [List.map_map];exact List.map_congr_left fun x _=>exP_ts x
theorem relP_bs {op:Nat}:bsP (relP op)=relSg op:=by
 unfold relP relW relSg
 (repeat' split) <;> rfl
theorem relP_ts {op:Nat}:tsP (relP op)=[sgT (relW op)]:=by simp [relP]
mutual
theorem liP_bs:∀x:Li,bsP (liP x)=liT x
 | .mk op rel args body a=>by
  rw [liP,liT]
  split
  ·rw [bsP_cons,bsP_cons,brP_bs,mapP_bs];rfl
  split
  ·rw [bsP_cons,brP_bs,mapP_bs];rfl
  split
  ·rw [bsP_app,bsP_app,fstP_bs,fstP_bs,relP_bs]
  ·simp only [bsP_app,bsP_cons,bsP_nil,fstP_bs,aggP_bs,commasP_bs,cm_bs,liPs_bs body,bs_sp,bs_sg,bs_nm,List.append_nil,List.cons_append,List.nil_append]
theorem liPs_bs:∀l:List Li,(liPs l).map bsP=liTs l
 | []=>by rw [liPs,liTs];rfl
 | x::l=>by rw [liPs,liTs,List.map_cons,liP_bs x,liPs_bs l]
end
mutual
theorem liP_ts:∀x:Li,tsP (liP x)=liK x
 | .mk op rel args body a=>by
  rw [liP,liK]
  split
  ·rw [tsP_cons,tsP_cons,brP_ts,mapP_ts];rfl
  split
  ·rw [tsP_cons,brP_ts,mapP_ts];rfl
  split
  ·rw [tsP_app,tsP_app,fstP_ts,fstP_ts,relP_ts];rfl
  ·simp only [tsP_app,tsP_cons,tsP_nil,fstP_ts,aggP_ts,commasP_ts cm_ts,liPs_ts body,ts_sp,ts_sg,ts_nm,List.append_nil,List.cons_append,List.nil_append]
theorem liPs_ts:∀l:List Li,(liPs l).map tsP=liKs l
 | []=>by rw [liPs,liKs];rfl
 | x::l=>by rw [liPs,liKs,List.map_cons,liP_ts x,liPs_ts l]
end
end Go.PM.Lex
end

section
set_option maxRecDepth 100000
namespace Go.PM.Lex
def ifP:List Pc:=[spP,sgP [58,45],spP]
def ruP (r:Ru):List Pc:=nmP r.head::(brP [40] [41] (r.args.map exP)++((if 0<r.body.length then ifP++commasP cmP (r.body.map liP) else [])++[sgP [46]]))
theorem mapL_bs (l:List Li):(l.map liP).map bsP=liTs l:=by rw [← liPs_eq,liPs_bs]
theorem mapL_ts (l:List Li):(l.map liP).map tsP=l.map liK:=by rw [← liPs_eq,liPs_ts,liKs_eq]
theorem ruP_bs (r:Ru):bsP (ruP r)=ruT r:=by
 unfold ruP ruT argT
 split
 ·simp [-List.map_map,brP_bs,mapP_bs,commasP_bs,cm_bs,mapL_bs,ifP]
 ·simp [-List.map_map,brP_bs,mapP_bs]
theorem ruP_ts (r:Ru):tsP (ruP r)=ruK r:=by
 unfold ruP ruK
 split
 ·simp [-List.map_map,brP_ts,mapP_ts,commasP_ts cm_ts,mapL_ts,ifP]
 ·simp [-List.map_map,brP_ts,mapP_ts]
def fiP (f:Fi):List Pc:=[nmP f.name,sgP [58],spP,nmP f.typ]
def fisP (l:List Fi) (fin:Bs):List Pc:=commasP cmP (l.map fiP)++[sgP fin]
theorem fiP_bs (f:Fi):bsP (fiP f)=fiT f:=by simp [fiP,fiT]
theorem fiP_ts (f:Fi):tsP (fiP f)=fiK f:=by simp [fiP,fiK]
theorem mapF_bs (l:List Fi):(l.map fiP).map bsP=l.map fiT:=by rw [List.map_map];exact List.map_congr_left fun x _=>fiP_bs x
theorem mapF_ts (l:List Fi):(l.map fiP).map tsP=l.map fiK:=by rw [List.map_map];exact List.map_congr_left fun x _=>fiP_ts x
theorem fisP_bs (fr:Bs) (l:List Fi) (fin:Bs):fr++bsP (fisP l fin)=fisT fr l fin:=by simp [-List.map_map,fisP,fisT,commasP_bs,cm_bs,mapF_bs]
theorem fisP_ts (fr:Bs) (l:List Fi) (fin:Bs):sgT fr::tsP (fisP l fin)=fisK fr l fin:=by simp [-List.map_map,fisP,fisK,commasP_ts cm_ts,mapF_ts]
def angP (l:List Bs):List Pc:=if l.length=0 then [] else sgP [60]::(commasP cmP (l.map fun s=>[nmP s])++[sgP [62]])
theorem mapN_bs (l:List Bs):(l.map fun s=>[nmP s]).map bsP=l:=by rw [List.map_map];simp [Function.comp_def]
theorem mapN_ts (l:List Bs):(l.map fun s=>[nmP s]).map tsP=l.map fun s=>[nmT s]:=by rw [List.map_map];exact List.map_congr_left fun x _=>by simp
theorem angP_bs (l:List Bs):bsP (angP l)=angT l:=by
 unfold angP angT
 split
 ·rfl
 ·simp [-List.map_map,commasP_bs,cm_bs,mapN_bs]
theorem angP_ts (l:List Bs):tsP (angP l)=angK l:=by
 unfold angP angK
 split
 ·rfl
 ·simp [-List.map_map,commasP_ts cm_ts,mapN_ts]
def caP (c:Ca):List Pc:=nmP c.name::spP::sgP [123]::fisP c.fields [125]
theorem caP_bs (c:Ca):bsP (caP c)=caT c:=by
 rw [caT,← fisP_bs];simp [caP]
theorem caP_ts (c:Ca):tsP (caP c)=caK c:=by
 rw [caK,← fisP_ts];simp [caP]
theorem bar_bs:bsP barP=[32,124,32]:=rfl
theorem bar_ts:tsP barP=[sgT [124]]:=rfl
def tyP (t:Ty):List Pc:=nmP [116,121,112,101]::spP::nmP t.name::((if t.kind=1 then [spP,sgP [60,58],spP,nmP t.base] else if t.kind=2 then spP::sgP [61]::spP::sgP [91]::fisP t.fields [93] else spP::sgP [61]::spP::commasP barP (t.cases.map caP))++[nlP])
theorem mapC_bs (l:List Ca):(l.map caP).map bsP=l.map caT:=by rw [List.map_map];exact List.map_congr_left fun x _=>caP_bs x
theorem mapC_ts (l:List Ca):(l.map caP).map tsP=l.map caK:=by rw [List.map_map];exact List.map_congr_left fun x _=>caP_ts x
theorem tyP_bs (t:Ty):bsP (tyP t)=tyT t:=by
 unfold tyP tyT
 split
 ·simp
 split
 ·rw [← fisP_bs];simp
 ·simp [-List.map_map,commasP_bs,bar_bs,mapC_bs]
theorem tyP_ts (t:Ty):tsP (tyP t)=tyK t:=by
 unfold tyP tyK
 split
 ·simp
 split
 ·rw [← fisP_ts];simp
 ·simp [-List.map_map,commasP_ts bar_ts,mapC_ts]
def flagsP (i o n:Bool):List Pc:=(if i then [spP,nmP [105,110,112,117,116]] else [])++((if o then [spP,nmP [111,117,116,112,117,116]] else [])++(if n then [spP,nmP [105,110,108,105,110,101]] else []))
def reP (d:Re):List Pc:=nmP [100,101,99,108]::spP::nmP d.name::sgP [40]::(fisP d.fields [41]++(flagsP d.inn d.out d.inl++[nlP]))
theorem reP_bs (d:Re):bsP (reP d)=reT d:=by
 obtain ⟨nm,fs,i,o,n,a⟩:=d
 unfold reP reT
 rw [← fisP_bs]
 cases i <;> cases o <;> cases n <;> simp [flagsP]
theorem reP_ts (d:Re):tsP (reP d)=reK d:=by
 obtain ⟨nm,fs,i,o,n,a⟩:=d
 unfold reP reK
 rw [← fisP_ts]
 cases i <;> cases o <;> cases n <;> simp [flagsP,flagsK]
def inP (i:Ini):List Pc:=nmP [105,110,105,116]::spP::nmP i.name::spP::sgP [61]::spP::nmP i.comp::(angP i.types++[nlP])
theorem inP_bs (i:Ini):bsP (inP i)=inT i:=by simp [inP,inT,angP_bs]
theorem inP_ts (i:Ini):tsP (inP i)=inK i:=by simp [inP,inK,angP_ts]
def ovP (o:Ov):List Pc:=[nmP [111,118,101,114,114,105,100,101],spP,nmP o.rel,nlP]
theorem ovP_bs (o:Ov):bsP (ovP o)=ovT o:=by simp [ovP,ovT]
theorem ovP_ts (o:Ov):tsP (ovP o)=ovK o:=by simp [ovP,ovK]
def flatP {α:Type} (P:α→List Pc) (l:List α):List Pc:=(l.map P).flatten
theorem flatP_bs {α:Type} {P:α→List Pc} {T:α→Bs} (h:∀x,bsP (P x)=T x) (l:List α):bsP (flatP P l)=(l.map T).flatten:=by
 rw [flatP,bsP_flat,List.map_map];congr 1;exact List.map_congr_left fun x _=>h x
theorem flatP_ts {α:Type} {P:α→List Pc} {T:α→Ts} (h:∀x,tsP (P x)=T x) (l:List α):tsP (flatP P l)=(l.map T).flatten:=by
 rw [flatP,tsP_flat,List.map_map];congr 1;exact List.map_congr_left fun x _=>h x
mutual
def unP:Un→List Pc
 | .mk tys rels rules comps inits overs=>flatP tyP tys++(flatP reP rels++(coPs comps++(flatP inP inits++(flatP ovP overs++flatP (fun r=>ruP r++[nlP]) rules))))
def coP:Co→List Pc
 | .mk nm ps base tys u _=>nmP [99,111,109,112]::spP::nmP nm::(angP ps++((if base=[] then [] else spP::sgP [58]::spP::nmP base::angP tys)++(spP::sgP [123]::nlP::(unP u++[sgP [125],nlP]))))
def coPs:List Co→List Pc
 | []=>[]
 | c::l=>coP c++coPs l
end
mutual
theorem unP_bs:∀u:Un,bsP (unP u)=unT u
 | .mk tys rels rules comps inits overs=>by
  rw [unP,unT]
  simp only [bsP_app,flatP_bs tyP_bs,flatP_bs reP_bs,flatP_bs inP_bs,flatP_bs ovP_bs,coPs_bs comps]
  rw [flatP_bs (T:=fun r=>ruT r++[10]) fun r=>by simp [ruP_bs]]
theorem coP_bs:∀c:Co,bsP (coP c)=coT c
 | .mk nm ps base tys u a=>by
  rw [coP,coT]
  have ih:=unP_bs u
  split <;> simp [angP_bs,ih]
theorem coPs_bs:∀l:List Co,bsP (coPs l)=(coTs l).flatten
 | []=>by rw [coPs,coTs];rfl
 | c::l=>by rw [coPs,coTs,bsP_app,coP_bs c,coPs_bs l];rfl
end
mutual
theorem unP_ts:∀u:Un,tsP (unP u)=unK u
 | .mk tys rels rules comps inits overs=>by
  rw [unP,unK]
  simp only [tsP_app,flatP_ts tyP_ts,flatP_ts reP_ts,flatP_ts inP_ts,flatP_ts ovP_ts,coPs_ts comps]
  rw [flatP_ts (T:=ruK) fun r=>by simp [ruP_ts]]
theorem coP_ts:∀c:Co,tsP (coP c)=coK c
 | .mk nm ps base tys u a=>by
  rw [coP,coK]
  have ih:=unP_ts u
  split <;> simp [angP_ts,ih]
theorem coPs_ts:∀l:List Co,tsP (coPs l)=(coKs l).flatten
 | []=>by rw [coPs,coKs];rfl
 | c::l=>by rw [coPs,coKs,tsP_app,coP_ts c,coPs_ts l];rfl
end
def Back {α β:Type} (er:α→β) (v:α) (x:Top α):Prop:=(∃v' L,er v'=er v∧x=.ok v' L)∨∃p e,(e=3∨e=151)∧x=.err p e
theorem back_of {α β:Type} {er:α→β} {v:α} {P:Ts→R α} {ps:List Pc} (h:Rd er v [] (P (tsP ps))) (hv:VF ps []):Back er v (readTop 65536 16384 P (bsP ps)):=by
 unfold readTop
 split
 ·exact .inr ⟨_,_,.inl rfl,rfl⟩
 ·obtain ⟨h1,h2⟩:=all_pieces ps ((bsP ps).length+1) 16384 0 hv (by omega)
  by_cases hm:((tsP ps).length:Int)≤16384
  ·obtain ⟨l,p,e1,e2⟩:=h1 hm
   have e1:allF (bsP ps) 16384=(l,(p,0)):=e1
   rw [show ((16384:Nat):Int)=16384 from rfl,e1]
   simp only [ne_eq,not_true_eq_false,if_false]
   rw [e2]
   rcases h with ⟨v',e,h⟩ | ⟨r,h | h⟩
   ·rw [h];exact .inl ⟨v',l,e,rfl⟩
   ·rw [h];exact .inr ⟨_,_,.inl rfl,rfl⟩
   ·rw [h];exact .inr ⟨_,_,.inr rfl,rfl⟩
  ·obtain ⟨l,p,e1⟩:=h2 (by omega) (by decide)
   have e1:allF (bsP ps) 16384=(l,(p,3)):=e1
   rw [show ((16384:Nat):Int)=16384 from rfl,e1]
   simp only [ne_eq,show ¬(3:Nat)=0 by decide,not_false_eq_true,if_true]
   exact .inr ⟨_,_,.inl rfl,rfl⟩
theorem expr_back {e:Ex} (h:mayE e=true) (hr:rngE e=true):Back erE e (readTop 65536 16384 (exprD 64) (exT e)):=by
 rw [← exP_bs]
 refine back_of ?_ (exP_ok h hr (.inl rfl))
 rw [exP_ts]
 have:=ex_full h 64 nx_nil
 rwa [List.append_nil] at this
end Go.PM.Lex
end

section
set_option maxRecDepth 100000
namespace Go.PM.Lex
theorem opE_er (e:Ex):opE (erE e)=opE e:=by cases e;rfl
theorem erEs_len (l:List Ex):(erEs l).length=l.length:=by rw [erEs_eq,List.length_map]
theorem erLs_len (l:List Li):(erLs l).length=l.length:=by rw [erLs_eq,List.length_map]
mutual
theorem exT_er:∀e:Ex,exT (erE e)=exT e
 | .mk op t n l a=>by rw [erE,exT,exT,exPs_er l]
theorem exPs_er:∀l:List Ex,exPs (erEs l)=exPs l
 | []=>by rw [erEs]
 | x::l=>by rw [erEs,exPs,exPs,exT_er x,exPs_er l,opE_er]
end
mutual
theorem mayE_er:∀e:Ex,mayE (erE e)=mayE e
 | .mk op t n l a=>by rw [erE,mayE,mayE,mayEs_er l,erEs_len]
theorem mayEs_er:∀l:List Ex,mayEs (erEs l)=mayEs l
 | []=>by rw [erEs]
 | x::l=>by rw [erEs,mayEs,mayEs,mayE_er x,mayEs_er l]
end
mutual
theorem rngE_er:∀e:Ex,rngE (erE e)=rngE e
 | .mk op t n l a=>by rw [erE,rngE,rngE,rngEs_er l]
theorem rngEs_er:∀l:List Ex,rngEs (erEs l)=rngEs l
 | []=>by rw [erEs]
 | x::l=>by rw [erEs,rngEs,rngEs,rngE_er x,rngEs_er l]
end
mutual
theorem wE_er:∀e:Ex,wE (erE e)=wE e
 | .mk op t n l a=>by rw [erE,wE,wE,wEs_er l]
theorem wEs_er:∀l:List Ex,wEs (erEs l)=wEs l
 | []=>by rw [erEs]
 | x::l=>by rw [erEs,wEs,wEs,wE_er x,wEs_er l]
end
theorem map_er {α β:Type} {er:α→α} {f:α→β} (h:∀x,f (er x)=f x) (l:List α):(l.map er).map f=l.map f:=by rw [List.map_map];exact List.map_congr_left fun x _=>h x
theorem all_er {α:Type} {er:α→α} {p:α→Bool} (h:∀x,p (er x)=p x) (l:List α):(l.map er).all p=l.all p:=by rw [List.all_map];congr 1;funext x;exact h x
theorem szS_er {α:Type} {er:α→α} {w:α→Nat} (h:∀x,w (er x)=w x) (l:List α):szS w (l.map er)=szS w l:=by induction l with | nil=>rfl | cons x l ih=>simp only [List.map_cons,szS,h,ih]
theorem fstT_er (l:List Ex):fstT (erEs l)=fstT l:=by cases l with | nil=>rfl | cons x l=>exact exT_er x
theorem tl_er (l:List Ex):(erEs l).tail=erEs l.tail:=by cases l with | nil=>rfl | cons x l=>rfl
theorem exTs_er (l:List Ex):exTs (erEs l)=exTs l:=by rw [erEs_eq];exact map_er exT_er l
theorem aggT_er (l:List Ex):aggT (erEs l)=aggT l:=by
 unfold aggT;rw [erEs_eq,map_er (f:=fun e=>[32]++exT e) fun x=>by rw [exT_er]]
theorem argT_er (fr fin:Bs) (l:List Ex):argT fr fin (erEs l)=argT fr fin l:=by unfold argT;rw [exTs_er]
mutual
theorem liT_er:∀x:Li,liT (erL x)=liT x
 | .mk op rel args body a=>by rw [erL,liT,liT,liTs_er body];simp only [fstT_er,tl_er,aggT_er,argT_er]
theorem liTs_er:∀l:List Li,liTs (erLs l)=liTs l
 | []=>by rw [erLs]
 | x::l=>by rw [erLs,liTs,liTs,liT_er x,liTs_er l]
end
mutual
theorem mayL_er:∀x:Li,mayL (erL x)=mayL x
 | .mk op rel args body a=>by rw [erL,mayL,mayL,mayLs_er body,mayEs_er,erEs_len,erLs_len]
theorem mayLs_er:∀l:List Li,mayLs (erLs l)=mayLs l
 | []=>by rw [erLs]
 | x::l=>by rw [erLs,mayLs,mayLs,mayL_er x,mayLs_er l]
end
mutual
theorem rngL_er:∀x:Li,rngL (erL x)=rngL x
 | .mk op rel args body a=>by rw [erL,rngL,rngL,rngLs_er body,rngEs_er]
theorem rngLs_er:∀l:List Li,rngLs (erLs l)=rngLs l
 | []=>by rw [erLs]
 | x::l=>by rw [erLs,rngLs,rngLs,rngL_er x,rngLs_er l]
end
mutual
theorem wL_er:∀x:Li,wL (erL x)=wL x
 | .mk op rel args body a=>by rw [erL,wL,wL,wLs_er body,erEs_eq,szS_er wE_er]
theorem wLs_er:∀l:List Li,wLs (erLs l)=wLs l
 | []=>by rw [erLs]
 | x::l=>by rw [erLs,wLs,wLs,wL_er x,wLs_er l]
end
theorem ruT_er (r:Ru):ruT (erRu r)=ruT r:=by
 unfold ruT erRu
 simp only [List.length_map]
 rw [← erEs_eq,argT_er,← erLs_eq,liTs_er]
theorem mayRu_er (r:Ru):mayRu (erRu r)=mayRu r:=by
 unfold mayRu erRu
 simp only [all_er mayE_er,all_er mayL_er]
theorem rngRu_er (r:Ru):rngRu (erRu r)=rngRu r:=by
 unfold rngRu erRu
 simp only [all_er rngE_er,all_er rngL_er]
theorem wRu_er (r:Ru):wRu (erRu r)=wRu r:=by
 unfold wRu erRu
 simp only [szS_er wE_er,szS_er wL_er]
mutual
theorem unT_er:∀u:Un,unT (erUn u)=unT u
 | .mk a b c d e f=>by
  rw [erUn,unT,unT,coTs_er d,map_er (er:=erTy) (f:=tyT) fun x=>rfl,map_er (er:=erRe) (f:=reT) fun x=>rfl,map_er (er:=erIn) (f:=inT) fun x=>rfl,map_er (er:=erOv) (f:=ovT) fun x=>rfl,map_er (f:=fun r=>ruT r++[10]) fun x=>by rw [ruT_er]]
theorem coT_er:∀c:Co,coT (erCo c)=coT c
 | .mk nm ps base tys u a=>by rw [erCo,coT,coT,unT_er u]
theorem coTs_er:∀l:List Co,coTs (erCos l)=coTs l
 | []=>by rw [erCos]
 | x::l=>by rw [erCos,coTs,coTs,coT_er x,coTs_er l]
end
mutual
theorem mayU_er:∀u:Un,mayU (erUn u)=mayU u
 | .mk a b c d e f=>by
  rw [erUn,mayU,mayU,mayCos_er d,all_er (er:=erTy) (p:=mayTy) fun x=>rfl,all_er (er:=erRe) (p:=mayRe) fun x=>rfl,all_er (er:=erIn) (p:=mayIn) fun x=>rfl,all_er (er:=erOv) (p:=mayOv) fun x=>rfl,all_er mayRu_er]
theorem mayCo_er:∀c:Co,mayCo (erCo c)=mayCo c
 | .mk nm ps base tys u a=>by rw [erCo,mayCo,mayCo,mayU_er u]
theorem mayCos_er:∀l:List Co,mayCos (erCos l)=mayCos l
 | []=>by rw [erCos]
 | x::l=>by rw [erCos,mayCos,mayCos,mayCo_er x,mayCos_er l]
end
mutual
theorem rngU_er:∀u:Un,rngU (erUn u)=rngU u
 | .mk a b c d e f=>by rw [erUn,rngU,rngU,rngCos_er d,all_er rngRu_er]
theorem rngCo_er:∀c:Co,rngCo (erCo c)=rngCo c
 | .mk nm ps base tys u a=>by rw [erCo,rngCo,rngCo,rngU_er u]
theorem rngCos_er:∀l:List Co,rngCos (erCos l)=rngCos l
 | []=>by rw [erCos]
 | x::l=>by rw [erCos,rngCos,rngCos,rngCo_er x,rngCos_er l]
end
mutual
theorem wUn_er:∀u:Un,wUn (erUn u)=wUn u
 | .mk a b c d e f=>by
  rw [erUn,wUn,wUn,wCos_er d,szS_er (er:=erTy) (w:=wTy) fun x=>rfl,szS_er (er:=erRe) (w:=wRe) fun x=>rfl,szS_er (er:=erIn) (w:=wIn) fun x=>rfl,szS_er (er:=erOv) (w:=wOv) fun x=>rfl,szS_er wRu_er]
theorem wCo_er:∀c:Co,wCo (erCo c)=wCo c
 | .mk nm ps base tys u a=>by rw [erCo,wCo,wCo,wUn_er u]
theorem wCos_er:∀l:List Co,wCos (erCos l)=wCos l
 | []=>by rw [erCos]
 | x::l=>by rw [erCos,wCos,wCos,wCo_er x,wCos_er l]
end
theorem exT_of {u v:Ex} (h:erE v=erE u):exT v=exT u:=by rw [← exT_er v,h,exT_er]
theorem quoGo_len:∀(f:Nat) (r out q:Bs),quoGo f r out=some q→q.length≤out.length+4 * r.length
 | 0,r,out,q,h=>by simp [quoGo] at h
 | f+1,r,out,q,h=>by
  unfold quoGo at h
  split at h
  ·cases h;omega
  ·rename_i hr
   have hd:=Lib.decodeL_le r hr
   have hg:=dec_rng r
   split at h
   ·have:=quoGo_len f _ _ _ h
    simp only [List.length_append,List.length_cons,List.length_nil,List.length_drop] at this;omega
   ·split at h
    ·cases h
    ·have:=quoGo_len f _ _ _ h
     have h4:=enc4 (Lib.decodeL r).1
     simp only [List.length_append,List.length_drop] at this;omega
theorem quoT_len (s:Bs):(quoT s).length≤4 * s.length+2:=by
 unfold quoT quoteF
 split
 ·cases hq:quoGo (s.length+1) s [34] with
  | none=>simp
  | some q =>
   have:=quoGo_len _ _ _ _ hq
   simp only [Option.map_some,Option.getD_some,List.length_append,List.length_cons,List.length_nil] at this ⊢;omega
 ·simp
theorem numT_len {n:Int} (h0:-9223372036854775808≤n) (h1:n<9223372036854775808):(numT n).length≤20:=by
 unfold numT
 split
 ·have h:=(numGo_spec (base:=16) (.inr rfl) ((n+18446744073709551616).toNat+1) (n+18446744073709551616).toNat (by omega)).2.2.2 15 (by
   have:(16:Nat) ^ (15+1)=18446744073709551616:=by decide
   omega)
  simp only [List.length_append,List.length_cons,List.length_nil,baseT];omega
 ·have h:=(numGo_spec (base:=10) (.inl rfl) (n.toNat+1) n.toNat (by omega)).2.2.2 18 (by
   have:(10:Nat) ^ (18+1)=10000000000000000000:=by decide
   omega)
  rw [baseT];omega
theorem word_len (op:Nat):(wordF op).length≤6:=by
 by_cases h:op<26
 ·have hk:∀o:Fin 26,(wordF o.val).length≤6:=by decide
  exact hk ⟨op,h⟩
 ·unfold wordF
  (repeat rw [if_neg (by omega)])
  decide
def sumP (l:List (Nat×Bs)):Nat:=(l.map fun p=>p.2.length+4).sum
theorem commas_sum (l:List Bs):(commas cmm l).length≤(l.map fun s=>s.length+4).sum:=by
 match l with
 | []=>exact Nat.zero_le _
 | [x]=>simp [commas]
 | x::y::l =>
  have ih:=commas_sum (y::l)
  rw [commas]
  ·simp only [List.length_append,List.map_cons,List.sum_cons] at ih ⊢
   have:cmm.length=2:=rfl
   omega
  ·intro h;cases h
theorem parP_len (w:Nat) (p:Nat×Bs):(parP w p).length≤p.2.length+2:=by
 unfold parP;split
 ·simp only [List.length_append,List.length_cons,List.length_nil];omega
 ·omega
theorem exA_len (w1 w2:Nat) (sep:Bs) (l:List (Nat×Bs)):(exA w1 w2 sep l).length≤sumP l+sep.length:=by
 match l with
 | []=>simp [exA]
 | [a]=>have:=parP_len w1 a;simp only [exA,sumP,List.map_cons,List.map_nil,List.sum_cons,List.sum_nil];omega
 | a::b::l =>
  have h1:=parP_len w1 a
  have h2:=parP_len w2 b
  simp only [exA,sumP,List.map_cons,List.sum_cons,List.length_append];omega
theorem exN_len (op:Nat) (t:Bs) (n:Int) (l:List (Nat×Bs)) (h0:-9223372036854775808≤n) (h1:n<9223372036854775808):(exN op t n l).length≤sumP l+5 * t.length+30:=by
 have hw:=word_len op
 have hn:=numT_len h0 h1
 have hq:=quoT_len t
 have hc:(commas cmm (l.map Prod.snd)).length≤sumP l:=by
  have:=commas_sum (l.map Prod.snd)
  rw [List.map_map] at this
  exact this
 unfold exN
 split
 ·have:=exA_len (lineF op) (lineF op+1) ([32]++(wordF op++[32])) l
  simp only [List.length_append,List.length_cons,List.length_nil] at this;omega
 split
 ·have:=exA_len 5 5 [] l
  simp only [List.length_append,List.length_nil] at this ⊢;omega
 split
 ·simp only [List.length_append,List.length_cons,List.length_nil];omega
 split
 ·simp only [List.length_append,List.length_cons,List.length_nil];omega
 split
 ·simp only [List.length_append,List.length_cons,List.length_nil]
  split
  ·simp only [List.length_nil];omega
  ·simp only [List.length_append,List.length_cons,List.length_nil];omega
 split
 ·omega
 split
 ·omega
 split
 ·simp only [List.length_cons,List.length_nil];omega
 split
 ·simp only [List.length_cons,List.length_nil];omega
 ·omega
mutual
theorem exT_len:∀e:Ex,rngE e=true→(exT e).length+4≤64 * wE e
 | .mk op t n l a,h=>by
  obtain ⟨r1,r2⟩:=rngE_mk h
  have ih:=exPs_len64 l (by rw [rngEs_eq];exact List.all_eq_true.2 r2)
  have:=exN_len op t n (exPs l) r1.1 r1.2
  rw [exT,wE];omega
theorem exPs_len64:∀l:List Ex,rngEs l=true→sumP (exPs l)≤64 * wEs l
 | [],h=>by rw [exPs];simp [sumP]
 | x::l,h=>by
  rw [rngEs,Bool.and_eq_true] at h
  have h1:=exT_len x h.1
  have h2:=exPs_len64 l h.2
  rw [exPs,wEs]
  unfold sumP at h2 ⊢
  simp only [List.map_cons,List.sum_cons];omega
end
theorem sum_le {α:Type} {T:α→Bs} {w:α→Nat}:∀l:List α,(∀x∈l,(T x).length+4≤64 * w x)→(l.map fun x=>(T x).length+4).sum≤64 * szS w l
 | [],h=>Nat.zero_le _
 | x::l,h=>by
  have h1:=h x (by simp)
  have h2:=sum_le l fun y hy=>h y (List.mem_cons_of_mem _ hy)
  simp only [List.map_cons,List.sum_cons,szS];omega
theorem commas_le64 {α:Type} {T:α→Bs} {w:α→Nat} {l:List α} (h:∀x∈l,(T x).length+4≤64 * w x):(commas cmm (l.map T)).length≤64 * szS w l:=by
 have h1:=commas_sum (l.map T)
 rw [List.map_map] at h1
 exact Nat.le_trans h1 (sum_le l h)
theorem flat_le64 {α:Type} {T:α→Bs} {w:α→Nat}:∀{l:List α},(∀x∈l,(T x).length+4≤64 * w x)→((l.map T).flatten).length≤64 * szS w l
 | [],h=>Nat.zero_le _
 | x::l,h=>by
  have h1:=h x (by simp)
  have h2:=flat_le64 (l:=l) fun y hy=>h y (List.mem_cons_of_mem _ hy)
  simp only [List.map_cons,List.flatten_cons,List.length_append,szS];omega
theorem fst_agg_len:∀{l:List Ex},(∀x∈l,rngE x=true)→(fstT l).length+(aggT l.tail).length≤64 * szS wE l∧(fstT l).length+(fstT l.tail).length≤64 * szS wE l
 | [],h=>by simp [fstT,aggT]
 | x::l,h=>by
  have h1:=exT_len x (h x (by simp))
  have h2:=flat_le64 (T:=fun e=>[32]++exT e) (w:=fun e=>wE e) (l:=l) fun y hy=>by
   have:=exT_len y (h y (List.mem_cons_of_mem _ hy))
   cases y with
   | mk o t n a b =>
    have hw:1≤wE (.mk o t n a b):=by rw [wE];omega
    have h3:=exN_len o t n (exPs a) (rngE_mk (h _ (List.mem_cons_of_mem _ hy))).1.1 (rngE_mk (h _ (List.mem_cons_of_mem _ hy))).1.2
    have h4:=exPs_len64 a (by rw [rngEs_eq];exact List.all_eq_true.2 (rngE_mk (h _ (List.mem_cons_of_mem _ hy))).2)
    simp only [List.length_append,List.length_cons,List.length_nil]
    rw [exT,wE];omega
  refine ⟨?_,?_⟩
  ·show (exT x).length+(aggT l).length≤64 * szS wE (x::l)
   rw [szS];unfold aggT
   have:szS (fun e=>wE e) l=szS wE l:=rfl
   omega
  ·show (exT x).length+(fstT l).length≤64 * szS wE (x::l)
   cases l with
   | nil=>rw [szS,szS];simp [fstT];omega
   | cons y l =>
    have h5:=exT_len y (h y (by simp))
    rw [szS,szS];simp only [fstT];omega
theorem rel_len (op:Nat):(relSg op).length≤4:=by unfold relSg;(repeat' split) <;> decide
theorem agg_len (op:Nat):(aggSg op).length≤5:=by unfold aggSg;(repeat' split) <;> decide
theorem arg_len64 {fr fin:Bs} {l:List Ex} (h:∀x∈l,rngE x=true):(argT fr fin l).length≤fr.length+64 * szS wE l+fin.length:=by
 have:=commas_le64 (T:=exT) (w:=wE) fun x hx=>exT_len x (h x hx)
 unfold argT exTs
 simp only [List.length_append];omega
mutual
theorem liT_len:∀x:Li,rngL x=true→(liT x).length+4≤64 * wL x
 | .mk op rel args body a,h=>by
  obtain ⟨r1,r2⟩:=rngL_mk h
  have h1:=liTs_len body (by rw [rngLs_eq];exact List.all_eq_true.2 r2)
  have h2:=arg_len64 (fr:=[40]) (fin:=[41]) r1
  obtain ⟨h3,h4⟩:=fst_agg_len r1
  have h5:=rel_len op
  have h6:=agg_len op
  have h7:=commas_sum (liTs body)
  rw [liT,wL]
  simp only [List.length_cons,List.length_nil] at h2
  split
  ·simp only [List.length_append,List.length_cons,List.length_nil];omega
  split
  ·simp only [List.length_append];omega
  split
  ·simp only [List.length_append];omega
  ·simp only [List.length_append,List.length_cons,List.length_nil];omega
theorem liTs_len:∀l:List Li,rngLs l=true→((liTs l).map fun s=>s.length+4).sum≤64 * wLs l
 | [],h=>by rw [liTs];simp
 | x::l,h=>by
  rw [rngLs,Bool.and_eq_true] at h
  have h1:=liT_len x h.1
  have h2:=liTs_len l h.2
  rw [liTs,wLs]
  simp only [List.map_cons,List.sum_cons];omega
end
theorem ruT_len {r:Ru} (h:rngRu r=true):(ruT r).length+10≤64 * wRu r:=by
 simp only [rngRu,Bool.and_eq_true] at h
 have r1:=List.all_eq_true.1 h.1
 have r2:=List.all_eq_true.1 h.2
 have h1:=arg_len64 (fr:=[40]) (fin:=[41]) r1
 have h2:=liTs_len r.body (by rw [rngLs_eq];exact h.2)
 have h3:=commas_sum (liTs r.body)
 rw [wLs_eq] at h2
 unfold ruT wRu
 simp only [List.length_cons,List.length_nil] at h1
 split
 ·simp only [List.length_append,List.length_cons,List.length_nil];omega
 ·simp only [List.length_append,List.length_cons,List.length_nil];omega
theorem fiT_len (f:Fi):(fiT f).length+4≤64 * wFi f:=by
 unfold fiT wFi;simp only [List.length_append,List.length_cons,List.length_nil];omega
theorem fis_len (fr fin:Bs) (l:List Fi):(fisT fr l fin).length≤fr.length+64 * szS wFi l+fin.length:=by
 have:=commas_le64 (T:=fiT) (w:=wFi) (l:=l) fun x _=>fiT_len x
 unfold fisT
 simp only [List.length_append];omega
theorem caT_len (c:Ca):(caT c).length+4≤64 * wCa c:=by
 have:=fis_len (c.name++[32,123]) [125] c.fields
 unfold caT wCa
 simp only [List.length_append,List.length_cons,List.length_nil] at this ⊢;omega
theorem commas_bar (l:List Bs):(commas [32,124,32] l).length≤(l.map fun s=>s.length+4).sum:=by
 match l with
 | []=>exact Nat.zero_le _
 | [x]=>simp [commas]
 | x::y::l =>
  have ih:=commas_bar (y::l)
  rw [commas]
  ·simp only [List.length_append,List.map_cons,List.sum_cons,List.length_cons,List.length_nil] at ih ⊢
   omega
  ·intro h;cases h
theorem tyT_len (t:Ty):(tyT t).length+4≤64 * wTy t:=by
 have h1:=fis_len [32,61,32,91] [93] t.fields
 have h2:=commas_bar (t.cases.map caT)
 rw [List.map_map] at h2
 have h3:=sum_le (T:=caT) (w:=wCa) t.cases fun x _=>caT_len x
 have h4:(t.cases.map fun x=>(caT x).length+4).sum=(t.cases.map ((fun s:Bs=>s.length+4)∘caT)).sum:=rfl
 rw [h4] at h3
 unfold tyT wTy
 simp only [List.length_cons,List.length_nil] at h1
 simp only [List.length_append,List.length_cons,List.length_nil]
 split
 ·simp only [List.length_append,List.length_cons,List.length_nil];omega
 split
 ·omega
 ·simp only [List.length_append,List.length_cons,List.length_nil];omega
theorem reT_len (d:Re):(reT d).length+4≤64 * wRe d:=by
 have h1:=fis_len ([100,101,99,108,32]++(d.name++[40])) [41] d.fields
 have hi:∀(b:Bool) (s:Bs),(if b then s else []).length≤s.length:=fun b s=>by cases b <;> simp
 have i1:=hi d.inn [32,105,110,112,117,116]
 have i2:=hi d.out [32,111,117,116,112,117,116]
 have i3:=hi d.inl [32,105,110,108,105,110,101]
 unfold reT wRe
 simp only [List.length_append,List.length_cons,List.length_nil] at h1 i1 i2 i3 ⊢;omega
theorem ang_len (l:List Bs):(angT l).length≤2+64 * szS wBs l:=by
 have h1:=commas_le64 (T:=fun s:Bs=>s) (w:=wBs) (l:=l) fun x _=>by unfold wBs;omega
 rw [List.map_id'] at h1
 unfold angT
 split
 ·simp
 ·simp only [List.length_append,List.length_cons,List.length_nil];omega
theorem inT_len (i:Ini):(inT i).length+4≤64 * wIn i:=by
 have:=ang_len i.types
 unfold inT wIn
 simp only [List.length_append,List.length_cons,List.length_nil];omega
theorem ovT_len (o:Ov):(ovT o).length+4≤64 * wOv o:=by
 unfold ovT wOv
 simp only [List.length_append,List.length_cons,List.length_nil];omega
mutual
theorem unT_len:∀u:Un,rngU u=true→(unT u).length+4≤64 * wUn u
 | .mk a b c d e f,h=>by
  simp only [rngU,Bool.and_eq_true] at h
  have r1:=List.all_eq_true.1 h.1
  have h1:=flat_le64 (T:=tyT) (w:=wTy) (l:=a) fun x _=>tyT_len x
  have h2:=flat_le64 (T:=reT) (w:=wRe) (l:=b) fun x _=>reT_len x
  have h3:=flat_le64 (T:=fun r=>ruT r++[10]) (w:=wRu) (l:=c) fun x hx=>by
   have:=ruT_len (r1 x hx)
   simp only [List.length_append,List.length_cons,List.length_nil];omega
  have h4:=coTs_len d h.2
  have h5:=flat_le64 (T:=inT) (w:=wIn) (l:=e) fun x _=>inT_len x
  have h6:=flat_le64 (T:=ovT) (w:=wOv) (l:=f) fun x _=>ovT_len x
  rw [unT,wUn]
  simp only [List.length_append];omega
theorem coT_len:∀c:Co,rngCo c=true→(coT c).length+4≤64 * wCo c+64
 | .mk nm ps base tys u a,h=>by
  rw [rngCo] at h
  have h1:=unT_len u h
  have h2:=ang_len ps
  have h3:=ang_len tys
  rw [coT,wCo]
  split
  ·simp only [List.length_append,List.length_cons,List.length_nil];omega
  ·simp only [List.length_append,List.length_cons,List.length_nil];omega
theorem coTs_len:∀l:List Co,rngCos l=true→((coTs l).flatten).length≤64 * wCos l
 | [],h=>by rw [coTs];simp
 | x::l,h=>by
  rw [rngCos,Bool.and_eq_true] at h
  have h1:=coT_len x h.1
  have h2:=coTs_len l h.2
  rw [coTs,wCos]
  simp only [List.flatten_cons,List.length_append];omega
end
end Go.PM.Lex
end

section
set_option maxRecDepth 100000
namespace Go.PM.Lex
def kl (e:Ex):Nat:=(exK e).length
theorem exWK_len (w:Nat) (e:Ex):(exWK w e).length=kl e+if lineF (opE e)<w then 2 else 0:=by
 unfold exWK parK kl
 dsimp only
 split <;> simp
theorem exWK_le {w v:Nat} (h:w≤v) (e:Ex):(exWK w e).length≤(exWK v e).length:=by
 rw [exWK_len,exWK_len]
 split <;> split <;> omega
def ckl (l:List Ex):Nat:=(commasK [44] (l.map exK)).length
theorem tails_kl:∀l:List Ex,(tailsK [44] (l.map exK)).length=szS kl l
 | []=>rfl
 | x::l=>by
  rw [List.map_cons,tailsK,szS,← tails_kl l]
  simp only [List.length_cons,List.length_append,kl];omega
theorem ckl_nil:ckl []=0:=rfl
theorem ckl_cons (x:Ex) (l:List Ex):ckl (x::l)=kl x+szS kl l:=by
 unfold ckl
 rw [List.map_cons,commasK,List.length_append,tails_kl];rfl
theorem ckl_snoc (l:List Ex) (x:Ex):ckl (l++[x])=ckl l+kl x+if l=[] then 0 else 1:=by
 cases l with
 | nil=>rw [List.nil_append,ckl_cons,ckl_nil];simp [szS]
 | cons y l=>rw [List.cons_append,ckl_cons,ckl_cons,szS_snoc,if_neg (by simp)];omega
abbrev Mn (w:Nat) (P:Ts→R Ex):Prop:=∀ts v r,P ts=.ok v r→(exWK w v).length+r.length≤ts.length
theorem Mn.mono {w v:Nat} (h:w≤v) {P:Ts→R Ex} (hp:Mn v P):Mn w P:=fun ts x r e=>Nat.le_trans (Nat.add_le_add_right (exWK_le h x) _) (hp ts x r e)
theorem within_two {α:Type} {d:Nat} {fr tw:Bs} {read:Ts→R α} {ts ts':Ts} {v:α} (hto:tw≠[]) (h:withinF d fr tw read ts=.ok v ts'):∃t1,read ts.tail=.ok v t1∧ts.tail.length+1=ts.length∧ts'.length+1=t1.length:=by
 unfold withinF at h
 split at h
 ·rename_i hc
  split at h
  ·cases h
  ·obtain ⟨a,t1,h1,h2⟩:=R.bind_of h
   obtain ⟨u,t2,h3,h4⟩:=R.bind_of h2
   cases h4
   exact ⟨_,h1,tl_len hc,must_fit h3⟩
 ·cases h
theorem manyGo_min {sign:Bs} {most:Nat} {st:Ts→Bool} {one:Ts→R Ex} (h1:Mn 0 one):∀f l ts v ts',manyGo sign most st one f l ts=.ok v ts'→ckl v+ts'.length≤ckl l+ts.length+if l=[] then 0 else 1
 | 0,_,_,_,_,h=>by cases h
 | f+1,l,ts,v,ts',h=>by
  rw [manyGo] at h
  split at h
  ·cases h
  ·obtain ⟨x,t1,h2,h3⟩:=R.bind_of h
   have k:=h1 _ _ _ h2
   rw [exWK_len,if_neg (by omega)] at k
   split at h3
   ·rename_i hc
    have k2:=manyGo_min h1 f _ _ _ _ h3
    have k3:=tl_len hc
    rw [ckl_snoc,if_neg (show ¬l++[x]=[] by simp)] at k2
    omega
   ·cases h3
    rw [ckl_snoc]
    omega
theorem many_min {sign:Bs} {most:Nat} {st:Ts→Bool} {one:Ts→R Ex} (h1:Mn 0 one) {ts ts':Ts} {v:List Ex} (h:manyF sign most st one ts=.ok v ts'):ckl v+ts'.length≤ts.length:=by
 have:=manyGo_min h1 _ _ _ _ _ h
 rw [if_pos rfl,ckl_nil] at this;omega
theorem args_min {d:Nat} {ex:Ts→R Ex} (h:Mn 0 ex) {fr tw:Bs} (hto:tw≠[]) {ts ts':Ts} {v:List Ex} (e:argsF d ex fr tw ts=.ok v ts'):ckl v+2+ts'.length≤ts.length:=by
 unfold argsF at e
 obtain ⟨t1,h1,h2,h3⟩:=within_two hto e
 split at h1
 ·cases h1;rw [ckl_nil];omega
 ·have:=many_min h h1
  omega
theorem callGo_min {ex:Ts→R Ex} (h:Mn 0 ex):∀k l ts v ts',callGo ex k l ts=.ok v ts'→ckl v+ts'.length≤ckl l+ts.length
 | 0,l,ts,v,ts',e=>by cases e;exact Nat.le_refl _
 | k+1,l,ts,v,ts',e=>by
  obtain ⟨_,t1,h1,e⟩:=R.bind_of e
  obtain ⟨x,t2,h2,e⟩:=R.bind_of e
  have k2:=callGo_min h k _ _ _ _ e
  have k1:=h _ _ _ h2
  rw [exWK_len,if_neg (by omega)] at k1
  rw [ckl_snoc] at k2
  by_cases c:l=[]
  ·rw [if_pos c] at h1 k2
   cases h1;omega
  ·rw [if_neg c] at h1 k2
   have:=must_fit h1;omega
theorem brK_len (fr fin:Bs) (l:List Ex):(brK fr fin (l.map exK)).length=ckl l+2:=by
 unfold brK ckl;simp
theorem opE_mk (op:Nat) (t:Bs) (n:Int) (l:List Ex) (a:Nat):opE (.mk op t n l a)=op:=rfl
theorem primary_min {d:Nat} {ex:Ts→R Ex} (h:Mn 0 ex):Mn 6 (primaryF d ex):=fun ts v ts' e=>by
 unfold primaryF at e
 split at e
 ·cases e
 rename_i hs
 have hl:=starts_len hs
 have h6:∀(op:Nat) (t:Bs) (n:Int) (l:List Ex) (a:Nat),lineF op=6→(exWK 6 (.mk op t n l a)).length=(exK (.mk op t n l a)).length:=fun op t n l a g=>by rw [exWK_len,opE_mk,g];rfl
 split at e
 ·cases e;rw [h6 _ _ _ _ _ (by decide),exK_3];simp only [List.length_singleton];omega
 split at e
 ·cases e;rw [h6 _ _ _ _ _ (by decide),exK_4];simp only [List.length_singleton];omega
 split at e
 ·obtain ⟨t1,h1,h2,h3⟩:=within_two (by decide) e
  have:=h _ _ _ h1
  rw [exWK_len] at this ⊢
  split <;> omega
 split at e
 ·obtain ⟨l,t1,h1,e⟩:=R.bind_of e
  cases e
  have:=args_min h (by decide) h1
  rw [h6 _ _ _ _ _ (by decide),exK_6,brK_len];omega
 split at e
 ·obtain ⟨l,t1,h1,e⟩:=R.bind_of e
  have:=name_fit h1
  split at e
  ·obtain ⟨l,t2,h2,e⟩:=R.bind_of e
   cases e
   have:=args_min h (by decide) h2
   rw [h6 _ _ _ _ _ (by decide),exK_7]
   simp only [List.length_cons]
   split
   ·simp only [List.length_nil];omega
   ·rw [brK_len];omega
  ·cases e
   rw [h6 _ _ _ _ _ (by decide),exK_7]
   simp only [List.length_cons,List.length_nil,if_true];omega
 split at e
 ·rename_i hf
  obtain ⟨l,t1,h1,e⟩:=R.bind_of e
  obtain ⟨t2,h2,h3,h4⟩:=within_two (by decide) h1
  cases e
  have:=callGo_min h _ _ _ _ _ h2
  have hw:lineF (functorF (hd ts).text)=6∧wordF (functorF (hd ts).text)≠[]:=by
   unfold functorF at hf ⊢
   (repeat' split) <;> first | decide +kernel | (exfalso;revert hf;simp [*])
  rw [h6 _ _ _ _ _ hw.1,exK_fun hw.1 hw.2]
  simp only [List.length_cons,brK_len,ckl_nil] at *;omega
 split at e
 ·cases e;rw [h6 _ _ _ _ _ (by decide),exK_5];simp only [List.length_singleton];omega
 split at e
 ·cases e;rw [h6 _ _ _ _ _ (by decide),exK_2];simp only [List.length_singleton];omega
 ·cases e;rw [h6 _ _ _ _ _ (by decide),exK_1];simp only [List.length_singleton];omega
theorem bin_line (ts:Ts):(binF ts).1=0∨(lineF (binF ts).2+1=(binF ts).1∧(binF ts).1≤5):=by
 unfold binF
 (repeat' split) <;> first | exact .inl rfl | exact .inr ⟨by decide,by decide⟩
abbrev Ml (least:Nat) (P:Ts→R Ex):Prop:=∀ts v r,P ts=.ok v r→(exWK (least - 1) v).length+r.length≤ts.length∧((binF r).1<least∨(binF r).1=0)
theorem lineGo_min {sub:Nat→Ts→R Ex} {least:Nat} (h0:1≤least) (N:Nat) (h:∀n,least<n→n≤6→Ml n (sub n)):∀f e ts v r,(∀w,(w+1≤least∨w+1≤(binF ts).1)→(exWK w e).length+ts.length≤N)→lineGo sub least f e ts=.ok v r →
  (exWK (least - 1) v).length+r.length≤N∧((binF r).1<least∨(binF r).1=0)
 | 0,_,_,_,_,_,k=>by cases k
 | f+1,e,ts,v,r,hI,k=>by
  rw [lineGo] at k
  split at k
  ·rename_i hc
   cases k
   exact ⟨hI _ (.inl (by omega)),hc⟩
  ·rename_i hc
   obtain ⟨g,t1,h1,k⟩:=R.bind_of k
   have hb:¬(binF ts).1=0:=fun e=>hc (.inr e)
   have hl:least≤(binF ts).1:=Nat.le_of_not_lt fun e=>hc (.inl e)
   have k3:=bin_len hb
   obtain ⟨b1,b2⟩:=(bin_line ts).resolve_left hb
   obtain ⟨k1,k4⟩:=h _ (by omega) (by omega) _ _ _ h1
   refine lineGo_min h0 N h f _ _ _ _ (fun w hw=>?_) k
   have hI':=hI (lineF (binF ts).2) (.inr (by omega))
   rw [exWK_len,opE_mk,if_neg (by omega),kl,exK_bin (by omega)]
   simp only [List.length_append,List.length_cons]
   rw [show (binF ts).1+1 - 1=lineF (binF ts).2+1 by omega] at k1
   omega
theorem lineK_min {sg:Ts→R Ex} (h:Mn 5 sg):∀k least,7≤k+least→1≤least→least≤6→Ml least (lineK sg k least)
 | 0,least=>fun a b c=>by omega
 | k+1,least=>fun a b c ts v r e=>by
  obtain ⟨x,t1,h1,e⟩:=R.bind_of e
  refine lineGo_min b ts.length (fun n g1 g2=>lineK_min h k n (by omega) (by omega) g2) _ _ _ _ _ (fun w hw=>?_) e
  have hw5:w≤5:=by
   rcases hw with hw | hw
   ·omega
   ·rcases bin_line t1 with g | ⟨_,g⟩ <;> omega
  have:=Mn.mono hw5 h _ _ _ h1
  exact this
theorem line_min {sg:Ts→R Ex} (h:Mn 5 sg):Mn 0 (lineK sg 6 1):=fun ts v r e=>(lineK_min h 6 1 (by omega) (by omega) (by omega) ts v r e).1
theorem signedF_min {d:Nat} {sg:Ts→R Ex} (h:Mn 5 sg):Mn 5 (signedF d sg):=fun ts v ts' e=>by
 have h5:∀(op:Nat) (t:Bs) (n:Int) (l:List Ex) (a:Nat),lineF op=5→(exWK 5 (.mk op t n l a)).length=(exK (.mk op t n l a)).length:=fun op t n l a g=>by rw [exWK_len,opE_mk,g];rfl
 unfold signedF at e
 split at e
 ·obtain ⟨l,t1,h1,e⟩:=R.bind_of e
  obtain ⟨t2,h2,h3,h4⟩:=within_fit h1
  cases e
  have:=h _ _ _ h2
  rw [h5 _ _ _ _ _ (by decide),exK_un (by decide)]
  simp only [List.length_cons];omega
 split at e
 ·obtain ⟨l,t1,h1,e⟩:=R.bind_of e
  obtain ⟨t2,h2,h3,h4⟩:=within_fit h1
  cases e
  have:=h _ _ _ h2
  rw [h5 _ _ _ _ _ (by decide),exK_un (by decide)]
  simp only [List.length_cons];omega
 ·exact Mn.mono (by omega) (primary_min (line_min h)) _ _ _ e
theorem signed_min:∀d,Mn 5 (signedD d)
 | 0=>signedF_min fun _ _ _ e=>by cases e
 | d+1=>signedF_min (signed_min d)
theorem expr_min (d:Nat) {ts r:Ts} {e:Ex} (h:exprD d ts=.ok e r):kl e+r.length≤ts.length:=by
 have:=line_min (signed_min d) ts e r h
 rw [exWK_len,if_neg (by omega)] at this
 omega
mutual
theorem exK_er:∀e:Ex,exK (erE e)=exK e
 | .mk op t n l a=>by rw [erE,exK,exK,exKs_er l]
theorem exKs_er:∀l:List Ex,exKs (erEs l)=exKs l
 | []=>by rw [erEs]
 | x::l=>by rw [erEs,exKs,exKs,exK_er x,exKs_er l,opE_er']
theorem opE_er':∀e:Ex,opE (erE e)=opE e
 | .mk op t n l a=>by rw [erE];rfl
end
theorem kl_of {u v:Ex} (h:erE v=erE u):kl v=kl u:=by unfold kl;rw [← exK_er v,h,exK_er]
mutual
theorem er_of_sameE:∀x y:Ex,sameE x y=true→erE x=erE y
 | .mk o1 t1 n1 l1 a1,.mk o2 t2 n2 l2 a2,h=>by
  simp only [sameE,Bool.and_eq_true,decide_eq_true_eq] at h
  obtain ⟨rfl,rfl,rfl,h⟩:=h
  rw [erE,erE,er_of_sameEs l1 l2 h]
theorem er_of_sameEs:∀l m:List Ex,sameEs l m=true→erEs l=erEs m
 | [],[],_=>rfl
 | x::l,y::m,h=>by
  simp only [sameEs,Bool.and_eq_true] at h
  rw [erEs,erEs,er_of_sameE x y h.1,er_of_sameEs l m h.2]
 | [],_::_,h=>by simp [sameEs] at h
 | _::_,[],h=>by simp [sameEs] at h
end
end Go.PM.Lex
end

section
set_option maxRecDepth 100000
set_option maxHeartbeats 8000000
namespace Go.PM.Lex
open Go.Proofs
variable {w0:World} {nG:Nat}
end Go.PM.Lex
end

section
set_option maxRecDepth 100000
set_option maxHeartbeats 16000000
namespace Go.PM.Lex
open Go.Proofs Go.RowKit
variable {w0:World} {nG:Nat}
end Go.PM.Lex
end

section
set_option maxRecDepth 100000
set_option maxHeartbeats 16000000
namespace Go.PM.Lex
open Go.Proofs
variable {w0:World} {nG:Nat}
end Go.PM.Lex
end

section
set_option maxRecDepth 100000
set_option maxHeartbeats 4000000
namespace Go.PM.Lex
open Go.Proofs
variable {w0:World} {nG:Nat}
end Go.PM.Lex
end

section
set_option maxRecDepth 100000
namespace Go
variable {H:Type} {enc:TypeId×Value→H}
end Go
namespace Go.PM.Lex
open Go.Proofs Go.Proofs.YtflgockgjnddnaaGreatDoor Go.ChangeShapes Go.WideShapes Go.ChangeAt Go.RowKit
theorem r_own:ownKnob Tryz.prog.godebug=none:=by kernel_rfl
theorem r_star : "*" ++ "errors.errorString" = "*errors.errorString" := by decide
theorem r_row124 (u : TypeId) (h : Tryz.prog.typeName? 3 u = some "*errors.errorString") : u = 352 :=
 typeName_ptr_named (nm := "errors.errorString") (by rw [r_star]; kernel_rfl) (by kernel_rfl) (by decide) u (by rw [r_star]; exact h)
theorem r_iface {W:World} {n:String} {text:List UInt8} {g:Nat} (hg:Tryz.prog.globalNamed n=some g) (ht:(Tryz.prog.globals[g]?).map (·.type)=some 206)
  (h : laidMet Tryz.prog [(n, .iface "*errors.errorString" (.ptr (.agg [.lit (.string text)])))] W) : ∃ ev, W.cell? ⟨g, 0, none⟩ = some ev ∧ (ev = .nilIface ∨ ∃ te pe, ev = .iface te pe) := by
 obtain ⟨a1,s1,hv1,_⟩:=laid_sentinel h hg ht Tryz.underlying206 r_row124 Tryz.underlying352 Tryz.underlying354 rfl rfl Tryz.underlying9 (by kernel_rfl) (by kernel_rfl)
 refine ⟨.iface 352 (.pointer (some a1)),?_,.inr ⟨_,_,rfl⟩⟩
 simpa using World.var?_cell hg hv1 0
theorem r_glob {W:World} (h:laidMetH Tryz.prog Rows.printUnlikeRow.laid W) (hsh:W.ShapedOpen Tryz.prog):GlobOK W 8:=by
 rw [MakeChecks.laidMetH_plain _ _ _ (by kernel_rfl)] at h
 have h1 := laidMet.filter (fun x => x.1 == "strconv.ErrSyntax") h
 have h2 := laidMet.filter (fun x => x.1 == "strconv.ErrRange") h
 exact ⟨by omega,Tryz.laysM143.s1_3 W hsh,r_iface (by kernel_rfl) (by kernel_rfl) h1,r_iface (by kernel_rfl) (by kernel_rfl) h2⟩
theorem r_kept {e e':Env} {W W':World} {σ':St} {may:MemPlace→Prop} (h:Later e ⟨[],[],0⟩ W e' σ' W'):W.keptBut W' may:=by
 refine ⟨h.os,h.output,fun i hi=>?_⟩
 have:=h.blocks i hi (fun j hj=>by simp at hj) (fun t ht=>by cases ht)
 rw [this]
 cases hh:W.heap[i]? with
 | none=>rfl
 | some o=>cases o <;> simp
def ePure:Env:=⟨fun _=>0,fun _=>none,fun _ _=>False⟩
theorem r_start {W:World} (h:8≤W.heap.size):SRel (GG W 8) ePure ⟨[],[],0⟩ W where
 inj:=fun i j hi=>by simp at hi
 box:=fun i x hx=>by simp at hx
 low:=fun i hi=>by simp at hi
 tkn:=fun t ht=>by cases ht
 own:=fun t ht=>by cases ht
 dis:=fun t t' ht=>by cases ht
 xlt:=fun b off hx=>hx.elim
 xown:=fun t ht=>by cases ht
 glob:=fun b hb=>rfl
 big:=h
end Go.PM.Lex
end

section
set_option maxRecDepth 100000
set_option maxHeartbeats 8000000
namespace Go.PM.Lex
open Go.Proofs Go.Proofs.YtflgockgjnddnaaGreatDoor
theorem r_first:Rows.laid_unicode_utf8_first=Lib.firstData:=by kernel_rfl
theorem r_accept:(Rows.laid_unicode_utf8_acceptRanges:DataW Unit)=Lib.acceptData:=by kernel_rfl
theorem r_tabs {W:World} (h:laidMetH Tryz.prog Rows.printUnlikeRow.laid W):Lib.Utf8Tabs 0 1 W:=by
 rw [MakeChecks.laidMetH_plain _ _ _ (by kernel_rfl)] at h
 have h1:=Lib.laidMet.reads (d:=Rows.laid_unicode_utf8_first) h (.tail _ (.tail _ (.tail _ (.tail _ (.tail _ (.tail _ (.head _)))))))
 have h2:=Lib.laidMet.reads (d:=Rows.laid_unicode_utf8_acceptRanges) h (.tail _ (.tail _ (.tail _ (.head _))))
 rw [r_first] at h1
 rw [r_accept] at h2
 exact utf8Tabs_of_readsT (U8Types.of196 Tryz.laysValid) ⟨by kernel_rfl,by kernel_rfl,by kernel_rfl,by kernel_rfl,by kernel_rfl,by kernel_rfl,by kernel_rfl⟩ h1 h2
variable {w0:World} {nG:Nat}
theorem cLexC (hb:1<nG) (hT:Lib.Utf8Tabs 0 1 w0):LexC w0 nG where
 name:=nm_ok ⟨⟨cPeek,spPeek_mono⟩,⟨letter_ok,spLetter_mono⟩,⟨cName,spName_mono⟩,trivial⟩
 quote:=quote_ok ⟨⟨valid_ok hb hT,spValid_mono⟩,⟨writeByte_ok,spWriteByte_mono⟩,⟨cIndexRune,spIndexRune_mono⟩,⟨writeRune_ok,spWriteRune_mono⟩,⟨string_ok,spString_mono⟩,trivial⟩
end Go.PM.Lex
end

section
set_option maxRecDepth 100000
set_option maxHeartbeats 4000000
namespace Go.PM.Lex
open Go.Proofs Go.Proofs.YtflgockgjnddnaaGreatDoor
def intsD:DataW Unit→List Int
 | .agg xs=>xs.map fun | .lit (.int _ z)=>z | _=>0
 | _=>[]
theorem r_pow10:(Rows.laid_internal_strconv_uint64pow10:DataW Unit)=Lib.tabData .u64 Lib.pow10Tab:=by kernel_rfl
theorem r_bru:(Rows.laid_math_bits_deBruijn64tab:DataW Unit)=Lib.tabData .u8 (intsD Rows.laid_math_bits_deBruijn64tab):=by kernel_rfl
theorem r_bru15:(intsD Rows.laid_math_bits_deBruijn64tab).getD 15 0=4:=by kernel_rfl
theorem r_bruL:(intsD Rows.laid_math_bits_deBruijn64tab).length=64:=by kernel_rfl
theorem r_num {W:World} (h:laidMetH Tryz.prog Rows.printUnlikeRow.laid W):NumOK W 8:=by
 rw [MakeChecks.laidMetH_plain _ _ _ (by kernel_rfl)] at h
 have h1 := laidMet.filter (fun x => x.1 == "internal/strconv.uint64pow10") h
 have h2 := laidMet.filter (fun x => x.1 == "math/bits.deBruijn64tab") h
 have k1 : laidMet Tryz.prog [("internal/strconv.uint64pow10", Lib.tabData .u64 Lib.pow10Tab)] W := by rw [← r_pow10]; exact h1
 have k2 : laidMet Tryz.prog [("math/bits.deBruijn64tab", Lib.tabData .u8 (intsD Rows.laid_math_bits_deBruijn64tab))] W := by rw [← r_bru]; exact h2
 refine ⟨by decide,Lib.tabIs_of_head (g:=3) (t:=304) (by kernel_rfl) (by kernel_rfl) Tryz.underlying304 (by kernel_rfl) (by kernel_rfl) (by kernel_rfl) k1,?_⟩
 have k3:=Lib.tabIs_of_head (g:=5) (t:=334) (by kernel_rfl) (by kernel_rfl) Tryz.underlying334 (by kernel_rfl) (by kernel_rfl) (by kernel_rfl) k2
 have k4:=k3.cell (g:=5) (by kernel_rfl) 15 (by rw [r_bruL];decide)
 rw [r_bru15] at k4
 exact k4
end Go.PM.Lex
end

section
namespace Go.PM.Lex
open Go.Proofs Go.Proofs.YtflgockgjnddnaaGreatDoor
theorem and_tt {a b:Bool} (h1:a=true) (h2:b=true):(a && b)=true:=by rw [h1,h2];rfl
theorem joined_of {P:Program} {f:FuncId} {fn:Func} {s:ChangeSpec} {c:OpenClaim}
  (p1:laidOutB P=true) (p2:mapsRowed P=true) (p3:(P.stops == [])=true) (p4:(P.stopKnobs == [])=true) (p5:(c.plainKeys == P.plainKeys)=true) (p6:P.stopsHeard=true) (p7:P.mayEnter=true) (p8:(c.lifted == P.liftsFinal)=true) (p9:(P.make == some c.make)=true)
  (k1:c.wf (OpenSpec.ofChange s)=true) (k2:fn.params.all (P.readableRec ·)=true) (k3:namedTie P c.named s.vars=true) (k4:(c.stops == [])=true) (k5:(c.knobs == [])=true)
  (k6:(c.inPlace == P.inPlace f)=true) (k7:(c.unfollowed == P.unfollowed f)=true) (k8:(c.recurses == P.recurses f)=true) (k9:(c.named == P.varsNamed f)=true)
  (k10:(c.maps == (fn.params.toList++s.plain.varTypes P).any (P.mapsRec ·))=true) (k11:(c.ifaces == (fn.params.toList++s.plain.varTypes P).any (P.ifacesRec ·))=true) (k12:(c.mapsOut == P.mapsAmong fn.resultTypes.toList)=true)
  (k13:(c.loops == (fn.params.toList++s.plain.varTypes P).any (P.loopsFrom ·))=true) (k14:(c.wideKeys == (fn.params.toList++s.plain.varTypes P++fn.resultTypes.toList).any (P.wideKeysFrom ·))=true)
  (k15:s.vars.all (P.varReadable ·)=true) (k16:fn.resultTypes.all (fun t=>P.readableRec t && decide (t<P.types.size))=true) (k17:(c.ifacesOut == fn.resultTypes.toList.any (P.ifacesRec ·))=true) (k18:(c.loopsOut == fn.resultTypes.toList.any (P.loopsFrom ·))=true)
  (k19:c.shortTexts.isNone=true) (k20:(c.kinds == (if c.domain.isEmpty then [] else fn.params.toList.map fun t=>match P.underlying t with | some (.int k)=>some k | _=>none))=true) (k21:(c.pinned == c.pinnedBy)=true)
  (k22:(c.veiled == (fn.params.toList++s.plain.varTypes P++fn.resultTypes.toList).any (P.veiledRec ·))=true) (k23:c.veiledFits P fn.params.toList (fn.params.toList++s.plain.varTypes P++fn.resultTypes.toList)=true):joinedFacts P f fn s c=true:=by
 unfold joinedFacts
 exact (and_tt (and_tt (and_tt (and_tt (and_tt (and_tt (and_tt (and_tt (and_tt (and_tt (and_tt (and_tt (and_tt (and_tt (and_tt (and_tt (and_tt (and_tt (and_tt (and_tt (and_tt (and_tt (and_tt (and_tt (and_tt (and_tt (and_tt (and_tt (and_tt (and_tt (and_tt k1 p1) p2) k2) k3) k4) p3) k5) p4) k6) k7) k8) k9) k10) k11) k12) k13) k14) k15) k16) k17) k18) p5) k19) p6) p7) p8) p9) k20) k21) k22) k23)
theorem jp1:laidOutB Tryz.checked.prog=true:=by kernel_rfl
theorem jp2:mapsRowed Tryz.checked.prog=true:=by kernel_rfl
theorem jp3:(Tryz.checked.prog.stops == [])=true:=by kernel_rfl
theorem jp4:(Tryz.checked.prog.stopKnobs == [])=true:=by kernel_rfl
theorem jp5:(Rows.printUnlikeRow.plainKeys == Tryz.checked.prog.plainKeys)=true:=by kernel_rfl
theorem jp6:Tryz.checked.prog.stopsHeard=true:=by kernel_rfl
theorem jp7:Tryz.checked.prog.mayEnter=true:=by kernel_rfl
theorem jp8:(Rows.printUnlikeRow.lifted == Tryz.checked.prog.liftsFinal)=true:=by kernel_rfl
theorem jp9:(Tryz.checked.prog.make == some Rows.printUnlikeRow.make)=true:=by kernel_rfl
theorem jp10:Tryz.checked.prog.mainIs=some (Rows.printUnlikeCard.stood.harness.1,Rows.printUnlikeCard.stood.harness.2.toList):=by kernel_rfl
theorem jp11:Rows.printUnlikeCard.stood.looks=Tryz.checked.prog.looks []:=by kernel_rfl
end Go.PM.Lex
end

section
set_option maxRecDepth 100000
set_option maxHeartbeats 1000000
namespace Go.PM
mutual
inductive PlainD (P:Program):TypeId→List D→Nat→Prop
 | int {t:TypeId} {k:IntKind} {n:Int} (h:P.underlying t=some (.int k)) (hw:(Lit.int k n).wf=true):PlainD P t [.int k n] 1
 | str {t:TypeId} {s:List UInt8} (h:P.underlying t=some .string):PlainD P t [.str s] (s.length+1)
 | bool {t:TypeId} {b:Bool} (h:P.underlying t=some .bool):PlainD P t [.bool b] 1
 | st {t:TypeId} {fs:Array Field} {ds:List D} {b:Nat} (h:P.underlying t=some (.struct fs)) (hf:PlainFs P (fs.toList.map (·.type)) ds b):PlainD P t ds (b+1)
 | sl {t e:TypeId} {rows:List (List D)} {b:Nat} (h:P.underlying t=some (.slice e)) (hr:PlainRs P e rows b):PlainD P t [.sl rows] (b+1)
inductive PlainFs (P:Program):List TypeId→List D→Nat→Prop
 | nil:PlainFs P [] [] 0
 | cons {f:TypeId} {l:List TypeId} {r ds:List D} {b c:Nat} (h1:PlainD P f r b) (h2:PlainFs P l ds c):PlainFs P (f::l) (r++ds) (b+c)
inductive PlainRs (P:Program):TypeId→List (List D)→Nat→Prop
 | nil {e:TypeId}:PlainRs P e [] 0
 | cons {e:TypeId} {r:List D} {rows:List (List D)} {b c:Nat} (h1:PlainD P e r b) (h2:PlainRs P e rows c):PlainRs P e (r::rows) (b+c)
end
structure CR (ok:Nat→Nat→Prop) (w:World) (ds:List D) (cs:List Value):Prop where
 len:ds.length=cs.length
 rel:∀(i:Nat) (x:D) (u:Value),ds[i]?=some x→cs[i]?=some u→DRel ok w x u
 one:∀u∈cs,u.oneCell'=true
theorem CR.nil {ok:Nat→Nat→Prop} {w:World}:CR ok w [] []:=⟨rfl,fun i x u h=>by simp at h,fun u h=>by cases h⟩
theorem CR.one1 {ok:Nat→Nat→Prop} {w:World} {x:D} {u:Value} (h:DRel ok w x u) (h1:u.oneCell'=true):CR ok w [x] [u]:=⟨rfl,fun i y v hy hv=>by
 match i,hy,hv with
 | 0,hy,hv=>cases hy;cases hv;exact h
 | i+1,hy,hv=>simp at hy,fun v hv=>by rw [List.mem_singleton.1 hv];exact h1⟩
theorem CR.app {ok:Nat→Nat→Prop} {w:World} {d1 d2:List D} {c1 c2:List Value} (h1:CR ok w d1 c1) (h2:CR ok w d2 c2):CR ok w (d1++d2) (c1++c2):=by
 refine ⟨by rw [List.length_append,List.length_append,h1.len,h2.len],fun i x u hx hu=>?_,fun u hu=>?_⟩
 ·by_cases hi:i<d1.length
  ·rw [List.getElem?_append_left hi] at hx
   rw [List.getElem?_append_left (by rw [← h1.len];exact hi)] at hu
   exact h1.rel i x u hx hu
  ·rw [List.getElem?_append_right (by omega)] at hx
   rw [List.getElem?_append_right (by rw [← h1.len];omega),← h1.len] at hu
   exact h2.rel _ x u hx hu
 ·rcases List.mem_append.1 hu with h | h
  ·exact h1.one u h
  ·exact h2.one u h
def offsB (P:Program):List Field→Nat→Option Nat
 | [],a=>some a
 | f::l,a=>if f.offset=a then offsB P l (a+P.cellsOf f.type) else none
def plainB (P:Program) (S:List TypeId) (t:TypeId):Bool:=match P.underlying t with
 | some (.int _) | some .string | some .bool=>true
 | some (.struct fs)=>fs.toList.all (fun f=>S.contains f.type) && decide (offsB P fs.toList 0=some (P.cellsOf t))
 | some (.slice e)=>S.contains e && decide (0<P.cellsOf e)
 | _=>false
section
variable {H:Type} {enc:TypeId×Value→H} {P:Program} {w:World} {ok:Nat→Nat→Prop}
theorem trod_plain {S:List TypeId} (hS:S.all (plainB P S)=true) (hok:∀b off,ok b off) (bulk:DataW H→Nat) (bulks:List (DataW H)→Nat)
  (k1:∀k n,1≤bulk (.lit (.int k n))) (k2:∀s,s.length+1≤bulk (.lit (.string s))) (k3:∀b,1≤bulk (.lit (.bool b))) (k4:∀l,bulks l+1≤bulk (.agg l)) (k5:∀l m,bulks l+1≤bulk (.slice l m)) (k6:1≤bulk .nil) (k7:∀d l,bulk d+bulks l≤bulks (d::l)) :
  ∀(fuel:Nat) (t:TypeId) (cs:List Value) (x:DataW H×List MemPlace),t∈S→DataW.trod enc P w 0 (fun _=>true) true fuel t cs=some x→∃ds b,PlainD P t ds b∧CR ok w ds cs∧b≤bulk x.1
 | 0,t,cs,x,ht,h=>by simp [DataW.trod] at h
 | fuel+1,t,cs,x,ht,h=>by
  have hp:=List.all_eq_true.1 hS t ht
  unfold plainB at hp
  split at hp
  ·rename_i k hu
   obtain ⟨n,rfl,rfl,hw⟩:=DataW.trod_int hu h
   exact ⟨_,1,.int hu hw,.one1 (.int _ _) rfl,k1 _ _⟩
  ·rename_i hu
   obtain ⟨s,rfl,rfl,hw⟩:=DataW.trod_string hu h
   exact ⟨[.str s.data.toList],_,.str hu,.one1 (.str _) rfl,k2 _⟩
  ·rename_i hu
   obtain ⟨b,rfl,rfl⟩:=DataW.trod_bool hu h
   exact ⟨_,1,.bool hu,.one1 (.bool _) rfl,k3 _⟩
  ·rename_i fs hu
   rw [Bool.and_eq_true,decide_eq_true_eq,List.all_eq_true] at hp
   obtain ⟨hp1,hp2⟩:=hp
   obtain ⟨xs,n,hn,rfl,hlen,hxl,hf⟩:=DataW.trod_struct hu h
   obtain rfl:fuel=n:=by omega
   have key:∀(l:List Field) (k a:Nat),fs.toList.drop k=l→offsB P l a=some (P.cellsOf t)→∃ds b,PlainFs P (l.map (·.type)) ds b∧CR ok w ds (cs.drop a)∧b≤bulks ((xs.drop k).map (·.1)):=by
    intro l
    induction l with
    | nil =>
     intro k a hk ha
     cases ha
     exact ⟨[],0,.nil,by rw [List.drop_eq_nil_of_le (by omega)];exact .nil,Nat.zero_le _⟩
    | cons f l ih =>
     intro k a hk ha
     rw [offsB] at ha
     split at ha
     ·rename_i hoff
      have hkl:k<fs.size:=by
       have:=congrArg List.length hk
       simp at this;omega
      have hfk:fs[k]?=some f:=by
       have:(fs.toList.drop k)[0]?=some f:=by rw [hk];rfl
       simpa using this
      have hd:fs.toList.drop (k+1)=l:=by rw [← List.drop_drop,hk];rfl
      obtain ⟨ds,b,g1,g2,g3⟩:=ih (k+1) _ hd ha
      have hx:=hf k f hfk
      rw [List.getElem?_eq_getElem (by omega)] at hx
      have hfS:f.type∈S:=by
       have:=hp1 f (by have:=List.mem_of_getElem? (l:=fs.toList) (i:=k) (a:=f) (by simpa using hfk);exact this)
       simpa using this
      obtain ⟨dr,br,q1,q2,q3⟩:=trod_plain hS hok bulk bulks k1 k2 k3 k4 k5 k6 k7 fuel _ _ _ hfS hx
      rw [hoff] at q2
      refine ⟨dr++ds,br+b,.cons q1 g1,?_,?_⟩
      ·have e:cs.drop a=(cs.drop a).take (P.cellsOf f.type)++cs.drop (a+P.cellsOf f.type):=by rw [← List.drop_drop,List.take_append_drop]
       rw [e]
       exact q2.app g2
      ·have e:xs.drop k=xs[k]::xs.drop (k+1):=List.drop_eq_getElem_cons (by omega)
       rw [e,List.map_cons]
       exact Nat.le_trans (Nat.add_le_add q3 g3) (k7 _ _)
     ·cases ha
   obtain ⟨ds,b,g1,g2,g3⟩:=key fs.toList 0 0 rfl hp2
   rw [List.drop_zero] at g2 g3
   exact ⟨ds,b+1,.st hu g1,g2,Nat.le_trans (Nat.add_le_add_right g3 1) (k4 _)⟩
  ·rename_i e hu
   rw [Bool.and_eq_true,decide_eq_true_eq] at hp
   obtain ⟨hp,hpos⟩:=hp
   have heS:e∈S:=by simpa using hp
   rcases DataW.trod_slice hu h with ⟨rfl,rfl⟩ | ⟨a,len,cap,elems,rest,n,hn,rfl,rfl,hb,hl,hm,hlen,hel,hsp,hns⟩
   ·exact ⟨[.sl []],1,.sl hu .nil,.one1 .slnil rfl,k6⟩
   obtain rfl:fuel=n:=by omega
   obtain ⟨hs1,hs2⟩:=hsp rfl
   by_cases hc0:cap=0
   ·subst hc0
    obtain rfl:len=0:=by omega
    exact ⟨[.sl []],1,.sl hu .nil,.one1 (.slz a) rfl,Nat.le_trans (by omega) (k5 _ _)⟩
   have hspot:a.spot=none:=by
    have h0:∃cs',w.cells? 0 (a.add (0 * P.cellsOf e)) (P.cellsOf e)=some cs':=by
     by_cases hl0:0<len
     ·have:=hel 0 hl0
      rw [List.getElem?_eq_getElem (by omega)] at this
      obtain ⟨cs',h1,_⟩:=Option.bind_eq_some_iff.1 this
      exact ⟨cs',h1⟩
     ·have:=hs2 0 (by omega)
      rw [List.getElem?_eq_getElem (by omega)] at this
      obtain ⟨cs',h1,_⟩:=Option.bind_eq_some_iff.1 this
      exact ⟨cs',by rw [show len+0=0 by omega] at h1;exact h1⟩
    obtain ⟨cs',h1⟩:=h0
    obtain ⟨_,h2,h3⟩:=World.cells?_some h1
    have h4:=h3 0 hpos
    rw [List.getElem?_eq_getElem (by omega)] at h4
    have ea:(a.add (0 * P.cellsOf e)).add 0=a:=by simp [Addr.add]
    rw [ea] at h4
    cases hsp:a.spot with
    | none=>rfl
    | some q =>
     unfold World.cell? at h4
     split at h4
     ·rw [hsp] at h4;simp at h4
     ·cases h4
   obtain ⟨blk,off,sp⟩:=a
   obtain rfl:sp=none:=hspot
   have key:∀(m k:Nat),k+m=len→∃rows b,PlainRs P e rows b∧rows.length=m∧b≤bulks ((elems.drop k).map (·.1))∧∀(i:Nat) (r:List D),rows[i]?=some r→∃cs,cs.length=P.cellsOf e∧CR ok w r cs∧∀j,j<P.cellsOf e→w.cell? ⟨blk,off+(k+i) * P.cellsOf e+j,none⟩=cs[j]?:=by
    intro m
    induction m with
    | zero=>intro k hk;exact ⟨[],0,.nil,rfl,Nat.zero_le _,fun i r h=>by simp at h⟩
    | succ m ih =>
     intro k hk
     obtain ⟨rows,b,g1,g2,g3,g4⟩:=ih (k+1) (by omega)
     have hx:=hel k (by omega)
     rw [List.getElem?_eq_getElem (by omega)] at hx
     obtain ⟨cs',h1,h2⟩:=Option.bind_eq_some_iff.1 hx
     obtain ⟨_,h3,h4⟩:=World.cells?_some h1
     obtain ⟨dr,br,q1,q2,q3⟩:=trod_plain hS hok bulk bulks k1 k2 k3 k4 k5 k6 k7 fuel _ _ _ heS h2
     refine ⟨dr::rows,br+b,.cons q1 g1,by rw [List.length_cons,g2],?_,fun i r hr=>?_⟩
     ·rw [List.drop_eq_getElem_cons (show k<elems.length by omega),List.map_cons]
      exact Nat.le_trans (Nat.add_le_add q3 g3) (k7 _ _)
     ·cases i with
      | zero =>
       cases hr
       refine ⟨cs',h3,q2,fun j hj=>?_⟩
       have:=h4 j hj
       rw [add_addr,add_addr] at this
       rw [Nat.add_zero];exact this
      | succ i =>
       rw [List.getElem?_cons_succ] at hr
       obtain ⟨cs,e1,e2,e3⟩:=g4 i r hr
       exact ⟨cs,e1,e2,fun j hj=>by rw [show k+(i+1)=k+1+i by omega];exact e3 j hj⟩
   obtain ⟨rows,b,g1,g2,g3,g4⟩:=key len 0 (by omega)
   rw [List.drop_zero] at g3
   refine ⟨[.sl rows],b+1,.sl hu g1,.one1 ?_ rfl,Nat.le_trans (Nat.add_le_add_right g3 1) (k5 _ _)⟩
   subst g2
   refine .sl rows blk off cap (P.cellsOf e) (fun i j=>(w.cell? ⟨blk,off+i * P.cellsOf e+j,none⟩).getD default) hl (fun r hr=>?_) (fun i j hi hj=>?_) (fun i j _ _=>hok _ _) (fun i j x hx=>?_)
   ·obtain ⟨i,hi,rfl⟩:=List.getElem_of_mem hr
    obtain ⟨cs,e1,e2,_⟩:=g4 i _ (List.getElem?_eq_getElem hi)
    rw [e2.len,e1]
   ·obtain ⟨cs,e1,e2,e3⟩:=g4 i _ (List.getElem?_eq_getElem hi)
    have:=e3 j hj
    rw [Nat.zero_add,List.getElem?_eq_getElem (by omega)] at this
    simp only [this,Option.getD_some]
   ·obtain ⟨r,hr,hx⟩:=Option.bind_eq_some_iff.1 hx
    obtain ⟨cs,e1,e2,e3⟩:=g4 i r hr
    have hjr:=(List.getElem?_eq_some_iff.1 hx).1
    have hj:j<P.cellsOf e:=by rw [← e1,← e2.len];exact hjr
    have:=e3 j hj
    rw [Nat.zero_add,List.getElem?_eq_getElem (by omega)] at this
    simp only [this,Option.getD_some]
    exact e2.rel j x _ hx (List.getElem?_eq_getElem (by omega))
  ·cases hp
end
end Go.PM
end

section
set_option maxRecDepth 100000
set_option maxHeartbeats 1000000
namespace Go.PM
def stB (P:Program) (t:TypeId) (tys:List TypeId):Bool:=match P.underlying t with | some (.struct fs)=>decide (fs.toList.map (·.type)=tys) | _=>false
def slB (P:Program) (t e:TypeId):Bool:=match P.underlying t with | some (.slice u)=>decide (u=e) | _=>false
def intB (P:Program) (t:TypeId) (k:IntKind):Bool:=match P.underlying t with | some (.int u)=>decide (u=k) | _=>false
def strB (P:Program) (t:TypeId):Bool:=match P.underlying t with | some .string=>true | _=>false
def boolB (P:Program) (t:TypeId):Bool:=match P.underlying t with | some .bool=>true | _=>false
section
variable {P:Program} {t e:TypeId} {ds:List D} {b:Nat}
theorem PlainD.inv_st {tys:List TypeId} (h:PlainD P t ds b) (hu:stB P t tys=true):∃c,b=c+1∧PlainFs P tys ds c:=by
 unfold stB at hu
 cases h with
 | st h hf=>rw [h] at hu;simp only [decide_eq_true_eq] at hu;exact ⟨_,rfl,hu ▸ hf⟩
 | int h _=>rw [h] at hu;cases hu
 | str h=>rw [h] at hu;cases hu
 | bool h=>rw [h] at hu;cases hu
 | sl h _=>rw [h] at hu;cases hu
theorem PlainD.inv_sl (h:PlainD P t ds b) (hu:slB P t e=true):∃rows c,ds=[.sl rows]∧b=c+1∧PlainRs P e rows c:=by
 unfold slB at hu
 cases h with
 | sl h hr=>rw [h] at hu;simp only [decide_eq_true_eq] at hu;exact ⟨_,_,rfl,rfl,hu ▸ hr⟩
 | int h _=>rw [h] at hu;cases hu
 | str h=>rw [h] at hu;cases hu
 | bool h=>rw [h] at hu;cases hu
 | st h _=>rw [h] at hu;cases hu
theorem PlainD.inv_int {k:IntKind} (h:PlainD P t ds b) (hu:intB P t k=true):∃n,ds=[.int k n]∧b=1∧(Lit.int k n).wf=true:=by
 unfold intB at hu
 cases h with
 | int h hw=>rw [h] at hu;simp only [decide_eq_true_eq] at hu;subst hu;exact ⟨_,rfl,rfl,hw⟩
 | sl h _=>rw [h] at hu;cases hu
 | str h=>rw [h] at hu;cases hu
 | bool h=>rw [h] at hu;cases hu
 | st h _=>rw [h] at hu;cases hu
theorem PlainD.inv_str (h:PlainD P t ds b) (hu:strB P t=true):∃s,ds=[.str s]∧b=s.length+1:=by
 unfold strB at hu
 cases h with
 | str h=>exact ⟨_,rfl,rfl⟩
 | sl h _=>rw [h] at hu;cases hu
 | int h _=>rw [h] at hu;cases hu
 | bool h=>rw [h] at hu;cases hu
 | st h _=>rw [h] at hu;cases hu
theorem PlainD.inv_bool (h:PlainD P t ds b) (hu:boolB P t=true):∃q,ds=[.bool q]∧b=1:=by
 unfold boolB at hu
 cases h with
 | bool h=>exact ⟨_,rfl,rfl⟩
 | sl h _=>rw [h] at hu;cases hu
 | int h _=>rw [h] at hu;cases hu
 | str h=>rw [h] at hu;cases hu
 | st h _=>rw [h] at hu;cases hu
theorem PlainFs.inv {f:TypeId} {l:List TypeId} (h:PlainFs P (f::l) ds b):∃r ds' b1 c,ds=r++ds'∧b=b1+c∧PlainD P f r b1∧PlainFs P l ds' c:=by
 cases h with
 | cons h1 h2=>exact ⟨_,_,_,_,rfl,rfl,h1,h2⟩
theorem PlainFs.inv0 (h:PlainFs P [] ds b):ds=[]∧b=0:=by cases h;exact ⟨rfl,rfl⟩
end
end Go.PM
namespace Go.PM.Lex
open Go.Proofs
def plZ:Pl:=fun n=>if n % 2=0 then (n / 2:Nat) else -((n / 2:Nat):Int) - 1
def zc (z:Int):Nat:=if 0≤z then 2 * z.toNat else 2 * (-z - 1).toNat+1
theorem plZ_zc (z:Int):plZ (zc z)=z:=by
 unfold plZ zc
 by_cases h:0≤z
 ·rw [if_pos h,if_pos (by omega)];omega
 ·rw [if_neg h,if_neg (by omega)];omega
theorem decRs {α:Type} {P:Program} {e:TypeId} {enc:α→List D} {sz w:α→Nat} {p:α→Bool}:∀{rows:List (List D)} {b:Nat},PlainRs P e rows b→(∀r c,c≤b→PlainD P e r c→∃x,r=enc x∧sz x+1≤2 * c∧w x+1≤2 * c∧p x=true)→∃xs,rows=xs.map enc∧szS sz xs≤2 * b∧szS w xs≤2 * b∧xs.all p=true
 | [],b,h,hd=>⟨[],rfl,by simp [szS],by simp [szS],rfl⟩
 | r::rows,b,h,hd=>by
  cases h with
  | cons h1 h2 =>
   rename_i b1 c
   obtain ⟨x,rfl,g1,g2,g5⟩:=hd r b1 (by omega) h1
   obtain ⟨xs,rfl,g3,g4,g6⟩:=decRs h2 fun r c' hc=>hd r c' (by omega)
   exact ⟨x::xs,rfl,by simp only [szS];omega,by simp only [szS];omega,by rw [List.all_cons,g5,g6];rfl⟩
theorem wf_u8 {n:Int} (h:(Lit.int .u8 n).wf=true):∃k:Nat,n=k:=by
 have:0≤n∧n≤255:=by simpa [Lit.wf,IntKind.min,IntKind.max,IntKind.signed,IntKind.bits] using h
 exact ⟨n.toNat,by omega⟩
theorem wf_i64 {n:Int} (h:(Lit.int .i64 n).wf=true):rngN n=true:=by
 have:-9223372036854775808≤n∧n≤9223372036854775807:=by simpa [Lit.wf,IntKind.min,IntKind.max,IntKind.signed,IntKind.bits] using h
 simp only [rngN,Bool.and_eq_true,decide_eq_true_eq]
 omega
theorem str_dec {P:Program} {t:TypeId} (hu:strB P t=true) (b:Nat):∀r c,c≤b→PlainD P t r c→∃x,r=encBs x∧sz0 x+1≤2 * c∧wBs x+1≤2 * c∧(fun _=>true) x=true:=fun r c _ h=>by
 obtain ⟨s,rfl,rfl⟩:=h.inv_str hu
 exact ⟨s,rfl,by simp only [sz0];omega,by simp only [wBs];omega,rfl⟩
theorem stE:stB Tryz.prog 24 [5,9,2,22,3]=true:=by kernel_rfl
theorem stL:stB Tryz.prog 60 [5,9,22,48,3]=true:=by kernel_rfl
theorem stRu:stB Tryz.prog 50 [9,22,48,3]=true:=by kernel_rfl
theorem stFi:stB Tryz.prog 66 [9,9]=true:=by kernel_rfl
theorem stCa:stB Tryz.prog 148 [9,61]=true:=by kernel_rfl
theorem stTy:stB Tryz.prog 64 [5,9,9,61,62,3]=true:=by kernel_rfl
theorem stRe:stB Tryz.prog 68 [9,61,4,4,4,3]=true:=by kernel_rfl
theorem stIn:stB Tryz.prog 73 [9,9,69,3]=true:=by kernel_rfl
theorem stOv:stB Tryz.prog 75 [9,3]=true:=by kernel_rfl
theorem stUn:stB Tryz.prog 44 [37,38,39,40,41,42]=true:=by kernel_rfl
theorem stCo:stB Tryz.prog 71 [9,69,9,69,44,3]=true:=by kernel_rfl
theorem slE:slB Tryz.prog 22 24=true:=by kernel_rfl
theorem slL:slB Tryz.prog 48 60=true:=by kernel_rfl
theorem slFi:slB Tryz.prog 61 66=true:=by kernel_rfl
theorem slCa:slB Tryz.prog 62 148=true:=by kernel_rfl
theorem slTy:slB Tryz.prog 37 64=true:=by kernel_rfl
theorem slRe:slB Tryz.prog 38 68=true:=by kernel_rfl
theorem slRu:slB Tryz.prog 39 50=true:=by kernel_rfl
theorem slCo:slB Tryz.prog 40 71=true:=by kernel_rfl
theorem slIn:slB Tryz.prog 41 73=true:=by kernel_rfl
theorem slOv:slB Tryz.prog 42 75=true:=by kernel_rfl
theorem slStr:slB Tryz.prog 69 9=true:=by kernel_rfl
theorem bStr:strB Tryz.prog 9=true:=by kernel_rfl
theorem bInt:intB Tryz.prog 3 .i64=true:=by kernel_rfl
theorem bI64:intB Tryz.prog 2 .i64=true:=by kernel_rfl
theorem bU8:intB Tryz.prog 5 .u8=true:=by kernel_rfl
theorem bBool:boolB Tryz.prog 4=true:=by kernel_rfl
theorem decE:∀(n:Nat) (ds:List D) (b:Nat),b≤n→PlainD Tryz.prog 24 ds b→∃x,ds=encE plZ x∧szE x+1≤2 * b∧wE x+1≤2 * b∧rngE x=true
 | n,ds,b,hb,h=>by
  obtain ⟨c,rfl,hf⟩:=h.inv_st stE
  cases n with
  | zero=>omega
  | succ n =>
   obtain ⟨_,_,b1,c1,rfl,rfl,h1,hf⟩:=hf.inv
   obtain ⟨_,_,b2,c2,rfl,rfl,h2,hf⟩:=hf.inv
   obtain ⟨_,_,b3,c3,rfl,rfl,h3,hf⟩:=hf.inv
   obtain ⟨_,_,b4,c4,rfl,rfl,h4,hf⟩:=hf.inv
   obtain ⟨_,_,b5,c5,rfl,rfl,h5,hf⟩:=hf.inv
   obtain ⟨rfl,rfl⟩:=hf.inv0
   obtain ⟨q1,rfl,rfl,w1⟩:=h1.inv_int bU8
   obtain ⟨q1,rfl⟩:=wf_u8 w1
   obtain ⟨q2,rfl,rfl⟩:=h2.inv_str bStr
   obtain ⟨q3,rfl,rfl,w3⟩:=h3.inv_int bI64
   have p3:=wf_i64 w3
   obtain ⟨rows4,d4,rfl,rfl,hr4⟩:=h4.inv_sl slE
   obtain ⟨q4,rfl,g4,e4,p4⟩:=decRs (enc:=encE plZ) (sz:=szE) (w:=wE) (p:=rngE) hr4 fun r c hc hd=>decE n r c (by omega) hd
   obtain ⟨q5,rfl,rfl,-⟩:=h5.inv_int bInt
   refine ⟨.mk q1 q2 q3 q4 (zc q5),?_,?_,?_,?_⟩
   ·simp only [encE,encEs_eq,encLs_eq,encCos_eq,plZ_zc];rfl
   ·simp only [szE,szEs_eq,szLs_eq,szCos_eq];omega
   ·simp only [wE,wEs_eq,wLs_eq,wCos_eq];omega
   ·simp only [rngE,rngEs_eq,rngLs_eq,rngCos_eq,p3,p4];rfl
theorem decE' {b:Nat} {ds:List D} (h:PlainD Tryz.prog 24 ds b):∃x,ds=encE plZ x∧szE x+1≤2 * b∧wE x+1≤2 * b∧rngE x=true:=decE b ds b (Nat.le_refl _) h
theorem decL:∀(n:Nat) (ds:List D) (b:Nat),b≤n→PlainD Tryz.prog 60 ds b→∃x,ds=encL plZ x∧szL x+1≤2 * b∧wL x+1≤2 * b∧rngL x=true
 | n,ds,b,hb,h=>by
  obtain ⟨c,rfl,hf⟩:=h.inv_st stL
  cases n with
  | zero=>omega
  | succ n =>
   obtain ⟨_,_,b1,c1,rfl,rfl,h1,hf⟩:=hf.inv
   obtain ⟨_,_,b2,c2,rfl,rfl,h2,hf⟩:=hf.inv
   obtain ⟨_,_,b3,c3,rfl,rfl,h3,hf⟩:=hf.inv
   obtain ⟨_,_,b4,c4,rfl,rfl,h4,hf⟩:=hf.inv
   obtain ⟨_,_,b5,c5,rfl,rfl,h5,hf⟩:=hf.inv
   obtain ⟨rfl,rfl⟩:=hf.inv0
   obtain ⟨q1,rfl,rfl,w1⟩:=h1.inv_int bU8
   obtain ⟨q1,rfl⟩:=wf_u8 w1
   obtain ⟨q2,rfl,rfl⟩:=h2.inv_str bStr
   obtain ⟨rows3,d3,rfl,rfl,hr3⟩:=h3.inv_sl slE
   obtain ⟨q3,rfl,g3,e3,p3⟩:=decRs (enc:=encE plZ) (sz:=szE) (w:=wE) (p:=rngE) hr3 fun r c hc hd=>decE' hd
   obtain ⟨rows4,d4,rfl,rfl,hr4⟩:=h4.inv_sl slL
   obtain ⟨q4,rfl,g4,e4,p4⟩:=decRs (enc:=encL plZ) (sz:=szL) (w:=wL) (p:=rngL) hr4 fun r c hc hd=>decL n r c (by omega) hd
   obtain ⟨q5,rfl,rfl,-⟩:=h5.inv_int bInt
   refine ⟨.mk q1 q2 q3 q4 (zc q5),?_,?_,?_,?_⟩
   ·simp only [encL,encEs_eq,encLs_eq,encCos_eq,plZ_zc];rfl
   ·simp only [szL,szEs_eq,szLs_eq,szCos_eq];omega
   ·simp only [wL,wEs_eq,wLs_eq,wCos_eq];omega
   ·simp only [rngL,rngEs_eq,rngLs_eq,rngCos_eq,p3,p4];rfl
theorem decL' {b:Nat} {ds:List D} (h:PlainD Tryz.prog 60 ds b):∃x,ds=encL plZ x∧szL x+1≤2 * b∧wL x+1≤2 * b∧rngL x=true:=decL b ds b (Nat.le_refl _) h
theorem decRu:∀(n:Nat) (ds:List D) (b:Nat),b≤n→PlainD Tryz.prog 50 ds b→∃x,ds=encRu plZ x∧szRu x+1≤2 * b∧wRu x+1≤2 * b∧rngRu x=true
 | n,ds,b,hb,h=>by
  obtain ⟨c,rfl,hf⟩:=h.inv_st stRu
  cases n with
  | zero=>omega
  | succ n =>
   obtain ⟨_,_,b1,c1,rfl,rfl,h1,hf⟩:=hf.inv
   obtain ⟨_,_,b2,c2,rfl,rfl,h2,hf⟩:=hf.inv
   obtain ⟨_,_,b3,c3,rfl,rfl,h3,hf⟩:=hf.inv
   obtain ⟨_,_,b4,c4,rfl,rfl,h4,hf⟩:=hf.inv
   obtain ⟨rfl,rfl⟩:=hf.inv0
   obtain ⟨q1,rfl,rfl⟩:=h1.inv_str bStr
   obtain ⟨rows2,d2,rfl,rfl,hr2⟩:=h2.inv_sl slE
   obtain ⟨q2,rfl,g2,e2,p2⟩:=decRs (enc:=encE plZ) (sz:=szE) (w:=wE) (p:=rngE) hr2 fun r c hc hd=>decE' hd
   obtain ⟨rows3,d3,rfl,rfl,hr3⟩:=h3.inv_sl slL
   obtain ⟨q3,rfl,g3,e3,p3⟩:=decRs (enc:=encL plZ) (sz:=szL) (w:=wL) (p:=rngL) hr3 fun r c hc hd=>decL' hd
   obtain ⟨q4,rfl,rfl,-⟩:=h4.inv_int bInt
   refine ⟨.mk q1 q2 q3 (zc q4),?_,?_,?_,?_⟩
   ·simp only [encRu,encEs_eq,encLs_eq,encCos_eq,plZ_zc];rfl
   ·simp only [szRu,szEs_eq,szLs_eq,szCos_eq];omega
   ·simp only [wRu,wEs_eq,wLs_eq,wCos_eq];omega
   ·simp only [rngRu,rngEs_eq,rngLs_eq,rngCos_eq,p2,p3];rfl
theorem decRu' {b:Nat} {ds:List D} (h:PlainD Tryz.prog 50 ds b):∃x,ds=encRu plZ x∧szRu x+1≤2 * b∧wRu x+1≤2 * b∧rngRu x=true:=decRu b ds b (Nat.le_refl _) h
theorem decFi:∀(n:Nat) (ds:List D) (b:Nat),b≤n→PlainD Tryz.prog 66 ds b→∃x,ds=encFi x∧sz0 x+1≤2 * b∧wFi x+1≤2 * b∧(fun _=>true) x=true
 | n,ds,b,hb,h=>by
  obtain ⟨c,rfl,hf⟩:=h.inv_st stFi
  cases n with
  | zero=>omega
  | succ n =>
   obtain ⟨_,_,b1,c1,rfl,rfl,h1,hf⟩:=hf.inv
   obtain ⟨_,_,b2,c2,rfl,rfl,h2,hf⟩:=hf.inv
   obtain ⟨rfl,rfl⟩:=hf.inv0
   obtain ⟨q1,rfl,rfl⟩:=h1.inv_str bStr
   obtain ⟨q2,rfl,rfl⟩:=h2.inv_str bStr
   refine ⟨.mk q1 q2,?_,?_,?_,?_⟩
   ·simp only [encFi,encEs_eq,encLs_eq,encCos_eq,plZ_zc];rfl
   ·simp only [sz0,szEs_eq,szLs_eq,szCos_eq];omega
   ·simp only [wFi,wEs_eq,wLs_eq,wCos_eq];omega
   ·rfl
theorem decFi' {b:Nat} {ds:List D} (h:PlainD Tryz.prog 66 ds b):∃x,ds=encFi x∧sz0 x+1≤2 * b∧wFi x+1≤2 * b∧(fun _=>true) x=true:=decFi b ds b (Nat.le_refl _) h
theorem decCa:∀(n:Nat) (ds:List D) (b:Nat),b≤n→PlainD Tryz.prog 148 ds b→∃x,ds=encCa x∧szCa x+1≤2 * b∧wCa x+1≤2 * b∧(fun _=>true) x=true
 | n,ds,b,hb,h=>by
  obtain ⟨c,rfl,hf⟩:=h.inv_st stCa
  cases n with
  | zero=>omega
  | succ n =>
   obtain ⟨_,_,b1,c1,rfl,rfl,h1,hf⟩:=hf.inv
   obtain ⟨_,_,b2,c2,rfl,rfl,h2,hf⟩:=hf.inv
   obtain ⟨rfl,rfl⟩:=hf.inv0
   obtain ⟨q1,rfl,rfl⟩:=h1.inv_str bStr
   obtain ⟨rows2,d2,rfl,rfl,hr2⟩:=h2.inv_sl slFi
   obtain ⟨q2,rfl,g2,e2,p2⟩:=decRs (enc:=encFi) (sz:=sz0) (w:=wFi) (p:=fun _=>true) hr2 fun r c hc hd=>decFi' hd
   refine ⟨.mk q1 q2,?_,?_,?_,?_⟩
   ·simp only [encCa,encEs_eq,encLs_eq,encCos_eq,plZ_zc];rfl
   ·simp only [szCa,szEs_eq,szLs_eq,szCos_eq];omega
   ·simp only [wCa,wEs_eq,wLs_eq,wCos_eq];omega
   ·rfl
theorem decCa' {b:Nat} {ds:List D} (h:PlainD Tryz.prog 148 ds b):∃x,ds=encCa x∧szCa x+1≤2 * b∧wCa x+1≤2 * b∧(fun _=>true) x=true:=decCa b ds b (Nat.le_refl _) h
theorem decTy:∀(n:Nat) (ds:List D) (b:Nat),b≤n→PlainD Tryz.prog 64 ds b→∃x,ds=encTy plZ x∧szTy x+1≤2 * b∧wTy x+1≤2 * b∧(fun _=>true) x=true
 | n,ds,b,hb,h=>by
  obtain ⟨c,rfl,hf⟩:=h.inv_st stTy
  cases n with
  | zero=>omega
  | succ n =>
   obtain ⟨_,_,b1,c1,rfl,rfl,h1,hf⟩:=hf.inv
   obtain ⟨_,_,b2,c2,rfl,rfl,h2,hf⟩:=hf.inv
   obtain ⟨_,_,b3,c3,rfl,rfl,h3,hf⟩:=hf.inv
   obtain ⟨_,_,b4,c4,rfl,rfl,h4,hf⟩:=hf.inv
   obtain ⟨_,_,b5,c5,rfl,rfl,h5,hf⟩:=hf.inv
   obtain ⟨_,_,b6,c6,rfl,rfl,h6,hf⟩:=hf.inv
   obtain ⟨rfl,rfl⟩:=hf.inv0
   obtain ⟨q1,rfl,rfl,w1⟩:=h1.inv_int bU8
   obtain ⟨q1,rfl⟩:=wf_u8 w1
   obtain ⟨q2,rfl,rfl⟩:=h2.inv_str bStr
   obtain ⟨q3,rfl,rfl⟩:=h3.inv_str bStr
   obtain ⟨rows4,d4,rfl,rfl,hr4⟩:=h4.inv_sl slFi
   obtain ⟨q4,rfl,g4,e4,p4⟩:=decRs (enc:=encFi) (sz:=sz0) (w:=wFi) (p:=fun _=>true) hr4 fun r c hc hd=>decFi' hd
   obtain ⟨rows5,d5,rfl,rfl,hr5⟩:=h5.inv_sl slCa
   obtain ⟨q5,rfl,g5,e5,p5⟩:=decRs (enc:=encCa) (sz:=szCa) (w:=wCa) (p:=fun _=>true) hr5 fun r c hc hd=>decCa' hd
   obtain ⟨q6,rfl,rfl,-⟩:=h6.inv_int bInt
   refine ⟨.mk q1 q2 q3 q4 q5 (zc q6),?_,?_,?_,?_⟩
   ·simp only [encTy,encEs_eq,encLs_eq,encCos_eq,plZ_zc];rfl
   ·simp only [szTy,szEs_eq,szLs_eq,szCos_eq];omega
   ·simp only [wTy,wEs_eq,wLs_eq,wCos_eq];omega
   ·rfl
theorem decTy' {b:Nat} {ds:List D} (h:PlainD Tryz.prog 64 ds b):∃x,ds=encTy plZ x∧szTy x+1≤2 * b∧wTy x+1≤2 * b∧(fun _=>true) x=true:=decTy b ds b (Nat.le_refl _) h
theorem decRe:∀(n:Nat) (ds:List D) (b:Nat),b≤n→PlainD Tryz.prog 68 ds b→∃x,ds=encRe plZ x∧szRe x+1≤2 * b∧wRe x+1≤2 * b∧(fun _=>true) x=true
 | n,ds,b,hb,h=>by
  obtain ⟨c,rfl,hf⟩:=h.inv_st stRe
  cases n with
  | zero=>omega
  | succ n =>
   obtain ⟨_,_,b1,c1,rfl,rfl,h1,hf⟩:=hf.inv
   obtain ⟨_,_,b2,c2,rfl,rfl,h2,hf⟩:=hf.inv
   obtain ⟨_,_,b3,c3,rfl,rfl,h3,hf⟩:=hf.inv
   obtain ⟨_,_,b4,c4,rfl,rfl,h4,hf⟩:=hf.inv
   obtain ⟨_,_,b5,c5,rfl,rfl,h5,hf⟩:=hf.inv
   obtain ⟨_,_,b6,c6,rfl,rfl,h6,hf⟩:=hf.inv
   obtain ⟨rfl,rfl⟩:=hf.inv0
   obtain ⟨q1,rfl,rfl⟩:=h1.inv_str bStr
   obtain ⟨rows2,d2,rfl,rfl,hr2⟩:=h2.inv_sl slFi
   obtain ⟨q2,rfl,g2,e2,p2⟩:=decRs (enc:=encFi) (sz:=sz0) (w:=wFi) (p:=fun _=>true) hr2 fun r c hc hd=>decFi' hd
   obtain ⟨q3,rfl,rfl⟩:=h3.inv_bool bBool
   obtain ⟨q4,rfl,rfl⟩:=h4.inv_bool bBool
   obtain ⟨q5,rfl,rfl⟩:=h5.inv_bool bBool
   obtain ⟨q6,rfl,rfl,-⟩:=h6.inv_int bInt
   refine ⟨.mk q1 q2 q3 q4 q5 (zc q6),?_,?_,?_,?_⟩
   ·simp only [encRe,encEs_eq,encLs_eq,encCos_eq,plZ_zc];rfl
   ·simp only [szRe,szEs_eq,szLs_eq,szCos_eq];omega
   ·simp only [wRe,wEs_eq,wLs_eq,wCos_eq];omega
   ·rfl
theorem decRe' {b:Nat} {ds:List D} (h:PlainD Tryz.prog 68 ds b):∃x,ds=encRe plZ x∧szRe x+1≤2 * b∧wRe x+1≤2 * b∧(fun _=>true) x=true:=decRe b ds b (Nat.le_refl _) h
theorem decIn:∀(n:Nat) (ds:List D) (b:Nat),b≤n→PlainD Tryz.prog 73 ds b→∃x,ds=encIn plZ x∧szIn x+1≤2 * b∧wIn x+1≤2 * b∧(fun _=>true) x=true
 | n,ds,b,hb,h=>by
  obtain ⟨c,rfl,hf⟩:=h.inv_st stIn
  cases n with
  | zero=>omega
  | succ n =>
   obtain ⟨_,_,b1,c1,rfl,rfl,h1,hf⟩:=hf.inv
   obtain ⟨_,_,b2,c2,rfl,rfl,h2,hf⟩:=hf.inv
   obtain ⟨_,_,b3,c3,rfl,rfl,h3,hf⟩:=hf.inv
   obtain ⟨_,_,b4,c4,rfl,rfl,h4,hf⟩:=hf.inv
   obtain ⟨rfl,rfl⟩:=hf.inv0
   obtain ⟨q1,rfl,rfl⟩:=h1.inv_str bStr
   obtain ⟨q2,rfl,rfl⟩:=h2.inv_str bStr
   obtain ⟨rows3,d3,rfl,rfl,hr3⟩:=h3.inv_sl slStr
   obtain ⟨q3,rfl,g3,e3,-⟩:=decRs (enc:=encBs) (sz:=sz0) (w:=wBs) (p:=fun _=>true) hr3 (str_dec bStr _)
   obtain ⟨q4,rfl,rfl,-⟩:=h4.inv_int bInt
   refine ⟨.mk q1 q2 q3 (zc q4),?_,?_,?_,?_⟩
   ·simp only [encIn,encEs_eq,encLs_eq,encCos_eq,plZ_zc];rfl
   ·simp only [szIn,szEs_eq,szLs_eq,szCos_eq];omega
   ·simp only [wIn,wEs_eq,wLs_eq,wCos_eq];omega
   ·rfl
theorem decIn' {b:Nat} {ds:List D} (h:PlainD Tryz.prog 73 ds b):∃x,ds=encIn plZ x∧szIn x+1≤2 * b∧wIn x+1≤2 * b∧(fun _=>true) x=true:=decIn b ds b (Nat.le_refl _) h
theorem decOv:∀(n:Nat) (ds:List D) (b:Nat),b≤n→PlainD Tryz.prog 75 ds b→∃x,ds=encOv plZ x∧sz0 x+1≤2 * b∧wOv x+1≤2 * b∧(fun _=>true) x=true
 | n,ds,b,hb,h=>by
  obtain ⟨c,rfl,hf⟩:=h.inv_st stOv
  cases n with
  | zero=>omega
  | succ n =>
   obtain ⟨_,_,b1,c1,rfl,rfl,h1,hf⟩:=hf.inv
   obtain ⟨_,_,b2,c2,rfl,rfl,h2,hf⟩:=hf.inv
   obtain ⟨rfl,rfl⟩:=hf.inv0
   obtain ⟨q1,rfl,rfl⟩:=h1.inv_str bStr
   obtain ⟨q2,rfl,rfl,-⟩:=h2.inv_int bInt
   refine ⟨.mk q1 (zc q2),?_,?_,?_,?_⟩
   ·simp only [encOv,encEs_eq,encLs_eq,encCos_eq,plZ_zc];rfl
   ·simp only [sz0,szEs_eq,szLs_eq,szCos_eq];omega
   ·simp only [wOv,wEs_eq,wLs_eq,wCos_eq];omega
   ·rfl
theorem decOv' {b:Nat} {ds:List D} (h:PlainD Tryz.prog 75 ds b):∃x,ds=encOv plZ x∧sz0 x+1≤2 * b∧wOv x+1≤2 * b∧(fun _=>true) x=true:=decOv b ds b (Nat.le_refl _) h
mutual
theorem decUn:∀(n:Nat) (ds:List D) (b:Nat),b≤n→PlainD Tryz.prog 44 ds b→∃x,ds=encUn plZ x∧szUn x+1≤2 * b∧wUn x+1≤2 * b∧rngU x=true
 | n,ds,b,hb,h=>by
  obtain ⟨c,rfl,hf⟩:=h.inv_st stUn
  cases n with
  | zero=>omega
  | succ n =>
   obtain ⟨_,_,b1,c1,rfl,rfl,h1,hf⟩:=hf.inv
   obtain ⟨_,_,b2,c2,rfl,rfl,h2,hf⟩:=hf.inv
   obtain ⟨_,_,b3,c3,rfl,rfl,h3,hf⟩:=hf.inv
   obtain ⟨_,_,b4,c4,rfl,rfl,h4,hf⟩:=hf.inv
   obtain ⟨_,_,b5,c5,rfl,rfl,h5,hf⟩:=hf.inv
   obtain ⟨_,_,b6,c6,rfl,rfl,h6,hf⟩:=hf.inv
   obtain ⟨rfl,rfl⟩:=hf.inv0
   obtain ⟨rows1,d1,rfl,rfl,hr1⟩:=h1.inv_sl slTy
   obtain ⟨q1,rfl,g1,e1,p1⟩:=decRs (enc:=encTy plZ) (sz:=szTy) (w:=wTy) (p:=fun _=>true) hr1 fun r c hc hd=>decTy' hd
   obtain ⟨rows2,d2,rfl,rfl,hr2⟩:=h2.inv_sl slRe
   obtain ⟨q2,rfl,g2,e2,p2⟩:=decRs (enc:=encRe plZ) (sz:=szRe) (w:=wRe) (p:=fun _=>true) hr2 fun r c hc hd=>decRe' hd
   obtain ⟨rows3,d3,rfl,rfl,hr3⟩:=h3.inv_sl slRu
   obtain ⟨q3,rfl,g3,e3,p3⟩:=decRs (enc:=encRu plZ) (sz:=szRu) (w:=wRu) (p:=rngRu) hr3 fun r c hc hd=>decRu' hd
   obtain ⟨rows4,d4,rfl,rfl,hr4⟩:=h4.inv_sl slCo
   obtain ⟨q4,rfl,g4,e4,p4⟩:=decRs (enc:=encCo plZ) (sz:=szCo) (w:=wCo) (p:=rngCo) hr4 fun r c hc hd=>decCo n r c (by omega) hd
   obtain ⟨rows5,d5,rfl,rfl,hr5⟩:=h5.inv_sl slIn
   obtain ⟨q5,rfl,g5,e5,p5⟩:=decRs (enc:=encIn plZ) (sz:=szIn) (w:=wIn) (p:=fun _=>true) hr5 fun r c hc hd=>decIn' hd
   obtain ⟨rows6,d6,rfl,rfl,hr6⟩:=h6.inv_sl slOv
   obtain ⟨q6,rfl,g6,e6,p6⟩:=decRs (enc:=encOv plZ) (sz:=sz0) (w:=wOv) (p:=fun _=>true) hr6 fun r c hc hd=>decOv' hd
   refine ⟨.mk q1 q2 q3 q4 q5 q6,?_,?_,?_,?_⟩
   ·simp only [encUn,encEs_eq,encLs_eq,encCos_eq,plZ_zc];rfl
   ·simp only [szUn,szEs_eq,szLs_eq,szCos_eq];omega
   ·simp only [wUn,wEs_eq,wLs_eq,wCos_eq];omega
   ·simp only [rngU,rngEs_eq,rngLs_eq,rngCos_eq,p3,p4];rfl
theorem decCo:∀(n:Nat) (ds:List D) (b:Nat),b≤n→PlainD Tryz.prog 71 ds b→∃x,ds=encCo plZ x∧szCo x+1≤2 * b∧wCo x+1≤2 * b∧rngCo x=true
 | n,ds,b,hb,h=>by
  obtain ⟨c,rfl,hf⟩:=h.inv_st stCo
  cases n with
  | zero=>omega
  | succ n =>
   obtain ⟨_,_,b1,c1,rfl,rfl,h1,hf⟩:=hf.inv
   obtain ⟨_,_,b2,c2,rfl,rfl,h2,hf⟩:=hf.inv
   obtain ⟨_,_,b3,c3,rfl,rfl,h3,hf⟩:=hf.inv
   obtain ⟨_,_,b4,c4,rfl,rfl,h4,hf⟩:=hf.inv
   obtain ⟨_,_,b5,c5,rfl,rfl,h5,hf⟩:=hf.inv
   obtain ⟨_,_,b6,c6,rfl,rfl,h6,hf⟩:=hf.inv
   obtain ⟨rfl,rfl⟩:=hf.inv0
   obtain ⟨q1,rfl,rfl⟩:=h1.inv_str bStr
   obtain ⟨rows2,d2,rfl,rfl,hr2⟩:=h2.inv_sl slStr
   obtain ⟨q2,rfl,g2,e2,-⟩:=decRs (enc:=encBs) (sz:=sz0) (w:=wBs) (p:=fun _=>true) hr2 (str_dec bStr _)
   obtain ⟨q3,rfl,rfl⟩:=h3.inv_str bStr
   obtain ⟨rows4,d4,rfl,rfl,hr4⟩:=h4.inv_sl slStr
   obtain ⟨q4,rfl,g4,e4,-⟩:=decRs (enc:=encBs) (sz:=sz0) (w:=wBs) (p:=fun _=>true) hr4 (str_dec bStr _)
   obtain ⟨q5,rfl,g5,e5,p5⟩:=decUn n _ _ (by omega) h5
   obtain ⟨q6,rfl,rfl,-⟩:=h6.inv_int bInt
   refine ⟨.mk q1 q2 q3 q4 q5 (zc q6),?_,?_,?_,?_⟩
   ·simp only [encCo,encEs_eq,encLs_eq,encCos_eq,plZ_zc];rfl
   ·simp only [szCo,szEs_eq,szLs_eq,szCos_eq];omega
   ·simp only [wCo,wEs_eq,wLs_eq,wCos_eq];omega
   ·simp only [rngCo,p5]
end
end Go.PM.Lex
end

section
set_option maxRecDepth 100000
set_option maxHeartbeats 1000000
namespace Go.PM.Lex
open Go.Proofs Go.Proofs.YtflgockgjnddnaaGreatDoor
def plainS:List TypeId:=[44,37,38,39,40,41,42,64,68,50,71,73,75,66,61,148,62,24,22,60,48,69,9,3,5,2,4]
theorem plainS_ok:plainS.all (plainB Tryz.prog plainS)=true:=by kernel_rfl
theorem okc_pure:∀b off,okc ePure ⟨[],[],0⟩ b off:=fun b off=>⟨fun h=>h,fun i hi=>by simp at hi,fun t ht=>by cases ht⟩
section
variable {H:Type} {enc:TypeId×Value→H} {W:World} {nG:Nat}
theorem arg_plain {t:TypeId} {cs:Array Value} {d:DataW H} {ps:List MemPlace} (ht:t∈plainS) (h:DataW.Trod enc Tryz.prog W 0 (fun _=>true) true t (.agg cs) d ps) :
  ∃ds b,PlainD Tryz.prog t ds b∧VRel (GG W nG) ePure ⟨[],[],0⟩ W (.agg (ds.map .d)) (.agg cs)∧b≤Rows.uptoBulk d:=by
 obtain ⟨fuel,hf⟩:=h
 obtain ⟨ds,b,h1,h2,h3⟩:=trod_plain plainS_ok okc_pure Rows.uptoBulk Rows.uptoBulkAll (fun _ _=>Nat.le_refl _) (fun _=>Nat.le_refl _) (fun _=>Nat.le_refl _) (fun _=>Nat.le_refl _) (fun l m=>by simp only [Rows.uptoBulk];omega) (Nat.le_refl _) (fun _ _=>Nat.le_refl _) fuel t _ _ ht hf
 have hc:(Value.agg cs).cells.toList=cs.toList:=rfl
 rw [hc] at h2
 refine ⟨ds,b,h1,.agg _ _ (by rw [List.length_map,h2.len,Array.length_toList]) (fun i x u hx hu=>?_) (fun u hu=>h2.one u (by simpa using hu)),h3⟩
 rw [List.getElem?_map] at hx
 obtain ⟨y,hy,rfl⟩:=Option.map_eq_some_iff.1 hx
 exact .d _ _ (h2.rel i y u hy (by simpa using hu))
theorem arg_expr {cs:Array Value} {d:DataW H} {ps:List MemPlace} (h:DataW.Trod enc Tryz.prog W 0 (fun _=>true) true 24 (.agg cs) d ps) :
  ∃x,VRel (GG W nG) ePure ⟨[],[],0⟩ W (.agg ((encE plZ x).map .d)) (.agg cs)∧szE x+1≤2 * Rows.uptoBulk d∧wE x+1≤2 * Rows.uptoBulk d∧rngE x=true:=by
 obtain ⟨ds,b,h1,h2,h3⟩:=arg_plain (nG:=nG) (by decide) h
 obtain ⟨x,rfl,g1,g2,g3⟩:=decE' h1
 exact ⟨x,h2,by omega,by omega,g3⟩
end
end Go.PM.Lex
end

section
set_option maxRecDepth 100000
set_option maxHeartbeats 8000000
namespace Go.PM.Lex
open Go.Proofs
variable {w0:World} {nG:Nat}
end Go.PM.Lex
end

section
set_option maxRecDepth 100000
set_option maxHeartbeats 4000000
namespace Go.PM.Lex
open Go.Proofs
variable {w0:World} {nG:Nat}
end Go.PM.Lex
end

section
set_option maxRecDepth 100000
set_option maxHeartbeats 4000000
namespace Go.PM.Lex
open Go.Proofs
variable {w0:World} {nG:Nat}
end Go.PM.Lex
end

section
set_option maxRecDepth 100000
set_option maxHeartbeats 4000000
namespace Go.PM.Lex
open Go.Proofs
variable {w0:World} {nG:Nat}
theorem pk_dec {r:Bs} (h:(pk r).1≠-1):r≠[]∧pk r=(((Lib.decodeL r).1:Int),(Lib.decodeL r).2)∧Lib.encodeRune ((Lib.decodeL r).1:Int)=r.take (Lib.decodeL r).2:=by
 by_cases hr:r=[]
 ·rw [hr] at h;simp [pk] at h
 ·by_cases hv:Lib.decodeL r=(65533,1)
  ·unfold pk at h;rw [if_pos (.inr hv)] at h;simp at h
  ·refine ⟨hr,by unfold pk;rw [if_neg (by simp only [not_or];exact ⟨hr,hv⟩)],Lib.encode_decode r hr fun g=>hv (Prod.ext g.1 g.2)⟩
end Go.PM.Lex
end

section
set_option maxRecDepth 100000
namespace Go.PM.Lex
def lpP:Pc:=sgP [40]
def rpP:Pc:=sgP [41]
def FolF (k:Bs):Prop:=k=[]∨∃c z,k=c::z∧c∈([32,41,44,93,40]:Bs)
theorem folf_cons {c:UInt8} (hc:c∈([32,41,44,93,40]:Bs)) (z:Bs):FolF (c::z):=.inr ⟨c,z,rfl,hc⟩
theorem folf_fol {k:Bs} (h:FolF k):FolK k:=by
 rcases h with rfl | ⟨c,z,rfl,hc⟩
 ·exact .inl rfl
 ·have h:∀c∈([32,41,44,93,40]:Bs),c∈folBs:=by decide
  exact folk_cons (h c hc) z
def FinP (p:Pc) (k:Bs):Prop:=(∀z,OkPc p z)∨((∀z,FolF z→OkPc p z)∧FolF k)
theorem FinP.ok {p:Pc} {k:Bs} (h:FinP p k):OkPc p k:=by
 rcases h with h | ⟨h,hk⟩
 ·exact h k
 ·exact h k hk
def FV:List Pc→Bs→Prop
 | [],_=>True
 | p::l,k=>FinP p (bsP l++k)∧FV l k
theorem FV.vf:∀{l:List Pc} {k:Bs},FV l k→VF l k
 | [],_,_=>trivial
 | p::l,k,⟨h1,h2⟩=>⟨h1.ok,FV.vf h2⟩
theorem FV_app (l m:List Pc) (k:Bs):FV (l++m) k↔FV l (bsP m++k)∧FV m k:=by
 induction l with
 | nil=>simp [FV]
 | cons p l ih=>simp only [List.cons_append,FV,ih,bsP_app,List.append_assoc,and_assoc]
theorem fin_sg {w:Bs} (hw:w∈freeW) (k:Bs):FinP (sgP w) k:=.inl fun z=>ok_free hw z
theorem fin_sp (k:Bs):FinP spP k:=.inl fun z=>ok_sp z
theorem fin_nm {s:Bs} (h:nameB s=true) {k:Bs} (hk:FolF k):FinP (nmP s) k:=.inr ⟨fun z hz=>ok_nm h (folf_fol hz),hk⟩
def Sub:List Pc→List Pc→Prop
 | [],[]=>True
 | p::l,q::m=>(q=p∨((p=lpP∨p=rpP)∧q=spP))∧Sub l m
 | _,_=>False
theorem Sub.refl:∀l:List Pc,Sub l l
 | []=>trivial
 | p::l=>⟨.inl rfl,Sub.refl l⟩
theorem Sub.app:∀{a b c d:List Pc},Sub a c→Sub b d→Sub (a++b) (c++d)
 | [],b,[],d,_,h=>h
 | p::a,b,q::c,d,⟨h1,h2⟩,h=>⟨h1,Sub.app h2 h⟩
 | [],b,q::c,d,h1,h=>h1.elim
 | p::a,b,[],d,h1,h=>h1.elim
theorem ok_ne {p:Pc} {k:Bs} (h:OkPc p k):p.bs≠[]:=by
 cases p with
 | blank b=>intro g;cases g
 | tok s t=>exact h.1
theorem sub_fol:∀{l m:List Pc} {k:Bs},Sub l m→FV l k→FolF (bsP l++k)→FolF (bsP m++k)
 | [],[],k,_,_,h=>h
 | p::l,q::m,k,⟨h1,h2⟩,hv,h=>by
  rcases h1 with rfl | ⟨_,rfl⟩
  ·have hne:=ok_ne hv.1.ok
   rw [bsP_cons,List.append_assoc] at h ⊢
   match hq:q.bs,hne with
   | c::z,_ =>
    rw [hq] at h
    rcases h with h | ⟨c',z',h,hc⟩
    ·cases h
    ·injection h with h1 h2
     rw [List.cons_append]
     exact folf_cons (by rw [h1];exact hc) _
  ·rw [bsP_cons];exact folf_cons (by decide) _
 | [],q::m,k,h1,_,h=>h1.elim
 | p::l,[],k,h1,_,h=>h1.elim
theorem FV.sub:∀{l m:List Pc} {k:Bs},Sub l m→FV l k→FV m k
 | [],[],k,_,h=>h
 | p::l,q::m,k,⟨h1,h2⟩,⟨h3,h4⟩=>by
  refine ⟨?_,h4.sub h2⟩
  rcases h1 with rfl | ⟨_,rfl⟩
  ·rcases h3 with h3 | ⟨h3,h5⟩
   ·exact .inl h3
   ·exact .inr ⟨h3,sub_fol h2 h4 h5⟩
  ·exact fin_sp _
 | [],q::m,k,h1,h=>h1.elim
 | p::l,[],k,h1,h=>h1.elim
def net1 (p:Pc):Int:=if p.bs=[40] then 1 else if p.bs=[41] then -1 else 0
def net:List Pc→Int
 | []=>0
 | p::l=>net1 p+net l
theorem net_app (a b:List Pc):net (a++b)=net a+net b:=by
 induction a with
 | nil=>simp [net]
 | cons p l ih=>simp only [List.cons_append,net,ih];omega
structure Dy (ps:List Pc):Prop where
 all:net ps=0
 pre:∀a b,ps=a++b→0≤net a
theorem Dy.nil:Dy []:=⟨rfl,fun a b h=>by cases a with
 | nil=>exact Int.le_refl 0
 | cons x l=>cases h⟩
theorem Dy.one {p:Pc} (h:net1 p=0):Dy [p]:=⟨by simp [net,h],fun a b e=>by
 match a with
 | []=>exact Int.le_refl 0
 | [x]=>rw [List.cons_append] at e;injection e with e1 e2;subst e1;simp [net,h]
 | x::y::l=>rw [List.cons_append,List.cons_append] at e;injection e with e1 e2;cases e2⟩
theorem Dy.app {x y:List Pc} (h1:Dy x) (h2:Dy y):Dy (x++y):=⟨by rw [net_app,h1.all,h2.all];rfl,fun a b e=>by
 rcases List.append_eq_append_iff.1 e with ⟨c,rfl,rfl⟩ | ⟨c,rfl,rfl⟩
 ·have:=h1.all
  rw [net_app,h1.all]
  have:=h2.pre c b rfl
  omega
 ·exact h1.pre a c rfl⟩
theorem Dy.wrap {x:List Pc} (h:Dy x):Dy (lpP::(x++[rpP])):=⟨by
  show net1 lpP+net (x++[rpP])=0
  rw [net_app,h.all];decide,fun a b e=>by
 match a with
 | []=>exact Int.le_refl 0
 | p::a =>
  rw [List.cons_append] at e
  injection e with e1 e2
  subst e1
  show 0≤net1 lpP+net a
  have h1:net1 lpP=1:=by decide
  rcases List.append_eq_append_iff.1 e2 with ⟨c,rfl,h3⟩ | ⟨c,rfl,h3⟩
  ·have h4:0≤net c+1:=by
    match c with
    | []=>decide
    | [q]=>rw [List.cons_append] at h3;injection h3 with h3 h4;subst h3;decide
    | q::r::l=>rw [List.cons_append,List.cons_append] at h3;injection h3 with h3 h4;cases h4
   rw [net_app,h.all,h1];omega
  ·have:=h.pre a c rfl
   rw [h1];omega⟩
def NeuS (s:Bs):Prop:=(∀b∈s,b≠34∧b≠40∧b≠41∧b≠92)∨∃m:List Bs,s=34::(m.flatten++[34])∧∀x∈m,(∃b,x=[92,b])∨∀b∈x,b≠34∧b≠92
def NeuP (p:Pc):Prop:=p=lpP∨p=rpP∨(net1 p=0∧NeuS p.bs)
structure Pz (ps:List Pc):Prop where
 dy:Dy ps
 neu:∀p∈ps,NeuP p
 fv:∀k,FolF k→FV ps k
theorem Pz.nil:Pz [] where
 dy:=Dy.nil
 neu:=fun _ h=>by cases h
 fv:=fun _ _=>trivial
theorem Pz.app {x y:List Pc} (h1:Pz x) (h2:Pz y) (hf:∀k,FolF k→FolF (bsP y++k)):Pz (x++y) where
 dy:=h1.dy.app h2.dy
 neu:=fun p hp=>by
  rcases List.mem_append.1 hp with g | g
  ·exact h1.neu p g
  ·exact h2.neu p g
 fv:=fun k hk=>(FV_app _ _ _).2 ⟨h1.fv _ (hf k hk),h2.fv k hk⟩
theorem Pz.cons {p:Pc} {y:List Pc} (hn:net1 p=0) (hs:NeuS p.bs) (h2:Pz y) (hf:∀k,FolF k→FinP p (bsP y++k)):Pz (p::y) where
 dy:=(Dy.one hn).app h2.dy
 neu:=fun q hq=>by
  rcases List.mem_cons.1 hq with rfl | g
  ·exact .inr (.inr ⟨hn,hs⟩)
  ·exact h2.neu q g
 fv:=fun k hk=>⟨hf k hk,h2.fv k hk⟩
theorem Pz.wrap {x:List Pc} (h:Pz x):Pz (lpP::(x++[rpP])) where
 dy:=h.dy.wrap
 neu:=fun q hq=>by
  rcases List.mem_cons.1 hq with rfl | g
  ·exact .inl rfl
  ·rcases List.mem_append.1 g with g | g
   ·exact h.neu q g
   ·rw [List.mem_singleton.1 g];exact .inr (.inl rfl)
 fv:=fun k hk=>by
  refine ⟨fin_sg (by decide) _,(FV_app _ _ _).2 ⟨h.fv _ ?_,fin_sg (by decide) _,trivial⟩⟩
  rw [bsP_cons,bsP_nil,List.append_nil]
  exact folf_cons (c:=41) (by decide) _
theorem enc_bytes (c:Int) (hc:128≤c):∀b∈Lib.encodeRune c,128≤b.toNat:=by
 intro b hb
 unfold Lib.encodeRune at hb
 obtain ⟨x,hx,rfl⟩:=List.mem_map.1 hb
 have h1:128≤x∧x<256:=by
  refine ⟨?_,(Lib.encodeRuneZ_byte c x hx).2⟩
  unfold Lib.encodeRuneZ at hx
  split at hx
  ·omega
  split at hx
  ·simp only [List.mem_cons,List.not_mem_nil,or_false] at hx;omega
  split at hx
  ·simp only [List.mem_cons,List.not_mem_nil,or_false] at hx;omega
  split at hx
  ·simp only [List.mem_cons,List.not_mem_nil,or_false] at hx;omega
  ·simp only [List.mem_cons,List.not_mem_nil,or_false] at hx;omega
 have:(x.toNat.toUInt8).toNat=x.toNat:=by
  show (UInt8.ofNat x.toNat).toNat=x.toNat
  rw [UInt8.toNat_ofNat'];omega
 omega
theorem dec_bytes {r:Bs} (hr:r≠[]) (hv:Lib.decodeL r≠(65533,1)):(∃b,r.take (Lib.decodeL r).2=[b]∧b.toNat=(Lib.decodeL r).1)∨∀b∈r.take (Lib.decodeL r).2,128≤b.toNat:=by
 have he:=Lib.encode_decode r hr fun g=>hv (Prod.ext g.1 g.2)
 by_cases h:(Lib.decodeL r).1<128
 ·refine .inl ⟨UInt8.ofNat (Lib.decodeL r).1,?_,by rw [UInt8.toNat_ofNat'];omega⟩
  rw [← he]
  unfold Lib.encodeRune
  rw [Lib.encodeRuneZ_one (by omega) (by omega)]
  simp
 ·refine .inr ?_
  rw [← he]
  exact enc_bytes _ (by omega)
theorem name_bytes:∀(f:Nat) (r:Bs),nameGo f r=r.length→∀b∈r,b≠34∧b≠40∧b≠41∧b≠92
 | 0,r,h=>by
  have:r=[]:=List.length_eq_zero_iff.1 h.symm
  subst this
  intro b hb;cases hb
 | f+1,r,h=>by
  by_cases hr:r=[]
  ·subst hr;intro b hb;cases hb
  have hpos:=List.length_pos_iff.2 hr
  have key:((pk r).1=46∨isLetter (pk r).1=true∨isDigit (pk r).1=true)∧nameGo f (r.drop (pk r).2)+(pk r).2=r.length:=by
   rw [nameGo] at h
   split at h
   ·rename_i hc
    split at h
    ·exact ⟨.inl hc,by omega⟩
    ·omega
   split at h
   ·rename_i hc;exact ⟨.inr hc,by omega⟩
   ·omega
  obtain ⟨hk,hl⟩:=key
  have hn1:(pk r).1≠-1:=by
   rcases hk with hk | hk
   ·omega
   ·exact letter_ne hk
  obtain ⟨_,he,henc⟩:=pk_dec hn1
  have hv:Lib.decodeL r≠(65533,1):=fun g=>by
   unfold pk at hn1
   rw [if_pos (.inr g)] at hn1
   exact hn1 rfl
  rw [he] at hk hl
  dsimp only at hk hl
  have ih:=name_bytes f (r.drop (Lib.decodeL r).2) (by rw [List.length_drop];omega)
  intro b hb
  rw [← List.take_append_drop (Lib.decodeL r).2 r] at hb
  rcases List.mem_append.1 hb with hb | hb
  ·rcases dec_bytes hr hv with ⟨b',h1,h2⟩ | h1
   ·rw [h1] at hb
    rw [List.mem_singleton.1 hb]
    have h46:b'.toNat=46∨(b'.toNat≠34∧b'.toNat≠40∧b'.toNat≠41∧b'.toNat≠92):=by
     rcases hk with hk | hk
     ·exact .inl (by omega)
     ·refine .inr ⟨fun g=>?_,fun g=>?_,fun g=>?_,fun g=>?_⟩ <;> (rw [← h2,g] at hk;revert hk;decide)
    refine ⟨fun g=>?_,fun g=>?_,fun g=>?_,fun g=>?_⟩ <;> (subst g;revert h46;decide)
   ·have:=h1 b hb
    refine ⟨fun g=>?_,fun g=>?_,fun g=>?_,fun g=>?_⟩ <;> (subst g;revert this;decide)
  ·exact ih b hb
theorem neu_nm {s:Bs} (h:nameB s=true):NeuS s:=by
 simp only [nameB,Bool.and_eq_true,decide_eq_true_eq] at h
 exact .inl (name_bytes _ _ h.2)
theorem net_of {p:Pc} (h:∀b∈p.bs,b≠34∧b≠40∧b≠41∧b≠92):net1 p=0:=by
 unfold net1
 rw [if_neg,if_neg]
 ·intro g;rw [g] at h;exact (h 41 (by decide)).2.2.1 rfl
 ·intro g;rw [g] at h;exact (h 40 (by decide)).2.1 rfl
theorem net_nm {s:Bs} (h:nameB s=true):net1 (nmP s)=0:=by
 simp only [nameB,Bool.and_eq_true,decide_eq_true_eq] at h
 exact net_of (name_bytes _ _ h.2)
theorem neu_num (n:Int):∀b∈numT n,b≠34∧b≠40∧b≠41∧b≠92:=by
 have hd:∀d:Fin 16,digC d.val≠34∧digC d.val≠40∧digC d.val≠41∧digC d.val≠92:=by decide +kernel
 have hg:∀base:Nat,0<base→base≤16→∀(f m:Nat),∀b∈numGo base f m,b≠34∧b≠40∧b≠41∧b≠92:=by
  intro base h0 h1 f
  induction f with
  | zero=>intro m b hb;cases hb
  | succ f ih =>
   intro m b hb
   rw [numGo] at hb
   split at hb
   ·rename_i c
    rw [List.mem_singleton.1 hb]
    exact hd ⟨m,by omega⟩
   ·rcases List.mem_append.1 hb with hb | hb
    ·exact ih _ b hb
    ·rw [List.mem_singleton.1 hb]
     have:=Nat.mod_lt m h0
     exact hd ⟨m % base,by omega⟩
 intro b hb
 unfold numT at hb
 split at hb
 ·rcases List.mem_append.1 hb with hb | hb
  ·have h2:∀b∈([48,120]:Bs),b≠34∧b≠40∧b≠41∧b≠92:=by decide
   exact h2 b hb
  ·exact hg 16 (by omega) (by omega) _ _ b hb
 ·exact hg 10 (by omega) (by omega) _ _ b hb
theorem neu_quo:∀(f:Nat) (r:Bs) (m:List Bs) (q:Bs),(∀x∈m,(∃b,x=[92,b])∨∀b∈x,b≠34∧b≠92)→Lib.validGoD f r=true∨Lib.validGoD (f - 1) r=true→r.length<f→quoGo f r (34::m.flatten)=some q→∃m':List Bs,q=34::m'.flatten∧∀x∈m',(∃b,x=[92,b])∨∀b∈x,b≠34∧b≠92
 | 0,r,m,q,hm,hv,hf,h=>by simp [quoGo] at h
 | f+1,r,m,q,hm,hv,hf,h=>by
  unfold quoGo at h
  split at h
  ·cases h;exact ⟨m,rfl,hm⟩
  ·rename_i hr
   have hpos:=List.length_pos_iff.2 hr
   have hd:=Lib.decodeL_le r hr
   have hrg:=dec_rng r
   have hnv:¬((Lib.decodeL r).1=65533∧(Lib.decodeL r).2=1)∧(Lib.validGoD f (r.drop (Lib.decodeL r).2)=true∨Lib.validGoD (f - 1) (r.drop (Lib.decodeL r).2)=true):=by
    rcases hv with hv | hv
    ·unfold Lib.validGoD at hv
     rw [if_neg hr] at hv
     split at hv
     ·cases hv
     ·rename_i g;exact ⟨g,.inl hv⟩
    ·simp only [Nat.add_sub_cancel] at hv
     obtain ⟨f2,rfl⟩:∃k,f=k+1:=⟨f - 1,by omega⟩
     unfold Lib.validGoD at hv
     rw [if_neg hr] at hv
     split at hv
     ·cases hv
     ·rename_i g;exact ⟨g,.inr hv⟩
   have step:∀x:Bs,((∃b,x=[92,b])∨∀b∈x,b≠34∧b≠92)→quoGo f (r.drop (Lib.decodeL r).2) ((34::m.flatten)++x)=some q→∃m':List Bs,q=34::m'.flatten∧∀x∈m',(∃b,x=[92,b])∨∀b∈x,b≠34∧b≠92:=fun x hx g=>by
    refine neu_quo f _ (m++[x]) q (fun y hy=>?_) hnv.2 (by rw [List.length_drop];omega) ?_
    ·rcases List.mem_append.1 hy with hy | hy
     ·exact hm y hy
     ·rw [List.mem_singleton.1 hy];exact hx
    ·simpa using g
   split at h
   ·rename_i b hb
    exact step [92,b] (.inl ⟨b,rfl⟩) h
   ·rename_i hb
    split at h
    ·cases h
    ·rename_i h32
     refine step _ (.inr ?_) h
     obtain ⟨n34,n92⟩:=unesc_none hb
     rw [Lib.encode_decode r hr hnv.1]
     intro b hb2
     rcases dec_bytes hr (fun g=>hnv.1 ⟨by rw [g],by rw [g]⟩) with ⟨b',h1,h2⟩ | h1
     ·rw [h1] at hb2
      rw [List.mem_singleton.1 hb2]
      refine ⟨fun g=>n34 ?_,fun g=>n92 ?_⟩ <;> (rw [← h2,g];rfl)
     ·have:=h1 b hb2
      refine ⟨fun g=>?_,fun g=>?_⟩ <;> (subst g;revert this;decide)
theorem neu_str {s q:Bs} (h:quoteF s=some q):NeuS q∧q≠[40]∧q≠[41]:=by
 unfold quoteF at h
 split at h
 ·rename_i hv
  cases hq:quoGo (s.length+1) s [34] with
  | none=>rw [hq] at h;cases h
  | some x =>
   rw [hq] at h
   cases h
   obtain ⟨m,rfl,hm⟩:=neu_quo (s.length+1) s [] x (fun _ g=>by cases g) (.inr hv) (by omega) hq
   refine ⟨.inr ⟨m,rfl,hm⟩,fun g=>?_,fun g=>?_⟩ <;> (simp only [List.cons_append] at g;injection g with g1 g2;revert g1;decide)
 ·cases h
theorem free_neu:∀w∈freeW,w≠[40]→w≠[41]→∀b∈w,b≠34∧b≠40∧b≠41∧b≠92:=by decide
theorem Pz.sg {w:Bs} (hw:w∈freeW) (h1:w≠[40]) (h2:w≠[41]) {y:List Pc} (hy:Pz y):Pz (sgP w::y) :=
 Pz.cons (p:=sgP w) (net_of (free_neu w hw h1 h2)) (.inl (free_neu w hw h1 h2)) hy fun k _=>fin_sg hw _
theorem Pz.sp {y:List Pc} (hy:Pz y):Pz (spP::y):=Pz.cons (p:=spP) (by decide) (.inl (by decide)) hy fun k _=>fin_sp _
theorem Pz.nm {s:Bs} (h:nameB s=true) {y:List Pc} (hy:Pz y) (hf:∀k,FolF k→FolF (bsP y++k)):Pz (nmP s::y) :=
 Pz.cons (p:=nmP s) (net_nm h) (neu_nm h) hy fun k hk=>fin_nm h (hf k hk)
theorem Pz.one {s:Bs} {t:T0} (h1:net1 (.tok s t)=0) (h2:NeuS s) (h3:∀k,FolK k→OkPc (.tok s t) k):Pz [.tok s t] :=
 Pz.cons (p:=.tok s t) h1 h2 Pz.nil fun k hk=>.inr ⟨fun z hz=>h3 z (folf_fol hz),by rw [bsP_nil,List.nil_append];exact hk⟩
theorem tails_pz:∀l:List (List Pc),(∀x∈l,Pz x)→Pz (tailsP cmP l)∧∀k,FolF k→FolF (bsP (tailsP cmP l)++k)
 | [],h=>⟨Pz.nil,fun k hk=>hk⟩
 | x::l,h=>by
  obtain ⟨h1,h2⟩:=tails_pz l fun y hy=>h y (List.mem_cons_of_mem _ hy)
  refine ⟨Pz.sg (w:=[44]) (by decide) (by decide) (by decide) (Pz.sp ((h x (by simp)).app h1 h2)),fun k hk=>?_⟩
  rw [tailsP,bsP_app]
  exact folf_cons (c:=44) (by decide) _
theorem commas_pz {l:List (List Pc)} (h:∀x∈l,Pz x):Pz (commasP cmP l):=by
 cases l with
 | nil=>exact Pz.nil
 | cons x l =>
  obtain ⟨h1,h2⟩:=tails_pz l fun y hy=>h y (List.mem_cons_of_mem _ hy)
  exact (h x (by simp)).app h1 h2
theorem br_pz {l:List (List Pc)} (h:∀x∈l,Pz x):Pz (brP [40] [41] l):=(commas_pz h).wrap
theorem br_pz2 {l:List (List Pc)} (h:∀x∈l,Pz x):Pz (brP [91] [93] l):=by
 refine Pz.sg (by decide) (by decide) (by decide) ((commas_pz h).app (Pz.sg (by decide) (by decide) (by decide) Pz.nil) fun k _=>?_)
 rw [bsP_cons]
 exact folf_cons (c:=93) (by decide) _
theorem par_pz {w:Nat} {p:Nat×List Pc} (h:Pz p.2):Pz (parPc w p):=by
 unfold parPc
 split
 ·exact h.wrap
 ·exact h
theorem op_pz {op:Nat} (h:-2<argsN op) (hl:lineF op<5) {y:List Pc} (hy:Pz y):Pz (opP op::spP::y):=by
 obtain ⟨p1,p2,p3⟩:=op_pc h
 have h1:∀o:Fin 26,-2<argsN o.val→lineF o.val<5→¬(15≤o.val∧o.val≤19)→∀b∈wordF o.val,b≠34∧b≠40∧b≠41∧b≠92:=by decide +kernel
 unfold opP
 split
 ·rename_i c
  exact Pz.nm ((p1 hl).1 c) (Pz.sp hy) fun k _=>by rw [bsP_cons];exact folf_cons (c:=32) (by decide) _
 ·rename_i c
  have hb:=h1 ⟨op,op_lt h⟩ h hl c
  refine ⟨?_,?_,?_⟩
  ·exact (Dy.one (p:=sgP (wordF op)) (net_of hb)).app (Pz.sp hy).dy
  ·intro q hq
   rcases List.mem_cons.1 hq with rfl | g
   ·exact .inr (.inr ⟨net_of (p:=sgP (wordF op)) hb,.inl hb⟩)
   ·exact (Pz.sp hy).neu q g
  ·intro k hk
   refine ⟨?_,(Pz.sp hy).fv k hk⟩
   by_cases hf:wordF op∈freeW
   ·exact fin_sg hf _
   ·have h2:∀o:Fin 26,-2<argsN o.val→lineF o.val<5→¬(15≤o.val∧o.val≤19)→wordF o.val∈freeW∨wordF o.val=[47]:=by decide +kernel
    have h47:=(h2 ⟨op,op_lt h⟩ h hl c).resolve_left hf
    refine .inr ⟨fun z hz=>ok_sg ⟨.inr ((p1 hl).2 c),?_⟩,by rw [bsP_cons];exact folf_cons (c:=32) (by decide) _⟩
    rcases hz with rfl | ⟨d,z,rfl,hd⟩
    ·exact .inr (.inl rfl)
    ·have h3:∀c∈([32,41,44,93,40]:Bs),c≠45∧c≠61∧c≠58∧c≠47∧c≠42:=by decide
     exact .inr (.inr ⟨d,z,rfl,h3 d hd⟩)
theorem ex_pz:∀(n:Nat) (e:Ex),SizeOf.sizeOf e<n→mayE e=true→rngE e=true→Pz (exP e)
 | 0,e,h,_,_=>by omega
 | q+1,.mk op t n l a,h,hm,hr=>by
  obtain ⟨m1,m2,m3,m4,m5⟩:=mayE_mk hm
  obtain ⟨f1,f2,f3,f4,f5⟩:=op_facts m1
  obtain ⟨p1,p2,p3⟩:=op_pc m1
  obtain ⟨r1,r2⟩:=rngE_mk hr
  have ih:∀x∈l,Pz (exP x):=fun x hx=>ex_pz q x (sz_lt h hx) (m5 x hx) (r2 x hx)
  have ihm:∀x∈l.map exP,Pz x:=fun x hx=>by obtain ⟨y,hy,rfl⟩:=List.mem_map.1 hx;exact ih y hy
  rw [exP_mk,exPsP_eq]
  unfold exNP
  by_cases c1:lineF op<5
  ·obtain ⟨x,y,rfl⟩:=two_of (l:=l) (by have:=f1 c1;omega)
   rw [if_pos c1]
   simp only [List.map_cons,List.map_nil,exAP]
   refine (par_pz (p:=(_,exP x)) (ih x (by simp))).app (Pz.sp (op_pz m1 c1 (par_pz (p:=(_,exP y)) (ih y (by simp))))) fun k _=>?_
   rw [List.cons_append,bsP_cons]
   exact folf_cons (c:=32) (by decide) _
  rw [if_neg c1]
  by_cases c2:lineF op=5
  ·obtain ⟨x,rfl⟩:=one_of (l:=l) (by have:=f2 c2;omega)
   rw [if_pos c2]
   simp only [List.map_cons,List.map_nil,exAP]
   have h2:∀o:Fin 26,-2<argsN o.val→lineF o.val=5→wordF o.val≠[40]∧wordF o.val≠[41]:=by decide +kernel
   obtain ⟨w1,w2⟩:=h2 ⟨op,op_lt m1⟩ m1 c2
   exact Pz.sg (p2 c2) w1 w2 (par_pz (p:=(_,exP x)) (ih x (by simp)))
  have c3:lineF op=6:=by omega
  rw [if_neg c2]
  have hsnd:(l.map fun e=>(lineF (opE e),exP e)).map Prod.snd=l.map exP:=by rw [List.map_map];rfl
  rw [hsnd]
  by_cases c4:wordF op≠[]
  ·rw [if_pos c4]
   exact Pz.nm (p3 c3 c4) (br_pz ihm) fun k _=>folf_cons (c:=40) (by decide) _
  rw [if_neg c4]
  rcases f5 c3 (by simpa using c4) with rfl | rfl | rfl | rfl | rfl | rfl | rfl
  ·exact Pz.nm (nam_name (text_nam m4 (.inl rfl))) Pz.nil fun k hk=>hk
  ·exact Pz.nm (s:=[95]) (by decide +kernel) Pz.nil fun k hk=>hk
  ·exact Pz.one (net_of (p:=.tok (numT n) ⟨2,[],n⟩) (neu_num n)) (.inl (neu_num n)) fun k hk=>ok_num r1.1 r1.2 hk
  ·have hq:(quoteF t).isSome=true:=by unfold textB at m4;rw [if_neg (by decide),if_pos rfl] at m4;exact m4
   obtain ⟨v,hv⟩:=Option.isSome_iff_exists.1 hq
   have:quoT t=v:=by rw [quoT,hv];rfl
   show Pz [.tok (quoT t) ⟨3,t,0⟩]
   rw [this]
   obtain ⟨n1,n2,n3⟩:=neu_str hv
   exact Pz.one (by unfold net1;rw [if_neg (show ¬(Pc.tok v ⟨3,t,0⟩).bs=[40] from n2),if_neg (show ¬(Pc.tok v ⟨3,t,0⟩).bs=[41] from n3)]) n1 fun k hk=>ok_quo hv hk
  ·exact Pz.nm (s:=[110,105,108]) (by decide +kernel) Pz.nil fun k hk=>hk
  ·exact br_pz2 ihm
  ·have hn:=nam_name (text_nam m4 (.inr rfl))
   show Pz (sgP [36]::nmP t::(if (l.map fun e=>(lineF (opE e),exP e)).length=0 then [] else brP [40] [41] (l.map exP)))
   rw [List.length_map]
   by_cases hl:l.length=0
   ·rw [if_pos hl]
    exact Pz.sg (by decide) (by decide) (by decide) (Pz.nm hn Pz.nil fun k hk=>hk)
   ·rw [if_neg hl]
    exact Pz.sg (by decide) (by decide) (by decide) (Pz.nm hn (br_pz ihm) fun k _=>folf_cons (c:=40) (by decide) _)
end Go.PM.Lex
end

section
set_option maxRecDepth 100000
namespace Go.PM.Lex
def shutG:Nat→Bs→Nat→Int→Bool→Option Nat
 | 0,_,_,_,_=>none
 | _+1,[],_,_,_=>none
 | f+1,c::z,i,d,q=>if c=92∧q=true then shutG f z.tail (i+2) d q
  else if (if c=34 then !q else q)=true then shutG f z (i+1) d true
  else if c=40 then shutG f z (i+1) (d+1) false
  else if c=41 then (if d - 1=0 then some i else shutG f z (i+1) (d - 1) false)
  else shutG f z (i+1) d false
theorem shut_plain {z:Bs} {d:Int}:∀(s:Bs) (f i:Nat),(∀b∈s,b≠34∧b≠40∧b≠41∧b≠92)→(s++z).length<f→∃f',z.length<f'∧shutG f (s++z) i d false=shutG f' z (i+s.length) d false
 | [],f,i,h,hf=>⟨f,hf,rfl⟩
 | c::s,0,i,h,hf=>by omega
 | c::s,f+1,i,h,hf=>by
  obtain ⟨h1,h2,h3,h4⟩:=h c (List.mem_cons_self ..)
  obtain ⟨f',g1,g2⟩:=shut_plain (z:=z) (d:=d) s f (i+1) (fun b hb=>h b (List.mem_cons_of_mem _ hb)) (by simp only [List.cons_append,List.length_cons] at hf;omega)
  refine ⟨f',g1,?_⟩
  rw [List.cons_append,shutG,if_neg (by simp [h4]),if_neg h1,if_neg (by simp),if_neg h2,if_neg h3,g2,List.length_cons,show i+1+s.length=i+(s.length+1) by omega]
theorem shut_in {z:Bs} {d:Int}:∀(s:Bs) (f i:Nat),(∀b∈s,b≠34∧b≠92)→(s++z).length<f→∃f',z.length<f'∧shutG f (s++z) i d true=shutG f' z (i+s.length) d true
 | [],f,i,h,hf=>⟨f,hf,rfl⟩
 | c::s,0,i,h,hf=>by omega
 | c::s,f+1,i,h,hf=>by
  obtain ⟨h1,h4⟩:=h c (List.mem_cons_self ..)
  obtain ⟨f',g1,g2⟩:=shut_in (z:=z) (d:=d) s f (i+1) (fun b hb=>h b (List.mem_cons_of_mem _ hb)) (by simp only [List.cons_append,List.length_cons] at hf;omega)
  refine ⟨f',g1,?_⟩
  rw [List.cons_append,shutG,if_neg (by simp [h4]),if_neg h1,if_pos rfl,g2,List.length_cons,show i+1+s.length=i+(s.length+1) by omega]
theorem shut_str {z:Bs} {d:Int}:∀(m:List Bs) (f i:Nat),(∀x∈m,(∃b,x=[92,b])∨∀b∈x,b≠34∧b≠92)→(m.flatten++z).length<f→∃f',z.length<f'∧shutG f (m.flatten++z) i d true=shutG f' z (i+m.flatten.length) d true
 | [],f,i,h,hf=>⟨f,by simpa using hf,by simp⟩
 | x::m,f,i,h,hf=>by
  rw [List.flatten_cons,List.append_assoc] at hf ⊢
  have hm:=fun y hy=>h y (List.mem_cons_of_mem x hy)
  rcases h x (List.mem_cons_self ..) with ⟨b,rfl⟩ | hx
  ·obtain ⟨f,rfl⟩:∃g,f=g+1:=⟨f - 1,by omega⟩
   obtain ⟨f',g1,g2⟩:=shut_str (z:=z) (d:=d) m f (i+2) hm (by simp only [List.length_append,List.length_cons,List.length_nil] at hf ⊢;omega)
   refine ⟨f',g1,?_⟩
   show shutG (f+1) (92::b::(m.flatten++z)) i d true=_
   rw [shutG,if_pos ⟨rfl,rfl⟩,List.tail_cons,g2,List.length_append]
   rw [show i+2+m.flatten.length=i+(([92,b]:Bs).length+m.flatten.length) by simp only [List.length_cons,List.length_nil];omega]
  ·obtain ⟨f1,k1,k2⟩:=shut_in (z:=m.flatten++z) (d:=d) x f i hx hf
   obtain ⟨f',g1,g2⟩:=shut_str (z:=z) (d:=d) m f1 (i+x.length) hm k1
   exact ⟨f',g1,by rw [k2,g2,List.length_append,Nat.add_assoc]⟩
theorem shut_neu {s z:Bs} {d:Int} (hs:NeuS s) (f i:Nat) (hf:(s++z).length<f):∃f',z.length<f'∧shutG f (s++z) i d false=shutG f' z (i+s.length) d false:=by
 rcases hs with hs | ⟨m,rfl,hm⟩
 ·exact shut_plain s f i hs hf
 ·obtain ⟨f,rfl⟩:∃g,f=g+1:=⟨f - 1,by omega⟩
  rw [List.cons_append,List.append_assoc] at hf ⊢
  obtain ⟨f1,k1,k2⟩:=shut_str (z:=[34]++z) (d:=d) m f (i+1) hm (by simp only [List.length_cons] at hf;omega)
  obtain ⟨f2,rfl⟩:∃g,f1=g+1:=⟨f1 - 1,by omega⟩
  refine ⟨f2,by simp only [List.length_append,List.length_cons,List.length_nil] at k1;omega,?_⟩
  rw [shutG,if_neg (by decide),if_pos (by rfl),k2]
  rw [List.cons_append,List.nil_append,shutG,if_neg (by decide),if_neg (by decide),if_neg (by decide),if_neg (by decide)]
  rw [show i+1+m.flatten.length+1=i+(34::(m.flatten++[34]):Bs).length by simp only [List.length_cons,List.length_append,List.length_nil];omega]
theorem shut_pieces:∀(B:List Pc) (i:Nat) (d:Int),1≤d→net B≤-d→(∀p∈B,NeuP p)→∃M B',B=M++rpP::B'∧∀f,(bsP B).length<f→shutG f (bsP B) i d false=some (i+(bsP M).length)
 | [],i,d,hd,hn,hp=>by simp only [net] at hn;omega
 | p::B,i,d,hd,hn,hp=>by
  have hp2:=fun q hq=>hp q (List.mem_cons_of_mem p hq)
  have hn2:net1 p+net B≤-d:=hn
  rcases hp p (List.mem_cons_self ..) with rfl | rfl | ⟨h1,h2⟩
  ·have e1:net1 lpP=1:=by decide
   obtain ⟨M,B',rfl,h3⟩:=shut_pieces B (i+1) (d+1) (by omega) (by omega) hp2
   refine ⟨lpP::M,B',rfl,fun f hf=>?_⟩
   obtain ⟨f,rfl⟩:∃g,f=g+1:=⟨f - 1,by omega⟩
   have e2:∀l,bsP (lpP::l)=40::bsP l:=fun l=>by rw [bsP_cons];rfl
   rw [e2] at hf ⊢
   rw [shutG,if_neg (by decide),if_neg (by decide),if_pos rfl,h3 f (by simp only [List.length_cons] at hf;omega),e2,List.length_cons]
   rw [show i+1+(bsP M).length=i+((bsP M).length+1) by omega]
  ·have e1:net1 rpP=-1:=by decide
   have e2:∀l,bsP (rpP::l)=41::bsP l:=fun l=>by rw [bsP_cons];rfl
   by_cases c:d - 1=0
   ·refine ⟨[],B,rfl,fun f hf=>?_⟩
    obtain ⟨f,rfl⟩:∃g,f=g+1:=⟨f - 1,by omega⟩
    rw [e2,shutG,if_neg (by decide),if_neg (by decide),if_neg (by decide),if_pos rfl,if_pos c]
    rfl
   ·obtain ⟨M,B',rfl,h3⟩:=shut_pieces B (i+1) (d - 1) (by omega) (by omega) hp2
    refine ⟨rpP::M,B',rfl,fun f hf=>?_⟩
    obtain ⟨f,rfl⟩:∃g,f=g+1:=⟨f - 1,by omega⟩
    rw [e2] at hf ⊢
    rw [shutG,if_neg (by decide),if_neg (by decide),if_neg (by decide),if_pos rfl,if_neg c,h3 f (by simp only [List.length_cons] at hf;omega),e2,List.length_cons]
    rw [show i+1+(bsP M).length=i+((bsP M).length+1) by omega]
  ·obtain ⟨M,B',rfl,h3⟩:=shut_pieces B (i+p.bs.length) d hd (by omega) hp2
   refine ⟨p::M,B',rfl,fun f hf=>?_⟩
   rw [bsP_cons] at hf ⊢
   obtain ⟨f',k1,k2⟩:=shut_neu (d:=d) h2 f i hf
   rw [k2,h3 f' k1,bsP_cons,List.length_append,Nat.add_assoc]
def HitsG (Hit:Nat→Prop):Nat→Bs→Nat→Bool→Prop
 | 0,_,_,_=>True
 | _+1,[],_,_=>True
 | f+1,c::z,i,q=>if c=92∧q=true then HitsG Hit f z.tail (i+2) q
  else ((if c=34 then !q else q)=false→c=40→Hit i)∧HitsG Hit f z (i+1) (if c=34 then !q else q)
theorem hits_plain {Hit:Nat→Prop} {z:Bs}:∀(s:Bs) (f i:Nat),(∀b∈s,b≠34∧b≠40∧b≠41∧b≠92)→(∀f,HitsG Hit f z (i+s.length) false)→HitsG Hit f (s++z) i false
 | [],f,i,h,hf=>hf f
 | c::s,0,i,h,hf=>trivial
 | c::s,f+1,i,h,hf=>by
  obtain ⟨h1,h2,h3,h4⟩:=h c (List.mem_cons_self ..)
  rw [List.cons_append,HitsG,if_neg (by simp [h4]),if_neg h1]
  exact ⟨fun _ g=>absurd g h2,hits_plain s f (i+1) (fun b hb=>h b (List.mem_cons_of_mem _ hb)) fun f=>by
   have:=hf f
   rwa [List.length_cons,show i+(s.length+1)=i+1+s.length by omega] at this⟩
theorem hits_in {Hit:Nat→Prop} {z:Bs}:∀(s:Bs) (f i:Nat),(∀b∈s,b≠34∧b≠92)→(∀f,HitsG Hit f z (i+s.length) true)→HitsG Hit f (s++z) i true
 | [],f,i,h,hf=>hf f
 | c::s,0,i,h,hf=>trivial
 | c::s,f+1,i,h,hf=>by
  obtain ⟨h1,h4⟩:=h c (List.mem_cons_self ..)
  rw [List.cons_append,HitsG,if_neg (by simp [h4]),if_neg h1]
  exact ⟨fun g _=>absurd g (by decide),hits_in s f (i+1) (fun b hb=>h b (List.mem_cons_of_mem _ hb)) fun f=>by
   have:=hf f
   rwa [List.length_cons,show i+(s.length+1)=i+1+s.length by omega] at this⟩
theorem hits_str {Hit:Nat→Prop} {z:Bs}:∀(m:List Bs) (f i:Nat),(∀x∈m,(∃b,x=[92,b])∨∀b∈x,b≠34∧b≠92)→(∀f,HitsG Hit f z (i+m.flatten.length) true)→HitsG Hit f (m.flatten++z) i true
 | [],f,i,h,hf=>by simpa using hf f
 | x::m,f,i,h,hf=>by
  rw [List.flatten_cons,List.append_assoc]
  have hm:=fun y hy=>h y (List.mem_cons_of_mem x hy)
  rw [List.flatten_cons,List.length_append] at hf
  rcases h x (List.mem_cons_self ..) with ⟨b,rfl⟩ | hx
  ·match f with
   | 0=>trivial
   | f+1 =>
    show HitsG Hit (f+1) (92::b::(m.flatten++z)) i true
    rw [HitsG,if_pos ⟨rfl,rfl⟩,List.tail_cons]
    exact hits_str m f (i+2) hm fun f=>by
     have:=hf f
     rwa [show i+(([92,b]:Bs).length+m.flatten.length)=i+2+m.flatten.length by simp only [List.length_cons,List.length_nil];omega] at this
  ·exact hits_in x f i hx fun f=>hits_str m f (i+x.length) hm fun f=>by
    have:=hf f
    rwa [← Nat.add_assoc] at this
theorem hits_neu {Hit:Nat→Prop} {s z:Bs} (hs:NeuS s) (f i:Nat) (hf:∀f,HitsG Hit f z (i+s.length) false):HitsG Hit f (s++z) i false:=by
 rcases hs with hs | ⟨m,rfl,hm⟩
 ·exact hits_plain s f i hs hf
 ·match f with
  | 0=>trivial
  | f+1 =>
   rw [List.cons_append,List.append_assoc,HitsG,if_neg (by decide),if_pos rfl]
   refine ⟨fun g=>(by cases g),hits_str m f (i+1) hm fun f=>?_⟩
   match f with
   | 0=>trivial
   | f+1 =>
    rw [List.cons_append,List.nil_append,HitsG,if_neg (by decide),if_pos rfl]
    refine ⟨fun _ g=>absurd g (by decide),?_⟩
    have:=hf f
    rwa [show i+(34::(m.flatten++[34]):Bs).length=i+1+m.flatten.length+1 by simp only [List.length_cons,List.length_append,List.length_nil];omega] at this
def HitP (ps:List Pc) (i:Nat):Prop:=∃A B,ps=A++lpP::B∧(bsP A).length=i
theorem hits_pieces {ps:List Pc}:∀(B A:List Pc) (f:Nat),ps=A++B→(∀p∈B,NeuP p)→HitsG (HitP ps) f (bsP B) (bsP A).length false
 | [],A,0,e,h=>trivial
 | [],A,f+1,e,h=>trivial
 | p::B,A,f,e,h=>by
  have hA:(bsP (A++[p])).length=(bsP A).length+p.bs.length:=by rw [bsP_app,List.length_append,bsP_cons,bsP_nil,List.append_nil]
  have ih:=fun f=>hits_pieces (ps:=ps) B (A++[p]) f (by rw [e];simp) fun q hq=>h q (List.mem_cons_of_mem p hq)
  rw [hA] at ih
  rw [bsP_cons]
  have sgl:∀c:UInt8,p.bs=[c]→c≠34→c≠92→(c=40→p=lpP)→HitsG (HitP ps) f (p.bs++bsP B) (bsP A).length false:=fun c hc h1 h2 h3=>by
   rw [hc] at ih ⊢
   match f with
   | 0=>trivial
   | f+1 =>
    rw [List.cons_append,List.nil_append,HitsG,if_neg (by simp [h2]),if_neg h1]
    exact ⟨fun _ g=>⟨A,B,by rw [e,h3 g],rfl⟩,ih f⟩
  rcases h p (List.mem_cons_self ..) with rfl | rfl | ⟨h1,h2⟩
  ·exact sgl 40 rfl (by decide) (by decide) fun _=>rfl
  ·exact sgl 41 rfl (by decide) (by decide) fun g=>absurd g (by decide)
  ·exact hits_neu h2 f _ ih
theorem hit_shut {e:Ex} (hm:mayE e=true) (hr:rngE e=true) {i:Nat} (h:HitP (exP e) i):∃A M B:List Pc,exP e=A++(lpP::(M++(rpP::B)))∧(bsP A).length=i ∧
  (∀f,(exT e).length - i<f→shutG f ((exT e).drop i) i 0 false=some (i+1+(bsP M).length))∧exT e=bsP A++(40::(bsP M++(41::bsP B))):=by
 have hz:=ex_pz _ e (Nat.lt_succ_self _) hm hr
 obtain ⟨A,C,hp,hi⟩:=h
 have hd:net C≤-1:=by
  have h1:=hz.dy.all
  have h2:=hz.dy.pre A _ hp
  rw [hp,net_app] at h1
  have h3:net (lpP::C)=1+net C:=rfl
  omega
 obtain ⟨M,B,rfl,h4⟩:=shut_pieces C (i+1) 1 (by omega) hd fun p hq=>hz.neu p (by rw [hp];simp [hq])
 have ht:exT e=bsP A++(40::bsP (M++rpP::B)):=by
  rw [← exP_bs,hp,bsP_app,bsP_cons];rfl
 refine ⟨A,M,B,hp,hi,fun f hf=>?_,?_⟩
 ·obtain ⟨f,rfl⟩:∃g,f=g+1:=⟨f - 1,by omega⟩
  rw [ht] at hf ⊢
  rw [← hi,List.drop_left,shutG,if_neg (by decide),if_neg (by decide),if_pos rfl]
  rw [hi]
  refine h4 f ?_
  simp only [List.length_append,List.length_cons] at hf ⊢
  omega
 ·rw [ht,bsP_app,bsP_cons];rfl
theorem pair_out {e x:Ex} (hm:mayE e=true) (hr:rngE e=true) {A M B:List Pc} (hp:exP e=A++(lpP::(M++(rpP::B)))) {L:List Tok} (h:readTop 65536 16384 (exprD 64) (bsP A++(32::(bsP M++(32::bsP B))))=.ok x L):sameE x e=false:=by
 have hz:=ex_pz _ e (Nat.lt_succ_self _) hm hr
 have hs:Sub (exP e) (A++(spP::(M++(spP::B)))):=by
  rw [hp]
  exact Sub.app (Sub.refl A) ⟨.inr ⟨.inl rfl,rfl⟩,Sub.app (Sub.refl M) ⟨.inr ⟨.inr rfl,rfl⟩,Sub.refl B⟩⟩
 have hv:=((hz.fv [] (.inl rfl)).sub hs).vf
 have hb:bsP (A++(spP::(M++(spP::B))))=bsP A++(32::(bsP M++(32::bsP B))):=by simp
 have ht:(tsP (A++(spP::(M++(spP::B))))).length+2=kl e:=by
  unfold kl
  rw [← exP_ts,hp]
  simp only [tsP_app,tsP_cons,ts_sp,lpP,rpP,ts_sg,List.length_append,List.length_nil,List.length_cons]
  omega
 rw [← hb] at h
 obtain ⟨k1,k2⟩:=all_pieces _ ((bsP (A++(spP::(M++(spP::B))))).length+1) ((16384:Nat):Int) 0 hv (Nat.lt_succ_self _)
 unfold readTop at h
 split at h
 ·cases h
 split at h
 ·cases h
 rename_i h0
 have hle:((tsP (A++(spP::(M++(spP::B))))).length:Int)≤((16384:Nat):Int):=by
  refine Int.not_lt.1 fun g=>?_
  obtain ⟨l,p,hl⟩:=k2 g (by omega)
  refine h0 ?_
  show (allGo _ _ _ _).2.2≠0
  rw [hl];exact (by decide:(3:Nat)≠0)
 obtain ⟨l,p,hl,hk⟩:=k1 hle
 have hl2:(allF (bsP (A++(spP::(M++(spP::B))))) ((16384:Nat):Int)).1=l:=by
  show (allGo _ _ _ _).1=l
  rw [hl]
 rw [hl2,hk] at h
 split at h
 ·rename_i v hv2
  cases h
  have h1:=expr_min 64 hv2
  simp only [List.length_nil] at h1
  cases hs:sameE x e with
  | false=>rfl
  | true =>
   have:=kl_of (er_of_sameE x e hs)
   omega
 ·cases h
 ·cases h
end Go.PM.Lex
end
