/- A part of the proof: plain logic, contracts and laws over the given program. -/
import Derived.Lib.MapLaws
import Derived.Test.YtflgockgjnddnaaGreatDoorE09
set_option linter.unusedVariables false
set_option linter.unusedSimpArgs false
set_option linter.all false
set_option maxRecDepth 100000
set_option maxHeartbeats 16000000
section
namespace Go.PM.Lex
open Go.Proofs
variable {w0:World} {nG:Nat}
theorem ZvJ {p:UInt8→Bool}:∀(l:Bs) (k:Nat),k≤(l.takeWhile p).length→(k<l.length→(p (l.getD k 0)=true↔k<(l.takeWhile p).length))∧(l.length≤k→k=(l.takeWhile p).length)∧(k<(l.takeWhile p).length→k<l.length∧(l.takeWhile p).getD k 0=l.getD k 0)
 | [],k,h=>by simp at h;subst h;simp
 | b::l,k,h=>by
  by_cases hb:p b=true
  ·rw [List.takeWhile_cons_of_pos hb] at h ⊢
   cases k with
   | zero=>simp [hb]
   | succ k =>
    have ih:=ZvJ (p:=p) l k (by simpa using h);simp only [Td,Sr,Nat.add_lt_add_iff_right,Nat.add_le_add_iff_right];exact ⟨ih.1,fun g=>by have:=ih.2.1 g;omega,ih.2.2⟩
  ·rw [List.takeWhile_cons_of_neg hb] at h ⊢;simp only [Te,Nat.le_zero] at h;subst h;simp [hb]
theorem Vn {s:Bs} {o k:Nat}:(s.drop o).getD k 0=s.getD (o+k) 0:=by
 rw [TS,Sv,← TS]
theorem ZmA (b:UInt8):(0≤ZvE b.toNat↔Xx true b=true)∧(Xx true b=true→ZvE b.toNat=Zbo b∧Zbo b<16):=by
 have key:∀n:Fin 256,(0≤ZvE (n.val:Int)↔Xx true (UInt8.ofNat n.val)=true)∧(Xx true (UInt8.ofNat n.val)=true→ZvE (n.val:Int)=Zbo (UInt8.ofNat n.val)∧Zbo (UInt8.ofNat n.val)<16):=by decide +kernel
 have:=key ⟨b.toNat,b.toNat_lt⟩;simpa using this
theorem ZxD {m d:Nat} (hm:m<2 ^ 60) (hd:d<16):Zk .or .u64 ((m:Int) * 16) (d:Int)=((m * 16+d:Nat):Int):=by
 have e:Zk .or .u64 ((m:Int) * 16) (d:Int)=IntKind.u64.wrap (BitVec.ofInt 64 ((m:Int) * 16) ||| BitVec.ofInt 64 (d:Int)).toNat:=by rw [Ys];rfl
 have h1:(BitVec.ofInt 64 ((m:Int) * 16)).toNat=m * 16:=by
  rw [show (m:Int) * 16=((m * 16:Nat):Int) by simp,BitVec.ofInt_natCast,BitVec.toNat_ofNat];omega
 have h2:(BitVec.ofInt 64 (d:Int)).toNat=d:=by rw [BitVec.ofInt_natCast,BitVec.toNat_ofNat];omega
 have h3:m * 16 ||| d=m * 16+d:=by
  have:=Nat.two_pow_add_eq_or_of_lt (i:=4) (b:=d) (by omega) m;rw [show (2:Nat) ^ 4=16 by rfl] at this;rw [Sz m 16,← this]
 rw [e,BitVec.toNat_or,h1,h2,h3];have:InR .u64 ((m * 16+d:Nat):Int):=InR.u64 (by omega) (by omega);exact this
theorem ZmB (n:Int):0≤IntKind.u64.wrap n∧IntKind.u64.wrap n<18446744073709551616:=by
 unfold IntKind.wrap
 simp only [show IntKind.u64.bits=64 from rfl,show IntKind.u64.signed=false from rfl,Sc];simp;omega
theorem Zsz (x y:Int):0≤Zk .or .u64 x y∧Zk .or .u64 x y<18446744073709551616:=by
 have e:Zk .or .u64 x y=IntKind.u64.wrap (BitVec.ofInt 64 x ||| BitVec.ofInt 64 y).toNat:=by rw [Ys];rfl
 rw [e];exact ZmB _
theorem ZvK:∀(l:Bs),(∀b∈l,Zbo b<16)→XB 16 l<16 ^ l.length:=by
 intro l
 have key:∀(l:Bs) (n m:Nat),n<16 ^ m→(∀b∈l,Zbo b<16)→l.foldl (fun n b=>n * 16+Zbo b) n<16 ^ (m+l.length):=by
  intro l
  induction l with
  | nil=>intro n m h _;exact h
  | cons b l ih =>
   intro n m h hb
   have h1:=hb b (by simp);have:=ih (n * 16+Zbo b) (m+1) (by rw [Nat.pow_succ];omega) (fun c hc=>hb c (by simp [hc]));simpa [Sb,Nat.add_comm 1] using this
 intro hb
 have:=key l 0 0 (by simp) hb;simpa [XB] using this
noncomputable def Zjx:Zr:=fun args σ K=>match args,σ with
 | [.d (.str s),.d (.int .i64 a)],⟨[],[],0⟩=>(0≤a∧a<s.length∧s.length<4294967281∧Zj ((s.getD a.toNat 0).toNat:Int)=true) ∧
   (∀n,ZJ (s.drop a.toNat)=some n→K (.ret (.tuple [VH 2 [] (IntKind.i64.wrap n) a (a+Zw (s.drop a.toNat)),.d (.bool true)])) ⟨[],[],0⟩) ∧
   (ZJ (s.drop a.toNat)=none→∀n e:Int,K (.ret (.tuple [VH 2 [] n a e,.d (.bool false)])) ⟨[],[],0⟩)
 | _,_=>False
theorem Zld:Za Zjx:=fun args σ K K' hK h=>by
 unfold Zjx at h ⊢;split at h <;> first | exact ⟨h.1,fun n hn=>hK _ _ (h.2.1 n hn),fun hn n e=>hK _ _ (h.2.2 hn n e)⟩ | exact h.elim
noncomputable def ZvL:Tbl:=[(325,Zju),(285,Wi),(230,U1)]
theorem ZvM:PCalls (GG w0 nG) 315 Zjx:=by
 refine V7 Z8 mixed (tbl:=ZvL) ⟨⟨ZvF,Zk9⟩,⟨ZbN,Xh⟩,⟨ZbO,WQ⟩,trivial⟩ Tryz.func315 rfl (by kernel_rfl) (by kernel_rfl) ?_;intro args σ K h
 unfold Zjx at h
 split at h
 ·rename_i s a
  obtain ⟨⟨h0,h1,hs,hd0⟩,hgood,hbad⟩:=h;obtain ⟨a,rfl⟩:∃n:Nat,a=n:=⟨a.toNat,by omega⟩
  simp only [Tj] at hgood hbad hd0;have hcu:cut s ((a:Int)).toNat (min ((a:Int)+2) (s.length:Int)).toNat=(s.drop a).take 2:=by
   rw [X8]
   by_cases h4:(a:Int)+2≤s.length
   ·rw [Int.min_eq_left h4];congr 1;omega
   ·exact m76
  obtain ⟨r,hr⟩:∃r,r=s.drop a:=⟨_,rfl⟩
  obtain ⟨D,hD⟩:∃D,D=Zd r:=⟨_,rfl⟩
  rw [← hr] at hgood hbad;refine ⟨Zb [(6,⟨[7],[0,1,4,6,8],fun vs σ=>∃k n:Nat,vs=[.d (.int .u64 n)]∧σ=⟨[.cells 218 [.d (.int .u8 0),.d (.str []),.d (.int .i64 0),.d (.int .i64 0),.d (.int .i64 0)],.cells 218 [.d (.int .u8 2),.d (.str []),.d (.int .i64 0),.d (.int .i64 a),.d (.int .i64 (a+2+k:Nat))]],[],0⟩∧(k≤D.length∧n<18446744073709551616∧(k≤16→n=XB 16 (D.take k))),fun _ σ=>match σ.bx with | [_,.cells _ [_,_,_,_,.d (.int _ n)]]=>((s.length:Int) - n).toNat | _=>0⟩),
   (10,⟨[7,8],[0,1,4,6],fun vs σ=>∃(k n:Nat) (ok:Bool),vs=[.d (.int .u64 n),.d (.bool ok)]∧σ=⟨[.cells 218 [.d (.int .u8 0),.d (.str []),.d (.int .i64 0),.d (.int .i64 0),.d (.int .i64 0)],.cells 218 [.d (.int .u8 2),.d (.str []),.d (.int .i64 0),.d (.int .i64 a),.d (.int .i64 (a+k:Nat))]],[],0⟩∧(k≤D.length∧n<18446744073709551616∧ok=decide (XB 10 (D.take k)<9223372036854775808)∧(ok=true→n=XB 10 (D.take k))),fun _ σ=>match σ.bx with | [_,.cells _ [_,_,_,_,.d (.int _ n)]]=>((s.length:Int) - n).toNat | _=>0⟩)],W4 [],Yu [],0,false,by simp,Ta rfl,?_⟩
  have fin:∀(e n:Nat) (ok:Bool),e=a+Zw r→(ok=true→D≠[]∧XB (if Xc r then 16 else 10) D<(if Xc r then 18446744073709551616 else 9223372036854775808)∧n=XB (if Xc r then 16 else 10) D∧¬(Xc r=true∧16<D.length)) →
    (ok=false→D=[]∨(if Xc r then 18446744073709551616 else 9223372036854775808)≤XB (if Xc r then 16 else 10) D∨(Xc r=true∧16<D.length)) →
    ∀X:Bool,X=(ok && !Zf (pk (s.drop e)).1 && !Zj (pk (s.drop e)).1)→K (.ret (.tuple [.agg [.d (.int .u8 2),.d (.str []),.d (.int .i64 (IntKind.i64.wrap n)),.d (.int .i64 a),.d (.int .i64 e)],.d (.bool X)])) ⟨[],[],0⟩:=fun e n ok he hok1 hok0 X hX=>by
   have hdr:s.drop e=r.drop (Zw r):=by rw [hr,Tu,← hr,he]
   have hcond:(Zd r=[]∨(if Xc r then 18446744073709551616 else 9223372036854775808)≤XB (if Xc r then 16 else 10) (Zd r)∨(Zf (pk (r.drop (Zw r))).1=true∨Zj (pk (r.drop (Zw r))).1=true∨(Xc r=true∧16<(Zd r).length)))→ZJ r=none:=fun g=>by
    unfold ZJ
    by_cases g1:Zd r=[]
    ·rw [Tf g1]
    rw [Tc g1]
    by_cases g2:(if Xc r then 18446744073709551616 else 9223372036854775808)≤XB (if Xc r then 16 else 10) (Zd r)
    ·rw [Tf g2]
    rw [Tc g2];rcases g with g | g | g
    ·exact absurd g g1
    ·exact absurd g g2
    ·rw [Tf g]
   rw [hdr] at hX;rw [← hD] at hcond
   cases X with
   | false =>
    have:ZJ r=none:=by
     apply hcond
     cases ok with
     | false=>rcases hok0 rfl with g | g | g <;> simp [g]
     | true =>
      simp only [TE] at hX
      cases hl:Zf (pk (r.drop (Zw r))).1 with
      | true=>simp
      | false =>
       rw [hl] at hX
       cases hd:Zj (pk (r.drop (Zw r))).1 with
       | true=>simp
       | false=>rw [hd] at hX;simp at hX
    exact hbad this _ _
   | true =>
    cases ok with
    | false=>simp at hX
    | true =>
     obtain ⟨g1,g2,g3,g4⟩:=hok1 rfl
     cases hl:Zf (pk (r.drop (Zw r))).1 with
     | true=>rw [hl] at hX;simp at hX
     | false =>
      cases hd:Zj (pk (r.drop (Zw r))).1 with
      | true=>rw [hd] at hX;simp at hX
      | false =>
       have hn:ZJ r=some n:=by
        unfold ZJ
        rw [← hD,Tc g1,Tc (by omega),Tc (by rw [hl,hd];simp only [Tr,false_or];exact g4),g3]
       have:=hgood n hn;rw [show (a:Int)+(Zw r:Int)=(e:Int) by omega] at this;exact this
  conv=>whnf
  refine oiO ?_;(conv=>whnf);refine ⟨by omega,by omega,by omega,?_⟩;(conv=>whnf);rw [hcu,← hr];(conv=>whnf);refine ZAf (fun k1=>?_) (fun k1=>?_)
  ·have hx:Xc r=true:=(Zsx _ _ _).2 k1;have hl2:a+2≤s.length:=by have:=(Zz (show Lib.hasPrefix r [48,120]=true from hx)).1;rw [hr,Tk] at this;omega
   have hDe:D=(s.drop (a+2)).takeWhile (Xx true):=by rw [hD,Zd,hx,Tf rfl,hr,Tu]
   have hNl:Zw r=2+D.length:=by rw [Zw,hx,Tf rfl,hD]
   have htw:∀k,k≤D.length→(a+2+k<s.length→(Xx true (s.getD (a+2+k) 0)=true↔k<D.length))∧(s.length≤a+2+k→k=D.length)∧(k<D.length→a+2+k<s.length∧D.getD k 0=s.getD (a+2+k) 0):=fun k hk=>by
    have:=ZvJ (p:=Xx true) (s.drop (a+2)) k (by rw [← hDe];exact hk);exact m142
   have hDl:a+2+D.length≤s.length:=by
    have:=WM (Xx true) (s.drop (a+2));rw [← hDe,Tk] at this;omega
   conv=>whnf
   refine oiO ?_;(conv=>whnf);refine ⟨⟨0,0,rfl,rfl,by omega,by omega,fun _=>by simp [XB]⟩,?_⟩;intro vs σ1 hI
   obtain ⟨k,n,rfl,rfl,hk,hn,hnk⟩:=hI;obtain ⟨t1,t2,t3⟩:=htw k hk;have hbt:=(s.getD (a+2+k) 0).toNat_lt;have hbi:(s.getD (((a+2+k:Nat):Int)).toNat 0)=s.getD (a+2+k) 0:=by rw [Tj]
   have tail:k=D.length→∀okb:Bool,okb=(decide (0<k) && decide (k≤16))→∀X:Bool,X=(okb && !Zf (pk (s.drop (a+2+k))).1 && !Zj (pk (s.drop (a+2+k))).1) →
     K (.ret (.tuple [.agg [.d (.int .u8 2),.d (.str []),.d (.int .i64 (IntKind.i64.wrap n)),.d (.int .i64 a),.d (.int .i64 (a+2+k:Nat))],.d (.bool X)])) ⟨[],[],0⟩:=fun hkD okb hok X hX=>by
    refine fin (a+2+k) n okb (by rw [hNl];omega) (fun g=>?_) (fun g=>?_) X hX
    ·rw [hok] at g;simp only [Tl,TG] at g;have hv:=hnk g.2;rw [hkD,Sk] at hv;rw [hx];simp only [if_true];exact ⟨fun e=>by rw [e] at hkD;simp at hkD;omega,by omega,hv,by omega⟩
    ·rw [hok] at g;simp only [Bool.and_eq_false_iff,decide_eq_false_iff_not] at g;rcases g with g | g
     ·exact .inl (TN (by omega))
     ·exact .inr (.inr ⟨hx,by omega⟩)
   conv=>whnf
   refine ZAf (fun q1=>?_) (fun q1=>?_)
   ·have q1':a+2+k<s.length:=by omega
    conv=>whnf
    refine ⟨by omega,by omega,?_⟩;(conv=>whnf);rw [hbi];refine ⟨⟨by omega,by omega⟩,?_⟩;have hxd:=ZmA (s.getD (a+2+k) 0);generalize hxv:ZvE ((s.getD (a+2+k) 0).toNat:Int)=v at hxd ⊢;obtain ⟨m,rfl⟩ | ⟨m,rfl⟩:(∃m:Nat,v=m)∨(∃m:Nat,v=Int.negSucc m):=by
     cases v with
     | ofNat m=>exact .inl ⟨m,rfl⟩
     | negSucc m=>exact .inr ⟨m,rfl⟩
    ·have q2':Xx true (s.getD (a+2+k) 0)=true:=hxd.1.1 (by omega);have hlt:k<D.length:=(t1 q1').1 q2';obtain ⟨d1,d2⟩:=hxd.2 q2';have hnext:k+1≤16→XB 16 (D.take (k+1))=n * 16+m∧n<2 ^ 60:=fun g=>by
      have h1:=hnk (by omega);have hall:∀b∈D.take k,Zbo b<16:=fun b hb=>by
       have:=Vg (Xx true) (s.drop (a+2));rw [← hDe,Tv] at this;exact ((ZmA b).2 (this b (List.mem_of_mem_take hb))).2
      have h2:=ZvK _ hall;have h3:(16:Nat) ^ (D.take k).length≤16 ^ 15:=Nat.pow_le_pow_right (by omega) (by rw [Sl];omega);rw [ZbQ hlt,ZbP,← h1,(t3 hlt).2];exact ⟨by omega,by rw [h1];omega⟩
     have fin2:∀(x:Int),(k+1≤16→x=(n:Int) * 16)→∃n':Nat,Zk .or .u64 x (m:Int)=n'∧n'<18446744073709551616∧(k+1≤16→n'=XB 16 (D.take (k+1))):=fun x hx=>by
      have:=Zsz x (m:Int);refine ⟨(Zk .or .u64 x (m:Int)).toNat,by omega,by omega,fun g=>?_⟩;obtain ⟨g1,g2⟩:=hnext g;rw [hx g,ZxD g2 (by omega),g1];omega
     conv=>whnf
     refine ⟨by omega,?_⟩;(conv=>whnf)
     by_cases hk16:k+1≤16
     ·have:=(hnext hk16).2;have e0:(2:Int) ^ (min (Int.toNat 4) IntKind.u64.bits)=16:=rfl;refine Or.inl ⟨InR.u64 (by rw [e0];omega) (by rw [e0];omega),?_⟩;obtain ⟨n',e1,e2,e3⟩:=fin2 ((n:Int) * 2 ^ (min (Int.toNat 4) IntKind.u64.bits)) (fun _=>rfl);exact m68
     ·refine Or.inr ?_;obtain ⟨n',e1,e2,e3⟩:=fin2 (IntKind.u64.wrap ((n:Int) * 2 ^ (min (Int.toNat 4) IntKind.u64.bits))) (fun g=>absurd g hk16);exact m68
    ·have q2':k=D.length:=by
      have:¬k<D.length:=fun g=>by have:=hxd.1.2 ((t1 q1').2 g);omega
      omega
     conv=>whnf
     refine oiO ?_;(conv=>whnf);refine ZAf (fun z0=>?_) (fun z0=>?_)
     ·conv=>whnf
      refine oiO ?_;(conv=>whnf);refine Or.inr ?_;(conv=>whnf);refine ZAf (fun z1=>?_) (fun z1=>?_)
      ·conv=>whnf
       refine ⟨⟨by omega,by omega⟩,?_⟩;(conv=>whnf)
       repeat (refine ⟨rfl,?_⟩;conv=>whnf)
       refine ZAi (fun z2=>?_) (fun z2=>?_)
       ·have z2':Zf (pk (s.drop (a+2+k))).1=false:=by rw [Tj] at z2;simpa only [TV] using z2
        conv=>whnf
        refine ZAf (fun z3=>?_) (fun z3=>?_)
        ·conv=>whnf
         repeat (refine ⟨rfl,?_⟩;conv=>whnf)
         refine tail q2' true (by rw [TC (show 0<k by omega),TC (show k≤16 by omega)];rfl) true ?_;rw [z2',Tz (show s.length≤a+2+k by omega)];rfl
        ·have z3':a+2+k<s.length:=by omega
         have hdg:=Zao (r:=s.drop (a+2+k)) (by rw [Tk];omega);rw [Vn,Sa] at hdg;(conv=>whnf);refine ⟨by omega,by omega,?_⟩;(conv=>whnf);rw [hbi];refine Or.inl ⟨InR.i32 (by omega) (by omega),?_⟩;(conv=>whnf)
         repeat (refine ⟨rfl,?_⟩;conv=>whnf)
         refine tail q2' true (by rw [TC (show 0<k by omega),TC (show k≤16 by omega)];rfl) _ ?_;rw [z2',hdg];simp
       ·have z2':Zf (pk (s.drop (a+2+k))).1=true:=by rw [Tj] at z2;simpa only [Bool.not_eq_false'] using z2
        conv=>whnf
        repeat (refine ⟨rfl,?_⟩;conv=>whnf)
        refine tail q2' true (by rw [TC (show 0<k by omega),TC (show k≤16 by omega)];rfl) false ?_;rw [z2'];rfl
      ·conv=>whnf
       repeat (refine ⟨rfl,?_⟩;conv=>whnf)
       refine tail q2' false (by rw [decide_eq_false (show ¬k≤16 by omega)];simp) false (by simp)
     ·conv=>whnf
      refine Or.inr ?_;(conv=>whnf)
      repeat (refine ⟨rfl,?_⟩;conv=>whnf)
      refine tail q2' false (by rw [decide_eq_false (show ¬0<k by omega)];simp) false (by simp)
   ·have q1':k=D.length:=t2 (by omega);(conv=>whnf);refine oiO ?_;(conv=>whnf);refine ZAf (fun z0=>?_) (fun z0=>?_)
    ·conv=>whnf
     refine oiO ?_;(conv=>whnf);refine Or.inr ?_;(conv=>whnf);refine ZAf (fun z1=>?_) (fun z1=>?_)
     ·conv=>whnf
      refine ⟨⟨by omega,by omega⟩,?_⟩;(conv=>whnf)
      repeat (refine ⟨rfl,?_⟩;conv=>whnf)
      refine ZAi (fun z2=>?_) (fun z2=>?_)
      ·have z2':Zf (pk (s.drop (a+2+k))).1=false:=by rw [Tj] at z2;simpa only [TV] using z2
       conv=>whnf
       refine ZAf (fun z3=>?_) (fun z3=>?_)
       ·conv=>whnf
        repeat (refine ⟨rfl,?_⟩;conv=>whnf)
        refine tail q1' true (by rw [TC (show 0<k by omega),TC (show k≤16 by omega)];rfl) true ?_;rw [z2',Tz (show s.length≤a+2+k by omega)];rfl
       ·have z3':a+2+k<s.length:=by omega
        have hdg:=Zao (r:=s.drop (a+2+k)) (by rw [Tk];omega);rw [Vn,Sa] at hdg;(conv=>whnf);refine ⟨by omega,by omega,?_⟩;(conv=>whnf);rw [hbi];refine Or.inl ⟨InR.i32 (by omega) (by omega),?_⟩;(conv=>whnf)
        repeat (refine ⟨rfl,?_⟩;conv=>whnf)
        refine tail q1' true (by rw [TC (show 0<k by omega),TC (show k≤16 by omega)];rfl) _ ?_;rw [z2',hdg];simp
      ·have z2':Zf (pk (s.drop (a+2+k))).1=true:=by rw [Tj] at z2;simpa only [Bool.not_eq_false'] using z2
       conv=>whnf
       repeat (refine ⟨rfl,?_⟩;conv=>whnf)
       refine tail q1' true (by rw [TC (show 0<k by omega),TC (show k≤16 by omega)];rfl) false ?_;rw [z2'];rfl
     ·conv=>whnf
      repeat (refine ⟨rfl,?_⟩;conv=>whnf)
      refine tail q1' false (by rw [decide_eq_false (show ¬k≤16 by omega)];simp) false (by simp)
    ·conv=>whnf
     refine Or.inr ?_;(conv=>whnf)
     repeat (refine ⟨rfl,?_⟩;conv=>whnf)
     refine tail q1' false (by rw [decide_eq_false (show ¬0<k by omega)];simp) false (by simp)
  ·have hx:Xc r=false:=by rw [Xc,Bool.eq_false_iff];exact fun g=>k1 ((Zsx _ _ _).1 g)
   have hDe:D=(s.drop a).takeWhile (Xx false):=by rw [hD,Zd,hx,Tc (by simp),hr,Sh]
   have hNl:Zw r=D.length:=by rw [Zw,hx,Tc (by simp),hD,T7]
   have htw:∀k,k≤D.length→(a+k<s.length→(Xx false (s.getD (a+k) 0)=true↔k<D.length))∧(s.length≤a+k→k=D.length)∧(k<D.length→a+k<s.length∧D.getD k 0=s.getD (a+k) 0):=fun k hk=>by
    have:=ZvJ (p:=Xx false) (s.drop a) k (by rw [← hDe];exact hk);exact m142
   have hDl:a+D.length≤s.length:=by
    have:=WM (Xx false) (s.drop a);rw [← hDe,Tk] at this;omega
   conv=>whnf
   refine ⟨⟨0,0,true,rfl,rfl,by omega,by omega,by simp [XB],fun _=>by simp [XB]⟩,?_⟩;intro vs σ1 hI
   obtain ⟨k,n,ok,rfl,rfl,hk,hn,hok,hnk⟩:=hI;obtain ⟨t1,t2,t3⟩:=htw k hk;have hbt:=(s.getD (a+k) 0).toNat_lt;have hbi:(s.getD (((a+k:Nat):Int)).toNat 0)=s.getD (a+k) 0:=by rw [Tj]
   have hDne:D≠[]:=fun g=>by
    have hdb:Xx false (s.getD a 0)=true:=by rw [Xx,hd0];rfl
    have:=((htw 0 (by omega)).1 (by omega)).1 hdb;rw [g] at this;simp at this
   have tail:k=D.length→∀okb:Bool,okb=ok→∀X:Bool,X=(okb && !Zf (pk (s.drop (a+k))).1 && !Zj (pk (s.drop (a+k))).1) →
     K (.ret (.tuple [.agg [.d (.int .u8 2),.d (.str []),.d (.int .i64 (IntKind.i64.wrap n)),.d (.int .i64 a),.d (.int .i64 (a+k:Nat))],.d (.bool X)])) ⟨[],[],0⟩:=fun hkD okb hok' X hX=>by
    subst hok';refine fin (a+k) n okb (by rw [hNl];omega) (fun g=>?_) (fun g=>?_) X hX
    ·have hv:=hnk g;rw [g] at hok;rw [hkD,Sk] at hv hok;have hok2:=of_decide_eq_true hok.symm;rw [hx];simp only [Tr,if_false,false_and,not_false_eq_true,and_true];exact ⟨hDne,by omega,hv⟩
    ·rw [g] at hok;rw [hkD,Sk] at hok;have hok2:=of_decide_eq_false hok.symm;rw [hx];simp only [Tr,if_false];exact .inr (.inl (by omega))
   conv=>whnf
   refine ZAf (fun q1=>?_) (fun q1=>?_)
   ·have q1':a+k<s.length:=by omega
    conv=>whnf
    refine ⟨by omega,by omega,?_⟩;(conv=>whnf);rw [hbi];refine Or.inl ⟨InR.i32 (by omega) (by omega),?_⟩;have hdB:Xx false (s.getD (a+k) 0)=Zj ((s.getD (a+k) 0).toNat:Int):=by rw [Xx];simp
    conv=>whnf
    refine ZAi (fun q2=>?_) (fun q2=>?_)
    ·have q2':Xx false (s.getD (a+k) 0)=true:=hdB.trans q2;have hlt:k<D.length:=(t1 q1').1 q2';have hdd:=isDigit_iff.1 q2;obtain ⟨d,hd⟩:∃d:Nat,d=Zbo (s.getD (a+k) 0):=⟨_,rfl⟩
     have hdv:((s.getD (a+k) 0).toNat:Int) - 48=(d:Int):=by rw [hd,Zbo,Tf (by omega)];omega
     have hv:XB 10 (D.take (k+1))=XB 10 (D.take k) * 10+d:=by rw [ZbQ hlt,ZbP,(t3 hlt).2,hd]
     have hle:=JO 10 (by omega) (D.take (k+1)) k;rw [List.take_take,Nat.min_eq_left (by omega)] at hle;(conv=>whnf);refine ⟨by omega,by omega,?_⟩;(conv=>whnf);rw [hbi];refine oiB ?_;(conv=>whnf);rw [hdv];refine oiU ?_;(conv=>whnf);refine oiU ?_;(conv=>whnf);refine ⟨by omega,?_⟩;(conv=>whnf);have htd:((9223372036854775807:Int) - (d:Int)).tdiv 10=(9223372036854775807 - (d:Int)) / 10:=Int.tdiv_eq_ediv_of_nonneg (by omega);rw [htd];refine oiU ?_;(conv=>whnf);have big:∃n':Nat,IntKind.u64.wrap (IntKind.u64.wrap ((n:Int) * 10)+(d:Int))=n'∧n'<18446744073709551616:=by
      have:=ZmB (IntKind.u64.wrap ((n:Int) * 10)+(d:Int));exact ⟨(IntKind.u64.wrap (IntKind.u64.wrap ((n:Int) * 10)+(d:Int))).toNat,by omega,by omega⟩
     conv=>whnf
     refine ZAf (fun z1=>?_) (fun z1=>?_)
     ·obtain ⟨n',e1,e2⟩:=big;have hf:false=decide (XB 10 (D.take (k+1))<9223372036854775808):=by
       symm;apply decide_eq_false
       rw [hv]
       cases ok with
       | true=>have:=hnk rfl;omega
       | false=>have:=of_decide_eq_false hok.symm;omega
      exact m82
     ·cases ok with
      | true =>
       have hn1:=hnk rfl;have hlt1:n * 10+d<9223372036854775808:=by omega
       conv=>whnf
       refine oiU ?_;(conv=>whnf);refine oiU ?_;(conv=>whnf);refine oiO ?_;(conv=>whnf);exact ⟨⟨k+1,n * 10+d,true,rfl,rfl,by omega,by omega,by rw [hv,← hn1];exact (TC hlt1).symm,fun _=>by rw [hv,hn1]⟩,(show ((s.length:Int) - (((a+k:Nat):Int)+1)).toNat<((s.length:Int) - ((a+k:Nat):Int)).toNat by omega)⟩
      | false =>
       obtain ⟨n',e1,e2⟩:=big;have hf:false=decide (XB 10 (D.take (k+1))<9223372036854775808):=by
        symm;apply decide_eq_false
        have:=of_decide_eq_false hok.symm;omega
       exact m82
    ·have q2':k=D.length:=by
      have:¬k<D.length:=fun g=>by have:=(t1 q1').2 g;rw [hdB,q2] at this;cases this
      omega
     conv=>whnf
     refine Or.inr ?_;(conv=>whnf)
     cases ok with
     | true =>
      conv=>whnf
      refine ⟨⟨by omega,by omega⟩,?_⟩;(conv=>whnf)
      repeat (refine ⟨rfl,?_⟩;conv=>whnf)
      refine ZAi (fun z2=>?_) (fun z2=>?_)
      ·have z2':Zf (pk (s.drop (a+k))).1=false:=by rw [Tj] at z2;simpa only [TV] using z2
       conv=>whnf
       refine ZAf (fun z3=>?_) (fun z3=>?_)
       ·conv=>whnf
        repeat (refine ⟨rfl,?_⟩;conv=>whnf)
        refine tail q2' true rfl true ?_;rw [z2',Tz (show s.length≤a+k by omega)];rfl
       ·have z3':a+k<s.length:=by omega
        have hdg:=Zao (r:=s.drop (a+k)) (by rw [Tk];omega);rw [Vn,Sa] at hdg;(conv=>whnf);refine ⟨by omega,by omega,?_⟩;(conv=>whnf);rw [hbi];refine Or.inl ⟨InR.i32 (by omega) (by omega),?_⟩;(conv=>whnf)
        repeat (refine ⟨rfl,?_⟩;conv=>whnf)
        refine tail q2' true rfl _ ?_;rw [z2',hdg];simp
      ·have z2':Zf (pk (s.drop (a+k))).1=true:=by rw [Tj] at z2;simpa only [Bool.not_eq_false'] using z2
       conv=>whnf
       repeat (refine ⟨rfl,?_⟩;conv=>whnf)
       refine tail q2' true rfl false ?_;rw [z2'];rfl
     | false =>
      conv=>whnf
      repeat (refine ⟨rfl,?_⟩;conv=>whnf)
      refine tail q2' false rfl false (by simp)
   ·have q1':k=D.length:=t2 (by omega);(conv=>whnf);refine Or.inr ?_;(conv=>whnf)
    cases ok with
    | true =>
     conv=>whnf
     refine ⟨⟨by omega,by omega⟩,?_⟩;(conv=>whnf)
     repeat (refine ⟨rfl,?_⟩;conv=>whnf)
     refine ZAi (fun z2=>?_) (fun z2=>?_)
     ·have z2':Zf (pk (s.drop (a+k))).1=false:=by rw [Tj] at z2;simpa only [TV] using z2
      conv=>whnf
      refine ZAf (fun z3=>?_) (fun z3=>?_)
      ·conv=>whnf
       repeat (refine ⟨rfl,?_⟩;conv=>whnf)
       refine tail q1' true rfl true ?_;rw [z2',Tz (show s.length≤a+k by omega)];rfl
      ·have z3':a+k<s.length:=by omega
       have hdg:=Zao (r:=s.drop (a+k)) (by rw [Tk];omega);rw [Vn,Sa] at hdg;(conv=>whnf);refine ⟨by omega,by omega,?_⟩;(conv=>whnf);rw [hbi];refine Or.inl ⟨InR.i32 (by omega) (by omega),?_⟩;(conv=>whnf)
       repeat (refine ⟨rfl,?_⟩;conv=>whnf)
       refine tail q1' true rfl _ ?_;rw [z2',hdg];simp
     ·have z2':Zf (pk (s.drop (a+k))).1=true:=by rw [Tj] at z2;simpa only [Bool.not_eq_false'] using z2
      conv=>whnf
      repeat (refine ⟨rfl,?_⟩;conv=>whnf)
      refine tail q1' true rfl false ?_;rw [z2'];rfl
    | false =>
     conv=>whnf
     repeat (refine ⟨rfl,?_⟩;conv=>whnf)
     refine tail q1' false rfl false (by simp)
 ·exact h.elim
end Go.PM.Lex
end

section
namespace Go.PM.Lex
open Go.Proofs
variable {w0:World} {nG:Nat}
theorem Zfu {r:Bs} (hr:r≠[]) {c:Nat} (hc:c<65533):(Lib.decodeL r).1=c↔(pk r).1=(c:Int):=by
 unfold pk
 by_cases hv:Lib.decodeL r=(65533,1)
 ·rw [Tf (.inr hv),hv];simp only;omega
 ·rw [Tc (by simp only [not_or];exact ⟨hr,hv⟩)];simp only;omega
theorem Zjy {r:Bs} (h:(pk r).1≠-1):r≠[]∧pk r=(((Lib.decodeL r).1:Int),(Lib.decodeL r).2)∧Lib.encodeRune ((Lib.decodeL r).1:Int)=r.take (Lib.decodeL r).2:=by
 by_cases hr:r=[]
 ·rw [hr] at h;simp [pk] at h
 ·by_cases hv:Lib.decodeL r=(65533,1)
  ·unfold pk at h;rw [Tf (.inr hv)] at h;simp at h
  ·refine ⟨hr,by unfold pk;rw [Tc (by simp only [not_or];exact ⟨hr,hv⟩)],Lib.encode_decode r hr fun g=>hv (Prod.ext g.1 g.2)⟩
theorem ZnU {f:Nat} {r out:Bs} {p:Nat} (hc:(pk r).1=34):ZG (f+1) r false out p=.ok out (p+1):=by
 have hr:r≠[]:=(Zjy (by omega)).1;have h1:=(Zfu hr (c:=34) (by omega)).2 hc;rw [ZG,Tc hr,Tc (by simp),Tf h1]
theorem ZsA {f:Nat} {r out:Bs} {p:Nat} (hr:r≠[]) (h1:(pk r).1≠34) (h2:(pk r).1≠92) (hc:(pk r).1<32):ZG (f+1) r false out p=.err p:=by
 rw [ZG,Tc hr,Tc (by simp),Tc (fun g=>h1 ((Zfu hr (c:=34) (by omega)).1 g)),Tc (fun g=>h2 ((Zfu hr (c:=92) (by omega)).1 g)),Tf hc]
theorem ZvN {f:Nat} {r out:Bs} {p:Nat} (h1:(pk r).1≠34) (h2:(pk r).1≠92) (hc:¬(pk r).1<32):ZG (f+1) r false out p=ZG f (r.drop (pk r).2) false (out++r.take (pk r).2) (p+(pk r).2):=by
 obtain ⟨hr,he,henc⟩:=Zjy (show (pk r).1≠-1 by omega);rw [ZG,Tc hr,Tc (by simp),Tc (fun g=>h1 ((Zfu hr (c:=34) (by omega)).1 g)),Tc (fun g=>h2 ((Zfu hr (c:=92) (by omega)).1 g)),Tc hc,henc];rw [he]
theorem ZsB {f:Nat} {r out:Bs} {p:Nat} (hc:(pk r).1=92):ZG (f+1) r false out p=ZG f (r.drop 1) true out (p+1):=by
 have hr:r≠[]:=(Zjy (by omega)).1;have h1:=(Zfu hr (c:=92) (by omega)).2 hc;have h2:=(Ziu r (by omega) (by omega)).2.2;have h3:=(Zjy (show (pk r).1≠-1 by omega)).2.1;rw [h3] at h2;simp only at h2;rw [ZG,Tc hr,Tc (by simp),Tc (by omega),Tf h1,h2]
theorem ZmC (f:Nat) (e:Bool) (out:Bs) (p:Nat):ZG f [] e out p=.err 0:=by
 cases f <;> simp [ZG]
theorem Zqv {f:Nat} {b:UInt8} {l out:Bs} {p:Nat}:ZG (f+1) (b::l) true out p=match ZjW b.toNat with
  | none=>.err (p - 1)
  | some x=>ZG f l false (out++[x]) (p+1):=by
 have hr:b::l≠[]:=by simp
 have key:∀c:Nat,c<128→((Lib.decodeL (b::l)).1=c↔b.toNat=c):=fun c hc=>by
  rw [Zfu hr (by omega),Zc4 (by simp) (by omega) (by omega)];simp only [Se];omega
 have sz:b.toNat<128→(Lib.decodeL (b::l)).2=1:=fun h=>by
  have h1:=(Zc4 (r:=b::l) (c:=b.toNat) (by simp) (by omega) (by omega)).2 (by simp);have h2:=(Ziu (b::l) (by omega) (by omega)).2.2;have h3:=(Zjy (r:=b::l) (by omega)).2.1;rw [h3] at h2;exact h2
 have he:ZjW (Lib.decodeL (b::l)).1=ZjW b.toNat:=by
  unfold ZjW
  simp only [key 110 (by omega),key 116 (by omega),key 34 (by omega),key 92 (by omega)]
 rw [ZG,Tc hr,Tf rfl,he]
 cases hx:ZjW b.toNat with
 | none=>rfl
 | some x =>
  have:b.toNat<128:=by
   unfold ZjW at hx
   (repeat' split at hx) <;> first | omega | cases hx
  rw [sz this];rfl
noncomputable def Zfv:Zr:=fun args σ K=>match args,σ with
 | [.d (.str s),.d (.int .i64 a)],⟨[],[],0⟩=>(0≤a∧a<s.length∧s.length<4294967281) ∧
   (match XH (s.drop a.toNat) with
    | .ok t l=>K (.ret (.tuple [VH 3 t 0 a (a+l),.d (.int .i64 (-1))])) ⟨[],[],0⟩
    | .err p=>K (.ret (.tuple [VH 0 [] 0 0 0,.d (.int .i64 (a+p))])) ⟨[],[],0⟩)
 | _,_=>False
theorem Zjz:Za Zfv:=fun args σ K K' hK h=>by
 unfold Zfv at h ⊢;split at h
 ·refine ⟨h.1,?_⟩;have h:=h.2;split at h <;> exact hK _ _ h
 ·exact h.elim
noncomputable def ZsC:Tbl:=[(165,Zdj)]
theorem ZsD:PCalls (GG w0 nG) 316 Zfv:=by
 refine V7 Z8 mixed (tbl:=ZsC) ⟨⟨Zhi,U0⟩,trivial⟩ Tryz.func316 rfl (by kernel_rfl) (by kernel_rfl) ?_;intro args σ K h
 unfold Zfv at h
 split at h
 ·rename_i s a
  obtain ⟨⟨h0,h1,hs⟩,h⟩:=h;obtain ⟨a,rfl⟩:∃n:Nat,a=n:=⟨a.toNat,by omega⟩
  simp only [Tj] at h;refine ⟨Zb [(3,⟨[6,7],[0,1,4],fun vs σ=>∃(out:Bs) (i f:Nat),vs=[.sl 0 5 (Zi out),.d (.int .i64 i)]∧σ=⟨[.cells 218 [.d (.int .u8 0),.d (.str []),.d (.int .i64 0),.d (.int .i64 0),.d (.int .i64 0)]],[0],1⟩∧(a+1≤i∧i≤s.length∧s.length<i+f∧out.length≤i)∧ZG f (s.drop i) false out (i - a)=XH (s.drop a),fun vs _=>match vs with | [_,.d (.int _ n)]=>((s.length:Int) - n).toNat | _=>0⟩)],W4 [],Yu [],0,false,by simp,Ta rfl,?_⟩;(conv=>whnf);refine oiO ?_;(conv=>whnf);refine ⟨⟨[],a+1,(s.drop a).length+1,rfl,rfl,⟨by omega,by omega,by rw [Tk];omega,by simp⟩,?_⟩,?_⟩
  ·rw [XH,Tu,show a+1 - a=1 by omega]
  intro vs σ1 hI
  obtain ⟨out,i,f,rfl,rfl,⟨hi0,hi1,hi2,hol⟩,hgo⟩:=hI;obtain ⟨f,rfl⟩:∃g,f=g+1:=⟨f - 1,by omega⟩
  have hbl:=Yq out;have hpl:=Zit (s.drop i);have hpr:=WK (s.drop i);have hple:=ZoR (s.drop i);have hok:∀t l,XH (s.drop a)=.ok t l→K (.ret (.tuple [VH 3 t 0 a (a+l),.d (.int .i64 (-1))])) ⟨[],[],0⟩:=fun t l g=>by rw [g] at h;exact h
  have herr:∀p,XH (s.drop a)=.err p→K (.ret (.tuple [VH 0 [] 0 0 0,.d (.int .i64 (a+p))])) ⟨[],[],0⟩:=fun p g=>by rw [g] at h;exact h
  have herr0:XH (s.drop a)=.err 0→K (.ret (.tuple [VH 0 [] 0 0 0,.d (.int .i64 a)])) ⟨[],[],0⟩:=fun g=>by have:=herr 0 g;rw [show (a:Int)+((0:Nat):Int)=a by omega] at this;exact this
  have herrI:XH (s.drop a)=.err (i - a)→K (.ret (.tuple [VH 0 [] 0 0 0,.d (.int .i64 i)])) ⟨[],[],0⟩:=fun g=>by have:=herr _ g;rw [show (a:Int)+((i - a:Nat):Int)=i by omega] at this;exact this
  conv=>whnf
  refine ZAf (fun h2=>?_) (fun h2=>?_)
  ·have h2':i<s.length:=by omega
   have hdh:=J1 h2';have hne:s.drop i≠[]:=by rw [hdh];simp
   conv=>whnf
   refine ⟨⟨by omega,by omega,hs⟩,?_⟩;(conv=>whnf);generalize hc0:(pk (s.drop ((i:Int)).toNat)).1=c;have hc:(pk (s.drop i)).1=c:=hc0;have hp2:c≠-1→i+(pk (s.drop i)).2≤s.length:=fun g=>by
    have:=(hple (by rw [hc];exact g)).2.1;rw [Tk] at this;omega
   conv=>whnf
   refine ZAf (fun h3=>?_) (fun h3=>?_)
   ·have g1:=ZnU (f:=f) (out:=out) (p:=i - a) (r:=s.drop i) (by rw [hc];exact h3);rw [hgo] at g1;(conv=>whnf);refine ⟨out,rfl,?_⟩;(conv=>whnf);refine oiO ?_;(conv=>whnf);have:=hok _ _ g1;rw [show (a:Int)+((i - a+1:Nat):Int)=(i:Int)+1 by omega] at this;exact this
   ·conv=>whnf
    refine ZAf (fun h4=>?_) (fun h4=>?_)
    ·have g1:=ZsB (f:=f) (out:=out) (p:=i - a) (r:=s.drop i) (by rw [hc];exact h4);rw [hgo,Tu] at g1;(conv=>whnf);refine oiO ?_;(conv=>whnf);refine ZAf (fun h5=>?_) (fun h5=>?_)
     ·conv=>whnf
      exact herr0 (by rw [g1,Tz (by omega),ZmC])
     ·have h5':i+1<s.length:=by omega
      obtain ⟨f,rfl⟩:∃g,f=g+1:=⟨f - 1,by omega⟩
      rw [J1 h5',Zqv] at g1;obtain ⟨b,hb⟩:∃b,b=s.getD (i+1) 0:=⟨_,rfl⟩
      have hbt:=b.toNat_lt;have hbi:s.getD (((i:Int)+1)).toNat 0=b:=by rw [hb];congr 1
      rw [← hb] at g1;have on:∀x:UInt8,ZjW b.toNat=some x→∃out':Bs,Zi out++[[.int .u8 (x.toNat:Int)]]=Zi out'∧(a+1≤i+2∧i+2≤s.length∧s.length<i+2+f∧out'.length≤i+2)∧ZG f (s.drop (i+2)) false out' (i+2 - a)=XH (s.drop a):=fun x hx=>by
       refine ⟨out++[x],(UZ _ _).symm,⟨by omega,by omega,by omega,by simp;omega⟩,?_⟩;rw [g1,hx];simp only;rw [show i - a+1+1=i+2 - a by omega]
      conv=>whnf
      refine oiO ?_;(conv=>whnf);refine ⟨by omega,by omega,?_⟩;(conv=>whnf);rw [hbi];have q:∀n:Nat,(b.toNat:Int)=n→b.toNat=n:=fun n g=>by omega
      conv=>whnf
      refine ZAf (fun k1=>?_) (fun k1=>?_)
      ·have k1':=q 110 k1;(conv=>whnf);refine ⟨fun r hr=>by (simp at hr;rcases hr with rfl <;> rfl),(show ((Zi out).length+1) * 1≤2 ^ 47 by omega),(show (Zi out).length+1≤2 ^ 47 by omega),?_⟩;(conv=>whnf);refine oiO ?_;(conv=>whnf);obtain ⟨out',e1,e2,e3⟩:=on 10 (by rw [k1'];rfl);exact m149
      conv=>whnf
      refine ZAf (fun k2=>?_) (fun k2=>?_)
      ·have k2':=q 116 k2;(conv=>whnf);refine ⟨fun r hr=>by (simp at hr;rcases hr with rfl <;> rfl),(show ((Zi out).length+1) * 1≤2 ^ 47 by omega),(show (Zi out).length+1≤2 ^ 47 by omega),?_⟩;(conv=>whnf);refine oiO ?_;(conv=>whnf);obtain ⟨out',e1,e2,e3⟩:=on 9 (by rw [k2'];rfl);exact m149
      conv=>whnf
      refine ZAf (fun k3=>?_) (fun k3=>?_)
      ·have k3':=q 34 k3;(conv=>whnf);refine ZAf (fun _=>?_) (fun g=>absurd k3 g);(conv=>whnf);refine oiO ?_;(conv=>whnf);refine ⟨by omega,by omega,?_⟩;(conv=>whnf);rw [hbi];refine ⟨fun r hr=>by (simp at hr;rcases hr with rfl <;> rfl),(show ((Zi out).length+1) * 1≤2 ^ 47 by omega),(show (Zi out).length+1≤2 ^ 47 by omega),?_⟩;(conv=>whnf);refine oiO ?_;(conv=>whnf);obtain ⟨out',e1,e2,e3⟩:=on 34 (by rw [k3'];rfl);refine ⟨⟨out',i+2,f,?_,rfl,e2,e3⟩,(show ((s.length:Int) - ((i:Int)+2)).toNat<((s.length:Int) - (i:Int)).toNat by omega)⟩;rw [← e1,k3'];rfl
      conv=>whnf
      refine ZAf (fun k4=>?_) (fun k4=>?_)
      ·have k4':=q 92 k4;(conv=>whnf);refine oiO ?_;(conv=>whnf);refine ⟨by omega,by omega,?_⟩;(conv=>whnf);rw [hbi];refine ⟨fun r hr=>by (simp at hr;rcases hr with rfl <;> rfl),(show ((Zi out).length+1) * 1≤2 ^ 47 by omega),(show (Zi out).length+1≤2 ^ 47 by omega),?_⟩;(conv=>whnf);refine oiO ?_;(conv=>whnf);obtain ⟨out',e1,e2,e3⟩:=on 92 (by rw [k4'];rfl);refine ⟨⟨out',i+2,f,?_,rfl,e2,e3⟩,(show ((s.length:Int) - ((i:Int)+2)).toNat<((s.length:Int) - (i:Int)).toNat by omega)⟩;rw [← e1,k4'];rfl
      have hnone:ZjW b.toNat=none:=by
       unfold ZjW
       rw [Tc (fun g=>k1 (by omega)),Tc (fun g=>k2 (by omega)),Tc (fun g=>k3 (by omega)),Tc (fun g=>k4 (by omega))]
      rw [hnone] at g1;(conv=>whnf);exact herrI (by rw [g1];simp)
    ·conv=>whnf
     refine ZAf (fun h5=>?_) (fun h5=>?_)
     ·have g1:=ZsA (f:=f) (out:=out) (p:=i - a) hne (by rw [hc];exact h3) (by rw [hc];exact h4) (by rw [hc];exact h5);rw [hgo] at g1;(conv=>whnf);exact herrI g1
     ·have g1:=ZvN (f:=f) (out:=out) (p:=i - a) (r:=s.drop i) (by rw [hc];exact h3) (by rw [hc];exact h4) (by rw [hc];exact h5);rw [hgo,Tu] at g1;have g3:=hp2 (by omega);have ec:cut s ((i:Int)).toNat ((i:Int)+((pk (s.drop ((i:Int)).toNat)).2:Int)).toNat=(s.drop i).take (pk (s.drop i)).2:=by
       rw [X8];congr 1;simp only [Tj];omega
      have htl:((s.drop i).take (pk (s.drop i)).2).length=(pk (s.drop i)).2:=by rw [Sl,Tk];omega
      conv=>whnf
      refine Or.inl ⟨InR.i64 (by simp only [Tj];omega) (by simp only [Tj];omega),?_⟩;(conv=>whnf);refine ⟨by omega,by simp only [Tj];omega,by simp only [Tj];omega,?_⟩;(conv=>whnf);rw [ec];refine ⟨fun r hr=>Zaf _ r hr,(show ((Zi out).length+(Zi ((s.drop i).take (pk (s.drop i)).2)).length) * 1≤2 ^ 47 by rw [Yq,Yq];omega),(show (Zi out).length+(Zi ((s.drop i).take (pk (s.drop i)).2)).length≤2 ^ 47 by rw [Yq,Yq];omega),?_⟩;(conv=>whnf);refine Or.inl ⟨InR.i64 (by simp only [Tj];omega) (by simp only [Tj];omega),?_⟩;(conv=>whnf);refine ⟨⟨out++(s.drop i).take (pk (s.drop i)).2,i+(pk (s.drop i)).2,f,?_,rfl,⟨by omega,g3,by omega,by rw [Tb];omega⟩,?_⟩,?_⟩
      ·rw [Yp];rfl
      ·rw [g1];congr 1;omega
      ·exact m56
  ·have g1:XH (s.drop a)=.err 0:=by rw [← hgo,Tz (by omega),ZmC]
   conv=>whnf
   exact herr0 g1
 ·exact h.elim
end Go.PM.Lex
end

section
namespace Go.PM.Lex
open Go.Proofs
variable {w0:World} {nG:Nat}
theorem Zqw:∀b∈ones,b.toNat<128∧Zf (b.toNat:Int)=false∧Zj (b.toNat:Int)=false∧b.toNat≠34:=by decide
theorem Zqx {r:Bs} (h:Yh r≠0):r.getD 0 0∈ones:=by
 unfold Yh at h
 split at h
 ·rename_i g
  simp only [twos,SC,List.any_nil,T9,Tr,or_false] at g;rcases g with g | g | g | g | g <;> (rw [(Zz g).2,Se];decide)
 ·split at h
  ·rename_i g;exact List.contains_iff_mem.1 g
  ·exact absurd rfl h
theorem Zfw {r:Bs} (h0:0<r.length) (h:Zf (pk r).1=true∨Zj (pk r).1=true∨(pk r).1=34):Yh r=0:=by
 by_cases hs:Yh r=0
 ·exact hs
 ·obtain ⟨g1,g2,g3,g4⟩:=Zqw _ (Zqx hs);have:=(Zc4 (c:=(r.getD 0 0).toNat) h0 (by omega) (by omega)).2 rfl;rw [this,g2,g3] at h;rcases h with h | h | h
  ·cases h
  ·cases h
  ·exact absurd h (by omega)
theorem ZnV {c:Int} (h:Zf c=true):Zj c=false∧c≠34:=by
 rw [Ziv] at h;refine ⟨?_,by omega⟩;rw [Bool.eq_false_iff];intro g;rw [isDigit_iff] at g;omega
theorem ZsE {a:Nat} {r:Bs} (h0:0<r.length) (h:Zf (pk r).1=true):Xn a r true=.tok ⟨1,r.take (XA r),0,a,a+XA r⟩:=by
 obtain ⟨h1,h2⟩:=ZnV h;have hs:=Zfw h0 (.inl h);simp only [Xn,hs,h,h1,h2];simp
theorem ZvO {a:Nat} {r:Bs} (h0:0<r.length) (h:Zj (pk r).1=true):Xn a r true=XI a r:=by
 have hs:=Zfw h0 (.inr (.inl h));have h2:(pk r).1≠34:=by rw [isDigit_iff] at h;omega
 simp only [Xn,hs,h,h2];simp
theorem ZvP {a:Nat} {r:Bs} (h0:0<r.length) (h:(pk r).1=34):Xn a r true=ZaQ a r:=by
 have hs:=Zfw h0 (.inr (.inr h));simp only [Xn,hs,h];simp
theorem ZtO {a:Nat} {r:Bs} (h:0<Yh r):Xn a r true=.tok ⟨4,r.take (Yh r),0,a,a+Yh r⟩:=by
 simp only [Xn];rw [Tc (by omega),Tc (by simp),Tf h]
theorem ZxE {a:Nat} {r:Bs} {room:Bool} (h:Zqp r=false):Xn a r room=.bad a 140:=by
 simp only [Zqp,T6,decide_eq_false_iff_not] at h;obtain ⟨⟨⟨h1,h2⟩,h3⟩,h4⟩:=h;simp only [Xn];rw [Tf ⟨by omega,h3,h1,h2⟩]
theorem ZxF {a:Nat} {r:Bs} (h:Zqp r=true):Xn a r false=.bad a 3:=by
 have hn:¬(Yh r=0∧(pk r).1≠34∧Zf (pk r).1=false∧Zj (pk r).1=false):=by
  rintro ⟨g1,g2,g3,g4⟩
  simp only [Zqp,g1,g3,g4,g2] at h;simp at h
 simp only [Xn];rw [Tc hn];simp
noncomputable def ZjA:Zr:=fun args σ K=>match args,σ with
 | [.d (.str s),.d (.int .i64 a)],⟨[],[],0⟩=>(0≤a∧a<s.length∧s.length<4294967281∧Zqp (s.drop a.toNat)=true) ∧
   (match Xn a.toNat (s.drop a.toNat) true with
    | .tok t=>K (.ret (.tuple [VH t.kind t.text t.n t.at' t.fin,.d (.int .i64 0),.d (.int .i64 0)])) ⟨[],[],0⟩
    | .bad p e=>K (.ret (.tuple [VH 0 [] 0 0 0,.d (.int .i64 p),.d (.int .i64 e)])) ⟨[],[],0⟩)
 | _,_=>False
theorem Zle:Za ZjA:=fun args σ K K' hK h=>by
 unfold ZjA at h ⊢;split at h
 ·refine ⟨h.1,?_⟩;have h:=h.2;split at h <;> exact hK _ _ h
 ·exact h.elim
noncomputable def ZvQ:Tbl:=[(230,U1),(231,ZcG),(285,Wi),(315,Zjx),(316,Zfv),(314,Zc3)]
theorem ZvR:PCalls (GG w0 nG) 288 ZjA:=by
 refine V7 Z8 mixed (tbl:=ZvQ) ⟨⟨ZbO,WQ⟩,⟨ZlJ,Zdk⟩,⟨ZbN,Xh⟩,⟨ZvM,Zld⟩,⟨ZsD,Zjz⟩,⟨Zmy,ZdE⟩,trivial⟩ Tryz.func288 rfl (by kernel_rfl) (by kernel_rfl) ?_;intro args σ K h
 unfold ZjA at h
 split at h
 ·rename_i s a
  obtain ⟨⟨h0,h1,hs,hb⟩,h⟩:=h;obtain ⟨a,rfl⟩:∃n:Nat,a=n:=⟨a.toNat,by omega⟩
  simp only [Tj] at h hb;have hr0:0<(s.drop a).length:=by rw [Tk];omega
  have hdg:=Zao hr0;have h34:=Zc4 hr0 (c:=34) (by omega) (by omega);rw [Lib.getD_dropU,Sa] at hdg h34;have hbt:=(s.getD a 0).toNat_lt;have hbi:s.getD ((a:Int)).toNat 0=s.getD a 0:=by rw [Tj]
  refine ⟨Zb [],W4 [],Yu [],0,false,by decide,Ta rfl,?_⟩;(conv=>whnf);refine ⟨⟨h0,hs⟩,?_⟩;(conv=>whnf);refine ZAi (fun h2=>?_) (fun h2=>?_)
  ·have h2':Zf (pk (s.drop a)).1=true:=h2;rw [ZsE hr0 h2'] at h;(conv=>whnf);refine ⟨⟨h0,by omega,hs,h2'⟩,?_⟩;(conv=>whnf);have e1:cut s ((a:Int)).toNat (((a:Int)).toNat+XA (s.drop ((a:Int)).toNat))=(s.drop a).take (XA (s.drop a)):=by rw [X8];congr 1;simp only [Tj];omega
   rw [e1];exact m163
  ·have h2':Zf (pk (s.drop a)).1=false:=h2;(conv=>whnf);refine ⟨h0,h1,?_⟩;(conv=>whnf);rw [hbi];refine Or.inl ⟨InR.i32 (by omega) (by omega),?_⟩;(conv=>whnf);refine ZAi (fun h3=>?_) (fun h3=>?_)
   ·have h3':Zj (pk (s.drop a)).1=true:=hdg.trans h3;rw [ZvO hr0 h3',XI] at h;(conv=>whnf);refine ⟨⟨h0,h1,hs,h3⟩,fun n hn=>?_,fun hn n e=>?_⟩
    ·rw [show ZJ (s.drop a)=some n from hn] at h;(conv=>whnf);exact m163
    ·rw [show ZJ (s.drop a)=none from hn] at h;exact m54
   ·have h3':Zj (pk (s.drop a)).1=false:=hdg.trans h3;(conv=>whnf);refine ⟨h0,h1,?_⟩;(conv=>whnf);rw [hbi];(conv=>whnf);refine ZAf (fun h4=>?_) (fun h4=>?_)
    ·have h4':=h34.2 h4;rw [ZvP hr0 h4',ZaQ] at h;(conv=>whnf);refine ⟨⟨h0,h1,hs⟩,?_⟩;rw [Tj]
     cases hT:XH (s.drop a) with
     | ok t l =>
      rw [hT] at h;(conv=>whnf);exact m163
     | err p =>
      rw [hT] at h;(conv=>whnf);exact m163
    ·have hsg:0<Yh (s.drop a):=by
      rw [Zqp,h2',h3',decide_eq_false (fun g=>h4 (h34.1 g))] at hb;simpa using hb
     have hsb:Yh (s.drop a)≤(s.drop a).length:=by
      have:=ZeH (a:=a) hr0 (ZtO (a:=a) hsg);simp only at this;omega
     have hsl:((s.drop a).take (Yh (s.drop a))).length=Yh (s.drop a):=by
      rw [Sl];omega
     rw [Tk] at hsb;rw [ZtO hsg] at h;(conv=>whnf);refine ⟨⟨h0,h1,hs⟩,?_⟩;(conv=>whnf);refine Or.inl ⟨InR.i64 (by simp only [Tj,hsl];omega) (by simp only [Tj,hsl];omega),?_⟩;(conv=>whnf);simp only [Tj,hsl];exact m163
 ·exact h.elim
noncomputable def ZjB:Zr:=fun args σ K=>match args,σ with
 | [.d (.str s),.d (.int .i64 m)],⟨[],[],0⟩=>s.length<4294967281 ∧
   K (.ret (.tuple [.d (.sl (Zv (VG s m).1)),.d (.int .i64 (VG s m).2.1),.d (.int .i64 (VG s m).2.2)])) ⟨[],[],0⟩
 | _,_=>False
theorem Zlf:Za ZjB:=fun args σ K K' hK h=>by
 unfold ZjB at h ⊢;split at h <;> first | exact ⟨h.1,hK _ _ h.2⟩ | exact h.elim
noncomputable def ZvS:Tbl:=[(286,Zcf),(287,Zjv),(288,ZjA)]
theorem ZvT:PCalls (GG w0 nG) 233 ZjB:=by
 refine V7 Z8 mixed (tbl:=ZvS) ⟨⟨Zqu,ZhO⟩,⟨ZvH,Zla⟩,⟨ZvR,Zle⟩,trivial⟩ Tryz.func233 rfl (by kernel_rfl) (by kernel_rfl) ?_;intro args σ K h
 unfold ZjB at h
 split at h
 ·rename_i s m
  obtain ⟨hs,h⟩:=h;refine ⟨Zb [(3,⟨[7,8],[0,1],fun vs σ=>∃(l:List Tok) (e f:Nat),vs=[.sl 0 218 (Zv l),.d (.int .i64 e)]∧σ=⟨[],[0],1⟩ ∧
   (e≤s.length∧s.length<e+f∧l.length≤e)∧VG s m=(l++(Xd f (m - l.length) e (s.drop e)).1,(Xd f (m - l.length) e (s.drop e)).2),fun vs _=>match vs with | [_,.d (.int _ n)]=>((s.length:Int) - n).toNat | _=>0⟩)],W4 [],Yu [],0,false,by simp,Ta rfl,?_⟩
  conv=>whnf
  refine ⟨⟨[],0,s.length+1,rfl,rfl,⟨by omega,by omega,by simp⟩,by simp [VG]⟩,?_⟩;intro vs σ1 hI
  obtain ⟨l,e,f,rfl,rfl,⟨he1,he2,hle⟩,hall⟩:=hI;obtain ⟨f,rfl⟩:∃g,f=g+1:=⟨f - 1,by omega⟩
  have hbl:(Zt (s.drop e)).2≤s.length - e:=by have:(Zt (s.drop e)).2≤(s.drop e).length:=ZbK _ _;rw [Tk] at this;exact this
  have hend:∀p c:Nat,Xd (f+1) (m - l.length) e (s.drop e)=([],(p,c))→K (.ret (.tuple [.d (.sl (Zv l)),.d (.int .i64 p),.d (.int .i64 c)])) ⟨[],[],0⟩:=fun p c g=>by
   rw [hall,g] at h;simp only [T2] at h;exact h
  have hb0:s.drop ((e:Int)).toNat=s.drop e:=by rw [Tj]
  conv=>whnf
  refine ⟨⟨by omega,by omega,hs⟩,?_⟩;rw [hb0];obtain ⟨k,hk⟩:∃k,k=(Zt (s.drop e)).2:=⟨_,rfl⟩
  rw [← hk];rw [← hk] at hbl
  cases hok:(Zt (s.drop e)).1 with
  | false =>
   have g1:=hend (e+k) 140 (by rw [Xd,Tf hok,hk]);rw [Int.natCast_add] at g1;simp only [Tr,if_false];(conv=>whnf);exact g1
  | true =>
   have hb1:¬(Zt (s.drop e)).1=false:=by rw [hok];simp
   simp only [if_true];(conv=>whnf);refine ZAf (fun h3=>?_) (fun h3=>?_)
   ·have hnil:(s.drop e).drop k=[]:=by rw [Tu];exact Tz (by omega)
    have g1:=hend 0 0 (by rw [Xd,Tc hb1,← hk,Tf hnil]);(conv=>whnf);exact g1
   ·have hlt:e+k<s.length:=by omega
    have hne:¬(s.drop e).drop k=[]:=fun g=>by have:=congrArg List.length g;rw [Tu,Tk] at this;simp at this;omega
    have g1:Xd (f+1) (m - l.length) e (s.drop e)=(match Xn (e+k) (s.drop (e+k)) (decide ((l.length:Int)<m)) with
      | .bad p e=>([],(p,e))
      | .tok t=>(t::(Xd f (m - l.length - 1) t.fin ((s.drop (e+k)).drop (t.fin - (e+k)))).1,(Xd f (m - l.length - 1) t.fin ((s.drop (e+k)).drop (t.fin - (e+k)))).2)):=by
     rw [Xd,Tc hb1,← hk,Tc hne,Tu,show (decide (0<m - (l.length:Int)))=decide ((l.length:Int)<m) from by rw [decide_eq_decide];omega]<;>rfl
    have hek:s.drop ((e:Int)+(k:Int)).toNat=s.drop (e+k):=by rw [show ((e:Int)+(k:Int)).toNat=e+k by omega]
    conv=>whnf
    refine ⟨⟨by omega,by omega,hs⟩,?_⟩;(conv=>whnf);refine ZAi (fun h4=>?_) (fun h4=>?_)
    ·rw [hek] at h4;have h4':Zqp (s.drop (e+k))=false:=by simpa using h4
     have g2:=hend _ _ (g1.trans (by rw [ZxE h4']));(conv=>whnf);exact g2
    ·rw [hek] at h4;have h4':Zqp (s.drop (e+k))=true:=by simpa using h4
     conv=>whnf
     refine ZAf (fun h5=>?_) (fun h5=>?_)
     ·have h5':¬(l.length:Int)<m:=by have h5:m≤((Zv l).length:Int):=h5;rw [ZC] at h5;omega
      have g2:=hend _ _ (g1.trans (by rw [decide_eq_false h5',ZxF h4']));(conv=>whnf);exact g2
     ·have h5':(l.length:Int)<m:=by have h5:¬m≤((Zv l).length:Int):=h5;rw [ZC] at h5;omega
      rw [TC h5'] at g1;(conv=>whnf);refine ⟨⟨by omega,by omega,hs,by rw [hek];exact h4'⟩,?_⟩;rw [hek,show ((e:Int)+(k:Int)).toNat=e+k by omega]
      cases hx:Xn (e+k) (s.drop (e+k)) true with
      | bad p c =>
       rw [hx] at g1;have hc:=Zix hx;have g2:=hend p c g1;(conv=>whnf);refine ZAh (fun h6=>?_) (fun h6=>absurd h6 (by have:((c:Nat):Int)≠0:=(by omega);exact this));(conv=>whnf);exact g2
      | tok t =>
       rw [hx] at g1;obtain ⟨ht1,ht2,ht3⟩:=ZeH (by rw [Tk];omega) hx;rw [Tk] at ht3;(conv=>whnf);refine ⟨fun r hr=>by (simp at hr;subst hr;rfl),(show ((Zv l).length+1) * 48≤2 ^ 47 by rw [ZC];omega),(show (Zv l).length+1≤2 ^ 47 by rw [ZC];omega),?_⟩;(conv=>whnf);refine ⟨⟨l++[t],t.fin,f,?_,rfl,⟨by omega,by omega,by rw [Tb];simp;omega⟩,?_⟩,?_⟩
       ·rw [Zgr];rfl
       ·exact m115
       ·exact (show ((s.length:Int) - (t.fin:Int)).toNat<((s.length:Int) - (e:Int)).toNat by omega)
 ·exact h.elim
end Go.PM.Lex
end

section
namespace Go.PM.Lex
open Go.Proofs
variable {w0:World} {nG:Nat}
noncomputable def ZjC:Zr:=fun args σ K=>match args,σ with
 | [.d (.str s),.d (.int .i64 m)],⟨[],[],0⟩=>s.length<4294967281 ∧
   ∀x,VG s m=x→K (.ret (.tuple (if x.2.2=0 then [.d (.sl (Zv x.1)),.d (.int .i64 0),.d (.int .i64 0)] else [.d (.sl []),.d (.int .i64 x.2.1),.d (.int .i64 x.2.2)]))) ⟨[],[],0⟩
 | _,_=>False
theorem Zlg:Za ZjC:=fun args σ K K' hK h=>by
 unfold ZjC at h ⊢;split at h <;> first | exact ⟨h.1,fun x hx=>hK _ _ (h.2 x hx)⟩ | exact h.elim
noncomputable def ZvU:Tbl:=[(233,ZjB)]
theorem ZvV:PCalls (GG w0 nG) 167 ZjC:=by
 refine pc (tbl:=ZvU) ⟨⟨ZvT,Zlf⟩,trivial⟩ Tryz.func167 ?_;intro args σ K h
 unfold ZjC at h
 split at h
 ·rename_i s m
  obtain ⟨hs,h⟩:=h;refine ⟨Zb [],0,false,by simp,Ta rfl,?_⟩;(conv=>whnf);refine ⟨hs,?_⟩;obtain ⟨x,hx⟩:∃x,VG s m=x:=⟨_,rfl⟩
  have h:=h x hx;rw [hx];obtain ⟨l,p,c⟩:=x;(conv=>whnf);refine ZAh (fun hc=>?_) (fun hc=>?_)
  ·conv=>whnf
   simp only at hc h;rw [Tc (by omega)] at h;exact h
  ·conv=>whnf
   simp only at hc h;rw [Tf (by omega)] at h;exact h
 ·exact h.elim
end Go.PM.Lex
end

section
namespace Go.PM.Lex
open Go.Proofs
variable {w0:World} {nG:Nat}
theorem Zqy {a:Nat} {r:Bs} {t:Tok} (h:Xn a r true=.tok t):1≤t.kind∧t.kind≤4:=by
 rw [YR] at h;split at h
 ·cases h
 rw [Tc (by simp)] at h;split at h
 ·cases h;exact ⟨Ta rfl,Ta rfl⟩
 split at h
 ·unfold ZaQ at h
  split at h
  ·cases h
  ·cases h;exact ⟨Ta rfl,Ta rfl⟩
 split at h
 ·unfold XI at h
  split at h
  ·cases h
  ·cases h;exact ⟨Ta rfl,Ta rfl⟩
 ·cases h;exact ⟨Ta rfl,Ta rfl⟩
theorem ZhP:∀(f:Nat) (most:Int) (a:Nat) (r:Bs),∀x∈(Xd f most a r).1,1≤x.kind∧x.kind≤4
 | 0,most,a,r=>fun x hx=>by simp [Xd] at hx
 | f+1,most,a,r=>by
  rw [Xd];split
  ·intro x hx;cases hx
  dsimp only;split
  ·intro x hx;cases hx
  rename_i hne
  split
  ·intro x hx;cases hx
  ·rename_i t ht
   have hroom:=Zkz ht;rw [hroom] at ht;intro x hx
   rcases Tt.1 hx with rfl | hx
   ·exact Zqy ht
   ·exact ZhP f _ _ _ x hx
theorem ZsF {a:Nat} {r:Bs} {t:Tok} (h:Xn a r true=.tok t) (hk:t.kind=1):t.text≠[40]:=by
 rw [YR] at h;split at h
 ·cases h
 rw [Tc (by simp)] at h;split at h
 ·cases h;exact absurd hk (by simp)
 rename_i hs
 split at h
 ·unfold ZaQ at h
  exact m143
 split at h
 ·unfold XI at h
  exact m143
 ·cases h
  intro g
  apply hs
  cases r with
  | nil=>simp at g
  | cons b r =>
   cases hn:XA (b::r) with
   | zero=>rw [hn] at g;simp at g
   | succ k =>
    rw [hn] at g;have hb:b=40:=by
     have:=congrArg (fun l=>l.getD 0 0) g;simpa using this
    subst hb;unfold Yh
    split
    ·omega
    ·rw [Tf (by simp [ones])];omega
theorem Zlh:∀(f:Nat) (most:Int) (a:Nat) (r:Bs),∀x∈(Xd f most a r).1,x.kind=1→x.text≠[40]
 | 0,most,a,r=>fun x hx=>by simp [Xd] at hx
 | f+1,most,a,r=>by
  rw [Xd];split
  ·intro x hx;cases hx
  dsimp only;split
  ·intro x hx;cases hx
  rename_i hne
  split
  ·intro x hx;cases hx
  ·rename_i t ht
   have hroom:=Zkz ht;rw [hroom] at ht;intro x hx
   rcases Tt.1 hx with rfl | hx
   ·exact ZsF ht
   ·exact Zlh f _ _ _ x hx
theorem ZsG {a:Nat} {r:Bs} {t:Tok} (h:Xn a r true=.tok t) (hk:t.kind=4):t.text.length≤2:=by
 rw [YR] at h;split at h
 ·cases h
 rw [Tc (by simp)] at h;have h2:Yh r≤2:=by unfold Yh;split <;> first | omega | (split <;> omega)
 split at h
 ·cases h;simp only [Sl];omega
 split at h
 ·unfold ZaQ at h
  exact m143
 split at h
 ·unfold XI at h
  exact m143
 ·cases h;exact absurd hk (by simp)
theorem Zli:∀(f:Nat) (most:Int) (a:Nat) (r:Bs),∀x∈(Xd f most a r).1,x.kind=4→x.text.length≤2
 | 0,most,a,r=>fun x hx=>by simp [Xd] at hx
 | f+1,most,a,r=>by
  rw [Xd];split
  ·intro x hx;cases hx
  dsimp only;split
  ·intro x hx;cases hx
  rename_i hne
  split
  ·intro x hx;cases hx
  ·rename_i t ht
   have hroom:=Zkz ht;rw [hroom] at ht;intro x hx
   rcases Tt.1 hx with rfl | hx
   ·exact ZsG ht
   ·exact Zli f _ _ _ x hx
theorem ZsH:PCalls (GG w0 nG) 103 (Ud 0 6):=by
 refine pc (tbl:=[]) trivial Tryz.func103 ?_;intro args σ K h
 unfold Ud qSp at h
 split at h
 ·rename_i t rows a en dp w pl
  obtain ⟨L,S,rfl,ho,h⟩:=h;split at h
  ·obtain ⟨j,rfl,hj5,hdn,h⟩:=h
   replace h:=h _ rfl
   cases S with
   | ok d ts=>have:=hdn _ _ rfl;omega
   | bad e =>
    refine ⟨Zb [],1,false,by simp,Ta rfl,?_⟩;have hw:¬w=0:=by have:=ho.1;have:=ho.2.1;omega
    conv=>whnf
    refine ZAh (fun _=>?_) (fun g=>absurd (by simpa using g) hw);(conv=>whnf);exact h _ _ _ _ _ _ _ _ _ ho
  ·exact h.elim
 ·exact h.elim
theorem ZmD {n:Nat} (he:PCalls (GG w0 nG) 103 (Ud n 6)):∀k,k≤6→PCalls (GG w0 nG) 103 (Ud n (6 - k))
 | 0,_=>he
 | k+1,hk=>by
  have ih:=ZmD he k (by omega);rw [show 6 - k=(6 - (k+1))+1 by omega] at ih;exact ZxC ⟨⟨Zss (Zsw he) he,ZdD _ _⟩,⟨ZvC,Zk8⟩,⟨ih,XX _ _⟩,⟨Xv,ZT⟩,trivial⟩
theorem ZxG:∀n,PCalls (GG w0 nG) 103 (Ud n 6)
 | 0=>ZsH
 | n+1=>(ZmD (ZxG n) 6 (by omega)).weaken1 fun args σ K h=>by
  unfold Ud qSp at h ⊢
  split at h
  ·obtain ⟨L,S,h1,h2,h⟩:=h;refine ⟨L,S,h1,h2,?_⟩;split at h
   ·obtain ⟨j,h3,h4,h5,h6⟩:=h;exact ⟨j,h3,h4,fun d ts hq=>by have:=h5 d ts hq;omega,h6⟩
   ·exact h.elim
  ·exact h
def Zqz:SS→SS
 | .ok d []=>.ok d []
 | .ok _ (_::_)=>.bad 150
 | .bad e=>.bad e
def Zzc:SS→Nat
 | .ok _ _=>0
 | .bad e=>e
def Zfx:Zr:=qSp fun rest S K=>match rest with
 | []=>∀e:Nat,Zzc (Zqz S)=e→∀p:Int,K (.tuple [.d (.int .i64 p),.d (.int .i64 e)]) (Zqz S)
 | _=>False
theorem ZdF:Za Zfx:=ZI fun rest S K K' hK h=>by
 split at h
 ·exact fun e he p=>hK _ _ (h e he p)
 ·exact h.elim
theorem SOK.err {L:List Tok} {a dp w:Int} {S:SS} (h:SOK L a dp w S):w=(Zzc S:Int):=by
 cases S with
 | ok d ts=>exact h.1
 | bad e=>exact h.1
noncomputable def ZsI:Tbl:=[(171,VB)]
theorem ZmE:PCalls (GG w0 nG) 104 Zfx:=by
 refine pc (tbl:=ZsI) ⟨⟨VW,YK⟩,trivial⟩ Tryz.func104 ?_;intro args σ K h
 unfold Zfx qSp at h
 split at h
 ·rename_i rest t rows a en dp w pl
  obtain ⟨L,S,rfl,ho,h⟩:=h;split at h
  ·replace h:=h _ rfl
   refine ⟨Zb [],1,false,by simp,Ta rfl,?_⟩;(conv=>whnf);refine ZAf (fun hc=>?_) (fun hc=>?_)
   ·have hc:a<L.length:=by have hc:a<((Zv L).length:Int):=hc;rw [ZC] at hc;exact hc
    have hf:Zk5 150 S=Zqz S:=by
     cases S with
     | bad e=>rfl
     | ok d ts =>
      have:=ho.2.1.len
      cases ts with
      | nil=>simp at this;omega
      | cons t ts=>rfl
    conv=>whnf
    refine ⟨L,S,rfl,ho,150,rfl,by omega,?_⟩;rw [hf];intro a2 dp2 w2 pl2 ho2
    conv=>whnf
    obtain rfl:=ho2.err;exact h _ _ _ _ _ ho2
   ·have hc:¬a<L.length:=by have hc:¬a<((Zv L).length:Int):=hc;rw [ZC] at hc;exact hc
    have hf:S=Zqz S:=by
     cases S with
     | bad e=>rfl
     | ok d ts =>
      have:=ho.2.1.len
      cases ts with
      | nil=>rfl
      | cons t ts=>simp at this;omega
    rw [hf] at ho;(conv=>whnf);obtain rfl:=ho.err;exact h _ _ _ _ _ ho
  ·exact h.elim
 ·exact h.elim
noncomputable def ZqA:Tbl:=[(167,ZjC)]
noncomputable def Zap:Zr:=fun args σ K=>match args,σ with
 | [.d (.str s),.d (.int .i64 b),.d (.int .i64 m)],⟨[],[],0⟩=>s.length<4294967281∧b=65536∧m=16384 ∧
   (65536<s.length→K (.ret (.tuple [.d .nilp,.d (.int .i64 0),.d (.int .i64 3)])) ⟨[],[],0⟩) ∧
   (¬65536<s.length→∀(l:List Tok) (p:Int) (c:Nat),(VG s ((16384:Nat):Int)).2.2=c→(c=0→l=(VG s ((16384:Nat):Int)).1)→K (.ret (.tuple [.ptr 0 0,.d (.int .i64 p),.d (.int .i64 c)])) ⟨[UG 226 l 0 s.length 0 0 0],[],0⟩)
 | _,_=>False
theorem Zcg:Za Zap:=fun args σ K K' hK h=>by
 unfold Zap at h ⊢;split at h <;> first | exact ⟨h.1,h.2.1,h.2.2.1,fun g=>hK _ _ (h.2.2.2.1 g),fun g l p c g1 g2=>hK _ _ (h.2.2.2.2 g l p c g1 g2)⟩ | exact h.elim
theorem ZjD:PCalls (GG w0 nG) 102 Zap:=by
 refine pc (tbl:=ZqA) ⟨⟨ZvV,Zlg⟩,trivial⟩ Tryz.func102 ?_;intro args σ K h
 unfold Zap at h
 split at h
 ·rename_i s b m
  obtain ⟨hs,rfl,rfl,h1,h2⟩:=h
  by_cases hl:65536<s.length
  ·replace h1:=h1 hl
   refine ⟨Zb [],0,false,by simp,Ta rfl,?_⟩;(conv=>whnf);refine ZAf (fun hc=>?_) (fun hc=>absurd (show (s.length:Int)>65536 by omega) hc);(conv=>whnf);exact h1
  ·replace h2:=h2 hl
   refine ⟨Zb [],1,false,by simp,Ta rfl,?_⟩;(conv=>whnf);refine ZAf (fun hc=>absurd (show 65536<s.length by have hc:(s.length:Int)>65536:=hc;omega) hl) (fun hc=>?_);(conv=>whnf);refine ⟨hs,?_⟩;intro x hx
   have hx:VG s ((16384:Nat):Int)=x:=hx;obtain ⟨l,q,c⟩:=x
   cases c with
   | succ c =>
    conv=>whnf
    exact h2 [] _ (c+1) (by rw [hx]) (by simp)
   | zero =>
    conv=>whnf
    exact h2 l _ 0 (by rw [hx]) (fun _=>by rw [hx])
 ·exact h.elim
def XQ {α:Type}:Top α→Nat
 | .ok _ _=>0
 | .err _ e=>e
noncomputable def ZgP:Zr:=fun args σ K=>match args,σ with
 | [.d (.str s)],⟨[],[],0⟩=>s.length<4294967281∧∀e:Nat,XQ (ZX 65536 16384 (ZW 64) s)=e→∀o u m rows p q,K (.ret (.tuple [ZxB o u m rows p,.d (.int .i64 q),.d (.int .i64 e)])) ⟨[],[],0⟩
 | _,_=>False
theorem Zlj:Za ZgP:=fun args σ K K' hK h=>by
 unfold ZgP at h ⊢;split at h <;> first | exact ⟨h.1,fun e he o u m rows p q=>hK _ _ (h.2 e he o u m rows p q)⟩ | exact h.elim
theorem ZqB {α:Type} {P:Nat→Ts→R α} {s:Bs} (h1:¬65536<s.length) (h2:(VG s ((16384:Nat):Int)).2.2=0):XQ (ZX 65536 16384 (P 64) s)=Zzc (Zqz (ZF P (.ok 64 ((VG s ((16384:Nat):Int)).1.map Tok.t0)))):=by
 rw [Zh];unfold ZX
 rw [Tc h1,Tc (by simpa using h2)]
 cases P 64 ((VG s ((16384:Nat):Int)).1.map Tok.t0) with
 | err r e=>rfl
 | ok v ts=>cases ts <;> rfl
noncomputable def ZvW:Tbl:=[(102,Zap),(103,Ud 65 6),(104,Zfx)]
theorem ZvX (ht:TblOK (GG w0 nG) ZvW):PCalls (GG w0 nG) 58 ZgP:=by
 refine pc ht Tryz.func58 ?_;intro args σ K h
 unfold ZgP at h
 split at h
 ·rename_i s
  obtain ⟨hs,h⟩:=h
  replace h:=h _ rfl
  refine ⟨Zb [],0,false,by simp,Ta rfl,?_⟩;(conv=>whnf);refine ⟨hs,rfl,rfl,fun hl=>?_,fun hl l q c hc hq=>?_⟩
  ·have he:XQ (ZX 65536 16384 (ZW 64) s)=3:=by unfold ZX;rw [Tf hl];rfl
   rw [he] at h;(conv=>whnf);exact h _ _ _ _ _ _
  ·have hle:=Zhv s ((16384:Nat):Int);have hkd:∀y∈(VG s ((16384:Nat):Int)).1,1≤y.kind∧y.kind≤4:=ZhP _ _ _ _;have hnm:∀y∈(VG s ((16384:Nat):Int)).1,y.kind=1→y.text≠[40]:=Zlh _ _ _ _;have hsg:∀y∈(VG s ((16384:Nat):Int)).1,y.kind=4→y.text.length≤2:=Zli _ _ _ _
   cases c with
   | succ c =>
    have he:XQ (ZX 65536 16384 (ZW 64) s)=c+1:=by unfold ZX;rw [Tc hl,hc,Tf (by simp)];rfl
    rw [he] at h;(conv=>whnf);exact h _ _ _ _ _ _
   | zero =>
    rw [ZqB (P:=fun d=>ZW d) hl hc] at h;obtain rfl:=hq rfl;have ho:SOK (VG s ((16384:Nat):Int)).1 0 0 0 (.ok 64 ((VG s ((16384:Nat):Int)).1.map Tok.t0)):=SOK.mk ⟨⟨by omega,by omega,TO hle (by decide),by simp [tz]⟩,hkd,hnm,hsg⟩ (by omega) (by omega);generalize (VG s ((16384:Nat):Int)).1=l at h ho;(conv=>whnf);refine ⟨l,_,rfl,ho,0,rfl,by omega,fun d ts hq=>(by cases hq;omega),fun S1 hS1=>?_⟩;have hS1:ZF (fun d=>dsK (Zp d) 5) (.ok 64 (l.map Tok.t0))=S1:=hS1;rw [funext Zbj] at hS1;rw [hS1] at h;intro eo es em er ep a1 dp1 w1 pl1 ho1
    conv=>whnf
    refine ⟨l,_,rfl,ho1,fun e he p=>?_⟩;rw [he] at h;intro a2 dp2 w2 pl2 ho2
    conv=>whnf
    refine ZAh (fun h0=>?_) (fun h0=>?_)
    ·conv=>whnf
     exact h _ _ _ _ _ _
    ·have h0:e=0:=by have h0:(e:Int)=0:=h0;omega
     subst h0;(conv=>whnf);exact h _ _ _ _ _ _
 ·exact h.elim
theorem Zzd:PCalls (GG w0 nG) 58 ZgP:=ZvX ⟨⟨ZjD,Zcg⟩,⟨ZxG 65,XX _ _⟩,⟨ZmE,ZdF⟩,trivial⟩
end Go.PM.Lex
end

section
namespace Go.PM.Lex
open Go.Proofs
variable {w0:World} {nG:Nat}
abbrev Zwj (o:Int) (s:Bs) (args body:List (List D)) (p:Int):PV:=.agg [.d (.int .u8 o),.d (.str s),.d (.sl args),.d (.sl body),.d (.int .i64 p)]
abbrev ZAa (s:Bs) (args body:List (List D)) (p:Int):PV:=.agg [.d (.str s),.d (.sl args),.d (.sl body),.d (.int .i64 p)]
theorem Zaq (w:Bs) (S:SS):ZF (fun _=>ZO w) S=Ye w S:=by
 cases S with
 | bad e=>rfl
 | ok d ts =>
  rw [Zh,ZO,Ye]
  by_cases h:isW ts [w]=true
  ·rw [Tf h,Tf h];rfl
  ·rw [Tc h,Tc h];rfl
theorem ZmF (op a:Nat) (S:SS):ZF (fun d=>Jx d op a) S=ZF (fun d=>XY d (Yi d) [40] [41]) (YU S):=by
 cases S with
 | bad e=>rfl
 | ok d ts =>
  rw [← V3,Zh,Zh,Jx]
  cases Z1 ts with
  | err r e=>rfl
  | ok v ts' =>
   rw [R.bind_ok];show _=ZF (fun d=>XY d (Yi d) [40] [41]) (.ok d ts');rw [Zh];exact VF d _ _
theorem ZsJ (S:SS):ZF (fun d=>Zd7 d true) S =
  Ye [46] (if YT 0 [58,45] (ZF (fun d=>XY d (Yi d) [40] [41]) (YU S))=true then ZF Ue (Xb (ZF (fun d=>XY d (Yi d) [40] [41]) (YU S))) else ZF (fun d=>XY d (Yi d) [40] [41]) (YU S)):=by
 cases S with
 | bad e=>rfl
 | ok d ts =>
  rw [← V3,Zh,Zh,Zd7]
  cases Z1 ts with
  | err r e=>rfl
  | ok v ts1 =>
   rw [R.bind_ok];show _=Ye [46] (if YT 0 [58,45] (ZF (fun d=>XY d (Yi d) [40] [41]) (.ok d ts1))=true then ZF Ue (Xb (ZF (fun d=>XY d (Yi d) [40] [41]) (.ok d ts1))) else ZF (fun d=>XY d (Yi d) [40] [41]) (.ok d ts1));rw [Zh]
   cases XY d (Yi d) [40] [41] ts1 with
   | err r e=>rfl
   | ok l ts2 =>
    rw [R.bind_ok];show V0 d _=Ye [46] (if isW ts2 [[58,45]]=true then ZF Ue (.ok d ts2.tail) else .ok d ts2)
    by_cases h:isW ts2 [[58,45]]=true
    ·rw [Tf ⟨rfl,h⟩,Tf h,Zh]
     cases Ue d ts2.tail with
     | err r e=>rfl
     | ok b ts3 =>
      rw [R.bind_ok];show _=Ye [46] (.ok d ts3);rw [← Zaq,Zh];exact VF d _ _
    ·rw [Tc (fun g=>h g.2),Tc h];rw [← Zaq,Zh];exact VF d _ _
def Zfy (n:Nat):Zr:=qSp fun rest S K=>match rest with
 | [.d (.int .u8 op),.d (.int .i64 p)]=>dLt (n+1) S∧∀S',ZF (fun d=>XY d (Yi d) [40] [41]) (YU S)=S'→∀o s a b q,K (Zwj o s a b q) S'
 | _=>False
theorem ZjE (n:Nat):Za (Zfy n):=ZI fun rest S K K' hK h=>by
 split at h
 ·exact ⟨h.1,fun S' hS o s a b q=>hK _ _ (h.2 S' hS o s a b q)⟩
 ·exact h.elim
theorem Zar {n:Nat} {S:SS} (h:dLt n S):dLt n (YU S):=by rw [← V3];exact Yg h
noncomputable def ZsK (n:Nat):Tbl:=[(243,VE),(291,Jg n)]
theorem ZmG {n:Nat} (ha:PCalls (GG w0 nG) 291 (Jg n)):PCalls (GG w0 nG) 326 (Zfy n):=by
 refine pc (tbl:=ZsK n) ⟨⟨VZ,YN⟩,⟨ha,J0 _⟩,trivial⟩ Tryz.func326 ?_;intro args σ K h
 unfold Zfy qSp at h
 split at h
 ·rename_i t rows a en dp w pl
  obtain ⟨L,S,rfl,ho,h⟩:=h;split at h
  ·rename_i op p
   obtain ⟨hdn,h⟩:=h
   replace h:=h _ rfl
   refine ⟨Zb [],1,false,by simp,Ta rfl,?_⟩;(conv=>whnf);refine ⟨L,S,rfl,ho,fun S1 s1 hS1=>?_⟩;have hdn1:=Zar hdn;rw [hS1] at h hdn1;intro a1 dp1 w1 pl1 ho1
   conv=>whnf
   refine ⟨L,S1,rfl,ho1,⟨rfl,by simp,hdn1⟩,fun S2 hS2 rows2=>?_⟩;rw [hS2] at h;exact m125
  ·exact h.elim
 ·exact h.elim
def Zbl (n:Nat):Zr:=qSp fun rest S K=>match rest with
 | []=>dLt (n+1) S∧∀S',ZF Ue S=S'→∀rows,K (.d (.sl rows)) S'
 | _=>False
theorem ZjF (n:Nat):Za (Zbl n):=ZI fun rest S K K' hK h=>by
 exact m139
def Zfz (n:Nat):Zr:=qSp fun rest S K=>match rest with
 | []=>dLt (n+1) S∧∀S',ZF (fun d=>Zd7 d true) S=S'→∀s a b q,K (ZAa s a b q) S'
 | _=>False
theorem ZjG (n:Nat):Za (Zfz n):=ZI fun rest S K K' hK h=>by
 split at h
 ·exact ⟨h.1,fun S' hS s a b q=>hK _ _ (h.2 S' hS s a b q)⟩
 ·exact h.elim
noncomputable def ZsL (n:Nat):Tbl:=[(234,VC),(243,VE),(291,Jg n),(170,Xz),(297,Zbl n),(294,VD)]
theorem ZsM {n:Nat} (ha:PCalls (GG w0 nG) 291 (Jg n)) (hb:PCalls (GG w0 nG) 297 (Zbl n)):PCalls (GG w0 nG) 244 (Zfz n):=by
 refine pc (tbl:=ZsL n) ⟨⟨VX,YL⟩,⟨VZ,YN⟩,⟨ha,J0 _⟩,⟨Xv,ZT⟩,⟨hb,ZjF _⟩,⟨VY,YM⟩,trivial⟩ Tryz.func244 ?_;intro args σ K h
 unfold Zfz qSp at h
 split at h
 ·rename_i rest t rows a en dp w pl
  obtain ⟨L,S,rfl,ho,h⟩:=h;split at h
  ·obtain ⟨hdn,h⟩:=h
   replace h:=h _ rfl
   rw [ZsJ] at h;refine ⟨Zb [],1,false,by simp,Ta rfl,?_⟩;(conv=>whnf);refine ⟨L,S,rfl,ho,fun p=>?_⟩;intro a0 dp0 w0 pl0 ho0
   conv=>whnf
   refine ⟨L,S,rfl,ho0,fun S1 s1 hS1=>?_⟩;have hdn1:=Zar hdn;rw [hS1] at h hdn1;intro a1 dp1 w1 pl1 ho1
   conv=>whnf
   refine ⟨L,S1,rfl,ho1,⟨rfl,by simp,hdn1⟩,fun S2 hS2 rows2=>?_⟩;have hdn2:=Yg (P:=fun d=>XY d (Yi d) [40] [41]) hdn1;rw [hS2] at h hdn2;intro a2 dp2 w2 pl2 ho2
   conv=>whnf
   refine ⟨L,S2,rfl,ho2,0,rfl,by omega,fun b hb3=>?_⟩;rw [hb3] at h;intro a3 dp3 w3 pl3 ho3
   cases b with
   | false =>
    rw [Tc (by simp)] at h;(conv=>whnf);refine ⟨L,S2,rfl,ho3,fun S4 hS4=>?_⟩;rw [hS4] at h;intro a4 dp4 w4 pl4 ho4
    conv=>whnf
    exact h _ _ _ _ _ _ _ _ ho4
   | true =>
    rw [Tf rfl] at h
    cases S2 with
    | bad e=>cases hb3
    | ok d2 ts2 =>
     have hb3:isW ts2 [[58,45]]=true:=hb3;obtain ⟨rfl,hr2,rfl,hd2⟩:=ho3;have hr3:=hr2.tlq (ZN hb3);have q1:=hr3.lo;have q2:=hr3.hi;have q3:=hr3.big;(conv=>whnf);refine oiO ?_;(conv=>whnf);refine ⟨L,_,rfl,SOK.mk hr3 rfl hd2,⟨(fun d ts hq=>by cases hq;exact hdn2 _ _ rfl),fun S4 hS4 rows4=>?_⟩⟩;have hS4:ZF Ue (Xb (.ok d2 ts2))=S4:=hS4;rw [hS4] at h;intro a4 dp4 w4 pl4 ho4
     conv=>whnf
     refine ⟨L,S4,rfl,ho4,fun S5 hS5=>?_⟩;rw [hS5] at h;intro a5 dp5 w5 pl5 ho5
     conv=>whnf
     exact h _ _ _ _ _ _ _ _ ho5
  ·exact h.elim
 ·exact h.elim
end Go.PM.Lex
end

section
namespace Go.PM.Lex
open Go.Proofs
variable {w0:World} {nG:Nat}
def stS (st:Ts→Bool):SS→Bool
 | .ok _ ts=>st ts
 | .bad _=>false
def LRg {α:Type} (sg:Bs) (most:Nat) (st:Ts→Bool) (one:Nat→Ts→R α) (n N:Nat) (X:SS):SS→Nat→Prop
 | .bad e,k=>X=.bad e∧k≤2000000
 | .ok d ts,k=>(d<n∧d≤64)∧∃f l,X=V0 d (Xe sg most st (one d) f l ts)∧ts.length<f∧l.length=k∧k≤most∧k+ts.length≤N
def PRg {α:Type} (sg:Bs) (most:Nat) (st:Ts→Bool) (one:Nat→Ts→R α) (n N:Nat) (X:SS):SS→Nat→Prop
 | .bad e,k=>X=.bad e∧k≤2000000
 | .ok d ts,k=>(d<n∧d≤64)∧∃f l,X=V0 d ((one d ts).bind fun x ts=>if isW ts [sg]=true then Xe sg most st (one d) f (l++[x]) ts.tail else .ok (l++[x]) ts)∧ts.length≤f∧l.length=k∧(st ts=true→k<most)∧k≤most∧k+ts.length≤N
def ERg {α:Type} (sg:Bs) (most:Nat) (st:Ts→Bool) (one:Nat→Ts→R α) (n N:Nat) (X:SS):SS→Nat→Prop
 | .bad e,k=>X=.bad e∧k≤2000001
 | .ok d ts,k=>(d<n∧d≤64)∧∃f l,X=V0 d (if isW ts [sg]=true then Xe sg most st (one d) f l ts.tail else .ok l ts)∧ts.length≤f∧l.length=k∧k≤most∧k+ts.length≤N
section
variable {α:Type} {sg:Bs} {most:Nat} {st:Ts→Bool} {one:Nat→Ts→R α} {n N:Nat} {X S:SS} {k:Nat}
theorem LRg.room {b:Bool} (hm:most≤2000000) (h:LRg sg most st one n N X S k) (hb:stS st S=b):PRg sg most st one n N X (if b=true then Wq k most S else S) k:=by
 cases S with
 | bad e=>cases b <;> simp only [if_true,if_false,Tr] <;> first | exact h | (unfold Wq;split <;> exact h)
 | ok d ts =>
  obtain ⟨h1,f,l,h3,h4,h5,h6,h7⟩:=h;obtain ⟨f,rfl⟩:∃g,f=g+1:=⟨f - 1,by omega⟩
  rw [Vy] at h3;have hb:st ts=b:=hb
  cases b with
  | false =>
   rw [Tc (by rw [hb];simp)] at h3;exact ⟨h1,f,l,h3,by omega,h5,by rw [hb];simp,h6,h7⟩
  | true =>
   rw [Tf rfl]
   by_cases hk:k=most
   ·rw [Tf ⟨hb,by omega⟩] at h3;rw [Wq,Tf (by omega)];exact ⟨h3,by omega⟩
   ·rw [Tc (fun g=>hk (by omega))] at h3;rw [Wq,Tc (by omega)];exact ⟨h1,f,l,h3,by omega,h5,fun _=>by omega,h6,h7⟩
theorem PRg.next (hm:most≤2000000) (hfit:∀d ts v ts',one d ts=.ok v ts'→ts'.length+1≤ts.length) (hst:∀d ts,st ts=false→∃r e,one d ts=.err r e) (h:PRg sg most st one n N X S k):ERg sg most st one n N X (ZF one S) (k+1):=by
 cases S with
 | bad e=>exact ⟨h.1,by have:=h.2;omega⟩
 | ok d ts =>
  obtain ⟨h1,f,l,h3,h4,h5,h6,h6b,h7⟩:=h;rw [Zh]
  by_cases hs:st ts=true
  ·have h6:=h6 hs
   cases hx:one d ts with
   | err r e=>rw [hx,R.bind_err] at h3;exact ⟨h3,by omega⟩
   | ok v ts3 =>
    have hf:=hfit d ts v ts3 hx;rw [hx,R.bind_ok] at h3;exact ⟨h1,f,l++[v],h3,by omega,by simp;omega,by omega,by omega⟩
  ·obtain ⟨r,e,hx⟩:=hst d ts (by simpa using hs);rw [hx] at h3 ⊢;exact ⟨h3,by omega⟩
theorem ERg.stop (h:ERg sg most st one n N X S k) (hb:YT 0 sg S=false):X=S:=by
 cases S with
 | bad e=>exact h.1
 | ok d ts =>
  obtain ⟨h1,f,l,h3,_⟩:=h;have hb:isW ts [sg]=false:=hb;rw [Tc (by rw [hb];simp)] at h3;exact h3
theorem ERg.more (h:ERg sg most st one n N X S k) (hb:YT 0 sg S=true):LRg sg most st one n N X (Xb S) k:=by
 cases S with
 | bad e=>cases hb
 | ok d ts =>
  obtain ⟨h1,f,l,h3,h4,h5,h6,h7⟩:=h;have hb:isW ts [sg]=true:=hb;rw [Tf hb] at h3;have hn:ts.tail.length<ts.length:=by
   cases ts with
   | nil=>exact absurd rfl (ZN hb)
   | cons t ts=>simp
  exact ⟨h1,f,l,h3,by omega,h5,by omega,by omega⟩
theorem PRg.lt (h:PRg sg most st one n N X S k):dLt n S:=by
 rintro d ts rfl;exact h.1.1
theorem LRg.tight {d:Nat} {ts:Ts} (h:LRg sg most st one n N X (.ok d ts) k):LRg sg most st one n (k+ts.length) X (.ok d ts) k:=by
 obtain ⟨h1,f,l,h3,h4,h5,h6,h7⟩:=h;exact ⟨h1,f,l,h3,h4,h5,h6,Tq _⟩
theorem LRg.wide {d:Nat} {ts:Ts} (h:LRg sg most st one n N X (.ok d ts) k):k+ts.length≤N:=by
 obtain ⟨h1,f,l,h3,h4,h5,h6,h7⟩:=h;exact h7
theorem LRg.le {M:Nat} (h:LRg sg most st one n N X S k) (hn:N≤M):LRg sg most st one n M X S k:=by
 cases S with
 | bad e=>exact h
 | ok d ts=>obtain ⟨h1,f,l,h3,h4,h5,h6,h7⟩:=h;exact ⟨h1,f,l,h3,h4,h5,h6,by omega⟩
theorem LRg.start (hn:dLt n S) (h64:∀d ts,S=.ok d ts→d≤64∧ts.length≤N):LRg sg most st one n N (ZF (fun d=>YE sg most st (one d)) S) S 0:=by
 cases S with
 | bad e=>exact ⟨rfl,by omega⟩
 | ok d ts=>exact ⟨⟨hn _ _ rfl,(h64 _ _ rfl).1⟩,ts.length+1,[],by rw [Zh];rfl,by omega,rfl,by omega,by have:=(h64 _ _ rfl).2;omega⟩
theorem ZAt (hm:most≤2000000) (h:PRg sg most st one n N X S k):k≤2000000:=by
 cases S with
 | bad e=>exact h.2
 | ok d ts=>obtain ⟨_,f,l,_,_,_,_,h6,h7⟩:=h;omega
end
theorem Zbm {d:Nat} {bd:Ts→R (List Li)} {ts:Ts} (h:ZA ts=false):∃r e,Zbr d bd ts=.err r e:=by
 unfold ZA at h
 rw [T6] at h;have hn:¬Zn ts=true:=by
  intro g
  have hk:Zx ts=true:=by
   simp only [Zn,Tl,TG] at g;unfold Zx
   rw [Tc (by omega),Tc (by omega),Tf g.1,g.2.2,Bool.true_or]
  rw [hk] at h;exact absurd h.1 (by decide)
 obtain ⟨r,e,hx⟩:=ZdC (d:=d) h.1;refine ⟨r,e,?_⟩;rw [Zbr,Tc (by rw [h.2];simp),Tc (fun g=>hn g.1),Zga,hx,R.bind_err]
def ZjH (n:Nat):Zr:=qSp fun rest S K=>match rest with
 | []=>dLt (n+1) S∧∀S',ZF (fun d=>Zbr d (W2 d)) S=S'→∀o s a b q,K (Zwj o s a b q) S'
 | _=>False
theorem Zlk (n:Nat):Za (ZjH n):=ZI fun rest S K K' hK h=>by
 split at h
 ·exact ⟨h.1,fun S' hS o s a b q=>hK _ _ (h.2 S' hS o s a b q)⟩
 ·exact h.elim
theorem ZfA (d:Nat) (ts:Ts) (v:Li) (ts':Ts) (h:Zbr d (W2 d) ts=.ok v ts'):ts'.length+1≤ts.length:=by
 have hb:Fit (szS szL) (W2 d):=by
  cases d with
  | zero=>intro _ _ _ g;cases g
  | succ d=>exact ZhC d
 have:=Zk3 hb _ _ _ h;dsimp only at this;omega
noncomputable def ZsN (n:Nat):Tbl:=[(289,UH),(170,Xz),(238,Zbi),(317,ZjH n)]
theorem ZmH {n:Nat} (hl:PCalls (GG w0 nG) 317 (ZjH n)):PCalls (GG w0 nG) 297 (Zbl n):=by
 refine pc (tbl:=ZsN n) ⟨⟨Zc0,Uc⟩,⟨Xv,ZT⟩,⟨Zd3,VV⟩,⟨hl,Zlk _⟩,trivial⟩ Tryz.func297 ?_;intro args σ K h
 unfold Zbl qSp at h
 split at h
 ·rename_i rest t rows a en dp w pl
  obtain ⟨L,S,rfl,ho,h⟩:=h;split at h
  ·obtain ⟨hdn,h⟩:=h
   replace h:=h _ rfl
   rw [show Ue=(fun d=>YE [44] 32 ZA (Zbr d (W2 d))) from funext Zl0] at h;have h64:∀d ts,S=.ok d ts→d≤64∧ts.length≤L.length:=by
    rintro d ts rfl
    obtain ⟨q1,q2,q3,q4⟩:=ho;have:=q2.len;have:=q2.lo;exact ⟨q4,by omega⟩
   have hlr:=LRg.start (sg:=[44]) (most:=32) (st:=ZA) (one:=fun d=>Zbr d (W2 d)) hdn h64;obtain ⟨X,hX⟩:∃x,ZF (fun d=>YE [44] 32 ZA (Zbr d (W2 d))) S=x:=⟨_,rfl⟩
   have hlr:LRg [44] 32 ZA (fun d=>Zbr d (W2 d)) (n+1) L.length X S 0:=by rw [← hX];exact hlr
   rw [hX] at h
   clear hX
   obtain ⟨r1,r2,r3⟩:=ho.rg;refine ⟨Zb [(2,⟨[3],[0],fun vs σ=>∃(rows:List (List D)) (a' dp' w' pl':Int) (S':SS),vs=[.sl 0 60 rows]∧σ=⟨[UG t L a' en dp' w' pl'],[0],1⟩∧SOK L a' dp' w' S'∧LRg [44] 32 ZA (fun d=>Zbr d (W2 d)) (n+1) L.length X S' rows.length,
    fun _ σ=>match σ with | ⟨.cells _ [_,.d (.int _ i),_,_,.d (.int _ w),_]::_,_,_⟩=>if w=0 then ((L.length:Int) - i).toNat+1 else 0 | _=>0⟩)],1,false,by simp,Ta rfl,?_⟩
   conv=>whnf
   refine ⟨⟨[],a,dp,w,pl,S,rfl,rfl,ho,hlr⟩,?_⟩
   clear hlr ho h64 hdn
   intro vs σ hI
   obtain ⟨rows,a3,dp3,w3,pl3,S3,rfl,rfl,ho3,hlr⟩:=hI;(conv=>whnf);refine ZAf (fun hw=>?_) (fun hw=>?_)
   ·obtain ⟨d3,ts3,rfl,hr3,hdp3,hd3⟩:=ho3.wz hw;have hlen3:=hr3.len;have hlo3:=hr3.lo;have hhi3:=hr3.hi;have hwide:=hlr.wide;have hq:∀b,ZA ts3=b→PRg [44] 32 ZA (fun d=>Zbr d (W2 d)) (n+1) (rows.length+ts3.length) X (if b=true then Wq rows.length 32 (.ok d3 ts3) else .ok d3 ts3) rows.length:=fun b hb=>hlr.tight.room (by omega) hb
    conv=>whnf
    refine ⟨L,_,rfl,ho3,fun b1 hb1=>?_⟩;have hb1:Zx ts3=b1:=hb1;intro a4 dp4 w4 pl4 ho4
    cases b1 with
    | true =>
     have hpr:=hq true (by rw [ZA,hb1];rfl);exact m212
    | false =>
     conv=>whnf
     refine ⟨L,_,rfl,ho4,0,rfl,by omega,fun b2 hb2=>?_⟩;have hb2:isW ts3 [[33]]=b2:=hb2;have hpr:=hq b2 (by rw [ZA,hb1,hb2];rfl)
     clear ho4
     intro a4 dp4 w4 pl4 ho4
     cases b2 with
     | true =>
      exact m212
     | false =>
      rw [Tc (by simp)] at hpr;have ho5:=ho4;exact m14
   ·obtain ⟨e,rfl,hw2,hw3⟩:=ho3.w1 hw;obtain ⟨rfl,_⟩:=hlr;(conv=>whnf);exact h _ _ _ _ _ ho3
  ·exact h.elim
 ·exact h.elim
end Go.PM.Lex
end

section
namespace Go.PM
def Zch (sp:Zr) (args:List PV) (σ:St) (K:PEnd→St→Prop):Prop :=
 Zed (Zdi σ.bx (σ.bx.length+1) 0 (ZdJ args [])) fun bs=>match Zgk bs with
 | true=>ZqZ bs σ.bx bs fun cb=>ZmS bs.length (ZjZ bs args) σ.tk 0 fun args' tk k=>Zh3 bs.length bs.length cb tk k fun cb' rest k =>
   sp args' ⟨cb',toks k,k⟩ fun pe σ3=>ZcA (UW bs bs.length σ.bx.length σ.nx) bs σ3.bx σ.bx fun bx =>
    K (Zha bs bs.length σ.bx.length σ.nx pe) ⟨bx,rest++σ3.tk.map (σ.nx+·),σ.nx+σ3.nx⟩
 | false=>False
section
variable {G:GE} {e e':Env} {σ σ':St} {w w':World}
theorem ZfV {g:FuncId} {sp:Zr} (hP:PCalls G g sp) {args:List PV} {K:PEnd→St→Prop} (hv:Zch sp args σ K) :
  Vp G.P g∧∀(ro:Option Nat) (n:Nat) (e:Env) (w:World) (vs:Array Value),SRel G e σ w→ArgsRel G e σ w args vs→CallsIn (fw ro) n G.P g vs w (Zrc G e σ w K):=by
 unfold Zch at hv
 simp only [Wy] at hv;generalize Zdi σ.bx (σ.bx.length+1) 0 (ZdJ args [])=bs at hv;split at hv
 ·rename_i hnd
  obtain ⟨cb,hv,hcl,hcg⟩:=Zex hv;obtain ⟨args',tk1,as1,hv,hx1,hI1,hal,hav⟩:=Zg6 (NInv.start σ.tk σ.tk fun _ h=>h) hv;exact m3
 ·exact hv.elim
end
theorem ZnW {n:Nat} {tk:List Nat} {k:Nat} {v:PV} {K K':PV→List Nat→Nat→Prop} (hK:∀v t k,K v t k→K' v t k) (h:ZmR n tk k v K):ZmR n tk k v K':=by
 cases v with
 | agg cs=>exact ZcC (fun v t k h=>hK _ _ _ h) h
 | _=>simp only [ZmR] at h ⊢;exact Zgl hK h
theorem ZgQ {n:Nat}:∀{vs:List PV} {tk:List Nat} {k:Nat} {K K':List PV→List Nat→Nat→Prop},(∀v t k,K v t k→K' v t k)→ZmS n vs tk k K→ZmS n vs tk k K'
 | [],_,_,_,_,hK,h=>hK _ _ _ h
 | v::vs,_,_,_,_,hK,h=>ZnW (fun v t k h=>ZgQ (fun vs t k h=>hK _ _ _ h) h) h
theorem ZhQ {sp:Zr} (hsp:Za sp):Za (Zch sp):=fun args σ K K' hK h=>by
 unfold Zch at h ⊢
 simp only [Wy] at h ⊢;split at h
 ·exact JH (fun cb h=>ZgQ (fun a t k h=>Uu (fun cb' r k h=>hsp _ _ _ _ (fun pe σ3 h=>Zac (fun bx h=>hK _ _ h) h) h) h) h) h
 ·exact h.elim
def ZAq (nl:Nat→Bool):Tbl→Nat→List PV→St→(PEnd→St→Prop)→Prop
 | [],_,_,_,_=>False
 | (g,sp)::l,n,args,σ,K=>match Nat.beq g n with
  | true=>match nl n with | true=>Zch sp args σ K | false=>Za3 sp args σ K
  | false=>ZAq nl l n args σ K
theorem TblOK.semA {G:GE} {nl:Nat→Bool}:∀{l:Tbl},TblOK G l→ZgZ G (ZAq nl l)
 | [],_=>fun _ _ _ _ h=>h.elim
 | (g,sp)::l,⟨⟨h1,_⟩,h2⟩=>fun n args σ K h=>by
  simp only [ZAq] at h;split at h
  ·rename_i hb
   cases Tm hb
   split at h
   ·exact ZfV h1 h
   ·exact UY h1 h
  ·exact TblOK.semA h2 n args σ K h
theorem TblOK.monoA {G:GE} {nl:Nat→Bool}:∀{l:Tbl},TblOK G l→∀n args σ (K K':PEnd→St→Prop),(∀e σ,K e σ→K' e σ)→ZAq nl l n args σ K→ZAq nl l n args σ K'
 | [],_=>fun _ _ _ _ _ _ h=>h.elim
 | (g,sp)::l,⟨⟨_,h1⟩,h2⟩=>fun n args σ K K' hK h=>by
  simp only [ZAq] at h ⊢;split at h
  ·split at h
   ·exact ZhQ h1 _ _ _ _ hK h
   ·exact JI h1 _ _ _ _ hK h
  ·exact TblOK.monoA h2 n args σ K K' hK h
def ZzN (T:Tab) (tbl:Tbl) (loops:Nat→LoopAnn) (unr:Nat→Nat) (ties:Nat→Bool) (bsl nl ag:Nat→Bool):Cx:=⟨T,ZAq nl tbl,ZoL,WJ,loops,unr,ties,bsl,true,fun _=>none,ag⟩
def ZjI (keep:Nat) (own:Bool) (v:PV) (σ:St) (K:PV→St→Prop):Prop :=
 match bnd keep v with
 | true=>match own with
  | true=>Zc9 true keep [v] σ fun vs σ'=>match vs with | [v]=>K v σ' | _=>False
  | false=>Zh3 keep keep σ.bx [] 0 fun bs _ k=>K (clean v) ⟨bs,toks k,k⟩
 | false=>False
def ZxH (T:Tab) (fn:Func) (keep:Nat) (own:Bool) (R:PEnd→St→Prop):PQ:=fun e f σ=>match e with
 | .normal | .ret=>pres T f σ.bx fn.results.toList fun vs=>ZjI keep own (Ju vs) σ fun v σ'=>R (.ret v) σ'
 | .panic v=>ZjI keep own v σ fun v σ'=>R (.panic v) σ'
 | _=>False
def WFA (C:Cx) (fn:Func) (keep:Nat) (own:Bool) (args:List PV) (σ:St) (R:PEnd→St→Prop):Prop :=
 W C (Ww fn) (ZxH C.T fn keep own R) (Zee 0 args) σ
section
variable {G:GE} {C:Cx} {e:Env} {σ:St} {w:World} {n:Nat}
theorem ZjJ {e0:Env} {σ0:St} {w0:World} {keep:Nat} {own:Bool} {pv:PV} {v:Value} {K:PV→St→Prop} (hS:SRel G e σ w) (hL:Later e0 σ0 w0 e σ w) (hk:σ0.bx.length≤keep) (hv:VRel G e σ w pv v)
  (h:ZjI keep own pv σ K):∃pv' σ' e',K pv' σ'∧VRel G e' σ' w pv' v∧SRel G e' σ' w∧Later e0 σ0 w0 e' σ' w:=by
 unfold ZjI at h
 split at h
 ·rename_i hb
  cases own with
  | true =>
   simp only at h;obtain ⟨vs',σ',e',hK,hS',hd,hlen,hvs⟩:=Zeq hS h
   match vs',hlen,hK with
   | [y],_,hK=>exact ⟨y,σ',e',hK,hvs 0 pv y v rfl rfl hv,hS',hL.drop hd hk⟩
  | false =>
   exact m90
 ·exact h.elim
theorem ZjK (hmix:G.P.follows .mixedOrders=true) {g:FuncId} {fn:Func} {c:Code} (hC:CxOK G C none e σ w) (hM:CxMono C.calm) (hf:G.P.funcs[g]?=some fn) (hb:fn.body=some c) (hok:ZL fn.ntmps c=true)
  {keep:Nat} {own:Bool} {args:List PV} {R:PEnd→St→Prop} (hk:σ.bx.length≤keep) (hlen:args.length≤fn.ntmps) (h:WFA C fn keep own args σ R) {vs:Array Value} (hS:SRel G e σ w) (hargs:ArgsRel G e σ w args vs) :
  CallsIn (fw none) n G.P g vs w (YH G e σ w R):=by
 have hbo:Ww fn=c:=by simp [Ww,hb]
 unfold WFA at h
 rw [hbo] at h;have presM:∀{T:Tab} {f:Frame} {bx:List Box} {l:List ResultVar} {K K':List PV→Prop},(∀vs,K vs→K' vs)→pres T f bx l K→pres T f bx l K':=by
  intro T f bx l
  induction l with
  | nil=>exact fun hK h=>hK _ h
  | cons r l ih =>
   intro K K' hK h
   exact m58
 refine Za2 hmix hC hM hf hb hok hlen h (fun pe f' σ' hq=>?_) hS hargs;have fin:∀{pv:PV} {p:PV→PEnd} {en:Value→Ending},(∀(pv:PV) (e:Env) (σ:St) (w:World) v,VRel G e σ w pv v→Zlz G e σ w (p pv) (en v))→(ZjI keep own pv σ' fun v σ''=>R (p v) σ'')→∀(e':Env) (w':World) (v:Value),SRel G e' σ' w'→VRel G e' σ' w' pv v→Later e σ w e' σ' w'→YH G e σ w R (en v) w':=fun {pv p en} hpe hl e' w' v hS' hv hL=>by
  obtain ⟨pv',σ'',e'',hK,hv',hS'',hL''⟩:=ZjJ hS' hL hk hv hl;exact ⟨p pv',σ'',e'',hK,hpe _ _ _ _ _ hv',hS'',hL''⟩
 cases pe with
 | normal=>exact presM (fun vs hl=>fin (p:=.ret) (en:=.returned) (fun _ _ _ _ v h=>⟨v,rfl,h⟩) hl) hq
 | ret=>exact presM (fun vs hl=>fin (p:=.ret) (en:=.returned) (fun _ _ _ _ v h=>⟨v,rfl,h⟩) hl) hq
 | panic p=>exact fin (p:=.panic) (en:=fun v=>.panicked [{ v:=v,recovered:=false }]) (fun _ _ _ _ v h=>⟨v,rfl,h⟩) hq
 | exit id=>exact hq.elim
 | goto l=>exact hq.elim
end
theorem Zll {G : GE} {T : Tab} {tbl : Tbl} (hT : TabOK T G.P) (hmix : G.P.follows .mixedOrders = true) (ht : TblOK G tbl) {g : FuncId} {fn : Func} {c : Code} (hf : G.P.funcs[g]? = some fn) (hb : fn.body = some c) (hname : (fn.name == "runtime.NumGoroutine") = false)
  (hok:ZL fn.ntmps c=true) {sp:Zr}
  (h:∀args σ K,sp args σ K→∃loops unr ties bsl nl ag keep own,σ.bx.length≤keep∧args.length≤fn.ntmps∧WFA (ZzN T tbl loops unr ties bsl nl ag) fn keep own args σ K):PCalls G g sp where
 enters:=Zo hf hname hb
 calls:=fun args σ K hs n e w vs hS ha=>by
  obtain ⟨loops,unr,ties,bsl,nl,ag,keep,own,h1,h2,h3⟩:=h args σ K hs;exact ZjK hmix (C:=ZzN T tbl loops unr ties bsl nl ag) ⟨hT,ht.semA,fun _ _ _ _ h=>h.elim,Y0,.inl rfl⟩ ⟨fun _ h1 h2=>hT.one h1 h2,ht.monoA,fun _ _ _ _ h=>h.elim,rfl⟩ hf hb hok h1 h2 h3 hS ha
end Go.PM
end
