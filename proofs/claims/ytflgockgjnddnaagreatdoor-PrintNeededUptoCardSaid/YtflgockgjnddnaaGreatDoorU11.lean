/- A part of the proof: plain logic, contracts and laws over the given program. -/
import Derived.Test.YtflgockgjnddnaaGreatDoorU10
set_option linter.unusedVariables false
set_option linter.unusedSimpArgs false
set_option linter.all false
section
set_option maxRecDepth 100000
set_option maxHeartbeats 4000000
namespace Go.PM.Lex
open Go.Proofs
variable {w0:World} {nG:Nat}
theorem u8i {c n:UInt8}:((c.toNat:Nat):Int)=(n.toNat:Int)↔c=n:=⟨fun h=>UInt8.toNat_inj.1 (by omega),fun h=>by rw [h]⟩
theorem cut_mid3 (x y z:Bs):cut (x++(y++z)) x.length (x.length+y.length)=y:=by
 rw [cut,List.drop_take,List.drop_left,Nat.add_sub_cancel_left,List.take_left]
noncomputable def spShut:Spec:=fun args σ K=>match args,σ with
 | [.d (.str s),.d (.int .i64 i)],⟨[],[],0⟩=>∃(a k f:Nat),i=(a:Int)∧(shutG f (s.drop a) a 0 false=some k∧s.length<4611686018427387904∧a≤s.length)∧K (.ret (.d (.int .i64 (k:Int)))) ⟨[],[],0⟩
 | _,_=>False
theorem spShut_mono:SpecMono spShut:=fun args σ K K' hK h=>by
 unfold spShut at h ⊢
 split at h
 ·obtain ⟨a,k,f,h1,h2,h3⟩:=h;exact ⟨a,k,f,h1,h2,hK _ _ h3⟩
 ·exact h.elim
theorem shut_ok:PCalls (GG w0 nG) 17 spShut:=by
 refine pcalls tab_ok mixed (tbl:=[]) trivial Tryz.func17 rfl (by kernel_rfl) (by kernel_rfl) ?_
 intro args σ K h
 unfold spShut at h
 split at h
 ·rename_i s i
  obtain ⟨a,k,f,rfl,⟨hk,hs,ha⟩,h⟩:=h
  refine ⟨loopsOf [(4,⟨[5,6,7],[0,1],fun vs σ=>∃(d:Int) (q:Bool) (j f:Nat),vs=[.d (.int .i64 d),.d (.bool q),.d (.int .i64 j)]∧σ=⟨[],[],0⟩∧shutG f (s.drop j) j d q=some k∧-(j:Int)≤d∧d≤j∧j≤s.length+1,fun vs _=>match vs with | [_,_,.d (.int _ j)]=>((s.length:Int)+1 - j).toNat | _=>0⟩)],0,false,by simp,Nat.le_of_ble_eq_true rfl,?_⟩
  conv=>whnf
  refine ⟨⟨0,false,a,f,rfl,rfl,hk,by omega,by omega,by omega⟩,?_⟩
  intro vs σ hI
  obtain ⟨d,q,j,f,rfl,rfl,hk,hd1,hd2,hj⟩:=hI
  conv=>whnf
  refine CondP.dec (fun hc=>?_) (fun hc=>?_)
  ·have hj2:j<s.length:=by have hc:(j:Int)<s.length:=hc;omega
   have hb:s.getD ((j:Int)).toNat 0=s.getD j 0:=by rw [Int.toNat_natCast]
   rw [drop_at hj2] at hk
   cases f with
   | zero=>cases hk
   | succ f =>
    rw [shutG] at hk
    conv=>whnf
    refine ⟨by omega,by omega,?_⟩
    rw [hb]
    obtain ⟨c,hcc⟩:∃c,s.getD j 0=c:=⟨_,rfl⟩
    rw [hcc] at hk ⊢
    have e92:((c.toNat:Nat):Int)=92↔c=92:=u8i (n:=92)
    have e34:((c.toNat:Nat):Int)=34↔c=34:=u8i (n:=34)
    have e40:((c.toNat:Nat):Int)=40↔c=40:=u8i (n:=40)
    have e41:((c.toNat:Nat):Int)=41↔c=41:=u8i (n:=41)
    have mu:∀j2:Nat,j<j2→((s.length:Int)+1 - (j2:Int)).toNat<((s.length:Int)+1 - (j:Int)).toNat:=fun j2 g=>by omega
    have tl2:(s.drop (j+1)).tail=s.drop (j+2):=by rw [List.tail_drop]
    rw [tl2] at hk
    generalize hcn:((c.toNat:Nat):Int)=cn at e92 e34 e40 e41 ⊢
    cases q with
    | true =>
     conv=>whnf
     refine CondP.dec (fun h92=>?_) (fun h92=>?_)
     ·have h92:=e92.1 h92
      rw [if_pos ⟨h92,rfl⟩] at hk
      conv=>whnf
      refine Or.inl ⟨InR.i64 (by omega) (by omega),?_⟩
      conv=>whnf
      refine Or.inl ⟨InR.i64 (by omega) (by omega),?_⟩
      conv=>whnf
      exact ⟨⟨d,true,j+2,f,rfl,rfl,hk,by omega,by omega,by omega⟩,mu (j+2) (by omega)⟩
     ·have h92:¬(c=92∧true=true):=fun g=>h92 (e92.2 g.1)
      rw [if_neg h92] at hk
      conv=>whnf
      refine CondP.dec (fun h34=>?_) (fun h34=>?_)
      ·have h34:=e34.1 h34
       rw [if_pos h34,if_neg (by decide),h34,if_neg (by decide),if_neg (by decide)] at hk
       have n40:cn≠40:=fun g=>absurd (h34.symm.trans (e40.1 g)) (by decide)
       have n41:cn≠41:=fun g=>absurd (h34.symm.trans (e41.1 g)) (by decide)
       conv=>whnf
       refine CondP.dec (fun g=>absurd g n40) (fun _=>?_)
       conv=>whnf
       refine CondP.dec (fun g=>absurd g n41) (fun _=>?_)
       conv=>whnf
       refine Or.inl ⟨InR.i64 (by omega) (by omega),?_⟩
       conv=>whnf
       exact ⟨⟨d,false,j+1,f,rfl,rfl,hk,by omega,by omega,by omega⟩,mu (j+1) (by omega)⟩
      ·have h34:¬c=34:=fun g=>h34 (e34.2 g)
       rw [if_neg h34,if_pos rfl] at hk
       conv=>whnf
       refine Or.inl ⟨InR.i64 (by omega) (by omega),?_⟩
       conv=>whnf
       exact ⟨⟨d,true,j+1,f,rfl,rfl,hk,by omega,by omega,by omega⟩,mu (j+1) (by omega)⟩
    | false =>
     have n92:¬(c=92∧false=true):=fun g=>absurd g.2 (by decide)
     rw [if_neg n92] at hk
     have on:(∀d',-(((j+1:Nat):Int))≤d'→d'≤((j+1:Nat):Int)→True):=fun _ _ _=>trivial
     conv=>whnf
     refine CondP.dec (fun h92=>?_) (fun h92=>?_)
     all_goals
      conv=>whnf
      refine CondP.dec (fun h34=>?_) (fun h34=>?_)
      ·have h34:=e34.1 h34
       rw [if_pos h34,if_pos (by decide)] at hk
       conv=>whnf
       refine Or.inl ⟨InR.i64 (by omega) (by omega),?_⟩
       conv=>whnf
       exact ⟨⟨d,true,j+1,f,rfl,rfl,hk,by omega,by omega,by omega⟩,mu (j+1) (by omega)⟩
      ·have h34:¬c=34:=fun g=>h34 (e34.2 g)
       rw [if_neg h34,if_neg (by decide)] at hk
       conv=>whnf
       refine CondP.dec (fun h40=>?_) (fun h40=>?_)
       ·have hc40:=e40.1 h40
        rw [if_pos hc40] at hk
        conv=>whnf
        refine Or.inl ⟨InR.i64 (by omega) (by omega),?_⟩
        conv=>whnf
        refine CondP.dec (fun g=>absurd (h40.symm.trans g) (by decide)) (fun _=>?_)
        conv=>whnf
        refine Or.inl ⟨InR.i64 (by omega) (by omega),?_⟩
        conv=>whnf
        exact ⟨⟨d+1,false,j+1,f,rfl,rfl,hk,by omega,by omega,by omega⟩,mu (j+1) (by omega)⟩
       ·have hc40:¬c=40:=fun g=>h40 (e40.2 g)
        rw [if_neg hc40] at hk
        conv=>whnf
        refine CondP.dec (fun h41=>?_) (fun h41=>?_)
        ·have hc41:=e41.1 h41
         rw [if_pos hc41] at hk
         conv=>whnf
         refine Or.inl ⟨InR.i64 (by omega) (by omega),?_⟩
         conv=>whnf
         refine CondP.dec (fun h0=>?_) (fun h0=>?_)
         ·rw [if_pos h0] at hk
          cases hk
          conv=>whnf
          exact h
         ·rw [if_neg h0] at hk
          conv=>whnf
          refine Or.inl ⟨InR.i64 (by omega) (by omega),?_⟩
          conv=>whnf
          exact ⟨⟨d - 1,false,j+1,f,rfl,rfl,hk,by omega,by omega,by omega⟩,mu (j+1) (by omega)⟩
        ·have hc41:¬c=41:=fun g=>h41 (e41.2 g)
         rw [if_neg hc41] at hk
         conv=>whnf
         refine Or.inl ⟨InR.i64 (by omega) (by omega),?_⟩
         conv=>whnf
         exact ⟨⟨d,false,j+1,f,rfl,rfl,hk,by omega,by omega,by omega⟩,mu (j+1) (by omega)⟩
  ·have hj2:s.length≤j:=by have hc:¬(j:Int)<s.length:=hc;omega
   rw [List.drop_eq_nil_of_le hj2] at hk
   exfalso
   cases f <;> cases hk
 ·exact h.elim
noncomputable def spBeg:Spec:=fun args σ K=>match args,σ with
 | [.d (.str s),.d (.int .i64 i)],⟨[],[],0⟩=>(0≤i∧i≤s.length∧s.length<4611686018427387904)∧∀b,K (.ret (.d (.bool b))) ⟨[],[],0⟩
 | _,_=>False
theorem spBeg_mono:SpecMono spBeg:=fun args σ K K' hK h=>by
 unfold spBeg at h ⊢
 split at h
 ·exact ⟨h.1,fun b=>hK _ _ (h.2 b)⟩
 ·exact h.elim
theorem beg_ok:PCalls (GG w0 nG) 16 spBeg:=by
 refine pcalls tab_ok mixed (tbl:=[]) trivial Tryz.func16 rfl (by kernel_rfl) (by kernel_rfl) ?_
 intro args σ K h
 unfold spBeg at h
 split at h
 ·rename_i s i
  obtain ⟨⟨h0,h1,h2⟩,h⟩:=h
  refine ⟨loopsOf [],0,false,by simp,Nat.le_of_ble_eq_true rfl,?_⟩
  conv=>whnf
  refine CondP.dec (fun hc=>?_) (fun hc=>?_)
  ·conv=>whnf
   exact h _
  conv=>whnf
  refine Or.inl ⟨InR.i64 (by omega) (by omega),?_⟩
  conv=>whnf
  refine ⟨by omega,by omega,?_⟩
  generalize s.getD (i - 1).toNat 0=c
  generalize ((c.toNat:Nat):Int)=cn
  conv=>whnf
  refine CondP.dec (fun _=>?_) (fun _=>?_)
  ·conv=>whnf
   exact h _
  conv=>whnf
  refine CondP.dec (fun _=>?_) (fun _=>?_)
  ·conv=>whnf
   exact h _
  conv=>whnf
  refine CondP.dec (fun _=>?_) (fun _=>?_)
  ·conv=>whnf
   exact h _
  conv=>whnf
  refine CondP.dec (fun _=>?_) (fun _=>?_)
  ·conv=>whnf
   exact h _
  conv=>whnf
  exact h _
 ·exact h.elim
noncomputable def spPrNeeded (n:Nat):Spec:=fun args σ K=>match args,σ with
 | [.agg c],⟨[],[],0⟩=>(∃pl x,c=(encE pl x).map .d∧(szE x≤n∧wE x≤n∧rngE x=true)∧n≤16777215)∧K (.ret (.d (.bool true))) ⟨[],[],0⟩
 | _,_=>False
noncomputable def tblPrNeeded (n:Nat):Tbl:=[(11,spSz encE szE bd2 6000),(13,spPE n),(14,spTopE),(15,spSameE 1099511627776),(12,spTrue16),(16,spBeg),(17,spShut)]
theorem expr_small2 {s:Bs} {v:Ex} {L:List Tok} {d:Nat} (h:readTop 65536 16384 (exprD d) s=.ok v L):szE v≤65536:=by
 unfold readTop at h
 split at h
 ·cases h
 split at h
 ·cases h
 split at h
 ·rename_i h1
  cases h
  have k:=expr_fit _ _ _ _ h1
  have k2:=allF_le s ((16384:Nat):Int)
  rw [List.length_map] at k
  simp only [List.length_nil] at k
  omega
 ·cases h
 ·cases h
theorem prNeeded_ok {n:Nat} (ht:TblOK (GG w0 nG) (tblPrNeeded n)):PCalls (GG w0 nG) 4 (spPrNeeded n):=by
 refine pcalls tab_ok mixed (tbl:=tblPrNeeded n) ht Tryz.func4 rfl (by kernel_rfl) (by kernel_rfl) ?_
 intro args σ K h
 unfold spPrNeeded at h
 split at h
 ·obtain ⟨⟨pl,⟨a1,a2,a3,a4,a5⟩,rfl,⟨hz,hw,hr⟩,hn⟩,h⟩:=h
  have hl:=exT_len _ hr
  obtain ⟨T,hTT⟩:∃T,exT (.mk a1 a2 a3 a4 a5)=T:=⟨_,rfl⟩
  refine ⟨loopsOf [(9,⟨[5,6,7],[1,3],fun vs σ=>∃(p:Int) (q:Bool) (j f:Nat),vs=[.d (.int .i64 p),.d (.bool q),.d (.int .i64 j)]∧σ=⟨[.cells 24 ((encE pl (.mk a1 a2 a3 a4 a5)).map .d)],[],0⟩∧HitsG (HitP (exP (.mk a1 a2 a3 a4 a5))) f (T.drop j) j q∧T.length<j+f∧0≤p∧p≤j∧j≤T.length+1,fun vs _=>match vs with | [_,_,.d (.int _ j)]=>((T.length:Int)+1 - j).toNat | _=>0⟩)],0,false,by simp,Nat.le_of_ble_eq_true rfl,?_⟩
  conv=>whnf
  refine ⟨pl,.mk a1 a2 a3 a4 a5,n,rfl,⟨⟨by decide,by decide⟩,by decide,hz,by omega⟩,fun r hr0 hr1'=>?_⟩
  conv=>whnf
  refine CondP.dec (fun hc=>?_) (fun hc=>?_)
  ·conv=>whnf
   exact h
  conv=>whnf
  refine ⟨pl,.mk a1 a2 a3 a4 a5,rfl,⟨fun _=>⟨hr,by omega⟩,hw,by omega⟩,fun hm=>?_,fun hm x hx=>?_⟩
  ·conv=>whnf
   exact h
  have hb:=expr_back hm hr
  rw [hx] at hb
  rcases hb with ⟨v,L,he,rfl⟩ | ⟨p,e,hc,rfl⟩
  ·rw [hTT] at hx hl ⊢
   rw [printed]
   dsimp only
   conv=>whnf
   refine ⟨⟨0,false,0,T.length+1,rfl,rfl,?_,by omega,by omega,by omega,by omega⟩,?_⟩
   ·have:=hits_pieces (ps:=exP (.mk a1 a2 a3 a4 a5)) (exP (.mk a1 a2 a3 a4 a5)) [] (T.length+1) rfl (ex_pz _ _ (Nat.lt_succ_self _) hm hr).neu
    rw [exP_bs,hTT] at this
    exact this
   intro vs σ hI
   obtain ⟨p,q,j,f,rfl,rfl,hH,hf,hp0,hp1,hj⟩:=hI
   conv=>whnf
   refine CondP.dec (fun hc=>?_) (fun hc=>?_)
   ·have hj2:j<T.length:=by omega
    conv=>whnf
    refine CondP.dec (fun hp3=>?_) (fun hp3=>?_)
    ·have hb:T.getD ((j:Int)).toNat 0=T.getD j 0:=by rw [Int.toNat_natCast]
     obtain ⟨f,rfl⟩:∃g,f=g+1:=⟨f - 1,by omega⟩
     rw [drop_at hj2,HitsG] at hH
     conv=>whnf
     refine ⟨by omega,by omega,?_⟩
     rw [hb]
     obtain ⟨c,hcc⟩:∃c,T.getD j 0=c:=⟨_,rfl⟩
     rw [hcc] at hH ⊢
     have e92:((c.toNat:Nat):Int)=92↔c=92:=u8i (n:=92)
     have e34:((c.toNat:Nat):Int)=34↔c=34:=u8i (n:=34)
     have e40:((c.toNat:Nat):Int)=40↔c=40:=u8i (n:=40)
     have mu:∀j2:Nat,j<j2→((T.length:Int)+1 - (j2:Int)).toNat<((T.length:Int)+1 - (j:Int)).toNat:=fun j2 g=>by omega
     have tl2:(T.drop (j+1)).tail=T.drop (j+2):=by rw [List.tail_drop]
     rw [tl2] at hH
     generalize hcn:((c.toNat:Nat):Int)=cn at e92 e34 e40 ⊢
     cases q with
     | true =>
      conv=>whnf
      refine CondP.dec (fun h92=>?_) (fun h92=>?_)
      ·have h92:=e92.1 h92
       rw [if_pos ⟨h92,rfl⟩] at hH
       conv=>whnf
       refine Or.inl ⟨InR.i64 (by omega) (by omega),?_⟩
       conv=>whnf
       refine Or.inl ⟨InR.i64 (by omega) (by omega),?_⟩
       conv=>whnf
       exact ⟨⟨p,true,j+2,f,rfl,rfl,hH,by omega,by omega,by omega,by omega⟩,mu (j+2) (by omega)⟩
      ·have h92:¬(c=92∧true=true):=fun g=>h92 (e92.2 g.1)
       rw [if_neg h92] at hH
       obtain ⟨_,hH⟩:=hH
       conv=>whnf
       refine CondP.dec (fun h34=>?_) (fun h34=>?_)
       ·have h34:=e34.1 h34
        rw [if_pos h34] at hH
        have n40:cn≠40:=fun g=>absurd (h34.symm.trans (e40.1 g)) (by decide)
        conv=>whnf
        refine CondP.ndec (fun _=>?_) (fun g=>absurd g n40)
        conv=>whnf
        refine Or.inl ⟨InR.i64 (by omega) (by omega),?_⟩
        conv=>whnf
        exact ⟨⟨p,false,j+1,f,rfl,rfl,hH,by omega,by omega,by omega,by omega⟩,mu (j+1) (by omega)⟩
       ·have h34:¬c=34:=fun g=>h34 (e34.2 g)
        rw [if_neg h34] at hH
        conv=>whnf
        refine Or.inl ⟨InR.i64 (by omega) (by omega),?_⟩
        conv=>whnf
        exact ⟨⟨p,true,j+1,f,rfl,rfl,hH,by omega,by omega,by omega,by omega⟩,mu (j+1) (by omega)⟩
     | false =>
      have n92:¬(c=92∧false=true):=fun g=>absurd g.2 (by decide)
      rw [if_neg n92] at hH
      obtain ⟨hit,hH⟩:=hH
      conv=>whnf
      refine CondP.dec (fun h92=>?_) (fun h92=>?_)
      all_goals
       conv=>whnf
       refine CondP.dec (fun h34=>?_) (fun h34=>?_)
       ·have h34:=e34.1 h34
        rw [if_pos h34] at hH
        conv=>whnf
        refine Or.inl ⟨InR.i64 (by omega) (by omega),?_⟩
        conv=>whnf
        exact ⟨⟨p,true,j+1,f,rfl,rfl,hH,by omega,by omega,by omega,by omega⟩,mu (j+1) (by omega)⟩
       ·have h34:¬c=34:=fun g=>h34 (e34.2 g)
        rw [if_neg h34] at hH
        conv=>whnf
        refine CondP.ndec (fun h40=>?_) (fun h40=>?_)
        ·conv=>whnf
         refine Or.inl ⟨InR.i64 (by omega) (by omega),?_⟩
         conv=>whnf
         exact ⟨⟨p,false,j+1,f,rfl,rfl,hH,by omega,by omega,by omega,by omega⟩,mu (j+1) (by omega)⟩
        ·have hc40:=e40.1 h40
         conv=>whnf
         refine ⟨⟨by omega,by omega,by omega⟩,fun b=>?_⟩
         cases b with
         | false =>
          conv=>whnf
          refine Or.inl ⟨InR.i64 (by omega) (by omega),?_⟩
          conv=>whnf
          exact ⟨⟨p,false,j+1,f,rfl,rfl,hH,by omega,by omega,by omega,by omega⟩,mu (j+1) (by omega)⟩
         | true =>
          obtain ⟨A,M,B,hp,hA,hsh,hsT⟩:=hit_shut hm hr (hit (by rw [if_neg h34]) hc40)
          rw [hTT] at hsh hsT
          conv=>whnf
          refine Or.inl ⟨InR.i64 (by omega) (by omega),?_⟩
          conv=>whnf
          refine ⟨j,_,T.length+1,rfl,⟨hsh (T.length+1) (by omega),by omega,by omega⟩,?_⟩
          have hlen:=congrArg List.length hsT
          simp only [List.length_append,List.length_cons] at hlen
          obtain ⟨k,hk⟩:∃k,j+1+(bsP M).length=k:=⟨_,rfl⟩
          rw [hk]
          conv=>whnf
          refine ⟨by omega,by omega,?_⟩
          have c1:cut T 0 ((j:Int)).toNat=bsP A:=by
           have e:=cut_mid3 [] (bsP A) (40::(bsP M++(41::bsP B)))
           rw [List.nil_append,← hsT] at e
           rw [Int.toNat_natCast,← hA]
           simpa using e
          have c2:cut T ((j:Int)+1).toNat ((k:Int)).toNat=bsP M:=by
           have e:=cut_mid3 (bsP A++[40]) (bsP M) (41::bsP B)
           rw [List.append_assoc,List.cons_append,List.nil_append,← hsT,List.length_append] at e
           rw [show ((j:Int)+1).toNat=(bsP A).length+([40]:Bs).length by simp only [List.length_cons,List.length_nil];omega,show ((k:Int)).toNat=(bsP A).length+([40]:Bs).length+(bsP M).length by simp only [List.length_cons,List.length_nil];omega]
           exact e
          have c3:cut T ((k:Int)+1).toNat T.length=bsP B:=by
           have e:=cut_mid3 (bsP A++(40::(bsP M++[41]))) (bsP B) []
           rw [List.append_nil,List.append_assoc,List.cons_append,List.append_assoc,List.cons_append,List.nil_append,← hsT,List.length_append,List.length_cons,List.length_append] at e
           rw [show ((k:Int)+1).toNat=(bsP A).length+((bsP M).length+([41]:Bs).length+1) by simp only [List.length_cons,List.length_nil];omega]
           have e2:T.length=(bsP A).length+((bsP M).length+([41]:Bs).length+1)+(bsP B).length:=by simp only [List.length_cons,List.length_nil];omega
           rw [← e2] at e
           exact e
          conv=>whnf
          rw [c1]
          refine ⟨show (bsP A).length+1<2 ^ 62 by omega,?_⟩
          conv=>whnf
          refine Or.inl ⟨InR.i64 (by omega) (by omega),?_⟩
          conv=>whnf
          refine ⟨by omega,by omega,by omega,?_⟩
          conv=>whnf
          rw [c2]
          refine ⟨show (bsP A++[32]).length+(bsP M).length<2 ^ 62 by simp only [List.length_append,List.length_cons,List.length_nil];omega,?_⟩
          conv=>whnf
          refine ⟨show ((bsP A++[32])++bsP M).length+1<2 ^ 62 by simp only [List.length_append,List.length_cons,List.length_nil];omega,?_⟩
          conv=>whnf
          refine Or.inl ⟨InR.i64 (by omega) (by omega),?_⟩
          conv=>whnf
          refine ⟨by omega,by omega,?_⟩
          conv=>whnf
          rw [c3]
          refine ⟨show (((bsP A++[32])++bsP M)++[32]).length+(bsP B).length<2 ^ 62 by simp only [List.length_append,List.length_cons,List.length_nil];omega,?_⟩
          have hS:((((bsP A++[32])++bsP M)++[32])++bsP B:Bs)=bsP A++(32::(bsP M++(32::bsP B))):=by simp
          conv=>whnf
          refine ⟨?_,?_,trivial⟩
          all_goals
           conv=>whnf
           (repeat (first | (refine ⟨?_,trivial⟩;conv=>whnf) | (refine ⟨rfl,?_⟩;conv=>whnf)))
           refine ⟨show ((((bsP A++[32])++bsP M)++[32])++bsP B).length<4294967281 by simp only [List.length_append,List.length_cons,List.length_nil];omega,fun y hy=>?_⟩
           have hy:readTop 65536 16384 (exprD 64) ((((bsP A++[32])++bsP M)++[32])++bsP B)=y:=hy
           rw [hS] at hy
           cases y with
           | err p2 e2 =>
            have he2:e2≠0:=readTop_err (expr_good 64) hy
            unfold TopK
            dsimp only
            conv=>whnf
            (repeat (first | (refine ⟨?_,trivial⟩;conv=>whnf) | (refine ⟨rfl,?_⟩;conv=>whnf)))
            refine CondP.dec (fun g=>absurd g (by omega)) (fun _=>?_)
            conv=>whnf
            refine Or.inl ⟨InR.i64 (by omega) (by omega),?_⟩
            conv=>whnf
            exact ⟨⟨p+1,false,j+1,f,rfl,rfl,hH,by omega,by omega,by omega,by omega⟩,mu (j+1) (by omega)⟩
           | ok v2 L2 =>
            have hns:=pair_out hm hr hp hy
            have hzv:=expr_small2 hy
            generalize placeOf L2=PL
            obtain ⟨v1',v2',v3',v4',v5'⟩:=v2
            unfold TopK
            dsimp only
            conv=>whnf
            (repeat (first | (refine ⟨?_,trivial⟩;conv=>whnf) | (refine ⟨rfl,?_⟩;conv=>whnf)))
            refine ⟨_,.mk v1' v2' v3' v4' v5',pl,.mk a1 a2 a3 a4 a5,rfl,rfl,⟨rfl,by omega,by omega⟩,fun b hb=>?_⟩
            obtain rfl:b=false:=hb.symm.trans hns
            conv=>whnf
            refine Or.inl ⟨InR.i64 (by omega) (by omega),?_⟩
            conv=>whnf
            exact ⟨⟨p+1,false,j+1,f,rfl,rfl,hH,by omega,by omega,by omega,by omega⟩,mu (j+1) (by omega)⟩
    ·conv=>whnf
     exact h
   ·conv=>whnf
    exact h
  ·rw [printed,if_pos hc]
   conv=>whnf
   exact h
 ·exact h.elim
end Go.PM.Lex
end
