/- A part of the proof: plain logic, contracts and laws over the given program. -/
import Derived.Lib.ValidU
import Derived.Test.YtflgockgjnddnaaGreatDoorValid
import Derived.Shelf.Unicode.ValidAny
import Derived.Lib.MapLaws
import Derived.Test.YtflgockgjnddnaaGreatDoorMore
import Derived.Test.YtflgockgjnddnaaGreatDoorG07
set_option linter.unusedVariables false
set_option linter.unusedSimpArgs false
set_option linter.all false
section
set_option maxRecDepth 100000
set_option maxHeartbeats 4000000
namespace Go.PM.Lex
open Go.Proofs
variable {w0:World} {nG:Nat}
noncomputable def tblEE (n:Nat):Tbl:=[(88,spB (spSt encE sameE szE) n)]
theorem efE_ok {n:Nat} (ht:TblOK (GG w0 nG) (tblEE n)):PCalls (GG w0 nG) 87 (spEF 88 encE sameE szE n):=by
 refine pcalls tab_ok mixed (tbl:=tblEE n) ht Tryz.func87 rfl (by kernel_rfl) (by kernel_rfl) ?_
 intro args σ K h
 unfold spEF at h
 split at h
 ·obtain ⟨p1,l1,p2,l2,rfl,rfl,⟨rfl,hz,hn⟩,h⟩:=h
  have h:=h _ rfl
  have hlen1:(l1.map (encE p1)).length=l1.length:=List.length_map ..
  have hlen2:(l2.map (encE p2)).length=l2.length:=List.length_map ..
  have hsz:=szS_len szE l1
  refine ⟨loopsOf [(4,⟨[17],[0,1,2,15,16],fun vs σ=>∃i:Nat,vs=[.d (.int .i64 i)]∧σ=⟨[],[],0⟩∧i≤l1.length∧allS sameE l1 l2=allS sameE (l1.drop i) (l2.drop i),fun vs _=>match vs with | [.d (.int _ i)]=>((l1.length:Int) - i).toNat | _=>0⟩)],0,false,by simp,Nat.le_of_ble_eq_true rfl,?_⟩
  conv=>whnf
  refine CondP.ndec (fun hc=>?_) (fun hc=>?_)
  ·have hc:l1.length≠l2.length:=fun g=>hc (by show ((l1.map (encE p1)).length:Int)=(l2.map (encE p2)).length;rw [hlen1,hlen2,g])
   rw [allS_ne _ _ _ hc] at h
   conv=>whnf
   exact h
  have hc:l1.length=l2.length:=by have hc:((l1.map (encE p1)).length:Int)=(l2.map (encE p2)).length:=hc;rw [hlen1,hlen2] at hc;omega
  conv=>whnf
  refine ⟨⟨0,rfl,rfl,by omega,rfl⟩,?_⟩
  intro vs σ hI
  obtain ⟨i,rfl,rfl,hi,hs⟩:=hI
  conv=>whnf
  refine CondP.dec (fun hi2=>?_) (fun hi2=>?_)
  rotate_left
  ·have hi2:l1.length≤i:=by have hi2:¬(i:Int)<(l1.map (encE p1)).length:=hi2;rw [hlen1] at hi2;omega
   rw [allS_end _ hi2 (by omega)] at hs
   rw [hs] at h
   conv=>whnf
   exact h
  have hi2:i<l1.length:=by have hi2:(i:Int)<(l1.map (encE p1)).length:=hi2;rw [hlen1] at hi2;omega
  have hi3:i<l2.length:=by omega
  have hg:=szS_get szE l1 i hi2
  rw [allS_drop _ hi2 hi3] at hs
  obtain ⟨eA,hA⟩:∃e,l1[i]=e:=⟨_,rfl⟩
  obtain ⟨eB,hB⟩:∃e,l2[i]=e:=⟨_,rfl⟩
  obtain ⟨a1,a2,a3,a4,a5⟩:=eA
  obtain ⟨b1,b2,b3,b4,b5⟩:=eB
  have hr1:(l1.map (encE p1))[((i:Nat):Int).toNat]?=some ((encE p1) (.mk a1 a2 a3 a4 a5)):=by simp [hi2,hA]
  have hr2:(l2.map (encE p2))[((i:Nat):Int).toNat]?=some ((encE p2) (.mk b1 b2 b3 b4 b5)):=by simp [hi3,hB]
  rw [hA,hB] at hs
  rw [hA] at hg
  have hneg:sameE (.mk a1 a2 a3 a4 a5) (.mk b1 b2 b3 b4 b5)=false→K (.ret (.d (.bool false))) ⟨[],[],0⟩:=fun he=>by rw [hs,he,Bool.false_and] at h;exact h
  conv=>whnf
  refine ⟨_,by omega,hr1,?_⟩
  conv=>whnf
  refine ⟨_,by omega,hr2,?_⟩
  conv=>whnf
  refine ⟨by omega,p1,(.mk a1 a2 a3 a4 a5),p2,(.mk b1 b2 b3 b4 b5),rfl,rfl,⟨by omega,by omega⟩,fun b_1 hb1=>?_⟩
  cases b_1 with
  | false =>
   conv=>whnf
   skip
   exact hneg hb1
  | true =>
   conv=>whnf
   skip
   rw [hb1,Bool.true_and] at hs
   refine Or.inl ⟨InR.i64 (by omega) (by omega),?_⟩
   conv=>whnf
   refine ⟨⟨i+1,rfl,rfl,by omega,hs⟩,?_⟩
   show ((l1.length:Int) - ((i:Int)+1)).toNat<((l1.length:Int) - (i:Int)).toNat
   omega
 ·exact h.elim
noncomputable def tblSE (n:Nat):Tbl:=[(87,spEF 88 encE sameE szE n)]
theorem stE_ok {n:Nat} (ht:TblOK (GG w0 nG) (tblSE n)):PCalls (GG w0 nG) 88 (spSt encE sameE szE n):=by
 refine pcalls tab_ok mixed (tbl:=(tblSE n)) ht Tryz.func88 rfl (by kernel_rfl) (by kernel_rfl) ?_
 intro args σ K h
 unfold spSt at h
 split at h
 ·obtain ⟨p1,⟨a1,a2,a3,a4,a5⟩,p2,⟨b1,b2,b3,b4,b5⟩,rfl,rfl,⟨hz,hn⟩,h⟩:=h
  have h:=h _ rfl
  simp only [szE,szEs_eq] at hz
  refine ⟨loopsOf [],0,false,by simp,Nat.le_of_ble_eq_true rfl,?_⟩
  conv=>whnf
  refine CondP.dec (fun hc0=>?_) (fun hc0=>?_)
  rotate_left
  ·have hc0:¬a1=b1:=by omega
   rw [show sameE (.mk a1 a2 a3 a4 a5) (.mk b1 b2 b3 b4 b5)=false by simp [sameE,sameEs_eq,hc0]] at h;(conv=>whnf);exact h
  have hc0:a1=b1:=by omega
  (try dsimp only at hc0)
  conv=>whnf
  refine CondP.dec (fun hc1=>?_) (fun hc1=>?_)
  rotate_left
  ·rw [show sameE (.mk a1 a2 a3 a4 a5) (.mk b1 b2 b3 b4 b5)=false by simp [sameE,sameEs_eq,hc1]] at h;(conv=>whnf);exact h
  (try dsimp only at hc1)
  conv=>whnf
  refine CondP.dec (fun hc2=>?_) (fun hc2=>?_)
  rotate_left
  ·rw [show sameE (.mk a1 a2 a3 a4 a5) (.mk b1 b2 b3 b4 b5)=false by simp [sameE,sameEs_eq,hc2]] at h;(conv=>whnf);exact h
  (try dsimp only at hc2)
  conv=>whnf
  refine ⟨p1,a4,p2,b4,encEs_eq _ _,encEs_eq _ _,⟨rfl,by omega,by omega⟩,fun b_3 hc3=>?_⟩
  have he:sameE (.mk a1 a2 a3 a4 a5) (.mk b1 b2 b3 b4 b5)=b_3:=by simp [sameE,sameEs_eq,hc0,hc1,hc2,hc3]
  rw [he] at h
  conv=>whnf
  exact h
 ·exact h.elim
theorem cEfE:∀n,PCalls (GG w0 nG) 87 (spEF 88 encE sameE szE n)∧PCalls (GG w0 nG) 88 (spSt encE sameE szE n)
 | 0=>have h:=efE_ok (n:=0) ⟨⟨pcalls_none (enters_of Tryz.func88 (by kernel_rfl) rfl),spB_mono (spSt_mono _ _ _) _⟩,trivial⟩;⟨h,stE_ok ⟨⟨h,spEF_mono _ _ _ _ _⟩,trivial⟩⟩
 | n+1=>have h:=efE_ok (n:=n+1) ⟨⟨pcalls_less (sp:=spSt encE sameE szE) (cEfE n).2,spB_mono (spSt_mono _ _ _) _⟩,trivial⟩;⟨h,stE_ok ⟨⟨h,spEF_mono _ _ _ _ _⟩,trivial⟩⟩
noncomputable def tblEL (n:Nat):Tbl:=[(90,spB (spSt encL sameL szL) n)]
theorem efL_ok {n:Nat} (ht:TblOK (GG w0 nG) (tblEL n)):PCalls (GG w0 nG) 89 (spEF 90 encL sameL szL n):=by
 refine pcalls tab_ok mixed (tbl:=tblEL n) ht Tryz.func89 rfl (by kernel_rfl) (by kernel_rfl) ?_
 intro args σ K h
 unfold spEF at h
 split at h
 ·obtain ⟨p1,l1,p2,l2,rfl,rfl,⟨rfl,hz,hn⟩,h⟩:=h
  have h:=h _ rfl
  have hlen1:(l1.map (encL p1)).length=l1.length:=List.length_map ..
  have hlen2:(l2.map (encL p2)).length=l2.length:=List.length_map ..
  have hsz:=szS_len szL l1
  refine ⟨loopsOf [(4,⟨[17],[0,1,2,15,16],fun vs σ=>∃i:Nat,vs=[.d (.int .i64 i)]∧σ=⟨[],[],0⟩∧i≤l1.length∧allS sameL l1 l2=allS sameL (l1.drop i) (l2.drop i),fun vs _=>match vs with | [.d (.int _ i)]=>((l1.length:Int) - i).toNat | _=>0⟩)],0,false,by simp,Nat.le_of_ble_eq_true rfl,?_⟩
  conv=>whnf
  refine CondP.ndec (fun hc=>?_) (fun hc=>?_)
  ·have hc:l1.length≠l2.length:=fun g=>hc (by show ((l1.map (encL p1)).length:Int)=(l2.map (encL p2)).length;rw [hlen1,hlen2,g])
   rw [allS_ne _ _ _ hc] at h
   conv=>whnf
   exact h
  have hc:l1.length=l2.length:=by have hc:((l1.map (encL p1)).length:Int)=(l2.map (encL p2)).length:=hc;rw [hlen1,hlen2] at hc;omega
  conv=>whnf
  refine ⟨⟨0,rfl,rfl,by omega,rfl⟩,?_⟩
  intro vs σ hI
  obtain ⟨i,rfl,rfl,hi,hs⟩:=hI
  conv=>whnf
  refine CondP.dec (fun hi2=>?_) (fun hi2=>?_)
  rotate_left
  ·have hi2:l1.length≤i:=by have hi2:¬(i:Int)<(l1.map (encL p1)).length:=hi2;rw [hlen1] at hi2;omega
   rw [allS_end _ hi2 (by omega)] at hs
   rw [hs] at h
   conv=>whnf
   exact h
  have hi2:i<l1.length:=by have hi2:(i:Int)<(l1.map (encL p1)).length:=hi2;rw [hlen1] at hi2;omega
  have hi3:i<l2.length:=by omega
  have hg:=szS_get szL l1 i hi2
  rw [allS_drop _ hi2 hi3] at hs
  obtain ⟨eA,hA⟩:∃e,l1[i]=e:=⟨_,rfl⟩
  obtain ⟨eB,hB⟩:∃e,l2[i]=e:=⟨_,rfl⟩
  obtain ⟨a1,a2,a3,a4,a5⟩:=eA
  obtain ⟨b1,b2,b3,b4,b5⟩:=eB
  have hr1:(l1.map (encL p1))[((i:Nat):Int).toNat]?=some ((encL p1) (.mk a1 a2 a3 a4 a5)):=by simp [hi2,hA]
  have hr2:(l2.map (encL p2))[((i:Nat):Int).toNat]?=some ((encL p2) (.mk b1 b2 b3 b4 b5)):=by simp [hi3,hB]
  rw [hA,hB] at hs
  rw [hA] at hg
  have hneg:sameL (.mk a1 a2 a3 a4 a5) (.mk b1 b2 b3 b4 b5)=false→K (.ret (.d (.bool false))) ⟨[],[],0⟩:=fun he=>by rw [hs,he,Bool.false_and] at h;exact h
  conv=>whnf
  refine ⟨_,by omega,hr1,?_⟩
  conv=>whnf
  refine ⟨_,by omega,hr2,?_⟩
  conv=>whnf
  refine ⟨by omega,p1,(.mk a1 a2 a3 a4 a5),p2,(.mk b1 b2 b3 b4 b5),rfl,rfl,⟨by omega,by omega⟩,fun b_1 hb1=>?_⟩
  cases b_1 with
  | false =>
   conv=>whnf
   skip
   exact hneg hb1
  | true =>
   conv=>whnf
   skip
   rw [hb1,Bool.true_and] at hs
   refine Or.inl ⟨InR.i64 (by omega) (by omega),?_⟩
   conv=>whnf
   refine ⟨⟨i+1,rfl,rfl,by omega,hs⟩,?_⟩
   show ((l1.length:Int) - ((i:Int)+1)).toNat<((l1.length:Int) - (i:Int)).toNat
   omega
 ·exact h.elim
noncomputable def tblSL (n:Nat):Tbl:=[(87,spEF 88 encE sameE szE n),(89,spEF 90 encL sameL szL n)]
theorem stL_ok {n:Nat} (ht:TblOK (GG w0 nG) (tblSL n)):PCalls (GG w0 nG) 90 (spSt encL sameL szL n):=by
 refine pcalls tab_ok mixed (tbl:=(tblSL n)) ht Tryz.func90 rfl (by kernel_rfl) (by kernel_rfl) ?_
 intro args σ K h
 unfold spSt at h
 split at h
 ·obtain ⟨p1,⟨a1,a2,a3,a4,a5⟩,p2,⟨b1,b2,b3,b4,b5⟩,rfl,rfl,⟨hz,hn⟩,h⟩:=h
  have h:=h _ rfl
  simp only [szL,szLs_eq] at hz
  refine ⟨loopsOf [],0,false,by simp,Nat.le_of_ble_eq_true rfl,?_⟩
  conv=>whnf
  refine CondP.dec (fun hc0=>?_) (fun hc0=>?_)
  rotate_left
  ·rw [show sameL (.mk a1 a2 a3 a4 a5) (.mk b1 b2 b3 b4 b5)=false by simp [sameL,sameLs_eq,hc0]] at h;(conv=>whnf);exact h
  (try dsimp only at hc0)
  conv=>whnf
  refine CondP.dec (fun hc1=>?_) (fun hc1=>?_)
  rotate_left
  ·rw [show sameL (.mk a1 a2 a3 a4 a5) (.mk b1 b2 b3 b4 b5)=false by simp [sameL,sameLs_eq,hc1]] at h;(conv=>whnf);exact h
  (try dsimp only at hc1)
  conv=>whnf
  refine ⟨p1,a3,p2,b3,encEs_eq _ _,encEs_eq _ _,⟨rfl,by omega,by omega⟩,fun b_2 hc2=>?_⟩
  cases b_2 with
  | false =>
   conv=>whnf
   rw [show sameL (.mk a1 a2 a3 a4 a5) (.mk b1 b2 b3 b4 b5)=false by simp [sameL,sameLs_eq,hc2]] at h;exact h
  | true =>
   conv=>whnf
   refine ⟨p1,a4,p2,b4,encLs_eq _ _,encLs_eq _ _,⟨rfl,by omega,by omega⟩,fun b_3 hc3=>?_⟩
   have he:sameL (.mk a1 a2 a3 a4 a5) (.mk b1 b2 b3 b4 b5)=b_3:=by simp [sameL,sameLs_eq,hc0,hc1,hc2,hc3]
   rw [he] at h
   conv=>whnf
   exact h
 ·exact h.elim
theorem cEfL:∀n,PCalls (GG w0 nG) 89 (spEF 90 encL sameL szL n)∧PCalls (GG w0 nG) 90 (spSt encL sameL szL n)
 | 0=>have h:=efL_ok (n:=0) ⟨⟨pcalls_none (enters_of Tryz.func90 (by kernel_rfl) rfl),spB_mono (spSt_mono _ _ _) _⟩,trivial⟩;⟨h,stL_ok ⟨⟨(cEfE 0).1,spEF_mono _ _ _ _ _⟩,⟨h,spEF_mono _ _ _ _ _⟩,trivial⟩⟩
 | n+1=>have h:=efL_ok (n:=n+1) ⟨⟨pcalls_less (sp:=spSt encL sameL szL) (cEfL n).2,spB_mono (spSt_mono _ _ _) _⟩,trivial⟩;⟨h,stL_ok ⟨⟨(cEfE _).1,spEF_mono _ _ _ _ _⟩,⟨h,spEF_mono _ _ _ _ _⟩,trivial⟩⟩
noncomputable def tblERu (n:Nat):Tbl:=[(43,spB (spSt encRu sameRu szRu) n)]
theorem efRu_ok {n:Nat} (ht:TblOK (GG w0 nG) (tblERu n)):PCalls (GG w0 nG) 42 (spEF 43 encRu sameRu szRu n):=by
 refine pcalls tab_ok mixed (tbl:=tblERu n) ht Tryz.func42 rfl (by kernel_rfl) (by kernel_rfl) ?_
 intro args σ K h
 unfold spEF at h
 split at h
 ·obtain ⟨p1,l1,p2,l2,rfl,rfl,⟨rfl,hz,hn⟩,h⟩:=h
  have h:=h _ rfl
  have hlen1:(l1.map (encRu p1)).length=l1.length:=List.length_map ..
  have hlen2:(l2.map (encRu p2)).length=l2.length:=List.length_map ..
  have hsz:=szS_len szRu l1
  refine ⟨loopsOf [(4,⟨[17],[0,1,2,15,16],fun vs σ=>∃i:Nat,vs=[.d (.int .i64 i)]∧σ=⟨[],[],0⟩∧i≤l1.length∧allS sameRu l1 l2=allS sameRu (l1.drop i) (l2.drop i),fun vs _=>match vs with | [.d (.int _ i)]=>((l1.length:Int) - i).toNat | _=>0⟩)],0,false,by simp,Nat.le_of_ble_eq_true rfl,?_⟩
  conv=>whnf
  refine CondP.ndec (fun hc=>?_) (fun hc=>?_)
  ·have hc:l1.length≠l2.length:=fun g=>hc (by show ((l1.map (encRu p1)).length:Int)=(l2.map (encRu p2)).length;rw [hlen1,hlen2,g])
   rw [allS_ne _ _ _ hc] at h
   conv=>whnf
   exact h
  have hc:l1.length=l2.length:=by have hc:((l1.map (encRu p1)).length:Int)=(l2.map (encRu p2)).length:=hc;rw [hlen1,hlen2] at hc;omega
  conv=>whnf
  refine ⟨⟨0,rfl,rfl,by omega,rfl⟩,?_⟩
  intro vs σ hI
  obtain ⟨i,rfl,rfl,hi,hs⟩:=hI
  conv=>whnf
  refine CondP.dec (fun hi2=>?_) (fun hi2=>?_)
  rotate_left
  ·have hi2:l1.length≤i:=by have hi2:¬(i:Int)<(l1.map (encRu p1)).length:=hi2;rw [hlen1] at hi2;omega
   rw [allS_end _ hi2 (by omega)] at hs
   rw [hs] at h
   conv=>whnf
   exact h
  have hi2:i<l1.length:=by have hi2:(i:Int)<(l1.map (encRu p1)).length:=hi2;rw [hlen1] at hi2;omega
  have hi3:i<l2.length:=by omega
  have hg:=szS_get szRu l1 i hi2
  rw [allS_drop _ hi2 hi3] at hs
  obtain ⟨eA,hA⟩:∃e,l1[i]=e:=⟨_,rfl⟩
  obtain ⟨eB,hB⟩:∃e,l2[i]=e:=⟨_,rfl⟩
  obtain ⟨a1,a2,a3,a4⟩:=eA
  obtain ⟨b1,b2,b3,b4⟩:=eB
  have hr1:(l1.map (encRu p1))[((i:Nat):Int).toNat]?=some ((encRu p1) (⟨a1,a2,a3,a4⟩:Ru)):=by simp [hi2,hA]
  have hr2:(l2.map (encRu p2))[((i:Nat):Int).toNat]?=some ((encRu p2) (⟨b1,b2,b3,b4⟩:Ru)):=by simp [hi3,hB]
  rw [hA,hB] at hs
  rw [hA] at hg
  have hneg:sameRu (⟨a1,a2,a3,a4⟩:Ru) (⟨b1,b2,b3,b4⟩:Ru)=false→K (.ret (.d (.bool false))) ⟨[],[],0⟩:=fun he=>by rw [hs,he,Bool.false_and] at h;exact h
  conv=>whnf
  refine ⟨_,by omega,hr1,?_⟩
  conv=>whnf
  refine ⟨_,by omega,hr2,?_⟩
  conv=>whnf
  refine ⟨by omega,p1,(⟨a1,a2,a3,a4⟩:Ru),p2,(⟨b1,b2,b3,b4⟩:Ru),rfl,rfl,⟨by omega,by omega⟩,fun b_1 hb1=>?_⟩
  cases b_1 with
  | false =>
   conv=>whnf
   skip
   exact hneg hb1
  | true =>
   conv=>whnf
   skip
   rw [hb1,Bool.true_and] at hs
   refine Or.inl ⟨InR.i64 (by omega) (by omega),?_⟩
   conv=>whnf
   refine ⟨⟨i+1,rfl,rfl,by omega,hs⟩,?_⟩
   show ((l1.length:Int) - ((i:Int)+1)).toNat<((l1.length:Int) - (i:Int)).toNat
   omega
 ·exact h.elim
noncomputable def tblSRu (n:Nat):Tbl:=[(87,spEF 88 encE sameE szE n),(89,spEF 90 encL sameL szL n)]
theorem stRu_ok {n:Nat} (ht:TblOK (GG w0 nG) (tblSRu n)):PCalls (GG w0 nG) 43 (spSt encRu sameRu szRu n):=by
 refine pcalls tab_ok mixed (tbl:=(tblSRu n)) ht Tryz.func43 rfl (by kernel_rfl) (by kernel_rfl) ?_
 intro args σ K h
 unfold spSt at h
 split at h
 ·obtain ⟨p1,⟨a1,a2,a3,a4⟩,p2,⟨b1,b2,b3,b4⟩,rfl,rfl,⟨hz,hn⟩,h⟩:=h
  have h:=h _ rfl
  simp only [szRu] at hz
  refine ⟨loopsOf [],0,false,by simp,Nat.le_of_ble_eq_true rfl,?_⟩
  conv=>whnf
  refine CondP.dec (fun hc0=>?_) (fun hc0=>?_)
  rotate_left
  ·rw [show sameRu (⟨a1,a2,a3,a4⟩:Ru) (⟨b1,b2,b3,b4⟩:Ru)=false by simp [sameRu,hc0]] at h;(conv=>whnf);exact h
  (try dsimp only at hc0)
  conv=>whnf
  refine ⟨p1,a2,p2,b2,encEs_eq _ _,encEs_eq _ _,⟨rfl,by omega,by omega⟩,fun b_1 hc1=>?_⟩
  cases b_1 with
  | false =>
   conv=>whnf
   rw [show sameRu (⟨a1,a2,a3,a4⟩:Ru) (⟨b1,b2,b3,b4⟩:Ru)=false by simp [sameRu,hc1]] at h;exact h
  | true =>
   conv=>whnf
   refine ⟨p1,a3,p2,b3,encLs_eq _ _,encLs_eq _ _,⟨rfl,by omega,by omega⟩,fun b_2 hc2=>?_⟩
   have he:sameRu (⟨a1,a2,a3,a4⟩:Ru) (⟨b1,b2,b3,b4⟩:Ru)=b_2:=by simp [sameRu,hc0,hc1,hc2]
   rw [he] at h
   conv=>whnf
   exact h
 ·exact h.elim
theorem eqFi_ok {n:Nat}:PCalls (GG w0 nG) 84 (spL2 encFi sameFi n):=by
 refine pcalls tab_ok mixed (tbl:=[]) trivial Tryz.func84 rfl (by kernel_rfl) (by kernel_rfl) ?_
 intro args σ K h
 unfold spL2 at h
 split at h
 ·obtain ⟨l1,l2,rfl,rfl,⟨hz,hn⟩,h⟩:=h
  have h:=h _ rfl
  have hlen1:(l1.map encFi).length=l1.length:=List.length_map ..
  have hlen2:(l2.map encFi).length=l2.length:=List.length_map ..
  have hsz:=szS_len sz0 l1
  refine ⟨loopsOf [(4,⟨[13],[0,1,12],fun vs σ=>∃i:Nat,vs=[.d (.int .i64 i)]∧σ=⟨[],[],0⟩∧i≤l1.length∧allS sameFi l1 l2=allS sameFi (l1.drop i) (l2.drop i),fun vs _=>match vs with | [.d (.int _ i)]=>((l1.length:Int) - i).toNat | _=>0⟩)],0,false,by simp,Nat.le_of_ble_eq_true rfl,?_⟩
  conv=>whnf
  refine CondP.ndec (fun hc=>?_) (fun hc=>?_)
  ·have hc:l1.length≠l2.length:=fun g=>hc (by show ((l1.map encFi).length:Int)=(l2.map encFi).length;rw [hlen1,hlen2,g])
   rw [allS_ne _ _ _ hc] at h
   conv=>whnf
   exact h
  have hc:l1.length=l2.length:=by have hc:((l1.map encFi).length:Int)=(l2.map encFi).length:=hc;rw [hlen1,hlen2] at hc;omega
  conv=>whnf
  refine ⟨⟨0,rfl,rfl,by omega,rfl⟩,?_⟩
  intro vs σ hI
  obtain ⟨i,rfl,rfl,hi,hs⟩:=hI
  conv=>whnf
  refine CondP.dec (fun hi2=>?_) (fun hi2=>?_)
  rotate_left
  ·have hi2:l1.length≤i:=by have hi2:¬(i:Int)<(l1.map encFi).length:=hi2;rw [hlen1] at hi2;omega
   rw [allS_end _ hi2 (by omega)] at hs
   rw [hs] at h
   conv=>whnf
   exact h
  have hi2:i<l1.length:=by have hi2:(i:Int)<(l1.map encFi).length:=hi2;rw [hlen1] at hi2;omega
  have hi3:i<l2.length:=by omega
  have hg:=szS_get sz0 l1 i hi2
  rw [allS_drop _ hi2 hi3] at hs
  obtain ⟨eA,hA⟩:∃e,l1[i]=e:=⟨_,rfl⟩
  obtain ⟨eB,hB⟩:∃e,l2[i]=e:=⟨_,rfl⟩
  obtain ⟨a1,a2⟩:=eA
  obtain ⟨b1,b2⟩:=eB
  have hr1:(l1.map encFi)[((i:Nat):Int).toNat]?=some (encFi (⟨a1,a2⟩:Fi)):=by simp [hi2,hA]
  have hr2:(l2.map encFi)[((i:Nat):Int).toNat]?=some (encFi (⟨b1,b2⟩:Fi)):=by simp [hi3,hB]
  rw [hA,hB] at hs
  have hneg:sameFi (⟨a1,a2⟩:Fi) (⟨b1,b2⟩:Fi)=false→K (.ret (.d (.bool false))) ⟨[],[],0⟩:=fun he=>by rw [hs,he,Bool.false_and] at h;exact h
  conv=>whnf
  (repeat (first | (refine ⟨_,by omega,hr1,?_⟩;conv=>whnf) | (refine ⟨_,by omega,hr2,?_⟩;conv=>whnf)))
  refine CondP.intro (fun hc1=>?_) (fun hc1=>?_)
  ·(conv=>whnf);exact hneg ((Bool.not_eq_true' _).mp hc1)
  conv=>whnf
  have he:sameFi (⟨a1,a2⟩:Fi) (⟨b1,b2⟩:Fi)=true:=(Bool.not_eq_false' _).mp hc1
  rw [he,Bool.true_and] at hs
  refine Or.inl ⟨InR.i64 (by omega) (by omega),?_⟩
  conv=>whnf
  refine ⟨⟨i+1,rfl,rfl,by omega,hs⟩,?_⟩
  show ((l1.length:Int) - ((i:Int)+1)).toNat<((l1.length:Int) - (i:Int)).toNat
  omega
 ·exact h.elim
theorem eqBs_ok {n:Nat}:PCalls (GG w0 nG) 46 (spL2 encBs eqB n):=by
 refine pcalls tab_ok mixed (tbl:=[]) trivial Tryz.func46 rfl (by kernel_rfl) (by kernel_rfl) ?_
 intro args σ K h
 unfold spL2 at h
 split at h
 ·obtain ⟨l1,l2,rfl,rfl,⟨hz,hn⟩,h⟩:=h
  have h:=h _ rfl
  have hlen1:(l1.map encBs).length=l1.length:=List.length_map ..
  have hlen2:(l2.map encBs).length=l2.length:=List.length_map ..
  have hsz:=szS_len sz0 l1
  refine ⟨loopsOf [(4,⟨[13],[0,1,12],fun vs σ=>∃i:Nat,vs=[.d (.int .i64 i)]∧σ=⟨[],[],0⟩∧i≤l1.length∧allS eqB l1 l2=allS eqB (l1.drop i) (l2.drop i),fun vs _=>match vs with | [.d (.int _ i)]=>((l1.length:Int) - i).toNat | _=>0⟩)],0,false,by simp,Nat.le_of_ble_eq_true rfl,?_⟩
  conv=>whnf
  refine CondP.ndec (fun hc=>?_) (fun hc=>?_)
  ·have hc:l1.length≠l2.length:=fun g=>hc (by show ((l1.map encBs).length:Int)=(l2.map encBs).length;rw [hlen1,hlen2,g])
   rw [allS_ne _ _ _ hc] at h
   conv=>whnf
   exact h
  have hc:l1.length=l2.length:=by have hc:((l1.map encBs).length:Int)=(l2.map encBs).length:=hc;rw [hlen1,hlen2] at hc;omega
  conv=>whnf
  refine ⟨⟨0,rfl,rfl,by omega,rfl⟩,?_⟩
  intro vs σ hI
  obtain ⟨i,rfl,rfl,hi,hs⟩:=hI
  conv=>whnf
  refine CondP.dec (fun hi2=>?_) (fun hi2=>?_)
  rotate_left
  ·have hi2:l1.length≤i:=by have hi2:¬(i:Int)<(l1.map encBs).length:=hi2;rw [hlen1] at hi2;omega
   rw [allS_end _ hi2 (by omega)] at hs
   rw [hs] at h
   conv=>whnf
   exact h
  have hi2:i<l1.length:=by have hi2:(i:Int)<(l1.map encBs).length:=hi2;rw [hlen1] at hi2;omega
  have hi3:i<l2.length:=by omega
  have hg:=szS_get sz0 l1 i hi2
  rw [allS_drop _ hi2 hi3] at hs
  have hr1:(l1.map encBs)[((i:Nat):Int).toNat]?=some (encBs l1[i]):=by simp [hi2]
  have hr2:(l2.map encBs)[((i:Nat):Int).toNat]?=some (encBs l2[i]):=by simp [hi3]
  obtain ⟨eA,hA⟩:∃e,l1[i]=e:=⟨_,rfl⟩
  obtain ⟨eB,hB⟩:∃e,l2[i]=e:=⟨_,rfl⟩
  rw [hA] at hr1
  rw [hB] at hr2
  rw [hA,hB] at hs
  have hneg:eqB eA eB=false→K (.ret (.d (.bool false))) ⟨[],[],0⟩:=fun he=>by rw [hs,he,Bool.false_and] at h;exact h
  conv=>whnf
  (repeat (first | (refine ⟨_,by omega,hr1,?_⟩;conv=>whnf) | (refine ⟨_,by omega,hr2,?_⟩;conv=>whnf)))
  refine CondP.ndec (fun hc1=>?_) (fun hc1=>?_)
  ·(conv=>whnf);exact hneg (by simp [eqB,hc1])
  (try dsimp only at hc1)
  conv=>whnf
  have he:eqB eA eB=true:=by simp [eqB,hc1]
  rw [he,Bool.true_and] at hs
  refine Or.inl ⟨InR.i64 (by omega) (by omega),?_⟩
  conv=>whnf
  refine ⟨⟨i+1,rfl,rfl,by omega,hs⟩,?_⟩
  show ((l1.length:Int) - ((i:Int)+1)).toNat<((l1.length:Int) - (i:Int)).toNat
  omega
 ·exact h.elim
noncomputable def tblECa (n:Nat):Tbl:=[(86,spB (spSt (fun _=>encCa) sameCa szCa) n)]
theorem efCa_ok {n:Nat} (ht:TblOK (GG w0 nG) (tblECa n)):PCalls (GG w0 nG) 85 (spEF 86 (fun _=>encCa) sameCa szCa n):=by
 refine pcalls tab_ok mixed (tbl:=tblECa n) ht Tryz.func85 rfl (by kernel_rfl) (by kernel_rfl) ?_
 intro args σ K h
 unfold spEF at h
 split at h
 ·obtain ⟨p1,l1,p2,l2,rfl,rfl,⟨rfl,hz,hn⟩,h⟩:=h
  have h:=h _ rfl
  have hlen1:(l1.map encCa).length=l1.length:=List.length_map ..
  have hlen2:(l2.map encCa).length=l2.length:=List.length_map ..
  have hsz:=szS_len szCa l1
  refine ⟨loopsOf [(4,⟨[17],[0,1,2,15,16],fun vs σ=>∃i:Nat,vs=[.d (.int .i64 i)]∧σ=⟨[],[],0⟩∧i≤l1.length∧allS sameCa l1 l2=allS sameCa (l1.drop i) (l2.drop i),fun vs _=>match vs with | [.d (.int _ i)]=>((l1.length:Int) - i).toNat | _=>0⟩)],0,false,by simp,Nat.le_of_ble_eq_true rfl,?_⟩
  conv=>whnf
  refine CondP.ndec (fun hc=>?_) (fun hc=>?_)
  ·have hc:l1.length≠l2.length:=fun g=>hc (by show ((l1.map encCa).length:Int)=(l2.map encCa).length;rw [hlen1,hlen2,g])
   rw [allS_ne _ _ _ hc] at h
   conv=>whnf
   exact h
  have hc:l1.length=l2.length:=by have hc:((l1.map encCa).length:Int)=(l2.map encCa).length:=hc;rw [hlen1,hlen2] at hc;omega
  conv=>whnf
  refine ⟨⟨0,rfl,rfl,by omega,rfl⟩,?_⟩
  intro vs σ hI
  obtain ⟨i,rfl,rfl,hi,hs⟩:=hI
  conv=>whnf
  refine CondP.dec (fun hi2=>?_) (fun hi2=>?_)
  rotate_left
  ·have hi2:l1.length≤i:=by have hi2:¬(i:Int)<(l1.map encCa).length:=hi2;rw [hlen1] at hi2;omega
   rw [allS_end _ hi2 (by omega)] at hs
   rw [hs] at h
   conv=>whnf
   exact h
  have hi2:i<l1.length:=by have hi2:(i:Int)<(l1.map encCa).length:=hi2;rw [hlen1] at hi2;omega
  have hi3:i<l2.length:=by omega
  have hg:=szS_get szCa l1 i hi2
  rw [allS_drop _ hi2 hi3] at hs
  obtain ⟨eA,hA⟩:∃e,l1[i]=e:=⟨_,rfl⟩
  obtain ⟨eB,hB⟩:∃e,l2[i]=e:=⟨_,rfl⟩
  obtain ⟨a1,a2⟩:=eA
  obtain ⟨b1,b2⟩:=eB
  have hr1:(l1.map encCa)[((i:Nat):Int).toNat]?=some (encCa (⟨a1,a2⟩:Ca)):=by simp [hi2,hA]
  have hr2:(l2.map encCa)[((i:Nat):Int).toNat]?=some (encCa (⟨b1,b2⟩:Ca)):=by simp [hi3,hB]
  rw [hA,hB] at hs
  rw [hA] at hg
  have hneg:sameCa (⟨a1,a2⟩:Ca) (⟨b1,b2⟩:Ca)=false→K (.ret (.d (.bool false))) ⟨[],[],0⟩:=fun he=>by rw [hs,he,Bool.false_and] at h;exact h
  conv=>whnf
  refine ⟨_,by omega,hr1,?_⟩
  conv=>whnf
  refine ⟨_,by omega,hr2,?_⟩
  conv=>whnf
  refine ⟨by omega,p1,(⟨a1,a2⟩:Ca),p2,(⟨b1,b2⟩:Ca),rfl,rfl,⟨by omega,by omega⟩,fun b_1 hb1=>?_⟩
  cases b_1 with
  | false =>
   conv=>whnf
   skip
   exact hneg hb1
  | true =>
   conv=>whnf
   skip
   rw [hb1,Bool.true_and] at hs
   refine Or.inl ⟨InR.i64 (by omega) (by omega),?_⟩
   conv=>whnf
   refine ⟨⟨i+1,rfl,rfl,by omega,hs⟩,?_⟩
   show ((l1.length:Int) - ((i:Int)+1)).toNat<((l1.length:Int) - (i:Int)).toNat
   omega
 ·exact h.elim
noncomputable def tblSCa (n:Nat):Tbl:=[(84,spL2 encFi sameFi n)]
theorem stCa_ok {n:Nat} (ht:TblOK (GG w0 nG) (tblSCa n)):PCalls (GG w0 nG) 86 (spSt (fun _=>encCa) sameCa szCa n):=by
 refine pcalls tab_ok mixed (tbl:=(tblSCa n)) ht Tryz.func86 rfl (by kernel_rfl) (by kernel_rfl) ?_
 intro args σ K h
 unfold spSt at h
 split at h
 ·obtain ⟨p1,⟨a1,a2⟩,p2,⟨b1,b2⟩,rfl,rfl,⟨hz,hn⟩,h⟩:=h
  have h:=h _ rfl
  simp only [szCa] at hz
  refine ⟨loopsOf [],0,false,by simp,Nat.le_of_ble_eq_true rfl,?_⟩
  conv=>whnf
  refine CondP.dec (fun hc0=>?_) (fun hc0=>?_)
  rotate_left
  ·rw [show sameCa (⟨a1,a2⟩:Ca) (⟨b1,b2⟩:Ca)=false by simp [sameCa,hc0]] at h;(conv=>whnf);exact h
  (try dsimp only at hc0)
  conv=>whnf
  refine ⟨a2,b2,rfl,rfl,⟨by omega,by omega⟩,fun b_1 hc1=>?_⟩
  have he:sameCa (⟨a1,a2⟩:Ca) (⟨b1,b2⟩:Ca)=b_1:=by simp [sameCa,hc0,hc1]
  rw [he] at h
  conv=>whnf
  exact h
 ·exact h.elim
noncomputable def tblSTy (n:Nat):Tbl:=[(84,spL2 encFi sameFi n),(85,spEF 86 (fun _=>encCa) sameCa szCa n)]
theorem stTy_ok {n:Nat} (ht:TblOK (GG w0 nG) (tblSTy n)):PCalls (GG w0 nG) 39 (spSt encTy sameTy szTy n):=by
 refine pcalls tab_ok mixed (tbl:=(tblSTy n)) ht Tryz.func39 rfl (by kernel_rfl) (by kernel_rfl) ?_
 intro args σ K h
 unfold spSt at h
 split at h
 ·obtain ⟨p1,⟨a1,a2,a3,a4,a5,a6⟩,p2,⟨b1,b2,b3,b4,b5,b6⟩,rfl,rfl,⟨hz,hn⟩,h⟩:=h
  have h:=h _ rfl
  simp only [szTy] at hz
  refine ⟨loopsOf [],0,false,by simp,Nat.le_of_ble_eq_true rfl,?_⟩
  conv=>whnf
  refine CondP.dec (fun hc0=>?_) (fun hc0=>?_)
  rotate_left
  ·rw [show sameTy (⟨a1,a2,a3,a4,a5,a6⟩:Ty) (⟨b1,b2,b3,b4,b5,b6⟩:Ty)=false by simp [sameTy,hc0]] at h;(conv=>whnf);exact h
  (try dsimp only at hc0)
  conv=>whnf
  refine CondP.dec (fun hc1=>?_) (fun hc1=>?_)
  rotate_left
  ·rw [show sameTy (⟨a1,a2,a3,a4,a5,a6⟩:Ty) (⟨b1,b2,b3,b4,b5,b6⟩:Ty)=false by simp [sameTy,hc1]] at h;(conv=>whnf);exact h
  (try dsimp only at hc1)
  conv=>whnf
  refine CondP.dec (fun hc2=>?_) (fun hc2=>?_)
  rotate_left
  ·rw [show sameTy (⟨a1,a2,a3,a4,a5,a6⟩:Ty) (⟨b1,b2,b3,b4,b5,b6⟩:Ty)=false by simp [sameTy,hc2]] at h;(conv=>whnf);exact h
  (try dsimp only at hc2)
  conv=>whnf
  refine ⟨a4,b4,rfl,rfl,⟨by omega,by omega⟩,fun b_3 hc3=>?_⟩
  cases b_3 with
  | false =>
   conv=>whnf
   rw [show sameTy (⟨a1,a2,a3,a4,a5,a6⟩:Ty) (⟨b1,b2,b3,b4,b5,b6⟩:Ty)=false by simp [sameTy,hc3]] at h;exact h
  | true =>
   conv=>whnf
   refine ⟨p1,a5,p2,b5,rfl,rfl,⟨rfl,by omega,by omega⟩,fun b_4 hc4=>?_⟩
   have he:sameTy (⟨a1,a2,a3,a4,a5,a6⟩:Ty) (⟨b1,b2,b3,b4,b5,b6⟩:Ty)=b_4:=by simp [sameTy,hc0,hc1,hc2,hc3,hc4]
   rw [he] at h
   conv=>whnf
   exact h
 ·exact h.elim
noncomputable def tblETy (n:Nat):Tbl:=[(39,spB (spSt encTy sameTy szTy) n)]
theorem efTy_ok {n:Nat} (ht:TblOK (GG w0 nG) (tblETy n)):PCalls (GG w0 nG) 38 (spEF 39 encTy sameTy szTy n):=by
 refine pcalls tab_ok mixed (tbl:=tblETy n) ht Tryz.func38 rfl (by kernel_rfl) (by kernel_rfl) ?_
 intro args σ K h
 unfold spEF at h
 split at h
 ·obtain ⟨p1,l1,p2,l2,rfl,rfl,⟨rfl,hz,hn⟩,h⟩:=h
  have h:=h _ rfl
  have hlen1:(l1.map (encTy p1)).length=l1.length:=List.length_map ..
  have hlen2:(l2.map (encTy p2)).length=l2.length:=List.length_map ..
  have hsz:=szS_len szTy l1
  refine ⟨loopsOf [(4,⟨[17],[0,1,2,15,16],fun vs σ=>∃i:Nat,vs=[.d (.int .i64 i)]∧σ=⟨[],[],0⟩∧i≤l1.length∧allS sameTy l1 l2=allS sameTy (l1.drop i) (l2.drop i),fun vs _=>match vs with | [.d (.int _ i)]=>((l1.length:Int) - i).toNat | _=>0⟩)],0,false,by simp,Nat.le_of_ble_eq_true rfl,?_⟩
  conv=>whnf
  refine CondP.ndec (fun hc=>?_) (fun hc=>?_)
  ·have hc:l1.length≠l2.length:=fun g=>hc (by show ((l1.map (encTy p1)).length:Int)=(l2.map (encTy p2)).length;rw [hlen1,hlen2,g])
   rw [allS_ne _ _ _ hc] at h
   conv=>whnf
   exact h
  have hc:l1.length=l2.length:=by have hc:((l1.map (encTy p1)).length:Int)=(l2.map (encTy p2)).length:=hc;rw [hlen1,hlen2] at hc;omega
  conv=>whnf
  refine ⟨⟨0,rfl,rfl,by omega,rfl⟩,?_⟩
  intro vs σ hI
  obtain ⟨i,rfl,rfl,hi,hs⟩:=hI
  conv=>whnf
  refine CondP.dec (fun hi2=>?_) (fun hi2=>?_)
  rotate_left
  ·have hi2:l1.length≤i:=by have hi2:¬(i:Int)<(l1.map (encTy p1)).length:=hi2;rw [hlen1] at hi2;omega
   rw [allS_end _ hi2 (by omega)] at hs
   rw [hs] at h
   conv=>whnf
   exact h
  have hi2:i<l1.length:=by have hi2:(i:Int)<(l1.map (encTy p1)).length:=hi2;rw [hlen1] at hi2;omega
  have hi3:i<l2.length:=by omega
  have hg:=szS_get szTy l1 i hi2
  rw [allS_drop _ hi2 hi3] at hs
  obtain ⟨eA,hA⟩:∃e,l1[i]=e:=⟨_,rfl⟩
  obtain ⟨eB,hB⟩:∃e,l2[i]=e:=⟨_,rfl⟩
  obtain ⟨a1,a2,a3,a4,a5,a6⟩:=eA
  obtain ⟨b1,b2,b3,b4,b5,b6⟩:=eB
  have hr1:(l1.map (encTy p1))[((i:Nat):Int).toNat]?=some ((encTy p1) (⟨a1,a2,a3,a4,a5,a6⟩:Ty)):=by simp [hi2,hA]
  have hr2:(l2.map (encTy p2))[((i:Nat):Int).toNat]?=some ((encTy p2) (⟨b1,b2,b3,b4,b5,b6⟩:Ty)):=by simp [hi3,hB]
  rw [hA,hB] at hs
  rw [hA] at hg
  have hneg:sameTy (⟨a1,a2,a3,a4,a5,a6⟩:Ty) (⟨b1,b2,b3,b4,b5,b6⟩:Ty)=false→K (.ret (.d (.bool false))) ⟨[],[],0⟩:=fun he=>by rw [hs,he,Bool.false_and] at h;exact h
  conv=>whnf
  refine ⟨_,by omega,hr1,?_⟩
  conv=>whnf
  refine ⟨_,by omega,hr2,?_⟩
  conv=>whnf
  refine ⟨by omega,p1,(⟨a1,a2,a3,a4,a5,a6⟩:Ty),p2,(⟨b1,b2,b3,b4,b5,b6⟩:Ty),rfl,rfl,⟨by omega,by omega⟩,fun b_1 hb1=>?_⟩
  cases b_1 with
  | false =>
   conv=>whnf
   skip
   exact hneg hb1
  | true =>
   conv=>whnf
   skip
   rw [hb1,Bool.true_and] at hs
   refine Or.inl ⟨InR.i64 (by omega) (by omega),?_⟩
   conv=>whnf
   refine ⟨⟨i+1,rfl,rfl,by omega,hs⟩,?_⟩
   show ((l1.length:Int) - ((i:Int)+1)).toNat<((l1.length:Int) - (i:Int)).toNat
   omega
 ·exact h.elim
noncomputable def tblSRe (n:Nat):Tbl:=[(84,spL2 encFi sameFi n)]
theorem stRe_ok {n:Nat} (ht:TblOK (GG w0 nG) (tblSRe n)):PCalls (GG w0 nG) 41 (spSt encRe sameRe szRe n):=by
 refine pcalls tab_ok mixed (tbl:=(tblSRe n)) ht Tryz.func41 rfl (by kernel_rfl) (by kernel_rfl) ?_
 intro args σ K h
 unfold spSt at h
 split at h
 ·obtain ⟨p1,⟨a1,a2,a3,a4,a5,a6⟩,p2,⟨b1,b2,b3,b4,b5,b6⟩,rfl,rfl,⟨hz,hn⟩,h⟩:=h
  have h:=h _ rfl
  simp only [szRe] at hz
  refine ⟨loopsOf [],0,false,by simp,Nat.le_of_ble_eq_true rfl,?_⟩
  conv=>whnf
  refine CondP.dec (fun hc0=>?_) (fun hc0=>?_)
  rotate_left
  ·rw [show sameRe (⟨a1,a2,a3,a4,a5,a6⟩:Re) (⟨b1,b2,b3,b4,b5,b6⟩:Re)=false by simp [sameRe,hc0]] at h;(conv=>whnf);exact h
  (try dsimp only at hc0)
  conv=>whnf
  refine CondP.dec (fun hc1=>?_) (fun hc1=>?_)
  rotate_left
  ·rw [show sameRe (⟨a1,a2,a3,a4,a5,a6⟩:Re) (⟨b1,b2,b3,b4,b5,b6⟩:Re)=false by simp [sameRe,hc1]] at h;(conv=>whnf);exact h
  (try dsimp only at hc1)
  conv=>whnf
  refine CondP.dec (fun hc2=>?_) (fun hc2=>?_)
  rotate_left
  ·rw [show sameRe (⟨a1,a2,a3,a4,a5,a6⟩:Re) (⟨b1,b2,b3,b4,b5,b6⟩:Re)=false by simp [sameRe,hc2]] at h;(conv=>whnf);exact h
  (try dsimp only at hc2)
  conv=>whnf
  refine CondP.dec (fun hc3=>?_) (fun hc3=>?_)
  rotate_left
  ·rw [show sameRe (⟨a1,a2,a3,a4,a5,a6⟩:Re) (⟨b1,b2,b3,b4,b5,b6⟩:Re)=false by simp [sameRe,hc3]] at h;(conv=>whnf);exact h
  (try dsimp only at hc3)
  conv=>whnf
  refine ⟨a2,b2,rfl,rfl,⟨by omega,by omega⟩,fun b_4 hc4=>?_⟩
  have he:sameRe (⟨a1,a2,a3,a4,a5,a6⟩:Re) (⟨b1,b2,b3,b4,b5,b6⟩:Re)=b_4:=by simp [sameRe,hc0,hc1,hc2,hc3,hc4]
  rw [he] at h
  conv=>whnf
  exact h
 ·exact h.elim
noncomputable def tblERe (n:Nat):Tbl:=[(41,spB (spSt encRe sameRe szRe) n)]
theorem efRe_ok {n:Nat} (ht:TblOK (GG w0 nG) (tblERe n)):PCalls (GG w0 nG) 40 (spEF 41 encRe sameRe szRe n):=by
 refine pcalls tab_ok mixed (tbl:=tblERe n) ht Tryz.func40 rfl (by kernel_rfl) (by kernel_rfl) ?_
 intro args σ K h
 unfold spEF at h
 split at h
 ·obtain ⟨p1,l1,p2,l2,rfl,rfl,⟨rfl,hz,hn⟩,h⟩:=h
  have h:=h _ rfl
  have hlen1:(l1.map (encRe p1)).length=l1.length:=List.length_map ..
  have hlen2:(l2.map (encRe p2)).length=l2.length:=List.length_map ..
  have hsz:=szS_len szRe l1
  refine ⟨loopsOf [(4,⟨[17],[0,1,2,15,16],fun vs σ=>∃i:Nat,vs=[.d (.int .i64 i)]∧σ=⟨[],[],0⟩∧i≤l1.length∧allS sameRe l1 l2=allS sameRe (l1.drop i) (l2.drop i),fun vs _=>match vs with | [.d (.int _ i)]=>((l1.length:Int) - i).toNat | _=>0⟩)],0,false,by simp,Nat.le_of_ble_eq_true rfl,?_⟩
  conv=>whnf
  refine CondP.ndec (fun hc=>?_) (fun hc=>?_)
  ·have hc:l1.length≠l2.length:=fun g=>hc (by show ((l1.map (encRe p1)).length:Int)=(l2.map (encRe p2)).length;rw [hlen1,hlen2,g])
   rw [allS_ne _ _ _ hc] at h
   conv=>whnf
   exact h
  have hc:l1.length=l2.length:=by have hc:((l1.map (encRe p1)).length:Int)=(l2.map (encRe p2)).length:=hc;rw [hlen1,hlen2] at hc;omega
  conv=>whnf
  refine ⟨⟨0,rfl,rfl,by omega,rfl⟩,?_⟩
  intro vs σ hI
  obtain ⟨i,rfl,rfl,hi,hs⟩:=hI
  conv=>whnf
  refine CondP.dec (fun hi2=>?_) (fun hi2=>?_)
  rotate_left
  ·have hi2:l1.length≤i:=by have hi2:¬(i:Int)<(l1.map (encRe p1)).length:=hi2;rw [hlen1] at hi2;omega
   rw [allS_end _ hi2 (by omega)] at hs
   rw [hs] at h
   conv=>whnf
   exact h
  have hi2:i<l1.length:=by have hi2:(i:Int)<(l1.map (encRe p1)).length:=hi2;rw [hlen1] at hi2;omega
  have hi3:i<l2.length:=by omega
  have hg:=szS_get szRe l1 i hi2
  rw [allS_drop _ hi2 hi3] at hs
  obtain ⟨eA,hA⟩:∃e,l1[i]=e:=⟨_,rfl⟩
  obtain ⟨eB,hB⟩:∃e,l2[i]=e:=⟨_,rfl⟩
  obtain ⟨a1,a2,a3,a4,a5,a6⟩:=eA
  obtain ⟨b1,b2,b3,b4,b5,b6⟩:=eB
  have hr1:(l1.map (encRe p1))[((i:Nat):Int).toNat]?=some ((encRe p1) (⟨a1,a2,a3,a4,a5,a6⟩:Re)):=by simp [hi2,hA]
  have hr2:(l2.map (encRe p2))[((i:Nat):Int).toNat]?=some ((encRe p2) (⟨b1,b2,b3,b4,b5,b6⟩:Re)):=by simp [hi3,hB]
  rw [hA,hB] at hs
  rw [hA] at hg
  have hneg:sameRe (⟨a1,a2,a3,a4,a5,a6⟩:Re) (⟨b1,b2,b3,b4,b5,b6⟩:Re)=false→K (.ret (.d (.bool false))) ⟨[],[],0⟩:=fun he=>by rw [hs,he,Bool.false_and] at h;exact h
  conv=>whnf
  refine ⟨_,by omega,hr1,?_⟩
  conv=>whnf
  refine ⟨_,by omega,hr2,?_⟩
  conv=>whnf
  refine ⟨by omega,p1,(⟨a1,a2,a3,a4,a5,a6⟩:Re),p2,(⟨b1,b2,b3,b4,b5,b6⟩:Re),rfl,rfl,⟨by omega,by omega⟩,fun b_1 hb1=>?_⟩
  cases b_1 with
  | false =>
   conv=>whnf
   skip
   exact hneg hb1
  | true =>
   conv=>whnf
   skip
   rw [hb1,Bool.true_and] at hs
   refine Or.inl ⟨InR.i64 (by omega) (by omega),?_⟩
   conv=>whnf
   refine ⟨⟨i+1,rfl,rfl,by omega,hs⟩,?_⟩
   show ((l1.length:Int) - ((i:Int)+1)).toNat<((l1.length:Int) - (i:Int)).toNat
   omega
 ·exact h.elim
noncomputable def tblSIn (n:Nat):Tbl:=[(46,spL2 encBs eqB n)]
theorem stIn_ok {n:Nat} (ht:TblOK (GG w0 nG) (tblSIn n)):PCalls (GG w0 nG) 48 (spSt encIn sameIn szIn n):=by
 refine pcalls tab_ok mixed (tbl:=(tblSIn n)) ht Tryz.func48 rfl (by kernel_rfl) (by kernel_rfl) ?_
 intro args σ K h
 unfold spSt at h
 split at h
 ·obtain ⟨p1,⟨a1,a2,a3,a4⟩,p2,⟨b1,b2,b3,b4⟩,rfl,rfl,⟨hz,hn⟩,h⟩:=h
  have h:=h _ rfl
  simp only [szIn] at hz
  refine ⟨loopsOf [],0,false,by simp,Nat.le_of_ble_eq_true rfl,?_⟩
  conv=>whnf
  refine CondP.dec (fun hc0=>?_) (fun hc0=>?_)
  rotate_left
  ·rw [show sameIn (⟨a1,a2,a3,a4⟩:Ini) (⟨b1,b2,b3,b4⟩:Ini)=false by simp [sameIn,hc0]] at h;(conv=>whnf);exact h
  (try dsimp only at hc0)
  conv=>whnf
  refine CondP.dec (fun hc1=>?_) (fun hc1=>?_)
  rotate_left
  ·rw [show sameIn (⟨a1,a2,a3,a4⟩:Ini) (⟨b1,b2,b3,b4⟩:Ini)=false by simp [sameIn,hc1]] at h;(conv=>whnf);exact h
  (try dsimp only at hc1)
  conv=>whnf
  refine ⟨a3,b3,rfl,rfl,⟨by omega,by omega⟩,fun b_2 hc2=>?_⟩
  have he:sameIn (⟨a1,a2,a3,a4⟩:Ini) (⟨b1,b2,b3,b4⟩:Ini)=b_2:=by simp [sameIn,hc0,hc1,hc2]
  rw [he] at h
  conv=>whnf
  exact h
 ·exact h.elim
noncomputable def tblEIn (n:Nat):Tbl:=[(48,spB (spSt encIn sameIn szIn) n)]
theorem efIn_ok {n:Nat} (ht:TblOK (GG w0 nG) (tblEIn n)):PCalls (GG w0 nG) 47 (spEF 48 encIn sameIn szIn n):=by
 refine pcalls tab_ok mixed (tbl:=tblEIn n) ht Tryz.func47 rfl (by kernel_rfl) (by kernel_rfl) ?_
 intro args σ K h
 unfold spEF at h
 split at h
 ·obtain ⟨p1,l1,p2,l2,rfl,rfl,⟨rfl,hz,hn⟩,h⟩:=h
  have h:=h _ rfl
  have hlen1:(l1.map (encIn p1)).length=l1.length:=List.length_map ..
  have hlen2:(l2.map (encIn p2)).length=l2.length:=List.length_map ..
  have hsz:=szS_len szIn l1
  refine ⟨loopsOf [(4,⟨[17],[0,1,2,15,16],fun vs σ=>∃i:Nat,vs=[.d (.int .i64 i)]∧σ=⟨[],[],0⟩∧i≤l1.length∧allS sameIn l1 l2=allS sameIn (l1.drop i) (l2.drop i),fun vs _=>match vs with | [.d (.int _ i)]=>((l1.length:Int) - i).toNat | _=>0⟩)],0,false,by simp,Nat.le_of_ble_eq_true rfl,?_⟩
  conv=>whnf
  refine CondP.ndec (fun hc=>?_) (fun hc=>?_)
  ·have hc:l1.length≠l2.length:=fun g=>hc (by show ((l1.map (encIn p1)).length:Int)=(l2.map (encIn p2)).length;rw [hlen1,hlen2,g])
   rw [allS_ne _ _ _ hc] at h
   conv=>whnf
   exact h
  have hc:l1.length=l2.length:=by have hc:((l1.map (encIn p1)).length:Int)=(l2.map (encIn p2)).length:=hc;rw [hlen1,hlen2] at hc;omega
  conv=>whnf
  refine ⟨⟨0,rfl,rfl,by omega,rfl⟩,?_⟩
  intro vs σ hI
  obtain ⟨i,rfl,rfl,hi,hs⟩:=hI
  conv=>whnf
  refine CondP.dec (fun hi2=>?_) (fun hi2=>?_)
  rotate_left
  ·have hi2:l1.length≤i:=by have hi2:¬(i:Int)<(l1.map (encIn p1)).length:=hi2;rw [hlen1] at hi2;omega
   rw [allS_end _ hi2 (by omega)] at hs
   rw [hs] at h
   conv=>whnf
   exact h
  have hi2:i<l1.length:=by have hi2:(i:Int)<(l1.map (encIn p1)).length:=hi2;rw [hlen1] at hi2;omega
  have hi3:i<l2.length:=by omega
  have hg:=szS_get szIn l1 i hi2
  rw [allS_drop _ hi2 hi3] at hs
  obtain ⟨eA,hA⟩:∃e,l1[i]=e:=⟨_,rfl⟩
  obtain ⟨eB,hB⟩:∃e,l2[i]=e:=⟨_,rfl⟩
  obtain ⟨a1,a2,a3,a4⟩:=eA
  obtain ⟨b1,b2,b3,b4⟩:=eB
  have hr1:(l1.map (encIn p1))[((i:Nat):Int).toNat]?=some ((encIn p1) (⟨a1,a2,a3,a4⟩:Ini)):=by simp [hi2,hA]
  have hr2:(l2.map (encIn p2))[((i:Nat):Int).toNat]?=some ((encIn p2) (⟨b1,b2,b3,b4⟩:Ini)):=by simp [hi3,hB]
  rw [hA,hB] at hs
  rw [hA] at hg
  have hneg:sameIn (⟨a1,a2,a3,a4⟩:Ini) (⟨b1,b2,b3,b4⟩:Ini)=false→K (.ret (.d (.bool false))) ⟨[],[],0⟩:=fun he=>by rw [hs,he,Bool.false_and] at h;exact h
  conv=>whnf
  refine ⟨_,by omega,hr1,?_⟩
  conv=>whnf
  refine ⟨_,by omega,hr2,?_⟩
  conv=>whnf
  refine ⟨by omega,p1,(⟨a1,a2,a3,a4⟩:Ini),p2,(⟨b1,b2,b3,b4⟩:Ini),rfl,rfl,⟨by omega,by omega⟩,fun b_1 hb1=>?_⟩
  cases b_1 with
  | false =>
   conv=>whnf
   skip
   exact hneg hb1
  | true =>
   conv=>whnf
   skip
   rw [hb1,Bool.true_and] at hs
   refine Or.inl ⟨InR.i64 (by omega) (by omega),?_⟩
   conv=>whnf
   refine ⟨⟨i+1,rfl,rfl,by omega,hs⟩,?_⟩
   show ((l1.length:Int) - ((i:Int)+1)).toNat<((l1.length:Int) - (i:Int)).toNat
   omega
 ·exact h.elim
theorem stOv_ok {n:Nat} :PCalls (GG w0 nG) 50 (spSt encOv sameOv sz0 n):=by
 refine pcalls tab_ok mixed (tbl:=[]) trivial Tryz.func50 rfl (by kernel_rfl) (by kernel_rfl) ?_
 intro args σ K h
 unfold spSt at h
 split at h
 ·obtain ⟨p1,⟨a1,a2⟩,p2,⟨b1,b2⟩,rfl,rfl,⟨hz,hn⟩,h⟩:=h
  have h:=h _ rfl
  refine ⟨loopsOf [],0,false,by simp,Nat.le_of_ble_eq_true rfl,?_⟩
  conv=>whnf
  simp only [sameOv,decide_true,Bool.true_and] at h
  conv=>whnf
  exact h
 ·exact h.elim
noncomputable def tblEOv (n:Nat):Tbl:=[(50,spB (spSt encOv sameOv sz0) n)]
theorem efOv_ok {n:Nat} (ht:TblOK (GG w0 nG) (tblEOv n)):PCalls (GG w0 nG) 49 (spEF 50 encOv sameOv sz0 n):=by
 refine pcalls tab_ok mixed (tbl:=tblEOv n) ht Tryz.func49 rfl (by kernel_rfl) (by kernel_rfl) ?_
 intro args σ K h
 unfold spEF at h
 split at h
 ·obtain ⟨p1,l1,p2,l2,rfl,rfl,⟨rfl,hz,hn⟩,h⟩:=h
  have h:=h _ rfl
  have hlen1:(l1.map (encOv p1)).length=l1.length:=List.length_map ..
  have hlen2:(l2.map (encOv p2)).length=l2.length:=List.length_map ..
  have hsz:=szS_len sz0 l1
  refine ⟨loopsOf [(4,⟨[17],[0,1,2,15,16],fun vs σ=>∃i:Nat,vs=[.d (.int .i64 i)]∧σ=⟨[],[],0⟩∧i≤l1.length∧allS sameOv l1 l2=allS sameOv (l1.drop i) (l2.drop i),fun vs _=>match vs with | [.d (.int _ i)]=>((l1.length:Int) - i).toNat | _=>0⟩)],0,false,by simp,Nat.le_of_ble_eq_true rfl,?_⟩
  conv=>whnf
  refine CondP.ndec (fun hc=>?_) (fun hc=>?_)
  ·have hc:l1.length≠l2.length:=fun g=>hc (by show ((l1.map (encOv p1)).length:Int)=(l2.map (encOv p2)).length;rw [hlen1,hlen2,g])
   rw [allS_ne _ _ _ hc] at h
   conv=>whnf
   exact h
  have hc:l1.length=l2.length:=by have hc:((l1.map (encOv p1)).length:Int)=(l2.map (encOv p2)).length:=hc;rw [hlen1,hlen2] at hc;omega
  conv=>whnf
  refine ⟨⟨0,rfl,rfl,by omega,rfl⟩,?_⟩
  intro vs σ hI
  obtain ⟨i,rfl,rfl,hi,hs⟩:=hI
  conv=>whnf
  refine CondP.dec (fun hi2=>?_) (fun hi2=>?_)
  rotate_left
  ·have hi2:l1.length≤i:=by have hi2:¬(i:Int)<(l1.map (encOv p1)).length:=hi2;rw [hlen1] at hi2;omega
   rw [allS_end _ hi2 (by omega)] at hs
   rw [hs] at h
   conv=>whnf
   exact h
  have hi2:i<l1.length:=by have hi2:(i:Int)<(l1.map (encOv p1)).length:=hi2;rw [hlen1] at hi2;omega
  have hi3:i<l2.length:=by omega
  have hg:=szS_get sz0 l1 i hi2
  rw [allS_drop _ hi2 hi3] at hs
  obtain ⟨eA,hA⟩:∃e,l1[i]=e:=⟨_,rfl⟩
  obtain ⟨eB,hB⟩:∃e,l2[i]=e:=⟨_,rfl⟩
  obtain ⟨a1,a2⟩:=eA
  obtain ⟨b1,b2⟩:=eB
  have hr1:(l1.map (encOv p1))[((i:Nat):Int).toNat]?=some ((encOv p1) (⟨a1,a2⟩:Ov)):=by simp [hi2,hA]
  have hr2:(l2.map (encOv p2))[((i:Nat):Int).toNat]?=some ((encOv p2) (⟨b1,b2⟩:Ov)):=by simp [hi3,hB]
  rw [hA,hB] at hs
  rw [hA] at hg
  have hneg:sameOv (⟨a1,a2⟩:Ov) (⟨b1,b2⟩:Ov)=false→K (.ret (.d (.bool false))) ⟨[],[],0⟩:=fun he=>by rw [hs,he,Bool.false_and] at h;exact h
  conv=>whnf
  refine ⟨_,by omega,hr1,?_⟩
  conv=>whnf
  refine ⟨_,by omega,hr2,?_⟩
  conv=>whnf
  refine ⟨by omega,p1,(⟨a1,a2⟩:Ov),p2,(⟨b1,b2⟩:Ov),rfl,rfl,⟨by omega,by omega⟩,fun b_1 hb1=>?_⟩
  cases b_1 with
  | false =>
   conv=>whnf
   skip
   exact hneg hb1
  | true =>
   conv=>whnf
   skip
   rw [hb1,Bool.true_and] at hs
   refine Or.inl ⟨InR.i64 (by omega) (by omega),?_⟩
   conv=>whnf
   refine ⟨⟨i+1,rfl,rfl,by omega,hs⟩,?_⟩
   show ((l1.length:Int) - ((i:Int)+1)).toNat<((l1.length:Int) - (i:Int)).toNat
   omega
 ·exact h.elim
noncomputable def tblSCo (n:Nat):Tbl:=[(46,spL2 encBs eqB n),(19,spSt encUn sameUn szUn n)]
theorem stCo_ok {n:Nat} (ht:TblOK (GG w0 nG) (tblSCo n)):PCalls (GG w0 nG) 45 (spSt encCo sameCo szCo n):=by
 refine pcalls tab_ok mixed (tbl:=(tblSCo n)) ht Tryz.func45 rfl (by kernel_rfl) (by kernel_rfl) ?_
 intro args σ K h
 unfold spSt at h
 split at h
 ·obtain ⟨p1,⟨a1,a2,a3,a4,⟨u1,u2,u3,u4,u5,u6⟩,a6⟩,p2,⟨b1,b2,b3,b4,⟨v1,v2,v3,v4,v5,v6⟩,b6⟩,rfl,rfl,⟨hz,hn⟩,h⟩:=h
  have h:=h _ rfl
  simp only [szCo] at hz
  refine ⟨loopsOf [],0,false,by simp,Nat.le_of_ble_eq_true rfl,?_⟩
  conv=>whnf
  refine CondP.dec (fun hc0=>?_) (fun hc0=>?_)
  rotate_left
  ·rw [show sameCo (.mk a1 a2 a3 a4 (.mk u1 u2 u3 u4 u5 u6) a6) (.mk b1 b2 b3 b4 (.mk v1 v2 v3 v4 v5 v6) b6)=false by simp [sameCo,hc0]] at h;(conv=>whnf);exact h
  (try dsimp only at hc0)
  conv=>whnf
  refine CondP.dec (fun hc1=>?_) (fun hc1=>?_)
  rotate_left
  ·rw [show sameCo (.mk a1 a2 a3 a4 (.mk u1 u2 u3 u4 u5 u6) a6) (.mk b1 b2 b3 b4 (.mk v1 v2 v3 v4 v5 v6) b6)=false by simp [sameCo,hc1]] at h;(conv=>whnf);exact h
  (try dsimp only at hc1)
  conv=>whnf
  refine ⟨a2,b2,rfl,rfl,⟨by omega,by omega⟩,fun b_2 hc2=>?_⟩
  cases b_2 with
  | false =>
   conv=>whnf
   rw [show sameCo (.mk a1 a2 a3 a4 (.mk u1 u2 u3 u4 u5 u6) a6) (.mk b1 b2 b3 b4 (.mk v1 v2 v3 v4 v5 v6) b6)=false by simp [sameCo,hc2]] at h;exact h
  | true =>
   conv=>whnf
   refine ⟨a4,b4,rfl,rfl,⟨by omega,by omega⟩,fun b_3 hc3=>?_⟩
   cases b_3 with
   | false =>
    conv=>whnf
    rw [show sameCo (.mk a1 a2 a3 a4 (.mk u1 u2 u3 u4 u5 u6) a6) (.mk b1 b2 b3 b4 (.mk v1 v2 v3 v4 v5 v6) b6)=false by simp [sameCo,hc3]] at h;exact h
   | true =>
    conv=>whnf
    refine ⟨p1,(.mk u1 u2 u3 u4 u5 u6),p2,(.mk v1 v2 v3 v4 v5 v6),rfl,rfl,⟨by omega,by omega⟩,fun b_4 hc4=>?_⟩
    have he:sameCo (.mk a1 a2 a3 a4 (.mk u1 u2 u3 u4 u5 u6) a6) (.mk b1 b2 b3 b4 (.mk v1 v2 v3 v4 v5 v6) b6)=b_4:=by simp [sameCo,hc0,hc1,hc2,hc3,hc4]
    rw [he] at h
    conv=>whnf
    exact h
 ·exact h.elim
noncomputable def tblECo (n:Nat):Tbl:=[(45,spB (spSt encCo sameCo szCo) n)]
theorem efCo_ok {n:Nat} (ht:TblOK (GG w0 nG) (tblECo n)):PCalls (GG w0 nG) 44 (spEF 45 encCo sameCo szCo n):=by
 refine pcalls tab_ok mixed (tbl:=tblECo n) ht Tryz.func44 rfl (by kernel_rfl) (by kernel_rfl) ?_
 intro args σ K h
 unfold spEF at h
 split at h
 ·obtain ⟨p1,l1,p2,l2,rfl,rfl,⟨rfl,hz,hn⟩,h⟩:=h
  have h:=h _ rfl
  have hlen1:(l1.map (encCo p1)).length=l1.length:=List.length_map ..
  have hlen2:(l2.map (encCo p2)).length=l2.length:=List.length_map ..
  have hsz:=szS_len szCo l1
  refine ⟨loopsOf [(4,⟨[17],[0,1,2,15,16],fun vs σ=>∃i:Nat,vs=[.d (.int .i64 i)]∧σ=⟨[],[],0⟩∧i≤l1.length∧allS sameCo l1 l2=allS sameCo (l1.drop i) (l2.drop i),fun vs _=>match vs with | [.d (.int _ i)]=>((l1.length:Int) - i).toNat | _=>0⟩)],0,false,by simp,Nat.le_of_ble_eq_true rfl,?_⟩
  conv=>whnf
  refine CondP.ndec (fun hc=>?_) (fun hc=>?_)
  ·have hc:l1.length≠l2.length:=fun g=>hc (by show ((l1.map (encCo p1)).length:Int)=(l2.map (encCo p2)).length;rw [hlen1,hlen2,g])
   rw [allS_ne _ _ _ hc] at h
   conv=>whnf
   exact h
  have hc:l1.length=l2.length:=by have hc:((l1.map (encCo p1)).length:Int)=(l2.map (encCo p2)).length:=hc;rw [hlen1,hlen2] at hc;omega
  conv=>whnf
  refine ⟨⟨0,rfl,rfl,by omega,rfl⟩,?_⟩
  intro vs σ hI
  obtain ⟨i,rfl,rfl,hi,hs⟩:=hI
  conv=>whnf
  refine CondP.dec (fun hi2=>?_) (fun hi2=>?_)
  rotate_left
  ·have hi2:l1.length≤i:=by have hi2:¬(i:Int)<(l1.map (encCo p1)).length:=hi2;rw [hlen1] at hi2;omega
   rw [allS_end _ hi2 (by omega)] at hs
   rw [hs] at h
   conv=>whnf
   exact h
  have hi2:i<l1.length:=by have hi2:(i:Int)<(l1.map (encCo p1)).length:=hi2;rw [hlen1] at hi2;omega
  have hi3:i<l2.length:=by omega
  have hg:=szS_get szCo l1 i hi2
  rw [allS_drop _ hi2 hi3] at hs
  obtain ⟨eA,hA⟩:∃e,l1[i]=e:=⟨_,rfl⟩
  obtain ⟨eB,hB⟩:∃e,l2[i]=e:=⟨_,rfl⟩
  obtain ⟨a1,a2,a3,a4,⟨u1,u2,u3,u4,u5,u6⟩,a6⟩:=eA
  obtain ⟨b1,b2,b3,b4,⟨v1,v2,v3,v4,v5,v6⟩,b6⟩:=eB
  have hr1:(l1.map (encCo p1))[((i:Nat):Int).toNat]?=some (encCo p1 (.mk a1 a2 a3 a4 (.mk u1 u2 u3 u4 u5 u6) a6)):=by simp [hi2,hA]
  have hr2:(l2.map (encCo p2))[((i:Nat):Int).toNat]?=some (encCo p2 (.mk b1 b2 b3 b4 (.mk v1 v2 v3 v4 v5 v6) b6)):=by simp [hi3,hB]
  rw [hA,hB] at hs
  rw [hA] at hg
  have hneg:sameCo (.mk a1 a2 a3 a4 (.mk u1 u2 u3 u4 u5 u6) a6) (.mk b1 b2 b3 b4 (.mk v1 v2 v3 v4 v5 v6) b6)=false→K (.ret (.d (.bool false))) ⟨[],[],0⟩:=fun he=>by rw [hs,he,Bool.false_and] at h;exact h
  conv=>whnf
  refine ⟨_,by omega,hr1,?_⟩
  conv=>whnf
  refine ⟨_,by omega,hr2,?_⟩
  conv=>whnf
  refine ⟨by omega,p1,(.mk a1 a2 a3 a4 (.mk u1 u2 u3 u4 u5 u6) a6),p2,(.mk b1 b2 b3 b4 (.mk v1 v2 v3 v4 v5 v6) b6),rfl,rfl,⟨by omega,by omega⟩,fun b_1 hb1=>?_⟩
  cases b_1 with
  | false =>
   conv=>whnf
   skip
   exact hneg hb1
  | true =>
   conv=>whnf
   skip
   rw [hb1,Bool.true_and] at hs
   refine Or.inl ⟨InR.i64 (by omega) (by omega),?_⟩
   conv=>whnf
   refine ⟨⟨i+1,rfl,rfl,by omega,hs⟩,?_⟩
   show ((l1.length:Int) - ((i:Int)+1)).toNat<((l1.length:Int) - (i:Int)).toNat
   omega
 ·exact h.elim
noncomputable def tblSUn (n:Nat):Tbl:=[(38,spEF 39 encTy sameTy szTy n),(40,spEF 41 encRe sameRe szRe n),(42,spEF 43 encRu sameRu szRu n),(44,spEF 45 encCo sameCo szCo n),(47,spEF 48 encIn sameIn szIn n),(49,spEF 50 encOv sameOv sz0 n)]
theorem stUn_ok {n:Nat} (ht:TblOK (GG w0 nG) (tblSUn n)):PCalls (GG w0 nG) 19 (spSt encUn sameUn szUn n):=by
 refine pcalls tab_ok mixed (tbl:=(tblSUn n)) ht Tryz.func19 rfl (by kernel_rfl) (by kernel_rfl) ?_
 intro args σ K h
 unfold spSt at h
 split at h
 ·obtain ⟨p1,⟨a1,a2,a3,a4,a5,a6⟩,p2,⟨b1,b2,b3,b4,b5,b6⟩,rfl,rfl,⟨hz,hn⟩,h⟩:=h
  have h:=h _ rfl
  simp only [szUn,szCos_eq] at hz
  refine ⟨loopsOf [],0,false,by simp,Nat.le_of_ble_eq_true rfl,?_⟩
  conv=>whnf
  refine ⟨p1,a1,p2,b1,rfl,rfl,⟨rfl,by omega,by omega⟩,fun b_0 hc0=>?_⟩
  cases b_0 with
  | false =>
   conv=>whnf
   rw [show sameUn (.mk a1 a2 a3 a4 a5 a6) (.mk b1 b2 b3 b4 b5 b6)=false by simp [sameUn,sameCos_eq,hc0]] at h;exact h
  | true =>
   conv=>whnf
   refine ⟨p1,a2,p2,b2,rfl,rfl,⟨rfl,by omega,by omega⟩,fun b_1 hc1=>?_⟩
   cases b_1 with
   | false =>
    conv=>whnf
    rw [show sameUn (.mk a1 a2 a3 a4 a5 a6) (.mk b1 b2 b3 b4 b5 b6)=false by simp [sameUn,sameCos_eq,hc1]] at h;exact h
   | true =>
    conv=>whnf
    refine ⟨p1,a3,p2,b3,rfl,rfl,⟨rfl,by omega,by omega⟩,fun b_2 hc2=>?_⟩
    cases b_2 with
    | false =>
     conv=>whnf
     rw [show sameUn (.mk a1 a2 a3 a4 a5 a6) (.mk b1 b2 b3 b4 b5 b6)=false by simp [sameUn,sameCos_eq,hc2]] at h;exact h
    | true =>
     conv=>whnf
     refine ⟨p1,a4,p2,b4,encCos_eq _ _,encCos_eq _ _,⟨rfl,by omega,by omega⟩,fun b_3 hc3=>?_⟩
     cases b_3 with
     | false =>
      conv=>whnf
      rw [show sameUn (.mk a1 a2 a3 a4 a5 a6) (.mk b1 b2 b3 b4 b5 b6)=false by simp [sameUn,sameCos_eq,hc3]] at h;exact h
     | true =>
      conv=>whnf
      refine ⟨p1,a5,p2,b5,rfl,rfl,⟨rfl,by omega,by omega⟩,fun b_4 hc4=>?_⟩
      cases b_4 with
      | false =>
       conv=>whnf
       rw [show sameUn (.mk a1 a2 a3 a4 a5 a6) (.mk b1 b2 b3 b4 b5 b6)=false by simp [sameUn,sameCos_eq,hc4]] at h;exact h
      | true =>
       conv=>whnf
       refine ⟨p1,a6,p2,b6,rfl,rfl,⟨rfl,by omega,by omega⟩,fun b_5 hc5=>?_⟩
       have he:sameUn (.mk a1 a2 a3 a4 a5 a6) (.mk b1 b2 b3 b4 b5 b6)=b_5:=by simp [sameUn,sameCos_eq,hc0,hc1,hc2,hc3,hc4,hc5]
       rw [he] at h
       conv=>whnf
       exact h
 ·exact h.elim
theorem cSameTab (n:Nat) (h:PCalls (GG w0 nG) 44 (spEF 45 encCo sameCo szCo n)):TblOK (GG w0 nG) (tblSUn n):=by
 have hF:TblOK (GG w0 nG) [(84,spL2 encFi sameFi n)]:=⟨⟨eqFi_ok,spL2_mono _ _ _⟩,trivial⟩
 have hS:TblOK (GG w0 nG) [(46,spL2 encBs eqB n)]:=⟨⟨eqBs_ok,spL2_mono _ _ _⟩,trivial⟩
 have lt:∀{g:FuncId} {sp:Nat→Spec},Enters (GG w0 nG).P g→(∀n,SpecMono (sp n))→(∀n,PCalls (GG w0 nG) g (sp n))→PCalls (GG w0 nG) g (spB sp n)∧SpecMono (spB sp n):=fun {g sp} he hm hp=>⟨by
  cases n with
  | zero=>exact pcalls_none he
  | succ n=>exact pcalls_less (hp n),spB_mono hm _⟩
 have hCa:∀n,PCalls (GG w0 nG) 85 (spEF 86 (fun _=>encCa) sameCa szCa n):=fun n=>efCa_ok ⟨by
  have hF:∀n,TblOK (GG w0 nG) [(84,spL2 encFi sameFi n)]:=fun n=>⟨⟨eqFi_ok,spL2_mono _ _ _⟩,trivial⟩
  cases n with
  | zero=>exact ⟨pcalls_none (enters_of Tryz.func86 (by kernel_rfl) rfl),spB_mono (spSt_mono _ _ _) _⟩
  | succ n=>exact ⟨pcalls_less (sp:=spSt (fun _=>encCa) sameCa szCa) (stCa_ok (hF n)),spB_mono (spSt_mono _ _ _) _⟩,trivial⟩
 refine ⟨⟨efTy_ok ⟨lt (enters_of Tryz.func39 (by kernel_rfl) rfl) (spSt_mono _ _ _) fun n=>stTy_ok ⟨⟨eqFi_ok,spL2_mono _ _ _⟩,⟨hCa n,spEF_mono _ _ _ _ _⟩,trivial⟩,trivial⟩,spEF_mono _ _ _ _ _⟩,
  ⟨efRe_ok ⟨lt (enters_of Tryz.func41 (by kernel_rfl) rfl) (spSt_mono _ _ _) fun n=>stRe_ok ⟨⟨eqFi_ok,spL2_mono _ _ _⟩,trivial⟩,trivial⟩,spEF_mono _ _ _ _ _⟩,
  ⟨efRu_ok ⟨lt (enters_of Tryz.func43 (by kernel_rfl) rfl) (spSt_mono _ _ _) fun n=>stRu_ok ⟨⟨(cEfE n).1,spEF_mono _ _ _ _ _⟩,⟨(cEfL n).1,spEF_mono _ _ _ _ _⟩,trivial⟩,trivial⟩,spEF_mono _ _ _ _ _⟩,
  ⟨h,spEF_mono _ _ _ _ _⟩,
  ⟨efIn_ok ⟨lt (enters_of Tryz.func48 (by kernel_rfl) rfl) (spSt_mono _ _ _) fun n=>stIn_ok ⟨⟨eqBs_ok,spL2_mono _ _ _⟩,trivial⟩,trivial⟩,spEF_mono _ _ _ _ _⟩,
  ⟨efOv_ok ⟨lt (enters_of Tryz.func50 (by kernel_rfl) rfl) (spSt_mono _ _ _) fun n=>stOv_ok,trivial⟩,spEF_mono _ _ _ _ _⟩,trivial⟩
theorem cSameU:∀n,PCalls (GG w0 nG) 19 (spSt encUn sameUn szUn n)
 | 0=>stUn_ok (cSameTab 0 (efCo_ok ⟨⟨pcalls_none (enters_of Tryz.func45 (by kernel_rfl) rfl),spB_mono (spSt_mono _ _ _) _⟩,trivial⟩))
 | n+1=>stUn_ok (cSameTab _ (efCo_ok ⟨⟨pcalls_less (sp:=spSt encCo sameCo szCo) (stCo_ok ⟨⟨eqBs_ok,spL2_mono _ _ _⟩,⟨cSameU n,spSt_mono _ _ _ _⟩,trivial⟩),spB_mono (spSt_mono _ _ _) _⟩,trivial⟩))
end Go.PM.Lex
end

section
set_option maxRecDepth 100000
namespace Go.PM.Lex
end Go.PM.Lex
end

section
set_option maxRecDepth 100000
namespace Go.PM.Lex
abbrev ws:Bs:=[32,9,13,10]
end Go.PM.Lex
end

section
set_option maxRecDepth 100000
namespace Go.PM.Lex
end Go.PM.Lex
end

section
set_option maxRecDepth 100000
namespace Go.PM.Lex
def unesc (c:Nat):Option UInt8:=if c=10 then some 110 else if c=9 then some 116 else if c=34 then some 34 else if c=92 then some 92 else none
def quoGo:Nat→Bs→Bs→Option Bs
 | 0,_,_=>none
 | f+1,r,out=>if r=[] then some out else match unesc (Lib.decodeL r).1 with
  | some b=>quoGo f (r.drop (Lib.decodeL r).2) (out++[92,b])
  | none=>if (Lib.decodeL r).1<32 then none else quoGo f (r.drop (Lib.decodeL r).2) (out++Lib.encodeRune (Lib.decodeL r).1)
def quoteF (s:Bs):Option Bs:=if Lib.validD s=true then (quoGo (s.length+1) s [34]).map (·++[34]) else none
end Go.PM.Lex
end

section
set_option maxRecDepth 100000
set_option maxHeartbeats 8000000
namespace Go.PM.Lex
open Go.Proofs
variable {w0:World} {nG:Nat}
end Go.PM.Lex
end

section
set_option maxRecDepth 100000
set_option maxHeartbeats 8000000
namespace Go.PM.Lex
open Go.Proofs
variable {w0:World} {nG:Nat}
end Go.PM.Lex
end

section
set_option maxRecDepth 100000
namespace Go.PM.Lex
open Go.Proofs
variable {w0:World} {nG:Nat}
noncomputable def spValid:Spec:=fun args σ K=>match args with
 | [.d (.str s)]=>s.length≤9223372036854775807∧K (.ret (.d (.bool (Lib.validD s)))) σ
 | _=>False
theorem spValid_mono:SpecMono spValid:=fun args σ K K' hK h=>by
 unfold spValid at h ⊢;split at h <;> first | exact ⟨h.1,hK _ _ h.2⟩ | exact h.elim
theorem valid_ok (h1:1<nG) (hT:Lib.Utf8Tabs 0 1 w0):PCalls (GG w0 nG) 149 spValid:=pcalls_lib (enters_of Tryz.func149 (by kernel_rfl) rfl) fun args σ K h e w vs hS ha=>by
 unfold spValid at h
 split at h
 ·rename_i s
  obtain ⟨u,rfl,hu⟩:=args1 ha
  cases hu.dstr
  have hT':Lib.Utf8Tabs 0 1 w:=by
   have g0:=hS.glob 0 (show 0<nG by omega)
   have g1:=hS.glob 1 h1
   obtain ⟨a,b⟩:=hT
   refine ⟨fun c hc=>?_,fun i hi=>?_⟩
   ·have:=a c hc
    simpa [World.cell?,g0] using this
   ·have:=b i hi
    simpa [World.cell?,g1] using this
  exact ⟨_,h.2,_,fun _ _=>.mkbool,(Any.utf8_ValidString Tryz.laysValid ⟨s.toArray⟩ w (show s.toArray.size≤_ by simpa using h.1) hT').mono fun en w' ⟨h1,h2⟩=>⟨h1,Grows.of_below h2⟩⟩
 ·exact h.elim
end Go.PM.Lex
end

section
set_option maxRecDepth 100000
set_option maxHeartbeats 8000000
namespace Go.PM.Lex
open Go.Proofs
variable {w0:World} {nG:Nat}
theorem une_none {n:Nat} (h:unesc n=none):idxR [10,9,34,92] n=-1:=by
 unfold unesc at h
 split at h;· cases h
 split at h;· cases h
 split at h;· cases h
 split at h;· cases h
 rename_i h1 h2 h3 h4
 unfold idxR
 split
 ·rename_i h5
  have hc:([10,9,34,92]:Bs).contains ((n:Int).toNat.toUInt8)=false:=by
   have b1:=byte_ne (n:=n) (k:=10) (by omega) (by omega) h1
   have b2:=byte_ne (n:=n) (k:=9) (by omega) (by omega) h2
   have b3:=byte_ne (n:=n) (k:=34) (by omega) (by omega) h3
   have b4:=byte_ne (n:=n) (k:=92) (by omega) (by omega) h4
   simp only [List.contains_cons,List.contains_nil,Bool.or_false,Bool.or_eq_false_iff,beq_eq_false_iff_ne]
   exact ⟨b1,b2,b3,b4⟩
  rw [Lib.contains_iff_indexByte,decide_eq_false_iff_not] at hc
  have:=Lib.indexByte_ge [10,9,34,92] ((n:Int).toNat.toUInt8)
  omega
 ·rfl
theorem une_some {n:Nat} {b:UInt8} (h:unesc n=some b):(idxR [10,9,34,92] n=0∧b=110)∨(idxR [10,9,34,92] n=1∧b=116)∨(idxR [10,9,34,92] n=2∧b=34)∨(idxR [10,9,34,92] n=3∧b=92):=by
 unfold unesc at h
 split at h;· cases h;rename_i h;subst h;exact .inl ⟨by decide,rfl⟩
 split at h;· cases h;rename_i h;subst h;exact .inr (.inl ⟨by decide,rfl⟩)
 split at h;· cases h;rename_i h;subst h;exact .inr (.inr (.inl ⟨by decide,rfl⟩))
 split at h;· cases h;rename_i h;subst h;exact .inr (.inr (.inr ⟨by decide,rfl⟩))
 cases h
noncomputable def spQuote:Spec:=fun args σ K=>match args,σ with
 | [.d (.str s)],⟨[],[],0⟩=>s.length<4294967281∧(quoteF s=none→K (.ret (.tuple [.d (.str []),.d (.bool false)])) ⟨[],[],0⟩)∧(∀q,quoteF s=some q→K (.ret (.tuple [.d (.str q),.d (.bool true)])) ⟨[],[],0⟩)
 | _,_=>False
theorem spQuote_mono:SpecMono spQuote:=fun args σ K K' hK h=>by
 unfold spQuote at h ⊢
 split at h
 ·exact ⟨h.1,fun g=>hK _ _ (h.2.1 g),fun q g=>hK _ _ (h.2.2 q g)⟩
 ·exact h.elim
def muI1 (B:Nat):List PV→St→Nat:=fun _ σ=>match σ.bx with | [_,.iter _ p]=>B - p | _=>0
noncomputable def tblQuote:Tbl:=[(149,spValid),(150,spWriteByte),(151,spIndexRune),(152,spWriteRune),(31,spString)]
theorem quote_ok (ht:TblOK (GG w0 nG) tblQuote):PCalls (GG w0 nG) 73 spQuote:=by
 refine pcalls tab_ok mixed ht Tryz.func73 rfl (by kernel_rfl) (by kernel_rfl) ?_
 intro args σ K h
 unfold spQuote at h
 split at h
 ·rename_i s
  obtain ⟨hs,hbad,hgood⟩:=h
  refine ⟨loopsOf [(6,⟨[],[4,13],fun vs σ=>vs=[]∧∃(out:Bs) (i f:Nat),σ=⟨[.cells 82 [.ptr 0 0,.sl 0 5 (bytesR out)],.iter s i],[0],1⟩∧(i≤s.length∧s.length<i+f∧out.length≤4 * i+1)∧quoGo f (s.drop i) out=quoGo (s.length+1) s [34],muI1 s.length⟩)],0,false,by simp,Nat.le_of_ble_eq_true rfl,?_⟩
  conv=>whnf
  refine ⟨by omega,?_⟩
  conv=>whnf
  refine CondP.intro (fun h1=>?_) (fun h1=>?_)
  ·have hv:Lib.validD s=false:=by simpa using h1
   conv=>whnf
   exact hbad (by unfold quoteF;rw [if_neg (by rw [hv];simp)])
  ·have hv:Lib.validD s=true:=by simpa using h1
   have hq:quoteF s=(quoGo (s.length+1) s [34]).map (·++[34]):=by unfold quoteF;rw [if_pos hv]
   conv=>whnf
   refine ⟨⟨.inl rfl,rfl,rfl,by simp,by simp⟩,?_⟩
   conv=>whnf
   refine ⟨⟨rfl,[34],0,s.length+1,rfl,⟨by omega,by omega,by simp⟩,by rw [List.drop_zero]⟩,?_⟩
   intro vs σ1 hI
   obtain ⟨rfl,out,i,f,rfl,⟨hi1,hi2,hol⟩,hgo⟩:=hI
   obtain ⟨f,rfl⟩:∃g,f=g+1:=⟨f - 1,by omega⟩
   have hb1:=bytesR_one out
   have hbl:=bytesR_len out
   have hdec:=dec_eq s i
   have hdr:=dec_rng (s.drop i)
   have hdl:=Lib.decodeL_le (s.drop i)
   rw [List.length_drop] at hdl
   conv=>whnf
   refine CondP.dec (fun h2=>?_) (fun h2=>?_)
   ·have hne:s.drop i≠[]:=fun g=>by have:=congrArg List.length g;rw [List.length_drop] at this;simp at this;omega
    have g3:i+(decodeL s i).2≤s.length:=by rw [hdec];have:=hdl hne;omega
    have hdr':1≤(decodeL s i).2:=by rw [hdec];omega
    conv=>whnf
    refine ⟨⟨.inr rfl,by omega,by rw [hdec];omega⟩,?_⟩
    conv=>whnf
    generalize hk:idxR _ _=k
    have hk':idxR [10,9,34,92] ((Lib.decodeL (s.drop i)).1:Int)=k:=by rw [← hdec];exact hk
    cases hE:unesc (Lib.decodeL (s.drop i)).1 with
    | some b =>
     have g1:quoGo f (s.drop (i+(decodeL s i).2)) (out++[92,b])=quoGo (s.length+1) s [34]:=by rw [← hgo,hdec];simp [quoGo,hne,hE,List.drop_drop]
     rcases une_some hE with ⟨e1,rfl⟩ | ⟨e1,rfl⟩ | ⟨e1,rfl⟩ | ⟨e1,rfl⟩
     all_goals (rw [e1] at hk';subst hk')
     all_goals (conv=>whnf)
     all_goals (refine ⟨⟨.inr rfl,rfl,rfl,hb1,by omega⟩,?_⟩)
     all_goals (conv=>whnf)
     all_goals (refine ⟨by omega,by first | omega | (simp;done) | (simp;omega),?_⟩)
     all_goals (conv=>whnf)
     all_goals (refine ⟨⟨.inr rfl,rfl,rfl,fun r hr=>by (rcases List.mem_append.1 hr with hr | hr;exact hb1 r hr;simp at hr;subst hr;rfl),by rw [List.length_append];simp;omega⟩,?_⟩)
     all_goals (conv=>whnf)
     all_goals (refine ⟨⟨rfl,_,_,f,?_,⟨g3,by omega,?_⟩,g1⟩,?_⟩)
     all_goals (first | (rw [bytesR_app,List.append_assoc];rfl) | (rw [List.length_append];simp;omega) | exact (show s.length - (i+(decodeL s i).2)<s.length - i by omega))
    | none =>
     rw [une_none hE] at hk'
     subst hk'
     conv=>whnf
     refine CondP.dec (fun h5=>?_) (fun h5=>?_)
     ·have h5':(Lib.decodeL (s.drop i)).1<32:=by rw [hdec] at h5;omega
      conv=>whnf
      refine hbad ?_
      rw [hq,← hgo]
      simp [quoGo,hne,hE,h5']
     ·have h5':¬(Lib.decodeL (s.drop i)).1<32:=by rw [hdec] at h5;omega
      have g1:quoGo f (s.drop (i+(decodeL s i).2)) (out++Lib.encodeRune ((decodeL s i).1:Int))=quoGo (s.length+1) s [34]:=by rw [← hgo,hdec];simp [quoGo,hne,hE,h5',List.drop_drop]
      have hen:=enc_len ((decodeL s i).1:Int)
      conv=>whnf
      refine ⟨⟨.inr rfl,rfl,rfl,hb1,by omega,by omega,by rw [hdec];omega⟩,?_⟩
      conv=>whnf
      refine ⟨⟨rfl,_,_,f,?_,⟨g3,by omega,?_⟩,g1⟩,?_⟩
      ·rw [bytesR_app];rfl
      ·rw [List.length_append];omega
      ·exact (show s.length - (i+(decodeL s i).2)<s.length - i by omega)
   ·have hnil:s.drop i=[]:=List.drop_eq_nil_of_le (by omega)
    have g1:quoGo (s.length+1) s [34]=some out:=by rw [← hgo];simp [quoGo,hnil]
    conv=>whnf
    refine ⟨⟨.inr rfl,rfl,rfl,hb1,by omega⟩,?_⟩
    conv=>whnf
    refine ⟨out++[34],⟨by rw [bytesR_snoc];rfl,rfl,rfl,.inr rfl,by rw [List.length_append];simp;omega⟩,?_⟩
    conv=>whnf
    exact hgood _ (by rw [hq,g1];rfl)
 ·exact h.elim
end Go.PM.Lex
end

section
set_option maxRecDepth 100000
set_option maxHeartbeats 8000000
namespace Go.PM.Lex
open Go.Proofs
variable {w0:World} {nG:Nat}
end Go.PM.Lex
end

section
set_option maxRecDepth 100000
set_option maxHeartbeats 8000000
namespace Go.PM.Lex
open Go.Proofs
variable {w0:World} {nG:Nat}
def nameB (s:Bs):Bool:=isLetter (pk s).1 && decide (nameF s=s.length)
noncomputable def spNameB:Spec:=fun args σ K=>match args,σ with
 | [.d (.str s)],⟨[],[],0⟩=>s.length<4294967281∧K (.ret (.d (.bool (nameB s)))) ⟨[],[],0⟩
 | _,_=>False
theorem spNameB_mono:SpecMono spNameB:=fun args σ K K' hK h=>by
 unfold spNameB at h ⊢;split at h <;> first | exact ⟨h.1,hK _ _ h.2⟩ | exact h.elim
noncomputable def tblNm:Tbl:=[(209,spPeek),(210,spLetter),(211,spName)]
theorem nm_ok (ht:TblOK (GG w0 nG) tblNm):PCalls (GG w0 nG) 147 spNameB:=by
 refine pcalls tab_ok mixed ht Tryz.func147 rfl (by kernel_rfl) (by kernel_rfl) ?_
 intro args σ K h
 unfold spNameB at h
 split at h
 ·rename_i s
  obtain ⟨hs,h⟩:=h
  refine ⟨loopsOf [],0,false,by decide,Nat.le_of_ble_eq_true rfl,?_⟩
  have hpr:=pk_rng (s.drop (Int.toNat 0))
  have hd:s.drop (Int.toNat 0)=s:=List.drop_zero
  conv=>whnf
  refine ⟨⟨by omega,by omega⟩,?_⟩
  conv=>whnf
  refine ⟨⟨hpr.1,by omega⟩,?_⟩
  conv=>whnf
  refine CondP.intro (fun h1=>?_) (fun h1=>?_)
  ·have h1':isLetter (pk s).1=true:=by rw [← hd];exact h1
   conv=>whnf
   refine ⟨⟨by omega,by omega,hs⟩,?_⟩
   conv=>whnf
   refine K_bool h ?_
   rw [nameB,h1',Bool.true_and,decide_eq_decide,hd]
   omega
  ·have h1':isLetter (pk s).1=false:=by rw [← hd];exact h1
   conv=>whnf
   rw [nameB,h1'] at h
   exact h
 ·exact h.elim
end Go.PM.Lex
end

section
namespace Go.PM.Lex
def namB (s:Bs):Bool:=nameB s && (!decide (s=[95]) && !keptF s)
def lineF (op:Nat):Nat:=if op=16 then 0 else if op=17 then 0 else if op=15 then 1 else if op=18 then 2 else if op=19 then 2 else if op=10 then 3 else if op=11 then 3 else if op=12 then 4 else if op=13 then 4 else if op=14 then 4
 else if op=8 then 5 else if op=9 then 5 else if op=20 then 6 else if op=21 then 6 else if op=22 then 6 else if op=23 then 6 else if op=24 then 6 else if op=25 then 6 else if op=6∨op=7 then 6 else if op=1∨op=2∨op=3∨op=4∨op=5 then 6 else 0
def wordF (op:Nat):Bs:=if op=16 then [98,111,114] else if op=17 then [98,120,111,114] else if op=15 then [98,97,110,100] else if op=18 then [115,104,108] else if op=19 then [115,104,114] else if op=10 then [43] else if op=11 then [45] else if op=12 then [42] else if op=13 then [47] else if op=14 then [37]
 else if op=8 then [45] else if op=9 then [126] else if op=20 then [99,97,116] else if op=21 then [115,116,114,108,101,110] else if op=22 then [115,117,98,115,116,114] else if op=23 then [99,111,100,101] else if op=24 then [115,116,114] else if op=25 then [110,117,109] else []
def argsN (op:Nat):Int:=if op=16 then 2 else if op=17 then 2 else if op=15 then 2 else if op=18 then 2 else if op=19 then 2 else if op=10 then 2 else if op=11 then 2 else if op=12 then 2 else if op=13 then 2 else if op=14 then 2
 else if op=8 then 1 else if op=9 then 1 else if op=20 then 2 else if op=21 then 1 else if op=22 then 3 else if op=23 then 1 else if op=24 then 1 else if op=25 then 1 else if op=6∨op=7 then -1 else if op=1∨op=2∨op=3∨op=4∨op=5 then 0 else -2
def textB (op:Nat) (text:Bs):Bool:=if op=1∨op=7 then namB text else if op=4 then (quoteF text).isSome else decide (text=[])
mutual
def mayE:Ex→Bool
 | .mk op text n args _=>decide (-2<argsN op) && ((decide (argsN op<0) || decide ((args.length:Int)=argsN op)) && ((decide (n=0) || decide (op=3)) && (textB op text && mayEs args)))
def mayEs:List Ex→Bool
 | []=>true
 | e::l=>mayE e && mayEs l
end
theorem mayEs_eq (l:List Ex):mayEs l=l.all mayE:=by induction l with | nil=>rfl | cons x l ih=>simp [mayEs,ih]
def litB (op:Nat) (rel:Bs) (args body:Nat):Bool :=
 if op=1∨op=2 then namB rel && !decide (0<body)
 else if 3≤op∧op≤8 then decide (rel=[]) && (decide (args=2) && !decide (0<body))
 else if op=9 then decide (rel=[]) && (decide (args=1) && decide (0<body))
 else if 9<op∧op≤12 then decide (rel=[]) && (decide (args=2) && decide (0<body)) else false
mutual
def mayL:Li→Bool
 | .mk op rel args body _=>litB op rel args.length body.length && (mayEs args && mayLs body)
def mayLs:List Li→Bool
 | []=>true
 | e::l=>mayL e && mayLs l
end
def mayRu (r:Ru):Bool:=namB r.head && (r.args.all mayE && r.body.all mayL)
def mayFi (f:Fi):Bool:=namB f.name && namB f.typ
def mayCa (c:Ca):Bool:=namB c.name && c.fields.all mayFi
def typB (t:Ty):Bool:=if t.kind=1 then namB t.base && (decide (t.fields.length=0) && decide (t.cases.length=0)) else if t.kind=2 then decide (t.base=[]) && decide (t.cases.length=0)
 else if t.kind=3 then decide (t.base=[]) && (decide (t.fields.length=0) && !decide (t.cases.length=0)) else false
def mayTy (t:Ty):Bool:=typB t && (namB t.name && (t.fields.all mayFi && t.cases.all mayCa))
def mayRe (d:Re):Bool:=namB d.name && d.fields.all mayFi
def mayIn (i:Ini):Bool:=namB i.name && (namB i.comp && i.types.all namB)
def mayOv (o:Ov):Bool:=namB o.rel
mutual
def mayU:Un→Bool
 | .mk tys rels rules comps inits overs=>tys.all mayTy && (rels.all mayRe && (rules.all mayRu && (mayCos comps && (inits.all mayIn && overs.all mayOv))))
def mayCo:Co→Bool
 | .mk nm ps base tys u _=>namB nm && (ps.all namB && (tys.all namB && (((decide (base=[]) && decide (tys.length=0)) || namB base) && mayU u)))
def mayCos:List Co→Bool
 | []=>true
 | c::l=>mayCo c && mayCos l
end
def digC (d:Nat):UInt8:=if d<10 then UInt8.ofNat (48+d) else UInt8.ofNat (87+d)
def numGo (base:Nat):Nat→Nat→Bs
 | 0,_=>[]
 | f+1,n=>if n<base then [digC n] else numGo base f (n / base)++[digC (n % base)]
def baseT (base n:Nat):Bs:=numGo base (n+1) n
def numT (n:Int):Bs:=if n<0 then [48,120]++baseT 16 (n+18446744073709551616).toNat else baseT 10 n.toNat
def quoT (s:Bs):Bs:=(quoteF s).getD []
def commas (sep:Bs):List Bs→Bs
 | []=>[]
 | [x]=>x
 | x::l=>x++(sep++commas sep l)
def cmm:Bs:=[44,32]
def opE:Ex→Nat | .mk op _ _ _ _=>op
def parP (want:Nat) (p:Nat×Bs):Bs:=if p.1<want then [40]++(p.2++[41]) else p.2
def exA (w1 w2:Nat) (sep:Bs):List (Nat×Bs)→Bs
 | []=>[]
 | [a]=>parP w1 a
 | a::b::_=>parP w1 a++(sep++parP w2 b)
def exN (op:Nat) (text:Bs) (n:Int) (ps:List (Nat×Bs)):Bs :=
 if lineF op<5 then exA (lineF op) (lineF op+1) ([32]++(wordF op++[32])) ps
 else if lineF op=5 then wordF op++exA 5 5 [] ps
 else if wordF op≠[] then wordF op++([40]++(commas cmm (ps.map Prod.snd)++[41]))
 else if op=6 then [91]++(commas cmm (ps.map Prod.snd)++[93])
 else if op=7 then [36]++(text++(if ps.length=0 then [] else [40]++(commas cmm (ps.map Prod.snd)++[41])))
 else if op=3 then numT n
 else if op=4 then quoT text
 else if op=5 then [110,105,108]
 else if op=2 then [95]
 else text
mutual
def exT:Ex→Bs
 | .mk op text n args _=>exN op text n (exPs args)
def exPs:List Ex→List (Nat×Bs)
 | []=>[]
 | e::l=>(lineF (opE e),exT e)::exPs l
end
theorem exPs_eq (l:List Ex):exPs l=l.map fun e=>(lineF (opE e),exT e):=by induction l with | nil=>rfl | cons x l ih=>simp [exPs,ih]
theorem exPs_len (l:List Ex):(exPs l).length=l.length:=by rw [exPs_eq,List.length_map]
def exW (want:Nat) (e:Ex):Bs:=parP want (lineF (opE e),exT e)
def exTs (l:List Ex):List Bs:=l.map exT
theorem exPs_snd (l:List Ex):(exPs l).map Prod.snd=exTs l:=by rw [exPs_eq,List.map_map];rfl
def argT (fr fin:Bs) (l:List Ex):Bs:=fr++(commas cmm (exTs l)++fin)
def relSg (op:Nat):Bs:=if op=3 then [32,61,32] else if op=4 then [32,33,61,32] else if op=5 then [32,60,32] else if op=6 then [32,60,61,32] else if op=7 then [32,62,32] else [32,62,61,32]
def aggSg (op:Nat):Bs:=if op=9 then [99,111,117,110,116] else if op=10 then [115,117,109] else if op=11 then [109,105,110] else [109,97,120]
def aggT (l:List Ex):Bs:=(l.map fun e=>[32]++exT e).flatten
def fstT:List Ex→Bs
 | []=>[]
 | e::_=>exT e
mutual
def liT:Li→Bs
 | .mk op rel args body _ =>
  if op=2 then [33]++(rel++argT [40] [41] args)
  else if op=1 then rel++argT [40] [41] args
  else if op≤8 then fstT args++(relSg op++fstT args.tail)
  else fstT args++([32,61,32]++(aggSg op++(aggT args.tail++([32,58,32,123,32]++(commas cmm (liTs body)++[32,125])))))
def liTs:List Li→List Bs
 | []=>[]
 | e::l=>liT e::liTs l
end
def ruT (r:Ru):Bs:=r.head++(argT [40] [41] r.args++((if 0<r.body.length then [32,58,45,32]++commas cmm (liTs r.body) else [])++[46]))
def fiT (f:Fi):Bs:=f.name++([58,32]++f.typ)
def fisT (fr:Bs) (l:List Fi) (fin:Bs):Bs:=fr++(commas cmm (l.map fiT)++fin)
def angT (l:List Bs):Bs:=if l.length=0 then [] else [60]++(commas cmm l++[62])
def caT (c:Ca):Bs:=fisT (c.name++[32,123]) c.fields [125]
def tyT (t:Ty):Bs:=[116,121,112,101,32]++(t.name++((if t.kind=1 then [32,60,58,32]++t.base else if t.kind=2 then fisT [32,61,32,91] t.fields [93] else [32,61,32]++commas [32,124,32] (t.cases.map caT))++[10]))
def reT (d:Re):Bs:=fisT ([100,101,99,108,32]++(d.name++[40])) d.fields [41]++((if d.inn then [32,105,110,112,117,116] else [])++((if d.out then [32,111,117,116,112,117,116] else [])++((if d.inl then [32,105,110,108,105,110,101] else [])++[10])))
def inT (i:Ini):Bs:=[105,110,105,116,32]++(i.name++([32,61,32]++(i.comp++(angT i.types++[10]))))
def ovT (o:Ov):Bs:=[111,118,101,114,114,105,100,101,32]++(o.rel++[10])
mutual
def unT:Un→Bs
 | .mk tys rels rules comps inits overs=>(tys.map tyT).flatten++((rels.map reT).flatten++((coTs comps).flatten++((inits.map inT).flatten++((overs.map ovT).flatten++(rules.map fun r=>ruT r++[10]).flatten))))
def coT:Co→Bs
 | .mk nm ps base tys u _=>[99,111,109,112,32]++(nm++(angT ps++((if base=[] then [] else [32,58,32]++(base++angT tys))++([32,123,10]++(unT u++[125,10])))))
def coTs:List Co→List Bs
 | []=>[]
 | c::l=>coT c::coTs l
end
end Go.PM.Lex
end

section
set_option maxRecDepth 100000
set_option maxHeartbeats 4000000
namespace Go.PM.Lex
open Go.Proofs
variable {w0:World} {nG:Nat}
mutual
def wE:Ex→Nat
 | .mk _ t _ args _=>1+t.length+wEs args
def wEs:List Ex→Nat
 | []=>0
 | x::l=>1+wE x+wEs l
end
theorem wEs_eq:∀(l:List Ex),wEs l=szS wE l
 | []=>by rw [wEs,szS]
 | x::l=>by rw [wEs,szS,wEs_eq l]
mutual
def wL:Li→Nat
 | .mk _ r a b _=>1+r.length+szS wE a+wLs b
def wLs:List Li→Nat
 | []=>0
 | x::l=>1+wL x+wLs l
end
theorem wLs_eq:∀(l:List Li),wLs l=szS wL l
 | []=>by rw [wLs,szS]
 | x::l=>by rw [wLs,szS,wLs_eq l]
def wRu (r:Ru):Nat:=1+r.head.length+szS wE r.args+szS wL r.body
def wFi (f:Fi):Nat:=1+f.name.length+f.typ.length
def wCa (c:Ca):Nat:=1+c.name.length+szS wFi c.fields
def wTy (t:Ty):Nat:=1+t.name.length+t.base.length+szS wFi t.fields+szS wCa t.cases
def wRe (d:Re):Nat:=1+d.name.length+szS wFi d.fields
def wBs (s:Bs):Nat:=1+s.length
def wIn (i:Ini):Nat:=1+i.name.length+i.comp.length+szS wBs i.types
def wOv (o:Ov):Nat:=1+o.rel.length
mutual
def wUn:Un→Nat
 | .mk a1 a2 a3 a4 a5 a6=>1+szS wTy a1+szS wRe a2+szS wRu a3+wCos a4+szS wIn a5+szS wOv a6
def wCo:Co→Nat
 | .mk n p b t u _=>1+n.length+szS wBs p+b.length+szS wBs t+wUn u
def wCos:List Co→Nat
 | []=>0
 | x::l=>1+wCo x+wCos l
end
theorem wCos_eq:∀(l:List Co),wCos l=szS wCo l
 | []=>by rw [wCos,szS]
 | x::l=>by rw [wCos,szS,wCos_eq l]
abbrev aggV {α:Type} (enc:Pl→α→List D):Pl→α→PV:=fun pl x=>.agg ((enc pl x).map .d)
abbrev strV:Pl→Bs→PV:=fun _ s=>.d (.str s)
noncomputable def spHo {α:Type} (val:Pl→α→PV) (p:α→Bool) (w:α→Nat) (n:Nat):Spec:=fun args σ K=>match args,σ with
 | [v],⟨[],[],0⟩=>∃pl x,v=val pl x∧(w x≤n∧n≤1073741824)∧∀b,p x=b→K (.ret (.d (.bool b))) ⟨[],[],0⟩
 | _,_=>False
theorem spHo_mono {α:Type} (val:Pl→α→PV) (p:α→Bool) (w:α→Nat) (n:Nat):SpecMono (spHo val p w n):=fun args σ K K' hK h=>by
 unfold spHo at h ⊢
 split at h
 ·obtain ⟨pl,x,h1,h2,h3⟩:=h;exact ⟨pl,x,h1,h2,fun b hb=>hK _ _ (h3 b hb)⟩
 ·exact h.elim
noncomputable def spNo {α:Type} (h0:FuncId) (val:Pl→α→PV) (p:α→Bool) (w:α→Nat) (n:Nat):Spec:=fun args σ K=>match args,σ with
 | [v,.ptr 0 0],⟨[.cells t [.func h' [] []]],[],0⟩=>∃pl x,v=val pl x∧(h'=h0∧w x≤n∧n≤1073741824)∧∀b,(!p x)=b→K (.ret (.d (.bool b))) ⟨[.cells t [.func h' [] []]],[],0⟩
 | _,_=>False
theorem spNo_mono {α:Type} (h0:FuncId) (val:Pl→α→PV) (p:α→Bool) (w:α→Nat) (n:Nat):SpecMono (spNo h0 val p w n):=fun args σ K K' hK h=>by
 unfold spNo at h ⊢
 split at h
 ·obtain ⟨pl,x,h1,h2,h3⟩:=h;exact ⟨pl,x,h1,h2,fun b hb=>hK _ _ (h3 b hb)⟩
 ·exact h.elim
noncomputable def spIx {α:Type} (g0 h0:FuncId) (enc:Pl→α→List D) (p:α→Bool) (w:α→Nat) (n:Nat):Spec:=fun args σ K=>match args,σ with
 | [.d (.sl r),.func g' [] [.ptr 0 0]],⟨[.cells t [.func h' [] []]],[],0⟩=>∃pl l,r=l.map (enc pl)∧(g'=g0∧h'=h0∧szS w l≤n∧n≤1073741824)∧∀r:Int,(r<0↔l.all p=true)→K (.ret (.d (.int .i64 r))) ⟨[.cells t [.func h' [] []]],[],0⟩
 | _,_=>False
theorem spIx_mono {α:Type} (g0 h0:FuncId) (enc:Pl→α→List D) (p:α→Bool) (w:α→Nat) (n:Nat):SpecMono (spIx g0 h0 enc p w n):=fun args σ K K' hK h=>by
 unfold spIx at h ⊢
 split at h
 ·obtain ⟨pl,x,h1,h2,h3⟩:=h;exact ⟨pl,x,h1,h2,fun b hb=>hK _ _ (h3 b hb)⟩
 ·exact h.elim
noncomputable def spCf {α:Type} (g0 h0:FuncId) (enc:Pl→α→List D) (p:α→Bool) (w:α→Nat) (n:Nat):Spec:=fun args σ K=>match args,σ with
 | [.d (.sl r),.func g' [] [.ptr 0 0]],⟨[.cells t [.func h' [] []]],[],0⟩=>∃pl l,r=l.map (enc pl)∧(g'=g0∧h'=h0∧szS w l≤n∧n≤1073741824)∧∀b,(!l.all p)=b→K (.ret (.d (.bool b))) ⟨[.cells t [.func h' [] []]],[],0⟩
 | _,_=>False
theorem spCf_mono {α:Type} (g0 h0:FuncId) (enc:Pl→α→List D) (p:α→Bool) (w:α→Nat) (n:Nat):SpecMono (spCf g0 h0 enc p w n):=fun args σ K K' hK h=>by
 unfold spCf at h ⊢
 split at h
 ·obtain ⟨pl,x,h1,h2,h3⟩:=h;exact ⟨pl,x,h1,h2,fun b hb=>hK _ _ (h3 b hb)⟩
 ·exact h.elim
noncomputable def spAl {α:Type} (h0:FuncId) (enc:Pl→α→List D) (p:α→Bool) (w:α→Nat) (n:Nat):Spec:=fun args σ K=>match args,σ with
 | [.d (.sl r),.func h' [] []],⟨[],[],0⟩=>∃pl l,r=l.map (enc pl)∧(h'=h0∧szS w l≤n∧n≤1073741824)∧∀b,l.all p=b→K (.ret (.d (.bool b))) ⟨[],[],0⟩
 | _,_=>False
theorem spAl_mono {α:Type} (h0:FuncId) (enc:Pl→α→List D) (p:α→Bool) (w:α→Nat) (n:Nat):SpecMono (spAl h0 enc p w n):=fun args σ K K' hK h=>by
 unfold spAl at h ⊢
 split at h
 ·obtain ⟨pl,x,h1,h2,h3⟩:=h;exact ⟨pl,x,h1,h2,fun b hb=>hK _ _ (h3 b hb)⟩
 ·exact h.elim
theorem all_drop {α:Type} (p:α→Bool) {l:List α} {i:Nat} (h:i<l.length):(l.drop i).all p=(p l[i] && (l.drop (i+1)).all p):=by rw [List.drop_eq_getElem_cons h,List.all_cons]
theorem all_end {α:Type} (p:α→Bool) {l:List α} {i:Nat} (h:l.length≤i):(l.drop i).all p=true:=by rw [List.drop_eq_nil_of_le h];rfl
noncomputable def tblnoE (n:Nat):Tbl:=[(29,spHo (aggV encE) mayE wE n)]
theorem noE_ok {n:Nat} (ht:TblOK (GG w0 nG) (tblnoE n)):PCalls (GG w0 nG) 154 (spNo 29 (aggV encE) mayE wE n):=by
 refine pcalls tab_ok mixed (tbl:=tblnoE n) ht Tryz.func154 rfl (by kernel_rfl) (by kernel_rfl) ?_
 intro args σ K h
 unfold spNo at h
 split at h
 ·obtain ⟨pl,⟨a1,a2,a3,a4,a5⟩,rfl,⟨rfl,hz,hn⟩,h⟩:=h
  refine ⟨loopsOf [],1,false,by simp,Nat.le_of_ble_eq_true rfl,?_⟩
  conv=>whnf
  refine ⟨pl,(.mk a1 a2 a3 a4 a5),rfl,⟨hz,hn⟩,fun b hb=>?_⟩
  conv=>whnf
  exact h _ (by rw [hb])
 ·exact h.elim
noncomputable def tblixE (n:Nat):Tbl:=[(154,spNo 29 (aggV encE) mayE wE n)]
theorem ixE_ok {n:Nat} (ht:TblOK (GG w0 nG) (tblixE n)):PCalls (GG w0 nG) 220 (spIx 154 29 encE mayE wE n):=by
 refine pcalls tab_ok mixed (tbl:=tblixE n) ht Tryz.func220 rfl (by kernel_rfl) (by kernel_rfl) ?_
 intro args σ K h
 unfold spIx at h
 split at h
 ·obtain ⟨pl,l,rfl,⟨rfl,rfl,hz,hn⟩,h⟩:=h
  rename_i t
  have hlen:(l.map (encE pl)).length=l.length:=List.length_map ..
  have hsz:=szS_len wE l
  refine ⟨loopsOf [(2,⟨[8],[0,1,7],fun vs σ=>∃i:Nat,vs=[.d (.int .i64 i)]∧σ=⟨[.cells t [.func 29 [] []]],[],0⟩∧i≤l.length∧l.all mayE=(l.drop i).all mayE,fun vs _=>match vs with | [.d (.int _ i)]=>((l.length:Int) - i).toNat | _=>0⟩)],1,false,by simp,Nat.le_of_ble_eq_true rfl,?_⟩
  conv=>whnf
  refine ⟨⟨0,rfl,rfl,by omega,rfl⟩,?_⟩
  intro vs σ hI
  obtain ⟨i,rfl,rfl,hi,hs⟩:=hI
  conv=>whnf
  refine CondP.dec (fun hi2=>?_) (fun hi2=>?_)
  ·have hi2:i<l.length:=by have hi2:(i:Int)<(l.map (encE pl)).length:=hi2;rw [hlen] at hi2;omega
   have hg:=szS_get wE l i hi2
   rw [all_drop _ hi2] at hs
   obtain ⟨eA,hA⟩:∃e,l[i]=e:=⟨_,rfl⟩
   obtain ⟨a1,a2,a3,a4,a5⟩:=eA
   have hr1:(l.map (encE pl))[((i:Nat):Int).toNat]?=some (encE pl (.mk a1 a2 a3 a4 a5)):=by simp [hi2,hA]
   rw [hA] at hs hg
   conv=>whnf
   refine ⟨_,by omega,hr1,?_⟩
   conv=>whnf
   refine ⟨pl,(.mk a1 a2 a3 a4 a5),rfl,⟨rfl,by omega,by omega⟩,fun b hb=>?_⟩
   cases b with
   | true =>
    have hp:mayE (.mk a1 a2 a3 a4 a5)=false:=by simpa using hb
    rw [hp,Bool.false_and] at hs
    conv=>whnf
    exact h _ (by rw [hs];simp;try omega)
   | false =>
    have hp:mayE (.mk a1 a2 a3 a4 a5)=true:=by simpa using hb
    rw [hp,Bool.true_and] at hs
    conv=>whnf
    refine Or.inl ⟨InR.i64 (by omega) (by omega),?_⟩
    conv=>whnf
    refine ⟨⟨i+1,rfl,rfl,by omega,hs⟩,?_⟩
    show ((l.length:Int) - ((i:Int)+1)).toNat<((l.length:Int) - (i:Int)).toNat
    omega
  ·have hi2:l.length≤i:=by have hi2:¬(i:Int)<(l.map (encE pl)).length:=hi2;rw [hlen] at hi2;omega
   rw [all_end _ hi2] at hs
   conv=>whnf
   exact h _ (by rw [hs];simp)
 ·exact h.elim
noncomputable def tblcfE (n:Nat):Tbl:=[(220,spIx 154 29 encE mayE wE n)]
theorem cfE_ok {n:Nat} (ht:TblOK (GG w0 nG) (tblcfE n)):PCalls (GG w0 nG) 153 (spCf 154 29 encE mayE wE n):=by
 refine pcalls tab_ok mixed (tbl:=tblcfE n) ht Tryz.func153 rfl (by kernel_rfl) (by kernel_rfl) ?_
 intro args σ K h
 unfold spCf at h
 split at h
 ·obtain ⟨pl,l,rfl,⟨rfl,rfl,hz,hn⟩,h⟩:=h
  refine ⟨loopsOf [],1,false,by simp,Nat.le_of_ble_eq_true rfl,?_⟩
  conv=>whnf
  refine ⟨pl,l,rfl,⟨rfl,rfl,hz,hn⟩,fun r hr=>?_⟩
  conv=>whnf
  refine h _ ?_
  cases hb:l.all mayE with
  | true=>rw [hb] at hr;have:=hr.2 rfl;simp;omega
  | false => rw [hb] at hr; have : ¬ r < 0 := fun g => by have := hr.1 g; cases this
             simp;omega
 ·exact h.elim
noncomputable def tblalE (n:Nat):Tbl:=[(153,spCf 154 29 encE mayE wE n)]
theorem alE_ok {n:Nat} (ht:TblOK (GG w0 nG) (tblalE n)):PCalls (GG w0 nG) 74 (spAl 29 encE mayE wE n):=by
 refine pcalls tab_ok mixed (tbl:=tblalE n) ht Tryz.func74 rfl (by kernel_rfl) (by kernel_rfl) ?_
 intro args σ K h
 unfold spAl at h
 split at h
 ·obtain ⟨pl,l,rfl,⟨rfl,hz,hn⟩,h⟩:=h
  refine ⟨loopsOf [],0,false,by simp,Nat.le_of_ble_eq_true rfl,?_⟩
  conv=>whnf
  refine ⟨pl,l,rfl,⟨rfl,rfl,hz,hn⟩,fun b hb=>?_⟩
  conv=>whnf
  exact h _ (by rw [← hb,Bool.not_not])
 ·exact h.elim
theorem calE {n:Nat} (h:PCalls (GG w0 nG) 29 (spHo (aggV encE) mayE wE n)):PCalls (GG w0 nG) 74 (spAl 29 encE mayE wE n) :=
 alE_ok ⟨⟨cfE_ok ⟨⟨ixE_ok ⟨⟨noE_ok ⟨⟨h,spHo_mono _ _ _ _⟩,trivial⟩,spNo_mono _ _ _ _ _⟩,trivial⟩,spIx_mono _ _ _ _ _ _⟩,trivial⟩,spCf_mono _ _ _ _ _ _⟩,trivial⟩
end Go.PM.Lex
end

section
set_option maxRecDepth 100000
set_option maxHeartbeats 4000000
namespace Go.PM.Lex
open Go.Proofs
variable {w0:World} {nG:Nat}
noncomputable def spOf:Spec:=fun args σ K=>match args,σ with
 | [.d (.int .u8 op)],⟨[],[],0⟩=>∃o:Nat,op=o∧∀l w a,(lineF o:Int)=l→wordF o=w→argsN o=a→K (.ret (.agg [.d (.int .i64 l),.d (.str w),.d (.int .i64 a)])) ⟨[],[],0⟩
 | _,_=>False
theorem spOf_mono:SpecMono spOf:=fun args σ K K' hK h=>by
 unfold spOf at h ⊢
 split at h
 ·obtain ⟨o,h1,h2⟩:=h;exact ⟨o,h1,fun l w a e1 e2 e3=>hK _ _ (h2 l w a e1 e2 e3)⟩
 ·exact h.elim
theorem of_ok:PCalls (GG w0 nG) 71 spOf:=by
 refine pcalls tab_ok mixed (tbl:=[]) trivial Tryz.func71 rfl (by kernel_rfl) (by kernel_rfl) ?_
 intro args σ K h
 unfold spOf at h
 split at h
 ·obtain ⟨o,rfl,h⟩:=h
  refine ⟨loopsOf [],0,false,by simp,Nat.le_of_ble_eq_true rfl,?_⟩
  repeat' ((conv=>whnf);refine CondP.dec (fun hc=>?_) (fun hc=>?_))
  all_goals (conv=>whnf)
  all_goals first
  | (have e : o = 16 := by omega
     subst e;exact h _ _ _ rfl rfl rfl)
  | (have e : o = 17 := by omega
     subst e;exact h _ _ _ rfl rfl rfl)
  | (have e : o = 15 := by omega
     subst e;exact h _ _ _ rfl rfl rfl)
  | (have e : o = 18 := by omega
     subst e;exact h _ _ _ rfl rfl rfl)
  | (have e : o = 19 := by omega
     subst e;exact h _ _ _ rfl rfl rfl)
  | (have e : o = 10 := by omega
     subst e;exact h _ _ _ rfl rfl rfl)
  | (have e : o = 11 := by omega
     subst e;exact h _ _ _ rfl rfl rfl)
  | (have e : o = 12 := by omega
     subst e;exact h _ _ _ rfl rfl rfl)
  | (have e : o = 13 := by omega
     subst e;exact h _ _ _ rfl rfl rfl)
  | (have e : o = 14 := by omega
     subst e;exact h _ _ _ rfl rfl rfl)
  | (have e : o = 8 := by omega
     subst e;exact h _ _ _ rfl rfl rfl)
  | (have e : o = 9 := by omega
     subst e;exact h _ _ _ rfl rfl rfl)
  | (have e : o = 20 := by omega
     subst e;exact h _ _ _ rfl rfl rfl)
  | (have e : o = 21 := by omega
     subst e;exact h _ _ _ rfl rfl rfl)
  | (have e : o = 22 := by omega
     subst e;exact h _ _ _ rfl rfl rfl)
  | (have e : o = 23 := by omega
     subst e;exact h _ _ _ rfl rfl rfl)
  | (have e : o = 24 := by omega
     subst e;exact h _ _ _ rfl rfl rfl)
  | (have e : o = 25 := by omega
     subst e;exact h _ _ _ rfl rfl rfl)
  | (have e : o = 6 := by omega
     subst e;exact h _ _ _ rfl rfl rfl)
  | (have e : o = 7 := by omega
     subst e;exact h _ _ _ rfl rfl rfl)
  | (have e : o = 1 := by omega
     subst e;exact h _ _ _ rfl rfl rfl)
  | (have e : o = 2 := by omega
     subst e;exact h _ _ _ rfl rfl rfl)
  | (have e : o = 3 := by omega
     subst e;exact h _ _ _ rfl rfl rfl)
  | (have e : o = 4 := by omega
     subst e;exact h _ _ _ rfl rfl rfl)
  | (have e : o = 5 := by omega
     subst e;exact h _ _ _ rfl rfl rfl)
  | (refine h _ _ _ ?_ ?_ ?_
     ·unfold lineF;(repeat rw [if_neg (by omega)]);rfl
     ·unfold wordF;(repeat rw [if_neg (by omega)])
     ·unfold argsN;(repeat rw [if_neg (by omega)]))
 ·exact h.elim
noncomputable def tblNam:Tbl:=[(147,spNameB),(148,spKept)]
theorem nam_ok {n:Nat} (ht:TblOK (GG w0 nG) tblNam):PCalls (GG w0 nG) 72 (spHo strV namB wBs n):=by
 refine pcalls tab_ok mixed (tbl:=tblNam) ht Tryz.func72 rfl (by kernel_rfl) (by kernel_rfl) ?_
 intro args σ K h
 unfold spHo at h
 split at h
 ·obtain ⟨pl,s,rfl,⟨hz,hn⟩,h⟩:=h
  unfold wBs at hz
  refine ⟨loopsOf [],0,false,by simp,Nat.le_of_ble_eq_true rfl,?_⟩
  conv=>whnf
  refine ⟨by omega,?_⟩
  conv=>whnf
  refine CondP.intro (fun hc0=>?_) (fun hc0=>?_)
  rotate_left
  ·(conv=>whnf);exact h _ (by simp [namB,hc0])
  conv=>whnf
  refine CondP.ndec (fun hc1=>?_) (fun hc1=>?_)
  rotate_left
  ·(conv=>whnf);exact h _ (by simp only [namB,hc0,hc1];decide)
  conv=>whnf
  refine fun b hb=>?_
  conv=>whnf
  exact h _ (by rw [namB,hc0,hb,decide_eq_false hc1];simp)
 ·exact h.elim
noncomputable def tblHE (n:Nat):Tbl:=[(71,spOf),(72,spHo strV namB wBs n),(73,spQuote),(74,spB (spAl 29 encE mayE wE) n)]
theorem hE_ok {n:Nat} (ht:TblOK (GG w0 nG) (tblHE n)):PCalls (GG w0 nG) 29 (spHo (aggV encE) mayE wE n):=by
 refine pcalls tab_ok mixed (tbl:=tblHE n) ht Tryz.func29 rfl (by kernel_rfl) (by kernel_rfl) ?_
 intro args σ K h
 unfold spHo at h
 split at h
 ·obtain ⟨pl,⟨a1,a2,a3,a4,a5⟩,rfl,⟨hz,hn⟩,h⟩:=h
  simp only [wE,wEs_eq] at hz
  refine ⟨loopsOf [],0,false,by simp,Nat.le_of_ble_eq_true rfl,?_⟩
  have hl4:(encEs pl a4).length=a4.length:=by rw [encEs_eq,List.length_map]
  conv=>whnf
  refine ⟨a1,rfl,fun l w a hl hw ha=>?_⟩
  conv=>whnf
  refine CondP.dec (fun hop=>?_) (fun hop=>?_)
  ·have hopI:=hop
   have hop:a1=1:=by omega
   conv=>whnf
   refine CondP.dec (fun _=>?_) (fun hx=>absurd hopI hx)
   conv=>whnf
   refine ⟨fun _=>0,a2,rfl,⟨by simp only [wBs];omega,by omega⟩,fun b hb0=>?_⟩
   cases b with
   | false =>
    have htx:textB a1 a2=false:=by simp [textB,hop,hb0]
    conv=>whnf
    refine CondP.dec (fun h1=>?_) (fun h1=>?_)
    rotate_left
    ·have h1:¬-2<a:=h1;(conv=>whnf);exact h _ (by simp [mayE,ha,h1])
    conv=>whnf
    refine CondP.dec (fun h2=>?_) (fun h2=>?_)
    ·conv=>whnf
     refine CondP.dec (fun h3=>?_) (fun h3=>?_)
     ·conv=>whnf
      exact h _ (by simp [mayE,htx])
     conv=>whnf
     refine CondP.dec (fun h5=>?_) (fun h5=>?_)
     rotate_left
     ·have h5:¬a1=3:=by omega
      (conv=>whnf);exact h _ (by simp [mayE,h3,h5])
     have h5:a1=3:=by omega
     have hor:(decide (a3=0) || decide (a1=3))=true:=by simp [h5]
     conv=>whnf
     exact h _ (by simp [mayE,htx])
    conv=>whnf
    refine CondP.dec (fun h6=>?_) (fun h6=>?_)
    rotate_left
    ·have h6:¬(a4.length:Int)=a:=fun g=>h6 (by show ((encEs pl a4).length:Int)=a;rw [hl4];exact g)
     (conv=>whnf);exact h _ (by simp [mayE,ha,h2,h6])
    have h6:(a4.length:Int)=a:=by rw [← hl4];exact h6
    conv=>whnf
    refine CondP.dec (fun h3=>?_) (fun h3=>?_)
    ·conv=>whnf
     exact h _ (by simp [mayE,htx])
    conv=>whnf
    refine CondP.dec (fun h5=>?_) (fun h5=>?_)
    rotate_left
    ·have h5:¬a1=3:=by omega
     (conv=>whnf);exact h _ (by simp [mayE,h3,h5])
    have h5:a1=3:=by omega
    have hor:(decide (a3=0) || decide (a1=3))=true:=by simp [h5]
    conv=>whnf
    exact h _ (by simp [mayE,htx])
   | true =>
    have htx:textB a1 a2=true:=by simp [textB,hop,hb0]
    conv=>whnf
    refine CondP.dec (fun h1=>?_) (fun h1=>?_)
    rotate_left
    ·have h1:¬-2<a:=h1;(conv=>whnf);exact h _ (by simp [mayE,ha,h1])
    conv=>whnf
    refine CondP.dec (fun h2=>?_) (fun h2=>?_)
    ·conv=>whnf
     refine CondP.dec (fun h3=>?_) (fun h3=>?_)
     ·conv=>whnf
      refine ⟨by omega,pl,a4,encEs_eq _ _,⟨rfl,by omega,by omega⟩,fun b hb=>?_⟩
      conv=>whnf
      exact h _ (by simp [mayE,mayEs_eq,ha,htx,hb,h1,h2,h3])
     conv=>whnf
     refine CondP.dec (fun h5=>?_) (fun h5=>?_)
     rotate_left
     ·have h5:¬a1=3:=by omega
      (conv=>whnf);exact h _ (by simp [mayE,h3,h5])
     have h5:a1=3:=by omega
     have hor:(decide (a3=0) || decide (a1=3))=true:=by simp [h5]
     conv=>whnf
     refine ⟨by omega,pl,a4,encEs_eq _ _,⟨rfl,by omega,by omega⟩,fun b hb=>?_⟩
     conv=>whnf
     exact h _ (by simp [mayE,mayEs_eq,ha,htx,hb,h1,h2,hor])
    conv=>whnf
    refine CondP.dec (fun h6=>?_) (fun h6=>?_)
    rotate_left
    ·have h6:¬(a4.length:Int)=a:=fun g=>h6 (by show ((encEs pl a4).length:Int)=a;rw [hl4];exact g)
     (conv=>whnf);exact h _ (by simp [mayE,ha,h2,h6])
    have h6:(a4.length:Int)=a:=by rw [← hl4];exact h6
    conv=>whnf
    refine CondP.dec (fun h3=>?_) (fun h3=>?_)
    ·conv=>whnf
     refine ⟨by omega,pl,a4,encEs_eq _ _,⟨rfl,by omega,by omega⟩,fun b hb=>?_⟩
     conv=>whnf
     exact h _ (by simp [mayE,mayEs_eq,ha,htx,hb,h1,h6,h3])
    conv=>whnf
    refine CondP.dec (fun h5=>?_) (fun h5=>?_)
    rotate_left
    ·have h5:¬a1=3:=by omega
     (conv=>whnf);exact h _ (by simp [mayE,h3,h5])
    have h5:a1=3:=by omega
    have hor:(decide (a3=0) || decide (a1=3))=true:=by simp [h5]
    conv=>whnf
    refine ⟨by omega,pl,a4,encEs_eq _ _,⟨rfl,by omega,by omega⟩,fun b hb=>?_⟩
    conv=>whnf
    exact h _ (by simp [mayE,mayEs_eq,ha,htx,hb,h1,h6,hor])
  conv=>whnf
  refine CondP.dec (fun hop7=>?_) (fun hop7=>?_)
  ·have hop:a1=7:=by omega
   conv=>whnf
   refine ⟨fun _=>0,a2,rfl,⟨by simp only [wBs];omega,by omega⟩,fun b hb0=>?_⟩
   cases b with
   | false =>
    have htx:textB a1 a2=false:=by simp [textB,hop,hb0]
    conv=>whnf
    refine CondP.dec (fun h1=>?_) (fun h1=>?_)
    rotate_left
    ·have h1:¬-2<a:=h1;(conv=>whnf);exact h _ (by simp [mayE,ha,h1])
    conv=>whnf
    refine CondP.dec (fun h2=>?_) (fun h2=>?_)
    ·conv=>whnf
     refine CondP.dec (fun h3=>?_) (fun h3=>?_)
     ·conv=>whnf
      exact h _ (by simp [mayE,htx])
     conv=>whnf
     refine CondP.dec (fun h5=>?_) (fun h5=>?_)
     rotate_left
     ·have h5:¬a1=3:=by omega
      (conv=>whnf);exact h _ (by simp [mayE,h3,h5])
     have h5:a1=3:=by omega
     have hor:(decide (a3=0) || decide (a1=3))=true:=by simp [h5]
     conv=>whnf
     exact h _ (by simp [mayE,htx])
    conv=>whnf
    refine CondP.dec (fun h6=>?_) (fun h6=>?_)
    rotate_left
    ·have h6:¬(a4.length:Int)=a:=fun g=>h6 (by show ((encEs pl a4).length:Int)=a;rw [hl4];exact g)
     (conv=>whnf);exact h _ (by simp [mayE,ha,h2,h6])
    have h6:(a4.length:Int)=a:=by rw [← hl4];exact h6
    conv=>whnf
    refine CondP.dec (fun h3=>?_) (fun h3=>?_)
    ·conv=>whnf
     exact h _ (by simp [mayE,htx])
    conv=>whnf
    refine CondP.dec (fun h5=>?_) (fun h5=>?_)
    rotate_left
    ·have h5:¬a1=3:=by omega
     (conv=>whnf);exact h _ (by simp [mayE,h3,h5])
    have h5:a1=3:=by omega
    have hor:(decide (a3=0) || decide (a1=3))=true:=by simp [h5]
    conv=>whnf
    exact h _ (by simp [mayE,htx])
   | true =>
    have htx:textB a1 a2=true:=by simp [textB,hop,hb0]
    conv=>whnf
    refine CondP.dec (fun h1=>?_) (fun h1=>?_)
    rotate_left
    ·have h1:¬-2<a:=h1;(conv=>whnf);exact h _ (by simp [mayE,ha,h1])
    conv=>whnf
    refine CondP.dec (fun h2=>?_) (fun h2=>?_)
    ·conv=>whnf
     refine CondP.dec (fun h3=>?_) (fun h3=>?_)
     ·conv=>whnf
      refine ⟨by omega,pl,a4,encEs_eq _ _,⟨rfl,by omega,by omega⟩,fun b hb=>?_⟩
      conv=>whnf
      exact h _ (by simp [mayE,mayEs_eq,ha,htx,hb,h1,h2,h3])
     conv=>whnf
     refine CondP.dec (fun h5=>?_) (fun h5=>?_)
     rotate_left
     ·have h5:¬a1=3:=by omega
      (conv=>whnf);exact h _ (by simp [mayE,h3,h5])
     have h5:a1=3:=by omega
     have hor:(decide (a3=0) || decide (a1=3))=true:=by simp [h5]
     conv=>whnf
     refine ⟨by omega,pl,a4,encEs_eq _ _,⟨rfl,by omega,by omega⟩,fun b hb=>?_⟩
     conv=>whnf
     exact h _ (by simp [mayE,mayEs_eq,ha,htx,hb,h1,h2,hor])
    conv=>whnf
    refine CondP.dec (fun h6=>?_) (fun h6=>?_)
    rotate_left
    ·have h6:¬(a4.length:Int)=a:=fun g=>h6 (by show ((encEs pl a4).length:Int)=a;rw [hl4];exact g)
     (conv=>whnf);exact h _ (by simp [mayE,ha,h2,h6])
    have h6:(a4.length:Int)=a:=by rw [← hl4];exact h6
    conv=>whnf
    refine CondP.dec (fun h3=>?_) (fun h3=>?_)
    ·conv=>whnf
     refine ⟨by omega,pl,a4,encEs_eq _ _,⟨rfl,by omega,by omega⟩,fun b hb=>?_⟩
     conv=>whnf
     exact h _ (by simp [mayE,mayEs_eq,ha,htx,hb,h1,h6,h3])
    conv=>whnf
    refine CondP.dec (fun h5=>?_) (fun h5=>?_)
    rotate_left
    ·have h5:¬a1=3:=by omega
     (conv=>whnf);exact h _ (by simp [mayE,h3,h5])
    have h5:a1=3:=by omega
    have hor:(decide (a3=0) || decide (a1=3))=true:=by simp [h5]
    conv=>whnf
    refine ⟨by omega,pl,a4,encEs_eq _ _,⟨rfl,by omega,by omega⟩,fun b hb=>?_⟩
    conv=>whnf
    exact h _ (by simp [mayE,mayEs_eq,ha,htx,hb,h1,h6,hor])
  have hop:¬a1=1:=by omega
  have hop7:¬a1=7:=by omega
  conv=>whnf
  refine CondP.dec (fun hop4=>?_) (fun hop4=>?_)
  ·have hop4:a1=4:=by omega
   conv=>whnf
   refine ⟨by omega,fun hq=>?_,fun q hq=>?_⟩
   ·have htx:textB a1 a2=false:=by simp [textB,hop4,hq]
    conv=>whnf
    refine CondP.dec (fun h1=>?_) (fun h1=>?_)
    rotate_left
    ·have h1:¬-2<a:=h1;(conv=>whnf);exact h _ (by simp [mayE,ha,h1])
    conv=>whnf
    refine CondP.dec (fun h2=>?_) (fun h2=>?_)
    ·conv=>whnf
     refine CondP.dec (fun h3=>?_) (fun h3=>?_)
     ·conv=>whnf
      exact h _ (by simp [mayE,htx])
     conv=>whnf
     refine CondP.dec (fun h5=>?_) (fun h5=>?_)
     rotate_left
     ·have h5:¬a1=3:=by omega
      (conv=>whnf);exact h _ (by simp [mayE,h3,h5])
     have h5:a1=3:=by omega
     have hor:(decide (a3=0) || decide (a1=3))=true:=by simp [h5]
     conv=>whnf
     exact h _ (by simp [mayE,htx])
    conv=>whnf
    refine CondP.dec (fun h6=>?_) (fun h6=>?_)
    rotate_left
    ·have h6:¬(a4.length:Int)=a:=fun g=>h6 (by show ((encEs pl a4).length:Int)=a;rw [hl4];exact g)
     (conv=>whnf);exact h _ (by simp [mayE,ha,h2,h6])
    have h6:(a4.length:Int)=a:=by rw [← hl4];exact h6
    conv=>whnf
    refine CondP.dec (fun h3=>?_) (fun h3=>?_)
    ·conv=>whnf
     exact h _ (by simp [mayE,htx])
    conv=>whnf
    refine CondP.dec (fun h5=>?_) (fun h5=>?_)
    rotate_left
    ·have h5:¬a1=3:=by omega
     (conv=>whnf);exact h _ (by simp [mayE,h3,h5])
    have h5:a1=3:=by omega
    have hor:(decide (a3=0) || decide (a1=3))=true:=by simp [h5]
    conv=>whnf
    exact h _ (by simp [mayE,htx])
   ·have htx:textB a1 a2=true:=by simp [textB,hop4,hq]
    conv=>whnf
    refine CondP.dec (fun h1=>?_) (fun h1=>?_)
    rotate_left
    ·have h1:¬-2<a:=h1;(conv=>whnf);exact h _ (by simp [mayE,ha,h1])
    conv=>whnf
    refine CondP.dec (fun h2=>?_) (fun h2=>?_)
    ·conv=>whnf
     refine CondP.dec (fun h3=>?_) (fun h3=>?_)
     ·conv=>whnf
      refine ⟨by omega,pl,a4,encEs_eq _ _,⟨rfl,by omega,by omega⟩,fun b hb=>?_⟩
      conv=>whnf
      exact h _ (by simp [mayE,mayEs_eq,ha,htx,hb,h1,h2,h3])
     conv=>whnf
     refine CondP.dec (fun h5=>?_) (fun h5=>?_)
     rotate_left
     ·have h5:¬a1=3:=by omega
      (conv=>whnf);exact h _ (by simp [mayE,h3,h5])
     have h5:a1=3:=by omega
     have hor:(decide (a3=0) || decide (a1=3))=true:=by simp [h5]
     conv=>whnf
     refine ⟨by omega,pl,a4,encEs_eq _ _,⟨rfl,by omega,by omega⟩,fun b hb=>?_⟩
     conv=>whnf
     exact h _ (by simp [mayE,mayEs_eq,ha,htx,hb,h1,h2,hor])
    conv=>whnf
    refine CondP.dec (fun h6=>?_) (fun h6=>?_)
    rotate_left
    ·have h6:¬(a4.length:Int)=a:=fun g=>h6 (by show ((encEs pl a4).length:Int)=a;rw [hl4];exact g)
     (conv=>whnf);exact h _ (by simp [mayE,ha,h2,h6])
    have h6:(a4.length:Int)=a:=by rw [← hl4];exact h6
    conv=>whnf
    refine CondP.dec (fun h3=>?_) (fun h3=>?_)
    ·conv=>whnf
     refine ⟨by omega,pl,a4,encEs_eq _ _,⟨rfl,by omega,by omega⟩,fun b hb=>?_⟩
     conv=>whnf
     exact h _ (by simp [mayE,mayEs_eq,ha,htx,hb,h1,h6,h3])
    conv=>whnf
    refine CondP.dec (fun h5=>?_) (fun h5=>?_)
    rotate_left
    ·have h5:¬a1=3:=by omega
     (conv=>whnf);exact h _ (by simp [mayE,h3,h5])
    have h5:a1=3:=by omega
    have hor:(decide (a3=0) || decide (a1=3))=true:=by simp [h5]
    conv=>whnf
    refine ⟨by omega,pl,a4,encEs_eq _ _,⟨rfl,by omega,by omega⟩,fun b hb=>?_⟩
    conv=>whnf
    exact h _ (by simp [mayE,mayEs_eq,ha,htx,hb,h1,h6,hor])
  have hop4:¬a1=4:=by omega
  have htx:textB a1 a2=decide (a2=[]):=by simp [textB,hop,hop7,hop4]
  conv=>whnf
  refine CondP.dec (fun h1=>?_) (fun h1=>?_)
  rotate_left
  ·have h1:¬-2<a:=h1;(conv=>whnf);exact h _ (by simp [mayE,ha,h1])
  conv=>whnf
  refine CondP.dec (fun h2=>?_) (fun h2=>?_)
  ·conv=>whnf
   refine CondP.dec (fun h3=>?_) (fun h3=>?_)
   ·conv=>whnf
    refine CondP.dec (fun h4=>?_) (fun h4=>?_)
    rotate_left
    ·(conv=>whnf);exact h _ (by simp [mayE,htx,h4])
    rw [decide_eq_true h4] at htx
    conv=>whnf
    refine ⟨by omega,pl,a4,encEs_eq _ _,⟨rfl,by omega,by omega⟩,fun b hb=>?_⟩
    conv=>whnf
    exact h _ (by simp [mayE,mayEs_eq,ha,htx,hb,h1,h2,h3])
   conv=>whnf
   refine CondP.dec (fun h5=>?_) (fun h5=>?_)
   rotate_left
   ·have h5:¬a1=3:=by omega
    (conv=>whnf);exact h _ (by simp [mayE,h3,h5])
   have h5:a1=3:=by omega
   have hor:(decide (a3=0) || decide (a1=3))=true:=by simp [h5]
   conv=>whnf
   refine CondP.dec (fun h4=>?_) (fun h4=>?_)
   rotate_left
   ·(conv=>whnf);exact h _ (by simp [mayE,htx,h4])
   rw [decide_eq_true h4] at htx
   conv=>whnf
   refine ⟨by omega,pl,a4,encEs_eq _ _,⟨rfl,by omega,by omega⟩,fun b hb=>?_⟩
   conv=>whnf
   exact h _ (by simp [mayE,mayEs_eq,ha,htx,hb,h1,h2,hor])
  conv=>whnf
  refine CondP.dec (fun h6=>?_) (fun h6=>?_)
  rotate_left
  ·have h6:¬(a4.length:Int)=a:=fun g=>h6 (by show ((encEs pl a4).length:Int)=a;rw [hl4];exact g)
   (conv=>whnf);exact h _ (by simp [mayE,ha,h2,h6])
  have h6:(a4.length:Int)=a:=by rw [← hl4];exact h6
  conv=>whnf
  refine CondP.dec (fun h3=>?_) (fun h3=>?_)
  ·conv=>whnf
   refine CondP.dec (fun h4=>?_) (fun h4=>?_)
   rotate_left
   ·(conv=>whnf);exact h _ (by simp [mayE,htx,h4])
   rw [decide_eq_true h4] at htx
   conv=>whnf
   refine ⟨by omega,pl,a4,encEs_eq _ _,⟨rfl,by omega,by omega⟩,fun b hb=>?_⟩
   conv=>whnf
   exact h _ (by simp [mayE,mayEs_eq,ha,htx,hb,h1,h6,h3])
  conv=>whnf
  refine CondP.dec (fun h5=>?_) (fun h5=>?_)
  rotate_left
  ·have h5:¬a1=3:=by omega
   (conv=>whnf);exact h _ (by simp [mayE,h3,h5])
  have h5:a1=3:=by omega
  have hor:(decide (a3=0) || decide (a1=3))=true:=by simp [h5]
  conv=>whnf
  refine CondP.dec (fun h4=>?_) (fun h4=>?_)
  rotate_left
  ·(conv=>whnf);exact h _ (by simp [mayE,htx,h4])
  rw [decide_eq_true h4] at htx
  conv=>whnf
  refine ⟨by omega,pl,a4,encEs_eq _ _,⟨rfl,by omega,by omega⟩,fun b hb=>?_⟩
  conv=>whnf
  exact h _ (by simp [mayE,mayEs_eq,ha,htx,hb,h1,h6,hor])
 ·exact h.elim
end Go.PM.Lex
end

section
set_option maxRecDepth 100000
set_option maxHeartbeats 4000000
namespace Go.PM.Lex
open Go.Proofs
variable {w0:World} {nG:Nat}
structure LexC (w0:World) (nG:Nat):Prop where
 name:PCalls (GG w0 nG) 147 spNameB
 quote:PCalls (GG w0 nG) 73 spQuote
variable (hL:LexC w0 nG)
include hL
theorem cNam (n:Nat):PCalls (GG w0 nG) 72 (spHo strV namB wBs n):=nam_ok ⟨⟨hL.name,spNameB_mono⟩,⟨kept_ok,spKept_mono⟩,trivial⟩
theorem cHE:∀n,PCalls (GG w0 nG) 29 (spHo (aggV encE) mayE wE n)
 | 0=>hE_ok ⟨⟨of_ok,spOf_mono⟩,⟨cNam hL _,spHo_mono _ _ _ _⟩,⟨hL.quote,spQuote_mono⟩,⟨pcalls_none (enters_of Tryz.func74 (by kernel_rfl) rfl),spB_mono (spAl_mono _ _ _ _) _⟩,trivial⟩
 | n+1=>hE_ok ⟨⟨of_ok,spOf_mono⟩,⟨cNam hL _,spHo_mono _ _ _ _⟩,⟨hL.quote,spQuote_mono⟩,⟨pcalls_less (sp:=spAl 29 encE mayE wE) (calE (cHE n)),spB_mono (spAl_mono _ _ _ _) _⟩,trivial⟩
end Go.PM.Lex
end

section
set_option maxRecDepth 100000
set_option maxHeartbeats 4000000
namespace Go.PM.Lex
open Go.Proofs Go.Shelf Go.RowKit
variable {w0:World} {nG:Nat}
theorem liesW:liesAt Tryz.prog Tryz.prog.depth 84 (2 / Tryz.prog.cellsOf 84) 0 82 1=true:=by kernel_rfl
theorem copy_freshW (b:Nat) (w:World) (h0:w.cell? ⟨b,0,none⟩=some (.pointer none)) (hsh:w.shape? b=some (84,2)) (hfz:w.frozen? ⟨b,0,none⟩=false) :
  Calls Tryz.prog 214 #[.pointer (some ⟨b,0,none⟩)] w fun e w'=>e=.returned (.tuple #[])∧w'=w.setCell ⟨b,0,none⟩ (.pointer (some ⟨b,0,none⟩)):=by
 obtain ⟨j,hj,hjs⟩:=i53
 go_enter Tryz.func214,Tryz.ntmps214
 go_wp2
 rw [Go.Lib.run_to_unsafe w ⟨b,0,none⟩ u50 u95 hj (by rw [hjs];decide) hsh (Nat.zero_lt_succ 1)]
 simp only [Result.andThen]
 rw [Oper.upon_value]
 go_wp2
 rw [run_callFunc_extern Tryz.func269 (by kernel_rfl) (by kernel_rfl) (by kernel_rfl) (e:=Extern.AbiNoEscape.same) (by kernel_rfl)]
 rw [Go.Lib.run_noEscape]
 simp only [Result.andThen]
 rw [Oper.upon_value]
 go_wp2
 rw [Go.Lib.run_from_unsafe w ⟨b,0,none⟩ u95 u50 hj hsh liesW]
 simp only [Result.andThen]
 rw [Oper.upon_value]
 go_wp2
 go_end0
 exact ⟨rfl,rfl⟩
noncomputable def spCopyCheckW:Spec:=fun args σ K=>match args,σ with
 | [.ptr 0 0],⟨[.cells t [p,q]],tk,nx⟩=>((p=.d .nilp∨p=.ptr 0 0)∧t=84)∧K (.ret (.tuple [])) ⟨[.cells t [.ptr 0 0,q]],tk,nx⟩
 | _,_=>False
theorem spCopyCheckW_mono:SpecMono spCopyCheckW:=fun args σ K K' hK h=>by
 unfold spCopyCheckW at h ⊢;split at h <;> first | exact ⟨h.1,hK _ _ h.2⟩ | exact h.elim
theorem copyCheckW_ok:PCalls (GG w0 nG) 214 spCopyCheckW:=pcalls_mach (enters_of Tryz.func214 (by kernel_rfl) rfl) fun args σ K h e w vs hS ha=>by
 unfold spCopyCheckW at h
 split at h
 ·rename_i t p q tk nx
  obtain ⟨⟨hp,rfl⟩,hK⟩:=h
  obtain ⟨u,rfl,hu⟩:=args1 ha
  obtain ⟨cv,hc1,hc2,hc3⟩:=hS.box 0 _ rfl
  have hcs:cv.size=2:=hc2
  obtain ⟨x0,hx0⟩:∃x,cv[0]?=some x:=⟨cv[0]'(by omega),by simp [hcs]⟩
  have hr0:=(hc3 0 p x0 rfl hx0).1
  cases hu with
  | ptr b off hb =>
  refine ⟨_,_,.tuple #[],hK,?_⟩
  rcases hp with rfl | rfl
  ·cases hr0 with
   | d _ _ hd =>
   cases hd
   refine Calls.mono (copy_freshW (e.β 0) w ?_ ?_ ?_) fun en w' ⟨h1,h2⟩=>?_
   ·simp [World.cell?,hc1,hx0]
   ·simp only [World.shape?,hc1,hcs]
   ·simp [World.frozen?,hc1]
   ·have hst:=store_exact (G:=GG w0 nG) (T:=Tab0) tab_ok hS (t:=79) (b:=0) (off:=0) (x:=.ptr 0 0) (v:=.pointer (some ⟨e.β 0,0,none⟩)) (l:=[.ptr 0 0]) (cs:=[.d .nilp,q]) (ty:=84) rfl (.ptr 0 0 hb) rfl rfl (by simp) (by intro h;cases h)
    rw [h2]
    exact ⟨h1,.tuple [] #[] rfl (fun i x u hx=>by simp at hx),hst.2,hst.1.toLater⟩
  ·cases hr0 with
   | ptr _ _ _ =>
   refine Calls.mono (copy_used (e.β 0) w (by simp [World.cell?,hc1,hx0])) fun en w' ⟨h1,h2⟩=>?_
   rw [h2]
   exact ⟨h1,.tuple [] #[] rfl (fun i x u hx=>by simp at hx),hS,Later.refl _ _ _⟩
 ·exact h.elim
theorem str_exact2 {ty:TypeId} {P:Program} {ρ:Ren} (L:Lays.n169 P ρ) (X:Builder.Extra P ρ) (b g cap:Nat) (p:Value) (cur:Array Value) (fz:Nat×Nat) (l:Bs) (w:World) (h0:l≠[])
  (hbk:w.heap[b]?=some (.cells #[p,.slice (some ⟨g,0,none⟩) l.length cap] ty (0,0))) (hg:w.heap[g]?=some (.cells cur (ρ.t 5) fz)) (hn:l.length≤cur.size) (hcap:cap≠0) (hbig:l.length≤9223372036854775807)
  (hcell:∀j x,l[j]?=some x→w.cell? ⟨g,j,none⟩=some (.int .u8 x.toNat)) :
  Calls P (ρ.f 169) #[.pointer (some ⟨b,0,none⟩)] w fun e w'=>e=.returned (.string ⟨l.toArray⟩)∧w'=w.drew.freeze ⟨g,0,none⟩ l.length:=by
 have c1:w.drew.cell? ⟨b,1,none⟩=some (.slice (some ⟨g,0,none⟩) l.length cap):=by
  have:w.drew.heap[b]?=some (.cells #[p,.slice (some ⟨g,0,none⟩) l.length cap] ty (0,0)):=hbk
  rw [Go.Lib.cell_of_heap this];rfl
 have hSD:(Builtin.unsafeSliceData_ #[(ρ.t 37)] (ρ.t 127) #[.slice (some ⟨g,0,none⟩) l.length cap]).run P w.drew=.ok (.pointer (some ⟨g,0,none⟩)) w.drew :=
  Go.Lib.run_unsafeSliceData_row _ _ _ _ _ _ hcap
 have hUS:(Builtin.unsafeString_ #[(ρ.t 127),(ρ.t 3)] (ρ.t 9) #[.pointer (some ⟨g,0,none⟩),.int .i64 l.length]).run P w.drew=.ok (.string ⟨l.toArray⟩) (w.drew.freeze ⟨g,0,none⟩ l.length):=by
  refine Go.Lib.run_unsafeString_row w.drew (ρ.t 127) (ρ.t 3) (ρ.t 9) (ρ.t 5) L.t127 X.cellsByte g cur.size (by have hg':w.drew.heap[g]?=some (.cells cur (ρ.t 5) fz):=hg;simp [World.shape?,hg']) l h0 hn hbig ?_
  intro j x hx
  have:=hcell j x hx
  rw [add_addr,Nat.zero_add];exact this
 have mixed:=L.mixed
 have t72:=L.t72;have a72:=L.a72;have z72:=L.z72;have v72:=L.v72;have u72:=run_underlying L.t72
 have t70:=L.t70;have a70:=L.a70;have z70:=L.z70;have v70:=L.v70;have u70:=run_underlying L.t70
 have t37:=L.t37;have a37:=L.a37;have z37:=L.z37;have v37:=L.v37;have u37:=run_underlying L.t37
 have t127:=L.t127;have a127:=L.a127;have z127:=L.z127;have v127:=L.v127;have u127:=run_underlying L.t127
 have t3:=L.t3;have a3:=L.a3;have z3:=L.z3;have v3:=L.v3;have u3:=run_underlying L.t3
 have t9:=L.t9;have a9:=L.a9;have z9:=L.z9;have v9:=L.v9;have u9:=run_underlying L.t9
 have t5:=X.t5;have a5:=X.a5;have z5:=X.z5;have v5:=X.v5;have u5:=run_underlying X.t5
 go_enter L.f169,Body.n169_ntmps ρ
 go_wp2
 go_region_o
 all_goals (go_wp2;go_ret;exact ⟨rfl,rfl⟩)
theorem str_nil2 {ty:TypeId} {P:Program} {ρ:Ren} (L:Lays.n169 P ρ) (X:Builder.Extra P ρ) (B b:Nat) (p:Value) (w:World) (hbk:w.heap[b]?=some (.cells #[p,.slice none 0 0] ty (0,0))) :
  Calls P (ρ.f 169) #[.pointer (some ⟨b,0,none⟩)] w fun e w'=>e=.returned (.string ⟨#[]⟩)∧Below B w w':=by
 have hUS:=Any.unsafeString_none L X
 have c1:w.drew.cell? ⟨b,1,none⟩=some (.slice none 0 0):=by
  have:w.drew.heap[b]?=some (.cells #[p,.slice none 0 0] ty (0,0)):=hbk
  rw [Lib.cell_of_heap this];rfl
 have hSD:(Builtin.unsafeSliceData_ #[(ρ.t 37)] (ρ.t 127) #[.slice none 0 0]).run P w.drew=.ok (.pointer none) w.drew:=rfl
 have mixed:=L.mixed
 have t72:=L.t72;have a72:=L.a72;have z72:=L.z72;have v72:=L.v72;have u72:=run_underlying L.t72
 have t70:=L.t70;have a70:=L.a70;have z70:=L.z70;have v70:=L.v70;have u70:=run_underlying L.t70
 have t37:=L.t37;have a37:=L.a37;have z37:=L.z37;have v37:=L.v37;have u37:=run_underlying L.t37
 have t127:=L.t127;have a127:=L.a127;have z127:=L.z127;have v127:=L.v127;have u127:=run_underlying L.t127
 have t3:=L.t3;have a3:=L.a3;have z3:=L.z3;have v3:=L.v3;have u3:=run_underlying L.t3
 have t9:=L.t9;have a9:=L.a9;have z9:=L.z9;have v9:=L.v9;have u9:=run_underlying L.t9
 have t5:=X.t5;have a5:=X.a5;have z5:=X.z5;have v5:=X.v5;have u5:=run_underlying X.t5
 go_enter L.f169,Body.n169_ntmps ρ
 go_wp2
 go_region_o
 all_goals (go_wp2;go_ret;exact ⟨rfl,Below.drew (Below.refl B w)⟩)
theorem str_room2 {ty:TypeId} {P:Program} {ρ:Ren} (L:Lays.n169 P ρ) (X:Builder.Extra P ρ) (B b g cap:Nat) (p:Value) (w:World) (hc0:cap≠0) (hbk:w.heap[b]?=some (.cells #[p,.slice (some ⟨g,0,none⟩) 0 cap] ty (0,0))) :
  Calls P (ρ.f 169) #[.pointer (some ⟨b,0,none⟩)] w fun e w'=>e=.returned (.string ⟨#[]⟩)∧Below B w w':=by
 have hUS:=Any.unsafeString_none L X
 have c1:w.drew.cell? ⟨b,1,none⟩=some (.slice (some ⟨g,0,none⟩) 0 cap):=by
  have:w.drew.heap[b]?=some (.cells #[p,.slice (some ⟨g,0,none⟩) 0 cap] ty (0,0)):=hbk
  rw [Lib.cell_of_heap this];rfl
 have hSD:(Builtin.unsafeSliceData_ #[(ρ.t 37)] (ρ.t 127) #[.slice (some ⟨g,0,none⟩) 0 cap]).run P w.drew=.ok (.pointer (some ⟨g,0,none⟩)) w.drew:=Go.Lib.run_unsafeSliceData_row _ _ _ _ _ _ hc0
 clear hc0
 have mixed:=L.mixed
 have t72:=L.t72;have a72:=L.a72;have z72:=L.z72;have v72:=L.v72;have u72:=run_underlying L.t72
 have t70:=L.t70;have a70:=L.a70;have z70:=L.z70;have v70:=L.v70;have u70:=run_underlying L.t70
 have t37:=L.t37;have a37:=L.a37;have z37:=L.z37;have v37:=L.v37;have u37:=run_underlying L.t37
 have t127:=L.t127;have a127:=L.a127;have z127:=L.z127;have v127:=L.v127;have u127:=run_underlying L.t127
 have t3:=L.t3;have a3:=L.a3;have z3:=L.z3;have v3:=L.v3;have u3:=run_underlying L.t3
 have t9:=L.t9;have a9:=L.a9;have z9:=L.z9;have v9:=L.v9;have u9:=run_underlying L.t9
 have t5:=X.t5;have a5:=X.a5;have z5:=X.z5;have v5:=X.v5;have u5:=run_underlying X.t5
 go_enter L.f169,Body.n169_ntmps ρ
 go_wp2
 go_region_o
 all_goals (go_wp2;go_ret;exact ⟨rfl,Below.drew (Below.refl B w)⟩)
end Go.PM.Lex
end

section
set_option maxRecDepth 100000
set_option maxHeartbeats 4000000
namespace Go.PM.Lex
open Go.Proofs
variable {w0:World} {nG:Nat}
noncomputable def wrSp (r:PV) (body:List PV→Bs→Prop):Spec:=fun args σ K=>match args,σ with
 | .ptr 0 0::rest,⟨[.cells t [p,.sl 0 e rows]],[0],1⟩=>∃l txt,rows=bytesR l∧((p=.d .nilp∨p=.ptr 0 0)∧t=84∧e=5)∧body rest txt∧l.length+txt.length<70368744177664 ∧
   K (.ret r) ⟨[.cells t [.ptr 0 0,.sl 0 e (bytesR (l++txt))]],[0],1⟩
 | _,_=>False
theorem wrSp_mono (r:PV) (body:List PV→Bs→Prop):SpecMono (wrSp r body):=fun args σ K K' hK h=>by
 unfold wrSp at h ⊢
 split at h
 ·obtain ⟨l,txt,h1,h2,h3,h4,h5⟩:=h;exact ⟨l,txt,h1,h2,h3,h4,hK _ _ h5⟩
 ·exact h.elim
noncomputable def spOne {α:Type} (val:Pl→α→PV) (may:α→Bool) (txt:α→Bs) (w:α→Nat) (n:Nat):Spec:=fun args σ K=>match args,σ with
 | [v,.ptr 0 0],⟨[.cells tp [.ptr 1 0],.cells t [.ptr 1 0,.sl 0 e rows]],[0],1⟩=>∃l pl x,rows=bytesR l∧v=val pl x∧(t=84∧e=5)∧(may x=true∧w x≤n∧n≤1073741824)∧l.length+(txt x).length<70368744177664 ∧
   K (.ret (.tuple [])) ⟨[.cells tp [.ptr 1 0],.cells t [.ptr 1 0,.sl 0 e (bytesR (l++txt x))]],[0],1⟩
 | _,_=>False
theorem spOne_mono {α:Type} (val:Pl→α→PV) (may:α→Bool) (txt:α→Bs) (w:α→Nat) (n:Nat):SpecMono (spOne val may txt w n):=fun args σ K K' hK h=>by
 unfold spOne at h ⊢
 split at h
 ·obtain ⟨l,pl,x,h1,h2,h3,h4,h5,h6⟩:=h;exact ⟨l,pl,x,h1,h2,h3,h4,h5,hK _ _ h6⟩
 ·exact h.elim
noncomputable def spLi {α:Type} (g0:FuncId) (enc:Pl→α→List D) (may:α→Bool) (txt:α→Bs) (w:α→Nat) (n:Nat):Spec:=fun args σ K=>match args,σ with
 | [.ptr 0 0,.d (.sl r),.d (.str bt),.func g [] [.ptr 1 0]],⟨[.cells t [.ptr 0 0,.sl 0 e rows],.cells tp [.ptr 0 0]],[0],1⟩=>∃l pl xs,rows=bytesR l∧r=xs.map (enc pl)∧(t=84∧e=5∧g=g0)∧(xs.all may=true∧szS w xs≤n∧n≤1073741824)∧l.length+(commas bt (xs.map txt)).length<70368744177664 ∧
   K (.ret (.tuple [])) ⟨[.cells t [.ptr 0 0,.sl 0 e (bytesR (l++commas bt (xs.map txt)))],.cells tp [.ptr 0 0]],[0],1⟩
 | _,_=>False
theorem spLi_mono {α:Type} (g0:FuncId) (enc:Pl→α→List D) (may:α→Bool) (txt:α→Bs) (w:α→Nat) (n:Nat):SpecMono (spLi g0 enc may txt w n):=fun args σ K K' hK h=>by
 unfold spLi at h ⊢
 split at h
 ·obtain ⟨l,pl,x,h1,h2,h3,h4,h5,h6⟩:=h;exact ⟨l,pl,x,h1,h2,h3,h4,h5,hK _ _ h6⟩
 ·exact h.elim
noncomputable def spWS (s:Bs):Spec:=wrSp (.tuple [.d (.int .i64 s.length),.d .nili]) fun rest txt=>rest=[.d (.str s)]∧txt=s
noncomputable def spWSx:Spec:=fun args σ K=>match args with
 | [.ptr 0 0,.d (.str s)]=>spWS s args σ K
 | _=>False
theorem spWSx_mono:SpecMono spWSx:=fun args σ K K' hK h=>by
 unfold spWSx at h ⊢
 split at h
 ·exact wrSp_mono _ _ _ _ _ _ hK h
 ·exact h.elim
noncomputable def tblWS2:Tbl:=[(214,spCopyCheckW)]
theorem ws_ok:PCalls (GG w0 nG) 155 spWSx:=by
 refine pcalls tab_ok mixed (tbl:=tblWS2) ⟨⟨copyCheckW_ok,spCopyCheckW_mono⟩,trivial⟩ Tryz.func155 rfl (by kernel_rfl) (by kernel_rfl) ?_
 intro args σ K h
 unfold spWSx at h
 split at h
 ·rename_i s
  unfold spWS wrSp at h
  split at h
  ·rename_i rest t p e rows hargs
   obtain ⟨l,txt,rfl,⟨hp,rfl,rfl⟩,⟨hrest,rfl⟩,hlen,h⟩:=h
   simp only [List.cons.injEq,true_and] at hargs
   have hb:∀x:Bs,(bytesR x).length=x.length:=fun x=>by simp [bytesR]
   rw [bytesR_app] at h
   refine ⟨loopsOf [],1,true,by simp,Nat.le_of_ble_eq_true rfl,?_⟩
   rcases hp with rfl | rfl
   all_goals
    conv=>whnf
    first | refine ⟨⟨.inl rfl,rfl⟩,?_⟩ | refine ⟨⟨.inr rfl,rfl⟩,?_⟩
    conv=>whnf
    refine ⟨fun r hr=>?_,?_,?_,?_⟩
    ·obtain ⟨b,_,rfl⟩:=List.mem_map.1 hr;rfl
    ·show ((bytesR l).length+(bytesR txt).length) * 1≤2 ^ 47;rw [hb,hb];omega
    ·show (bytesR l).length+(bytesR txt).length≤2 ^ 47;rw [hb,hb];omega
    ·conv=>whnf
     exact h
  ·exact h.elim
 ·exact h.elim
noncomputable def spAdd:Spec:=wrSp (.tuple []) fun rest txt=>∃ps:List Bs,rest=[.d (.sl (ps.map encBs))]∧ps≠[]∧ps.length≤1073741824∧txt=ps.flatten
theorem spAdd_mono:SpecMono spAdd:=wrSp_mono _ _
noncomputable def tblAdd:Tbl:=[(155,spWSx)]
theorem tblAdd_ok:TblOK (GG w0 nG) tblAdd:=⟨⟨ws_ok,spWSx_mono⟩,trivial⟩
theorem add_ok:PCalls (GG w0 nG) 75 spAdd:=by
 refine pcalls tab_ok mixed (tbl:=tblAdd) tblAdd_ok Tryz.func75 rfl (by kernel_rfl) (by kernel_rfl) ?_
 intro args σ K h
 unfold spAdd wrSp at h
 split at h
 ·rename_i rest t p e rows
  obtain ⟨l,txt,rfl,⟨hp,rfl,rfl⟩,⟨ps,rfl,hne,hpl,rfl⟩,hlen,h⟩:=h
  have hl1:(ps.map encBs).length=ps.length:=List.length_map ..
  refine ⟨loopsOf [(1,⟨[8],[0,6,7],fun vs σ=>∃(i:Nat) (P:PV),vs=[.d (.int .i64 i)]∧σ=⟨[.cells 84 [P,.sl 0 5 (bytesR (l++(ps.take i).flatten))]],[0],1⟩∧(P=.d .nilp∨P=.ptr 0 0)∧(0<i→P=.ptr 0 0)∧i≤ps.length,fun vs _=>match vs with | [.d (.int _ i)]=>((ps.length:Int) - i).toNat | _=>0⟩)],1,true,by simp,Nat.le_of_ble_eq_true rfl,?_⟩
  rcases hp with rfl | rfl
  all_goals
   conv=>whnf
   refine ⟨⟨0,_,rfl,(by simp only [List.take_zero,List.flatten_nil,List.append_nil];rfl),(by first | exact .inl rfl | exact .inr rfl),fun g=>absurd g (by omega),by omega⟩,?_⟩
   intro vs σ hI
   obtain ⟨i,P,rfl,rfl,hP,hP0,hi⟩:=hI
   conv=>whnf
   refine CondP.dec (fun hi2=>?_) (fun hi2=>?_)
   ·have hi2:i<ps.length:=by have hi2:(i:Int)<(ps.map encBs).length:=hi2;rw [hl1] at hi2;omega
    obtain ⟨s,hs⟩:∃s,ps[i]=s:=⟨_,rfl⟩
    have hr1:(ps.map encBs)[((i:Nat):Int).toNat]?=some (encBs s):=by simp [hi2,hs]
    have htk:(ps.take (i+1)).flatten=(ps.take i).flatten++s:=by rw [List.take_succ_eq_append_getElem hi2,List.flatten_append,hs];simp
    have hle:(ps.take (i+1)).flatten.length≤ps.flatten.length:=by
     have e:ps.flatten=(ps.take (i+1)).flatten++(ps.drop (i+1)).flatten:=by rw [← List.flatten_append,List.take_append_drop]
     rw [e,List.length_append];omega
    rw [htk,List.length_append] at hle
    rcases hP with rfl | rfl
    all_goals
     conv=>whnf
     refine ⟨_,by omega,hr1,?_⟩
     conv=>whnf
     refine ⟨l++(ps.take i).flatten,s,rfl,⟨(by first | exact .inl rfl | exact .inr rfl),rfl,rfl⟩,⟨rfl,rfl⟩,by rw [List.length_append];omega,?_⟩
     conv=>whnf
     refine Or.inl ⟨InR.i64 (by omega) (by omega),?_⟩
     conv=>whnf
     refine ⟨⟨i+1,_,rfl,(by rw [htk,List.append_assoc];rfl),.inr rfl,fun _=>rfl,by omega⟩,?_⟩
     show ((ps.length:Int) - ((i:Int)+1)).toNat<((ps.length:Int) - (i:Int)).toNat
     omega
   ·have hi2:i=ps.length:=by have hi2:¬(i:Int)<(ps.map encBs).length:=hi2;rw [hl1] at hi2;omega
    subst hi2
    obtain rfl:=hP0 (List.length_pos_iff.2 hne)
    rw [List.take_length]
    conv=>whnf
    exact h
 ·exact h.elim
theorem commas_snoc (bt:Bs):∀(l:List Bs) (x:Bs),commas bt (l++[x])=if l=[] then x else commas bt l++(bt++x)
 | [],x=>rfl
 | [y],x=>by simp [commas]
 | y::z::l,x=>by
  have ih:=commas_snoc bt (z::l) x
  simp only [List.cons_append] at ih ⊢
  rw [commas,ih] <;> simp [commas]
theorem commas_take {α:Type} (bt:Bs) (f:α→Bs) {xs:List α} {i:Nat} (h:i<xs.length):commas bt ((xs.take (i+1)).map f)=if i=0 then f xs[i] else commas bt ((xs.take i).map f)++(bt++f xs[i]):=by
 rw [List.take_succ_eq_append_getElem h,List.map_append,List.map_cons,List.map_nil,commas_snoc]
 have e:((xs.take i).map f=[])↔i=0:=by
  rw [← List.length_eq_zero_iff,List.length_map,List.length_take];omega
 by_cases h0:i=0
 ·rw [if_pos (e.2 h0),if_pos h0]
 ·rw [if_neg (fun g=>h0 (e.1 g)),if_neg h0]
theorem commas_app_le (bt:Bs):∀(l m:List Bs),(commas bt l).length≤(commas bt (l++m)).length
 | [],m=>Nat.zero_le _
 | [x],[]=>Nat.le_refl _
 | [x],y::m=>by simp only [List.cons_append,List.nil_append,commas,List.length_append];omega
 | x::y::l,m=>by
  have ih:=commas_app_le bt (y::l) m
  simp only [List.cons_append,commas,List.length_append] at ih ⊢;omega
theorem commas_le {α:Type} (bt:Bs) (f:α→Bs) (xs:List α) (i:Nat):(commas bt ((xs.take i).map f)).length≤(commas bt (xs.map f)).length:=by
 have h:=commas_app_le bt ((xs.take i).map f) ((xs.drop i).map f)
 rwa [← List.map_append,List.take_append_drop] at h
end Go.PM.Lex
end

section
set_option maxRecDepth 100000
set_option maxHeartbeats 4000000
namespace Go.PM.Lex
open Go.Proofs
variable {w0:World} {nG:Nat}
mutual
def numB:Ex→Bool
 | .mk op _ n l _=>(!decide (op=3) || (decide (0≤n) && decide (n<100))) && numBs l
def numBs:List Ex→Bool
 | []=>true
 | x::l=>numB x && numBs l
end
theorem numBs_eq (l:List Ex):numBs l=l.all numB:=by induction l with | nil=>rfl | cons x l ih=>simp [numBs,ih]
def ablE (e:Ex):Bool:=mayE e && numB e
theorem ablE_mk {op:Nat} {t:Bs} {n:Int} {l:List Ex} {a:Nat} (h:ablE (.mk op t n l a)=true):-2<argsN op∧(argsN op<0∨(l.length:Int)=argsN op)∧textB op t=true∧(op=3→0≤n∧n<100)∧l.all ablE=true:=by
 simp only [ablE,mayE,numB,mayEs_eq,numBs_eq,Bool.and_eq_true,Bool.or_eq_true,decide_eq_true_eq,Bool.not_eq_true',decide_eq_false_iff_not] at h
 obtain ⟨⟨h1,h2,h3,h4,h5⟩,h6,h7⟩:=h
 refine ⟨h1,h2,h4,fun e=>h6.resolve_left (fun g=>g e),?_⟩
 rw [List.all_eq_true] at h5 h7 ⊢
 exact fun x hx=>by rw [ablE,h5 x hx,h7 x hx];rfl
theorem op_small {op:Nat} (h:-2<argsN op):op<26:=by
 by_cases hc:op<26
 ·exact hc
 ·unfold argsN at h
  (repeat rw [if_neg (by omega)] at h)
  omega
theorem op_kind {op:Nat} (h:-2<argsN op):(lineF op<5→argsN op=2)∧(lineF op=5→argsN op=1)∧lineF op≤6∧(op=5→argsN op=0):=by
 have hk:∀o:Fin 26,-2<argsN o.val→(lineF o.val<5→argsN o.val=2)∧(lineF o.val=5→argsN o.val=1)∧lineF o.val≤6∧(o.val=5→argsN o.val=0):=by decide
 exact hk ⟨op,op_small h⟩ h
theorem digits_small:∀n:Fin 100,Lib.decDigits n.val=baseT 10 n.val:=by decide +kernel
noncomputable def spFmt:Spec:=fun args σ K=>match args,σ with
 | [.d (.int .i64 n),.d (.int .i64 b)],⟨[],[],0⟩=>(b=10∧0≤n∧n<100)∧K (.ret (.d (.str (numT n)))) ⟨[],[],0⟩
 | _,_=>False
theorem spFmt_mono:SpecMono spFmt:=fun args σ K K' hK h=>by
 unfold spFmt at h ⊢;split at h <;> first | exact ⟨h.1,hK _ _ h.2⟩ | exact h.elim
theorem fmt_ok:PCalls (GG w0 nG) 78 spFmt:=pcalls_lib (enters_of Tryz.func78 (by kernel_rfl) rfl) fun args σ K h e w vs hS ha=>by
 unfold spFmt at h
 split at h
 ·rename_i n b
  obtain ⟨⟨rfl,h0,h1⟩,h⟩:=h
  obtain ⟨u,v,rfl,hu,hv⟩:=args2 ha
  cases hu.dint;cases hv.dint
  obtain ⟨k,rfl⟩:∃k:Nat,n=k:=⟨n.toNat,by omega⟩
  have hd:=digits_small ⟨k,by omega⟩
  have e:numT (k:Int)=Lib.decDigits k:=by rw [numT,if_neg (by omega),Int.toNat_natCast];exact hd.symm
  rw [e] at h
  exact ⟨_,h,_,fun _ _=>.mkstr,(Tryz.strconv_FormatInt_10_small k (by omega) w).mono fun en w' ⟨h1,h2⟩=>⟨h1,by rw [h2];exact Grows.refl _⟩⟩
 ·exact h.elim
noncomputable def spWE (n:Nat):Spec:=wrSp (.tuple []) fun rest txt=>∃pl e want,rest=[aggV encE pl e,.d (.int .i64 want)]∧(ablE e=true∧wE e≤n∧n≤1073741824∧0≤want∧want≤6)∧txt=exW want.toNat e
theorem spWE_mono (n:Nat):SpecMono (spWE n):=wrSp_mono _ _
noncomputable def spWA (n:Nat):Spec:=wrSp (.tuple []) fun rest txt=>∃fr fin pl xs,rest=[.d (.str fr),.d (.sl (encEs pl xs)),.d (.str fin)]∧(xs.all ablE=true∧szS wE xs≤n∧n≤1073741824)∧txt=argT fr fin xs
theorem spWA_mono (n:Nat):SpecMono (spWA n):=wrSp_mono _ _
theorem exW_0 (e:Ex):exW 0 e=exT e:=by rw [exW,parP,if_neg (by simp)]
noncomputable def tblWA1 (n:Nat):Tbl:=[(30,spWE n)]
theorem wa1_ok {n:Nat} (ht:TblOK (GG w0 nG) (tblWA1 n)):PCalls (GG w0 nG) 157 (spOne (aggV encE) ablE exT wE n):=by
 refine pcalls tab_ok mixed (tbl:=tblWA1 n) ht Tryz.func157 rfl (by kernel_rfl) (by kernel_rfl) ?_
 intro args σ K h
 unfold spOne at h
 split at h
 ·obtain ⟨l,pl,⟨op,tx,nn,xs,at'⟩,rfl,rfl,⟨rfl,rfl⟩,⟨hmay,hz,hn⟩,hlen,h⟩:=h
  refine ⟨loopsOf [],2,true,by simp,Nat.le_of_ble_eq_true rfl,?_⟩
  conv=>whnf
  refine ⟨l,exT (.mk op tx nn xs at'),rfl,⟨.inr rfl,rfl,rfl⟩,⟨pl,.mk op tx nn xs at',0,rfl,⟨hmay,hz,hn,by omega,by omega⟩,(exW_0 _).symm⟩,hlen,?_⟩
  conv=>whnf
  exact h
 ·exact h.elim
noncomputable def tblWA (n:Nat):Tbl:=[(75,spAdd),(156,spLi 157 encE ablE exT wE n)]
theorem wa_ok {n:Nat} (ht:TblOK (GG w0 nG) (tblWA n)):PCalls (GG w0 nG) 76 (spWA n):=by
 refine pcalls tab_ok mixed (tbl:=tblWA n) ht Tryz.func76 rfl (by kernel_rfl) (by kernel_rfl) ?_
 intro args σ K h
 unfold spWA wrSp at h
 split at h
 ·rename_i rest t p e rows
  obtain ⟨l,txt,rfl,⟨hp,rfl,rfl⟩,⟨fr,fin,pl,xs,rfl,⟨hmay,hz,hn⟩,rfl⟩,hlen,h⟩:=h
  have key:l++argT fr fin xs=l++fr++commas cmm (xs.map exT)++fin:=by simp only [argT,exTs,List.append_assoc]
  rw [key] at h
  have hlen:l.length+(fr.length+((commas cmm (xs.map exT)).length+fin.length))<70368744177664:=by have:=hlen;simp only [argT,exTs,List.length_append] at this;exact this
  refine ⟨loopsOf [],1,true,by simp,Nat.le_of_ble_eq_true rfl,?_⟩
  rcases hp with rfl | rfl
  all_goals
   conv=>whnf
   refine ⟨l,fr,rfl,⟨(by first | exact .inl rfl | exact .inr rfl),rfl,rfl⟩,⟨[fr],rfl,by simp,by simp,by simp⟩,by omega,?_⟩
   conv=>whnf
   refine ⟨l++fr,pl,xs,rfl,encEs_eq pl xs,⟨rfl,rfl,rfl⟩,⟨hmay,hz,hn⟩,by rw [List.length_append];show _+(commas cmm (xs.map exT)).length<_;omega,?_⟩
   conv=>whnf
   refine ⟨l++fr++commas cmm (xs.map exT),fin,rfl,⟨.inr rfl,rfl,rfl⟩,⟨[fin],rfl,by simp,by simp,by simp⟩,by simp only [List.length_append];omega,?_⟩
   conv=>whnf
   exact h
 ·exact h.elim
noncomputable def spRadd:List PV→St→(St→Prop)→Prop:=fun args σ K=>args.length≤Tryz.f75.ntmps∧W (ctxU Tab0 tblAdd noIter (loopsOf []) (unrOf [(1,3)]) (fun _=>false)) (bodyOf Tryz.f75) (recQ2 Tab0 Tryz.f75 σ.bx.length K) (argF 0 args) σ
theorem dadd:PDef (GG w0 nG) 75 spRadd (fun _ _ _ _=>False) :=
 pdef_plain tab_ok mixed tblAdd_ok Tryz.func75 rfl (by kernel_rfl) (by kernel_rfl) fun args σ K h=>⟨loopsOf [],unrOf [(1,3)],σ.bx.length,Nat.le_refl _,h.1,h.2⟩
noncomputable def tblWE (n:Nat):Tbl:=[(71,spOf),(75,spAdd),(30,spB spWE n),(76,spB spWA n),(78,spFmt),(73,spQuote)]
end Go.PM.Lex
end
