/- A part of the proof: plain logic, contracts and laws over the given program. -/
import Derived.Test.YtflgockgjnddnaaGreatDoorRows
import Derived.Test.YtflgockgjnddnaaGreatDoorTie
import Derived.Test.YtflgockgjnddnaaGreatDoorCards
import Derived.ProofKit
import Derived.OpenShut
import Derived.LaidMore
import Derived.Lay
import Derived.LaidSub
import Derived.SevenTiedAt
import Derived.Stop.Joined
import Derived.Stop.LaidErr
import Derived.Lib.LaidU8T
import Derived.Lib.LaidTab
import Derived.JoinedOf
import Derived.Deep.Slices
import Derived.ChangeArms
import Derived.DataReads
import Derived.Test.YtflgockgjnddnaaGreatDoorE11
set_option linter.unusedVariables false
set_option linter.unusedSimpArgs false
set_option linter.all false
set_option maxRecDepth 100000
set_option maxHeartbeats 16000000
section
namespace Go.PM.Lex
open Go.Proofs
variable {w0:World} {nG:Nat}
noncomputable def Zq6 {α:Type} (enc:Pl→α→List D) (sz:α→Nat) (bd:Int→Int) (m:Nat):Zr:=fun args σ K=>match args,σ with
 | [.agg c,.d (.int .i64 most)],⟨[],[],0⟩=>∃pl x B,c=(enc pl x).map .d∧((0≤most∧most<m)∧m≤1000000∧sz x≤B∧B≤1099511627776)∧∀r,0≤r→r≤bd most→K (.ret (.d (.int .i64 r))) ⟨[],[],0⟩
 | _,_=>False
theorem UK {α:Type} (enc:Pl→α→List D) (sz:α→Nat) (bd:Int→Int) (m:Nat):Za (Zq6 enc sz bd m):=fun args σ K K' hK h=>by
 unfold Zq6 at h ⊢
 exact m165
noncomputable def ZfD {α:Type} (enc:Pl→α→List D) (sz:α→Nat) (bd:Int→Int) (m:Nat):Zr:=fun args σ K=>match args,σ with
 | [.d (.sl r1),.d (.int .i64 most)],⟨[],[],0⟩=>∃pl l B,r1=l.map (enc pl)∧((0≤most∧most<m)∧m≤1000000∧szS sz l≤B∧B≤1099511627776)∧∀r,0≤r→r≤bd most→K (.ret (.d (.int .i64 r))) ⟨[],[],0⟩
 | _,_=>False
theorem Zau {α:Type} (enc:Pl→α→List D) (sz:α→Nat) (bd:Int→Int) (m:Nat):Za (ZfD enc sz bd m):=fun args σ K K' hK h=>by
 unfold ZfD at h ⊢
 exact m165
def bd2 (m:Int):Int:=2 * m+1
noncomputable def Zzp (m:Nat):Tbl:=[(11,spB (Zq6 Yc szE bd2) m)]
theorem ZxS {m:Nat} (ht:TblOK (GG w0 nG) (Zzp m)):PCalls (GG w0 nG) 11 (Zq6 Yc szE bd2 m):=by
 refine pc ht Tryz.func11 ?_;intro args σ K h
 unfold Zq6 at h
 split at h
 ·obtain ⟨pl,⟨a1,a2,a3,a4,a5⟩,B,rfl,⟨⟨hm0,hm1⟩,hm2,hz,hB⟩,h⟩:=h
  rename_i most
  simp only [szE] at hz;have hl4:(ZM pl a4).length=a4.length:=by rw [Zg,Ti]
  have hsz:=Zme a4;unfold bd2 at h
  refine ⟨Zb [(3,⟨[6,5],[1,2],fun vs σ=>∃(i:Nat) (nn:Int),vs=[.d (.int .i64 i),.d (.int .i64 nn)]∧σ=⟨[.cells 24 ((Yc pl (.mk a1 a2 a3 a4 a5)).map .d)],[],0⟩∧i≤a4.length∧1≤nn∧nn≤2 * most+1,fun vs _=>match vs with | [.d (.int _ i),_]=>((a4.length:Nat) - i:Int).toNat | _=>0⟩)],0,false,by simp,Ta rfl,?_⟩;(conv=>whnf)
  (repeat (first | (refine oiO ?_;conv=>whnf) | (refine ⟨_,by omega,hr1,?_⟩;conv=>whnf)))
  refine ⟨⟨0,_,rfl,rfl,by omega,by omega,by omega⟩,?_⟩;intro vs σ hI
  obtain ⟨i,nn,rfl,rfl,hi,hn0,hn1⟩:=hI;(conv=>whnf);refine ZAf (fun hi2=>?_) (fun hi2=>?_);rotate_left
  ·exact m134
  have hi2:i<a4.length:=by have hi2:(i:Int)<(ZM pl a4).length:=hi2;rw [hl4] at hi2;omega
  conv=>whnf
  refine ZAf (fun hi2n=>?_) (fun hi2n=>?_);rotate_left
  ·exact m134
  conv=>whnf
  obtain ⟨eA,hA⟩:∃e,a4[i]=e:=⟨_,rfl⟩
  have hg:=Zmf a4 i hi2;obtain ⟨b1,b2,b3,b4,b5⟩:=eA;rw [hA] at hg;have hr1:(ZM pl a4)[((i:Nat):Int).toNat]?=some (Yc pl (.mk b1 b2 b3 b4 b5)):=by rw [Zg];simp [hi2,hA]
  (repeat (first | (refine oiO ?_;conv=>whnf) | (refine ⟨_,by omega,hr1,?_⟩;conv=>whnf)))
  refine ⟨by omega,pl,.mk b1 b2 b3 b4 b5,B,rfl,⟨⟨by omega,by omega⟩,by omega,by omega,hB⟩,fun r hr0 hrb=>?_⟩;unfold bd2 at hrb
  conv=>whnf
  refine oiO ?_;(conv=>whnf);refine oiO ?_;(conv=>whnf);refine ⟨⟨i+1,_,rfl,rfl,by omega,by omega,by omega⟩,?_⟩;show ((a4.length:Nat) - ((i:Int)+1)).toNat<((a4.length:Nat) - (i:Int)).toNat;omega
 ·exact h.elim
theorem cZE:∀m,PCalls (GG w0 nG) 11 (Zq6 Yc szE bd2 m)
 | 0=>ZxS ⟨⟨Z5 (Zo Tryz.func11 (by kernel_rfl) rfl),ZK (UK _ _ _) _⟩,trivial⟩
 | m+1=>ZxS ⟨⟨Z6 (sp:=Zq6 Yc szE bd2) (cZE m),ZK (UK _ _ _) _⟩,trivial⟩
noncomputable def Zzq (m:Nat):Tbl:=[(11,Zq6 Yc szE bd2 m),(55,spB (ZfD Xi szL bd2) m)]
theorem ZxT {m:Nat} (ht:TblOK (GG w0 nG) (Zzq m)):PCalls (GG w0 nG) 55 (ZfD Xi szL bd2 m):=by
 refine pc ht Tryz.func55 ?_;intro args σ K h
 unfold ZfD at h
 split at h
 ·obtain ⟨pl,l,B,rfl,⟨⟨hm0,hm1⟩,hm2,hz,hB⟩,h⟩:=h
  rename_i most
  have hl4:(l.map (Xi pl)).length=l.length:=Ti ..;have hsz:=Wn szL l;unfold bd2 at h
  refine ⟨Zb [(3,⟨[6,5],[0,1],fun vs σ=>∃(i:Nat) (nn:Int),vs=[.d (.int .i64 i),.d (.int .i64 nn)]∧σ=⟨[],[],0⟩∧i≤l.length∧0≤nn∧nn≤2 * most+1,fun vs _=>match vs with | [.d (.int _ i),_]=>((l.length:Nat) - i:Int).toNat | _=>0⟩),(7,⟨[7,5],[0,1,6],fun vs σ=>∃(i:Nat) (nn:Int),vs=[.d (.int .i64 i),.d (.int .i64 nn)]∧σ=⟨[],[],0⟩∧i≤B∧1≤nn∧nn≤2 * most+1,fun vs _=>match vs with | [.d (.int _ i),_]=>((B:Nat) - i:Int).toNat | _=>0⟩)],0,false,by simp,Ta rfl,?_⟩;(conv=>whnf);refine ⟨⟨0,0,rfl,rfl,by omega,by omega,by omega⟩,?_⟩;intro vs σ hI
  obtain ⟨i,nn,rfl,rfl,hi,hn0,hn1⟩:=hI;(conv=>whnf);refine ZAf (fun hi2=>?_) (fun hi2=>?_);rotate_left
  ·exact m134
  have hi2:i<l.length:=by have hi2:(i:Int)<(l.map (Xi pl)).length:=hi2;rw [hl4] at hi2;omega
  conv=>whnf
  refine ZAf (fun hi2n=>?_) (fun hi2n=>?_);rotate_left
  ·exact m134
  conv=>whnf
  obtain ⟨eA,hA⟩:∃e,l[i]=e:=⟨_,rfl⟩
  have hg:=Wo szL l i hi2;obtain ⟨b1,b2,ar,b4,b5⟩:=eA;rw [hA] at hg;simp only [szL,Zbf] at hg;have hr1:(l.map (Xi pl))[((i:Nat):Int).toNat]?=some (Xi pl (.mk b1 b2 ar b4 b5)):=by simp [hi2,hA]
  have ha4:(ZM pl ar).length=ar.length:=by rw [Zg,Ti]
  have hs4:=Wn szE ar
  (repeat (first | (refine oiO ?_;conv=>whnf) | (refine ⟨_,by omega,hr1,?_⟩;conv=>whnf)))
  refine ⟨⟨0,_,rfl,rfl,by omega,by omega,by omega⟩,?_⟩;intro vs' σ' hI'
  obtain ⟨j,n2,rfl,rfl,hj,hn20,hn21⟩:=hI';(conv=>whnf)
  (repeat (first | (refine oiO ?_;conv=>whnf) | (refine ⟨_,by omega,hr1,?_⟩;conv=>whnf)))
  refine ZAf (fun hj2=>?_) (fun hj2=>?_);rotate_left
  ·exact m196
  have hj2:j<ar.length:=by have hj2:(j:Int)<(ZM pl ar).length:=hj2;rw [ha4] at hj2;omega
  conv=>whnf
  refine ZAf (fun hj3=>?_) (fun hj3=>?_);rotate_left
  ·exact m196
  exact m37
 ·exact h.elim
theorem cZL:∀m,PCalls (GG w0 nG) 55 (ZfD Xi szL bd2 m)
 | 0=>ZxT ⟨⟨cZE 0,UK _ _ _ _⟩,⟨Z5 (Zo Tryz.func55 (by kernel_rfl) rfl),ZK (Zau _ _ _) _⟩,trivial⟩
 | m+1=>ZxT ⟨⟨cZE _,UK _ _ _ _⟩,⟨Z6 (sp:=ZfD Xi szL bd2) (cZL m),ZK (Zau _ _ _) _⟩,trivial⟩
noncomputable def ZxU (m:Nat):Tbl:=[(11,Zq6 Yc szE bd2 m),(55,ZfD Xi szL bd2 m)]
theorem ZxV {m:Nat} (ht:TblOK (GG w0 nG) (ZxU m)):PCalls (GG w0 nG) 21 (ZfD Xj Zj2 bd2 m):=by
 refine pc ht Tryz.func21 ?_;intro args σ K h
 unfold ZfD at h
 split at h
 ·obtain ⟨pl,l,B,rfl,⟨⟨hm0,hm1⟩,hm2,hz,hB⟩,h⟩:=h
  rename_i most
  have hl4:(l.map (Xj pl)).length=l.length:=Ti ..;have hsz:=Wn Zj2 l;unfold bd2 at h
  refine ⟨Zb [(3,⟨[6,5],[0,1],fun vs σ=>∃(i:Nat) (nn:Int),vs=[.d (.int .i64 i),.d (.int .i64 nn)]∧σ=⟨[],[],0⟩∧i≤l.length∧0≤nn∧nn≤2 * most+1,fun vs _=>match vs with | [.d (.int _ i),_]=>((l.length:Nat) - i:Int).toNat | _=>0⟩),(7,⟨[7,5],[0,1,6],fun vs σ=>∃(i:Nat) (nn:Int),vs=[.d (.int .i64 i),.d (.int .i64 nn)]∧σ=⟨[],[],0⟩∧i≤B∧1≤nn∧nn≤2 * most+1,fun vs _=>match vs with | [.d (.int _ i),_]=>((B:Nat) - i:Int).toNat | _=>0⟩)],0,false,by simp,Ta rfl,?_⟩;(conv=>whnf);refine ⟨⟨0,0,rfl,rfl,by omega,by omega,by omega⟩,?_⟩;intro vs σ hI
  obtain ⟨i,nn,rfl,rfl,hi,hn0,hn1⟩:=hI;(conv=>whnf);refine ZAf (fun hi2=>?_) (fun hi2=>?_);rotate_left
  ·exact m134
  have hi2:i<l.length:=by have hi2:(i:Int)<(l.map (Xj pl)).length:=hi2;rw [hl4] at hi2;omega
  conv=>whnf
  refine ZAf (fun hi2n=>?_) (fun hi2n=>?_);rotate_left
  ·exact m134
  conv=>whnf
  obtain ⟨eA,hA⟩:∃e,l[i]=e:=⟨_,rfl⟩
  have hg:=Wo Zj2 l i hi2;obtain ⟨b1,ar,b4,b5⟩:=eA;rw [hA] at hg;simp only [Zj2,Zbf] at hg;have hr1:(l.map (Xj pl))[((i:Nat):Int).toNat]?=some (Xj pl (⟨b1,ar,b4,b5⟩:Ru)):=by simp [hi2,hA]
  have ha4:(ZM pl ar).length=ar.length:=by rw [Zg,Ti]
  have hs4:=Wn szE ar
  (repeat (first | (refine oiO ?_;conv=>whnf) | (refine ⟨_,by omega,hr1,?_⟩;conv=>whnf)))
  refine ⟨⟨0,_,rfl,rfl,by omega,by omega,by omega⟩,?_⟩;intro vs' σ' hI'
  obtain ⟨j,n2,rfl,rfl,hj,hn20,hn21⟩:=hI';(conv=>whnf)
  (repeat (first | (refine oiO ?_;conv=>whnf) | (refine ⟨_,by omega,hr1,?_⟩;conv=>whnf)))
  refine ZAf (fun hj2=>?_) (fun hj2=>?_);rotate_left
  ·exact m197
  have hj2:j<ar.length:=by have hj2:(j:Int)<(ZM pl ar).length:=hj2;rw [ha4] at hj2;omega
  conv=>whnf
  refine ZAf (fun hj3=>?_) (fun hj3=>?_);rotate_left
  ·exact m197
  exact m37
 ·exact h.elim
structure Pr where
 types:List Ty
 rels:List Re
 rules:List Ru
end Go.PM.Lex
end

section
namespace Go.PM.Lex
open Go.Proofs
variable {w0:World} {nG:Nat}
end Go.PM.Lex
end

section
namespace Go.PM.Lex
open Go.Proofs
variable {w0:World} {nG:Nat}
noncomputable def ZfE (n:Nat):Zr:=fun args σ K=>match args,σ with
 | [.agg c1,.agg c2],⟨[],[],0⟩=>(∃pl1 x1 pl2 x2,c1=(Yc pl1 x1).map .d∧c2=(Xj pl2 x2).map .d∧(szE x1≤n∧wE x1≤n∧Jv x1=true)∧(Zj2 x2≤n∧wRu x2≤n∧ZbT x2=true)∧n≤4194304)∧K (.ret (.d (.bool true))) ⟨[],[],0⟩
 | _,_=>False
noncomputable def Zn5 (n:Nat):Tbl:=[(11,Zq6 Yc szE bd2 6000),(21,ZfD Xj Zj2 bd2 6000),(22,Zck Yc ZqQ Zs8 n),(13,Zck Yc ZqQ Zs8 n),(23,Zck Xj ZqR Zs9 n),(24,Zck Xj ZqR Zs9 n),(12,Zb8)]
theorem Zn6 {n:Nat} (ht:TblOK (GG w0 nG) (Zn5 n)):PCalls (GG w0 nG) 6 (ZfE n):=by
 refine pc ht Tryz.func6 ?_;intro args σ K h
 unfold ZfE at h
 split at h
 ·obtain ⟨⟨pl1,⟨a1,a2,a3,a4,a5⟩,pl2,⟨b1,b2,b3,b4⟩,rfl,rfl,⟨hz1,hw1,hr1⟩,⟨hz2,hw2,hr2⟩,hn⟩,h⟩:=h;have hl1:=Z7 _ hr1;have hl2:=ZpV hr2;have hcE:ZqQ n (.mk a1 a2 a3 a4 a5):=⟨hr1,hw1,by omega⟩
  have hcR:ZqR n ⟨b1,b2,b3,b4⟩:=⟨hr2,hw2,by omega⟩
  refine ⟨Zb [],0,false,by simp,Ta rfl,?_⟩;(conv=>whnf);refine ⟨pl1,.mk a1 a2 a3 a4 a5,n,rfl,⟨⟨by decide,by decide⟩,by decide,hz1,by omega⟩,fun r hr0 hr1'=>?_⟩;(conv=>whnf);refine ZAf (fun hc=>?_) (fun hc=>?_)
  ·exact m54
  conv=>whnf
  refine ⟨pl2,[⟨b1,b2,b3,b4⟩],n+1,rfl,⟨⟨by decide,by decide⟩,by decide,by simp only [szS];omega,by omega⟩,fun r2 hr20 hr21=>?_⟩;(conv=>whnf);refine ZAf (fun hc2=>?_) (fun hc2=>?_)
  ·exact m54
  conv=>whnf
  refine ⟨pl1,.mk a1 a2 a3 a4 a5,rfl,⟨hcE,by omega⟩,fun s1 k1 he1=>?_⟩;(conv=>whnf);refine ⟨pl1,.mk a1 a2 a3 a4 a5,rfl,⟨hcE,by omega⟩,fun s2 k2 he2=>?_⟩;rw [he1] at he2
  cases he2
  conv=>whnf
  refine ⟨pl2,⟨b1,b2,b3,b4⟩,rfl,⟨hcR,by omega⟩,fun s3 k3 he3=>?_⟩;(conv=>whnf);refine ⟨pl2,⟨b1,b2,b3,b4⟩,rfl,⟨hcR,by omega⟩,fun s4 k4 he4=>?_⟩;rw [he3] at he4
  cases he4
  conv=>whnf
  refine ZAf (fun _=>?_) (fun g=>absurd rfl g);(conv=>whnf);refine ZAf (fun _=>?_) (fun g=>absurd rfl g);(conv=>whnf);refine ZAf (fun _=>?_) (fun g=>absurd rfl g);(conv=>whnf);refine ZAf (fun _=>?_) (fun g=>absurd rfl g);exact m54
 ·exact h.elim
end Go.PM.Lex
end

section
namespace Go
variable {H:Type} {enc:TypeId×Value→H}
end Go
namespace Go.PM.Lex
open Go.Proofs Go.Proofs.YtflgockgjnddnaaGreatDoor Go.ChangeShapes Go.WideShapes Go.ChangeAt Go.RowKit
theorem Zzr:ownKnob Tryz.prog.godebug=none:=by kernel_rfl
theorem ZtS : "*" ++ "errors.errorString" = "*errors.errorString" := by decide
theorem Zta (u : TypeId) (h : Tryz.prog.typeName? 3 u = some "*errors.errorString") : u = 352 :=
 typeName_ptr_named (nm := "errors.errorString") (by rw [ZtS]; kernel_rfl) (by kernel_rfl) (by decide) u (by rw [ZtS]; exact h)
theorem ZqS {W:World} {n:String} {text:List UInt8} {g:Nat} (hg:Tryz.prog.globalNamed n=some g) (ht:(Tryz.prog.globals[g]?).map (·.type)=some 206)
  (h : laidMet Tryz.prog [(n, .iface "*errors.errorString" (.ptr (.agg [.lit (.string text)])))] W) : ∃ ev, W.cell? ⟨g, 0, none⟩ = some ev ∧ (ev = .nilIface ∨ ∃ te pe, ev = .iface te pe) := by
 obtain ⟨a1,s1,hv1,_⟩:=laid_sentinel h hg ht Tryz.underlying206 Zta Tryz.underlying352 Tryz.underlying354 rfl rfl Tryz.underlying9 (by kernel_rfl) (by kernel_rfl);refine ⟨.iface 352 (.pointer (some a1)),?_,.inr ⟨_,_,rfl⟩⟩;simpa using World.var?_cell hg hv1 0
theorem ZxW {W:World} (h:laidMetH Tryz.prog Rows.printUnlikeRow.laid W) (hsh:W.ShapedOpen Tryz.prog):GlobOK W 8:=by
 rw [MakeChecks.laidMetH_plain _ _ _ (by kernel_rfl)] at h;have h1 := laidMet.filter (fun x => x.1 == "strconv.ErrSyntax") h;have h2 := laidMet.filter (fun x => x.1 == "strconv.ErrRange") h;exact ⟨by omega,Tryz.laysM143.s1_3 W hsh,ZqS (by kernel_rfl) (by kernel_rfl) h1,ZqS (by kernel_rfl) (by kernel_rfl) h2⟩
theorem ZxX {e e':Env} {W W':World} {σ':St} {may:MemPlace→Prop} (h:Later e ⟨[],[],0⟩ W e' σ' W'):W.keptBut W' may:=by
 refine ⟨h.os,h.output,fun i hi=>?_⟩;have:=h.blocks i hi (fun j hj=>by simp at hj) (fun t ht=>by cases ht);rw [this]
 cases hh:W.heap[i]? with
 | none=>rfl
 | some o=>cases o <;> simp
def ZjU:Env:=⟨fun _=>0,fun _=>none,fun _ _=>False⟩
theorem Zv5 {W:World} (h:8≤W.heap.size):SRel (GG W 8) ZjU ⟨[],[],0⟩ W where
 inj:=fun i j hi=>by simp at hi
 box:=fun i x hx=>by simp at hx
 low:=fun i hi=>by simp at hi
 tkn:=fun t ht=>by cases ht
 own:=fun t ht=>by cases ht
 dis:=fun t t' ht=>by cases ht
 xlt:=fun b off hx=>hx.elim
 xown:=fun t ht=>by cases ht
 glob:=fun b hb=>rfl
 big:=h
end Go.PM.Lex
end

section
namespace Go.PM.Lex
open Go.Proofs Go.Proofs.YtflgockgjnddnaaGreatDoor
theorem Zv6:Rows.laid_unicode_utf8_first=Lib.firstData:=by kernel_rfl
theorem Ztb:(Rows.laid_unicode_utf8_acceptRanges:DataW Unit)=Lib.acceptData:=by kernel_rfl
theorem ZxY {W:World} (h:laidMetH Tryz.prog Rows.printUnlikeRow.laid W):Lib.Utf8Tabs 0 1 W:=by
 rw [MakeChecks.laidMetH_plain _ _ _ (by kernel_rfl)] at h;have h1:=Lib.laidMet.reads (d:=Rows.laid_unicode_utf8_first) h (.tail _ (.tail _ (.tail _ (.tail _ (.tail _ (.tail _ (.head _)))))));have h2:=Lib.laidMet.reads (d:=Rows.laid_unicode_utf8_acceptRanges) h (.tail _ (.tail _ (.tail _ (.head _))));rw [Zv6] at h1;rw [Ztb] at h2;exact utf8Tabs_of_readsT (U8Types.of196 Tryz.laysValid) ⟨by kernel_rfl,by kernel_rfl,by kernel_rfl,by kernel_rfl,by kernel_rfl,by kernel_rfl,by kernel_rfl⟩ h1 h2
variable {w0:World} {nG:Nat}
theorem Zzs (hb:1<nG) (hT:Lib.Utf8Tabs 0 1 w0):LexC w0 nG where
 name:=Zyx ⟨⟨Zpa,Vs⟩,⟨ZbH,Vf⟩,⟨ZwB,ZeE⟩,trivial⟩
 quote:=Zry ⟨⟨Zru hb hT,ZiA⟩,⟨Zdm,Jn⟩,⟨Zgv,Jp⟩,⟨Zdn,Jo⟩,⟨ZiC,ZbF⟩,trivial⟩
end Go.PM.Lex
end

section
namespace Go.PM.Lex
open Go.Proofs Go.Proofs.YtflgockgjnddnaaGreatDoor
def Ztc:DataW Unit→List Int
 | .agg xs=>xs.map fun | .lit (.int _ z)=>z | _=>0
 | _=>[]
theorem Zv7:(Rows.laid_internal_strconv_uint64pow10:DataW Unit)=Lib.tabData .u64 Lib.pow10Tab:=by kernel_rfl
theorem Zzt:(Rows.laid_math_bits_deBruijn64tab:DataW Unit)=Lib.tabData .u8 (Ztc Rows.laid_math_bits_deBruijn64tab):=by kernel_rfl
theorem Zv8:(Ztc Rows.laid_math_bits_deBruijn64tab).getD 15 0=4:=by kernel_rfl
theorem ZxZ:(Ztc Rows.laid_math_bits_deBruijn64tab).length=64:=by kernel_rfl
theorem Zzu {W:World} (h:laidMetH Tryz.prog Rows.printUnlikeRow.laid W):NumOK W 8:=by
 rw [MakeChecks.laidMetH_plain _ _ _ (by kernel_rfl)] at h;have h1 := laidMet.filter (fun x => x.1 == "internal/strconv.uint64pow10") h;have h2 := laidMet.filter (fun x => x.1 == "math/bits.deBruijn64tab") h;have k1 : laidMet Tryz.prog [("internal/strconv.uint64pow10", Lib.tabData .u64 Lib.pow10Tab)] W := by rw [← Zv7]; exact h1
 have k2 : laidMet Tryz.prog [("math/bits.deBruijn64tab", Lib.tabData .u8 (Ztc Rows.laid_math_bits_deBruijn64tab))] W := by rw [← Zzt]; exact h2
 refine ⟨by decide,Lib.tabIs_of_head (g:=3) (t:=304) (by kernel_rfl) (by kernel_rfl) Tryz.underlying304 (by kernel_rfl) (by kernel_rfl) (by kernel_rfl) k1,?_⟩;have k3:=Lib.tabIs_of_head (g:=5) (t:=334) (by kernel_rfl) (by kernel_rfl) Tryz.underlying334 (by kernel_rfl) (by kernel_rfl) (by kernel_rfl) k2;have k4:=k3.cell (g:=5) (by kernel_rfl) 15 (by rw [ZxZ];decide);rw [Zv8] at k4;exact k4
end Go.PM.Lex
end

section
namespace Go.PM.Lex
open Go.Proofs Go.Proofs.YtflgockgjnddnaaGreatDoor
theorem Yk {a b:Bool} (h1:a=true) (h2:b=true):(a && b)=true:=by rw [h1,h2];rfl
theorem ZqT {P:Program} {f:FuncId} {fn:Func} {s:ChangeSpec} {c:OpenClaim}
  (p1:laidOutB P=true) (p2:mapsRowed P=true) (p3:(P.stops == [])=true) (p4:(P.stopKnobs == [])=true) (p5:(c.plainKeys == P.plainKeys)=true) (p6:P.stopsHeard=true) (p7:P.mayEnter=true) (p8:(c.lifted == P.liftsFinal)=true) (p9:(P.make == some c.make)=true)
  (k1:c.wf (OpenSpec.ofChange s)=true) (k2:fn.params.all (P.readableRec ·)=true) (k3:namedTie P c.named s.vars=true) (k4:(c.stops == [])=true) (k5:(c.knobs == [])=true)
  (k6:(c.inPlace == P.inPlace f)=true) (k7:(c.unfollowed == P.unfollowed f)=true) (k8:(c.recurses == P.recurses f)=true) (k9:(c.named == P.varsNamed f)=true)
  (k10:(c.maps == (fn.params.toList++s.plain.varTypes P).any (P.mapsRec ·))=true) (k11:(c.ifaces == (fn.params.toList++s.plain.varTypes P).any (P.ifacesRec ·))=true) (k12:(c.mapsOut == P.mapsAmong fn.resultTypes.toList)=true)
  (k13:(c.loops == (fn.params.toList++s.plain.varTypes P).any (P.loopsFrom ·))=true) (k14:(c.wideKeys == (fn.params.toList++s.plain.varTypes P++fn.resultTypes.toList).any (P.wideKeysFrom ·))=true)
  (k15:s.vars.all (P.varReadable ·)=true) (k16:fn.resultTypes.all (fun t=>P.readableRec t && decide (t<P.types.size))=true) (k17:(c.ifacesOut == fn.resultTypes.toList.any (P.ifacesRec ·))=true) (k18:(c.loopsOut == fn.resultTypes.toList.any (P.loopsFrom ·))=true)
  (k19:c.shortTexts.isNone=true) (k20:(c.kinds == (if c.domain.isEmpty then [] else fn.params.toList.map fun t=>match P.underlying t with | some (.int k)=>some k | _=>none))=true) (k21:(c.pinned == c.pinnedBy)=true)
  (k22:(c.veiled == (fn.params.toList++s.plain.varTypes P++fn.resultTypes.toList).any (P.veiledRec ·))=true) (k23:c.veiledFits P fn.params.toList (fn.params.toList++s.plain.varTypes P++fn.resultTypes.toList)=true):joinedFacts P f fn s c=true:=by
 unfold joinedFacts
 exact (Yk (Yk (Yk (Yk (Yk (Yk (Yk (Yk (Yk (Yk (Yk (Yk (Yk (Yk (Yk (Yk (Yk (Yk (Yk (Yk (Yk (Yk (Yk (Yk (Yk (Yk (Yk (Yk (Yk (Yk (Yk k1 p1) p2) k2) k3) k4) p3) k5) p4) k6) k7) k8) k9) k10) k11) k12) k13) k14) k15) k16) k17) k18) p5) k19) p6) p7) p8) p9) k20) k21) k22) k23)
theorem jp1:laidOutB Tryz.checked.prog=true:=by kernel_rfl
theorem jp2:mapsRowed Tryz.checked.prog=true:=by kernel_rfl
theorem jp3:(Tryz.checked.prog.stops == [])=true:=by kernel_rfl
theorem jp4:(Tryz.checked.prog.stopKnobs == [])=true:=by kernel_rfl
theorem jp5:(Rows.printUnlikeRow.plainKeys == Tryz.checked.prog.plainKeys)=true:=by kernel_rfl
theorem jp6:Tryz.checked.prog.stopsHeard=true:=by kernel_rfl
theorem jp7:Tryz.checked.prog.mayEnter=true:=by kernel_rfl
theorem jp8:(Rows.printUnlikeRow.lifted == Tryz.checked.prog.liftsFinal)=true:=by kernel_rfl
theorem jp9:(Tryz.checked.prog.make == some Rows.printUnlikeRow.make)=true:=by kernel_rfl
theorem jp10:Tryz.checked.prog.mainIs=some (Rows.printUnlikeCard.stood.harness.1,Rows.printUnlikeCard.stood.harness.2.toList):=by kernel_rfl
theorem jp11:Rows.printUnlikeCard.stood.looks=Tryz.checked.prog.looks []:=by kernel_rfl
end Go.PM.Lex
end

section
namespace Go.PM
mutual
inductive PlainD (P:Program):TypeId→List D→Nat→Prop
 | int {t:TypeId} {k:IntKind} {n:Int} (h:P.underlying t=some (.int k)) (hw:(Lit.int k n).wf=true):PlainD P t [.int k n] 1
 | str {t:TypeId} {s:List UInt8} (h:P.underlying t=some .string):PlainD P t [.str s] (s.length+1)
 | bool {t:TypeId} {b:Bool} (h:P.underlying t=some .bool):PlainD P t [.bool b] 1
 | st {t:TypeId} {fs:Array Field} {ds:List D} {b:Nat} (h:P.underlying t=some (.struct fs)) (hf:PlainFs P (fs.toList.map (·.type)) ds b):PlainD P t ds (b+1)
 | sl {t e:TypeId} {rows:List (List D)} {b:Nat} (h:P.underlying t=some (.slice e)) (hr:PlainRs P e rows b):PlainD P t [.sl rows] (b+1)
inductive PlainFs (P:Program):List TypeId→List D→Nat→Prop
 | nil:PlainFs P [] [] 0
 | cons {f:TypeId} {l:List TypeId} {r ds:List D} {b c:Nat} (h1:PlainD P f r b) (h2:PlainFs P l ds c):PlainFs P (f::l) (r++ds) (b+c)
inductive PlainRs (P:Program):TypeId→List (List D)→Nat→Prop
 | nil {e:TypeId}:PlainRs P e [] 0
 | cons {e:TypeId} {r:List D} {rows:List (List D)} {b c:Nat} (h1:PlainD P e r b) (h2:PlainRs P e rows c):PlainRs P e (r::rows) (b+c)
end
structure CR (ok:Nat→Nat→Prop) (w:World) (ds:List D) (cs:List Value):Prop where
 len:ds.length=cs.length
 rel:∀(i:Nat) (x:D) (u:Value),ds[i]?=some x→cs[i]?=some u→DRel ok w x u
 one:∀u∈cs,u.oneCell'=true
theorem CR.nil {ok:Nat→Nat→Prop} {w:World}:CR ok w [] []:=⟨rfl,fun i x u h=>by simp at h,fun u h=>by cases h⟩
theorem CR.one1 {ok:Nat→Nat→Prop} {w:World} {x:D} {u:Value} (h:DRel ok w x u) (h1:u.oneCell'=true):CR ok w [x] [u]:=⟨rfl,fun i y v hy hv=>by
 match i,hy,hv with
 | 0,hy,hv=>cases hy;cases hv;exact h
 | i+1,hy,hv=>simp at hy,fun v hv=>by rw [List.mem_singleton.1 hv];exact h1⟩
theorem CR.app {ok:Nat→Nat→Prop} {w:World} {d1 d2:List D} {c1 c2:List Value} (h1:CR ok w d1 c1) (h2:CR ok w d2 c2):CR ok w (d1++d2) (c1++c2):=by
 refine ⟨by rw [Tb,Tb,h1.len,h2.len],fun i x u hx hu=>?_,fun u hu=>?_⟩
 ·by_cases hi:i<d1.length
  ·rw [TF hi] at hx;rw [TF (by rw [← h1.len];exact hi)] at hu;exact h1.rel i x u hx hu
  ·rw [TQ (by omega)] at hx;rw [TQ (by rw [← h1.len];omega),← h1.len] at hu;exact h2.rel _ x u hx hu
 ·rcases TT.1 hu with h | h
  ·exact h1.one u h
  ·exact h2.one u h
def Ztd (P:Program):List Field→Nat→Option Nat
 | [],a=>some a
 | f::l,a=>if f.offset=a then Ztd P l (a+P.cellsOf f.type) else none
def ZqU (P:Program) (S:List TypeId) (t:TypeId):Bool:=match P.underlying t with
 | some (.int _) | some .string | some .bool=>true
 | some (.struct fs)=>fs.toList.all (fun f=>S.contains f.type) && decide (Ztd P fs.toList 0=some (P.cellsOf t))
 | some (.slice e)=>S.contains e && decide (0<P.cellsOf e)
 | _=>false
section
variable {H:Type} {enc:TypeId×Value→H} {P:Program} {w:World} {ok:Nat→Nat→Prop}
theorem Zc7 {S:List TypeId} (hS:S.all (ZqU P S)=true) (hok:∀b off,ok b off) (bulk:DataW H→Nat) (bulks:List (DataW H)→Nat)
  (k1:∀k n,1≤bulk (.lit (.int k n))) (k2:∀s,s.length+1≤bulk (.lit (.string s))) (k3:∀b,1≤bulk (.lit (.bool b))) (k4:∀l,bulks l+1≤bulk (.agg l)) (k5:∀l m,bulks l+1≤bulk (.slice l m)) (k6:1≤bulk .nil) (k7:∀d l,bulk d+bulks l≤bulks (d::l)) :
  ∀(fuel:Nat) (t:TypeId) (cs:List Value) (x:DataW H×List MemPlace),t∈S→DataW.trod enc P w 0 (fun _=>true) true fuel t cs=some x→∃ds b,PlainD P t ds b∧CR ok w ds cs∧b≤bulk x.1
 | 0,t,cs,x,ht,h=>by simp [DataW.trod] at h
 | fuel+1,t,cs,x,ht,h=>by
  have hp:=Tv.1 hS t ht;unfold ZqU at hp
  split at hp
  ·rename_i k hu
   obtain ⟨n,rfl,rfl,hw⟩:=DataW.trod_int hu h;exact ⟨_,1,.int hu hw,.one1 (.int _ _) rfl,k1 _ _⟩
  ·rename_i hu
   obtain ⟨s,rfl,rfl,hw⟩:=DataW.trod_string hu h;exact ⟨[.str s.data.toList],_,.str hu,.one1 (.str _) rfl,k2 _⟩
  ·rename_i hu
   obtain ⟨b,rfl,rfl⟩:=DataW.trod_bool hu h;exact ⟨_,1,.bool hu,.one1 (.bool _) rfl,k3 _⟩
  ·rename_i fs hu
   rw [Tl,TG,Tv] at hp;obtain ⟨hp1,hp2⟩:=hp;obtain ⟨xs,n,hn,rfl,hlen,hxl,hf⟩:=DataW.trod_struct hu h;obtain rfl:fuel=n:=by omega
   have key:∀(l:List Field) (k a:Nat),fs.toList.drop k=l→Ztd P l a=some (P.cellsOf t)→∃ds b,PlainFs P (l.map (·.type)) ds b∧CR ok w ds (cs.drop a)∧b≤bulks ((xs.drop k).map (·.1)):=by
    intro l
    induction l with
    | nil =>
     intro k a hk ha
     cases ha
     exact ⟨[],0,.nil,by rw [Tz (by omega)];exact .nil,T3 _⟩
    | cons f l ih =>
     intro k a hk ha
     rw [Ztd] at ha;split at ha
     ·rename_i hoff
      have hkl:k<fs.size:=by
       have:=congrArg List.length hk;simp at this;omega
      have hfk:fs[k]?=some f:=by
       have:(fs.toList.drop k)[0]?=some f:=by rw [hk];rfl
       simpa using this
      have hd:fs.toList.drop (k+1)=l:=by rw [← Tu,hk];rfl
      obtain ⟨ds,b,g1,g2,g3⟩:=ih (k+1) _ hd ha;have hx:=hf k f hfk;rw [Tg (by omega)] at hx;have hfS:f.type∈S:=by
       have:=hp1 f (by have:=T5 (l:=fs.toList) (i:=k) (a:=f) (by simpa using hfk);exact this);simpa using this
      obtain ⟨dr,br,q1,q2,q3⟩:=Zc7 hS hok bulk bulks k1 k2 k3 k4 k5 k6 k7 fuel _ _ _ hfS hx;rw [hoff] at q2;refine ⟨dr++ds,br+b,.cons q1 g1,?_,?_⟩
      ·have e:cs.drop a=(cs.drop a).take (P.cellsOf f.type)++cs.drop (a+P.cellsOf f.type):=by rw [← Tu,List.take_append_drop]
       rw [e];exact q2.app g2
      ·have e:xs.drop k=xs[k]::xs.drop (k+1):=TM (by omega);rw [e,TJ];exact TO (Nat.add_le_add q3 g3) (k7 _ _)
     ·cases ha
   obtain ⟨ds,b,g1,g2,g3⟩:=key fs.toList 0 0 rfl hp2;rw [Sh] at g2 g3;exact ⟨ds,b+1,.st hu g1,g2,TO (Nat.add_le_add_right g3 1) (k4 _)⟩
  ·rename_i e hu
   rw [Tl,TG] at hp;obtain ⟨hp,hpos⟩:=hp;have heS:e∈S:=by simpa using hp
   rcases DataW.trod_slice hu h with ⟨rfl,rfl⟩ | ⟨a,len,cap,elems,rest,n,hn,rfl,rfl,hb,hl,hm,hlen,hel,hsp,hns⟩
   ·exact ⟨[.sl []],1,.sl hu .nil,.one1 .slnil rfl,k6⟩
   obtain rfl:fuel=n:=by omega
   obtain ⟨hs1,hs2⟩:=hsp rfl
   by_cases hc0:cap=0
   ·subst hc0;obtain rfl:len=0:=by omega
    exact ⟨[.sl []],1,.sl hu .nil,.one1 (.slz a) rfl,TO (by omega) (k5 _ _)⟩
   have hspot:a.spot=none:=by
    have h0:∃cs',w.cells? 0 (a.add (0 * P.cellsOf e)) (P.cellsOf e)=some cs':=by
     by_cases hl0:0<len
     ·have:=hel 0 hl0;rw [Tg (by omega)] at this;obtain ⟨cs',h1,_⟩:=Option.bind_eq_some_iff.1 this;exact ⟨cs',h1⟩
     ·have:=hs2 0 (by omega);rw [Tg (by omega)] at this;obtain ⟨cs',h1,_⟩:=Option.bind_eq_some_iff.1 this;exact ⟨cs',by rw [show len+0=0 by omega] at h1;exact h1⟩
    obtain ⟨cs',h1⟩:=h0;obtain ⟨_,h2,h3⟩:=World.cells?_some h1;have h4:=h3 0 hpos;rw [Tg (by omega)] at h4;have ea:(a.add (0 * P.cellsOf e)).add 0=a:=by simp [Addr.add]
    rw [ea] at h4
    cases hsp:a.spot with
    | none=>rfl
    | some q =>
     unfold World.cell? at h4
     split at h4
     ·rw [hsp] at h4;simp at h4
     ·cases h4
   obtain ⟨blk,off,sp⟩:=a;obtain rfl:sp=none:=hspot;have key:∀(m k:Nat),k+m=len→∃rows b,PlainRs P e rows b∧rows.length=m∧b≤bulks ((elems.drop k).map (·.1))∧∀(i:Nat) (r:List D),rows[i]?=some r→∃cs,cs.length=P.cellsOf e∧CR ok w r cs∧∀j,j<P.cellsOf e→w.cell? ⟨blk,off+(k+i) * P.cellsOf e+j,none⟩=cs[j]?:=by
    intro m
    induction m with
    | zero=>intro k hk;exact ⟨[],0,.nil,rfl,T3 _,fun i r h=>by simp at h⟩
    | succ m ih =>
     intro k hk
     obtain ⟨rows,b,g1,g2,g3,g4⟩:=ih (k+1) (by omega);have hx:=hel k (by omega);rw [Tg (by omega)] at hx;obtain ⟨cs',h1,h2⟩:=Option.bind_eq_some_iff.1 hx;obtain ⟨_,h3,h4⟩:=World.cells?_some h1;obtain ⟨dr,br,q1,q2,q3⟩:=Zc7 hS hok bulk bulks k1 k2 k3 k4 k5 k6 k7 fuel _ _ _ heS h2;refine ⟨dr::rows,br+b,.cons q1 g1,by rw [Td,g2],?_,fun i r hr=>?_⟩
     ·rw [TM (show k<elems.length by omega),TJ];exact TO (Nat.add_le_add q3 g3) (k7 _ _)
     ·cases i with
      | zero =>
       cases hr
       refine ⟨cs',h3,q2,fun j hj=>?_⟩;have:=h4 j hj;rw [Yf,Yf] at this;rw [Sa];exact this
      | succ i =>
       rw [T1] at hr;obtain ⟨cs,e1,e2,e3⟩:=g4 i r hr;exact ⟨cs,e1,e2,fun j hj=>by rw [show k+(i+1)=k+1+i by omega];exact e3 j hj⟩
   obtain ⟨rows,b,g1,g2,g3,g4⟩:=key len 0 (by omega);rw [Sh] at g3;refine ⟨[.sl rows],b+1,.sl hu g1,.one1 ?_ rfl,TO (Nat.add_le_add_right g3 1) (k5 _ _)⟩;subst g2;refine .sl rows blk off cap (P.cellsOf e) (fun i j=>(w.cell? ⟨blk,off+i * P.cellsOf e+j,none⟩).getD default) hl (fun r hr=>?_) (fun i j hi hj=>?_) (fun i j _ _=>hok _ _) (fun i j x hx=>?_)
   ·obtain ⟨i,hi,rfl⟩:=TW hr;obtain ⟨cs,e1,e2,_⟩:=g4 i _ (Tg hi);rw [e2.len,e1]
   ·obtain ⟨cs,e1,e2,e3⟩:=g4 i _ (Tg hi);have:=e3 j hj;rw [T7,Tg (by omega)] at this;simp only [this,Option.getD_some]
   ·obtain ⟨r,hr,hx⟩:=Option.bind_eq_some_iff.1 hx;obtain ⟨cs,e1,e2,e3⟩:=g4 i r hr;have hjr:=(Th.1 hx).1;have hj:j<P.cellsOf e:=by rw [← e1,← e2.len];exact hjr
    have:=e3 j hj;rw [T7,Tg (by omega)] at this;simp only [this,Option.getD_some];exact e2.rel j x _ hx (Tg (by omega))
  ·cases hp
end
end Go.PM
end

section
namespace Go.PM
def stB (P:Program) (t:TypeId) (tys:List TypeId):Bool:=match P.underlying t with | some (.struct fs)=>decide (fs.toList.map (·.type)=tys) | _=>false
def slB (P:Program) (t e:TypeId):Bool:=match P.underlying t with | some (.slice u)=>decide (u=e) | _=>false
def Zx0 (P:Program) (t:TypeId) (k:IntKind):Bool:=match P.underlying t with | some (.int u)=>decide (u=k) | _=>false
def Zzv (P:Program) (t:TypeId):Bool:=match P.underlying t with | some .string=>true | _=>false
section
variable {P:Program} {t e:TypeId} {ds:List D} {b:Nat}
theorem PlainD.inv_st {tys:List TypeId} (h:PlainD P t ds b) (hu:stB P t tys=true):∃c,b=c+1∧PlainFs P tys ds c:=by
 unfold stB at hu
 cases h with
 | st h hf=>rw [h] at hu;simp only [TG] at hu;exact ⟨_,rfl,hu ▸ hf⟩
 | int h _=>rw [h] at hu;cases hu
 | str h=>rw [h] at hu;cases hu
 | bool h=>rw [h] at hu;cases hu
 | sl h _=>rw [h] at hu;cases hu
theorem PlainD.inv_sl (h:PlainD P t ds b) (hu:slB P t e=true):∃rows c,ds=[.sl rows]∧b=c+1∧PlainRs P e rows c:=by
 unfold slB at hu
 cases h with
 | sl h hr=>rw [h] at hu;simp only [TG] at hu;exact ⟨_,_,rfl,rfl,hu ▸ hr⟩
 | int h _=>rw [h] at hu;cases hu
 | str h=>rw [h] at hu;cases hu
 | bool h=>rw [h] at hu;cases hu
 | st h _=>rw [h] at hu;cases hu
theorem PlainD.inv_int {k:IntKind} (h:PlainD P t ds b) (hu:Zx0 P t k=true):∃n,ds=[.int k n]∧b=1∧(Lit.int k n).wf=true:=by
 unfold Zx0 at hu
 cases h with
 | int h hw=>rw [h] at hu;simp only [TG] at hu;subst hu;exact ⟨_,rfl,rfl,hw⟩
 | sl h _=>rw [h] at hu;cases hu
 | str h=>rw [h] at hu;cases hu
 | bool h=>rw [h] at hu;cases hu
 | st h _=>rw [h] at hu;cases hu
theorem PlainD.inv_str (h:PlainD P t ds b) (hu:Zzv P t=true):∃s,ds=[.str s]∧b=s.length+1:=by
 unfold Zzv at hu
 cases h with
 | str h=>exact ⟨_,rfl,rfl⟩
 | sl h _=>rw [h] at hu;cases hu
 | int h _=>rw [h] at hu;cases hu
 | bool h=>rw [h] at hu;cases hu
 | st h _=>rw [h] at hu;cases hu
theorem PlainFs.inv {f:TypeId} {l:List TypeId} (h:PlainFs P (f::l) ds b):∃r ds' b1 c,ds=r++ds'∧b=b1+c∧PlainD P f r b1∧PlainFs P l ds' c:=by
 cases h with
 | cons h1 h2=>exact ⟨_,_,_,_,rfl,rfl,h1,h2⟩
theorem PlainFs.inv0 (h:PlainFs P [] ds b):ds=[]∧b=0:=by cases h;exact ⟨rfl,rfl⟩
end
end Go.PM
namespace Go.PM.Lex
open Go.Proofs
def plZ:Pl:=fun n=>if n % 2=0 then (n / 2:Nat) else -((n / 2:Nat):Int) - 1
def zc (z:Int):Nat:=if 0≤z then 2 * z.toNat else 2 * (-z - 1).toNat+1
theorem ZqV (z:Int):plZ (zc z)=z:=by
 unfold plZ zc
 by_cases h:0≤z
 ·rw [Tf h,Tf (by omega)];omega
 ·rw [Tc h,Tc (by omega)];omega
theorem Zn7 {α:Type} {P:Program} {e:TypeId} {enc:α→List D} {sz w:α→Nat} {p:α→Bool}:∀{rows:List (List D)} {b:Nat},PlainRs P e rows b→(∀r c,c≤b→PlainD P e r c→∃x,r=enc x∧sz x+1≤2 * c∧w x+1≤2 * c∧p x=true)→∃xs,rows=xs.map enc∧szS sz xs≤2 * b∧szS w xs≤2 * b∧xs.all p=true
 | [],b,h,hd=>⟨[],rfl,by simp [szS],by simp [szS],rfl⟩
 | r::rows,b,h,hd=>by
  cases h with
  | cons h1 h2 =>
   rename_i b1 c
   obtain ⟨x,rfl,g1,g2,g5⟩:=hd r b1 (by omega) h1;obtain ⟨xs,rfl,g3,g4,g6⟩:=Zn7 h2 fun r c' hc=>hd r c' (by omega)
   exact ⟨x::xs,rfl,by simp only [szS];omega,by simp only [szS];omega,by rw [List.all_cons,g5,g6];rfl⟩
theorem Zx1 {n:Int} (h:(Lit.int .u8 n).wf=true):∃k:Nat,n=k:=by
 have:0≤n∧n≤255:=by simpa [Lit.wf,IntKind.min,IntKind.max,IntKind.signed,IntKind.bits] using h
 exact ⟨n.toNat,by omega⟩
theorem Zx2 {n:Int} (h:(Lit.int .i64 n).wf=true):Zx4 n=true:=by
 have:-9223372036854775808≤n∧n≤9223372036854775807:=by simpa [Lit.wf,IntKind.min,IntKind.max,IntKind.signed,IntKind.bits] using h
 simp only [Zx4,Tl,TG];omega
theorem stE:stB Tryz.prog 24 [5,9,2,22,3]=true:=by kernel_rfl
theorem stL:stB Tryz.prog 60 [5,9,22,48,3]=true:=by kernel_rfl
theorem ZAd:stB Tryz.prog 50 [9,22,48,3]=true:=by kernel_rfl
theorem slE:slB Tryz.prog 22 24=true:=by kernel_rfl
theorem slL:slB Tryz.prog 48 60=true:=by kernel_rfl
theorem Zzw:Zzv Tryz.prog 9=true:=by kernel_rfl
theorem Zzx:Zx0 Tryz.prog 3 .i64=true:=by kernel_rfl
theorem ZAe:Zx0 Tryz.prog 2 .i64=true:=by kernel_rfl
theorem bU8:Zx0 Tryz.prog 5 .u8=true:=by kernel_rfl
theorem ZzQ:∀(n:Nat) (ds:List D) (b:Nat),b≤n→PlainD Tryz.prog 24 ds b→∃x,ds=Yc plZ x∧szE x+1≤2 * b∧wE x+1≤2 * b∧Jv x=true
 | n,ds,b,hb,h=>by
  obtain ⟨c,rfl,hf⟩:=h.inv_st stE
  cases n with
  | zero=>omega
  | succ n =>
   obtain ⟨_,_,b1,c1,rfl,rfl,h1,hf⟩:=hf.inv;obtain ⟨_,_,b2,c2,rfl,rfl,h2,hf⟩:=hf.inv;obtain ⟨_,_,b3,c3,rfl,rfl,h3,hf⟩:=hf.inv;obtain ⟨_,_,b4,c4,rfl,rfl,h4,hf⟩:=hf.inv;obtain ⟨_,_,b5,c5,rfl,rfl,h5,hf⟩:=hf.inv;obtain ⟨rfl,rfl⟩:=hf.inv0;obtain ⟨q1,rfl,rfl,w1⟩:=h1.inv_int bU8;obtain ⟨q1,rfl⟩:=Zx1 w1;obtain ⟨q2,rfl,rfl⟩:=h2.inv_str Zzw;obtain ⟨q3,rfl,rfl,w3⟩:=h3.inv_int ZAe;have p3:=Zx2 w3;obtain ⟨rows4,d4,rfl,rfl,hr4⟩:=h4.inv_sl slE;obtain ⟨q4,rfl,g4,e4,p4⟩:=Zn7 (enc:=Yc plZ) (sz:=szE) (w:=wE) (p:=Jv) hr4 fun r c hc hd=>ZzQ n r c (by omega) hd
   obtain ⟨q5,rfl,rfl,-⟩:=h5.inv_int Zzx;refine ⟨.mk q1 q2 q3 q4 (zc q5),?_,?_,?_,?_⟩
   ·simp only [Yc,Zg,Zs,JR,ZqV];rfl
   ·simp only [szE,Zfb,Zbf,Zb5];omega
   ·simp only [wE,Zfc,Zdx,Zhw];omega
   ·simp only [Jv,U7,Zaj,ZeQ,p3,p4];rfl
theorem Zv9 {b:Nat} {ds:List D} (h:PlainD Tryz.prog 24 ds b):∃x,ds=Yc plZ x∧szE x+1≤2 * b∧wE x+1≤2 * b∧Jv x=true:=ZzQ b ds b (Tq _) h
theorem ZzR:∀(n:Nat) (ds:List D) (b:Nat),b≤n→PlainD Tryz.prog 60 ds b→∃x,ds=Xi plZ x∧szL x+1≤2 * b∧wL x+1≤2 * b∧Zj1 x=true
 | n,ds,b,hb,h=>by
  obtain ⟨c,rfl,hf⟩:=h.inv_st stL
  cases n with
  | zero=>omega
  | succ n =>
   obtain ⟨_,_,b1,c1,rfl,rfl,h1,hf⟩:=hf.inv;obtain ⟨_,_,b2,c2,rfl,rfl,h2,hf⟩:=hf.inv;obtain ⟨_,_,b3,c3,rfl,rfl,h3,hf⟩:=hf.inv;obtain ⟨_,_,b4,c4,rfl,rfl,h4,hf⟩:=hf.inv;obtain ⟨_,_,b5,c5,rfl,rfl,h5,hf⟩:=hf.inv;obtain ⟨rfl,rfl⟩:=hf.inv0;obtain ⟨q1,rfl,rfl,w1⟩:=h1.inv_int bU8;obtain ⟨q1,rfl⟩:=Zx1 w1;obtain ⟨q2,rfl,rfl⟩:=h2.inv_str Zzw;obtain ⟨rows3,d3,rfl,rfl,hr3⟩:=h3.inv_sl slE;obtain ⟨q3,rfl,g3,e3,p3⟩:=Zn7 (enc:=Yc plZ) (sz:=szE) (w:=wE) (p:=Jv) hr3 fun r c hc hd=>Zv9 hd
   obtain ⟨rows4,d4,rfl,rfl,hr4⟩:=h4.inv_sl slL;obtain ⟨q4,rfl,g4,e4,p4⟩:=Zn7 (enc:=Xi plZ) (sz:=szL) (w:=wL) (p:=Zj1) hr4 fun r c hc hd=>ZzR n r c (by omega) hd
   obtain ⟨q5,rfl,rfl,-⟩:=h5.inv_int Zzx;refine ⟨.mk q1 q2 q3 q4 (zc q5),?_,?_,?_,?_⟩
   ·simp only [Xi,Zg,Zs,JR,ZqV];rfl
   ·simp only [szL,Zfb,Zbf,Zb5];omega
   ·simp only [wL,Zfc,Zdx,Zhw];omega
   ·simp only [Zj1,U7,Zaj,ZeQ,p3,p4];rfl
theorem Zzy {b:Nat} {ds:List D} (h:PlainD Tryz.prog 60 ds b):∃x,ds=Xi plZ x∧szL x+1≤2 * b∧wL x+1≤2 * b∧Zj1 x=true:=ZzR b ds b (Tq _) h
theorem Zzz:∀(n:Nat) (ds:List D) (b:Nat),b≤n→PlainD Tryz.prog 50 ds b→∃x,ds=Xj plZ x∧Zj2 x+1≤2 * b∧wRu x+1≤2 * b∧ZbT x=true
 | n,ds,b,hb,h=>by
  obtain ⟨c,rfl,hf⟩:=h.inv_st ZAd
  cases n with
  | zero=>omega
  | succ n =>
   obtain ⟨_,_,b1,c1,rfl,rfl,h1,hf⟩:=hf.inv;obtain ⟨_,_,b2,c2,rfl,rfl,h2,hf⟩:=hf.inv;obtain ⟨_,_,b3,c3,rfl,rfl,h3,hf⟩:=hf.inv;obtain ⟨_,_,b4,c4,rfl,rfl,h4,hf⟩:=hf.inv;obtain ⟨rfl,rfl⟩:=hf.inv0;obtain ⟨q1,rfl,rfl⟩:=h1.inv_str Zzw;obtain ⟨rows2,d2,rfl,rfl,hr2⟩:=h2.inv_sl slE;obtain ⟨q2,rfl,g2,e2,p2⟩:=Zn7 (enc:=Yc plZ) (sz:=szE) (w:=wE) (p:=Jv) hr2 fun r c hc hd=>Zv9 hd
   obtain ⟨rows3,d3,rfl,rfl,hr3⟩:=h3.inv_sl slL;obtain ⟨q3,rfl,g3,e3,p3⟩:=Zn7 (enc:=Xi plZ) (sz:=szL) (w:=wL) (p:=Zj1) hr3 fun r c hc hd=>Zzy hd
   obtain ⟨q4,rfl,rfl,-⟩:=h4.inv_int Zzx;refine ⟨.mk q1 q2 q3 (zc q4),?_,?_,?_,?_⟩
   ·simp only [Xj,Zg,Zs,JR,ZqV];rfl
   ·simp only [Zj2,Zfb,Zbf,Zb5];omega
   ·simp only [wRu,Zfc,Zdx,Zhw];omega
   ·simp only [ZbT,U7,Zaj,ZeQ,p2,p3];rfl
theorem Zx3 {b:Nat} {ds:List D} (h:PlainD Tryz.prog 50 ds b):∃x,ds=Xj plZ x∧Zj2 x+1≤2 * b∧wRu x+1≤2 * b∧ZbT x=true:=Zzz b ds b (Tq _) h
end Go.PM.Lex
end

section
namespace Go.PM.Lex
open Go.Proofs Go.Proofs.YtflgockgjnddnaaGreatDoor
def plainS:List TypeId:=[44,37,38,39,40,41,42,64,68,50,71,73,75,66,61,148,62,24,22,60,48,69,9,3,5,2,4]
theorem ZqW:plainS.all (ZqU Tryz.prog plainS)=true:=by kernel_rfl
theorem Zte:∀b off,okc ZjU ⟨[],[],0⟩ b off:=fun b off=>⟨fun h=>h,fun i hi=>by simp at hi,fun t ht=>by cases ht⟩
section
variable {H:Type} {enc:TypeId×Value→H} {W:World} {nG:Nat}
theorem ZjV {t:TypeId} {cs:Array Value} {d:DataW H} {ps:List MemPlace} (ht:t∈plainS) (h:DataW.Trod enc Tryz.prog W 0 (fun _=>true) true t (.agg cs) d ps) :
  ∃ds b,PlainD Tryz.prog t ds b∧VRel (GG W nG) ZjU ⟨[],[],0⟩ W (.agg (ds.map .d)) (.agg cs)∧b≤Rows.uptoBulk d:=by
 obtain ⟨fuel,hf⟩:=h;obtain ⟨ds,b,h1,h2,h3⟩:=Zc7 ZqW Zte Rows.uptoBulk Rows.uptoBulkAll (fun _ _=>Tq _) (fun _=>Tq _) (fun _=>Tq _) (fun _=>Tq _) (fun l m=>by simp only [Rows.uptoBulk];omega) (Tq _) (fun _ _=>Tq _) fuel t _ _ ht hf;have hc:(Value.agg cs).cells.toList=cs.toList:=rfl;rw [hc] at h2;refine ⟨ds,b,h1,.agg _ _ (by rw [Ti,h2.len,Sf]) (fun i x u hx hu=>?_) (fun u hu=>h2.one u (by simpa using hu)),h3⟩;rw [TL] at hx;obtain ⟨y,hy,rfl⟩:=Option.map_eq_some_iff.1 hx;exact .d _ _ (h2.rel i y u hy (by simpa using hu))
theorem Ztf {cs:Array Value} {d:DataW H} {ps:List MemPlace} (h:DataW.Trod enc Tryz.prog W 0 (fun _=>true) true 24 (.agg cs) d ps) :
  ∃x,VRel (GG W nG) ZjU ⟨[],[],0⟩ W (.agg ((Yc plZ x).map .d)) (.agg cs)∧szE x+1≤2 * Rows.uptoBulk d∧wE x+1≤2 * Rows.uptoBulk d∧Jv x=true:=by
 obtain ⟨ds,b,h1,h2,h3⟩:=ZjV (nG:=nG) (by decide) h;obtain ⟨x,rfl,g1,g2,g3⟩:=Zv9 h1;exact ⟨x,h2,by omega,by omega,g3⟩
theorem Ztg {cs:Array Value} {d:DataW H} {ps:List MemPlace} (h:DataW.Trod enc Tryz.prog W 0 (fun _=>true) true 50 (.agg cs) d ps) :
  ∃x,VRel (GG W nG) ZjU ⟨[],[],0⟩ W (.agg ((Xj plZ x).map .d)) (.agg cs)∧Zj2 x+1≤2 * Rows.uptoBulk d∧wRu x+1≤2 * Rows.uptoBulk d∧ZbT x=true:=by
 obtain ⟨ds,b,h1,h2,h3⟩:=ZjV (nG:=nG) (by decide) h;obtain ⟨x,rfl,g1,g2,g3⟩:=Zx3 h1;exact ⟨x,h2,by omega,by omega,g3⟩
end
end Go.PM.Lex
end
