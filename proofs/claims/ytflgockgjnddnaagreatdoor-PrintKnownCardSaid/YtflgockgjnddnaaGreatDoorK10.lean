/- A part of the proof: plain logic, contracts and laws over the given program. -/
import Derived.Test.YtflgockgjnddnaaGreatDoorRows
import Derived.Test.YtflgockgjnddnaaGreatDoorTie
import Derived.Test.YtflgockgjnddnaaGreatDoorCards
import Derived.ProofKit
import Derived.OpenShut
import Derived.LaidMore
import Derived.Lay
import Derived.LaidSub
import Derived.SevenTiedAt
import Derived.Stop.Joined
import Derived.Stop.LaidErr
import Derived.Lib.LaidU8T
import Derived.Lib.LaidTab
import Derived.JoinedOf
import Derived.Test.YtflgockgjnddnaaGreatDoorK09
set_option linter.unusedVariables false
set_option linter.unusedSimpArgs false
set_option linter.all false
set_option maxRecDepth 100000
set_option maxHeartbeats 16000000
section
namespace Go.PM.Lex
open Go.Proofs
def isB (s w:Bs):Bool:=match ZV 65536 16384 (WH 64) s with
 | .ok v _=>ZO v && (decide (exT v=w) && Zoy (ZV 65536 16384 (WH 64) w))
 | .err _ _=>false
theorem is0:isB [97,45,98,45,40,99,45,100,41] [97,32,45,32,98,32,45,32,40,99,32,45,32,100,41]=true:=by decide +kernel
theorem is1:isB [45,40,97,43,49,41] [45,40,97,32,43,32,49,41]=true:=by decide +kernel
theorem is2:isB [40,45,97,41,43,49] [45,97,32,43,32,49]=true:=by decide +kernel
theorem is3:isB [48,120,102,102,102,102,102,102,102,102,102,102,102,102,102,102,102,102] [48,120,102,102,102,102,102,102,102,102,102,102,102,102,102,102,102,102]=true:=by decide +kernel
theorem is4:isB [48,120,49,48] [49,54]=true:=by decide +kernel
theorem is5:isB [36,65,40,110,105,108,41] [36,65,40,110,105,108,41]=true:=by decide +kernel
theorem is6:isB [36,66,40,41] [36,66]=true:=by decide +kernel
theorem is7:isB [91,95,44,34,195,188,92,110,34,93] [91,95,44,32,34,195,188,92,110,34,93]=true:=by decide +kernel
theorem is8:isB [40,97,42,98,41,43,99,42,40,100,43,101,41] [97,32,42,32,98,32,43,32,99,32,42,32,40,100,32,43,32,101,41]=true:=by decide +kernel
theorem is9:isB [45,40,45,97,41] [45,45,97]=true:=by decide +kernel
theorem Zyk:isB [126,40,97,32,98,97,110,100,32,98,41] [126,40,97,32,98,97,110,100,32,98,41]=true:=by decide +kernel
theorem Zyl:isB [40,97,32,98,111,114,32,98,41,32,98,120,111,114,32,99] [97,32,98,111,114,32,98,32,98,120,111,114,32,99]=true:=by decide +kernel
theorem Zym:isB [97,32,98,111,114,32,40,98,32,98,120,111,114,32,99,41] [97,32,98,111,114,32,40,98,32,98,120,111,114,32,99,41]=true:=by decide +kernel
theorem Zyn:isB [115,117,98,115,116,114,40,97,44,49,43,50,44,45,51,41] [115,117,98,115,116,114,40,97,44,32,49,32,43,32,50,44,32,45,51,41]=true:=by decide +kernel
theorem Zyo:isB [40,40,97,41,41] [97]=true:=by decide +kernel
theorem Zyp:isB [97,32,115,104,108,32,40,98,32,115,104,108,32,99,41] [97,32,115,104,108,32,40,98,32,115,104,108,32,99,41]=true:=by decide +kernel
def bigT:Bs:=[112,40,49,41,46,32,105,110,105,116,32,99,61,67,60,65,44,66,62,32,99,111,109,112,32,67,60,75,62,58,68,60,75,62,123,113,40,120,41,58,45,33,114,40,120,41,44,110,61,99,111,117,110,116,58,123,115,40,120,41,125,44,109,61,109,105,110,32,120,43,49,58,123,115,40,120,41,125,46,32,111,118,101,114,114,105,100,101,32,114,125,32,100,101,99,108,32,112,40,120,58,110,117,109,98,101,114,41,111,117,116,112,117,116,32,100,101,99,108,32,113,40,41,32,105,110,108,105,110,101,32,105,110,112,117,116,32,116,121,112,101,32,78,60,58,110,117,109,98,101,114,32,116,121,112,101,32,82,61,91,97,58,78,44,98,58,82,93,32,116,121,112,101,32,84,61,65,123,125,124,66,123,108,58,84,125]
def Zxw:Bs:=[116,121,112,101,32,78,32,60,58,32,110,117,109,98,101,114,10,116,121,112,101,32,82,32,61,32,91,97,58,32,78,44,32,98,58,32,82,93,10,116,121,112,101,32,84,32,61,32,65,32,123,125,32,124,32,66,32,123,108,58,32,84,125,10,100,101,99,108,32,112,40,120,58,32,110,117,109,98,101,114,41,32,111,117,116,112,117,116,10,100,101,99,108,32,113,40,41,32,105,110,112,117,116,32,105,110,108,105,110,101,10,99,111,109,112,32,67,60,75,62,32,58,32,68,60,75,62,32,123,10,111,118,101,114,114,105,100,101,32,114,10,113,40,120,41,32,58,45,32,33,114,40,120,41,44,32,110,32,61,32,99,111,117,110,116,32,58,32,123,32,115,40,120,41,32,125,44,32,109,32,61,32,109,105,110,32,120,32,43,32,49,32,58,32,123,32,115,40,120,41,32,125,46,10,125,10,105,110,105,116,32,99,32,61,32,67,60,65,44,32,66,62,10,112,40,49,41,46,10]
def ZpB:Bool:=match ZV 65536 16384 Wh bigT with
 | .ok v _=>ZbL v && (decide (unT v=Zxw) && Zoy (ZV 65536 16384 Wh Zxw))
 | .err _ _=>false
theorem Ztm:ZpB=true:=by decide +kernel
def aE:Ex:=.mk 1 [97] 0 [] 0
def zE:Ex:=.mk 0 [] 0 [] 0
def badL:List Ex:=[zE,.mk 1 [99,111,117,110,116] 0 [] 0,.mk 1 [95] 0 [] 0,.mk 1 [] 0 [] 0,.mk 4 [255] 0 [] 0,.mk 4 [1] 0 [] 0,.mk 8 [] 0 [] 0,.mk 10 [] 0 [aE] 0,.mk 1 [97] 0 [aE] 0,.mk 1 [97] 1 [] 0,.mk 7 [] 0 [] 0,.mk 6 [97] 0 [] 0,.mk 22 [] 0 [aE,aE] 0,.mk 26 [] 0 [] 0,.mk 6 [] 0 [zE] 0]
def badR:List Ru:=[⟨[],[],[],0⟩,⟨[110,105,108],[],[],0⟩,⟨[112],[],[.mk 0 [] [] [] 0],0⟩,⟨[112],[],[.mk 3 [] [aE] [] 0],0⟩,⟨[112],[],[.mk 9 [] [aE] [] 0],0⟩,⟨[112],[],[.mk 1 [] [] [] 0],0⟩,⟨[112],[],[.mk 1 [113] [] [.mk 1 [113] [] [] 0] 0],0⟩,⟨[112],[],[.mk 4 [113] [aE,aE] [] 0],0⟩]
def badUn:List Un:=[.mk [⟨3,[84],[],[],[],0⟩] [] [] [] [] [],.mk [⟨9,[84],[],[],[],0⟩] [] [] [] [] [],.mk [⟨1,[84],[110,117,109,98,101,114],[⟨[97],[84]⟩],[],0⟩] [] [] [] [] [],.mk [] [⟨[],[],false,false,false,0⟩] [] [] [] [],.mk [] [] [] [.mk [67] [] [] [[84]] .nil 0] [] [],.mk [] [] [] [] [⟨[99],[],[],0⟩] [],.mk [] [] [] [] [] [⟨[],0⟩],.mk [⟨2,[84],[],[⟨[97],[]⟩],[],0⟩] [] [] [] [] []]
def plQ:Pl:=fun _=>0
theorem ZoU:(badL.all fun x=>!ZO x && decide (wE x≤100))=true:=by decide +kernel
theorem ZoV:(badR.all fun x=>!Yq x && decide (wRu x≤100))=true:=by decide +kernel
theorem ZoW:(badUn.all fun x=>!ZbL x && decide (wUn x≤100))=true:=by decide +kernel
def JY:Nat→Ex
 | 0=>aE
 | n+1=>.mk 8 [] 0 [JY n] 0
def ZpC {α:Type}:Top α→Bool | .ok _ _=>false | .err _ e=>decide (e=3∨e=151)
theorem Zwi:(ZO (JY 64) && (Zdk (JY 64) && (decide ((exT (JY 64)).length<1000) && (decide (wE (JY 64)≤1000) && Zoy (ZV 65536 16384 (WH 64) (exT (JY 64)))))))=true:=by decide +kernel
theorem Zwj:(ZO (JY 65) && (Zdk (JY 65) && (decide ((exT (JY 65)).length<1000) && (decide (wE (JY 65)≤1000) && ZpC (ZV 65536 16384 (WH 64) (exT (JY 65)))))))=true:=by decide +kernel
def Znl:Ru:=⟨[112],List.replicate 13 aE,[],0⟩
def Ztn:Ru:=⟨[112],List.replicate 13 zE,[],0⟩
theorem ZoX:(Yq Znl && (Zbf Znl && (decide (wRu Znl≤1000) && ZpC (ZV 65536 16384 Wh (ruT Znl)))))=true:=by decide +kernel
theorem ZoY:(!Yq Ztn && decide (wRu Ztn≤1000))=true:=by decide +kernel
theorem ZoZ {s:Bs} {v:Ex} {L:List Tok} (h:ZV 65536 16384 (WH 64) s=.ok v L):okE v∧wE v≤200000:=by
 unfold ZV at h
 split at h
 ·cases h
 rename_i hs
 split at h
 ·cases h
 split at h
 ·rename_i h1
  cases h
  obtain ⟨g1,g2⟩:=Znk (s.length+1) ((16384:Nat):Int) 0 s
  obtain ⟨k1,k2,k3⟩:=Zfz 64 _ _ _ g1 h1
  have k4:=Zfh s ((16384:Nat):Int)
  have k5:(Wm (s.length+1) ((16384:Nat):Int) 0 s).1.length≤16384:=k4
  dsimp only at k3
  exact ⟨k1,by omega⟩
 ·cases h
 ·cases h
end Go.PM.Lex
end

section
namespace Go.PM.Lex
open Go.Proofs
variable {w0:World} {nG:Nat}
structure Pr where
 types:List Ty
 rels:List Re
 rules:List Ru
end Go.PM.Lex
end

section
namespace Go.PM.Lex
open Go.Proofs
variable {w0:World} {nG:Nat}
end Go.PM.Lex
end

section
namespace Go.PM.Lex
open Go.Proofs
variable {w0:World} {nG:Nat}
noncomputable def Zhb:Zu:=fun args σ K=>match args,σ with
 | [.d (.str s),.d (.str w)],⟨[],[],0⟩=>(isB s w=true∧s.length<1000∧w.length<1000)∧K (.ret (.d (.bool true))) ⟨[],[],0⟩
 | _,_=>False
theorem Ziy:Zc Zhb:=fun args σ K K' hK h=>by
 unfold Zhb at h ⊢
 split at h
 ·exact ⟨h.1,hK _ _ h.2⟩
 ·exact h.elim
noncomputable def Zto:Tbl:=[(14,Zdb),(13,Zpr 200000)]
theorem Ztp (ht:TblOK (GG w0 nG) Zto):PCalls (GG w0 nG) 27 Zhb:=by
 refine pc ht Tryz.func27 ?_
 intro args σ K h
 unfold Zhb at h
 split at h
 ·rename_i s w
  obtain ⟨⟨hb,hs,hw⟩,h⟩:=h
  refine ⟨Zb [],0,false,by simp,Tb rfl,?_⟩
  conv=>whnf
  refine ⟨by omega,fun x hx=>?_⟩
  unfold isB at hb
  rw [hx] at hb
  cases x with
  | err p e=>cases hb
  | ok v L =>
   simp only [Tj,Tz] at hb
   obtain ⟨hm,hT,hr⟩:=hb
   obtain ⟨⟨_,hrg⟩,hwv⟩:=ZoZ hx
   obtain ⟨a1,a2,a3,a4,a5⟩:=v
   unfold Zoc
   dsimp only
   conv=>whnf
   refine ⟨Zd L s.length,.mk a1 a2 a3 a4 a5,rfl,⟨fun _=>⟨hrg,by rw [hT];omega⟩,hwv,by decide⟩,fun g=>absurd (hm.symm.trans g) (by decide),fun _ y hy=>?_⟩
   rw [hT] at hy ⊢
   rw [hy] at hr
   cases y with
   | err p e=>cases hr
   | ok u M =>
    rw [Yy]
    dsimp only
    conv=>whnf
    have e:decide (w=w)=true:=SB rfl
    rw [e]
    exact h
 ·exact h.elim
def aB (k:Nat):List PV:=[.d (.int .u8 1),.d (.str [97]),.d (.int .i64 0),.sl k 24 [],.d (.int .i64 0)]
noncomputable def ZkP:Tbl:=[(27,Zhb),(28,ZbK),(26,ZkK 200000),(13,Zpr 200000),(24,ZkI 200000),(12,W7)]
theorem ZkQ (ht:TblOK (GG w0 nG) ZkP):PCalls (GG w0 nG) 8 W7:=by
 refine pc ht Tryz.func8 ?_
 intro args σ K h
 unfold W7 at h
 split at h
 ·refine ⟨Zb [
   (8,⟨[10],[1,7,8,9],fun vs σ=>∃(i:Nat) (b1 b2 b3 b4 b5 b6:D),vs=[.d (.int .i64 i)]∧σ=⟨[.cells 44 [.d b1,.d b2,.d b3,.d b4,.d b5,.d b6],.cells 24 (aB 0)],[0],1⟩∧i≤badL.length,fun vs _=>match vs with | [.d (.int _ i)]=>((badL.length:Int) - i).toNat | _=>0⟩),
   (15,⟨[14],[1,7,8,13],fun vs σ=>∃(i:Nat) (b1 b2 b3 b4 b5 b6:D),vs=[.d (.int .i64 i)]∧σ=⟨[.cells 44 [.d b1,.d b2,.d b3,.d b4,.d b5,.d b6],.cells 24 (aB 0)],[0],1⟩∧i≤badR.length,fun vs _=>match vs with | [.d (.int _ i)]=>((badR.length:Int) - i).toNat | _=>0⟩),
   (22,⟨[18],[1,7,8,17],fun vs σ=>∃(i:Nat) (b1 b2 b3 b4 b5 b6:D),vs=[.d (.int .i64 i)]∧σ=⟨[.cells 44 [.d b1,.d b2,.d b3,.d b4,.d b5,.d b6],.cells 24 (aB 0)],[0],1⟩∧i≤badUn.length,fun vs _=>match vs with | [.d (.int _ i)]=>((badUn.length:Int) - i).toNat | _=>0⟩),
   (29,⟨[22],[1,7,8,21],fun vs σ=>∃(i:Nat) (b1 b2 b3 b4 b5 b6:D),vs=[.d (.int .i64 i)]∧σ=⟨[.cells 44 [.d b1,.d b2,.d b3,.d b4,.d b5,.d b6],.cells 24 (aB 0),.cells 24 ((YU plQ (JY i)).map .d)],[0],1⟩∧i≤64,fun vs _=>match vs with | [.d (.int _ i)]=>((64:Int) - i).toNat | _=>0⟩),
   (37,⟨[29,30],[1,7,8,24,26,28],fun vs σ=>∃(i:Nat) (b1 b2 b3 b4 b5 b6 c1 c2 c3 c4 c5:D),vs=[.sl 0 24 (List.replicate i (YU plQ aE)),.d (.int .i64 i)]∧σ=⟨[.cells 44 [.d b1,.d b2,.d b3,.d b4,.d b5,.d b6],.cells 24 (aB 1),.cells 24 [.d c1,.d c2,.d c3,.d c4,.d c5]],toks 2,2⟩∧i≤13,fun vs _=>match vs with | [_,.d (.int _ i)]=>((13:Int) - i).toNat | _=>0⟩)],0,false,by simp,Tb rfl,?_⟩
  conv=>whnf
  refine ⟨⟨is0,by decide,by decide⟩,?_⟩
  conv=>whnf
  refine ⟨⟨is1,by decide,by decide⟩,?_⟩
  conv=>whnf
  refine ⟨⟨is2,by decide,by decide⟩,?_⟩
  conv=>whnf
  refine ⟨⟨is3,by decide,by decide⟩,?_⟩
  conv=>whnf
  refine ⟨⟨is4,by decide,by decide⟩,?_⟩
  conv=>whnf
  refine ⟨⟨is5,by decide,by decide⟩,?_⟩
  conv=>whnf
  refine ⟨⟨is6,by decide,by decide⟩,?_⟩
  conv=>whnf
  refine ⟨⟨is7,by decide,by decide⟩,?_⟩
  conv=>whnf
  refine ⟨⟨is8,by decide,by decide⟩,?_⟩
  conv=>whnf
  refine ⟨⟨is9,by decide,by decide⟩,?_⟩
  conv=>whnf
  refine ⟨⟨Zyk,by decide,by decide⟩,?_⟩
  conv=>whnf
  refine ⟨⟨Zyl,by decide,by decide⟩,?_⟩
  conv=>whnf
  refine ⟨⟨Zym,by decide,by decide⟩,?_⟩
  conv=>whnf
  refine ⟨⟨Zyn,by decide,by decide⟩,?_⟩
  conv=>whnf
  refine ⟨⟨Zyo,by decide,by decide⟩,?_⟩
  conv=>whnf
  refine ⟨⟨Zyp,by decide,by decide⟩,?_⟩
  conv=>whnf
  refine ⟨by decide,fun x hx=>?_⟩
  have hx:ZV 65536 16384 Wh bigT=x:=hx
  have hbig:=Ztm
  unfold ZpB at hbig
  rw [hx] at hbig
  cases x with
  | err p e=>cases hbig
  | ok v L =>
   simp only [Tj,Tz] at hbig
   obtain ⟨hm,hT,hr⟩:=hbig
   obtain ⟨⟨_,hrg⟩,hwv⟩:=Ztl hx
   unfold Zoc
   dsimp only
   obtain ⟨a1,a2,a3,a4,a5,a6⟩:=v
   conv=>whnf
   refine ⟨Zd L bigT.length,.mk a1 a2 a3 a4 a5 a6,rfl,⟨fun _=>hrg,hwv,by decide⟩,fun g=>absurd (hm.symm.trans g) (by decide),fun _ y hy=>?_⟩
   rw [hT] at hy ⊢
   obtain ⟨W,hW⟩:∃W,W=Zxw:=⟨_,rfl⟩
   rw [← hW] at hy hr ⊢
   rw [hy] at hr
   cases y with
   | err p e=>cases hr
   | ok u M =>
    rw [Yy]
    dsimp only
    conv=>whnf
    refine ⟨⟨0,_,_,_,_,_,_,rfl,rfl,by decide⟩,?_⟩
    intro vs σ hI
    obtain ⟨i,b1,b2,b3,b4,b5,b6,rfl,rfl,hi⟩:=hI
    conv=>whnf
    refine Zyq (fun hi2=>?_) (fun hi2=>?_)
    ·have hi2:i<badL.length:=by have hi2:(i:Int)<15:=hi2;have:badL.length=15:=rfl;omega
     have hn15:badL.length=15:=rfl
     have hb:=Tl.1 ZoU _ (TE hi2)
     simp only [Tj,TS,Tz] at hb
     obtain ⟨eA,hA⟩:∃x,badL[i]=x:=⟨_,rfl⟩
     obtain ⟨a1,a2,a3,a4,a5⟩:=eA
     rw [hA] at hb
     have hr1:(badL.map (YU plQ))[((i:Nat):Int).toNat]?=some (YU plQ (.mk a1 a2 a3 a4 a5)):=by simp [hi2,hA]
     conv=>whnf
     refine ⟨_,by omega,hr1,?_⟩
     conv=>whnf
     refine ⟨plQ,(.mk a1 a2 a3 a4 a5),rfl,⟨fun g=>absurd (hb.1.symm.trans g) (by decide),by have:=hb.2;omega,by decide⟩,fun _=>?_,fun g=>absurd (hb.1.symm.trans g) (by decide)⟩
     conv=>whnf
     refine oiO ?_
     conv=>whnf
     refine ⟨⟨i+1,_,_,_,_,_,_,rfl,rfl,by omega⟩,?_⟩
     show ((badL.length:Int) - ((i:Int)+1)).toNat<((badL.length:Int) - (i:Int)).toNat
     omega
    clear hi2 hi
    conv=>whnf
    refine ⟨⟨0,_,_,_,_,_,_,rfl,rfl,by decide⟩,?_⟩
    intro vs σ hI
    obtain ⟨i,b1,b2,b3,b4,b5,b6,rfl,rfl,hi⟩:=hI
    conv=>whnf
    refine Zyq (fun hi2=>?_) (fun hi2=>?_)
    ·have hi2:i<badR.length:=by have hi2:(i:Int)<8:=hi2;have:badR.length=8:=rfl;omega
     have hn15:badR.length=8:=rfl
     have hb:=Tl.1 ZoV _ (TE hi2)
     simp only [Tj,TS,Tz] at hb
     obtain ⟨eA,hA⟩:∃x,badR[i]=x:=⟨_,rfl⟩
     obtain ⟨a1,a2,a3,a4⟩:=eA
     rw [hA] at hb
     have hr1:(badR.map (Yp plQ))[((i:Nat):Int).toNat]?=some (Yp plQ ⟨a1,a2,a3,a4⟩):=by simp [hi2,hA]
     conv=>whnf
     refine ⟨_,by omega,hr1,?_⟩
     conv=>whnf
     refine ⟨plQ,⟨a1,a2,a3,a4⟩,rfl,⟨fun g=>absurd (hb.1.symm.trans g) (by decide),by have:=hb.2;omega,by decide⟩,fun _=>?_,fun g=>absurd (hb.1.symm.trans g) (by decide)⟩
     conv=>whnf
     refine oiO ?_
     conv=>whnf
     refine ⟨⟨i+1,_,_,_,_,_,_,rfl,rfl,by omega⟩,?_⟩
     show ((badR.length:Int) - ((i:Int)+1)).toNat<((badR.length:Int) - (i:Int)).toNat
     omega
    clear hi2 hi
    conv=>whnf
    refine ⟨⟨0,_,_,_,_,_,_,rfl,rfl,by decide⟩,?_⟩
    intro vs σ hI
    obtain ⟨i,b1,b2,b3,b4,b5,b6,rfl,rfl,hi⟩:=hI
    conv=>whnf
    refine Zyq (fun hi2=>?_) (fun hi2=>?_)
    ·have hi2:i<badUn.length:=by have hi2:(i:Int)<8:=hi2;have:badUn.length=8:=rfl;omega
     have hn15:badUn.length=8:=rfl
     have hb:=Tl.1 ZoW _ (TE hi2)
     simp only [Tj,TS,Tz] at hb
     obtain ⟨eA,hA⟩:∃x,badUn[i]=x:=⟨_,rfl⟩
     obtain ⟨a1,a2,a3,a4,a5,a6⟩:=eA
     rw [hA] at hb
     have hr1:(badUn.map (XF plQ))[((i:Nat):Int).toNat]?=some (XF plQ (.mk a1 a2 a3 a4 a5 a6)):=by simp [hi2,hA]
     conv=>whnf
     refine ⟨_,by omega,hr1,?_⟩
     conv=>whnf
     refine ⟨plQ,(.mk a1 a2 a3 a4 a5 a6),rfl,⟨fun g=>absurd (hb.1.symm.trans g) (by decide),by have:=hb.2;omega,by decide⟩,fun _=>?_,fun g=>absurd (hb.1.symm.trans g) (by decide)⟩
     conv=>whnf
     refine oiO ?_
     conv=>whnf
     refine ⟨⟨i+1,_,_,_,_,_,_,rfl,rfl,by omega⟩,?_⟩
     show ((badUn.length:Int) - ((i:Int)+1)).toNat<((badUn.length:Int) - (i:Int)).toNat
     omega
    clear hi2 hi
    conv=>whnf
    refine ⟨⟨0,_,_,_,_,_,_,rfl,rfl,by decide⟩,?_⟩
    intro vs σ hI
    obtain ⟨i,b1,b2,b3,b4,b5,b6,rfl,rfl,hi⟩:=hI
    have mu:((64:Int) - ((i:Int)+1)).toNat<((64:Int) - (i:Int)).toNat∨¬(i:Int)<64:=by omega
    obtain ⟨X,hX⟩:∃X,JY i=X:=⟨_,rfl⟩
    have hX1:JY (i+1)=.mk 8 [] 0 [X] 0:=by rw [← hX];rfl
    rw [hX]
    obtain ⟨x1,x2,x3,x4,x5⟩:=X
    conv=>whnf
    refine Zyq (fun hi2=>?_) (fun hi2=>?_)
    ·conv=>whnf
     refine oiO ?_
     conv=>whnf
     exact ⟨⟨i+1,_,_,_,_,_,_,rfl,by rw [hX1];rfl,by omega⟩,mu.resolve_right fun g=>g hi2⟩
    obtain rfl:i=64:=by omega
    clear mu hi2 hi hX1
    have n64:=Zwi
    have n65:=Zwj
    have hX1:JY 65=.mk 8 [] 0 [.mk x1 x2 x3 x4 x5] 0:=by rw [← hX];rfl
    rw [hX1] at n65
    rw [hX] at n64
    clear hX1 hX
    simp only [Tj,Tz] at n64 n65
    obtain ⟨m1,m2,m3,m4,m5⟩:=n64
    obtain ⟨k1,k2,k3,k4,k5⟩:=n65
    conv=>whnf
    refine ⟨plQ,.mk x1 x2 x3 x4 x5,rfl,⟨fun _=>⟨m2,by omega⟩,by omega,by decide⟩,fun g=>absurd (m1.symm.trans g) (by decide),fun _ y hy=>?_⟩
    rw [hy] at m5
    cases y with
    | err p e=>cases m5
    | ok u2 M2 =>
     rw [Yy]
     dsimp only
     generalize exT (.mk x1 x2 x3 x4 x5)=T1
     conv=>whnf
     refine ⟨plQ,.mk 8 [] 0 [.mk x1 x2 x3 x4 x5] 0,rfl,⟨fun _=>⟨k2,by omega⟩,by omega,by decide⟩,fun g=>absurd (k1.symm.trans g) (by decide),fun _ y hy=>?_⟩
     rw [hy] at k5
     cases y with
     | ok u3 M3=>cases k5
     | err p e =>
      have he:e=3∨e=151:=of_decide_eq_true k5
      rw [Yy,Ti he]
      have hmade:=ZoY
      simp only [Tj,TS,Tz] at hmade
      have hwide:=ZoX
      simp only [Tj,Tz] at hwide
      obtain ⟨w1,w2,w3,w4⟩:=hwide
      conv=>whnf
      refine ⟨plQ,Ztn,rfl,⟨fun g=>absurd (hmade.1.symm.trans g) (by decide),by have:=hmade.2;omega,by decide⟩,fun _=>?_,fun g=>absurd (hmade.1.symm.trans g) (by decide)⟩
      conv=>whnf
      refine ⟨⟨0,b1,b2,b3,b4,b5,b6,.int .u8 x1,.str x2,.int .i64 x3,.sl (Y0 plQ x4),.int .i64 (plQ x5),rfl,rfl,by decide⟩,?_⟩
      intro vs σ hI
      obtain ⟨i,b1,b2,b3,b4,b5,b6,c1,c2,c3,c4,c5,rfl,rfl,hi⟩:=hI
      conv=>whnf
      refine Zyq (fun hi2=>?_) (fun hi2=>?_)
      ·have hrep:List.replicate i (YU plQ aE)++[YU plQ aE]=List.replicate (i+1) (YU plQ aE):=by rw [List.replicate_succ']
       conv=>whnf
       refine ⟨Tv.2 rfl,Sc (TW _ (show (List.replicate i (YU plQ aE)).length+1≤14 by rw [List.length_replicate];omega)) (by decide),(show (List.replicate i (YU plQ aE)).length+1≤2 ^ 47 by rw [List.length_replicate];omega),?_⟩
       conv=>whnf
       refine oiO ?_
       conv=>whnf
       refine ⟨⟨i+1,b1,b2,b3,b4,b5,b6,c1,c2,c3,c4,c5,(congrArg (fun r=>[PV.sl 0 24 r,PV.d (D.int IntKind.i64 ((i:Int)+1))]) hrep),rfl,by omega⟩,?_⟩
       show ((13:Int) - ((i:Int)+1)).toNat<((13:Int) - (i:Int)).toNat
       omega
      obtain rfl:i=13:=by omega
      conv=>whnf
      refine ⟨plQ,Znl,rfl,⟨fun _=>w2,by omega,by decide⟩,fun g=>absurd (w1.symm.trans g) (by decide),fun _ y hy=>?_⟩
      rw [hy] at w4
      cases y with
      | ok u3 M3=>cases w4
      | err p2 e2 =>
       have he:e2=3∨e2=151:=of_decide_eq_true w4
       rw [Yy,Ti he]
       conv=>whnf
       refine Zyq (fun _=>?_) (fun g=>absurd hW g)
       exact m46
 ·exact h.elim
end Go.PM.Lex
end

section
namespace Go
variable {H:Type} {enc:TypeId×Value→H}
theorem Ve {a:Assume} {C:Checked} {os:Os} {f:FuncId} {fn:Func} {s:ChangeSpec} {conds:List PathCond} {apart fresh handsOn again:Bool} {X:World→Array Value→Prop}
  (hX:∀(w w':World) (args:Array Value),w.heap=w'.heap→X w args→X w' args)
  (own:ownKnob C.prog.godebug=none) (started:os.Started) (noInit:C.prog.inits.idxOf? f=none) (hfn:C.prog.funcs[f]?=some fn)
  (witness:∃(w:World) (tape:Tape) (i:Input),w.os=os∧(w.forCall tape i).Shaped C.prog∧i.vars=[]∧Input.okWide C.prog (w.forCall tape i) .any w.heap.size f i ∧
   ((s.pre enc C.prog fn conds apart (w.forCall tape i).memory i.args∧X (w.forCall tape i).memory i.args)∧sizedMet enc C.prog fn (OpenSpec.ofChange s) apart (w.forCall tape i).memory i.args)∧a.holds C.prog (lone (Frame.enter C.prog f i.args .normal) [] (w.forCall tape i)))
  (contract:∀(W:World) (base:Nat) (args:Array Value) (ds gs:List (DataW H)) (before:List MemPlace),
   (∀(j:Nat) t v,fn.params[j]?=some t→args[j]?=some v→Value.okWide C.prog W .any base t v) →
   DataW.Whole enc C.prog fn.params.toList s.vars apart W args.toList ds gs before→X W args→W.ShapedOpen C.prog →
   Calls C.prog f args W fun e W'=>∃v,e=.returned v∧s.post enc C.prog fn apart fresh handsOn again W args v W') :
  ReturnsInHanded a C os f .any (fun w args=>(s.pre enc C.prog fn conds apart w args∧X w args)∧sizedMet enc C.prog fn (OpenSpec.ofChange s) apart w args) (s.post enc C.prog fn apart fresh handsOn again):=by
 refine returnsInHanded_of_calls own started noInit witness ?_
 intro w tape i _ hsh _ hok hpre hholds
 obtain ⟨_,_,_,fn',hfn',_,_,_,_,hval⟩:=hok
 have e:fn'=fn:=Option.some.inj (hfn'.symm.trans hfn)
 subst e
 obtain ⟨⟨⟨ds,gs,before,hw,hc⟩,hx⟩,hz⟩:=hpre
 have hw':=DataW.Whole.of_heap (w':=w.forCall tape i) (by rfl) hw
 refine (contract (w.forCall tape i) w.heap.size i.args ds gs before hval hw' (hX _ _ _ (by rfl) hx) hsh).mono fun e W' ⟨v,he,hp⟩=>?_
 subst he
 exact ChangeSpec.post_blind hp
end Go
namespace Go.PM.Lex
open Go.Proofs Go.Proofs.YtflgockgjnddnaaGreatDoor Go.ChangeShapes Go.WideShapes Go.ChangeAt Go.RowKit
theorem Zxx:ownKnob Tryz.prog.godebug=none:=by kernel_rfl
theorem ZpD : "*" ++ "errors.errorString" = "*errors.errorString" := by decide
theorem Zo0 (u : TypeId) (h : Tryz.prog.typeName? 3 u = some "*errors.errorString") : u = 352 :=
 typeName_ptr_named (nm := "errors.errorString") (by rw [ZpD]; kernel_rfl) (by kernel_rfl) (by decide) u (by rw [ZpD]; exact h)
theorem Znm {W:World} {n:String} {text:List UInt8} {g:Nat} (hg:Tryz.prog.globalNamed n=some g) (ht:(Tryz.prog.globals[g]?).map (·.type)=some 206)
  (h : laidMet Tryz.prog [(n, .iface "*errors.errorString" (.ptr (.agg [.lit (.string text)])))] W) : ∃ ev, W.cell? ⟨g, 0, none⟩ = some ev ∧ (ev = .nilIface ∨ ∃ te pe, ev = .iface te pe) := by
 obtain ⟨a1,s1,hv1,_⟩:=laid_sentinel h hg ht Tryz.underlying206 Zo0 Tryz.underlying352 Tryz.underlying354 rfl rfl Tryz.underlying9 (by kernel_rfl) (by kernel_rfl)
 refine ⟨.iface 352 (.pointer (some a1)),?_,.inr ⟨_,_,rfl⟩⟩
 simpa using World.var?_cell hg hv1 0
theorem Zwk {W:World} (h:laidMetH Tryz.prog Rows.printUnlikeRow.laid W) (hsh:W.ShapedOpen Tryz.prog):GlobOK W 8:=by
 rw [MakeChecks.laidMetH_plain _ _ _ (by kernel_rfl)] at h
 have h1 := laidMet.filter (fun x => x.1 == "strconv.ErrSyntax") h
 have h2 := laidMet.filter (fun x => x.1 == "strconv.ErrRange") h
 exact ⟨by omega,Tryz.laysM143.s1_3 W hsh,Znm (by kernel_rfl) (by kernel_rfl) h1,Znm (by kernel_rfl) (by kernel_rfl) h2⟩
theorem Zwl {e e':Env} {W W':World} {σ':St} {may:MemPlace→Prop} (h:Later e ⟨[],[],0⟩ W e' σ' W'):W.keptBut W' may:=by
 refine ⟨h.os,h.output,fun i hi=>?_⟩
 have:=h.blocks i hi (fun j hj=>by simp at hj) (fun t ht=>by cases ht)
 rw [this]
 cases hh:W.heap[i]? with
 | none=>rfl
 | some o=>cases o <;> simp
def Zwm:Env:=⟨fun _=>0,fun _=>none,fun _ _=>False⟩
theorem Ztq {W:World} (h:8≤W.heap.size):SRel (GG W 8) Zwm ⟨[],[],0⟩ W where
 inj:=fun i j hi=>by simp at hi
 box:=fun i x hx=>by simp at hx
 low:=fun i hi=>by simp at hi
 tkn:=fun t ht=>by cases ht
 own:=fun t ht=>by cases ht
 dis:=fun t t' ht=>by cases ht
 xlt:=fun b off hx=>hx.elim
 xown:=fun t ht=>by cases ht
 glob:=fun b hb=>rfl
 big:=h
end Go.PM.Lex
end

section
namespace Go.PM.Lex
open Go.Proofs Go.Proofs.YtflgockgjnddnaaGreatDoor
theorem Ztr:Rows.laid_unicode_utf8_first=Lib.firstData:=by kernel_rfl
theorem Zo1:(Rows.laid_unicode_utf8_acceptRanges:DataW Unit)=Lib.acceptData:=by kernel_rfl
theorem Zwn {W:World} (h:laidMetH Tryz.prog Rows.printUnlikeRow.laid W):Lib.Utf8Tabs 0 1 W:=by
 rw [MakeChecks.laidMetH_plain _ _ _ (by kernel_rfl)] at h
 have h1:=Lib.laidMet.reads (d:=Rows.laid_unicode_utf8_first) h (.tail _ (.tail _ (.tail _ (.tail _ (.tail _ (.tail _ (.head _)))))))
 have h2:=Lib.laidMet.reads (d:=Rows.laid_unicode_utf8_acceptRanges) h (.tail _ (.tail _ (.tail _ (.head _))))
 rw [Ztr] at h1
 rw [Zo1] at h2
 exact utf8Tabs_of_readsT (U8Types.of196 Tryz.laysValid) ⟨by kernel_rfl,by kernel_rfl,by kernel_rfl,by kernel_rfl,by kernel_rfl,by kernel_rfl,by kernel_rfl⟩ h1 h2
variable {w0:World} {nG:Nat}
theorem Zxy (hb:1<nG) (hT:Lib.Utf8Tabs 0 1 w0):LexC w0 nG where
 name:=Zw3 ⟨⟨ZlR,WC⟩,⟨Zag,Wn⟩,⟨ZtW,ZcH⟩,trivial⟩
 quote:=Zok ⟨⟨Zog hb hT,ZgO⟩,⟨Zbz,V9⟩,⟨Zeq,Ub⟩,⟨ZbA,Ua⟩,⟨Zgg,Zaf⟩,trivial⟩
end Go.PM.Lex
end

section
namespace Go.PM.Lex
open Go.Proofs Go.Proofs.YtflgockgjnddnaaGreatDoor
def Zo2:DataW Unit→List Int
 | .agg xs=>xs.map fun | .lit (.int _ z)=>z | _=>0
 | _=>[]
theorem Zts:(Rows.laid_internal_strconv_uint64pow10:DataW Unit)=Lib.tabData .u64 Lib.pow10Tab:=by kernel_rfl
theorem Zxz:(Rows.laid_math_bits_deBruijn64tab:DataW Unit)=Lib.tabData .u8 (Zo2 Rows.laid_math_bits_deBruijn64tab):=by kernel_rfl
theorem Ztt:(Zo2 Rows.laid_math_bits_deBruijn64tab).getD 15 0=4:=by kernel_rfl
theorem Zwo:(Zo2 Rows.laid_math_bits_deBruijn64tab).length=64:=by kernel_rfl
theorem ZxA {W:World} (h:laidMetH Tryz.prog Rows.printUnlikeRow.laid W):NumOK W 8:=by
 rw [MakeChecks.laidMetH_plain _ _ _ (by kernel_rfl)] at h
 have h1 := laidMet.filter (fun x => x.1 == "internal/strconv.uint64pow10") h
 have h2 := laidMet.filter (fun x => x.1 == "math/bits.deBruijn64tab") h
 have k1 : laidMet Tryz.prog [("internal/strconv.uint64pow10", Lib.tabData .u64 Lib.pow10Tab)] W := by rw [← Zts]; exact h1
 have k2 : laidMet Tryz.prog [("math/bits.deBruijn64tab", Lib.tabData .u8 (Zo2 Rows.laid_math_bits_deBruijn64tab))] W := by rw [← Zxz]; exact h2
 refine ⟨by decide,Lib.tabIs_of_head (g:=3) (t:=304) (by kernel_rfl) (by kernel_rfl) Tryz.underlying304 (by kernel_rfl) (by kernel_rfl) (by kernel_rfl) k1,?_⟩
 have k3:=Lib.tabIs_of_head (g:=5) (t:=334) (by kernel_rfl) (by kernel_rfl) Tryz.underlying334 (by kernel_rfl) (by kernel_rfl) (by kernel_rfl) k2
 have k4:=k3.cell (g:=5) (by kernel_rfl) 15 (by rw [Zwo];decide)
 rw [Ztt] at k4
 exact k4
end Go.PM.Lex
end

section
namespace Go.PM.Lex
open Go.Proofs Go.Proofs.YtflgockgjnddnaaGreatDoor
theorem ZX {a b:Bool} (h1:a=true) (h2:b=true):(a && b)=true:=by rw [h1,h2];rfl
theorem Znn {P:Program} {f:FuncId} {fn:Func} {s:ChangeSpec} {c:OpenClaim}
  (p1:laidOutB P=true) (p2:mapsRowed P=true) (p3:(P.stops == [])=true) (p4:(P.stopKnobs == [])=true) (p5:(c.plainKeys == P.plainKeys)=true) (p6:P.stopsHeard=true) (p7:P.mayEnter=true) (p8:(c.lifted == P.liftsFinal)=true) (p9:(P.make == some c.make)=true)
  (k1:c.wf (OpenSpec.ofChange s)=true) (k2:fn.params.all (P.readableRec ·)=true) (k3:namedTie P c.named s.vars=true) (k4:(c.stops == [])=true) (k5:(c.knobs == [])=true)
  (k6:(c.inPlace == P.inPlace f)=true) (k7:(c.unfollowed == P.unfollowed f)=true) (k8:(c.recurses == P.recurses f)=true) (k9:(c.named == P.varsNamed f)=true)
  (k10:(c.maps == (fn.params.toList++s.plain.varTypes P).any (P.mapsRec ·))=true) (k11:(c.ifaces == (fn.params.toList++s.plain.varTypes P).any (P.ifacesRec ·))=true) (k12:(c.mapsOut == P.mapsAmong fn.resultTypes.toList)=true)
  (k13:(c.loops == (fn.params.toList++s.plain.varTypes P).any (P.loopsFrom ·))=true) (k14:(c.wideKeys == (fn.params.toList++s.plain.varTypes P++fn.resultTypes.toList).any (P.wideKeysFrom ·))=true)
  (k15:s.vars.all (P.varReadable ·)=true) (k16:fn.resultTypes.all (fun t=>P.readableRec t && decide (t<P.types.size))=true) (k17:(c.ifacesOut == fn.resultTypes.toList.any (P.ifacesRec ·))=true) (k18:(c.loopsOut == fn.resultTypes.toList.any (P.loopsFrom ·))=true)
  (k19:c.shortTexts.isNone=true) (k20:(c.kinds == (if c.domain.isEmpty then [] else fn.params.toList.map fun t=>match P.underlying t with | some (.int k)=>some k | _=>none))=true) (k21:(c.pinned == c.pinnedBy)=true)
  (k22:(c.veiled == (fn.params.toList++s.plain.varTypes P++fn.resultTypes.toList).any (P.veiledRec ·))=true) (k23:c.veiledFits P fn.params.toList (fn.params.toList++s.plain.varTypes P++fn.resultTypes.toList)=true):joinedFacts P f fn s c=true:=by
 unfold joinedFacts
 exact (ZX (ZX (ZX (ZX (ZX (ZX (ZX (ZX (ZX (ZX (ZX (ZX (ZX (ZX (ZX (ZX (ZX (ZX (ZX (ZX (ZX (ZX (ZX (ZX (ZX (ZX (ZX (ZX (ZX (ZX (ZX k1 p1) p2) k2) k3) k4) p3) k5) p4) k6) k7) k8) k9) k10) k11) k12) k13) k14) k15) k16) k17) k18) p5) k19) p6) p7) p8) p9) k20) k21) k22) k23)
theorem jp1:laidOutB Tryz.checked.prog=true:=by kernel_rfl
theorem jp2:mapsRowed Tryz.checked.prog=true:=by kernel_rfl
theorem jp3:(Tryz.checked.prog.stops == [])=true:=by kernel_rfl
theorem jp4:(Tryz.checked.prog.stopKnobs == [])=true:=by kernel_rfl
theorem jp5:(Rows.printUnlikeRow.plainKeys == Tryz.checked.prog.plainKeys)=true:=by kernel_rfl
theorem jp6:Tryz.checked.prog.stopsHeard=true:=by kernel_rfl
theorem jp7:Tryz.checked.prog.mayEnter=true:=by kernel_rfl
theorem jp8:(Rows.printUnlikeRow.lifted == Tryz.checked.prog.liftsFinal)=true:=by kernel_rfl
theorem jp9:(Tryz.checked.prog.make == some Rows.printUnlikeRow.make)=true:=by kernel_rfl
theorem jp10:Tryz.checked.prog.mainIs=some (Rows.printUnlikeCard.stood.harness.1,Rows.printUnlikeCard.stood.harness.2.toList):=by kernel_rfl
theorem jp11:Rows.printUnlikeCard.stood.looks=Tryz.checked.prog.looks []:=by kernel_rfl
end Go.PM.Lex
end
