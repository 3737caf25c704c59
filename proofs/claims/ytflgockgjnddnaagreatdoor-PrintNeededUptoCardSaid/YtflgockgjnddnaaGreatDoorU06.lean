/- A part of the proof: plain logic, contracts and laws over the given program. -/
import Derived.KernelRfl
import Derived.Test.YtflgockgjnddnaaGreatDoorU05
set_option linter.unusedVariables false
set_option linter.unusedSimpArgs false
set_option linter.all false
section
set_option maxRecDepth 100000
set_option maxHeartbeats 8000000
namespace Go.PM.Lex
open Go.Proofs
variable {w0:World} {nG:Nat}
structure GlobOK (w0:World) (nG:Nat):Prop where
 big:7<nG
 maxLen:∃m,w0.cell? ⟨2,0,none⟩=some (.int .i64 m)
 errSyntax:∃ev,w0.cell? ⟨6,0,none⟩=some ev∧(ev=.nilIface∨∃te pe,ev=.iface te pe)
 errRange:∃ev,w0.cell? ⟨7,0,none⟩=some ev∧(ev=.nilIface∨∃te pe,ev=.iface te pe)
noncomputable def spErr:Spec:=fun args σ K=>match args with
 | [.d (.str _),.d (.str s)]=>s.length<4294967281∧K (.ret .undef) σ
 | _=>False
theorem spErr_mono:SpecMono spErr:=fun args σ K K' hK h=>by
 unfold spErr at h ⊢;split at h <;> first | exact ⟨h.1,hK _ _ h.2⟩ | exact h.elim
theorem glob_cell {e:Env} {σ:St} {w:World} {k:Nat} {u:Value} (hS:SRel (GG w0 nG) e σ w) (hk:k<nG) (h:w0.cell? ⟨k,0,none⟩=some u):w.cell? ⟨k,0,none⟩=some u:=by
 have:=hS.glob k hk
 simpa [World.cell?,this] using h
theorem syntaxError_ok (hg:GlobOK w0 nG):PCalls (GG w0 nG) 332 spErr where
 enters:=enters_of Tryz.func332 (by kernel_rfl) rfl
 calls:=fun args σ K hs n e w vs hS ha=>by
  unfold spErr at hs
  split at hs
  ·rename_i fn s
   obtain ⟨hl,hK⟩:=hs
   obtain ⟨u,v,rfl,hu,hv⟩:=args2 ha
   cases hu.dstr;cases hv.dstr
   obtain ⟨ev,h1,h2⟩:=hg.errSyntax
   refine CallsIn.mono (callsIn_wide.2 (Tryz.strconv_syntaxError _ _ ev w (show s.toArray.size≤_ by simp;omega) (glob_cell hS (by have:=hg.big;omega) h1) h2)) fun en w' ⟨N,h3,_,_,h4⟩=>?_
   subst h3
   exact ⟨.ret .undef,σ,e,hK,⟨_,rfl,.undef _⟩,hS.grow (Grows.of_below h4),((Grows.of_below h4).stepped e σ).toLater⟩
  ·exact hs.elim
theorem rangeError_ok (hg:GlobOK w0 nG):PCalls (GG w0 nG) 333 spErr where
 enters:=enters_of Tryz.func333 (by kernel_rfl) rfl
 calls:=fun args σ K hs n e w vs hS ha=>by
  unfold spErr at hs
  split at hs
  ·rename_i fn s
   obtain ⟨hl,hK⟩:=hs
   obtain ⟨u,v,rfl,hu,hv⟩:=args2 ha
   cases hu.dstr;cases hv.dstr
   obtain ⟨ev,h1,h2⟩:=hg.errRange
   refine CallsIn.mono (callsIn_wide.2 (Tryz.strconv_rangeError _ _ ev w (show s.toArray.size≤_ by simp;omega) (glob_cell hS (by have:=hg.big;omega) h1) h2)) fun en w' ⟨N,h3,_,_,h4⟩=>?_
   subst h3
   exact ⟨.ret .undef,σ,e,hK,⟨_,rfl,.undef _⟩,hS.grow (Grows.of_below h4),((Grows.of_below h4).stepped e σ).toLater⟩
  ·exact hs.elim
noncomputable def spToError:Spec:=fun args σ K=>match args,σ with
 | [.d (.str _),.d (.str s),.d (.int .i64 _),.d (.int .i64 _),.iface 343 (.d (.int .i64 c))],⟨[],[],0⟩=>((c=1∨c=2)∧s.length<4294967281)∧K (.ret (.iface 345 .undef)) ⟨[],[],0⟩
 | _,_=>False
theorem spToError_mono:SpecMono spToError:=fun args σ K K' hK h=>by
 unfold spToError at h ⊢;split at h <;> first | exact ⟨h.1,hK _ _ h.2⟩ | exact h.elim
noncomputable def tblTE:Tbl:=[(332,spErr),(333,spErr)]
theorem toError_ok (hg:GlobOK w0 nG):PCalls (GG w0 nG) 324 spToError:=by
 refine pcalls tab_ok mixed (tbl:=tblTE) ⟨⟨syntaxError_ok hg,spErr_mono⟩,⟨rangeError_ok hg,spErr_mono⟩,trivial⟩ Tryz.func324 rfl (by kernel_rfl) (by kernel_rfl) ?_
 intro args σ K h
 unfold spToError at h
 split at h
 ·rename_i fn s b0 b1 c
  obtain ⟨⟨hc,hl⟩,h⟩:=h
  refine ⟨loopsOf [],0,false,by simp,Nat.le_of_ble_eq_true rfl,?_⟩
  rcases hc with rfl | rfl
  ·conv=>whnf
   refine ⟨hl,?_⟩
   conv=>whnf
   exact h
  ·conv=>whnf
   refine ⟨hl,?_⟩
   conv=>whnf
   exact h
 ·exact h.elim
noncomputable def spLower:Spec:=fun args σ K=>match args,σ with
 | [.d (.int .u8 c)],⟨[],[],0⟩=>K (.ret (.d (.int .u8 (bitsOf .or .u8 c 32)))) ⟨[],[],0⟩
 | _,_=>False
theorem spLower_mono:SpecMono spLower:=fun args σ K K' hK h=>by
 unfold spLower at h ⊢;split at h <;> first | exact hK _ _ h | exact h.elim
theorem lower_ok:PCalls (GG w0 nG) 330 spLower:=by
 refine pcalls tab_ok mixed (tbl:=[]) trivial Tryz.func330 rfl (by kernel_rfl) (by kernel_rfl) ?_
 intro args σ K h
 unfold spLower at h
 split at h
 ·refine ⟨loopsOf [],0,false,by simp,Nat.le_of_ble_eq_true rfl,?_⟩
  conv=>whnf
  exact h
 ·exact h.elim
theorem lowV:∀n:Fin 256,digB true (UInt8.ofNat n.val)=true→¬(48≤n.val∧n.val≤57)→bitsOf .or .u8 (n.val:Int) 32=digV (UInt8.ofNat n.val)+87∧10≤digV (UInt8.ofNat n.val)∧digV (UInt8.ofNat n.val)≤15:=by rw [bitsOf_eq];decide +kernel
theorem low_digit {b:UInt8} (h:digB true b=true) (hn:¬(48≤b.toNat∧b.toNat≤57)):bitsOf .or .u8 (b.toNat:Int) 32=digV b+87∧10≤digV b∧digV b≤15:=by
 have:=lowV ⟨b.toNat,b.toNat_lt⟩
 simp only [UInt8.ofNat_toNat] at this
 exact this h hn
theorem numV_snoc (B:Nat) (l:Bs) (b:UInt8):numV B (l++[b])=numV B l * B+digV b:=by simp [numV,List.foldl_append]
theorem take_snoc {l:Bs} {i:Nat} (h:i<l.length):l.take (i+1)=l.take i++[l.getD i 0]:=by
 rw [List.take_succ,List.getElem?_eq_getElem h];simp [List.getD,h]
theorem foldl_ge (B:Nat) (hB:1≤B):∀(l:Bs) (n:Nat),n≤l.foldl (fun n b=>n * B+digV b) n
 | [],n=>Nat.le_refl _
 | b::l,n=>by
  have:=foldl_ge B hB l (n * B+digV b)
  have h2:n≤n * B:=Nat.le_mul_of_pos_right n hB
  simp only [List.foldl_cons];omega
theorem numV_take_le (B:Nat) (hB:1≤B) (l:Bs) (i:Nat):numV B (l.take i)≤numV B l:=by
 conv=>rhs;rw [← List.take_append_drop i l]
 unfold numV
 rw [List.foldl_append]
 exact foldl_ge B hB _ _
noncomputable def spPU:Spec:=fun args σ K=>match args,σ with
 | [.d (.str l),.d (.int .i64 base),.d (.int .i64 bits)],⟨[],[],0⟩=>∃hex:Bool,((l.all (digB hex)=true∧l.length<4294967281)∧base=(if hex then 16 else 10)∧bits=(if hex then 64 else 63)) ∧
   (l=[]→K (.ret (.tuple [.d (.int .u64 0),.iface 343 (.d (.int .i64 2))])) ⟨[],[],0⟩) ∧
   (l≠[]→(if hex then 18446744073709551616 else 9223372036854775808)≤numV (if hex then 16 else 10) l→K (.ret (.tuple [.d (.int .u64 (if hex then 18446744073709551615 else 9223372036854775807)),.iface 343 (.d (.int .i64 1))])) ⟨[],[],0⟩) ∧
   (l≠[]→¬(if hex then 18446744073709551616 else 9223372036854775808)≤numV (if hex then 16 else 10) l→K (.ret (.tuple [.d (.int .u64 (numV (if hex then 16 else 10) l)),.d .nili])) ⟨[],[],0⟩)
 | _,_=>False
theorem spPU_mono:SpecMono spPU:=fun args σ K K' hK h=>by
 unfold spPU at h ⊢
 split at h
 ·obtain ⟨x,h1,h2,h3,h4⟩:=h;exact ⟨x,h1,fun g=>hK _ _ (h2 g),fun g g'=>hK _ _ (h3 g g'),fun g g'=>hK _ _ (h4 g g')⟩
 ·exact h.elim
noncomputable def tblPU:Tbl:=[(330,spLower)]
theorem pu_ok:PCalls (GG w0 nG) 323 spPU:=by
 refine pcalls tab_ok mixed (tbl:=tblPU) ⟨⟨lower_ok,spLower_mono⟩,trivial⟩ Tryz.func323 rfl (by kernel_rfl) (by kernel_rfl) ?_
 intro args σ K h
 unfold spPU at h
 split at h
 ·rename_i l base bits
  obtain ⟨hex,⟨⟨hall,hl⟩,rfl,rfl⟩,hnil,hover,hgood⟩:=h
  have hml:((l.map fun b=>[D.int .u8 (b.toNat:Int)]:List (List D))).length=l.length:=by simp
  cases hex with
  | true =>
   simp only [if_true,Bool.false_eq_true,if_false] at hover hgood ⊢
   refine ⟨loopsOf [(36,⟨[101,13,12],[0,1,8,10,11,99,100],fun vs σ=>σ=⟨[],[],0⟩∧∃i:Nat,vs=[.d (.int .i64 i),.d (.int .u64 (numV 16 (l.take i))),.d (.bool false)]∧i≤l.length∧numV 16 (l.take i)<18446744073709551616,muI l.length⟩)],0,false,by simp,Nat.le_of_ble_eq_true rfl,?_⟩
   conv=>whnf
   refine CondP.dec (fun h0=>?_) (fun h0=>?_)
   ·conv=>whnf
    exact hnil h0
   ·have hne:l≠[]:=h0
    have hov:=hover hne
    have hgd:=hgood hne
    conv=>whnf
    refine Or.inl ⟨InR.u64 (by omega) (by omega),?_⟩
    conv=>whnf
    refine ⟨by decide,Or.inr ?_⟩
    rw [show IntKind.u64.wrap (1 * 2 ^ min (Int.toNat 64) IntKind.u64.bits)=0 from by decide]
    conv=>whnf
    refine Or.inr ?_
    rw [show IntKind.u64.wrap (0 - 1)=18446744073709551615 from by decide]
    conv=>whnf
    refine ⟨⟨rfl,0,rfl,by omega,by simp [numV]⟩,?_⟩
    intro vs σ1 hI
    obtain ⟨rfl,i,rfl,hi,hN⟩:=hI
    have hle:=numV_take_le 16 (by omega) l
    have hstep:=fun h:i<l.length=>numV_snoc 16 (l.take i) (l.getD i 0)
    generalize hNN:numV 16 (l.take i)=N at hN hstep ⊢
    conv=>whnf
    refine CondP.dec (fun h2=>?_) (fun h2=>?_)
    ·have h2':i<l.length:=by simpa using h2
     have hrow:(l.map fun b=>[D.int .u8 (b.toNat:Int)])[((i:Int)).toNat]?=some [D.int .u8 ((l.getD i 0).toNat:Int)]:=by
      rw [Int.toNat_natCast,List.getElem?_map,List.getElem?_eq_getElem h2'];simp [List.getD,h2']
     have hd:digB true (l.getD i 0)=true:=List.all_eq_true.1 hall _ (by rw [List.getD_eq_getElem?_getD,List.getElem?_eq_getElem h2'];exact List.getElem_mem h2')
     have hs:=hstep h2'
     rw [← take_snoc h2'] at hs
     have hl1:=hle (i+1)
     have hb:=(l.getD i 0).toNat_lt
     generalize hbb:l.getD i 0=b at hrow hd hs hb
     conv=>whnf
     refine ⟨_,by omega,hrow,?_⟩
     conv=>whnf
     refine CondP.dec (fun h3=>?_) (fun h3=>?_)
     ·have h3':b.toNat=95:=by omega
      simp [digB,isDigit,h3'] at hd
     ·conv=>whnf
      refine CondP.dec (fun h4=>?_) (fun h4=>?_)
      ·conv=>whnf
       refine CondP.dec (fun h5=>?_) (fun h5=>?_)
       ·conv=>whnf
        refine Or.inl ⟨InR.u8 (by omega) (by omega),?_⟩
        have hD:(digV b:Int)=(b.toNat:Int) - 48:=by unfold digV;rw [if_pos (by omega)];omega
        conv=>whnf
        refine Or.inl ⟨InR.u8 (by omega) (by omega),?_⟩
        conv=>whnf
        refine CondP.dec (fun h6=>?_) (fun h6=>?_)
        ·omega
        ·conv=>whnf
         refine CondP.dec (fun h7=>?_) (fun h7=>?_)
         ·conv=>whnf
          exact hov (by omega)
         ·conv=>whnf
          refine Or.inl ⟨InR.u64 (by omega) (by omega),?_⟩
          conv=>whnf
          refine Or.inl ⟨InR.u64 (by omega) (by omega),?_⟩
          conv=>whnf
          refine Or.inl ⟨InR.u64 (by omega) (by omega),?_⟩
          conv=>whnf
          by_cases hbig:(N:Int) * 16+((b.toNat:Int) - 48)≤18446744073709551615
          ·refine Or.inl ⟨InR.u64 (by omega) (by omega),?_⟩
           conv=>whnf
           refine CondP.dec (fun h8=>?_) (fun h8=>?_)
           ·omega
           ·conv=>whnf
            refine CondP.dec (fun h9=>?_) (fun h9=>?_)
            ·conv=>whnf
             exact hov (by omega)
            ·conv=>whnf
             refine Or.inl ⟨InR.i64 (by omega) (by omega),?_⟩
             conv=>whnf
             refine ⟨⟨rfl,i+1,?_,by omega,by omega⟩,?_⟩
             ·have e:((numV 16 (l.take (i+1)):Nat):Int)=(N:Int) * 16+((b.toNat:Int) - 48):=by omega
              rw [e];rfl
             ·exact (show ((l.length:Int) - ((i:Int)+1)).toNat<((l.length:Int) - (i:Int)).toNat by omega)
          ·have hw:IntKind.u64.wrap ((N:Int) * 16+((b.toNat:Int) - 48))=(N:Int) * 16+((b.toNat:Int) - 48) - 18446744073709551616:=by
            simp only [IntKind.wrap,show IntKind.u64.bits=64 from rfl,show IntKind.u64.signed=false from rfl,Bool.false_and,Bool.false_eq_true,if_false]
            omega
           refine Or.inr ?_
           conv=>whnf
           refine CondP.dec (fun h8=>?_) (fun h8=>?_)
           ·conv=>whnf
            exact hov (by omega)
           ·exfalso;exact h8 (by rw [hw];omega)
       ·skip
        have hlow:=low_digit hd (by omega)
        conv=>whnf
        refine CondP.dec (fun g1=>?_) (fun g1=>?_)
        ·conv=>whnf
         refine CondP.dec (fun g2=>?_) (fun g2=>?_)
         ·conv=>whnf
          refine Or.inl ⟨InR.u8 (by omega) (by omega),?_⟩
          conv=>whnf
          refine Or.inl ⟨InR.u8 (by omega) (by omega),?_⟩
          have hD:(digV b:Int)=bitsOf .or .u8 (b.toNat:Int) 32 - 97+10:=by omega
          conv=>whnf
          refine Or.inl ⟨InR.u8 (by omega) (by omega),?_⟩
          conv=>whnf
          refine CondP.dec (fun h6=>?_) (fun h6=>?_)
          ·omega
          ·conv=>whnf
           refine CondP.dec (fun h7=>?_) (fun h7=>?_)
           ·conv=>whnf
            exact hov (by omega)
           ·conv=>whnf
            refine Or.inl ⟨InR.u64 (by omega) (by omega),?_⟩
            conv=>whnf
            refine Or.inl ⟨InR.u64 (by omega) (by omega),?_⟩
            conv=>whnf
            refine Or.inl ⟨InR.u64 (by omega) (by omega),?_⟩
            conv=>whnf
            by_cases hbig:(N:Int) * 16+(bitsOf .or .u8 (b.toNat:Int) 32 - 97+10)≤18446744073709551615
            ·refine Or.inl ⟨InR.u64 (by omega) (by omega),?_⟩
             conv=>whnf
             refine CondP.dec (fun h8=>?_) (fun h8=>?_)
             ·omega
             ·conv=>whnf
              refine CondP.dec (fun h9=>?_) (fun h9=>?_)
              ·conv=>whnf
               exact hov (by omega)
              ·conv=>whnf
               refine Or.inl ⟨InR.i64 (by omega) (by omega),?_⟩
               conv=>whnf
               refine ⟨⟨rfl,i+1,?_,by omega,by omega⟩,?_⟩
               ·have e:((numV 16 (l.take (i+1)):Nat):Int)=(N:Int) * 16+(bitsOf .or .u8 (b.toNat:Int) 32 - 97+10):=by omega
                rw [e];rfl
               ·exact (show ((l.length:Int) - ((i:Int)+1)).toNat<((l.length:Int) - (i:Int)).toNat by omega)
            ·have hw:IntKind.u64.wrap ((N:Int) * 16+(bitsOf .or .u8 (b.toNat:Int) 32 - 97+10))=(N:Int) * 16+(bitsOf .or .u8 (b.toNat:Int) 32 - 97+10) - 18446744073709551616:=by
              simp only [IntKind.wrap,show IntKind.u64.bits=64 from rfl,show IntKind.u64.signed=false from rfl,Bool.false_and,Bool.false_eq_true,if_false]
              omega
             refine Or.inr ?_
             conv=>whnf
             refine CondP.dec (fun h8=>?_) (fun h8=>?_)
             ·conv=>whnf
              exact hov (by omega)
             ·exfalso;exact h8 (by rw [hw];omega)
         ·omega
        ·omega
      ·skip
       have hlow:=low_digit hd (by omega)
       conv=>whnf
       refine CondP.dec (fun g1=>?_) (fun g1=>?_)
       ·conv=>whnf
        refine CondP.dec (fun g2=>?_) (fun g2=>?_)
        ·conv=>whnf
         refine Or.inl ⟨InR.u8 (by omega) (by omega),?_⟩
         conv=>whnf
         refine Or.inl ⟨InR.u8 (by omega) (by omega),?_⟩
         have hD:(digV b:Int)=bitsOf .or .u8 (b.toNat:Int) 32 - 97+10:=by omega
         conv=>whnf
         refine Or.inl ⟨InR.u8 (by omega) (by omega),?_⟩
         conv=>whnf
         refine CondP.dec (fun h6=>?_) (fun h6=>?_)
         ·omega
         ·conv=>whnf
          refine CondP.dec (fun h7=>?_) (fun h7=>?_)
          ·conv=>whnf
           exact hov (by omega)
          ·conv=>whnf
           refine Or.inl ⟨InR.u64 (by omega) (by omega),?_⟩
           conv=>whnf
           refine Or.inl ⟨InR.u64 (by omega) (by omega),?_⟩
           conv=>whnf
           refine Or.inl ⟨InR.u64 (by omega) (by omega),?_⟩
           conv=>whnf
           by_cases hbig:(N:Int) * 16+(bitsOf .or .u8 (b.toNat:Int) 32 - 97+10)≤18446744073709551615
           ·refine Or.inl ⟨InR.u64 (by omega) (by omega),?_⟩
            conv=>whnf
            refine CondP.dec (fun h8=>?_) (fun h8=>?_)
            ·omega
            ·conv=>whnf
             refine CondP.dec (fun h9=>?_) (fun h9=>?_)
             ·conv=>whnf
              exact hov (by omega)
             ·conv=>whnf
              refine Or.inl ⟨InR.i64 (by omega) (by omega),?_⟩
              conv=>whnf
              refine ⟨⟨rfl,i+1,?_,by omega,by omega⟩,?_⟩
              ·have e:((numV 16 (l.take (i+1)):Nat):Int)=(N:Int) * 16+(bitsOf .or .u8 (b.toNat:Int) 32 - 97+10):=by omega
               rw [e];rfl
              ·exact (show ((l.length:Int) - ((i:Int)+1)).toNat<((l.length:Int) - (i:Int)).toNat by omega)
           ·have hw:IntKind.u64.wrap ((N:Int) * 16+(bitsOf .or .u8 (b.toNat:Int) 32 - 97+10))=(N:Int) * 16+(bitsOf .or .u8 (b.toNat:Int) 32 - 97+10) - 18446744073709551616:=by
             simp only [IntKind.wrap,show IntKind.u64.bits=64 from rfl,show IntKind.u64.signed=false from rfl,Bool.false_and,Bool.false_eq_true,if_false]
             omega
            refine Or.inr ?_
            conv=>whnf
            refine CondP.dec (fun h8=>?_) (fun h8=>?_)
            ·conv=>whnf
             exact hov (by omega)
            ·exfalso;exact h8 (by rw [hw];omega)
        ·omega
       ·omega
    ·have h2':¬i<l.length:=fun g=>h2 (by simpa using g)
     have hil:i=l.length:=by omega
     rw [hil,List.take_length] at hNN
     conv=>whnf
     rw [hNN] at hgd
     exact hgd (by omega)
  | false =>
   simp only [if_true,Bool.false_eq_true,if_false] at hover hgood ⊢
   refine ⟨loopsOf [(36,⟨[101,13,12],[0,1,8,10,11,99,100],fun vs σ=>σ=⟨[],[],0⟩∧∃i:Nat,vs=[.d (.int .i64 i),.d (.int .u64 (numV 10 (l.take i))),.d (.bool false)]∧i≤l.length∧numV 10 (l.take i)<9223372036854775808,muI l.length⟩)],0,false,by simp,Nat.le_of_ble_eq_true rfl,?_⟩
   conv=>whnf
   refine CondP.dec (fun h0=>?_) (fun h0=>?_)
   ·conv=>whnf
    exact hnil h0
   ·have hne:l≠[]:=h0
    have hov:=hover hne
    have hgd:=hgood hne
    conv=>whnf
    refine Or.inl ⟨InR.u64 (by omega) (by omega),?_⟩
    conv=>whnf
    refine ⟨by decide,Or.inr ?_⟩
    rw [show IntKind.u64.wrap (1 * 2 ^ min (Int.toNat 63) IntKind.u64.bits)=9223372036854775808 from by decide]
    conv=>whnf
    refine Or.inr ?_
    rw [show IntKind.u64.wrap (9223372036854775808 - 1)=9223372036854775807 from by decide]
    conv=>whnf
    refine ⟨⟨rfl,0,rfl,by omega,by simp [numV]⟩,?_⟩
    intro vs σ1 hI
    obtain ⟨rfl,i,rfl,hi,hN⟩:=hI
    have hle:=numV_take_le 10 (by omega) l
    have hstep:=fun h:i<l.length=>numV_snoc 10 (l.take i) (l.getD i 0)
    generalize hNN:numV 10 (l.take i)=N at hN hstep ⊢
    conv=>whnf
    refine CondP.dec (fun h2=>?_) (fun h2=>?_)
    ·have h2':i<l.length:=by simpa using h2
     have hrow:(l.map fun b=>[D.int .u8 (b.toNat:Int)])[((i:Int)).toNat]?=some [D.int .u8 ((l.getD i 0).toNat:Int)]:=by
      rw [Int.toNat_natCast,List.getElem?_map,List.getElem?_eq_getElem h2'];simp [List.getD,h2']
     have hd:digB false (l.getD i 0)=true:=List.all_eq_true.1 hall _ (by rw [List.getD_eq_getElem?_getD,List.getElem?_eq_getElem h2'];exact List.getElem_mem h2')
     have hs:=hstep h2'
     rw [← take_snoc h2'] at hs
     have hl1:=hle (i+1)
     have hb:=(l.getD i 0).toNat_lt
     generalize hbb:l.getD i 0=b at hrow hd hs hb
     conv=>whnf
     refine ⟨_,by omega,hrow,?_⟩
     conv=>whnf
     refine CondP.dec (fun h3=>?_) (fun h3=>?_)
     ·have h3':b.toNat=95:=by omega
      simp [digB,isDigit,h3'] at hd
     ·conv=>whnf
      have hd':48≤b.toNat∧b.toNat≤57:=by
       simp only [digB,Bool.false_and,Bool.or_false,isDigit,decide_eq_true_eq] at hd;omega
      refine CondP.dec (fun h4=>?_) (fun h4=>?_)
      ·conv=>whnf
       refine CondP.dec (fun h5=>?_) (fun h5=>?_)
       ·conv=>whnf
        refine Or.inl ⟨InR.u8 (by omega) (by omega),?_⟩
        have hD:(digV b:Int)=(b.toNat:Int) - 48:=by unfold digV;rw [if_pos (by omega)];omega
        conv=>whnf
        refine Or.inl ⟨InR.u8 (by omega) (by omega),?_⟩
        conv=>whnf
        refine CondP.dec (fun h6=>?_) (fun h6=>?_)
        ·omega
        ·conv=>whnf
         refine CondP.dec (fun h7=>?_) (fun h7=>?_)
         ·conv=>whnf
          exact hov (by omega)
         ·conv=>whnf
          refine Or.inl ⟨InR.u64 (by omega) (by omega),?_⟩
          conv=>whnf
          refine Or.inl ⟨InR.u64 (by omega) (by omega),?_⟩
          conv=>whnf
          refine Or.inl ⟨InR.u64 (by omega) (by omega),?_⟩
          conv=>whnf
          by_cases hbig:(N:Int) * 10+((b.toNat:Int) - 48)≤18446744073709551615
          ·refine Or.inl ⟨InR.u64 (by omega) (by omega),?_⟩
           conv=>whnf
           refine CondP.dec (fun h8=>?_) (fun h8=>?_)
           ·omega
           ·conv=>whnf
            refine CondP.dec (fun h9=>?_) (fun h9=>?_)
            ·conv=>whnf
             exact hov (by omega)
            ·conv=>whnf
             refine Or.inl ⟨InR.i64 (by omega) (by omega),?_⟩
             conv=>whnf
             refine ⟨⟨rfl,i+1,?_,by omega,by omega⟩,?_⟩
             ·have e:((numV 10 (l.take (i+1)):Nat):Int)=(N:Int) * 10+((b.toNat:Int) - 48):=by omega
              rw [e];rfl
             ·exact (show ((l.length:Int) - ((i:Int)+1)).toNat<((l.length:Int) - (i:Int)).toNat by omega)
          ·have hw:IntKind.u64.wrap ((N:Int) * 10+((b.toNat:Int) - 48))=(N:Int) * 10+((b.toNat:Int) - 48) - 18446744073709551616:=by
            simp only [IntKind.wrap,show IntKind.u64.bits=64 from rfl,show IntKind.u64.signed=false from rfl,Bool.false_and,Bool.false_eq_true,if_false]
            omega
           refine Or.inr ?_
           conv=>whnf
           refine CondP.dec (fun h8=>?_) (fun h8=>?_)
           ·conv=>whnf
            exact hov (by omega)
           ·exfalso;exact h8 (by rw [hw];omega)
       ·omega
      ·omega
    ·have h2':¬i<l.length:=fun g=>h2 (by simpa using g)
     have hil:i=l.length:=by omega
     rw [hil,List.take_length] at hNN
     conv=>whnf
     rw [hNN] at hgd
     exact hgd (by omega)
 ·exact h.elim
end Go.PM.Lex
end

section
set_option maxRecDepth 100000
set_option maxHeartbeats 4000000
namespace Go.PM.Lex
open Go.Proofs
variable {w0:World} {nG:Nat}
theorem b_or128:∀n:Fin 64,bitsOf .or .u8 128 (n.val:Int)=128+n.val:=by rw [bitsOf_eq];decide +kernel
theorem b_or192:∀n:Fin 32,bitsOf .or .u8 192 (n.val:Int)=192+n.val:=by rw [bitsOf_eq];decide +kernel
theorem b_or224:∀n:Fin 16,bitsOf .or .u8 224 (n.val:Int)=224+n.val:=by rw [bitsOf_eq];decide +kernel
theorem b_or240:∀n:Fin 8,bitsOf .or .u8 240 (n.val:Int)=240+n.val:=by rw [bitsOf_eq];decide +kernel
theorem b_and63:∀n:Fin 256,bitsOf .and .u8 (n.val:Int) 63=n.val % 64:=by rw [bitsOf_eq];decide +kernel
theorem o128 {x:Int} (h0:0≤x) (h1:x<64):bitsOf .or .u8 128 x=128+x:=by obtain ⟨n,rfl⟩:∃n:Nat,x=n:=⟨x.toNat,by omega⟩;exact b_or128 ⟨n,by omega⟩
theorem o192 {x:Int} (h0:0≤x) (h1:x<32):bitsOf .or .u8 192 x=192+x:=by obtain ⟨n,rfl⟩:∃n:Nat,x=n:=⟨x.toNat,by omega⟩;exact b_or192 ⟨n,by omega⟩
theorem o224 {x:Int} (h0:0≤x) (h1:x<16):bitsOf .or .u8 224 x=224+x:=by obtain ⟨n,rfl⟩:∃n:Nat,x=n:=⟨x.toNat,by omega⟩;exact b_or224 ⟨n,by omega⟩
theorem o240 {x:Int} (h0:0≤x) (h1:x<8):bitsOf .or .u8 240 x=240+x:=by obtain ⟨n,rfl⟩:∃n:Nat,x=n:=⟨x.toNat,by omega⟩;exact b_or240 ⟨n,by omega⟩
theorem a63 {x:Int} (h0:0≤x) (h1:x<256):bitsOf .and .u8 x 63=x % 64:=by obtain ⟨n,rfl⟩:∃n:Nat,x=n:=⟨x.toNat,by omega⟩;rw [b_and63 ⟨n,by omega⟩]
theorem wu8 (n:Int):IntKind.u8.wrap n=n % 256:=by simp [IntKind.wrap,IntKind.bits,IntKind.signed]
theorem bytesR_enc (c:Int):bytesR (Lib.encodeRune c)=(Lib.encodeRuneZ c).map fun x=>[D.int .u8 x]:=by
 have h:=Lib.encodeRuneZ_byte c
 unfold Lib.encodeRune bytesR
 rw [List.map_map]
 refine List.map_congr_left fun x hx=>?_
 have:=h x hx
 simp [UInt8.toNat_ofNat']
 omega
noncomputable def spAppendRune:Spec:=fun args σ K=>match args,σ with
 | [.sl 0 e rows,.d (.int .i32 c)],⟨[],[0],1⟩=>(e=5∧(∀r∈rows,r.length=1)∧rows.length<70368744177664∧0≤c∧c≤1114111)∧K (.ret (.sl 0 5 (rows++bytesR (Lib.encodeRune c)))) ⟨[],[0],1⟩
 | _,_=>False
theorem spAppendRune_mono:SpecMono spAppendRune:=fun args σ K K' hK h=>by
 unfold spAppendRune at h ⊢;split at h <;> first | exact ⟨h.1,hK _ _ h.2⟩ | exact h.elim
noncomputable def spAppendRune2:Spec:=fun args σ K=>match args,σ with
 | [.sl 0 e rows,.d (.int .i32 c)],⟨[],[0],1⟩=>(e=5∧(∀r∈rows,r.length=1)∧rows.length<70368744177664∧128≤c∧c≤1114111)∧K (.ret (.sl 0 5 (rows++bytesR (Lib.encodeRune c)))) ⟨[],[0],1⟩
 | _,_=>False
theorem spAppendRune2_mono:SpecMono spAppendRune2:=fun args σ K K' hK h=>by
 unfold spAppendRune2 at h ⊢;split at h <;> first | exact ⟨h.1,hK _ _ h.2⟩ | exact h.elim
theorem appendRune2_ok:PCalls (GG w0 nG) 271 spAppendRune2:=by
 refine pcalls tab_ok mixed (tbl:=[]) trivial Tryz.func271 rfl (by kernel_rfl) (by kernel_rfl) ?_
 intro args σ K h
 unfold spAppendRune2 at h
 split at h
 ·rename_i e rows c
  obtain ⟨⟨rfl,hr1,hrl,hc0,hc1⟩,h⟩:=h
  refine ⟨loopsOf [],0,true,by simp,Nat.le_of_ble_eq_true rfl,?_⟩
  have e6:c.fdiv (2 ^ min (Int.toNat 6) IntKind.i32.bits)=c / 64:=by rw [show (2:Int) ^ min (Int.toNat 6) IntKind.i32.bits=64 by decide];exact Int.fdiv_eq_ediv_of_nonneg _ (by omega)
  have e12:c.fdiv (2 ^ min (Int.toNat 12) IntKind.i32.bits)=c / 4096:=by rw [show (2:Int) ^ min (Int.toNat 12) IntKind.i32.bits=4096 by decide];exact Int.fdiv_eq_ediv_of_nonneg _ (by omega)
  have e18:c.fdiv (2 ^ min (Int.toNat 18) IntKind.i32.bits)=c / 262144:=by rw [show (2:Int) ^ min (Int.toNat 18) IntKind.i32.bits=262144 by decide];exact Int.fdiv_eq_ediv_of_nonneg _ (by omega)
  conv=>whnf
  refine Or.inl ⟨InR.u32 (by omega) (by omega),?_⟩
  conv=>whnf
  refine CondP.dec (fun h1=>?_) (fun h1=>?_)
  ·skip
   have g:K (.ret (.sl 0 5 (rows++[[D.int .u8 (bitsOf .or .u8 192 (IntKind.u8.wrap (c.fdiv (2 ^ min (Int.toNat 6) IntKind.i32.bits))))],[D.int .u8 (bitsOf .or .u8 128 (bitsOf .and .u8 (IntKind.u8.wrap (c)) 63))]]))) ⟨[],[0],1⟩:=by
    have e:bytesR (Lib.encodeRune c)=[[D.int .u8 (bitsOf .or .u8 192 (IntKind.u8.wrap (c.fdiv (2 ^ min (Int.toNat 6) IntKind.i32.bits))))],[D.int .u8 (bitsOf .or .u8 128 (bitsOf .and .u8 (IntKind.u8.wrap (c)) 63))]]:=by
     rw [bytesR_enc,Lib.encodeRuneZ_two hc0 (by omega)]
     simp only [e6,e12,e18,wu8,List.map_cons,List.map_nil]
     rw [o192 (by omega) (by omega),a63 (by omega) (by omega),o128 (by omega) (by omega),show c / 64 % 256=c / 64 by omega,show c % 256 % 64=c % 64 by omega]
     all_goals (try omega)
     (try (congr 1 <;> omega))
    rw [e] at h;exact h
   conv=>whnf
   refine ⟨by decide,?_⟩
   conv=>whnf
   refine Or.inr ?_
   conv=>whnf
   refine Or.inr ?_
   conv=>whnf
   refine ⟨fun r hr=>by (simp at hr;rcases hr with rfl | rfl <;> rfl),(show (rows.length+2) * 1≤2 ^ 47 by omega),(show rows.length+2≤2 ^ 47 by omega),?_⟩
   conv=>whnf
   exact g
  ·conv=>whnf
   refine CondP.dec (fun h2=>?_) (fun h2=>?_)
   ·conv=>whnf
    refine CondP.dec (fun h2'=>?_) (fun h2'=>absurd h2 h2')
    have g:K (.ret (.sl 0 5 (rows++[[D.int .u8 (bitsOf .or .u8 224 (IntKind.u8.wrap (c.fdiv (2 ^ min (Int.toNat 12) IntKind.i32.bits))))],[D.int .u8 (bitsOf .or .u8 128 (bitsOf .and .u8 (IntKind.u8.wrap (c.fdiv (2 ^ min (Int.toNat 6) IntKind.i32.bits))) 63))],[D.int .u8 (bitsOf .or .u8 128 (bitsOf .and .u8 (IntKind.u8.wrap (c)) 63))]]))) ⟨[],[0],1⟩:=by
     have e:bytesR (Lib.encodeRune c)=[[D.int .u8 (bitsOf .or .u8 224 (IntKind.u8.wrap (c.fdiv (2 ^ min (Int.toNat 12) IntKind.i32.bits))))],[D.int .u8 (bitsOf .or .u8 128 (bitsOf .and .u8 (IntKind.u8.wrap (c.fdiv (2 ^ min (Int.toNat 6) IntKind.i32.bits))) 63))],[D.int .u8 (bitsOf .or .u8 128 (bitsOf .and .u8 (IntKind.u8.wrap (c)) 63))]]:=by
      rw [bytesR_enc,Lib.encodeRuneZ_three (by omega)]
      simp only [e6,e12,e18,wu8,List.map_cons,List.map_nil]
      rw [o224 (by omega) (by omega),a63 (by omega) (by omega),a63 (by omega) (by omega),o128 (by omega) (by omega),o128 (by omega) (by omega),show c / 4096 % 256=c / 4096 by omega,show c / 64 % 256 % 64=c / 64 % 64 by omega,show c % 256 % 64=c % 64 by omega]
      all_goals (try omega)
      (try (congr 1 <;> omega))
     rw [e] at h;exact h
    conv=>whnf
    refine ⟨by decide,?_⟩
    conv=>whnf
    refine Or.inr ?_
    conv=>whnf
    refine ⟨by decide,?_⟩
    conv=>whnf
    refine Or.inr ?_
    conv=>whnf
    refine Or.inr ?_
    conv=>whnf
    refine ⟨fun r hr=>by (simp at hr;rcases hr with rfl | rfl | rfl <;> rfl),(show (rows.length+3) * 1≤2 ^ 47 by omega),(show rows.length+3≤2 ^ 47 by omega),?_⟩
    conv=>whnf
    exact g
   ·conv=>whnf
    refine CondP.dec (fun h3=>?_) (fun h3=>?_)
    ·conv=>whnf
     refine CondP.dec (fun h4=>?_) (fun h4=>?_)
     ·skip
      have g:K (.ret (.sl 0 5 (rows++[[D.int .u8 (bitsOf .or .u8 224 (IntKind.u8.wrap (c.fdiv (2 ^ min (Int.toNat 12) IntKind.i32.bits))))],[D.int .u8 (bitsOf .or .u8 128 (bitsOf .and .u8 (IntKind.u8.wrap (c.fdiv (2 ^ min (Int.toNat 6) IntKind.i32.bits))) 63))],[D.int .u8 (bitsOf .or .u8 128 (bitsOf .and .u8 (IntKind.u8.wrap (c)) 63))]]))) ⟨[],[0],1⟩:=by
       have e:bytesR (Lib.encodeRune c)=[[D.int .u8 (bitsOf .or .u8 224 (IntKind.u8.wrap (c.fdiv (2 ^ min (Int.toNat 12) IntKind.i32.bits))))],[D.int .u8 (bitsOf .or .u8 128 (bitsOf .and .u8 (IntKind.u8.wrap (c.fdiv (2 ^ min (Int.toNat 6) IntKind.i32.bits))) 63))],[D.int .u8 (bitsOf .or .u8 128 (bitsOf .and .u8 (IntKind.u8.wrap (c)) 63))]]:=by
        rw [bytesR_enc,Lib.encodeRuneZ_three (by omega)]
        simp only [e6,e12,e18,wu8,List.map_cons,List.map_nil]
        rw [o224 (by omega) (by omega),a63 (by omega) (by omega),a63 (by omega) (by omega),o128 (by omega) (by omega),o128 (by omega) (by omega),show c / 4096 % 256=c / 4096 by omega,show c / 64 % 256 % 64=c / 64 % 64 by omega,show c % 256 % 64=c % 64 by omega]
        all_goals (try omega)
        (try (congr 1 <;> omega))
       rw [e] at h;exact h
      conv=>whnf
      refine ⟨by decide,?_⟩
      conv=>whnf
      refine Or.inr ?_
      conv=>whnf
      refine ⟨by decide,?_⟩
      conv=>whnf
      refine Or.inr ?_
      conv=>whnf
      refine Or.inr ?_
      conv=>whnf
      refine ⟨fun r hr=>by (simp at hr;rcases hr with rfl | rfl | rfl <;> rfl),(show (rows.length+3) * 1≤2 ^ 47 by omega),(show rows.length+3≤2 ^ 47 by omega),?_⟩
      conv=>whnf
      exact g
     ·conv=>whnf
      refine CondP.dec (fun h5=>?_) (fun h5=>?_)
      ·conv=>whnf
       refine CondP.dec (fun h6=>?_) (fun h6=>?_)
       ·skip
        have g:K (.ret (.sl 0 5 (rows++[[D.int .u8 (bitsOf .or .u8 240 (IntKind.u8.wrap (c.fdiv (2 ^ min (Int.toNat 18) IntKind.i32.bits))))],[D.int .u8 (bitsOf .or .u8 128 (bitsOf .and .u8 (IntKind.u8.wrap (c.fdiv (2 ^ min (Int.toNat 12) IntKind.i32.bits))) 63))],[D.int .u8 (bitsOf .or .u8 128 (bitsOf .and .u8 (IntKind.u8.wrap (c.fdiv (2 ^ min (Int.toNat 6) IntKind.i32.bits))) 63))],[D.int .u8 (bitsOf .or .u8 128 (bitsOf .and .u8 (IntKind.u8.wrap (c)) 63))]]))) ⟨[],[0],1⟩:=by
         have e:bytesR (Lib.encodeRune c)=[[D.int .u8 (bitsOf .or .u8 240 (IntKind.u8.wrap (c.fdiv (2 ^ min (Int.toNat 18) IntKind.i32.bits))))],[D.int .u8 (bitsOf .or .u8 128 (bitsOf .and .u8 (IntKind.u8.wrap (c.fdiv (2 ^ min (Int.toNat 12) IntKind.i32.bits))) 63))],[D.int .u8 (bitsOf .or .u8 128 (bitsOf .and .u8 (IntKind.u8.wrap (c.fdiv (2 ^ min (Int.toNat 6) IntKind.i32.bits))) 63))],[D.int .u8 (bitsOf .or .u8 128 (bitsOf .and .u8 (IntKind.u8.wrap (c)) 63))]]:=by
          rw [bytesR_enc,Lib.encodeRuneZ_four (by omega) (by omega)]
          simp only [e6,e12,e18,wu8,List.map_cons,List.map_nil]
          rw [o240 (by omega) (by omega),a63 (by omega) (by omega),a63 (by omega) (by omega),a63 (by omega) (by omega),o128 (by omega) (by omega),o128 (by omega) (by omega),o128 (by omega) (by omega),show c / 262144 % 256=c / 262144 by omega,show c / 4096 % 256 % 64=c / 4096 % 64 by omega,show c / 64 % 256 % 64=c / 64 % 64 by omega,show c % 256 % 64=c % 64 by omega]
          all_goals (try omega)
          (try (congr 1 <;> omega))
         rw [e] at h;exact h
        conv=>whnf
        refine ⟨by decide,?_⟩
        conv=>whnf
        refine Or.inr ?_
        conv=>whnf
        refine ⟨by decide,?_⟩
        conv=>whnf
        refine Or.inr ?_
        conv=>whnf
        refine ⟨by decide,?_⟩
        conv=>whnf
        refine Or.inr ?_
        conv=>whnf
        refine Or.inr ?_
        conv=>whnf
        refine ⟨fun r hr=>by (simp at hr;rcases hr with rfl | rfl | rfl | rfl <;> rfl),(show (rows.length+4) * 1≤2 ^ 47 by omega),(show rows.length+4≤2 ^ 47 by omega),?_⟩
        conv=>whnf
        exact g
       ·omega
      ·omega
    ·conv=>whnf
     refine CondP.dec (fun h5=>?_) (fun h5=>?_)
     ·omega
     ·skip
      have g:K (.ret (.sl 0 5 (rows++[[D.int .u8 (239)],[D.int .u8 (191)],[D.int .u8 (189)]]))) ⟨[],[0],1⟩:=by
       have e:bytesR (Lib.encodeRune c)=[[D.int .u8 (239)],[D.int .u8 (191)],[D.int .u8 (189)]]:=by
        rw [bytesR_enc,Lib.encodeRuneZ_bad (by omega)]
        rfl
       rw [e] at h;exact h
      conv=>whnf
      refine ⟨fun r hr=>by (simp at hr;rcases hr with rfl | rfl | rfl <;> rfl),(show (rows.length+3) * 1≤2 ^ 47 by omega),(show rows.length+3≤2 ^ 47 by omega),?_⟩
      conv=>whnf
      exact g
 ·exact h.elim
noncomputable def tblAR:Tbl:=[(271,spAppendRune2)]
theorem appendRune_ok:PCalls (GG w0 nG) 219 spAppendRune:=by
 refine pcalls tab_ok mixed (tbl:=tblAR) ⟨⟨appendRune2_ok,spAppendRune2_mono⟩,trivial⟩ Tryz.func219 rfl (by kernel_rfl) (by kernel_rfl) ?_
 intro args σ K h
 unfold spAppendRune at h
 split at h
 ·rename_i e rows c
  obtain ⟨⟨rfl,hr1,hrl,hc0,hc1⟩,h⟩:=h
  refine ⟨loopsOf [],0,true,by simp,Nat.le_of_ble_eq_true rfl,?_⟩
  conv=>whnf
  refine Or.inl ⟨InR.u32 (by omega) (by omega),?_⟩
  conv=>whnf
  refine CondP.dec (fun h1=>?_) (fun h1=>?_)
  ·have e:bytesR (Lib.encodeRune c)=[[D.int .u8 c]]:=by rw [bytesR_enc,Lib.encodeRuneZ_one hc0 h1];rfl
   rw [e] at h
   conv=>whnf
   refine Or.inl ⟨InR.u8 (by omega) (by omega),?_⟩
   conv=>whnf
   refine ⟨fun r hr=>by (simp at hr;rcases hr with rfl <;> rfl),(show (rows.length+1) * 1≤2 ^ 47 by omega),(show rows.length+1≤2 ^ 47 by omega),?_⟩
   conv=>whnf
   exact h
  ·conv=>whnf
   refine ⟨⟨rfl,hr1,by omega,by omega,by omega⟩,?_⟩
   conv=>whnf
   exact h
 ·exact h.elim
noncomputable def tblWB:Tbl:=[(214,spCopyCheck)]
theorem tblWB_ok:TblOK (GG w0 nG) tblWB:=⟨⟨copyCheck_ok,spCopyCheck_mono⟩,trivial⟩
theorem writeByte_ok:PCalls (GG w0 nG) 150 spWriteByte:=by
 refine pcalls tab_ok mixed tblWB_ok Tryz.func150 rfl (by kernel_rfl) (by kernel_rfl) ?_
 intro args σ K h
 unfold spWriteByte at h
 split at h
 ·rename_i c t p e rows
  obtain ⟨⟨hp,rfl,rfl,hr1,hrl⟩,h⟩:=h
  refine ⟨loopsOf [],1,true,by simp,Nat.le_of_ble_eq_true rfl,?_⟩
  rcases hp with rfl | rfl
  ·conv=>whnf
   refine ⟨⟨.inl rfl,rfl⟩,?_⟩
   conv=>whnf
   refine ⟨fun r hr=>by (simp at hr;rcases hr with rfl <;> rfl),(show (rows.length+1) * 1≤2 ^ 47 by omega),(show rows.length+1≤2 ^ 47 by omega),?_⟩
   conv=>whnf
   exact h
  ·conv=>whnf
   refine ⟨⟨.inr rfl,rfl⟩,?_⟩
   conv=>whnf
   refine ⟨fun r hr=>by (simp at hr;rcases hr with rfl <;> rfl),(show (rows.length+1) * 1≤2 ^ 47 by omega),(show rows.length+1≤2 ^ 47 by omega),?_⟩
   conv=>whnf
   exact h
 ·exact h.elim
theorem enc4 (c:Int):(Lib.encodeRune c).length≤4:=by unfold Lib.encodeRune;rw [List.length_map];exact (Lib.encodeRuneZ_length c).2
noncomputable def tblWR:Tbl:=[(214,spCopyCheck),(219,spAppendRune)]
theorem tblWR_ok:TblOK (GG w0 nG) tblWR:=⟨⟨copyCheck_ok,spCopyCheck_mono⟩,⟨appendRune_ok,spAppendRune_mono⟩,trivial⟩
theorem writeRune_ok:PCalls (GG w0 nG) 152 spWriteRune:=by
 refine pcalls tab_ok mixed tblWR_ok Tryz.func152 rfl (by kernel_rfl) (by kernel_rfl) ?_
 intro args σ K h
 unfold spWriteRune at h
 split at h
 ·rename_i c t p e rows
  obtain ⟨⟨hp,rfl,rfl,hr1,hrl,hc0,hc1⟩,h⟩:=h
  refine ⟨loopsOf [],1,true,by simp,Nat.le_of_ble_eq_true rfl,?_⟩
  rcases hp with rfl | rfl
  ·conv=>whnf
   refine ⟨⟨.inl rfl,rfl⟩,?_⟩
   conv=>whnf
   refine ⟨⟨rfl,hr1,hrl,hc0,hc1⟩,?_⟩
   conv=>whnf
   refine Or.inl ⟨InR.i64 (by rw [List.length_append,bytesR_len'];have:=Lib.encodeRuneZ_length c;omega) (by rw [List.length_append,bytesR_len'];have:=enc4 c;omega),?_⟩
   conv=>whnf
   exact h
  ·conv=>whnf
   refine ⟨⟨.inr rfl,rfl⟩,?_⟩
   conv=>whnf
   refine ⟨⟨rfl,hr1,hrl,hc0,hc1⟩,?_⟩
   conv=>whnf
   refine Or.inl ⟨InR.i64 (by rw [List.length_append,bytesR_len'];omega) (by rw [List.length_append,bytesR_len'];have:=enc4 c;omega),?_⟩
   conv=>whnf
   exact h
 ·exact h.elim
end Go.PM.Lex
end

section
set_option maxRecDepth 100000
set_option maxHeartbeats 4000000
namespace Go.PM.Lex
open Go.Proofs
variable {w0:World} {nG:Nat}
noncomputable def spValidRune:Spec:=fun args σ K=>match args with
 | [.d (.int .i32 c)]=>K (.ret (.d (.bool (Lib.validRune c)))) σ
 | _=>False
theorem spValidRune_mono:SpecMono spValidRune:=fun args σ K K' hK h=>by
 unfold spValidRune at h ⊢;split at h <;> first | exact hK _ _ h | exact h.elim
theorem enc_hi (c:Int) (h:128≤c) (h2:c≤1114111):2≤(Utf8.encode c).data.toList.length∧(Utf8.encode c).data.toList.length≤4∧∀b∈(Utf8.encode c).data.toList,128≤b.toNat:=by
 unfold Utf8.encode
 simp only
 generalize hn:(if Utf8.valid c then c.toNat else Utf8.runeError)=n
 have hn1:128≤n∧n≤1114111:=by
  rw [← hn];split
  ·omega
  ·simp [Utf8.runeError]
 rw [if_neg (by omega)]
 split
 ·simp [UInt8.toNat_ofNat'];omega
 ·split
  ·simp [UInt8.toNat_ofNat'];omega
  ·simp [UInt8.toNat_ofNat'];omega
theorem index_low {l:Bs} {c:UInt8} (h:∀b∈l,b.toNat<128) (hc:128≤c.toNat):Lib.indexByte l c=-1:=by
 induction l with
 | nil=>rfl
 | cons b l ih =>
  have h1:=ih (fun x hx=>h x (List.mem_cons_of_mem _ hx))
  have h2:(b == c)=false:=by
   simp only [beq_eq_false_iff_ne];intro e;subst e;have:=h b (by simp);omega
  simp [Lib.indexByte,h1,h2]
theorem getD_low {s:Bs} (h:∀b∈s,b.toNat<128) (i:Nat):(s.getD i 0).toNat<128:=by
 rw [List.getD_eq_getElem?_getD]
 by_cases hi:i<s.length
 ·rw [List.getElem?_eq_getElem hi];exact h _ (List.getElem_mem hi)
 ·rw [List.getElem?_eq_none (by omega)];decide
theorem getD_hi {s:Bs} (h:∀b∈s,128≤b.toNat) {i:Nat} (hi:i<s.length):128≤(s.getD i 0).toNat:=by
 rw [List.getD_eq_getElem?_getD,List.getElem?_eq_getElem hi];exact h _ (List.getElem_mem hi)
theorem u8_of {n:Int} {k:Nat} (h:n=k) (hk:k<256):(n.toNat.toUInt8).toNat=k:=by
 subst h;simp [UInt8.toNat_ofNat'];omega
noncomputable def tblIR:Tbl:=[(215,spIndexByte),(216,spValidRune)]
theorem indexRune_ok (ht:TblOK (GG w0 nG) tblIR):PCalls (GG w0 nG) 151 spIndexRune:=by
 refine pcalls tab_ok mixed ht Tryz.func151 rfl (by kernel_rfl) (by kernel_rfl) ?_
 intro args σ K h
 unfold spIndexRune at h
 split at h
 ·rename_i s c
  obtain ⟨⟨hs,hc0,hc1⟩,h⟩:=h
  have hsl:s.length=4:=by rcases hs with rfl | rfl <;> rfl
  have hsa:∀b∈s,b.toNat<128:=by rcases hs with rfl | rfl <;> decide
  have hsd:∀p,p<4→(decodeL s p).1<128∧(decodeL s p).2=1:=by
   intro p hp
   rcases hs with rfl | rfl
   all_goals (match p,hp with | 0,_=>exact ⟨by decide,by decide⟩ | 1,_=>exact ⟨by decide,by decide⟩ | 2,_=>exact ⟨by decide,by decide⟩ | 3,_=>exact ⟨by decide,by decide⟩)
  refine ⟨loopsOf [(38,⟨[],[0,175],fun vs σ=>vs=[]∧∃p:Nat,p≤4∧σ=⟨[.iter s p],[],0⟩,fun _ σ=>match σ.bx with | [.iter _ p]=>4 - p | _=>0⟩),
    (5,⟨[9],[0,1,7,8],fun vs σ=>σ=⟨[],[],0⟩∧vs=[.d (.int .i64 (((Utf8.encode c).data.toList.length:Int) - 1))],fun _ _=>0⟩)],0,false,by simp,Nat.le_of_ble_eq_true rfl,?_⟩
  have hneg:128≤c→K (.ret (.d (.int .i64 (-1)))) ⟨[],[],0⟩:=fun g=>by
   have:idxR s c=-1:=by unfold idxR;rw [if_neg (by omega)]
   rw [this] at h;exact h
  conv=>whnf
  refine CondP.dec (fun h1=>?_) (fun h1=>?_)
  ·conv=>whnf
   refine CondP.dec (fun h2=>?_) (fun h2=>?_)
   ·have e:idxR s c=Lib.indexByte s c.toNat.toUInt8:=by unfold idxR;rw [if_pos h2]
    rw [e] at h
    conv=>whnf
    refine Or.inl ⟨InR.u8 (by omega) (by omega),?_⟩
    conv=>whnf
    exact h
   ·conv=>whnf
    refine CondP.dec (fun h3=>?_) (fun h3=>?_)
    ·conv=>whnf
     refine ⟨⟨rfl,0,by omega,rfl⟩,?_⟩
     intro vs σ1 hI
     obtain ⟨rfl,p,hp,rfl⟩:=hI
     conv=>whnf
     refine CondP.dec (fun h4=>?_) (fun h4=>?_)
     ·have hd:=hsd p (by omega)
      conv=>whnf
      refine CondP.dec (fun h5=>?_) (fun h5=>?_)
      ·omega
      ·conv=>whnf
       refine ⟨⟨rfl,p+1,by omega,by rw [hd.2];rfl⟩,?_⟩
       exact (show 4 - (p+(decodeL s p).2)<4 - p by omega)
     ·conv=>whnf
      exact hneg (by omega)
    ·conv=>whnf
     refine CondP.intro (fun h4=>?_) (fun h4=>?_)
     ·conv=>whnf
      exact hneg (by omega)
     ·obtain ⟨e1,e2,e3⟩:=enc_hi c (by omega) hc1
      have hl:=getD_hi e3 (i:=(Utf8.encode c).data.toList.length - 1) (by omega)
      conv=>whnf
      refine Or.inl ⟨InR.i64 (by omega) (by omega),?_⟩
      conv=>whnf
      refine ⟨⟨rfl,rfl⟩,?_⟩
      intro vs σ1 hI
      obtain ⟨rfl,rfl⟩:=hI
      conv=>whnf
      refine CondP.dec (fun h5=>?_) (fun h5=>?_)
      ·conv=>whnf
       refine ⟨by omega,by omega,?_⟩
       conv=>whnf
       refine ⟨by omega,by omega,?_⟩
       conv=>whnf
       have hlo:=getD_low hsa (((Utf8.encode c).data.toList.length:Int) - 1).toNat
       have hhi:128≤((Utf8.encode c).data.toList.getD (((Utf8.encode c).data.toList.length:Int) - 1).toNat 0).toNat:=getD_hi e3 (by omega)
       refine CondP.ndec (fun h6=>?_) (fun h6=>?_)
       ·conv=>whnf
        refine Or.inl ⟨InR.i64 (by omega) (by omega),?_⟩
        conv=>whnf
        refine ⟨by omega,by omega,?_⟩
        conv=>whnf
        refine ⟨by omega,by omega,?_⟩
        conv=>whnf
        generalize hx:Lib.indexByte _ _=x
        have:x=-1:=by
         rw [← hx]
         refine index_low (fun b hb=>hsa b (List.mem_of_mem_take (List.mem_of_mem_drop hb))) ?_
         rw [u8_of rfl (UInt8.toNat_lt _)]
         exact hhi
        subst this
        conv=>whnf
        exact hneg (by omega)
       ·omega
      ·omega
  ·omega
 ·exact h.elim
end Go.PM.Lex
end

section
set_option maxRecDepth 100000
set_option maxHeartbeats 4000000
namespace Go.PM.Lex
open Go.Proofs
variable {w0:World} {nG:Nat}
theorem dec_rng (r:Bs):(Lib.decodeL r).1≤1114111∧1≤(Lib.decodeL r).2∧(Lib.decodeL r).2≤4:=by
 rw [Lib.decodeL_N]
 have k0:=(r.getD 0 0).toNat_lt
 rcases Lib.decodeN_shape r.length (r.getD 0 0).toNat (r.getD 1 0).toNat (r.getD 2 0).toNat (r.getD 3 0).toNat with ⟨c,e⟩ | ⟨c1,c2,c3,cv,e⟩ | ⟨c1,c2,c3,c4,cv,cs,e⟩ | ⟨c1,c2,c3,c4,c5,cv,cw,e⟩ | e
 all_goals (rw [e];dsimp only;omega)
theorem enc_len (c:Int):(Lib.encodeRune c).length≤4:=by
 unfold Lib.encodeRune Lib.encodeRuneZ
 rw [List.length_map]
 repeat' split
 all_goals simp
theorem byte_ne {n k:Nat} (h:n<128) (hk:k<128) (hne:n≠k):(n:Int).toNat.toUInt8≠UInt8.ofNat k:=by
 intro h1
 have h2:=congrArg UInt8.toNat h1
 simp [UInt8.toNat_ofNat'] at h2
 omega
theorem esc_none {n:Nat} (h:escB n=none):idxR [110,116,34,92] n=-1:=by
 unfold escB at h
 split at h;· cases h
 split at h;· cases h
 split at h;· cases h
 split at h;· cases h
 rename_i h1 h2 h3 h4
 unfold idxR
 split
 ·rename_i h5
  have hc:([110,116,34,92]:Bs).contains ((n:Int).toNat.toUInt8)=false:=by
   have b1:=byte_ne (n:=n) (k:=110) (by omega) (by omega) h1
   have b2:=byte_ne (n:=n) (k:=116) (by omega) (by omega) h2
   have b3:=byte_ne (n:=n) (k:=34) (by omega) (by omega) h3
   have b4:=byte_ne (n:=n) (k:=92) (by omega) (by omega) h4
   simp only [List.contains_cons,List.contains_nil,Bool.or_false,Bool.or_eq_false_iff,beq_eq_false_iff_ne]
   exact ⟨b1,b2,b3,b4⟩
  rw [Lib.contains_iff_indexByte,decide_eq_false_iff_not] at hc
  have:=Lib.indexByte_ge [110,116,34,92] ((n:Int).toNat.toUInt8)
  omega
 ·rfl
theorem esc_some {n:Nat} {b:UInt8} (h:escB n=some b):(idxR [110,116,34,92] n=0∧b=10)∨(idxR [110,116,34,92] n=1∧b=9)∨(idxR [110,116,34,92] n=2∧b=34)∨(idxR [110,116,34,92] n=3∧b=92):=by
 unfold escB at h
 split at h;· cases h;rename_i h;subst h;exact .inl ⟨by decide,rfl⟩
 split at h;· cases h;rename_i h;subst h;exact .inr (.inl ⟨by decide,rfl⟩)
 split at h;· cases h;rename_i h;subst h;exact .inr (.inr (.inl ⟨by decide,rfl⟩))
 split at h;· cases h;rename_i h;subst h;exact .inr (.inr (.inr ⟨by decide,rfl⟩))
 cases h
theorem bytesR_snoc (l:Bs) (b:UInt8):bytesR (l++[b])=bytesR l++[[.int .u8 b.toNat]]:=by simp [bytesR]
theorem bytesR_app (l m:Bs):bytesR (l++m)=bytesR l++bytesR m:=by simp [bytesR]
theorem bytesR_one (l:Bs):∀r∈bytesR l,r.length=1:=by
 intro r hr
 simp only [bytesR,List.mem_map] at hr
 obtain ⟨b,_,rfl⟩:=hr
 rfl
theorem bytesR_len (l:Bs):(bytesR l).length=l.length:=by simp [bytesR]
def muIt (B:Nat):List PV→St→Nat:=fun _ σ=>match σ.bx with | [_,_,_,_,.iter _ p]=>B - p | _=>0
noncomputable def tblText:Tbl:=[(151,spIndexRune),(150,spWriteByte),(209,spPeek),(152,spWriteRune),(31,spString)]
theorem text_ok (ht:TblOK (GG w0 nG) tblText):PCalls (GG w0 nG) 280 spText:=by
 refine pcalls tab_ok mixed ht Tryz.func280 rfl (by kernel_rfl) (by kernel_rfl) ?_
 intro args σ K h
 unfold spText at h
 split at h
 ·rename_i t s a
  obtain ⟨⟨h0,h1,hs⟩,h⟩:=h
  obtain ⟨a,rfl⟩:∃n:Nat,a=n:=⟨a.toNat,by omega⟩
  simp only [Int.toNat_natCast] at h
  obtain ⟨u,hu⟩:∃u,u=s.drop (a+1):=⟨_,rfl⟩
  have hul:u.length=s.length - (a+1):=by rw [hu,List.length_drop]
  refine ⟨loopsOf [(4,⟨[5],[0,2,3,4,22],fun vs σ=>∃(esc:Bool) (l:Bs) (i f:Nat) (p:PV),vs=[.d (.bool esc)] ∧
   σ=⟨[.cells t [.d (.str s),.d (.int .i64 a)],.cells 218 [.d (.int .u8 0),.d (.str []),.d (.int .i64 0),.d (.int .i64 0),.d (.int .i64 0)],.cells 220 [.d (.int .i64 0),.d (.int .i64 0)],.cells 82 [p,.sl 0 5 (bytesR l)],.iter u i],[0],1⟩ ∧
   (p=.d .nilp∨p=.ptr 3 0)∧(i≤u.length∧u.length<i+f∧l.length≤4 * i)∧textGo f (u.drop i) esc l (1+i)=textF (s.drop a),muIt u.length⟩)],1,false,by simp,Nat.le_of_ble_eq_true rfl,?_⟩
  have hbad:∀n:Nat,textF (s.drop a)=.err n→K (.ret (.tuple [tokPV 0 [] 0 0 0,fltPV ((a+n:Nat):Int) 141])) ⟨[.cells t [.d (.str s),.d (.int .i64 a)]],[],0⟩:=fun n g=>by
   have e1:textR a (s.drop a)=.bad (a+n) 141:=by rw [textR,g]
   rw [e1] at h;exact h
  have hgood:∀(l:Bs) (n:Nat),textF (s.drop a)=.ok l n→K (.ret (.tuple [tokPV 3 l 0 a ((a+n:Nat):Int),fltPV 0 0])) ⟨[.cells t [.d (.str s),.d (.int .i64 a)]],[],0⟩:=fun l n g=>by
   have e1:textR a (s.drop a)=.tok ⟨3,l,0,a,a+n⟩:=by rw [textR,g]
   rw [e1] at h;exact h
  have ha1:((a:Int)+1).toNat=a+1:=by omega
  conv=>whnf
  refine Or.inl ⟨InR.i64 (by omega) (by omega),?_⟩
  conv=>whnf
  refine ⟨by omega,by omega,?_⟩
  conv=>whnf
  rw [cut_end,ha1,← hu]
  refine ⟨⟨false,[],0,(s.drop a).length+1,.d .nilp,rfl,rfl,.inl rfl,⟨by omega,by rw [List.length_drop];omega,by simp⟩,?_⟩,?_⟩
  ·rw [textF,List.drop_drop,← hu];rfl
  intro vs σ1 hI
  obtain ⟨esc,l,i,f,p,rfl,rfl,hp,⟨hi1,hi2,hl4⟩,hgo⟩:=hI
  obtain ⟨f,rfl⟩:∃g,f=g+1:=⟨f - 1,by omega⟩
  have hb1:=bytesR_one l
  have hbl:=bytesR_len l
  have hdec:=dec_eq u i
  have hdr:=dec_rng (u.drop i)
  have hdl:=Lib.decodeL_le (u.drop i)
  rw [List.length_drop] at hdl
  cases esc with
  | true =>
   rcases hp with rfl | rfl
   ·conv=>whnf
    refine CondP.dec (fun h2=>?_) (fun h2=>?_)
    ·have hne:u.drop i≠[]:=fun g=>by have:=congrArg List.length g;rw [List.length_drop] at this;simp at this;omega
     conv=>whnf
     refine Or.inl ⟨InR.i64 (by omega) (by omega),?_⟩
     conv=>whnf
     refine Or.inl ⟨InR.i64 (by omega) (by omega),?_⟩
     conv=>whnf
     refine ⟨⟨.inl rfl,by omega,by rw [hdec];omega⟩,?_⟩
     conv=>whnf
     generalize hk:idxR _ _=k
     have hk':idxR [110,116,34,92] ((Lib.decodeL (u.drop i)).1:Int)=k:=by rw [← hdec];exact hk
     cases hE:escB (Lib.decodeL (u.drop i)).1 with
     | none =>
      rw [esc_none hE] at hk'
      subst hk'
      have g1:textF (s.drop a)=.err (1+i - 1):=by rw [← hgo];simp [textGo,hne,hE]
      conv=>whnf
      refine Or.inl ⟨InR.i64 (by omega) (by omega),?_⟩
      conv=>whnf
      have g2:=hbad _ g1
      rw [show ((a+(1+i - 1):Nat):Int)=(a:Int)+1+(i:Int) - 1 by omega] at g2
      exact g2
     | some b =>
      have g1:textF (s.drop a)=textGo f (u.drop (i+(decodeL u i).2)) false (l++[b]) (1+(i+(decodeL u i).2)):=by rw [← hgo,hdec];simp [textGo,hne,hE,List.drop_drop,Nat.add_assoc]
      have g3:i+(decodeL u i).2≤u.length:=by rw [hdec];have:=hdl hne;omega
      have hdr':1≤(decodeL u i).2:=by rw [hdec];omega
      rcases esc_some hE with ⟨e1,rfl⟩ | ⟨e1,rfl⟩ | ⟨e1,rfl⟩ | ⟨e1,rfl⟩
      all_goals (rw [e1] at hk';subst hk')
      all_goals (conv=>whnf)
      all_goals (refine ⟨by omega,by first | omega | (simp;done) | (simp;omega),?_⟩)
      all_goals (conv=>whnf)
      all_goals (refine ⟨⟨.inl rfl,rfl,rfl,hb1,by omega⟩,?_⟩)
      all_goals (conv=>whnf)
      all_goals (refine ⟨⟨false,_,_,f,_,rfl,?_,.inr rfl,⟨g3,by omega,?_⟩,g1.symm⟩,?_⟩)
      all_goals (first | (rw [bytesR_snoc];rfl) | (rw [List.length_append];simp;omega) | exact (show u.length - (i+(decodeL u i).2)<u.length - i by omega))
    ·have hnil:u.drop i=[]:=List.drop_eq_nil_of_le (by omega)
     have g1:textF (s.drop a)=.err 0:=by rw [← hgo];simp [textGo,hnil]
     conv=>whnf
     (try (refine ⟨rfl,?_⟩;conv=>whnf))
     (try (refine ⟨rfl,?_⟩;conv=>whnf))
     exact hbad _ g1
   ·conv=>whnf
    refine CondP.dec (fun h2=>?_) (fun h2=>?_)
    ·have hne:u.drop i≠[]:=fun g=>by have:=congrArg List.length g;rw [List.length_drop] at this;simp at this;omega
     conv=>whnf
     refine Or.inl ⟨InR.i64 (by omega) (by omega),?_⟩
     conv=>whnf
     refine Or.inl ⟨InR.i64 (by omega) (by omega),?_⟩
     conv=>whnf
     refine ⟨⟨.inl rfl,by omega,by rw [hdec];omega⟩,?_⟩
     conv=>whnf
     generalize hk:idxR _ _=k
     have hk':idxR [110,116,34,92] ((Lib.decodeL (u.drop i)).1:Int)=k:=by rw [← hdec];exact hk
     cases hE:escB (Lib.decodeL (u.drop i)).1 with
     | none =>
      rw [esc_none hE] at hk'
      subst hk'
      have g1:textF (s.drop a)=.err (1+i - 1):=by rw [← hgo];simp [textGo,hne,hE]
      conv=>whnf
      refine Or.inl ⟨InR.i64 (by omega) (by omega),?_⟩
      conv=>whnf
      have g2:=hbad _ g1
      rw [show ((a+(1+i - 1):Nat):Int)=(a:Int)+1+(i:Int) - 1 by omega] at g2
      exact g2
     | some b =>
      have g1:textF (s.drop a)=textGo f (u.drop (i+(decodeL u i).2)) false (l++[b]) (1+(i+(decodeL u i).2)):=by rw [← hgo,hdec];simp [textGo,hne,hE,List.drop_drop,Nat.add_assoc]
      have g3:i+(decodeL u i).2≤u.length:=by rw [hdec];have:=hdl hne;omega
      have hdr':1≤(decodeL u i).2:=by rw [hdec];omega
      rcases esc_some hE with ⟨e1,rfl⟩ | ⟨e1,rfl⟩ | ⟨e1,rfl⟩ | ⟨e1,rfl⟩
      all_goals (rw [e1] at hk';subst hk')
      all_goals (conv=>whnf)
      all_goals (refine ⟨by omega,by first | omega | (simp;done) | (simp;omega),?_⟩)
      all_goals (conv=>whnf)
      all_goals (refine ⟨⟨.inr rfl,rfl,rfl,hb1,by omega⟩,?_⟩)
      all_goals (conv=>whnf)
      all_goals (refine ⟨⟨false,_,_,f,_,rfl,?_,.inr rfl,⟨g3,by omega,?_⟩,g1.symm⟩,?_⟩)
      all_goals (first | (rw [bytesR_snoc];rfl) | (rw [List.length_append];simp;omega) | exact (show u.length - (i+(decodeL u i).2)<u.length - i by omega))
    ·have hnil:u.drop i=[]:=List.drop_eq_nil_of_le (by omega)
     have g1:textF (s.drop a)=.err 0:=by rw [← hgo];simp [textGo,hnil]
     conv=>whnf
     (try (refine ⟨rfl,?_⟩;conv=>whnf))
     (try (refine ⟨rfl,?_⟩;conv=>whnf))
     exact hbad _ g1
  | false =>
   rcases hp with rfl | rfl
   ·conv=>whnf
    refine CondP.dec (fun h2=>?_) (fun h2=>?_)
    ·have hne:u.drop i≠[]:=fun g=>by have:=congrArg List.length g;rw [List.length_drop] at this;simp at this;omega
     have g3:i+(decodeL u i).2≤u.length:=by rw [hdec];have:=hdl hne;omega
     have hdr':1≤(decodeL u i).2:=by rw [hdec];omega
     have hat:((a:Int)+1+(i:Int)).toNat=a+1+i:=by omega
     have hsd:s.drop (a+1+i)=u.drop i:=by rw [hu,List.drop_drop]
     conv=>whnf
     refine Or.inl ⟨InR.i64 (by omega) (by omega),?_⟩
     conv=>whnf
     refine Or.inl ⟨InR.i64 (by omega) (by omega),?_⟩
     conv=>whnf
     refine ⟨⟨by omega,by omega⟩,?_⟩
     conv=>whnf
     refine CondP.dec (fun h3=>?_) (fun h3=>?_)
     ·have h3':(Lib.decodeL (u.drop i)).1=34:=by rw [hdec] at h3;omega
      have g1:textF (s.drop a)=.ok l (1+i+1):=by rw [← hgo];simp [textGo,hne,h3']
      conv=>whnf
      refine Or.inl ⟨InR.i64 (by omega) (by omega),?_⟩
      conv=>whnf
      refine ⟨l,⟨rfl,rfl,rfl,.inl rfl,by omega⟩,?_⟩
      conv=>whnf
      (try (refine ⟨rfl,?_⟩;conv=>whnf))
      (try (refine ⟨rfl,?_⟩;conv=>whnf))
      have g2:=hgood _ _ g1
      rw [show ((a+(1+i+1):Nat):Int)=(a:Int)+1+(i:Int)+1 by omega] at g2
      exact g2
     ·have h3':¬(Lib.decodeL (u.drop i)).1=34:=by rw [hdec] at h3;omega
      conv=>whnf
      refine CondP.dec (fun h4=>?_) (fun h4=>?_)
      ·have h4':(Lib.decodeL (u.drop i)).1=92:=by rw [hdec] at h4;omega
       have g1:textF (s.drop a)=textGo f (u.drop (i+(decodeL u i).2)) true l (1+(i+(decodeL u i).2)):=by rw [← hgo,hdec];simp [textGo,hne,h3',h4',List.drop_drop,Nat.add_assoc]
       conv=>whnf
       refine ⟨⟨true,_,_,f,_,rfl,rfl,.inl rfl,⟨g3,by omega,by omega⟩,g1.symm⟩,?_⟩
       exact (show u.length - (i+(decodeL u i).2)<u.length - i by omega)
      ·have h4':¬(Lib.decodeL (u.drop i)).1=92:=by rw [hdec] at h4;omega
       conv=>whnf
       refine CondP.dec (fun h5=>?_) (fun h5=>?_)
       ·have h5':(pk (u.drop i)).1<32:=by rw [hat,hsd] at h5;exact h5
        have g1:textF (s.drop a)=.err (1+i):=by rw [← hgo];simp [textGo,hne,h3',h4',h5']
        conv=>whnf
        have g2:=hbad _ g1
        rw [show ((a+(1+i):Nat):Int)=(a:Int)+1+(i:Int) by omega] at g2
        exact g2
       ·have h5':¬(pk (u.drop i)).1<32:=by rw [hat,hsd] at h5;exact h5
        have g1:textF (s.drop a)=textGo f (u.drop (i+(decodeL u i).2)) false (l++Lib.encodeRune ((decodeL u i).1:Int)) (1+(i+(decodeL u i).2)):=by rw [← hgo,hdec];simp [textGo,hne,h3',h4',h5',List.drop_drop,Nat.add_assoc]
        have hen:=enc_len ((decodeL u i).1:Int)
        conv=>whnf
        refine ⟨⟨.inl rfl,rfl,rfl,hb1,by omega,by omega,by rw [hdec];omega⟩,?_⟩
        conv=>whnf
        refine ⟨⟨false,_,_,f,_,rfl,?_,.inr rfl,⟨g3,by omega,?_⟩,g1.symm⟩,?_⟩
        ·rw [bytesR_app];rfl
        ·rw [List.length_append];omega
        ·exact (show u.length - (i+(decodeL u i).2)<u.length - i by omega)
    ·have hnil:u.drop i=[]:=List.drop_eq_nil_of_le (by omega)
     have g1:textF (s.drop a)=.err 0:=by rw [← hgo];simp [textGo,hnil]
     conv=>whnf
     (try (refine ⟨rfl,?_⟩;conv=>whnf))
     (try (refine ⟨rfl,?_⟩;conv=>whnf))
     exact hbad _ g1
   ·conv=>whnf
    refine CondP.dec (fun h2=>?_) (fun h2=>?_)
    ·have hne:u.drop i≠[]:=fun g=>by have:=congrArg List.length g;rw [List.length_drop] at this;simp at this;omega
     have g3:i+(decodeL u i).2≤u.length:=by rw [hdec];have:=hdl hne;omega
     have hdr':1≤(decodeL u i).2:=by rw [hdec];omega
     have hat:((a:Int)+1+(i:Int)).toNat=a+1+i:=by omega
     have hsd:s.drop (a+1+i)=u.drop i:=by rw [hu,List.drop_drop]
     conv=>whnf
     refine Or.inl ⟨InR.i64 (by omega) (by omega),?_⟩
     conv=>whnf
     refine Or.inl ⟨InR.i64 (by omega) (by omega),?_⟩
     conv=>whnf
     refine ⟨⟨by omega,by omega⟩,?_⟩
     conv=>whnf
     refine CondP.dec (fun h3=>?_) (fun h3=>?_)
     ·have h3':(Lib.decodeL (u.drop i)).1=34:=by rw [hdec] at h3;omega
      have g1:textF (s.drop a)=.ok l (1+i+1):=by rw [← hgo];simp [textGo,hne,h3']
      conv=>whnf
      refine Or.inl ⟨InR.i64 (by omega) (by omega),?_⟩
      conv=>whnf
      refine ⟨l,⟨rfl,rfl,rfl,.inr rfl,by omega⟩,?_⟩
      conv=>whnf
      (try (refine ⟨rfl,?_⟩;conv=>whnf))
      (try (refine ⟨rfl,?_⟩;conv=>whnf))
      have g2:=hgood _ _ g1
      rw [show ((a+(1+i+1):Nat):Int)=(a:Int)+1+(i:Int)+1 by omega] at g2
      exact g2
     ·have h3':¬(Lib.decodeL (u.drop i)).1=34:=by rw [hdec] at h3;omega
      conv=>whnf
      refine CondP.dec (fun h4=>?_) (fun h4=>?_)
      ·have h4':(Lib.decodeL (u.drop i)).1=92:=by rw [hdec] at h4;omega
       have g1:textF (s.drop a)=textGo f (u.drop (i+(decodeL u i).2)) true l (1+(i+(decodeL u i).2)):=by rw [← hgo,hdec];simp [textGo,hne,h3',h4',List.drop_drop,Nat.add_assoc]
       conv=>whnf
       refine ⟨⟨true,_,_,f,_,rfl,rfl,.inr rfl,⟨g3,by omega,by omega⟩,g1.symm⟩,?_⟩
       exact (show u.length - (i+(decodeL u i).2)<u.length - i by omega)
      ·have h4':¬(Lib.decodeL (u.drop i)).1=92:=by rw [hdec] at h4;omega
       conv=>whnf
       refine CondP.dec (fun h5=>?_) (fun h5=>?_)
       ·have h5':(pk (u.drop i)).1<32:=by rw [hat,hsd] at h5;exact h5
        have g1:textF (s.drop a)=.err (1+i):=by rw [← hgo];simp [textGo,hne,h3',h4',h5']
        conv=>whnf
        have g2:=hbad _ g1
        rw [show ((a+(1+i):Nat):Int)=(a:Int)+1+(i:Int) by omega] at g2
        exact g2
       ·have h5':¬(pk (u.drop i)).1<32:=by rw [hat,hsd] at h5;exact h5
        have g1:textF (s.drop a)=textGo f (u.drop (i+(decodeL u i).2)) false (l++Lib.encodeRune ((decodeL u i).1:Int)) (1+(i+(decodeL u i).2)):=by rw [← hgo,hdec];simp [textGo,hne,h3',h4',h5',List.drop_drop,Nat.add_assoc]
        have hen:=enc_len ((decodeL u i).1:Int)
        conv=>whnf
        refine ⟨⟨.inr rfl,rfl,rfl,hb1,by omega,by omega,by rw [hdec];omega⟩,?_⟩
        conv=>whnf
        refine ⟨⟨false,_,_,f,_,rfl,?_,.inr rfl,⟨g3,by omega,?_⟩,g1.symm⟩,?_⟩
        ·rw [bytesR_app];rfl
        ·rw [List.length_append];omega
        ·exact (show u.length - (i+(decodeL u i).2)<u.length - i by omega)
    ·have hnil:u.drop i=[]:=List.drop_eq_nil_of_le (by omega)
     have g1:textF (s.drop a)=.err 0:=by rw [← hgo];simp [textGo,hnil]
     conv=>whnf
     (try (refine ⟨rfl,?_⟩;conv=>whnf))
     (try (refine ⟨rfl,?_⟩;conv=>whnf))
     exact hbad _ g1
 ·exact h.elim
end Go.PM.Lex
end

section
set_option maxRecDepth 100000
set_option maxHeartbeats 4000000
namespace Go.PM.Lex
open Go.Proofs
variable {w0:World} {nG:Nat}
theorem sign_le (r:Bs) (h:0<r.length):signF r≤r.length∧signF r≤2:=by
 unfold signF
 split
 ·rename_i h1
  simp only [twos,List.any_cons,List.any_nil,Bool.or_false,Bool.or_eq_true] at h1
  rcases h1 with h1 | h1 | h1 | h1 | h1
  all_goals (have:=(hasPrefix_two h1).1;omega)
 ·split <;> omega
theorem nextF_eq (a:Nat) (r:Bs) (room:Bool):nextF a r room=if signF r=0∧(pk r).1≠34∧isLetter (pk r).1=false∧isDigit (pk r).1=false then .bad a 140
 else if room=false then .bad a 3
 else if 0<signF r then .tok ⟨4,r.take (signF r),0,a,a+signF r⟩
 else if (pk r).1=34 then textR a r
 else if isDigit (pk r).1=true then numberR a r
 else .tok ⟨1,r.take (nameF r),0,a,a+nameF r⟩:=rfl
noncomputable def tblNext:Tbl:=[(209,spPeek),(279,spSign),(210,spLetter),(268,spDigit),(280,spText),(281,spNumber),(211,spName)]
theorem next_ok (ht:TblOK (GG w0 nG) tblNext):PCalls (GG w0 nG) 227 spNext:=by
 refine pcalls tab_ok mixed ht Tryz.func227 rfl (by kernel_rfl) (by kernel_rfl) ?_
 intro args σ K h
 unfold spNext at h
 split at h
 ·rename_i room t s a
  obtain ⟨⟨h0,h1,hs⟩,h⟩:=h
  obtain ⟨a,rfl⟩:∃n:Nat,a=n:=⟨a.toNat,by omega⟩
  simp only [Int.toNat_natCast] at h
  have hpr:-1≤(pk (s.drop ((a:Int)).toNat)).1∧(pk (s.drop ((a:Int)).toNat)).1≤1114111:=pk_rng (s.drop a)
  have hsl:=sign_le (s.drop a) (by rw [List.length_drop];omega)
  rw [List.length_drop] at hsl
  have hbad:∀e:Nat,nextF a (s.drop a) room=.bad a e→K (.ret (.tuple [tokPV 0 [] 0 0 0,fltPV a e])) ⟨[.cells t [.d (.str s),.d (.int .i64 a)]],[],0⟩:=fun e g=>by
   rw [g] at h;exact h
  have hsign:∀n:Nat,signF (s.drop a)=n→nextF a (s.drop a) room=.tok ⟨4,(s.drop a).take n,0,a,a+n⟩→K (.ret (.tuple [tokPV 4 (cut s ((a:Int)).toNat ((a:Int)+(n:Int)).toNat) 0 a ((a:Int)+(n:Int)),fltPV 0 0])) ⟨[.cells t [.d (.str s),.d (.int .i64 a)]],[],0⟩:=fun n g1 g2=>by
   rw [g2] at h
   rw [cut_mid,show ((a:Int)+(n:Int)).toNat - ((a:Int)).toNat=n by omega]
   exact h
  have hn2:nextF a (s.drop a) room=.tok ⟨1,(s.drop a).take (nameF (s.drop a)),0,a,a+nameF (s.drop a)⟩→K (.ret (.tuple [tokPV 1 ((s.drop a).take (nameF (s.drop a))) 0 a ((a:Int)+(nameF (s.drop a):Int)),fltPV 0 0])) ⟨[.cells t [.d (.str s),.d (.int .i64 a)]],[],0⟩:=fun g=>by
   rw [g] at h;exact h
  refine ⟨loopsOf [],1,false,by simp,Nat.le_of_ble_eq_true rfl,?_⟩
  conv=>whnf
  refine ⟨⟨by omega,by omega⟩,?_⟩
  conv=>whnf
  refine ⟨⟨by omega,by omega,by omega⟩,?_⟩
  conv=>whnf
  generalize hc0:(pk (s.drop ((a:Int)).toNat)).1=c at hpr ⊢
  have hc:(pk (s.drop a)).1=c:=hc0
  generalize hn0:signF (s.drop ((a:Int)).toNat)=n
  have hn:signF (s.drop a)=n:=hn0
  rw [hn] at hsl
  refine CondP.dec (fun h2=>?_) (fun h2=>?_)
  ·obtain rfl:n=0:=by omega
   conv=>whnf
   refine CondP.ndec (fun h3=>?_) (fun h3=>?_)
   ·conv=>whnf
    refine ⟨⟨by omega,by omega⟩,?_⟩
    conv=>whnf
    refine CondP.intro (fun h4=>?_) (fun h4=>?_)
    ·have h4':isLetter c=false:=by simpa using h4
     conv=>whnf
     refine CondP.intro (fun h5=>?_) (fun h5=>?_)
     ·have h5':isDigit c=false:=by simpa using h5
      conv=>whnf
      (try (refine ⟨rfl,?_⟩;conv=>whnf))
      (try (refine ⟨rfl,?_⟩;conv=>whnf))
      exact hbad 140 (by rw [nextF_eq,hn,hc,if_pos ⟨rfl,h3,h4',h5'⟩])
     ·have h5':isDigit c=true:=by simpa using h5
      have hno:¬(0=0∧c≠34∧isLetter c=false∧isDigit c=false):=fun g=>by rw [h5'] at g;simp at g
      cases room with
      | false =>
       conv=>whnf
       (try (refine ⟨rfl,?_⟩;conv=>whnf))
       (try (refine ⟨rfl,?_⟩;conv=>whnf))
       exact hbad 3 (by rw [nextF_eq,hn,hc,if_neg hno,if_pos rfl])
      | true =>
       conv=>whnf
       refine CondP.dec (fun h6=>?_) (fun h6=>?_)
       ·exact absurd h6 (by simpa using h3)
       ·conv=>whnf
        refine CondP.intro (fun h7=>?_) (fun h7=>?_)
        ·conv=>whnf
         refine ⟨⟨by omega,by omega,by omega⟩,?_⟩
         conv=>whnf
         have g:nextF a (s.drop a) true=numberR a (s.drop a):=by
          rw [nextF_eq,hn,hc,if_neg hno,if_neg (by simp),if_neg (by omega),if_neg h3,if_pos h5']
         rw [g] at h
         exact h
        ·rw [h5'] at h7;cases h7
    ·have h4':isLetter c=true:=by simpa using h4
     have h5':isDigit c=false:=by
      have h4'':(c=95∨128≤c∨(97≤c∧c≤122)∨(65≤c∧c≤90)):=by simpa [isLetter] using h4'
      simp only [isDigit,decide_eq_false_iff_not];omega
     have hno:¬(0=0∧c≠34∧isLetter c=false∧isDigit c=false):=fun g=>by rw [h4'] at g;simp at g
     cases room with
     | false =>
      conv=>whnf
      (try (refine ⟨rfl,?_⟩;conv=>whnf))
      (try (refine ⟨rfl,?_⟩;conv=>whnf))
      exact hbad 3 (by rw [nextF_eq,hn,hc,if_neg hno,if_pos rfl])
     | true =>
      conv=>whnf
      refine CondP.dec (fun h6=>?_) (fun h6=>?_)
      ·exact absurd h6 (by simpa using h3)
      ·conv=>whnf
       refine CondP.intro (fun h7=>?_) (fun h7=>?_)
       ·rw [h5'] at h7;cases h7
       ·conv=>whnf
        refine ⟨⟨by omega,by omega,by omega⟩,?_⟩
        conv=>whnf
        exact hn2 (by rw [nextF_eq,hn,hc,if_neg hno,if_neg (by simp),if_neg (by omega),if_neg h3,if_neg (by rw [h5'];simp)])
   ·obtain rfl:c=34:=h3
    have hno:¬(0=0∧(34:Int)≠34∧isLetter 34=false∧isDigit 34=false):=fun g=>g.2.1 rfl
    cases room with
    | false =>
     conv=>whnf
     (try (refine ⟨rfl,?_⟩;conv=>whnf))
     (try (refine ⟨rfl,?_⟩;conv=>whnf))
     exact hbad 3 (by rw [nextF_eq,hn,hc,if_neg hno,if_pos rfl])
    | true =>
     conv=>whnf
     refine ⟨⟨by omega,by omega,by omega⟩,?_⟩
     conv=>whnf
     have g:nextF a (s.drop a) true=textR a (s.drop a):=by
      rw [nextF_eq,hn,hc,if_neg hno,if_neg (by simp),if_neg (by omega),if_pos rfl]
     rw [g] at h
     exact h
  ·have hno:¬(n=0∧c≠34∧isLetter c=false∧isDigit c=false):=fun g=>by omega
   cases room with
   | false =>
    conv=>whnf
    (try (refine ⟨rfl,?_⟩;conv=>whnf))
    (try (refine ⟨rfl,?_⟩;conv=>whnf))
    exact hbad 3 (by rw [nextF_eq,hn,hc,if_neg hno,if_pos rfl])
   | true =>
    conv=>whnf
    refine CondP.dec (fun h6=>?_) (fun h6=>?_)
    ·conv=>whnf
     refine Or.inl ⟨InR.i64 (by omega) (by omega),?_⟩
     conv=>whnf
     refine ⟨by omega,by omega,by omega,?_⟩
     conv=>whnf
     refine Or.inl ⟨InR.i64 (by omega) (by omega),?_⟩
     conv=>whnf
     (try (refine ⟨rfl,?_⟩;conv=>whnf))
     (try (refine ⟨rfl,?_⟩;conv=>whnf))
     exact hsign n hn (by rw [nextF_eq,hn,hc,if_neg hno,if_neg (by simp),if_pos (by omega)])
    ·omega
 ·exact h.elim
end Go.PM.Lex
end

section
set_option maxRecDepth 100000
namespace Go.PM.Lex
theorem pk_low (r:Bs) (h0:0≤(pk r).1) (h:(pk r).1<128):0<r.length∧(pk r).1=((r.getD 0 0).toNat:Int)∧(pk r).2=1:=by
 unfold pk at h h0 ⊢
 split at h
 ·rename_i g;rw [if_pos g] at h0;simp at h0
 ·rename_i g
  simp only [not_or] at g
  rw [if_neg (by simp only [not_or];exact g)] at h0 ⊢
  have hl:0<r.length:=List.length_pos_iff.2 g.1
  refine ⟨hl,?_⟩
  rw [Lib.decodeL_N] at h ⊢
  rcases Lib.decodeN_shape r.length (r.getD 0 0).toNat (r.getD 1 0).toNat (r.getD 2 0).toNat (r.getD 3 0).toNat with ⟨c,e⟩ | ⟨c1,c2,c3,cv,e⟩ | ⟨c1,c2,c3,c4,cv,cs,e⟩ | ⟨c1,c2,c3,c4,c5,cv,cw,e⟩ | e
  ·rw [e];exact ⟨rfl,rfl⟩
  all_goals (rw [e] at h;dsimp only at h;omega)
theorem isLetter_iff {c:Int}:isLetter c=true↔(c=95∨128≤c∨(97≤c∧c≤122)∨(65≤c∧c≤90)):=by simp [isLetter]
theorem isDigit_iff {c:Int}:isDigit c=true↔(48≤c∧c≤57):=by simp [isDigit]
theorem nameGo_le:∀(f:Nat) (r:Bs),nameGo f r≤r.length
 | 0,r=>Nat.zero_le _
 | f+1,r=>by
  have ih:=nameGo_le f (r.drop (pk r).2)
  rw [List.length_drop] at ih
  have hl:(pk r).1≠-1→(pk r).2≤r.length:=fun h=>(pk_le r h).2.1
  unfold nameGo
  split
  ·rename_i h;have:=hl (by omega);split <;> omega
  ·split
   ·rename_i h
    have:=hl (fun h1=>by rw [h1,isLetter_neg,isDigit_neg] at h;simp at h)
    omega
   ·omega
theorem nameF_pos (r:Bs) (h:isLetter (pk r).1=true):1≤nameF r∧nameF r≤r.length:=by
 refine ⟨?_,nameGo_le _ _⟩
 have:=pk_len r
 have h46:¬(pk r).1=46:=fun g=>by rw [g] at h;revert h;decide
 rw [nameF,nameGo_on h46 (.inl h)];omega
theorem textGo_len:∀(f:Nat) (r:Bs) (esc:Bool) (acc:Bs) (p:Nat) (t:Bs) (l:Nat),textGo f r esc acc p=.ok t l→p<l∧l≤p+r.length
 | 0,r,esc,acc,p,t,l,h=>by simp [textGo] at h
 | f+1,r,esc,acc,p,t,l,h=>by
  unfold textGo at h
  split at h
  ·cases h
  ·rename_i hne
   have hd:=Lib.decodeL_le r hne
   have hr:=dec_rng r
   split at h
   ·split at h
    ·cases h
    ·have:=textGo_len f _ _ _ _ _ _ h;rw [List.length_drop] at this;omega
   ·split at h
    ·cases h;have:=List.length_pos_iff.2 hne;omega
    ·split at h
     ·have:=textGo_len f _ _ _ _ _ _ h;rw [List.length_drop] at this;omega
     ·split at h
      ·cases h
      ·have:=textGo_len f _ _ _ _ _ _ h;rw [List.length_drop] at this;omega
theorem numLen_le (r:Bs):numLen r≤r.length:=by
 unfold numLen numDigits
 have:=takeWhile_le (digB (isHex r)) (r.drop (if isHex r then 2 else 0))
 rw [List.length_drop] at this
 by_cases h:isHex r=true
 ·have:=(hasPrefix_two h).1
  simp only [h,if_true] at *;omega
 ·simp only [h,Bool.false_eq_true,if_false] at *;omega
theorem nextF_tok {a:Nat} {r:Bs} {room:Bool} {t:Tok} (h0:0<r.length) (h:nextF a r room=.tok t):t.at'=a∧a<t.fin∧t.fin≤a+r.length:=by
 rw [nextF_eq] at h
 split at h
 ·cases h
 ·rename_i g0
  split at h
  ·cases h
  ·split at h
   ·cases h;rename_i g1;have:=sign_le r h0;exact ⟨rfl,by simp only;omega,by simp only;omega⟩
   ·rename_i g1
    split at h
    ·unfold textR at h
     split at h
     ·cases h
     ·rename_i t' l hx
      cases h
      have:=textGo_len _ _ _ _ _ _ _ hx
      rw [List.length_drop] at this
      exact ⟨rfl,by simp only;omega,by simp only;omega⟩
    ·rename_i g2
     split at h
     ·rename_i g3
      unfold numberR at h
      split at h
      ·cases h
      ·rename_i n hx
       cases h
       have hle:=numLen_le r
       refine ⟨rfl,?_,by simp only;omega⟩
       simp only
       have hne:numDigits r≠[]:=fun g=>by rw [numberF,if_pos g] at hx;cases hx
       have:=List.length_pos_iff.2 hne
       unfold numLen;omega
     ·rename_i g3
      cases h
      have h4:isLetter (pk r).1=true:=by
       cases hb:isLetter (pk r).1 with
       | true=>rfl
       | false=>exact absurd ⟨by omega,g2,hb,by simpa using g3⟩ g0
      have:=nameF_pos r h4
      exact ⟨rfl,by simp only;omega,by simp only;omega⟩
theorem nextF_bad {a:Nat} {r:Bs} {room:Bool} {p e:Nat} (h:nextF a r room=.bad p e):e≠0∧e≤142:=by
 rw [nextF_eq] at h
 repeat' split at h
 all_goals first | (cases h;done) | (cases h;omega) | (cases h;decide) | skip
 ·unfold textR at h;split at h <;> cases h;decide
 ·unfold numberR at h;split at h <;> cases h;decide
theorem blank_len:∀(f:Nat) (r:Bs),(blankGo f r).2≤r.length
 | 0,r=>Nat.zero_le _
 | f+1,r=>by
  have hdw:=dropWhile_eq (([32,9,13,10]:Bs).contains ·) r
  obtain ⟨rest,hrest⟩:∃x,x=Lib.trimLeftS r [32,9,13,10]:=⟨_,rfl⟩
  have hr2:rest.length≤r.length:=by rw [hrest];exact hdw.2
  simp only [blankGo,← hrest]
  split
  ·rename_i h1
   have ih:=fun n=>blank_len f (rest.drop n)
   have hlt:=indexByte_lt 10 rest
   have hge:=Lib.indexByte_ge rest 10
   have ih2:=ih (if Lib.indexByte rest 10<0 then rest.length else (Lib.indexByte rest 10).toNat)
   rw [List.length_drop] at ih2
   simp only
   have:(if Lib.indexByte rest 10<0 then rest.length else (Lib.indexByte rest 10).toNat)≤rest.length:=by split <;> omega
   omega
  ·split
   ·rename_i h1 h2
    have hl:=(hasPrefix_two h2).1
    split
    ·simp only;omega
    ·rename_i h3
     have hle:=index_le [42,47] (rest.drop 2) (by omega)
     simp only [List.length_drop,List.length_cons,List.length_nil] at hle
     have ih2:=blank_len f (rest.drop ((Lib.index (rest.drop 2) [42,47]).toNat+4))
     rw [List.length_drop] at ih2
     simp only
     omega
   ·simp only;omega
end Go.PM.Lex
end

section
set_option maxRecDepth 100000
set_option maxHeartbeats 4000000
namespace Go.PM
def iterAny (T:Tab) (tbl:Tbl) (it:Iter) (gid:FuncId) (fn:Func):Iter:=fun g args raw σ K=>∃loops,iterOf T tbl it gid fn loops g args raw σ K
theorem iterAny_sem {G : GE} {T : Tab} {tbl : Tbl} (hT : TabOK T G.P) (hmix : G.P.follows .mixedOrders = true) (ht : TblOK G tbl) {it : Iter} (hit : IterSem G it) {gid : FuncId} {fn : Func} {c : Code} (hf : G.P.funcs[gid]? = some fn) (hb : fn.body = some c) (hname : (fn.name == "runtime.NumGoroutine") = false)
  (hok:codeOK fn.ntmps c=true):IterSem G (iterAny T tbl it gid fn):=fun g args raw σ K h=>by
 obtain ⟨loops,h⟩:=h
 exact iterOf_sem hT hmix ht hit hf hb hname hok loops g args raw σ K h
end Go.PM
namespace Go.PM.Lex
open Go.Proofs
variable {w0:World} {nG:Nat}
noncomputable def spAll:Spec:=fun args σ K=>match args,σ with
 | [.d (.str s),.d (.int .i64 m)],⟨[],[],0⟩=>K (.ret (.func 225 [] [.ptr 0 0,.ptr 1 0])) ⟨[.cells 9 [.d (.str s)],.cells 3 [.d (.int .i64 m)]],[],0⟩
 | _,_=>False
theorem spAll_mono:SpecMono spAll:=fun args σ K K' hK h=>by
 unfold spAll at h ⊢;split at h <;> first | exact hK _ _ h | exact h.elim
theorem all_ok:PCalls (GG w0 nG) 160 spAll:=by
 refine pcalls tab_ok mixed (tbl:=[]) trivial Tryz.func160 rfl (by kernel_rfl) (by kernel_rfl) ?_
 intro args σ K h
 unfold spAll at h
 split at h
 ·rename_i s m
  refine ⟨loopsOf [],2,false,by simp,Nat.le_of_ble_eq_true rfl,?_⟩
  conv=>whnf
  exact h
 ·exact h.elim
def tokR (t:Tok):List D:=[.int .u8 t.kind,.str t.text,.int .i64 t.n,.int .i64 t.at',.int .i64 t.fin]
def toksR (l:List Tok):List (List D):=l.map tokR
theorem toksR_len (l:List Tok):(toksR l).length=l.length:=by simp [toksR]
theorem toksR_snoc (l:List Tok) (t:Tok):toksR (l++[t])=toksR l++[tokR t]:=by simp [toksR]
noncomputable def spTokens:Spec:=fun args σ K=>match args,σ with
 | [.d (.str s),.d (.int .i64 m)],⟨[],[],0⟩=>s.length<4294967281 ∧
   K (.ret (.tuple [.d (.sl (if (allF s m).2.2=0 then toksR (allF s m).1 else [])),.d (.int .i64 (allF s m).2.1),.d (.int .i64 (allF s m).2.2)])) ⟨[],[],0⟩
 | _,_=>False
noncomputable def tblAll1:Tbl:=[(226,spBlank),(227,spNext)]
noncomputable def tblTokens:Tbl:=[(160,spAll)]
noncomputable def itAll:Iter:=iterAny Tab0 tblAll1 noIter 225 Tryz.f225
theorem itAll_sem (ht:TblOK (GG w0 nG) tblAll1):IterSem (GG w0 nG) itAll:=iterAny_sem tab_ok mixed ht noIter_sem Tryz.func225 rfl (by kernel_rfl) (by kernel_rfl)
def muX (B:Int) (k:Nat):List PV→St→Nat:=fun _ σ=>match σ.bx[k]? with | some (.cells _ (_::.d (.int _ n)::_))=>(B - n).toNat | _=>0
theorem tokens_ok (ht1:TblOK (GG w0 nG) tblAll1) (ht:TblOK (GG w0 nG) tblTokens):PCalls (GG w0 nG) 79 spTokens:=by
 refine pcallsI tab_ok mixed ht (itAll_sem ht1) Tryz.func79 rfl (by kernel_rfl) (by kernel_rfl) ?_
 intro args σ K h
 unfold spTokens at h
 split at h
 ·rename_i s m
  obtain ⟨hs,h⟩:=h
  refine ⟨loopsOf [],0,false,by simp,Nat.le_of_ble_eq_true rfl,?_⟩
  conv=>whnf
  intro y r
  refine ⟨loopsOf [(3,⟨[5],[0,1,2,4],fun vs σ=>∃(l:List Tok) (e f:Nat),vs=[.d (.int .i64 (l.length:Int))] ∧
   σ=⟨[.cells 134 [.sl 0 218 []],.cells 3 [.d (.int .i64 0)],.cells 27 [.d (.int .i64 0)],.cells 134 [.sl 1 218 (toksR l)],.cells 9 [.d (.str s)],.cells 3 [.d (.int .i64 m)],.loop .ready none r,.cells 251 [.d (.str s),.d (.int .i64 e)]],[1,0],2⟩ ∧
   (e≤s.length∧s.length<e+f∧l.length≤e)∧allF s m=(l++(allGo f (m - l.length) e (s.drop e)).1,(allGo f (m - l.length) e (s.drop e)).2),muX s.length 7⟩)],rfl,?_⟩
  conv=>whnf
  refine ⟨⟨[],0,s.length+1,rfl,rfl,⟨by omega,by omega,by simp⟩,by simp [allF]⟩,?_⟩
  intro vs σ1 hI
  obtain ⟨l,e,f,rfl,rfl,⟨he1,he2,hle⟩,hall⟩:=hI
  obtain ⟨f,rfl⟩:∃g,f=g+1:=⟨f - 1,by omega⟩
  have hbl:(blankF (s.drop e)).2≤s.length - e:=by have:(blankF (s.drop e)).2≤(s.drop e).length:=blank_len _ _;rw [List.length_drop] at this;exact this
  have hbad:∀p c:Nat,(allGo (f+1) (m - l.length) e (s.drop e)).2=(p,c)→c≠0→K (.ret (.tuple [.d (.sl []),.d (.int .i64 p),.d (.int .i64 c)])) ⟨[],[],0⟩:=fun p c g1 g2=>by
   have e1:(allF s m).2=(p,c):=by rw [hall];exact g1
   rw [e1] at h
   simp only at h
   rw [if_neg g2] at h
   exact h
  have hend:allGo (f+1) (m - l.length) e (s.drop e)=([],(0,0))→K (.ret (.tuple [.d (.sl (toksR l)),.d (.int .i64 0),.d (.int .i64 0)])) ⟨[],[],0⟩:=fun g=>by
   rw [hall,g] at h
   simp only [List.append_nil,if_true] at h
   exact h
  conv=>whnf
  refine ⟨⟨by omega,by omega,by omega⟩,?_⟩
  conv=>whnf
  generalize hk0:(blankF (s.drop ((e:Int)).toNat)).2=k
  have hk:(blankF (s.drop e)).2=k:=hk0
  rw [hk] at hbl
  refine CondP.intro (fun h2=>?_) (fun h2=>?_)
  ·have h2':(blankF (s.drop e)).1=false:=by simpa using h2
   have g1:allGo (f+1) (m - l.length) e (s.drop e)=([],(e+k,140)):=by rw [allGo,if_pos h2',hk]
   have g2:=hbad _ _ (by rw [g1]) (by decide)
   rw [show ((e+k:Nat):Int)=(e:Int)+(k:Int) by omega] at g2
   conv=>whnf
   refine ⟨rfl,rfl,rfl,?_⟩
   conv=>whnf
   refine ⟨rfl,?_⟩
   conv=>whnf
   iterate 6 (try (refine ⟨rfl,?_⟩;conv=>whnf))
   exact g2
  ·have h2':(blankF (s.drop e)).1=true:=by simpa using h2
   have hb1:¬(blankF (s.drop e)).1=false:=by rw [h2'];simp
   conv=>whnf
   refine CondP.dec (fun h3=>?_) (fun h3=>?_)
   ·have hnil:(s.drop e).drop k=[]:=by rw [List.drop_drop];exact List.drop_eq_nil_of_le (by omega)
    have g1:allGo (f+1) (m - l.length) e (s.drop e)=([],(0,0)):=by rw [allGo,if_neg hb1,hk,if_pos hnil]
    conv=>whnf
    exact hend g1
   ·have hlt:e+k<s.length:=by omega
    have hne:¬(s.drop e).drop k=[]:=fun g=>by have:=congrArg List.length g;rw [List.drop_drop,List.length_drop] at this;simp at this;omega
    have g1:allGo (f+1) (m - l.length) e (s.drop e)=(match nextF (e+k) (s.drop (e+k)) (decide ((l.length:Int)<m)) with
      | .bad p e=>([],(p,e))
      | .tok t=>(t::(allGo f (m - l.length - 1) t.fin ((s.drop (e+k)).drop (t.fin - (e+k)))).1,(allGo f (m - l.length - 1) t.fin ((s.drop (e+k)).drop (t.fin - (e+k)))).2)):=by
     rw [allGo,if_neg hb1,hk,if_neg hne,List.drop_drop,show (decide (0<m - (l.length:Int)))=decide ((l.length:Int)<m) from by rw [decide_eq_decide];omega]
     rfl
    conv=>whnf
    refine ⟨⟨by omega,by omega,by omega⟩,?_⟩
    conv=>whnf
    generalize hx0:nextF ((e:Int)+(k:Int)).toNat (s.drop ((e:Int)+(k:Int)).toNat) _=x
    have hx:nextF (e+k) (s.drop (e+k)) (decide ((l.length:Int)<m))=x:=by
     rw [show ((e:Int)+(k:Int)).toNat=e+k by omega] at hx0;exact hx0
    rw [hx] at g1
    cases x with
    | bad p c =>
     have hc:=nextF_bad hx
     have g2:=hbad p c (by rw [g1]) hc.1
     conv=>whnf
     refine ⟨rfl,rfl,rfl,?_⟩
     conv=>whnf
     refine ⟨rfl,?_⟩
     conv=>whnf
     refine CondP.ndec (fun h4=>?_) (fun h4=>?_)
     ·conv=>whnf
      iterate 6 (try (refine ⟨rfl,?_⟩;conv=>whnf))
      exact g2
     ·exact absurd h4 (by have : ((c : Nat) : Int) ≠ 0 := by omega
                          exact this)
    | tok t =>
     obtain ⟨ht1,ht2,ht3⟩:=nextF_tok (by rw [List.length_drop];omega) hx
     rw [List.length_drop] at ht3
     conv=>whnf
     refine ⟨rfl,rfl,rfl,?_⟩
     conv=>whnf
     refine ⟨rfl,?_⟩
     conv=>whnf
     refine ⟨fun r hr=>by (simp at hr;subst hr;rfl),(show ((toksR l).length+1) * 48≤2 ^ 47 by rw [toksR_len];omega),(show (toksR l).length+1≤2 ^ 47 by rw [toksR_len];omega),?_⟩
     conv=>whnf
     iterate 3 (try (refine ⟨rfl,?_⟩;conv=>whnf))
     refine Or.inl ⟨InR.i64 (by omega) (by omega),?_⟩
     conv=>whnf
     refine ⟨⟨l++[t],t.fin,f,?_,?_,⟨by omega,by omega,by rw [List.length_append];simp;omega⟩,?_⟩,?_⟩
     ·rw [List.length_append];rfl
     ·rw [toksR_snoc];rfl
     ·have hd:(s.drop (e+k)).drop (t.fin - (e+k))=s.drop t.fin:=by rw [List.drop_drop,show e+k+(t.fin - (e+k))=t.fin by omega]
      rw [hall,g1,List.length_append]
      simp only [hd,List.length_cons,List.length_nil,Int.natCast_add,Int.sub_sub,List.append_assoc,List.cons_append,List.nil_append]
      rfl
     ·exact (show ((s.length:Int) - (t.fin:Int)).toNat<((s.length:Int) - (e:Int)).toNat by omega)
 ·exact h.elim
end Go.PM.Lex
end

section
set_option maxRecDepth 100000
set_option maxHeartbeats 8000000
namespace Go.PM.Lex
open Go.Proofs
variable {w0:World} {nG:Nat}
noncomputable def tblSPU:Tbl:=[(323,spPU),(324,spToError)]
theorem parseUint_ok (hg:GlobOK w0 nG):PCalls (GG w0 nG) 312 spParseUint:=by
 refine pcalls tab_ok mixed (tbl:=tblSPU) ⟨⟨pu_ok,spPU_mono⟩,⟨toError_ok hg,spToError_mono⟩,trivial⟩ Tryz.func312 rfl (by kernel_rfl) (by kernel_rfl) ?_
 intro args σ K h
 unfold spParseUint at h
 split at h
 ·rename_i l base bits
  obtain ⟨hex,⟨hl,rfl,rfl⟩,hbad,hgood⟩:=h
  refine ⟨loopsOf [],0,false,by simp,Nat.le_of_ble_eq_true rfl,?_⟩
  conv=>whnf
  refine ⟨hex,⟨hl,rfl,rfl⟩,fun h0=>?_,fun h0 h1=>?_,fun h0 h1=>?_⟩
  ·conv=>whnf
   refine ⟨⟨.inr rfl,hl.2⟩,?_⟩
   conv=>whnf
   exact hbad (.inl h0) _
  ·conv=>whnf
   refine ⟨⟨.inl rfl,hl.2⟩,?_⟩
   conv=>whnf
   exact hbad (.inr h1) _
  ·conv=>whnf
   exact hgood (by simp only [not_or];exact ⟨h0,h1⟩)
 ·exact h.elim
end Go.PM.Lex
end

section
namespace Go.PM.Lex
open Go.Proofs
variable {w0:World} {nG:Nat}
theorem cPeek:PCalls (GG w0 nG) 209 spPeek:=peek_ok ⟨⟨runeLen_ok,spRuneLen_mono⟩,⟨hasPrefix_ok,spHasPrefix_mono⟩,trivial⟩
theorem cSign:PCalls (GG w0 nG) 279 spSign:=sign_ok ⟨⟨hasPrefix_ok,spHasPrefix_mono⟩,⟨indexByte_ok,spIndexByte_mono⟩,trivial⟩
theorem cName:PCalls (GG w0 nG) 211 spName:=name_ok ⟨⟨cPeek,spPeek_mono⟩,⟨letter_ok,spLetter_mono⟩,⟨digit_ok,spDigit_mono⟩,trivial⟩
theorem cBlank (hg:GlobOK w0 nG):PCalls (GG w0 nG) 226 spBlank:=blank_ok ⟨⟨trimLeft_ok,spTrimLeft_mono⟩,⟨hasPrefix_ok,spHasPrefix_mono⟩,⟨indexByte_ok,spIndexByte_mono⟩,⟨index_ok (by have:=hg.big;omega) hg.maxLen,spIndex_mono⟩,trivial⟩
theorem cNumber (hg:GlobOK w0 nG):PCalls (GG w0 nG) 281 spNumber:=number_ok ⟨⟨hasPrefix_ok,spHasPrefix_mono⟩,⟨digit_ok,spDigit_mono⟩,⟨parseUint_ok hg,spParseUint_mono⟩,⟨cPeek,spPeek_mono⟩,⟨letter_ok,spLetter_mono⟩,trivial⟩
theorem validRune_ok:PCalls (GG w0 nG) 216 spValidRune:=pcalls_lib (enters_of Tryz.func216 (by kernel_rfl) rfl) fun args σ K h e w vs hS ha=>by
 unfold spValidRune at h
 split at h
 ·obtain ⟨u,rfl,hu⟩:=args1 ha
  cases hu.dint
  exact ⟨_,h,_,fun _ _=>.mkbool,(Tryz.utf8_ValidRune _ w).mono fun en w' ⟨h1,h2⟩=>⟨h1,by rw [h2];exact Grows.refl _⟩⟩
 ·exact h.elim
theorem cIndexRune:PCalls (GG w0 nG) 151 spIndexRune:=indexRune_ok ⟨⟨indexByte_ok,spIndexByte_mono⟩,⟨validRune_ok,spValidRune_mono⟩,trivial⟩
theorem cText:PCalls (GG w0 nG) 280 spText:=text_ok ⟨⟨cIndexRune,spIndexRune_mono⟩,⟨writeByte_ok,spWriteByte_mono⟩,⟨cPeek,spPeek_mono⟩,⟨writeRune_ok,spWriteRune_mono⟩,⟨string_ok,spString_mono⟩,trivial⟩
theorem cNext (hg:GlobOK w0 nG):PCalls (GG w0 nG) 227 spNext:=next_ok ⟨⟨cPeek,spPeek_mono⟩,⟨cSign,spSign_mono⟩,⟨letter_ok,spLetter_mono⟩,⟨digit_ok,spDigit_mono⟩,⟨cText,spText_mono⟩,⟨cNumber hg,spNumber_mono⟩,⟨cName,spName_mono⟩,trivial⟩
theorem cAll1 (hg:GlobOK w0 nG):TblOK (GG w0 nG) tblAll1:=⟨⟨cBlank hg,spBlank_mono⟩,⟨cNext hg,spNext_mono⟩,trivial⟩
theorem cTokens (hg:GlobOK w0 nG):PCalls (GG w0 nG) 79 spTokens:=tokens_ok (cAll1 hg) ⟨⟨all_ok,spAll_mono⟩,trivial⟩
end Go.PM.Lex
end

section
namespace Go.PM.Lex
structure T0 where
 kind:Nat
 text:Bs
 n:Int
 deriving DecidableEq
def Tok.t0 (t:Tok):T0:=⟨t.kind,t.text,t.n⟩
abbrev Ts:=List T0
inductive R (α:Type) where
 | ok (a:α) (ts:Ts) | err (r e:Nat)
def R.bind {α β:Type} (x:R α) (f:α→Ts→R β):R β:=match x with
 | .ok a ts=>f a ts
 | .err r e=>.err r e
@[simp] theorem R.bind_ok {α β:Type} (a:α) (ts:Ts) (f:α→Ts→R β):(R.ok a ts).bind f=f a ts:=rfl
@[simp] theorem R.bind_err {α β:Type} (r e:Nat) (f:α→Ts→R β):(R.err r e:R α).bind f=.err r e:=rfl
inductive Ex where
 | mk (op:Nat) (text:Bs) (n:Int) (args:List Ex) (at':Nat)
inductive Li where
 | mk (op:Nat) (rel:Bs) (args:List Ex) (body:List Li) (at':Nat)
structure Ru where
 head:Bs
 args:List Ex
 body:List Li
 at':Nat
structure Fi where
 name:Bs
 typ:Bs
structure Ca where
 name:Bs
 fields:List Fi
structure Ty where
 kind:Nat
 name:Bs
 base:Bs
 fields:List Fi
 cases:List Ca
 at':Nat
structure Re where
 name:Bs
 fields:List Fi
 inn:Bool
 out:Bool
 inl:Bool
 at':Nat
structure Ini where
 name:Bs
 comp:Bs
 types:List Bs
 at':Nat
structure Ov where
 rel:Bs
 at':Nat
mutual
inductive Un where
 | mk (types:List Ty) (rels:List Re) (rules:List Ru) (comps:List Co) (inits:List Ini) (overs:List Ov)
inductive Co where
 | mk (name:Bs) (params:List Bs) (base:Bs) (types:List Bs) (unit:Un) (at':Nat)
end
def hd (ts:Ts):T0:=match ts with
 | []=>⟨0,[],0⟩
 | t::_=>t
def functorF (s:Bs):Nat :=
 if s=[99,97,116] then 20 else if s=[115,116,114,108,101,110] then 21 else if s=[115,117,98,115,116,114] then 22 else if s=[99,111,100,101] then 23 else if s=[115,116,114] then 24 else if s=[110,117,109] then 25 else 0
def keptWords:List Bs:=[[116,121,112,101],[100,101,99,108],[105,110,112,117,116],[111,117,116,112,117,116],[105,110,108,105,110,101],[99,111,109,112],[105,110,105,116],[111,118,101,114,114,105,100,101],[110,105,108],[99,111,117,110,116],[115,117,109],[109,105,110],[109,97,120],[98,111,114],[98,120,111,114],[98,97,110,100],[115,104,108],[115,104,114]]
def keptF (s:Bs):Bool:=keptWords.contains s || decide (functorF s≠0)
def isW (ts:Ts) (ws:List Bs):Bool:=(decide ((hd ts).kind=1) || decide ((hd ts).kind=4)) && ws.contains (hd ts).text
def namedF (ts:Ts):Bool:=decide ((hd ts).kind=1) && (!decide ((hd ts).text=[95]) && !keptF (hd ts).text)
def startsF (ts:Ts):Bool :=
 if (hd ts).kind=2∨(hd ts).kind=3 then true
 else if (hd ts).kind=4 then isW ts [[45],[126],[40],[91],[36]]
 else if (hd ts).kind=1 then !keptF (hd ts).text || (decide ((hd ts).text=[110,105,108]) || decide (functorF (hd ts).text≠0))
 else false
def binF (ts:Ts):Nat×Nat :=
 if (hd ts).kind≠1∧(hd ts).kind≠4 then (0,0)
 else if (hd ts).text=[98,111,114] then (1,16) else if (hd ts).text=[98,120,111,114] then (1,17) else if (hd ts).text=[98,97,110,100] then (2,15) else if (hd ts).text=[115,104,108] then (3,18) else if (hd ts).text=[115,104,114] then (3,19)
 else if (hd ts).text=[43] then (4,10) else if (hd ts).text=[45] then (4,11) else if (hd ts).text=[42] then (5,12) else if (hd ts).text=[47] then (5,13) else if (hd ts).text=[37] then (5,14) else (0,0)
def mustF (w:Bs) (ts:Ts):R Unit:=if isW ts [w]=true then .ok () ts.tail else .err ts.length 150
def nameP (ts:Ts):R Bs:=if namedF ts=true then .ok (hd ts).text ts.tail else .err ts.length 150
def withinF {α:Type} (d:Nat) (fr tw:Bs) (read:Ts→R α) (ts:Ts):R α :=
 if isW ts [fr]=true then
  (if d=0 then .err ts.length 151 else (read ts.tail).bind fun x ts=>if tw=[] then .ok x ts else (mustF tw ts).bind fun _ ts=>.ok x ts)
 else .err ts.length 150
def manyGo {α:Type} (sign:Bs) (most:Nat) (starts:Ts→Bool) (one:Ts→R α):Nat→List α→Ts→R (List α)
 | 0,_,_=>.err 0 150
 | f+1,l,ts=>if starts ts=true∧l.length=most then .err ts.length 3
   else (one ts).bind fun x ts=>if isW ts [sign]=true then manyGo sign most starts one f (l++[x]) ts.tail else .ok (l++[x]) ts
def manyF {α:Type} (sign:Bs) (most:Nat) (starts:Ts→Bool) (one:Ts→R α) (ts:Ts):R (List α):=manyGo sign most starts one (ts.length+1) [] ts
def argsF (d:Nat) (ex:Ts→R Ex) (fr tw:Bs) (ts:Ts):R (List Ex):=withinF d fr tw (fun ts=>if isW ts [tw]=true then .ok [] ts else manyF [44] 12 startsF ex ts) ts
def callGo (ex:Ts→R Ex):Nat→List Ex→Ts→R (List Ex)
 | 0,l,ts=>.ok l ts
 | k+1,l,ts=>(if l=[] then .ok () ts else mustF [44] ts).bind fun _ ts=>(ex ts).bind fun e ts=>callGo ex k (l++[e]) ts
def arity (op:Nat):Nat:=if op=22 then 3 else if op=20 then 2 else 1
def primaryF (d:Nat) (ex:Ts→R Ex) (ts:Ts):R Ex :=
 if startsF ts=false then .err ts.length 150
 else if (hd ts).kind=2 then .ok (.mk 3 [] (hd ts).n [] ts.length) ts.tail
 else if (hd ts).kind=3 then .ok (.mk 4 (hd ts).text 0 [] ts.length) ts.tail
 else if (hd ts).text=[40] then withinF d [40] [41] ex ts
 else if (hd ts).text=[91] then (argsF d ex [91] [93] ts).bind fun l ts'=>.ok (.mk 6 [] 0 l ts.length) ts'
 else if (hd ts).text=[36] then (nameP ts.tail).bind fun nm ts'=>if isW ts' [[40]]=true then (argsF d ex [40] [41] ts').bind fun l ts'=>.ok (.mk 7 nm 0 l ts.length) ts' else .ok (.mk 7 nm 0 [] ts.length) ts'
 else if functorF (hd ts).text≠0 then (withinF d [40] [41] (callGo ex (arity (functorF (hd ts).text)) []) ts.tail).bind fun l ts'=>.ok (.mk (functorF (hd ts).text) [] 0 l ts.length) ts'
 else if (hd ts).text=[110,105,108] then .ok (.mk 5 [] 0 [] ts.length) ts.tail
 else if (hd ts).text=[95] then .ok (.mk 2 [] 0 [] ts.length) ts.tail
 else .ok (.mk 1 (hd ts).text 0 [] ts.length) ts.tail
def Ex.at':Ex→Nat | .mk _ _ _ _ a=>a
def lineGo (sub:Nat→Ts→R Ex) (least:Nat):Nat→Ex→Ts→R Ex
 | 0,_,_=>.err 0 150
 | f+1,e,ts=>if (binF ts).1<least∨(binF ts).1=0 then .ok e ts
   else (sub ((binF ts).1+1) ts.tail).bind fun g ts'=>lineGo sub least f (.mk (binF ts).2 [] 0 [e,g] e.at') ts'
def lineK (sg:Ts→R Ex):Nat→Nat→Ts→R Ex
 | 0,_,ts=>sg ts
 | k+1,least,ts=>(sg ts).bind fun e ts=>lineGo (lineK sg k) least (ts.length+1) e ts
def signedF (d:Nat) (sg:Ts→R Ex) (ts:Ts):R Ex :=
 if isW ts [[45]]=true then (withinF d [45] [] sg ts).bind fun e ts'=>.ok (.mk 8 [] 0 [e] ts.length) ts'
 else if isW ts [[126]]=true then (withinF d [126] [] sg ts).bind fun e ts'=>.ok (.mk 9 [] 0 [e] ts.length) ts'
 else primaryF d (lineK sg 6 1) ts
def signedD:Nat→Ts→R Ex
 | 0=>signedF 0 fun _=>.err 0 150
 | d+1=>signedF (d+1) (signedD d)
def exprD (d:Nat) (ts:Ts):R Ex:=lineK (signedD d) 6 1 ts
def exprB:Nat→Ts→R Ex
 | 0=>fun _=>.err 0 150
 | d+1=>exprD d
def Un.nil:Un:=.mk [] [] [] [] [] []
end Go.PM.Lex
end

section
noncomputable section
namespace Go.PM.Lex
open Go.Proofs
def tz (L:List Tok) (a:Int):Ts:=(L.drop a.toNat).map Tok.t0
def placeOf (L:List Tok) (en:Int) (r:Nat):Int:=match L.drop (L.length - r) with
 | []=>en
 | t::_=>t.at'
structure ROK (L:List Tok) (a:Int) (ts:Ts):Prop where
 lo:0≤a
 hi:a≤L.length
 big:L.length≤1048576
 eq:tz L a=ts
theorem ROK.len {L:List Tok} {a:Int} {ts:Ts} (h:ROK L a ts):(ts.length:Int)=L.length - a:=by
 rw [← h.eq];simp only [tz,List.length_map,List.length_drop];have:=h.lo;have:=h.hi;omega
theorem ROK.next {L:List Tok} {a:Int} {t:T0} {ts:Ts} (h:ROK L a (t::ts)):ROK L (a+1) ts:=by
 have hl:=h.len
 have h0:=h.lo
 refine ⟨by omega,by simp at hl;omega,h.big,?_⟩
 have:=h.eq
 simp only [tz] at this ⊢
 rw [show (a+1).toNat=a.toNat+1 by omega,← List.drop_drop,List.map_drop,this];rfl
theorem isW_ne {ts:Ts} {ws:List Bs} (h:isW ts ws=true):ts≠[]:=by rintro rfl;simp [isW,hd] at h
theorem namedF_ne {ts:Ts} (h:namedF ts=true):ts≠[]:=by rintro rfl;simp [namedF,hd] at h
theorem ROK.tl {L:List Tok} {a:Int} {ts:Ts} (h:ROK L a ts) (hn:ts≠[]):ROK L (a+1) ts.tail:=by
 cases ts with
 | nil=>exact absurd rfl hn
 | cons t ts=>exact h.next
theorem ROK.get {L:List Tok} {a:Int} {t:T0} {ts:Ts} (h:ROK L a (t::ts)):∃x,L[a.toNat]?=some x∧x.t0=t∧∀en,placeOf L en (ts.length+1)=x.at':=by
 have hl:=h.len
 have h0:=h.lo
 have h1:=h.eq
 simp only [List.length_cons] at hl
 have hlt:a.toNat<L.length:=by omega
 refine ⟨L[a.toNat],List.getElem?_eq_getElem hlt,?_,fun en=>?_⟩
 ·simp only [tz] at h1
  rw [List.drop_eq_getElem_cons hlt] at h1
  simp only [List.map_cons,List.cons.injEq] at h1
  exact h1.1
 ·unfold placeOf
  rw [show L.length - (ts.length+1)=a.toNat by omega,List.drop_eq_getElem_cons hlt]
theorem ROK.none {L:List Tok} {a:Int} (h:ROK L a []):a=L.length:=by have:=h.len;simp at this;omega
theorem placeOf_zero (L:List Tok) (en:Int):placeOf L en 0=en:=by simp [placeOf]
abbrev Pl:=Nat→Int
mutual
def encE (pl:Pl):Ex→List D
 | .mk op text n args a=>[.int .u8 op,.str text,.int .i64 n,.sl (encEs pl args),.int .i64 (pl a)]
def encEs (pl:Pl):List Ex→List (List D)
 | []=>[]
 | e::l=>encE pl e::encEs pl l
end
mutual
def encL (pl:Pl):Li→List D
 | .mk op rel args body a=>[.int .u8 op,.str rel,.sl (encEs pl args),.sl (encLs pl body),.int .i64 (pl a)]
def encLs (pl:Pl):List Li→List (List D)
 | []=>[]
 | e::l=>encL pl e::encLs pl l
end
def encRu (pl:Pl) (r:Ru):List D:=[.str r.head,.sl (encEs pl r.args),.sl (encLs pl r.body),.int .i64 (pl r.at')]
def encFi (f:Fi):List D:=[.str f.name,.str f.typ]
def encCa (c:Ca):List D:=[.str c.name,.sl (c.fields.map encFi)]
def encTy (pl:Pl) (t:Ty):List D:=[.int .u8 t.kind,.str t.name,.str t.base,.sl (t.fields.map encFi),.sl (t.cases.map encCa),.int .i64 (pl t.at')]
def encRe (pl:Pl) (r:Re):List D:=[.str r.name,.sl (r.fields.map encFi),.bool r.inn,.bool r.out,.bool r.inl,.int .i64 (pl r.at')]
def encBs (s:Bs):List D:=[.str s]
def encIn (pl:Pl) (i:Ini):List D:=[.str i.name,.str i.comp,.sl (i.types.map encBs),.int .i64 (pl i.at')]
def encOv (pl:Pl) (o:Ov):List D:=[.str o.rel,.int .i64 (pl o.at')]
mutual
def encUn (pl:Pl):Un→List D
 | .mk tys rels rules comps inits overs=>[.sl (tys.map (encTy pl)),.sl (rels.map (encRe pl)),.sl (rules.map (encRu pl)),.sl (encCos pl comps),.sl (inits.map (encIn pl)),.sl (overs.map (encOv pl))]
def encCo (pl:Pl):Co→List D
 | .mk name params base types u a=>[.str name,.sl (params.map encBs),.str base,.sl (types.map encBs)]++encUn pl u++[.int .i64 (pl a)]
def encCos (pl:Pl):List Co→List (List D)
 | []=>[]
 | e::l=>encCo pl e::encCos pl l
end
theorem encEs_eq (pl:Pl) (l:List Ex):encEs pl l=l.map (encE pl):=by induction l with | nil=>rfl | cons x l ih=>simp [encEs,ih]
theorem encLs_eq (pl:Pl) (l:List Li):encLs pl l=l.map (encL pl):=by induction l with | nil=>rfl | cons x l ih=>simp [encLs,ih]
theorem encCos_eq (pl:Pl) (l:List Co):encCos pl l=l.map (encCo pl):=by induction l with | nil=>rfl | cons x l ih=>simp [encCos,ih]
abbrev aggD (l:List D):PV:=.agg (l.map .d)
abbrev flt (L:List Tok) (en:Int) (r e:Nat):PV:=.iface 138 (.agg [.d (.int .i64 (placeOf L en r)),.d (.int .i64 e)])
abbrev RK:=PEnd→Int→Int→Prop
def RKk {α:Type} (enc:α→PV) (L:List Tok) (en dp lo:Int) (x:R α) (K:RK):Prop:=match x with
 | .ok v ts'=>∀a',lo≤a'→ROK L a' ts'→K (.ret (enc v)) a' dp
 | .err r e=>∀a' dp',K (.panic (flt L en r e)) a' dp'
theorem RKk_mono {α:Type} {enc:α→PV} {L:List Tok} {en dp lo:Int} {x:R α} {K K':RK} (hK:∀pe a d,K pe a d→K' pe a d) (h:RKk enc L en dp lo x K):RKk enc L en dp lo x K':=by
 cases x with
 | ok v ts=>exact fun a' h1 h2=>hK _ _ _ (h a' h1 h2)
 | err r e=>exact fun a' d=>hK _ _ _ (h a' d)
def rdSp (body:List PV→List Tok→Int→Int→Int→Ts→RK→Prop):Spec:=fun args σ K=>match args,σ with
 | .ptr 0 0::rest,⟨[.cells t [.d (.sl rows),.d (.int .i64 a),.d (.int .i64 en),.d (.int .i64 dp)]],[],0⟩=>∃L ts,rows=toksR L∧ROK L a ts ∧
   body rest L en dp a ts fun pe a' dp'=>K pe ⟨[.cells t [.d (.sl (toksR L)),.d (.int .i64 a'),.d (.int .i64 en),.d (.int .i64 dp')]],[],0⟩
 | _,_=>False
theorem rdSp_mono {body:List PV→List Tok→Int→Int→Int→Ts→RK→Prop} (hb:∀rest L en dp a ts (K K':RK),(∀pe a d,K pe a d→K' pe a d)→body rest L en dp a ts K→body rest L en dp a ts K'):SpecMono (rdSp body):=fun args σ K K' hK h=>by
 unfold rdSp at h ⊢
 split at h
 ·obtain ⟨L,ts,h1,h2,h3⟩:=h
  exact ⟨L,ts,h1,h2,hb _ _ _ _ _ _ _ _ (fun pe a d hk=>hK _ _ hk) h3⟩
 ·exact h.elim
def spFunctor:Spec:=fun args σ K=>match args,σ with
 | [.d (.str s)],⟨[],[],0⟩=>∀n:Int,(functorF s:Int)=n→K (.ret (.d (.int .u8 n))) ⟨[],[],0⟩
 | _,_=>False
theorem spFunctor_mono:SpecMono spFunctor:=fun args σ K K' hK h=>by
 unfold spFunctor at h ⊢;split at h <;> first | exact fun n hn=>hK _ _ (h n hn) | exact h.elim
def spKept:Spec:=fun args σ K=>match args,σ with
 | [.d (.str s)],⟨[],[],0⟩=>∀b,keptF s=b→K (.ret (.d (.bool b))) ⟨[],[],0⟩
 | _,_=>False
theorem spKept_mono:SpecMono spKept:=fun args σ K K' hK h=>by
 unfold spKept at h ⊢;split at h <;> first | exact fun n hn=>hK _ _ (h n hn) | exact h.elim
def idxIn (s:Bs):Nat→List Bs→Int
 | _,[]=>-1
 | i,w::ws=>if s=w then i else idxIn s (i+1) ws
def spIndexS:Spec:=fun args σ K=>match args,σ with
 | [.d (.sl rows),.d (.str s)],⟨[],[],0⟩=>∃ws:List Bs,rows=ws.map encBs∧ws.length≤1048576∧K (.ret (.d (.int .i64 (idxIn s 0 ws)))) ⟨[],[],0⟩
 | _,_=>False
theorem spIndexS_mono:SpecMono spIndexS:=fun args σ K K' hK h=>by
 unfold spIndexS at h ⊢;split at h
 ·obtain ⟨ws,h1,h2,h3⟩:=h;exact ⟨ws,h1,h2,hK _ _ h3⟩
 ·exact h.elim
def spContains:Spec:=fun args σ K=>match args,σ with
 | [.d (.sl rows),.d (.str s)],⟨[],[],0⟩=>∃ws:List Bs,rows=ws.map encBs∧ws.length≤1048576∧∀b,ws.contains s=b→K (.ret (.d (.bool b))) ⟨[],[],0⟩
 | _,_=>False
theorem spContains_mono:SpecMono spContains:=fun args σ K K' hK h=>by
 unfold spContains at h ⊢;split at h
 ·obtain ⟨ws,h1,h2,h3⟩:=h;exact ⟨ws,h1,h2,fun b hb=>hK _ _ (h3 b hb)⟩
 ·exact h.elim
def spMore:Spec:=rdSp fun rest L en dp a ts K=>match rest with
 | [.d (.int .i64 n)]=>∀fin,(n=0∧K (.ret (.agg [.d (.int .u8 (hd ts).kind),.d (.str (hd ts).text),.d (.int .i64 (hd ts).n),.d (.int .i64 (placeOf L en ts.length)),.d (.int .i64 fin)])) a dp) ∨
   (n=1∧K (.ret (.agg [.d (.int .u8 (hd ts.tail).kind),.d (.str (hd ts.tail).text),.d (.int .i64 (hd ts.tail).n),.d (.int .i64 (placeOf L en ts.tail.length)),.d (.int .i64 fin)])) a dp)
 | _=>False
theorem spMore_mono:SpecMono spMore:=rdSp_mono fun rest L en dp a ts K K' hK h=>by
 split at h
 ·exact fun fin=>Or.imp (fun g=>⟨g.1,hK _ _ _ g.2⟩) (fun g=>⟨g.1,hK _ _ _ g.2⟩) (h fin)
 ·exact h.elim
def spPlace:Spec:=rdSp fun rest L en dp a ts K=>match rest with
 | []=>K (.ret (.d (.int .i64 (placeOf L en ts.length)))) a dp
 | _=>False
theorem spPlace_mono:SpecMono spPlace:=rdSp_mono fun rest L en dp a ts K K' hK h=>by
 split at h
 ·exact hK _ _ _ h
 ·exact h.elim
def spIs:Spec:=rdSp fun rest L en dp a ts K=>match rest with
 | [.d (.sl rows)]=>∃ws:List Bs,rows=ws.map encBs∧ws.length≤1048576∧∀b,isW ts ws=b→K (.ret (.d (.bool b))) a dp
 | _=>False
theorem spIs_mono:SpecMono spIs:=rdSp_mono fun rest L en dp a ts K K' hK h=>by
 split at h
 ·obtain ⟨ws,h1,h2,h3⟩:=h;exact ⟨ws,h1,h2,fun b hb=>hK _ _ _ (h3 b hb)⟩
 ·exact h.elim
def spAsk (p:Ts→Bool):Spec:=rdSp fun rest L en dp a ts K=>match rest with
 | []=>∀b,p ts=b→K (.ret (.d (.bool b))) a dp
 | _=>False
theorem spAsk_mono (p:Ts→Bool):SpecMono (spAsk p):=rdSp_mono fun rest L en dp a ts K K' hK h=>by
 split at h
 ·exact fun b hb=>hK _ _ _ (h b hb)
 ·exact h.elim
def spFail:Spec:=rdSp fun rest L en dp a ts K=>match rest with
 | [.d (.int .i64 e)]=>K (.panic (.iface 138 (.agg [.d (.int .i64 (placeOf L en ts.length)),.d (.int .i64 e)]))) a dp
 | _=>False
theorem spFail_mono:SpecMono spFail:=rdSp_mono fun rest L en dp a ts K K' hK h=>by
 split at h
 ·exact hK _ _ _ h
 ·exact h.elim
def spTake:Spec:=rdSp fun rest L en dp a ts K=>match rest with
 | [.d (.sl rows)]=>∃ws:List Bs,rows=ws.map encBs∧ws.length≤1048576∧(isW ts ws=true→ROK L (a+1) ts.tail→K (.ret (.d (.bool true))) (a+1) dp)∧(isW ts ws=false→K (.ret (.d (.bool false))) a dp)
 | _=>False
theorem spTake_mono:SpecMono spTake:=rdSp_mono fun rest L en dp a ts K K' hK h=>by
 split at h
 ·obtain ⟨ws,h1,h2,h3,h4⟩:=h;exact ⟨ws,h1,h2,fun b hb=>hK _ _ _ (h3 b hb),fun b=>hK _ _ _ (h4 b)⟩
 ·exact h.elim
def spR {α:Type} (enc:List Tok→Int→α→PV) (P:Ts→R α) (lo:Int):Spec:=rdSp fun rest L en dp a ts K=>match rest with
 | []=>∀x,P ts=x→RKk (enc L en) L en dp (a+lo) x K
 | _=>False
theorem spR_mono {α:Type} (enc:List Tok→Int→α→PV) (P:Ts→R α) (lo:Int):SpecMono (spR enc P lo):=rdSp_mono fun rest L en dp a ts K K' hK h=>by
 split at h
 ·exact fun x hx=>RKk_mono hK (h x hx)
 ·exact h.elim
def spMust:Spec:=rdSp fun rest L en dp a ts K=>match rest with
 | [.d (.str w)]=>∀x,mustF w ts=x→RKk (fun _=>.tuple []) L en dp (a+1) x K
 | _=>False
theorem spMust_mono:SpecMono spMust:=rdSp_mono fun rest L en dp a ts K K' hK h=>by
 split at h
 ·exact fun x hx=>RKk_mono hK (h x hx)
 ·exact h.elim
abbrev spNameP:Spec:=spR (fun _ _ (v:Bs)=>.d (.str v)) nameP 1
end Go.PM.Lex
end
end

section
set_option maxRecDepth 100000
set_option maxHeartbeats 4000000
namespace Go.PM.Lex
open Go.Proofs
variable {w0:World} {nG:Nat}
theorem functor_ok:PCalls (GG w0 nG) 212 spFunctor:=by
 refine pcalls tab_ok mixed (tbl:=[]) trivial Tryz.func212 rfl (by kernel_rfl) (by kernel_rfl) ?_
 intro args σ K h
 unfold spFunctor at h
 split at h
 ·rename_i s
  refine ⟨loopsOf [],0,false,by simp,Nat.le_of_ble_eq_true rfl,?_⟩
  repeat' ((conv=>whnf);refine CondP.dec (fun hc=>?_) (fun hc=>?_))
  all_goals (conv=>whnf)
  all_goals exact h _ (by simp [functorF, *])
 ·exact h.elim
noncomputable def tblKept:Tbl:=[(212,spFunctor)]
theorem kept_ok:PCalls (GG w0 nG) 148 spKept:=by
 refine pcalls tab_ok mixed (tbl:=tblKept) ⟨⟨functor_ok,spFunctor_mono⟩,trivial⟩ Tryz.func148 rfl (by kernel_rfl) (by kernel_rfl) ?_
 intro args σ K h
 unfold spKept at h
 split at h
 ·rename_i s
  refine ⟨loopsOf [],0,false,by simp,Nat.le_of_ble_eq_true rfl,?_⟩
  repeat' ((conv=>whnf);refine CondP.dec (fun hc=>?_) (fun hc=>?_))
  all_goals (conv=>whnf)
  all_goals first
   | contradiction
   | exact h _ (by subst_vars;decide)
   | skip
  intro n hn
  conv=>whnf
  refine h _ ?_
  have hk:keptWords.contains s=false:=by
   have:¬s∈keptWords:=by
    simp only [keptWords,List.mem_cons,List.not_mem_nil,or_false,not_or]
    repeat' (first | assumption | refine ⟨by assumption,?_⟩)
   rw [Bool.eq_false_iff];intro g
   exact this (List.contains_iff_mem.1 g)
  rw [keptF,hk,← hn]
  by_cases h0:functorF s=0 <;> simp [h0]
 ·exact h.elim
end Go.PM.Lex
end

section
set_option maxRecDepth 100000
set_option maxHeartbeats 4000000
namespace Go.PM.Lex
open Go.Proofs
variable {w0:World} {nG:Nat}
theorem idxIn_cons (s w:Bs) (i:Nat) (ws:List Bs):idxIn s i (w::ws)=if s=w then (i:Int) else idxIn s (i+1) ws:=rfl
theorem idxIn_neg (s:Bs):∀(ws:List Bs) (i:Nat),(0≤idxIn s i ws)↔ws.contains s=true
 | [],i=>by simp [idxIn]
 | w::ws,i=>by
  rw [idxIn_cons]
  split
  ·rename_i h;subst h;simp
  ·rename_i h;rw [idxIn_neg s ws];simp [h]
theorem idxIn_drop (s:Bs) (ws:List Bs) (i:Nat) (h:i<ws.length):idxIn s i (ws.drop i)=if s=ws[i] then (i:Int) else idxIn s (i+1) (ws.drop (i+1)):=by
 rw [List.drop_eq_getElem_cons h,idxIn_cons]
theorem indexS_ok:PCalls (GG w0 nG) 257 spIndexS:=by
 refine pcalls tab_ok mixed (tbl:=[]) trivial Tryz.func257 rfl (by kernel_rfl) (by kernel_rfl) ?_
 intro args σ K h
 unfold spIndexS at h
 split at h
 ·rename_i rows s
  obtain ⟨ws,rfl,hw,h⟩:=h
  refine ⟨loopsOf [(2,⟨[8],[0,1,7],fun vs σ=>∃i:Nat,vs=[.d (.int .i64 i)]∧σ=⟨[],[],0⟩∧i≤ws.length∧idxIn s 0 ws=idxIn s i (ws.drop i),fun vs _=>match vs with | [.d (.int _ i)]=>((ws.length:Int) - i).toNat | _=>0⟩)],0,false,by simp,Nat.le_of_ble_eq_true rfl,?_⟩
  conv=>whnf
  refine ⟨⟨0,rfl,rfl,by omega,rfl⟩,?_⟩
  intro vs σ hI
  obtain ⟨i,rfl,rfl,hi,hx⟩:=hI
  conv=>whnf
  refine CondP.dec (fun hc=>?_) (fun hc=>?_)
  ·have hc:i<ws.length:=by have hc:(i:Int)<((ws.map encBs).length:Int):=hc;rw [List.length_map] at hc;omega
   conv=>whnf
   refine ⟨encBs ws[i],by omega,by simp [hc],?_⟩
   rw [idxIn_drop s ws i hc] at hx
   conv=>whnf
   refine CondP.dec (fun h1=>?_) (fun h1=>?_)
   ·conv=>whnf
    rw [hx,if_pos h1] at h
    exact h
   ·conv=>whnf
    rw [if_neg h1] at hx
    refine Or.inl ⟨InR.i64 (by omega) (by omega),?_⟩
    conv=>whnf
    refine ⟨⟨i+1,rfl,rfl,by omega,hx⟩,?_⟩
    show ((ws.length:Int) - ((i:Int)+1)).toNat<((ws.length:Int) - (i:Int)).toNat
    omega
  ·have hc:ws.length≤i:=by have hc:¬(i:Int)<((ws.map encBs).length:Int):=hc;rw [List.length_map] at hc;omega
   rw [List.drop_eq_nil_of_le hc] at hx
   conv=>whnf
   rw [hx] at h
   exact h
 ·exact h.elim
noncomputable def tblCont:Tbl:=[(257,spIndexS)]
theorem contains_ok:PCalls (GG w0 nG) 199 spContains:=by
 refine pcalls tab_ok mixed (tbl:=tblCont) ⟨⟨indexS_ok,spIndexS_mono⟩,trivial⟩ Tryz.func199 rfl (by kernel_rfl) (by kernel_rfl) ?_
 intro args σ K h
 unfold spContains at h
 split at h
 ·rename_i rows s
  obtain ⟨ws,rfl,hw,h⟩:=h
  refine ⟨loopsOf [],0,false,by simp,Nat.le_of_ble_eq_true rfl,?_⟩
  conv=>whnf
  refine ⟨ws,rfl,hw,?_⟩
  conv=>whnf
  exact h _ (by rw [Bool.eq_iff_iff,decide_eq_true_eq,← idxIn_neg s ws 0])
 ·exact h.elim
end Go.PM.Lex
end

section
set_option maxRecDepth 100000
set_option maxHeartbeats 4000000
namespace Go.PM.Lex
open Go.Proofs
variable {w0:World} {nG:Nat}
theorem more_ok:PCalls (GG w0 nG) 198 spMore:=by
 refine pcalls tab_ok mixed (tbl:=[]) trivial Tryz.func198 rfl (by kernel_rfl) (by kernel_rfl) ?_
 intro args σ K h
 unfold spMore rdSp at h
 split at h
 ·rename_i t rows a en dp
  obtain ⟨L,ts,rfl,ho,h⟩:=h
  split at h
  ·rename_i n
   have hl:=ho.len
   have h0:=ho.lo
   have h1:=ho.hi
   have h2:=ho.big
   have hn:n=0∨n=1:=by rcases h 0 with g | g <;> simp [g.1]
   refine ⟨loopsOf [],1,false,by simp,Nat.le_of_ble_eq_true rfl,?_⟩
   conv=>whnf
   refine Or.inl ⟨InR.i64 (by omega) (by omega),?_⟩
   conv=>whnf
   refine CondP.dec (fun hc=>?_) (fun hc=>?_)
   ·have hc:a+n<L.length:=by have hc:a+n<((toksR L).length:Int):=hc;rw [toksR_len] at hc;exact hc
    rcases hn with rfl | rfl
    ·cases ts with
     | nil=>simp at hl;omega
     | cons t0 ts =>
      obtain ⟨x,hx,rfl,hp⟩:=ho.get
      conv=>whnf
      refine ⟨tokR x,by omega,by simp [toksR,hx],?_⟩
      conv=>whnf
      have h:=h x.fin
      rw [List.length_cons,hp] at h
      rcases h with h | h
      ·exact h.2
      ·exact absurd h.1 (by omega)
    ·cases ts with
     | nil=>simp at hl;omega
     | cons t1 ts =>
     cases ts with
     | nil=>simp at hl;omega
     | cons t0 ts =>
      obtain ⟨x,hx,rfl,hp⟩:=ho.next.get
      conv=>whnf
      refine ⟨tokR x,by omega,by simp [toksR,hx],?_⟩
      conv=>whnf
      have h:=h x.fin
      simp only [List.tail_cons,List.length_cons,hp] at h
      rcases h with h | h
      ·exact absurd h.1 (by omega)
      ·exact h.2
   ·have hc:¬a+n<L.length:=by have hc:¬a+n<((toksR L).length:Int):=hc;rw [toksR_len] at hc;exact hc
    conv=>whnf
    have h:=h 0
    rcases hn with rfl | rfl
    ·cases ts with
     | nil => rcases h with h | h
              ·have h:=h.2;simp only [List.length_nil,placeOf_zero] at h;exact h
              ·exact absurd h.1 (by omega)
     | cons t0 ts=>simp at hl;omega
    ·have:ts.tail=[]:=by
      cases ts with
      | nil=>rfl
      | cons t1 ts=>cases ts with
       | nil=>rfl
       | cons t0 ts=>simp at hl;omega
     rw [this] at h
     rcases h with h | h
     ·exact absurd h.1 (by omega)
     ·have h:=h.2;simp only [List.length_nil,placeOf_zero] at h;exact h
  ·exact h.elim
 ·exact h.elim
end Go.PM.Lex
end

section
set_option maxRecDepth 100000
set_option maxHeartbeats 4000000
namespace Go.PM.Lex
open Go.Proofs
variable {w0:World} {nG:Nat}
noncomputable def tblPlace:Tbl:=[(198,spMore)]
theorem place_ok (ht:TblOK (GG w0 nG) tblPlace):PCalls (GG w0 nG) 141 spPlace:=by
 refine pcalls tab_ok mixed (tbl:=tblPlace) ht Tryz.func141 rfl (by kernel_rfl) (by kernel_rfl) ?_
 intro args σ K h
 unfold spPlace rdSp at h
 split at h
 ·rename_i rest t rows a en dp
  obtain ⟨L,ts,rfl,ho,h⟩:=h
  split at h
  ·skip
   refine ⟨loopsOf [],1,false,by simp,Nat.le_of_ble_eq_true rfl,?_⟩
   conv=>whnf
   refine ⟨L,ts,rfl,ho,fun fin=>Or.inl ⟨rfl,?_⟩⟩
   conv=>whnf
   exact h
  ·exact h.elim
 ·exact h.elim
noncomputable def tblIs:Tbl:=[(198,spMore),(199,spContains)]
theorem is_ok (ht:TblOK (GG w0 nG) tblIs):PCalls (GG w0 nG) 136 spIs:=by
 refine pcalls tab_ok mixed (tbl:=tblIs) ht Tryz.func136 rfl (by kernel_rfl) (by kernel_rfl) ?_
 intro args σ K h
 unfold spIs rdSp at h
 split at h
 ·rename_i rest t rows a en dp
  obtain ⟨L,ts,rfl,ho,h⟩:=h
  split at h
  ·rename_i rows
   obtain ⟨ws,rfl,hw,h⟩:=h
   refine ⟨loopsOf [],1,false,by simp,Nat.le_of_ble_eq_true rfl,?_⟩
   conv=>whnf
   refine ⟨L,ts,rfl,ho,fun fin=>Or.inl ⟨rfl,?_⟩⟩
   conv=>whnf
   refine CondP.dec (fun h1=>?_) (fun h1=>?_)
   ·conv=>whnf
    refine ⟨ws,rfl,hw,fun b hb=>?_⟩
    conv=>whnf
    exact h _ (by simp only [isW,hb];simp [show (hd ts).kind=1 by omega])
   ·conv=>whnf
    refine CondP.dec (fun h2=>?_) (fun h2=>?_)
    ·conv=>whnf
     refine ⟨ws,rfl,hw,fun b hb=>?_⟩
     conv=>whnf
     exact h _ (by simp only [isW,hb];simp [show (hd ts).kind=4 by omega])
    ·conv=>whnf
     exact h _ (by simp [isW,show ¬(hd ts).kind=1 by omega,show ¬(hd ts).kind=4 by omega])
  ·exact h.elim
 ·exact h.elim
noncomputable def tblNamed:Tbl:=[(198,spMore),(148,spKept)]
theorem named_ok (ht:TblOK (GG w0 nG) tblNamed):PCalls (GG w0 nG) 145 (spAsk namedF):=by
 refine pcalls tab_ok mixed (tbl:=tblNamed) ht Tryz.func145 rfl (by kernel_rfl) (by kernel_rfl) ?_
 intro args σ K h
 unfold spAsk rdSp at h
 split at h
 ·rename_i rest t rows a en dp
  obtain ⟨L,ts,rfl,ho,h⟩:=h
  split at h
  ·skip
   refine ⟨loopsOf [],1,false,by simp,Nat.le_of_ble_eq_true rfl,?_⟩
   conv=>whnf
   refine ⟨L,ts,rfl,ho,fun fin=>Or.inl ⟨rfl,?_⟩⟩
   conv=>whnf
   refine CondP.dec (fun h1=>?_) (fun h1=>?_)
   ·conv=>whnf
    refine CondP.ndec (fun h2=>?_) (fun h2=>?_)
    ·conv=>whnf
     intro b hb
     conv=>whnf
     exact h _ (by simp only [namedF,hb];rw [decide_eq_true (show (hd ts).kind=1 by omega),decide_eq_false h2];simp)
    ·conv=>whnf
     exact h _ (by simp only [namedF];rw [decide_eq_true (p:=(hd ts).text=[95]) h2];simp)
   ·conv=>whnf
    exact h _ (by simp [namedF,show ¬(hd ts).kind=1 by omega])
  ·exact h.elim
 ·exact h.elim
noncomputable def tblFail:Tbl:=[(141,spPlace)]
theorem fail_ok (ht:TblOK (GG w0 nG) tblFail):PCalls (GG w0 nG) 81 spFail:=by
 refine pcalls tab_ok mixed (tbl:=tblFail) ht Tryz.func81 rfl (by kernel_rfl) (by kernel_rfl) ?_
 intro args σ K h
 unfold spFail rdSp at h
 split at h
 ·rename_i rest t rows a en dp
  obtain ⟨L,ts,rfl,ho,h⟩:=h
  split at h
  ·skip
   refine ⟨loopsOf [],1,false,by simp,Nat.le_of_ble_eq_true rfl,?_⟩
   conv=>whnf
   refine ⟨L,ts,rfl,ho,?_⟩
   conv=>whnf
   exact h
  ·exact h.elim
 ·exact h.elim
noncomputable def tblTake:Tbl:=[(136,spIs)]
theorem take_ok (ht:TblOK (GG w0 nG) tblTake):PCalls (GG w0 nG) 200 spTake:=by
 refine pcalls tab_ok mixed (tbl:=tblTake) ht Tryz.func200 rfl (by kernel_rfl) (by kernel_rfl) ?_
 intro args σ K h
 unfold spTake rdSp at h
 split at h
 ·rename_i rest t rows a en dp
  obtain ⟨L,ts,rfl,ho,h⟩:=h
  split at h
  ·rename_i rows
   obtain ⟨ws,rfl,hw,h1,h2⟩:=h
   refine ⟨loopsOf [],1,false,by simp,Nat.le_of_ble_eq_true rfl,?_⟩
   conv=>whnf
   refine ⟨L,ts,rfl,ho,ws,rfl,hw,fun b hb=>?_⟩
   cases b with
   | true =>
    have ho2:=ho.tl (isW_ne hb)
    have g1:=ho.lo
    have g2:=ho2.hi
    have g3:=ho2.big
    conv=>whnf
    refine Or.inl ⟨InR.i64 (by omega) (by omega),?_⟩
    conv=>whnf
    exact h1 hb ho2
   | false =>
    conv=>whnf
    exact h2 hb
  ·exact h.elim
 ·exact h.elim
noncomputable def tblMust:Tbl:=[(200,spTake),(81,spFail)]
theorem must_ok (ht:TblOK (GG w0 nG) tblMust):PCalls (GG w0 nG) 143 spMust:=by
 refine pcalls tab_ok mixed (tbl:=tblMust) ht Tryz.func143 rfl (by kernel_rfl) (by kernel_rfl) ?_
 intro args σ K h
 unfold spMust rdSp at h
 split at h
 ·rename_i rest t rows a en dp
  obtain ⟨L,ts,rfl,ho,h⟩:=h
  split at h
  ·rename_i w
   refine ⟨loopsOf [],1,false,by simp,Nat.le_of_ble_eq_true rfl,?_⟩
   conv=>whnf
   refine ⟨L,ts,rfl,ho,[w],rfl,by simp,fun hb ho2=>?_,fun hb=>?_⟩
   ·conv=>whnf
    have h:=h _ rfl
    rw [mustF,if_pos hb] at h
    exact h _ (by omega) ho2
   ·conv=>whnf
    refine ⟨L,ts,rfl,ho,?_⟩
    conv=>whnf
    have h:=h _ rfl
    rw [mustF,if_neg (by rw [hb];simp)] at h
    exact h _ _
  ·exact h.elim
 ·exact h.elim
noncomputable def tblPName:Tbl:=[(145,(spAsk namedF)),(81,spFail)]
theorem pname_ok (ht:TblOK (GG w0 nG) tblPName):PCalls (GG w0 nG) 142 spNameP:=by
 refine pcalls tab_ok mixed (tbl:=tblPName) ht Tryz.func142 rfl (by kernel_rfl) (by kernel_rfl) ?_
 intro args σ K h
 unfold spNameP spR rdSp at h
 split at h
 ·rename_i rest t rows a en dp
  obtain ⟨L,ts,rfl,ho,h⟩:=h
  split at h
  ·skip
   refine ⟨loopsOf [],1,false,by simp,Nat.le_of_ble_eq_true rfl,?_⟩
   have h:=h _ rfl
   conv=>whnf
   refine ⟨L,ts,rfl,ho,fun b hb=>?_⟩
   cases b with
   | true =>
    have ho2:=ho.tl (namedF_ne hb)
    have g1:=ho.lo
    have g2:=ho2.hi
    have g3:=ho2.big
    rw [nameP,if_pos hb] at h
    conv=>whnf
    refine Or.inl ⟨InR.i64 (by omega) (by omega),?_⟩
    conv=>whnf
    refine Or.inl ⟨InR.i64 (by omega) (by omega),?_⟩
    conv=>whnf
    cases ts with
    | nil=>exact absurd rfl (namedF_ne hb)
    | cons t0 ts =>
     obtain ⟨x,hx,rfl,hp⟩:=ho.get
     refine ⟨tokR x,by omega,by rw [show a+1 - 1=a by omega];simp [toksR,hx],?_⟩
     conv=>whnf
     exact h _ (by omega) ho2
   | false =>
    rw [nameP,if_neg (by rw [hb];simp)] at h
    conv=>whnf
    refine ⟨L,ts,rfl,ho,?_⟩
    conv=>whnf
    exact h _ _
  ·exact h.elim
 ·exact h.elim
noncomputable def tblStarts:Tbl:=[(198,spMore),(136,spIs),(148,spKept),(212,spFunctor)]
theorem starts_ok (ht:TblOK (GG w0 nG) tblStarts):PCalls (GG w0 nG) 262 (spAsk startsF):=by
 refine pcalls tab_ok mixed (tbl:=tblStarts) ht Tryz.func262 rfl (by kernel_rfl) (by kernel_rfl) ?_
 intro args σ K h
 unfold spAsk rdSp at h
 split at h
 ·rename_i rest t rows a en dp
  obtain ⟨L,ts,rfl,ho,h⟩:=h
  split at h
  ·skip
   refine ⟨loopsOf [],1,false,by simp,Nat.le_of_ble_eq_true rfl,?_⟩
   conv=>whnf
   refine ⟨L,ts,rfl,ho,fun fin=>Or.inl ⟨rfl,?_⟩⟩
   conv=>whnf
   refine CondP.dec (fun h1=>?_) (fun h1=>?_)
   ·conv=>whnf
    refine CondP.dec (fun _=>?_) (fun g=>absurd h1 g)
    conv=>whnf
    exact h _ (by rw [startsF,if_pos (by omega)])
   conv=>whnf
   refine CondP.dec (fun h2=>?_) (fun h2=>?_)
   ·conv=>whnf
    exact h _ (by rw [startsF,if_pos (by omega)])
   conv=>whnf
   refine CondP.dec (fun h3=>?_) (fun h3=>?_)
   ·conv=>whnf
    refine ⟨L,ts,rfl,ho,[[45],[126],[40],[91],[36]],rfl,by simp,fun b hb=>?_⟩
    conv=>whnf
    exact h _ (by rw [startsF,if_neg (by omega),if_pos (by omega)];exact hb)
   conv=>whnf
   refine CondP.dec (fun h4=>?_) (fun h4=>?_)
   ·have e0:startsF ts=(!keptF (hd ts).text || (decide ((hd ts).text=[110,105,108]) || decide (functorF (hd ts).text≠0))):=by rw [startsF,if_neg (by omega),if_neg (by omega),if_pos (by omega)]
    rw [e0] at h
    conv=>whnf
    intro b hb
    rw [hb] at h
    cases b with
    | false => conv => whnf
               exact h _ rfl
    | true =>
     conv=>whnf
     refine CondP.dec (fun h5=>?_) (fun h5=>?_)
     ·conv=>whnf
      exact h _ (by rw [decide_eq_true (p:=(hd ts).text=[110,105,108]) h5];rfl)
     ·conv=>whnf
      intro n hn
      conv=>whnf
      exact h _ (by rw [decide_eq_false (p:=(hd ts).text=[110,105,108]) h5,← hn];by_cases g:functorF (hd ts).text=0 <;> simp [g])
   ·conv=>whnf
    exact h _ (by rw [startsF,if_neg (by omega),if_neg (by omega),if_neg (by omega)])
  ·exact h.elim
 ·exact h.elim
noncomputable def spBin:Spec:=rdSp fun rest L en dp a ts K=>match rest with
 | []=>∀n k:Int,((binF ts).1:Int)=n→((binF ts).2:Int)=k→K (.ret (.tuple [.d (.int .i64 n),.d (.int .u8 k)])) a dp
 | _=>False
theorem spBin_mono:SpecMono spBin:=rdSp_mono fun rest L en dp a ts K K' hK h=>by
 split at h
 ·exact fun n k h1 h2=>hK _ _ _ (h n k h1 h2)
 ·exact h.elim
noncomputable def tblBin:Tbl:=[(198,spMore)]
theorem binary_ok (ht:TblOK (GG w0 nG) tblBin):PCalls (GG w0 nG) 162 spBin:=by
 refine pcalls tab_ok mixed (tbl:=tblBin) ht Tryz.func162 rfl (by kernel_rfl) (by kernel_rfl) ?_
 intro args σ K h
 unfold spBin rdSp at h
 split at h
 ·rename_i rest t rows a en dp
  obtain ⟨L,ts,rfl,ho,h⟩:=h
  split at h
  ·skip
   refine ⟨loopsOf [],1,false,by simp,Nat.le_of_ble_eq_true rfl,?_⟩
   conv=>whnf
   refine ⟨L,ts,rfl,ho,fun fin=>Or.inl ⟨rfl,?_⟩⟩
   conv=>whnf
   refine CondP.ndec (fun h1=>?_) (fun h1=>?_)
   ·conv=>whnf
    refine CondP.ndec (fun h2=>?_) (fun h2=>?_)
    ·conv=>whnf
     have e0:binF ts=(0,0):=by rw [binF,if_pos (by omega)]
     exact h _ _ (by rw [e0];rfl) (by rw [e0];rfl)
    ·have hn:¬((hd ts).kind≠1∧(hd ts).kind≠4):=by omega
     clear h1 h2
     repeat' ((conv=>whnf);refine CondP.dec (fun hc=>?_) (fun hc=>?_))
     all_goals (conv=>whnf)
     all_goals exact h _ _ (by rw [binF,if_neg hn];simp [*]) (by rw [binF,if_neg hn];simp [*])
   ·have hn:¬((hd ts).kind≠1∧(hd ts).kind≠4):=by omega
    clear h1
    repeat' ((conv=>whnf);refine CondP.dec (fun hc=>?_) (fun hc=>?_))
    all_goals (conv=>whnf)
    all_goals exact h _ _ (by rw [binF,if_neg hn];simp [*]) (by rw [binF,if_neg hn];simp [*])
  ·exact h.elim
 ·exact h.elim
end Go.PM.Lex
end

section
set_option maxRecDepth 100000
set_option maxHeartbeats 4000000
namespace Go.PM.Lex
open Go.Proofs
variable {w0:World} {nG:Nat}
noncomputable def spRD {α:Type} (enc:List Tok→Int→α→PV) (P:Ts→R α) (lo:Int) (d:Nat):Spec:=rdSp fun rest L en dp a ts K=>match rest with
 | []=>(dp=64 - (d:Int)∧0≤dp)∧∀x,P ts=x→RKk (enc L en) L en dp (a+lo) x K
 | _=>False
theorem spRD_mono {α:Type} (enc:List Tok→Int→α→PV) (P:Ts→R α) (lo:Int) (d:Nat):SpecMono (spRD enc P lo d):=rdSp_mono fun rest L en dp a ts K K' hK h=>by
 split at h
 ·exact ⟨h.1,fun x hx=>RKk_mono hK (h.2 x hx)⟩
 ·exact h.elim
theorem map_snoc {α β:Type} (f:α→β) (l:List α) (x:α):l.map f++[f x]=(l++[x]).map f:=by simp
theorem manyGo_eq {α : Type} (sign : Bs) (most : Nat) (st : Ts → Bool) (one : Ts → R α) (f : Nat) (l : List α) (ts : Ts) : manyGo sign most st one (f + 1) l ts = if st ts = true ∧ l.length = most then .err ts.length 3
      else (one ts).bind fun x ts=>if isW ts [sign]=true then manyGo sign most st one f (l++[x]) ts.tail else .ok (l++[x]) ts:=rfl
noncomputable def spManyEx (d:Nat):Spec:=fun args σ K=>match args,σ with
 | [.ptr 0 0,.d (.str sg),.d (.int .i64 m),.func g1 [.ptr 0 0] [],.func g2 [.ptr 0 0] []],⟨[.cells t [.d (.sl rows),.d (.int .i64 a),.d (.int .i64 en),.d (.int .i64 dp)]],[],0⟩ =>
   (sg=[44]∧m=12∧g1=262∧g2=35∧(dp=64 - (d:Int)∧0≤dp))∧∃L ts,rows=toksR L∧ROK L a ts∧∀x,manyF [44] 12 startsF (exprD d) ts=x →
    RKk (fun (l:List Ex)=>.d (.sl (l.map (encE (placeOf L en))))) L en dp a x fun pe a' dp'=>K pe ⟨[.cells t [.d (.sl (toksR L)),.d (.int .i64 a'),.d (.int .i64 en),.d (.int .i64 dp')]],[],0⟩
 | _,_=>False
noncomputable def tblManyEx (d:Nat):Tbl:=[(262,(spAsk startsF)),(81,spFail),(35,(spRD (fun L en (v:Ex)=>aggD (encE (placeOf L en) v)) (exprD d) 0 d)),(200,spTake)]
theorem manyEx_ok (d:Nat) (ht:TblOK (GG w0 nG) (tblManyEx d)):PCalls (GG w0 nG) 261 (spManyEx d):=by
 refine pcalls tab_ok mixed (tbl:=tblManyEx d) ht Tryz.func261 rfl (by kernel_rfl) (by kernel_rfl) ?_
 intro args σ K h
 unfold spManyEx at h
 split at h
 ·rename_i sg m g1 g2 t rows a en dp
  obtain ⟨⟨rfl,rfl,rfl,rfl,hdp⟩,L,ts,rfl,ho,h⟩:=h
  have h:=h _ rfl
  have hl:=ho.len
  have hbig:=ho.big
  have ha0:=ho.lo
  refine ⟨loopsOf [(2,⟨[11],[0,1,2,3,4],fun vs σ=>∃(l:List Ex) (a':Int) (ts':Ts) (f:Nat),vs=[.sl 0 24 (l.map (encE (placeOf L en)))] ∧
   σ=⟨[.cells t [.d (.sl (toksR L)),.d (.int .i64 a'),.d (.int .i64 en),.d (.int .i64 dp)]],[0],1⟩∧ROK L a' ts'∧a+l.length≤a'∧ts'.length<f ∧
   manyF [44] 12 startsF (exprD d) ts=manyGo [44] 12 startsF (exprD d) f l ts',
   fun _ σ=>match σ with | ⟨.cells _ [_,.d (.int _ i),_,_]::_,_,_⟩=>((L.length:Int) - i).toNat | _=>0⟩)],1,false,by simp,Nat.le_of_ble_eq_true rfl,?_⟩
  conv=>whnf
  refine ⟨⟨[],a,ts,ts.length+1,rfl,rfl,ho,by simp,by omega,rfl⟩,?_⟩
  intro vs σ hI
  obtain ⟨l,a1,ts1,f,rfl,rfl,ho1,hla,hf,hm⟩:=hI
  obtain ⟨f,rfl⟩:∃g,f=g+1:=⟨f - 1,by omega⟩
  rw [manyGo_eq] at hm
  have hl1:=ho1.len
  have hhi1:=ho1.hi
  conv=>whnf
  refine ⟨L,ts1,rfl,ho1,fun b hb=>?_⟩
  have step:(¬(startsF ts1=true∧l.length=12))→manyF [44] 12 startsF (exprD d) ts=(((exprD d)) ts1).bind fun x ts=>if isW ts [[44]]=true then manyGo [44] 12 startsF (exprD d) f (l++[x]) ts.tail else .ok (l++[x]) ts:=fun g=>by rw [hm,if_neg g]
  cases b with
  | false =>
   have step:=step (by rw [hb];simp)
   conv=>whnf
   refine ⟨L,ts1,rfl,ho1,hdp,fun x hx=>?_⟩
   rw [hx] at step
   cases x with
   | err r e =>
    rw [step,R.bind_err] at h
    intro a2 dp2
    conv=>whnf
    exact h _ _
   | ok v ts2 =>
    rw [R.bind_ok] at step
    intro a2 hle ho2
    have hl2:=ho2.len
    have hhi2:=ho2.hi
    obtain ⟨v1,v2,v3,v4,v5⟩:=v
    conv=>whnf
    refine ⟨List.forall_mem_singleton.2 rfl,(show ((l.map (encE (placeOf L en))).length+1) * 64≤2 ^ 47 by rw [List.length_map];omega),(show (l.map (encE (placeOf L en))).length+1≤2 ^ 47 by rw [List.length_map];omega),?_⟩
    conv=>whnf
    refine ⟨L,ts2,rfl,ho2,[[44]],rfl,by simp,fun hw ho3=>?_,fun hw=>?_⟩
    ·conv=>whnf
     rw [if_pos hw] at step
     have hl3:=ho3.len
     refine ⟨⟨_,a2+1,ts2.tail,f,congrArg (fun r=>[PV.sl 0 24 r]) (map_snoc (encE (placeOf L en)) l (.mk v1 v2 v3 v4 v5)),rfl,ho3,by simp only [List.length_append,List.length_singleton];omega,by omega,step⟩,?_⟩
     show ((L.length:Int) - (a2+1)).toNat<((L.length:Int) - a1).toNat
     omega
    ·conv=>whnf
     rw [if_neg (by rw [hw];simp)] at step
     rw [step] at h
     exact K_of (h a2 (by omega) ho2) (congrArg (fun r=>PEnd.ret (PV.d (D.sl r))) (map_snoc (encE (placeOf L en)) l (.mk v1 v2 v3 v4 v5)).symm) rfl
  | true =>
   conv=>whnf
   refine CondP.dec (fun hc=>?_) (fun hc=>?_)
   ·have hc:l.length=12:=by
     have hc:((l.map (encE (placeOf L en))).length:Int)=12:=hc
     rw [List.length_map] at hc;omega
    rw [hm,if_pos ⟨hb,hc⟩] at h
    conv=>whnf
    refine ⟨L,ts1,rfl,ho1,?_⟩
    conv=>whnf
    exact h _ _
   ·have step:=step (fun g=>hc (by show ((l.map (encE (placeOf L en))).length:Int)=12;rw [List.length_map,g.2];rfl))
    conv=>whnf
    refine ⟨L,ts1,rfl,ho1,hdp,fun x hx=>?_⟩
    rw [hx] at step
    cases x with
    | err r e =>
     rw [step,R.bind_err] at h
     intro a2 dp2
     conv=>whnf
     exact h _ _
    | ok v ts2 =>
     rw [R.bind_ok] at step
     intro a2 hle ho2
     have hl2:=ho2.len
     have hhi2:=ho2.hi
     obtain ⟨v1,v2,v3,v4,v5⟩:=v
     conv=>whnf
     refine ⟨List.forall_mem_singleton.2 rfl,(show ((l.map (encE (placeOf L en))).length+1) * 64≤2 ^ 47 by rw [List.length_map];omega),(show (l.map (encE (placeOf L en))).length+1≤2 ^ 47 by rw [List.length_map];omega),?_⟩
     conv=>whnf
     refine ⟨L,ts2,rfl,ho2,[[44]],rfl,by simp,fun hw ho3=>?_,fun hw=>?_⟩
     ·conv=>whnf
      rw [if_pos hw] at step
      have hl3:=ho3.len
      refine ⟨⟨_,a2+1,ts2.tail,f,congrArg (fun r=>[PV.sl 0 24 r]) (map_snoc (encE (placeOf L en)) l (.mk v1 v2 v3 v4 v5)),rfl,ho3,by simp only [List.length_append,List.length_singleton];omega,by omega,step⟩,?_⟩
      show ((L.length:Int) - (a2+1)).toNat<((L.length:Int) - a1).toNat
      omega
     ·conv=>whnf
      rw [if_neg (by rw [hw];simp)] at step
      rw [step] at h
      exact K_of (h a2 (by omega) ho2) (congrArg (fun r=>PEnd.ret (PV.d (D.sl r))) (map_snoc (encE (placeOf L en)) l (.mk v1 v2 v3 v4 v5)).symm) rfl
 ·exact h.elim
end Go.PM.Lex
end

section
set_option maxRecDepth 100000
set_option maxHeartbeats 4000000
namespace Go.PM.Lex
open Go.Proofs
variable {w0:World} {nG:Nat}
end Go.PM.Lex
end

section
set_option maxRecDepth 100000
set_option maxHeartbeats 4000000
namespace Go.PM.Lex
open Go.Proofs
variable {w0:World} {nG:Nat}
end Go.PM.Lex
end

section
set_option maxRecDepth 100000
set_option maxHeartbeats 4000000
namespace Go.PM.Lex
open Go.Proofs
variable {w0:World} {nG:Nat}
noncomputable def spIn (fn:Func) (tb:Tbl):Spec:=fun args σ K=>∃K0:PEnd→St→Prop,(∀e σ,K0 e σ→K e σ)∧args.length≤fn.ntmps∧WF (ctx Tab0 tb (loopsOf [])) fn σ.bx.length false args σ K0
theorem spIn_mono (fn:Func) (tb:Tbl):SpecMono (spIn fn tb):=fun args σ K K' hK ⟨K0,h1,h2⟩=>⟨K0,fun e σ h=>hK _ _ (h1 e σ h),h2⟩
noncomputable def spInU (fn:Func) (unr:Nat→Nat) (tb:Tbl):Spec:=fun args σ K=>∃K0:PEnd→St→Prop,(∀e σ,K0 e σ→K e σ)∧args.length≤fn.ntmps∧WF (ctxU Tab0 tb noIter (loopsOf []) unr (tieOf [])) fn σ.bx.length false args σ K0
theorem spInU_mono (fn:Func) (unr:Nat→Nat) (tb:Tbl):SpecMono (spInU fn unr tb):=fun args σ K K' hK ⟨K0,h1,h2⟩=>⟨K0,fun e σ h=>hK _ _ (h1 e σ h),h2⟩
theorem _root_.Go.PM.PCalls.closed {G:GE} {g:FuncId} {sp:Spec} (h:PCalls G g sp):PCalls G g (fun args σ K=>∃K0:PEnd→St→Prop,(∀e σ,K0 e σ→K e σ)∧sp args σ K0):=⟨h.enters,fun args σ K ⟨K0,hK,hs⟩ n e w vs hS ha =>
 (h.calls args σ K0 hs n e w vs hS ha).mono fun en w' ⟨pe,σ',e',hk,hr⟩=>⟨pe,σ',e',hK _ _ hk,hr⟩⟩
theorem in_ok {g : FuncId} {fn : Func} {c : Code} {tb : Tbl} (ht : TblOK (GG w0 nG) tb) (hf : (GG w0 nG).P.funcs[g]? = some fn) (hb : fn.body = some c) (hname : (fn.name == "runtime.NumGoroutine") = false) (hok : codeOK fn.ntmps c = true) : PCalls (GG w0 nG) g (spIn fn tb) := by
 have h:PCalls (GG w0 nG) g (fun args σ K=>args.length≤fn.ntmps∧WF (ctx Tab0 tb (loopsOf [])) fn σ.bx.length false args σ K):=by
  refine pcalls tab_ok mixed ht hf hb hname hok ?_
  intro args σ K h
  exact ⟨loopsOf [],σ.bx.length,false,Nat.le_refl _,h.1,h.2⟩
 exact h.closed
theorem inU_ok {g : FuncId} {fn : Func} {c : Code} {unr : Nat → Nat} {tb : Tbl} (ht : TblOK (GG w0 nG) tb) (hf : (GG w0 nG).P.funcs[g]? = some fn) (hb : fn.body = some c) (hname : (fn.name == "runtime.NumGoroutine") = false) (hok : codeOK fn.ntmps c = true) : PCalls (GG w0 nG) g (spInU fn unr tb) := by
 have h:PCalls (GG w0 nG) g (fun args σ K=>args.length≤fn.ntmps∧WF (ctxU Tab0 tb noIter (loopsOf []) unr (tieOf [])) fn σ.bx.length false args σ K):=by
  refine pcallsN tab_ok mixed ht hf hb hname hok ?_
  intro args σ K h
  exact ⟨loopsOf [],unr,tieOf [],σ.bx.length,false,Nat.le_refl _,h.1,h.2⟩
 exact h.closed
noncomputable def spRB {α:Type} (enc:List Tok→Int→α→PV) (P:Ts→R α) (lo:Int) (d:Nat):Spec:=rdSp fun rest L en dp a ts K=>match rest with
 | []=>(0<d∧dp=65 - (d:Int)∧0≤dp)∧∀x,P ts=x→RKk (enc L en) L en dp (a+lo) x K
 | _=>False
theorem spRB_mono {α:Type} (enc:List Tok→Int→α→PV) (P:Ts→R α) (lo:Int) (d:Nat):SpecMono (spRB enc P lo d):=rdSp_mono fun rest L en dp a ts K K' hK h=>by
 split at h
 ·exact ⟨h.1,fun x hx=>RKk_mono hK (h.2 x hx)⟩
 ·exact h.elim
theorem spRB_zero {α:Type} {enc:List Tok→Int→α→PV} {P:Ts→R α} {lo:Int} {g:FuncId} (h:Enters (GG w0 nG).P g):PCalls (GG w0 nG) g (spRB enc P lo 0):=⟨h,fun args σ K hs=>by
 exfalso
 unfold spRB rdSp at hs
 split at hs
 ·obtain ⟨L,ts,_,_,hs⟩:=hs
  split at hs
  ·have:=hs.1.1;omega
  ·exact hs
 ·exact hs⟩
theorem _root_.Go.PM.PCalls.weaken1 {G:GE} {g:FuncId} {sp sp':Spec} (h:PCalls G g sp) (hw:∀args σ K,sp' args σ K→sp args σ K):PCalls G g sp':=⟨h.enters,fun args σ K hs=>h.calls args σ K (hw _ _ _ hs)⟩
theorem spRB_succ {α:Type} {enc:List Tok→Int→α→PV} {P:Ts→R α} {lo:Int} {d:Nat} {g:FuncId} (h:PCalls (GG w0 nG) g (spRD enc P lo d)):PCalls (GG w0 nG) g (spRB enc P lo (d+1)):=h.weaken1 fun args σ K hs=>by
 unfold spRB rdSp at hs
 unfold spRD rdSp
 split at hs
 ·obtain ⟨L,ts,h1,h2,hs⟩:=hs
  refine ⟨L,ts,h1,h2,?_⟩
  split at hs
  ·exact ⟨by have:=hs.1.2;omega,hs.2⟩
  ·exact hs.elim
 ·exact hs
end Go.PM.Lex
end
