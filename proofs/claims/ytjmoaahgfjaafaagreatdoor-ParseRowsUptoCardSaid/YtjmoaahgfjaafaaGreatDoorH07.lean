/- A part of the proof: plain logic, contracts and laws over the given program. -/
import Derived.KernelRfl
import Derived.Test.YtjmoaahgfjaafaaGreatDoorH06
set_option linter.unusedVariables false
set_option linter.unusedSimpArgs false
set_option linter.all false
section
set_option maxRecDepth 100000
set_option maxHeartbeats 4000000
namespace Go.PM.Lex
open Go.Proofs
variable {w0 : World} {nG : Nat}
theorem orU (n : Fin 256) : bitsOf .or .u8 (n.val : Int) 32 = ((n.val ||| 32 : Nat) : Int) := by rw [bitsOf_eq]; revert n; decide +kernel
theorem orH : ∀ n : Fin 256, (97 ≤ (n.val ||| 32) ∧ (n.val ||| 32) ≤ 102) ↔ ((97 ≤ n.val ∧ n.val ≤ 102) ∨ (65 ≤ n.val ∧ n.val ≤ 70)) := by decide +kernel
theorem or_hex (b : UInt8) : (97 ≤ bitsOf .or .u8 (b.toNat : Int) 32 ∧ bitsOf .or .u8 (b.toNat : Int) 32 ≤ 102) ↔ ((97 ≤ b.toNat ∧ b.toNat ≤ 102) ∨ (65 ≤ b.toNat ∧ b.toNat ≤ 70)) := by
 have h2 := orU ⟨b.toNat, b.toNat_lt⟩
 have h3 := orH ⟨b.toNat, b.toNat_lt⟩
 simp only at h2 h3
 rw [h2]
 omega
theorem takeWhile_take (p : UInt8 → Bool) : ∀ l : Bs, l.takeWhile p = l.take (l.takeWhile p).length
 | [] => rfl
 | x :: l => by
  by_cases h : p x = true
  ·simp only [List.takeWhile_cons, h, if_true, List.length_cons, List.take_succ_cons]; rw [← takeWhile_take p l]
  ·simp [List.takeWhile_cons, h]
theorem takeWhile_all (p : UInt8 → Bool) : ∀ l : Bs, (l.takeWhile p).all p = true
 | [] => rfl
 | x :: l => by
  by_cases h : p x = true
  ·simp only [List.takeWhile_cons, h, if_true, List.all_cons, takeWhile_all p l, Bool.and_self]
  ·simp [List.takeWhile_cons, h]
theorem takeWhile_le (p : UInt8 → Bool) (l : Bs) : (l.takeWhile p).length ≤ l.length := List.Sublist.length_le (List.takeWhile_sublist p)
theorem drop_at {s : Bs} {e : Nat} (h : e < s.length) : s.drop e = s.getD e 0 :: s.drop (e + 1) := by
 rw [List.drop_eq_getElem_cons h]; simp [List.getD, h]
noncomputable def tblNumber : Tbl := [(287, spHasPrefix), (290, spDigit), (321, spParseUint), (248, spPeek), (249, spLetter)]
theorem number_ok (ht : TblOK (GG w0 nG) tblNumber) : PCalls (GG w0 nG) 292 spNumber := by
 refine pcalls tab_ok mixed ht Tryz.func292 rfl (by kernel_rfl) (by kernel_rfl) ?_
 intro args σ K h
 unfold spNumber at h
 split at h
 ·rename_i t s a
  obtain ⟨⟨h0, h1, hs⟩, h⟩ := h
  obtain ⟨a, rfl⟩ : ∃ n : Nat, a = n := ⟨a.toNat, by omega⟩
  simp only [Int.toNat_natCast] at h
  refine ⟨loopsOf [(5, ⟨[5], [0, 2, 3, 4, 6], fun vs σ => σ = ⟨[.cells t [.d (.str s), .d (.int .i64 a)], .cells 40 [.d (.int .u8 0), .d (.str []), .d (.int .i64 0), .d (.int .i64 0), .d (.int .i64 0)], .cells 222 [.d (.int .i64 0), .d (.int .i64 0)]], [], 0⟩ ∧
   ∃ e : Nat, vs = [.d (.int .i64 e)] ∧ a + (if isHex (s.drop a) then 2 else 0) ≤ e ∧ e ≤ s.length ∧ e - (a + (if isHex (s.drop a) then 2 else 0)) + ((s.drop e).takeWhile (digB (isHex (s.drop a)))).length = (numDigits (s.drop a)).length, muI s.length⟩)], 1, false, by simp, Nat.le_of_ble_eq_true rfl, ?_⟩
  have hbad : numberF (s.drop a) = none → K (.ret (.tuple [tokPV 0 [] 0 0 0, fltPV a 142])) ⟨[.cells t [.d (.str s), .d (.int .i64 a)]], [], 0⟩ := fun g => by
   have e1 : numberR a (s.drop a) = .bad a 142 := by rw [numberR, g]
   rw [e1] at h; exact h
  have hgood : ∀ n : Nat, numberF (s.drop a) = some n → K (.ret (.tuple [tokPV 2 [] (IntKind.i64.wrap n) a ((a + numLen (s.drop a) : Nat) : Int), fltPV 0 0])) ⟨[.cells t [.d (.str s), .d (.int .i64 a)]], [], 0⟩ := fun n g => by
   have e1 : numberR a (s.drop a) = .tok ⟨2, [], IntKind.i64.wrap n, a, a + numLen (s.drop a)⟩ := by rw [numberR, g]
   rw [e1] at h; exact h
  conv => whnf
  refine ⟨by omega, by omega, ?_⟩
  conv => whnf
  rw [cut_end]
  refine CondP.intro (fun hx => ?_) (fun hx => ?_)
  ·have hx' : isHex (s.drop a) = true := hx
   simp only [hx', if_true, Bool.false_eq_true, if_false]
   have hnd : numDigits (s.drop a) = (s.drop (a + 2)).takeWhile (digB true) := by simp [numDigits, hx', List.drop_drop]
   have hnl : numLen (s.drop a) = 2 + (numDigits (s.drop a)).length := by simp [numLen, hx']
   have hl2 := (hasPrefix_two hx).1
   rw [List.length_drop] at hl2
   conv => whnf
   refine Or.inl ⟨InR.i64 (by omega) (by omega), ?_⟩
   conv => whnf
   refine ⟨⟨rfl, (a + 2), rfl, by omega, by omega, by rw [hnd]; simp⟩, ?_⟩
   intro vs σ1 hI
   obtain ⟨rfl, e, rfl, he1, he2, hn⟩ := hI
   have htail : ∀ (g : ((s.drop e).takeWhile (digB true)).length = 0), e = a + numLen (s.drop a) ∧ numDigits (s.drop a) = cut s (a + 2) e := fun g => by
    rw [g] at hn
    refine ⟨by omega, ?_⟩
    rw [cut_mid, show e - (a + 2) = (numDigits (s.drop a)).length by omega, hnd]
    exact takeWhile_take _ _
   have hall : (numDigits (s.drop a)).all (digB true) = true := by rw [hnd]; exact takeWhile_all _ _
   have hnlen : (numDigits (s.drop a)).length ≤ s.length := by
    rw [hnd]; have := takeWhile_le (digB true) (s.drop (a + 2)); rw [List.length_drop] at this; omega
   conv => whnf
   refine CondP.dec (fun h2 => ?_) (fun h2 => ?_)
   ·have h2' : e < s.length := by omega
    have hdr := drop_at h2'
    have hb := (s.getD e 0).toNat_lt
    have hstep : digB true (s.getD e 0) = true → e + 1 - (a + 2) + ((s.drop (e + 1)).takeWhile (digB true)).length = (numDigits (s.drop a)).length := fun g => by
     rw [← hn, hdr, List.takeWhile_cons, if_pos g, List.length_cons]; omega
    have hstop : digB true (s.getD e 0) = false → ((s.drop e).takeWhile (digB true)).length = 0 := fun g => by
     rw [hdr, List.takeWhile_cons, if_neg (by rw [g]; simp)]; rfl
    conv => whnf
    refine ⟨by omega, by omega, ?_⟩
    conv => whnf
    refine Or.inl ⟨InR.i32 (by omega) (by simp only [Int.toNat_natCast]; omega), ?_⟩
    conv => whnf
    refine CondP.intro (fun h3 => ?_) (fun h3 => ?_)
    ·conv => whnf
     refine Or.inl ⟨InR.i64 (by omega) (by omega), ?_⟩
     conv => whnf
     refine ⟨⟨rfl, e + 1, rfl, by omega, by omega, hstep (by have h3' : isDigit ((s.getD e 0).toNat : Int) = true := h3; simp only [digB, h3', Bool.true_or])⟩, ?_⟩
     exact (show ((s.length : Int) - ((e : Int) + 1)).toNat < ((s.length : Int) - (e : Int)).toNat by omega)
    ·have h3' : isDigit ((s.getD e 0).toNat : Int) = false := h3
     conv => whnf
     have hoh := or_hex (s.getD e 0)
     refine CondP.dec (fun h4 => ?_) (fun h4 => ?_)
     ·conv => whnf
      refine CondP.dec (fun h5 => ?_) (fun h5 => ?_)
      ·have hd : digB true (s.getD e 0) = true := by
        have := hoh.1 ⟨h4, h5⟩
        simp only [digB, h3', Bool.false_or, Bool.true_and, decide_eq_true_eq]; omega
       conv => whnf
       refine Or.inl ⟨InR.i64 (by omega) (by omega), ?_⟩
       conv => whnf
       refine ⟨⟨rfl, e + 1, rfl, by omega, by omega, hstep hd⟩, ?_⟩
       exact (show ((s.length : Int) - ((e : Int) + 1)).toNat < ((s.length : Int) - (e : Int)).toNat by omega)
      ·have hd : digB true (s.getD e 0) = false := by
        have : ¬ ((97 ≤ (s.getD e 0).toNat ∧ (s.getD e 0).toNat ≤ 102) ∨ (65 ≤ (s.getD e 0).toNat ∧ (s.getD e 0).toNat ≤ 70)) := fun g => h5 (hoh.2 g).2
        simp only [digB, h3', Bool.false_or, Bool.true_and, decide_eq_false_iff_not]; exact this
       have hst := htail (hstop hd)
       conv => whnf
       refine ⟨by omega, by omega, by omega, ?_⟩
       conv => whnf
       have hcut : cut s (((a : Int) + 2)).toNat ((e : Int)).toNat = numDigits (s.drop a) := by rw [hst.2]; congr 1 <;> omega
       refine ⟨true, ⟨⟨?_, ?_⟩, rfl, rfl⟩, fun h5 nn => ?_, fun h5 => ?_⟩
       ·exact (congrArg (fun l : Bs => l.all (digB true) = true) hcut).mpr hall
       ·exact (congrArg (fun l : Bs => l.length < 4294967281) hcut).mpr (show _ < _ by omega)
       ·have h5' : numDigits (s.drop a) = [] ∨ 18446744073709551616 ≤ numV 16 (numDigits (s.drop a)) := by rw [← hcut]; exact h5
        have g5 : numberF (s.drop a) = none := by
         unfold numberF
         simp only [hx', if_true, Bool.false_eq_true, if_false]
         rcases h5' with g | g
         ·rw [if_pos g]
         ·by_cases g0 : numDigits (s.drop a) = []
          ·rw [if_pos g0]
          ·rw [if_neg g0, if_pos g]
        conv => whnf
        refine ⟨⟨by omega, by omega⟩, ?_⟩
        conv => whnf
        (try (refine ⟨rfl, ?_⟩; conv => whnf))
        (try (refine ⟨rfl, ?_⟩; conv => whnf))
        exact hbad g5
       ·have h5' : ¬ (numDigits (s.drop a) = [] ∨ 18446744073709551616 ≤ numV 16 (numDigits (s.drop a))) := by rw [← hcut]; exact h5
        simp only [not_or] at h5'
        have hpr := pk_rng (s.drop (a + numLen (s.drop a)))
        have hpr' := pk_rng (s.drop ((e : Int)).toNat)
        have hee : (pk (s.drop ((e : Int)).toNat)).1 = (pk ((s.drop a).drop (numLen (s.drop a)))).1 := by rw [List.drop_drop, ← hst.1]; rfl
        have g6 : numberF (s.drop a) = if isLetter (pk ((s.drop a).drop (numLen (s.drop a)))).1 = true ∨ isDigit (pk ((s.drop a).drop (numLen (s.drop a)))).1 = true ∨ (isHex (s.drop a) = true ∧ 16 < (numDigits (s.drop a)).length) then none else some (numV 16 (numDigits (s.drop a))) := by
         unfold numberF
         simp only [hx', if_true, Bool.false_eq_true, if_false]
         rw [if_neg h5'.1, if_neg h5'.2]
        conv => whnf
        refine ⟨⟨by omega, by omega⟩, ?_⟩
        conv => whnf
        refine ⟨⟨hpr'.1, by omega⟩, ?_⟩
        conv => whnf
        refine CondP.intro (fun h6 => ?_) (fun h6 => ?_)
        ·conv => whnf
         (try (refine ⟨rfl, ?_⟩; conv => whnf))
         (try (refine ⟨rfl, ?_⟩; conv => whnf))
         exact hbad (by rw [g6, if_pos (.inl (by rw [← hee]; exact h6))])
        ·conv => whnf
         refine CondP.intro (fun h7 => ?_) (fun h7 => ?_)
         ·conv => whnf
          (try (refine ⟨rfl, ?_⟩; conv => whnf))
          (try (refine ⟨rfl, ?_⟩; conv => whnf))
          exact hbad (by rw [g6, if_pos (.inr (.inl (by rw [← hee]; exact h7)))])
         ·have g7 : ¬ isLetter (pk ((s.drop a).drop (numLen (s.drop a)))).1 = true ∧ ¬ isDigit (pk ((s.drop a).drop (numLen (s.drop a)))).1 = true := by
           rw [← hee]; exact ⟨by have h6' : isLetter (pk (s.drop ((e : Int)).toNat)).1 = false := h6; rw [h6']; simp, by have h7' : isDigit (pk (s.drop ((e : Int)).toNat)).1 = false := h7; rw [h7']; simp⟩
          conv => whnf
          refine Or.inl ⟨InR.i64 (by omega) (by omega), ?_⟩
          conv => whnf
          refine CondP.dec (fun h8 => ?_) (fun h8 => ?_)
          ·conv => whnf
           (try (refine ⟨rfl, ?_⟩; conv => whnf))
           (try (refine ⟨rfl, ?_⟩; conv => whnf))
           exact hbad (by rw [g6, if_pos (.inr (.inr ⟨hx', by omega⟩))])
          ·conv => whnf
           have g9 := hgood _ (by rw [g6, if_neg (by simp only [not_or]; exact ⟨g7.1, g7.2, by omega⟩)])
           rw [← hst.1, ← hcut] at g9
           exact Or.inr g9
     ·have hd : digB true (s.getD e 0) = false := by
       have : ¬ ((97 ≤ (s.getD e 0).toNat ∧ (s.getD e 0).toNat ≤ 102) ∨ (65 ≤ (s.getD e 0).toNat ∧ (s.getD e 0).toNat ≤ 70)) := fun g => h4 (hoh.2 g).1
       simp only [digB, h3', Bool.false_or, Bool.true_and, decide_eq_false_iff_not]; exact this
      have hst := htail (hstop hd)
      conv => whnf
      refine ⟨by omega, by omega, by omega, ?_⟩
      conv => whnf
      have hcut : cut s (((a : Int) + 2)).toNat ((e : Int)).toNat = numDigits (s.drop a) := by rw [hst.2]; congr 1 <;> omega
      refine ⟨true, ⟨⟨?_, ?_⟩, rfl, rfl⟩, fun h5 nn => ?_, fun h5 => ?_⟩
      ·exact (congrArg (fun l : Bs => l.all (digB true) = true) hcut).mpr hall
      ·exact (congrArg (fun l : Bs => l.length < 4294967281) hcut).mpr (show _ < _ by omega)
      ·have h5' : numDigits (s.drop a) = [] ∨ 18446744073709551616 ≤ numV 16 (numDigits (s.drop a)) := by rw [← hcut]; exact h5
       have g5 : numberF (s.drop a) = none := by
        unfold numberF
        simp only [hx', if_true, Bool.false_eq_true, if_false]
        rcases h5' with g | g
        ·rw [if_pos g]
        ·by_cases g0 : numDigits (s.drop a) = []
         ·rw [if_pos g0]
         ·rw [if_neg g0, if_pos g]
       conv => whnf
       refine ⟨⟨by omega, by omega⟩, ?_⟩
       conv => whnf
       (try (refine ⟨rfl, ?_⟩; conv => whnf))
       (try (refine ⟨rfl, ?_⟩; conv => whnf))
       exact hbad g5
      ·have h5' : ¬ (numDigits (s.drop a) = [] ∨ 18446744073709551616 ≤ numV 16 (numDigits (s.drop a))) := by rw [← hcut]; exact h5
       simp only [not_or] at h5'
       have hpr := pk_rng (s.drop (a + numLen (s.drop a)))
       have hpr' := pk_rng (s.drop ((e : Int)).toNat)
       have hee : (pk (s.drop ((e : Int)).toNat)).1 = (pk ((s.drop a).drop (numLen (s.drop a)))).1 := by rw [List.drop_drop, ← hst.1]; rfl
       have g6 : numberF (s.drop a) = if isLetter (pk ((s.drop a).drop (numLen (s.drop a)))).1 = true ∨ isDigit (pk ((s.drop a).drop (numLen (s.drop a)))).1 = true ∨ (isHex (s.drop a) = true ∧ 16 < (numDigits (s.drop a)).length) then none else some (numV 16 (numDigits (s.drop a))) := by
        unfold numberF
        simp only [hx', if_true, Bool.false_eq_true, if_false]
        rw [if_neg h5'.1, if_neg h5'.2]
       conv => whnf
       refine ⟨⟨by omega, by omega⟩, ?_⟩
       conv => whnf
       refine ⟨⟨hpr'.1, by omega⟩, ?_⟩
       conv => whnf
       refine CondP.intro (fun h6 => ?_) (fun h6 => ?_)
       ·conv => whnf
        (try (refine ⟨rfl, ?_⟩; conv => whnf))
        (try (refine ⟨rfl, ?_⟩; conv => whnf))
        exact hbad (by rw [g6, if_pos (.inl (by rw [← hee]; exact h6))])
       ·conv => whnf
        refine CondP.intro (fun h7 => ?_) (fun h7 => ?_)
        ·conv => whnf
         (try (refine ⟨rfl, ?_⟩; conv => whnf))
         (try (refine ⟨rfl, ?_⟩; conv => whnf))
         exact hbad (by rw [g6, if_pos (.inr (.inl (by rw [← hee]; exact h7)))])
        ·have g7 : ¬ isLetter (pk ((s.drop a).drop (numLen (s.drop a)))).1 = true ∧ ¬ isDigit (pk ((s.drop a).drop (numLen (s.drop a)))).1 = true := by
          rw [← hee]; exact ⟨by have h6' : isLetter (pk (s.drop ((e : Int)).toNat)).1 = false := h6; rw [h6']; simp, by have h7' : isDigit (pk (s.drop ((e : Int)).toNat)).1 = false := h7; rw [h7']; simp⟩
         conv => whnf
         refine Or.inl ⟨InR.i64 (by omega) (by omega), ?_⟩
         conv => whnf
         refine CondP.dec (fun h8 => ?_) (fun h8 => ?_)
         ·conv => whnf
          (try (refine ⟨rfl, ?_⟩; conv => whnf))
          (try (refine ⟨rfl, ?_⟩; conv => whnf))
          exact hbad (by rw [g6, if_pos (.inr (.inr ⟨hx', by omega⟩))])
         ·conv => whnf
          have g9 := hgood _ (by rw [g6, if_neg (by simp only [not_or]; exact ⟨g7.1, g7.2, by omega⟩)])
          rw [← hst.1, ← hcut] at g9
          exact Or.inr g9
   ·have hd0 : ((s.drop e).takeWhile (digB true)).length = 0 := by rw [List.drop_eq_nil_of_le (by omega)]; rfl
    have hst := htail (hd0)
    conv => whnf
    refine ⟨by omega, by omega, by omega, ?_⟩
    conv => whnf
    have hcut : cut s (((a : Int) + 2)).toNat ((e : Int)).toNat = numDigits (s.drop a) := by rw [hst.2]; congr 1 <;> omega
    refine ⟨true, ⟨⟨?_, ?_⟩, rfl, rfl⟩, fun h5 nn => ?_, fun h5 => ?_⟩
    ·exact (congrArg (fun l : Bs => l.all (digB true) = true) hcut).mpr hall
    ·exact (congrArg (fun l : Bs => l.length < 4294967281) hcut).mpr (show _ < _ by omega)
    ·have h5' : numDigits (s.drop a) = [] ∨ 18446744073709551616 ≤ numV 16 (numDigits (s.drop a)) := by rw [← hcut]; exact h5
     have g5 : numberF (s.drop a) = none := by
      unfold numberF
      simp only [hx', if_true, Bool.false_eq_true, if_false]
      rcases h5' with g | g
      ·rw [if_pos g]
      ·by_cases g0 : numDigits (s.drop a) = []
       ·rw [if_pos g0]
       ·rw [if_neg g0, if_pos g]
     conv => whnf
     refine ⟨⟨by omega, by omega⟩, ?_⟩
     conv => whnf
     (try (refine ⟨rfl, ?_⟩; conv => whnf))
     (try (refine ⟨rfl, ?_⟩; conv => whnf))
     exact hbad g5
    ·have h5' : ¬ (numDigits (s.drop a) = [] ∨ 18446744073709551616 ≤ numV 16 (numDigits (s.drop a))) := by rw [← hcut]; exact h5
     simp only [not_or] at h5'
     have hpr := pk_rng (s.drop (a + numLen (s.drop a)))
     have hpr' := pk_rng (s.drop ((e : Int)).toNat)
     have hee : (pk (s.drop ((e : Int)).toNat)).1 = (pk ((s.drop a).drop (numLen (s.drop a)))).1 := by rw [List.drop_drop, ← hst.1]; rfl
     have g6 : numberF (s.drop a) = if isLetter (pk ((s.drop a).drop (numLen (s.drop a)))).1 = true ∨ isDigit (pk ((s.drop a).drop (numLen (s.drop a)))).1 = true ∨ (isHex (s.drop a) = true ∧ 16 < (numDigits (s.drop a)).length) then none else some (numV 16 (numDigits (s.drop a))) := by
      unfold numberF
      simp only [hx', if_true, Bool.false_eq_true, if_false]
      rw [if_neg h5'.1, if_neg h5'.2]
     conv => whnf
     refine ⟨⟨by omega, by omega⟩, ?_⟩
     conv => whnf
     refine ⟨⟨hpr'.1, by omega⟩, ?_⟩
     conv => whnf
     refine CondP.intro (fun h6 => ?_) (fun h6 => ?_)
     ·conv => whnf
      (try (refine ⟨rfl, ?_⟩; conv => whnf))
      (try (refine ⟨rfl, ?_⟩; conv => whnf))
      exact hbad (by rw [g6, if_pos (.inl (by rw [← hee]; exact h6))])
     ·conv => whnf
      refine CondP.intro (fun h7 => ?_) (fun h7 => ?_)
      ·conv => whnf
       (try (refine ⟨rfl, ?_⟩; conv => whnf))
       (try (refine ⟨rfl, ?_⟩; conv => whnf))
       exact hbad (by rw [g6, if_pos (.inr (.inl (by rw [← hee]; exact h7)))])
      ·have g7 : ¬ isLetter (pk ((s.drop a).drop (numLen (s.drop a)))).1 = true ∧ ¬ isDigit (pk ((s.drop a).drop (numLen (s.drop a)))).1 = true := by
        rw [← hee]; exact ⟨by have h6' : isLetter (pk (s.drop ((e : Int)).toNat)).1 = false := h6; rw [h6']; simp, by have h7' : isDigit (pk (s.drop ((e : Int)).toNat)).1 = false := h7; rw [h7']; simp⟩
       conv => whnf
       refine Or.inl ⟨InR.i64 (by omega) (by omega), ?_⟩
       conv => whnf
       refine CondP.dec (fun h8 => ?_) (fun h8 => ?_)
       ·conv => whnf
        (try (refine ⟨rfl, ?_⟩; conv => whnf))
        (try (refine ⟨rfl, ?_⟩; conv => whnf))
        exact hbad (by rw [g6, if_pos (.inr (.inr ⟨hx', by omega⟩))])
       ·conv => whnf
        have g9 := hgood _ (by rw [g6, if_neg (by simp only [not_or]; exact ⟨g7.1, g7.2, by omega⟩)])
        rw [← hst.1, ← hcut] at g9
        exact Or.inr g9
  ·have hx' : isHex (s.drop a) = false := hx
   simp only [hx', if_true, Bool.false_eq_true, if_false]
   have hnd : numDigits (s.drop a) = (s.drop (a + 0)).takeWhile (digB false) := by simp [numDigits, hx', List.drop_drop]
   have hnl : numLen (s.drop a) = 0 + (numDigits (s.drop a)).length := by simp [numLen, hx']
   conv => whnf
   refine ⟨⟨rfl, a, rfl, by omega, by omega, by rw [hnd]; simp⟩, ?_⟩
   intro vs σ1 hI
   obtain ⟨rfl, e, rfl, he1, he2, hn⟩ := hI
   have htail : ∀ (g : ((s.drop e).takeWhile (digB false)).length = 0), e = a + numLen (s.drop a) ∧ numDigits (s.drop a) = cut s (a + 0) e := fun g => by
    rw [g] at hn
    refine ⟨by omega, ?_⟩
    rw [cut_mid, show e - (a + 0) = (numDigits (s.drop a)).length by omega, hnd]
    exact takeWhile_take _ _
   have hall : (numDigits (s.drop a)).all (digB false) = true := by rw [hnd]; exact takeWhile_all _ _
   have hnlen : (numDigits (s.drop a)).length ≤ s.length := by
    rw [hnd]; have := takeWhile_le (digB false) (s.drop (a + 0)); rw [List.length_drop] at this; omega
   conv => whnf
   refine CondP.dec (fun h2 => ?_) (fun h2 => ?_)
   ·have h2' : e < s.length := by omega
    have hdr := drop_at h2'
    have hb := (s.getD e 0).toNat_lt
    have hstep : digB false (s.getD e 0) = true → e + 1 - (a + 0) + ((s.drop (e + 1)).takeWhile (digB false)).length = (numDigits (s.drop a)).length := fun g => by
     rw [← hn, hdr, List.takeWhile_cons, if_pos g, List.length_cons]; omega
    have hstop : digB false (s.getD e 0) = false → ((s.drop e).takeWhile (digB false)).length = 0 := fun g => by
     rw [hdr, List.takeWhile_cons, if_neg (by rw [g]; simp)]; rfl
    conv => whnf
    refine ⟨by omega, by omega, ?_⟩
    conv => whnf
    refine Or.inl ⟨InR.i32 (by omega) (by simp only [Int.toNat_natCast]; omega), ?_⟩
    conv => whnf
    refine CondP.intro (fun h3 => ?_) (fun h3 => ?_)
    ·conv => whnf
     refine Or.inl ⟨InR.i64 (by omega) (by omega), ?_⟩
     conv => whnf
     refine ⟨⟨rfl, e + 1, rfl, by omega, by omega, hstep (by have h3' : isDigit ((s.getD e 0).toNat : Int) = true := h3; simp only [digB, h3', Bool.true_or])⟩, ?_⟩
     exact (show ((s.length : Int) - ((e : Int) + 1)).toNat < ((s.length : Int) - (e : Int)).toNat by omega)
    ·have h3' : isDigit ((s.getD e 0).toNat : Int) = false := h3
     conv => whnf
     have hd : digB false (s.getD e 0) = false := by simp only [digB, h3', Bool.false_and, Bool.or_false]
     have hst := htail (hstop hd)
     conv => whnf
     refine ⟨by omega, by omega, by omega, ?_⟩
     conv => whnf
     have hcut : cut s ((a : Int)).toNat ((e : Int)).toNat = numDigits (s.drop a) := by rw [hst.2]; congr 1 <;> omega
     refine ⟨false, ⟨⟨?_, ?_⟩, rfl, rfl⟩, fun h5 nn => ?_, fun h5 => ?_⟩
     ·exact (congrArg (fun l : Bs => l.all (digB false) = true) hcut).mpr hall
     ·exact (congrArg (fun l : Bs => l.length < 4294967281) hcut).mpr (show _ < _ by omega)
     ·have h5' : numDigits (s.drop a) = [] ∨ 9223372036854775808 ≤ numV 10 (numDigits (s.drop a)) := by rw [← hcut]; exact h5
      have g5 : numberF (s.drop a) = none := by
       unfold numberF
       simp only [hx', if_true, Bool.false_eq_true, if_false]
       rcases h5' with g | g
       ·rw [if_pos g]
       ·by_cases g0 : numDigits (s.drop a) = []
        ·rw [if_pos g0]
        ·rw [if_neg g0, if_pos g]
      conv => whnf
      refine ⟨⟨by omega, by omega⟩, ?_⟩
      conv => whnf
      (try (refine ⟨rfl, ?_⟩; conv => whnf))
      (try (refine ⟨rfl, ?_⟩; conv => whnf))
      exact hbad g5
     ·have h5' : ¬ (numDigits (s.drop a) = [] ∨ 9223372036854775808 ≤ numV 10 (numDigits (s.drop a))) := by rw [← hcut]; exact h5
      simp only [not_or] at h5'
      have hpr := pk_rng (s.drop (a + numLen (s.drop a)))
      have hpr' := pk_rng (s.drop ((e : Int)).toNat)
      have hee : (pk (s.drop ((e : Int)).toNat)).1 = (pk ((s.drop a).drop (numLen (s.drop a)))).1 := by rw [List.drop_drop, ← hst.1]; rfl
      have g6 : numberF (s.drop a) = if isLetter (pk ((s.drop a).drop (numLen (s.drop a)))).1 = true ∨ isDigit (pk ((s.drop a).drop (numLen (s.drop a)))).1 = true ∨ (isHex (s.drop a) = true ∧ 16 < (numDigits (s.drop a)).length) then none else some (numV 10 (numDigits (s.drop a))) := by
       unfold numberF
       simp only [hx', if_true, Bool.false_eq_true, if_false]
       rw [if_neg h5'.1, if_neg h5'.2]
      conv => whnf
      refine ⟨⟨by omega, by omega⟩, ?_⟩
      conv => whnf
      refine ⟨⟨hpr'.1, by omega⟩, ?_⟩
      conv => whnf
      refine CondP.intro (fun h6 => ?_) (fun h6 => ?_)
      ·conv => whnf
       (try (refine ⟨rfl, ?_⟩; conv => whnf))
       (try (refine ⟨rfl, ?_⟩; conv => whnf))
       exact hbad (by rw [g6, if_pos (.inl (by rw [← hee]; exact h6))])
      ·conv => whnf
       refine CondP.intro (fun h7 => ?_) (fun h7 => ?_)
       ·conv => whnf
        (try (refine ⟨rfl, ?_⟩; conv => whnf))
        (try (refine ⟨rfl, ?_⟩; conv => whnf))
        exact hbad (by rw [g6, if_pos (.inr (.inl (by rw [← hee]; exact h7)))])
       ·have g7 : ¬ isLetter (pk ((s.drop a).drop (numLen (s.drop a)))).1 = true ∧ ¬ isDigit (pk ((s.drop a).drop (numLen (s.drop a)))).1 = true := by
         rw [← hee]; exact ⟨by have h6' : isLetter (pk (s.drop ((e : Int)).toNat)).1 = false := h6; rw [h6']; simp, by have h7' : isDigit (pk (s.drop ((e : Int)).toNat)).1 = false := h7; rw [h7']; simp⟩
        conv => whnf
        have g9 := hgood _ (by rw [g6, if_neg (by simp only [not_or]; exact ⟨g7.1, g7.2, by rw [hx']; simp⟩)])
        rw [← hst.1, ← hcut] at g9
        exact Or.inr g9
   ·have hd0 : ((s.drop e).takeWhile (digB false)).length = 0 := by rw [List.drop_eq_nil_of_le (by omega)]; rfl
    have hst := htail (hd0)
    conv => whnf
    refine ⟨by omega, by omega, by omega, ?_⟩
    conv => whnf
    have hcut : cut s ((a : Int)).toNat ((e : Int)).toNat = numDigits (s.drop a) := by rw [hst.2]; congr 1 <;> omega
    refine ⟨false, ⟨⟨?_, ?_⟩, rfl, rfl⟩, fun h5 nn => ?_, fun h5 => ?_⟩
    ·exact (congrArg (fun l : Bs => l.all (digB false) = true) hcut).mpr hall
    ·exact (congrArg (fun l : Bs => l.length < 4294967281) hcut).mpr (show _ < _ by omega)
    ·have h5' : numDigits (s.drop a) = [] ∨ 9223372036854775808 ≤ numV 10 (numDigits (s.drop a)) := by rw [← hcut]; exact h5
     have g5 : numberF (s.drop a) = none := by
      unfold numberF
      simp only [hx', if_true, Bool.false_eq_true, if_false]
      rcases h5' with g | g
      ·rw [if_pos g]
      ·by_cases g0 : numDigits (s.drop a) = []
       ·rw [if_pos g0]
       ·rw [if_neg g0, if_pos g]
     conv => whnf
     refine ⟨⟨by omega, by omega⟩, ?_⟩
     conv => whnf
     (try (refine ⟨rfl, ?_⟩; conv => whnf))
     (try (refine ⟨rfl, ?_⟩; conv => whnf))
     exact hbad g5
    ·have h5' : ¬ (numDigits (s.drop a) = [] ∨ 9223372036854775808 ≤ numV 10 (numDigits (s.drop a))) := by rw [← hcut]; exact h5
     simp only [not_or] at h5'
     have hpr := pk_rng (s.drop (a + numLen (s.drop a)))
     have hpr' := pk_rng (s.drop ((e : Int)).toNat)
     have hee : (pk (s.drop ((e : Int)).toNat)).1 = (pk ((s.drop a).drop (numLen (s.drop a)))).1 := by rw [List.drop_drop, ← hst.1]; rfl
     have g6 : numberF (s.drop a) = if isLetter (pk ((s.drop a).drop (numLen (s.drop a)))).1 = true ∨ isDigit (pk ((s.drop a).drop (numLen (s.drop a)))).1 = true ∨ (isHex (s.drop a) = true ∧ 16 < (numDigits (s.drop a)).length) then none else some (numV 10 (numDigits (s.drop a))) := by
      unfold numberF
      simp only [hx', if_true, Bool.false_eq_true, if_false]
      rw [if_neg h5'.1, if_neg h5'.2]
     conv => whnf
     refine ⟨⟨by omega, by omega⟩, ?_⟩
     conv => whnf
     refine ⟨⟨hpr'.1, by omega⟩, ?_⟩
     conv => whnf
     refine CondP.intro (fun h6 => ?_) (fun h6 => ?_)
     ·conv => whnf
      (try (refine ⟨rfl, ?_⟩; conv => whnf))
      (try (refine ⟨rfl, ?_⟩; conv => whnf))
      exact hbad (by rw [g6, if_pos (.inl (by rw [← hee]; exact h6))])
     ·conv => whnf
      refine CondP.intro (fun h7 => ?_) (fun h7 => ?_)
      ·conv => whnf
       (try (refine ⟨rfl, ?_⟩; conv => whnf))
       (try (refine ⟨rfl, ?_⟩; conv => whnf))
       exact hbad (by rw [g6, if_pos (.inr (.inl (by rw [← hee]; exact h7)))])
      ·have g7 : ¬ isLetter (pk ((s.drop a).drop (numLen (s.drop a)))).1 = true ∧ ¬ isDigit (pk ((s.drop a).drop (numLen (s.drop a)))).1 = true := by
        rw [← hee]; exact ⟨by have h6' : isLetter (pk (s.drop ((e : Int)).toNat)).1 = false := h6; rw [h6']; simp, by have h7' : isDigit (pk (s.drop ((e : Int)).toNat)).1 = false := h7; rw [h7']; simp⟩
       conv => whnf
       have g9 := hgood _ (by rw [g6, if_neg (by simp only [not_or]; exact ⟨g7.1, g7.2, by rw [hx']; simp⟩)])
       rw [← hst.1, ← hcut] at g9
       exact Or.inr g9
 ·exact h.elim
end Go.PM.Lex
end

section
set_option maxRecDepth 100000
set_option maxHeartbeats 8000000
namespace Go.PM.Lex
open Go.Proofs
variable {w0 : World} {nG : Nat}
structure GlobOK (w0 : World) (nG : Nat) : Prop where
 big : 7 < nG
 maxLen : ∃ m, w0.cell? ⟨2, 0, none⟩ = some (.int .i64 m)
 errSyntax : ∃ ev, w0.cell? ⟨6, 0, none⟩ = some ev ∧ (ev = .nilIface ∨ ∃ te pe, ev = .iface te pe)
 errRange : ∃ ev, w0.cell? ⟨7, 0, none⟩ = some ev ∧ (ev = .nilIface ∨ ∃ te pe, ev = .iface te pe)
noncomputable def spErr : Spec := fun args σ K => match args with
 | [.d (.str _), .d (.str s)] => s.length < 4294967281 ∧ K (.ret .undef) σ
 | _ => False
theorem spErr_mono : SpecMono spErr := fun args σ K K' hK h => by
 unfold spErr at h ⊢; split at h <;> first | exact ⟨h.1, hK _ _ h.2⟩ | exact h.elim
theorem glob_cell {e : Env} {σ : St} {w : World} {k : Nat} {u : Value} (hS : SRel (GG w0 nG) e σ w) (hk : k < nG) (h : w0.cell? ⟨k, 0, none⟩ = some u) : w.cell? ⟨k, 0, none⟩ = some u := by
 have := hS.glob k hk
 simpa [World.cell?, this] using h
theorem syntaxError_ok (hg : GlobOK w0 nG) : PCalls (GG w0 nG) 340 spErr where
 enters := enters_of Tryz.func340 (by kernel_rfl) rfl
 calls := fun args σ K hs n e w vs hS ha => by
  unfold spErr at hs
  split at hs
  ·rename_i fn s
   obtain ⟨hl, hK⟩ := hs
   obtain ⟨u, v, rfl, hu, hv⟩ := args2 ha
   cases hu.dstr; cases hv.dstr
   obtain ⟨ev, h1, h2⟩ := hg.errSyntax
   refine CallsIn.mono (callsIn_wide.2 (Tryz.strconv_syntaxError _ _ ev w (show s.toArray.size ≤ _ by simp; omega) (glob_cell hS (by have := hg.big; omega) h1) h2)) fun en w' ⟨N, h3, _, _, h4⟩ => ?_
   subst h3
   exact ⟨.ret .undef, σ, e, hK, ⟨_, rfl, .undef _⟩, hS.grow (Grows.of_below h4), ((Grows.of_below h4).stepped e σ).toLater⟩
  ·exact hs.elim
theorem rangeError_ok (hg : GlobOK w0 nG) : PCalls (GG w0 nG) 341 spErr where
 enters := enters_of Tryz.func341 (by kernel_rfl) rfl
 calls := fun args σ K hs n e w vs hS ha => by
  unfold spErr at hs
  split at hs
  ·rename_i fn s
   obtain ⟨hl, hK⟩ := hs
   obtain ⟨u, v, rfl, hu, hv⟩ := args2 ha
   cases hu.dstr; cases hv.dstr
   obtain ⟨ev, h1, h2⟩ := hg.errRange
   refine CallsIn.mono (callsIn_wide.2 (Tryz.strconv_rangeError _ _ ev w (show s.toArray.size ≤ _ by simp; omega) (glob_cell hS (by have := hg.big; omega) h1) h2)) fun en w' ⟨N, h3, _, _, h4⟩ => ?_
   subst h3
   exact ⟨.ret .undef, σ, e, hK, ⟨_, rfl, .undef _⟩, hS.grow (Grows.of_below h4), ((Grows.of_below h4).stepped e σ).toLater⟩
  ·exact hs.elim
noncomputable def spToError : Spec := fun args σ K => match args, σ with
 | [.d (.str _), .d (.str s), .d (.int .i64 _), .d (.int .i64 _), .iface 346 (.d (.int .i64 c))], ⟨[], [], 0⟩ => ((c = 1 ∨ c = 2) ∧ s.length < 4294967281) ∧ K (.ret (.iface 348 .undef)) ⟨[], [], 0⟩
 | _, _ => False
theorem spToError_mono : SpecMono spToError := fun args σ K K' hK h => by
 unfold spToError at h ⊢; split at h <;> first | exact ⟨h.1, hK _ _ h.2⟩ | exact h.elim
noncomputable def tblTE : Tbl := [(340, spErr), (341, spErr)]
theorem toError_ok (hg : GlobOK w0 nG) : PCalls (GG w0 nG) 333 spToError := by
 refine pcalls tab_ok mixed (tbl := tblTE) ⟨⟨syntaxError_ok hg, spErr_mono⟩, ⟨rangeError_ok hg, spErr_mono⟩, trivial⟩ Tryz.func333 rfl (by kernel_rfl) (by kernel_rfl) ?_
 intro args σ K h
 unfold spToError at h
 split at h
 ·rename_i fn s b0 b1 c
  obtain ⟨⟨hc, hl⟩, h⟩ := h
  refine ⟨loopsOf [], 0, false, by simp, Nat.le_of_ble_eq_true rfl, ?_⟩
  rcases hc with rfl | rfl
  ·conv => whnf
   refine ⟨hl, ?_⟩
   conv => whnf
   exact h
  ·conv => whnf
   refine ⟨hl, ?_⟩
   conv => whnf
   exact h
 ·exact h.elim
noncomputable def spLower : Spec := fun args σ K => match args, σ with
 | [.d (.int .u8 c)], ⟨[], [], 0⟩ => K (.ret (.d (.int .u8 (bitsOf .or .u8 c 32)))) ⟨[], [], 0⟩
 | _, _ => False
theorem spLower_mono : SpecMono spLower := fun args σ K K' hK h => by
 unfold spLower at h ⊢; split at h <;> first | exact hK _ _ h | exact h.elim
theorem lower_ok : PCalls (GG w0 nG) 338 spLower := by
 refine pcalls tab_ok mixed (tbl := []) trivial Tryz.func338 rfl (by kernel_rfl) (by kernel_rfl) ?_
 intro args σ K h
 unfold spLower at h
 split at h
 ·refine ⟨loopsOf [], 0, false, by simp, Nat.le_of_ble_eq_true rfl, ?_⟩
  conv => whnf
  exact h
 ·exact h.elim
theorem lowV : ∀ n : Fin 256, digB true (UInt8.ofNat n.val) = true → ¬ (48 ≤ n.val ∧ n.val ≤ 57) → bitsOf .or .u8 (n.val : Int) 32 = digV (UInt8.ofNat n.val) + 87 ∧ 10 ≤ digV (UInt8.ofNat n.val) ∧ digV (UInt8.ofNat n.val) ≤ 15 := by rw [bitsOf_eq]; decide +kernel
theorem low_digit {b : UInt8} (h : digB true b = true) (hn : ¬ (48 ≤ b.toNat ∧ b.toNat ≤ 57)) : bitsOf .or .u8 (b.toNat : Int) 32 = digV b + 87 ∧ 10 ≤ digV b ∧ digV b ≤ 15 := by
 have := lowV ⟨b.toNat, b.toNat_lt⟩
 simp only [UInt8.ofNat_toNat] at this
 exact this h hn
theorem numV_snoc (B : Nat) (l : Bs) (b : UInt8) : numV B (l ++ [b]) = numV B l * B + digV b := by simp [numV, List.foldl_append]
theorem take_snoc {l : Bs} {i : Nat} (h : i < l.length) : l.take (i + 1) = l.take i ++ [l.getD i 0] := by
 rw [List.take_succ, List.getElem?_eq_getElem h]; simp [List.getD, h]
theorem foldl_ge (B : Nat) (hB : 1 ≤ B) : ∀ (l : Bs) (n : Nat), n ≤ l.foldl (fun n b => n * B + digV b) n
 | [], n => Nat.le_refl _
 | b :: l, n => by
  have := foldl_ge B hB l (n * B + digV b)
  have h2 : n ≤ n * B := Nat.le_mul_of_pos_right n hB
  simp only [List.foldl_cons]; omega
theorem numV_take_le (B : Nat) (hB : 1 ≤ B) (l : Bs) (i : Nat) : numV B (l.take i) ≤ numV B l := by
 conv => rhs; rw [← List.take_append_drop i l]
 unfold numV
 rw [List.foldl_append]
 exact foldl_ge B hB _ _
noncomputable def spPU : Spec := fun args σ K => match args, σ with
 | [.d (.str l), .d (.int .i64 base), .d (.int .i64 bits)], ⟨[], [], 0⟩ => ∃ hex : Bool, ((l.all (digB hex) = true ∧ l.length < 4294967281) ∧ base = (if hex then 16 else 10) ∧ bits = (if hex then 64 else 63)) ∧
   (l = [] → K (.ret (.tuple [.d (.int .u64 0), .iface 346 (.d (.int .i64 2))])) ⟨[], [], 0⟩) ∧
   (l ≠ [] → (if hex then 18446744073709551616 else 9223372036854775808) ≤ numV (if hex then 16 else 10) l → K (.ret (.tuple [.d (.int .u64 (if hex then 18446744073709551615 else 9223372036854775807)), .iface 346 (.d (.int .i64 1))])) ⟨[], [], 0⟩) ∧
   (l ≠ [] → ¬ (if hex then 18446744073709551616 else 9223372036854775808) ≤ numV (if hex then 16 else 10) l → K (.ret (.tuple [.d (.int .u64 (numV (if hex then 16 else 10) l)), .d .nili])) ⟨[], [], 0⟩)
 | _, _ => False
theorem spPU_mono : SpecMono spPU := fun args σ K K' hK h => by
 unfold spPU at h ⊢
 split at h
 ·obtain ⟨x, h1, h2, h3, h4⟩ := h; exact ⟨x, h1, fun g => hK _ _ (h2 g), fun g g' => hK _ _ (h3 g g'), fun g g' => hK _ _ (h4 g g')⟩
 ·exact h.elim
noncomputable def tblPU : Tbl := [(338, spLower)]
theorem pu_ok : PCalls (GG w0 nG) 332 spPU := by
 refine pcalls tab_ok mixed (tbl := tblPU) ⟨⟨lower_ok, spLower_mono⟩, trivial⟩ Tryz.func332 rfl (by kernel_rfl) (by kernel_rfl) ?_
 intro args σ K h
 unfold spPU at h
 split at h
 ·rename_i l base bits
  obtain ⟨hex, ⟨⟨hall, hl⟩, rfl, rfl⟩, hnil, hover, hgood⟩ := h
  have hml : ((l.map fun b => [D.int .u8 (b.toNat : Int)] : List (List D))).length = l.length := by simp
  cases hex with
  | true =>
   simp only [if_true, Bool.false_eq_true, if_false] at hover hgood ⊢
   refine ⟨loopsOf [(36, ⟨[101, 13, 12], [0, 1, 8, 10, 11, 99, 100], fun vs σ => σ = ⟨[], [], 0⟩ ∧ ∃ i : Nat, vs = [.d (.int .i64 i), .d (.int .u64 (numV 16 (l.take i))), .d (.bool false)] ∧ i ≤ l.length ∧ numV 16 (l.take i) < 18446744073709551616, muI l.length⟩)], 0, false, by simp, Nat.le_of_ble_eq_true rfl, ?_⟩
   conv => whnf
   refine CondP.dec (fun h0 => ?_) (fun h0 => ?_)
   ·conv => whnf
    exact hnil h0
   ·have hne : l ≠ [] := h0
    have hov := hover hne
    have hgd := hgood hne
    conv => whnf
    refine Or.inl ⟨InR.u64 (by omega) (by omega), ?_⟩
    conv => whnf
    refine ⟨by decide, Or.inr ?_⟩
    rw [show IntKind.u64.wrap (1 * 2 ^ min (Int.toNat 64) IntKind.u64.bits) = 0 from by decide]
    conv => whnf
    refine Or.inr ?_
    rw [show IntKind.u64.wrap (0 - 1) = 18446744073709551615 from by decide]
    conv => whnf
    refine ⟨⟨rfl, 0, rfl, by omega, by simp [numV]⟩, ?_⟩
    intro vs σ1 hI
    obtain ⟨rfl, i, rfl, hi, hN⟩ := hI
    have hle := numV_take_le 16 (by omega) l
    have hstep := fun h : i < l.length => numV_snoc 16 (l.take i) (l.getD i 0)
    generalize hNN : numV 16 (l.take i) = N at hN hstep ⊢
    conv => whnf
    refine CondP.dec (fun h2 => ?_) (fun h2 => ?_)
    ·have h2' : i < l.length := by simpa using h2
     have hrow : (l.map fun b => [D.int .u8 (b.toNat : Int)])[((i : Int)).toNat]? = some [D.int .u8 ((l.getD i 0).toNat : Int)] := by
      rw [Int.toNat_natCast, List.getElem?_map, List.getElem?_eq_getElem h2']; simp [List.getD, h2']
     have hd : digB true (l.getD i 0) = true := List.all_eq_true.1 hall _ (by rw [List.getD_eq_getElem?_getD, List.getElem?_eq_getElem h2']; exact List.getElem_mem h2')
     have hs := hstep h2'
     rw [← take_snoc h2'] at hs
     have hl1 := hle (i + 1)
     have hb := (l.getD i 0).toNat_lt
     generalize hbb : l.getD i 0 = b at hrow hd hs hb
     conv => whnf
     refine ⟨_, by omega, hrow, ?_⟩
     conv => whnf
     refine CondP.dec (fun h3 => ?_) (fun h3 => ?_)
     ·have h3' : b.toNat = 95 := by omega
      simp [digB, isDigit, h3'] at hd
     ·conv => whnf
      refine CondP.dec (fun h4 => ?_) (fun h4 => ?_)
      ·conv => whnf
       refine CondP.dec (fun h5 => ?_) (fun h5 => ?_)
       ·conv => whnf
        refine Or.inl ⟨InR.u8 (by omega) (by omega), ?_⟩
        have hD : (digV b : Int) = (b.toNat : Int) - 48 := by unfold digV; rw [if_pos (by omega)]; omega
        conv => whnf
        refine Or.inl ⟨InR.u8 (by omega) (by omega), ?_⟩
        conv => whnf
        refine CondP.dec (fun h6 => ?_) (fun h6 => ?_)
        ·omega
        ·conv => whnf
         refine CondP.dec (fun h7 => ?_) (fun h7 => ?_)
         ·conv => whnf
          exact hov (by omega)
         ·conv => whnf
          refine Or.inl ⟨InR.u64 (by omega) (by omega), ?_⟩
          conv => whnf
          refine Or.inl ⟨InR.u64 (by omega) (by omega), ?_⟩
          conv => whnf
          refine Or.inl ⟨InR.u64 (by omega) (by omega), ?_⟩
          conv => whnf
          by_cases hbig : (N : Int) * 16 + ((b.toNat : Int) - 48) ≤ 18446744073709551615
          ·refine Or.inl ⟨InR.u64 (by omega) (by omega), ?_⟩
           conv => whnf
           refine CondP.dec (fun h8 => ?_) (fun h8 => ?_)
           ·omega
           ·conv => whnf
            refine CondP.dec (fun h9 => ?_) (fun h9 => ?_)
            ·conv => whnf
             exact hov (by omega)
            ·conv => whnf
             refine Or.inl ⟨InR.i64 (by omega) (by omega), ?_⟩
             conv => whnf
             refine ⟨⟨rfl, i + 1, ?_, by omega, by omega⟩, ?_⟩
             ·have e : ((numV 16 (l.take (i + 1)) : Nat) : Int) = (N : Int) * 16 + ((b.toNat : Int) - 48) := by omega
              rw [e]; rfl
             ·exact (show ((l.length : Int) - ((i : Int) + 1)).toNat < ((l.length : Int) - (i : Int)).toNat by omega)
          ·have hw : IntKind.u64.wrap ((N : Int) * 16 + ((b.toNat : Int) - 48)) = (N : Int) * 16 + ((b.toNat : Int) - 48) - 18446744073709551616 := by
            simp only [IntKind.wrap, show IntKind.u64.bits = 64 from rfl, show IntKind.u64.signed = false from rfl, Bool.false_and, Bool.false_eq_true, if_false]
            omega
           refine Or.inr ?_
           conv => whnf
           refine CondP.dec (fun h8 => ?_) (fun h8 => ?_)
           ·conv => whnf
            exact hov (by omega)
           ·exfalso; exact h8 (by rw [hw]; omega)
       ·skip
        have hlow := low_digit hd (by omega)
        conv => whnf
        refine CondP.dec (fun g1 => ?_) (fun g1 => ?_)
        ·conv => whnf
         refine CondP.dec (fun g2 => ?_) (fun g2 => ?_)
         ·conv => whnf
          refine Or.inl ⟨InR.u8 (by omega) (by omega), ?_⟩
          conv => whnf
          refine Or.inl ⟨InR.u8 (by omega) (by omega), ?_⟩
          have hD : (digV b : Int) = bitsOf .or .u8 (b.toNat : Int) 32 - 97 + 10 := by omega
          conv => whnf
          refine Or.inl ⟨InR.u8 (by omega) (by omega), ?_⟩
          conv => whnf
          refine CondP.dec (fun h6 => ?_) (fun h6 => ?_)
          ·omega
          ·conv => whnf
           refine CondP.dec (fun h7 => ?_) (fun h7 => ?_)
           ·conv => whnf
            exact hov (by omega)
           ·conv => whnf
            refine Or.inl ⟨InR.u64 (by omega) (by omega), ?_⟩
            conv => whnf
            refine Or.inl ⟨InR.u64 (by omega) (by omega), ?_⟩
            conv => whnf
            refine Or.inl ⟨InR.u64 (by omega) (by omega), ?_⟩
            conv => whnf
            by_cases hbig : (N : Int) * 16 + (bitsOf .or .u8 (b.toNat : Int) 32 - 97 + 10) ≤ 18446744073709551615
            ·refine Or.inl ⟨InR.u64 (by omega) (by omega), ?_⟩
             conv => whnf
             refine CondP.dec (fun h8 => ?_) (fun h8 => ?_)
             ·omega
             ·conv => whnf
              refine CondP.dec (fun h9 => ?_) (fun h9 => ?_)
              ·conv => whnf
               exact hov (by omega)
              ·conv => whnf
               refine Or.inl ⟨InR.i64 (by omega) (by omega), ?_⟩
               conv => whnf
               refine ⟨⟨rfl, i + 1, ?_, by omega, by omega⟩, ?_⟩
               ·have e : ((numV 16 (l.take (i + 1)) : Nat) : Int) = (N : Int) * 16 + (bitsOf .or .u8 (b.toNat : Int) 32 - 97 + 10) := by omega
                rw [e]; rfl
               ·exact (show ((l.length : Int) - ((i : Int) + 1)).toNat < ((l.length : Int) - (i : Int)).toNat by omega)
            ·have hw : IntKind.u64.wrap ((N : Int) * 16 + (bitsOf .or .u8 (b.toNat : Int) 32 - 97 + 10)) = (N : Int) * 16 + (bitsOf .or .u8 (b.toNat : Int) 32 - 97 + 10) - 18446744073709551616 := by
              simp only [IntKind.wrap, show IntKind.u64.bits = 64 from rfl, show IntKind.u64.signed = false from rfl, Bool.false_and, Bool.false_eq_true, if_false]
              omega
             refine Or.inr ?_
             conv => whnf
             refine CondP.dec (fun h8 => ?_) (fun h8 => ?_)
             ·conv => whnf
              exact hov (by omega)
             ·exfalso; exact h8 (by rw [hw]; omega)
         ·omega
        ·omega
      ·skip
       have hlow := low_digit hd (by omega)
       conv => whnf
       refine CondP.dec (fun g1 => ?_) (fun g1 => ?_)
       ·conv => whnf
        refine CondP.dec (fun g2 => ?_) (fun g2 => ?_)
        ·conv => whnf
         refine Or.inl ⟨InR.u8 (by omega) (by omega), ?_⟩
         conv => whnf
         refine Or.inl ⟨InR.u8 (by omega) (by omega), ?_⟩
         have hD : (digV b : Int) = bitsOf .or .u8 (b.toNat : Int) 32 - 97 + 10 := by omega
         conv => whnf
         refine Or.inl ⟨InR.u8 (by omega) (by omega), ?_⟩
         conv => whnf
         refine CondP.dec (fun h6 => ?_) (fun h6 => ?_)
         ·omega
         ·conv => whnf
          refine CondP.dec (fun h7 => ?_) (fun h7 => ?_)
          ·conv => whnf
           exact hov (by omega)
          ·conv => whnf
           refine Or.inl ⟨InR.u64 (by omega) (by omega), ?_⟩
           conv => whnf
           refine Or.inl ⟨InR.u64 (by omega) (by omega), ?_⟩
           conv => whnf
           refine Or.inl ⟨InR.u64 (by omega) (by omega), ?_⟩
           conv => whnf
           by_cases hbig : (N : Int) * 16 + (bitsOf .or .u8 (b.toNat : Int) 32 - 97 + 10) ≤ 18446744073709551615
           ·refine Or.inl ⟨InR.u64 (by omega) (by omega), ?_⟩
            conv => whnf
            refine CondP.dec (fun h8 => ?_) (fun h8 => ?_)
            ·omega
            ·conv => whnf
             refine CondP.dec (fun h9 => ?_) (fun h9 => ?_)
             ·conv => whnf
              exact hov (by omega)
             ·conv => whnf
              refine Or.inl ⟨InR.i64 (by omega) (by omega), ?_⟩
              conv => whnf
              refine ⟨⟨rfl, i + 1, ?_, by omega, by omega⟩, ?_⟩
              ·have e : ((numV 16 (l.take (i + 1)) : Nat) : Int) = (N : Int) * 16 + (bitsOf .or .u8 (b.toNat : Int) 32 - 97 + 10) := by omega
               rw [e]; rfl
              ·exact (show ((l.length : Int) - ((i : Int) + 1)).toNat < ((l.length : Int) - (i : Int)).toNat by omega)
           ·have hw : IntKind.u64.wrap ((N : Int) * 16 + (bitsOf .or .u8 (b.toNat : Int) 32 - 97 + 10)) = (N : Int) * 16 + (bitsOf .or .u8 (b.toNat : Int) 32 - 97 + 10) - 18446744073709551616 := by
             simp only [IntKind.wrap, show IntKind.u64.bits = 64 from rfl, show IntKind.u64.signed = false from rfl, Bool.false_and, Bool.false_eq_true, if_false]
             omega
            refine Or.inr ?_
            conv => whnf
            refine CondP.dec (fun h8 => ?_) (fun h8 => ?_)
            ·conv => whnf
             exact hov (by omega)
            ·exfalso; exact h8 (by rw [hw]; omega)
        ·omega
       ·omega
    ·have h2' : ¬ i < l.length := fun g => h2 (by simpa using g)
     have hil : i = l.length := by omega
     rw [hil, List.take_length] at hNN
     conv => whnf
     rw [hNN] at hgd
     exact hgd (by omega)
  | false =>
   simp only [if_true, Bool.false_eq_true, if_false] at hover hgood ⊢
   refine ⟨loopsOf [(36, ⟨[101, 13, 12], [0, 1, 8, 10, 11, 99, 100], fun vs σ => σ = ⟨[], [], 0⟩ ∧ ∃ i : Nat, vs = [.d (.int .i64 i), .d (.int .u64 (numV 10 (l.take i))), .d (.bool false)] ∧ i ≤ l.length ∧ numV 10 (l.take i) < 9223372036854775808, muI l.length⟩)], 0, false, by simp, Nat.le_of_ble_eq_true rfl, ?_⟩
   conv => whnf
   refine CondP.dec (fun h0 => ?_) (fun h0 => ?_)
   ·conv => whnf
    exact hnil h0
   ·have hne : l ≠ [] := h0
    have hov := hover hne
    have hgd := hgood hne
    conv => whnf
    refine Or.inl ⟨InR.u64 (by omega) (by omega), ?_⟩
    conv => whnf
    refine ⟨by decide, Or.inr ?_⟩
    rw [show IntKind.u64.wrap (1 * 2 ^ min (Int.toNat 63) IntKind.u64.bits) = 9223372036854775808 from by decide]
    conv => whnf
    refine Or.inr ?_
    rw [show IntKind.u64.wrap (9223372036854775808 - 1) = 9223372036854775807 from by decide]
    conv => whnf
    refine ⟨⟨rfl, 0, rfl, by omega, by simp [numV]⟩, ?_⟩
    intro vs σ1 hI
    obtain ⟨rfl, i, rfl, hi, hN⟩ := hI
    have hle := numV_take_le 10 (by omega) l
    have hstep := fun h : i < l.length => numV_snoc 10 (l.take i) (l.getD i 0)
    generalize hNN : numV 10 (l.take i) = N at hN hstep ⊢
    conv => whnf
    refine CondP.dec (fun h2 => ?_) (fun h2 => ?_)
    ·have h2' : i < l.length := by simpa using h2
     have hrow : (l.map fun b => [D.int .u8 (b.toNat : Int)])[((i : Int)).toNat]? = some [D.int .u8 ((l.getD i 0).toNat : Int)] := by
      rw [Int.toNat_natCast, List.getElem?_map, List.getElem?_eq_getElem h2']; simp [List.getD, h2']
     have hd : digB false (l.getD i 0) = true := List.all_eq_true.1 hall _ (by rw [List.getD_eq_getElem?_getD, List.getElem?_eq_getElem h2']; exact List.getElem_mem h2')
     have hs := hstep h2'
     rw [← take_snoc h2'] at hs
     have hl1 := hle (i + 1)
     have hb := (l.getD i 0).toNat_lt
     generalize hbb : l.getD i 0 = b at hrow hd hs hb
     conv => whnf
     refine ⟨_, by omega, hrow, ?_⟩
     conv => whnf
     refine CondP.dec (fun h3 => ?_) (fun h3 => ?_)
     ·have h3' : b.toNat = 95 := by omega
      simp [digB, isDigit, h3'] at hd
     ·conv => whnf
      have hd' : 48 ≤ b.toNat ∧ b.toNat ≤ 57 := by
       simp only [digB, Bool.false_and, Bool.or_false, isDigit, decide_eq_true_eq] at hd; omega
      refine CondP.dec (fun h4 => ?_) (fun h4 => ?_)
      ·conv => whnf
       refine CondP.dec (fun h5 => ?_) (fun h5 => ?_)
       ·conv => whnf
        refine Or.inl ⟨InR.u8 (by omega) (by omega), ?_⟩
        have hD : (digV b : Int) = (b.toNat : Int) - 48 := by unfold digV; rw [if_pos (by omega)]; omega
        conv => whnf
        refine Or.inl ⟨InR.u8 (by omega) (by omega), ?_⟩
        conv => whnf
        refine CondP.dec (fun h6 => ?_) (fun h6 => ?_)
        ·omega
        ·conv => whnf
         refine CondP.dec (fun h7 => ?_) (fun h7 => ?_)
         ·conv => whnf
          exact hov (by omega)
         ·conv => whnf
          refine Or.inl ⟨InR.u64 (by omega) (by omega), ?_⟩
          conv => whnf
          refine Or.inl ⟨InR.u64 (by omega) (by omega), ?_⟩
          conv => whnf
          refine Or.inl ⟨InR.u64 (by omega) (by omega), ?_⟩
          conv => whnf
          by_cases hbig : (N : Int) * 10 + ((b.toNat : Int) - 48) ≤ 18446744073709551615
          ·refine Or.inl ⟨InR.u64 (by omega) (by omega), ?_⟩
           conv => whnf
           refine CondP.dec (fun h8 => ?_) (fun h8 => ?_)
           ·omega
           ·conv => whnf
            refine CondP.dec (fun h9 => ?_) (fun h9 => ?_)
            ·conv => whnf
             exact hov (by omega)
            ·conv => whnf
             refine Or.inl ⟨InR.i64 (by omega) (by omega), ?_⟩
             conv => whnf
             refine ⟨⟨rfl, i + 1, ?_, by omega, by omega⟩, ?_⟩
             ·have e : ((numV 10 (l.take (i + 1)) : Nat) : Int) = (N : Int) * 10 + ((b.toNat : Int) - 48) := by omega
              rw [e]; rfl
             ·exact (show ((l.length : Int) - ((i : Int) + 1)).toNat < ((l.length : Int) - (i : Int)).toNat by omega)
          ·have hw : IntKind.u64.wrap ((N : Int) * 10 + ((b.toNat : Int) - 48)) = (N : Int) * 10 + ((b.toNat : Int) - 48) - 18446744073709551616 := by
            simp only [IntKind.wrap, show IntKind.u64.bits = 64 from rfl, show IntKind.u64.signed = false from rfl, Bool.false_and, Bool.false_eq_true, if_false]
            omega
           refine Or.inr ?_
           conv => whnf
           refine CondP.dec (fun h8 => ?_) (fun h8 => ?_)
           ·conv => whnf
            exact hov (by omega)
           ·exfalso; exact h8 (by rw [hw]; omega)
       ·omega
      ·omega
    ·have h2' : ¬ i < l.length := fun g => h2 (by simpa using g)
     have hil : i = l.length := by omega
     rw [hil, List.take_length] at hNN
     conv => whnf
     rw [hNN] at hgd
     exact hgd (by omega)
 ·exact h.elim
end Go.PM.Lex
end

section
set_option maxRecDepth 100000
set_option maxHeartbeats 4000000
namespace Go.PM.Lex
open Go.Proofs
variable {w0 : World} {nG : Nat}
theorem b_or128 : ∀ n : Fin 64, bitsOf .or .u8 128 (n.val : Int) = 128 + n.val := by rw [bitsOf_eq]; decide +kernel
theorem b_or192 : ∀ n : Fin 32, bitsOf .or .u8 192 (n.val : Int) = 192 + n.val := by rw [bitsOf_eq]; decide +kernel
theorem b_or224 : ∀ n : Fin 16, bitsOf .or .u8 224 (n.val : Int) = 224 + n.val := by rw [bitsOf_eq]; decide +kernel
theorem b_or240 : ∀ n : Fin 8, bitsOf .or .u8 240 (n.val : Int) = 240 + n.val := by rw [bitsOf_eq]; decide +kernel
theorem b_and63 : ∀ n : Fin 256, bitsOf .and .u8 (n.val : Int) 63 = n.val % 64 := by rw [bitsOf_eq]; decide +kernel
theorem o128 {x : Int} (h0 : 0 ≤ x) (h1 : x < 64) : bitsOf .or .u8 128 x = 128 + x := by obtain ⟨n, rfl⟩ : ∃ n : Nat, x = n := ⟨x.toNat, by omega⟩; exact b_or128 ⟨n, by omega⟩
theorem o192 {x : Int} (h0 : 0 ≤ x) (h1 : x < 32) : bitsOf .or .u8 192 x = 192 + x := by obtain ⟨n, rfl⟩ : ∃ n : Nat, x = n := ⟨x.toNat, by omega⟩; exact b_or192 ⟨n, by omega⟩
theorem o224 {x : Int} (h0 : 0 ≤ x) (h1 : x < 16) : bitsOf .or .u8 224 x = 224 + x := by obtain ⟨n, rfl⟩ : ∃ n : Nat, x = n := ⟨x.toNat, by omega⟩; exact b_or224 ⟨n, by omega⟩
theorem o240 {x : Int} (h0 : 0 ≤ x) (h1 : x < 8) : bitsOf .or .u8 240 x = 240 + x := by obtain ⟨n, rfl⟩ : ∃ n : Nat, x = n := ⟨x.toNat, by omega⟩; exact b_or240 ⟨n, by omega⟩
theorem a63 {x : Int} (h0 : 0 ≤ x) (h1 : x < 256) : bitsOf .and .u8 x 63 = x % 64 := by obtain ⟨n, rfl⟩ : ∃ n : Nat, x = n := ⟨x.toNat, by omega⟩; rw [b_and63 ⟨n, by omega⟩]
theorem wu8 (n : Int) : IntKind.u8.wrap n = n % 256 := by simp [IntKind.wrap, IntKind.bits, IntKind.signed]
theorem bytesR_enc (c : Int) : bytesR (Lib.encodeRune c) = (Lib.encodeRuneZ c).map fun x => [D.int .u8 x] := by
 have h := Lib.encodeRuneZ_byte c
 unfold Lib.encodeRune bytesR
 rw [List.map_map]
 refine List.map_congr_left fun x hx => ?_
 have := h x hx
 simp [UInt8.toNat_ofNat']
 omega
noncomputable def spAppendRune : Spec := fun args σ K => match args, σ with
 | [.sl 0 e rows, .d (.int .i32 c)], ⟨[], [0], 1⟩ => (e = 5 ∧ (∀ r ∈ rows, r.length = 1) ∧ rows.length < 70368744177664 ∧ 0 ≤ c ∧ c ≤ 1114111) ∧ K (.ret (.sl 0 5 (rows ++ bytesR (Lib.encodeRune c)))) ⟨[], [0], 1⟩
 | _, _ => False
theorem spAppendRune_mono : SpecMono spAppendRune := fun args σ K K' hK h => by
 unfold spAppendRune at h ⊢; split at h <;> first | exact ⟨h.1, hK _ _ h.2⟩ | exact h.elim
noncomputable def spAppendRune2 : Spec := fun args σ K => match args, σ with
 | [.sl 0 e rows, .d (.int .i32 c)], ⟨[], [0], 1⟩ => (e = 5 ∧ (∀ r ∈ rows, r.length = 1) ∧ rows.length < 70368744177664 ∧ 128 ≤ c ∧ c ≤ 1114111) ∧ K (.ret (.sl 0 5 (rows ++ bytesR (Lib.encodeRune c)))) ⟨[], [0], 1⟩
 | _, _ => False
theorem spAppendRune2_mono : SpecMono spAppendRune2 := fun args σ K K' hK h => by
 unfold spAppendRune2 at h ⊢; split at h <;> first | exact ⟨h.1, hK _ _ h.2⟩ | exact h.elim
theorem appendRune2_ok : PCalls (GG w0 nG) 298 spAppendRune2 := by
 refine pcalls tab_ok mixed (tbl := []) trivial Tryz.func298 rfl (by kernel_rfl) (by kernel_rfl) ?_
 intro args σ K h
 unfold spAppendRune2 at h
 split at h
 ·rename_i e rows c
  obtain ⟨⟨rfl, hr1, hrl, hc0, hc1⟩, h⟩ := h
  refine ⟨loopsOf [], 0, true, by simp, Nat.le_of_ble_eq_true rfl, ?_⟩
  have e6 : c.fdiv (2 ^ min (Int.toNat 6) IntKind.i32.bits) = c / 64 := by rw [show (2 : Int) ^ min (Int.toNat 6) IntKind.i32.bits = 64 by decide]; exact Int.fdiv_eq_ediv_of_nonneg _ (by omega)
  have e12 : c.fdiv (2 ^ min (Int.toNat 12) IntKind.i32.bits) = c / 4096 := by rw [show (2 : Int) ^ min (Int.toNat 12) IntKind.i32.bits = 4096 by decide]; exact Int.fdiv_eq_ediv_of_nonneg _ (by omega)
  have e18 : c.fdiv (2 ^ min (Int.toNat 18) IntKind.i32.bits) = c / 262144 := by rw [show (2 : Int) ^ min (Int.toNat 18) IntKind.i32.bits = 262144 by decide]; exact Int.fdiv_eq_ediv_of_nonneg _ (by omega)
  conv => whnf
  refine Or.inl ⟨InR.u32 (by omega) (by omega), ?_⟩
  conv => whnf
  refine CondP.dec (fun h1 => ?_) (fun h1 => ?_)
  ·skip
   have g : K (.ret (.sl 0 5 (rows ++ [[D.int .u8 (bitsOf .or .u8 192 (IntKind.u8.wrap (c.fdiv (2 ^ min (Int.toNat 6) IntKind.i32.bits))))], [D.int .u8 (bitsOf .or .u8 128 (bitsOf .and .u8 (IntKind.u8.wrap (c)) 63))]]))) ⟨[], [0], 1⟩ := by
    have e : bytesR (Lib.encodeRune c) = [[D.int .u8 (bitsOf .or .u8 192 (IntKind.u8.wrap (c.fdiv (2 ^ min (Int.toNat 6) IntKind.i32.bits))))], [D.int .u8 (bitsOf .or .u8 128 (bitsOf .and .u8 (IntKind.u8.wrap (c)) 63))]] := by
     rw [bytesR_enc, Lib.encodeRuneZ_two hc0 (by omega)]
     simp only [e6, e12, e18, wu8, List.map_cons, List.map_nil]
     rw [o192 (by omega) (by omega), a63 (by omega) (by omega), o128 (by omega) (by omega), show c / 64 % 256 = c / 64 by omega, show c % 256 % 64 = c % 64 by omega]
     all_goals (try omega)
     (try (congr 1 <;> omega))
    rw [e] at h; exact h
   conv => whnf
   refine ⟨by decide, ?_⟩
   conv => whnf
   refine Or.inr ?_
   conv => whnf
   refine Or.inr ?_
   conv => whnf
   refine ⟨fun r hr => by (simp at hr; rcases hr with rfl | rfl <;> rfl), (show (rows.length + 2) * 1 ≤ 2 ^ 47 by omega), (show rows.length + 2 ≤ 2 ^ 47 by omega), ?_⟩
   conv => whnf
   exact g
  ·conv => whnf
   refine CondP.dec (fun h2 => ?_) (fun h2 => ?_)
   ·conv => whnf
    refine CondP.dec (fun h2' => ?_) (fun h2' => absurd h2 h2')
    have g : K (.ret (.sl 0 5 (rows ++ [[D.int .u8 (bitsOf .or .u8 224 (IntKind.u8.wrap (c.fdiv (2 ^ min (Int.toNat 12) IntKind.i32.bits))))], [D.int .u8 (bitsOf .or .u8 128 (bitsOf .and .u8 (IntKind.u8.wrap (c.fdiv (2 ^ min (Int.toNat 6) IntKind.i32.bits))) 63))], [D.int .u8 (bitsOf .or .u8 128 (bitsOf .and .u8 (IntKind.u8.wrap (c)) 63))]]))) ⟨[], [0], 1⟩ := by
     have e : bytesR (Lib.encodeRune c) = [[D.int .u8 (bitsOf .or .u8 224 (IntKind.u8.wrap (c.fdiv (2 ^ min (Int.toNat 12) IntKind.i32.bits))))], [D.int .u8 (bitsOf .or .u8 128 (bitsOf .and .u8 (IntKind.u8.wrap (c.fdiv (2 ^ min (Int.toNat 6) IntKind.i32.bits))) 63))], [D.int .u8 (bitsOf .or .u8 128 (bitsOf .and .u8 (IntKind.u8.wrap (c)) 63))]] := by
      rw [bytesR_enc, Lib.encodeRuneZ_three (by omega)]
      simp only [e6, e12, e18, wu8, List.map_cons, List.map_nil]
      rw [o224 (by omega) (by omega), a63 (by omega) (by omega), a63 (by omega) (by omega), o128 (by omega) (by omega), o128 (by omega) (by omega), show c / 4096 % 256 = c / 4096 by omega, show c / 64 % 256 % 64 = c / 64 % 64 by omega, show c % 256 % 64 = c % 64 by omega]
      all_goals (try omega)
      (try (congr 1 <;> omega))
     rw [e] at h; exact h
    conv => whnf
    refine ⟨by decide, ?_⟩
    conv => whnf
    refine Or.inr ?_
    conv => whnf
    refine ⟨by decide, ?_⟩
    conv => whnf
    refine Or.inr ?_
    conv => whnf
    refine Or.inr ?_
    conv => whnf
    refine ⟨fun r hr => by (simp at hr; rcases hr with rfl | rfl | rfl <;> rfl), (show (rows.length + 3) * 1 ≤ 2 ^ 47 by omega), (show rows.length + 3 ≤ 2 ^ 47 by omega), ?_⟩
    conv => whnf
    exact g
   ·conv => whnf
    refine CondP.dec (fun h3 => ?_) (fun h3 => ?_)
    ·conv => whnf
     refine CondP.dec (fun h4 => ?_) (fun h4 => ?_)
     ·skip
      have g : K (.ret (.sl 0 5 (rows ++ [[D.int .u8 (bitsOf .or .u8 224 (IntKind.u8.wrap (c.fdiv (2 ^ min (Int.toNat 12) IntKind.i32.bits))))], [D.int .u8 (bitsOf .or .u8 128 (bitsOf .and .u8 (IntKind.u8.wrap (c.fdiv (2 ^ min (Int.toNat 6) IntKind.i32.bits))) 63))], [D.int .u8 (bitsOf .or .u8 128 (bitsOf .and .u8 (IntKind.u8.wrap (c)) 63))]]))) ⟨[], [0], 1⟩ := by
       have e : bytesR (Lib.encodeRune c) = [[D.int .u8 (bitsOf .or .u8 224 (IntKind.u8.wrap (c.fdiv (2 ^ min (Int.toNat 12) IntKind.i32.bits))))], [D.int .u8 (bitsOf .or .u8 128 (bitsOf .and .u8 (IntKind.u8.wrap (c.fdiv (2 ^ min (Int.toNat 6) IntKind.i32.bits))) 63))], [D.int .u8 (bitsOf .or .u8 128 (bitsOf .and .u8 (IntKind.u8.wrap (c)) 63))]] := by
        rw [bytesR_enc, Lib.encodeRuneZ_three (by omega)]
        simp only [e6, e12, e18, wu8, List.map_cons, List.map_nil]
        rw [o224 (by omega) (by omega), a63 (by omega) (by omega), a63 (by omega) (by omega), o128 (by omega) (by omega), o128 (by omega) (by omega), show c / 4096 % 256 = c / 4096 by omega, show c / 64 % 256 % 64 = c / 64 % 64 by omega, show c % 256 % 64 = c % 64 by omega]
        all_goals (try omega)
        (try (congr 1 <;> omega))
       rw [e] at h; exact h
      conv => whnf
      refine ⟨by decide, ?_⟩
      conv => whnf
      refine Or.inr ?_
      conv => whnf
      refine ⟨by decide, ?_⟩
      conv => whnf
      refine Or.inr ?_
      conv => whnf
      refine Or.inr ?_
      conv => whnf
      refine ⟨fun r hr => by (simp at hr; rcases hr with rfl | rfl | rfl <;> rfl), (show (rows.length + 3) * 1 ≤ 2 ^ 47 by omega), (show rows.length + 3 ≤ 2 ^ 47 by omega), ?_⟩
      conv => whnf
      exact g
     ·conv => whnf
      refine CondP.dec (fun h5 => ?_) (fun h5 => ?_)
      ·conv => whnf
       refine CondP.dec (fun h6 => ?_) (fun h6 => ?_)
       ·skip
        have g : K (.ret (.sl 0 5 (rows ++ [[D.int .u8 (bitsOf .or .u8 240 (IntKind.u8.wrap (c.fdiv (2 ^ min (Int.toNat 18) IntKind.i32.bits))))], [D.int .u8 (bitsOf .or .u8 128 (bitsOf .and .u8 (IntKind.u8.wrap (c.fdiv (2 ^ min (Int.toNat 12) IntKind.i32.bits))) 63))], [D.int .u8 (bitsOf .or .u8 128 (bitsOf .and .u8 (IntKind.u8.wrap (c.fdiv (2 ^ min (Int.toNat 6) IntKind.i32.bits))) 63))], [D.int .u8 (bitsOf .or .u8 128 (bitsOf .and .u8 (IntKind.u8.wrap (c)) 63))]]))) ⟨[], [0], 1⟩ := by
         have e : bytesR (Lib.encodeRune c) = [[D.int .u8 (bitsOf .or .u8 240 (IntKind.u8.wrap (c.fdiv (2 ^ min (Int.toNat 18) IntKind.i32.bits))))], [D.int .u8 (bitsOf .or .u8 128 (bitsOf .and .u8 (IntKind.u8.wrap (c.fdiv (2 ^ min (Int.toNat 12) IntKind.i32.bits))) 63))], [D.int .u8 (bitsOf .or .u8 128 (bitsOf .and .u8 (IntKind.u8.wrap (c.fdiv (2 ^ min (Int.toNat 6) IntKind.i32.bits))) 63))], [D.int .u8 (bitsOf .or .u8 128 (bitsOf .and .u8 (IntKind.u8.wrap (c)) 63))]] := by
          rw [bytesR_enc, Lib.encodeRuneZ_four (by omega) (by omega)]
          simp only [e6, e12, e18, wu8, List.map_cons, List.map_nil]
          rw [o240 (by omega) (by omega), a63 (by omega) (by omega), a63 (by omega) (by omega), a63 (by omega) (by omega), o128 (by omega) (by omega), o128 (by omega) (by omega), o128 (by omega) (by omega), show c / 262144 % 256 = c / 262144 by omega, show c / 4096 % 256 % 64 = c / 4096 % 64 by omega, show c / 64 % 256 % 64 = c / 64 % 64 by omega, show c % 256 % 64 = c % 64 by omega]
          all_goals (try omega)
          (try (congr 1 <;> omega))
         rw [e] at h; exact h
        conv => whnf
        refine ⟨by decide, ?_⟩
        conv => whnf
        refine Or.inr ?_
        conv => whnf
        refine ⟨by decide, ?_⟩
        conv => whnf
        refine Or.inr ?_
        conv => whnf
        refine ⟨by decide, ?_⟩
        conv => whnf
        refine Or.inr ?_
        conv => whnf
        refine Or.inr ?_
        conv => whnf
        refine ⟨fun r hr => by (simp at hr; rcases hr with rfl | rfl | rfl | rfl <;> rfl), (show (rows.length + 4) * 1 ≤ 2 ^ 47 by omega), (show rows.length + 4 ≤ 2 ^ 47 by omega), ?_⟩
        conv => whnf
        exact g
       ·omega
      ·omega
    ·conv => whnf
     refine CondP.dec (fun h5 => ?_) (fun h5 => ?_)
     ·omega
     ·skip
      have g : K (.ret (.sl 0 5 (rows ++ [[D.int .u8 (239)], [D.int .u8 (191)], [D.int .u8 (189)]]))) ⟨[], [0], 1⟩ := by
       have e : bytesR (Lib.encodeRune c) = [[D.int .u8 (239)], [D.int .u8 (191)], [D.int .u8 (189)]] := by
        rw [bytesR_enc, Lib.encodeRuneZ_bad (by omega)]
        rfl
       rw [e] at h; exact h
      conv => whnf
      refine ⟨fun r hr => by (simp at hr; rcases hr with rfl | rfl | rfl <;> rfl), (show (rows.length + 3) * 1 ≤ 2 ^ 47 by omega), (show rows.length + 3 ≤ 2 ^ 47 by omega), ?_⟩
      conv => whnf
      exact g
 ·exact h.elim
noncomputable def tblAR : Tbl := [(298, spAppendRune2)]
theorem appendRune_ok : PCalls (GG w0 nG) 257 spAppendRune := by
 refine pcalls tab_ok mixed (tbl := tblAR) ⟨⟨appendRune2_ok, spAppendRune2_mono⟩, trivial⟩ Tryz.func257 rfl (by kernel_rfl) (by kernel_rfl) ?_
 intro args σ K h
 unfold spAppendRune at h
 split at h
 ·rename_i e rows c
  obtain ⟨⟨rfl, hr1, hrl, hc0, hc1⟩, h⟩ := h
  refine ⟨loopsOf [], 0, true, by simp, Nat.le_of_ble_eq_true rfl, ?_⟩
  conv => whnf
  refine Or.inl ⟨InR.u32 (by omega) (by omega), ?_⟩
  conv => whnf
  refine CondP.dec (fun h1 => ?_) (fun h1 => ?_)
  ·have e : bytesR (Lib.encodeRune c) = [[D.int .u8 c]] := by rw [bytesR_enc, Lib.encodeRuneZ_one hc0 h1]; rfl
   rw [e] at h
   conv => whnf
   refine Or.inl ⟨InR.u8 (by omega) (by omega), ?_⟩
   conv => whnf
   refine ⟨fun r hr => by (simp at hr; rcases hr with rfl <;> rfl), (show (rows.length + 1) * 1 ≤ 2 ^ 47 by omega), (show rows.length + 1 ≤ 2 ^ 47 by omega), ?_⟩
   conv => whnf
   exact h
  ·conv => whnf
   refine ⟨⟨rfl, hr1, by omega, by omega, by omega⟩, ?_⟩
   conv => whnf
   exact h
 ·exact h.elim
noncomputable def tblWB : Tbl := [(252, spCopyCheck)]
theorem tblWB_ok : TblOK (GG w0 nG) tblWB := ⟨⟨copyCheck_ok, spCopyCheck_mono⟩, trivial⟩
theorem writeByte_ok : PCalls (GG w0 nG) 190 spWriteByte := by
 refine pcalls tab_ok mixed tblWB_ok Tryz.func190 rfl (by kernel_rfl) (by kernel_rfl) ?_
 intro args σ K h
 unfold spWriteByte at h
 split at h
 ·rename_i c t p e rows
  obtain ⟨⟨hp, rfl, rfl, hr1, hrl⟩, h⟩ := h
  refine ⟨loopsOf [], 1, true, by simp, Nat.le_of_ble_eq_true rfl, ?_⟩
  rcases hp with rfl | rfl
  ·conv => whnf
   refine ⟨⟨.inl rfl, rfl⟩, ?_⟩
   conv => whnf
   refine ⟨fun r hr => by (simp at hr; rcases hr with rfl <;> rfl), (show (rows.length + 1) * 1 ≤ 2 ^ 47 by omega), (show rows.length + 1 ≤ 2 ^ 47 by omega), ?_⟩
   conv => whnf
   exact h
  ·conv => whnf
   refine ⟨⟨.inr rfl, rfl⟩, ?_⟩
   conv => whnf
   refine ⟨fun r hr => by (simp at hr; rcases hr with rfl <;> rfl), (show (rows.length + 1) * 1 ≤ 2 ^ 47 by omega), (show rows.length + 1 ≤ 2 ^ 47 by omega), ?_⟩
   conv => whnf
   exact h
 ·exact h.elim
theorem enc4 (c : Int) : (Lib.encodeRune c).length ≤ 4 := by unfold Lib.encodeRune; rw [List.length_map]; exact (Lib.encodeRuneZ_length c).2
noncomputable def tblWR : Tbl := [(252, spCopyCheck), (257, spAppendRune)]
theorem tblWR_ok : TblOK (GG w0 nG) tblWR := ⟨⟨copyCheck_ok, spCopyCheck_mono⟩, ⟨appendRune_ok, spAppendRune_mono⟩, trivial⟩
theorem writeRune_ok : PCalls (GG w0 nG) 192 spWriteRune := by
 refine pcalls tab_ok mixed tblWR_ok Tryz.func192 rfl (by kernel_rfl) (by kernel_rfl) ?_
 intro args σ K h
 unfold spWriteRune at h
 split at h
 ·rename_i c t p e rows
  obtain ⟨⟨hp, rfl, rfl, hr1, hrl, hc0, hc1⟩, h⟩ := h
  refine ⟨loopsOf [], 1, true, by simp, Nat.le_of_ble_eq_true rfl, ?_⟩
  rcases hp with rfl | rfl
  ·conv => whnf
   refine ⟨⟨.inl rfl, rfl⟩, ?_⟩
   conv => whnf
   refine ⟨⟨rfl, hr1, hrl, hc0, hc1⟩, ?_⟩
   conv => whnf
   refine Or.inl ⟨InR.i64 (by rw [List.length_append, bytesR_len']; have := Lib.encodeRuneZ_length c; omega) (by rw [List.length_append, bytesR_len']; have := enc4 c; omega), ?_⟩
   conv => whnf
   exact h
  ·conv => whnf
   refine ⟨⟨.inr rfl, rfl⟩, ?_⟩
   conv => whnf
   refine ⟨⟨rfl, hr1, hrl, hc0, hc1⟩, ?_⟩
   conv => whnf
   refine Or.inl ⟨InR.i64 (by rw [List.length_append, bytesR_len']; omega) (by rw [List.length_append, bytesR_len']; have := enc4 c; omega), ?_⟩
   conv => whnf
   exact h
 ·exact h.elim
end Go.PM.Lex
end

section
set_option maxRecDepth 100000
set_option maxHeartbeats 4000000
namespace Go.PM.Lex
open Go.Proofs
variable {w0 : World} {nG : Nat}
noncomputable def spValidRune : Spec := fun args σ K => match args with
 | [.d (.int .i32 c)] => K (.ret (.d (.bool (Lib.validRune c)))) σ
 | _ => False
theorem spValidRune_mono : SpecMono spValidRune := fun args σ K K' hK h => by
 unfold spValidRune at h ⊢; split at h <;> first | exact hK _ _ h | exact h.elim
theorem enc_hi (c : Int) (h : 128 ≤ c) (h2 : c ≤ 1114111) : 2 ≤ (Utf8.encode c).data.toList.length ∧ (Utf8.encode c).data.toList.length ≤ 4 ∧ ∀ b ∈ (Utf8.encode c).data.toList, 128 ≤ b.toNat := by
 unfold Utf8.encode
 simp only
 generalize hn : (if Utf8.valid c then c.toNat else Utf8.runeError) = n
 have hn1 : 128 ≤ n ∧ n ≤ 1114111 := by
  rw [← hn]; split
  ·omega
  ·simp [Utf8.runeError]
 rw [if_neg (by omega)]
 split
 ·simp [UInt8.toNat_ofNat']; omega
 ·split
  ·simp [UInt8.toNat_ofNat']; omega
  ·simp [UInt8.toNat_ofNat']; omega
theorem index_low {l : Bs} {c : UInt8} (h : ∀ b ∈ l, b.toNat < 128) (hc : 128 ≤ c.toNat) : Lib.indexByte l c = -1 := by
 induction l with
 | nil => rfl
 | cons b l ih =>
  have h1 := ih (fun x hx => h x (List.mem_cons_of_mem _ hx))
  have h2 : (b == c) = false := by
   simp only [beq_eq_false_iff_ne]; intro e; subst e; have := h b (by simp); omega
  simp [Lib.indexByte, h1, h2]
theorem getD_low {s : Bs} (h : ∀ b ∈ s, b.toNat < 128) (i : Nat) : (s.getD i 0).toNat < 128 := by
 rw [List.getD_eq_getElem?_getD]
 by_cases hi : i < s.length
 ·rw [List.getElem?_eq_getElem hi]; exact h _ (List.getElem_mem hi)
 ·rw [List.getElem?_eq_none (by omega)]; decide
theorem getD_hi {s : Bs} (h : ∀ b ∈ s, 128 ≤ b.toNat) {i : Nat} (hi : i < s.length) : 128 ≤ (s.getD i 0).toNat := by
 rw [List.getD_eq_getElem?_getD, List.getElem?_eq_getElem hi]; exact h _ (List.getElem_mem hi)
theorem u8_of {n : Int} {k : Nat} (h : n = k) (hk : k < 256) : (n.toNat.toUInt8).toNat = k := by
 subst h; simp [UInt8.toNat_ofNat']; omega
noncomputable def tblIR : Tbl := [(253, spIndexByte), (254, spValidRune)]
theorem indexRune_ok (ht : TblOK (GG w0 nG) tblIR) : PCalls (GG w0 nG) 191 spIndexRune := by
 refine pcalls tab_ok mixed ht Tryz.func191 rfl (by kernel_rfl) (by kernel_rfl) ?_
 intro args σ K h
 unfold spIndexRune at h
 split at h
 ·rename_i s c
  obtain ⟨⟨hs, hc0, hc1⟩, h⟩ := h
  have hsl : s.length = 4 := by rcases hs with rfl | rfl <;> rfl
  have hsa : ∀ b ∈ s, b.toNat < 128 := by rcases hs with rfl | rfl <;> decide
  have hsd : ∀ p, p < 4 → (decodeL s p).1 < 128 ∧ (decodeL s p).2 = 1 := by
   intro p hp
   rcases hs with rfl | rfl
   all_goals (match p, hp with | 0, _ => exact ⟨by decide, by decide⟩ | 1, _ => exact ⟨by decide, by decide⟩ | 2, _ => exact ⟨by decide, by decide⟩ | 3, _ => exact ⟨by decide, by decide⟩)
  refine ⟨loopsOf [(38, ⟨[], [0, 175], fun vs σ => vs = [] ∧ ∃ p : Nat, p ≤ 4 ∧ σ = ⟨[.iter s p], [], 0⟩, fun _ σ => match σ.bx with | [.iter _ p] => 4 - p | _ => 0⟩),
    (5, ⟨[9], [0, 1, 7, 8], fun vs σ => σ = ⟨[], [], 0⟩ ∧ vs = [.d (.int .i64 (((Utf8.encode c).data.toList.length : Int) - 1))], fun _ _ => 0⟩)], 0, false, by simp, Nat.le_of_ble_eq_true rfl, ?_⟩
  have hneg : 128 ≤ c → K (.ret (.d (.int .i64 (-1)))) ⟨[], [], 0⟩ := fun g => by
   have : idxR s c = -1 := by unfold idxR; rw [if_neg (by omega)]
   rw [this] at h; exact h
  conv => whnf
  refine CondP.dec (fun h1 => ?_) (fun h1 => ?_)
  ·conv => whnf
   refine CondP.dec (fun h2 => ?_) (fun h2 => ?_)
   ·have e : idxR s c = Lib.indexByte s c.toNat.toUInt8 := by unfold idxR; rw [if_pos h2]
    rw [e] at h
    conv => whnf
    refine Or.inl ⟨InR.u8 (by omega) (by omega), ?_⟩
    conv => whnf
    exact h
   ·conv => whnf
    refine CondP.dec (fun h3 => ?_) (fun h3 => ?_)
    ·conv => whnf
     refine ⟨⟨rfl, 0, by omega, rfl⟩, ?_⟩
     intro vs σ1 hI
     obtain ⟨rfl, p, hp, rfl⟩ := hI
     conv => whnf
     refine CondP.dec (fun h4 => ?_) (fun h4 => ?_)
     ·have hd := hsd p (by omega)
      conv => whnf
      refine CondP.dec (fun h5 => ?_) (fun h5 => ?_)
      ·omega
      ·conv => whnf
       refine ⟨⟨rfl, p + 1, by omega, by rw [hd.2]; rfl⟩, ?_⟩
       exact (show 4 - (p + (decodeL s p).2) < 4 - p by omega)
     ·conv => whnf
      exact hneg (by omega)
    ·conv => whnf
     refine CondP.intro (fun h4 => ?_) (fun h4 => ?_)
     ·conv => whnf
      exact hneg (by omega)
     ·obtain ⟨e1, e2, e3⟩ := enc_hi c (by omega) hc1
      have hl := getD_hi e3 (i := (Utf8.encode c).data.toList.length - 1) (by omega)
      conv => whnf
      refine Or.inl ⟨InR.i64 (by omega) (by omega), ?_⟩
      conv => whnf
      refine ⟨⟨rfl, rfl⟩, ?_⟩
      intro vs σ1 hI
      obtain ⟨rfl, rfl⟩ := hI
      conv => whnf
      refine CondP.dec (fun h5 => ?_) (fun h5 => ?_)
      ·conv => whnf
       refine ⟨by omega, by omega, ?_⟩
       conv => whnf
       refine ⟨by omega, by omega, ?_⟩
       conv => whnf
       have hlo := getD_low hsa (((Utf8.encode c).data.toList.length : Int) - 1).toNat
       have hhi : 128 ≤ ((Utf8.encode c).data.toList.getD (((Utf8.encode c).data.toList.length : Int) - 1).toNat 0).toNat := getD_hi e3 (by omega)
       refine CondP.ndec (fun h6 => ?_) (fun h6 => ?_)
       ·conv => whnf
        refine Or.inl ⟨InR.i64 (by omega) (by omega), ?_⟩
        conv => whnf
        refine ⟨by omega, by omega, ?_⟩
        conv => whnf
        refine ⟨by omega, by omega, ?_⟩
        conv => whnf
        generalize hx : Lib.indexByte _ _ = x
        have : x = -1 := by
         rw [← hx]
         refine index_low (fun b hb => hsa b (List.mem_of_mem_take (List.mem_of_mem_drop hb))) ?_
         rw [u8_of rfl (UInt8.toNat_lt _)]
         exact hhi
        subst this
        conv => whnf
        exact hneg (by omega)
       ·omega
      ·omega
  ·omega
 ·exact h.elim
end Go.PM.Lex
end

section
set_option maxRecDepth 100000
set_option maxHeartbeats 4000000
namespace Go.PM.Lex
open Go.Proofs
variable {w0 : World} {nG : Nat}
theorem dec_rng (r : Bs) : (Lib.decodeL r).1 ≤ 1114111 ∧ 1 ≤ (Lib.decodeL r).2 ∧ (Lib.decodeL r).2 ≤ 4 := by
 rw [Lib.decodeL_N]
 have k0 := (r.getD 0 0).toNat_lt
 rcases Lib.decodeN_shape r.length (r.getD 0 0).toNat (r.getD 1 0).toNat (r.getD 2 0).toNat (r.getD 3 0).toNat with ⟨c, e⟩ | ⟨c1, c2, c3, cv, e⟩ | ⟨c1, c2, c3, c4, cv, cs, e⟩ | ⟨c1, c2, c3, c4, c5, cv, cw, e⟩ | e
 all_goals (rw [e]; dsimp only; omega)
theorem enc_len (c : Int) : (Lib.encodeRune c).length ≤ 4 := by
 unfold Lib.encodeRune Lib.encodeRuneZ
 rw [List.length_map]
 repeat' split
 all_goals simp
theorem byte_ne {n k : Nat} (h : n < 128) (hk : k < 128) (hne : n ≠ k) : (n : Int).toNat.toUInt8 ≠ UInt8.ofNat k := by
 intro h1
 have h2 := congrArg UInt8.toNat h1
 simp [UInt8.toNat_ofNat'] at h2
 omega
theorem esc_none {n : Nat} (h : escB n = none) : idxR [110, 116, 34, 92] n = -1 := by
 unfold escB at h
 split at h; · cases h
 split at h; · cases h
 split at h; · cases h
 split at h; · cases h
 rename_i h1 h2 h3 h4
 unfold idxR
 split
 ·rename_i h5
  have hc : ([110, 116, 34, 92] : Bs).contains ((n : Int).toNat.toUInt8) = false := by
   have b1 := byte_ne (n := n) (k := 110) (by omega) (by omega) h1
   have b2 := byte_ne (n := n) (k := 116) (by omega) (by omega) h2
   have b3 := byte_ne (n := n) (k := 34) (by omega) (by omega) h3
   have b4 := byte_ne (n := n) (k := 92) (by omega) (by omega) h4
   simp only [List.contains_cons, List.contains_nil, Bool.or_false, Bool.or_eq_false_iff, beq_eq_false_iff_ne]
   exact ⟨b1, b2, b3, b4⟩
  rw [Lib.contains_iff_indexByte, decide_eq_false_iff_not] at hc
  have := Lib.indexByte_ge [110, 116, 34, 92] ((n : Int).toNat.toUInt8)
  omega
 ·rfl
theorem esc_some {n : Nat} {b : UInt8} (h : escB n = some b) : (idxR [110, 116, 34, 92] n = 0 ∧ b = 10) ∨ (idxR [110, 116, 34, 92] n = 1 ∧ b = 9) ∨ (idxR [110, 116, 34, 92] n = 2 ∧ b = 34) ∨ (idxR [110, 116, 34, 92] n = 3 ∧ b = 92) := by
 unfold escB at h
 split at h; · cases h; rename_i h; subst h; exact .inl ⟨by decide, rfl⟩
 split at h; · cases h; rename_i h; subst h; exact .inr (.inl ⟨by decide, rfl⟩)
 split at h; · cases h; rename_i h; subst h; exact .inr (.inr (.inl ⟨by decide, rfl⟩))
 split at h; · cases h; rename_i h; subst h; exact .inr (.inr (.inr ⟨by decide, rfl⟩))
 cases h
theorem bytesR_snoc (l : Bs) (b : UInt8) : bytesR (l ++ [b]) = bytesR l ++ [[.int .u8 b.toNat]] := by simp [bytesR]
theorem bytesR_app (l m : Bs) : bytesR (l ++ m) = bytesR l ++ bytesR m := by simp [bytesR]
theorem bytesR_one (l : Bs) : ∀ r ∈ bytesR l, r.length = 1 := by
 intro r hr
 simp only [bytesR, List.mem_map] at hr
 obtain ⟨b, _, rfl⟩ := hr
 rfl
theorem bytesR_len (l : Bs) : (bytesR l).length = l.length := by simp [bytesR]
def muIt (B : Nat) : List PV → St → Nat := fun _ σ => match σ.bx with | [_, _, _, _, .iter _ p] => B - p | _ => 0
noncomputable def tblText : Tbl := [(191, spIndexRune), (190, spWriteByte), (248, spPeek), (192, spWriteRune), (52, spString)]
theorem text_ok (ht : TblOK (GG w0 nG) tblText) : PCalls (GG w0 nG) 291 spText := by
 refine pcalls tab_ok mixed ht Tryz.func291 rfl (by kernel_rfl) (by kernel_rfl) ?_
 intro args σ K h
 unfold spText at h
 split at h
 ·rename_i t s a
  obtain ⟨⟨h0, h1, hs⟩, h⟩ := h
  obtain ⟨a, rfl⟩ : ∃ n : Nat, a = n := ⟨a.toNat, by omega⟩
  simp only [Int.toNat_natCast] at h
  obtain ⟨u, hu⟩ : ∃ u, u = s.drop (a + 1) := ⟨_, rfl⟩
  have hul : u.length = s.length - (a + 1) := by rw [hu, List.length_drop]
  refine ⟨loopsOf [(4, ⟨[5], [0, 2, 3, 4, 22], fun vs σ => ∃ (esc : Bool) (l : Bs) (i f : Nat) (p : PV), vs = [.d (.bool esc)] ∧
   σ = ⟨[.cells t [.d (.str s), .d (.int .i64 a)], .cells 40 [.d (.int .u8 0), .d (.str []), .d (.int .i64 0), .d (.int .i64 0), .d (.int .i64 0)], .cells 222 [.d (.int .i64 0), .d (.int .i64 0)], .cells 108 [p, .sl 0 5 (bytesR l)], .iter u i], [0], 1⟩ ∧
   (p = .d .nilp ∨ p = .ptr 3 0) ∧ (i ≤ u.length ∧ u.length < i + f ∧ l.length ≤ 4 * i) ∧ textGo f (u.drop i) esc l (1 + i) = textF (s.drop a), muIt u.length⟩)], 1, false, by simp, Nat.le_of_ble_eq_true rfl, ?_⟩
  have hbad : ∀ n : Nat, textF (s.drop a) = .err n → K (.ret (.tuple [tokPV 0 [] 0 0 0, fltPV ((a + n : Nat) : Int) 141])) ⟨[.cells t [.d (.str s), .d (.int .i64 a)]], [], 0⟩ := fun n g => by
   have e1 : textR a (s.drop a) = .bad (a + n) 141 := by rw [textR, g]
   rw [e1] at h; exact h
  have hgood : ∀ (l : Bs) (n : Nat), textF (s.drop a) = .ok l n → K (.ret (.tuple [tokPV 3 l 0 a ((a + n : Nat) : Int), fltPV 0 0])) ⟨[.cells t [.d (.str s), .d (.int .i64 a)]], [], 0⟩ := fun l n g => by
   have e1 : textR a (s.drop a) = .tok ⟨3, l, 0, a, a + n⟩ := by rw [textR, g]
   rw [e1] at h; exact h
  have ha1 : ((a : Int) + 1).toNat = a + 1 := by omega
  conv => whnf
  refine Or.inl ⟨InR.i64 (by omega) (by omega), ?_⟩
  conv => whnf
  refine ⟨by omega, by omega, ?_⟩
  conv => whnf
  rw [cut_end, ha1, ← hu]
  refine ⟨⟨false, [], 0, (s.drop a).length + 1, .d .nilp, rfl, rfl, .inl rfl, ⟨by omega, by rw [List.length_drop]; omega, by simp⟩, ?_⟩, ?_⟩
  ·rw [textF, List.drop_drop, ← hu]; rfl
  intro vs σ1 hI
  obtain ⟨esc, l, i, f, p, rfl, rfl, hp, ⟨hi1, hi2, hl4⟩, hgo⟩ := hI
  obtain ⟨f, rfl⟩ : ∃ g, f = g + 1 := ⟨f - 1, by omega⟩
  have hb1 := bytesR_one l
  have hbl := bytesR_len l
  have hdec := dec_eq u i
  have hdr := dec_rng (u.drop i)
  have hdl := Lib.decodeL_le (u.drop i)
  rw [List.length_drop] at hdl
  cases esc with
  | true =>
   rcases hp with rfl | rfl
   ·conv => whnf
    refine CondP.dec (fun h2 => ?_) (fun h2 => ?_)
    ·have hne : u.drop i ≠ [] := fun g => by have := congrArg List.length g; rw [List.length_drop] at this; simp at this; omega
     conv => whnf
     refine Or.inl ⟨InR.i64 (by omega) (by omega), ?_⟩
     conv => whnf
     refine Or.inl ⟨InR.i64 (by omega) (by omega), ?_⟩
     conv => whnf
     refine ⟨⟨.inl rfl, by omega, by rw [hdec]; omega⟩, ?_⟩
     conv => whnf
     generalize hk : idxR _ _ = k
     have hk' : idxR [110, 116, 34, 92] ((Lib.decodeL (u.drop i)).1 : Int) = k := by rw [← hdec]; exact hk
     cases hE : escB (Lib.decodeL (u.drop i)).1 with
     | none =>
      rw [esc_none hE] at hk'
      subst hk'
      have g1 : textF (s.drop a) = .err (1 + i - 1) := by rw [← hgo]; simp [textGo, hne, hE]
      conv => whnf
      refine Or.inl ⟨InR.i64 (by omega) (by omega), ?_⟩
      conv => whnf
      have g2 := hbad _ g1
      rw [show ((a + (1 + i - 1) : Nat) : Int) = (a : Int) + 1 + (i : Int) - 1 by omega] at g2
      exact g2
     | some b =>
      have g1 : textF (s.drop a) = textGo f (u.drop (i + (decodeL u i).2)) false (l ++ [b]) (1 + (i + (decodeL u i).2)) := by rw [← hgo, hdec]; simp [textGo, hne, hE, List.drop_drop, Nat.add_assoc]
      have g3 : i + (decodeL u i).2 ≤ u.length := by rw [hdec]; have := hdl hne; omega
      have hdr' : 1 ≤ (decodeL u i).2 := by rw [hdec]; omega
      rcases esc_some hE with ⟨e1, rfl⟩ | ⟨e1, rfl⟩ | ⟨e1, rfl⟩ | ⟨e1, rfl⟩
      all_goals (rw [e1] at hk'; subst hk')
      all_goals (conv => whnf)
      all_goals (refine ⟨by omega, by first | omega | (simp; done) | (simp; omega), ?_⟩)
      all_goals (conv => whnf)
      all_goals (refine ⟨⟨.inl rfl, rfl, rfl, hb1, by omega⟩, ?_⟩)
      all_goals (conv => whnf)
      all_goals (refine ⟨⟨false, _, _, f, _, rfl, ?_, .inr rfl, ⟨g3, by omega, ?_⟩, g1.symm⟩, ?_⟩)
      all_goals (first | (rw [bytesR_snoc]; rfl) | (rw [List.length_append]; simp; omega) | exact (show u.length - (i + (decodeL u i).2) < u.length - i by omega))
    ·have hnil : u.drop i = [] := List.drop_eq_nil_of_le (by omega)
     have g1 : textF (s.drop a) = .err 0 := by rw [← hgo]; simp [textGo, hnil]
     conv => whnf
     (try (refine ⟨rfl, ?_⟩; conv => whnf))
     (try (refine ⟨rfl, ?_⟩; conv => whnf))
     exact hbad _ g1
   ·conv => whnf
    refine CondP.dec (fun h2 => ?_) (fun h2 => ?_)
    ·have hne : u.drop i ≠ [] := fun g => by have := congrArg List.length g; rw [List.length_drop] at this; simp at this; omega
     conv => whnf
     refine Or.inl ⟨InR.i64 (by omega) (by omega), ?_⟩
     conv => whnf
     refine Or.inl ⟨InR.i64 (by omega) (by omega), ?_⟩
     conv => whnf
     refine ⟨⟨.inl rfl, by omega, by rw [hdec]; omega⟩, ?_⟩
     conv => whnf
     generalize hk : idxR _ _ = k
     have hk' : idxR [110, 116, 34, 92] ((Lib.decodeL (u.drop i)).1 : Int) = k := by rw [← hdec]; exact hk
     cases hE : escB (Lib.decodeL (u.drop i)).1 with
     | none =>
      rw [esc_none hE] at hk'
      subst hk'
      have g1 : textF (s.drop a) = .err (1 + i - 1) := by rw [← hgo]; simp [textGo, hne, hE]
      conv => whnf
      refine Or.inl ⟨InR.i64 (by omega) (by omega), ?_⟩
      conv => whnf
      have g2 := hbad _ g1
      rw [show ((a + (1 + i - 1) : Nat) : Int) = (a : Int) + 1 + (i : Int) - 1 by omega] at g2
      exact g2
     | some b =>
      have g1 : textF (s.drop a) = textGo f (u.drop (i + (decodeL u i).2)) false (l ++ [b]) (1 + (i + (decodeL u i).2)) := by rw [← hgo, hdec]; simp [textGo, hne, hE, List.drop_drop, Nat.add_assoc]
      have g3 : i + (decodeL u i).2 ≤ u.length := by rw [hdec]; have := hdl hne; omega
      have hdr' : 1 ≤ (decodeL u i).2 := by rw [hdec]; omega
      rcases esc_some hE with ⟨e1, rfl⟩ | ⟨e1, rfl⟩ | ⟨e1, rfl⟩ | ⟨e1, rfl⟩
      all_goals (rw [e1] at hk'; subst hk')
      all_goals (conv => whnf)
      all_goals (refine ⟨by omega, by first | omega | (simp; done) | (simp; omega), ?_⟩)
      all_goals (conv => whnf)
      all_goals (refine ⟨⟨.inr rfl, rfl, rfl, hb1, by omega⟩, ?_⟩)
      all_goals (conv => whnf)
      all_goals (refine ⟨⟨false, _, _, f, _, rfl, ?_, .inr rfl, ⟨g3, by omega, ?_⟩, g1.symm⟩, ?_⟩)
      all_goals (first | (rw [bytesR_snoc]; rfl) | (rw [List.length_append]; simp; omega) | exact (show u.length - (i + (decodeL u i).2) < u.length - i by omega))
    ·have hnil : u.drop i = [] := List.drop_eq_nil_of_le (by omega)
     have g1 : textF (s.drop a) = .err 0 := by rw [← hgo]; simp [textGo, hnil]
     conv => whnf
     (try (refine ⟨rfl, ?_⟩; conv => whnf))
     (try (refine ⟨rfl, ?_⟩; conv => whnf))
     exact hbad _ g1
  | false =>
   rcases hp with rfl | rfl
   ·conv => whnf
    refine CondP.dec (fun h2 => ?_) (fun h2 => ?_)
    ·have hne : u.drop i ≠ [] := fun g => by have := congrArg List.length g; rw [List.length_drop] at this; simp at this; omega
     have g3 : i + (decodeL u i).2 ≤ u.length := by rw [hdec]; have := hdl hne; omega
     have hdr' : 1 ≤ (decodeL u i).2 := by rw [hdec]; omega
     have hat : ((a : Int) + 1 + (i : Int)).toNat = a + 1 + i := by omega
     have hsd : s.drop (a + 1 + i) = u.drop i := by rw [hu, List.drop_drop]
     conv => whnf
     refine Or.inl ⟨InR.i64 (by omega) (by omega), ?_⟩
     conv => whnf
     refine Or.inl ⟨InR.i64 (by omega) (by omega), ?_⟩
     conv => whnf
     refine ⟨⟨by omega, by omega⟩, ?_⟩
     conv => whnf
     refine CondP.dec (fun h3 => ?_) (fun h3 => ?_)
     ·have h3' : (Lib.decodeL (u.drop i)).1 = 34 := by rw [hdec] at h3; omega
      have g1 : textF (s.drop a) = .ok l (1 + i + 1) := by rw [← hgo]; simp [textGo, hne, h3']
      conv => whnf
      refine Or.inl ⟨InR.i64 (by omega) (by omega), ?_⟩
      conv => whnf
      refine ⟨l, ⟨rfl, rfl, rfl, .inl rfl, by omega⟩, ?_⟩
      conv => whnf
      (try (refine ⟨rfl, ?_⟩; conv => whnf))
      (try (refine ⟨rfl, ?_⟩; conv => whnf))
      have g2 := hgood _ _ g1
      rw [show ((a + (1 + i + 1) : Nat) : Int) = (a : Int) + 1 + (i : Int) + 1 by omega] at g2
      exact g2
     ·have h3' : ¬ (Lib.decodeL (u.drop i)).1 = 34 := by rw [hdec] at h3; omega
      conv => whnf
      refine CondP.dec (fun h4 => ?_) (fun h4 => ?_)
      ·have h4' : (Lib.decodeL (u.drop i)).1 = 92 := by rw [hdec] at h4; omega
       have g1 : textF (s.drop a) = textGo f (u.drop (i + (decodeL u i).2)) true l (1 + (i + (decodeL u i).2)) := by rw [← hgo, hdec]; simp [textGo, hne, h3', h4', List.drop_drop, Nat.add_assoc]
       conv => whnf
       refine ⟨⟨true, _, _, f, _, rfl, rfl, .inl rfl, ⟨g3, by omega, by omega⟩, g1.symm⟩, ?_⟩
       exact (show u.length - (i + (decodeL u i).2) < u.length - i by omega)
      ·have h4' : ¬ (Lib.decodeL (u.drop i)).1 = 92 := by rw [hdec] at h4; omega
       conv => whnf
       refine CondP.dec (fun h5 => ?_) (fun h5 => ?_)
       ·have h5' : (pk (u.drop i)).1 < 32 := by rw [hat, hsd] at h5; exact h5
        have g1 : textF (s.drop a) = .err (1 + i) := by rw [← hgo]; simp [textGo, hne, h3', h4', h5']
        conv => whnf
        have g2 := hbad _ g1
        rw [show ((a + (1 + i) : Nat) : Int) = (a : Int) + 1 + (i : Int) by omega] at g2
        exact g2
       ·have h5' : ¬ (pk (u.drop i)).1 < 32 := by rw [hat, hsd] at h5; exact h5
        have g1 : textF (s.drop a) = textGo f (u.drop (i + (decodeL u i).2)) false (l ++ Lib.encodeRune ((decodeL u i).1 : Int)) (1 + (i + (decodeL u i).2)) := by rw [← hgo, hdec]; simp [textGo, hne, h3', h4', h5', List.drop_drop, Nat.add_assoc]
        have hen := enc_len ((decodeL u i).1 : Int)
        conv => whnf
        refine ⟨⟨.inl rfl, rfl, rfl, hb1, by omega, by omega, by rw [hdec]; omega⟩, ?_⟩
        conv => whnf
        refine ⟨⟨false, _, _, f, _, rfl, ?_, .inr rfl, ⟨g3, by omega, ?_⟩, g1.symm⟩, ?_⟩
        ·rw [bytesR_app]; rfl
        ·rw [List.length_append]; omega
        ·exact (show u.length - (i + (decodeL u i).2) < u.length - i by omega)
    ·have hnil : u.drop i = [] := List.drop_eq_nil_of_le (by omega)
     have g1 : textF (s.drop a) = .err 0 := by rw [← hgo]; simp [textGo, hnil]
     conv => whnf
     (try (refine ⟨rfl, ?_⟩; conv => whnf))
     (try (refine ⟨rfl, ?_⟩; conv => whnf))
     exact hbad _ g1
   ·conv => whnf
    refine CondP.dec (fun h2 => ?_) (fun h2 => ?_)
    ·have hne : u.drop i ≠ [] := fun g => by have := congrArg List.length g; rw [List.length_drop] at this; simp at this; omega
     have g3 : i + (decodeL u i).2 ≤ u.length := by rw [hdec]; have := hdl hne; omega
     have hdr' : 1 ≤ (decodeL u i).2 := by rw [hdec]; omega
     have hat : ((a : Int) + 1 + (i : Int)).toNat = a + 1 + i := by omega
     have hsd : s.drop (a + 1 + i) = u.drop i := by rw [hu, List.drop_drop]
     conv => whnf
     refine Or.inl ⟨InR.i64 (by omega) (by omega), ?_⟩
     conv => whnf
     refine Or.inl ⟨InR.i64 (by omega) (by omega), ?_⟩
     conv => whnf
     refine ⟨⟨by omega, by omega⟩, ?_⟩
     conv => whnf
     refine CondP.dec (fun h3 => ?_) (fun h3 => ?_)
     ·have h3' : (Lib.decodeL (u.drop i)).1 = 34 := by rw [hdec] at h3; omega
      have g1 : textF (s.drop a) = .ok l (1 + i + 1) := by rw [← hgo]; simp [textGo, hne, h3']
      conv => whnf
      refine Or.inl ⟨InR.i64 (by omega) (by omega), ?_⟩
      conv => whnf
      refine ⟨l, ⟨rfl, rfl, rfl, .inr rfl, by omega⟩, ?_⟩
      conv => whnf
      (try (refine ⟨rfl, ?_⟩; conv => whnf))
      (try (refine ⟨rfl, ?_⟩; conv => whnf))
      have g2 := hgood _ _ g1
      rw [show ((a + (1 + i + 1) : Nat) : Int) = (a : Int) + 1 + (i : Int) + 1 by omega] at g2
      exact g2
     ·have h3' : ¬ (Lib.decodeL (u.drop i)).1 = 34 := by rw [hdec] at h3; omega
      conv => whnf
      refine CondP.dec (fun h4 => ?_) (fun h4 => ?_)
      ·have h4' : (Lib.decodeL (u.drop i)).1 = 92 := by rw [hdec] at h4; omega
       have g1 : textF (s.drop a) = textGo f (u.drop (i + (decodeL u i).2)) true l (1 + (i + (decodeL u i).2)) := by rw [← hgo, hdec]; simp [textGo, hne, h3', h4', List.drop_drop, Nat.add_assoc]
       conv => whnf
       refine ⟨⟨true, _, _, f, _, rfl, rfl, .inr rfl, ⟨g3, by omega, by omega⟩, g1.symm⟩, ?_⟩
       exact (show u.length - (i + (decodeL u i).2) < u.length - i by omega)
      ·have h4' : ¬ (Lib.decodeL (u.drop i)).1 = 92 := by rw [hdec] at h4; omega
       conv => whnf
       refine CondP.dec (fun h5 => ?_) (fun h5 => ?_)
       ·have h5' : (pk (u.drop i)).1 < 32 := by rw [hat, hsd] at h5; exact h5
        have g1 : textF (s.drop a) = .err (1 + i) := by rw [← hgo]; simp [textGo, hne, h3', h4', h5']
        conv => whnf
        have g2 := hbad _ g1
        rw [show ((a + (1 + i) : Nat) : Int) = (a : Int) + 1 + (i : Int) by omega] at g2
        exact g2
       ·have h5' : ¬ (pk (u.drop i)).1 < 32 := by rw [hat, hsd] at h5; exact h5
        have g1 : textF (s.drop a) = textGo f (u.drop (i + (decodeL u i).2)) false (l ++ Lib.encodeRune ((decodeL u i).1 : Int)) (1 + (i + (decodeL u i).2)) := by rw [← hgo, hdec]; simp [textGo, hne, h3', h4', h5', List.drop_drop, Nat.add_assoc]
        have hen := enc_len ((decodeL u i).1 : Int)
        conv => whnf
        refine ⟨⟨.inr rfl, rfl, rfl, hb1, by omega, by omega, by rw [hdec]; omega⟩, ?_⟩
        conv => whnf
        refine ⟨⟨false, _, _, f, _, rfl, ?_, .inr rfl, ⟨g3, by omega, ?_⟩, g1.symm⟩, ?_⟩
        ·rw [bytesR_app]; rfl
        ·rw [List.length_append]; omega
        ·exact (show u.length - (i + (decodeL u i).2) < u.length - i by omega)
    ·have hnil : u.drop i = [] := List.drop_eq_nil_of_le (by omega)
     have g1 : textF (s.drop a) = .err 0 := by rw [← hgo]; simp [textGo, hnil]
     conv => whnf
     (try (refine ⟨rfl, ?_⟩; conv => whnf))
     (try (refine ⟨rfl, ?_⟩; conv => whnf))
     exact hbad _ g1
 ·exact h.elim
end Go.PM.Lex
end

section
set_option maxRecDepth 100000
set_option maxHeartbeats 4000000
namespace Go.PM.Lex
open Go.Proofs
variable {w0 : World} {nG : Nat}
theorem sign_le (r : Bs) (h : 0 < r.length) : signF r ≤ r.length ∧ signF r ≤ 2 := by
 unfold signF
 split
 ·rename_i h1
  simp only [twos, List.any_cons, List.any_nil, Bool.or_false, Bool.or_eq_true] at h1
  rcases h1 with h1 | h1 | h1 | h1 | h1
  all_goals (have := (hasPrefix_two h1).1; omega)
 ·split <;> omega
theorem nextF_eq (a : Nat) (r : Bs) (room : Bool) : nextF a r room = if signF r = 0 ∧ (pk r).1 ≠ 34 ∧ isLetter (pk r).1 = false ∧ isDigit (pk r).1 = false then .bad a 140
 else if room = false then .bad a 3
 else if 0 < signF r then .tok ⟨4, r.take (signF r), 0, a, a + signF r⟩
 else if (pk r).1 = 34 then textR a r
 else if isDigit (pk r).1 = true then numberR a r
 else .tok ⟨1, r.take (nameF r), 0, a, a + nameF r⟩ := rfl
noncomputable def tblNext : Tbl := [(248, spPeek), (289, spSign), (249, spLetter), (290, spDigit), (291, spText), (292, spNumber), (250, spName)]
theorem next_ok (ht : TblOK (GG w0 nG) tblNext) : PCalls (GG w0 nG) 236 spNext := by
 refine pcalls tab_ok mixed ht Tryz.func236 rfl (by kernel_rfl) (by kernel_rfl) ?_
 intro args σ K h
 unfold spNext at h
 split at h
 ·rename_i room t s a
  obtain ⟨⟨h0, h1, hs⟩, h⟩ := h
  obtain ⟨a, rfl⟩ : ∃ n : Nat, a = n := ⟨a.toNat, by omega⟩
  simp only [Int.toNat_natCast] at h
  have hpr : -1 ≤ (pk (s.drop ((a : Int)).toNat)).1 ∧ (pk (s.drop ((a : Int)).toNat)).1 ≤ 1114111 := pk_rng (s.drop a)
  have hsl := sign_le (s.drop a) (by rw [List.length_drop]; omega)
  rw [List.length_drop] at hsl
  have hbad : ∀ e : Nat, nextF a (s.drop a) room = .bad a e → K (.ret (.tuple [tokPV 0 [] 0 0 0, fltPV a e])) ⟨[.cells t [.d (.str s), .d (.int .i64 a)]], [], 0⟩ := fun e g => by
   rw [g] at h; exact h
  have hsign : ∀ n : Nat, signF (s.drop a) = n → nextF a (s.drop a) room = .tok ⟨4, (s.drop a).take n, 0, a, a + n⟩ → K (.ret (.tuple [tokPV 4 (cut s ((a : Int)).toNat ((a : Int) + (n : Int)).toNat) 0 a ((a : Int) + (n : Int)), fltPV 0 0])) ⟨[.cells t [.d (.str s), .d (.int .i64 a)]], [], 0⟩ := fun n g1 g2 => by
   rw [g2] at h
   rw [cut_mid, show ((a : Int) + (n : Int)).toNat - ((a : Int)).toNat = n by omega]
   exact h
  have hn2 : nextF a (s.drop a) room = .tok ⟨1, (s.drop a).take (nameF (s.drop a)), 0, a, a + nameF (s.drop a)⟩ → K (.ret (.tuple [tokPV 1 ((s.drop a).take (nameF (s.drop a))) 0 a ((a : Int) + (nameF (s.drop a) : Int)), fltPV 0 0])) ⟨[.cells t [.d (.str s), .d (.int .i64 a)]], [], 0⟩ := fun g => by
   rw [g] at h; exact h
  refine ⟨loopsOf [], 1, false, by simp, Nat.le_of_ble_eq_true rfl, ?_⟩
  conv => whnf
  refine ⟨⟨by omega, by omega⟩, ?_⟩
  conv => whnf
  refine ⟨⟨by omega, by omega, by omega⟩, ?_⟩
  conv => whnf
  generalize hc0 : (pk (s.drop ((a : Int)).toNat)).1 = c at hpr ⊢
  have hc : (pk (s.drop a)).1 = c := hc0
  generalize hn0 : signF (s.drop ((a : Int)).toNat) = n
  have hn : signF (s.drop a) = n := hn0
  rw [hn] at hsl
  refine CondP.dec (fun h2 => ?_) (fun h2 => ?_)
  ·obtain rfl : n = 0 := by omega
   conv => whnf
   refine CondP.ndec (fun h3 => ?_) (fun h3 => ?_)
   ·conv => whnf
    refine ⟨⟨by omega, by omega⟩, ?_⟩
    conv => whnf
    refine CondP.intro (fun h4 => ?_) (fun h4 => ?_)
    ·have h4' : isLetter c = false := by simpa using h4
     conv => whnf
     refine CondP.intro (fun h5 => ?_) (fun h5 => ?_)
     ·have h5' : isDigit c = false := by simpa using h5
      conv => whnf
      (try (refine ⟨rfl, ?_⟩; conv => whnf))
      (try (refine ⟨rfl, ?_⟩; conv => whnf))
      exact hbad 140 (by rw [nextF_eq, hn, hc, if_pos ⟨rfl, h3, h4', h5'⟩])
     ·have h5' : isDigit c = true := by simpa using h5
      have hno : ¬ (0 = 0 ∧ c ≠ 34 ∧ isLetter c = false ∧ isDigit c = false) := fun g => by rw [h5'] at g; simp at g
      cases room with
      | false =>
       conv => whnf
       (try (refine ⟨rfl, ?_⟩; conv => whnf))
       (try (refine ⟨rfl, ?_⟩; conv => whnf))
       exact hbad 3 (by rw [nextF_eq, hn, hc, if_neg hno, if_pos rfl])
      | true =>
       conv => whnf
       refine CondP.dec (fun h6 => ?_) (fun h6 => ?_)
       ·exact absurd h6 (by simpa using h3)
       ·conv => whnf
        refine CondP.intro (fun h7 => ?_) (fun h7 => ?_)
        ·conv => whnf
         refine ⟨⟨by omega, by omega, by omega⟩, ?_⟩
         conv => whnf
         have g : nextF a (s.drop a) true = numberR a (s.drop a) := by
          rw [nextF_eq, hn, hc, if_neg hno, if_neg (by simp), if_neg (by omega), if_neg h3, if_pos h5']
         rw [g] at h
         exact h
        ·rw [h5'] at h7; cases h7
    ·have h4' : isLetter c = true := by simpa using h4
     have h5' : isDigit c = false := by
      have h4'' : (c = 95 ∨ 128 ≤ c ∨ (97 ≤ c ∧ c ≤ 122) ∨ (65 ≤ c ∧ c ≤ 90)) := by simpa [isLetter] using h4'
      simp only [isDigit, decide_eq_false_iff_not]; omega
     have hno : ¬ (0 = 0 ∧ c ≠ 34 ∧ isLetter c = false ∧ isDigit c = false) := fun g => by rw [h4'] at g; simp at g
     cases room with
     | false =>
      conv => whnf
      (try (refine ⟨rfl, ?_⟩; conv => whnf))
      (try (refine ⟨rfl, ?_⟩; conv => whnf))
      exact hbad 3 (by rw [nextF_eq, hn, hc, if_neg hno, if_pos rfl])
     | true =>
      conv => whnf
      refine CondP.dec (fun h6 => ?_) (fun h6 => ?_)
      ·exact absurd h6 (by simpa using h3)
      ·conv => whnf
       refine CondP.intro (fun h7 => ?_) (fun h7 => ?_)
       ·rw [h5'] at h7; cases h7
       ·conv => whnf
        refine ⟨⟨by omega, by omega, by omega⟩, ?_⟩
        conv => whnf
        exact hn2 (by rw [nextF_eq, hn, hc, if_neg hno, if_neg (by simp), if_neg (by omega), if_neg h3, if_neg (by rw [h5']; simp)])
   ·obtain rfl : c = 34 := h3
    have hno : ¬ (0 = 0 ∧ (34 : Int) ≠ 34 ∧ isLetter 34 = false ∧ isDigit 34 = false) := fun g => g.2.1 rfl
    cases room with
    | false =>
     conv => whnf
     (try (refine ⟨rfl, ?_⟩; conv => whnf))
     (try (refine ⟨rfl, ?_⟩; conv => whnf))
     exact hbad 3 (by rw [nextF_eq, hn, hc, if_neg hno, if_pos rfl])
    | true =>
     conv => whnf
     refine ⟨⟨by omega, by omega, by omega⟩, ?_⟩
     conv => whnf
     have g : nextF a (s.drop a) true = textR a (s.drop a) := by
      rw [nextF_eq, hn, hc, if_neg hno, if_neg (by simp), if_neg (by omega), if_pos rfl]
     rw [g] at h
     exact h
  ·have hno : ¬ (n = 0 ∧ c ≠ 34 ∧ isLetter c = false ∧ isDigit c = false) := fun g => by omega
   cases room with
   | false =>
    conv => whnf
    (try (refine ⟨rfl, ?_⟩; conv => whnf))
    (try (refine ⟨rfl, ?_⟩; conv => whnf))
    exact hbad 3 (by rw [nextF_eq, hn, hc, if_neg hno, if_pos rfl])
   | true =>
    conv => whnf
    refine CondP.dec (fun h6 => ?_) (fun h6 => ?_)
    ·conv => whnf
     refine Or.inl ⟨InR.i64 (by omega) (by omega), ?_⟩
     conv => whnf
     refine ⟨by omega, by omega, by omega, ?_⟩
     conv => whnf
     refine Or.inl ⟨InR.i64 (by omega) (by omega), ?_⟩
     conv => whnf
     (try (refine ⟨rfl, ?_⟩; conv => whnf))
     (try (refine ⟨rfl, ?_⟩; conv => whnf))
     exact hsign n hn (by rw [nextF_eq, hn, hc, if_neg hno, if_neg (by simp), if_pos (by omega)])
    ·omega
 ·exact h.elim
end Go.PM.Lex
end

section
set_option maxRecDepth 100000
namespace Go.PM.Lex
theorem pk_low (r : Bs) (h0 : 0 ≤ (pk r).1) (h : (pk r).1 < 128) : 0 < r.length ∧ (pk r).1 = ((r.getD 0 0).toNat : Int) ∧ (pk r).2 = 1 := by
 unfold pk at h h0 ⊢
 split at h
 ·rename_i g; rw [if_pos g] at h0; simp at h0
 ·rename_i g
  simp only [not_or] at g
  rw [if_neg (by simp only [not_or]; exact g)] at h0 ⊢
  have hl : 0 < r.length := List.length_pos_iff.2 g.1
  refine ⟨hl, ?_⟩
  rw [Lib.decodeL_N] at h ⊢
  rcases Lib.decodeN_shape r.length (r.getD 0 0).toNat (r.getD 1 0).toNat (r.getD 2 0).toNat (r.getD 3 0).toNat with ⟨c, e⟩ | ⟨c1, c2, c3, cv, e⟩ | ⟨c1, c2, c3, c4, cv, cs, e⟩ | ⟨c1, c2, c3, c4, c5, cv, cw, e⟩ | e
  ·rw [e]; exact ⟨rfl, rfl⟩
  all_goals (rw [e] at h; dsimp only at h; omega)
theorem isLetter_iff {c : Int} : isLetter c = true ↔ (c = 95 ∨ 128 ≤ c ∨ (97 ≤ c ∧ c ≤ 122) ∨ (65 ≤ c ∧ c ≤ 90)) := by simp [isLetter]
theorem isDigit_iff {c : Int} : isDigit c = true ↔ (48 ≤ c ∧ c ≤ 57) := by simp [isDigit]
theorem nameGo_le : ∀ (f : Nat) (r : Bs), nameGo f r ≤ r.length
 | 0, r => Nat.zero_le _
 | f + 1, r => by
  have ih := nameGo_le f (r.drop (pk r).2)
  rw [List.length_drop] at ih
  have hl : (pk r).1 ≠ -1 → (pk r).2 ≤ r.length := fun h => (pk_le r h).2.1
  unfold nameGo
  split
  ·rename_i h; have := hl (by omega); split <;> omega
  ·split
   ·rename_i h
    have := hl (fun h1 => by rw [h1, isLetter_neg, isDigit_neg] at h; simp at h)
    omega
   ·omega
theorem nameF_pos (r : Bs) (h : isLetter (pk r).1 = true) : 1 ≤ nameF r ∧ nameF r ≤ r.length := by
 refine ⟨?_, nameGo_le _ _⟩
 have := pk_len r
 have h46 : ¬ (pk r).1 = 46 := fun g => by rw [g] at h; revert h; decide
 rw [nameF, nameGo_on h46 (.inl h)]; omega
theorem textGo_len : ∀ (f : Nat) (r : Bs) (esc : Bool) (acc : Bs) (p : Nat) (t : Bs) (l : Nat), textGo f r esc acc p = .ok t l → p < l ∧ l ≤ p + r.length
 | 0, r, esc, acc, p, t, l, h => by simp [textGo] at h
 | f + 1, r, esc, acc, p, t, l, h => by
  unfold textGo at h
  split at h
  ·cases h
  ·rename_i hne
   have hd := Lib.decodeL_le r hne
   have hr := dec_rng r
   split at h
   ·split at h
    ·cases h
    ·have := textGo_len f _ _ _ _ _ _ h; rw [List.length_drop] at this; omega
   ·split at h
    ·cases h; have := List.length_pos_iff.2 hne; omega
    ·split at h
     ·have := textGo_len f _ _ _ _ _ _ h; rw [List.length_drop] at this; omega
     ·split at h
      ·cases h
      ·have := textGo_len f _ _ _ _ _ _ h; rw [List.length_drop] at this; omega
theorem numLen_le (r : Bs) : numLen r ≤ r.length := by
 unfold numLen numDigits
 have := takeWhile_le (digB (isHex r)) (r.drop (if isHex r then 2 else 0))
 rw [List.length_drop] at this
 by_cases h : isHex r = true
 ·have := (hasPrefix_two h).1
  simp only [h, if_true] at *; omega
 ·simp only [h, Bool.false_eq_true, if_false] at *; omega
theorem nextF_tok {a : Nat} {r : Bs} {room : Bool} {t : Tok} (h0 : 0 < r.length) (h : nextF a r room = .tok t) : t.at' = a ∧ a < t.fin ∧ t.fin ≤ a + r.length := by
 rw [nextF_eq] at h
 split at h
 ·cases h
 ·rename_i g0
  split at h
  ·cases h
  ·split at h
   ·cases h; rename_i g1; have := sign_le r h0; exact ⟨rfl, by simp only; omega, by simp only; omega⟩
   ·rename_i g1
    split at h
    ·unfold textR at h
     split at h
     ·cases h
     ·rename_i t' l hx
      cases h
      have := textGo_len _ _ _ _ _ _ _ hx
      rw [List.length_drop] at this
      exact ⟨rfl, by simp only; omega, by simp only; omega⟩
    ·rename_i g2
     split at h
     ·rename_i g3
      unfold numberR at h
      split at h
      ·cases h
      ·rename_i n hx
       cases h
       have hle := numLen_le r
       refine ⟨rfl, ?_, by simp only; omega⟩
       simp only
       have hne : numDigits r ≠ [] := fun g => by rw [numberF, if_pos g] at hx; cases hx
       have := List.length_pos_iff.2 hne
       unfold numLen; omega
     ·rename_i g3
      cases h
      have h4 : isLetter (pk r).1 = true := by
       cases hb : isLetter (pk r).1 with
       | true => rfl
       | false => exact absurd ⟨by omega, g2, hb, by simpa using g3⟩ g0
      have := nameF_pos r h4
      exact ⟨rfl, by simp only; omega, by simp only; omega⟩
theorem nextF_bad {a : Nat} {r : Bs} {room : Bool} {p e : Nat} (h : nextF a r room = .bad p e) : e ≠ 0 ∧ e ≤ 142 := by
 rw [nextF_eq] at h
 repeat' split at h
 all_goals first | (cases h; done) | (cases h; omega) | (cases h; decide) | skip
 ·unfold textR at h; split at h <;> cases h; decide
 ·unfold numberR at h; split at h <;> cases h; decide
theorem blank_len : ∀ (f : Nat) (r : Bs), (blankGo f r).2 ≤ r.length
 | 0, r => Nat.zero_le _
 | f + 1, r => by
  have hdw := dropWhile_eq (([32, 9, 13, 10] : Bs).contains ·) r
  obtain ⟨rest, hrest⟩ : ∃ x, x = Lib.trimLeftS r [32, 9, 13, 10] := ⟨_, rfl⟩
  have hr2 : rest.length ≤ r.length := by rw [hrest]; exact hdw.2
  simp only [blankGo, ← hrest]
  split
  ·rename_i h1
   have ih := fun n => blank_len f (rest.drop n)
   have hlt := indexByte_lt 10 rest
   have hge := Lib.indexByte_ge rest 10
   have ih2 := ih (if Lib.indexByte rest 10 < 0 then rest.length else (Lib.indexByte rest 10).toNat)
   rw [List.length_drop] at ih2
   simp only
   have : (if Lib.indexByte rest 10 < 0 then rest.length else (Lib.indexByte rest 10).toNat) ≤ rest.length := by split <;> omega
   omega
  ·split
   ·rename_i h1 h2
    have hl := (hasPrefix_two h2).1
    split
    ·simp only; omega
    ·rename_i h3
     have hle := index_le [42, 47] (rest.drop 2) (by omega)
     simp only [List.length_drop, List.length_cons, List.length_nil] at hle
     have ih2 := blank_len f (rest.drop ((Lib.index (rest.drop 2) [42, 47]).toNat + 4))
     rw [List.length_drop] at ih2
     simp only
     omega
   ·simp only; omega
end Go.PM.Lex
end

section
set_option maxRecDepth 100000
set_option maxHeartbeats 4000000
namespace Go.PM
def iterAny (T : Tab) (tbl : Tbl) (it : Iter) (gid : FuncId) (fn : Func) : Iter := fun g args raw σ K => ∃ loops, iterOf T tbl it gid fn loops g args raw σ K
theorem iterAny_sem {G : GE} {T : Tab} {tbl : Tbl} (hT : TabOK T G.P) (hmix : G.P.follows .mixedOrders = true) (ht : TblOK G tbl) {it : Iter} (hit : IterSem G it) {gid : FuncId} {fn : Func} {c : Code} (hf : G.P.funcs[gid]? = some fn) (hb : fn.body = some c) (hname : (fn.name == "runtime.NumGoroutine") = false)
  (hok : codeOK fn.ntmps c = true) : IterSem G (iterAny T tbl it gid fn) := fun g args raw σ K h => by
 obtain ⟨loops, h⟩ := h
 exact iterOf_sem hT hmix ht hit hf hb hname hok loops g args raw σ K h
end Go.PM
namespace Go.PM.Lex
open Go.Proofs
variable {w0 : World} {nG : Nat}
noncomputable def spAll : Spec := fun args σ K => match args, σ with
 | [.d (.str s), .d (.int .i64 m)], ⟨[], [], 0⟩ => K (.ret (.func 234 [] [.ptr 0 0, .ptr 1 0])) ⟨[.cells 9 [.d (.str s)], .cells 3 [.d (.int .i64 m)]], [], 0⟩
 | _, _ => False
theorem spAll_mono : SpecMono spAll := fun args σ K K' hK h => by
 unfold spAll at h ⊢; split at h <;> first | exact hK _ _ h | exact h.elim
theorem all_ok : PCalls (GG w0 nG) 165 spAll := by
 refine pcalls tab_ok mixed (tbl := []) trivial Tryz.func165 rfl (by kernel_rfl) (by kernel_rfl) ?_
 intro args σ K h
 unfold spAll at h
 split at h
 ·rename_i s m
  refine ⟨loopsOf [], 2, false, by simp, Nat.le_of_ble_eq_true rfl, ?_⟩
  conv => whnf
  exact h
 ·exact h.elim
def tokR (t : Tok) : List D := [.int .u8 t.kind, .str t.text, .int .i64 t.n, .int .i64 t.at', .int .i64 t.fin]
def toksR (l : List Tok) : List (List D) := l.map tokR
theorem toksR_len (l : List Tok) : (toksR l).length = l.length := by simp [toksR]
theorem toksR_snoc (l : List Tok) (t : Tok) : toksR (l ++ [t]) = toksR l ++ [tokR t] := by simp [toksR]
noncomputable def spTokens : Spec := fun args σ K => match args, σ with
 | [.d (.str s), .d (.int .i64 m)], ⟨[], [], 0⟩ => s.length < 4294967281 ∧
   K (.ret (.tuple [.d (.sl (if (allF s m).2.2 = 0 then toksR (allF s m).1 else [])), .d (.int .i64 (allF s m).2.1), .d (.int .i64 (allF s m).2.2)])) ⟨[], [], 0⟩
 | _, _ => False
noncomputable def tblAll1 : Tbl := [(235, spBlank), (236, spNext)]
noncomputable def tblTokens : Tbl := [(165, spAll)]
noncomputable def itAll : Iter := iterAny Tab0 tblAll1 noIter 234 Tryz.f234
theorem itAll_sem (ht : TblOK (GG w0 nG) tblAll1) : IterSem (GG w0 nG) itAll := iterAny_sem tab_ok mixed ht noIter_sem Tryz.func234 rfl (by kernel_rfl) (by kernel_rfl)
def muX (B : Int) (k : Nat) : List PV → St → Nat := fun _ σ => match σ.bx[k]? with | some (.cells _ (_ :: .d (.int _ n) :: _)) => (B - n).toNat | _ => 0
theorem tokens_ok (ht1 : TblOK (GG w0 nG) tblAll1) (ht : TblOK (GG w0 nG) tblTokens) : PCalls (GG w0 nG) 83 spTokens := by
 refine pcallsI tab_ok mixed ht (itAll_sem ht1) Tryz.func83 rfl (by kernel_rfl) (by kernel_rfl) ?_
 intro args σ K h
 unfold spTokens at h
 split at h
 ·rename_i s m
  obtain ⟨hs, h⟩ := h
  refine ⟨loopsOf [], 0, false, by simp, Nat.le_of_ble_eq_true rfl, ?_⟩
  conv => whnf
  intro y r
  refine ⟨loopsOf [(3, ⟨[5], [0, 1, 2, 4], fun vs σ => ∃ (l : List Tok) (e f : Nat), vs = [.d (.int .i64 (l.length : Int))] ∧
   σ = ⟨[.cells 34 [.sl 0 40 []], .cells 3 [.d (.int .i64 0)], .cells 30 [.d (.int .i64 0)], .cells 34 [.sl 1 40 (toksR l)], .cells 9 [.d (.str s)], .cells 3 [.d (.int .i64 m)], .loop .ready none r, .cells 270 [.d (.str s), .d (.int .i64 e)]], [1, 0], 2⟩ ∧
   (e ≤ s.length ∧ s.length < e + f ∧ l.length ≤ e) ∧ allF s m = (l ++ (allGo f (m - l.length) e (s.drop e)).1, (allGo f (m - l.length) e (s.drop e)).2), muX s.length 7⟩)], rfl, ?_⟩
  conv => whnf
  refine ⟨⟨[], 0, s.length + 1, rfl, rfl, ⟨by omega, by omega, by simp⟩, by simp [allF]⟩, ?_⟩
  intro vs σ1 hI
  obtain ⟨l, e, f, rfl, rfl, ⟨he1, he2, hle⟩, hall⟩ := hI
  obtain ⟨f, rfl⟩ : ∃ g, f = g + 1 := ⟨f - 1, by omega⟩
  have hbl : (blankF (s.drop e)).2 ≤ s.length - e := by have : (blankF (s.drop e)).2 ≤ (s.drop e).length := blank_len _ _; rw [List.length_drop] at this; exact this
  have hbad : ∀ p c : Nat, (allGo (f + 1) (m - l.length) e (s.drop e)).2 = (p, c) → c ≠ 0 → K (.ret (.tuple [.d (.sl []), .d (.int .i64 p), .d (.int .i64 c)])) ⟨[], [], 0⟩ := fun p c g1 g2 => by
   have e1 : (allF s m).2 = (p, c) := by rw [hall]; exact g1
   rw [e1] at h
   simp only at h
   rw [if_neg g2] at h
   exact h
  have hend : allGo (f + 1) (m - l.length) e (s.drop e) = ([], (0, 0)) → K (.ret (.tuple [.d (.sl (toksR l)), .d (.int .i64 0), .d (.int .i64 0)])) ⟨[], [], 0⟩ := fun g => by
   rw [hall, g] at h
   simp only [List.append_nil, if_true] at h
   exact h
  conv => whnf
  refine ⟨⟨by omega, by omega, by omega⟩, ?_⟩
  conv => whnf
  generalize hk0 : (blankF (s.drop ((e : Int)).toNat)).2 = k
  have hk : (blankF (s.drop e)).2 = k := hk0
  rw [hk] at hbl
  refine CondP.intro (fun h2 => ?_) (fun h2 => ?_)
  ·have h2' : (blankF (s.drop e)).1 = false := by simpa using h2
   have g1 : allGo (f + 1) (m - l.length) e (s.drop e) = ([], (e + k, 140)) := by rw [allGo, if_pos h2', hk]
   have g2 := hbad _ _ (by rw [g1]) (by decide)
   rw [show ((e + k : Nat) : Int) = (e : Int) + (k : Int) by omega] at g2
   conv => whnf
   refine ⟨rfl, rfl, rfl, ?_⟩
   conv => whnf
   refine ⟨rfl, ?_⟩
   conv => whnf
   iterate 6 (try (refine ⟨rfl, ?_⟩; conv => whnf))
   exact g2
  ·have h2' : (blankF (s.drop e)).1 = true := by simpa using h2
   have hb1 : ¬ (blankF (s.drop e)).1 = false := by rw [h2']; simp
   conv => whnf
   refine CondP.dec (fun h3 => ?_) (fun h3 => ?_)
   ·have hnil : (s.drop e).drop k = [] := by rw [List.drop_drop]; exact List.drop_eq_nil_of_le (by omega)
    have g1 : allGo (f + 1) (m - l.length) e (s.drop e) = ([], (0, 0)) := by rw [allGo, if_neg hb1, hk, if_pos hnil]
    conv => whnf
    exact hend g1
   ·have hlt : e + k < s.length := by omega
    have hne : ¬ (s.drop e).drop k = [] := fun g => by have := congrArg List.length g; rw [List.drop_drop, List.length_drop] at this; simp at this; omega
    have g1 : allGo (f + 1) (m - l.length) e (s.drop e) = (match nextF (e + k) (s.drop (e + k)) (decide ((l.length : Int) < m)) with
      | .bad p e => ([], (p, e))
      | .tok t => (t :: (allGo f (m - l.length - 1) t.fin ((s.drop (e + k)).drop (t.fin - (e + k)))).1, (allGo f (m - l.length - 1) t.fin ((s.drop (e + k)).drop (t.fin - (e + k)))).2)) := by
     rw [allGo, if_neg hb1, hk, if_neg hne, List.drop_drop, show (decide (0 < m - (l.length : Int))) = decide ((l.length : Int) < m) from by rw [decide_eq_decide]; omega]
     rfl
    conv => whnf
    refine ⟨⟨by omega, by omega, by omega⟩, ?_⟩
    conv => whnf
    generalize hx0 : nextF ((e : Int) + (k : Int)).toNat (s.drop ((e : Int) + (k : Int)).toNat) _ = x
    have hx : nextF (e + k) (s.drop (e + k)) (decide ((l.length : Int) < m)) = x := by
     rw [show ((e : Int) + (k : Int)).toNat = e + k by omega] at hx0; exact hx0
    rw [hx] at g1
    cases x with
    | bad p c =>
     have hc := nextF_bad hx
     have g2 := hbad p c (by rw [g1]) hc.1
     conv => whnf
     refine ⟨rfl, rfl, rfl, ?_⟩
     conv => whnf
     refine ⟨rfl, ?_⟩
     conv => whnf
     refine CondP.ndec (fun h4 => ?_) (fun h4 => ?_)
     ·conv => whnf
      iterate 6 (try (refine ⟨rfl, ?_⟩; conv => whnf))
      exact g2
     ·exact absurd h4 (by have : ((c : Nat) : Int) ≠ 0 := by omega
                          exact this)
    | tok t =>
     obtain ⟨ht1, ht2, ht3⟩ := nextF_tok (by rw [List.length_drop]; omega) hx
     rw [List.length_drop] at ht3
     conv => whnf
     refine ⟨rfl, rfl, rfl, ?_⟩
     conv => whnf
     refine ⟨rfl, ?_⟩
     conv => whnf
     refine ⟨fun r hr => by (simp at hr; subst hr; rfl), (show ((toksR l).length + 1) * 48 ≤ 2 ^ 47 by rw [toksR_len]; omega), (show (toksR l).length + 1 ≤ 2 ^ 47 by rw [toksR_len]; omega), ?_⟩
     conv => whnf
     iterate 3 (try (refine ⟨rfl, ?_⟩; conv => whnf))
     refine Or.inl ⟨InR.i64 (by omega) (by omega), ?_⟩
     conv => whnf
     refine ⟨⟨l ++ [t], t.fin, f, ?_, ?_, ⟨by omega, by omega, by rw [List.length_append]; simp; omega⟩, ?_⟩, ?_⟩
     ·rw [List.length_append]; rfl
     ·rw [toksR_snoc]; rfl
     ·have hd : (s.drop (e + k)).drop (t.fin - (e + k)) = s.drop t.fin := by rw [List.drop_drop, show e + k + (t.fin - (e + k)) = t.fin by omega]
      rw [hall, g1, List.length_append]
      simp only [hd, List.length_cons, List.length_nil, Int.natCast_add, Int.sub_sub, List.append_assoc, List.cons_append, List.nil_append]
      rfl
     ·exact (show ((s.length : Int) - (t.fin : Int)).toNat < ((s.length : Int) - (e : Int)).toNat by omega)
 ·exact h.elim
end Go.PM.Lex
end

section
set_option maxRecDepth 100000
set_option maxHeartbeats 8000000
namespace Go.PM.Lex
open Go.Proofs
variable {w0 : World} {nG : Nat}
noncomputable def tblSPU : Tbl := [(332, spPU), (333, spToError)]
theorem parseUint_ok (hg : GlobOK w0 nG) : PCalls (GG w0 nG) 321 spParseUint := by
 refine pcalls tab_ok mixed (tbl := tblSPU) ⟨⟨pu_ok, spPU_mono⟩, ⟨toError_ok hg, spToError_mono⟩, trivial⟩ Tryz.func321 rfl (by kernel_rfl) (by kernel_rfl) ?_
 intro args σ K h
 unfold spParseUint at h
 split at h
 ·rename_i l base bits
  obtain ⟨hex, ⟨hl, rfl, rfl⟩, hbad, hgood⟩ := h
  refine ⟨loopsOf [], 0, false, by simp, Nat.le_of_ble_eq_true rfl, ?_⟩
  conv => whnf
  refine ⟨hex, ⟨hl, rfl, rfl⟩, fun h0 => ?_, fun h0 h1 => ?_, fun h0 h1 => ?_⟩
  ·conv => whnf
   refine ⟨⟨.inr rfl, hl.2⟩, ?_⟩
   conv => whnf
   exact hbad (.inl h0) _
  ·conv => whnf
   refine ⟨⟨.inl rfl, hl.2⟩, ?_⟩
   conv => whnf
   exact hbad (.inr h1) _
  ·conv => whnf
   exact hgood (by simp only [not_or]; exact ⟨h0, h1⟩)
 ·exact h.elim
end Go.PM.Lex
end

section
namespace Go.PM.Lex
open Go.Proofs
variable {w0 : World} {nG : Nat}
theorem cPeek : PCalls (GG w0 nG) 248 spPeek := peek_ok ⟨⟨runeLen_ok, spRuneLen_mono⟩, ⟨hasPrefix_ok, spHasPrefix_mono⟩, trivial⟩
theorem cSign : PCalls (GG w0 nG) 289 spSign := sign_ok ⟨⟨hasPrefix_ok, spHasPrefix_mono⟩, ⟨indexByte_ok, spIndexByte_mono⟩, trivial⟩
theorem cName : PCalls (GG w0 nG) 250 spName := name_ok ⟨⟨cPeek, spPeek_mono⟩, ⟨letter_ok, spLetter_mono⟩, ⟨digit_ok, spDigit_mono⟩, trivial⟩
theorem cBlank (hg : GlobOK w0 nG) : PCalls (GG w0 nG) 235 spBlank := blank_ok ⟨⟨trimLeft_ok, spTrimLeft_mono⟩, ⟨hasPrefix_ok, spHasPrefix_mono⟩, ⟨indexByte_ok, spIndexByte_mono⟩, ⟨index_ok (by have := hg.big; omega) hg.maxLen, spIndex_mono⟩, trivial⟩
theorem cNumber (hg : GlobOK w0 nG) : PCalls (GG w0 nG) 292 spNumber := number_ok ⟨⟨hasPrefix_ok, spHasPrefix_mono⟩, ⟨digit_ok, spDigit_mono⟩, ⟨parseUint_ok hg, spParseUint_mono⟩, ⟨cPeek, spPeek_mono⟩, ⟨letter_ok, spLetter_mono⟩, trivial⟩
theorem validRune_ok : PCalls (GG w0 nG) 254 spValidRune := pcalls_lib (enters_of Tryz.func254 (by kernel_rfl) rfl) fun args σ K h e w vs hS ha => by
 unfold spValidRune at h
 split at h
 ·obtain ⟨u, rfl, hu⟩ := args1 ha
  cases hu.dint
  exact ⟨_, h, _, fun _ _ => .mkbool, (Tryz.utf8_ValidRune _ w).mono fun en w' ⟨h1, h2⟩ => ⟨h1, by rw [h2]; exact Grows.refl _⟩⟩
 ·exact h.elim
theorem cIndexRune : PCalls (GG w0 nG) 191 spIndexRune := indexRune_ok ⟨⟨indexByte_ok, spIndexByte_mono⟩, ⟨validRune_ok, spValidRune_mono⟩, trivial⟩
theorem cText : PCalls (GG w0 nG) 291 spText := text_ok ⟨⟨cIndexRune, spIndexRune_mono⟩, ⟨writeByte_ok, spWriteByte_mono⟩, ⟨cPeek, spPeek_mono⟩, ⟨writeRune_ok, spWriteRune_mono⟩, ⟨string_ok, spString_mono⟩, trivial⟩
theorem cNext (hg : GlobOK w0 nG) : PCalls (GG w0 nG) 236 spNext := next_ok ⟨⟨cPeek, spPeek_mono⟩, ⟨cSign, spSign_mono⟩, ⟨letter_ok, spLetter_mono⟩, ⟨digit_ok, spDigit_mono⟩, ⟨cText, spText_mono⟩, ⟨cNumber hg, spNumber_mono⟩, ⟨cName, spName_mono⟩, trivial⟩
theorem cAll1 (hg : GlobOK w0 nG) : TblOK (GG w0 nG) tblAll1 := ⟨⟨cBlank hg, spBlank_mono⟩, ⟨cNext hg, spNext_mono⟩, trivial⟩
theorem cTokens (hg : GlobOK w0 nG) : PCalls (GG w0 nG) 83 spTokens := tokens_ok (cAll1 hg) ⟨⟨all_ok, spAll_mono⟩, trivial⟩
end Go.PM.Lex
end
