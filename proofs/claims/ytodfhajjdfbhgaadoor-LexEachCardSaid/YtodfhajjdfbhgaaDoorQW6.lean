/- A part of the proof: plain logic, contracts and laws over the given program. -/
import Derived.Test.YtodfhajjdfbhgaaDoorQW5
import Derived.Test.YtodfhajjdfbhgaaDoorQSp2
set_option linter.unusedVariables false
set_option linter.unusedSimpArgs false
set_option linter.all false
set_option maxRecDepth 100000
set_option maxHeartbeats 4000000
namespace Go.PM.Lex
open Go.Proofs
variable {w0 : World} {nG : Nat}
theorem orU (n : Fin 256) : bitsOf .or .u8 (n.val : Int) 32 = ((n.val ||| 32 : Nat) : Int) := by rw [bitsOf_eq]; revert n; decide +kernel
theorem orH : ∀ n : Fin 256, (97 ≤ (n.val ||| 32) ∧ (n.val ||| 32) ≤ 102) ↔ ((97 ≤ n.val ∧ n.val ≤ 102) ∨ (65 ≤ n.val ∧ n.val ≤ 70)) := by decide +kernel
theorem or_hex (b : UInt8) : (97 ≤ bitsOf .or .u8 (b.toNat : Int) 32 ∧ bitsOf .or .u8 (b.toNat : Int) 32 ≤ 102) ↔ ((97 ≤ b.toNat ∧ b.toNat ≤ 102) ∨ (65 ≤ b.toNat ∧ b.toNat ≤ 70)) := by
  have h2 := orU ⟨b.toNat, b.toNat_lt⟩
  have h3 := orH ⟨b.toNat, b.toNat_lt⟩
  simp only at h2 h3
  rw [h2]
  omega
theorem takeWhile_take (p : UInt8 → Bool) : ∀ l : Bs, l.takeWhile p = l.take (l.takeWhile p).length
  | [] => rfl
  | x :: l => by
    by_cases h : p x = true
    · simp only [List.takeWhile_cons, h, if_true, List.length_cons, List.take_succ_cons]; rw [← takeWhile_take p l]
    · simp [List.takeWhile_cons, h]
theorem takeWhile_all (p : UInt8 → Bool) : ∀ l : Bs, (l.takeWhile p).all p = true
  | [] => rfl
  | x :: l => by
    by_cases h : p x = true
    · simp only [List.takeWhile_cons, h, if_true, List.all_cons, takeWhile_all p l, Bool.and_self]
    · simp [List.takeWhile_cons, h]
theorem takeWhile_le (p : UInt8 → Bool) (l : Bs) : (l.takeWhile p).length ≤ l.length := List.Sublist.length_le (List.takeWhile_sublist p)
theorem drop_at {s : Bs} {e : Nat} (h : e < s.length) : s.drop e = s.getD e 0 :: s.drop (e + 1) := by
  rw [List.drop_eq_getElem_cons h]; simp [List.getD, h]
noncomputable def tblNumber : Tbl := [(26, spHasPrefix), (32, spDigit), (49, spParseUint), (29, spPeek), (31, spLetter)]
theorem number_ok (ht : TblOK (GG w0 nG) tblNumber) : PCalls (GG w0 nG) 34 spNumber := by
  refine pcalls tab_ok mixed ht Tryd.func34 rfl (by kernel_rfl) (by kernel_rfl) ?_
  intro args σ K h
  unfold spNumber at h
  split at h
  · rename_i t s a
    obtain ⟨⟨h0, h1, hs⟩, h⟩ := h
    obtain ⟨a, rfl⟩ : ∃ n : Nat, a = n := ⟨a.toNat, by omega⟩
    simp only [Int.toNat_natCast] at h
    refine ⟨loopsOf [(5, ⟨[5], [0, 2, 3, 4, 6], fun vs σ => σ = ⟨[.cells t [.d (.str s), .d (.int .i64 a)], .cells 31 [.d (.int .u8 0), .d (.str []), .d (.int .i64 0), .d (.int .i64 0), .d (.int .i64 0)], .cells 42 [.d (.int .i64 0), .d (.int .i64 0)]], [], 0⟩ ∧
      ∃ e : Nat, vs = [.d (.int .i64 e)] ∧ a + (if isHex (s.drop a) then 2 else 0) ≤ e ∧ e ≤ s.length ∧ e - (a + (if isHex (s.drop a) then 2 else 0)) + ((s.drop e).takeWhile (digB (isHex (s.drop a)))).length = (numDigits (s.drop a)).length, muI s.length⟩)], 1, false, by simp, Nat.le_of_ble_eq_true rfl, ?_⟩
    have hbad : numberF (s.drop a) = none → K (.ret (.tuple [tokPV 0 [] 0 0 0, fltPV a 142])) ⟨[.cells t [.d (.str s), .d (.int .i64 a)]], [], 0⟩ := fun g => by
      have e1 : numberR a (s.drop a) = .bad a 142 := by rw [numberR, g]
      rw [e1] at h; exact h
    have hgood : ∀ n : Nat, numberF (s.drop a) = some n → K (.ret (.tuple [tokPV 2 [] (IntKind.i64.wrap n) a ((a + numLen (s.drop a) : Nat) : Int), fltPV 0 0])) ⟨[.cells t [.d (.str s), .d (.int .i64 a)]], [], 0⟩ := fun n g => by
      have e1 : numberR a (s.drop a) = .tok ⟨2, [], IntKind.i64.wrap n, a, a + numLen (s.drop a)⟩ := by rw [numberR, g]
      rw [e1] at h; exact h
    conv => whnf
    refine ⟨by omega, by omega, ?_⟩
    conv => whnf
    rw [cut_end]
    refine CondP.intro (fun hx => ?_) (fun hx => ?_)
    · have hx' : isHex (s.drop a) = true := hx
      simp only [hx', if_true, Bool.false_eq_true, if_false]
      have hnd : numDigits (s.drop a) = (s.drop (a + 2)).takeWhile (digB true) := by simp [numDigits, hx', List.drop_drop]
      have hnl : numLen (s.drop a) = 2 + (numDigits (s.drop a)).length := by simp [numLen, hx']
      have hl2 := (hasPrefix_two hx).1
      rw [List.length_drop] at hl2
      conv => whnf
      refine Or.inl ⟨InR.i64 (by omega) (by omega), ?_⟩
      conv => whnf
      refine ⟨⟨rfl, (a + 2), rfl, by omega, by omega, by rw [hnd]; simp⟩, ?_⟩
      intro vs σ1 hI
      obtain ⟨rfl, e, rfl, he1, he2, hn⟩ := hI
      have htail : ∀ (g : ((s.drop e).takeWhile (digB true)).length = 0), e = a + numLen (s.drop a) ∧ numDigits (s.drop a) = cut s (a + 2) e := fun g => by
        rw [g] at hn
        refine ⟨by omega, ?_⟩
        rw [cut_mid, show e - (a + 2) = (numDigits (s.drop a)).length by omega, hnd]
        exact takeWhile_take _ _
      have hall : (numDigits (s.drop a)).all (digB true) = true := by rw [hnd]; exact takeWhile_all _ _
      have hnlen : (numDigits (s.drop a)).length ≤ s.length := by
        rw [hnd]; have := takeWhile_le (digB true) (s.drop (a + 2)); rw [List.length_drop] at this; omega
      conv => whnf
      refine CondP.dec (fun h2 => ?_) (fun h2 => ?_)
      · have h2' : e < s.length := by omega
        have hdr := drop_at h2'
        have hb := (s.getD e 0).toNat_lt
        have hstep : digB true (s.getD e 0) = true → e + 1 - (a + 2) + ((s.drop (e + 1)).takeWhile (digB true)).length = (numDigits (s.drop a)).length := fun g => by
          rw [← hn, hdr, List.takeWhile_cons, if_pos g, List.length_cons]; omega
        have hstop : digB true (s.getD e 0) = false → ((s.drop e).takeWhile (digB true)).length = 0 := fun g => by
          rw [hdr, List.takeWhile_cons, if_neg (by rw [g]; simp)]; rfl
        conv => whnf
        refine ⟨by omega, by omega, ?_⟩
        conv => whnf
        refine Or.inl ⟨InR.i32 (by omega) (by simp only [Int.toNat_natCast]; omega), ?_⟩
        conv => whnf
        refine CondP.intro (fun h3 => ?_) (fun h3 => ?_)
        · conv => whnf
          refine Or.inl ⟨InR.i64 (by omega) (by omega), ?_⟩
          conv => whnf
          refine ⟨⟨rfl, e + 1, rfl, by omega, by omega, hstep (by have h3' : isDigit ((s.getD e 0).toNat : Int) = true := h3; simp only [digB, h3', Bool.true_or])⟩, ?_⟩
          exact (show ((s.length : Int) - ((e : Int) + 1)).toNat < ((s.length : Int) - (e : Int)).toNat by omega)
        · have h3' : isDigit ((s.getD e 0).toNat : Int) = false := h3
          conv => whnf
          have hoh := or_hex (s.getD e 0)
          refine CondP.dec (fun h4 => ?_) (fun h4 => ?_)
          · conv => whnf
            refine CondP.dec (fun h5 => ?_) (fun h5 => ?_)
            · have hd : digB true (s.getD e 0) = true := by
                have := hoh.1 ⟨h4, h5⟩
                simp only [digB, h3', Bool.false_or, Bool.true_and, decide_eq_true_eq]; omega
              conv => whnf
              refine Or.inl ⟨InR.i64 (by omega) (by omega), ?_⟩
              conv => whnf
              refine ⟨⟨rfl, e + 1, rfl, by omega, by omega, hstep hd⟩, ?_⟩
              exact (show ((s.length : Int) - ((e : Int) + 1)).toNat < ((s.length : Int) - (e : Int)).toNat by omega)
            · have hd : digB true (s.getD e 0) = false := by
                have : ¬ ((97 ≤ (s.getD e 0).toNat ∧ (s.getD e 0).toNat ≤ 102) ∨ (65 ≤ (s.getD e 0).toNat ∧ (s.getD e 0).toNat ≤ 70)) := fun g => h5 (hoh.2 g).2
                simp only [digB, h3', Bool.false_or, Bool.true_and, decide_eq_false_iff_not]; exact this
              have hst := htail (hstop hd)
              conv => whnf
              refine ⟨by omega, by omega, by omega, ?_⟩
              conv => whnf
              have hcut : cut s (((a : Int) + 2)).toNat ((e : Int)).toNat = numDigits (s.drop a) := by rw [hst.2]; congr 1 <;> omega
              refine ⟨true, ⟨⟨?_, ?_⟩, rfl, rfl⟩, fun h5 nn => ?_, fun h5 => ?_⟩
              · exact (congrArg (fun l : Bs => l.all (digB true) = true) hcut).mpr hall
              · exact (congrArg (fun l : Bs => l.length < 4294967281) hcut).mpr (show _ < _ by omega)
              · have h5' : numDigits (s.drop a) = [] ∨ 18446744073709551616 ≤ numV 16 (numDigits (s.drop a)) := by rw [← hcut]; exact h5
                have g5 : numberF (s.drop a) = none := by
                  unfold numberF
                  simp only [hx', if_true, Bool.false_eq_true, if_false]
                  rcases h5' with g | g
                  · rw [if_pos g]
                  · by_cases g0 : numDigits (s.drop a) = []
                    · rw [if_pos g0]
                    · rw [if_neg g0, if_pos g]
                conv => whnf
                refine ⟨⟨by omega, by omega⟩, ?_⟩
                conv => whnf
                (try (refine ⟨rfl, ?_⟩; conv => whnf))
                (try (refine ⟨rfl, ?_⟩; conv => whnf))
                exact hbad g5
              · have h5' : ¬ (numDigits (s.drop a) = [] ∨ 18446744073709551616 ≤ numV 16 (numDigits (s.drop a))) := by rw [← hcut]; exact h5
                simp only [not_or] at h5'
                have hpr := pk_rng (s.drop (a + numLen (s.drop a)))
                have hpr' := pk_rng (s.drop ((e : Int)).toNat)
                have hee : (pk (s.drop ((e : Int)).toNat)).1 = (pk ((s.drop a).drop (numLen (s.drop a)))).1 := by rw [List.drop_drop, ← hst.1]; rfl
                have g6 : numberF (s.drop a) = if isLetter (pk ((s.drop a).drop (numLen (s.drop a)))).1 = true ∨ isDigit (pk ((s.drop a).drop (numLen (s.drop a)))).1 = true ∨ (isHex (s.drop a) = true ∧ 16 < (numDigits (s.drop a)).length) then none else some (numV 16 (numDigits (s.drop a))) := by
                  unfold numberF
                  simp only [hx', if_true, Bool.false_eq_true, if_false]
                  rw [if_neg h5'.1, if_neg h5'.2]
                conv => whnf
                refine ⟨⟨by omega, by omega⟩, ?_⟩
                conv => whnf
                refine ⟨⟨hpr'.1, by omega⟩, ?_⟩
                conv => whnf
                refine CondP.intro (fun h6 => ?_) (fun h6 => ?_)
                · conv => whnf
                  (try (refine ⟨rfl, ?_⟩; conv => whnf))
                  (try (refine ⟨rfl, ?_⟩; conv => whnf))
                  exact hbad (by rw [g6, if_pos (.inl (by rw [← hee]; exact h6))])
                · conv => whnf
                  refine CondP.intro (fun h7 => ?_) (fun h7 => ?_)
                  · conv => whnf
                    (try (refine ⟨rfl, ?_⟩; conv => whnf))
                    (try (refine ⟨rfl, ?_⟩; conv => whnf))
                    exact hbad (by rw [g6, if_pos (.inr (.inl (by rw [← hee]; exact h7)))])
                  · have g7 : ¬ isLetter (pk ((s.drop a).drop (numLen (s.drop a)))).1 = true ∧ ¬ isDigit (pk ((s.drop a).drop (numLen (s.drop a)))).1 = true := by
                      rw [← hee]; exact ⟨by have h6' : isLetter (pk (s.drop ((e : Int)).toNat)).1 = false := h6; rw [h6']; simp, by have h7' : isDigit (pk (s.drop ((e : Int)).toNat)).1 = false := h7; rw [h7']; simp⟩
                    conv => whnf
                    refine Or.inl ⟨InR.i64 (by omega) (by omega), ?_⟩
                    conv => whnf
                    refine CondP.dec (fun h8 => ?_) (fun h8 => ?_)
                    · conv => whnf
                      (try (refine ⟨rfl, ?_⟩; conv => whnf))
                      (try (refine ⟨rfl, ?_⟩; conv => whnf))
                      exact hbad (by rw [g6, if_pos (.inr (.inr ⟨hx', by omega⟩))])
                    · conv => whnf
                      have g9 := hgood _ (by rw [g6, if_neg (by simp only [not_or]; exact ⟨g7.1, g7.2, by omega⟩)])
                      rw [← hst.1, ← hcut] at g9
                      exact Or.inr g9
          · have hd : digB true (s.getD e 0) = false := by
              have : ¬ ((97 ≤ (s.getD e 0).toNat ∧ (s.getD e 0).toNat ≤ 102) ∨ (65 ≤ (s.getD e 0).toNat ∧ (s.getD e 0).toNat ≤ 70)) := fun g => h4 (hoh.2 g).1
              simp only [digB, h3', Bool.false_or, Bool.true_and, decide_eq_false_iff_not]; exact this
            have hst := htail (hstop hd)
            conv => whnf
            refine ⟨by omega, by omega, by omega, ?_⟩
            conv => whnf
            have hcut : cut s (((a : Int) + 2)).toNat ((e : Int)).toNat = numDigits (s.drop a) := by rw [hst.2]; congr 1 <;> omega
            refine ⟨true, ⟨⟨?_, ?_⟩, rfl, rfl⟩, fun h5 nn => ?_, fun h5 => ?_⟩
            · exact (congrArg (fun l : Bs => l.all (digB true) = true) hcut).mpr hall
            · exact (congrArg (fun l : Bs => l.length < 4294967281) hcut).mpr (show _ < _ by omega)
            · have h5' : numDigits (s.drop a) = [] ∨ 18446744073709551616 ≤ numV 16 (numDigits (s.drop a)) := by rw [← hcut]; exact h5
              have g5 : numberF (s.drop a) = none := by
                unfold numberF
                simp only [hx', if_true, Bool.false_eq_true, if_false]
                rcases h5' with g | g
                · rw [if_pos g]
                · by_cases g0 : numDigits (s.drop a) = []
                  · rw [if_pos g0]
                  · rw [if_neg g0, if_pos g]
              conv => whnf
              refine ⟨⟨by omega, by omega⟩, ?_⟩
              conv => whnf
              (try (refine ⟨rfl, ?_⟩; conv => whnf))
              (try (refine ⟨rfl, ?_⟩; conv => whnf))
              exact hbad g5
            · have h5' : ¬ (numDigits (s.drop a) = [] ∨ 18446744073709551616 ≤ numV 16 (numDigits (s.drop a))) := by rw [← hcut]; exact h5
              simp only [not_or] at h5'
              have hpr := pk_rng (s.drop (a + numLen (s.drop a)))
              have hpr' := pk_rng (s.drop ((e : Int)).toNat)
              have hee : (pk (s.drop ((e : Int)).toNat)).1 = (pk ((s.drop a).drop (numLen (s.drop a)))).1 := by rw [List.drop_drop, ← hst.1]; rfl
              have g6 : numberF (s.drop a) = if isLetter (pk ((s.drop a).drop (numLen (s.drop a)))).1 = true ∨ isDigit (pk ((s.drop a).drop (numLen (s.drop a)))).1 = true ∨ (isHex (s.drop a) = true ∧ 16 < (numDigits (s.drop a)).length) then none else some (numV 16 (numDigits (s.drop a))) := by
                unfold numberF
                simp only [hx', if_true, Bool.false_eq_true, if_false]
                rw [if_neg h5'.1, if_neg h5'.2]
              conv => whnf
              refine ⟨⟨by omega, by omega⟩, ?_⟩
              conv => whnf
              refine ⟨⟨hpr'.1, by omega⟩, ?_⟩
              conv => whnf
              refine CondP.intro (fun h6 => ?_) (fun h6 => ?_)
              · conv => whnf
                (try (refine ⟨rfl, ?_⟩; conv => whnf))
                (try (refine ⟨rfl, ?_⟩; conv => whnf))
                exact hbad (by rw [g6, if_pos (.inl (by rw [← hee]; exact h6))])
              · conv => whnf
                refine CondP.intro (fun h7 => ?_) (fun h7 => ?_)
                · conv => whnf
                  (try (refine ⟨rfl, ?_⟩; conv => whnf))
                  (try (refine ⟨rfl, ?_⟩; conv => whnf))
                  exact hbad (by rw [g6, if_pos (.inr (.inl (by rw [← hee]; exact h7)))])
                · have g7 : ¬ isLetter (pk ((s.drop a).drop (numLen (s.drop a)))).1 = true ∧ ¬ isDigit (pk ((s.drop a).drop (numLen (s.drop a)))).1 = true := by
                    rw [← hee]; exact ⟨by have h6' : isLetter (pk (s.drop ((e : Int)).toNat)).1 = false := h6; rw [h6']; simp, by have h7' : isDigit (pk (s.drop ((e : Int)).toNat)).1 = false := h7; rw [h7']; simp⟩
                  conv => whnf
                  refine Or.inl ⟨InR.i64 (by omega) (by omega), ?_⟩
                  conv => whnf
                  refine CondP.dec (fun h8 => ?_) (fun h8 => ?_)
                  · conv => whnf
                    (try (refine ⟨rfl, ?_⟩; conv => whnf))
                    (try (refine ⟨rfl, ?_⟩; conv => whnf))
                    exact hbad (by rw [g6, if_pos (.inr (.inr ⟨hx', by omega⟩))])
                  · conv => whnf
                    have g9 := hgood _ (by rw [g6, if_neg (by simp only [not_or]; exact ⟨g7.1, g7.2, by omega⟩)])
                    rw [← hst.1, ← hcut] at g9
                    exact Or.inr g9
      · have hd0 : ((s.drop e).takeWhile (digB true)).length = 0 := by rw [List.drop_eq_nil_of_le (by omega)]; rfl
        have hst := htail (hd0)
        conv => whnf
        refine ⟨by omega, by omega, by omega, ?_⟩
        conv => whnf
        have hcut : cut s (((a : Int) + 2)).toNat ((e : Int)).toNat = numDigits (s.drop a) := by rw [hst.2]; congr 1 <;> omega
        refine ⟨true, ⟨⟨?_, ?_⟩, rfl, rfl⟩, fun h5 nn => ?_, fun h5 => ?_⟩
        · exact (congrArg (fun l : Bs => l.all (digB true) = true) hcut).mpr hall
        · exact (congrArg (fun l : Bs => l.length < 4294967281) hcut).mpr (show _ < _ by omega)
        · have h5' : numDigits (s.drop a) = [] ∨ 18446744073709551616 ≤ numV 16 (numDigits (s.drop a)) := by rw [← hcut]; exact h5
          have g5 : numberF (s.drop a) = none := by
            unfold numberF
            simp only [hx', if_true, Bool.false_eq_true, if_false]
            rcases h5' with g | g
            · rw [if_pos g]
            · by_cases g0 : numDigits (s.drop a) = []
              · rw [if_pos g0]
              · rw [if_neg g0, if_pos g]
          conv => whnf
          refine ⟨⟨by omega, by omega⟩, ?_⟩
          conv => whnf
          (try (refine ⟨rfl, ?_⟩; conv => whnf))
          (try (refine ⟨rfl, ?_⟩; conv => whnf))
          exact hbad g5
        · have h5' : ¬ (numDigits (s.drop a) = [] ∨ 18446744073709551616 ≤ numV 16 (numDigits (s.drop a))) := by rw [← hcut]; exact h5
          simp only [not_or] at h5'
          have hpr := pk_rng (s.drop (a + numLen (s.drop a)))
          have hpr' := pk_rng (s.drop ((e : Int)).toNat)
          have hee : (pk (s.drop ((e : Int)).toNat)).1 = (pk ((s.drop a).drop (numLen (s.drop a)))).1 := by rw [List.drop_drop, ← hst.1]; rfl
          have g6 : numberF (s.drop a) = if isLetter (pk ((s.drop a).drop (numLen (s.drop a)))).1 = true ∨ isDigit (pk ((s.drop a).drop (numLen (s.drop a)))).1 = true ∨ (isHex (s.drop a) = true ∧ 16 < (numDigits (s.drop a)).length) then none else some (numV 16 (numDigits (s.drop a))) := by
            unfold numberF
            simp only [hx', if_true, Bool.false_eq_true, if_false]
            rw [if_neg h5'.1, if_neg h5'.2]
          conv => whnf
          refine ⟨⟨by omega, by omega⟩, ?_⟩
          conv => whnf
          refine ⟨⟨hpr'.1, by omega⟩, ?_⟩
          conv => whnf
          refine CondP.intro (fun h6 => ?_) (fun h6 => ?_)
          · conv => whnf
            (try (refine ⟨rfl, ?_⟩; conv => whnf))
            (try (refine ⟨rfl, ?_⟩; conv => whnf))
            exact hbad (by rw [g6, if_pos (.inl (by rw [← hee]; exact h6))])
          · conv => whnf
            refine CondP.intro (fun h7 => ?_) (fun h7 => ?_)
            · conv => whnf
              (try (refine ⟨rfl, ?_⟩; conv => whnf))
              (try (refine ⟨rfl, ?_⟩; conv => whnf))
              exact hbad (by rw [g6, if_pos (.inr (.inl (by rw [← hee]; exact h7)))])
            · have g7 : ¬ isLetter (pk ((s.drop a).drop (numLen (s.drop a)))).1 = true ∧ ¬ isDigit (pk ((s.drop a).drop (numLen (s.drop a)))).1 = true := by
                rw [← hee]; exact ⟨by have h6' : isLetter (pk (s.drop ((e : Int)).toNat)).1 = false := h6; rw [h6']; simp, by have h7' : isDigit (pk (s.drop ((e : Int)).toNat)).1 = false := h7; rw [h7']; simp⟩
              conv => whnf
              refine Or.inl ⟨InR.i64 (by omega) (by omega), ?_⟩
              conv => whnf
              refine CondP.dec (fun h8 => ?_) (fun h8 => ?_)
              · conv => whnf
                (try (refine ⟨rfl, ?_⟩; conv => whnf))
                (try (refine ⟨rfl, ?_⟩; conv => whnf))
                exact hbad (by rw [g6, if_pos (.inr (.inr ⟨hx', by omega⟩))])
              · conv => whnf
                have g9 := hgood _ (by rw [g6, if_neg (by simp only [not_or]; exact ⟨g7.1, g7.2, by omega⟩)])
                rw [← hst.1, ← hcut] at g9
                exact Or.inr g9
    · have hx' : isHex (s.drop a) = false := hx
      simp only [hx', if_true, Bool.false_eq_true, if_false]
      have hnd : numDigits (s.drop a) = (s.drop (a + 0)).takeWhile (digB false) := by simp [numDigits, hx', List.drop_drop]
      have hnl : numLen (s.drop a) = 0 + (numDigits (s.drop a)).length := by simp [numLen, hx']
      conv => whnf
      refine ⟨⟨rfl, a, rfl, by omega, by omega, by rw [hnd]; simp⟩, ?_⟩
      intro vs σ1 hI
      obtain ⟨rfl, e, rfl, he1, he2, hn⟩ := hI
      have htail : ∀ (g : ((s.drop e).takeWhile (digB false)).length = 0), e = a + numLen (s.drop a) ∧ numDigits (s.drop a) = cut s (a + 0) e := fun g => by
        rw [g] at hn
        refine ⟨by omega, ?_⟩
        rw [cut_mid, show e - (a + 0) = (numDigits (s.drop a)).length by omega, hnd]
        exact takeWhile_take _ _
      have hall : (numDigits (s.drop a)).all (digB false) = true := by rw [hnd]; exact takeWhile_all _ _
      have hnlen : (numDigits (s.drop a)).length ≤ s.length := by
        rw [hnd]; have := takeWhile_le (digB false) (s.drop (a + 0)); rw [List.length_drop] at this; omega
      conv => whnf
      refine CondP.dec (fun h2 => ?_) (fun h2 => ?_)
      · have h2' : e < s.length := by omega
        have hdr := drop_at h2'
        have hb := (s.getD e 0).toNat_lt
        have hstep : digB false (s.getD e 0) = true → e + 1 - (a + 0) + ((s.drop (e + 1)).takeWhile (digB false)).length = (numDigits (s.drop a)).length := fun g => by
          rw [← hn, hdr, List.takeWhile_cons, if_pos g, List.length_cons]; omega
        have hstop : digB false (s.getD e 0) = false → ((s.drop e).takeWhile (digB false)).length = 0 := fun g => by
          rw [hdr, List.takeWhile_cons, if_neg (by rw [g]; simp)]; rfl
        conv => whnf
        refine ⟨by omega, by omega, ?_⟩
        conv => whnf
        refine Or.inl ⟨InR.i32 (by omega) (by simp only [Int.toNat_natCast]; omega), ?_⟩
        conv => whnf
        refine CondP.intro (fun h3 => ?_) (fun h3 => ?_)
        · conv => whnf
          refine Or.inl ⟨InR.i64 (by omega) (by omega), ?_⟩
          conv => whnf
          refine ⟨⟨rfl, e + 1, rfl, by omega, by omega, hstep (by have h3' : isDigit ((s.getD e 0).toNat : Int) = true := h3; simp only [digB, h3', Bool.true_or])⟩, ?_⟩
          exact (show ((s.length : Int) - ((e : Int) + 1)).toNat < ((s.length : Int) - (e : Int)).toNat by omega)
        · have h3' : isDigit ((s.getD e 0).toNat : Int) = false := h3
          conv => whnf
          have hd : digB false (s.getD e 0) = false := by simp only [digB, h3', Bool.false_and, Bool.or_false]
          have hst := htail (hstop hd)
          conv => whnf
          refine ⟨by omega, by omega, by omega, ?_⟩
          conv => whnf
          have hcut : cut s ((a : Int)).toNat ((e : Int)).toNat = numDigits (s.drop a) := by rw [hst.2]; congr 1 <;> omega
          refine ⟨false, ⟨⟨?_, ?_⟩, rfl, rfl⟩, fun h5 nn => ?_, fun h5 => ?_⟩
          · exact (congrArg (fun l : Bs => l.all (digB false) = true) hcut).mpr hall
          · exact (congrArg (fun l : Bs => l.length < 4294967281) hcut).mpr (show _ < _ by omega)
          · have h5' : numDigits (s.drop a) = [] ∨ 9223372036854775808 ≤ numV 10 (numDigits (s.drop a)) := by rw [← hcut]; exact h5
            have g5 : numberF (s.drop a) = none := by
              unfold numberF
              simp only [hx', if_true, Bool.false_eq_true, if_false]
              rcases h5' with g | g
              · rw [if_pos g]
              · by_cases g0 : numDigits (s.drop a) = []
                · rw [if_pos g0]
                · rw [if_neg g0, if_pos g]
            conv => whnf
            refine ⟨⟨by omega, by omega⟩, ?_⟩
            conv => whnf
            (try (refine ⟨rfl, ?_⟩; conv => whnf))
            (try (refine ⟨rfl, ?_⟩; conv => whnf))
            exact hbad g5
          · have h5' : ¬ (numDigits (s.drop a) = [] ∨ 9223372036854775808 ≤ numV 10 (numDigits (s.drop a))) := by rw [← hcut]; exact h5
            simp only [not_or] at h5'
            have hpr := pk_rng (s.drop (a + numLen (s.drop a)))
            have hpr' := pk_rng (s.drop ((e : Int)).toNat)
            have hee : (pk (s.drop ((e : Int)).toNat)).1 = (pk ((s.drop a).drop (numLen (s.drop a)))).1 := by rw [List.drop_drop, ← hst.1]; rfl
            have g6 : numberF (s.drop a) = if isLetter (pk ((s.drop a).drop (numLen (s.drop a)))).1 = true ∨ isDigit (pk ((s.drop a).drop (numLen (s.drop a)))).1 = true ∨ (isHex (s.drop a) = true ∧ 16 < (numDigits (s.drop a)).length) then none else some (numV 10 (numDigits (s.drop a))) := by
              unfold numberF
              simp only [hx', if_true, Bool.false_eq_true, if_false]
              rw [if_neg h5'.1, if_neg h5'.2]
            conv => whnf
            refine ⟨⟨by omega, by omega⟩, ?_⟩
            conv => whnf
            refine ⟨⟨hpr'.1, by omega⟩, ?_⟩
            conv => whnf
            refine CondP.intro (fun h6 => ?_) (fun h6 => ?_)
            · conv => whnf
              (try (refine ⟨rfl, ?_⟩; conv => whnf))
              (try (refine ⟨rfl, ?_⟩; conv => whnf))
              exact hbad (by rw [g6, if_pos (.inl (by rw [← hee]; exact h6))])
            · conv => whnf
              refine CondP.intro (fun h7 => ?_) (fun h7 => ?_)
              · conv => whnf
                (try (refine ⟨rfl, ?_⟩; conv => whnf))
                (try (refine ⟨rfl, ?_⟩; conv => whnf))
                exact hbad (by rw [g6, if_pos (.inr (.inl (by rw [← hee]; exact h7)))])
              · have g7 : ¬ isLetter (pk ((s.drop a).drop (numLen (s.drop a)))).1 = true ∧ ¬ isDigit (pk ((s.drop a).drop (numLen (s.drop a)))).1 = true := by
                  rw [← hee]; exact ⟨by have h6' : isLetter (pk (s.drop ((e : Int)).toNat)).1 = false := h6; rw [h6']; simp, by have h7' : isDigit (pk (s.drop ((e : Int)).toNat)).1 = false := h7; rw [h7']; simp⟩
                conv => whnf
                have g9 := hgood _ (by rw [g6, if_neg (by simp only [not_or]; exact ⟨g7.1, g7.2, by rw [hx']; simp⟩)])
                rw [← hst.1, ← hcut] at g9
                exact Or.inr g9
      · have hd0 : ((s.drop e).takeWhile (digB false)).length = 0 := by rw [List.drop_eq_nil_of_le (by omega)]; rfl
        have hst := htail (hd0)
        conv => whnf
        refine ⟨by omega, by omega, by omega, ?_⟩
        conv => whnf
        have hcut : cut s ((a : Int)).toNat ((e : Int)).toNat = numDigits (s.drop a) := by rw [hst.2]; congr 1 <;> omega
        refine ⟨false, ⟨⟨?_, ?_⟩, rfl, rfl⟩, fun h5 nn => ?_, fun h5 => ?_⟩
        · exact (congrArg (fun l : Bs => l.all (digB false) = true) hcut).mpr hall
        · exact (congrArg (fun l : Bs => l.length < 4294967281) hcut).mpr (show _ < _ by omega)
        · have h5' : numDigits (s.drop a) = [] ∨ 9223372036854775808 ≤ numV 10 (numDigits (s.drop a)) := by rw [← hcut]; exact h5
          have g5 : numberF (s.drop a) = none := by
            unfold numberF
            simp only [hx', if_true, Bool.false_eq_true, if_false]
            rcases h5' with g | g
            · rw [if_pos g]
            · by_cases g0 : numDigits (s.drop a) = []
              · rw [if_pos g0]
              · rw [if_neg g0, if_pos g]
          conv => whnf
          refine ⟨⟨by omega, by omega⟩, ?_⟩
          conv => whnf
          (try (refine ⟨rfl, ?_⟩; conv => whnf))
          (try (refine ⟨rfl, ?_⟩; conv => whnf))
          exact hbad g5
        · have h5' : ¬ (numDigits (s.drop a) = [] ∨ 9223372036854775808 ≤ numV 10 (numDigits (s.drop a))) := by rw [← hcut]; exact h5
          simp only [not_or] at h5'
          have hpr := pk_rng (s.drop (a + numLen (s.drop a)))
          have hpr' := pk_rng (s.drop ((e : Int)).toNat)
          have hee : (pk (s.drop ((e : Int)).toNat)).1 = (pk ((s.drop a).drop (numLen (s.drop a)))).1 := by rw [List.drop_drop, ← hst.1]; rfl
          have g6 : numberF (s.drop a) = if isLetter (pk ((s.drop a).drop (numLen (s.drop a)))).1 = true ∨ isDigit (pk ((s.drop a).drop (numLen (s.drop a)))).1 = true ∨ (isHex (s.drop a) = true ∧ 16 < (numDigits (s.drop a)).length) then none else some (numV 10 (numDigits (s.drop a))) := by
            unfold numberF
            simp only [hx', if_true, Bool.false_eq_true, if_false]
            rw [if_neg h5'.1, if_neg h5'.2]
          conv => whnf
          refine ⟨⟨by omega, by omega⟩, ?_⟩
          conv => whnf
          refine ⟨⟨hpr'.1, by omega⟩, ?_⟩
          conv => whnf
          refine CondP.intro (fun h6 => ?_) (fun h6 => ?_)
          · conv => whnf
            (try (refine ⟨rfl, ?_⟩; conv => whnf))
            (try (refine ⟨rfl, ?_⟩; conv => whnf))
            exact hbad (by rw [g6, if_pos (.inl (by rw [← hee]; exact h6))])
          · conv => whnf
            refine CondP.intro (fun h7 => ?_) (fun h7 => ?_)
            · conv => whnf
              (try (refine ⟨rfl, ?_⟩; conv => whnf))
              (try (refine ⟨rfl, ?_⟩; conv => whnf))
              exact hbad (by rw [g6, if_pos (.inr (.inl (by rw [← hee]; exact h7)))])
            · have g7 : ¬ isLetter (pk ((s.drop a).drop (numLen (s.drop a)))).1 = true ∧ ¬ isDigit (pk ((s.drop a).drop (numLen (s.drop a)))).1 = true := by
                rw [← hee]; exact ⟨by have h6' : isLetter (pk (s.drop ((e : Int)).toNat)).1 = false := h6; rw [h6']; simp, by have h7' : isDigit (pk (s.drop ((e : Int)).toNat)).1 = false := h7; rw [h7']; simp⟩
              conv => whnf
              have g9 := hgood _ (by rw [g6, if_neg (by simp only [not_or]; exact ⟨g7.1, g7.2, by rw [hx']; simp⟩)])
              rw [← hst.1, ← hcut] at g9
              exact Or.inr g9
  · exact h.elim
end Go.PM.Lex
