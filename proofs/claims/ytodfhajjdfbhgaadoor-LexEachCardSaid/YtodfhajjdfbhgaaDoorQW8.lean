/- A part of the proof: plain logic, contracts and laws over the given program. -/
import Derived.Test.YtodfhajjdfbhgaaDoorQW7
set_option linter.unusedVariables false
set_option linter.unusedSimpArgs false
set_option linter.all false
set_option maxRecDepth 100000
set_option maxHeartbeats 4000000
namespace Go.PM.Lex
open Go.Proofs
variable {w0 : World} {nG : Nat}
theorem sign_le (r : Bs) (h : 0 < r.length) : signF r ≤ r.length ∧ signF r ≤ 2 := by
  unfold signF
  split
  · rename_i h1
    simp only [twos, List.any_cons, List.any_nil, Bool.or_false, Bool.or_eq_true] at h1
    rcases h1 with h1 | h1 | h1 | h1 | h1
    all_goals (have := (hasPrefix_two h1).1; omega)
  · split <;> omega
theorem nextF_eq (a : Nat) (r : Bs) (room : Bool) : nextF a r room = if signF r = 0 ∧ (pk r).1 ≠ 34 ∧ isLetter (pk r).1 = false ∧ isDigit (pk r).1 = false then .bad a 140
  else if room = false then .bad a 3
  else if 0 < signF r then .tok ⟨4, r.take (signF r), 0, a, a + signF r⟩
  else if (pk r).1 = 34 then textR a r
  else if isDigit (pk r).1 = true then numberR a r
  else .tok ⟨1, r.take (nameF r), 0, a, a + nameF r⟩ := rfl
noncomputable def tblNext : Tbl := [(29, spPeek), (30, spSign), (31, spLetter), (32, spDigit), (33, spText), (34, spNumber), (35, spName)]
theorem next_ok (ht : TblOK (GG w0 nG) tblNext) : PCalls (GG w0 nG) 21 spNext := by
  refine pcalls tab_ok mixed ht Tryd.func21 rfl (by kernel_rfl) (by kernel_rfl) ?_
  intro args σ K h
  unfold spNext at h
  split at h
  · rename_i room t s a
    obtain ⟨⟨h0, h1, hs⟩, h⟩ := h
    obtain ⟨a, rfl⟩ : ∃ n : Nat, a = n := ⟨a.toNat, by omega⟩
    simp only [Int.toNat_natCast] at h
    have hpr : -1 ≤ (pk (s.drop ((a : Int)).toNat)).1 ∧ (pk (s.drop ((a : Int)).toNat)).1 ≤ 1114111 := pk_rng (s.drop a)
    have hsl := sign_le (s.drop a) (by rw [List.length_drop]; omega)
    rw [List.length_drop] at hsl
    have hbad : ∀ e : Nat, nextF a (s.drop a) room = .bad a e → K (.ret (.tuple [tokPV 0 [] 0 0 0, fltPV a e])) ⟨[.cells t [.d (.str s), .d (.int .i64 a)]], [], 0⟩ := fun e g => by
      rw [g] at h; exact h
    have hsign : ∀ n : Nat, signF (s.drop a) = n → nextF a (s.drop a) room = .tok ⟨4, (s.drop a).take n, 0, a, a + n⟩ → K (.ret (.tuple [tokPV 4 (cut s ((a : Int)).toNat ((a : Int) + (n : Int)).toNat) 0 a ((a : Int) + (n : Int)), fltPV 0 0])) ⟨[.cells t [.d (.str s), .d (.int .i64 a)]], [], 0⟩ := fun n g1 g2 => by
      rw [g2] at h
      rw [cut_mid, show ((a : Int) + (n : Int)).toNat - ((a : Int)).toNat = n by omega]
      exact h
    have hn2 : nextF a (s.drop a) room = .tok ⟨1, (s.drop a).take (nameF (s.drop a)), 0, a, a + nameF (s.drop a)⟩ → K (.ret (.tuple [tokPV 1 ((s.drop a).take (nameF (s.drop a))) 0 a ((a : Int) + (nameF (s.drop a) : Int)), fltPV 0 0])) ⟨[.cells t [.d (.str s), .d (.int .i64 a)]], [], 0⟩ := fun g => by
      rw [g] at h; exact h
    refine ⟨loopsOf [], 1, false, by simp, Nat.le_of_ble_eq_true rfl, ?_⟩
    conv => whnf
    refine ⟨⟨by omega, by omega⟩, ?_⟩
    conv => whnf
    refine ⟨⟨by omega, by omega, by omega⟩, ?_⟩
    conv => whnf
    generalize hc0 : (pk (s.drop ((a : Int)).toNat)).1 = c at hpr ⊢
    have hc : (pk (s.drop a)).1 = c := hc0
    generalize hn0 : signF (s.drop ((a : Int)).toNat) = n
    have hn : signF (s.drop a) = n := hn0
    rw [hn] at hsl
    refine CondP.dec (fun h2 => ?_) (fun h2 => ?_)
    · obtain rfl : n = 0 := by omega
      conv => whnf
      refine CondP.ndec (fun h3 => ?_) (fun h3 => ?_)
      · conv => whnf
        refine ⟨⟨by omega, by omega⟩, ?_⟩
        conv => whnf
        refine CondP.intro (fun h4 => ?_) (fun h4 => ?_)
        · have h4' : isLetter c = false := by simpa using h4
          conv => whnf
          refine CondP.intro (fun h5 => ?_) (fun h5 => ?_)
          · have h5' : isDigit c = false := by simpa using h5
            conv => whnf
            (try (refine ⟨rfl, ?_⟩; conv => whnf))
            (try (refine ⟨rfl, ?_⟩; conv => whnf))
            exact hbad 140 (by rw [nextF_eq, hn, hc, if_pos ⟨rfl, h3, h4', h5'⟩])
          · have h5' : isDigit c = true := by simpa using h5
            have hno : ¬ (0 = 0 ∧ c ≠ 34 ∧ isLetter c = false ∧ isDigit c = false) := fun g => by rw [h5'] at g; simp at g
            cases room with
            | false =>
              conv => whnf
              (try (refine ⟨rfl, ?_⟩; conv => whnf))
              (try (refine ⟨rfl, ?_⟩; conv => whnf))
              exact hbad 3 (by rw [nextF_eq, hn, hc, if_neg hno, if_pos rfl])
            
            | true =>
              conv => whnf
              refine CondP.dec (fun h6 => ?_) (fun h6 => ?_)
              · exact absurd h6 (by simpa using h3)
              · conv => whnf
                refine CondP.intro (fun h7 => ?_) (fun h7 => ?_)
                · conv => whnf
                  refine ⟨⟨by omega, by omega, by omega⟩, ?_⟩
                  conv => whnf
                  have g : nextF a (s.drop a) true = numberR a (s.drop a) := by
                    rw [nextF_eq, hn, hc, if_neg hno, if_neg (by simp), if_neg (by omega), if_neg h3, if_pos h5']
                  rw [g] at h
                  exact h
                · rw [h5'] at h7; cases h7
        · have h4' : isLetter c = true := by simpa using h4
          have h5' : isDigit c = false := by
            have h4'' : (c = 95 ∨ 128 ≤ c ∨ (97 ≤ c ∧ c ≤ 122) ∨ (65 ≤ c ∧ c ≤ 90)) := by simpa [isLetter] using h4'
            simp only [isDigit, decide_eq_false_iff_not]; omega
          have hno : ¬ (0 = 0 ∧ c ≠ 34 ∧ isLetter c = false ∧ isDigit c = false) := fun g => by rw [h4'] at g; simp at g
          cases room with
          | false =>
            conv => whnf
            (try (refine ⟨rfl, ?_⟩; conv => whnf))
            (try (refine ⟨rfl, ?_⟩; conv => whnf))
            exact hbad 3 (by rw [nextF_eq, hn, hc, if_neg hno, if_pos rfl])
          
          | true =>
            conv => whnf
            refine CondP.dec (fun h6 => ?_) (fun h6 => ?_)
            · exact absurd h6 (by simpa using h3)
            · conv => whnf
              refine CondP.intro (fun h7 => ?_) (fun h7 => ?_)
              · rw [h5'] at h7; cases h7
              · conv => whnf
                refine ⟨⟨by omega, by omega, by omega⟩, ?_⟩
                conv => whnf
                exact hn2 (by rw [nextF_eq, hn, hc, if_neg hno, if_neg (by simp), if_neg (by omega), if_neg h3, if_neg (by rw [h5']; simp)])
      · obtain rfl : c = 34 := h3
        have hno : ¬ (0 = 0 ∧ (34 : Int) ≠ 34 ∧ isLetter 34 = false ∧ isDigit 34 = false) := fun g => g.2.1 rfl
        cases room with
        | false =>
          conv => whnf
          (try (refine ⟨rfl, ?_⟩; conv => whnf))
          (try (refine ⟨rfl, ?_⟩; conv => whnf))
          exact hbad 3 (by rw [nextF_eq, hn, hc, if_neg hno, if_pos rfl])
        
        | true =>
          conv => whnf
          refine ⟨⟨by omega, by omega, by omega⟩, ?_⟩
          conv => whnf
          have g : nextF a (s.drop a) true = textR a (s.drop a) := by
            rw [nextF_eq, hn, hc, if_neg hno, if_neg (by simp), if_neg (by omega), if_pos rfl]
          rw [g] at h
          exact h
    · have hno : ¬ (n = 0 ∧ c ≠ 34 ∧ isLetter c = false ∧ isDigit c = false) := fun g => by omega
      cases room with
      | false =>
        conv => whnf
        (try (refine ⟨rfl, ?_⟩; conv => whnf))
        (try (refine ⟨rfl, ?_⟩; conv => whnf))
        exact hbad 3 (by rw [nextF_eq, hn, hc, if_neg hno, if_pos rfl])
      
      | true =>
        conv => whnf
        refine CondP.dec (fun h6 => ?_) (fun h6 => ?_)
        · conv => whnf
          refine Or.inl ⟨InR.i64 (by omega) (by omega), ?_⟩
          conv => whnf
          refine ⟨by omega, by omega, by omega, ?_⟩
          conv => whnf
          refine Or.inl ⟨InR.i64 (by omega) (by omega), ?_⟩
          conv => whnf
          (try (refine ⟨rfl, ?_⟩; conv => whnf))
          (try (refine ⟨rfl, ?_⟩; conv => whnf))
          exact hsign n hn (by rw [nextF_eq, hn, hc, if_neg hno, if_neg (by simp), if_pos (by omega)])
        · omega
  · exact h.elim
end Go.PM.Lex
