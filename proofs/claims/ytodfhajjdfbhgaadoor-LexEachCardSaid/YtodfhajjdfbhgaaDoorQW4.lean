/- A part of the proof: plain logic, contracts and laws over the given program. -/
import Derived.Test.YtodfhajjdfbhgaaDoorQW3
set_option linter.unusedVariables false
set_option linter.unusedSimpArgs false
set_option linter.all false
set_option maxRecDepth 100000
namespace Go.PM.Lex
open Go.Proofs
variable {w0 : World} {nG : Nat}
theorem isLetter_neg : isLetter (-1) = false := by decide
theorem isDigit_neg : isDigit (-1) = false := by decide
theorem nameGo_dot {f : Nat} {r : Bs} (h1 : (pk r).1 = 46) (h2 : isLetter (pk (r.drop 1)).1 = true) : nameGo (f + 1) r = (pk r).2 + nameGo f (r.drop (pk r).2) := by rw [nameGo, if_pos h1, if_pos h2]
theorem nameGo_dotend {f : Nat} {r : Bs} (h1 : (pk r).1 = 46) (h2 : isLetter (pk (r.drop 1)).1 = false) : nameGo (f + 1) r = 0 := by rw [nameGo, if_pos h1, if_neg (by rw [h2]; simp)]
theorem nameGo_on {f : Nat} {r : Bs} (h1 : ¬ (pk r).1 = 46) (h2 : isLetter (pk r).1 = true ∨ isDigit (pk r).1 = true) : nameGo (f + 1) r = (pk r).2 + nameGo f (r.drop (pk r).2) := by rw [nameGo, if_neg h1, if_pos h2]
theorem nameGo_end {f : Nat} {r : Bs} (h1 : ¬ (pk r).1 = 46) (h2 : isLetter (pk r).1 = false) (h3 : isDigit (pk r).1 = false) : nameGo (f + 1) r = 0 := by rw [nameGo, if_neg h1, if_neg (by simp [h2, h3])]
theorem cut_mid {s : Bs} {a b : Nat} : cut s a b = (s.drop a).take (b - a) := by simp [cut, List.drop_take]
noncomputable def tblName : Tbl := [(29, spPeek), (31, spLetter), (32, spDigit)]
theorem name_ok (ht : TblOK (GG w0 nG) tblName) : PCalls (GG w0 nG) 35 spName := by
  refine pcalls tab_ok mixed ht Tryd.func35 rfl (by kernel_rfl) (by kernel_rfl) ?_
  intro args σ K h
  unfold spName at h
  split at h
  · rename_i t s a
    obtain ⟨⟨h0, h1, hs⟩, h⟩ := h
    obtain ⟨a, rfl⟩ : ∃ n : Nat, a = n := ⟨a.toNat, by omega⟩
    simp only [Int.toNat_natCast] at h
    refine ⟨loopsOf [(2, ⟨[3], [0, 2], fun vs σ => σ = ⟨[.cells t [.d (.str s), .d (.int .i64 a)], .cells 31 [.d (.int .u8 0), .d (.str []), .d (.int .i64 0), .d (.int .i64 0), .d (.int .i64 0)]], [], 0⟩ ∧
      ∃ e f : Nat, a ≤ e ∧ e ≤ s.length ∧ vs = [.d (.int .i64 e)] ∧ s.length < e + f ∧ e + nameGo f (s.drop e) = a + nameF (s.drop a), muI s.length⟩)], 1, false, by simp, Nat.le_of_ble_eq_true rfl, ?_⟩
    conv => whnf
    refine ⟨⟨rfl, a, s.length - a + 1, by omega, by omega, rfl, by omega, by simp [nameF]⟩, ?_⟩
    intro vs σ1 hI
    obtain ⟨rfl, e, f, he1, he2, rfl, hf, hn⟩ := hI
    obtain ⟨f, rfl⟩ : ∃ g, f = g + 1 := ⟨f - 1, by omega⟩
    have hpr := pk_rng (s.drop e)
    have hpl := pk_len (s.drop e)
    have hple := pk_le (s.drop e)
    have hp2 := pk_rng (s.drop ((e : Int) + 1).toNat)
    have hend : nameGo (f + 1) (s.drop e) = 0 → K (.ret (tokPV 1 (cut s a e) 0 a e)) ⟨[.cells t [.d (.str s), .d (.int .i64 a)]], [], 0⟩ := fun h3 => by
      have e2 : nameF (s.drop a) = e - a := by rw [h3] at hn; omega
      rw [e2, show (a : Int) + ((e - a : Nat) : Int) = (e : Int) by omega, ← cut_mid] at h
      exact h
    have hgo : ∀ n : Nat, 1 ≤ n → e + n ≤ s.length → nameGo (f + 1) (s.drop e) = n + nameGo f ((s.drop e).drop n) → a ≤ e + n ∧ e + n ≤ s.length ∧ s.length < (e + n) + f ∧ (e + n) + nameGo f (s.drop (e + n)) = a + nameF (s.drop a) := fun n h1 h2 h3 => by
      rw [List.drop_drop] at h3
      exact ⟨by omega, h2, by omega, by rw [← hn, h3]; omega⟩
    conv => whnf
    refine ⟨⟨by omega, by omega⟩, ?_⟩
    conv => whnf
    refine CondP.dec (fun h2 => ?_) (fun h2 => ?_)
    · conv => whnf
      refine Or.inl ⟨InR.i64 (by omega) (by omega), ?_⟩
      conv => whnf
      refine ⟨⟨by omega, by omega⟩, ?_⟩
      conv => whnf
      refine ⟨⟨by omega, by omega⟩, ?_⟩
      conv => whnf
      have hw : ((e : Int) + 1).toNat = e + 1 := by omega
      refine CondP.intro (fun h3 => ?_) (fun h3 => ?_)
      · rw [hw] at h3
        conv => whnf
        refine ⟨by omega, by omega, by omega, ?_⟩
        conv => whnf
        exact hend (nameGo_dotend h2 (by rw [List.drop_drop]; simpa using h3))
      · rw [hw] at h3
        conv => whnf
        have hne : (pk (s.drop e)).1 ≠ -1 := by have : (pk (s.drop e)).1 = 46 := h2; omega
        obtain ⟨g1, g2, g3⟩ := hple hne
        have g2' : e + (pk (s.drop e)).2 ≤ s.length := by rw [List.length_drop] at g2; omega
        refine Or.inl ⟨InR.i64 (by simp only [Int.toNat_natCast]; omega) (by simp only [Int.toNat_natCast]; omega), ?_⟩
        conv => whnf
        obtain ⟨k1, k2, k3, k4⟩ := hgo _ g1 g2' (nameGo_dot h2 (by rw [List.drop_drop]; simpa using h3))
        refine ⟨⟨rfl, e + (pk (s.drop e)).2, f, k1, k2, rfl, k3, k4⟩, ?_⟩
        exact (show ((s.length : Int) - ((e : Int) + ((pk (s.drop e)).2 : Int))).toNat < ((s.length : Int) - (e : Int)).toNat by omega)
    · have h2' : ¬ (pk (s.drop e)).1 = 46 := h2
      have fin : ∀ (h4 : isLetter (pk (s.drop e)).1 = true ∨ isDigit (pk (s.drop e)).1 = true), a ≤ e + (pk (s.drop e)).2 ∧ e + (pk (s.drop e)).2 ≤ s.length ∧ s.length < (e + (pk (s.drop e)).2) + f ∧ (e + (pk (s.drop e)).2) + nameGo f (s.drop (e + (pk (s.drop e)).2)) = a + nameF (s.drop a) := fun h4 => by
        have hne : (pk (s.drop e)).1 ≠ -1 := fun h5 => by rw [h5, isLetter_neg, isDigit_neg] at h4; simp at h4
        obtain ⟨g1, g2, g3⟩ := hple hne
        have g2' : e + (pk (s.drop e)).2 ≤ s.length := by rw [List.length_drop] at g2; omega
        exact hgo _ g1 g2' (nameGo_on h2' h4)
      conv => whnf
      refine ⟨⟨hpr.1, by simp only [Int.toNat_natCast]; omega⟩, ?_⟩
      conv => whnf
      refine CondP.intro (fun h3 => ?_) (fun h3 => ?_)
      · have h3' : isLetter (pk (s.drop e)).1 = false := by simpa using h3
        conv => whnf
        refine CondP.intro (fun h4 => ?_) (fun h4 => ?_)
        · have h4' : isDigit (pk (s.drop e)).1 = false := by simpa using h4
          conv => whnf
          refine ⟨by omega, by omega, by omega, ?_⟩
          conv => whnf
          exact hend (nameGo_end h2' h3' h4')
        · have h4' : isDigit (pk (s.drop e)).1 = true := by simpa using h4
          conv => whnf
          obtain ⟨k1, k2, k3, k4⟩ := fin (.inr h4')
          refine Or.inl ⟨InR.i64 (by simp only [Int.toNat_natCast]; omega) (by simp only [Int.toNat_natCast]; omega), ?_⟩
          conv => whnf
          refine ⟨⟨rfl, e + (pk (s.drop e)).2, f, k1, k2, rfl, k3, k4⟩, ?_⟩
          exact (show ((s.length : Int) - ((e : Int) + ((pk (s.drop e)).2 : Int))).toNat < ((s.length : Int) - (e : Int)).toNat by omega)
      · have h3' : isLetter (pk (s.drop e)).1 = true := by simpa using h3
        conv => whnf
        obtain ⟨k1, k2, k3, k4⟩ := fin (.inl h3')
        refine Or.inl ⟨InR.i64 (by simp only [Int.toNat_natCast]; omega) (by simp only [Int.toNat_natCast]; omega), ?_⟩
        conv => whnf
        refine ⟨⟨rfl, e + (pk (s.drop e)).2, f, k1, k2, rfl, k3, k4⟩, ?_⟩
        exact (show ((s.length : Int) - ((e : Int) + ((pk (s.drop e)).2 : Int))).toNat < ((s.length : Int) - (e : Int)).toNat by omega)
  · exact h.elim
end Go.PM.Lex
