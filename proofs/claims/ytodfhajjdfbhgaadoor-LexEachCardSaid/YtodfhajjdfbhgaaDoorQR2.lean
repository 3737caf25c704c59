/- A part of the proof: plain logic, contracts and laws over the given program. -/
import Derived.Test.YtodfhajjdfbhgaaDoorQR1
import Derived.Test.YtodfhajjdfbhgaaDoorQR1
set_option linter.unusedVariables false
set_option linter.unusedSimpArgs false
set_option linter.all false
set_option maxRecDepth 100000
set_option maxHeartbeats 8000000
namespace Go.PM.Lex
open Go.Proofs
variable {w0 : World} {nG : Nat}
noncomputable def spNameR : Spec := fun args σ K => match args, σ with
  | [.d (.str s), .d (.int .i64 a)], ⟨[], [], 0⟩ => (0 ≤ a ∧ a ≤ s.length ∧ s.length < 4294967281 ∧ isLetter (pk (s.drop a.toNat)).1 = true) ∧
      K (.ret (tokPV 1 (cut s a.toNat (a.toNat + nameF (s.drop a.toNat))) 0 a (a + nameF (s.drop a.toNat)))) ⟨[], [], 0⟩
  | _, _ => False
theorem spNameR_mono : SpecMono spNameR := fun args σ K K' hK h => by
  unfold spNameR at h ⊢; split at h <;> first | exact ⟨h.1, hK _ _ h.2⟩ | exact h.elim
noncomputable def tblNameR : Tbl := [(22, spRune), (23, spLetR), (14, spDigit), (13, spLetAt)]
theorem nameR_ok : PCalls (GG w0 nG) 16 spNameR := by
  refine pcalls tab_ok mixed (tbl := tblNameR) ⟨⟨rune_ok, spRune_mono⟩, ⟨letterR_ok, spLetR_mono⟩, ⟨digitR_ok, spDigit_mono⟩, ⟨letAt_ok, spLetAt_mono⟩, trivial⟩ Tryd.func16 rfl (by kernel_rfl) (by kernel_rfl) ?_
  intro args σ K h
  unfold spNameR at h
  split at h
  · rename_i s a
    obtain ⟨⟨h0, h1, hs, hlet⟩, h⟩ := h
    obtain ⟨a, rfl⟩ : ∃ n : Nat, a = n := ⟨a.toNat, by omega⟩
    simp only [Int.toNat_natCast] at h hlet
    refine ⟨loopsOf [(2, ⟨[5], [0, 1, 4], fun vs σ => σ = ⟨[.cells 31 [.d (.int .u8 0), .d (.str []), .d (.int .i64 0), .d (.int .i64 0), .d (.int .i64 0)]], [], 0⟩ ∧
      ∃ e f : Nat, a ≤ e ∧ e ≤ s.length ∧ vs = [.d (.int .i64 e)] ∧ s.length < e + f ∧ e + nameGo f (s.drop e) = a + nameF (s.drop a), muI s.length⟩)], 0, false, by simp, Nat.le_of_ble_eq_true rfl, ?_⟩
    conv => whnf
    refine ⟨⟨rfl, a, s.length - a + 1, by omega, by omega, rfl, by omega, by simp [nameF]⟩, ?_⟩
    intro vs σ1 hI
    obtain ⟨rfl, e, f, he1, he2, rfl, hf, hn⟩ := hI
    obtain ⟨f, rfl⟩ : ∃ g, f = g + 1 := ⟨f - 1, by omega⟩
    have hpr := pk_rng (s.drop e)
    have hple := pk_le (s.drop e)
    have hend : nameGo (f + 1) (s.drop e) = 0 → K (.ret (tokPV 1 (cut s a e) 0 a e)) ⟨[], [], 0⟩ := fun h3 => by
      have e2 : a + nameF (s.drop a) = e := by rw [h3] at hn; omega
      have e3 : (a : Int) + (nameF (s.drop a) : Int) = (e : Int) := by omega
      rw [e2, e3] at h
      exact h
    have hgo : ∀ n : Nat, 1 ≤ n → e + n ≤ s.length → nameGo (f + 1) (s.drop e) = n + nameGo f ((s.drop e).drop n) → a ≤ e + n ∧ e + n ≤ s.length ∧ s.length < (e + n) + f ∧ (e + n) + nameGo f (s.drop (e + n)) = a + nameF (s.drop a) := fun n h1 h2 h3 => by
      rw [List.drop_drop] at h3
      exact ⟨by omega, h2, by omega, by rw [← hn, h3]; omega⟩
    have hfst : e = a → isLetter (pk (s.drop e)).1 = true := fun g => by rw [g]; exact hlet
    conv => whnf
    refine CondP.dec (fun h2 => ?_) (fun h2 => ?_)
    · conv => whnf
      refine ⟨⟨by omega, by omega, hs⟩, ?_⟩
      conv => whnf
      generalize hc0 : (pk (s.drop ((e : Int)).toNat)).1 = c
      have hc : (pk (s.drop e)).1 = c := hc0
      have fin : ∀ (h4 : isLetter (pk (s.drop e)).1 = true ∨ isDigit (pk (s.drop e)).1 = true), a ≤ e + (pk (s.drop e)).2 ∧ e + (pk (s.drop e)).2 ≤ s.length ∧ s.length < (e + (pk (s.drop e)).2) + f ∧ (e + (pk (s.drop e)).2) + nameGo f (s.drop (e + (pk (s.drop e)).2)) = a + nameF (s.drop a) ∧ 1 ≤ (pk (s.drop e)).2 := fun h4 => by
        obtain ⟨g1, g2, g3⟩ := hple (letter_ne h4)
        have g2' : e + (pk (s.drop e)).2 ≤ s.length := by rw [List.length_drop] at g2; omega
        have h46 : ¬ (pk (s.drop e)).1 = 46 := fun g => by rw [g] at h4; revert h4; decide
        obtain ⟨k1, k2, k3, k4⟩ := hgo _ g1 g2' (nameGo_on h46 h4)
        exact ⟨k1, k2, k3, k4, g1⟩
      refine CondP.intro (fun h3 => ?_) (fun h3 => ?_)
      · obtain ⟨k1, k2, k3, k4, k5⟩ := fin (.inl (by rw [hc]; exact h3))
        conv => whnf
        refine Or.inl ⟨InR.i64 (by simp only [Int.toNat_natCast]; omega) (by simp only [Int.toNat_natCast]; omega), ?_⟩
        conv => whnf
        refine ⟨⟨rfl, e + (pk (s.drop e)).2, f, k1, k2, rfl, k3, k4⟩, ?_⟩
        exact (show ((s.length : Int) - ((e : Int) + ((pk (s.drop e)).2 : Int))).toNat < ((s.length : Int) - (e : Int)).toNat by omega)
      · have h3' : isLetter (pk (s.drop e)).1 = false := by rw [hc]; exact h3
        have hea : a < e := by
          rcases Nat.lt_or_ge a e with g | g
          · exact g
          · have := hfst (by omega); rw [h3'] at this; cases this
        conv => whnf
        refine CondP.intro (fun h4 => ?_) (fun h4 => ?_)
        · obtain ⟨k1, k2, k3, k4, k5⟩ := fin (.inr (by rw [hc]; exact h4))
          conv => whnf
          refine CondP.dec (fun h5 => ?_) (fun h5 => ?_)
          · conv => whnf
            refine Or.inl ⟨InR.i64 (by simp only [Int.toNat_natCast]; omega) (by simp only [Int.toNat_natCast]; omega), ?_⟩
            conv => whnf
            refine ⟨⟨rfl, e + (pk (s.drop e)).2, f, k1, k2, rfl, k3, k4⟩, ?_⟩
            exact (show ((s.length : Int) - ((e : Int) + ((pk (s.drop e)).2 : Int))).toNat < ((s.length : Int) - (e : Int)).toNat by omega)
          · omega
        · have h4' : isDigit (pk (s.drop e)).1 = false := by rw [hc]; exact h4
          conv => whnf
          refine CondP.dec (fun h5 => ?_) (fun h5 => ?_)
          · have h46 : (pk (s.drop e)).1 = 46 := by rw [hc]; exact h5
            have hlow := pk_low (s.drop e) (by omega) (by omega)
            conv => whnf
            refine CondP.dec (fun h6 => ?_) (fun h6 => ?_)
            · conv => whnf
              refine Or.inl ⟨InR.i64 (by omega) (by omega), ?_⟩
              conv => whnf
              refine ⟨⟨by omega, hs⟩, ?_⟩
              conv => whnf
              have ed : s.drop ((e : Int) + 1).toNat = (s.drop e).drop 1 := by rw [List.drop_drop]; congr 1
              refine CondP.intro (fun h7 => ?_) (fun h7 => ?_)
              · have h7' : isLetter (pk ((s.drop e).drop 1)).1 = true := by rw [← ed]; exact h7
                obtain ⟨k1, k2, k3, k4⟩ := hgo 1 (by omega) (by omega) (by have := nameGo_dot (f := f) h46 h7'; rw [hlow.2.2] at this; exact this)
                conv => whnf
                refine Or.inl ⟨InR.i64 (by omega) (by omega), ?_⟩
                conv => whnf
                refine ⟨⟨rfl, e + 1, f, k1, k2, rfl, k3, k4⟩, ?_⟩
                exact (show ((s.length : Int) - ((e : Int) + 1)).toNat < ((s.length : Int) - (e : Int)).toNat by omega)
              · have h7' : isLetter (pk ((s.drop e).drop 1)).1 = false := by rw [← ed]; exact h7
                conv => whnf
                refine ⟨by omega, by omega, by omega, ?_⟩
                conv => whnf
                exact hend (nameGo_dotend h46 h7')
            · omega
          · have h46 : ¬ (pk (s.drop e)).1 = 46 := by rw [hc]; exact h5
            conv => whnf
            refine ⟨by omega, by omega, by omega, ?_⟩
            conv => whnf
            exact hend (nameGo_end h46 h3' h4')
    · have hnil : s.drop e = [] := List.drop_eq_nil_of_le (by omega)
      conv => whnf
      refine ⟨by omega, by omega, by omega, ?_⟩
      conv => whnf
      exact hend (by rw [hnil]; exact nameGo_nil _)
  · exact h.elim
end Go.PM.Lex
