/- A part of the proof: plain logic, contracts and laws over the given program. -/
import Derived.Test.YtodfhajjdfbhgaaDoorQW8
set_option linter.unusedVariables false
set_option linter.unusedSimpArgs false
set_option linter.all false
set_option maxRecDepth 100000
namespace Go.PM.Lex
theorem pk_low (r : Bs) (h0 : 0 ≤ (pk r).1) (h : (pk r).1 < 128) : 0 < r.length ∧ (pk r).1 = ((r.getD 0 0).toNat : Int) ∧ (pk r).2 = 1 := by
  unfold pk at h h0 ⊢
  split at h
  · rename_i g; rw [if_pos g] at h0; simp at h0
  · rename_i g
    simp only [not_or] at g
    rw [if_neg (by simp only [not_or]; exact g)] at h0 ⊢
    have hl : 0 < r.length := List.length_pos_iff.2 g.1
    refine ⟨hl, ?_⟩
    rw [Lib.decodeL_N] at h ⊢
    rcases Lib.decodeN_shape r.length (r.getD 0 0).toNat (r.getD 1 0).toNat (r.getD 2 0).toNat (r.getD 3 0).toNat with ⟨c, e⟩ | ⟨c1, c2, c3, cv, e⟩ | ⟨c1, c2, c3, c4, cv, cs, e⟩ | ⟨c1, c2, c3, c4, c5, cv, cw, e⟩ | e
    · rw [e]; exact ⟨rfl, rfl⟩
    all_goals (rw [e] at h; dsimp only at h; omega)
theorem isLetter_iff {c : Int} : isLetter c = true ↔ (c = 95 ∨ 128 ≤ c ∨ (97 ≤ c ∧ c ≤ 122) ∨ (65 ≤ c ∧ c ≤ 90)) := by simp [isLetter]
theorem isDigit_iff {c : Int} : isDigit c = true ↔ (48 ≤ c ∧ c ≤ 57) := by simp [isDigit]
theorem nameGo_le : ∀ (f : Nat) (r : Bs), nameGo f r ≤ r.length
  | 0, r => Nat.zero_le _
  | f + 1, r => by
    have ih := nameGo_le f (r.drop (pk r).2)
    rw [List.length_drop] at ih
    have hl : (pk r).1 ≠ -1 → (pk r).2 ≤ r.length := fun h => (pk_le r h).2.1
    unfold nameGo
    split
    · rename_i h; have := hl (by omega); split <;> omega
    · split
      · rename_i h
        have := hl (fun h1 => by rw [h1, isLetter_neg, isDigit_neg] at h; simp at h)
        omega
      · omega
theorem nameF_pos (r : Bs) (h : isLetter (pk r).1 = true) : 1 ≤ nameF r ∧ nameF r ≤ r.length := by
  refine ⟨?_, nameGo_le _ _⟩
  have := pk_len r
  have h46 : ¬ (pk r).1 = 46 := fun g => by rw [g] at h; revert h; decide
  rw [nameF, nameGo_on h46 (.inl h)]; omega
theorem textGo_len : ∀ (f : Nat) (r : Bs) (esc : Bool) (acc : Bs) (p : Nat) (t : Bs) (l : Nat), textGo f r esc acc p = .ok t l → p < l ∧ l ≤ p + r.length
  | 0, r, esc, acc, p, t, l, h => by simp [textGo] at h
  | f + 1, r, esc, acc, p, t, l, h => by
    unfold textGo at h
    split at h
    · cases h
    · rename_i hne
      have hd := Lib.decodeL_le r hne
      have hr := dec_rng r
      split at h
      · split at h
        · cases h
        · have := textGo_len f _ _ _ _ _ _ h; rw [List.length_drop] at this; omega
      · split at h
        · cases h; have := List.length_pos_iff.2 hne; omega
        · split at h
          · have := textGo_len f _ _ _ _ _ _ h; rw [List.length_drop] at this; omega
          · split at h
            · cases h
            · have := textGo_len f _ _ _ _ _ _ h; rw [List.length_drop] at this; omega
theorem numLen_le (r : Bs) : numLen r ≤ r.length := by
  unfold numLen numDigits
  have := takeWhile_le (digB (isHex r)) (r.drop (if isHex r then 2 else 0))
  rw [List.length_drop] at this
  by_cases h : isHex r = true
  · have := (hasPrefix_two h).1
    simp only [h, if_true] at *; omega
  · simp only [h, Bool.false_eq_true, if_false] at *; omega
/-- A token has a place behind its first byte, and within the text. -/
theorem nextF_tok {a : Nat} {r : Bs} {room : Bool} {t : Tok} (h0 : 0 < r.length) (h : nextF a r room = .tok t) : t.at' = a ∧ a < t.fin ∧ t.fin ≤ a + r.length := by
  rw [nextF_eq] at h
  split at h
  · cases h
  · rename_i g0
    split at h
    · cases h
    · split at h
      · cases h; rename_i g1; have := sign_le r h0; exact ⟨rfl, by simp only; omega, by simp only; omega⟩
      · rename_i g1
        split at h
        · unfold textR at h
          split at h
          · cases h
          · rename_i t' l hx
            cases h
            have := textGo_len _ _ _ _ _ _ _ hx
            rw [List.length_drop] at this
            exact ⟨rfl, by simp only; omega, by simp only; omega⟩
        · rename_i g2
          split at h
          · rename_i g3
            unfold numberR at h
            split at h
            · cases h
            · rename_i n hx
              cases h
              have hle := numLen_le r
              refine ⟨rfl, ?_, by simp only; omega⟩
              simp only
              have hne : numDigits r ≠ [] := fun g => by rw [numberF, if_pos g] at hx; cases hx
              have := List.length_pos_iff.2 hne
              unfold numLen; omega
          · rename_i g3
            cases h
            have h4 : isLetter (pk r).1 = true := by
              cases hb : isLetter (pk r).1 with
              | true => rfl
              | false => exact absurd ⟨by omega, g2, hb, by simpa using g3⟩ g0
            have := nameF_pos r h4
            exact ⟨rfl, by simp only; omega, by simp only; omega⟩
theorem nextF_bad {a : Nat} {r : Bs} {room : Bool} {p e : Nat} (h : nextF a r room = .bad p e) : e ≠ 0 ∧ e ≤ 142 := by
  rw [nextF_eq] at h
  repeat' split at h
  all_goals first | (cases h; done) | (cases h; omega) | (cases h; decide) | skip
  · unfold textR at h; split at h <;> cases h; decide
  · unfold numberR at h; split at h <;> cases h; decide
theorem blank_len : ∀ (f : Nat) (r : Bs), (blankGo f r).2 ≤ r.length
  | 0, r => Nat.zero_le _
  | f + 1, r => by
    have hdw := dropWhile_eq (([32, 9, 13, 10] : Bs).contains ·) r
    obtain ⟨rest, hrest⟩ : ∃ x, x = Lib.trimLeftS r [32, 9, 13, 10] := ⟨_, rfl⟩
    have hr2 : rest.length ≤ r.length := by rw [hrest]; exact hdw.2
    simp only [blankGo, ← hrest]
    split
    · rename_i h1
      have ih := fun n => blank_len f (rest.drop n)
      have hlt := indexByte_lt 10 rest
      have hge := Lib.indexByte_ge rest 10
      have ih2 := ih (if Lib.indexByte rest 10 < 0 then rest.length else (Lib.indexByte rest 10).toNat)
      rw [List.length_drop] at ih2
      simp only
      have : (if Lib.indexByte rest 10 < 0 then rest.length else (Lib.indexByte rest 10).toNat) ≤ rest.length := by split <;> omega
      omega
    · split
      · rename_i h1 h2
        have hl := (hasPrefix_two h2).1
        split
        · simp only; omega
        · rename_i h3
          have hle := index_le [42, 47] (rest.drop 2) (by omega)
          simp only [List.length_drop, List.length_cons, List.length_nil] at hle
          have ih2 := blank_len f (rest.drop ((Lib.index (rest.drop 2) [42, 47]).toNat + 4))
          rw [List.length_drop] at ih2
          simp only
          omega
      · simp only; omega
end Go.PM.Lex
