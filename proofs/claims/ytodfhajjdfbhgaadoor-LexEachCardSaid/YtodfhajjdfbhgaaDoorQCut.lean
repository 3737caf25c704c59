/- A part of the proof: plain logic, contracts and laws over the given program. -/
import Derived.Test.YtodfhajjdfbhgaaDoorQFacts
set_option linter.unusedVariables false
set_option linter.unusedSimpArgs false
set_option linter.all false
set_option maxRecDepth 100000
namespace Go.PM.Lex
/-! ### Texts that are cut off -/
theorem dN_take {n len b0 b1 b2 b3 b1' b2' b3' : Nat} (h1 : 1 < n → b1' = b1) (h2 : 2 < n → b2' = b2) (h3 : 3 < n → b3' = b3) (hn : 1 ≤ n) (hd : (Lib.decodeN len b0 b1 b2 b3).2 ≤ n) :
    Lib.decodeN (min n len) b0 b1' b2' b3' = Lib.decodeN len b0 b1 b2 b3 := by
  rcases Lib.decodeN_shape len b0 b1 b2 b3 with ⟨c, e⟩ | ⟨c1, c2, c3, cv, e⟩ | ⟨c1, c2, c3, c4, cv, cs, e⟩ | ⟨c1, c2, c3, c4, c5, cv, cw, e⟩ | e
  · rw [e]; unfold Lib.decodeN; rw [if_pos c]
  · rw [e] at hd ⊢
    simp only at hd
    rw [h1 (by omega)]
    unfold Lib.decodeN
    rw [if_neg (by omega), if_pos ⟨c1, by omega, c3⟩, if_pos (by omega)]
  · rw [e] at hd ⊢
    simp only at hd
    rw [h1 (by omega), h2 (by omega)]
    unfold Lib.decodeN
    rw [if_neg (by omega), if_neg (by omega), if_pos ⟨c1, ⟨by omega, c3⟩, by omega, c4⟩, if_pos ⟨by omega, by omega⟩]
  · rw [e] at hd ⊢
    simp only at hd
    rw [h1 (by omega), h2 (by omega), h3 (by omega)]
    unfold Lib.decodeN
    rw [if_neg (by omega), if_neg (by omega), if_neg (by omega), if_pos ⟨c1, ⟨by omega, c3⟩, ⟨by omega, c4⟩, by omega, c5⟩, if_pos ⟨by omega, by omega⟩]
  · rw [e]
    rcases Lib.decodeN_shape (min n len) b0 b1' b2' b3' with ⟨c, e'⟩ | ⟨c1, c2, c3, cv, e'⟩ | ⟨c1, c2, c3, c4, cv, cs, e'⟩ | ⟨c1, c2, c3, c4, c5, cv, cw, e'⟩ | e'
    · unfold Lib.decodeN at e; rw [if_pos c] at e; rw [e', ← e]
    · rw [h1 (by omega)] at c3 cv
      unfold Lib.decodeN at e
      rw [if_neg (by omega), if_pos ⟨c1, by omega, c3⟩, if_pos (by omega)] at e
      simp at e
    · rw [h1 (by omega), h2 (by omega)] at *
      unfold Lib.decodeN at e
      rw [if_neg (by omega), if_neg (by omega), if_pos ⟨c1, ⟨by omega, c3⟩, by omega, c4⟩, if_pos ⟨by omega, by omega⟩] at e
      simp at e
    · rw [h1 (by omega), h2 (by omega), h3 (by omega)] at *
      unfold Lib.decodeN at e
      rw [if_neg (by omega), if_neg (by omega), if_neg (by omega), if_pos ⟨c1, ⟨by omega, c3⟩, ⟨by omega, c4⟩, by omega, c5⟩, if_pos ⟨by omega, by omega⟩] at e
      simp at e
    · exact e'
theorem getD_take (r : Bs) (n k : Nat) : (r.take n).getD k 0 = if k < n then r.getD k 0 else 0 := by
  simp only [List.getD_eq_getElem?_getD, List.getElem?_take]
  split <;> simp
theorem dec_take {r : Bs} {n : Nat} (hn : 1 ≤ n) (hd : (Lib.decodeL r).2 ≤ n) : Lib.decodeL (r.take n) = Lib.decodeL r := by
  rw [Lib.decodeL_N] at hd ⊢
  rw [Lib.decodeL_N, List.length_take, getD_take, getD_take, getD_take, getD_take, if_pos (by omega)]
  exact dN_take (fun h => by rw [if_pos h]) (fun h => by rw [if_pos h]) (fun h => by rw [if_pos h]) hn hd
theorem pk_take {r : Bs} {n : Nat} (h : (pk r).1 ≠ -1) (hn : (pk r).2 ≤ n) : pk (r.take n) = pk r := by
  obtain ⟨h1, h2, h3⟩ := pk_le r h
  unfold pk at h hn ⊢
  split at h
  · exact absurd rfl h
  · rename_i g
    rw [if_neg g] at hn ⊢
    simp only at hn
    have hr := dec_rng r
    have e := dec_take (r := r) (n := n) (by omega) hn
    rw [e, if_neg]
    simp only [not_or] at g ⊢
    refine ⟨fun h => ?_, g.2⟩
    have h5 := congrArg List.length h
    rw [List.length_take, List.length_nil] at h5
    have := List.length_pos_iff.2 h3
    omega
theorem nameGo_nil (f : Nat) : nameGo f [] = 0 := by
  cases f with
  | zero => rfl
  | succ f => exact nameGo_end (by simp [pk_nil]) (by simp [pk_nil]; decide) (by simp [pk_nil]; decide)
theorem letter_ne {c : Int} (h : isLetter c = true ∨ isDigit c = true) : c ≠ -1 := fun h1 => by rw [h1, isLetter_neg, isDigit_neg] at h; simp at h
/-- A name alone is that name. -/
theorem nameGo_take : ∀ (f : Nat) (r : Bs), r.length < f → ∀ f', nameGo f r < f' → nameGo f' (r.take (nameGo f r)) = nameGo f r
  | 0, r, h, _, _ => by omega
  | f + 1, r, h, f', hf => by
    have step : ∀ (hne : (pk r).1 ≠ -1), nameGo (f + 1) r = (pk r).2 + nameGo f (r.drop (pk r).2) → pk (r.take (nameGo (f + 1) r)) = pk r ∧ (r.take (nameGo (f + 1) r)).drop (pk r).2 = (r.drop (pk r).2).take (nameGo f (r.drop (pk r).2)) ∧
        ∀ g, f' = g + 1 → nameGo g ((r.drop (pk r).2).take (nameGo f (r.drop (pk r).2))) = nameGo f (r.drop (pk r).2) := fun hne e => by
      obtain ⟨h1, h2, h3⟩ := pk_le r hne
      refine ⟨pk_take hne (by omega), ?_, fun g hg => nameGo_take f _ (by rw [List.length_drop]; omega) g (by omega)⟩
      rw [List.drop_take, e]; congr 1; omega
    obtain ⟨g, rfl⟩ : ∃ g, f' = g + 1 := ⟨f' - 1, by omega⟩
    by_cases h1 : (pk r).1 = 46
    · by_cases h2 : isLetter (pk (r.drop 1)).1 = true
      · have e := nameGo_dot (f := f) h1 h2
        obtain ⟨s1, s2, s3⟩ := step (by omega) e
        have hlow := pk_low r (by omega) (by omega)
        have h2' : isLetter (pk ((r.take (nameGo (f + 1) r)).drop 1)).1 = true := by
          rw [hlow.2.2] at s2
          rw [s2]
          obtain ⟨f2, rfl⟩ : ∃ f2, f = f2 + 1 := ⟨f - 1, by omega⟩
          have h46 : ¬ (pk (r.drop 1)).1 = 46 := fun g => by rw [g] at h2; revert h2; decide
          have e2 := nameGo_on (f := f2) h46 (.inl h2)
          rw [pk_take (letter_ne (.inl h2)) (by rw [e2]; omega)]
          exact h2
        rw [nameGo_dot (f := g) (by rw [s1]; exact h1) h2', s1, s2, s3 g rfl, ← e]
      · have e := nameGo_dotend (f := f) h1 (by simpa using h2)
        rw [e]; exact nameGo_nil _
    · by_cases h2 : isLetter (pk r).1 = true ∨ isDigit (pk r).1 = true
      · have e := nameGo_on (f := f) h1 h2
        obtain ⟨s1, s2, s3⟩ := step (letter_ne h2) e
        rw [nameGo_on (f := g) (by rw [s1]; exact h1) (by rw [s1]; exact h2), s1, s2, s3 g rfl, ← e]
      · simp only [not_or, Bool.not_eq_true] at h2
        have e := nameGo_end (f := f) h1 h2.1 h2.2
        rw [e]; exact nameGo_nil _
theorem nameF_take (r : Bs) : nameF (r.take (nameF r)) = nameF r := by
  have := nameGo_le (r.length + 1) r
  refine nameGo_take (r.length + 1) r (by omega) _ ?_
  rw [List.length_take]; unfold nameF at *; omega
theorem textGo_take : ∀ (f : Nat) (r : Bs) (esc : Bool) (acc : Bs) (p : Nat) (t : Bs) (l : Nat), textGo f r esc acc p = .ok t l → r.length < f → ∀ f', l - p < f' → textGo f' (r.take (l - p)) esc acc p = .ok t l
  | 0, r, esc, acc, p, t, l, h, hf, _, _ => by omega
  | f + 1, r, esc, acc, p, t, l, h, hf, f', hf' => by
    have hlen := textGo_len _ _ _ _ _ _ _ h
    obtain ⟨g, rfl⟩ : ∃ g, f' = g + 1 := ⟨f' - 1, by omega⟩
    unfold textGo at h
    split at h
    · cases h
    · rename_i hne
      have hd := Lib.decodeL_le r hne
      have hr := dec_rng r
      have hne' : ¬ r.take (l - p) = [] := fun g => by
        have h5 := congrArg List.length g
        rw [List.length_take, List.length_nil] at h5
        have := List.length_pos_iff.2 hne
        omega
      have hdr : ∀ k, (r.take (l - p)).drop k = (r.drop k).take (l - (p + k)) := fun k => by rw [List.drop_take]; congr 1; omega
      unfold textGo
      rw [if_neg hne']
      split at h
      · rename_i he
        rw [if_pos he]
        split at h
        · cases h
        · rename_i b hb
          have h2 := textGo_len _ _ _ _ _ _ _ h
          have e := dec_take (r := r) (n := l - p) (by omega) (by omega)
          rw [e, hb]
          simp only
          rw [hdr]
          exact textGo_take f _ _ _ _ _ _ h (by rw [List.length_drop]; omega) g (by omega)
      · rename_i he
        rw [if_neg he]
        split at h
        · rename_i h34
          cases h
          have e1 : (Lib.decodeL r).2 = 1 := by
            rw [Lib.decodeL_N] at h34 ⊢
            rcases Lib.decodeN_shape r.length (r.getD 0 0).toNat (r.getD 1 0).toNat (r.getD 2 0).toNat (r.getD 3 0).toNat with ⟨c, e⟩ | ⟨c1, c2, c3, cv, e⟩ | ⟨c1, c2, c3, c4, cv, cs, e⟩ | ⟨c1, c2, c3, c4, c5, cv, cw, e⟩ | e
            all_goals (rw [e] at h34)
            · rw [e]
            all_goals (dsimp only at h34; omega)
          rw [dec_take (by omega) (by omega), if_pos h34]
        · rename_i h34
          have step : ∀ es ac, textGo f (r.drop (Lib.decodeL r).2) es ac (p + (Lib.decodeL r).2) = .ok t l → Lib.decodeL (r.take (l - p)) = Lib.decodeL r ∧ textGo g ((r.take (l - p)).drop (Lib.decodeL r).2) es ac (p + (Lib.decodeL r).2) = .ok t l := fun es ac h => by
            have h2 := textGo_len _ _ _ _ _ _ _ h
            refine ⟨dec_take (by omega) (by omega), ?_⟩
            rw [hdr]
            exact textGo_take f _ _ _ _ _ _ h (by rw [List.length_drop]; omega) g (by omega)
          split at h
          · rename_i h92
            obtain ⟨e, e2⟩ := step _ _ h
            rw [e, if_neg h34, if_pos h92]
            exact e2
          · rename_i h92
            split at h
            · cases h
            · rename_i h32
              obtain ⟨e, e2⟩ := step _ _ h
              have h2 := textGo_len _ _ _ _ _ _ _ h
              have hpk : pk (r.take (l - p)) = pk r := by
                refine pk_take (by omega) ?_
                unfold pk
                split
                · simp only; omega
                · simp only; omega
              rw [e, if_neg h34, if_neg h92, hpk, if_neg h32]
              exact e2
theorem textF_take {r t : Bs} {l : Nat} (h : textF r = .ok t l) : textF (r.take l) = .ok t l := by
  unfold textF at h ⊢
  have h2 := textGo_len _ _ _ _ _ _ _ h
  rw [List.length_drop] at h2
  have := textGo_take _ _ _ _ _ _ _ h (by rw [List.length_drop]; omega) ((r.take l).length + 1) (by rw [List.length_take]; omega)
  rwa [List.drop_take]
theorem hasPrefix_take {r p : Bs} {n : Nat} (h : Lib.hasPrefix (r.take n) p = true) : Lib.hasPrefix r p = true := by
  unfold Lib.hasPrefix at h ⊢
  rw [List.isPrefixOf_iff_prefix] at h ⊢
  exact h.trans (List.take_prefix n r)
theorem hasPrefix_long {r p : Bs} {n : Nat} (h : Lib.hasPrefix r p = true) (hn : p.length ≤ n) : Lib.hasPrefix (r.take n) p = true := by
  unfold Lib.hasPrefix at h ⊢
  rw [List.isPrefixOf_iff_prefix] at h ⊢
  rw [List.prefix_take_iff]
  exact ⟨h, hn⟩
theorem takeWhile_twice (p : UInt8 → Bool) : ∀ l : Bs, (l.takeWhile p).takeWhile p = l.takeWhile p
  | [] => rfl
  | x :: l => by
    by_cases h : p x = true
    · simp only [List.takeWhile_cons, h, if_true, takeWhile_twice p l]
    · simp [List.takeWhile_cons, h]
theorem number_take {r : Bs} {v : Nat} (h : numberF r = some v) : numberF (r.take (numLen r)) = some v ∧ numLen (r.take (numLen r)) = numLen r := by
  have hne : numDigits r ≠ [] := fun g => by rw [numberF, if_pos g] at h; cases h
  have hle := numLen_le r
  have hpos := List.length_pos_iff.2 hne
  have hx : isHex (r.take (numLen r)) = isHex r := by
    cases hh : isHex r with
    | true => exact hasPrefix_long hh (by unfold numLen; rw [hh]; simp)
    | false =>
      cases hh2 : isHex (r.take (numLen r)) with
      | false => rfl
      | true => exact absurd (hasPrefix_take hh2) (by unfold isHex at hh; rw [hh]; simp)
  have hd : numDigits (r.take (numLen r)) = numDigits r := by
    have hl : numLen r = (if isHex r = true then 2 else 0) + (numDigits r).length := rfl
    unfold numDigits at hl ⊢
    rw [hx, List.drop_take, hl, Nat.add_sub_cancel_left, ← takeWhile_take, takeWhile_twice]
  have hl : numLen (r.take (numLen r)) = numLen r := by
    have e : ∀ x y : Bs, isHex x = isHex y → numDigits x = numDigits y → numLen x = numLen y := fun x y h1 h2 => by unfold numLen; rw [h1, h2]
    exact e _ _ hx hd
  refine ⟨?_, hl⟩
  have hnil : (r.take (numLen r)).drop (numLen r) = [] := by apply List.drop_eq_nil_of_le; rw [List.length_take]; omega
  unfold numberF at h ⊢
  rw [hd, hl, hnil, hx]
  rw [if_neg hne] at h ⊢
  generalize (if isHex r = true then 18446744073709551616 else 9223372036854775808) = L at h ⊢
  generalize numV (if isHex r = true then 16 else 10) (numDigits r) = V at h ⊢
  split at h
  · cases h
  · rename_i g1
    rw [if_neg g1]
    split at h
    · cases h
    · rename_i g2
      simp only [not_or] at g2
      rw [if_neg]
      · exact h
      · simp only [not_or]
        exact ⟨by rw [pk_nil]; decide, by rw [pk_nil]; decide, g2.2.2⟩
theorem sign_zero_take {r : Bs} {n : Nat} (hn : 1 ≤ n) (h : signF r = 0) : signF (r.take n) = 0 := by
  unfold signF at h ⊢
  split at h
  · cases h
  · rename_i h1
    split at h
    · cases h
    · rename_i h2
      rw [if_neg, if_neg]
      · rw [getD_take, if_pos (by omega)]; exact h2
      · intro g
        apply h1
        rw [List.any_eq_true] at g ⊢
        obtain ⟨x, hx, hy⟩ := g
        exact ⟨x, hx, hasPrefix_take hy⟩
theorem sign_take {r : Bs} (h0 : 0 < r.length) (h : 0 < signF r) : signF (r.take (signF r)) = signF r := by
  have hle := sign_le r h0
  unfold signF at h ⊢
  split at h
  · rename_i h1
    rw [if_pos h1, if_pos]
    rw [List.any_eq_true] at h1 ⊢
    obtain ⟨x, hx, hy⟩ := h1
    refine ⟨x, hx, hasPrefix_long hy ?_⟩
    simp only [twos, List.mem_cons, List.mem_nil_iff, or_false] at hx
    rcases hx with rfl | rfl | rfl | rfl | rfl <;> simp
  · rename_i h1
    split at h
    · rename_i h2
      rw [if_neg h1, if_pos h2, if_neg, if_pos]
      · rw [getD_take, if_pos (by omega)]; exact h2
      · intro g
        apply h1
        rw [List.any_eq_true] at g ⊢
        obtain ⟨x, hx, hy⟩ := g
        exact ⟨x, hx, hasPrefix_take hy⟩
    · cases h
/-- A token's own bytes are that token. -/
theorem next_take {a : Nat} {r : Bs} {room : Bool} {t : Tok} (h0 : 0 < r.length) (h : nextF a r room = .tok t) : nextF 0 (r.take (t.fin - a)) true = .tok ⟨t.kind, t.text, t.n, 0, t.fin - a⟩ := by
  obtain ⟨f1, f2, f3⟩ := nextF_tok h0 h
  rw [nextF_eq] at h
  split at h
  · cases h
  · rename_i g0
    split at h
    · cases h
    · split at h
      · rename_i g1
        cases h
        simp only [Nat.add_sub_cancel_left] at *
        have e := sign_take h0 g1
        rw [nextF_eq, e, if_neg (fun g => by omega), if_neg (by simp), if_pos g1, List.take_take]
        simp
      · rename_i g1
        have hs0 : signF r = 0 := by omega
        have hs : signF (r.take (t.fin - a)) = 0 := sign_zero_take (by omega) hs0
        split at h
        · rename_i g2
          have hpk : pk (r.take (t.fin - a)) = pk r := pk_take (by omega) (by have := pk_low r (by omega) (by omega); omega)
          unfold textR at h
          split at h
          · cases h
          · rename_i t' l hx
            cases h
            simp only [Nat.add_sub_cancel_left] at *
            rw [nextF_eq, hs, hpk, if_neg (fun g => g.2.1 g2), if_neg (by simp), if_neg (by omega), if_pos g2, textR, textF_take hx]
            simp
        · rename_i g2
          split at h
          · rename_i g3
            have hpk : pk (r.take (t.fin - a)) = pk r := pk_take (letter_ne (.inr g3)) (by have := pk_low r (by rw [isDigit_iff] at g3; omega) (by rw [isDigit_iff] at g3; omega); omega)
            unfold numberR at h
            split at h
            · cases h
            · rename_i n hx
              cases h
              simp only [Nat.add_sub_cancel_left] at *
              obtain ⟨e1, e2⟩ := number_take hx
              rw [nextF_eq, hs, hpk, if_neg (fun g => by rw [g3] at g; simp at g), if_neg (by simp), if_neg (by omega), if_neg g2, if_pos g3, numberR, e1, e2]
              simp
          · rename_i g3
            have h4 : isLetter (pk r).1 = true := by
              cases hb : isLetter (pk r).1 with
              | true => rfl
              | false => exact absurd ⟨hs0, g2, hb, by simpa using g3⟩ g0
            cases h
            simp only [Nat.add_sub_cancel_left] at *
            have h46 : ¬ (pk r).1 = 46 := fun g => by rw [g] at h4; revert h4; decide
            have e46 : nameF r = (pk r).2 + nameGo r.length (r.drop (pk r).2) := nameGo_on h46 (.inl h4)
            have hpk : pk (r.take (nameF r)) = pk r := pk_take (letter_ne (.inl h4)) (by omega)
            rw [nextF_eq, hs, hpk, if_neg (fun g => by rw [h4] at g; simp at g), if_neg (by simp), if_neg (by omega), if_neg g2, if_neg g3, nameF_take, List.take_take]
            simp
end Go.PM.Lex
