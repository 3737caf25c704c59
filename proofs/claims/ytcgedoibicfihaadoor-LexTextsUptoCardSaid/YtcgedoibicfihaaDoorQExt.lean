/- A part of the proof: plain logic, contracts and laws over the given program. -/
import Derived.Test.YtcgedoibicfihaaDoorQTile
set_option linter.unusedVariables false
set_option linter.unusedSimpArgs false
set_option linter.all false
set_option maxRecDepth 100000
namespace Go.PM.Lex
/-! ### A token with a blank behind it -/
theorem dN_app {len len' b0 b1 b2 b3 b1' b2' b3' : Nat} (hl : len ≤ len') (h1 : 1 < len → b1' = b1) (h2 : 2 < len → b2' = b2) (h3 : 3 < len → b3' = b3) (hv : Lib.decodeN len b0 b1 b2 b3 ≠ (65533, 1)) :
    Lib.decodeN len' b0 b1' b2' b3' = Lib.decodeN len b0 b1 b2 b3 := by
  rcases Lib.decodeN_shape len b0 b1 b2 b3 with ⟨c, e⟩ | ⟨c1, c2, c3, cv, e⟩ | ⟨c1, c2, c3, c4, cv, cs, e⟩ | ⟨c1, c2, c3, c4, c5, cv, cw, e⟩ | e
  · rw [e]; unfold Lib.decodeN; rw [if_pos c]
  · rw [e, h1 (by omega)]
    unfold Lib.decodeN
    rw [if_neg (by omega), if_pos ⟨c1, by omega, c3⟩, if_pos (by omega)]
  · rw [e, h1 (by omega), h2 (by omega)]
    unfold Lib.decodeN
    rw [if_neg (by omega), if_neg (by omega), if_pos ⟨c1, ⟨by omega, c3⟩, by omega, c4⟩, if_pos ⟨by omega, by omega⟩]
  · rw [e, h1 (by omega), h2 (by omega), h3 (by omega)]
    unfold Lib.decodeN
    rw [if_neg (by omega), if_neg (by omega), if_neg (by omega), if_pos ⟨c1, ⟨by omega, c3⟩, ⟨by omega, c4⟩, by omega, c5⟩, if_pos ⟨by omega, by omega⟩]
  · exact absurd e hv
theorem getD_app (x y : Bs) (k : Nat) (h : k < x.length) : (x ++ y).getD k 0 = x.getD k 0 := by
  simp only [List.getD_eq_getElem?_getD]; rw [List.getElem?_append_left h]
theorem dec_app {x y : Bs} (hx : x ≠ []) (hv : Lib.decodeL x ≠ (65533, 1)) : Lib.decodeL (x ++ y) = Lib.decodeL x := by
  have hpos := List.length_pos_iff.2 hx
  rw [Lib.decodeL_N] at hv ⊢
  rw [Lib.decodeL_N, getD_app x y 0 hpos]
  exact dN_app (by rw [List.length_append]; omega) (fun h => by rw [getD_app x y 1 h]) (fun h => by rw [getD_app x y 2 h]) (fun h => by rw [getD_app x y 3 h]) hv
theorem pk_app {x y : Bs} (h : (pk x).1 ≠ -1) : pk (x ++ y) = pk x := by
  have hx := (pk_le x h).2.2
  unfold pk at h ⊢
  split at h
  · exact absurd rfl h
  · rename_i g
    rw [if_neg g]
    simp only [not_or] at g
    have e := dec_app (y := y) hx g.2
    rw [e, if_neg (by simp only [not_or]; exact ⟨by simp [hx], g.2⟩)]
theorem pk_sp (z : Bs) : pk (32 :: z) = (32, 1) := by
  have e : Lib.decodeL (32 :: z) = (32, 1) := by
    rw [Lib.decodeL_N]; unfold Lib.decodeN; rw [if_pos (by simp)]; simp
  unfold pk
  rw [e]; simp
theorem nameGo_sp (f : Nat) (z : Bs) : nameGo (f + 1) (32 :: z) = 0 := nameGo_end (by rw [pk_sp]; decide) (by rw [pk_sp]; decide) (by rw [pk_sp]; decide)
theorem nameGo_ext {z : Bs} : ∀ (f : Nat) (x : Bs), nameGo f x = x.length → ∀ f', x.length < f' → nameGo f' (x ++ 32 :: z) = x.length
  | 0, x, h, f', hf => by
    have hx : x = [] := List.eq_nil_of_length_eq_zero h.symm
    subst hx
    obtain ⟨g, rfl⟩ : ∃ g, f' = g + 1 := ⟨f' - 1, by omega⟩
    exact nameGo_sp g z
  | f + 1, x, h, f', hf => by
    obtain ⟨g, rfl⟩ : ∃ g, f' = g + 1 := ⟨f' - 1, by omega⟩
    by_cases hx : x = []
    · subst hx; exact nameGo_sp g z
    · have hpos := List.length_pos_iff.2 hx
      have step : ∀ (hne : (pk x).1 ≠ -1), nameGo (f + 1) x = (pk x).2 + nameGo f (x.drop (pk x).2) → pk (x ++ 32 :: z) = pk x ∧ (x ++ 32 :: z).drop (pk x).2 = x.drop (pk x).2 ++ 32 :: z ∧ (pk x).2 + nameGo g (x.drop (pk x).2 ++ 32 :: z) = x.length := fun hne e => by
        obtain ⟨h1, h2, h3⟩ := pk_le x hne
        refine ⟨pk_app hne, by rw [List.drop_append_of_le_length h2], ?_⟩
        have := nameGo_ext (z := z) f (x.drop (pk x).2) (by rw [List.length_drop]; omega) g (by rw [List.length_drop]; omega)
        rw [this, List.length_drop]; omega
      by_cases h1 : (pk x).1 = 46
      · by_cases h2 : isLetter (pk (x.drop 1)).1 = true
        · have e := nameGo_dot (f := f) h1 h2
          obtain ⟨s1, s2, s3⟩ := step (by omega) e
          have hlow := pk_low x (by omega) (by omega)
          rw [nameGo_dot (f := g) (by rw [s1]; exact h1) (by rw [hlow.2.2] at s2; rw [s2, pk_app (letter_ne (.inl h2))]; exact h2), s1, s2, s3]
        · have e := nameGo_dotend (f := f) h1 (by simpa using h2)
          omega
      · by_cases h2 : isLetter (pk x).1 = true ∨ isDigit (pk x).1 = true
        · have e := nameGo_on (f := f) h1 h2
          obtain ⟨s1, s2, s3⟩ := step (letter_ne h2) e
          rw [nameGo_on (f := g) (by rw [s1]; exact h1) (by rw [s1]; exact h2), s1, s2, s3]
        · simp only [not_or, Bool.not_eq_true] at h2
          have e := nameGo_end (f := f) h1 h2.1 h2.2
          omega
theorem textGo_ext {y : Bs} : ∀ (f : Nat) (x : Bs) (esc : Bool) (acc : Bs) (p : Nat) (t : Bs) (l : Nat), textGo f x esc acc p = .ok t l → ∀ f', x.length < f' → textGo f' (x ++ y) esc acc p = .ok t l
  | 0, x, esc, acc, p, t, l, h, f', hf => by simp [textGo] at h
  | f + 1, x, esc, acc, p, t, l, h, f', hf => by
    obtain ⟨g, rfl⟩ : ∃ g, f' = g + 1 := ⟨f' - 1, by omega⟩
    unfold textGo at h
    split at h
    · cases h
    · rename_i hne
      have hd := Lib.decodeL_le x hne
      have hr := dec_rng x
      have hne' : ¬ x ++ y = [] := by simp [hne]
      have hdr : (x ++ y).drop (Lib.decodeL x).2 = x.drop (Lib.decodeL x).2 ++ y := List.drop_append_of_le_length hd
      have low : (Lib.decodeL x).1 < 128 → Lib.decodeL (x ++ y) = Lib.decodeL x := fun h => dec_app hne (fun g => by rw [g] at h; simp at h)
      have rec' : ∀ es ac, textGo f (x.drop (Lib.decodeL x).2) es ac (p + (Lib.decodeL x).2) = .ok t l → textGo g ((x ++ y).drop (Lib.decodeL x).2) es ac (p + (Lib.decodeL x).2) = .ok t l := fun es ac h => by
        rw [hdr]; exact textGo_ext f _ _ _ _ _ _ h g (by rw [List.length_drop]; omega)
      unfold textGo
      rw [if_neg hne']
      split at h
      · rename_i he
        rw [if_pos he]
        split at h
        · cases h
        · rename_i b hb
          have hlow : (Lib.decodeL x).1 < 128 := by
            unfold escB at hb
            repeat' split at hb
            all_goals first | omega | cases hb
          rw [low hlow, hb]
          exact rec' _ _ h
      · rename_i he
        rw [if_neg he]
        split at h
        · rename_i h34
          rw [low (by omega), if_pos h34]; exact h
        · rename_i h34
          split at h
          · rename_i h92
            rw [low (by omega), if_neg h34, if_pos h92]
            exact rec' _ _ h
          · rename_i h92
            split at h
            · cases h
            · rename_i h32
              have hv : Lib.decodeL x ≠ (65533, 1) := fun g => by
                apply h32
                unfold pk; rw [if_pos (.inr g)]; decide
              have e : pk (x ++ y) = pk x := pk_app (by omega)
              rw [dec_app hne hv, if_neg h34, if_neg h92, e, if_neg h32]
              exact rec' _ _ h
theorem takeWhile_all_app (p : UInt8 → Bool) (z : Bs) (hz : p 32 = false) : ∀ l : Bs, (l.takeWhile p).length = l.length → (l ++ 32 :: z).takeWhile p = l
  | [], _ => by simp [List.takeWhile_cons, hz]
  | b :: l, h => by
    by_cases hb : p b = true
    · simp only [List.takeWhile_cons, hb, if_true, List.length_cons, List.cons_append] at h ⊢
      rw [takeWhile_all_app p z hz l (by omega)]
    · simp [List.takeWhile_cons, hb] at h
theorem hasPrefix_app {x y p : Bs} (h : Lib.hasPrefix x p = true) : Lib.hasPrefix (x ++ y) p = true := by
  unfold Lib.hasPrefix at h ⊢
  rw [List.isPrefixOf_iff_prefix] at h ⊢
  exact h.trans (List.prefix_append x y)
/-- Two bytes in front of a text with a blank behind it stand in the text. -/
theorem hasPrefix_sp {x z : Bs} {a b : UInt8} (hx : x ≠ []) (hb : b ≠ 32) (h : Lib.hasPrefix (x ++ 32 :: z) [a, b] = true) : Lib.hasPrefix x [a, b] = true := by
  match x, hx with
  | [c], _ =>
    simp only [Lib.hasPrefix, List.cons_append, List.nil_append, List.isPrefixOf, Bool.and_true, Bool.and_eq_true, beq_iff_eq] at h
    exact absurd h.2 hb
  | c :: d :: l, _ =>
    simpa [Lib.hasPrefix, List.isPrefixOf] using h
theorem number_ext {x z : Bs} {v : Nat} (h : numberF x = some v) (hl : numLen x = x.length) : numberF (x ++ 32 :: z) = some v ∧ numLen (x ++ 32 :: z) = x.length := by
  have hne : numDigits x ≠ [] := fun g => by rw [numberF, if_pos g] at h; cases h
  have hxne : x ≠ [] := fun g => by subst g; exact hne (by decide)
  have hx : isHex (x ++ 32 :: z) = isHex x := by
    cases hh : isHex x with
    | true => exact hasPrefix_app hh
    | false =>
      cases hh2 : isHex (x ++ 32 :: z) with
      | false => rfl
      | true => have := hasPrefix_sp hxne (by decide) hh2; unfold isHex at hh; rw [this] at hh; cases hh
  have h32 : ∀ hex, digB hex 32 = false := by decide
  have hk : (if isHex x = true then 2 else 0) ≤ x.length := by
    split
    · rename_i g; exact (hasPrefix_two g).1
    · omega
  have hd : numDigits (x ++ 32 :: z) = numDigits x := by
    have e : (numDigits x).length = (x.drop (if isHex x = true then 2 else 0)).length := by rw [List.length_drop]; unfold numLen at hl; omega
    unfold numDigits at e ⊢
    rw [hx, List.drop_append_of_le_length hk, takeWhile_all_app _ _ (h32 _) _ e]
    rw [takeWhile_take, e, List.take_length]
  have hl2 : numLen (x ++ 32 :: z) = x.length := by
    rw [← hl]; unfold numLen; rw [hx, hd]
  refine ⟨?_, hl2⟩
  have hnil : (x ++ 32 :: z).drop x.length = 32 :: z := by simp
  unfold numberF at h ⊢
  rw [hd, hl2, hnil, hx]
  rw [if_neg hne] at h ⊢
  generalize (if isHex x = true then 18446744073709551616 else 9223372036854775808) = L at h ⊢
  generalize numV (if isHex x = true then 16 else 10) (numDigits x) = V at h ⊢
  split at h
  · cases h
  · rename_i g1
    rw [if_neg g1]
    split at h
    · cases h
    · rename_i g2
      simp only [not_or] at g2
      rw [if_neg]
      · exact h
      · simp only [not_or]
        exact ⟨by rw [pk_sp]; decide, by rw [pk_sp]; decide, g2.2.2⟩
theorem twos_sp {x z : Bs} (hx : x ≠ []) (h : twos.any (Lib.hasPrefix (x ++ 32 :: z)) = true) : twos.any (Lib.hasPrefix x) = true := by
  simp only [twos, List.any_cons, List.any_nil, Bool.or_false, Bool.or_eq_true] at h ⊢
  rcases h with h | h | h | h | h
  · exact .inl (hasPrefix_sp hx (by decide) h)
  · exact .inr (.inl (hasPrefix_sp hx (by decide) h))
  · exact .inr (.inr (.inl (hasPrefix_sp hx (by decide) h)))
  · exact .inr (.inr (.inr (.inl (hasPrefix_sp hx (by decide) h))))
  · exact .inr (.inr (.inr (.inr (hasPrefix_sp hx (by decide) h))))
theorem sign_ext {x z : Bs} (hx : x ≠ []) : signF (x ++ 32 :: z) = signF x := by
  have hpos := List.length_pos_iff.2 hx
  unfold signF
  rw [getD_app x _ 0 hpos]
  cases h : twos.any (Lib.hasPrefix x) with
  | true =>
    have : twos.any (Lib.hasPrefix (x ++ 32 :: z)) = true := by
      rw [List.any_eq_true] at h ⊢
      obtain ⟨p, hp, hq⟩ := h
      exact ⟨p, hp, hasPrefix_app hq⟩
    rw [if_pos this, if_pos rfl]
  | false =>
    have : ¬ twos.any (Lib.hasPrefix (x ++ 32 :: z)) = true := fun g => by rw [twos_sp hx g] at h; cases h
    rw [if_neg this, if_neg (show ¬ (false = true) by simp)]
/-- A token alone, with a blank behind it, is that token. -/
theorem next_ext {x z : Bs} {a n : Nat} {k : Nat} {tx : Bs} {v : Int} (hx : x ≠ []) (h : nextF 0 x true = .tok ⟨k, tx, v, 0, x.length⟩) : nextF a (x ++ 32 :: z) true = .tok ⟨k, tx, v, a, a + x.length⟩ := by
  have hpos := List.length_pos_iff.2 hx
  rw [nextF_eq] at h ⊢
  rw [sign_ext hx]
  split at h
  · cases h
  · rename_i g0
    rw [if_neg (by simp)] at h
    split at h
    · rename_i g1
      simp only [NR.tok.injEq, Tok.mk.injEq] at h
      obtain ⟨e1, e2, e3, -, e4⟩ := h
      rw [if_neg (fun g => by omega), if_neg (by simp), if_pos g1, ← e1, ← e2, ← e3, ← e4, Nat.zero_add]
      rw [List.take_append_of_le_length (by omega)]
    · rename_i g1
      have hs : signF x = 0 := by omega
      split at h
      · rename_i g2
        have hpk : pk (x ++ 32 :: z) = pk x := pk_app (by omega)
        unfold textR at h
        split at h
        · cases h
        · rename_i t l ht
          simp only [NR.tok.injEq, Tok.mk.injEq] at h
          obtain ⟨e1, e2, e3, -, e4⟩ := h
          have ht' : textF (x ++ 32 :: z) = .ok t l := by
            unfold textF at ht ⊢
            rw [List.drop_append_of_le_length hpos]
            exact textGo_ext _ _ _ _ _ _ _ ht _ (by rw [List.length_drop, List.length_append]; omega)
          rw [hpk, if_neg (fun g => g.2.1 g2), if_neg (by simp), if_neg (by omega), if_pos g2, textR, ht', ← e1, ← e2, ← e3, ← e4, Nat.zero_add]
      · rename_i g2
        split at h
        · rename_i g3
          have hpk : pk (x ++ 32 :: z) = pk x := pk_app (letter_ne (.inr g3))
          unfold numberR at h
          split at h
          · cases h
          · rename_i n hn
            simp only [NR.tok.injEq, Tok.mk.injEq] at h
            obtain ⟨e1, e2, e3, -, e4⟩ := h
            obtain ⟨h1, h2⟩ := number_ext (z := z) hn (by omega)
            rw [hpk, if_neg (fun g => by rw [g3] at g; simp at g), if_neg (by simp), if_neg (by omega), if_neg g2, if_pos g3, numberR, h1, h2, ← e1, ← e2, ← e3]
        · rename_i g3
          have h4 : isLetter (pk x).1 = true := by
            cases hb : isLetter (pk x).1 with
            | true => rfl
            | false => exact absurd ⟨hs, g2, hb, by simpa using g3⟩ g0
          have hpk : pk (x ++ 32 :: z) = pk x := pk_app (letter_ne (.inl h4))
          simp only [NR.tok.injEq, Tok.mk.injEq] at h
          obtain ⟨e1, e2, e3, -, e4⟩ := h
          have hn : nameF (x ++ 32 :: z) = x.length := nameGo_ext (x.length + 1) x (by unfold nameF at e4; omega) _ (by rw [List.length_append]; omega)
          rw [hpk, if_neg (fun g => by rw [h4] at g; simp at g), if_neg (by simp), if_neg (by omega), if_neg g2, if_neg g3, hn, ← e1, ← e2, ← e3]
          rw [show nameF x = x.length by omega, List.take_append_of_le_length (Nat.le_refl _)]
end Go.PM.Lex
