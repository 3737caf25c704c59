/- A part of the proof: plain logic, contracts and laws over the given program. -/
import Derived.Test.YtcgedoibicfihaaDoorQSp2
import Derived.Test.YtcgedoibicfihaaDoorQExt
import Derived.Lib.ValidU
set_option linter.unusedVariables false
set_option linter.unusedSimpArgs false
set_option linter.all false
set_option maxRecDepth 100000
namespace Go.PM.Lex
/-- What stands for a rune that is escaped. -/
def unesc (c : Nat) : Option UInt8 := if c = 10 then some 110 else if c = 9 then some 116 else if c = 34 then some 34 else if c = 92 then some 92 else none
/-- What a text is written as, within its signs: 'out' stands ahead. -/
def quoGo : Nat → Bs → Bs → Option Bs
  | 0, _, _ => none
  | f + 1, r, out => if r = [] then some out else match unesc (Lib.decodeL r).1 with
    | some b => quoGo f (r.drop (Lib.decodeL r).2) (out ++ [92, b])
    | none => if (Lib.decodeL r).1 < 32 then none else quoGo f (r.drop (Lib.decodeL r).2) (out ++ Lib.encodeRune (Lib.decodeL r).1)
def quoteF (s : Bs) : Option Bs := if Lib.validD s = true then (quoGo (s.length + 1) s [34]).map (· ++ [34]) else none
theorem quoGo_out : ∀ (f : Nat) (r out q : Bs), quoGo f r out = some q → ∃ m, q = out ++ m ∧ ∀ o, quoGo f r o = some (o ++ m)
  | 0, r, out, q, h => by simp [quoGo] at h
  | f + 1, r, out, q, h => by
    unfold quoGo at h
    split at h
    · rename_i hr
      cases h
      exact ⟨[], by simp, fun o => by simp [quoGo, hr]⟩
    · rename_i hr
      split at h
      · rename_i b hb
        obtain ⟨m, e1, e2⟩ := quoGo_out f _ _ _ h
        exact ⟨[92, b] ++ m, by rw [e1]; simp, fun o => by unfold quoGo; rw [if_neg hr, hb]; simp only; rw [e2]; simp⟩
      · rename_i hb
        split at h
        · cases h
        · rename_i h32
          obtain ⟨m, e1, e2⟩ := quoGo_out f _ _ _ h
          exact ⟨Lib.encodeRune (Lib.decodeL r).1 ++ m, by rw [e1]; simp, fun o => by unfold quoGo; rw [if_neg hr, hb]; simp only; rw [if_neg h32, e2]; simp⟩
theorem unesc_some {c : Nat} {b : UInt8} (h : unesc c = some b) : escB b.toNat = some (UInt8.ofNat c) ∧ c < 128 ∧ b.toNat < 128 := by
  unfold unesc at h
  split at h; · rename_i g; cases h; subst g; decide
  split at h; · rename_i g; cases h; subst g; decide
  split at h; · rename_i g; cases h; subst g; decide
  split at h; · rename_i g; cases h; subst g; decide
  cases h
theorem unesc_none {c : Nat} (h : unesc c = none) : c ≠ 34 ∧ c ≠ 92 := by
  unfold unesc at h
  split at h; · cases h
  split at h; · cases h
  split at h; · cases h
  split at h; · cases h
  exact ⟨by assumption, by assumption⟩
theorem dec_low (b : UInt8) (z : Bs) (h : b.toNat < 128) : Lib.decodeL (b :: z) = (b.toNat, 1) := by
  rw [Lib.decodeL_N]; unfold Lib.decodeN; rw [if_pos (by simpa using h)]; simp
theorem tg_esc1 (f : Nat) (z acc : Bs) (p : Nat) : textGo (f + 1) (92 :: z) false acc p = textGo f z true acc (p + 1) := by
  have h : Lib.decodeL (92 :: z) = (92, 1) := dec_low 92 z (by decide)
  simp [textGo, h]
theorem tg_esc2 (f : Nat) (b x : UInt8) (z acc : Bs) (p : Nat) (hb : b.toNat < 128) (hx : escB b.toNat = some x) : textGo (f + 1) (b :: z) true acc p = textGo f z false (acc ++ [x]) (p + 1) := by
  have h := dec_low b z hb
  simp [textGo, h, hx]
/-- What a text is written as, is read as that text. -/
theorem quo_text : ∀ (f : Nat) (r out q : Bs), quoGo f r out = some q → Lib.validGoD f r = true ∨ Lib.validGoD (f - 1) r = true → r.length < f → ∃ m, q = out ++ m ∧ ∀ (g : Nat) (acc : Bs) (p : Nat), m.length + 1 < g → textGo g (m ++ [34]) false acc p = .ok (acc ++ r) (p + m.length + 1)
  | 0, r, out, q, h, hv, hf => by simp [quoGo] at h
  | f + 1, r, out, q, h, hv, hf => by
    unfold quoGo at h
    split at h
    · rename_i hr
      cases h
      refine ⟨[], by simp, fun g acc p hg => ?_⟩
      obtain ⟨g, rfl⟩ : ∃ k, g = k + 1 := ⟨g - 1, by omega⟩
      simp [textGo, dec_low 34 [] (by decide), hr]
    · rename_i hr
      have hpos := List.length_pos_iff.2 hr
      have hd := Lib.decodeL_le r hr
      have hrg := dec_rng r
      have hnv : ¬ ((Lib.decodeL r).1 = 65533 ∧ (Lib.decodeL r).2 = 1) ∧ (Lib.validGoD f (r.drop (Lib.decodeL r).2) = true ∨ Lib.validGoD (f - 1) (r.drop (Lib.decodeL r).2) = true) := by
        rcases hv with hv | hv
        · unfold Lib.validGoD at hv
          rw [if_neg hr] at hv
          split at hv
          · cases hv
          · rename_i g; exact ⟨g, .inl hv⟩
        · simp only [Nat.add_sub_cancel] at hv
          obtain ⟨f2, rfl⟩ : ∃ k, f = k + 1 := ⟨f - 1, by omega⟩
          unfold Lib.validGoD at hv
          rw [if_neg hr] at hv
          split at hv
          · cases hv
          · rename_i g; exact ⟨g, .inr hv⟩
      have henc := Lib.encode_decode r hr hnv.1
      have hsplit : r = r.take (Lib.decodeL r).2 ++ r.drop (Lib.decodeL r).2 := (List.take_append_drop _ _).symm
      split at h
      · rename_i b hb
        obtain ⟨u1, u2, u3⟩ := unesc_some hb
        obtain ⟨m, e1, e2⟩ := quo_text f _ _ _ h hnv.2 (by rw [List.length_drop]; omega)
        refine ⟨[92, b] ++ m, by rw [e1]; simp, fun g acc p hg => ?_⟩
        obtain ⟨g, rfl⟩ : ∃ k, g = k + 2 := ⟨g - 2, by omega⟩
        simp only [List.length_append, List.length_cons, List.length_nil] at hg
        have hone : r.take (Lib.decodeL r).2 = [UInt8.ofNat (Lib.decodeL r).1] := by
          rw [← henc]
          unfold Lib.encodeRune
          rw [Lib.encodeRuneZ_one (by omega) (by omega)]
          simp
        have el : ([92, b] ++ m ++ [34] : Bs) = 92 :: b :: (m ++ [34]) := by simp
        rw [el, show g + 2 = (g + 1) + 1 from rfl, tg_esc1, tg_esc2 _ _ _ _ _ _ u3 u1]
        rw [e2 g _ _ (by omega)]
        rw [hone] at hsplit
        simp only [List.append_assoc, List.length_append, List.length_cons, List.length_nil, TR.ok.injEq]
        refine ⟨?_, by omega⟩
        congr 1
        exact hsplit.symm
      · rename_i hb
        split at h
        · cases h
        · rename_i h32
          obtain ⟨n34, n92⟩ := unesc_none hb
          obtain ⟨m, e1, e2⟩ := quo_text f _ _ _ h hnv.2 (by rw [List.length_drop]; omega)
          refine ⟨Lib.encodeRune (Lib.decodeL r).1 ++ m, by rw [e1]; simp, fun g acc p hg => ?_⟩
          obtain ⟨g, rfl⟩ : ∃ k, g = k + 1 := ⟨g - 1, by omega⟩
          rw [henc] at hg ⊢
          have htl : (r.take (Lib.decodeL r).2).length = (Lib.decodeL r).2 := by rw [List.length_take]; omega
          have hdt : Lib.decodeL (r.take (Lib.decodeL r).2) = Lib.decodeL r := dec_take (by omega) (Nat.le_refl _)
          have htn : r.take (Lib.decodeL r).2 ≠ [] := fun g => by rw [g] at htl; simp at htl; omega
          have hda : Lib.decodeL (r.take (Lib.decodeL r).2 ++ (m ++ [34])) = Lib.decodeL r := by
            rw [dec_app htn (by rw [hdt]; intro g; exact hnv.1 ⟨by rw [g], by rw [g]⟩), hdt]
          rw [List.append_assoc]
          simp only [List.length_append] at hg
          unfold textGo
          rw [if_neg (by simp [htn]), if_neg (by simp), hda, if_neg n34, if_neg n92]
          have hpk : ¬ (pk (r.take (Lib.decodeL r).2 ++ (m ++ [34]))).1 < 32 := by
            unfold pk
            rw [hda, if_neg]
            · simp only; omega
            · simp only [not_or]
              exact ⟨by simp [htn], fun g => hnv.1 ⟨by rw [g], by rw [g]⟩⟩
          rw [if_neg hpk, henc]
          have hdrop : (r.take (Lib.decodeL r).2 ++ (m ++ [34])).drop (Lib.decodeL r).2 = m ++ [34] := by
            conv => lhs; arg 1; rw [← htl]
            rw [List.drop_left]
          rw [hdrop, e2 g _ _ (by omega)]
          simp only [List.append_assoc, List.length_append, TR.ok.injEq]
          refine ⟨?_, by omega⟩
          congr 1
          exact hsplit.symm
/-- Quote's text is one token: the text. -/
theorem quote_all {s q : Bs} (h : quoteF s = some q) : allF q 1 = ([⟨3, s, 0, 0, q.length⟩], (0, 0)) ∧ q ≠ [] := by
  unfold quoteF at h
  split at h
  · rename_i hv
    cases hq : quoGo (s.length + 1) s [34] with
    | none => rw [hq] at h; cases h
    | some x =>
      rw [hq] at h
      cases h
      obtain ⟨m, rfl, ht⟩ := quo_text _ _ _ _ hq (.inr hv) (by omega)
      have hq' : ([34] ++ m) ++ [34] = (34 :: (m ++ [34]) : Bs) := rfl
      change allF (([34] ++ m) ++ [34]) 1 = ([⟨3, s, 0, 0, (([34] ++ m) ++ [34] : Bs).length⟩], (0, 0)) ∧ (([34] ++ m) ++ [34] : Bs) ≠ []
      rw [hq']
      have hlen : (34 :: (m ++ [34]) : Bs).length = m.length + 2 := by simp
      have htext : textF (34 :: (m ++ [34])) = .ok s (m.length + 2) := by
        unfold textF
        rw [List.drop_succ_cons, List.drop_zero, ht _ [] 1 (by rw [hlen]; omega)]
        simp only [List.nil_append, TR.ok.injEq, true_and]; omega
      have hpk : pk (34 :: (m ++ [34])) = (34, 1) := by
        unfold pk; rw [dec_low 34 _ (by decide), if_neg (by simp)]; rfl
      have hsg : signF (34 :: (m ++ [34])) = 0 := by
        unfold signF
        rw [if_neg, if_neg]
        · simp only [List.getD_cons_zero]; decide
        · simp [twos, Lib.hasPrefix, List.isPrefixOf]
      have hbare : blankF (34 :: (m ++ [34])) = (true, 0) := by
        unfold blankF
        have ht : Lib.trimLeftS (34 :: (m ++ [34])) ws = 34 :: (m ++ [34]) := by unfold Lib.trimLeftS; rw [List.dropWhile_cons, if_neg (by decide)]
        rw [blankGo_end (by rw [ht]; rfl) (by rw [ht]; rfl), ht, Nat.sub_self]
      refine ⟨?_, by simp⟩
      unfold allF
      rw [allGo, hbare]
      simp only [Bool.true_eq_false, if_false, Nat.add_zero, List.drop_zero, Nat.sub_zero]
      rw [if_neg (by simp), nextF_eq, hsg, hpk, if_neg (by simp), if_neg (by simp), if_neg (by omega), if_pos rfl, textR, htext]
      simp only [Nat.zero_add, Nat.sub_zero]
      rw [List.drop_eq_nil_of_le (by rw [hlen]; omega), hlen, allGo, blankF_nil]
      simp
  · cases h
end Go.PM.Lex
