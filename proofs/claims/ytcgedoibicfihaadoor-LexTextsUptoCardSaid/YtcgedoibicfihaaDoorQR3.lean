/- A part of the proof: plain logic, contracts and laws over the given program. -/
import Derived.Test.YtcgedoibicfihaaDoorQR2
set_option linter.unusedVariables false
set_option linter.unusedSimpArgs false
set_option linter.all false
set_option maxRecDepth 100000
set_option maxHeartbeats 8000000
namespace Go.PM.Lex
open Go.Proofs
variable {w0 : World} {nG : Nat}
/-- The document's Quote. -/
def refGo : Nat → Bs → Bs → Option Bs
  | 0, _, _ => none
  | f + 1, r, out => if r = [] then some out
    else if (pk r).1 = 10 then refGo f (r.drop (pk r).2) (out ++ [92, 110])
    else if (pk r).1 = 9 then refGo f (r.drop (pk r).2) (out ++ [92, 116])
    else if (pk r).1 = 34 ∨ (pk r).1 = 92 then refGo f (r.drop (pk r).2) (out ++ [92, r.getD 0 0])
    else if (pk r).1 < 32 then none
    else refGo f (r.drop (pk r).2) (out ++ r.take (pk r).2)
theorem refGo_step (f : Nat) (r out : Bs) : refGo (f + 1) r out = if r = [] then some out
    else if (pk r).1 = 10 then refGo f (r.drop (pk r).2) (out ++ [92, 110])
    else if (pk r).1 = 9 then refGo f (r.drop (pk r).2) (out ++ [92, 116])
    else if (pk r).1 = 34 ∨ (pk r).1 = 92 then refGo f (r.drop (pk r).2) (out ++ [92, r.getD 0 0])
    else if (pk r).1 < 32 then none
    else refGo f (r.drop (pk r).2) (out ++ r.take (pk r).2) := rfl
theorem ref_eq : ∀ (f : Nat) (r out : Bs), r.length < f → refGo f r out = if Lib.validGoD (f - 1) r = true then quoGo f r out else none
  | 0, r, out, hf => by omega
  | f + 1, r, out, hf => by
    simp only [Nat.add_sub_cancel]
    by_cases hr : r = []
    · subst hr
      have : Lib.validGoD f [] = true := by cases f <;> simp [Lib.validGoD]
      simp [refGo, quoGo, this]
    · have hpos := List.length_pos_iff.2 hr
      have hdl := Lib.decodeL_le r hr
      have hrg := dec_rng r
      obtain ⟨g, rfl⟩ : ∃ g, f = g + 1 := ⟨f - 1, by omega⟩
      unfold refGo
      rw [if_neg hr]
      by_cases hv : (Lib.decodeL r).1 = 65533 ∧ (Lib.decodeL r).2 = 1
      · have hpk : pk r = (-1, 1) := by unfold pk; rw [if_pos (.inr (Prod.ext hv.1 hv.2))]
        have hvf : Lib.validGoD (g + 1) r = false := by unfold Lib.validGoD; rw [if_neg hr, if_pos hv]
        rw [hpk, hvf]
        simp
      · have hpk : pk r = (((Lib.decodeL r).1 : Int), (Lib.decodeL r).2) := by
          unfold pk; rw [if_neg]; simp only [not_or]; exact ⟨hr, fun g => hv ⟨by rw [g], by rw [g]⟩⟩
        have hvf : Lib.validGoD (g + 1) r = Lib.validGoD g (r.drop (Lib.decodeL r).2) := by conv => lhs; unfold Lib.validGoD; rw [if_neg hr, if_neg hv]
        have ih := fun out => ref_eq (g + 1) (r.drop (Lib.decodeL r).2) out (by rw [List.length_drop]; omega)
        simp only [Nat.add_sub_cancel] at ih
        have henc := Lib.encode_decode r hr hv
        rw [hvf, hpk]
        simp only
        have hq : quoGo (g + 1 + 1) r out = match unesc (Lib.decodeL r).1 with
            | some b => quoGo (g + 1) (r.drop (Lib.decodeL r).2) (out ++ [92, b])
            | none => if (Lib.decodeL r).1 < 32 then none else quoGo (g + 1) (r.drop (Lib.decodeL r).2) (out ++ Lib.encodeRune (Lib.decodeL r).1) := by
          conv => lhs; unfold quoGo
          rw [if_neg hr]
          rfl
        have lowb : (Lib.decodeL r).1 < 128 → r.getD 0 0 = UInt8.ofNat (Lib.decodeL r).1 := fun h => by
          have e := (pk_low r (by rw [hpk]; simp only; omega) (by rw [hpk]; simp only; omega)).2.1
          rw [hpk] at e
          simp only at e
          have e' : (Lib.decodeL r).1 = (r.getD 0 0).toNat := by omega
          rw [e', UInt8.ofNat_toNat]
        rw [hq]
        by_cases h1 : (Lib.decodeL r).1 = 10
        · rw [if_pos (by omega), ih, show unesc (Lib.decodeL r).1 = some 110 by rw [h1]; rfl]
        · rw [if_neg (by omega)]
          by_cases h2 : (Lib.decodeL r).1 = 9
          · rw [if_pos (by omega), ih, show unesc (Lib.decodeL r).1 = some 116 by rw [h2]; rfl]
          · rw [if_neg (by omega)]
            by_cases h3 : (Lib.decodeL r).1 = 34
            · rw [if_pos (by omega), ih, show unesc (Lib.decodeL r).1 = some 34 by rw [h3]; rfl, lowb (by omega), h3]; rfl
            · by_cases h4 : (Lib.decodeL r).1 = 92
              · rw [if_pos (by omega), ih, show unesc (Lib.decodeL r).1 = some 92 by rw [h4]; rfl, lowb (by omega), h4]; rfl
              · rw [if_neg (by omega), show unesc (Lib.decodeL r).1 = none by unfold unesc; rw [if_neg h1, if_neg h2, if_neg h3, if_neg h4]]
                simp only
                by_cases h5 : (Lib.decodeL r).1 < 32
                · rw [if_pos (by omega), if_pos h5]; simp
                · rw [if_neg (by omega), if_neg h5, ih, henc]
theorem ref_quote (s : Bs) : quoteF s = (refGo (s.length + 1) s [34]).map (· ++ [34]) := by
  rw [ref_eq _ _ _ (by omega), Nat.add_sub_cancel]
  unfold quoteF Lib.validD
  split <;> rfl
noncomputable def tblQuoR : Tbl := [(26, spRune)]
theorem quoR_ok : PCalls (GG w0 nG) 13 spQuote := by
  refine pcalls tab_ok mixed (tbl := tblQuoR) ⟨⟨rune_ok, spRune_mono⟩, trivial⟩ Tryd.func13 rfl (by kernel_rfl) (by kernel_rfl) ?_
  intro args σ K h
  unfold spQuote at h
  split at h
  · rename_i s
    obtain ⟨hs, hbad, hgood⟩ := h
    refine ⟨loopsOf [(4, ⟨[4, 5], [0], fun vs σ => ∃ (out : Bs) (i f : Nat), vs = [.sl 0 5 (bytesR out), .d (.int .i64 i)] ∧ σ = ⟨[], [0], 1⟩ ∧ (i ≤ s.length ∧ s.length < i + f ∧ out.length ≤ 4 * i + 1) ∧ refGo f (s.drop i) out = refGo (s.length + 1) s [34], fun vs _ => match vs with | [_, .d (.int _ n)] => ((s.length : Int) - n).toNat | _ => 0⟩)], 0, false, by simp, Nat.le_of_ble_eq_true rfl, ?_⟩
    conv => whnf
    refine ⟨fun r hr => by (simp at hr; rcases hr with rfl <;> rfl), (show (0 + 1) * 1 ≤ 2 ^ 47 by omega), by simp, ?_⟩
    conv => whnf
    refine ⟨⟨[34], 0, s.length + 1, rfl, rfl, ⟨by omega, by omega, by simp⟩, by rw [List.drop_zero]⟩, ?_⟩
    intro vs σ1 hI
    obtain ⟨out, i, f, rfl, rfl, ⟨hi1, hi2, hol⟩, hgo⟩ := hI
    obtain ⟨f, rfl⟩ : ∃ g, f = g + 1 := ⟨f - 1, by omega⟩
    have hbl := bytesR_len out
    have hq := ref_quote s
    have hpl := pk_len (s.drop i)
    have hpr := pk_rng (s.drop i)
    have hple := pk_le (s.drop i)
    conv => whnf
    refine CondP.dec (fun h2 => ?_) (fun h2 => ?_)
    · have h2' : i < s.length := by omega
      have hne : ¬ s.drop i = [] := fun g => by have := congrArg List.length g; rw [List.length_drop] at this; simp at this; omega
      conv => whnf
      refine ⟨⟨by omega, by omega, hs⟩, ?_⟩
      conv => whnf
      generalize hc0 : (pk (s.drop ((i : Int)).toNat)).1 = c
      have hc : (pk (s.drop i)).1 = c := hc0
      have hp2 : c ≠ -1 → i + (pk (s.drop i)).2 ≤ s.length := fun g => by
        have := (hple (by rw [hc]; exact g)).2.1
        rw [List.length_drop] at this; omega
      refine CondP.dec (fun h3 => ?_) (fun h3 => ?_)
      · have g1 : refGo (f + 1) (s.drop i) out = refGo f ((s.drop i).drop (pk (s.drop i)).2) (out ++ [92, 110]) := by rw [refGo_step, if_neg hne, if_pos (by rw [hc]; exact h3)]
        have g3 := hp2 (by omega)
        conv => whnf
        refine ⟨fun r hr => by (simp at hr; rcases hr with rfl | rfl <;> rfl), (show ((bytesR out).length + 2) * 1 ≤ 2 ^ 47 by omega), (show (bytesR out).length + 2 ≤ 2 ^ 47 by omega), ?_⟩
        conv => whnf
        refine Or.inl ⟨InR.i64 (by simp only [Int.toNat_natCast]; omega) (by simp only [Int.toNat_natCast]; omega), ?_⟩
        conv => whnf
        refine ⟨⟨out ++ [92, 110], i + (pk (s.drop i)).2, f, ?_, rfl, ⟨g3, by omega, by rw [List.length_append]; simp; omega⟩, by rw [← List.drop_drop]; exact g1.symm.trans hgo⟩, ?_⟩
        · rw [bytesR_app]; rfl
        · exact (show ((s.length : Int) - ((i : Int) + ((pk (s.drop i)).2 : Int))).toNat < ((s.length : Int) - (i : Int)).toNat by omega)
      · conv => whnf
        refine CondP.dec (fun h4 => ?_) (fun h4 => ?_)
        · have g1 : refGo (f + 1) (s.drop i) out = refGo f ((s.drop i).drop (pk (s.drop i)).2) (out ++ [92, 116]) := by rw [refGo_step, if_neg hne, if_neg (by rw [hc]; exact h3), if_pos (by rw [hc]; exact h4)]
          have g3 := hp2 (by omega)
          conv => whnf
          refine ⟨fun r hr => by (simp at hr; rcases hr with rfl | rfl <;> rfl), (show ((bytesR out).length + 2) * 1 ≤ 2 ^ 47 by omega), (show (bytesR out).length + 2 ≤ 2 ^ 47 by omega), ?_⟩
          conv => whnf
          refine Or.inl ⟨InR.i64 (by simp only [Int.toNat_natCast]; omega) (by simp only [Int.toNat_natCast]; omega), ?_⟩
          conv => whnf
          refine ⟨⟨out ++ [92, 116], i + (pk (s.drop i)).2, f, ?_, rfl, ⟨g3, by omega, by rw [List.length_append]; simp; omega⟩, by rw [← List.drop_drop]; exact g1.symm.trans hgo⟩, ?_⟩
          · rw [bytesR_app]; rfl
          · exact (show ((s.length : Int) - ((i : Int) + ((pk (s.drop i)).2 : Int))).toNat < ((s.length : Int) - (i : Int)).toNat by omega)
        · have esc : (c = 34 ∨ c = 92) → refGo (f + 1) (s.drop i) out = refGo f ((s.drop i).drop (pk (s.drop i)).2) (out ++ [92, s.getD i 0]) := fun g => by
            rw [refGo_step, if_neg hne, if_neg (by rw [hc]; exact h3), if_neg (by rw [hc]; exact h4), if_pos (by rw [hc]; exact g), Lib.getD_dropU, Nat.add_zero]
          conv => whnf
          refine CondP.dec (fun h5 => ?_) (fun h5 => ?_)
          · have g1 := esc (.inl h5)
            have g3 := hp2 (by omega)
            conv => whnf
            refine ⟨by omega, by omega, ?_⟩
            conv => whnf
            refine ⟨fun r hr => by (simp at hr; rcases hr with rfl | rfl <;> rfl), (show ((bytesR out).length + 2) * 1 ≤ 2 ^ 47 by omega), (show (bytesR out).length + 2 ≤ 2 ^ 47 by omega), ?_⟩
            conv => whnf
            refine Or.inl ⟨InR.i64 (by simp only [Int.toNat_natCast]; omega) (by simp only [Int.toNat_natCast]; omega), ?_⟩
            conv => whnf
            refine ⟨⟨out ++ [92, s.getD i 0], i + (pk (s.drop i)).2, f, ?_, rfl, ⟨g3, by omega, by rw [List.length_append]; simp; omega⟩, by rw [← List.drop_drop]; exact g1.symm.trans hgo⟩, ?_⟩
            · rw [bytesR_app]; rfl
            · exact (show ((s.length : Int) - ((i : Int) + ((pk (s.drop i)).2 : Int))).toNat < ((s.length : Int) - (i : Int)).toNat by omega)
          · conv => whnf
            refine CondP.dec (fun h6 => ?_) (fun h6 => ?_)
            · have g1 := esc (.inr h6)
              have g3 := hp2 (by omega)
              conv => whnf
              refine ⟨by omega, by omega, ?_⟩
              conv => whnf
              refine ⟨fun r hr => by (simp at hr; rcases hr with rfl | rfl <;> rfl), (show ((bytesR out).length + 2) * 1 ≤ 2 ^ 47 by omega), (show (bytesR out).length + 2 ≤ 2 ^ 47 by omega), ?_⟩
              conv => whnf
              refine Or.inl ⟨InR.i64 (by simp only [Int.toNat_natCast]; omega) (by simp only [Int.toNat_natCast]; omega), ?_⟩
              conv => whnf
              refine ⟨⟨out ++ [92, s.getD i 0], i + (pk (s.drop i)).2, f, ?_, rfl, ⟨g3, by omega, by rw [List.length_append]; simp; omega⟩, by rw [← List.drop_drop]; exact g1.symm.trans hgo⟩, ?_⟩
              · rw [bytesR_app]; rfl
              · exact (show ((s.length : Int) - ((i : Int) + ((pk (s.drop i)).2 : Int))).toNat < ((s.length : Int) - (i : Int)).toNat by omega)
            · have tail : refGo (f + 1) (s.drop i) out = if c < 32 then none else refGo f ((s.drop i).drop (pk (s.drop i)).2) (out ++ (s.drop i).take (pk (s.drop i)).2) := by
                rw [refGo_step, if_neg hne, if_neg (by rw [hc]; exact h3), if_neg (by rw [hc]; exact h4), if_neg (by rw [hc]; simp only [not_or]; exact ⟨h5, h6⟩), hc]
              conv => whnf
              refine CondP.dec (fun h7 => ?_) (fun h7 => ?_)
              · conv => whnf
                exact hbad (by rw [hq, ← hgo, tail, if_pos h7]; rfl)
              · have g3 := hp2 (by omega)
                rw [if_neg h7] at tail
                have ec : cut s ((i : Int)).toNat ((i : Int) + ((pk (s.drop ((i : Int)).toNat)).2 : Int)).toNat = (s.drop i).take (pk (s.drop i)).2 := by
                  rw [cut_mid]; congr 1; simp only [Int.toNat_natCast]; omega
                have htl : ((s.drop i).take (pk (s.drop i)).2).length = (pk (s.drop i)).2 := by rw [List.length_take, List.length_drop]; omega
                conv => whnf
                refine Or.inl ⟨InR.i64 (by simp only [Int.toNat_natCast]; omega) (by simp only [Int.toNat_natCast]; omega), ?_⟩
                conv => whnf
                refine ⟨by omega, by simp only [Int.toNat_natCast]; omega, by simp only [Int.toNat_natCast]; omega, ?_⟩
                conv => whnf
                rw [ec]
                refine ⟨fun r hr => bytesR_one _ r hr, (show ((bytesR out).length + (bytesR ((s.drop i).take (pk (s.drop i)).2)).length) * 1 ≤ 2 ^ 47 by rw [bytesR_len, bytesR_len]; omega), (show (bytesR out).length + (bytesR ((s.drop i).take (pk (s.drop i)).2)).length ≤ 2 ^ 47 by rw [bytesR_len, bytesR_len]; omega), ?_⟩
                conv => whnf
                refine Or.inl ⟨InR.i64 (by simp only [Int.toNat_natCast]; omega) (by simp only [Int.toNat_natCast]; omega), ?_⟩
                conv => whnf
                refine ⟨⟨out ++ (s.drop i).take (pk (s.drop i)).2, i + (pk (s.drop i)).2, f, ?_, rfl, ⟨g3, by omega, by rw [List.length_append]; omega⟩, by rw [← List.drop_drop]; exact tail.symm.trans hgo⟩, ?_⟩
                · rw [bytesR_app]; rfl
                · exact (show ((s.length : Int) - ((i : Int) + ((pk (s.drop i)).2 : Int))).toNat < ((s.length : Int) - (i : Int)).toNat by omega)
    · have hnil : s.drop i = [] := List.drop_eq_nil_of_le (by omega)
      have g1 : refGo (s.length + 1) s [34] = some out := by rw [← hgo]; simp [refGo, hnil]
      conv => whnf
      refine ⟨fun r hr => by (simp at hr; rcases hr with rfl <;> rfl), (show ((bytesR out).length + 1) * 1 ≤ 2 ^ 47 by omega), (show (bytesR out).length + 1 ≤ 2 ^ 47 by omega), ?_⟩
      conv => whnf
      refine ⟨out ++ [34], by rw [← bytesR, bytesR_app]; rfl, ?_⟩
      conv => whnf
      exact hgood _ (by rw [hq, g1]; rfl)
  · exact h.elim
end Go.PM.Lex
