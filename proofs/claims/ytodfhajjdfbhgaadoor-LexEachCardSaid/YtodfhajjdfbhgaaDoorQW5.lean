/- A part of the proof: plain logic, contracts and laws over the given program. -/
import Derived.Test.YtodfhajjdfbhgaaDoorQW4
set_option linter.unusedVariables false
set_option linter.unusedSimpArgs false
set_option linter.all false
set_option maxRecDepth 100000
namespace Go.PM.Lex
open Go.Proofs
variable {w0 : World} {nG : Nat}
def muAt (B : Int) : List PV → St → Nat := fun _ σ => match σ.bx with | .cells _ (_ :: .d (.int _ n) :: _) :: _ => (B - n).toNat | _ => 0
theorem dropWhile_eq (p : UInt8 → Bool) : ∀ r : Bs, r.dropWhile p = r.drop (r.length - (r.dropWhile p).length) ∧ (r.dropWhile p).length ≤ r.length
  | [] => by simp
  | x :: r => by
    have ih := dropWhile_eq p r
    by_cases hx : p x = true
    · simp only [List.dropWhile_cons, hx, if_true, List.length_cons]
      refine ⟨?_, by omega⟩
      rw [show r.length + 1 - (r.dropWhile p).length = (r.length - (r.dropWhile p).length) + 1 by omega, List.drop_succ_cons]
      exact ih.1
    · simp [List.dropWhile_cons, hx]
theorem indexByte_lt (c : UInt8) : ∀ l : Bs, Lib.indexByte l c < l.length ∨ Lib.indexByte l c = -1
  | [] => .inr rfl
  | b :: l => by
    have ih := indexByte_lt c l
    unfold Lib.indexByte
    split
    · left; simp
    · split
      · exact .inr rfl
      · rename_i h1 h2
        rcases ih with h | h
        · left; simp; omega
        · rw [h] at h2; simp at h2
theorem index_le (p : Bs) : ∀ l : Bs, 0 ≤ Lib.index l p → Lib.index l p + p.length ≤ l.length
  | [], h => by
    unfold Lib.index at h ⊢
    split at h
    · rename_i hp
      simp at hp; subst hp; simp
    · omega
  | b :: l, h => by
    have ih := index_le p l
    unfold Lib.index at h ⊢
    split at h
    · rename_i hp
      have := List.IsPrefix.length_le (List.isPrefixOf_iff_prefix.1 hp)
      simp only [hp, if_true]
      simp only [List.length_cons] at this ⊢; omega
    · split at h
      · omega
      · rename_i h1 h2
        have := Lib.index_ge l p
        have h3 : Lib.index l p ≠ -1 := by simpa using h2
        simp only [h1, h2, Bool.false_eq_true, if_false]
        have := ih (by omega)
        simp only [List.length_cons]; omega
theorem hasPrefix_two {r : Bs} {a b : UInt8} (h : Lib.hasPrefix r [a, b] = true) : 2 ≤ r.length ∧ r = a :: b :: r.drop 2 := by
  obtain ⟨t, rfl⟩ := List.isPrefixOf_iff_prefix.1 h
  simp
theorem indexByte_two {r : Bs} {a b c : UInt8} (h : Lib.hasPrefix r [a, b] = true) (ha : a ≠ c) (hb : b ≠ c) (h0 : 0 ≤ Lib.indexByte r c) : 2 ≤ Lib.indexByte r c := by
  rw [(hasPrefix_two h).2] at h0 ⊢
  have h1 : (a == c) = false := by simpa using ha
  have h2 : (b == c) = false := by simpa using hb
  have hg := Lib.indexByte_ge (r.drop 2) c
  simp only [Lib.indexByte, h1, h2, Bool.false_eq_true, if_false] at h0 ⊢
  by_cases hm : Lib.indexByte (r.drop 2) c = -1
  · rw [hm] at h0; simp at h0
  · have hm' : (Lib.indexByte (r.drop 2) c == -1) = false := by simpa using hm
    simp only [hm', Bool.false_eq_true, if_false] at h0 ⊢
    have : (Lib.indexByte (r.drop 2) c + 1 == -1) = false := by simp; omega
    simp only [this, Bool.false_eq_true, if_false]
    omega
theorem ws_low : ∀ (j : Nat) (b : UInt8), ([32, 9, 13, 10] : Bs)[j]? = some b → b.toNat < 128
  | 0, b, h => by simp at h; subst h; decide
  | 1, b, h => by simp at h; subst h; decide
  | 2, b, h => by simp at h; subst h; decide
  | 3, b, h => by simp at h; subst h; decide
  | j + 4, b, h => by simp at h
noncomputable def tblBlank : Tbl := [(25, spTrimLeft), (26, spHasPrefix), (27, spIndexByte), (28, spIndex)]
theorem blank_ok (ht : TblOK (GG w0 nG) tblBlank) : PCalls (GG w0 nG) 20 spBlank := by
  refine pcalls tab_ok mixed ht Tryd.func20 rfl (by kernel_rfl) (by kernel_rfl) ?_
  intro args σ K h
  unfold spBlank at h
  split at h
  · rename_i t s a
    obtain ⟨⟨h0, h1, hs⟩, h⟩ := h
    obtain ⟨a, rfl⟩ : ∃ n : Nat, a = n := ⟨a.toNat, by omega⟩
    simp only [Int.toNat_natCast] at h
    refine ⟨loopsOf [(1, ⟨[], [0], fun vs σ => vs = [] ∧ 
      ∃ e f : Nat, σ = ⟨[.cells t [.d (.str s), .d (.int .i64 e)]], [], 0⟩ ∧ a ≤ e ∧ e ≤ s.length ∧ s.length < e + f ∧ (blankGo f (s.drop e)).1 = (blankF (s.drop a)).1 ∧ e + (blankGo f (s.drop e)).2 = a + (blankF (s.drop a)).2, muAt s.length⟩)], 1, false, by simp, Nat.le_of_ble_eq_true rfl, ?_⟩
    conv => whnf
    refine ⟨⟨rfl, a, s.length - a + 1, rfl, by omega, by omega, by omega, by simp [blankF], by simp [blankF]⟩, ?_⟩
    intro vs σ1 hI
    obtain ⟨rfl, e, f, rfl, he1, he2, hf, hn1, hn2⟩ := hI
    obtain ⟨f, rfl⟩ : ∃ g, f = g + 1 := ⟨f - 1, by omega⟩
    conv => whnf
    refine ⟨by omega, by omega, ?_⟩
    conv => whnf
    refine ⟨⟨by decide, ws_low⟩, ?_⟩
    conv => whnf
    generalize hrest0 : Lib.trimLeftS (cut s _ _) _ = rest
    have hrest : Lib.trimLeftS (s.drop e) [32, 9, 13, 10] = rest := by rw [cut_end] at hrest0; exact hrest0
    have hdw := dropWhile_eq (([32, 9, 13, 10] : Bs).contains ·) (s.drop e)
    have hr1 : rest = (s.drop e).drop ((s.drop e).length - rest.length) := by rw [← hrest]; exact hdw.1
    have hr2 : rest.length ≤ (s.drop e).length := by rw [← hrest]; exact hdw.2
    rw [List.length_drop] at hr2
    have hr3 : rest = s.drop (s.length - rest.length) := by
      rw [List.drop_drop, List.length_drop, show e + (s.length - e - rest.length) = s.length - rest.length by omega] at hr1
      exact hr1
    have hk : (s.drop e).length - rest.length = s.length - rest.length - e := by rw [List.length_drop]; omega
    -- a round
    have hgo : ∀ n : Nat, 1 ≤ n → n ≤ rest.length → blankGo (f + 1) (s.drop e) = ((blankGo f (rest.drop n)).1, (s.drop e).length - rest.length + n + (blankGo f (rest.drop n)).2) →
        a ≤ s.length - rest.length + n ∧ s.length - rest.length + n ≤ s.length ∧ s.length < (s.length - rest.length + n) + f ∧ (blankGo f (s.drop (s.length - rest.length + n))).1 = (blankF (s.drop a)).1 ∧ (s.length - rest.length + n) + (blankGo f (s.drop (s.length - rest.length + n))).2 = a + (blankF (s.drop a)).2 := fun n g1 g2 g3 => by
      have g4 : rest.drop n = s.drop (s.length - rest.length + n) := by rw [← List.drop_drop, ← hr3]
      rw [g3, g4] at hn1 hn2
      simp only at hn1 hn2
      exact ⟨by omega, by omega, by omega, hn1, by omega⟩
    have hend : ∀ b : Bool, blankGo (f + 1) (s.drop e) = (b, (s.drop e).length - rest.length) → K (.ret (.d (.bool b))) ⟨[.cells t [.d (.str s), .d (.int .i64 ((s.length : Int) - rest.length))]], [], 0⟩ := fun b g => by
      rw [g] at hn1 hn2
      simp only at hn1 hn2
      rw [← hn1, show (a : Int) + ((blankF (s.drop a)).2 : Int) = (s.length : Int) - rest.length by omega] at h
      exact h
    have bg1 : Lib.hasPrefix rest [47, 47] = true → blankGo (f + 1) (s.drop e) = ((blankGo f (rest.drop (if Lib.indexByte rest 10 < 0 then rest.length else (Lib.indexByte rest 10).toNat))).1, (s.drop e).length - rest.length + (if Lib.indexByte rest 10 < 0 then rest.length else (Lib.indexByte rest 10).toNat) + (blankGo f (rest.drop (if Lib.indexByte rest 10 < 0 then rest.length else (Lib.indexByte rest 10).toNat))).2) := fun g => by
      simp only [blankGo, hrest, g, if_true]
    have bg2 : Lib.hasPrefix rest [47, 47] = false → Lib.hasPrefix rest [47, 42] = true → Lib.index (rest.drop 2) [42, 47] < 0 → blankGo (f + 1) (s.drop e) = (false, (s.drop e).length - rest.length) := fun g1 g2 g3 => by
      simp only [blankGo, hrest, g1, g2, g3, if_true, Bool.false_eq_true, if_false]
    have bg3 : Lib.hasPrefix rest [47, 47] = false → Lib.hasPrefix rest [47, 42] = true → ¬ Lib.index (rest.drop 2) [42, 47] < 0 → blankGo (f + 1) (s.drop e) = ((blankGo f (rest.drop ((Lib.index (rest.drop 2) [42, 47]).toNat + 4))).1, (s.drop e).length - rest.length + ((Lib.index (rest.drop 2) [42, 47]).toNat + 4) + (blankGo f (rest.drop ((Lib.index (rest.drop 2) [42, 47]).toNat + 4))).2) := fun g1 g2 g3 => by
      simp only [blankGo, hrest, g1, g2, g3, if_true, Bool.false_eq_true, if_false]
    have bg4 : Lib.hasPrefix rest [47, 47] = false → Lib.hasPrefix rest [47, 42] = false → blankGo (f + 1) (s.drop e) = (true, (s.drop e).length - rest.length) := fun g1 g2 => by
      simp only [blankGo, hrest, g1, g2, Bool.false_eq_true, if_false]
    refine Or.inl ⟨InR.i64 (by omega) (by omega), ?_⟩
    conv => whnf
    refine CondP.intro (fun h2 => ?_) (fun h2 => ?_)
    · have h2' : Lib.hasPrefix rest [47, 47] = true := h2
      have hrl := (hasPrefix_two h2').1
      have bg := bg1 h2'
      conv => whnf
      have hge := Lib.indexByte_ge rest 10
      have hlt := indexByte_lt 10 rest
      have h22 := indexByte_two (c := 10) h2' (by decide) (by decide)
      refine CondP.dec (fun h3 => ?_) (fun h3 => ?_)
      · have h3' : Lib.indexByte rest 10 < 0 := h3
        simp only [h3', if_true] at bg
        conv => whnf
        refine Or.inl ⟨InR.i64 (by omega) (by omega), ?_⟩
        conv => whnf
        obtain ⟨k1, k2, k3, k4, k5⟩ := hgo _ (by omega) (by omega) bg
        refine ⟨⟨rfl, _, f, ?_, k1, k2, k3, k4, k5⟩, ?_⟩
        · rw [show (s.length : Int) - (rest.length : Int) + (rest.length : Int) = ((s.length - rest.length + rest.length : Nat) : Int) by omega]; rfl
        · exact (show ((s.length : Int) - ((s.length : Int) - (rest.length : Int) + (rest.length : Int))).toNat < ((s.length : Int) - (e : Int)).toNat by omega)
      · have h3' : ¬ Lib.indexByte rest 10 < 0 := h3
        simp only [h3', if_false] at bg
        obtain ⟨n, hn⟩ : ∃ n : Nat, Lib.indexByte rest 10 = n := ⟨(Lib.indexByte rest 10).toNat, by omega⟩
        have hn' : Lib.indexByte rest ((10 : Int).toNat.toUInt8) = n := hn
        conv => whnf
        rw [hn']
        rw [hn] at h22 hlt
        rw [hn, Int.toNat_natCast] at bg
        refine Or.inl ⟨InR.i64 (by omega) (by omega), ?_⟩
        conv => whnf
        obtain ⟨k1, k2, k3, k4, k5⟩ := hgo _ (by omega) (by omega) bg
        refine ⟨⟨rfl, _, f, ?_, k1, k2, k3, k4, k5⟩, ?_⟩
        · rw [show (s.length : Int) - (rest.length : Int) + (n : Int) = ((s.length - rest.length + n : Nat) : Int) by omega]; rfl
        · exact (show ((s.length : Int) - ((s.length : Int) - (rest.length : Int) + (n : Int))).toNat < ((s.length : Int) - (e : Int)).toNat by omega)
    · have h2' : Lib.hasPrefix rest [47, 47] = false := h2
      conv => whnf
      refine CondP.intro (fun h3 => ?_) (fun h3 => ?_)
      · have h3' : Lib.hasPrefix rest [47, 42] = true := h3
        have hrl := (hasPrefix_two h3').1
        conv => whnf
        refine ⟨by omega, by omega, ?_⟩
        conv => whnf
        rw [cut_end]
        have hdl : (rest.drop 2).length = rest.length - 2 := by simp
        refine ⟨by have : (rest.drop ((2 : Int).toNat)).length = rest.length - 2 := hdl; omega, ?_⟩
        conv => whnf
        have hge := Lib.index_ge (rest.drop 2) [42, 47]
        have hle := index_le [42, 47] (rest.drop 2)
        simp only [List.length_cons, List.length_nil, hdl] at hle
        refine CondP.dec (fun h4 => ?_) (fun h4 => ?_)
        · conv => whnf
          exact hend _ (bg2 h2' h3' h4)
        · have h4' : ¬ Lib.index (rest.drop 2) [42, 47] < 0 := h4
          have bg := bg3 h2' h3' h4'
          obtain ⟨n, hn⟩ : ∃ n : Nat, Lib.index (rest.drop 2) [42, 47] = n := ⟨(Lib.index (rest.drop 2) [42, 47]).toNat, by omega⟩
          conv => whnf
          generalize hi : Lib.index _ _ = i
          have hi' : i = n := by rw [← hi]; exact hn
          subst hi'
          rw [hn] at hle
          rw [hn, Int.toNat_natCast] at bg
          refine Or.inl ⟨InR.i64 (by omega) (by omega), ?_⟩
          conv => whnf
          refine Or.inl ⟨InR.i64 (by omega) (by omega), ?_⟩
          conv => whnf
          obtain ⟨k1, k2, k3, k4, k5⟩ := hgo _ (by omega) (by omega) bg
          refine ⟨⟨rfl, _, f, ?_, k1, k2, k3, k4, k5⟩, ?_⟩
          · rw [show (s.length : Int) - (rest.length : Int) + ((n : Int) + 4) = ((s.length - rest.length + (n + 4) : Nat) : Int) by omega]; rfl
          · exact (show ((s.length : Int) - ((s.length : Int) - (rest.length : Int) + ((n : Int) + 4))).toNat < ((s.length : Int) - (e : Int)).toNat by omega)
      · conv => whnf
        exact hend _ (bg4 h2' h3)
  · exact h.elim
end Go.PM.Lex
