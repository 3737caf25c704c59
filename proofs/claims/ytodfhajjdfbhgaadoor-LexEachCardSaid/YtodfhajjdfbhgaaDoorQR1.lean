/- A part of the proof: plain logic, contracts and laws over the given program. -/
import Derived.Test.YtodfhajjdfbhgaaDoorQCut
import Derived.Test.YtodfhajjdfbhgaaDoorQSp2
set_option linter.unusedVariables false
set_option linter.unusedSimpArgs false
set_option linter.all false
set_option maxRecDepth 100000
set_option maxHeartbeats 8000000
namespace Go.PM.Lex
open Go.Proofs
variable {w0 : World} {nG : Nat}
noncomputable def spLetR : Spec := fun args σ K => match args, σ with
  | [.d (.int .i32 c)], ⟨[], [], 0⟩ => K (.ret (.d (.bool (isLetter c)))) ⟨[], [], 0⟩
  | _, _ => False
theorem spLetR_mono : SpecMono spLetR := fun args σ K K' hK h => by
  unfold spLetR at h ⊢; split at h <;> first | exact hK _ _ h | exact h.elim
theorem digitR_ok : PCalls (GG w0 nG) 14 spDigit := by
  refine pcalls tab_ok mixed (tbl := []) trivial Tryd.func14 rfl (by kernel_rfl) (by kernel_rfl) ?_
  intro args σ K h
  unfold spDigit at h
  split at h
  · rename_i c
    refine ⟨loopsOf [], 0, false, by decide, Nat.le_of_ble_eq_true rfl, ?_⟩
    refine CondP.dec (fun h1 => ?_) (fun h1 => ?_)
    · refine K_bool h ?_
      simp only [isDigit, decide_eq_decide]; omega
    · refine K_bool h ?_
      simp only [isDigit, decide_eq_false_iff_not]; omega
  · exact h.elim
theorem letterR_ok : PCalls (GG w0 nG) 23 spLetR := by
  refine pcalls tab_ok mixed (tbl := []) trivial Tryd.func23 rfl (by kernel_rfl) (by kernel_rfl) ?_
  intro args σ K h
  unfold spLetR at h
  split at h
  · rename_i c
    refine ⟨loopsOf [], 0, false, by decide, Nat.le_of_ble_eq_true rfl, ?_⟩
    repeat' first | refine CondP.tt ?_ | refine CondP.ff ?_ | refine CondP.dec (fun h1 => ?_) (fun h1 => ?_)
    all_goals (refine K_bool h ?_; simp only [isLetter, decide_eq_true_eq, decide_eq_false_iff_not, decide_eq_decide]; omega)
  · exact h.elim
noncomputable def spFirst : Spec := fun args σ K => match args, σ with
  | [.d (.str s), .d (.int .i64 a), .d (.int .i64 e)], ⟨[], [], 0⟩ => (0 ≤ a ∧ a ≤ e ∧ e ≤ s.length ∧ s.length < 4294967281) ∧
      (3 ≤ e - a ∧ cut s a.toNat (a.toNat + 3) = [239, 191, 189] → K (.ret (.tuple [.d (.int .i32 65533), .d (.int .i64 3)])) ⟨[], [], 0⟩) ∧
      (¬ (3 ≤ e - a ∧ cut s a.toNat (a.toNat + 3) = [239, 191, 189]) → K (.ret (.tuple [.d (.int .i32 (-1)), .d (.int .i64 1)])) ⟨[], [], 0⟩)
  | _, _ => False
theorem spFirst_mono : SpecMono spFirst := fun args σ K K' hK h => by
  unfold spFirst at h ⊢
  split at h
  · exact ⟨h.1, fun g => hK _ _ (h.2.1 g), fun g => hK _ _ (h.2.2 g)⟩
  · exact h.elim
theorem first_ok : PCalls (GG w0 nG) 36 spFirst := by
  refine pcalls tab_ok mixed (tbl := []) trivial Tryd.func36 rfl (by kernel_rfl) (by kernel_rfl) ?_
  intro args σ K h
  unfold spFirst at h
  split at h
  · rename_i s a e
    obtain ⟨⟨h0, h1, h2, h3⟩, hA, hB⟩ := h
    refine ⟨loopsOf [], 0, false, by decide, Nat.le_of_ble_eq_true rfl, ?_⟩
    conv => whnf
    refine Or.inl ⟨InR.i64 (by omega) (by omega), ?_⟩
    conv => whnf
    refine CondP.dec (fun h4 => ?_) (fun h4 => ?_)
    · conv => whnf
      refine Or.inl ⟨InR.i64 (by omega) (by omega), ?_⟩
      conv => whnf
      refine ⟨h0, by omega, by omega, ?_⟩
      conv => whnf
      have ec : cut s a.toNat (a + 3).toNat = cut s a.toNat (a.toNat + 3) := by rw [show (a + 3).toNat = a.toNat + 3 by omega]
      refine CondP.dec (fun h5 => ?_) (fun h5 => ?_)
      · conv => whnf
        exact hA ⟨h4, by rw [← ec]; exact h5⟩
      · conv => whnf
        exact hB (fun g => h5 (by rw [ec]; exact g.2))
    · conv => whnf
      exact hB (fun g => h4 g.1)
  · exact h.elim
noncomputable def spRune : Spec := fun args σ K => match args, σ with
  | [.d (.str s), .d (.int .i64 a)], ⟨[], [], 0⟩ => (0 ≤ a ∧ a ≤ s.length ∧ s.length < 4294967281) ∧
      K (.ret (.tuple [.d (.int .i32 (pk (s.drop a.toNat)).1), .d (.int .i64 (pk (s.drop a.toNat)).2)])) ⟨[], [], 0⟩
  | _, _ => False
theorem spRune_mono : SpecMono spRune := fun args σ K K' hK h => by
  unfold spRune at h ⊢; split at h <;> first | exact ⟨h.1, hK _ _ h.2⟩ | exact h.elim
/-- The size that a rune's range tells. -/
theorem dec_size (r : Bs) (h : (Lib.decodeL r).1 ≠ 65533) : (Lib.decodeL r).2 = if (Lib.decodeL r).1 < 128 then 1 else if (Lib.decodeL r).1 < 2048 then 2 else if (Lib.decodeL r).1 < 65536 then 3 else 4 := by
  rw [Lib.decodeL_N] at h ⊢
  have k0 := (r.getD 0 0).toNat_lt
  rcases Lib.decodeN_shape r.length (r.getD 0 0).toNat (r.getD 1 0).toNat (r.getD 2 0).toNat (r.getD 3 0).toNat with ⟨c, e⟩ | ⟨c1, c2, c3, cv, e⟩ | ⟨c1, c2, c3, c4, cv, cs, e⟩ | ⟨c1, c2, c3, c4, c5, cv, cw, e⟩ | e
  all_goals (rw [e] at h ⊢; dsimp only at h ⊢)
  · rw [if_pos c]
  · rw [if_neg (by omega), if_pos (by omega)]
  · rw [if_neg (by omega), if_neg (by omega), if_pos (by omega)]
  · rw [if_neg (by omega), if_neg (by omega), if_neg (by omega)]
  · exact absurd rfl h
theorem cut3 (s : Bs) (a : Nat) (h : 3 ≤ s.length - a) : cut s a (a + 3) = [239, 191, 189] ↔ Lib.hasPrefix (s.drop a) [239, 191, 189] = true := by
  rw [cut_mid, Nat.add_sub_cancel_left]
  unfold Lib.hasPrefix
  rw [List.isPrefixOf_iff_prefix, List.prefix_iff_eq_take]
  exact ⟨fun g => by rw [← g]; simp, fun g => g.symm⟩
def muI0 (B : Nat) : List PV → St → Nat := fun _ σ => match σ.bx with | [.iter _ p] => B - p | _ => 0
noncomputable def tblRune : Tbl := [(36, spFirst)]
theorem rune_ok : PCalls (GG w0 nG) 22 spRune := by
  refine pcalls tab_ok mixed (tbl := tblRune) ⟨⟨first_ok, spFirst_mono⟩, trivial⟩ Tryd.func22 rfl (by kernel_rfl) (by kernel_rfl) ?_
  intro args σ K h
  unfold spRune at h
  split at h
  · rename_i s a
    obtain ⟨⟨h0, h1, hs⟩, h⟩ := h
    obtain ⟨a, rfl⟩ : ∃ n : Nat, a = n := ⟨a.toNat, by omega⟩
    simp only [Int.toNat_natCast] at h
    obtain ⟨u, hu⟩ : ∃ u, u = (s.drop a).take 4 := ⟨_, rfl⟩
    have hul : u.length = min 4 (s.length - a) := by rw [hu, List.length_take, List.length_drop]
    have hd0 : s.length ≠ a → decodeL u 0 = Lib.decodeL (s.drop a) := fun hne => by
      rw [dec_eq, List.drop_zero, hu]
      exact dec_take (by omega) (dec_rng _).2.2
    have hdr := dec_rng (s.drop a)
    have hdl := Lib.decodeL_le (s.drop a)
    rw [List.length_drop] at hdl
    have hfff := fffd (s.drop a)
    have hcut3 := cut3 s a
    refine ⟨loopsOf [(2, ⟨[], [0, 1, 16], fun vs σ => vs = [] ∧ ∃ p : Nat, σ = ⟨[.iter u p], [], 0⟩ ∧ (p = 0 ∨ (s.length ≠ a ∧ p = (Lib.decodeL (s.drop a)).2 ∧ (Lib.decodeL (s.drop a)).1 = 65533)), muI0 u.length⟩)], 0, false, by decide, Nat.le_of_ble_eq_true rfl, ?_⟩
    have hcu : cut s ((a : Int)).toNat (min ((a : Int) + 4) (s.length : Int)).toNat = u := by
      rw [cut_mid, hu]
      by_cases h4 : (a : Int) + 4 ≤ s.length
      · rw [Int.min_eq_left h4]; congr 1; omega
      · rw [Int.min_eq_right (by omega), List.take_of_length_le (by rw [List.length_drop]; omega), List.take_of_length_le (by rw [List.length_drop]; omega)]; rfl
    have fin : ∀ e : Int, ((Lib.decodeL (s.drop a)).1 = 65533 ∧ s.length ≠ a ∧ (e = a + (Lib.decodeL (s.drop a)).2 ∨ ((Lib.decodeL (s.drop a)).2 ≥ u.length ∧ e = a + u.length))) ∨ (s.length = a ∧ e = a) →
        (3 ≤ e - a ∧ cut s ((a : Int)).toNat (((a : Int)).toNat + 3) = [239, 191, 189] → K (.ret (.tuple [.d (.int .i32 65533), .d (.int .i64 3)])) ⟨[], [], 0⟩) ∧
        (¬ (3 ≤ e - a ∧ cut s ((a : Int)).toNat (((a : Int)).toNat + 3) = [239, 191, 189]) → K (.ret (.tuple [.d (.int .i32 (-1)), .d (.int .i64 1)])) ⟨[], [], 0⟩) := fun e he => by
      simp only [Int.toNat_natCast]
      rcases he with ⟨hv, hne, he⟩ | ⟨hne, he⟩
      · have hl : 0 < (s.drop a).length := by rw [List.length_drop]; omega
        have hdl' := hdl (fun g => by rw [g] at hl; simp at hl)
        refine ⟨fun g => ?_, fun g => ?_⟩
        · rw [pk_fffd _ hl ((hcut3 (by omega)).1 g.2) hv] at h; exact h
        · have : ¬ Lib.hasPrefix (s.drop a) [239, 191, 189] = true := fun gp => by
            have hl3 := (pre3 _).1 gp
            rw [List.length_drop] at hl3
            rcases hfff hv with ⟨_, g2⟩ | ⟨g1, _⟩
            · exact g ⟨by omega, (hcut3 (by omega)).2 gp⟩
            · exact g1 gp
          rw [pk_bad _ this hv] at h; exact h
      · refine ⟨fun g => by omega, fun g => ?_⟩
        rw [List.drop_eq_nil_of_le (by omega), pk_nil] at h; exact h
    conv => whnf
    refine Or.inl ⟨InR.i64 (by omega) (by omega), ?_⟩
    conv => whnf
    refine ⟨by omega, by omega, by omega, ?_⟩
    conv => whnf
    rw [hcu]
    refine ⟨⟨rfl, 0, rfl, .inl rfl⟩, ?_⟩
    intro vs σ1 hI
    obtain ⟨rfl, p, rfl, hp⟩ := hI
    conv => whnf
    refine CondP.dec (fun h2 => ?_) (fun h2 => ?_)
    · rcases hp with rfl | ⟨hp0, rfl, hp2⟩
      · have hd := hd0 (by omega)
        conv => whnf
        refine CondP.ndec (fun h3 => ?_) (fun h3 => ?_)
        · have hv : (Lib.decodeL (s.drop a)).1 ≠ 65533 := by rw [hd] at h3; omega
          have hpk := pk_plain (s.drop a) (by rw [List.length_drop]; omega) hv
          have hsz := dec_size _ hv
          rw [hpk] at h
          rw [← hd] at h hsz
          simp only at h
          generalize hc : ((decodeL u 0).1 : Int) = c at h ⊢
          conv => whnf
          refine CondP.dec (fun h4 => ?_) (fun h4 => ?_)
          · conv => whnf
            rw [hsz, if_pos (by omega)] at h
            exact h
          · conv => whnf
            refine CondP.dec (fun h5 => ?_) (fun h5 => ?_)
            · conv => whnf
              rw [hsz, if_neg (by omega), if_pos (by omega)] at h
              exact h
            · conv => whnf
              refine CondP.dec (fun h6 => ?_) (fun h6 => ?_)
              · conv => whnf
                rw [hsz, if_neg (by omega), if_neg (by omega), if_pos (by omega)] at h
                exact h
              · conv => whnf
                rw [hsz, if_neg (by omega), if_neg (by omega), if_neg (by omega)] at h
                exact h
        · have hv : (Lib.decodeL (s.drop a)).1 = 65533 := by rw [hd] at h3; omega
          conv => whnf
          refine ⟨⟨rfl, 0 + (decodeL u 0).2, rfl, .inr ⟨by omega, by rw [hd, Nat.zero_add], hv⟩⟩, ?_⟩
          exact (show u.length - (0 + (decodeL u 0).2) < u.length - 0 by rw [hd]; omega)
      · have hl := hdl (fun g => by have := congrArg List.length g; rw [List.length_drop] at this; simp at this; omega)
        conv => whnf
        refine CondP.dec (fun h3 => ?_) (fun h3 => ?_)
        · conv => whnf
          refine Or.inl ⟨InR.i64 (by omega) (by omega), ?_⟩
          conv => whnf
          refine ⟨⟨by omega, by omega, by omega, hs⟩, ?_⟩
          obtain ⟨f1, f2⟩ := fin ((a : Int) + ((Lib.decodeL (s.drop a)).2 : Int)) (.inl ⟨hp2, hp0, .inl rfl⟩)
          refine ⟨fun g => ?_, fun g => ?_⟩
          · conv => whnf
            exact f1 g
          · conv => whnf
            exact f2 g
        · omega
    · conv => whnf
      refine Or.inl ⟨InR.i64 (by omega) (by omega), ?_⟩
      conv => whnf
      refine ⟨⟨by omega, by omega, by omega, hs⟩, ?_⟩
      obtain ⟨f1, f2⟩ := fin (min ((a : Int) + 4) (s.length : Int)) (by
        rcases hp with rfl | ⟨hp0, rfl, hp2⟩
        · exact .inr ⟨by omega, by omega⟩
        · exact .inl ⟨hp2, hp0, .inr ⟨by omega, by omega⟩⟩)
      refine ⟨fun g => ?_, fun g => ?_⟩
      · conv => whnf
        exact f1 g
      · conv => whnf
        exact f2 g
  · exact h.elim
noncomputable def spLetAt : Spec := fun args σ K => match args, σ with
  | [.d (.str s), .d (.int .i64 a)], ⟨[], [], 0⟩ => (0 ≤ a ∧ s.length < 4294967281) ∧ K (.ret (.d (.bool (isLetter (pk (s.drop a.toNat)).1)))) ⟨[], [], 0⟩
  | _, _ => False
theorem spLetAt_mono : SpecMono spLetAt := fun args σ K K' hK h => by
  unfold spLetAt at h ⊢; split at h <;> first | exact ⟨h.1, hK _ _ h.2⟩ | exact h.elim
noncomputable def tblLetAt : Tbl := [(22, spRune), (23, spLetR)]
theorem letAt_ok : PCalls (GG w0 nG) 13 spLetAt := by
  refine pcalls tab_ok mixed (tbl := tblLetAt) ⟨⟨rune_ok, spRune_mono⟩, ⟨letterR_ok, spLetR_mono⟩, trivial⟩ Tryd.func13 rfl (by kernel_rfl) (by kernel_rfl) ?_
  intro args σ K h
  unfold spLetAt at h
  split at h
  · rename_i s a
    obtain ⟨⟨h0, hs⟩, h⟩ := h
    refine ⟨loopsOf [], 0, false, by decide, Nat.le_of_ble_eq_true rfl, ?_⟩
    conv => whnf
    refine CondP.dec (fun h1 => ?_) (fun h1 => ?_)
    · conv => whnf
      rw [List.drop_eq_nil_of_le (by omega), pk_nil, isLetter_neg] at h
      exact h
    · conv => whnf
      refine ⟨⟨h0, by omega, hs⟩, ?_⟩
      conv => whnf
      exact h
  · exact h.elim
end Go.PM.Lex
