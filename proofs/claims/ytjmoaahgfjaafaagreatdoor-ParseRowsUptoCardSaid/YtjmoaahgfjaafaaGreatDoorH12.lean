/- A part of the proof: plain logic, contracts and laws over the given program. -/
import Derived.Lib.MapLaws
import Derived.Test.YtjmoaahgfjaafaaGreatDoorH11
set_option linter.unusedVariables false
set_option linter.unusedSimpArgs false
set_option linter.all false
section
set_option maxRecDepth 100000
set_option maxHeartbeats 8000000
namespace Go.PM.Lex
open Go.Proofs
variable {w0 : World} {nG : Nat}
noncomputable def spLetR : Spec := fun args σ K => match args, σ with
 | [.d (.int .i32 c)], ⟨[], [], 0⟩ => K (.ret (.d (.bool (isLetter c)))) ⟨[], [], 0⟩
 | _, _ => False
theorem spLetR_mono : SpecMono spLetR := fun args σ K K' hK h => by
 unfold spLetR at h ⊢; split at h <;> first | exact hK _ _ h | exact h.elim
theorem digitR_ok : PCalls (GG w0 nG) 175 spDigit := by
 refine pcalls tab_ok mixed (tbl := []) trivial Tryz.func175 rfl (by kernel_rfl) (by kernel_rfl) ?_
 intro args σ K h
 unfold spDigit at h
 split at h
 ·rename_i c
  refine ⟨loopsOf [], 0, false, by decide, Nat.le_of_ble_eq_true rfl, ?_⟩
  refine CondP.dec (fun h1 => ?_) (fun h1 => ?_)
  ·refine K_bool h ?_
   simp only [isDigit, decide_eq_decide]; omega
  ·refine K_bool h ?_
   simp only [isDigit, decide_eq_false_iff_not]; omega
 ·exact h.elim
theorem letterR_ok : PCalls (GG w0 nG) 240 spLetR := by
 refine pcalls tab_ok mixed (tbl := []) trivial Tryz.func240 rfl (by kernel_rfl) (by kernel_rfl) ?_
 intro args σ K h
 unfold spLetR at h
 split at h
 ·rename_i c
  refine ⟨loopsOf [], 0, false, by decide, Nat.le_of_ble_eq_true rfl, ?_⟩
  repeat' ((conv => whnf); refine CondP.dec (fun h1 => ?_) (fun h1 => ?_))
  all_goals (conv => whnf)
  all_goals (refine K_bool h ?_; simp only [isLetter, decide_eq_true_eq, decide_eq_false_iff_not, decide_eq_decide]; omega)
 ·exact h.elim
noncomputable def spFirst : Spec := fun args σ K => match args, σ with
 | [.d (.str s), .d (.int .i64 a), .d (.int .i64 e)], ⟨[], [], 0⟩ => (0 ≤ a ∧ a ≤ e ∧ e ≤ s.length ∧ s.length < 4294967281) ∧
   (3 ≤ e - a ∧ cut s a.toNat (a.toNat + 3) = [239, 191, 189] → K (.ret (.tuple [.d (.int .i32 65533), .d (.int .i64 3)])) ⟨[], [], 0⟩) ∧
   (¬ (3 ≤ e - a ∧ cut s a.toNat (a.toNat + 3) = [239, 191, 189]) → K (.ret (.tuple [.d (.int .i32 (-1)), .d (.int .i64 1)])) ⟨[], [], 0⟩)
 | _, _ => False
theorem spFirst_mono : SpecMono spFirst := fun args σ K K' hK h => by
 unfold spFirst at h ⊢
 split at h
 ·exact ⟨h.1, fun g => hK _ _ (h.2.1 g), fun g => hK _ _ (h.2.2 g)⟩
 ·exact h.elim
theorem first_ok : PCalls (GG w0 nG) 263 spFirst := by
 refine pcalls tab_ok mixed (tbl := []) trivial Tryz.func263 rfl (by kernel_rfl) (by kernel_rfl) ?_
 intro args σ K h
 unfold spFirst at h
 split at h
 ·rename_i s a e
  obtain ⟨⟨h0, h1, h2, h3⟩, hA, hB⟩ := h
  refine ⟨loopsOf [], 0, false, by decide, Nat.le_of_ble_eq_true rfl, ?_⟩
  conv => whnf
  refine Or.inl ⟨InR.i64 (by omega) (by omega), ?_⟩
  conv => whnf
  refine CondP.dec (fun h4 => ?_) (fun h4 => ?_)
  ·conv => whnf
   refine Or.inl ⟨InR.i64 (by omega) (by omega), ?_⟩
   conv => whnf
   refine ⟨h0, by omega, by omega, ?_⟩
   conv => whnf
   have ec : cut s a.toNat (a + 3).toNat = cut s a.toNat (a.toNat + 3) := by rw [show (a + 3).toNat = a.toNat + 3 by omega]
   refine CondP.dec (fun h5 => ?_) (fun h5 => ?_)
   ·conv => whnf
    exact hA ⟨h4, by rw [← ec]; exact h5⟩
   ·conv => whnf
    exact hB (fun g => h5 (by rw [ec]; exact g.2))
  ·conv => whnf
   exact hB (fun g => h4 g.1)
 ·exact h.elim
noncomputable def spRune : Spec := fun args σ K => match args, σ with
 | [.d (.str s), .d (.int .i64 a)], ⟨[], [], 0⟩ => (0 ≤ a ∧ a ≤ s.length ∧ s.length < 4294967281) ∧
   K (.ret (.tuple [.d (.int .i32 (pk (s.drop a.toNat)).1), .d (.int .i64 (pk (s.drop a.toNat)).2)])) ⟨[], [], 0⟩
 | _, _ => False
theorem spRune_mono : SpecMono spRune := fun args σ K K' hK h => by
 unfold spRune at h ⊢; split at h <;> first | exact ⟨h.1, hK _ _ h.2⟩ | exact h.elim
theorem dec_size (r : Bs) (h : (Lib.decodeL r).1 ≠ 65533) : (Lib.decodeL r).2 = if (Lib.decodeL r).1 < 128 then 1 else if (Lib.decodeL r).1 < 2048 then 2 else if (Lib.decodeL r).1 < 65536 then 3 else 4 := by
 rw [Lib.decodeL_N] at h ⊢
 have k0 := (r.getD 0 0).toNat_lt
 rcases Lib.decodeN_shape r.length (r.getD 0 0).toNat (r.getD 1 0).toNat (r.getD 2 0).toNat (r.getD 3 0).toNat with ⟨c, e⟩ | ⟨c1, c2, c3, cv, e⟩ | ⟨c1, c2, c3, c4, cv, cs, e⟩ | ⟨c1, c2, c3, c4, c5, cv, cw, e⟩ | e
 all_goals (rw [e] at h ⊢; dsimp only at h ⊢)
 ·rw [if_pos c]
 ·rw [if_neg (by omega), if_pos (by omega)]
 ·rw [if_neg (by omega), if_neg (by omega), if_pos (by omega)]
 ·rw [if_neg (by omega), if_neg (by omega), if_neg (by omega)]
 ·exact absurd rfl h
theorem cut3 (s : Bs) (a : Nat) (h : 3 ≤ s.length - a) : cut s a (a + 3) = [239, 191, 189] ↔ Lib.hasPrefix (s.drop a) [239, 191, 189] = true := by
 rw [cut_mid, Nat.add_sub_cancel_left]
 unfold Lib.hasPrefix
 rw [List.isPrefixOf_iff_prefix, List.prefix_iff_eq_take]
 exact ⟨fun g => by rw [← g]; simp, fun g => g.symm⟩
def muI0 (B : Nat) : List PV → St → Nat := fun _ σ => match σ.bx with | [.iter _ p] => B - p | _ => 0
noncomputable def tblRune : Tbl := [(263, spFirst)]
theorem rune_ok : PCalls (GG w0 nG) 202 spRune := by
 refine pcalls tab_ok mixed (tbl := tblRune) ⟨⟨first_ok, spFirst_mono⟩, trivial⟩ Tryz.func202 rfl (by kernel_rfl) (by kernel_rfl) ?_
 intro args σ K h
 unfold spRune at h
 split at h
 ·rename_i s a
  obtain ⟨⟨h0, h1, hs⟩, h⟩ := h
  obtain ⟨a, rfl⟩ : ∃ n : Nat, a = n := ⟨a.toNat, by omega⟩
  simp only [Int.toNat_natCast] at h
  obtain ⟨u, hu⟩ : ∃ u, u = (s.drop a).take 4 := ⟨_, rfl⟩
  have hul : u.length = min 4 (s.length - a) := by rw [hu, List.length_take, List.length_drop]
  have hd0 : s.length ≠ a → decodeL u 0 = Lib.decodeL (s.drop a) := fun hne => by
   rw [dec_eq, List.drop_zero, hu]
   exact dec_take (by omega) (dec_rng _).2.2
  have hdr := dec_rng (s.drop a)
  have hdl := Lib.decodeL_le (s.drop a)
  rw [List.length_drop] at hdl
  have hfff := fffd (s.drop a)
  have hcut3 := cut3 s a
  refine ⟨loopsOf [(2, ⟨[], [0, 1, 16], fun vs σ => vs = [] ∧ ∃ p : Nat, σ = ⟨[.iter u p], [], 0⟩ ∧ (p = 0 ∨ (s.length ≠ a ∧ p = (Lib.decodeL (s.drop a)).2 ∧ (Lib.decodeL (s.drop a)).1 = 65533)), muI0 u.length⟩)], 0, false, by decide, Nat.le_of_ble_eq_true rfl, ?_⟩
  have hcu : cut s ((a : Int)).toNat (min ((a : Int) + 4) (s.length : Int)).toNat = u := by
   rw [cut_mid, hu]
   by_cases h4 : (a : Int) + 4 ≤ s.length
   ·rw [Int.min_eq_left h4]; congr 1; omega
   ·rw [Int.min_eq_right (by omega), List.take_of_length_le (by rw [List.length_drop]; omega), List.take_of_length_le (by rw [List.length_drop]; omega)]; rfl
  have fin : ∀ e : Int, ((Lib.decodeL (s.drop a)).1 = 65533 ∧ s.length ≠ a ∧ (e = a + (Lib.decodeL (s.drop a)).2 ∨ ((Lib.decodeL (s.drop a)).2 ≥ u.length ∧ e = a + u.length))) ∨ (s.length = a ∧ e = a) →
    (3 ≤ e - a ∧ cut s ((a : Int)).toNat (((a : Int)).toNat + 3) = [239, 191, 189] → K (.ret (.tuple [.d (.int .i32 65533), .d (.int .i64 3)])) ⟨[], [], 0⟩) ∧
    (¬ (3 ≤ e - a ∧ cut s ((a : Int)).toNat (((a : Int)).toNat + 3) = [239, 191, 189]) → K (.ret (.tuple [.d (.int .i32 (-1)), .d (.int .i64 1)])) ⟨[], [], 0⟩) := fun e he => by
   simp only [Int.toNat_natCast]
   rcases he with ⟨hv, hne, he⟩ | ⟨hne, he⟩
   ·have hl : 0 < (s.drop a).length := by rw [List.length_drop]; omega
    have hdl' := hdl (fun g => by rw [g] at hl; simp at hl)
    refine ⟨fun g => ?_, fun g => ?_⟩
    ·rw [pk_fffd _ hl ((hcut3 (by omega)).1 g.2) hv] at h; exact h
    ·have : ¬ Lib.hasPrefix (s.drop a) [239, 191, 189] = true := fun gp => by
      have hl3 := (pre3 _).1 gp
      rw [List.length_drop] at hl3
      rcases hfff hv with ⟨_, g2⟩ | ⟨g1, _⟩
      ·exact g ⟨by omega, (hcut3 (by omega)).2 gp⟩
      ·exact g1 gp
     rw [pk_bad _ this hv] at h; exact h
   ·refine ⟨fun g => by omega, fun g => ?_⟩
    rw [List.drop_eq_nil_of_le (by omega), pk_nil] at h; exact h
  conv => whnf
  refine Or.inl ⟨InR.i64 (by omega) (by omega), ?_⟩
  conv => whnf
  refine ⟨by omega, by omega, by omega, ?_⟩
  conv => whnf
  rw [hcu]
  refine ⟨⟨rfl, 0, rfl, .inl rfl⟩, ?_⟩
  intro vs σ1 hI
  obtain ⟨rfl, p, rfl, hp⟩ := hI
  conv => whnf
  refine CondP.dec (fun h2 => ?_) (fun h2 => ?_)
  ·rcases hp with rfl | ⟨hp0, rfl, hp2⟩
   ·have hd := hd0 (by omega)
    conv => whnf
    refine CondP.ndec (fun h3 => ?_) (fun h3 => ?_)
    ·have hv : (Lib.decodeL (s.drop a)).1 ≠ 65533 := by rw [hd] at h3; omega
     have hpk := pk_plain (s.drop a) (by rw [List.length_drop]; omega) hv
     have hsz := dec_size _ hv
     rw [hpk] at h
     rw [← hd] at h hsz
     simp only at h
     generalize hc : ((decodeL u 0).1 : Int) = c at h ⊢
     conv => whnf
     refine CondP.dec (fun h4 => ?_) (fun h4 => ?_)
     ·conv => whnf
      rw [hsz, if_pos (by omega)] at h
      exact h
     ·conv => whnf
      refine CondP.dec (fun h5 => ?_) (fun h5 => ?_)
      ·conv => whnf
       rw [hsz, if_neg (by omega), if_pos (by omega)] at h
       exact h
      ·conv => whnf
       refine CondP.dec (fun h6 => ?_) (fun h6 => ?_)
       ·conv => whnf
        rw [hsz, if_neg (by omega), if_neg (by omega), if_pos (by omega)] at h
        exact h
       ·conv => whnf
        rw [hsz, if_neg (by omega), if_neg (by omega), if_neg (by omega)] at h
        exact h
    ·have hv : (Lib.decodeL (s.drop a)).1 = 65533 := by rw [hd] at h3; omega
     conv => whnf
     refine ⟨⟨rfl, 0 + (decodeL u 0).2, rfl, .inr ⟨by omega, by rw [hd, Nat.zero_add], hv⟩⟩, ?_⟩
     exact (show u.length - (0 + (decodeL u 0).2) < u.length - 0 by rw [hd]; omega)
   ·have hl := hdl (fun g => by have := congrArg List.length g; rw [List.length_drop] at this; simp at this; omega)
    conv => whnf
    refine CondP.dec (fun h3 => ?_) (fun h3 => ?_)
    ·conv => whnf
     refine Or.inl ⟨InR.i64 (by omega) (by omega), ?_⟩
     conv => whnf
     refine ⟨⟨by omega, by omega, by omega, hs⟩, ?_⟩
     obtain ⟨f1, f2⟩ := fin ((a : Int) + ((Lib.decodeL (s.drop a)).2 : Int)) (.inl ⟨hp2, hp0, .inl rfl⟩)
     refine ⟨fun g => ?_, fun g => ?_⟩
     ·conv => whnf
      exact f1 g
     ·conv => whnf
      exact f2 g
    ·omega
  ·conv => whnf
   refine Or.inl ⟨InR.i64 (by omega) (by omega), ?_⟩
   conv => whnf
   refine ⟨⟨by omega, by omega, by omega, hs⟩, ?_⟩
   obtain ⟨f1, f2⟩ := fin (min ((a : Int) + 4) (s.length : Int)) (by
    rcases hp with rfl | ⟨hp0, rfl, hp2⟩
    ·exact .inr ⟨by omega, by omega⟩
    ·exact .inl ⟨hp2, hp0, .inr ⟨by omega, by omega⟩⟩)
   refine ⟨fun g => ?_, fun g => ?_⟩
   ·conv => whnf
    exact f1 g
   ·conv => whnf
    exact f2 g
 ·exact h.elim
noncomputable def spLetAt : Spec := fun args σ K => match args, σ with
 | [.d (.str s), .d (.int .i64 a)], ⟨[], [], 0⟩ => (0 ≤ a ∧ s.length < 4294967281) ∧ K (.ret (.d (.bool (isLetter (pk (s.drop a.toNat)).1)))) ⟨[], [], 0⟩
 | _, _ => False
theorem spLetAt_mono : SpecMono spLetAt := fun args σ K K' hK h => by
 unfold spLetAt at h ⊢; split at h <;> first | exact ⟨h.1, hK _ _ h.2⟩ | exact h.elim
noncomputable def tblLetAt : Tbl := [(202, spRune), (240, spLetR)]
theorem letAt_ok : PCalls (GG w0 nG) 174 spLetAt := by
 refine pcalls tab_ok mixed (tbl := tblLetAt) ⟨⟨rune_ok, spRune_mono⟩, ⟨letterR_ok, spLetR_mono⟩, trivial⟩ Tryz.func174 rfl (by kernel_rfl) (by kernel_rfl) ?_
 intro args σ K h
 unfold spLetAt at h
 split at h
 ·rename_i s a
  obtain ⟨⟨h0, hs⟩, h⟩ := h
  refine ⟨loopsOf [], 0, false, by decide, Nat.le_of_ble_eq_true rfl, ?_⟩
  conv => whnf
  refine CondP.dec (fun h1 => ?_) (fun h1 => ?_)
  ·conv => whnf
   rw [List.drop_eq_nil_of_le (by omega), pk_nil, isLetter_neg] at h
   exact h
  ·conv => whnf
   refine ⟨⟨h0, by omega, hs⟩, ?_⟩
   conv => whnf
   exact h
 ·exact h.elim
end Go.PM.Lex
end

section
set_option maxRecDepth 100000
set_option maxHeartbeats 8000000
namespace Go.PM.Lex
open Go.Proofs
variable {w0 : World} {nG : Nat}
noncomputable def spNameR : Spec := fun args σ K => match args, σ with
 | [.d (.str s), .d (.int .i64 a)], ⟨[], [], 0⟩ => (0 ≤ a ∧ a ≤ s.length ∧ s.length < 4294967281 ∧ isLetter (pk (s.drop a.toNat)).1 = true) ∧
   K (.ret (tokPV 1 (cut s a.toNat (a.toNat + nameF (s.drop a.toNat))) 0 a (a + nameF (s.drop a.toNat)))) ⟨[], [], 0⟩
 | _, _ => False
theorem spNameR_mono : SpecMono spNameR := fun args σ K K' hK h => by
 unfold spNameR at h ⊢; split at h <;> first | exact ⟨h.1, hK _ _ h.2⟩ | exact h.elim
noncomputable def tblNameR : Tbl := [(202, spRune), (240, spLetR), (175, spDigit), (174, spLetAt)]
theorem nameR_ok : PCalls (GG w0 nG) 177 spNameR := by
 refine pcalls tab_ok mixed (tbl := tblNameR) ⟨⟨rune_ok, spRune_mono⟩, ⟨letterR_ok, spLetR_mono⟩, ⟨digitR_ok, spDigit_mono⟩, ⟨letAt_ok, spLetAt_mono⟩, trivial⟩ Tryz.func177 rfl (by kernel_rfl) (by kernel_rfl) ?_
 intro args σ K h
 unfold spNameR at h
 split at h
 ·rename_i s a
  obtain ⟨⟨h0, h1, hs, hlet⟩, h⟩ := h
  obtain ⟨a, rfl⟩ : ∃ n : Nat, a = n := ⟨a.toNat, by omega⟩
  simp only [Int.toNat_natCast] at h hlet
  refine ⟨loopsOf [(2, ⟨[5], [0, 1, 4], fun vs σ => σ = ⟨[.cells 40 [.d (.int .u8 0), .d (.str []), .d (.int .i64 0), .d (.int .i64 0), .d (.int .i64 0)]], [], 0⟩ ∧
   ∃ e f : Nat, a ≤ e ∧ e ≤ s.length ∧ vs = [.d (.int .i64 e)] ∧ s.length < e + f ∧ e + nameGo f (s.drop e) = a + nameF (s.drop a), muI s.length⟩)], 0, false, by simp, Nat.le_of_ble_eq_true rfl, ?_⟩
  conv => whnf
  refine ⟨⟨rfl, a, s.length - a + 1, by omega, by omega, rfl, by omega, by simp [nameF]⟩, ?_⟩
  intro vs σ1 hI
  obtain ⟨rfl, e, f, he1, he2, rfl, hf, hn⟩ := hI
  obtain ⟨f, rfl⟩ : ∃ g, f = g + 1 := ⟨f - 1, by omega⟩
  have hpr := pk_rng (s.drop e)
  have hple := pk_le (s.drop e)
  have hend : nameGo (f + 1) (s.drop e) = 0 → K (.ret (tokPV 1 (cut s a e) 0 a e)) ⟨[], [], 0⟩ := fun h3 => by
   have e2 : a + nameF (s.drop a) = e := by rw [h3] at hn; omega
   have e3 : (a : Int) + (nameF (s.drop a) : Int) = (e : Int) := by omega
   rw [e2, e3] at h
   exact h
  have hgo : ∀ n : Nat, 1 ≤ n → e + n ≤ s.length → nameGo (f + 1) (s.drop e) = n + nameGo f ((s.drop e).drop n) → a ≤ e + n ∧ e + n ≤ s.length ∧ s.length < (e + n) + f ∧ (e + n) + nameGo f (s.drop (e + n)) = a + nameF (s.drop a) := fun n h1 h2 h3 => by
   rw [List.drop_drop] at h3
   exact ⟨by omega, h2, by omega, by rw [← hn, h3]; omega⟩
  have hfst : e = a → isLetter (pk (s.drop e)).1 = true := fun g => by rw [g]; exact hlet
  conv => whnf
  refine CondP.dec (fun h2 => ?_) (fun h2 => ?_)
  ·conv => whnf
   refine ⟨⟨by omega, by omega, hs⟩, ?_⟩
   conv => whnf
   generalize hc0 : (pk (s.drop ((e : Int)).toNat)).1 = c
   have hc : (pk (s.drop e)).1 = c := hc0
   have fin : ∀ (h4 : isLetter (pk (s.drop e)).1 = true ∨ isDigit (pk (s.drop e)).1 = true), a ≤ e + (pk (s.drop e)).2 ∧ e + (pk (s.drop e)).2 ≤ s.length ∧ s.length < (e + (pk (s.drop e)).2) + f ∧ (e + (pk (s.drop e)).2) + nameGo f (s.drop (e + (pk (s.drop e)).2)) = a + nameF (s.drop a) ∧ 1 ≤ (pk (s.drop e)).2 := fun h4 => by
    obtain ⟨g1, g2, g3⟩ := hple (letter_ne h4)
    have g2' : e + (pk (s.drop e)).2 ≤ s.length := by rw [List.length_drop] at g2; omega
    have h46 : ¬ (pk (s.drop e)).1 = 46 := fun g => by rw [g] at h4; revert h4; decide
    obtain ⟨k1, k2, k3, k4⟩ := hgo _ g1 g2' (nameGo_on h46 h4)
    exact ⟨k1, k2, k3, k4, g1⟩
   conv => whnf
   refine CondP.intro (fun h3 => ?_) (fun h3 => ?_)
   ·obtain ⟨k1, k2, k3, k4, k5⟩ := fin (.inl (by rw [hc]; exact h3))
    conv => whnf
    refine Or.inl ⟨InR.i64 (by simp only [Int.toNat_natCast]; omega) (by simp only [Int.toNat_natCast]; omega), ?_⟩
    conv => whnf
    refine ⟨⟨rfl, e + (pk (s.drop e)).2, f, k1, k2, rfl, k3, k4⟩, ?_⟩
    exact (show ((s.length : Int) - ((e : Int) + ((pk (s.drop e)).2 : Int))).toNat < ((s.length : Int) - (e : Int)).toNat by omega)
   ·have h3' : isLetter (pk (s.drop e)).1 = false := by rw [hc]; exact h3
    have hea : a < e := by
     rcases Nat.lt_or_ge a e with g | g
     ·exact g
     ·have := hfst (by omega); rw [h3'] at this; cases this
    conv => whnf
    refine CondP.intro (fun h4 => ?_) (fun h4 => ?_)
    ·obtain ⟨k1, k2, k3, k4, k5⟩ := fin (.inr (by rw [hc]; exact h4))
     conv => whnf
     refine CondP.dec (fun h5 => ?_) (fun h5 => ?_)
     ·conv => whnf
      refine Or.inl ⟨InR.i64 (by simp only [Int.toNat_natCast]; omega) (by simp only [Int.toNat_natCast]; omega), ?_⟩
      conv => whnf
      refine ⟨⟨rfl, e + (pk (s.drop e)).2, f, k1, k2, rfl, k3, k4⟩, ?_⟩
      exact (show ((s.length : Int) - ((e : Int) + ((pk (s.drop e)).2 : Int))).toNat < ((s.length : Int) - (e : Int)).toNat by omega)
     ·omega
    ·have h4' : isDigit (pk (s.drop e)).1 = false := by rw [hc]; exact h4
     conv => whnf
     refine CondP.dec (fun h5 => ?_) (fun h5 => ?_)
     ·have h46 : (pk (s.drop e)).1 = 46 := by rw [hc]; exact h5
      have hlow := pk_low (s.drop e) (by omega) (by omega)
      conv => whnf
      refine CondP.dec (fun h6 => ?_) (fun h6 => ?_)
      ·conv => whnf
       refine Or.inl ⟨InR.i64 (by omega) (by omega), ?_⟩
       conv => whnf
       refine ⟨⟨by omega, hs⟩, ?_⟩
       conv => whnf
       have ed : s.drop ((e : Int) + 1).toNat = (s.drop e).drop 1 := by rw [List.drop_drop]; congr 1
       conv => whnf
       refine CondP.intro (fun h7 => ?_) (fun h7 => ?_)
       ·have h7' : isLetter (pk ((s.drop e).drop 1)).1 = true := by rw [← ed]; exact h7
        obtain ⟨k1, k2, k3, k4⟩ := hgo 1 (by omega) (by omega) (by have := nameGo_dot (f := f) h46 h7'; rw [hlow.2.2] at this; exact this)
        conv => whnf
        refine Or.inl ⟨InR.i64 (by omega) (by omega), ?_⟩
        conv => whnf
        refine ⟨⟨rfl, e + 1, f, k1, k2, rfl, k3, k4⟩, ?_⟩
        exact (show ((s.length : Int) - ((e : Int) + 1)).toNat < ((s.length : Int) - (e : Int)).toNat by omega)
       ·have h7' : isLetter (pk ((s.drop e).drop 1)).1 = false := by rw [← ed]; exact h7
        conv => whnf
        refine ⟨by omega, by omega, by omega, ?_⟩
        conv => whnf
        exact hend (nameGo_dotend h46 h7')
      ·omega
     ·have h46 : ¬ (pk (s.drop e)).1 = 46 := by rw [hc]; exact h5
      conv => whnf
      refine ⟨by omega, by omega, by omega, ?_⟩
      conv => whnf
      exact hend (nameGo_end h46 h3' h4')
  ·have hnil : s.drop e = [] := List.drop_eq_nil_of_le (by omega)
   conv => whnf
   refine ⟨by omega, by omega, by omega, ?_⟩
   conv => whnf
   exact hend (by rw [hnil]; exact nameGo_nil _)
 ·exact h.elim
end Go.PM.Lex
end

section
set_option maxRecDepth 100000
set_option maxHeartbeats 8000000
namespace Go.PM.Lex
open Go.Proofs
variable {w0 : World} {nG : Nat}
def hexV (c : Int) : Int := if 48 ≤ c ∧ c ≤ 57 then c - 48 else if 97 ≤ c ∧ c ≤ 102 then c - 87 else if 65 ≤ c ∧ c ≤ 70 then c - 55 else -1
noncomputable def spHexR : Spec := fun args σ K => match args, σ with
 | [.d (.int .u8 c)], ⟨[], [], 0⟩ => (0 ≤ c ∧ c < 256) ∧ K (.ret (.d (.int .i64 (hexV c)))) ⟨[], [], 0⟩
 | _, _ => False
theorem spHexR_mono : SpecMono spHexR := fun args σ K K' hK h => by
 unfold spHexR at h ⊢; split at h <;> first | exact ⟨h.1, hK _ _ h.2⟩ | exact h.elim
theorem hexR_ok : PCalls (GG w0 nG) 241 spHexR := by
 refine pcalls tab_ok mixed (tbl := []) trivial Tryz.func241 rfl (by kernel_rfl) (by kernel_rfl) ?_
 intro args σ K h
 unfold spHexR at h
 split at h
 ·rename_i c
  obtain ⟨⟨h0, h1⟩, h⟩ := h
  refine ⟨loopsOf [], 0, false, by decide, Nat.le_of_ble_eq_true rfl, ?_⟩
  unfold hexV at h
  by_cases k1 : 48 ≤ c ∧ c ≤ 57
  ·rw [if_pos k1] at h
   conv => whnf
   refine CondP.dec (fun h2 => ?_) (fun h2 => absurd k1.1 h2)
   conv => whnf
   refine CondP.dec (fun h3 => ?_) (fun h3 => absurd k1.2 h3)
   conv => whnf
   refine Or.inl ⟨InR.u8 (by omega) (by omega), ?_⟩
   conv => whnf
   refine Or.inl ⟨InR.i64 (by omega) (by omega), ?_⟩
   conv => whnf
   exact h
  rw [if_neg k1] at h
  by_cases k2 : 97 ≤ c ∧ c ≤ 102
  ·rw [if_pos k2] at h
   conv => whnf
   refine CondP.dec (fun h2 => ?_) (fun h2 => absurd (show c ≥ 48 by omega) h2)
   conv => whnf
   refine CondP.dec (fun h3 => absurd ⟨h2, h3⟩ k1) (fun h3 => ?_)
   conv => whnf
   refine CondP.dec (fun h4 => ?_) (fun h4 => absurd k2.1 h4)
   conv => whnf
   refine CondP.dec (fun h5 => ?_) (fun h5 => absurd k2.2 h5)
   conv => whnf
   refine Or.inl ⟨InR.u8 (by omega) (by omega), ?_⟩
   conv => whnf
   refine Or.inl ⟨InR.i64 (by omega) (by omega), ?_⟩
   conv => whnf
   refine Or.inl ⟨InR.i64 (by omega) (by omega), ?_⟩
   conv => whnf
   rw [show c - 87 = c - 97 + 10 by omega] at h
   exact h
  rw [if_neg k2] at h
  by_cases k3 : 65 ≤ c ∧ c ≤ 70
  ·rw [if_pos k3] at h
   conv => whnf
   refine CondP.dec (fun h2 => ?_) (fun h2 => absurd (show c ≥ 48 by omega) h2)
   conv => whnf
   refine CondP.dec (fun h3 => absurd ⟨h2, h3⟩ k1) (fun h3 => ?_)
   conv => whnf
   refine CondP.dec (fun h4 => absurd h4 (show ¬ (c ≥ 97) by omega)) (fun h4 => ?_)
   conv => whnf
   refine CondP.dec (fun h6 => ?_) (fun h6 => absurd k3.1 h6)
   conv => whnf
   refine CondP.dec (fun h7 => ?_) (fun h7 => absurd k3.2 h7)
   conv => whnf
   refine Or.inl ⟨InR.u8 (by omega) (by omega), ?_⟩
   conv => whnf
   refine Or.inl ⟨InR.i64 (by omega) (by omega), ?_⟩
   conv => whnf
   refine Or.inl ⟨InR.i64 (by omega) (by omega), ?_⟩
   conv => whnf
   rw [show c - 55 = c - 65 + 10 by omega] at h
   exact h
  rw [if_neg k3] at h
  have fin : ∀ b : Bool, b = false → True := fun _ _ => trivial
  conv => whnf
  refine CondP.dec (fun h2 => ?_) (fun h2 => ?_)
  ·conv => whnf
   refine CondP.dec (fun h3 => absurd ⟨h2, h3⟩ k1) (fun h3 => ?_)
   conv => whnf
   refine CondP.dec (fun h4 => ?_) (fun h4 => ?_)
   ·conv => whnf
    refine CondP.dec (fun h5 => absurd ⟨h4, h5⟩ k2) (fun h5 => ?_)
    conv => whnf
    refine CondP.dec (fun h6 => ?_) (fun h6 => ?_)
    ·conv => whnf
     refine CondP.dec (fun h7 => absurd ⟨h6, h7⟩ k3) (fun h7 => ?_)
     conv => whnf
     exact h
    ·conv => whnf
     exact h
   ·conv => whnf
    refine CondP.dec (fun h6 => ?_) (fun h6 => ?_)
    ·conv => whnf
     refine CondP.dec (fun h7 => absurd ⟨h6, h7⟩ k3) (fun h7 => ?_)
     conv => whnf
     exact h
    ·conv => whnf
     exact h
  ·conv => whnf
   refine CondP.dec (fun h4 => absurd (show c ≥ 48 from by have : c ≥ 97 := h4; omega) h2) (fun h4 => ?_)
   conv => whnf
   refine CondP.dec (fun h4 => absurd (show c ≥ 48 from by have : c ≥ 65 := h4; omega) h2) (fun h4 => ?_)
   conv => whnf
   exact h
 ·exact h.elim
noncomputable def spSignR : Spec := fun args σ K => match args, σ with
 | [.d (.str s), .d (.int .i64 a)], ⟨[], [], 0⟩ => (0 ≤ a ∧ a < s.length ∧ s.length < 4294967281) ∧ K (.ret (.d (.str ((s.drop a.toNat).take (signF (s.drop a.toNat)))))) ⟨[], [], 0⟩
 | _, _ => False
theorem spSignR_mono : SpecMono spSignR := fun args σ K K' hK h => by
 unfold spSignR at h ⊢; split at h <;> first | exact ⟨h.1, hK _ _ h.2⟩ | exact h.elim
theorem getD_get {l : Bs} {i : Nat} (h : i < l.length) : l.getD i 0 = l[i] := by rw [List.getD_eq_getElem?_getD, List.getElem?_eq_getElem h]; rfl
theorem pre2 (r : Bs) (x y : UInt8) : Lib.hasPrefix r [x, y] = true ↔ r.take 2 = [x, y] := by
 unfold Lib.hasPrefix
 rw [List.isPrefixOf_iff_prefix, List.prefix_iff_eq_take]
 exact ⟨fun g => g.symm, fun g => g.symm⟩
theorem twos_any (r : Bs) : twos.any (Lib.hasPrefix r) = true ↔ r.take 2 ∈ twos := by
 simp only [twos, List.any_cons, List.any_nil, Bool.or_eq_true, pre2, List.mem_cons, Bool.false_eq_true, or_false, List.not_mem_nil]
theorem signR_ok : PCalls (GG w0 nG) 176 spSignR := by
 refine pcalls tab_ok mixed (tbl := []) trivial Tryz.func176 rfl (by kernel_rfl) (by kernel_rfl) ?_
 intro args σ K h
 unfold spSignR at h
 split at h
 ·rename_i s a
  obtain ⟨⟨h0, h1, hs⟩, h⟩ := h
  obtain ⟨a, rfl⟩ : ∃ n : Nat, a = n := ⟨a.toNat, by omega⟩
  simp only [Int.toNat_natCast] at h
  have hcu : cut s ((a : Int)).toNat (min ((a : Int) + 2) (s.length : Int)).toNat = (s.drop a).take 2 := by
   rw [cut_mid]
   by_cases h4 : (a : Int) + 2 ≤ s.length
   ·rw [Int.min_eq_left h4]; congr 1; omega
   ·rw [Int.min_eq_right (by omega), List.take_of_length_le (by rw [List.length_drop]; omega), List.take_of_length_le (by rw [List.length_drop]; omega)]; rfl
  have h2 := twos_any (s.drop a)
  generalize hu : (s.drop a).take 2 = u at hcu h2
  have hin : u ∈ twos → K (.ret (.d (.str u))) ⟨[], [], 0⟩ := fun g => by
   rw [signF, if_pos (h2.2 g), hu] at h; exact h
  refine ⟨loopsOf [(6, ⟨[7], [0, 1, 6], fun vs σ => σ = ⟨[], [], 0⟩ ∧ ∃ i : Nat, vs = [.d (.int .i64 i)] ∧ i ≤ 21 ∧ ∀ j < i, ones.getD j 0 ≠ s.getD a 0, fun vs _ => match vs with | [.d (.int _ n)] => (21 - n).toNat | _ => 0⟩)], 0, false, by simp, Nat.le_of_ble_eq_true rfl, ?_⟩
  conv => whnf
  refine Or.inl ⟨InR.i64 (by omega) (by omega), ?_⟩
  conv => whnf
  refine ⟨by omega, by omega, by omega, ?_⟩
  conv => whnf
  rw [hcu]
  have mem : ∀ x, x ∈ twos → u = x → K (.ret (.d (.str u))) ⟨[], [], 0⟩ := fun x hx g => hin (g ▸ hx)
  conv => whnf
  refine CondP.dec (fun h3 => ?_) (fun h3 => ?_)
  ·conv => whnf
   exact mem _ (by decide) h3
  conv => whnf
  refine CondP.dec (fun h4 => ?_) (fun h4 => ?_)
  ·conv => whnf
   exact mem _ (by decide) h4
  conv => whnf
  refine CondP.dec (fun h5 => ?_) (fun h5 => ?_)
  ·conv => whnf
   exact mem _ (by decide) h5
  conv => whnf
  refine CondP.dec (fun h6 => ?_) (fun h6 => ?_)
  ·conv => whnf
   exact mem _ (by decide) h6
  conv => whnf
  refine CondP.dec (fun h7 => ?_) (fun h7 => ?_)
  ·conv => whnf
   exact mem _ (by decide) h7
  have hno : ¬ u ∈ twos := fun g => by
   simp only [twos, List.mem_cons, List.not_mem_nil, or_false] at g
   rcases g with g | g | g | g | g
   ·exact h3 g
   ·exact h4 g
   ·exact h5 g
   ·exact h6 g
   ·exact h7 g
  have hs1 : signF (s.drop a) = if ones.contains (s.getD a 0) then 1 else 0 := by
   rw [signF, if_neg (fun g => hno (h2.1 g)), Lib.getD_dropU, Nat.add_zero]
  conv => whnf
  refine ⟨⟨rfl, 0, rfl, by omega, by omega⟩, ?_⟩
  intro vs σ1 hI
  obtain ⟨rfl, i, rfl, hi, hj⟩ := hI
  conv => whnf
  have hol : ones.length = 21 := rfl
  conv => whnf
  refine CondP.dec (fun h8 => ?_) (fun h8 => ?_)
  ·have h8' : i < 21 := by have : (i : Int) < (21 : Int) := h8; omega
   have hget : ∀ x : UInt8, ones.getD i 0 = x → ones.contains x = true := fun x g => by
    rw [getD_get (by rw [hol]; exact h8')] at g
    rw [← g]; simp
   conv => whnf
   refine ⟨by omega, h8, ?_⟩
   conv => whnf
   refine ⟨h0, h1, ?_⟩
   conv => whnf
   refine CondP.dec (fun h9 => ?_) (fun h9 => ?_)
   ·have h9' : ones.getD i 0 = s.getD a 0 := by
     have : ((ones.getD i 0).toNat : Int) = ((s.getD a 0).toNat : Int) := h9
     exact UInt8.toNat_inj.1 (by omega)
    conv => whnf
    refine Or.inl ⟨InR.i64 (by omega) (by omega), ?_⟩
    conv => whnf
    refine ⟨by omega, by omega, show (i : Int) + 1 ≤ 21 by omega, ?_⟩
    conv => whnf
    have e : cut ones ((i : Int)).toNat ((i : Int) + 1).toNat = (s.drop a).take 1 := by
     rw [cut_mid, show ((i : Int) + 1).toNat - ((i : Int)).toNat = 1 by omega, show ((i : Int)).toNat = i from rfl]
     rw [List.drop_eq_getElem_cons (by rw [hol]; exact h8' : i < ones.length), List.drop_eq_getElem_cons (by omega : a < s.length)]
     rw [getD_get (by rw [hol]; exact h8'), getD_get (by omega)] at h9'
     rw [List.take_succ_cons, List.take_succ_cons, List.take_zero, List.take_zero, h9']
    rw [hs1, hget _ h9', if_pos rfl, ← e] at h
    exact h
   ·conv => whnf
    refine Or.inl ⟨InR.i64 (by omega) (by omega), ?_⟩
    conv => whnf
    refine ⟨⟨rfl, i + 1, rfl, by omega, fun j hj1 g => ?_⟩, ?_⟩
    ·rcases Nat.lt_or_ge j i with g1 | g1
     ·exact hj j g1 g
     ·obtain rfl : j = i := by omega
      exact h9 (show ((ones.getD j 0).toNat : Int) = ((s.getD a 0).toNat : Int) by rw [g])
    ·exact (show ((21 : Int) - ((i : Int) + 1)).toNat < ((21 : Int) - (i : Int)).toNat by omega)
  ·have h8' : 21 ≤ i := by have : ¬ (i : Int) < (21 : Int) := h8; omega
   have hc : ones.contains (s.getD a 0) = false := by
    rw [Bool.eq_false_iff]
    intro g
    rw [List.contains_iff_mem] at g
    obtain ⟨j, hj1, hj2⟩ := List.getElem_of_mem g
    exact hj j (by rw [hol] at hj1; omega) (by rw [getD_get hj1]; exact hj2)
   conv => whnf
   rw [hs1, hc, if_neg (by simp), List.take_zero] at h
   exact h
 ·exact h.elim
def begF (r : Bs) : Bool := isLetter (pk r).1 || isDigit (pk r).1 || decide ((pk r).1 = 34) || decide (0 < signF r)
noncomputable def spBegR : Spec := fun args σ K => match args, σ with
 | [.d (.str s), .d (.int .i64 a)], ⟨[], [], 0⟩ => (0 ≤ a ∧ a < s.length ∧ s.length < 4294967281) ∧ K (.ret (.d (.bool (begF (s.drop a.toNat))))) ⟨[], [], 0⟩
 | _, _ => False
theorem spBegR_mono : SpecMono spBegR := fun args σ K K' hK h => by
 unfold spBegR at h ⊢; split at h <;> first | exact ⟨h.1, hK _ _ h.2⟩ | exact h.elim
theorem pk_byte {r : Bs} (h0 : 0 < r.length) {c : Int} (hc0 : 0 ≤ c) (hc : c < 128) : (pk r).1 = c ↔ ((r.getD 0 0).toNat : Int) = c := by
 constructor
 ·intro g
  have := (pk_low r (by omega) (by omega)).2.1
  omega
 ·intro g
  obtain ⟨b, l, rfl⟩ : ∃ b l, r = b :: l := by cases r with | nil => simp at h0 | cons b l => exact ⟨b, l, rfl⟩
  have e : Lib.decodeL (b :: l) = (b.toNat, 1) := by
   rw [Lib.decodeL_N]
   simp only [List.getD_cons_zero, List.length_cons] at g ⊢
   unfold Lib.decodeN
   rw [if_pos (by omega)]
  unfold pk
  rw [if_neg, e]
  ·simpa using g
  ·rw [e]; simp only [not_or]; exact ⟨by simp, fun k => by have := b.toNat_lt; injection k; omega⟩
theorem dig_byte {r : Bs} (h0 : 0 < r.length) : isDigit (pk r).1 = isDigit ((r.getD 0 0).toNat : Int) := by
 have k := fun (c : Int) h1 h2 => @pk_byte r h0 c h1 h2
 rw [Bool.eq_iff_iff, isDigit_iff, isDigit_iff]
 constructor
 ·intro g; have := (k _ (by omega : 0 ≤ (pk r).1) (by omega)).1 rfl; omega
 ·intro g; have := (k _ (by omega : 0 ≤ ((r.getD 0 0).toNat : Int)) (by omega)).2 rfl; omega
noncomputable def tblBegR : Tbl := [(174, spLetAt), (175, spDigit), (176, spSignR)]
theorem begR_ok : PCalls (GG w0 nG) 98 spBegR := by
 refine pcalls tab_ok mixed (tbl := tblBegR) ⟨⟨letAt_ok, spLetAt_mono⟩, ⟨digitR_ok, spDigit_mono⟩, ⟨signR_ok, spSignR_mono⟩, trivial⟩ Tryz.func98 rfl (by kernel_rfl) (by kernel_rfl) ?_
 intro args σ K h
 unfold spBegR at h
 split at h
 ·rename_i s a
  obtain ⟨⟨h0, h1, hs⟩, h⟩ := h
  obtain ⟨a, rfl⟩ : ∃ n : Nat, a = n := ⟨a.toNat, by omega⟩
  simp only [Int.toNat_natCast] at h
  have hr0 : 0 < (s.drop a).length := by rw [List.length_drop]; omega
  have hdg := dig_byte hr0
  have h34 := pk_byte hr0 (c := 34) (by omega) (by omega)
  rw [Lib.getD_dropU, Nat.add_zero] at hdg h34
  refine ⟨loopsOf [], 0, false, by decide, Nat.le_of_ble_eq_true rfl, ?_⟩
  conv => whnf
  refine ⟨⟨h0, hs⟩, ?_⟩
  conv => whnf
  refine CondP.intro (fun h2 => ?_) (fun h2 => ?_)
  ·have h2' : isLetter (pk (s.drop a)).1 = true := h2
   conv => whnf
   rw [begF, h2', Bool.true_or, Bool.true_or, Bool.true_or] at h
   exact h
  ·have h2' : isLetter (pk (s.drop a)).1 = false := h2
   rw [begF, h2', Bool.false_or] at h
   conv => whnf
   refine ⟨h0, h1, ?_⟩
   conv => whnf
   have hbt := (s.getD ((a : Int)).toNat 0).toNat_lt
   refine Or.inl ⟨InR.i32 (by omega) (by omega), ?_⟩
   conv => whnf
   refine CondP.intro (fun h3 => ?_) (fun h3 => ?_)
   ·have h3' : isDigit (pk (s.drop a)).1 = true := hdg.trans h3
    conv => whnf
    rw [h3', Bool.true_or, Bool.true_or] at h
    exact h
   ·have h3' : isDigit (pk (s.drop a)).1 = false := hdg.trans h3
    rw [h3', Bool.false_or] at h
    conv => whnf
    refine ⟨h0, h1, ?_⟩
    conv => whnf
    refine CondP.dec (fun h4 => ?_) (fun h4 => ?_)
    ·conv => whnf
     rw [decide_eq_true (h34.2 h4), Bool.true_or] at h
     exact h
    ·rw [decide_eq_false (fun g => h4 (h34.1 g)), Bool.false_or] at h
     conv => whnf
     refine ⟨⟨h0, h1, hs⟩, ?_⟩
     conv => whnf
     have hl : ((s.drop a).take (signF (s.drop a))).length = 0 ↔ signF (s.drop a) = 0 := by rw [List.length_take]; omega
     refine K_bool h ?_
     have e : ∀ n, (decide (0 < n)) = !(decide (n = 0)) := fun n => by cases n <;> simp
     rw [e]
     congr 1
     rw [decide_eq_decide, ← hl]
     exact List.length_eq_zero_iff
 ·exact h.elim
end Go.PM.Lex
end

section
set_option maxRecDepth 100000
set_option maxHeartbeats 4000000
namespace Go.PM.Lex
open Go.Proofs
variable {w0 : World} {nG : Nat}
theorem line_n {R : Bs} (h : Lib.hasPrefix R [47, 47] = true) : 2 ≤ (if Lib.indexByte R 10 < 0 then R.length else (Lib.indexByte R 10).toNat) ∧ (if Lib.indexByte R 10 < 0 then R.length else (Lib.indexByte R 10).toNat) ≤ R.length := by
 have h1 := (hasPrefix_two h).1
 have h2 := indexByte_lt 10 R
 have h3 := indexByte_two (c := 10) h (by decide) (by decide)
 split <;> omega
theorem blank_fuel : ∀ (f g : Nat) (r : Bs), r.length < f → r.length < g → blankGo f r = blankGo g r
 | 0, _, r, h, _ => by omega
 | _, 0, r, _, h => by omega
 | f + 1, g + 1, r, hf, hg => by
  have hle := trim_le r
  cases h1 : Lib.hasPrefix (Lib.trimLeftS r ws) [47, 47] with
  | true =>
   have h2 := line_n h1
   rw [blankGo_line h1 _ rfl, blankGo_line h1 _ rfl]
   rw [blank_fuel f g _ (by rw [List.length_drop]; omega) (by rw [List.length_drop]; omega)]
  | false =>
   cases h2 : Lib.hasPrefix (Lib.trimLeftS r ws) [47, 42] with
   | false => rw [blankGo_end h1 h2, blankGo_end h1 h2]
   | true =>
    have h4 := (hasPrefix_two h2).1
    by_cases h3 : Lib.index ((Lib.trimLeftS r ws).drop 2) [42, 47] < 0
    ·rw [blankGo_open h1 h2 h3, blankGo_open h1 h2 h3]
    ·rw [blankGo_rem h1 h2 (Lib.index ((Lib.trimLeftS r ws).drop 2) [42, 47]).toNat (by omega), blankGo_rem h1 h2 (Lib.index ((Lib.trimLeftS r ws).drop 2) [42, 47]).toNat (by omega)]
     rw [blank_fuel f g _ (by rw [List.length_drop]; omega) (by rw [List.length_drop]; omega)]
theorem blankF_of {f : Nat} {r : Bs} (h : r.length < f) : blankGo f r = blankF r := blank_fuel _ _ r h (by omega)
theorem trim_ws {c : UInt8} {r : Bs} (h : ws.contains c = true) : Lib.trimLeftS (c :: r) ws = Lib.trimLeftS r ws := by
 unfold Lib.trimLeftS; rw [List.dropWhile_cons, if_pos h]
theorem trim_no {c : UInt8} {r : Bs} (h : ws.contains c = false) : Lib.trimLeftS (c :: r) ws = c :: r := by
 unfold Lib.trimLeftS; rw [List.dropWhile_cons, if_neg (by rw [h]; simp)]
theorem blankF_ws {c : UInt8} {r : Bs} (h : ws.contains c = true) : blankF (c :: r) = ((blankF r).1, 1 + (blankF r).2) := by
 have ht := trim_ws (r := r) h
 have hle := trim_le r
 have e : ∀ x : Bs, blankF x = blankGo (x.length + 1) x := fun _ => rfl
 rw [e, e]
 cases h1 : Lib.hasPrefix (Lib.trimLeftS r ws) [47, 47] with
 | true =>
  have h1' := h1; rw [← ht] at h1'
  have h2 := line_n h1
  rw [blankGo_line h1' _ rfl, blankGo_line h1 _ rfl, ht, blank_fuel (c :: r).length r.length _ (by rw [List.length_drop, List.length_cons]; omega) (by rw [List.length_drop]; omega)]
  refine Prod.ext rfl ?_
  simp only [List.length_cons]; omega
 | false =>
  have h1' := h1; rw [← ht] at h1'
  cases h2 : Lib.hasPrefix (Lib.trimLeftS r ws) [47, 42] with
  | false =>
   have h2' := h2; rw [← ht] at h2'
   rw [blankGo_end h1 h2, blankGo_end h1' h2', ht]
   refine Prod.ext rfl ?_
   simp only [List.length_cons]; omega
  | true =>
   have h2' := h2; rw [← ht] at h2'
   have h4 := (hasPrefix_two h2).1
   by_cases h3 : Lib.index ((Lib.trimLeftS r ws).drop 2) [42, 47] < 0
   ·have h3' := h3; rw [← ht] at h3'
    rw [blankGo_open h1 h2 h3, blankGo_open h1' h2' h3', ht]
    refine Prod.ext rfl ?_
    simp only [List.length_cons]; omega
   ·have h3' : Lib.index ((Lib.trimLeftS (c :: r) ws).drop 2) [42, 47] = ((Lib.index ((Lib.trimLeftS r ws).drop 2) [42, 47]).toNat : Nat) := by rw [ht]; omega
    rw [blankGo_rem h1' h2' _ h3', blankGo_rem h1 h2 (Lib.index ((Lib.trimLeftS r ws).drop 2) [42, 47]).toNat (by omega), ht]
    rw [blank_fuel (c :: r).length r.length _ (by rw [List.length_drop, List.length_cons]; omega) (by rw [List.length_drop]; omega)]
    refine Prod.ext rfl ?_
    simp only [List.length_cons]; omega
theorem trim_pre {r : Bs} {a b : UInt8} (h : Lib.hasPrefix r [a, b] = true) (ha : ws.contains a = false) : Lib.trimLeftS r ws = r := by
 rw [(hasPrefix_two h).2]; exact trim_no ha
theorem blankF_line {r : Bs} (h : Lib.hasPrefix r [47, 47] = true) (n : Nat) (hn : n = if Lib.indexByte r 10 < 0 then r.length else (Lib.indexByte r 10).toNat) : blankF r = ((blankF (r.drop n)).1, n + (blankF (r.drop n)).2) := by
 have ht := trim_pre h (by decide)
 have h1 := h; rw [← ht] at h1
 have h2 := line_n h
 have e : blankF r = blankGo (r.length + 1) r := rfl
 rw [e, blankGo_line h1 n (by rw [ht]; exact hn), ht, blankF_of (by rw [List.length_drop]; omega)]
 refine Prod.ext rfl ?_
 simp
theorem pre_not {r : Bs} (h : Lib.hasPrefix r [47, 42] = true) : Lib.hasPrefix r [47, 47] = false := by
 rw [(hasPrefix_two h).2]; rfl
theorem blankF_open {r : Bs} (h : Lib.hasPrefix r [47, 42] = true) (h3 : Lib.index (r.drop 2) [42, 47] < 0) : blankF r = (false, 0) := by
 have ht := trim_pre h (by decide)
 have h1 := h; rw [← ht] at h1
 have h0 := pre_not h; rw [← ht] at h0
 have e : blankF r = blankGo (r.length + 1) r := rfl
 rw [e, blankGo_open h0 h1 (by rw [ht]; exact h3), ht]
 simp
theorem blankF_rem {r : Bs} (h : Lib.hasPrefix r [47, 42] = true) (i : Nat) (h3 : Lib.index (r.drop 2) [42, 47] = i) : blankF r = ((blankF (r.drop (i + 4))).1, i + 4 + (blankF (r.drop (i + 4))).2) := by
 have ht := trim_pre h (by decide)
 have h1 := h; rw [← ht] at h1
 have h0 := pre_not h; rw [← ht] at h0
 have h4 := (hasPrefix_two h).1
 have e : blankF r = blankGo (r.length + 1) r := rfl
 rw [e, blankGo_rem h0 h1 i (by rw [ht]; exact h3), ht, blankF_of (by rw [List.length_drop]; omega)]
 refine Prod.ext rfl ?_
 simp
theorem blankF_end {c : UInt8} {r : Bs} (h : ws.contains c = false) (h1 : Lib.hasPrefix (c :: r) [47, 47] = false) (h2 : Lib.hasPrefix (c :: r) [47, 42] = false) : blankF (c :: r) = (true, 0) := by
 have ht := trim_no (r := r) h
 have e : blankF (c :: r) = blankGo ((c :: r).length + 1) (c :: r) := rfl
 rw [e, blankGo_end (by rw [ht]; exact h1) (by rw [ht]; exact h2), ht]
 simp
theorem drop_head {s : Bs} {a : Nat} (h : a < s.length) : s.drop a = s.getD a 0 :: s.drop (a + 1) := by
 rw [List.drop_eq_getElem_cons h, getD_get h]
theorem indexByte_skip {b c : UInt8} {l : Bs} (h : b ≠ c) : Lib.indexByte (b :: l) c = if Lib.indexByte l c < 0 then -1 else Lib.indexByte l c + 1 := by
 have hge := Lib.indexByte_ge l c
 simp only [Lib.indexByte]
 rw [if_neg (by simpa using h)]
 by_cases h1 : Lib.indexByte l c = -1
 ·rw [h1]; simp
 ·rw [if_neg (by simpa using h1), if_neg (by omega)]
theorem index_skip {b : UInt8} {l p : Bs} (h : Lib.hasPrefix (b :: l) p = false) : Lib.index (b :: l) p = if Lib.index l p < 0 then -1 else Lib.index l p + 1 := by
 have hge := Lib.index_ge l p
 unfold Lib.hasPrefix at h
 simp only [Lib.index]
 rw [if_neg (by rw [h]; simp)]
 by_cases h1 : Lib.index l p = -1
 ·rw [h1]; simp
 ·rw [if_neg (by simpa using h1), if_neg (by omega)]
theorem index_hit {l p : Bs} (h : Lib.hasPrefix l p = true) (hp : p ≠ []) : Lib.index l p = 0 := by
 unfold Lib.hasPrefix at h
 cases l with
 | nil => cases p with
  | nil => exact absurd rfl hp
  | cons x p => simp [List.isPrefixOf] at h
 | cons b l => simp only [Lib.index]; rw [if_pos h]
theorem index_short {l : Bs} (h : l.length ≤ 1) : Lib.index l [42, 47] = -1 := by
 match l, h with
 | [], _ => rfl
 | [b], _ => simp [Lib.index, List.isPrefixOf]
def shiftI (k : Nat) (i : Int) : Int := if i < 0 then -1 else i + k
theorem shiftI_succ {k : Nat} {i : Int} : shiftI k (if i < 0 then -1 else i + 1) = shiftI (k + 1) i := by
 unfold shiftI
 split <;> split <;> omega
theorem shiftI_zero {i : Int} (h : -1 ≤ i) : shiftI 0 i = i := by unfold shiftI; split <;> omega
noncomputable def spBlankR : Spec := fun args σ K => match args, σ with
 | [.d (.str s), .d (.int .i64 a)], ⟨[], [], 0⟩ => (0 ≤ a ∧ a ≤ s.length ∧ s.length < 4294967281) ∧
   K (.ret (.tuple [.d (.int .i64 (a + (blankF (s.drop a.toNat)).2)), .d (.int .i64 (if (blankF (s.drop a.toNat)).1 = true then -1 else a + (blankF (s.drop a.toNat)).2))])) ⟨[], [], 0⟩
 | _, _ => False
theorem spBlankR_mono : SpecMono spBlankR := fun args σ K K' hK h => by
 unfold spBlankR at h ⊢; split at h <;> first | exact ⟨h.1, hK _ _ h.2⟩ | exact h.elim
theorem blankR_ok : PCalls (GG w0 nG) 97 spBlankR := by
 refine pcallsN tab_ok mixed (tbl := []) trivial Tryz.func97 rfl (by kernel_rfl) (by kernel_rfl) ?_
 intro args σ K h
 unfold spBlankR at h
 split at h
 ·rename_i s a
  obtain ⟨⟨h0, h1, hs⟩, h⟩ := h
  obtain ⟨a, rfl⟩ : ∃ n : Nat, a = n := ⟨a.toNat, by omega⟩
  simp only [Int.toNat_natCast] at h
  refine ⟨loopsOf [(1, ⟨[1], [0], fun vs σ => σ = ⟨[], [], 0⟩ ∧ ∃ e : Nat, vs = [.d (.int .i64 e)] ∧ (a ≤ e ∧ e ≤ s.length) ∧ blankF (s.drop a) = ((blankF (s.drop e)).1, e - a + (blankF (s.drop e)).2), muI s.length⟩),
   (8, ⟨[1], [0, 14], fun vs σ => σ = ⟨[], [], 0⟩ ∧ ∃ e x : Nat, vs = [.d (.str s), .d (.int .i64 e), .d (.int .i64 x)] ∧ (a ≤ e ∧ e ≤ x ∧ x ≤ s.length) ∧ blankF (s.drop a) = ((blankF (s.drop e)).1, e - a + (blankF (s.drop e)).2) ∧ Lib.hasPrefix (s.drop e) [47, 47] = true ∧ Lib.indexByte (s.drop e) 10 = shiftI (x - e) (Lib.indexByte (s.drop x) 10), fun vs _ => match vs with | [_, _, .d (.int _ n)] => ((s.length : Int) - n).toNat | _ => 0⟩),
   (12, ⟨[8], [0, 1], fun vs σ => σ = ⟨[], [], 0⟩ ∧ ∃ e x : Nat, vs = [.d (.str s), .d (.int .i64 e), .d (.int .i64 x)] ∧ (a ≤ e ∧ e + 2 ≤ x ∧ (x ≤ s.length ∨ x = s.length + 1 ∧ x = e + 3)) ∧ blankF (s.drop a) = ((blankF (s.drop e)).1, e - a + (blankF (s.drop e)).2) ∧ Lib.hasPrefix (s.drop e) [47, 42] = true ∧ (e + 2 < x → Lib.index (s.drop (e + 2)) [42, 47] = shiftI (x - 1 - (e + 2)) (Lib.index (s.drop (x - 1)) [42, 47])), fun vs _ => match vs with | [_, _, .d (.int _ n)] => ((s.length : Int) + 1 - n).toNat | _ => 0⟩)], unrOf [], tieOf [8, 12], 0, false, by simp, Nat.le_of_ble_eq_true rfl, ?_⟩
  conv => whnf
  refine ⟨⟨rfl, a, rfl, ⟨by omega, by omega⟩, by simp⟩, ?_⟩
  intro vs σ1 hI
  obtain ⟨rfl, e, rfl, ⟨he1, he2⟩, hE⟩ := hI
  have stop : ∀ k, (blankF (s.drop e)) = (true, k) → k = 0 → K (.ret (.tuple [.d (.int .i64 e), .d (.int .i64 (-1))])) ⟨[], [], 0⟩ := fun k hk h3 => by
   subst h3
   rw [hE, hk] at h
   simp only [if_true] at h
   rw [show (a : Int) + ((e - a + 0 : Nat) : Int) = (e : Int) by omega] at h
   exact h
  conv => whnf
  refine CondP.dec (fun h2 => ?_) (fun h2 => ?_)
  ·have h2' : e < s.length := by omega
   have hdh := drop_head h2'
   have hbt := (s.getD e 0).toNat_lt
   conv => whnf
   refine ⟨by omega, by omega, ?_⟩
   conv => whnf
   refine Or.inl ⟨InR.i64 (by omega) (by omega), ?_⟩
   conv => whnf
   refine ⟨by omega, by omega, by omega, ?_⟩
   conv => whnf
   have hcu : cut s ((e : Int)).toNat (min ((e : Int) + 2) (s.length : Int)).toNat = (s.drop e).take 2 := by
    rw [cut_mid]
    by_cases h4 : (e : Int) + 2 ≤ s.length
    ·rw [Int.min_eq_left h4]; congr 1; omega
    ·rw [Int.min_eq_right (by omega), List.take_of_length_le (by rw [List.length_drop]; omega), List.take_of_length_le (by rw [List.length_drop]; omega)]; rfl
   have hws : ∀ b : UInt8, s.getD e 0 = b → ws.contains b = true → a ≤ e + 1 ∧ e + 1 ≤ s.length ∧ blankF (s.drop a) = ((blankF (s.drop (e + 1))).1, e + 1 - a + (blankF (s.drop (e + 1))).2) := fun b hb hw => by
    refine ⟨by omega, by omega, ?_⟩
    rw [hE, hdh, hb, blankF_ws hw]
    refine Prod.ext rfl ?_
    simp only; omega
   have byt : ∀ n : Nat, n < 256 → (((s.getD ((e : Int)).toNat 0).toNat : Int) = (n : Int) ↔ s.getD e 0 = UInt8.ofNat n) := fun n hn => by
    rw [Int.toNat_natCast]
    constructor
    ·intro g; apply UInt8.toNat_inj.1; rw [UInt8.toNat_ofNat_of_lt' (by show n < 256; omega)]; omega
    ·intro g; rw [g, UInt8.toNat_ofNat_of_lt' (by show n < 256; omega)]
   conv => whnf
   refine CondP.dec (fun k1 => ?_) (fun k1 => ?_)
   ·obtain ⟨g1, g2, g3⟩ := hws _ ((byt 9 (by omega)).1 k1) (by decide)
    conv => whnf
    refine Or.inl ⟨InR.i64 (by omega) (by omega), ?_⟩
    conv => whnf
    exact ⟨⟨rfl, e + 1, rfl, ⟨g1, g2⟩, g3⟩, (show ((s.length : Int) - ((e : Int) + 1)).toNat < ((s.length : Int) - (e : Int)).toNat by omega)⟩
   conv => whnf
   refine CondP.dec (fun k2 => ?_) (fun k2 => ?_)
   ·obtain ⟨g1, g2, g3⟩ := hws _ ((byt 10 (by omega)).1 k2) (by decide)
    conv => whnf
    refine Or.inl ⟨InR.i64 (by omega) (by omega), ?_⟩
    conv => whnf
    exact ⟨⟨rfl, e + 1, rfl, ⟨g1, g2⟩, g3⟩, (show ((s.length : Int) - ((e : Int) + 1)).toNat < ((s.length : Int) - (e : Int)).toNat by omega)⟩
   conv => whnf
   refine CondP.dec (fun k3 => ?_) (fun k3 => ?_)
   ·obtain ⟨g1, g2, g3⟩ := hws _ ((byt 13 (by omega)).1 k3) (by decide)
    conv => whnf
    refine Or.inl ⟨InR.i64 (by omega) (by omega), ?_⟩
    conv => whnf
    exact ⟨⟨rfl, e + 1, rfl, ⟨g1, g2⟩, g3⟩, (show ((s.length : Int) - ((e : Int) + 1)).toNat < ((s.length : Int) - (e : Int)).toNat by omega)⟩
   conv => whnf
   refine CondP.dec (fun k4 => ?_) (fun k4 => ?_)
   ·obtain ⟨g1, g2, g3⟩ := hws _ ((byt 32 (by omega)).1 k4) (by decide)
    conv => whnf
    refine Or.inl ⟨InR.i64 (by omega) (by omega), ?_⟩
    conv => whnf
    exact ⟨⟨rfl, e + 1, rfl, ⟨g1, g2⟩, g3⟩, (show ((s.length : Int) - ((e : Int) + 1)).toNat < ((s.length : Int) - (e : Int)).toNat by omega)⟩
   have hnw : ws.contains (s.getD e 0) = false := by
    rw [Bool.eq_false_iff]
    intro g
    rw [List.contains_iff_mem] at g
    simp only [List.mem_cons, List.not_mem_nil, or_false] at g
    rcases g with g | g | g | g
    ·exact k4 ((byt 32 (by omega)).2 g)
    ·exact k1 ((byt 9 (by omega)).2 g)
    ·exact k3 ((byt 13 (by omega)).2 g)
    ·exact k2 ((byt 10 (by omega)).2 g)
   conv => whnf
   rw [hcu]
   conv => whnf
   refine CondP.dec (fun k5 => ?_) (fun k5 => ?_)
   ·have hp : Lib.hasPrefix (s.drop e) [47, 47] = true := (pre2 _ _ _).2 k5
    conv => whnf
    refine ⟨⟨rfl, e, e, rfl, ⟨by omega, by omega, by omega⟩, hE, hp, by rw [Nat.sub_self, shiftI_zero (Lib.indexByte_ge _ _)]⟩, ?_⟩
    intro vs σ1 hI
    obtain ⟨rfl, e', x, hv, ⟨x1, x2, x3⟩, hE', hp', hx⟩ := hI
    obtain ⟨rfl, rfl⟩ : e = e' ∧ vs = [.d (.int .i64 x)] := by
     injection hv with _ hv; injection hv with hv1 hv2; injection hv1 with hv1; injection hv1 with _ hv1; exact ⟨by omega, hv2⟩
    have hend : ∀ n, n = (if Lib.indexByte (s.drop e) 10 < 0 then (s.drop e).length else (Lib.indexByte (s.drop e) 10).toNat) → x = e + n → a ≤ x ∧ x ≤ s.length ∧ blankF (s.drop a) = ((blankF (s.drop x)).1, x - a + (blankF (s.drop x)).2) ∧ e + 2 ≤ x := fun n hn hxe => by
     have := line_n hp
     refine ⟨by omega, by omega, ?_, by omega⟩
     rw [hE, blankF_line hp n hn, List.drop_drop, ← hxe]
     refine Prod.ext rfl ?_
     simp only; omega
    conv => whnf
    refine CondP.dec (fun q1 => ?_) (fun q1 => ?_)
    ·have q1' : x < s.length := by omega
     have hxh := drop_head q1'
     conv => whnf
     refine ⟨by omega, by omega, ?_⟩
     conv => whnf
     refine CondP.ndec (fun q2 => ?_) (fun q2 => ?_)
     ·have q2' : s.getD x 0 ≠ 10 := fun g => q2 (show ((s.getD ((x : Int)).toNat 0).toNat : Int) = 10 by rw [Int.toNat_natCast, g]; rfl)
      conv => whnf
      refine Or.inl ⟨InR.i64 (by omega) (by omega), ?_⟩
      conv => whnf
      refine ⟨⟨rfl, e, x + 1, rfl, ⟨by omega, by omega, by omega⟩, hE, hp, ?_⟩, (show ((s.length : Int) - ((x : Int) + 1)).toNat < ((s.length : Int) - (x : Int)).toNat by omega)⟩
      rw [hx, hxh, indexByte_skip q2', shiftI_succ, show x + 1 - e = x - e + 1 by omega]
     ·have q2' : s.getD x 0 = 10 := by
       have g : ((s.getD ((x : Int)).toNat 0).toNat : Int) = 10 := q2
       rw [Int.toNat_natCast] at g
       apply UInt8.toNat_inj.1; show (s.getD x 0).toNat = 10; omega
      have h0 : Lib.indexByte (s.drop x) 10 = 0 := by rw [hxh, q2']; rfl
      rw [h0] at hx
      have hx' : Lib.indexByte (s.drop e) 10 = ((x - e : Nat) : Int) := by rw [hx]; unfold shiftI; rw [if_neg (by omega)]; omega
      obtain ⟨g1, g2, g3, g4⟩ := hend (x - e) (by rw [hx', if_neg (by omega)]; omega) (by omega)
      conv => whnf
      exact ⟨⟨rfl, x, rfl, ⟨g1, g2⟩, g3⟩, (show ((s.length : Int) - (x : Int)).toNat < ((s.length : Int) - (e : Int)).toNat by omega)⟩
    ·have q1' : x = s.length := by omega
     have h0 : Lib.indexByte (s.drop x) 10 = -1 := by rw [q1', List.drop_length]; rfl
     rw [h0] at hx
     have hx' : Lib.indexByte (s.drop e) 10 = -1 := by rw [hx]; rfl
     obtain ⟨g1, g2, g3, g4⟩ := hend (x - e) (by rw [hx', if_pos (by omega), List.length_drop]; omega) (by omega)
     conv => whnf
     exact ⟨⟨rfl, x, rfl, ⟨g1, g2⟩, g3⟩, (show ((s.length : Int) - (x : Int)).toNat < ((s.length : Int) - (e : Int)).toNat by omega)⟩
   ·have hp : Lib.hasPrefix (s.drop e) [47, 47] = false := by rw [Bool.eq_false_iff]; exact fun g => k5 ((pre2 _ _ _).1 g)
    conv => whnf
    refine CondP.dec (fun k6 => ?_) (fun k6 => ?_)
    ·have hp2 : Lib.hasPrefix (s.drop e) [47, 42] = true := (pre2 _ _ _).2 k6
     have hl2 : e + 2 ≤ s.length := by have := (hasPrefix_two hp2).1; rw [List.length_drop] at this; omega
     conv => whnf
     refine Or.inl ⟨InR.i64 (by omega) (by omega), ?_⟩
     conv => whnf
     refine ⟨⟨rfl, e, e + 2, rfl, ⟨by omega, by omega, by omega⟩, hE, hp2, fun g => by omega⟩, ?_⟩
     intro vs σ1 hI
     obtain ⟨rfl, e', x, hv, ⟨x1, x2, x3⟩, hE', hp', hx⟩ := hI
     obtain ⟨rfl, rfl⟩ : e = e' ∧ vs = [.d (.int .i64 x)] := by
      injection hv with _ hv; injection hv with hv1 hv2; injection hv1 with hv1; injection hv1 with _ hv1; exact ⟨by omega, hv2⟩
     have hdd : (s.drop e).drop 2 = s.drop (e + 2) := by rw [List.drop_drop]
     have more : (e + 2 < x → Lib.hasPrefix (s.drop (x - 1)) [42, 47] = false) → (e + 2 < x → x < s.length) → (e + 2 < x + 1 → Lib.index (s.drop (e + 2)) [42, 47] = shiftI (x + 1 - 1 - (e + 2)) (Lib.index (s.drop (x + 1 - 1)) [42, 47])) := fun g1 g2 _ => by
      rcases Nat.lt_or_ge (e + 2) x with g | g
      ·have hxh : s.drop (x - 1) = s.getD (x - 1) 0 :: s.drop x := by rw [drop_head (show x - 1 < s.length by have := g2 g; omega), show x - 1 + 1 = x by omega]
       rw [hx g, hxh, index_skip (by rw [← hxh]; exact g1 g), shiftI_succ, show x + 1 - 1 - (e + 2) = x - 1 - (e + 2) + 1 by omega, Nat.add_sub_cancel]
      ·obtain rfl : x = e + 2 := by omega
       rw [Nat.add_sub_cancel, Nat.sub_self, shiftI_zero (Lib.index_ge _ _)]
     have out : s.length ≤ x → K (.ret (.tuple [.d (.int .i64 e), .d (.int .i64 e)])) ⟨[], [], 0⟩ := fun g => by
      have hneg : Lib.index ((s.drop e).drop 2) [42, 47] < 0 := by
       rw [hdd]
       rcases Nat.lt_or_ge (e + 2) x with g1 | g1
       ·rw [hx g1, index_short (by rw [List.length_drop]; omega)]; exact (show (-1 : Int) < 0 by decide)
       ·rw [index_short (by rw [List.length_drop]; omega)]; decide
      have hb := blankF_open hp2 hneg
      rw [hE, hb] at h
      simp only [Bool.false_eq_true, if_false] at h
      rw [show (a : Int) + ((e - a + 0 : Nat) : Int) = (e : Int) by omega] at h
      exact h
     conv => whnf
     refine CondP.dec (fun q1 => ?_) (fun q1 => ?_)
     ·have q1' : x < s.length := by omega
      conv => whnf
      refine Or.inl ⟨InR.i64 (by omega) (by omega), ?_⟩
      conv => whnf
      refine Or.inl ⟨InR.i64 (by omega) (by omega), ?_⟩
      conv => whnf
      refine ⟨by omega, by omega, by omega, ?_⟩
      conv => whnf
      have hcx : cut s ((x : Int) - 1).toNat ((x : Int) + 1).toNat = (s.drop (x - 1)).take 2 := by
       rw [cut_mid, show ((x : Int) - 1).toNat = x - 1 by omega]; congr 1; omega
      rw [hcx]
      conv => whnf
      refine CondP.ndec (fun q2 => ?_) (fun q2 => ?_)
      ·have q2' : Lib.hasPrefix (s.drop (x - 1)) [42, 47] = false := by rw [Bool.eq_false_iff]; exact fun g => q2 ((pre2 _ _ _).1 g)
       conv => whnf
       refine Or.inl ⟨InR.i64 (by omega) (by omega), ?_⟩
       conv => whnf
       exact ⟨⟨rfl, e, x + 1, rfl, ⟨by omega, by omega, by omega⟩, hE, hp2, more (fun _ => q2') (fun _ => q1')⟩, (show ((s.length : Int) + 1 - ((x : Int) + 1)).toNat < ((s.length : Int) + 1 - (x : Int)).toNat by omega)⟩
      ·have q2' : Lib.hasPrefix (s.drop (x - 1)) [42, 47] = true := (pre2 _ _ _).2 q2
       conv => whnf
       refine Or.inl ⟨InR.i64 (by omega) (by omega), ?_⟩
       conv => whnf
       refine CondP.dec (fun q3 => ?_) (fun q3 => ?_)
       ·have q3' : x = e + 2 := by omega
        conv => whnf
        refine Or.inl ⟨InR.i64 (by omega) (by omega), ?_⟩
        conv => whnf
        exact ⟨⟨rfl, e, x + 1, rfl, ⟨by omega, by omega, by omega⟩, hE, hp2, more (fun g => by omega) (fun _ => q1')⟩, (show ((s.length : Int) + 1 - ((x : Int) + 1)).toNat < ((s.length : Int) + 1 - (x : Int)).toNat by omega)⟩
       ·have q3' : e + 2 < x := by omega
        have hi : Lib.index ((s.drop e).drop 2) [42, 47] = ((x - 1 - (e + 2) : Nat) : Int) := by
         rw [hdd, hx q3', index_hit q2' (by simp)]; unfold shiftI; rw [if_neg (by omega)]; omega
        have hb := blankF_rem hp2 _ hi
        rw [List.drop_drop, show e + (x - 1 - (e + 2) + 4) = x + 1 by omega] at hb
        conv => whnf
        refine CondP.dec (fun q4 => absurd q4 (by omega)) (fun q4 => ?_)
        conv => whnf
        refine Or.inl ⟨InR.i64 (by omega) (by omega), ?_⟩
        conv => whnf
        refine ⟨⟨rfl, x + 1, rfl, ⟨by omega, by omega⟩, ?_⟩, (show ((s.length : Int) - ((x : Int) + 1)).toNat < ((s.length : Int) - (e : Int)).toNat by omega)⟩
        rw [hE, hb]
        refine Prod.ext rfl ?_
        simp only; omega
     ·have q1' : s.length ≤ x := by omega
      conv => whnf
      refine Or.inl ⟨InR.i64 (by omega) (by omega), ?_⟩
      conv => whnf
      refine CondP.dec (fun q3 => ?_) (fun q3 => ?_)
      ·have q3' : x = e + 2 := by omega
       conv => whnf
       refine Or.inl ⟨InR.i64 (by omega) (by omega), ?_⟩
       conv => whnf
       exact ⟨⟨rfl, e, x + 1, rfl, ⟨by omega, by omega, by omega⟩, hE, hp2, more (fun g => by omega) (fun g => by omega)⟩, (show ((s.length : Int) + 1 - ((x : Int) + 1)).toNat < ((s.length : Int) + 1 - (x : Int)).toNat by omega)⟩
      ·conv => whnf
       refine CondP.dec (fun q4 => ?_) (fun q4 => absurd (show (x : Int) ≥ s.length by omega) q4)
       conv => whnf
       exact out q1'
    ·have hp2 : Lib.hasPrefix (s.drop e) [47, 42] = false := by rw [Bool.eq_false_iff]; exact fun g => k6 ((pre2 _ _ _).1 g)
     conv => whnf
     refine stop 0 ?_ rfl
     rw [hdh] at hp hp2 ⊢
     exact blankF_end hnw hp hp2
  ·have h2' : e = s.length := by omega
   conv => whnf
   refine stop 0 ?_ rfl
   rw [h2', List.drop_length]; exact blankF_nil
 ·exact h.elim
end Go.PM.Lex
end

section
set_option maxRecDepth 100000
set_option maxHeartbeats 4000000
namespace Go.PM.Lex
open Go.Proofs
variable {w0 : World} {nG : Nat}
theorem tw_at {p : UInt8 → Bool} : ∀ (l : Bs) (k : Nat), k ≤ (l.takeWhile p).length → (k < l.length → (p (l.getD k 0) = true ↔ k < (l.takeWhile p).length)) ∧ (l.length ≤ k → k = (l.takeWhile p).length) ∧ (k < (l.takeWhile p).length → k < l.length ∧ (l.takeWhile p).getD k 0 = l.getD k 0)
 | [], k, h => by simp at h; subst h; simp
 | b :: l, k, h => by
  by_cases hb : p b = true
  ·rw [List.takeWhile_cons_of_pos hb] at h ⊢
   cases k with
   | zero => simp [hb]
   | succ k =>
    have ih := tw_at (p := p) l k (by simpa using h)
    simp only [List.length_cons, List.getD_cons_succ, Nat.add_lt_add_iff_right, Nat.add_le_add_iff_right]
    exact ⟨ih.1, fun g => by have := ih.2.1 g; omega, ih.2.2⟩
  ·rw [List.takeWhile_cons_of_neg hb] at h ⊢
   simp only [List.length_nil, Nat.le_zero] at h
   subst h
   simp [hb]
theorem getD_drop' {s : Bs} {o k : Nat} : (s.drop o).getD k 0 = s.getD (o + k) 0 := by
 rw [List.getD_eq_getElem?_getD, List.getElem?_drop, ← List.getD_eq_getElem?_getD]
theorem hexV_dig (b : UInt8) : (0 ≤ hexV b.toNat ↔ digB true b = true) ∧ (digB true b = true → hexV b.toNat = digV b ∧ digV b < 16) := by
 have key : ∀ n : Fin 256, (0 ≤ hexV (n.val : Int) ↔ digB true (UInt8.ofNat n.val) = true) ∧ (digB true (UInt8.ofNat n.val) = true → hexV (n.val : Int) = digV (UInt8.ofNat n.val) ∧ digV (UInt8.ofNat n.val) < 16) := by decide +kernel
 have := key ⟨b.toNat, b.toNat_lt⟩
 simpa using this
theorem or_nib {m d : Nat} (hm : m < 2 ^ 60) (hd : d < 16) : bitsOf .or .u64 ((m : Int) * 16) (d : Int) = ((m * 16 + d : Nat) : Int) := by
 have e : bitsOf .or .u64 ((m : Int) * 16) (d : Int) = IntKind.u64.wrap (BitVec.ofInt 64 ((m : Int) * 16) ||| BitVec.ofInt 64 (d : Int)).toNat := by rw [bitsOf_eq]; rfl
 have h1 : (BitVec.ofInt 64 ((m : Int) * 16)).toNat = m * 16 := by
  rw [show (m : Int) * 16 = ((m * 16 : Nat) : Int) by simp, BitVec.ofInt_natCast, BitVec.toNat_ofNat]; omega
 have h2 : (BitVec.ofInt 64 (d : Int)).toNat = d := by rw [BitVec.ofInt_natCast, BitVec.toNat_ofNat]; omega
 have h3 : m * 16 ||| d = m * 16 + d := by
  have := Nat.two_pow_add_eq_or_of_lt (i := 4) (b := d) (by omega) m
  rw [show (2 : Nat) ^ 4 = 16 by rfl] at this
  rw [Nat.mul_comm m 16, ← this]
 rw [e, BitVec.toNat_or, h1, h2, h3]
 have : InR .u64 ((m * 16 + d : Nat) : Int) := InR.u64 (by omega) (by omega)
 exact this
theorem wrap_u64 (n : Int) : 0 ≤ IntKind.u64.wrap n ∧ IntKind.u64.wrap n < 18446744073709551616 := by
 unfold IntKind.wrap
 simp only [show IntKind.u64.bits = 64 from rfl, show IntKind.u64.signed = false from rfl, Bool.false_and]
 simp; omega
theorem or_range (x y : Int) : 0 ≤ bitsOf .or .u64 x y ∧ bitsOf .or .u64 x y < 18446744073709551616 := by
 have e : bitsOf .or .u64 x y = IntKind.u64.wrap (BitVec.ofInt 64 x ||| BitVec.ofInt 64 y).toNat := by rw [bitsOf_eq]; rfl
 rw [e]; exact wrap_u64 _
theorem numV_lt : ∀ (l : Bs), (∀ b ∈ l, digV b < 16) → numV 16 l < 16 ^ l.length := by
 intro l
 have key : ∀ (l : Bs) (n m : Nat), n < 16 ^ m → (∀ b ∈ l, digV b < 16) → l.foldl (fun n b => n * 16 + digV b) n < 16 ^ (m + l.length) := by
  intro l
  induction l with
  | nil => intro n m h _; exact h
  | cons b l ih =>
   intro n m h hb
   have h1 := hb b (by simp)
   have := ih (n * 16 + digV b) (m + 1) (by rw [Nat.pow_succ]; omega) (fun c hc => hb c (by simp [hc]))
   simpa [Nat.add_assoc, Nat.add_comm 1] using this
 intro hb
 have := key l 0 0 (by simp) hb
 simpa [numV] using this
noncomputable def spNumR : Spec := fun args σ K => match args, σ with
 | [.d (.str s), .d (.int .i64 a)], ⟨[], [], 0⟩ => (0 ≤ a ∧ a < s.length ∧ s.length < 4294967281 ∧ isDigit ((s.getD a.toNat 0).toNat : Int) = true) ∧
   (∀ n, numberF (s.drop a.toNat) = some n → K (.ret (.tuple [tokPV 2 [] (IntKind.i64.wrap n) a (a + numLen (s.drop a.toNat)), .d (.bool true)])) ⟨[], [], 0⟩) ∧
   (numberF (s.drop a.toNat) = none → ∀ n e : Int, K (.ret (.tuple [tokPV 2 [] n a e, .d (.bool false)])) ⟨[], [], 0⟩)
 | _, _ => False
theorem spNumR_mono : SpecMono spNumR := fun args σ K K' hK h => by
 unfold spNumR at h ⊢; split at h <;> first | exact ⟨h.1, fun n hn => hK _ _ (h.2.1 n hn), fun hn n e => hK _ _ (h.2.2 hn n e)⟩ | exact h.elim
noncomputable def tblNumR : Tbl := [(241, spHexR), (175, spDigit), (174, spLetAt)]
theorem numR_ok : PCalls (GG w0 nG) 178 spNumR := by
 refine pcallsN tab_ok mixed (tbl := tblNumR) ⟨⟨hexR_ok, spHexR_mono⟩, ⟨digitR_ok, spDigit_mono⟩, ⟨letAt_ok, spLetAt_mono⟩, trivial⟩ Tryz.func178 rfl (by kernel_rfl) (by kernel_rfl) ?_
 intro args σ K h
 unfold spNumR at h
 split at h
 ·rename_i s a
  obtain ⟨⟨h0, h1, hs, hd0⟩, hgood, hbad⟩ := h
  obtain ⟨a, rfl⟩ : ∃ n : Nat, a = n := ⟨a.toNat, by omega⟩
  simp only [Int.toNat_natCast] at hgood hbad hd0
  have hcu : cut s ((a : Int)).toNat (min ((a : Int) + 2) (s.length : Int)).toNat = (s.drop a).take 2 := by
   rw [cut_mid]
   by_cases h4 : (a : Int) + 2 ≤ s.length
   ·rw [Int.min_eq_left h4]; congr 1; omega
   ·rw [Int.min_eq_right (by omega), List.take_of_length_le (by rw [List.length_drop]; omega), List.take_of_length_le (by rw [List.length_drop]; omega)]; rfl
  obtain ⟨r, hr⟩ : ∃ r, r = s.drop a := ⟨_, rfl⟩
  obtain ⟨D, hD⟩ : ∃ D, D = numDigits r := ⟨_, rfl⟩
  rw [← hr] at hgood hbad
  refine ⟨loopsOf [(6, ⟨[7], [0, 1, 4, 6, 8], fun vs σ => ∃ k n : Nat, vs = [.d (.int .u64 n)] ∧ σ = ⟨[.cells 40 [.d (.int .u8 0), .d (.str []), .d (.int .i64 0), .d (.int .i64 0), .d (.int .i64 0)], .cells 40 [.d (.int .u8 2), .d (.str []), .d (.int .i64 0), .d (.int .i64 a), .d (.int .i64 (a + 2 + k : Nat))]], [], 0⟩ ∧ (k ≤ D.length ∧ n < 18446744073709551616 ∧ (k ≤ 16 → n = numV 16 (D.take k))), fun _ σ => match σ.bx with | [_, .cells _ [_, _, _, _, .d (.int _ n)]] => ((s.length : Int) - n).toNat | _ => 0⟩),
   (10, ⟨[7, 8], [0, 1, 4, 6], fun vs σ => ∃ (k n : Nat) (ok : Bool), vs = [.d (.int .u64 n), .d (.bool ok)] ∧ σ = ⟨[.cells 40 [.d (.int .u8 0), .d (.str []), .d (.int .i64 0), .d (.int .i64 0), .d (.int .i64 0)], .cells 40 [.d (.int .u8 2), .d (.str []), .d (.int .i64 0), .d (.int .i64 a), .d (.int .i64 (a + k : Nat))]], [], 0⟩ ∧ (k ≤ D.length ∧ n < 18446744073709551616 ∧ ok = decide (numV 10 (D.take k) < 9223372036854775808) ∧ (ok = true → n = numV 10 (D.take k))), fun _ σ => match σ.bx with | [_, .cells _ [_, _, _, _, .d (.int _ n)]] => ((s.length : Int) - n).toNat | _ => 0⟩)], unrOf [], tieOf [], 0, false, by simp, Nat.le_of_ble_eq_true rfl, ?_⟩
  have fin : ∀ (e n : Nat) (ok : Bool), e = a + numLen r → (ok = true → D ≠ [] ∧ numV (if isHex r then 16 else 10) D < (if isHex r then 18446744073709551616 else 9223372036854775808) ∧ n = numV (if isHex r then 16 else 10) D ∧ ¬ (isHex r = true ∧ 16 < D.length)) →
    (ok = false → D = [] ∨ (if isHex r then 18446744073709551616 else 9223372036854775808) ≤ numV (if isHex r then 16 else 10) D ∨ (isHex r = true ∧ 16 < D.length)) →
    ∀ X : Bool, X = (ok && !isLetter (pk (s.drop e)).1 && !isDigit (pk (s.drop e)).1) → K (.ret (.tuple [.agg [.d (.int .u8 2), .d (.str []), .d (.int .i64 (IntKind.i64.wrap n)), .d (.int .i64 a), .d (.int .i64 e)], .d (.bool X)])) ⟨[], [], 0⟩ := fun e n ok he hok1 hok0 X hX => by
   have hdr : s.drop e = r.drop (numLen r) := by rw [hr, List.drop_drop, ← hr, he]
   have hcond : (numDigits r = [] ∨ (if isHex r then 18446744073709551616 else 9223372036854775808) ≤ numV (if isHex r then 16 else 10) (numDigits r) ∨ (isLetter (pk (r.drop (numLen r))).1 = true ∨ isDigit (pk (r.drop (numLen r))).1 = true ∨ (isHex r = true ∧ 16 < (numDigits r).length))) → numberF r = none := fun g => by
    unfold numberF
    by_cases g1 : numDigits r = []
    ·rw [if_pos g1]
    rw [if_neg g1]
    by_cases g2 : (if isHex r then 18446744073709551616 else 9223372036854775808) ≤ numV (if isHex r then 16 else 10) (numDigits r)
    ·rw [if_pos g2]
    rw [if_neg g2]
    rcases g with g | g | g
    ·exact absurd g g1
    ·exact absurd g g2
    ·rw [if_pos g]
   rw [hdr] at hX
   rw [← hD] at hcond
   cases X with
   | false =>
    have : numberF r = none := by
     apply hcond
     cases ok with
     | false => rcases hok0 rfl with g | g | g <;> simp [g]
     | true =>
      simp only [Bool.true_and] at hX
      cases hl : isLetter (pk (r.drop (numLen r))).1 with
      | true => simp
      | false =>
       rw [hl] at hX
       cases hd : isDigit (pk (r.drop (numLen r))).1 with
       | true => simp
       | false => rw [hd] at hX; simp at hX
    exact hbad this _ _
   | true =>
    cases ok with
    | false => simp at hX
    | true =>
     obtain ⟨g1, g2, g3, g4⟩ := hok1 rfl
     cases hl : isLetter (pk (r.drop (numLen r))).1 with
     | true => rw [hl] at hX; simp at hX
     | false =>
      cases hd : isDigit (pk (r.drop (numLen r))).1 with
      | true => rw [hd] at hX; simp at hX
      | false =>
       have hn : numberF r = some n := by
        unfold numberF
        rw [← hD, if_neg g1, if_neg (by omega), if_neg (by rw [hl, hd]; simp only [Bool.false_eq_true, false_or]; exact g4), g3]
       have := hgood n hn
       rw [show (a : Int) + (numLen r : Int) = (e : Int) by omega] at this
       exact this
  conv => whnf
  refine Or.inl ⟨InR.i64 (by omega) (by omega), ?_⟩
  conv => whnf
  refine ⟨by omega, by omega, by omega, ?_⟩
  conv => whnf
  rw [hcu, ← hr]
  conv => whnf
  refine CondP.dec (fun k1 => ?_) (fun k1 => ?_)
  ·have hx : isHex r = true := (pre2 _ _ _).2 k1
   have hl2 : a + 2 ≤ s.length := by have := (hasPrefix_two (show Lib.hasPrefix r [48, 120] = true from hx)).1; rw [hr, List.length_drop] at this; omega
   have hDe : D = (s.drop (a + 2)).takeWhile (digB true) := by rw [hD, numDigits, hx, if_pos rfl, hr, List.drop_drop]
   have hNl : numLen r = 2 + D.length := by rw [numLen, hx, if_pos rfl, hD]
   have htw : ∀ k, k ≤ D.length → (a + 2 + k < s.length → (digB true (s.getD (a + 2 + k) 0) = true ↔ k < D.length)) ∧ (s.length ≤ a + 2 + k → k = D.length) ∧ (k < D.length → a + 2 + k < s.length ∧ D.getD k 0 = s.getD (a + 2 + k) 0) := fun k hk => by
    have := tw_at (p := digB true) (s.drop (a + 2)) k (by rw [← hDe]; exact hk)
    rw [← hDe, getD_drop', List.length_drop] at this
    exact ⟨fun g => this.1 (by omega), fun g => this.2.1 (by omega), fun g => ⟨by have := (this.2.2 g).1; omega, (this.2.2 g).2⟩⟩
   have hDl : a + 2 + D.length ≤ s.length := by
    have := takeWhile_le (digB true) (s.drop (a + 2)); rw [← hDe, List.length_drop] at this; omega
   conv => whnf
   refine Or.inl ⟨InR.i64 (by omega) (by omega), ?_⟩
   conv => whnf
   refine ⟨⟨0, 0, rfl, rfl, by omega, by omega, fun _ => by simp [numV]⟩, ?_⟩
   intro vs σ1 hI
   obtain ⟨k, n, rfl, rfl, hk, hn, hnk⟩ := hI
   obtain ⟨t1, t2, t3⟩ := htw k hk
   have hbt := (s.getD (a + 2 + k) 0).toNat_lt
   have hbi : (s.getD (((a + 2 + k : Nat) : Int)).toNat 0) = s.getD (a + 2 + k) 0 := by rw [Int.toNat_natCast]
   have tail : k = D.length → ∀ okb : Bool, okb = (decide (0 < k) && decide (k ≤ 16)) → ∀ X : Bool, X = (okb && !isLetter (pk (s.drop (a + 2 + k))).1 && !isDigit (pk (s.drop (a + 2 + k))).1) →
     K (.ret (.tuple [.agg [.d (.int .u8 2), .d (.str []), .d (.int .i64 (IntKind.i64.wrap n)), .d (.int .i64 a), .d (.int .i64 (a + 2 + k : Nat))], .d (.bool X)])) ⟨[], [], 0⟩ := fun hkD okb hok X hX => by
    refine fin (a + 2 + k) n okb (by rw [hNl]; omega) (fun g => ?_) (fun g => ?_) X hX
    ·rw [hok] at g
     simp only [Bool.and_eq_true, decide_eq_true_eq] at g
     have hv := hnk g.2
     rw [hkD, List.take_length] at hv
     rw [hx]
     simp only [if_true]
     exact ⟨fun e => by rw [e] at hkD; simp at hkD; omega, by omega, hv, by omega⟩
    ·rw [hok] at g
     simp only [Bool.and_eq_false_iff, decide_eq_false_iff_not] at g
     rcases g with g | g
     ·exact .inl (List.eq_nil_of_length_eq_zero (by omega))
     ·exact .inr (.inr ⟨hx, by omega⟩)
   conv => whnf
   refine CondP.dec (fun q1 => ?_) (fun q1 => ?_)
   ·have q1' : a + 2 + k < s.length := by omega
    conv => whnf
    refine ⟨by omega, by omega, ?_⟩
    conv => whnf
    rw [hbi]
    refine ⟨⟨by omega, by omega⟩, ?_⟩
    have hxd := hexV_dig (s.getD (a + 2 + k) 0)
    generalize hxv : hexV ((s.getD (a + 2 + k) 0).toNat : Int) = v at hxd ⊢
    obtain ⟨m, rfl⟩ | ⟨m, rfl⟩ : (∃ m : Nat, v = m) ∨ (∃ m : Nat, v = Int.negSucc m) := by
     cases v with
     | ofNat m => exact .inl ⟨m, rfl⟩
     | negSucc m => exact .inr ⟨m, rfl⟩
    ·have q2' : digB true (s.getD (a + 2 + k) 0) = true := hxd.1.1 (by omega)
     have hlt : k < D.length := (t1 q1').1 q2'
     obtain ⟨d1, d2⟩ := hxd.2 q2'
     have hnext : k + 1 ≤ 16 → numV 16 (D.take (k + 1)) = n * 16 + m ∧ n < 2 ^ 60 := fun g => by
      have h1 := hnk (by omega)
      have hall : ∀ b ∈ D.take k, digV b < 16 := fun b hb => by
       have := takeWhile_all (digB true) (s.drop (a + 2))
       rw [← hDe, List.all_eq_true] at this
       exact ((hexV_dig b).2 (this b (List.mem_of_mem_take hb))).2
      have h2 := numV_lt _ hall
      have h3 : (16 : Nat) ^ (D.take k).length ≤ 16 ^ 15 := Nat.pow_le_pow_right (by omega) (by rw [List.length_take]; omega)
      rw [take_snoc hlt, numV_snoc, ← h1, (t3 hlt).2]
      exact ⟨by omega, by rw [h1]; omega⟩
     have fin2 : ∀ (x : Int), (k + 1 ≤ 16 → x = (n : Int) * 16) → ∃ n' : Nat, bitsOf .or .u64 x (m : Int) = n' ∧ n' < 18446744073709551616 ∧ (k + 1 ≤ 16 → n' = numV 16 (D.take (k + 1))) := fun x hx => by
      have := or_range x (m : Int)
      refine ⟨(bitsOf .or .u64 x (m : Int)).toNat, by omega, by omega, fun g => ?_⟩
      obtain ⟨g1, g2⟩ := hnext g
      rw [hx g, or_nib g2 (by omega), g1]; omega
     conv => whnf
     refine ⟨by omega, ?_⟩
     conv => whnf
     by_cases hk16 : k + 1 ≤ 16
     ·have := (hnext hk16).2
      have e0 : (2 : Int) ^ (min (Int.toNat 4) IntKind.u64.bits) = 16 := rfl
      refine Or.inl ⟨InR.u64 (by rw [e0]; omega) (by rw [e0]; omega), ?_⟩
      obtain ⟨n', e1, e2, e3⟩ := fin2 ((n : Int) * 2 ^ (min (Int.toNat 4) IntKind.u64.bits)) (fun _ => rfl)
      conv => whnf
      refine ⟨by omega, by omega, ?_⟩
      conv => whnf
      rw [hbi]
      refine ⟨⟨by omega, by omega⟩, ?_⟩
      rw [hxv]
      conv => whnf
      refine Or.inl ⟨InR.u64 (by omega) (by omega), ?_⟩
      conv => whnf
      refine Or.inl ⟨InR.i64 (by omega) (by omega), ?_⟩
      rw [e1]
      conv => whnf
      exact ⟨⟨k + 1, n', rfl, rfl, by omega, e2, e3⟩, (show ((s.length : Int) - (((a + 2 + k : Nat) : Int) + 1)).toNat < ((s.length : Int) - ((a + 2 + k : Nat) : Int)).toNat by omega)⟩
     ·refine Or.inr ?_
      obtain ⟨n', e1, e2, e3⟩ := fin2 (IntKind.u64.wrap ((n : Int) * 2 ^ (min (Int.toNat 4) IntKind.u64.bits))) (fun g => absurd g hk16)
      conv => whnf
      refine ⟨by omega, by omega, ?_⟩
      conv => whnf
      rw [hbi]
      refine ⟨⟨by omega, by omega⟩, ?_⟩
      rw [hxv]
      conv => whnf
      refine Or.inl ⟨InR.u64 (by omega) (by omega), ?_⟩
      conv => whnf
      refine Or.inl ⟨InR.i64 (by omega) (by omega), ?_⟩
      rw [e1]
      conv => whnf
      exact ⟨⟨k + 1, n', rfl, rfl, by omega, e2, e3⟩, (show ((s.length : Int) - (((a + 2 + k : Nat) : Int) + 1)).toNat < ((s.length : Int) - ((a + 2 + k : Nat) : Int)).toNat by omega)⟩
    ·have q2' : k = D.length := by
      have : ¬ k < D.length := fun g => by have := hxd.1.2 ((t1 q1').2 g); omega
      omega
     conv => whnf
     refine Or.inl ⟨InR.i64 (by omega) (by omega), ?_⟩
     conv => whnf
     refine CondP.dec (fun z0 => ?_) (fun z0 => ?_)
     ·conv => whnf
      refine Or.inl ⟨InR.i64 (by omega) (by omega), ?_⟩
      conv => whnf
      refine Or.inr ?_
      conv => whnf
      refine CondP.dec (fun z1 => ?_) (fun z1 => ?_)
      ·conv => whnf
       refine ⟨⟨by omega, by omega⟩, ?_⟩
       conv => whnf
       repeat (refine ⟨rfl, ?_⟩; conv => whnf)
       refine CondP.intro (fun z2 => ?_) (fun z2 => ?_)
       ·have z2' : isLetter (pk (s.drop (a + 2 + k))).1 = false := by rw [Int.toNat_natCast] at z2; simpa only [Bool.not_eq_true'] using z2
        conv => whnf
        refine CondP.dec (fun z3 => ?_) (fun z3 => ?_)
        ·conv => whnf
         repeat (refine ⟨rfl, ?_⟩; conv => whnf)
         refine tail q2' true (by rw [decide_eq_true (show 0 < k by omega), decide_eq_true (show k ≤ 16 by omega)]; rfl) true ?_
         rw [z2', List.drop_eq_nil_of_le (show s.length ≤ a + 2 + k by omega)]; rfl
        ·have z3' : a + 2 + k < s.length := by omega
         have hdg := dig_byte (r := s.drop (a + 2 + k)) (by rw [List.length_drop]; omega)
         rw [getD_drop', Nat.add_zero] at hdg
         conv => whnf
         refine ⟨by omega, by omega, ?_⟩
         conv => whnf
         rw [hbi]
         refine Or.inl ⟨InR.i32 (by omega) (by omega), ?_⟩
         conv => whnf
         repeat (refine ⟨rfl, ?_⟩; conv => whnf)
         refine tail q2' true (by rw [decide_eq_true (show 0 < k by omega), decide_eq_true (show k ≤ 16 by omega)]; rfl) _ ?_
         rw [z2', hdg]; simp
       ·have z2' : isLetter (pk (s.drop (a + 2 + k))).1 = true := by rw [Int.toNat_natCast] at z2; simpa only [Bool.not_eq_false'] using z2
        conv => whnf
        repeat (refine ⟨rfl, ?_⟩; conv => whnf)
        refine tail q2' true (by rw [decide_eq_true (show 0 < k by omega), decide_eq_true (show k ≤ 16 by omega)]; rfl) false ?_
        rw [z2']; rfl
      ·conv => whnf
       repeat (refine ⟨rfl, ?_⟩; conv => whnf)
       refine tail q2' false (by rw [decide_eq_false (show ¬ k ≤ 16 by omega)]; simp) false (by simp)
     ·conv => whnf
      refine Or.inr ?_
      conv => whnf
      repeat (refine ⟨rfl, ?_⟩; conv => whnf)
      refine tail q2' false (by rw [decide_eq_false (show ¬ 0 < k by omega)]; simp) false (by simp)
   ·have q1' : k = D.length := t2 (by omega)
    conv => whnf
    refine Or.inl ⟨InR.i64 (by omega) (by omega), ?_⟩
    conv => whnf
    refine CondP.dec (fun z0 => ?_) (fun z0 => ?_)
    ·conv => whnf
     refine Or.inl ⟨InR.i64 (by omega) (by omega), ?_⟩
     conv => whnf
     refine Or.inr ?_
     conv => whnf
     refine CondP.dec (fun z1 => ?_) (fun z1 => ?_)
     ·conv => whnf
      refine ⟨⟨by omega, by omega⟩, ?_⟩
      conv => whnf
      repeat (refine ⟨rfl, ?_⟩; conv => whnf)
      refine CondP.intro (fun z2 => ?_) (fun z2 => ?_)
      ·have z2' : isLetter (pk (s.drop (a + 2 + k))).1 = false := by rw [Int.toNat_natCast] at z2; simpa only [Bool.not_eq_true'] using z2
       conv => whnf
       refine CondP.dec (fun z3 => ?_) (fun z3 => ?_)
       ·conv => whnf
        repeat (refine ⟨rfl, ?_⟩; conv => whnf)
        refine tail q1' true (by rw [decide_eq_true (show 0 < k by omega), decide_eq_true (show k ≤ 16 by omega)]; rfl) true ?_
        rw [z2', List.drop_eq_nil_of_le (show s.length ≤ a + 2 + k by omega)]; rfl
       ·have z3' : a + 2 + k < s.length := by omega
        have hdg := dig_byte (r := s.drop (a + 2 + k)) (by rw [List.length_drop]; omega)
        rw [getD_drop', Nat.add_zero] at hdg
        conv => whnf
        refine ⟨by omega, by omega, ?_⟩
        conv => whnf
        rw [hbi]
        refine Or.inl ⟨InR.i32 (by omega) (by omega), ?_⟩
        conv => whnf
        repeat (refine ⟨rfl, ?_⟩; conv => whnf)
        refine tail q1' true (by rw [decide_eq_true (show 0 < k by omega), decide_eq_true (show k ≤ 16 by omega)]; rfl) _ ?_
        rw [z2', hdg]; simp
      ·have z2' : isLetter (pk (s.drop (a + 2 + k))).1 = true := by rw [Int.toNat_natCast] at z2; simpa only [Bool.not_eq_false'] using z2
       conv => whnf
       repeat (refine ⟨rfl, ?_⟩; conv => whnf)
       refine tail q1' true (by rw [decide_eq_true (show 0 < k by omega), decide_eq_true (show k ≤ 16 by omega)]; rfl) false ?_
       rw [z2']; rfl
     ·conv => whnf
      repeat (refine ⟨rfl, ?_⟩; conv => whnf)
      refine tail q1' false (by rw [decide_eq_false (show ¬ k ≤ 16 by omega)]; simp) false (by simp)
    ·conv => whnf
     refine Or.inr ?_
     conv => whnf
     repeat (refine ⟨rfl, ?_⟩; conv => whnf)
     refine tail q1' false (by rw [decide_eq_false (show ¬ 0 < k by omega)]; simp) false (by simp)
  ·have hx : isHex r = false := by rw [isHex, Bool.eq_false_iff]; exact fun g => k1 ((pre2 _ _ _).1 g)
   have hDe : D = (s.drop a).takeWhile (digB false) := by rw [hD, numDigits, hx, if_neg (by simp), hr, List.drop_zero]
   have hNl : numLen r = D.length := by rw [numLen, hx, if_neg (by simp), hD, Nat.zero_add]
   have htw : ∀ k, k ≤ D.length → (a + k < s.length → (digB false (s.getD (a + k) 0) = true ↔ k < D.length)) ∧ (s.length ≤ a + k → k = D.length) ∧ (k < D.length → a + k < s.length ∧ D.getD k 0 = s.getD (a + k) 0) := fun k hk => by
    have := tw_at (p := digB false) (s.drop a) k (by rw [← hDe]; exact hk)
    rw [← hDe, getD_drop', List.length_drop] at this
    exact ⟨fun g => this.1 (by omega), fun g => this.2.1 (by omega), fun g => ⟨by have := (this.2.2 g).1; omega, (this.2.2 g).2⟩⟩
   have hDl : a + D.length ≤ s.length := by
    have := takeWhile_le (digB false) (s.drop a); rw [← hDe, List.length_drop] at this; omega
   conv => whnf
   refine ⟨⟨0, 0, true, rfl, rfl, by omega, by omega, by simp [numV], fun _ => by simp [numV]⟩, ?_⟩
   intro vs σ1 hI
   obtain ⟨k, n, ok, rfl, rfl, hk, hn, hok, hnk⟩ := hI
   obtain ⟨t1, t2, t3⟩ := htw k hk
   have hbt := (s.getD (a + k) 0).toNat_lt
   have hbi : (s.getD (((a + k : Nat) : Int)).toNat 0) = s.getD (a + k) 0 := by rw [Int.toNat_natCast]
   have hDne : D ≠ [] := fun g => by
    have hdb : digB false (s.getD a 0) = true := by rw [digB, hd0]; rfl
    have := ((htw 0 (by omega)).1 (by omega)).1 hdb
    rw [g] at this; simp at this
   have tail : k = D.length → ∀ okb : Bool, okb = ok → ∀ X : Bool, X = (okb && !isLetter (pk (s.drop (a + k))).1 && !isDigit (pk (s.drop (a + k))).1) →
     K (.ret (.tuple [.agg [.d (.int .u8 2), .d (.str []), .d (.int .i64 (IntKind.i64.wrap n)), .d (.int .i64 a), .d (.int .i64 (a + k : Nat))], .d (.bool X)])) ⟨[], [], 0⟩ := fun hkD okb hok' X hX => by
    subst hok'
    refine fin (a + k) n okb (by rw [hNl]; omega) (fun g => ?_) (fun g => ?_) X hX
    ·have hv := hnk g
     rw [g] at hok
     rw [hkD, List.take_length] at hv hok
     have hok2 := of_decide_eq_true hok.symm
     rw [hx]
     simp only [Bool.false_eq_true, if_false, false_and, not_false_eq_true, and_true]
     exact ⟨hDne, by omega, hv⟩
    ·rw [g] at hok
     rw [hkD, List.take_length] at hok
     have hok2 := of_decide_eq_false hok.symm
     rw [hx]
     simp only [Bool.false_eq_true, if_false]
     exact .inr (.inl (by omega))
   conv => whnf
   refine CondP.dec (fun q1 => ?_) (fun q1 => ?_)
   ·have q1' : a + k < s.length := by omega
    conv => whnf
    refine ⟨by omega, by omega, ?_⟩
    conv => whnf
    rw [hbi]
    refine Or.inl ⟨InR.i32 (by omega) (by omega), ?_⟩
    have hdB : digB false (s.getD (a + k) 0) = isDigit ((s.getD (a + k) 0).toNat : Int) := by rw [digB]; simp
    conv => whnf
    refine CondP.intro (fun q2 => ?_) (fun q2 => ?_)
    ·have q2' : digB false (s.getD (a + k) 0) = true := hdB.trans q2
     have hlt : k < D.length := (t1 q1').1 q2'
     have hdd := isDigit_iff.1 q2
     obtain ⟨d, hd⟩ : ∃ d : Nat, d = digV (s.getD (a + k) 0) := ⟨_, rfl⟩
     have hdv : ((s.getD (a + k) 0).toNat : Int) - 48 = (d : Int) := by rw [hd, digV, if_pos (by omega)]; omega
     have hv : numV 10 (D.take (k + 1)) = numV 10 (D.take k) * 10 + d := by rw [take_snoc hlt, numV_snoc, (t3 hlt).2, hd]
     have hle := numV_take_le 10 (by omega) (D.take (k + 1)) k
     rw [List.take_take, Nat.min_eq_left (by omega)] at hle
     conv => whnf
     refine ⟨by omega, by omega, ?_⟩
     conv => whnf
     rw [hbi]
     refine Or.inl ⟨InR.u8 (by omega) (by omega), ?_⟩
     conv => whnf
     rw [hdv]
     refine Or.inl ⟨InR.u64 (by omega) (by omega), ?_⟩
     conv => whnf
     refine Or.inl ⟨InR.u64 (by omega) (by omega), ?_⟩
     conv => whnf
     refine ⟨by omega, ?_⟩
     conv => whnf
     have htd : ((9223372036854775807 : Int) - (d : Int)).tdiv 10 = (9223372036854775807 - (d : Int)) / 10 := Int.tdiv_eq_ediv_of_nonneg (by omega)
     rw [htd]
     refine Or.inl ⟨InR.u64 (by omega) (by omega), ?_⟩
     conv => whnf
     have big : ∃ n' : Nat, IntKind.u64.wrap (IntKind.u64.wrap ((n : Int) * 10) + (d : Int)) = n' ∧ n' < 18446744073709551616 := by
      have := wrap_u64 (IntKind.u64.wrap ((n : Int) * 10) + (d : Int))
      exact ⟨(IntKind.u64.wrap (IntKind.u64.wrap ((n : Int) * 10) + (d : Int))).toNat, by omega, by omega⟩
     conv => whnf
     refine CondP.dec (fun z1 => ?_) (fun z1 => ?_)
     ·obtain ⟨n', e1, e2⟩ := big
      have hf : false = decide (numV 10 (D.take (k + 1)) < 9223372036854775808) := by
       symm; apply decide_eq_false
       rw [hv]
       cases ok with
       | true => have := hnk rfl; omega
       | false => have := of_decide_eq_false hok.symm; omega
      conv => whnf
      refine Or.inr ?_
      conv => whnf
      refine Or.inr ?_
      rw [e1]
      conv => whnf
      refine Or.inl ⟨InR.i64 (by omega) (by omega), ?_⟩
      conv => whnf
      exact ⟨⟨k + 1, n', false, rfl, rfl, by omega, e2, hf, fun g => by cases g⟩, (show ((s.length : Int) - (((a + k : Nat) : Int) + 1)).toNat < ((s.length : Int) - ((a + k : Nat) : Int)).toNat by omega)⟩
     ·cases ok with
      | true =>
       have hn1 := hnk rfl
       have hlt1 : n * 10 + d < 9223372036854775808 := by omega
       conv => whnf
       refine Or.inl ⟨InR.u64 (by omega) (by omega), ?_⟩
       conv => whnf
       refine Or.inl ⟨InR.u64 (by omega) (by omega), ?_⟩
       conv => whnf
       refine Or.inl ⟨InR.i64 (by omega) (by omega), ?_⟩
       conv => whnf
       exact ⟨⟨k + 1, n * 10 + d, true, rfl, rfl, by omega, by omega, by rw [hv, ← hn1]; exact (decide_eq_true hlt1).symm, fun _ => by rw [hv, hn1]⟩, (show ((s.length : Int) - (((a + k : Nat) : Int) + 1)).toNat < ((s.length : Int) - ((a + k : Nat) : Int)).toNat by omega)⟩
      | false =>
       obtain ⟨n', e1, e2⟩ := big
       have hf : false = decide (numV 10 (D.take (k + 1)) < 9223372036854775808) := by
        symm; apply decide_eq_false
        have := of_decide_eq_false hok.symm; omega
       conv => whnf
       refine Or.inr ?_
       conv => whnf
       refine Or.inr ?_
       rw [e1]
       conv => whnf
       refine Or.inl ⟨InR.i64 (by omega) (by omega), ?_⟩
       conv => whnf
       exact ⟨⟨k + 1, n', false, rfl, rfl, by omega, e2, hf, fun g => by cases g⟩, (show ((s.length : Int) - (((a + k : Nat) : Int) + 1)).toNat < ((s.length : Int) - ((a + k : Nat) : Int)).toNat by omega)⟩
    ·have q2' : k = D.length := by
      have : ¬ k < D.length := fun g => by have := (t1 q1').2 g; rw [hdB, q2] at this; cases this
      omega
     conv => whnf
     refine Or.inr ?_
     conv => whnf
     cases ok with
     | true =>
      conv => whnf
      refine ⟨⟨by omega, by omega⟩, ?_⟩
      conv => whnf
      repeat (refine ⟨rfl, ?_⟩; conv => whnf)
      refine CondP.intro (fun z2 => ?_) (fun z2 => ?_)
      ·have z2' : isLetter (pk (s.drop (a + k))).1 = false := by rw [Int.toNat_natCast] at z2; simpa only [Bool.not_eq_true'] using z2
       conv => whnf
       refine CondP.dec (fun z3 => ?_) (fun z3 => ?_)
       ·conv => whnf
        repeat (refine ⟨rfl, ?_⟩; conv => whnf)
        refine tail q2' true rfl true ?_
        rw [z2', List.drop_eq_nil_of_le (show s.length ≤ a + k by omega)]; rfl
       ·have z3' : a + k < s.length := by omega
        have hdg := dig_byte (r := s.drop (a + k)) (by rw [List.length_drop]; omega)
        rw [getD_drop', Nat.add_zero] at hdg
        conv => whnf
        refine ⟨by omega, by omega, ?_⟩
        conv => whnf
        rw [hbi]
        refine Or.inl ⟨InR.i32 (by omega) (by omega), ?_⟩
        conv => whnf
        repeat (refine ⟨rfl, ?_⟩; conv => whnf)
        refine tail q2' true rfl _ ?_
        rw [z2', hdg]; simp
      ·have z2' : isLetter (pk (s.drop (a + k))).1 = true := by rw [Int.toNat_natCast] at z2; simpa only [Bool.not_eq_false'] using z2
       conv => whnf
       repeat (refine ⟨rfl, ?_⟩; conv => whnf)
       refine tail q2' true rfl false ?_
       rw [z2']; rfl
     | false =>
      conv => whnf
      repeat (refine ⟨rfl, ?_⟩; conv => whnf)
      refine tail q2' false rfl false (by simp)
   ·have q1' : k = D.length := t2 (by omega)
    conv => whnf
    refine Or.inr ?_
    conv => whnf
    cases ok with
    | true =>
     conv => whnf
     refine ⟨⟨by omega, by omega⟩, ?_⟩
     conv => whnf
     repeat (refine ⟨rfl, ?_⟩; conv => whnf)
     refine CondP.intro (fun z2 => ?_) (fun z2 => ?_)
     ·have z2' : isLetter (pk (s.drop (a + k))).1 = false := by rw [Int.toNat_natCast] at z2; simpa only [Bool.not_eq_true'] using z2
      conv => whnf
      refine CondP.dec (fun z3 => ?_) (fun z3 => ?_)
      ·conv => whnf
       repeat (refine ⟨rfl, ?_⟩; conv => whnf)
       refine tail q1' true rfl true ?_
       rw [z2', List.drop_eq_nil_of_le (show s.length ≤ a + k by omega)]; rfl
      ·have z3' : a + k < s.length := by omega
       have hdg := dig_byte (r := s.drop (a + k)) (by rw [List.length_drop]; omega)
       rw [getD_drop', Nat.add_zero] at hdg
       conv => whnf
       refine ⟨by omega, by omega, ?_⟩
       conv => whnf
       rw [hbi]
       refine Or.inl ⟨InR.i32 (by omega) (by omega), ?_⟩
       conv => whnf
       repeat (refine ⟨rfl, ?_⟩; conv => whnf)
       refine tail q1' true rfl _ ?_
       rw [z2', hdg]; simp
     ·have z2' : isLetter (pk (s.drop (a + k))).1 = true := by rw [Int.toNat_natCast] at z2; simpa only [Bool.not_eq_false'] using z2
      conv => whnf
      repeat (refine ⟨rfl, ?_⟩; conv => whnf)
      refine tail q1' true rfl false ?_
      rw [z2']; rfl
    | false =>
     conv => whnf
     repeat (refine ⟨rfl, ?_⟩; conv => whnf)
     refine tail q1' false rfl false (by simp)
 ·exact h.elim
end Go.PM.Lex
end

section
set_option maxRecDepth 100000
set_option maxHeartbeats 4000000
namespace Go.PM.Lex
open Go.Proofs
variable {w0 : World} {nG : Nat}
theorem dec_pk {r : Bs} (hr : r ≠ []) {c : Nat} (hc : c < 65533) : (Lib.decodeL r).1 = c ↔ (pk r).1 = (c : Int) := by
 unfold pk
 by_cases hv : Lib.decodeL r = (65533, 1)
 ·rw [if_pos (.inr hv), hv]; simp only; omega
 ·rw [if_neg (by simp only [not_or]; exact ⟨hr, hv⟩)]; simp only; omega
theorem pk_dec {r : Bs} (h : (pk r).1 ≠ -1) : r ≠ [] ∧ pk r = (((Lib.decodeL r).1 : Int), (Lib.decodeL r).2) ∧ Lib.encodeRune ((Lib.decodeL r).1 : Int) = r.take (Lib.decodeL r).2 := by
 by_cases hr : r = []
 ·rw [hr] at h; simp [pk] at h
 ·by_cases hv : Lib.decodeL r = (65533, 1)
  ·unfold pk at h; rw [if_pos (.inr hv)] at h; simp at h
  ·refine ⟨hr, by unfold pk; rw [if_neg (by simp only [not_or]; exact ⟨hr, hv⟩)], Lib.encode_decode r hr fun g => hv (Prod.ext g.1 g.2)⟩
theorem text_quote {f : Nat} {r out : Bs} {p : Nat} (hc : (pk r).1 = 34) : textGo (f + 1) r false out p = .ok out (p + 1) := by
 have hr : r ≠ [] := (pk_dec (by omega)).1
 have h1 := (dec_pk hr (c := 34) (by omega)).2 hc
 rw [textGo, if_neg hr, if_neg (by simp), if_pos h1]
theorem text_low {f : Nat} {r out : Bs} {p : Nat} (hr : r ≠ []) (h1 : (pk r).1 ≠ 34) (h2 : (pk r).1 ≠ 92) (hc : (pk r).1 < 32) : textGo (f + 1) r false out p = .err p := by
 rw [textGo, if_neg hr, if_neg (by simp), if_neg (fun g => h1 ((dec_pk hr (c := 34) (by omega)).1 g)), if_neg (fun g => h2 ((dec_pk hr (c := 92) (by omega)).1 g)), if_pos hc]
theorem text_on {f : Nat} {r out : Bs} {p : Nat} (h1 : (pk r).1 ≠ 34) (h2 : (pk r).1 ≠ 92) (hc : ¬ (pk r).1 < 32) : textGo (f + 1) r false out p = textGo f (r.drop (pk r).2) false (out ++ r.take (pk r).2) (p + (pk r).2) := by
 obtain ⟨hr, he, henc⟩ := pk_dec (show (pk r).1 ≠ -1 by omega)
 rw [textGo, if_neg hr, if_neg (by simp), if_neg (fun g => h1 ((dec_pk hr (c := 34) (by omega)).1 g)), if_neg (fun g => h2 ((dec_pk hr (c := 92) (by omega)).1 g)), if_neg hc, henc]
 rw [he]
theorem text_esc {f : Nat} {r out : Bs} {p : Nat} (hc : (pk r).1 = 92) : textGo (f + 1) r false out p = textGo f (r.drop 1) true out (p + 1) := by
 have hr : r ≠ [] := (pk_dec (by omega)).1
 have h1 := (dec_pk hr (c := 92) (by omega)).2 hc
 have h2 := (pk_low r (by omega) (by omega)).2.2
 have h3 := (pk_dec (show (pk r).1 ≠ -1 by omega)).2.1
 rw [h3] at h2
 simp only at h2
 rw [textGo, if_neg hr, if_neg (by simp), if_neg (by omega), if_pos h1, h2]
theorem text_end (f : Nat) (e : Bool) (out : Bs) (p : Nat) : textGo f [] e out p = .err 0 := by
 cases f <;> simp [textGo]
theorem text_escd {f : Nat} {b : UInt8} {l out : Bs} {p : Nat} : textGo (f + 1) (b :: l) true out p = match escB b.toNat with
  | none => .err (p - 1)
  | some x => textGo f l false (out ++ [x]) (p + 1) := by
 have hr : b :: l ≠ [] := by simp
 have key : ∀ c : Nat, c < 128 → ((Lib.decodeL (b :: l)).1 = c ↔ b.toNat = c) := fun c hc => by
  rw [dec_pk hr (by omega), pk_byte (by simp) (by omega) (by omega)]
  simp only [List.getD_cons_zero]; omega
 have sz : b.toNat < 128 → (Lib.decodeL (b :: l)).2 = 1 := fun h => by
  have h1 := (pk_byte (r := b :: l) (c := b.toNat) (by simp) (by omega) (by omega)).2 (by simp)
  have h2 := (pk_low (b :: l) (by omega) (by omega)).2.2
  have h3 := (pk_dec (r := b :: l) (by omega)).2.1
  rw [h3] at h2; exact h2
 have he : escB (Lib.decodeL (b :: l)).1 = escB b.toNat := by
  unfold escB
  simp only [key 110 (by omega), key 116 (by omega), key 34 (by omega), key 92 (by omega)]
 rw [textGo, if_neg hr, if_pos rfl, he]
 cases hx : escB b.toNat with
 | none => rfl
 | some x =>
  have : b.toNat < 128 := by
   unfold escB at hx
   (repeat' split at hx) <;> first | omega | cases hx
  rw [sz this]; rfl
noncomputable def spTextR : Spec := fun args σ K => match args, σ with
 | [.d (.str s), .d (.int .i64 a)], ⟨[], [], 0⟩ => (0 ≤ a ∧ a < s.length ∧ s.length < 4294967281) ∧
   (match textF (s.drop a.toNat) with
    | .ok t l => K (.ret (.tuple [tokPV 3 t 0 a (a + l), .d (.int .i64 (-1))])) ⟨[], [], 0⟩
    | .err p => K (.ret (.tuple [tokPV 0 [] 0 0 0, .d (.int .i64 (a + p))])) ⟨[], [], 0⟩)
 | _, _ => False
theorem spTextR_mono : SpecMono spTextR := fun args σ K K' hK h => by
 unfold spTextR at h ⊢; split at h
 ·refine ⟨h.1, ?_⟩
  have h := h.2
  split at h <;> exact hK _ _ h
 ·exact h.elim
noncomputable def tblTextR : Tbl := [(202, spRune)]
theorem textR_ok : PCalls (GG w0 nG) 179 spTextR := by
 refine pcallsN tab_ok mixed (tbl := tblTextR) ⟨⟨rune_ok, spRune_mono⟩, trivial⟩ Tryz.func179 rfl (by kernel_rfl) (by kernel_rfl) ?_
 intro args σ K h
 unfold spTextR at h
 split at h
 ·rename_i s a
  obtain ⟨⟨h0, h1, hs⟩, h⟩ := h
  obtain ⟨a, rfl⟩ : ∃ n : Nat, a = n := ⟨a.toNat, by omega⟩
  simp only [Int.toNat_natCast] at h
  refine ⟨loopsOf [(3, ⟨[6, 7], [0, 1, 4], fun vs σ => ∃ (out : Bs) (i f : Nat), vs = [.sl 0 5 (bytesR out), .d (.int .i64 i)] ∧ σ = ⟨[.cells 40 [.d (.int .u8 0), .d (.str []), .d (.int .i64 0), .d (.int .i64 0), .d (.int .i64 0)]], [0], 1⟩ ∧ (a + 1 ≤ i ∧ i ≤ s.length ∧ s.length < i + f ∧ out.length ≤ i) ∧ textGo f (s.drop i) false out (i - a) = textF (s.drop a), fun vs _ => match vs with | [_, .d (.int _ n)] => ((s.length : Int) - n).toNat | _ => 0⟩)], unrOf [], tieOf [], 0, false, by simp, Nat.le_of_ble_eq_true rfl, ?_⟩
  conv => whnf
  refine Or.inl ⟨InR.i64 (by omega) (by omega), ?_⟩
  conv => whnf
  refine ⟨⟨[], a + 1, (s.drop a).length + 1, rfl, rfl, ⟨by omega, by omega, by rw [List.length_drop]; omega, by simp⟩, ?_⟩, ?_⟩
  ·rw [textF, List.drop_drop, show a + 1 - a = 1 by omega]
  intro vs σ1 hI
  obtain ⟨out, i, f, rfl, rfl, ⟨hi0, hi1, hi2, hol⟩, hgo⟩ := hI
  obtain ⟨f, rfl⟩ : ∃ g, f = g + 1 := ⟨f - 1, by omega⟩
  have hbl := bytesR_len out
  have hpl := pk_len (s.drop i)
  have hpr := pk_rng (s.drop i)
  have hple := pk_le (s.drop i)
  have hok : ∀ t l, textF (s.drop a) = .ok t l → K (.ret (.tuple [tokPV 3 t 0 a (a + l), .d (.int .i64 (-1))])) ⟨[], [], 0⟩ := fun t l g => by rw [g] at h; exact h
  have herr : ∀ p, textF (s.drop a) = .err p → K (.ret (.tuple [tokPV 0 [] 0 0 0, .d (.int .i64 (a + p))])) ⟨[], [], 0⟩ := fun p g => by rw [g] at h; exact h
  have herr0 : textF (s.drop a) = .err 0 → K (.ret (.tuple [tokPV 0 [] 0 0 0, .d (.int .i64 a)])) ⟨[], [], 0⟩ := fun g => by have := herr 0 g; rw [show (a : Int) + ((0 : Nat) : Int) = a by omega] at this; exact this
  have herrI : textF (s.drop a) = .err (i - a) → K (.ret (.tuple [tokPV 0 [] 0 0 0, .d (.int .i64 i)])) ⟨[], [], 0⟩ := fun g => by have := herr _ g; rw [show (a : Int) + ((i - a : Nat) : Int) = i by omega] at this; exact this
  conv => whnf
  refine CondP.dec (fun h2 => ?_) (fun h2 => ?_)
  ·have h2' : i < s.length := by omega
   have hdh := drop_head h2'
   have hne : s.drop i ≠ [] := by rw [hdh]; simp
   conv => whnf
   refine ⟨⟨by omega, by omega, hs⟩, ?_⟩
   conv => whnf
   generalize hc0 : (pk (s.drop ((i : Int)).toNat)).1 = c
   have hc : (pk (s.drop i)).1 = c := hc0
   have hp2 : c ≠ -1 → i + (pk (s.drop i)).2 ≤ s.length := fun g => by
    have := (hple (by rw [hc]; exact g)).2.1
    rw [List.length_drop] at this; omega
   conv => whnf
   refine CondP.dec (fun h3 => ?_) (fun h3 => ?_)
   ·have g1 := text_quote (f := f) (out := out) (p := i - a) (r := s.drop i) (by rw [hc]; exact h3)
    rw [hgo] at g1
    conv => whnf
    refine ⟨out, rfl, ?_⟩
    conv => whnf
    refine Or.inl ⟨InR.i64 (by omega) (by omega), ?_⟩
    conv => whnf
    have := hok _ _ g1
    rw [show (a : Int) + ((i - a + 1 : Nat) : Int) = (i : Int) + 1 by omega] at this
    exact this
   ·conv => whnf
    refine CondP.dec (fun h4 => ?_) (fun h4 => ?_)
    ·have g1 := text_esc (f := f) (out := out) (p := i - a) (r := s.drop i) (by rw [hc]; exact h4)
     rw [hgo, List.drop_drop] at g1
     conv => whnf
     refine Or.inl ⟨InR.i64 (by omega) (by omega), ?_⟩
     conv => whnf
     refine CondP.dec (fun h5 => ?_) (fun h5 => ?_)
     ·conv => whnf
      exact herr0 (by rw [g1, List.drop_eq_nil_of_le (by omega), text_end])
     ·have h5' : i + 1 < s.length := by omega
      obtain ⟨f, rfl⟩ : ∃ g, f = g + 1 := ⟨f - 1, by omega⟩
      rw [drop_head h5', text_escd] at g1
      obtain ⟨b, hb⟩ : ∃ b, b = s.getD (i + 1) 0 := ⟨_, rfl⟩
      have hbt := b.toNat_lt
      have hbi : s.getD (((i : Int) + 1)).toNat 0 = b := by rw [hb]; congr 1
      rw [← hb] at g1
      have on : ∀ x : UInt8, escB b.toNat = some x → ∃ out' : Bs, bytesR out ++ [[.int .u8 (x.toNat : Int)]] = bytesR out' ∧ (a + 1 ≤ i + 2 ∧ i + 2 ≤ s.length ∧ s.length < i + 2 + f ∧ out'.length ≤ i + 2) ∧ textGo f (s.drop (i + 2)) false out' (i + 2 - a) = textF (s.drop a) := fun x hx => by
       refine ⟨out ++ [x], (bytesR_snoc _ _).symm, ⟨by omega, by omega, by omega, by simp; omega⟩, ?_⟩
       rw [g1, hx]
       simp only
       rw [show i - a + 1 + 1 = i + 2 - a by omega]
      conv => whnf
      refine Or.inl ⟨InR.i64 (by omega) (by omega), ?_⟩
      conv => whnf
      refine ⟨by omega, by omega, ?_⟩
      conv => whnf
      rw [hbi]
      have q : ∀ n : Nat, (b.toNat : Int) = n → b.toNat = n := fun n g => by omega
      conv => whnf
      refine CondP.dec (fun k1 => ?_) (fun k1 => ?_)
      ·have k1' := q 110 k1
       conv => whnf
       refine ⟨fun r hr => by (simp at hr; rcases hr with rfl <;> rfl), (show ((bytesR out).length + 1) * 1 ≤ 2 ^ 47 by omega), (show (bytesR out).length + 1 ≤ 2 ^ 47 by omega), ?_⟩
       conv => whnf
       refine Or.inl ⟨InR.i64 (by omega) (by omega), ?_⟩
       conv => whnf
       obtain ⟨out', e1, e2, e3⟩ := on 10 (by rw [k1']; rfl)
       refine ⟨⟨out', i + 2, f, ?_, rfl, e2, e3⟩, (show ((s.length : Int) - ((i : Int) + 2)).toNat < ((s.length : Int) - (i : Int)).toNat by omega)⟩
       rw [← e1]; rfl
      conv => whnf
      refine CondP.dec (fun k2 => ?_) (fun k2 => ?_)
      ·have k2' := q 116 k2
       conv => whnf
       refine ⟨fun r hr => by (simp at hr; rcases hr with rfl <;> rfl), (show ((bytesR out).length + 1) * 1 ≤ 2 ^ 47 by omega), (show (bytesR out).length + 1 ≤ 2 ^ 47 by omega), ?_⟩
       conv => whnf
       refine Or.inl ⟨InR.i64 (by omega) (by omega), ?_⟩
       conv => whnf
       obtain ⟨out', e1, e2, e3⟩ := on 9 (by rw [k2']; rfl)
       refine ⟨⟨out', i + 2, f, ?_, rfl, e2, e3⟩, (show ((s.length : Int) - ((i : Int) + 2)).toNat < ((s.length : Int) - (i : Int)).toNat by omega)⟩
       rw [← e1]; rfl
      conv => whnf
      refine CondP.dec (fun k3 => ?_) (fun k3 => ?_)
      ·have k3' := q 34 k3
       conv => whnf
       refine CondP.dec (fun _ => ?_) (fun g => absurd k3 g)
       conv => whnf
       refine Or.inl ⟨InR.i64 (by omega) (by omega), ?_⟩
       conv => whnf
       refine ⟨by omega, by omega, ?_⟩
       conv => whnf
       rw [hbi]
       refine ⟨fun r hr => by (simp at hr; rcases hr with rfl <;> rfl), (show ((bytesR out).length + 1) * 1 ≤ 2 ^ 47 by omega), (show (bytesR out).length + 1 ≤ 2 ^ 47 by omega), ?_⟩
       conv => whnf
       refine Or.inl ⟨InR.i64 (by omega) (by omega), ?_⟩
       conv => whnf
       obtain ⟨out', e1, e2, e3⟩ := on 34 (by rw [k3']; rfl)
       refine ⟨⟨out', i + 2, f, ?_, rfl, e2, e3⟩, (show ((s.length : Int) - ((i : Int) + 2)).toNat < ((s.length : Int) - (i : Int)).toNat by omega)⟩
       rw [← e1, k3']; rfl
      conv => whnf
      refine CondP.dec (fun k4 => ?_) (fun k4 => ?_)
      ·have k4' := q 92 k4
       conv => whnf
       refine Or.inl ⟨InR.i64 (by omega) (by omega), ?_⟩
       conv => whnf
       refine ⟨by omega, by omega, ?_⟩
       conv => whnf
       rw [hbi]
       refine ⟨fun r hr => by (simp at hr; rcases hr with rfl <;> rfl), (show ((bytesR out).length + 1) * 1 ≤ 2 ^ 47 by omega), (show (bytesR out).length + 1 ≤ 2 ^ 47 by omega), ?_⟩
       conv => whnf
       refine Or.inl ⟨InR.i64 (by omega) (by omega), ?_⟩
       conv => whnf
       obtain ⟨out', e1, e2, e3⟩ := on 92 (by rw [k4']; rfl)
       refine ⟨⟨out', i + 2, f, ?_, rfl, e2, e3⟩, (show ((s.length : Int) - ((i : Int) + 2)).toNat < ((s.length : Int) - (i : Int)).toNat by omega)⟩
       rw [← e1, k4']; rfl
      have hnone : escB b.toNat = none := by
       unfold escB
       rw [if_neg (fun g => k1 (by omega)), if_neg (fun g => k2 (by omega)), if_neg (fun g => k3 (by omega)), if_neg (fun g => k4 (by omega))]
      rw [hnone] at g1
      conv => whnf
      exact herrI (by rw [g1]; simp)
    ·conv => whnf
     refine CondP.dec (fun h5 => ?_) (fun h5 => ?_)
     ·have g1 := text_low (f := f) (out := out) (p := i - a) hne (by rw [hc]; exact h3) (by rw [hc]; exact h4) (by rw [hc]; exact h5)
      rw [hgo] at g1
      conv => whnf
      exact herrI g1
     ·have g1 := text_on (f := f) (out := out) (p := i - a) (r := s.drop i) (by rw [hc]; exact h3) (by rw [hc]; exact h4) (by rw [hc]; exact h5)
      rw [hgo, List.drop_drop] at g1
      have g3 := hp2 (by omega)
      have ec : cut s ((i : Int)).toNat ((i : Int) + ((pk (s.drop ((i : Int)).toNat)).2 : Int)).toNat = (s.drop i).take (pk (s.drop i)).2 := by
       rw [cut_mid]; congr 1; simp only [Int.toNat_natCast]; omega
      have htl : ((s.drop i).take (pk (s.drop i)).2).length = (pk (s.drop i)).2 := by rw [List.length_take, List.length_drop]; omega
      conv => whnf
      refine Or.inl ⟨InR.i64 (by simp only [Int.toNat_natCast]; omega) (by simp only [Int.toNat_natCast]; omega), ?_⟩
      conv => whnf
      refine ⟨by omega, by simp only [Int.toNat_natCast]; omega, by simp only [Int.toNat_natCast]; omega, ?_⟩
      conv => whnf
      rw [ec]
      refine ⟨fun r hr => bytesR_one _ r hr, (show ((bytesR out).length + (bytesR ((s.drop i).take (pk (s.drop i)).2)).length) * 1 ≤ 2 ^ 47 by rw [bytesR_len, bytesR_len]; omega), (show (bytesR out).length + (bytesR ((s.drop i).take (pk (s.drop i)).2)).length ≤ 2 ^ 47 by rw [bytesR_len, bytesR_len]; omega), ?_⟩
      conv => whnf
      refine Or.inl ⟨InR.i64 (by simp only [Int.toNat_natCast]; omega) (by simp only [Int.toNat_natCast]; omega), ?_⟩
      conv => whnf
      refine ⟨⟨out ++ (s.drop i).take (pk (s.drop i)).2, i + (pk (s.drop i)).2, f, ?_, rfl, ⟨by omega, g3, by omega, by rw [List.length_append]; omega⟩, ?_⟩, ?_⟩
      ·rw [bytesR_app]; rfl
      ·rw [g1]; congr 1; omega
      ·exact (show ((s.length : Int) - ((i : Int) + ((pk (s.drop i)).2 : Int))).toNat < ((s.length : Int) - (i : Int)).toNat by omega)
  ·have g1 : textF (s.drop a) = .err 0 := by rw [← hgo, List.drop_eq_nil_of_le (by omega), text_end]
   conv => whnf
   exact herr0 g1
 ·exact h.elim
end Go.PM.Lex
end

section
set_option maxRecDepth 100000
set_option maxHeartbeats 4000000
namespace Go.PM.Lex
open Go.Proofs
variable {w0 : World} {nG : Nat}
theorem ones_none : ∀ b ∈ ones, b.toNat < 128 ∧ isLetter (b.toNat : Int) = false ∧ isDigit (b.toNat : Int) = false ∧ b.toNat ≠ 34 := by decide
theorem sign_head {r : Bs} (h : signF r ≠ 0) : r.getD 0 0 ∈ ones := by
 unfold signF at h
 split at h
 ·rename_i g
  simp only [twos, List.any_cons, List.any_nil, Bool.or_eq_true, Bool.false_eq_true, or_false] at g
  rcases g with g | g | g | g | g <;> (rw [(hasPrefix_two g).2, List.getD_cons_zero]; decide)
 ·split at h
  ·rename_i g; exact List.contains_iff_mem.1 g
  ·exact absurd rfl h
theorem sign_zero {r : Bs} (h0 : 0 < r.length) (h : isLetter (pk r).1 = true ∨ isDigit (pk r).1 = true ∨ (pk r).1 = 34) : signF r = 0 := by
 by_cases hs : signF r = 0
 ·exact hs
 ·obtain ⟨g1, g2, g3, g4⟩ := ones_none _ (sign_head hs)
  have := (pk_byte (c := (r.getD 0 0).toNat) h0 (by omega) (by omega)).2 rfl
  rw [this, g2, g3] at h
  rcases h with h | h | h
  ·cases h
  ·cases h
  ·exact absurd h (by omega)
theorem letter_not {c : Int} (h : isLetter c = true) : isDigit c = false ∧ c ≠ 34 := by
 rw [isLetter_iff] at h
 refine ⟨?_, by omega⟩
 rw [Bool.eq_false_iff]; intro g; rw [isDigit_iff] at g; omega
theorem n_letter {a : Nat} {r : Bs} (h0 : 0 < r.length) (h : isLetter (pk r).1 = true) : nextF a r true = .tok ⟨1, r.take (nameF r), 0, a, a + nameF r⟩ := by
 obtain ⟨h1, h2⟩ := letter_not h
 have hs := sign_zero h0 (.inl h)
 simp only [nextF, hs, h, h1, h2]
 simp
theorem n_digit {a : Nat} {r : Bs} (h0 : 0 < r.length) (h : isDigit (pk r).1 = true) : nextF a r true = numberR a r := by
 have hs := sign_zero h0 (.inr (.inl h))
 have h2 : (pk r).1 ≠ 34 := by rw [isDigit_iff] at h; omega
 simp only [nextF, hs, h, h2]
 simp
theorem n_quote {a : Nat} {r : Bs} (h0 : 0 < r.length) (h : (pk r).1 = 34) : nextF a r true = textR a r := by
 have hs := sign_zero h0 (.inr (.inr h))
 simp only [nextF, hs, h]
 simp
theorem n_sign {a : Nat} {r : Bs} (h : 0 < signF r) : nextF a r true = .tok ⟨4, r.take (signF r), 0, a, a + signF r⟩ := by
 simp only [nextF]
 rw [if_neg (by omega), if_neg (by simp), if_pos h]
theorem n_none {a : Nat} {r : Bs} {room : Bool} (h : begF r = false) : nextF a r room = .bad a 140 := by
 simp only [begF, Bool.or_eq_false_iff, decide_eq_false_iff_not] at h
 obtain ⟨⟨⟨h1, h2⟩, h3⟩, h4⟩ := h
 simp only [nextF]
 rw [if_pos ⟨by omega, h3, h1, h2⟩]
theorem n_room {a : Nat} {r : Bs} (h : begF r = true) : nextF a r false = .bad a 3 := by
 have hn : ¬ (signF r = 0 ∧ (pk r).1 ≠ 34 ∧ isLetter (pk r).1 = false ∧ isDigit (pk r).1 = false) := by
  rintro ⟨g1, g2, g3, g4⟩
  simp only [begF, g1, g3, g4, g2] at h
  simp at h
 simp only [nextF]
 rw [if_neg hn]
 simp
noncomputable def spOneR : Spec := fun args σ K => match args, σ with
 | [.d (.str s), .d (.int .i64 a)], ⟨[], [], 0⟩ => (0 ≤ a ∧ a < s.length ∧ s.length < 4294967281 ∧ begF (s.drop a.toNat) = true) ∧
   (match nextF a.toNat (s.drop a.toNat) true with
    | .tok t => K (.ret (.tuple [tokPV t.kind t.text t.n t.at' t.fin, .d (.int .i64 0), .d (.int .i64 0)])) ⟨[], [], 0⟩
    | .bad p e => K (.ret (.tuple [tokPV 0 [] 0 0 0, .d (.int .i64 p), .d (.int .i64 e)])) ⟨[], [], 0⟩)
 | _, _ => False
theorem spOneR_mono : SpecMono spOneR := fun args σ K K' hK h => by
 unfold spOneR at h ⊢; split at h
 ·refine ⟨h.1, ?_⟩
  have h := h.2
  split at h <;> exact hK _ _ h
 ·exact h.elim
noncomputable def tblOneR : Tbl := [(174, spLetAt), (177, spNameR), (175, spDigit), (178, spNumR), (179, spTextR), (176, spSignR)]
theorem oneR_ok : PCalls (GG w0 nG) 99 spOneR := by
 refine pcallsN tab_ok mixed (tbl := tblOneR) ⟨⟨letAt_ok, spLetAt_mono⟩, ⟨nameR_ok, spNameR_mono⟩, ⟨digitR_ok, spDigit_mono⟩, ⟨numR_ok, spNumR_mono⟩, ⟨textR_ok, spTextR_mono⟩, ⟨signR_ok, spSignR_mono⟩, trivial⟩ Tryz.func99 rfl (by kernel_rfl) (by kernel_rfl) ?_
 intro args σ K h
 unfold spOneR at h
 split at h
 ·rename_i s a
  obtain ⟨⟨h0, h1, hs, hb⟩, h⟩ := h
  obtain ⟨a, rfl⟩ : ∃ n : Nat, a = n := ⟨a.toNat, by omega⟩
  simp only [Int.toNat_natCast] at h hb
  have hr0 : 0 < (s.drop a).length := by rw [List.length_drop]; omega
  have hdg := dig_byte hr0
  have h34 := pk_byte hr0 (c := 34) (by omega) (by omega)
  rw [Lib.getD_dropU, Nat.add_zero] at hdg h34
  have hbt := (s.getD a 0).toNat_lt
  have hbi : s.getD ((a : Int)).toNat 0 = s.getD a 0 := by rw [Int.toNat_natCast]
  refine ⟨loopsOf [], unrOf [], tieOf [], 0, false, by decide, Nat.le_of_ble_eq_true rfl, ?_⟩
  conv => whnf
  refine ⟨⟨h0, hs⟩, ?_⟩
  conv => whnf
  refine CondP.intro (fun h2 => ?_) (fun h2 => ?_)
  ·have h2' : isLetter (pk (s.drop a)).1 = true := h2
   rw [n_letter hr0 h2'] at h
   conv => whnf
   refine ⟨⟨h0, by omega, hs, h2'⟩, ?_⟩
   conv => whnf
   have e1 : cut s ((a : Int)).toNat (((a : Int)).toNat + nameF (s.drop ((a : Int)).toNat)) = (s.drop a).take (nameF (s.drop a)) := by rw [cut_mid]; congr 1; simp only [Int.toNat_natCast]; omega
   rw [e1]
   simp only [Int.natCast_add] at h
   exact h
  ·have h2' : isLetter (pk (s.drop a)).1 = false := h2
   conv => whnf
   refine ⟨h0, h1, ?_⟩
   conv => whnf
   rw [hbi]
   refine Or.inl ⟨InR.i32 (by omega) (by omega), ?_⟩
   conv => whnf
   refine CondP.intro (fun h3 => ?_) (fun h3 => ?_)
   ·have h3' : isDigit (pk (s.drop a)).1 = true := hdg.trans h3
    rw [n_digit hr0 h3', numberR] at h
    conv => whnf
    refine ⟨⟨h0, h1, hs, h3⟩, fun n hn => ?_, fun hn n e => ?_⟩
    ·rw [show numberF (s.drop a) = some n from hn] at h
     conv => whnf
     simp only [Int.natCast_add] at h
     exact h
    ·rw [show numberF (s.drop a) = none from hn] at h
     conv => whnf
     exact h
   ·have h3' : isDigit (pk (s.drop a)).1 = false := hdg.trans h3
    conv => whnf
    refine ⟨h0, h1, ?_⟩
    conv => whnf
    rw [hbi]
    conv => whnf
    refine CondP.dec (fun h4 => ?_) (fun h4 => ?_)
    ·have h4' := h34.2 h4
     rw [n_quote hr0 h4', textR] at h
     conv => whnf
     refine ⟨⟨h0, h1, hs⟩, ?_⟩
     rw [Int.toNat_natCast]
     cases hT : textF (s.drop a) with
     | ok t l =>
      rw [hT] at h
      conv => whnf
      simp only [Int.natCast_add] at h
      exact h
     | err p =>
      rw [hT] at h
      conv => whnf
      simp only [Int.natCast_add] at h
      exact h
    ·have hsg : 0 < signF (s.drop a) := by
      rw [begF, h2', h3', decide_eq_false (fun g => h4 (h34.1 g))] at hb
      simpa using hb
     have hsb : signF (s.drop a) ≤ (s.drop a).length := by
      have := nextF_tok (a := a) hr0 (n_sign (a := a) hsg)
      simp only at this; omega
     have hsl : ((s.drop a).take (signF (s.drop a))).length = signF (s.drop a) := by
      rw [List.length_take]; omega
     rw [List.length_drop] at hsb
     rw [n_sign hsg] at h
     conv => whnf
     refine ⟨⟨h0, h1, hs⟩, ?_⟩
     conv => whnf
     refine Or.inl ⟨InR.i64 (by simp only [Int.toNat_natCast, hsl]; omega) (by simp only [Int.toNat_natCast, hsl]; omega), ?_⟩
     conv => whnf
     simp only [Int.toNat_natCast, hsl]
     simp only [Int.natCast_add] at h
     exact h
 ·exact h.elim
noncomputable def spAllR : Spec := fun args σ K => match args, σ with
 | [.d (.str s), .d (.int .i64 m)], ⟨[], [], 0⟩ => s.length < 4294967281 ∧
   K (.ret (.tuple [.d (.sl (toksR (allF s m).1)), .d (.int .i64 (allF s m).2.1), .d (.int .i64 (allF s m).2.2)])) ⟨[], [], 0⟩
 | _, _ => False
theorem spAllR_mono : SpecMono spAllR := fun args σ K K' hK h => by
 unfold spAllR at h ⊢; split at h <;> first | exact ⟨h.1, hK _ _ h.2⟩ | exact h.elim
noncomputable def tblAllR : Tbl := [(97, spBlankR), (98, spBegR), (99, spOneR)]
theorem allR_ok : PCalls (GG w0 nG) 41 spAllR := by
 refine pcallsN tab_ok mixed (tbl := tblAllR) ⟨⟨blankR_ok, spBlankR_mono⟩, ⟨begR_ok, spBegR_mono⟩, ⟨oneR_ok, spOneR_mono⟩, trivial⟩ Tryz.func41 rfl (by kernel_rfl) (by kernel_rfl) ?_
 intro args σ K h
 unfold spAllR at h
 split at h
 ·rename_i s m
  obtain ⟨hs, h⟩ := h
  refine ⟨loopsOf [(3, ⟨[7, 8], [0, 1], fun vs σ => ∃ (l : List Tok) (e f : Nat), vs = [.sl 0 40 (toksR l), .d (.int .i64 e)] ∧ σ = ⟨[], [0], 1⟩ ∧
   (e ≤ s.length ∧ s.length < e + f ∧ l.length ≤ e) ∧ allF s m = (l ++ (allGo f (m - l.length) e (s.drop e)).1, (allGo f (m - l.length) e (s.drop e)).2), fun vs _ => match vs with | [_, .d (.int _ n)] => ((s.length : Int) - n).toNat | _ => 0⟩)], unrOf [], tieOf [], 0, false, by simp, Nat.le_of_ble_eq_true rfl, ?_⟩
  conv => whnf
  refine ⟨⟨[], 0, s.length + 1, rfl, rfl, ⟨by omega, by omega, by simp⟩, by simp [allF]⟩, ?_⟩
  intro vs σ1 hI
  obtain ⟨l, e, f, rfl, rfl, ⟨he1, he2, hle⟩, hall⟩ := hI
  obtain ⟨f, rfl⟩ : ∃ g, f = g + 1 := ⟨f - 1, by omega⟩
  have hbl : (blankF (s.drop e)).2 ≤ s.length - e := by have : (blankF (s.drop e)).2 ≤ (s.drop e).length := blank_len _ _; rw [List.length_drop] at this; exact this
  have hend : ∀ p c : Nat, allGo (f + 1) (m - l.length) e (s.drop e) = ([], (p, c)) → K (.ret (.tuple [.d (.sl (toksR l)), .d (.int .i64 p), .d (.int .i64 c)])) ⟨[], [], 0⟩ := fun p c g => by
   rw [hall, g] at h
   simp only [List.append_nil] at h
   exact h
  have hb0 : s.drop ((e : Int)).toNat = s.drop e := by rw [Int.toNat_natCast]
  conv => whnf
  refine ⟨⟨by omega, by omega, hs⟩, ?_⟩
  rw [hb0]
  obtain ⟨k, hk⟩ : ∃ k, k = (blankF (s.drop e)).2 := ⟨_, rfl⟩
  rw [← hk]
  rw [← hk] at hbl
  cases hok : (blankF (s.drop e)).1 with
  | false =>
   have g1 := hend (e + k) 140 (by rw [allGo, if_pos hok, hk])
   rw [Int.natCast_add] at g1
   simp only [Bool.false_eq_true, if_false]
   conv => whnf
   exact g1
  | true =>
   have hb1 : ¬ (blankF (s.drop e)).1 = false := by rw [hok]; simp
   simp only [if_true]
   conv => whnf
   refine CondP.dec (fun h3 => ?_) (fun h3 => ?_)
   ·have hnil : (s.drop e).drop k = [] := by rw [List.drop_drop]; exact List.drop_eq_nil_of_le (by omega)
    have g1 := hend 0 0 (by rw [allGo, if_neg hb1, ← hk, if_pos hnil])
    conv => whnf
    exact g1
   ·have hlt : e + k < s.length := by omega
    have hne : ¬ (s.drop e).drop k = [] := fun g => by have := congrArg List.length g; rw [List.drop_drop, List.length_drop] at this; simp at this; omega
    have g1 : allGo (f + 1) (m - l.length) e (s.drop e) = (match nextF (e + k) (s.drop (e + k)) (decide ((l.length : Int) < m)) with
      | .bad p e => ([], (p, e))
      | .tok t => (t :: (allGo f (m - l.length - 1) t.fin ((s.drop (e + k)).drop (t.fin - (e + k)))).1, (allGo f (m - l.length - 1) t.fin ((s.drop (e + k)).drop (t.fin - (e + k)))).2)) := by
     rw [allGo, if_neg hb1, ← hk, if_neg hne, List.drop_drop, show (decide (0 < m - (l.length : Int))) = decide ((l.length : Int) < m) from by rw [decide_eq_decide]; omega]
     rfl
    have hek : s.drop ((e : Int) + (k : Int)).toNat = s.drop (e + k) := by rw [show ((e : Int) + (k : Int)).toNat = e + k by omega]
    conv => whnf
    refine ⟨⟨by omega, by omega, hs⟩, ?_⟩
    conv => whnf
    refine CondP.intro (fun h4 => ?_) (fun h4 => ?_)
    ·rw [hek] at h4
     have h4' : begF (s.drop (e + k)) = false := by simpa using h4
     have g2 := hend _ _ (g1.trans (by rw [n_none h4']))
     conv => whnf
     exact g2
    ·rw [hek] at h4
     have h4' : begF (s.drop (e + k)) = true := by simpa using h4
     conv => whnf
     refine CondP.dec (fun h5 => ?_) (fun h5 => ?_)
     ·have h5' : ¬ (l.length : Int) < m := by have h5 : m ≤ ((toksR l).length : Int) := h5; rw [toksR_len] at h5; omega
      have g2 := hend _ _ (g1.trans (by rw [decide_eq_false h5', n_room h4']))
      conv => whnf
      exact g2
     ·have h5' : (l.length : Int) < m := by have h5 : ¬ m ≤ ((toksR l).length : Int) := h5; rw [toksR_len] at h5; omega
      rw [decide_eq_true h5'] at g1
      conv => whnf
      refine ⟨⟨by omega, by omega, hs, by rw [hek]; exact h4'⟩, ?_⟩
      rw [hek, show ((e : Int) + (k : Int)).toNat = e + k by omega]
      cases hx : nextF (e + k) (s.drop (e + k)) true with
      | bad p c =>
       rw [hx] at g1
       have hc := nextF_bad hx
       have g2 := hend p c g1
       conv => whnf
       refine CondP.ndec (fun h6 => ?_) (fun h6 => absurd h6 (by have : ((c : Nat) : Int) ≠ 0 := by omega
                                                                 exact this))
       conv => whnf
       exact g2
      | tok t =>
       rw [hx] at g1
       obtain ⟨ht1, ht2, ht3⟩ := nextF_tok (by rw [List.length_drop]; omega) hx
       rw [List.length_drop] at ht3
       conv => whnf
       refine ⟨fun r hr => by (simp at hr; subst hr; rfl), (show ((toksR l).length + 1) * 48 ≤ 2 ^ 47 by rw [toksR_len]; omega), (show (toksR l).length + 1 ≤ 2 ^ 47 by rw [toksR_len]; omega), ?_⟩
       conv => whnf
       refine ⟨⟨l ++ [t], t.fin, f, ?_, rfl, ⟨by omega, by omega, by rw [List.length_append]; simp; omega⟩, ?_⟩, ?_⟩
       ·rw [toksR_snoc]; rfl
       ·have hd : (s.drop (e + k)).drop (t.fin - (e + k)) = s.drop t.fin := by rw [List.drop_drop, show e + k + (t.fin - (e + k)) = t.fin by omega]
        rw [hall, g1, List.length_append]
        simp only [hd, List.length_cons, List.length_nil, Int.natCast_add, Int.sub_sub, List.append_assoc, List.cons_append, List.nil_append]
        rfl
       ·exact (show ((s.length : Int) - (t.fin : Int)).toNat < ((s.length : Int) - (e : Int)).toNat by omega)
 ·exact h.elim
end Go.PM.Lex
end

section
set_option maxRecDepth 100000
set_option maxHeartbeats 4000000
namespace Go.PM.Lex
open Go.Proofs
variable {w0 : World} {nG : Nat}
noncomputable def spTokR : Spec := fun args σ K => match args, σ with
 | [.d (.str s), .d (.int .i64 m)], ⟨[], [], 0⟩ => s.length < 4294967281 ∧
   ∀ x, allF s m = x → K (.ret (.tuple (if x.2.2 = 0 then [.d (.sl (toksR x.1)), .d (.int .i64 0), .d (.int .i64 0)] else [.d (.sl []), .d (.int .i64 x.2.1), .d (.int .i64 x.2.2)]))) ⟨[], [], 0⟩
 | _, _ => False
noncomputable def tblTokR : Tbl := [(41, spAllR)]
theorem tokR_ok : PCalls (GG w0 nG) 16 spTokR := by
 refine pcalls tab_ok mixed (tbl := tblTokR) ⟨⟨allR_ok, spAllR_mono⟩, trivial⟩ Tryz.func16 rfl (by kernel_rfl) (by kernel_rfl) ?_
 intro args σ K h
 unfold spTokR at h
 split at h
 ·rename_i s m
  obtain ⟨hs, h⟩ := h
  refine ⟨loopsOf [], 0, false, by simp, Nat.le_of_ble_eq_true rfl, ?_⟩
  conv => whnf
  refine ⟨hs, ?_⟩
  obtain ⟨x, hx⟩ : ∃ x, allF s m = x := ⟨_, rfl⟩
  have h := h x hx
  rw [hx]
  obtain ⟨l, p, c⟩ := x
  conv => whnf
  refine CondP.ndec (fun hc => ?_) (fun hc => ?_)
  ·conv => whnf
   simp only at hc h
   rw [if_neg (by omega)] at h
   exact h
  ·conv => whnf
   simp only at hc h
   rw [if_pos (by omega)] at h
   exact h
 ·exact h.elim
end Go.PM.Lex
end

section
set_option maxRecDepth 100000
set_option maxHeartbeats 4000000
namespace Go.PM.Lex
open Go.Proofs
variable {w0 : World} {nG : Nat}
noncomputable def spTokR2 : Spec := fun args σ K => match args, σ with
 | [.d (.str s), .d (.int .i64 m)], ⟨[], [], 0⟩ => s.length < 4294967281 ∧ (∀ l p, allF s m = (l, (p, 0)) → K (.ret (.tuple [.d (.sl (toksR l)), .d (.int .i64 0), .d (.int .i64 0)])) ⟨[], [], 0⟩) ∧ ∀ l p (c : Nat), c ≠ 0 → allF s m = (l, (p, c)) → K (.ret (.tuple [.d (.sl []), .d (.int .i64 p), .d (.int .i64 c)])) ⟨[], [], 0⟩
 | _, _ => False
theorem spTokR2_mono : SpecMono spTokR2 := fun args σ K K' hK h => by
 unfold spTokR2 at h ⊢; split at h <;> first | exact ⟨h.1, fun l p e => hK _ _ (h.2.1 l p e), fun l p c e1 e2 => hK _ _ (h.2.2 l p c e1 e2)⟩ | exact h.elim
theorem tokR2_ok : PCalls (GG w0 nG) 16 spTokR2 := ⟨tokR_ok.enters, fun args σ K h => tokR_ok.calls args σ K (by
 unfold spTokR2 at h
 split at h
 ·rename_i s m
  refine ⟨h.1, fun x hx => ?_⟩
  obtain ⟨l, p, c⟩ := x
  by_cases hc : c = 0
  ·subst hc; exact h.2.1 l p hx
  ·simp only [if_neg hc]; exact h.2.2 l p c hc hx
 ·exact h.elim)⟩
noncomputable def tblParL : Tbl := [(14, spTopU), (16, spTokR2), (17, spKU 70000), (15, spTrue15)]
def uOf : Top Un → Un | .ok v _ => v | .err _ _ => .nil
def plOf (n : Nat) : Top Un → Pl | .ok _ L => placeOf L n | .err _ _ => fun _ => 0
def atOf : Top Un → Int | .ok _ _ => 0 | .err p _ => p
def eOf : Top Un → Nat | .ok _ _ => 0 | .err _ e => e
theorem TopK_of {s : Bs} {x : Top Un} {K : PEnd → St → Prop} (h : K (.ret (.tuple [aggD (encUn (plOf s.length x) (uOf x)), .d (.int .i64 (atOf x)), .d (.int .i64 (eOf x))])) ⟨[], [], 0⟩) : TopK (fun L (v : Un) => aggD (encUn (placeOf L s.length) v)) (aggD (encUn (fun _ => 0) .nil)) x K := by
 cases x <;> exact h
end Go.PM.Lex
end
