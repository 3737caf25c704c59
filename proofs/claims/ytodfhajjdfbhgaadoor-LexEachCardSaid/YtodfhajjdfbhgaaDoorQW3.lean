/- A part of the proof: plain logic, contracts and laws over the given program. -/
import Derived.Test.YtodfhajjdfbhgaaDoorQW2
import Derived.Lib.IndexAny
set_option linter.unusedVariables false
set_option linter.unusedSimpArgs false
set_option linter.all false
set_option maxRecDepth 100000
namespace Go.PM.Lex
open Go.Proofs
variable {w0 : World} {nG : Nat}
def muI (B : Int) : List PV → St → Nat := fun vs _ => match vs with | .d (.int _ n) :: _ => (B - n).toNat | _ => 0
noncomputable def tblSign : Tbl := [(26, spHasPrefix), (27, spIndexByte)]
theorem sign_ok (ht : TblOK (GG w0 nG) tblSign) : PCalls (GG w0 nG) 30 spSign := by
  refine pcalls tab_ok mixed ht Tryd.func30 rfl (by kernel_rfl) (by kernel_rfl) ?_
  intro args σ K h
  unfold spSign at h
  split at h
  · rename_i t s a
    obtain ⟨⟨h0, h1, hs⟩, h⟩ := h
    refine ⟨loopsOf [(3, ⟨[16], [0, 3, 15], fun vs σ => σ = ⟨[.cells t [.d (.str s), .d (.int .i64 a)]], [], 0⟩ ∧ ∃ i : Nat, i ≤ 5 ∧ vs = [.d (.int .i64 i)] ∧ (twos.take i).any (Lib.hasPrefix (s.drop a.toNat)) = false, muI 5⟩)], 1, false, by simp, Nat.le_of_ble_eq_true rfl, ?_⟩
    conv => whnf
    refine ⟨h0, by omega, ?_⟩
    conv => whnf
    rw [cut_end]
    refine ⟨⟨rfl, 0, by omega, rfl, rfl⟩, ?_⟩
    intro vs σ1 hI
    obtain ⟨rfl, i, hi, rfl, hn⟩ := hI
    match i, hi, hn with
    | 0, hi, hn =>
      conv => whnf
      refine ⟨by omega, by omega, ?_⟩
      conv => whnf
      refine CondP.intro (fun h2 => ?_) (fun h2 => ?_)
      · conv => whnf
        have e : signF (s.drop a.toNat) = 2 := by
          have : twos.any (Lib.hasPrefix (s.drop a.toNat)) = true := by simp [twos, h2]
          simp [signF, this]
        rw [e] at h
        exact h
      · conv => whnf
        refine Or.inl ⟨InR.i64 (by omega) (by omega), ?_⟩
        conv => whnf
        refine ⟨⟨rfl, 1, by omega, rfl, ?_⟩, ?_⟩
        · have h2' : Lib.hasPrefix (s.drop a.toNat) (twos.getD 0 []) = false := h2
          simp only [twos, List.take, List.any_cons, List.any_nil, Bool.or_false, Bool.or_eq_false_iff, List.getD_cons_zero, List.getD_cons_succ] at hn h2' ⊢
          simp only [hn, h2', and_self]
        · exact (show (5 - (((0 : Nat) : Int) + 1)).toNat < (5 - ((0 : Nat) : Int)).toNat by omega)
    | 1, hi, hn =>
      conv => whnf
      refine ⟨by omega, by omega, ?_⟩
      conv => whnf
      refine CondP.intro (fun h2 => ?_) (fun h2 => ?_)
      · conv => whnf
        have e : signF (s.drop a.toNat) = 2 := by
          have : twos.any (Lib.hasPrefix (s.drop a.toNat)) = true := by simp [twos, h2]
          simp [signF, this]
        rw [e] at h
        exact h
      · conv => whnf
        refine Or.inl ⟨InR.i64 (by omega) (by omega), ?_⟩
        conv => whnf
        refine ⟨⟨rfl, 2, by omega, rfl, ?_⟩, ?_⟩
        · have h2' : Lib.hasPrefix (s.drop a.toNat) (twos.getD 1 []) = false := h2
          simp only [twos, List.take, List.any_cons, List.any_nil, Bool.or_false, Bool.or_eq_false_iff, List.getD_cons_zero, List.getD_cons_succ] at hn h2' ⊢
          simp only [hn, h2', and_self]
        · exact (show (5 - (((1 : Nat) : Int) + 1)).toNat < (5 - ((1 : Nat) : Int)).toNat by omega)
    | 2, hi, hn =>
      conv => whnf
      refine ⟨by omega, by omega, ?_⟩
      conv => whnf
      refine CondP.intro (fun h2 => ?_) (fun h2 => ?_)
      · conv => whnf
        have e : signF (s.drop a.toNat) = 2 := by
          have : twos.any (Lib.hasPrefix (s.drop a.toNat)) = true := by simp [twos, h2]
          simp [signF, this]
        rw [e] at h
        exact h
      · conv => whnf
        refine Or.inl ⟨InR.i64 (by omega) (by omega), ?_⟩
        conv => whnf
        refine ⟨⟨rfl, 3, by omega, rfl, ?_⟩, ?_⟩
        · have h2' : Lib.hasPrefix (s.drop a.toNat) (twos.getD 2 []) = false := h2
          simp only [twos, List.take, List.any_cons, List.any_nil, Bool.or_false, Bool.or_eq_false_iff, List.getD_cons_zero, List.getD_cons_succ] at hn h2' ⊢
          simp only [hn, h2', and_self]
        · exact (show (5 - (((2 : Nat) : Int) + 1)).toNat < (5 - ((2 : Nat) : Int)).toNat by omega)
    | 3, hi, hn =>
      conv => whnf
      refine ⟨by omega, by omega, ?_⟩
      conv => whnf
      refine CondP.intro (fun h2 => ?_) (fun h2 => ?_)
      · conv => whnf
        have e : signF (s.drop a.toNat) = 2 := by
          have : twos.any (Lib.hasPrefix (s.drop a.toNat)) = true := by simp [twos, h2]
          simp [signF, this]
        rw [e] at h
        exact h
      · conv => whnf
        refine Or.inl ⟨InR.i64 (by omega) (by omega), ?_⟩
        conv => whnf
        refine ⟨⟨rfl, 4, by omega, rfl, ?_⟩, ?_⟩
        · have h2' : Lib.hasPrefix (s.drop a.toNat) (twos.getD 3 []) = false := h2
          simp only [twos, List.take, List.any_cons, List.any_nil, Bool.or_false, Bool.or_eq_false_iff, List.getD_cons_zero, List.getD_cons_succ] at hn h2' ⊢
          simp only [hn, h2', and_self]
        · exact (show (5 - (((3 : Nat) : Int) + 1)).toNat < (5 - ((3 : Nat) : Int)).toNat by omega)
    | 4, hi, hn =>
      conv => whnf
      refine ⟨by omega, by omega, ?_⟩
      conv => whnf
      refine CondP.intro (fun h2 => ?_) (fun h2 => ?_)
      · conv => whnf
        have e : signF (s.drop a.toNat) = 2 := by
          have : twos.any (Lib.hasPrefix (s.drop a.toNat)) = true := by simp [twos, h2]
          simp [signF, this]
        rw [e] at h
        exact h
      · conv => whnf
        refine Or.inl ⟨InR.i64 (by omega) (by omega), ?_⟩
        conv => whnf
        refine ⟨⟨rfl, 5, by omega, rfl, ?_⟩, ?_⟩
        · have h2' : Lib.hasPrefix (s.drop a.toNat) (twos.getD 4 []) = false := h2
          simp only [twos, List.take, List.any_cons, List.any_nil, Bool.or_false, Bool.or_eq_false_iff, List.getD_cons_zero, List.getD_cons_succ] at hn h2' ⊢
          simp only [hn, h2', and_self]
        · exact (show (5 - (((4 : Nat) : Int) + 1)).toNat < (5 - ((4 : Nat) : Int)).toNat by omega)
    | 5, hi, hn =>
      conv => whnf
      refine ⟨by omega, by simp; omega, ?_⟩
      conv => whnf
      refine CondP.dec (fun h2 => ?_) (fun h2 => ?_)
      · conv => whnf
        have e : signF (s.drop a.toNat) = 1 := by
          have hc : ones.contains ((s.drop a.toNat).getD 0 0) = true := by
            rw [Lib.contains_iff_indexByte]
            simpa [ones] using h2
          rw [signF, if_neg (by simpa [twos] using hn), if_pos hc]
        rw [e] at h
        exact h
      · conv => whnf
        have e : signF (s.drop a.toNat) = 0 := by
          have hc : ones.contains ((s.drop a.toNat).getD 0 0) = false := by
            rw [Lib.contains_iff_indexByte]
            simpa [ones] using h2
          rw [signF, if_neg (by simpa [twos] using hn), if_neg (by rw [hc]; simp)]
        rw [e] at h
        exact h
  · exact h.elim
end Go.PM.Lex
