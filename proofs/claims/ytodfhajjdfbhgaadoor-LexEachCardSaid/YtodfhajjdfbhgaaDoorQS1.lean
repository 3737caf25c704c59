/- A part of the proof: plain logic, contracts and laws over the given program. -/
import Derived.Test.YtodfhajjdfbhgaaDoorQR2
import Derived.Test.YtodfhajjdfbhgaaDoorQTile
set_option linter.unusedVariables false
set_option linter.unusedSimpArgs false
set_option linter.all false
set_option maxRecDepth 100000
set_option maxHeartbeats 8000000
namespace Go.PM.Lex
open Go.Proofs
variable {w0 : World} {nG : Nat}
/-- A digit's number in hex; -1: it is none. -/
def hexV (c : Int) : Int := if 48 ≤ c ∧ c ≤ 57 then c - 48 else if 97 ≤ c ∧ c ≤ 102 then c - 87 else if 65 ≤ c ∧ c ≤ 70 then c - 55 else -1
noncomputable def spHexR : Spec := fun args σ K => match args, σ with
  | [.d (.int .u8 c)], ⟨[], [], 0⟩ => (0 ≤ c ∧ c < 256) ∧ K (.ret (.d (.int .i64 (hexV c)))) ⟨[], [], 0⟩
  | _, _ => False
theorem spHexR_mono : SpecMono spHexR := fun args σ K K' hK h => by
  unfold spHexR at h ⊢; split at h <;> first | exact ⟨h.1, hK _ _ h.2⟩ | exact h.elim
theorem hexR_ok : PCalls (GG w0 nG) 24 spHexR := by
  refine pcalls tab_ok mixed (tbl := []) trivial Tryd.func24 rfl (by kernel_rfl) (by kernel_rfl) ?_
  intro args σ K h
  unfold spHexR at h
  split at h
  · rename_i c
    obtain ⟨⟨h0, h1⟩, h⟩ := h
    refine ⟨loopsOf [], 0, false, by decide, Nat.le_of_ble_eq_true rfl, ?_⟩
    unfold hexV at h
    by_cases k1 : 48 ≤ c ∧ c ≤ 57
    · rw [if_pos k1] at h
      refine CondP.dec (fun h2 => ?_) (fun h2 => absurd k1.1 h2)
      refine CondP.dec (fun h3 => ?_) (fun h3 => absurd k1.2 h3)
      conv => whnf
      refine Or.inl ⟨InR.u8 (by omega) (by omega), ?_⟩
      conv => whnf
      refine Or.inl ⟨InR.i64 (by omega) (by omega), ?_⟩
      conv => whnf
      exact h
    rw [if_neg k1] at h
    by_cases k2 : 97 ≤ c ∧ c ≤ 102
    · rw [if_pos k2] at h
      refine CondP.dec (fun h2 => ?_) (fun h2 => absurd (show c ≥ 48 by omega) h2)
      refine CondP.dec (fun h3 => absurd ⟨h2, h3⟩ k1) (fun h3 => ?_)
      conv => whnf
      refine CondP.dec (fun h4 => ?_) (fun h4 => absurd k2.1 h4)
      refine CondP.dec (fun h5 => ?_) (fun h5 => absurd k2.2 h5)
      conv => whnf
      refine Or.inl ⟨InR.u8 (by omega) (by omega), ?_⟩
      conv => whnf
      refine Or.inl ⟨InR.i64 (by omega) (by omega), ?_⟩
      conv => whnf
      refine Or.inl ⟨InR.i64 (by omega) (by omega), ?_⟩
      conv => whnf
      rw [show c - 87 = c - 97 + 10 by omega] at h
      exact h
    rw [if_neg k2] at h
    by_cases k3 : 65 ≤ c ∧ c ≤ 70
    · rw [if_pos k3] at h
      refine CondP.dec (fun h2 => ?_) (fun h2 => absurd (show c ≥ 48 by omega) h2)
      refine CondP.dec (fun h3 => absurd ⟨h2, h3⟩ k1) (fun h3 => ?_)
      conv => whnf
      refine CondP.dec (fun h4 => absurd h4 (show ¬ (c ≥ 97) by omega)) (fun h4 => ?_)
      conv => whnf
      refine CondP.dec (fun h6 => ?_) (fun h6 => absurd k3.1 h6)
      refine CondP.dec (fun h7 => ?_) (fun h7 => absurd k3.2 h7)
      conv => whnf
      refine Or.inl ⟨InR.u8 (by omega) (by omega), ?_⟩
      conv => whnf
      refine Or.inl ⟨InR.i64 (by omega) (by omega), ?_⟩
      conv => whnf
      refine Or.inl ⟨InR.i64 (by omega) (by omega), ?_⟩
      conv => whnf
      rw [show c - 55 = c - 65 + 10 by omega] at h
      exact h
    rw [if_neg k3] at h
    have fin : ∀ b : Bool, b = false → True := fun _ _ => trivial
    refine CondP.dec (fun h2 => ?_) (fun h2 => ?_)
    · refine CondP.dec (fun h3 => absurd ⟨h2, h3⟩ k1) (fun h3 => ?_)
      conv => whnf
      refine CondP.dec (fun h4 => ?_) (fun h4 => ?_)
      · refine CondP.dec (fun h5 => absurd ⟨h4, h5⟩ k2) (fun h5 => ?_)
        conv => whnf
        refine CondP.dec (fun h6 => ?_) (fun h6 => ?_)
        · refine CondP.dec (fun h7 => absurd ⟨h6, h7⟩ k3) (fun h7 => ?_)
          conv => whnf
          exact h
        · conv => whnf
          exact h
      · conv => whnf
        refine CondP.dec (fun h6 => ?_) (fun h6 => ?_)
        · refine CondP.dec (fun h7 => absurd ⟨h6, h7⟩ k3) (fun h7 => ?_)
          conv => whnf
          exact h
        · conv => whnf
          exact h
    · conv => whnf
      refine CondP.dec (fun h4 => absurd (show c ≥ 48 from by have : c ≥ 97 := h4; omega) h2) (fun h4 => ?_)
      conv => whnf
      refine CondP.dec (fun h4 => absurd (show c ≥ 48 from by have : c ≥ 65 := h4; omega) h2) (fun h4 => ?_)
      conv => whnf
      exact h
  · exact h.elim
noncomputable def spSignR : Spec := fun args σ K => match args, σ with
  | [.d (.str s), .d (.int .i64 a)], ⟨[], [], 0⟩ => (0 ≤ a ∧ a < s.length ∧ s.length < 4294967281) ∧ K (.ret (.d (.str ((s.drop a.toNat).take (signF (s.drop a.toNat)))))) ⟨[], [], 0⟩
  | _, _ => False
theorem spSignR_mono : SpecMono spSignR := fun args σ K K' hK h => by
  unfold spSignR at h ⊢; split at h <;> first | exact ⟨h.1, hK _ _ h.2⟩ | exact h.elim
theorem getD_get {l : Bs} {i : Nat} (h : i < l.length) : l.getD i 0 = l[i] := by rw [List.getD_eq_getElem?_getD, List.getElem?_eq_getElem h]; rfl
theorem pre2 (r : Bs) (x y : UInt8) : Lib.hasPrefix r [x, y] = true ↔ r.take 2 = [x, y] := by
  unfold Lib.hasPrefix
  rw [List.isPrefixOf_iff_prefix, List.prefix_iff_eq_take]
  exact ⟨fun g => g.symm, fun g => g.symm⟩
theorem twos_any (r : Bs) : twos.any (Lib.hasPrefix r) = true ↔ r.take 2 ∈ twos := by
  simp only [twos, List.any_cons, List.any_nil, Bool.or_eq_true, pre2, List.mem_cons, Bool.false_eq_true, or_false, List.not_mem_nil]
theorem signR_ok : PCalls (GG w0 nG) 15 spSignR := by
  refine pcalls tab_ok mixed (tbl := []) trivial Tryd.func15 rfl (by kernel_rfl) (by kernel_rfl) ?_
  intro args σ K h
  unfold spSignR at h
  split at h
  · rename_i s a
    obtain ⟨⟨h0, h1, hs⟩, h⟩ := h
    obtain ⟨a, rfl⟩ : ∃ n : Nat, a = n := ⟨a.toNat, by omega⟩
    simp only [Int.toNat_natCast] at h
    have hcu : cut s ((a : Int)).toNat (min ((a : Int) + 2) (s.length : Int)).toNat = (s.drop a).take 2 := by
      rw [cut_mid]
      by_cases h4 : (a : Int) + 2 ≤ s.length
      · rw [Int.min_eq_left h4]; congr 1; omega
      · rw [Int.min_eq_right (by omega), List.take_of_length_le (by rw [List.length_drop]; omega), List.take_of_length_le (by rw [List.length_drop]; omega)]; rfl
    have h2 := twos_any (s.drop a)
    generalize hu : (s.drop a).take 2 = u at hcu h2
    have hin : u ∈ twos → K (.ret (.d (.str u))) ⟨[], [], 0⟩ := fun g => by
      rw [signF, if_pos (h2.2 g), hu] at h; exact h
    refine ⟨loopsOf [(6, ⟨[7], [0, 1, 6], fun vs σ => σ = ⟨[], [], 0⟩ ∧ ∃ i : Nat, vs = [.d (.int .i64 i)] ∧ i ≤ 21 ∧ ∀ j < i, ones.getD j 0 ≠ s.getD a 0, fun vs _ => match vs with | [.d (.int _ n)] => (21 - n).toNat | _ => 0⟩)], 0, false, by simp, Nat.le_of_ble_eq_true rfl, ?_⟩
    conv => whnf
    refine Or.inl ⟨InR.i64 (by omega) (by omega), ?_⟩
    conv => whnf
    refine ⟨by omega, by omega, by omega, ?_⟩
    conv => whnf
    rw [hcu]
    have mem : ∀ x, x ∈ twos → u = x → K (.ret (.d (.str u))) ⟨[], [], 0⟩ := fun x hx g => hin (g ▸ hx)
    refine CondP.dec (fun h3 => ?_) (fun h3 => ?_)
    · conv => whnf
      exact mem _ (by decide) h3
    refine CondP.dec (fun h4 => ?_) (fun h4 => ?_)
    · conv => whnf
      exact mem _ (by decide) h4
    refine CondP.dec (fun h5 => ?_) (fun h5 => ?_)
    · conv => whnf
      exact mem _ (by decide) h5
    refine CondP.dec (fun h6 => ?_) (fun h6 => ?_)
    · conv => whnf
      exact mem _ (by decide) h6
    refine CondP.dec (fun h7 => ?_) (fun h7 => ?_)
    · conv => whnf
      exact mem _ (by decide) h7
    have hno : ¬ u ∈ twos := fun g => by
      simp only [twos, List.mem_cons, List.not_mem_nil, or_false] at g
      rcases g with g | g | g | g | g
      · exact h3 g
      · exact h4 g
      · exact h5 g
      · exact h6 g
      · exact h7 g
    have hs1 : signF (s.drop a) = if ones.contains (s.getD a 0) then 1 else 0 := by
      rw [signF, if_neg (fun g => hno (h2.1 g)), Lib.getD_dropU, Nat.add_zero]
    conv => whnf
    refine ⟨⟨rfl, 0, rfl, by omega, by omega⟩, ?_⟩
    intro vs σ1 hI
    obtain ⟨rfl, i, rfl, hi, hj⟩ := hI
    conv => whnf
    have hol : ones.length = 21 := rfl
    refine CondP.dec (fun h8 => ?_) (fun h8 => ?_)
    · have h8' : i < 21 := by have : (i : Int) < (21 : Int) := h8; omega
      have hget : ∀ x : UInt8, ones.getD i 0 = x → ones.contains x = true := fun x g => by
        rw [getD_get (by rw [hol]; exact h8')] at g
        rw [← g]; simp
      conv => whnf
      refine ⟨by omega, h8, ?_⟩
      conv => whnf
      refine ⟨h0, h1, ?_⟩
      conv => whnf
      refine CondP.dec (fun h9 => ?_) (fun h9 => ?_)
      · have h9' : ones.getD i 0 = s.getD a 0 := by
          have : ((ones.getD i 0).toNat : Int) = ((s.getD a 0).toNat : Int) := h9
          exact UInt8.toNat_inj.1 (by omega)
        conv => whnf
        refine Or.inl ⟨InR.i64 (by omega) (by omega), ?_⟩
        conv => whnf
        refine ⟨by omega, by omega, show (i : Int) + 1 ≤ 21 by omega, ?_⟩
        conv => whnf
        have e : cut ones ((i : Int)).toNat ((i : Int) + 1).toNat = (s.drop a).take 1 := by
          rw [cut_mid, show ((i : Int) + 1).toNat - ((i : Int)).toNat = 1 by omega, show ((i : Int)).toNat = i from rfl]
          rw [List.drop_eq_getElem_cons (by rw [hol]; exact h8' : i < ones.length), List.drop_eq_getElem_cons (by omega : a < s.length)]
          rw [getD_get (by rw [hol]; exact h8'), getD_get (by omega)] at h9'
          rw [List.take_succ_cons, List.take_succ_cons, List.take_zero, List.take_zero, h9']
        rw [hs1, hget _ h9', if_pos rfl, ← e] at h
        exact h
      · conv => whnf
        refine Or.inl ⟨InR.i64 (by omega) (by omega), ?_⟩
        conv => whnf
        refine ⟨⟨rfl, i + 1, rfl, by omega, fun j hj1 g => ?_⟩, ?_⟩
        · rcases Nat.lt_or_ge j i with g1 | g1
          · exact hj j g1 g
          · obtain rfl : j = i := by omega
            exact h9 (show ((ones.getD j 0).toNat : Int) = ((s.getD a 0).toNat : Int) by rw [g])
        · exact (show ((21 : Int) - ((i : Int) + 1)).toNat < ((21 : Int) - (i : Int)).toNat by omega)
    · have h8' : 21 ≤ i := by have : ¬ (i : Int) < (21 : Int) := h8; omega
      have hc : ones.contains (s.getD a 0) = false := by
        rw [Bool.eq_false_iff]
        intro g
        rw [List.contains_iff_mem] at g
        obtain ⟨j, hj1, hj2⟩ := List.getElem_of_mem g
        exact hj j (by rw [hol] at hj1; omega) (by rw [getD_get hj1]; exact hj2)
      conv => whnf
      rw [hs1, hc, if_neg (by simp), List.take_zero] at h
      exact h
  · exact h.elim
/-- Does a token begin in front? -/
def begF (r : Bs) : Bool := isLetter (pk r).1 || isDigit (pk r).1 || decide ((pk r).1 = 34) || decide (0 < signF r)
noncomputable def spBegR : Spec := fun args σ K => match args, σ with
  | [.d (.str s), .d (.int .i64 a)], ⟨[], [], 0⟩ => (0 ≤ a ∧ a < s.length ∧ s.length < 4294967281) ∧ K (.ret (.d (.bool (begF (s.drop a.toNat))))) ⟨[], [], 0⟩
  | _, _ => False
theorem spBegR_mono : SpecMono spBegR := fun args σ K K' hK h => by
  unfold spBegR at h ⊢; split at h <;> first | exact ⟨h.1, hK _ _ h.2⟩ | exact h.elim
/-- The first rune of few bits is the first byte. -/
theorem pk_byte {r : Bs} (h0 : 0 < r.length) {c : Int} (hc0 : 0 ≤ c) (hc : c < 128) : (pk r).1 = c ↔ ((r.getD 0 0).toNat : Int) = c := by
  constructor
  · intro g
    have := (pk_low r (by omega) (by omega)).2.1
    omega
  · intro g
    obtain ⟨b, l, rfl⟩ : ∃ b l, r = b :: l := by cases r with | nil => simp at h0 | cons b l => exact ⟨b, l, rfl⟩
    have e : Lib.decodeL (b :: l) = (b.toNat, 1) := by
      rw [Lib.decodeL_N]
      simp only [List.getD_cons_zero, List.length_cons] at g ⊢
      unfold Lib.decodeN
      rw [if_pos (by omega)]
    unfold pk
    rw [if_neg, e]
    · simpa using g
    · rw [e]; simp only [not_or]; exact ⟨by simp, fun k => by have := b.toNat_lt; injection k; omega⟩
theorem dig_byte {r : Bs} (h0 : 0 < r.length) : isDigit (pk r).1 = isDigit ((r.getD 0 0).toNat : Int) := by
  have k := fun (c : Int) h1 h2 => @pk_byte r h0 c h1 h2
  rw [Bool.eq_iff_iff, isDigit_iff, isDigit_iff]
  constructor
  · intro g; have := (k _ (by omega : 0 ≤ (pk r).1) (by omega)).1 rfl; omega
  · intro g; have := (k _ (by omega : 0 ≤ ((r.getD 0 0).toNat : Int)) (by omega)).2 rfl; omega
noncomputable def tblBegR : Tbl := [(13, spLetAt), (14, spDigit), (15, spSignR)]
theorem begR_ok : PCalls (GG w0 nG) 9 spBegR := by
  refine pcalls tab_ok mixed (tbl := tblBegR) ⟨⟨letAt_ok, spLetAt_mono⟩, ⟨digitR_ok, spDigit_mono⟩, ⟨signR_ok, spSignR_mono⟩, trivial⟩ Tryd.func9 rfl (by kernel_rfl) (by kernel_rfl) ?_
  intro args σ K h
  unfold spBegR at h
  split at h
  · rename_i s a
    obtain ⟨⟨h0, h1, hs⟩, h⟩ := h
    obtain ⟨a, rfl⟩ : ∃ n : Nat, a = n := ⟨a.toNat, by omega⟩
    simp only [Int.toNat_natCast] at h
    have hr0 : 0 < (s.drop a).length := by rw [List.length_drop]; omega
    have hdg := dig_byte hr0
    have h34 := pk_byte hr0 (c := 34) (by omega) (by omega)
    rw [Lib.getD_dropU, Nat.add_zero] at hdg h34
    refine ⟨loopsOf [], 0, false, by decide, Nat.le_of_ble_eq_true rfl, ?_⟩
    conv => whnf
    refine ⟨⟨h0, hs⟩, ?_⟩
    conv => whnf
    refine CondP.intro (fun h2 => ?_) (fun h2 => ?_)
    · have h2' : isLetter (pk (s.drop a)).1 = true := h2
      conv => whnf
      rw [begF, h2', Bool.true_or, Bool.true_or, Bool.true_or] at h
      exact h
    · have h2' : isLetter (pk (s.drop a)).1 = false := h2
      rw [begF, h2', Bool.false_or] at h
      conv => whnf
      refine ⟨h0, h1, ?_⟩
      conv => whnf
      have hbt := (s.getD ((a : Int)).toNat 0).toNat_lt
      refine Or.inl ⟨InR.i32 (by omega) (by omega), ?_⟩
      conv => whnf
      refine CondP.intro (fun h3 => ?_) (fun h3 => ?_)
      · have h3' : isDigit (pk (s.drop a)).1 = true := hdg.trans h3
        conv => whnf
        rw [h3', Bool.true_or, Bool.true_or] at h
        exact h
      · have h3' : isDigit (pk (s.drop a)).1 = false := hdg.trans h3
        rw [h3', Bool.false_or] at h
        conv => whnf
        refine ⟨h0, h1, ?_⟩
        conv => whnf
        refine CondP.dec (fun h4 => ?_) (fun h4 => ?_)
        · conv => whnf
          rw [decide_eq_true (h34.2 h4), Bool.true_or] at h
          exact h
        · rw [decide_eq_false (fun g => h4 (h34.1 g)), Bool.false_or] at h
          conv => whnf
          refine ⟨⟨h0, h1, hs⟩, ?_⟩
          conv => whnf
          have hl : ((s.drop a).take (signF (s.drop a))).length = 0 ↔ signF (s.drop a) = 0 := by rw [List.length_take]; omega
          refine K_bool h ?_
          have e : ∀ n, (decide (0 < n)) = !(decide (n = 0)) := fun n => by cases n <;> simp
          rw [e]
          congr 1
          rw [decide_eq_decide, ← hl]
          exact List.length_eq_zero_iff
  · exact h.elim
end Go.PM.Lex
