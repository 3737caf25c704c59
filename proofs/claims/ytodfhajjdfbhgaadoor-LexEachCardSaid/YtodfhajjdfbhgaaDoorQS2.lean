/- A part of the proof: plain logic, contracts and laws over the given program. -/
import Derived.Test.YtodfhajjdfbhgaaDoorQS1
set_option linter.unusedVariables false
set_option linter.unusedSimpArgs false
set_option linter.all false
set_option maxRecDepth 100000
set_option maxHeartbeats 4000000
namespace Go.PM.Lex
open Go.Proofs
variable {w0 : World} {nG : Nat}
theorem line_n {R : Bs} (h : Lib.hasPrefix R [47, 47] = true) : 2 ≤ (if Lib.indexByte R 10 < 0 then R.length else (Lib.indexByte R 10).toNat) ∧ (if Lib.indexByte R 10 < 0 then R.length else (Lib.indexByte R 10).toNat) ≤ R.length := by
  have h1 := (hasPrefix_two h).1
  have h2 := indexByte_lt 10 R
  have h3 := indexByte_two (c := 10) h (by decide) (by decide)
  split <;> omega
theorem blank_fuel : ∀ (f g : Nat) (r : Bs), r.length < f → r.length < g → blankGo f r = blankGo g r
  | 0, _, r, h, _ => by omega
  | _, 0, r, _, h => by omega
  | f + 1, g + 1, r, hf, hg => by
    have hle := trim_le r
    cases h1 : Lib.hasPrefix (Lib.trimLeftS r ws) [47, 47] with
    | true =>
      have h2 := line_n h1
      rw [blankGo_line h1 _ rfl, blankGo_line h1 _ rfl]
      rw [blank_fuel f g _ (by rw [List.length_drop]; omega) (by rw [List.length_drop]; omega)]
    | false =>
      cases h2 : Lib.hasPrefix (Lib.trimLeftS r ws) [47, 42] with
      | false => rw [blankGo_end h1 h2, blankGo_end h1 h2]
      | true =>
        have h4 := (hasPrefix_two h2).1
        by_cases h3 : Lib.index ((Lib.trimLeftS r ws).drop 2) [42, 47] < 0
        · rw [blankGo_open h1 h2 h3, blankGo_open h1 h2 h3]
        · rw [blankGo_rem h1 h2 (Lib.index ((Lib.trimLeftS r ws).drop 2) [42, 47]).toNat (by omega), blankGo_rem h1 h2 (Lib.index ((Lib.trimLeftS r ws).drop 2) [42, 47]).toNat (by omega)]
          rw [blank_fuel f g _ (by rw [List.length_drop]; omega) (by rw [List.length_drop]; omega)]
theorem blankF_of {f : Nat} {r : Bs} (h : r.length < f) : blankGo f r = blankF r := blank_fuel _ _ r h (by omega)
theorem trim_ws {c : UInt8} {r : Bs} (h : ws.contains c = true) : Lib.trimLeftS (c :: r) ws = Lib.trimLeftS r ws := by
  unfold Lib.trimLeftS; rw [List.dropWhile_cons, if_pos h]
theorem trim_no {c : UInt8} {r : Bs} (h : ws.contains c = false) : Lib.trimLeftS (c :: r) ws = c :: r := by
  unfold Lib.trimLeftS; rw [List.dropWhile_cons, if_neg (by rw [h]; simp)]
theorem blankF_ws {c : UInt8} {r : Bs} (h : ws.contains c = true) : blankF (c :: r) = ((blankF r).1, 1 + (blankF r).2) := by
  have ht := trim_ws (r := r) h
  have hle := trim_le r
  have e : ∀ x : Bs, blankF x = blankGo (x.length + 1) x := fun _ => rfl
  rw [e, e]
  cases h1 : Lib.hasPrefix (Lib.trimLeftS r ws) [47, 47] with
  | true =>
    have h1' := h1; rw [← ht] at h1'
    have h2 := line_n h1
    rw [blankGo_line h1' _ rfl, blankGo_line h1 _ rfl, ht, blank_fuel (c :: r).length r.length _ (by rw [List.length_drop, List.length_cons]; omega) (by rw [List.length_drop]; omega)]
    refine Prod.ext rfl ?_
    simp only [List.length_cons]; omega
  | false =>
    have h1' := h1; rw [← ht] at h1'
    cases h2 : Lib.hasPrefix (Lib.trimLeftS r ws) [47, 42] with
    | false =>
      have h2' := h2; rw [← ht] at h2'
      rw [blankGo_end h1 h2, blankGo_end h1' h2', ht]
      refine Prod.ext rfl ?_
      simp only [List.length_cons]; omega
    | true =>
      have h2' := h2; rw [← ht] at h2'
      have h4 := (hasPrefix_two h2).1
      by_cases h3 : Lib.index ((Lib.trimLeftS r ws).drop 2) [42, 47] < 0
      · have h3' := h3; rw [← ht] at h3'
        rw [blankGo_open h1 h2 h3, blankGo_open h1' h2' h3', ht]
        refine Prod.ext rfl ?_
        simp only [List.length_cons]; omega
      · have h3' : Lib.index ((Lib.trimLeftS (c :: r) ws).drop 2) [42, 47] = ((Lib.index ((Lib.trimLeftS r ws).drop 2) [42, 47]).toNat : Nat) := by rw [ht]; omega
        rw [blankGo_rem h1' h2' _ h3', blankGo_rem h1 h2 (Lib.index ((Lib.trimLeftS r ws).drop 2) [42, 47]).toNat (by omega), ht]
        rw [blank_fuel (c :: r).length r.length _ (by rw [List.length_drop, List.length_cons]; omega) (by rw [List.length_drop]; omega)]
        refine Prod.ext rfl ?_
        simp only [List.length_cons]; omega
theorem trim_pre {r : Bs} {a b : UInt8} (h : Lib.hasPrefix r [a, b] = true) (ha : ws.contains a = false) : Lib.trimLeftS r ws = r := by
  rw [(hasPrefix_two h).2]; exact trim_no ha
theorem blankF_line {r : Bs} (h : Lib.hasPrefix r [47, 47] = true) (n : Nat) (hn : n = if Lib.indexByte r 10 < 0 then r.length else (Lib.indexByte r 10).toNat) : blankF r = ((blankF (r.drop n)).1, n + (blankF (r.drop n)).2) := by
  have ht := trim_pre h (by decide)
  have h1 := h; rw [← ht] at h1
  have h2 := line_n h
  have e : blankF r = blankGo (r.length + 1) r := rfl
  rw [e, blankGo_line h1 n (by rw [ht]; exact hn), ht, blankF_of (by rw [List.length_drop]; omega)]
  refine Prod.ext rfl ?_
  simp
theorem pre_not {r : Bs} (h : Lib.hasPrefix r [47, 42] = true) : Lib.hasPrefix r [47, 47] = false := by
  rw [(hasPrefix_two h).2]; rfl
theorem blankF_open {r : Bs} (h : Lib.hasPrefix r [47, 42] = true) (h3 : Lib.index (r.drop 2) [42, 47] < 0) : blankF r = (false, 0) := by
  have ht := trim_pre h (by decide)
  have h1 := h; rw [← ht] at h1
  have h0 := pre_not h; rw [← ht] at h0
  have e : blankF r = blankGo (r.length + 1) r := rfl
  rw [e, blankGo_open h0 h1 (by rw [ht]; exact h3), ht]
  simp
theorem blankF_rem {r : Bs} (h : Lib.hasPrefix r [47, 42] = true) (i : Nat) (h3 : Lib.index (r.drop 2) [42, 47] = i) : blankF r = ((blankF (r.drop (i + 4))).1, i + 4 + (blankF (r.drop (i + 4))).2) := by
  have ht := trim_pre h (by decide)
  have h1 := h; rw [← ht] at h1
  have h0 := pre_not h; rw [← ht] at h0
  have h4 := (hasPrefix_two h).1
  have e : blankF r = blankGo (r.length + 1) r := rfl
  rw [e, blankGo_rem h0 h1 i (by rw [ht]; exact h3), ht, blankF_of (by rw [List.length_drop]; omega)]
  refine Prod.ext rfl ?_
  simp
theorem blankF_end {c : UInt8} {r : Bs} (h : ws.contains c = false) (h1 : Lib.hasPrefix (c :: r) [47, 47] = false) (h2 : Lib.hasPrefix (c :: r) [47, 42] = false) : blankF (c :: r) = (true, 0) := by
  have ht := trim_no (r := r) h
  have e : blankF (c :: r) = blankGo ((c :: r).length + 1) (c :: r) := rfl
  rw [e, blankGo_end (by rw [ht]; exact h1) (by rw [ht]; exact h2), ht]
  simp
theorem drop_head {s : Bs} {a : Nat} (h : a < s.length) : s.drop a = s.getD a 0 :: s.drop (a + 1) := by
  rw [List.drop_eq_getElem_cons h, getD_get h]
/-- The scan for a byte. -/
theorem indexByte_skip {b c : UInt8} {l : Bs} (h : b ≠ c) : Lib.indexByte (b :: l) c = if Lib.indexByte l c < 0 then -1 else Lib.indexByte l c + 1 := by
  have hge := Lib.indexByte_ge l c
  simp only [Lib.indexByte]
  rw [if_neg (by simpa using h)]
  by_cases h1 : Lib.indexByte l c = -1
  · rw [h1]; simp
  · rw [if_neg (by simpa using h1), if_neg (by omega)]
theorem index_skip {b : UInt8} {l p : Bs} (h : Lib.hasPrefix (b :: l) p = false) : Lib.index (b :: l) p = if Lib.index l p < 0 then -1 else Lib.index l p + 1 := by
  have hge := Lib.index_ge l p
  unfold Lib.hasPrefix at h
  simp only [Lib.index]
  rw [if_neg (by rw [h]; simp)]
  by_cases h1 : Lib.index l p = -1
  · rw [h1]; simp
  · rw [if_neg (by simpa using h1), if_neg (by omega)]
theorem index_hit {l p : Bs} (h : Lib.hasPrefix l p = true) (hp : p ≠ []) : Lib.index l p = 0 := by
  unfold Lib.hasPrefix at h
  cases l with
  | nil => cases p with
    | nil => exact absurd rfl hp
    | cons x p => simp [List.isPrefixOf] at h
  | cons b l => simp only [Lib.index]; rw [if_pos h]
theorem index_short {l : Bs} (h : l.length ≤ 1) : Lib.index l [42, 47] = -1 := by
  match l, h with
  | [], _ => rfl
  | [b], _ => simp [Lib.index, List.isPrefixOf]
def shiftI (k : Nat) (i : Int) : Int := if i < 0 then -1 else i + k
theorem shiftI_succ {k : Nat} {i : Int} : shiftI k (if i < 0 then -1 else i + 1) = shiftI (k + 1) i := by
  unfold shiftI
  split <;> split <;> omega
theorem shiftI_zero {i : Int} (h : -1 ≤ i) : shiftI 0 i = i := by unfold shiftI; split <;> omega
noncomputable def spBlankR : Spec := fun args σ K => match args, σ with
  | [.d (.str s), .d (.int .i64 a)], ⟨[], [], 0⟩ => (0 ≤ a ∧ a ≤ s.length ∧ s.length < 4294967281) ∧
      K (.ret (.tuple [.d (.int .i64 (a + (blankF (s.drop a.toNat)).2)), .d (.int .i64 (if (blankF (s.drop a.toNat)).1 = true then -1 else a + (blankF (s.drop a.toNat)).2))])) ⟨[], [], 0⟩
  | _, _ => False
theorem spBlankR_mono : SpecMono spBlankR := fun args σ K K' hK h => by
  unfold spBlankR at h ⊢; split at h <;> first | exact ⟨h.1, hK _ _ h.2⟩ | exact h.elim
theorem blankR_ok : PCalls (GG w0 nG) 8 spBlankR := by
  refine pcallsN tab_ok mixed (tbl := []) trivial Tryd.func8 rfl (by kernel_rfl) (by kernel_rfl) ?_
  intro args σ K h
  unfold spBlankR at h
  split at h
  · rename_i s a
    obtain ⟨⟨h0, h1, hs⟩, h⟩ := h
    obtain ⟨a, rfl⟩ : ∃ n : Nat, a = n := ⟨a.toNat, by omega⟩
    simp only [Int.toNat_natCast] at h
    refine ⟨loopsOf [(1, ⟨[1], [0], fun vs σ => σ = ⟨[], [], 0⟩ ∧ ∃ e : Nat, vs = [.d (.int .i64 e)] ∧ (a ≤ e ∧ e ≤ s.length) ∧ blankF (s.drop a) = ((blankF (s.drop e)).1, e - a + (blankF (s.drop e)).2), muI s.length⟩),
      (8, ⟨[1], [0, 14], fun vs σ => σ = ⟨[], [], 0⟩ ∧ ∃ e x : Nat, vs = [.d (.str s), .d (.int .i64 e), .d (.int .i64 x)] ∧ (a ≤ e ∧ e ≤ x ∧ x ≤ s.length) ∧ blankF (s.drop a) = ((blankF (s.drop e)).1, e - a + (blankF (s.drop e)).2) ∧ Lib.hasPrefix (s.drop e) [47, 47] = true ∧ Lib.indexByte (s.drop e) 10 = shiftI (x - e) (Lib.indexByte (s.drop x) 10), fun vs _ => match vs with | [_, _, .d (.int _ n)] => ((s.length : Int) - n).toNat | _ => 0⟩),
      (12, ⟨[8], [0, 1], fun vs σ => σ = ⟨[], [], 0⟩ ∧ ∃ e x : Nat, vs = [.d (.str s), .d (.int .i64 e), .d (.int .i64 x)] ∧ (a ≤ e ∧ e + 2 ≤ x ∧ (x ≤ s.length ∨ x = s.length + 1 ∧ x = e + 3)) ∧ blankF (s.drop a) = ((blankF (s.drop e)).1, e - a + (blankF (s.drop e)).2) ∧ Lib.hasPrefix (s.drop e) [47, 42] = true ∧ (e + 2 < x → Lib.index (s.drop (e + 2)) [42, 47] = shiftI (x - 1 - (e + 2)) (Lib.index (s.drop (x - 1)) [42, 47])), fun vs _ => match vs with | [_, _, .d (.int _ n)] => ((s.length : Int) + 1 - n).toNat | _ => 0⟩)], unrOf [], tieOf [8, 12], 0, false, by simp, Nat.le_of_ble_eq_true rfl, ?_⟩
    conv => whnf
    refine ⟨⟨rfl, a, rfl, ⟨by omega, by omega⟩, by simp⟩, ?_⟩
    intro vs σ1 hI
    obtain ⟨rfl, e, rfl, ⟨he1, he2⟩, hE⟩ := hI
    have stop : ∀ k, (blankF (s.drop e)) = (true, k) → k = 0 → K (.ret (.tuple [.d (.int .i64 e), .d (.int .i64 (-1))])) ⟨[], [], 0⟩ := fun k hk h3 => by
      subst h3
      rw [hE, hk] at h
      simp only [if_true] at h
      rw [show (a : Int) + ((e - a + 0 : Nat) : Int) = (e : Int) by omega] at h
      exact h
    conv => whnf
    refine CondP.dec (fun h2 => ?_) (fun h2 => ?_)
    · have h2' : e < s.length := by omega
      have hdh := drop_head h2'
      have hbt := (s.getD e 0).toNat_lt
      conv => whnf
      refine ⟨by omega, by omega, ?_⟩
      conv => whnf
      refine Or.inl ⟨InR.i64 (by omega) (by omega), ?_⟩
      conv => whnf
      refine ⟨by omega, by omega, by omega, ?_⟩
      conv => whnf
      have hcu : cut s ((e : Int)).toNat (min ((e : Int) + 2) (s.length : Int)).toNat = (s.drop e).take 2 := by
        rw [cut_mid]
        by_cases h4 : (e : Int) + 2 ≤ s.length
        · rw [Int.min_eq_left h4]; congr 1; omega
        · rw [Int.min_eq_right (by omega), List.take_of_length_le (by rw [List.length_drop]; omega), List.take_of_length_le (by rw [List.length_drop]; omega)]; rfl
      have hws : ∀ b : UInt8, s.getD e 0 = b → ws.contains b = true → a ≤ e + 1 ∧ e + 1 ≤ s.length ∧ blankF (s.drop a) = ((blankF (s.drop (e + 1))).1, e + 1 - a + (blankF (s.drop (e + 1))).2) := fun b hb hw => by
        refine ⟨by omega, by omega, ?_⟩
        rw [hE, hdh, hb, blankF_ws hw]
        refine Prod.ext rfl ?_
        simp only; omega
      have byt : ∀ n : Nat, n < 256 → (((s.getD ((e : Int)).toNat 0).toNat : Int) = (n : Int) ↔ s.getD e 0 = UInt8.ofNat n) := fun n hn => by
        rw [Int.toNat_natCast]
        constructor
        · intro g; apply UInt8.toNat_inj.1; rw [UInt8.toNat_ofNat_of_lt' (by show n < 256; omega)]; omega
        · intro g; rw [g, UInt8.toNat_ofNat_of_lt' (by show n < 256; omega)]
      refine CondP.dec (fun k1 => ?_) (fun k1 => ?_)
      · obtain ⟨g1, g2, g3⟩ := hws _ ((byt 9 (by omega)).1 k1) (by decide)
        conv => whnf
        refine Or.inl ⟨InR.i64 (by omega) (by omega), ?_⟩
        conv => whnf
        exact ⟨⟨rfl, e + 1, rfl, ⟨g1, g2⟩, g3⟩, (show ((s.length : Int) - ((e : Int) + 1)).toNat < ((s.length : Int) - (e : Int)).toNat by omega)⟩
      conv => whnf
      refine CondP.dec (fun k2 => ?_) (fun k2 => ?_)
      · obtain ⟨g1, g2, g3⟩ := hws _ ((byt 10 (by omega)).1 k2) (by decide)
        conv => whnf
        refine Or.inl ⟨InR.i64 (by omega) (by omega), ?_⟩
        conv => whnf
        exact ⟨⟨rfl, e + 1, rfl, ⟨g1, g2⟩, g3⟩, (show ((s.length : Int) - ((e : Int) + 1)).toNat < ((s.length : Int) - (e : Int)).toNat by omega)⟩
      conv => whnf
      refine CondP.dec (fun k3 => ?_) (fun k3 => ?_)
      · obtain ⟨g1, g2, g3⟩ := hws _ ((byt 13 (by omega)).1 k3) (by decide)
        conv => whnf
        refine Or.inl ⟨InR.i64 (by omega) (by omega), ?_⟩
        conv => whnf
        exact ⟨⟨rfl, e + 1, rfl, ⟨g1, g2⟩, g3⟩, (show ((s.length : Int) - ((e : Int) + 1)).toNat < ((s.length : Int) - (e : Int)).toNat by omega)⟩
      conv => whnf
      refine CondP.dec (fun k4 => ?_) (fun k4 => ?_)
      · obtain ⟨g1, g2, g3⟩ := hws _ ((byt 32 (by omega)).1 k4) (by decide)
        conv => whnf
        refine Or.inl ⟨InR.i64 (by omega) (by omega), ?_⟩
        conv => whnf
        exact ⟨⟨rfl, e + 1, rfl, ⟨g1, g2⟩, g3⟩, (show ((s.length : Int) - ((e : Int) + 1)).toNat < ((s.length : Int) - (e : Int)).toNat by omega)⟩
      have hnw : ws.contains (s.getD e 0) = false := by
        rw [Bool.eq_false_iff]
        intro g
        rw [List.contains_iff_mem] at g
        simp only [List.mem_cons, List.not_mem_nil, or_false] at g
        rcases g with g | g | g | g
        · exact k4 ((byt 32 (by omega)).2 g)
        · exact k1 ((byt 9 (by omega)).2 g)
        · exact k3 ((byt 13 (by omega)).2 g)
        · exact k2 ((byt 10 (by omega)).2 g)
      conv => whnf
      rw [hcu]
      refine CondP.dec (fun k5 => ?_) (fun k5 => ?_)
      · have hp : Lib.hasPrefix (s.drop e) [47, 47] = true := (pre2 _ _ _).2 k5
        conv => whnf
        refine ⟨⟨rfl, e, e, rfl, ⟨by omega, by omega, by omega⟩, hE, hp, by rw [Nat.sub_self, shiftI_zero (Lib.indexByte_ge _ _)]⟩, ?_⟩
        intro vs σ1 hI
        obtain ⟨rfl, e', x, hv, ⟨x1, x2, x3⟩, hE', hp', hx⟩ := hI
        obtain ⟨rfl, rfl⟩ : e = e' ∧ vs = [.d (.int .i64 x)] := by
          injection hv with _ hv; injection hv with hv1 hv2; injection hv1 with hv1; injection hv1 with _ hv1; exact ⟨by omega, hv2⟩
        have hend : ∀ n, n = (if Lib.indexByte (s.drop e) 10 < 0 then (s.drop e).length else (Lib.indexByte (s.drop e) 10).toNat) → x = e + n → a ≤ x ∧ x ≤ s.length ∧ blankF (s.drop a) = ((blankF (s.drop x)).1, x - a + (blankF (s.drop x)).2) ∧ e + 2 ≤ x := fun n hn hxe => by
          have := line_n hp
          refine ⟨by omega, by omega, ?_, by omega⟩
          rw [hE, blankF_line hp n hn, List.drop_drop, ← hxe]
          refine Prod.ext rfl ?_
          simp only; omega
        conv => whnf
        refine CondP.dec (fun q1 => ?_) (fun q1 => ?_)
        · have q1' : x < s.length := by omega
          have hxh := drop_head q1'
          conv => whnf
          refine ⟨by omega, by omega, ?_⟩
          conv => whnf
          refine CondP.ndec (fun q2 => ?_) (fun q2 => ?_)
          · have q2' : s.getD x 0 ≠ 10 := fun g => q2 (show ((s.getD ((x : Int)).toNat 0).toNat : Int) = 10 by rw [Int.toNat_natCast, g]; rfl)
            conv => whnf
            refine Or.inl ⟨InR.i64 (by omega) (by omega), ?_⟩
            conv => whnf
            refine ⟨⟨rfl, e, x + 1, rfl, ⟨by omega, by omega, by omega⟩, hE, hp, ?_⟩, (show ((s.length : Int) - ((x : Int) + 1)).toNat < ((s.length : Int) - (x : Int)).toNat by omega)⟩
            rw [hx, hxh, indexByte_skip q2', shiftI_succ, show x + 1 - e = x - e + 1 by omega]
          · have q2' : s.getD x 0 = 10 := by
              have g : ((s.getD ((x : Int)).toNat 0).toNat : Int) = 10 := q2
              rw [Int.toNat_natCast] at g
              apply UInt8.toNat_inj.1; show (s.getD x 0).toNat = 10; omega
            have h0 : Lib.indexByte (s.drop x) 10 = 0 := by rw [hxh, q2']; rfl
            rw [h0] at hx
            have hx' : Lib.indexByte (s.drop e) 10 = ((x - e : Nat) : Int) := by rw [hx]; unfold shiftI; rw [if_neg (by omega)]; omega
            obtain ⟨g1, g2, g3, g4⟩ := hend (x - e) (by rw [hx', if_neg (by omega)]; omega) (by omega)
            conv => whnf
            exact ⟨⟨rfl, x, rfl, ⟨g1, g2⟩, g3⟩, (show ((s.length : Int) - (x : Int)).toNat < ((s.length : Int) - (e : Int)).toNat by omega)⟩
        · have q1' : x = s.length := by omega
          have h0 : Lib.indexByte (s.drop x) 10 = -1 := by rw [q1', List.drop_length]; rfl
          rw [h0] at hx
          have hx' : Lib.indexByte (s.drop e) 10 = -1 := by rw [hx]; rfl
          obtain ⟨g1, g2, g3, g4⟩ := hend (x - e) (by rw [hx', if_pos (by omega), List.length_drop]; omega) (by omega)
          conv => whnf
          exact ⟨⟨rfl, x, rfl, ⟨g1, g2⟩, g3⟩, (show ((s.length : Int) - (x : Int)).toNat < ((s.length : Int) - (e : Int)).toNat by omega)⟩
      · have hp : Lib.hasPrefix (s.drop e) [47, 47] = false := by rw [Bool.eq_false_iff]; exact fun g => k5 ((pre2 _ _ _).1 g)
        conv => whnf
        refine CondP.dec (fun k6 => ?_) (fun k6 => ?_)
        · have hp2 : Lib.hasPrefix (s.drop e) [47, 42] = true := (pre2 _ _ _).2 k6
          have hl2 : e + 2 ≤ s.length := by have := (hasPrefix_two hp2).1; rw [List.length_drop] at this; omega
          conv => whnf
          refine Or.inl ⟨InR.i64 (by omega) (by omega), ?_⟩
          conv => whnf
          refine ⟨⟨rfl, e, e + 2, rfl, ⟨by omega, by omega, by omega⟩, hE, hp2, fun g => by omega⟩, ?_⟩
          intro vs σ1 hI
          obtain ⟨rfl, e', x, hv, ⟨x1, x2, x3⟩, hE', hp', hx⟩ := hI
          obtain ⟨rfl, rfl⟩ : e = e' ∧ vs = [.d (.int .i64 x)] := by
            injection hv with _ hv; injection hv with hv1 hv2; injection hv1 with hv1; injection hv1 with _ hv1; exact ⟨by omega, hv2⟩
          have hdd : (s.drop e).drop 2 = s.drop (e + 2) := by rw [List.drop_drop]
          -- one round more
          have more : (e + 2 < x → Lib.hasPrefix (s.drop (x - 1)) [42, 47] = false) → (e + 2 < x → x < s.length) → (e + 2 < x + 1 → Lib.index (s.drop (e + 2)) [42, 47] = shiftI (x + 1 - 1 - (e + 2)) (Lib.index (s.drop (x + 1 - 1)) [42, 47])) := fun g1 g2 _ => by
            rcases Nat.lt_or_ge (e + 2) x with g | g
            · have hxh : s.drop (x - 1) = s.getD (x - 1) 0 :: s.drop x := by rw [drop_head (show x - 1 < s.length by have := g2 g; omega), show x - 1 + 1 = x by omega]
              rw [hx g, hxh, index_skip (by rw [← hxh]; exact g1 g), shiftI_succ, show x + 1 - 1 - (e + 2) = x - 1 - (e + 2) + 1 by omega, Nat.add_sub_cancel]
            · obtain rfl : x = e + 2 := by omega
              rw [Nat.add_sub_cancel, Nat.sub_self, shiftI_zero (Lib.index_ge _ _)]
          have out : s.length ≤ x → K (.ret (.tuple [.d (.int .i64 e), .d (.int .i64 e)])) ⟨[], [], 0⟩ := fun g => by
            have hneg : Lib.index ((s.drop e).drop 2) [42, 47] < 0 := by
              rw [hdd]
              rcases Nat.lt_or_ge (e + 2) x with g1 | g1
              · rw [hx g1, index_short (by rw [List.length_drop]; omega)]; exact (show (-1 : Int) < 0 by decide)
              · rw [index_short (by rw [List.length_drop]; omega)]; decide
            have hb := blankF_open hp2 hneg
            rw [hE, hb] at h
            simp only [Bool.false_eq_true, if_false] at h
            rw [show (a : Int) + ((e - a + 0 : Nat) : Int) = (e : Int) by omega] at h
            exact h
          conv => whnf
          refine CondP.dec (fun q1 => ?_) (fun q1 => ?_)
          · have q1' : x < s.length := by omega
            conv => whnf
            refine Or.inl ⟨InR.i64 (by omega) (by omega), ?_⟩
            conv => whnf
            refine Or.inl ⟨InR.i64 (by omega) (by omega), ?_⟩
            conv => whnf
            refine ⟨by omega, by omega, by omega, ?_⟩
            conv => whnf
            have hcx : cut s ((x : Int) - 1).toNat ((x : Int) + 1).toNat = (s.drop (x - 1)).take 2 := by
              rw [cut_mid, show ((x : Int) - 1).toNat = x - 1 by omega]; congr 1; omega
            rw [hcx]
            refine CondP.ndec (fun q2 => ?_) (fun q2 => ?_)
            · have q2' : Lib.hasPrefix (s.drop (x - 1)) [42, 47] = false := by rw [Bool.eq_false_iff]; exact fun g => q2 ((pre2 _ _ _).1 g)
              conv => whnf
              refine Or.inl ⟨InR.i64 (by omega) (by omega), ?_⟩
              conv => whnf
              exact ⟨⟨rfl, e, x + 1, rfl, ⟨by omega, by omega, by omega⟩, hE, hp2, more (fun _ => q2') (fun _ => q1')⟩, (show ((s.length : Int) + 1 - ((x : Int) + 1)).toNat < ((s.length : Int) + 1 - (x : Int)).toNat by omega)⟩
            · have q2' : Lib.hasPrefix (s.drop (x - 1)) [42, 47] = true := (pre2 _ _ _).2 q2
              conv => whnf
              refine Or.inl ⟨InR.i64 (by omega) (by omega), ?_⟩
              conv => whnf
              refine CondP.dec (fun q3 => ?_) (fun q3 => ?_)
              · have q3' : x = e + 2 := by omega
                conv => whnf
                refine Or.inl ⟨InR.i64 (by omega) (by omega), ?_⟩
                conv => whnf
                exact ⟨⟨rfl, e, x + 1, rfl, ⟨by omega, by omega, by omega⟩, hE, hp2, more (fun g => by omega) (fun _ => q1')⟩, (show ((s.length : Int) + 1 - ((x : Int) + 1)).toNat < ((s.length : Int) + 1 - (x : Int)).toNat by omega)⟩
              · have q3' : e + 2 < x := by omega
                have hi : Lib.index ((s.drop e).drop 2) [42, 47] = ((x - 1 - (e + 2) : Nat) : Int) := by
                  rw [hdd, hx q3', index_hit q2' (by simp)]; unfold shiftI; rw [if_neg (by omega)]; omega
                have hb := blankF_rem hp2 _ hi
                rw [List.drop_drop, show e + (x - 1 - (e + 2) + 4) = x + 1 by omega] at hb
                conv => whnf
                refine CondP.dec (fun q4 => absurd q4 (by omega)) (fun q4 => ?_)
                conv => whnf
                refine Or.inl ⟨InR.i64 (by omega) (by omega), ?_⟩
                conv => whnf
                refine ⟨⟨rfl, x + 1, rfl, ⟨by omega, by omega⟩, ?_⟩, (show ((s.length : Int) - ((x : Int) + 1)).toNat < ((s.length : Int) - (e : Int)).toNat by omega)⟩
                rw [hE, hb]
                refine Prod.ext rfl ?_
                simp only; omega
          · have q1' : s.length ≤ x := by omega
            conv => whnf
            refine Or.inl ⟨InR.i64 (by omega) (by omega), ?_⟩
            conv => whnf
            refine CondP.dec (fun q3 => ?_) (fun q3 => ?_)
            · have q3' : x = e + 2 := by omega
              conv => whnf
              refine Or.inl ⟨InR.i64 (by omega) (by omega), ?_⟩
              conv => whnf
              exact ⟨⟨rfl, e, x + 1, rfl, ⟨by omega, by omega, by omega⟩, hE, hp2, more (fun g => by omega) (fun g => by omega)⟩, (show ((s.length : Int) + 1 - ((x : Int) + 1)).toNat < ((s.length : Int) + 1 - (x : Int)).toNat by omega)⟩
            · conv => whnf
              refine CondP.dec (fun q4 => ?_) (fun q4 => absurd (show (x : Int) ≥ s.length by omega) q4)
              conv => whnf
              exact out q1'
        · have hp2 : Lib.hasPrefix (s.drop e) [47, 42] = false := by rw [Bool.eq_false_iff]; exact fun g => k6 ((pre2 _ _ _).1 g)
          conv => whnf
          refine stop 0 ?_ rfl
          rw [hdh] at hp hp2 ⊢
          exact blankF_end hnw hp hp2
    · have h2' : e = s.length := by omega
      conv => whnf
      refine stop 0 ?_ rfl
      rw [h2', List.drop_length]; exact blankF_nil
  · exact h.elim
end Go.PM.Lex
