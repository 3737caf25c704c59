/- A part of the proof: plain logic, contracts and laws over the given program. -/
import Derived.Test.YtodfhajjdfbhgaaDoorQS2
import Derived.Test.YtodfhajjdfbhgaaDoorQPU
set_option linter.unusedVariables false
set_option linter.unusedSimpArgs false
set_option linter.all false
set_option maxRecDepth 100000
set_option maxHeartbeats 4000000
namespace Go.PM.Lex
open Go.Proofs
variable {w0 : World} {nG : Nat}
theorem tw_at {p : UInt8 → Bool} : ∀ (l : Bs) (k : Nat), k ≤ (l.takeWhile p).length → (k < l.length → (p (l.getD k 0) = true ↔ k < (l.takeWhile p).length)) ∧ (l.length ≤ k → k = (l.takeWhile p).length) ∧ (k < (l.takeWhile p).length → k < l.length ∧ (l.takeWhile p).getD k 0 = l.getD k 0)
  | [], k, h => by simp at h; subst h; simp
  | b :: l, k, h => by
    by_cases hb : p b = true
    · rw [List.takeWhile_cons_of_pos hb] at h ⊢
      cases k with
      | zero => simp [hb]
      | succ k =>
        have ih := tw_at (p := p) l k (by simpa using h)
        simp only [List.length_cons, List.getD_cons_succ, Nat.add_lt_add_iff_right, Nat.add_le_add_iff_right]
        exact ⟨ih.1, fun g => by have := ih.2.1 g; omega, ih.2.2⟩
    · rw [List.takeWhile_cons_of_neg hb] at h ⊢
      simp only [List.length_nil, Nat.le_zero] at h
      subst h
      simp [hb]
theorem getD_drop' {s : Bs} {o k : Nat} : (s.drop o).getD k 0 = s.getD (o + k) 0 := by
  rw [List.getD_eq_getElem?_getD, List.getElem?_drop, ← List.getD_eq_getElem?_getD]
theorem hexV_dig (b : UInt8) : (0 ≤ hexV b.toNat ↔ digB true b = true) ∧ (digB true b = true → hexV b.toNat = digV b ∧ digV b < 16) := by
  have key : ∀ n : Fin 256, (0 ≤ hexV (n.val : Int) ↔ digB true (UInt8.ofNat n.val) = true) ∧ (digB true (UInt8.ofNat n.val) = true → hexV (n.val : Int) = digV (UInt8.ofNat n.val) ∧ digV (UInt8.ofNat n.val) < 16) := by decide +kernel
  have := key ⟨b.toNat, b.toNat_lt⟩
  simpa using this
theorem or_nib {m d : Nat} (hm : m < 2 ^ 60) (hd : d < 16) : bitsOf .or .u64 ((m : Int) * 16) (d : Int) = ((m * 16 + d : Nat) : Int) := by
  have e : bitsOf .or .u64 ((m : Int) * 16) (d : Int) = IntKind.u64.wrap (BitVec.ofInt 64 ((m : Int) * 16) ||| BitVec.ofInt 64 (d : Int)).toNat := by rw [bitsOf_eq]; rfl
  have h1 : (BitVec.ofInt 64 ((m : Int) * 16)).toNat = m * 16 := by
    rw [show (m : Int) * 16 = ((m * 16 : Nat) : Int) by simp, BitVec.ofInt_natCast, BitVec.toNat_ofNat]; omega
  have h2 : (BitVec.ofInt 64 (d : Int)).toNat = d := by rw [BitVec.ofInt_natCast, BitVec.toNat_ofNat]; omega
  have h3 : m * 16 ||| d = m * 16 + d := by
    have := Nat.two_pow_add_eq_or_of_lt (i := 4) (b := d) (by omega) m
    rw [show (2 : Nat) ^ 4 = 16 by rfl] at this
    rw [Nat.mul_comm m 16, ← this]
  rw [e, BitVec.toNat_or, h1, h2, h3]
  have : InR .u64 ((m * 16 + d : Nat) : Int) := InR.u64 (by omega) (by omega)
  exact this
theorem wrap_u64 (n : Int) : 0 ≤ IntKind.u64.wrap n ∧ IntKind.u64.wrap n < 18446744073709551616 := by
  unfold IntKind.wrap
  simp only [show IntKind.u64.bits = 64 from rfl, show IntKind.u64.signed = false from rfl, Bool.false_and]
  simp; omega
theorem or_range (x y : Int) : 0 ≤ bitsOf .or .u64 x y ∧ bitsOf .or .u64 x y < 18446744073709551616 := by
  have e : bitsOf .or .u64 x y = IntKind.u64.wrap (BitVec.ofInt 64 x ||| BitVec.ofInt 64 y).toNat := by rw [bitsOf_eq]; rfl
  rw [e]; exact wrap_u64 _
theorem numV_lt : ∀ (l : Bs), (∀ b ∈ l, digV b < 16) → numV 16 l < 16 ^ l.length := by
  intro l
  have key : ∀ (l : Bs) (n m : Nat), n < 16 ^ m → (∀ b ∈ l, digV b < 16) → l.foldl (fun n b => n * 16 + digV b) n < 16 ^ (m + l.length) := by
    intro l
    induction l with
    | nil => intro n m h _; exact h
    | cons b l ih =>
      intro n m h hb
      have h1 := hb b (by simp)
      have := ih (n * 16 + digV b) (m + 1) (by rw [Nat.pow_succ]; omega) (fun c hc => hb c (by simp [hc]))
      simpa [Nat.add_assoc, Nat.add_comm 1] using this
  intro hb
  have := key l 0 0 (by simp) hb
  simpa [numV] using this
noncomputable def spNumR : Spec := fun args σ K => match args, σ with
  | [.d (.str s), .d (.int .i64 a)], ⟨[], [], 0⟩ => (0 ≤ a ∧ a < s.length ∧ s.length < 4294967281 ∧ isDigit ((s.getD a.toNat 0).toNat : Int) = true) ∧
      (∀ n, numberF (s.drop a.toNat) = some n → K (.ret (.tuple [tokPV 2 [] (IntKind.i64.wrap n) a (a + numLen (s.drop a.toNat)), .d (.bool true)])) ⟨[], [], 0⟩) ∧
      (numberF (s.drop a.toNat) = none → ∀ n e : Int, K (.ret (.tuple [tokPV 2 [] n a e, .d (.bool false)])) ⟨[], [], 0⟩)
  | _, _ => False
theorem spNumR_mono : SpecMono spNumR := fun args σ K K' hK h => by
  unfold spNumR at h ⊢; split at h <;> first | exact ⟨h.1, fun n hn => hK _ _ (h.2.1 n hn), fun hn n e => hK _ _ (h.2.2 hn n e)⟩ | exact h.elim
noncomputable def tblNumR : Tbl := [(24, spHexR), (14, spDigit), (13, spLetAt)]
theorem numR_ok : PCalls (GG w0 nG) 17 spNumR := by
  refine pcallsN tab_ok mixed (tbl := tblNumR) ⟨⟨hexR_ok, spHexR_mono⟩, ⟨digitR_ok, spDigit_mono⟩, ⟨letAt_ok, spLetAt_mono⟩, trivial⟩ Tryd.func17 rfl (by kernel_rfl) (by kernel_rfl) ?_
  intro args σ K h
  unfold spNumR at h
  split at h
  · rename_i s a
    obtain ⟨⟨h0, h1, hs, hd0⟩, hgood, hbad⟩ := h
    obtain ⟨a, rfl⟩ : ∃ n : Nat, a = n := ⟨a.toNat, by omega⟩
    simp only [Int.toNat_natCast] at hgood hbad hd0
    have hcu : cut s ((a : Int)).toNat (min ((a : Int) + 2) (s.length : Int)).toNat = (s.drop a).take 2 := by
      rw [cut_mid]
      by_cases h4 : (a : Int) + 2 ≤ s.length
      · rw [Int.min_eq_left h4]; congr 1; omega
      · rw [Int.min_eq_right (by omega), List.take_of_length_le (by rw [List.length_drop]; omega), List.take_of_length_le (by rw [List.length_drop]; omega)]; rfl
    obtain ⟨r, hr⟩ : ∃ r, r = s.drop a := ⟨_, rfl⟩
    obtain ⟨D, hD⟩ : ∃ D, D = numDigits r := ⟨_, rfl⟩
    rw [← hr] at hgood hbad
    refine ⟨loopsOf [(6, ⟨[7], [0, 1, 4, 6, 8], fun vs σ => ∃ k n : Nat, vs = [.d (.int .u64 n)] ∧ σ = ⟨[.cells 31 [.d (.int .u8 0), .d (.str []), .d (.int .i64 0), .d (.int .i64 0), .d (.int .i64 0)], .cells 31 [.d (.int .u8 2), .d (.str []), .d (.int .i64 0), .d (.int .i64 a), .d (.int .i64 (a + 2 + k : Nat))]], [], 0⟩ ∧ (k ≤ D.length ∧ n < 18446744073709551616 ∧ (k ≤ 16 → n = numV 16 (D.take k))), fun _ σ => match σ.bx with | [_, .cells _ [_, _, _, _, .d (.int _ n)]] => ((s.length : Int) - n).toNat | _ => 0⟩),
      (10, ⟨[7, 8], [0, 1, 4, 6], fun vs σ => ∃ (k n : Nat) (ok : Bool), vs = [.d (.int .u64 n), .d (.bool ok)] ∧ σ = ⟨[.cells 31 [.d (.int .u8 0), .d (.str []), .d (.int .i64 0), .d (.int .i64 0), .d (.int .i64 0)], .cells 31 [.d (.int .u8 2), .d (.str []), .d (.int .i64 0), .d (.int .i64 a), .d (.int .i64 (a + k : Nat))]], [], 0⟩ ∧ (k ≤ D.length ∧ n < 18446744073709551616 ∧ ok = decide (numV 10 (D.take k) < 9223372036854775808) ∧ (ok = true → n = numV 10 (D.take k))), fun _ σ => match σ.bx with | [_, .cells _ [_, _, _, _, .d (.int _ n)]] => ((s.length : Int) - n).toNat | _ => 0⟩)], unrOf [], tieOf [], 0, false, by simp, Nat.le_of_ble_eq_true rfl, ?_⟩
    -- the end
    have fin : ∀ (e n : Nat) (ok : Bool), e = a + numLen r → (ok = true → D ≠ [] ∧ numV (if isHex r then 16 else 10) D < (if isHex r then 18446744073709551616 else 9223372036854775808) ∧ n = numV (if isHex r then 16 else 10) D ∧ ¬ (isHex r = true ∧ 16 < D.length)) →
        (ok = false → D = [] ∨ (if isHex r then 18446744073709551616 else 9223372036854775808) ≤ numV (if isHex r then 16 else 10) D ∨ (isHex r = true ∧ 16 < D.length)) →
        ∀ X : Bool, X = (ok && !isLetter (pk (s.drop e)).1 && !isDigit (pk (s.drop e)).1) → K (.ret (.tuple [.agg [.d (.int .u8 2), .d (.str []), .d (.int .i64 (IntKind.i64.wrap n)), .d (.int .i64 a), .d (.int .i64 e)], .d (.bool X)])) ⟨[], [], 0⟩ := fun e n ok he hok1 hok0 X hX => by
      have hdr : s.drop e = r.drop (numLen r) := by rw [hr, List.drop_drop, ← hr, he]
      have hcond : (numDigits r = [] ∨ (if isHex r then 18446744073709551616 else 9223372036854775808) ≤ numV (if isHex r then 16 else 10) (numDigits r) ∨ (isLetter (pk (r.drop (numLen r))).1 = true ∨ isDigit (pk (r.drop (numLen r))).1 = true ∨ (isHex r = true ∧ 16 < (numDigits r).length))) → numberF r = none := fun g => by
        unfold numberF
        by_cases g1 : numDigits r = []
        · rw [if_pos g1]
        rw [if_neg g1]
        by_cases g2 : (if isHex r then 18446744073709551616 else 9223372036854775808) ≤ numV (if isHex r then 16 else 10) (numDigits r)
        · rw [if_pos g2]
        rw [if_neg g2]
        rcases g with g | g | g
        · exact absurd g g1
        · exact absurd g g2
        · rw [if_pos g]
      rw [hdr] at hX
      rw [← hD] at hcond
      cases X with
      | false =>
        have : numberF r = none := by
          apply hcond
          cases ok with
          | false => rcases hok0 rfl with g | g | g <;> simp [g]
          | true =>
            simp only [Bool.true_and] at hX
            cases hl : isLetter (pk (r.drop (numLen r))).1 with
            | true => simp
            | false =>
              rw [hl] at hX
              cases hd : isDigit (pk (r.drop (numLen r))).1 with
              | true => simp
              | false => rw [hd] at hX; simp at hX
        exact hbad this _ _
      | true =>
        cases ok with
        | false => simp at hX
        | true =>
          obtain ⟨g1, g2, g3, g4⟩ := hok1 rfl
          cases hl : isLetter (pk (r.drop (numLen r))).1 with
          | true => rw [hl] at hX; simp at hX
          | false =>
            cases hd : isDigit (pk (r.drop (numLen r))).1 with
            | true => rw [hd] at hX; simp at hX
            | false =>
              have hn : numberF r = some n := by
                unfold numberF
                rw [← hD, if_neg g1, if_neg (by omega), if_neg (by rw [hl, hd]; simp only [Bool.false_eq_true, false_or]; exact g4), g3]
              have := hgood n hn
              rw [show (a : Int) + (numLen r : Int) = (e : Int) by omega] at this
              exact this
    conv => whnf
    refine Or.inl ⟨InR.i64 (by omega) (by omega), ?_⟩
    conv => whnf
    refine ⟨by omega, by omega, by omega, ?_⟩
    conv => whnf
    rw [hcu, ← hr]
    refine CondP.dec (fun k1 => ?_) (fun k1 => ?_)
    · have hx : isHex r = true := (pre2 _ _ _).2 k1
      have hl2 : a + 2 ≤ s.length := by have := (hasPrefix_two (show Lib.hasPrefix r [48, 120] = true from hx)).1; rw [hr, List.length_drop] at this; omega
      have hDe : D = (s.drop (a + 2)).takeWhile (digB true) := by rw [hD, numDigits, hx, if_pos rfl, hr, List.drop_drop]
      have hNl : numLen r = 2 + D.length := by rw [numLen, hx, if_pos rfl, hD]
      have htw : ∀ k, k ≤ D.length → (a + 2 + k < s.length → (digB true (s.getD (a + 2 + k) 0) = true ↔ k < D.length)) ∧ (s.length ≤ a + 2 + k → k = D.length) ∧ (k < D.length → a + 2 + k < s.length ∧ D.getD k 0 = s.getD (a + 2 + k) 0) := fun k hk => by
        have := tw_at (p := digB true) (s.drop (a + 2)) k (by rw [← hDe]; exact hk)
        rw [← hDe, getD_drop', List.length_drop] at this
        exact ⟨fun g => this.1 (by omega), fun g => this.2.1 (by omega), fun g => ⟨by have := (this.2.2 g).1; omega, (this.2.2 g).2⟩⟩
      have hDl : a + 2 + D.length ≤ s.length := by
        have := takeWhile_le (digB true) (s.drop (a + 2)); rw [← hDe, List.length_drop] at this; omega
      conv => whnf
      refine Or.inl ⟨InR.i64 (by omega) (by omega), ?_⟩
      conv => whnf
      refine ⟨⟨0, 0, rfl, rfl, by omega, by omega, fun _ => by simp [numV]⟩, ?_⟩
      intro vs σ1 hI
      obtain ⟨k, n, rfl, rfl, hk, hn, hnk⟩ := hI
      obtain ⟨t1, t2, t3⟩ := htw k hk
      have hbt := (s.getD (a + 2 + k) 0).toNat_lt
      have hbi : (s.getD (((a + 2 + k : Nat) : Int)).toNat 0) = s.getD (a + 2 + k) 0 := by rw [Int.toNat_natCast]
      have tail : k = D.length → ∀ okb : Bool, okb = (decide (0 < k) && decide (k ≤ 16)) → ∀ X : Bool, X = (okb && !isLetter (pk (s.drop (a + 2 + k))).1 && !isDigit (pk (s.drop (a + 2 + k))).1) →
          K (.ret (.tuple [.agg [.d (.int .u8 2), .d (.str []), .d (.int .i64 (IntKind.i64.wrap n)), .d (.int .i64 a), .d (.int .i64 (a + 2 + k : Nat))], .d (.bool X)])) ⟨[], [], 0⟩ := fun hkD okb hok X hX => by
        refine fin (a + 2 + k) n okb (by rw [hNl]; omega) (fun g => ?_) (fun g => ?_) X hX
        · rw [hok] at g
          simp only [Bool.and_eq_true, decide_eq_true_eq] at g
          have hv := hnk g.2
          rw [hkD, List.take_length] at hv
          rw [hx]
          simp only [if_true]
          exact ⟨fun e => by rw [e] at hkD; simp at hkD; omega, by omega, hv, by omega⟩
        · rw [hok] at g
          simp only [Bool.and_eq_false_iff, decide_eq_false_iff_not] at g
          rcases g with g | g
          · exact .inl (List.eq_nil_of_length_eq_zero (by omega))
          · exact .inr (.inr ⟨hx, by omega⟩)
      conv => whnf
      refine CondP.dec (fun q1 => ?_) (fun q1 => ?_)
      · have q1' : a + 2 + k < s.length := by omega
        conv => whnf
        refine ⟨by omega, by omega, ?_⟩
        conv => whnf
        rw [hbi]
        refine ⟨⟨by omega, by omega⟩, ?_⟩
        have hxd := hexV_dig (s.getD (a + 2 + k) 0)
        generalize hxv : hexV ((s.getD (a + 2 + k) 0).toNat : Int) = v at hxd ⊢
        obtain ⟨m, rfl⟩ | ⟨m, rfl⟩ : (∃ m : Nat, v = m) ∨ (∃ m : Nat, v = Int.negSucc m) := by
          cases v with
          | ofNat m => exact .inl ⟨m, rfl⟩
          | negSucc m => exact .inr ⟨m, rfl⟩
        · have q2' : digB true (s.getD (a + 2 + k) 0) = true := hxd.1.1 (by omega)
          have hlt : k < D.length := (t1 q1').1 q2'
          obtain ⟨d1, d2⟩ := hxd.2 q2'
          have hnext : k + 1 ≤ 16 → numV 16 (D.take (k + 1)) = n * 16 + m ∧ n < 2 ^ 60 := fun g => by
            have h1 := hnk (by omega)
            have hall : ∀ b ∈ D.take k, digV b < 16 := fun b hb => by
              have := takeWhile_all (digB true) (s.drop (a + 2))
              rw [← hDe, List.all_eq_true] at this
              exact ((hexV_dig b).2 (this b (List.mem_of_mem_take hb))).2
            have h2 := numV_lt _ hall
            have h3 : (16 : Nat) ^ (D.take k).length ≤ 16 ^ 15 := Nat.pow_le_pow_right (by omega) (by rw [List.length_take]; omega)
            rw [take_snoc hlt, numV_snoc, ← h1, (t3 hlt).2]
            exact ⟨by omega, by rw [h1]; omega⟩
          have fin2 : ∀ (x : Int), (k + 1 ≤ 16 → x = (n : Int) * 16) → ∃ n' : Nat, bitsOf .or .u64 x (m : Int) = n' ∧ n' < 18446744073709551616 ∧ (k + 1 ≤ 16 → n' = numV 16 (D.take (k + 1))) := fun x hx => by
            have := or_range x (m : Int)
            refine ⟨(bitsOf .or .u64 x (m : Int)).toNat, by omega, by omega, fun g => ?_⟩
            obtain ⟨g1, g2⟩ := hnext g
            rw [hx g, or_nib g2 (by omega), g1]; omega
          conv => whnf
          refine ⟨by omega, ?_⟩
          conv => whnf
          by_cases hk16 : k + 1 ≤ 16
          · have := (hnext hk16).2
            have e0 : (2 : Int) ^ (min (Int.toNat 4) IntKind.u64.bits) = 16 := rfl
            refine Or.inl ⟨InR.u64 (by rw [e0]; omega) (by rw [e0]; omega), ?_⟩
            obtain ⟨n', e1, e2, e3⟩ := fin2 ((n : Int) * 2 ^ (min (Int.toNat 4) IntKind.u64.bits)) (fun _ => rfl)
            conv => whnf
            refine ⟨by omega, by omega, ?_⟩
            conv => whnf
            rw [hbi]
            refine ⟨⟨by omega, by omega⟩, ?_⟩
            rw [hxv]
            conv => whnf
            refine Or.inl ⟨InR.u64 (by omega) (by omega), ?_⟩
            conv => whnf
            refine Or.inl ⟨InR.i64 (by omega) (by omega), ?_⟩
            rw [e1]
            conv => whnf
            exact ⟨⟨k + 1, n', rfl, rfl, by omega, e2, e3⟩, (show ((s.length : Int) - (((a + 2 + k : Nat) : Int) + 1)).toNat < ((s.length : Int) - ((a + 2 + k : Nat) : Int)).toNat by omega)⟩
          · refine Or.inr ?_
            obtain ⟨n', e1, e2, e3⟩ := fin2 (IntKind.u64.wrap ((n : Int) * 2 ^ (min (Int.toNat 4) IntKind.u64.bits))) (fun g => absurd g hk16)
            conv => whnf
            refine ⟨by omega, by omega, ?_⟩
            conv => whnf
            rw [hbi]
            refine ⟨⟨by omega, by omega⟩, ?_⟩
            rw [hxv]
            conv => whnf
            refine Or.inl ⟨InR.u64 (by omega) (by omega), ?_⟩
            conv => whnf
            refine Or.inl ⟨InR.i64 (by omega) (by omega), ?_⟩
            rw [e1]
            conv => whnf
            exact ⟨⟨k + 1, n', rfl, rfl, by omega, e2, e3⟩, (show ((s.length : Int) - (((a + 2 + k : Nat) : Int) + 1)).toNat < ((s.length : Int) - ((a + 2 + k : Nat) : Int)).toNat by omega)⟩
        · have q2' : k = D.length := by
            have : ¬ k < D.length := fun g => by have := hxd.1.2 ((t1 q1').2 g); omega
            omega
          conv => whnf
          refine Or.inl ⟨InR.i64 (by omega) (by omega), ?_⟩
          conv => whnf
          refine CondP.dec (fun z0 => ?_) (fun z0 => ?_)
          · conv => whnf
            refine Or.inl ⟨InR.i64 (by omega) (by omega), ?_⟩
            conv => whnf
            refine Or.inr ?_
            conv => whnf
            refine CondP.dec (fun z1 => ?_) (fun z1 => ?_)
            · conv => whnf
              refine ⟨⟨by omega, by omega⟩, ?_⟩
              conv => whnf
              repeat (refine ⟨rfl, ?_⟩; conv => whnf)
              refine CondP.intro (fun z2 => ?_) (fun z2 => ?_)
              · have z2' : isLetter (pk (s.drop (a + 2 + k))).1 = false := by rw [Int.toNat_natCast] at z2; simpa only [Bool.not_eq_true'] using z2
                conv => whnf
                refine CondP.dec (fun z3 => ?_) (fun z3 => ?_)
                · conv => whnf
                  repeat (refine ⟨rfl, ?_⟩; conv => whnf)
                  refine tail q2' true (by rw [decide_eq_true (show 0 < k by omega), decide_eq_true (show k ≤ 16 by omega)]; rfl) true ?_
                  rw [z2', List.drop_eq_nil_of_le (show s.length ≤ a + 2 + k by omega)]; rfl
                · have z3' : a + 2 + k < s.length := by omega
                  have hdg := dig_byte (r := s.drop (a + 2 + k)) (by rw [List.length_drop]; omega)
                  rw [getD_drop', Nat.add_zero] at hdg
                  conv => whnf
                  refine ⟨by omega, by omega, ?_⟩
                  conv => whnf
                  rw [hbi]
                  refine Or.inl ⟨InR.i32 (by omega) (by omega), ?_⟩
                  conv => whnf
                  repeat (refine ⟨rfl, ?_⟩; conv => whnf)
                  refine tail q2' true (by rw [decide_eq_true (show 0 < k by omega), decide_eq_true (show k ≤ 16 by omega)]; rfl) _ ?_
                  rw [z2', hdg]; simp
              · have z2' : isLetter (pk (s.drop (a + 2 + k))).1 = true := by rw [Int.toNat_natCast] at z2; simpa only [Bool.not_eq_false'] using z2
                conv => whnf
                repeat (refine ⟨rfl, ?_⟩; conv => whnf)
                refine tail q2' true (by rw [decide_eq_true (show 0 < k by omega), decide_eq_true (show k ≤ 16 by omega)]; rfl) false ?_
                rw [z2']; rfl
            · conv => whnf
              repeat (refine ⟨rfl, ?_⟩; conv => whnf)
              refine tail q2' false (by rw [decide_eq_false (show ¬ k ≤ 16 by omega)]; simp) false (by simp)
          · conv => whnf
            refine Or.inr ?_
            conv => whnf
            repeat (refine ⟨rfl, ?_⟩; conv => whnf)
            refine tail q2' false (by rw [decide_eq_false (show ¬ 0 < k by omega)]; simp) false (by simp)
      · have q1' : k = D.length := t2 (by omega)
        conv => whnf
        refine Or.inl ⟨InR.i64 (by omega) (by omega), ?_⟩
        conv => whnf
        refine CondP.dec (fun z0 => ?_) (fun z0 => ?_)
        · conv => whnf
          refine Or.inl ⟨InR.i64 (by omega) (by omega), ?_⟩
          conv => whnf
          refine Or.inr ?_
          conv => whnf
          refine CondP.dec (fun z1 => ?_) (fun z1 => ?_)
          · conv => whnf
            refine ⟨⟨by omega, by omega⟩, ?_⟩
            conv => whnf
            repeat (refine ⟨rfl, ?_⟩; conv => whnf)
            refine CondP.intro (fun z2 => ?_) (fun z2 => ?_)
            · have z2' : isLetter (pk (s.drop (a + 2 + k))).1 = false := by rw [Int.toNat_natCast] at z2; simpa only [Bool.not_eq_true'] using z2
              conv => whnf
              refine CondP.dec (fun z3 => ?_) (fun z3 => ?_)
              · conv => whnf
                repeat (refine ⟨rfl, ?_⟩; conv => whnf)
                refine tail q1' true (by rw [decide_eq_true (show 0 < k by omega), decide_eq_true (show k ≤ 16 by omega)]; rfl) true ?_
                rw [z2', List.drop_eq_nil_of_le (show s.length ≤ a + 2 + k by omega)]; rfl
              · have z3' : a + 2 + k < s.length := by omega
                have hdg := dig_byte (r := s.drop (a + 2 + k)) (by rw [List.length_drop]; omega)
                rw [getD_drop', Nat.add_zero] at hdg
                conv => whnf
                refine ⟨by omega, by omega, ?_⟩
                conv => whnf
                rw [hbi]
                refine Or.inl ⟨InR.i32 (by omega) (by omega), ?_⟩
                conv => whnf
                repeat (refine ⟨rfl, ?_⟩; conv => whnf)
                refine tail q1' true (by rw [decide_eq_true (show 0 < k by omega), decide_eq_true (show k ≤ 16 by omega)]; rfl) _ ?_
                rw [z2', hdg]; simp
            · have z2' : isLetter (pk (s.drop (a + 2 + k))).1 = true := by rw [Int.toNat_natCast] at z2; simpa only [Bool.not_eq_false'] using z2
              conv => whnf
              repeat (refine ⟨rfl, ?_⟩; conv => whnf)
              refine tail q1' true (by rw [decide_eq_true (show 0 < k by omega), decide_eq_true (show k ≤ 16 by omega)]; rfl) false ?_
              rw [z2']; rfl
          · conv => whnf
            repeat (refine ⟨rfl, ?_⟩; conv => whnf)
            refine tail q1' false (by rw [decide_eq_false (show ¬ k ≤ 16 by omega)]; simp) false (by simp)
        · conv => whnf
          refine Or.inr ?_
          conv => whnf
          repeat (refine ⟨rfl, ?_⟩; conv => whnf)
          refine tail q1' false (by rw [decide_eq_false (show ¬ 0 < k by omega)]; simp) false (by simp)
    · have hx : isHex r = false := by rw [isHex, Bool.eq_false_iff]; exact fun g => k1 ((pre2 _ _ _).1 g)
      have hDe : D = (s.drop a).takeWhile (digB false) := by rw [hD, numDigits, hx, if_neg (by simp), hr, List.drop_zero]
      have hNl : numLen r = D.length := by rw [numLen, hx, if_neg (by simp), hD, Nat.zero_add]
      have htw : ∀ k, k ≤ D.length → (a + k < s.length → (digB false (s.getD (a + k) 0) = true ↔ k < D.length)) ∧ (s.length ≤ a + k → k = D.length) ∧ (k < D.length → a + k < s.length ∧ D.getD k 0 = s.getD (a + k) 0) := fun k hk => by
        have := tw_at (p := digB false) (s.drop a) k (by rw [← hDe]; exact hk)
        rw [← hDe, getD_drop', List.length_drop] at this
        exact ⟨fun g => this.1 (by omega), fun g => this.2.1 (by omega), fun g => ⟨by have := (this.2.2 g).1; omega, (this.2.2 g).2⟩⟩
      have hDl : a + D.length ≤ s.length := by
        have := takeWhile_le (digB false) (s.drop a); rw [← hDe, List.length_drop] at this; omega
      conv => whnf
      refine ⟨⟨0, 0, true, rfl, rfl, by omega, by omega, by simp [numV], fun _ => by simp [numV]⟩, ?_⟩
      intro vs σ1 hI
      obtain ⟨k, n, ok, rfl, rfl, hk, hn, hok, hnk⟩ := hI
      obtain ⟨t1, t2, t3⟩ := htw k hk
      have hbt := (s.getD (a + k) 0).toNat_lt
      have hbi : (s.getD (((a + k : Nat) : Int)).toNat 0) = s.getD (a + k) 0 := by rw [Int.toNat_natCast]
      have hDne : D ≠ [] := fun g => by
        have hdb : digB false (s.getD a 0) = true := by rw [digB, hd0]; rfl
        have := ((htw 0 (by omega)).1 (by omega)).1 hdb
        rw [g] at this; simp at this
      have tail : k = D.length → ∀ okb : Bool, okb = ok → ∀ X : Bool, X = (okb && !isLetter (pk (s.drop (a + k))).1 && !isDigit (pk (s.drop (a + k))).1) →
          K (.ret (.tuple [.agg [.d (.int .u8 2), .d (.str []), .d (.int .i64 (IntKind.i64.wrap n)), .d (.int .i64 a), .d (.int .i64 (a + k : Nat))], .d (.bool X)])) ⟨[], [], 0⟩ := fun hkD okb hok' X hX => by
        subst hok'
        refine fin (a + k) n okb (by rw [hNl]; omega) (fun g => ?_) (fun g => ?_) X hX
        · have hv := hnk g
          rw [g] at hok
          rw [hkD, List.take_length] at hv hok
          have hok2 := of_decide_eq_true hok.symm
          rw [hx]
          simp only [Bool.false_eq_true, if_false, false_and, not_false_eq_true, and_true]
          exact ⟨hDne, by omega, hv⟩
        · rw [g] at hok
          rw [hkD, List.take_length] at hok
          have hok2 := of_decide_eq_false hok.symm
          rw [hx]
          simp only [Bool.false_eq_true, if_false]
          exact .inr (.inl (by omega))
      conv => whnf
      refine CondP.dec (fun q1 => ?_) (fun q1 => ?_)
      · have q1' : a + k < s.length := by omega
        conv => whnf
        refine ⟨by omega, by omega, ?_⟩
        conv => whnf
        rw [hbi]
        refine Or.inl ⟨InR.i32 (by omega) (by omega), ?_⟩
        have hdB : digB false (s.getD (a + k) 0) = isDigit ((s.getD (a + k) 0).toNat : Int) := by rw [digB]; simp
        conv => whnf
        refine CondP.intro (fun q2 => ?_) (fun q2 => ?_)
        · have q2' : digB false (s.getD (a + k) 0) = true := hdB.trans q2
          have hlt : k < D.length := (t1 q1').1 q2'
          have hdd := isDigit_iff.1 q2
          obtain ⟨d, hd⟩ : ∃ d : Nat, d = digV (s.getD (a + k) 0) := ⟨_, rfl⟩
          have hdv : ((s.getD (a + k) 0).toNat : Int) - 48 = (d : Int) := by rw [hd, digV, if_pos (by omega)]; omega
          have hv : numV 10 (D.take (k + 1)) = numV 10 (D.take k) * 10 + d := by rw [take_snoc hlt, numV_snoc, (t3 hlt).2, hd]
          have hle := numV_take_le 10 (by omega) (D.take (k + 1)) k
          rw [List.take_take, Nat.min_eq_left (by omega)] at hle
          conv => whnf
          refine ⟨by omega, by omega, ?_⟩
          conv => whnf
          rw [hbi]
          refine Or.inl ⟨InR.u8 (by omega) (by omega), ?_⟩
          conv => whnf
          rw [hdv]
          refine Or.inl ⟨InR.u64 (by omega) (by omega), ?_⟩
          conv => whnf
          refine Or.inl ⟨InR.u64 (by omega) (by omega), ?_⟩
          conv => whnf
          refine ⟨by omega, ?_⟩
          conv => whnf
          have htd : ((9223372036854775807 : Int) - (d : Int)).tdiv 10 = (9223372036854775807 - (d : Int)) / 10 := Int.tdiv_eq_ediv_of_nonneg (by omega)
          rw [htd]
          refine Or.inl ⟨InR.u64 (by omega) (by omega), ?_⟩
          conv => whnf
          have big : ∃ n' : Nat, IntKind.u64.wrap (IntKind.u64.wrap ((n : Int) * 10) + (d : Int)) = n' ∧ n' < 18446744073709551616 := by
            have := wrap_u64 (IntKind.u64.wrap ((n : Int) * 10) + (d : Int))
            exact ⟨(IntKind.u64.wrap (IntKind.u64.wrap ((n : Int) * 10) + (d : Int))).toNat, by omega, by omega⟩
          refine CondP.dec (fun z1 => ?_) (fun z1 => ?_)
          · obtain ⟨n', e1, e2⟩ := big
            have hf : false = decide (numV 10 (D.take (k + 1)) < 9223372036854775808) := by
              symm; apply decide_eq_false
              rw [hv]
              cases ok with
              | true => have := hnk rfl; omega
              | false => have := of_decide_eq_false hok.symm; omega
            conv => whnf
            refine Or.inr ?_
            conv => whnf
            refine Or.inr ?_
            rw [e1]
            conv => whnf
            refine Or.inl ⟨InR.i64 (by omega) (by omega), ?_⟩
            conv => whnf
            exact ⟨⟨k + 1, n', false, rfl, rfl, by omega, e2, hf, fun g => by cases g⟩, (show ((s.length : Int) - (((a + k : Nat) : Int) + 1)).toNat < ((s.length : Int) - ((a + k : Nat) : Int)).toNat by omega)⟩
          · cases ok with
            | true =>
              have hn1 := hnk rfl
              have hlt1 : n * 10 + d < 9223372036854775808 := by omega
              conv => whnf
              refine Or.inl ⟨InR.u64 (by omega) (by omega), ?_⟩
              conv => whnf
              refine Or.inl ⟨InR.u64 (by omega) (by omega), ?_⟩
              conv => whnf
              refine Or.inl ⟨InR.i64 (by omega) (by omega), ?_⟩
              conv => whnf
              exact ⟨⟨k + 1, n * 10 + d, true, rfl, rfl, by omega, by omega, by rw [hv, ← hn1]; exact (decide_eq_true hlt1).symm, fun _ => by rw [hv, hn1]⟩, (show ((s.length : Int) - (((a + k : Nat) : Int) + 1)).toNat < ((s.length : Int) - ((a + k : Nat) : Int)).toNat by omega)⟩
            | false =>
              obtain ⟨n', e1, e2⟩ := big
              have hf : false = decide (numV 10 (D.take (k + 1)) < 9223372036854775808) := by
                symm; apply decide_eq_false
                have := of_decide_eq_false hok.symm; omega
              conv => whnf
              refine Or.inr ?_
              conv => whnf
              refine Or.inr ?_
              rw [e1]
              conv => whnf
              refine Or.inl ⟨InR.i64 (by omega) (by omega), ?_⟩
              conv => whnf
              exact ⟨⟨k + 1, n', false, rfl, rfl, by omega, e2, hf, fun g => by cases g⟩, (show ((s.length : Int) - (((a + k : Nat) : Int) + 1)).toNat < ((s.length : Int) - ((a + k : Nat) : Int)).toNat by omega)⟩
        · have q2' : k = D.length := by
            have : ¬ k < D.length := fun g => by have := (t1 q1').2 g; rw [hdB, q2] at this; cases this
            omega
          conv => whnf
          refine Or.inr ?_
          conv => whnf
          cases ok with
          | true =>
            conv => whnf
            refine ⟨⟨by omega, by omega⟩, ?_⟩
            conv => whnf
            repeat (refine ⟨rfl, ?_⟩; conv => whnf)
            refine CondP.intro (fun z2 => ?_) (fun z2 => ?_)
            · have z2' : isLetter (pk (s.drop (a + k))).1 = false := by rw [Int.toNat_natCast] at z2; simpa only [Bool.not_eq_true'] using z2
              conv => whnf
              refine CondP.dec (fun z3 => ?_) (fun z3 => ?_)
              · conv => whnf
                repeat (refine ⟨rfl, ?_⟩; conv => whnf)
                refine tail q2' true rfl true ?_
                rw [z2', List.drop_eq_nil_of_le (show s.length ≤ a + k by omega)]; rfl
              · have z3' : a + k < s.length := by omega
                have hdg := dig_byte (r := s.drop (a + k)) (by rw [List.length_drop]; omega)
                rw [getD_drop', Nat.add_zero] at hdg
                conv => whnf
                refine ⟨by omega, by omega, ?_⟩
                conv => whnf
                rw [hbi]
                refine Or.inl ⟨InR.i32 (by omega) (by omega), ?_⟩
                conv => whnf
                repeat (refine ⟨rfl, ?_⟩; conv => whnf)
                refine tail q2' true rfl _ ?_
                rw [z2', hdg]; simp
            · have z2' : isLetter (pk (s.drop (a + k))).1 = true := by rw [Int.toNat_natCast] at z2; simpa only [Bool.not_eq_false'] using z2
              conv => whnf
              repeat (refine ⟨rfl, ?_⟩; conv => whnf)
              refine tail q2' true rfl false ?_
              rw [z2']; rfl
          | false =>
            conv => whnf
            repeat (refine ⟨rfl, ?_⟩; conv => whnf)
            refine tail q2' false rfl false (by simp)
      · have q1' : k = D.length := t2 (by omega)
        conv => whnf
        refine Or.inr ?_
        conv => whnf
        cases ok with
        | true =>
          conv => whnf
          refine ⟨⟨by omega, by omega⟩, ?_⟩
          conv => whnf
          repeat (refine ⟨rfl, ?_⟩; conv => whnf)
          refine CondP.intro (fun z2 => ?_) (fun z2 => ?_)
          · have z2' : isLetter (pk (s.drop (a + k))).1 = false := by rw [Int.toNat_natCast] at z2; simpa only [Bool.not_eq_true'] using z2
            conv => whnf
            refine CondP.dec (fun z3 => ?_) (fun z3 => ?_)
            · conv => whnf
              repeat (refine ⟨rfl, ?_⟩; conv => whnf)
              refine tail q1' true rfl true ?_
              rw [z2', List.drop_eq_nil_of_le (show s.length ≤ a + k by omega)]; rfl
            · have z3' : a + k < s.length := by omega
              have hdg := dig_byte (r := s.drop (a + k)) (by rw [List.length_drop]; omega)
              rw [getD_drop', Nat.add_zero] at hdg
              conv => whnf
              refine ⟨by omega, by omega, ?_⟩
              conv => whnf
              rw [hbi]
              refine Or.inl ⟨InR.i32 (by omega) (by omega), ?_⟩
              conv => whnf
              repeat (refine ⟨rfl, ?_⟩; conv => whnf)
              refine tail q1' true rfl _ ?_
              rw [z2', hdg]; simp
          · have z2' : isLetter (pk (s.drop (a + k))).1 = true := by rw [Int.toNat_natCast] at z2; simpa only [Bool.not_eq_false'] using z2
            conv => whnf
            repeat (refine ⟨rfl, ?_⟩; conv => whnf)
            refine tail q1' true rfl false ?_
            rw [z2']; rfl
        | false =>
          conv => whnf
          repeat (refine ⟨rfl, ?_⟩; conv => whnf)
          refine tail q1' false rfl false (by simp)
  · exact h.elim
end Go.PM.Lex
