/- A part of the proof: plain logic, contracts and laws over the given program. -/
import Derived.Test.YtodfhajjdfbhgaaDoorQS3
import Derived.Lib.MapLaws
set_option linter.unusedVariables false
set_option linter.unusedSimpArgs false
set_option linter.all false
set_option maxRecDepth 100000
set_option maxHeartbeats 4000000
namespace Go.PM.Lex
open Go.Proofs
variable {w0 : World} {nG : Nat}
theorem dec_pk {r : Bs} (hr : r ≠ []) {c : Nat} (hc : c < 65533) : (Lib.decodeL r).1 = c ↔ (pk r).1 = (c : Int) := by
  unfold pk
  by_cases hv : Lib.decodeL r = (65533, 1)
  · rw [if_pos (.inr hv), hv]; simp only; omega
  · rw [if_neg (by simp only [not_or]; exact ⟨hr, hv⟩)]; simp only; omega
theorem pk_dec {r : Bs} (h : (pk r).1 ≠ -1) : r ≠ [] ∧ pk r = (((Lib.decodeL r).1 : Int), (Lib.decodeL r).2) ∧ Lib.encodeRune ((Lib.decodeL r).1 : Int) = r.take (Lib.decodeL r).2 := by
  by_cases hr : r = []
  · rw [hr] at h; simp [pk] at h
  · by_cases hv : Lib.decodeL r = (65533, 1)
    · unfold pk at h; rw [if_pos (.inr hv)] at h; simp at h
    · refine ⟨hr, by unfold pk; rw [if_neg (by simp only [not_or]; exact ⟨hr, hv⟩)], Lib.encode_decode r hr fun g => hv (Prod.ext g.1 g.2)⟩
theorem text_quote {f : Nat} {r out : Bs} {p : Nat} (hc : (pk r).1 = 34) : textGo (f + 1) r false out p = .ok out (p + 1) := by
  have hr : r ≠ [] := (pk_dec (by omega)).1
  have h1 := (dec_pk hr (c := 34) (by omega)).2 hc
  rw [textGo, if_neg hr, if_neg (by simp), if_pos h1]
theorem text_low {f : Nat} {r out : Bs} {p : Nat} (hr : r ≠ []) (h1 : (pk r).1 ≠ 34) (h2 : (pk r).1 ≠ 92) (hc : (pk r).1 < 32) : textGo (f + 1) r false out p = .err p := by
  rw [textGo, if_neg hr, if_neg (by simp), if_neg (fun g => h1 ((dec_pk hr (c := 34) (by omega)).1 g)), if_neg (fun g => h2 ((dec_pk hr (c := 92) (by omega)).1 g)), if_pos hc]
theorem text_on {f : Nat} {r out : Bs} {p : Nat} (h1 : (pk r).1 ≠ 34) (h2 : (pk r).1 ≠ 92) (hc : ¬ (pk r).1 < 32) : textGo (f + 1) r false out p = textGo f (r.drop (pk r).2) false (out ++ r.take (pk r).2) (p + (pk r).2) := by
  obtain ⟨hr, he, henc⟩ := pk_dec (show (pk r).1 ≠ -1 by omega)
  rw [textGo, if_neg hr, if_neg (by simp), if_neg (fun g => h1 ((dec_pk hr (c := 34) (by omega)).1 g)), if_neg (fun g => h2 ((dec_pk hr (c := 92) (by omega)).1 g)), if_neg hc, henc]
  rw [he]
theorem text_esc {f : Nat} {r out : Bs} {p : Nat} (hc : (pk r).1 = 92) : textGo (f + 1) r false out p = textGo f (r.drop 1) true out (p + 1) := by
  have hr : r ≠ [] := (pk_dec (by omega)).1
  have h1 := (dec_pk hr (c := 92) (by omega)).2 hc
  have h2 := (pk_low r (by omega) (by omega)).2.2
  have h3 := (pk_dec (show (pk r).1 ≠ -1 by omega)).2.1
  rw [h3] at h2
  simp only at h2
  rw [textGo, if_neg hr, if_neg (by simp), if_neg (by omega), if_pos h1, h2]
theorem text_end (f : Nat) (e : Bool) (out : Bs) (p : Nat) : textGo f [] e out p = .err 0 := by
  cases f <;> simp [textGo]
theorem text_escd {f : Nat} {b : UInt8} {l out : Bs} {p : Nat} : textGo (f + 1) (b :: l) true out p = match escB b.toNat with
    | none => .err (p - 1)
    | some x => textGo f l false (out ++ [x]) (p + 1) := by
  have hr : b :: l ≠ [] := by simp
  have key : ∀ c : Nat, c < 128 → ((Lib.decodeL (b :: l)).1 = c ↔ b.toNat = c) := fun c hc => by
    rw [dec_pk hr (by omega), pk_byte (by simp) (by omega) (by omega)]
    simp only [List.getD_cons_zero]; omega
  have sz : b.toNat < 128 → (Lib.decodeL (b :: l)).2 = 1 := fun h => by
    have h1 := (pk_byte (r := b :: l) (c := b.toNat) (by simp) (by omega) (by omega)).2 (by simp)
    have h2 := (pk_low (b :: l) (by omega) (by omega)).2.2
    have h3 := (pk_dec (r := b :: l) (by omega)).2.1
    rw [h3] at h2; exact h2
  have he : escB (Lib.decodeL (b :: l)).1 = escB b.toNat := by
    unfold escB
    simp only [key 110 (by omega), key 116 (by omega), key 34 (by omega), key 92 (by omega)]
  rw [textGo, if_neg hr, if_pos rfl, he]
  cases hx : escB b.toNat with
  | none => rfl
  | some x =>
    have : b.toNat < 128 := by
      unfold escB at hx
      (repeat' split at hx) <;> first | omega | cases hx
    rw [sz this]; rfl
noncomputable def spTextR : Spec := fun args σ K => match args, σ with
  | [.d (.str s), .d (.int .i64 a)], ⟨[], [], 0⟩ => (0 ≤ a ∧ a < s.length ∧ s.length < 4294967281) ∧
      (match textF (s.drop a.toNat) with
       | .ok t l => K (.ret (.tuple [tokPV 3 t 0 a (a + l), .d (.int .i64 (-1))])) ⟨[], [], 0⟩
       | .err p => K (.ret (.tuple [tokPV 0 [] 0 0 0, .d (.int .i64 (a + p))])) ⟨[], [], 0⟩)
  | _, _ => False
theorem spTextR_mono : SpecMono spTextR := fun args σ K K' hK h => by
  unfold spTextR at h ⊢; split at h
  · refine ⟨h.1, ?_⟩
    have h := h.2
    split at h <;> exact hK _ _ h
  · exact h.elim
noncomputable def tblTextR : Tbl := [(22, spRune)]
theorem textR_ok : PCalls (GG w0 nG) 18 spTextR := by
  refine pcallsN tab_ok mixed (tbl := tblTextR) ⟨⟨rune_ok, spRune_mono⟩, trivial⟩ Tryd.func18 rfl (by kernel_rfl) (by kernel_rfl) ?_
  intro args σ K h
  unfold spTextR at h
  split at h
  · rename_i s a
    obtain ⟨⟨h0, h1, hs⟩, h⟩ := h
    obtain ⟨a, rfl⟩ : ∃ n : Nat, a = n := ⟨a.toNat, by omega⟩
    simp only [Int.toNat_natCast] at h
    refine ⟨loopsOf [(3, ⟨[6, 7], [0, 1, 4], fun vs σ => ∃ (out : Bs) (i f : Nat), vs = [.sl 0 5 (bytesR out), .d (.int .i64 i)] ∧ σ = ⟨[.cells 31 [.d (.int .u8 0), .d (.str []), .d (.int .i64 0), .d (.int .i64 0), .d (.int .i64 0)]], [0], 1⟩ ∧ (a + 1 ≤ i ∧ i ≤ s.length ∧ s.length < i + f ∧ out.length ≤ i) ∧ textGo f (s.drop i) false out (i - a) = textF (s.drop a), fun vs _ => match vs with | [_, .d (.int _ n)] => ((s.length : Int) - n).toNat | _ => 0⟩)], unrOf [], tieOf [], 0, false, by simp, Nat.le_of_ble_eq_true rfl, ?_⟩
    conv => whnf
    refine Or.inl ⟨InR.i64 (by omega) (by omega), ?_⟩
    conv => whnf
    refine ⟨⟨[], a + 1, (s.drop a).length + 1, rfl, rfl, ⟨by omega, by omega, by rw [List.length_drop]; omega, by simp⟩, ?_⟩, ?_⟩
    · rw [textF, List.drop_drop, show a + 1 - a = 1 by omega]
    intro vs σ1 hI
    obtain ⟨out, i, f, rfl, rfl, ⟨hi0, hi1, hi2, hol⟩, hgo⟩ := hI
    obtain ⟨f, rfl⟩ : ∃ g, f = g + 1 := ⟨f - 1, by omega⟩
    have hbl := bytesR_len out
    have hpl := pk_len (s.drop i)
    have hpr := pk_rng (s.drop i)
    have hple := pk_le (s.drop i)
    have hok : ∀ t l, textF (s.drop a) = .ok t l → K (.ret (.tuple [tokPV 3 t 0 a (a + l), .d (.int .i64 (-1))])) ⟨[], [], 0⟩ := fun t l g => by rw [g] at h; exact h
    have herr : ∀ p, textF (s.drop a) = .err p → K (.ret (.tuple [tokPV 0 [] 0 0 0, .d (.int .i64 (a + p))])) ⟨[], [], 0⟩ := fun p g => by rw [g] at h; exact h
    have herr0 : textF (s.drop a) = .err 0 → K (.ret (.tuple [tokPV 0 [] 0 0 0, .d (.int .i64 a)])) ⟨[], [], 0⟩ := fun g => by have := herr 0 g; rw [show (a : Int) + ((0 : Nat) : Int) = a by omega] at this; exact this
    have herrI : textF (s.drop a) = .err (i - a) → K (.ret (.tuple [tokPV 0 [] 0 0 0, .d (.int .i64 i)])) ⟨[], [], 0⟩ := fun g => by have := herr _ g; rw [show (a : Int) + ((i - a : Nat) : Int) = i by omega] at this; exact this
    conv => whnf
    refine CondP.dec (fun h2 => ?_) (fun h2 => ?_)
    · have h2' : i < s.length := by omega
      have hdh := drop_head h2'
      have hne : s.drop i ≠ [] := by rw [hdh]; simp
      conv => whnf
      refine ⟨⟨by omega, by omega, hs⟩, ?_⟩
      conv => whnf
      generalize hc0 : (pk (s.drop ((i : Int)).toNat)).1 = c
      have hc : (pk (s.drop i)).1 = c := hc0
      have hp2 : c ≠ -1 → i + (pk (s.drop i)).2 ≤ s.length := fun g => by
        have := (hple (by rw [hc]; exact g)).2.1
        rw [List.length_drop] at this; omega
      refine CondP.dec (fun h3 => ?_) (fun h3 => ?_)
      · have g1 := text_quote (f := f) (out := out) (p := i - a) (r := s.drop i) (by rw [hc]; exact h3)
        rw [hgo] at g1
        conv => whnf
        refine ⟨out, rfl, ?_⟩
        conv => whnf
        refine Or.inl ⟨InR.i64 (by omega) (by omega), ?_⟩
        conv => whnf
        have := hok _ _ g1
        rw [show (a : Int) + ((i - a + 1 : Nat) : Int) = (i : Int) + 1 by omega] at this
        exact this
      · conv => whnf
        refine CondP.dec (fun h4 => ?_) (fun h4 => ?_)
        · have g1 := text_esc (f := f) (out := out) (p := i - a) (r := s.drop i) (by rw [hc]; exact h4)
          rw [hgo, List.drop_drop] at g1
          conv => whnf
          refine Or.inl ⟨InR.i64 (by omega) (by omega), ?_⟩
          conv => whnf
          refine CondP.dec (fun h5 => ?_) (fun h5 => ?_)
          · conv => whnf
            exact herr0 (by rw [g1, List.drop_eq_nil_of_le (by omega), text_end])
          · have h5' : i + 1 < s.length := by omega
            obtain ⟨f, rfl⟩ : ∃ g, f = g + 1 := ⟨f - 1, by omega⟩
            rw [drop_head h5', text_escd] at g1
            obtain ⟨b, hb⟩ : ∃ b, b = s.getD (i + 1) 0 := ⟨_, rfl⟩
            have hbt := b.toNat_lt
            have hbi : s.getD (((i : Int) + 1)).toNat 0 = b := by rw [hb]; congr 1
            rw [← hb] at g1
            have on : ∀ x : UInt8, escB b.toNat = some x → ∃ out' : Bs, bytesR out ++ [[.int .u8 (x.toNat : Int)]] = bytesR out' ∧ (a + 1 ≤ i + 2 ∧ i + 2 ≤ s.length ∧ s.length < i + 2 + f ∧ out'.length ≤ i + 2) ∧ textGo f (s.drop (i + 2)) false out' (i + 2 - a) = textF (s.drop a) := fun x hx => by
              refine ⟨out ++ [x], (bytesR_snoc _ _).symm, ⟨by omega, by omega, by omega, by simp; omega⟩, ?_⟩
              rw [g1, hx]
              simp only
              rw [show i - a + 1 + 1 = i + 2 - a by omega]
            conv => whnf
            refine Or.inl ⟨InR.i64 (by omega) (by omega), ?_⟩
            conv => whnf
            refine ⟨by omega, by omega, ?_⟩
            conv => whnf
            rw [hbi]
            have q : ∀ n : Nat, (b.toNat : Int) = n → b.toNat = n := fun n g => by omega
            refine CondP.dec (fun k1 => ?_) (fun k1 => ?_)
            · have k1' := q 110 k1
              conv => whnf
              refine ⟨fun r hr => by (simp at hr; rcases hr with rfl <;> rfl), (show ((bytesR out).length + 1) * 1 ≤ 2 ^ 47 by omega), (show (bytesR out).length + 1 ≤ 2 ^ 47 by omega), ?_⟩
              conv => whnf
              refine Or.inl ⟨InR.i64 (by omega) (by omega), ?_⟩
              conv => whnf
              obtain ⟨out', e1, e2, e3⟩ := on 10 (by rw [k1']; rfl)
              refine ⟨⟨out', i + 2, f, ?_, rfl, e2, e3⟩, (show ((s.length : Int) - ((i : Int) + 2)).toNat < ((s.length : Int) - (i : Int)).toNat by omega)⟩
              rw [← e1]; rfl
            conv => whnf
            refine CondP.dec (fun k2 => ?_) (fun k2 => ?_)
            · have k2' := q 116 k2
              conv => whnf
              refine ⟨fun r hr => by (simp at hr; rcases hr with rfl <;> rfl), (show ((bytesR out).length + 1) * 1 ≤ 2 ^ 47 by omega), (show (bytesR out).length + 1 ≤ 2 ^ 47 by omega), ?_⟩
              conv => whnf
              refine Or.inl ⟨InR.i64 (by omega) (by omega), ?_⟩
              conv => whnf
              obtain ⟨out', e1, e2, e3⟩ := on 9 (by rw [k2']; rfl)
              refine ⟨⟨out', i + 2, f, ?_, rfl, e2, e3⟩, (show ((s.length : Int) - ((i : Int) + 2)).toNat < ((s.length : Int) - (i : Int)).toNat by omega)⟩
              rw [← e1]; rfl
            conv => whnf
            refine CondP.dec (fun k3 => ?_) (fun k3 => ?_)
            · have k3' := q 34 k3
              conv => whnf
              refine CondP.dec (fun _ => ?_) (fun g => absurd k3 g)
              conv => whnf
              refine Or.inl ⟨InR.i64 (by omega) (by omega), ?_⟩
              conv => whnf
              refine ⟨by omega, by omega, ?_⟩
              conv => whnf
              rw [hbi]
              refine ⟨fun r hr => by (simp at hr; rcases hr with rfl <;> rfl), (show ((bytesR out).length + 1) * 1 ≤ 2 ^ 47 by omega), (show (bytesR out).length + 1 ≤ 2 ^ 47 by omega), ?_⟩
              conv => whnf
              refine Or.inl ⟨InR.i64 (by omega) (by omega), ?_⟩
              conv => whnf
              obtain ⟨out', e1, e2, e3⟩ := on 34 (by rw [k3']; rfl)
              refine ⟨⟨out', i + 2, f, ?_, rfl, e2, e3⟩, (show ((s.length : Int) - ((i : Int) + 2)).toNat < ((s.length : Int) - (i : Int)).toNat by omega)⟩
              rw [← e1, k3']; rfl
            conv => whnf
            refine CondP.dec (fun k4 => ?_) (fun k4 => ?_)
            · have k4' := q 92 k4
              conv => whnf
              refine Or.inl ⟨InR.i64 (by omega) (by omega), ?_⟩
              conv => whnf
              refine ⟨by omega, by omega, ?_⟩
              conv => whnf
              rw [hbi]
              refine ⟨fun r hr => by (simp at hr; rcases hr with rfl <;> rfl), (show ((bytesR out).length + 1) * 1 ≤ 2 ^ 47 by omega), (show (bytesR out).length + 1 ≤ 2 ^ 47 by omega), ?_⟩
              conv => whnf
              refine Or.inl ⟨InR.i64 (by omega) (by omega), ?_⟩
              conv => whnf
              obtain ⟨out', e1, e2, e3⟩ := on 92 (by rw [k4']; rfl)
              refine ⟨⟨out', i + 2, f, ?_, rfl, e2, e3⟩, (show ((s.length : Int) - ((i : Int) + 2)).toNat < ((s.length : Int) - (i : Int)).toNat by omega)⟩
              rw [← e1, k4']; rfl
            have hnone : escB b.toNat = none := by
              unfold escB
              rw [if_neg (fun g => k1 (by omega)), if_neg (fun g => k2 (by omega)), if_neg (fun g => k3 (by omega)), if_neg (fun g => k4 (by omega))]
            rw [hnone] at g1
            conv => whnf
            exact herrI (by rw [g1]; simp)
        · conv => whnf
          refine CondP.dec (fun h5 => ?_) (fun h5 => ?_)
          · have g1 := text_low (f := f) (out := out) (p := i - a) hne (by rw [hc]; exact h3) (by rw [hc]; exact h4) (by rw [hc]; exact h5)
            rw [hgo] at g1
            conv => whnf
            exact herrI g1
          · have g1 := text_on (f := f) (out := out) (p := i - a) (r := s.drop i) (by rw [hc]; exact h3) (by rw [hc]; exact h4) (by rw [hc]; exact h5)
            rw [hgo, List.drop_drop] at g1
            have g3 := hp2 (by omega)
            have ec : cut s ((i : Int)).toNat ((i : Int) + ((pk (s.drop ((i : Int)).toNat)).2 : Int)).toNat = (s.drop i).take (pk (s.drop i)).2 := by
              rw [cut_mid]; congr 1; simp only [Int.toNat_natCast]; omega
            have htl : ((s.drop i).take (pk (s.drop i)).2).length = (pk (s.drop i)).2 := by rw [List.length_take, List.length_drop]; omega
            conv => whnf
            refine Or.inl ⟨InR.i64 (by simp only [Int.toNat_natCast]; omega) (by simp only [Int.toNat_natCast]; omega), ?_⟩
            conv => whnf
            refine ⟨by omega, by simp only [Int.toNat_natCast]; omega, by simp only [Int.toNat_natCast]; omega, ?_⟩
            conv => whnf
            rw [ec]
            refine ⟨fun r hr => bytesR_one _ r hr, (show ((bytesR out).length + (bytesR ((s.drop i).take (pk (s.drop i)).2)).length) * 1 ≤ 2 ^ 47 by rw [bytesR_len, bytesR_len]; omega), (show (bytesR out).length + (bytesR ((s.drop i).take (pk (s.drop i)).2)).length ≤ 2 ^ 47 by rw [bytesR_len, bytesR_len]; omega), ?_⟩
            conv => whnf
            refine Or.inl ⟨InR.i64 (by simp only [Int.toNat_natCast]; omega) (by simp only [Int.toNat_natCast]; omega), ?_⟩
            conv => whnf
            refine ⟨⟨out ++ (s.drop i).take (pk (s.drop i)).2, i + (pk (s.drop i)).2, f, ?_, rfl, ⟨by omega, g3, by omega, by rw [List.length_append]; omega⟩, ?_⟩, ?_⟩
            · rw [bytesR_app]; rfl
            · rw [g1]; congr 1; omega
            · exact (show ((s.length : Int) - ((i : Int) + ((pk (s.drop i)).2 : Int))).toNat < ((s.length : Int) - (i : Int)).toNat by omega)
    · have g1 : textF (s.drop a) = .err 0 := by rw [← hgo, List.drop_eq_nil_of_le (by omega), text_end]
      conv => whnf
      exact herr0 g1
  · exact h.elim
end Go.PM.Lex
