/- A part of the proof: plain logic, contracts and laws over the given program. -/
import Derived.Test.YtodfhajjdfbhgaaDoorQS4
import Derived.Test.YtodfhajjdfbhgaaDoorQTile
set_option linter.unusedVariables false
set_option linter.unusedSimpArgs false
set_option linter.all false
set_option maxRecDepth 100000
set_option maxHeartbeats 4000000
namespace Go.PM.Lex
open Go.Proofs
variable {w0 : World} {nG : Nat}
theorem ones_none : ∀ b ∈ ones, b.toNat < 128 ∧ isLetter (b.toNat : Int) = false ∧ isDigit (b.toNat : Int) = false ∧ b.toNat ≠ 34 := by decide
theorem sign_head {r : Bs} (h : signF r ≠ 0) : r.getD 0 0 ∈ ones := by
  unfold signF at h
  split at h
  · rename_i g
    simp only [twos, List.any_cons, List.any_nil, Bool.or_eq_true, Bool.false_eq_true, or_false] at g
    rcases g with g | g | g | g | g <;> (rw [(hasPrefix_two g).2, List.getD_cons_zero]; decide)
  · split at h
    · rename_i g; exact List.contains_iff_mem.1 g
    · exact absurd rfl h
theorem sign_zero {r : Bs} (h0 : 0 < r.length) (h : isLetter (pk r).1 = true ∨ isDigit (pk r).1 = true ∨ (pk r).1 = 34) : signF r = 0 := by
  by_cases hs : signF r = 0
  · exact hs
  · obtain ⟨g1, g2, g3, g4⟩ := ones_none _ (sign_head hs)
    have := (pk_byte (c := (r.getD 0 0).toNat) h0 (by omega) (by omega)).2 rfl
    rw [this, g2, g3] at h
    rcases h with h | h | h
    · cases h
    · cases h
    · exact absurd h (by omega)
theorem letter_not {c : Int} (h : isLetter c = true) : isDigit c = false ∧ c ≠ 34 := by
  rw [isLetter_iff] at h
  refine ⟨?_, by omega⟩
  rw [Bool.eq_false_iff]; intro g; rw [isDigit_iff] at g; omega
theorem n_letter {a : Nat} {r : Bs} (h0 : 0 < r.length) (h : isLetter (pk r).1 = true) : nextF a r true = .tok ⟨1, r.take (nameF r), 0, a, a + nameF r⟩ := by
  obtain ⟨h1, h2⟩ := letter_not h
  have hs := sign_zero h0 (.inl h)
  simp only [nextF, hs, h, h1, h2]
  simp
theorem n_digit {a : Nat} {r : Bs} (h0 : 0 < r.length) (h : isDigit (pk r).1 = true) : nextF a r true = numberR a r := by
  have hs := sign_zero h0 (.inr (.inl h))
  have h2 : (pk r).1 ≠ 34 := by rw [isDigit_iff] at h; omega
  simp only [nextF, hs, h, h2]
  simp
theorem n_quote {a : Nat} {r : Bs} (h0 : 0 < r.length) (h : (pk r).1 = 34) : nextF a r true = textR a r := by
  have hs := sign_zero h0 (.inr (.inr h))
  simp only [nextF, hs, h]
  simp
theorem n_sign {a : Nat} {r : Bs} (h : 0 < signF r) : nextF a r true = .tok ⟨4, r.take (signF r), 0, a, a + signF r⟩ := by
  simp only [nextF]
  rw [if_neg (by omega), if_neg (by simp), if_pos h]
theorem n_none {a : Nat} {r : Bs} {room : Bool} (h : begF r = false) : nextF a r room = .bad a 140 := by
  simp only [begF, Bool.or_eq_false_iff, decide_eq_false_iff_not] at h
  obtain ⟨⟨⟨h1, h2⟩, h3⟩, h4⟩ := h
  simp only [nextF]
  rw [if_pos ⟨by omega, h3, h1, h2⟩]
theorem n_room {a : Nat} {r : Bs} (h : begF r = true) : nextF a r false = .bad a 3 := by
  have hn : ¬ (signF r = 0 ∧ (pk r).1 ≠ 34 ∧ isLetter (pk r).1 = false ∧ isDigit (pk r).1 = false) := by
    rintro ⟨g1, g2, g3, g4⟩
    simp only [begF, g1, g3, g4, g2] at h
    simp at h
  simp only [nextF]
  rw [if_neg hn]
  simp
noncomputable def spOneR : Spec := fun args σ K => match args, σ with
  | [.d (.str s), .d (.int .i64 a)], ⟨[], [], 0⟩ => (0 ≤ a ∧ a < s.length ∧ s.length < 4294967281 ∧ begF (s.drop a.toNat) = true) ∧
      (match nextF a.toNat (s.drop a.toNat) true with
       | .tok t => K (.ret (.tuple [tokPV t.kind t.text t.n t.at' t.fin, .d (.int .i64 0), .d (.int .i64 0)])) ⟨[], [], 0⟩
       | .bad p e => K (.ret (.tuple [tokPV 0 [] 0 0 0, .d (.int .i64 p), .d (.int .i64 e)])) ⟨[], [], 0⟩)
  | _, _ => False
theorem spOneR_mono : SpecMono spOneR := fun args σ K K' hK h => by
  unfold spOneR at h ⊢; split at h
  · refine ⟨h.1, ?_⟩
    have h := h.2
    split at h <;> exact hK _ _ h
  · exact h.elim
noncomputable def tblOneR : Tbl := [(13, spLetAt), (16, spNameR), (14, spDigit), (17, spNumR), (18, spTextR), (15, spSignR)]
theorem oneR_ok : PCalls (GG w0 nG) 10 spOneR := by
  refine pcallsN tab_ok mixed (tbl := tblOneR) ⟨⟨letAt_ok, spLetAt_mono⟩, ⟨nameR_ok, spNameR_mono⟩, ⟨digitR_ok, spDigit_mono⟩, ⟨numR_ok, spNumR_mono⟩, ⟨textR_ok, spTextR_mono⟩, ⟨signR_ok, spSignR_mono⟩, trivial⟩ Tryd.func10 rfl (by kernel_rfl) (by kernel_rfl) ?_
  intro args σ K h
  unfold spOneR at h
  split at h
  · rename_i s a
    obtain ⟨⟨h0, h1, hs, hb⟩, h⟩ := h
    obtain ⟨a, rfl⟩ : ∃ n : Nat, a = n := ⟨a.toNat, by omega⟩
    simp only [Int.toNat_natCast] at h hb
    have hr0 : 0 < (s.drop a).length := by rw [List.length_drop]; omega
    have hdg := dig_byte hr0
    have h34 := pk_byte hr0 (c := 34) (by omega) (by omega)
    rw [Lib.getD_dropU, Nat.add_zero] at hdg h34
    have hbt := (s.getD a 0).toNat_lt
    have hbi : s.getD ((a : Int)).toNat 0 = s.getD a 0 := by rw [Int.toNat_natCast]
    refine ⟨loopsOf [], unrOf [], tieOf [], 0, false, by decide, Nat.le_of_ble_eq_true rfl, ?_⟩
    conv => whnf
    refine ⟨⟨h0, hs⟩, ?_⟩
    conv => whnf
    refine CondP.intro (fun h2 => ?_) (fun h2 => ?_)
    · have h2' : isLetter (pk (s.drop a)).1 = true := h2
      rw [n_letter hr0 h2'] at h
      conv => whnf
      refine ⟨⟨h0, by omega, hs, h2'⟩, ?_⟩
      conv => whnf
      have e1 : cut s ((a : Int)).toNat (((a : Int)).toNat + nameF (s.drop ((a : Int)).toNat)) = (s.drop a).take (nameF (s.drop a)) := by rw [cut_mid]; congr 1; simp only [Int.toNat_natCast]; omega
      rw [e1]
      simp only [Int.natCast_add] at h
      exact h
    · have h2' : isLetter (pk (s.drop a)).1 = false := h2
      conv => whnf
      refine ⟨h0, h1, ?_⟩
      conv => whnf
      rw [hbi]
      refine Or.inl ⟨InR.i32 (by omega) (by omega), ?_⟩
      conv => whnf
      refine CondP.intro (fun h3 => ?_) (fun h3 => ?_)
      · have h3' : isDigit (pk (s.drop a)).1 = true := hdg.trans h3
        rw [n_digit hr0 h3', numberR] at h
        conv => whnf
        refine ⟨⟨h0, h1, hs, h3⟩, fun n hn => ?_, fun hn n e => ?_⟩
        · rw [show numberF (s.drop a) = some n from hn] at h
          conv => whnf
          simp only [Int.natCast_add] at h
          exact h
        · rw [show numberF (s.drop a) = none from hn] at h
          conv => whnf
          exact h
      · have h3' : isDigit (pk (s.drop a)).1 = false := hdg.trans h3
        conv => whnf
        refine ⟨h0, h1, ?_⟩
        conv => whnf
        rw [hbi]
        refine CondP.dec (fun h4 => ?_) (fun h4 => ?_)
        · have h4' := h34.2 h4
          rw [n_quote hr0 h4', textR] at h
          conv => whnf
          refine ⟨⟨h0, h1, hs⟩, ?_⟩
          rw [Int.toNat_natCast]
          cases hT : textF (s.drop a) with
          | ok t l =>
            rw [hT] at h
            conv => whnf
            simp only [Int.natCast_add] at h
            exact h
          | err p =>
            rw [hT] at h
            conv => whnf
            simp only [Int.natCast_add] at h
            exact h
        · have hsg : 0 < signF (s.drop a) := by
            rw [begF, h2', h3', decide_eq_false (fun g => h4 (h34.1 g))] at hb
            simpa using hb
          have hsb : signF (s.drop a) ≤ (s.drop a).length := by
            have := nextF_tok (a := a) hr0 (n_sign (a := a) hsg)
            simp only at this; omega
          have hsl : ((s.drop a).take (signF (s.drop a))).length = signF (s.drop a) := by
            rw [List.length_take]; omega
          rw [List.length_drop] at hsb
          rw [n_sign hsg] at h
          conv => whnf
          refine ⟨⟨h0, h1, hs⟩, ?_⟩
          conv => whnf
          refine Or.inl ⟨InR.i64 (by simp only [Int.toNat_natCast, hsl]; omega) (by simp only [Int.toNat_natCast, hsl]; omega), ?_⟩
          conv => whnf
          simp only [Int.toNat_natCast, hsl]
          simp only [Int.natCast_add] at h
          exact h
  · exact h.elim
/-- The tokens as far as they go. -/
noncomputable def spAllR : Spec := fun args σ K => match args, σ with
  | [.d (.str s), .d (.int .i64 m)], ⟨[], [], 0⟩ => s.length < 4294967281 ∧
      K (.ret (.tuple [.d (.sl (toksR (allF s m).1)), .d (.int .i64 (allF s m).2.1), .d (.int .i64 (allF s m).2.2)])) ⟨[], [], 0⟩
  | _, _ => False
theorem spAllR_mono : SpecMono spAllR := fun args σ K K' hK h => by
  unfold spAllR at h ⊢; split at h <;> first | exact ⟨h.1, hK _ _ h.2⟩ | exact h.elim
noncomputable def tblAllR : Tbl := [(8, spBlankR), (9, spBegR), (10, spOneR)]
theorem allR_ok : PCalls (GG w0 nG) 5 spAllR := by
  refine pcallsN tab_ok mixed (tbl := tblAllR) ⟨⟨blankR_ok, spBlankR_mono⟩, ⟨begR_ok, spBegR_mono⟩, ⟨oneR_ok, spOneR_mono⟩, trivial⟩ Tryd.func5 rfl (by kernel_rfl) (by kernel_rfl) ?_
  intro args σ K h
  unfold spAllR at h
  split at h
  · rename_i s m
    obtain ⟨hs, h⟩ := h
    refine ⟨loopsOf [(3, ⟨[7, 8], [0, 1], fun vs σ => ∃ (l : List Tok) (e f : Nat), vs = [.sl 0 31 (toksR l), .d (.int .i64 e)] ∧ σ = ⟨[], [0], 1⟩ ∧
      (e ≤ s.length ∧ s.length < e + f ∧ l.length ≤ e) ∧ allF s m = (l ++ (allGo f (m - l.length) e (s.drop e)).1, (allGo f (m - l.length) e (s.drop e)).2), fun vs _ => match vs with | [_, .d (.int _ n)] => ((s.length : Int) - n).toNat | _ => 0⟩)], unrOf [], tieOf [], 0, false, by simp, Nat.le_of_ble_eq_true rfl, ?_⟩
    conv => whnf
    refine ⟨⟨[], 0, s.length + 1, rfl, rfl, ⟨by omega, by omega, by simp⟩, by simp [allF]⟩, ?_⟩
    intro vs σ1 hI
    obtain ⟨l, e, f, rfl, rfl, ⟨he1, he2, hle⟩, hall⟩ := hI
    obtain ⟨f, rfl⟩ : ∃ g, f = g + 1 := ⟨f - 1, by omega⟩
    have hbl : (blankF (s.drop e)).2 ≤ s.length - e := by have : (blankF (s.drop e)).2 ≤ (s.drop e).length := blank_len _ _; rw [List.length_drop] at this; exact this
    have hend : ∀ p c : Nat, allGo (f + 1) (m - l.length) e (s.drop e) = ([], (p, c)) → K (.ret (.tuple [.d (.sl (toksR l)), .d (.int .i64 p), .d (.int .i64 c)])) ⟨[], [], 0⟩ := fun p c g => by
      rw [hall, g] at h
      simp only [List.append_nil] at h
      exact h
    have hb0 : s.drop ((e : Int)).toNat = s.drop e := by rw [Int.toNat_natCast]
    conv => whnf
    refine ⟨⟨by omega, by omega, hs⟩, ?_⟩
    rw [hb0]
    obtain ⟨k, hk⟩ : ∃ k, k = (blankF (s.drop e)).2 := ⟨_, rfl⟩
    rw [← hk]
    rw [← hk] at hbl
    cases hok : (blankF (s.drop e)).1 with
    | false =>
      have g1 := hend (e + k) 140 (by rw [allGo, if_pos hok, hk])
      rw [Int.natCast_add] at g1
      simp only [Bool.false_eq_true, if_false]
      conv => whnf
      exact g1
    | true =>
      have hb1 : ¬ (blankF (s.drop e)).1 = false := by rw [hok]; simp
      simp only [if_true]
      conv => whnf
      refine CondP.dec (fun h3 => ?_) (fun h3 => ?_)
      · have hnil : (s.drop e).drop k = [] := by rw [List.drop_drop]; exact List.drop_eq_nil_of_le (by omega)
        have g1 := hend 0 0 (by rw [allGo, if_neg hb1, ← hk, if_pos hnil])
        conv => whnf
        exact g1
      · have hlt : e + k < s.length := by omega
        have hne : ¬ (s.drop e).drop k = [] := fun g => by have := congrArg List.length g; rw [List.drop_drop, List.length_drop] at this; simp at this; omega
        have g1 : allGo (f + 1) (m - l.length) e (s.drop e) = (match nextF (e + k) (s.drop (e + k)) (decide ((l.length : Int) < m)) with
            | .bad p e => ([], (p, e))
            | .tok t => (t :: (allGo f (m - l.length - 1) t.fin ((s.drop (e + k)).drop (t.fin - (e + k)))).1, (allGo f (m - l.length - 1) t.fin ((s.drop (e + k)).drop (t.fin - (e + k)))).2)) := by
          rw [allGo, if_neg hb1, ← hk, if_neg hne, List.drop_drop, show (decide (0 < m - (l.length : Int))) = decide ((l.length : Int) < m) from by rw [decide_eq_decide]; omega]
          rfl
        have hek : s.drop ((e : Int) + (k : Int)).toNat = s.drop (e + k) := by rw [show ((e : Int) + (k : Int)).toNat = e + k by omega]
        conv => whnf
        refine ⟨⟨by omega, by omega, hs⟩, ?_⟩
        conv => whnf
        refine CondP.intro (fun h4 => ?_) (fun h4 => ?_)
        · rw [hek] at h4
          have h4' : begF (s.drop (e + k)) = false := by simpa using h4
          have g2 := hend _ _ (g1.trans (by rw [n_none h4']))
          conv => whnf
          exact g2
        · rw [hek] at h4
          have h4' : begF (s.drop (e + k)) = true := by simpa using h4
          conv => whnf
          refine CondP.dec (fun h5 => ?_) (fun h5 => ?_)
          · have h5' : ¬ (l.length : Int) < m := by have h5 : m ≤ ((toksR l).length : Int) := h5; rw [toksR_len] at h5; omega
            have g2 := hend _ _ (g1.trans (by rw [decide_eq_false h5', n_room h4']))
            conv => whnf
            exact g2
          · have h5' : (l.length : Int) < m := by have h5 : ¬ m ≤ ((toksR l).length : Int) := h5; rw [toksR_len] at h5; omega
            rw [decide_eq_true h5'] at g1
            conv => whnf
            refine ⟨⟨by omega, by omega, hs, by rw [hek]; exact h4'⟩, ?_⟩
            rw [hek, show ((e : Int) + (k : Int)).toNat = e + k by omega]
            cases hx : nextF (e + k) (s.drop (e + k)) true with
            | bad p c =>
              rw [hx] at g1
              have hc := nextF_bad hx
              have g2 := hend p c g1
              conv => whnf
              refine CondP.ndec (fun h6 => ?_) (fun h6 => absurd h6 (by have : ((c : Nat) : Int) ≠ 0 := by omega
                                                                        exact this))
              conv => whnf
              exact g2
            | tok t =>
              rw [hx] at g1
              obtain ⟨ht1, ht2, ht3⟩ := nextF_tok (by rw [List.length_drop]; omega) hx
              rw [List.length_drop] at ht3
              conv => whnf
              refine ⟨fun r hr => by (simp at hr; subst hr; rfl), (show ((toksR l).length + 1) * 48 ≤ 2 ^ 47 by rw [toksR_len]; omega), (show (toksR l).length + 1 ≤ 2 ^ 47 by rw [toksR_len]; omega), ?_⟩
              conv => whnf
              refine ⟨⟨l ++ [t], t.fin, f, ?_, rfl, ⟨by omega, by omega, by rw [List.length_append]; simp; omega⟩, ?_⟩, ?_⟩
              · rw [toksR_snoc]; rfl
              · have hd : (s.drop (e + k)).drop (t.fin - (e + k)) = s.drop t.fin := by rw [List.drop_drop, show e + k + (t.fin - (e + k)) = t.fin by omega]
                rw [hall, g1, List.length_append]
                simp only [hd, List.length_cons, List.length_nil, Int.natCast_add, Int.sub_sub, List.append_assoc, List.cons_append, List.nil_append]
                rfl
              · exact (show ((s.length : Int) - (t.fin : Int)).toNat < ((s.length : Int) - (e : Int)).toNat by omega)
  · exact h.elim
end Go.PM.Lex
