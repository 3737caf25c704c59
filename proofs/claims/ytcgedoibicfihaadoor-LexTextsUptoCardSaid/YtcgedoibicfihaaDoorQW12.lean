/- A part of the proof: plain logic, contracts and laws over the given program. -/
import Derived.Test.YtcgedoibicfihaaDoorQVal
import Derived.Test.YtcgedoibicfihaaDoorQQuo
import Derived.Test.YtcgedoibicfihaaDoorQW7
set_option linter.unusedVariables false
set_option linter.unusedSimpArgs false
set_option linter.all false
set_option maxRecDepth 100000
set_option maxHeartbeats 8000000
namespace Go.PM.Lex
open Go.Proofs
variable {w0 : World} {nG : Nat}
theorem une_none {n : Nat} (h : unesc n = none) : idxR [10, 9, 34, 92] n = -1 := by
  unfold unesc at h
  split at h; · cases h
  split at h; · cases h
  split at h; · cases h
  split at h; · cases h
  rename_i h1 h2 h3 h4
  unfold idxR
  split
  · rename_i h5
    have hc : ([10, 9, 34, 92] : Bs).contains ((n : Int).toNat.toUInt8) = false := by
      have b1 := byte_ne (n := n) (k := 10) (by omega) (by omega) h1
      have b2 := byte_ne (n := n) (k := 9) (by omega) (by omega) h2
      have b3 := byte_ne (n := n) (k := 34) (by omega) (by omega) h3
      have b4 := byte_ne (n := n) (k := 92) (by omega) (by omega) h4
      simp only [List.contains_cons, List.contains_nil, Bool.or_false, Bool.or_eq_false_iff, beq_eq_false_iff_ne]
      exact ⟨b1, b2, b3, b4⟩
    rw [Lib.contains_iff_indexByte, decide_eq_false_iff_not] at hc
    have := Lib.indexByte_ge [10, 9, 34, 92] ((n : Int).toNat.toUInt8)
    omega
  · rfl
theorem une_some {n : Nat} {b : UInt8} (h : unesc n = some b) : (idxR [10, 9, 34, 92] n = 0 ∧ b = 110) ∨ (idxR [10, 9, 34, 92] n = 1 ∧ b = 116) ∨ (idxR [10, 9, 34, 92] n = 2 ∧ b = 34) ∨ (idxR [10, 9, 34, 92] n = 3 ∧ b = 92) := by
  unfold unesc at h
  split at h; · cases h; rename_i h; subst h; exact .inl ⟨by decide, rfl⟩
  split at h; · cases h; rename_i h; subst h; exact .inr (.inl ⟨by decide, rfl⟩)
  split at h; · cases h; rename_i h; subst h; exact .inr (.inr (.inl ⟨by decide, rfl⟩))
  split at h; · cases h; rename_i h; subst h; exact .inr (.inr (.inr ⟨by decide, rfl⟩))
  cases h
noncomputable def spQuote : Spec := fun args σ K => match args, σ with
  | [.d (.str s)], ⟨[], [], 0⟩ => s.length < 4294967281 ∧ (quoteF s = none → K (.ret (.tuple [.d (.str []), .d (.bool false)])) ⟨[], [], 0⟩) ∧ (∀ q, quoteF s = some q → K (.ret (.tuple [.d (.str q), .d (.bool true)])) ⟨[], [], 0⟩)
  | _, _ => False
theorem spQuote_mono : SpecMono spQuote := fun args σ K K' hK h => by
  unfold spQuote at h ⊢
  split at h
  · exact ⟨h.1, fun g => hK _ _ (h.2.1 g), fun q g => hK _ _ (h.2.2 q g)⟩
  · exact h.elim
def muI1 (B : Nat) : List PV → St → Nat := fun _ σ => match σ.bx with | [_, .iter _ p] => B - p | _ => 0
noncomputable def tblQuote : Tbl := [(21, spValid), (22, spWriteByte), (23, spIndexRune), (24, spWriteRune), (25, spString)]
theorem quote_ok (ht : TblOK (GG w0 nG) tblQuote) : PCalls (GG w0 nG) 12 spQuote := by
  refine pcalls tab_ok mixed ht Tryd.func12 rfl (by kernel_rfl) (by kernel_rfl) ?_
  intro args σ K h
  unfold spQuote at h
  split at h
  · rename_i s
    obtain ⟨hs, hbad, hgood⟩ := h
    refine ⟨loopsOf [(6, ⟨[], [4, 13], fun vs σ => vs = [] ∧ ∃ (out : Bs) (i f : Nat), σ = ⟨[.cells 53 [.ptr 0 0, .sl 0 5 (bytesR out)], .iter s i], [0], 1⟩ ∧ (i ≤ s.length ∧ s.length < i + f ∧ out.length ≤ 4 * i + 1) ∧ quoGo f (s.drop i) out = quoGo (s.length + 1) s [34], muI1 s.length⟩)], 0, false, by simp, Nat.le_of_ble_eq_true rfl, ?_⟩
    conv => whnf
    refine ⟨by omega, ?_⟩
    conv => whnf
    refine CondP.intro (fun h1 => ?_) (fun h1 => ?_)
    · have hv : Lib.validD s = false := by simpa using h1
      conv => whnf
      exact hbad (by unfold quoteF; rw [if_neg (by rw [hv]; simp)])
    · have hv : Lib.validD s = true := by simpa using h1
      have hq : quoteF s = (quoGo (s.length + 1) s [34]).map (· ++ [34]) := by unfold quoteF; rw [if_pos hv]
      conv => whnf
      refine ⟨⟨.inl rfl, rfl, rfl, by simp, by simp⟩, ?_⟩
      conv => whnf
      refine ⟨⟨rfl, [34], 0, s.length + 1, rfl, ⟨by omega, by omega, by simp⟩, by rw [List.drop_zero]⟩, ?_⟩
      intro vs σ1 hI
      obtain ⟨rfl, out, i, f, rfl, ⟨hi1, hi2, hol⟩, hgo⟩ := hI
      obtain ⟨f, rfl⟩ : ∃ g, f = g + 1 := ⟨f - 1, by omega⟩
      have hb1 := bytesR_one out
      have hbl := bytesR_len out
      have hdec := dec_eq s i
      have hdr := dec_rng (s.drop i)
      have hdl := Lib.decodeL_le (s.drop i)
      rw [List.length_drop] at hdl
      conv => whnf
      refine CondP.dec (fun h2 => ?_) (fun h2 => ?_)
      · have hne : s.drop i ≠ [] := fun g => by have := congrArg List.length g; rw [List.length_drop] at this; simp at this; omega
        have g3 : i + (decodeL s i).2 ≤ s.length := by rw [hdec]; have := hdl hne; omega
        have hdr' : 1 ≤ (decodeL s i).2 := by rw [hdec]; omega
        conv => whnf
        refine ⟨⟨.inr rfl, by omega, by rw [hdec]; omega⟩, ?_⟩
        conv => whnf
        generalize hk : idxR _ _ = k
        have hk' : idxR [10, 9, 34, 92] ((Lib.decodeL (s.drop i)).1 : Int) = k := by rw [← hdec]; exact hk
        cases hE : unesc (Lib.decodeL (s.drop i)).1 with
        | some b =>
          have g1 : quoGo f (s.drop (i + (decodeL s i).2)) (out ++ [92, b]) = quoGo (s.length + 1) s [34] := by rw [← hgo, hdec]; simp [quoGo, hne, hE, List.drop_drop]
          rcases une_some hE with ⟨e1, rfl⟩ | ⟨e1, rfl⟩ | ⟨e1, rfl⟩ | ⟨e1, rfl⟩
          all_goals (rw [e1] at hk'; subst hk')
          all_goals (conv => whnf)
          all_goals (refine ⟨⟨.inr rfl, rfl, rfl, hb1, by omega⟩, ?_⟩)
          all_goals (conv => whnf)
          all_goals (refine ⟨by omega, by first | omega | (simp; done) | (simp; omega), ?_⟩)
          all_goals (conv => whnf)
          all_goals (refine ⟨⟨.inr rfl, rfl, rfl, fun r hr => by (rcases List.mem_append.1 hr with hr | hr; exact hb1 r hr; simp at hr; subst hr; rfl), by rw [List.length_append]; simp; omega⟩, ?_⟩)
          all_goals (conv => whnf)
          all_goals (refine ⟨⟨rfl, _, _, f, ?_, ⟨g3, by omega, ?_⟩, g1⟩, ?_⟩)
          all_goals (first | (rw [bytesR_app, List.append_assoc]; rfl) | (rw [List.length_append]; simp; omega) | exact (show s.length - (i + (decodeL s i).2) < s.length - i by omega))
        | none =>
          rw [une_none hE] at hk'
          subst hk'
          conv => whnf
          refine CondP.dec (fun h5 => ?_) (fun h5 => ?_)
          · have h5' : (Lib.decodeL (s.drop i)).1 < 32 := by rw [hdec] at h5; omega
            conv => whnf
            refine hbad ?_
            rw [hq, ← hgo]
            simp [quoGo, hne, hE, h5']
          · have h5' : ¬ (Lib.decodeL (s.drop i)).1 < 32 := by rw [hdec] at h5; omega
            have g1 : quoGo f (s.drop (i + (decodeL s i).2)) (out ++ Lib.encodeRune ((decodeL s i).1 : Int)) = quoGo (s.length + 1) s [34] := by rw [← hgo, hdec]; simp [quoGo, hne, hE, h5', List.drop_drop]
            have hen := enc_len ((decodeL s i).1 : Int)
            conv => whnf
            refine ⟨⟨.inr rfl, rfl, rfl, hb1, by omega, by omega, by rw [hdec]; omega⟩, ?_⟩
            conv => whnf
            refine ⟨⟨rfl, _, _, f, ?_, ⟨g3, by omega, ?_⟩, g1⟩, ?_⟩
            · rw [bytesR_app]; rfl
            · rw [List.length_append]; omega
            · exact (show s.length - (i + (decodeL s i).2) < s.length - i by omega)
      · have hnil : s.drop i = [] := List.drop_eq_nil_of_le (by omega)
        have g1 : quoGo (s.length + 1) s [34] = some out := by rw [← hgo]; simp [quoGo, hnil]
        conv => whnf
        refine ⟨⟨.inr rfl, rfl, rfl, hb1, by omega⟩, ?_⟩
        conv => whnf
        refine ⟨out ++ [34], ⟨by rw [bytesR_snoc]; rfl, rfl, rfl, .inr rfl, by rw [List.length_append]; simp; omega⟩, ?_⟩
        conv => whnf
        exact hgood _ (by rw [hq, g1]; rfl)
  · exact h.elim
end Go.PM.Lex
