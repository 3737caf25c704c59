/- A part of the proof: plain logic, contracts and laws over the given program. -/
import Derived.Test.YtcgedoibicfihaaDoorQL3
import Derived.Test.YtcgedoibicfihaaDoorQW12
set_option linter.unusedVariables false
set_option linter.unusedSimpArgs false
set_option linter.all false
set_option maxRecDepth 100000
set_option maxHeartbeats 8000000
namespace Go.PM.Lex
open Go.Proofs
variable {w0 : World} {nG : Nat}
/-- A law of a text of bounded length. -/
noncomputable def spLaw1u : Spec := fun args σ K => match args, σ with
  | [.d (.str s)], ⟨[], [], 0⟩ => s.length ≤ 1048576 ∧ K (.ret (.d (.bool true))) ⟨[], [], 0⟩
  | _, _ => False
theorem quo_len : ∀ (f : Nat) (r out q : Bs), quoGo f r out = some q → q.length ≤ out.length + 4 * r.length
  | 0, r, out, q, h => by simp [quoGo] at h
  | f + 1, r, out, q, h => by
    unfold quoGo at h
    split at h
    · cases h; omega
    · rename_i hr
      have hd := Lib.decodeL_le r hr
      have hg := dec_rng r
      split at h
      · have := quo_len f _ _ _ h
        rw [List.length_drop] at this
        simp only [List.length_append, List.length_cons, List.length_nil] at this
        omega
      · split at h
        · cases h
        · have := quo_len f _ _ _ h
          have he := enc_len ((Lib.decodeL r).1 : Int)
          rw [List.length_drop, List.length_append] at this
          omega
theorem quote_len {s q : Bs} (h : quoteF s = some q) : q.length ≤ 4 * s.length + 2 := by
  unfold quoteF at h
  split at h
  · cases hq : quoGo (s.length + 1) s [34] with
    | none => rw [hq] at h; cases h
    | some x =>
      rw [hq] at h
      cases h
      have := quo_len _ _ _ _ hq
      simp only [List.length_append, List.length_cons, List.length_nil] at this ⊢
      omega
  · cases h
noncomputable def tblLaw6 : Tbl := [(8, spTrue), (9, spTokens), (12, spQuote)]
theorem cLaw6 (hg : GlobOK w0 nG) (hT : Lib.Utf8Tabs 0 1 w0) : TblOK (GG w0 nG) tblLaw6 :=
  ⟨⟨cWorks hg, spTrue_mono⟩, ⟨cTokens hg, spTokens_mono⟩, ⟨quote_ok ⟨⟨valid_ok (by have := hg.big; omega) hT, spValid_mono⟩, ⟨writeByte_ok, spWriteByte_mono⟩, ⟨cIndexRune, spIndexRune_mono⟩, ⟨writeRune_ok, spWriteRune_mono⟩, ⟨string_ok, spString_mono⟩, trivial⟩, spQuote_mono⟩, trivial⟩
theorem quote_law_ok (ht : TblOK (GG w0 nG) tblLaw6) : PCalls (GG w0 nG) 6 spLaw1u := by
  refine pcalls tab_ok mixed ht Tryd.func6 rfl (by kernel_rfl) (by kernel_rfl) ?_
  intro args σ K h
  unfold spLaw1u at h
  split at h
  · rename_i s
    obtain ⟨hs, h⟩ := h
    refine ⟨loopsOf [], 0, false, by simp, Nat.le_of_ble_eq_true rfl, ?_⟩
    conv => whnf
    refine ⟨by omega, fun h1 => ?_, fun q hq => ?_⟩
    · conv => whnf
      exact h
    · have hql := quote_len hq
      obtain ⟨ha, hqne⟩ := quote_all hq
      conv => whnf
      refine ⟨by omega, ?_⟩
      rw [ha]
      conv => whnf
      refine ⟨_, by omega, rfl, ?_⟩
      conv => whnf
      refine ⟨_, by omega, rfl, ?_⟩
      conv => whnf
      refine CondP.ndec (fun h2 => absurd rfl h2) (fun h2 => ?_)
      conv => whnf
      refine ⟨_, by omega, rfl, ?_⟩
      conv => whnf
      refine ⟨_, by omega, rfl, ?_⟩
      conv => whnf
      refine CondP.ndec (fun h2 => absurd rfl h2) (fun h2 => ?_)
      conv => whnf
      refine ⟨_, by omega, rfl, ?_⟩
      conv => whnf
      refine ⟨(show s.length < 4294967281 by omega), fun h1 => ?_, fun q' hq' => ?_⟩
      · have : quoteF s = none := h1
        rw [hq] at this; cases this
      · have e : quoteF s = some q' := hq'
        rw [hq] at e
        cases e
        conv => whnf
        refine CondP.dec (fun h3 => ?_) (fun h3 => absurd rfl h3)
        conv => whnf
        exact h
  · exact h.elim
end Go.PM.Lex
