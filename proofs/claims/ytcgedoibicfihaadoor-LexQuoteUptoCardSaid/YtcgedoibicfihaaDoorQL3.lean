/- A part of the proof: plain logic, contracts and laws over the given program. -/
import Derived.Test.YtcgedoibicfihaaDoorQTile
import Derived.Test.YtcgedoibicfihaaDoorQTop
import Derived.Test.YtcgedoibicfihaaDoorQRow
set_option linter.unusedVariables false
set_option linter.unusedSimpArgs false
set_option linter.all false
set_option maxRecDepth 100000
set_option maxHeartbeats 8000000
namespace Go.PM.Lex
open Go.Proofs
variable {w0 : World} {nG : Nat}
noncomputable def tblLaw : Tbl := [(8, spTrue), (9, spTokens)]
theorem cLaw (hg : GlobOK w0 nG) : TblOK (GG w0 nG) tblLaw := ⟨⟨cWorks hg, spTrue_mono⟩, ⟨cTokens hg, spTokens_mono⟩, trivial⟩
theorem cut_len (s : Bs) (a b : Nat) : (cut s a b).length ≤ s.length := by unfold cut; rw [List.length_drop, List.length_take]; omega
theorem toks_row {l : List Tok} {i : Nat} {t : Tok} {l' : List Tok} (h : l.drop i = t :: l') : (toksR l)[((i : Nat) : Int).toNat]? = some [.int .u8 t.kind, .str t.text, .int .i64 t.n, .int .i64 t.at', .int .i64 t.fin] := by
  have h2 : l[i]? = some t := by
    have := congrArg (fun x => x[0]?) h
    simpa using this
  simp [toksR, tokR, h2]
theorem chain_len {s : Bs} {M : Int} : ∀ (l : List Tok) (a : Nat), Chain s M a l → a ≤ s.length → a + l.length ≤ s.length
  | [], a, _, h => h
  | t :: l, a, ⟨c1, c2, c3, c4, c5, c6⟩, h => by have := chain_len l t.fin c6 c3; simp only [List.length_cons]; omega
def muJ (B : Int) : List PV → St → Nat := fun vs _ => match vs with | [_, .d (.int _ n)] => (B - n).toNat | _ => 0
theorem tile_ok (ht : TblOK (GG w0 nG) tblLaw) : PCalls (GG w0 nG) 3 spLaw1 := by
  refine pcalls tab_ok mixed ht Tryd.func3 rfl (by kernel_rfl) (by kernel_rfl) ?_
  intro args σ K h
  unfold spLaw1 at h
  split at h
  · rename_i s
    generalize hA : allF s 1048576 = A
    obtain ⟨l, p, c⟩ := A
    have herr : c ≠ 0 → p < s.length := fun g => by have := all_err (s := s) (M := 1048576) (by rw [hA]; exact g); rw [hA] at this; exact this
    have hch : c = 0 → Chain s 1048576 0 l := fun g => by have := all_chain (s := s) (M := 1048576) (by omega) (by rw [hA]; exact g); rw [hA] at this; exact this
    refine ⟨loopsOf [(8, ⟨[6, 7], [0, 3], fun vs σ => σ = ⟨[], [], 0⟩ ∧ ∃ i e : Nat, vs = [.d (.int .i64 e), .d (.int .i64 i)] ∧ i ≤ l.length ∧ e ≤ s.length ∧ Chain s 1048576 e (l.drop i), muJ l.length⟩)], 0, false, by simp, Nat.le_of_ble_eq_true rfl, ?_⟩
    conv => whnf
    refine CondP.dec (fun h1 => ?_) (fun h1 => ?_)
    · conv => whnf
      exact h
    · conv => whnf
      refine ⟨by omega, ?_⟩
      rw [hA]
      conv => whnf
      refine CondP.ndec (fun h2 => ?_) (fun h2 => ?_)
      · have h2' : c ≠ 0 := fun g => h2 (by subst g; rfl)
        have hp := herr h2'
        simp only [if_neg h2']
        conv => whnf
        refine CondP.dec (fun h3 => ?_) (fun h3 => ?_)
        · conv => whnf
          exact h
        · exact absurd (show (p : Int) < s.length by omega) h3
      · obtain rfl : c = 0 := by have : ((c : Nat) : Int) = 0 := h2; omega
        have hchain := hch rfl
        have hll := chain_len l 0 hchain (by omega)
        simp only [if_true]
        conv => whnf
        refine ⟨⟨rfl, 0, 0, rfl, by omega, by omega, by rw [List.drop_zero]; exact hchain⟩, ?_⟩
        intro vs σ1 hI
        obtain ⟨rfl, i, e, rfl, hi, he, hC⟩ := hI
        conv => whnf
        refine CondP.dec (fun h3 => ?_) (fun h3 => ?_)
        · have h3' : i < l.length := by rw [toksR_len] at h3; omega
          obtain ⟨t, ht⟩ : ∃ t, l.drop i = t :: l.drop (i + 1) := ⟨l[i], List.drop_eq_getElem_cons h3'⟩
          rw [ht] at hC
          obtain ⟨c1, c2, c3, c4, c5, c6⟩ := hC
          conv => whnf
          refine ⟨_, by omega, toks_row ht, ?_⟩
          conv => whnf
          refine CondP.dec (fun h4 => ?_) (fun h4 => ?_)
          · omega
          · conv => whnf
            refine CondP.dec (fun h5 => ?_) (fun h5 => ?_)
            · omega
            · conv => whnf
              refine CondP.dec (fun h6 => ?_) (fun h6 => ?_)
              · omega
              · conv => whnf
                refine ⟨by omega, by omega, by omega, ?_⟩
                conv => whnf
                refine ⟨Nat.lt_of_le_of_lt (cut_len _ _ _) (by omega), ?_⟩
                rw [show allF (cut s ((e : Int)).toNat ((t.at' : Int)).toNat) 1048576 = ([], (0, 0)) from c4]
                conv => whnf
                refine ⟨by omega, by omega, by omega, ?_⟩
                conv => whnf
                refine ⟨Nat.lt_of_le_of_lt (cut_len _ _ _) (by omega), ?_⟩
                rw [show allF (cut s ((t.at' : Int)).toNat ((t.fin : Int)).toNat) 1048576 = ([⟨t.kind, t.text, t.n, 0, t.fin - t.at'⟩], (0, 0)) from c5]
                conv => whnf
                refine ⟨_, by omega, rfl, ?_⟩
                conv => whnf
                refine CondP.ndec (fun h7 => absurd rfl h7) (fun h7 => ?_)
                conv => whnf
                refine CondP.ndec (fun h8 => absurd rfl h8) (fun h8 => ?_)
                conv => whnf
                refine CondP.ndec (fun h9 => absurd rfl h9) (fun h9 => ?_)
                conv => whnf
                refine Or.inl ⟨InR.i64 (by omega) (by omega), ?_⟩
                conv => whnf
                refine CondP.ndec (fun h10 => absurd (show ((t.fin - t.at' : Nat) : Int) = (t.fin : Int) - (t.at' : Int) by omega) h10) (fun h10 => ?_)
                conv => whnf
                refine Or.inl ⟨InR.i64 (by omega) (by omega), ?_⟩
                conv => whnf
                refine ⟨⟨rfl, i + 1, t.fin, rfl, by omega, c3, c6⟩, ?_⟩
                exact (show ((l.length : Int) - ((i : Int) + 1)).toNat < ((l.length : Int) - (i : Int)).toNat by omega)
        · have hil : l.drop i = [] := by rw [toksR_len] at h3; exact List.drop_eq_nil_of_le (by omega)
          rw [hil] at hC
          have hC' : allF (s.drop e) 1048576 = ([], (0, 0)) := hC
          conv => whnf
          refine ⟨by omega, by omega, ?_⟩
          conv => whnf
          rw [cut_end]
          refine ⟨by rw [List.length_drop]; omega, ?_⟩
          rw [show allF (s.drop ((e : Int)).toNat) 1048576 = ([], (0, 0)) from hC']
          conv => whnf
          exact h
  · exact h.elim
end Go.PM.Lex
