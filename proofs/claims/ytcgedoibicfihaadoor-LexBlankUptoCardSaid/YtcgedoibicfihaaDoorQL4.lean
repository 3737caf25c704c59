/- A part of the proof: plain logic, contracts and laws over the given program. -/
import Derived.Test.YtcgedoibicfihaaDoorQL3
import Derived.Test.YtcgedoibicfihaaDoorQBlk
set_option linter.unusedVariables false
set_option linter.unusedSimpArgs false
set_option linter.all false
set_option maxRecDepth 100000
set_option maxHeartbeats 8000000
namespace Go.PM.Lex
open Go.Proofs
variable {w0 : World} {nG : Nat}
/-- A law of a text and a number. -/
noncomputable def spLaw2 : Spec := fun args σ K => match args, σ with
  | [.d (.str s), .d (.int .u64 n)], ⟨[], [], 0⟩ => (s.length < 4294967281 ∧ 0 ≤ n ∧ n ≤ 18446744073709551615) ∧ K (.ret (.d (.bool true))) ⟨[], [], 0⟩
  | _, _ => False
theorem rend_snoc (s : Bs) (b : Bs) (t : Tok) : ∀ l, rend s (l ++ [(b, t)]) = rend s l ++ (b ++ (cut s t.at' t.fin ++ [32]))
  | [] => rfl
  | (b', t') :: l => by simp only [List.cons_append, rend, rend_snoc s b t l, List.append_assoc]
theorem blank_row : ∀ i : Nat, i < 7 → (blanks.map fun b => [D.str b])[i]? = some [D.str (blanks.getD i [])] ∧ blanks.getD i [] ∈ blanks ∧ (blanks.getD i []).length ≤ 7
  | 0, _ => ⟨rfl, by decide, by decide⟩
  | 1, _ => ⟨rfl, by decide, by decide⟩
  | 2, _ => ⟨rfl, by decide, by decide⟩
  | 3, _ => ⟨rfl, by decide, by decide⟩
  | 4, _ => ⟨rfl, by decide, by decide⟩
  | 5, _ => ⟨rfl, by decide, by decide⟩
  | 6, _ => ⟨rfl, by decide, by decide⟩
theorem wrap_u64 (n : Int) : 0 ≤ IntKind.u64.wrap n ∧ IntKind.u64.wrap n ≤ 18446744073709551615 := by
  simp only [IntKind.wrap, show IntKind.u64.bits = 64 from rfl, show IntKind.u64.signed = false from rfl, Bool.false_and, Bool.false_eq_true, if_false]
  omega
def muK (B : Int) : List PV → St → Nat := fun vs _ => match vs with | [_, _, .d (.int _ n)] => (B - n).toNat | _ => 0
theorem blank_law_ok (ht : TblOK (GG w0 nG) tblLaw) : PCalls (GG w0 nG) 4 spLaw2 := by
  refine pcalls tab_ok mixed ht Tryd.func4 rfl (by kernel_rfl) (by kernel_rfl) ?_
  intro args σ K h
  unfold spLaw2 at h
  split at h
  · rename_i s n
    obtain ⟨⟨hs, hn0, hn1⟩, h⟩ := h
    generalize hA : allF s 1048576 = A
    obtain ⟨l, p, c⟩ := A
    have hch : c = 0 → Chain s 1048576 0 l := fun g => by have := all_chain (s := s) (M := 1048576) (by omega) (by rw [hA]; exact g); rw [hA] at this; exact this
    have hpl : ∀ t ∈ l, Placed s t := placed_of s _ 1048576 0 l (p, c) (by rw [List.drop_zero]; exact hA) (by omega)
    have hrend : ∀ bl : List (Bs × Tok), bl.map (·.2) = l → (∀ x ∈ bl, x.1 ∈ blanks) → l.length < 1048576 → ∃ l', allF (rend s bl) 1048576 = (l', (0, 0)) ∧ l'.map keyT = l.map keyT := fun bl h1 h2 h3 => by
      obtain ⟨l', e1, e2⟩ := rend_all s bl (fun x hx => ⟨h2 x hx, hpl _ (by rw [← h1]; exact List.mem_map_of_mem hx)⟩) [] (.inl rfl) ((rend s bl).length + 1) 1048576 0 (by simp) (by rw [← h1, List.length_map] at h3; omega)
      exact ⟨l', e1, by rw [e2, ← h1, List.map_map]; rfl⟩
    refine ⟨loopsOf [(7, ⟨[1, 9, 10], [0, 5, 8], fun vs σ => σ = ⟨[], [], 0⟩ ∧ ∃ (n : Int) (bl : List (Bs × Tok)) (i : Nat), vs = [.d (.int .u64 n), .d (.str (rend s bl)), .d (.int .i64 i)] ∧ (i ≤ l.length ∧ 0 ≤ n ∧ n ≤ 18446744073709551615 ∧ (rend s bl).length ≤ i * 16392) ∧ bl.map (·.2) = l.take i ∧ ∀ x ∈ bl, x.1 ∈ blanks, muK l.length⟩),
      (15, ⟨[14], [5, 11], fun vs σ => σ = ⟨[], [], 0⟩ ∧ ∃ i : Nat, vs = [.d (.int .i64 i)] ∧ i ≤ l.length, muI l.length⟩)], 0, false, by simp, Nat.le_of_ble_eq_true rfl, ?_⟩
    conv => whnf
    refine ⟨hs, ?_⟩
    rw [hA]
    conv => whnf
    refine CondP.ndec (fun h2 => ?_) (fun h2 => ?_)
    · conv => whnf
      exact h
    · obtain rfl : c = 0 := by have : ((c : Nat) : Int) = 0 := h2; omega
      have hchain := hch rfl
      have hll := chain_len l 0 hchain (by omega)
      conv => whnf
      refine CondP.dec (fun h3 => ?_) (fun h3 => ?_)
      · conv => whnf
        exact h
      · simp only [if_true]
        conv => whnf
        refine ⟨⟨rfl, n, [], 0, rfl, ⟨by omega, hn0, hn1, by simp [rend]⟩, rfl, by simp⟩, ?_⟩
        intro vs σ1 hI
        obtain ⟨rfl, m, bl, i, rfl, ⟨hi, hm0, hm1, hlen⟩, hbl1, hbl2⟩ := hI
        conv => whnf
        refine CondP.dec (fun h4 => ?_) (fun h4 => ?_)
        · have h4' : i < l.length := by rw [toksR_len] at h4; omega
          obtain ⟨t, htk⟩ : ∃ t, l.drop i = t :: l.drop (i + 1) := ⟨l[i], List.drop_eq_getElem_cons h4'⟩
          have htm : t ∈ l := List.mem_of_mem_drop (by rw [htk]; simp)
          obtain ⟨q1, q2, q3, q4⟩ := hpl t htm
          conv => whnf
          refine Or.inr ?_
          conv => whnf
          refine Or.inr ?_
          generalize hP : IntKind.u64.wrap (IntKind.u64.wrap (m * 6364136223846793005) + 1442695040888963407) = P
          have hPr := wrap_u64 (IntKind.u64.wrap (m * 6364136223846793005) + 1442695040888963407)
          rw [hP] at hPr
          conv => whnf
          refine ⟨by decide, ?_⟩
          conv => whnf
          have e60 : P.fdiv (2 ^ min (Int.toNat 60) IntKind.u64.bits) = P / 1152921504606846976 := by rw [show (2 : Int) ^ min (Int.toNat 60) IntKind.u64.bits = 1152921504606846976 by decide]; exact Int.fdiv_eq_ediv_of_nonneg _ (by omega)
          rw [e60]
          refine Or.inl ⟨InR.i64 (by omega) (by omega), ?_⟩
          conv => whnf
          refine ⟨by simp, ?_⟩
          conv => whnf
          generalize hD : Int.tmod _ _ = D
          have hDr : 0 ≤ D ∧ D < 7 := by
            rw [← hD]
            exact (show 0 ≤ (P / 1152921504606846976).tmod 7 ∧ (P / 1152921504606846976).tmod 7 < 7 from ⟨Int.tmod_nonneg _ (by omega), Int.tmod_lt_of_pos _ (by omega)⟩)
          obtain ⟨d, rfl⟩ : ∃ d : Nat, D = d := ⟨D.toNat, by omega⟩
          obtain ⟨b1, b2, b3⟩ := blank_row d (by omega)
          refine ⟨[D.str (blanks.getD d [])], by omega, b1, ?_⟩
          conv => whnf
          have hcl := cut_len s t.at' t.fin
          have hcl' : (cut s ((t.at' : Int)).toNat ((t.fin : Int)).toNat).length ≤ s.length := cut_len _ _ _
          refine ⟨by omega, ?_⟩
          conv => whnf
          refine ⟨_, by omega, toks_row htk, ?_⟩
          conv => whnf
          refine ⟨_, by omega, toks_row htk, ?_⟩
          conv => whnf
          refine ⟨by omega, by omega, by omega, ?_⟩
          conv => whnf
          refine ⟨by rw [List.length_append]; omega, ?_⟩
          conv => whnf
          refine ⟨by rw [List.length_append, List.length_append]; show _ + 1 < _; omega, ?_⟩
          conv => whnf
          refine Or.inl ⟨InR.i64 (by omega) (by omega), ?_⟩
          conv => whnf
          refine ⟨⟨rfl, P, bl ++ [(blanks.getD d [], t)], i + 1, ?_, ⟨by omega, by omega, by omega, ?_⟩, ?_, ?_⟩, ?_⟩
          · rw [rend_snoc, ← List.append_assoc, ← List.append_assoc]; rfl
          · rw [rend_snoc]; simp only [List.length_append, List.length_cons, List.length_nil]; omega
          · rw [List.map_append, hbl1]
            have : l[i]? = some t := by have := congrArg (fun x => x[0]?) htk; simpa using this
            rw [List.take_succ, this]; rfl
          · intro x hx
            rcases List.mem_append.1 hx with hx | hx
            · exact hbl2 x hx
            · simp only [List.mem_singleton] at hx; subst hx; exact b2
          · exact (show ((l.length : Int) - ((i : Int) + 1)).toNat < ((l.length : Int) - (i : Int)).toNat by omega)
        · have hil : i = l.length := by rw [toksR_len] at h4; omega
          subst hil
          rw [List.take_length] at hbl1
          obtain ⟨l', hl', hk'⟩ := hrend bl hbl1 hbl2 (by omega)
          have hlen' : l'.length = l.length := by have := congrArg List.length hk'; simpa using this
          conv => whnf
          refine ⟨by omega, ?_⟩
          rw [hl']
          conv => whnf
          refine CondP.ndec (fun h5 => absurd (show ((toksR l').length : Int) = ((toksR l).length : Int) by rw [toksR_len, toksR_len, hlen']) h5) (fun h5 => ?_)
          conv => whnf
          refine ⟨⟨rfl, 0, rfl, by omega⟩, ?_⟩
          intro vs σ1 hI
          obtain ⟨rfl, j, rfl, hj⟩ := hI
          conv => whnf
          refine CondP.dec (fun h6 => ?_) (fun h6 => ?_)
          · have h6' : j < l.length := by rw [toksR_len] at h6; omega
            obtain ⟨t, htk⟩ : ∃ t, l.drop j = t :: l.drop (j + 1) := ⟨l[j], List.drop_eq_getElem_cons h6'⟩
            obtain ⟨u, huk⟩ : ∃ u, l'.drop j = u :: l'.drop (j + 1) := ⟨l'[j]'(by omega), List.drop_eq_getElem_cons (by omega)⟩
            have hkey : keyT u = keyT t := by
              have e1 := congrArg (fun x => x[j]?) hk'
              have e2 : l[j]? = some t := by have := congrArg (fun x => x[0]?) htk; simpa using this
              have e3 : l'[j]? = some u := by have := congrArg (fun x => x[0]?) huk; simpa using this
              simpa [e2, e3] using e1
            simp only [keyT, Prod.mk.injEq] at hkey
            obtain ⟨k1, k2, k3⟩ := hkey
            conv => whnf
            refine ⟨_, by omega, toks_row huk, ?_⟩
            conv => whnf
            refine ⟨_, by omega, toks_row htk, ?_⟩
            conv => whnf
            refine CondP.ndec (fun h7 => absurd (show (u.kind : Int) = (t.kind : Int) by rw [k1]) h7) (fun h7 => ?_)
            conv => whnf
            refine ⟨_, by omega, toks_row huk, ?_⟩
            conv => whnf
            refine ⟨_, by omega, toks_row htk, ?_⟩
            conv => whnf
            refine CondP.ndec (fun h8 => absurd k2 h8) (fun h8 => ?_)
            conv => whnf
            refine ⟨_, by omega, toks_row huk, ?_⟩
            conv => whnf
            refine ⟨_, by omega, toks_row htk, ?_⟩
            conv => whnf
            refine CondP.ndec (fun h9 => absurd k3 h9) (fun h9 => ?_)
            conv => whnf
            refine Or.inl ⟨InR.i64 (by omega) (by omega), ?_⟩
            conv => whnf
            refine ⟨⟨rfl, j + 1, rfl, by omega⟩, ?_⟩
            exact (show ((l.length : Int) - ((j : Int) + 1)).toNat < ((l.length : Int) - (j : Int)).toNat by omega)
          · conv => whnf
            exact h
  · exact h.elim
end Go.PM.Lex
