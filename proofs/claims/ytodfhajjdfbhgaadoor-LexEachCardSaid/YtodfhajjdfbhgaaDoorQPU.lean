/- A part of the proof: plain logic, contracts and laws over the given program. -/
import Derived.Test.YtodfhajjdfbhgaaDoorQBld
import Derived.Test.YtodfhajjdfbhgaaDoorQW6
set_option linter.unusedVariables false
set_option linter.unusedSimpArgs false
set_option linter.all false
set_option maxRecDepth 100000
set_option maxHeartbeats 8000000
namespace Go.PM.Lex
open Go.Proofs
variable {w0 : World} {nG : Nat}
/-- What the package variables that the code reads must hold. -/
structure GlobOK (w0 : World) (nG : Nat) : Prop where
  big : 4 < nG
  maxLen : ∃ m, w0.cell? ⟨0, 0, none⟩ = some (.int .i64 m)
  errSyntax : ∃ ev, w0.cell? ⟨3, 0, none⟩ = some ev ∧ (ev = .nilIface ∨ ∃ te pe, ev = .iface te pe)
  errRange : ∃ ev, w0.cell? ⟨4, 0, none⟩ = some ev ∧ (ev = .nilIface ∨ ∃ te pe, ev = .iface te pe)
noncomputable def spErr : Spec := fun args σ K => match args with
  | [.d (.str _), .d (.str s)] => s.length < 4294967281 ∧ K (.ret .undef) σ
  | _ => False
theorem spErr_mono : SpecMono spErr := fun args σ K K' hK h => by
  unfold spErr at h ⊢; split at h <;> first | exact ⟨h.1, hK _ _ h.2⟩ | exact h.elim
theorem glob_cell {e : Env} {σ : St} {w : World} {k : Nat} {u : Value} (hS : SRel (GG w0 nG) e σ w) (hk : k < nG) (h : w0.cell? ⟨k, 0, none⟩ = some u) : w.cell? ⟨k, 0, none⟩ = some u := by
  have := hS.glob k hk
  simpa [World.cell?, this] using h
theorem syntaxError_ok (hg : GlobOK w0 nG) : PCalls (GG w0 nG) 68 spErr where
  enters := enters_of Tryd.func68 (by kernel_rfl) rfl
  calls := fun args σ K hs n e w vs hS ha => by
    unfold spErr at hs
    split at hs
    · rename_i fn s
      obtain ⟨hl, hK⟩ := hs
      obtain ⟨u, v, rfl, hu, hv⟩ := args2 ha
      cases hu.dstr; cases hv.dstr
      obtain ⟨ev, h1, h2⟩ := hg.errSyntax
      refine CallsIn.mono (callsIn_wide.2 (Tryd.strconv_syntaxError _ _ ev w (show s.toArray.size ≤ _ by simp; omega) (glob_cell hS (by have := hg.big; omega) h1) h2)) fun en w' ⟨N, h3, _, _, h4⟩ => ?_
      subst h3
      exact ⟨.ret .undef, σ, e, hK, ⟨_, rfl, .undef _⟩, hS.grow (Grows.of_below h4), ((Grows.of_below h4).stepped e σ).toLater⟩
    · exact hs.elim
theorem rangeError_ok (hg : GlobOK w0 nG) : PCalls (GG w0 nG) 69 spErr where
  enters := enters_of Tryd.func69 (by kernel_rfl) rfl
  calls := fun args σ K hs n e w vs hS ha => by
    unfold spErr at hs
    split at hs
    · rename_i fn s
      obtain ⟨hl, hK⟩ := hs
      obtain ⟨u, v, rfl, hu, hv⟩ := args2 ha
      cases hu.dstr; cases hv.dstr
      obtain ⟨ev, h1, h2⟩ := hg.errRange
      refine CallsIn.mono (callsIn_wide.2 (Tryd.strconv_rangeError _ _ ev w (show s.toArray.size ≤ _ by simp; omega) (glob_cell hS (by have := hg.big; omega) h1) h2)) fun en w' ⟨N, h3, _, _, h4⟩ => ?_
      subst h3
      exact ⟨.ret .undef, σ, e, hK, ⟨_, rfl, .undef _⟩, hS.grow (Grows.of_below h4), ((Grows.of_below h4).stepped e σ).toLater⟩
    · exact hs.elim
noncomputable def spToError : Spec := fun args σ K => match args, σ with
  | [.d (.str _), .d (.str s), .d (.int .i64 _), .d (.int .i64 _), .iface 104 (.d (.int .i64 c))], ⟨[], [], 0⟩ => ((c = 1 ∨ c = 2) ∧ s.length < 4294967281) ∧ K (.ret (.iface 107 .undef)) ⟨[], [], 0⟩
  | _, _ => False
theorem spToError_mono : SpecMono spToError := fun args σ K K' hK h => by
  unfold spToError at h ⊢; split at h <;> first | exact ⟨h.1, hK _ _ h.2⟩ | exact h.elim
noncomputable def tblTE : Tbl := [(68, spErr), (69, spErr)]
theorem toError_ok (hg : GlobOK w0 nG) : PCalls (GG w0 nG) 61 spToError := by
  refine pcalls tab_ok mixed (tbl := tblTE) ⟨⟨syntaxError_ok hg, spErr_mono⟩, ⟨rangeError_ok hg, spErr_mono⟩, trivial⟩ Tryd.func61 rfl (by kernel_rfl) (by kernel_rfl) ?_
  intro args σ K h
  unfold spToError at h
  split at h
  · rename_i fn s b0 b1 c
    obtain ⟨⟨hc, hl⟩, h⟩ := h
    refine ⟨loopsOf [], 0, false, by simp, Nat.le_of_ble_eq_true rfl, ?_⟩
    rcases hc with rfl | rfl
    · conv => whnf
      refine ⟨hl, ?_⟩
      conv => whnf
      exact h
    · conv => whnf
      refine ⟨hl, ?_⟩
      conv => whnf
      exact h
  · exact h.elim
noncomputable def spLower : Spec := fun args σ K => match args, σ with
  | [.d (.int .u8 c)], ⟨[], [], 0⟩ => K (.ret (.d (.int .u8 (bitsOf .or .u8 c 32)))) ⟨[], [], 0⟩
  | _, _ => False
theorem spLower_mono : SpecMono spLower := fun args σ K K' hK h => by
  unfold spLower at h ⊢; split at h <;> first | exact hK _ _ h | exact h.elim
theorem lower_ok : PCalls (GG w0 nG) 66 spLower := by
  refine pcalls tab_ok mixed (tbl := []) trivial Tryd.func66 rfl (by kernel_rfl) (by kernel_rfl) ?_
  intro args σ K h
  unfold spLower at h
  split at h
  · refine ⟨loopsOf [], 0, false, by simp, Nat.le_of_ble_eq_true rfl, ?_⟩
    conv => whnf
    exact h
  · exact h.elim
theorem lowV : ∀ n : Fin 256, digB true (UInt8.ofNat n.val) = true → ¬ (48 ≤ n.val ∧ n.val ≤ 57) → bitsOf .or .u8 (n.val : Int) 32 = digV (UInt8.ofNat n.val) + 87 ∧ 10 ≤ digV (UInt8.ofNat n.val) ∧ digV (UInt8.ofNat n.val) ≤ 15 := by rw [bitsOf_eq]; decide +kernel
theorem low_digit {b : UInt8} (h : digB true b = true) (hn : ¬ (48 ≤ b.toNat ∧ b.toNat ≤ 57)) : bitsOf .or .u8 (b.toNat : Int) 32 = digV b + 87 ∧ 10 ≤ digV b ∧ digV b ≤ 15 := by
  have := lowV ⟨b.toNat, b.toNat_lt⟩
  simp only [UInt8.ofNat_toNat] at this
  exact this h hn
theorem numV_snoc (B : Nat) (l : Bs) (b : UInt8) : numV B (l ++ [b]) = numV B l * B + digV b := by simp [numV, List.foldl_append]
theorem take_snoc {l : Bs} {i : Nat} (h : i < l.length) : l.take (i + 1) = l.take i ++ [l.getD i 0] := by
  rw [List.take_succ, List.getElem?_eq_getElem h]; simp [List.getD, h]
theorem foldl_ge (B : Nat) (hB : 1 ≤ B) : ∀ (l : Bs) (n : Nat), n ≤ l.foldl (fun n b => n * B + digV b) n
  | [], n => Nat.le_refl _
  | b :: l, n => by
    have := foldl_ge B hB l (n * B + digV b)
    have h2 : n ≤ n * B := Nat.le_mul_of_pos_right n hB
    simp only [List.foldl_cons]; omega
theorem numV_take_le (B : Nat) (hB : 1 ≤ B) (l : Bs) (i : Nat) : numV B (l.take i) ≤ numV B l := by
  conv => rhs; rw [← List.take_append_drop i l]
  unfold numV
  rw [List.foldl_append]
  exact foldl_ge B hB _ _
noncomputable def spPU : Spec := fun args σ K => match args, σ with
  | [.d (.str l), .d (.int .i64 base), .d (.int .i64 bits)], ⟨[], [], 0⟩ => ∃ hex : Bool, ((l.all (digB hex) = true ∧ l.length < 4294967281) ∧ base = (if hex then 16 else 10) ∧ bits = (if hex then 64 else 63)) ∧
      (l = [] → K (.ret (.tuple [.d (.int .u64 0), .iface 104 (.d (.int .i64 2))])) ⟨[], [], 0⟩) ∧
      (l ≠ [] → (if hex then 18446744073709551616 else 9223372036854775808) ≤ numV (if hex then 16 else 10) l → K (.ret (.tuple [.d (.int .u64 (if hex then 18446744073709551615 else 9223372036854775807)), .iface 104 (.d (.int .i64 1))])) ⟨[], [], 0⟩) ∧
      (l ≠ [] → ¬ (if hex then 18446744073709551616 else 9223372036854775808) ≤ numV (if hex then 16 else 10) l → K (.ret (.tuple [.d (.int .u64 (numV (if hex then 16 else 10) l)), .d .nili])) ⟨[], [], 0⟩)
  | _, _ => False
theorem spPU_mono : SpecMono spPU := fun args σ K K' hK h => by
  unfold spPU at h ⊢
  split at h
  · obtain ⟨x, h1, h2, h3, h4⟩ := h; exact ⟨x, h1, fun g => hK _ _ (h2 g), fun g g' => hK _ _ (h3 g g'), fun g g' => hK _ _ (h4 g g')⟩
  · exact h.elim
noncomputable def tblPU : Tbl := [(66, spLower)]
theorem pu_ok : PCalls (GG w0 nG) 60 spPU := by
  refine pcalls tab_ok mixed (tbl := tblPU) ⟨⟨lower_ok, spLower_mono⟩, trivial⟩ Tryd.func60 rfl (by kernel_rfl) (by kernel_rfl) ?_
  intro args σ K h
  unfold spPU at h
  split at h
  · rename_i l base bits
    obtain ⟨hex, ⟨⟨hall, hl⟩, rfl, rfl⟩, hnil, hover, hgood⟩ := h
    have hml : ((l.map fun b => [D.int .u8 (b.toNat : Int)] : List (List D))).length = l.length := by simp
    cases hex with
    | true =>
      simp only [if_true, Bool.false_eq_true, if_false] at hover hgood ⊢
      refine ⟨loopsOf [(36, ⟨[101, 13, 12], [0, 1, 8, 10, 11, 99, 100], fun vs σ => σ = ⟨[], [], 0⟩ ∧ ∃ i : Nat, vs = [.d (.int .i64 i), .d (.int .u64 (numV 16 (l.take i))), .d (.bool false)] ∧ i ≤ l.length ∧ numV 16 (l.take i) < 18446744073709551616, muI l.length⟩)], 0, false, by simp, Nat.le_of_ble_eq_true rfl, ?_⟩
      conv => whnf
      refine CondP.dec (fun h0 => ?_) (fun h0 => ?_)
      · conv => whnf
        exact hnil h0
      · have hne : l ≠ [] := h0
        have hov := hover hne
        have hgd := hgood hne
        conv => whnf
        refine Or.inl ⟨InR.u64 (by omega) (by omega), ?_⟩
        conv => whnf
        refine ⟨by decide, Or.inr ?_⟩
        rw [show IntKind.u64.wrap (1 * 2 ^ min (Int.toNat 64) IntKind.u64.bits) = 0 from by decide]
        conv => whnf
        refine Or.inr ?_
        rw [show IntKind.u64.wrap (0 - 1) = 18446744073709551615 from by decide]
        conv => whnf
        refine ⟨⟨rfl, 0, rfl, by omega, by simp [numV]⟩, ?_⟩
        intro vs σ1 hI
        obtain ⟨rfl, i, rfl, hi, hN⟩ := hI
        have hle := numV_take_le 16 (by omega) l
        have hstep := fun h : i < l.length => numV_snoc 16 (l.take i) (l.getD i 0)
        generalize hNN : numV 16 (l.take i) = N at hN hstep ⊢
        conv => whnf
        refine CondP.dec (fun h2 => ?_) (fun h2 => ?_)
        · have h2' : i < l.length := by simpa using h2
          have hrow : (l.map fun b => [D.int .u8 (b.toNat : Int)])[((i : Int)).toNat]? = some [D.int .u8 ((l.getD i 0).toNat : Int)] := by
            rw [Int.toNat_natCast, List.getElem?_map, List.getElem?_eq_getElem h2']; simp [List.getD, h2']
          have hd : digB true (l.getD i 0) = true := List.all_eq_true.1 hall _ (by rw [List.getD_eq_getElem?_getD, List.getElem?_eq_getElem h2']; exact List.getElem_mem h2')
          have hs := hstep h2'
          rw [← take_snoc h2'] at hs
          have hl1 := hle (i + 1)
          have hb := (l.getD i 0).toNat_lt
          generalize hbb : l.getD i 0 = b at hrow hd hs hb
          conv => whnf
          refine ⟨_, by omega, hrow, ?_⟩
          conv => whnf
          refine CondP.dec (fun h3 => ?_) (fun h3 => ?_)
          · have h3' : b.toNat = 95 := by omega
            simp [digB, isDigit, h3'] at hd
          · conv => whnf
            refine CondP.dec (fun h4 => ?_) (fun h4 => ?_)
            · conv => whnf
              refine CondP.dec (fun h5 => ?_) (fun h5 => ?_)
              · conv => whnf
                refine Or.inl ⟨InR.u8 (by omega) (by omega), ?_⟩
                have hD : (digV b : Int) = (b.toNat : Int) - 48 := by unfold digV; rw [if_pos (by omega)]; omega
                conv => whnf
                refine Or.inl ⟨InR.u8 (by omega) (by omega), ?_⟩
                conv => whnf
                refine CondP.dec (fun h6 => ?_) (fun h6 => ?_)
                · omega
                · conv => whnf
                  refine CondP.dec (fun h7 => ?_) (fun h7 => ?_)
                  · conv => whnf
                    exact hov (by omega)
                  · conv => whnf
                    refine Or.inl ⟨InR.u64 (by omega) (by omega), ?_⟩
                    conv => whnf
                    refine Or.inl ⟨InR.u64 (by omega) (by omega), ?_⟩
                    conv => whnf
                    refine Or.inl ⟨InR.u64 (by omega) (by omega), ?_⟩
                    conv => whnf
                    by_cases hbig : (N : Int) * 16 + ((b.toNat : Int) - 48) ≤ 18446744073709551615
                    · refine Or.inl ⟨InR.u64 (by omega) (by omega), ?_⟩
                      conv => whnf
                      refine CondP.dec (fun h8 => ?_) (fun h8 => ?_)
                      · omega
                      · conv => whnf
                        refine CondP.dec (fun h9 => ?_) (fun h9 => ?_)
                        · conv => whnf
                          exact hov (by omega)
                        · conv => whnf
                          refine Or.inl ⟨InR.i64 (by omega) (by omega), ?_⟩
                          conv => whnf
                          refine ⟨⟨rfl, i + 1, ?_, by omega, by omega⟩, ?_⟩
                          · have e : ((numV 16 (l.take (i + 1)) : Nat) : Int) = (N : Int) * 16 + ((b.toNat : Int) - 48) := by omega
                            rw [e]; rfl
                          · exact (show ((l.length : Int) - ((i : Int) + 1)).toNat < ((l.length : Int) - (i : Int)).toNat by omega)
                    · have hw : IntKind.u64.wrap ((N : Int) * 16 + ((b.toNat : Int) - 48)) = (N : Int) * 16 + ((b.toNat : Int) - 48) - 18446744073709551616 := by
                        simp only [IntKind.wrap, show IntKind.u64.bits = 64 from rfl, show IntKind.u64.signed = false from rfl, Bool.false_and, Bool.false_eq_true, if_false]
                        omega
                      refine Or.inr ?_
                      conv => whnf
                      refine CondP.dec (fun h8 => ?_) (fun h8 => ?_)
                      · conv => whnf
                        exact hov (by omega)
                      · exfalso; exact h8 (by rw [hw]; omega)
              · skip
                have hlow := low_digit hd (by omega)
                conv => whnf
                refine CondP.dec (fun g1 => ?_) (fun g1 => ?_)
                · conv => whnf
                  refine CondP.dec (fun g2 => ?_) (fun g2 => ?_)
                  · conv => whnf
                    refine Or.inl ⟨InR.u8 (by omega) (by omega), ?_⟩
                    conv => whnf
                    refine Or.inl ⟨InR.u8 (by omega) (by omega), ?_⟩
                    have hD : (digV b : Int) = bitsOf .or .u8 (b.toNat : Int) 32 - 97 + 10 := by omega
                    conv => whnf
                    refine Or.inl ⟨InR.u8 (by omega) (by omega), ?_⟩
                    conv => whnf
                    refine CondP.dec (fun h6 => ?_) (fun h6 => ?_)
                    · omega
                    · conv => whnf
                      refine CondP.dec (fun h7 => ?_) (fun h7 => ?_)
                      · conv => whnf
                        exact hov (by omega)
                      · conv => whnf
                        refine Or.inl ⟨InR.u64 (by omega) (by omega), ?_⟩
                        conv => whnf
                        refine Or.inl ⟨InR.u64 (by omega) (by omega), ?_⟩
                        conv => whnf
                        refine Or.inl ⟨InR.u64 (by omega) (by omega), ?_⟩
                        conv => whnf
                        by_cases hbig : (N : Int) * 16 + (bitsOf .or .u8 (b.toNat : Int) 32 - 97 + 10) ≤ 18446744073709551615
                        · refine Or.inl ⟨InR.u64 (by omega) (by omega), ?_⟩
                          conv => whnf
                          refine CondP.dec (fun h8 => ?_) (fun h8 => ?_)
                          · omega
                          · conv => whnf
                            refine CondP.dec (fun h9 => ?_) (fun h9 => ?_)
                            · conv => whnf
                              exact hov (by omega)
                            · conv => whnf
                              refine Or.inl ⟨InR.i64 (by omega) (by omega), ?_⟩
                              conv => whnf
                              refine ⟨⟨rfl, i + 1, ?_, by omega, by omega⟩, ?_⟩
                              · have e : ((numV 16 (l.take (i + 1)) : Nat) : Int) = (N : Int) * 16 + (bitsOf .or .u8 (b.toNat : Int) 32 - 97 + 10) := by omega
                                rw [e]; rfl
                              · exact (show ((l.length : Int) - ((i : Int) + 1)).toNat < ((l.length : Int) - (i : Int)).toNat by omega)
                        · have hw : IntKind.u64.wrap ((N : Int) * 16 + (bitsOf .or .u8 (b.toNat : Int) 32 - 97 + 10)) = (N : Int) * 16 + (bitsOf .or .u8 (b.toNat : Int) 32 - 97 + 10) - 18446744073709551616 := by
                            simp only [IntKind.wrap, show IntKind.u64.bits = 64 from rfl, show IntKind.u64.signed = false from rfl, Bool.false_and, Bool.false_eq_true, if_false]
                            omega
                          refine Or.inr ?_
                          conv => whnf
                          refine CondP.dec (fun h8 => ?_) (fun h8 => ?_)
                          · conv => whnf
                            exact hov (by omega)
                          · exfalso; exact h8 (by rw [hw]; omega)
                  · omega
                · omega
            · skip
              have hlow := low_digit hd (by omega)
              conv => whnf
              refine CondP.dec (fun g1 => ?_) (fun g1 => ?_)
              · conv => whnf
                refine CondP.dec (fun g2 => ?_) (fun g2 => ?_)
                · conv => whnf
                  refine Or.inl ⟨InR.u8 (by omega) (by omega), ?_⟩
                  conv => whnf
                  refine Or.inl ⟨InR.u8 (by omega) (by omega), ?_⟩
                  have hD : (digV b : Int) = bitsOf .or .u8 (b.toNat : Int) 32 - 97 + 10 := by omega
                  conv => whnf
                  refine Or.inl ⟨InR.u8 (by omega) (by omega), ?_⟩
                  conv => whnf
                  refine CondP.dec (fun h6 => ?_) (fun h6 => ?_)
                  · omega
                  · conv => whnf
                    refine CondP.dec (fun h7 => ?_) (fun h7 => ?_)
                    · conv => whnf
                      exact hov (by omega)
                    · conv => whnf
                      refine Or.inl ⟨InR.u64 (by omega) (by omega), ?_⟩
                      conv => whnf
                      refine Or.inl ⟨InR.u64 (by omega) (by omega), ?_⟩
                      conv => whnf
                      refine Or.inl ⟨InR.u64 (by omega) (by omega), ?_⟩
                      conv => whnf
                      by_cases hbig : (N : Int) * 16 + (bitsOf .or .u8 (b.toNat : Int) 32 - 97 + 10) ≤ 18446744073709551615
                      · refine Or.inl ⟨InR.u64 (by omega) (by omega), ?_⟩
                        conv => whnf
                        refine CondP.dec (fun h8 => ?_) (fun h8 => ?_)
                        · omega
                        · conv => whnf
                          refine CondP.dec (fun h9 => ?_) (fun h9 => ?_)
                          · conv => whnf
                            exact hov (by omega)
                          · conv => whnf
                            refine Or.inl ⟨InR.i64 (by omega) (by omega), ?_⟩
                            conv => whnf
                            refine ⟨⟨rfl, i + 1, ?_, by omega, by omega⟩, ?_⟩
                            · have e : ((numV 16 (l.take (i + 1)) : Nat) : Int) = (N : Int) * 16 + (bitsOf .or .u8 (b.toNat : Int) 32 - 97 + 10) := by omega
                              rw [e]; rfl
                            · exact (show ((l.length : Int) - ((i : Int) + 1)).toNat < ((l.length : Int) - (i : Int)).toNat by omega)
                      · have hw : IntKind.u64.wrap ((N : Int) * 16 + (bitsOf .or .u8 (b.toNat : Int) 32 - 97 + 10)) = (N : Int) * 16 + (bitsOf .or .u8 (b.toNat : Int) 32 - 97 + 10) - 18446744073709551616 := by
                          simp only [IntKind.wrap, show IntKind.u64.bits = 64 from rfl, show IntKind.u64.signed = false from rfl, Bool.false_and, Bool.false_eq_true, if_false]
                          omega
                        refine Or.inr ?_
                        conv => whnf
                        refine CondP.dec (fun h8 => ?_) (fun h8 => ?_)
                        · conv => whnf
                          exact hov (by omega)
                        · exfalso; exact h8 (by rw [hw]; omega)
                · omega
              · omega
        · have h2' : ¬ i < l.length := fun g => h2 (by simpa using g)
          have hil : i = l.length := by omega
          rw [hil, List.take_length] at hNN
          conv => whnf
          rw [hNN] at hgd
          exact hgd (by omega)
    | false =>
      simp only [if_true, Bool.false_eq_true, if_false] at hover hgood ⊢
      refine ⟨loopsOf [(36, ⟨[101, 13, 12], [0, 1, 8, 10, 11, 99, 100], fun vs σ => σ = ⟨[], [], 0⟩ ∧ ∃ i : Nat, vs = [.d (.int .i64 i), .d (.int .u64 (numV 10 (l.take i))), .d (.bool false)] ∧ i ≤ l.length ∧ numV 10 (l.take i) < 9223372036854775808, muI l.length⟩)], 0, false, by simp, Nat.le_of_ble_eq_true rfl, ?_⟩
      conv => whnf
      refine CondP.dec (fun h0 => ?_) (fun h0 => ?_)
      · conv => whnf
        exact hnil h0
      · have hne : l ≠ [] := h0
        have hov := hover hne
        have hgd := hgood hne
        conv => whnf
        refine Or.inl ⟨InR.u64 (by omega) (by omega), ?_⟩
        conv => whnf
        refine ⟨by decide, Or.inr ?_⟩
        rw [show IntKind.u64.wrap (1 * 2 ^ min (Int.toNat 63) IntKind.u64.bits) = 9223372036854775808 from by decide]
        conv => whnf
        refine Or.inr ?_
        rw [show IntKind.u64.wrap (9223372036854775808 - 1) = 9223372036854775807 from by decide]
        conv => whnf
        refine ⟨⟨rfl, 0, rfl, by omega, by simp [numV]⟩, ?_⟩
        intro vs σ1 hI
        obtain ⟨rfl, i, rfl, hi, hN⟩ := hI
        have hle := numV_take_le 10 (by omega) l
        have hstep := fun h : i < l.length => numV_snoc 10 (l.take i) (l.getD i 0)
        generalize hNN : numV 10 (l.take i) = N at hN hstep ⊢
        conv => whnf
        refine CondP.dec (fun h2 => ?_) (fun h2 => ?_)
        · have h2' : i < l.length := by simpa using h2
          have hrow : (l.map fun b => [D.int .u8 (b.toNat : Int)])[((i : Int)).toNat]? = some [D.int .u8 ((l.getD i 0).toNat : Int)] := by
            rw [Int.toNat_natCast, List.getElem?_map, List.getElem?_eq_getElem h2']; simp [List.getD, h2']
          have hd : digB false (l.getD i 0) = true := List.all_eq_true.1 hall _ (by rw [List.getD_eq_getElem?_getD, List.getElem?_eq_getElem h2']; exact List.getElem_mem h2')
          have hs := hstep h2'
          rw [← take_snoc h2'] at hs
          have hl1 := hle (i + 1)
          have hb := (l.getD i 0).toNat_lt
          generalize hbb : l.getD i 0 = b at hrow hd hs hb
          conv => whnf
          refine ⟨_, by omega, hrow, ?_⟩
          conv => whnf
          refine CondP.dec (fun h3 => ?_) (fun h3 => ?_)
          · have h3' : b.toNat = 95 := by omega
            simp [digB, isDigit, h3'] at hd
          · conv => whnf
            have hd' : 48 ≤ b.toNat ∧ b.toNat ≤ 57 := by
              simp only [digB, Bool.false_and, Bool.or_false, isDigit, decide_eq_true_eq] at hd; omega
            refine CondP.dec (fun h4 => ?_) (fun h4 => ?_)
            · conv => whnf
              refine CondP.dec (fun h5 => ?_) (fun h5 => ?_)
              · conv => whnf
                refine Or.inl ⟨InR.u8 (by omega) (by omega), ?_⟩
                have hD : (digV b : Int) = (b.toNat : Int) - 48 := by unfold digV; rw [if_pos (by omega)]; omega
                conv => whnf
                refine Or.inl ⟨InR.u8 (by omega) (by omega), ?_⟩
                conv => whnf
                refine CondP.dec (fun h6 => ?_) (fun h6 => ?_)
                · omega
                · conv => whnf
                  refine CondP.dec (fun h7 => ?_) (fun h7 => ?_)
                  · conv => whnf
                    exact hov (by omega)
                  · conv => whnf
                    refine Or.inl ⟨InR.u64 (by omega) (by omega), ?_⟩
                    conv => whnf
                    refine Or.inl ⟨InR.u64 (by omega) (by omega), ?_⟩
                    conv => whnf
                    refine Or.inl ⟨InR.u64 (by omega) (by omega), ?_⟩
                    conv => whnf
                    by_cases hbig : (N : Int) * 10 + ((b.toNat : Int) - 48) ≤ 18446744073709551615
                    · refine Or.inl ⟨InR.u64 (by omega) (by omega), ?_⟩
                      conv => whnf
                      refine CondP.dec (fun h8 => ?_) (fun h8 => ?_)
                      · omega
                      · conv => whnf
                        refine CondP.dec (fun h9 => ?_) (fun h9 => ?_)
                        · conv => whnf
                          exact hov (by omega)
                        · conv => whnf
                          refine Or.inl ⟨InR.i64 (by omega) (by omega), ?_⟩
                          conv => whnf
                          refine ⟨⟨rfl, i + 1, ?_, by omega, by omega⟩, ?_⟩
                          · have e : ((numV 10 (l.take (i + 1)) : Nat) : Int) = (N : Int) * 10 + ((b.toNat : Int) - 48) := by omega
                            rw [e]; rfl
                          · exact (show ((l.length : Int) - ((i : Int) + 1)).toNat < ((l.length : Int) - (i : Int)).toNat by omega)
                    · have hw : IntKind.u64.wrap ((N : Int) * 10 + ((b.toNat : Int) - 48)) = (N : Int) * 10 + ((b.toNat : Int) - 48) - 18446744073709551616 := by
                        simp only [IntKind.wrap, show IntKind.u64.bits = 64 from rfl, show IntKind.u64.signed = false from rfl, Bool.false_and, Bool.false_eq_true, if_false]
                        omega
                      refine Or.inr ?_
                      conv => whnf
                      refine CondP.dec (fun h8 => ?_) (fun h8 => ?_)
                      · conv => whnf
                        exact hov (by omega)
                      · exfalso; exact h8 (by rw [hw]; omega)
              · omega
            · omega
        · have h2' : ¬ i < l.length := fun g => h2 (by simpa using g)
          have hil : i = l.length := by omega
          rw [hil, List.take_length] at hNN
          conv => whnf
          rw [hNN] at hgd
          exact hgd (by omega)
  · exact h.elim
end Go.PM.Lex
