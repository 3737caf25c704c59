/- A part of the proof: plain logic, contracts and laws over the given program. -/
import Derived.Test.YtodfhajjdfbhgaaDoorQSp2
set_option linter.unusedVariables false
set_option linter.unusedSimpArgs false
set_option linter.all false
set_option maxRecDepth 100000
set_option maxHeartbeats 4000000
namespace Go.PM.Lex
open Go.Proofs
variable {w0 : World} {nG : Nat}
noncomputable def spValidRune : Spec := fun args σ K => match args with
  | [.d (.int .i32 c)] => K (.ret (.d (.bool (Lib.validRune c)))) σ
  | _ => False
theorem spValidRune_mono : SpecMono spValidRune := fun args σ K K' hK h => by
  unfold spValidRune at h ⊢; split at h <;> first | exact hK _ _ h | exact h.elim
theorem enc_hi (c : Int) (h : 128 ≤ c) (h2 : c ≤ 1114111) : 2 ≤ (Utf8.encode c).data.toList.length ∧ (Utf8.encode c).data.toList.length ≤ 4 ∧ ∀ b ∈ (Utf8.encode c).data.toList, 128 ≤ b.toNat := by
  unfold Utf8.encode
  simp only
  generalize hn : (if Utf8.valid c then c.toNat else Utf8.runeError) = n
  have hn1 : 128 ≤ n ∧ n ≤ 1114111 := by
    rw [← hn]; split
    · omega
    · simp [Utf8.runeError]
  rw [if_neg (by omega)]
  split
  · simp [UInt8.toNat_ofNat']; omega
  · split
    · simp [UInt8.toNat_ofNat']; omega
    · simp [UInt8.toNat_ofNat']; omega
theorem index_low {l : Bs} {c : UInt8} (h : ∀ b ∈ l, b.toNat < 128) (hc : 128 ≤ c.toNat) : Lib.indexByte l c = -1 := by
  induction l with
  | nil => rfl
  | cons b l ih =>
    have h1 := ih (fun x hx => h x (List.mem_cons_of_mem _ hx))
    have h2 : (b == c) = false := by
      simp only [beq_eq_false_iff_ne]; intro e; subst e; have := h b (by simp); omega
    simp [Lib.indexByte, h1, h2]
theorem getD_low {s : Bs} (h : ∀ b ∈ s, b.toNat < 128) (i : Nat) : (s.getD i 0).toNat < 128 := by
  rw [List.getD_eq_getElem?_getD]
  by_cases hi : i < s.length
  · rw [List.getElem?_eq_getElem hi]; exact h _ (List.getElem_mem hi)
  · rw [List.getElem?_eq_none (by omega)]; decide
theorem getD_hi {s : Bs} (h : ∀ b ∈ s, 128 ≤ b.toNat) {i : Nat} (hi : i < s.length) : 128 ≤ (s.getD i 0).toNat := by
  rw [List.getD_eq_getElem?_getD, List.getElem?_eq_getElem hi]; exact h _ (List.getElem_mem hi)
theorem u8_of {n : Int} {k : Nat} (h : n = k) (hk : k < 256) : (n.toNat.toUInt8).toNat = k := by
  subst h; simp [UInt8.toNat_ofNat']; omega
noncomputable def tblIR : Tbl := [(27, spIndexByte), (57, spValidRune)]
theorem indexRune_ok (ht : TblOK (GG w0 nG) tblIR) : PCalls (GG w0 nG) 45 spIndexRune := by
  refine pcalls tab_ok mixed ht Tryd.func45 rfl (by kernel_rfl) (by kernel_rfl) ?_
  intro args σ K h
  unfold spIndexRune at h
  split at h
  · rename_i s c
    obtain ⟨⟨hs, hc0, hc1⟩, h⟩ := h
    have hsl : s.length = 4 := by rcases hs with rfl | rfl <;> rfl
    have hsa : ∀ b ∈ s, b.toNat < 128 := by rcases hs with rfl | rfl <;> decide
    have hsd : ∀ p, p < 4 → (decodeL s p).1 < 128 ∧ (decodeL s p).2 = 1 := by
      intro p hp
      rcases hs with rfl | rfl
      all_goals (match p, hp with | 0, _ => exact ⟨by decide, by decide⟩ | 1, _ => exact ⟨by decide, by decide⟩ | 2, _ => exact ⟨by decide, by decide⟩ | 3, _ => exact ⟨by decide, by decide⟩)
    refine ⟨loopsOf [(38, ⟨[], [0, 175], fun vs σ => vs = [] ∧ ∃ p : Nat, p ≤ 4 ∧ σ = ⟨[.iter s p], [], 0⟩, fun _ σ => match σ.bx with | [.iter _ p] => 4 - p | _ => 0⟩),
        (5, ⟨[9], [0, 1, 7, 8], fun vs σ => σ = ⟨[], [], 0⟩ ∧ vs = [.d (.int .i64 (((Utf8.encode c).data.toList.length : Int) - 1))], fun _ _ => 0⟩)], 0, false, by simp, Nat.le_of_ble_eq_true rfl, ?_⟩
    have hneg : 128 ≤ c → K (.ret (.d (.int .i64 (-1)))) ⟨[], [], 0⟩ := fun g => by
      have : idxR s c = -1 := by unfold idxR; rw [if_neg (by omega)]
      rw [this] at h; exact h
    conv => whnf
    refine CondP.dec (fun h1 => ?_) (fun h1 => ?_)
    · conv => whnf
      refine CondP.dec (fun h2 => ?_) (fun h2 => ?_)
      · have e : idxR s c = Lib.indexByte s c.toNat.toUInt8 := by unfold idxR; rw [if_pos h2]
        rw [e] at h
        conv => whnf
        refine Or.inl ⟨InR.u8 (by omega) (by omega), ?_⟩
        conv => whnf
        exact h
      · conv => whnf
        refine CondP.dec (fun h3 => ?_) (fun h3 => ?_)
        · conv => whnf
          refine ⟨⟨rfl, 0, by omega, rfl⟩, ?_⟩
          intro vs σ1 hI
          obtain ⟨rfl, p, hp, rfl⟩ := hI
          conv => whnf
          refine CondP.dec (fun h4 => ?_) (fun h4 => ?_)
          · have hd := hsd p (by omega)
            conv => whnf
            refine CondP.dec (fun h5 => ?_) (fun h5 => ?_)
            · omega
            · conv => whnf
              refine ⟨⟨rfl, p + 1, by omega, by rw [hd.2]; rfl⟩, ?_⟩
              exact (show 4 - (p + (decodeL s p).2) < 4 - p by omega)
          · conv => whnf
            exact hneg (by omega)
        · conv => whnf
          refine CondP.intro (fun h4 => ?_) (fun h4 => ?_)
          · conv => whnf
            exact hneg (by omega)
          · obtain ⟨e1, e2, e3⟩ := enc_hi c (by omega) hc1
            have hl := getD_hi e3 (i := (Utf8.encode c).data.toList.length - 1) (by omega)
            conv => whnf
            refine Or.inl ⟨InR.i64 (by omega) (by omega), ?_⟩
            conv => whnf
            refine ⟨⟨rfl, rfl⟩, ?_⟩
            intro vs σ1 hI
            obtain ⟨rfl, rfl⟩ := hI
            conv => whnf
            refine CondP.dec (fun h5 => ?_) (fun h5 => ?_)
            · conv => whnf
              refine ⟨by omega, by omega, ?_⟩
              conv => whnf
              refine ⟨by omega, by omega, ?_⟩
              conv => whnf
              have hlo := getD_low hsa (((Utf8.encode c).data.toList.length : Int) - 1).toNat
              have hhi : 128 ≤ ((Utf8.encode c).data.toList.getD (((Utf8.encode c).data.toList.length : Int) - 1).toNat 0).toNat := getD_hi e3 (by omega)
              refine CondP.ndec (fun h6 => ?_) (fun h6 => ?_)
              · conv => whnf
                refine Or.inl ⟨InR.i64 (by omega) (by omega), ?_⟩
                conv => whnf
                refine ⟨by omega, by omega, ?_⟩
                conv => whnf
                refine ⟨by omega, by omega, ?_⟩
                conv => whnf
                generalize hx : Lib.indexByte _ _ = x
                have : x = -1 := by
                  rw [← hx]
                  refine index_low (fun b hb => hsa b (List.mem_of_mem_take (List.mem_of_mem_drop hb))) ?_
                  rw [u8_of rfl (UInt8.toNat_lt _)]
                  exact hhi
                subst this
                conv => whnf
                exact hneg (by omega)
              · omega
            · omega
    · omega
  · exact h.elim
end Go.PM.Lex
