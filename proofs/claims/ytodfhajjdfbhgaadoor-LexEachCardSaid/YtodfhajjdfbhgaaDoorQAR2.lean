/- A part of the proof: plain logic, contracts and laws over the given program. -/
import Derived.Test.YtodfhajjdfbhgaaDoorQBld
set_option linter.unusedVariables false
set_option linter.unusedSimpArgs false
set_option linter.all false
set_option maxRecDepth 100000
set_option maxHeartbeats 4000000
namespace Go.PM.Lex
open Go.Proofs
variable {w0 : World} {nG : Nat}
theorem b_or128 : ∀ n : Fin 64, bitsOf .or .u8 128 (n.val : Int) = 128 + n.val := by rw [bitsOf_eq]; decide +kernel
theorem b_or192 : ∀ n : Fin 32, bitsOf .or .u8 192 (n.val : Int) = 192 + n.val := by rw [bitsOf_eq]; decide +kernel
theorem b_or224 : ∀ n : Fin 16, bitsOf .or .u8 224 (n.val : Int) = 224 + n.val := by rw [bitsOf_eq]; decide +kernel
theorem b_or240 : ∀ n : Fin 8, bitsOf .or .u8 240 (n.val : Int) = 240 + n.val := by rw [bitsOf_eq]; decide +kernel
theorem b_and63 : ∀ n : Fin 256, bitsOf .and .u8 (n.val : Int) 63 = n.val % 64 := by rw [bitsOf_eq]; decide +kernel
theorem o128 {x : Int} (h0 : 0 ≤ x) (h1 : x < 64) : bitsOf .or .u8 128 x = 128 + x := by obtain ⟨n, rfl⟩ : ∃ n : Nat, x = n := ⟨x.toNat, by omega⟩; exact b_or128 ⟨n, by omega⟩
theorem o192 {x : Int} (h0 : 0 ≤ x) (h1 : x < 32) : bitsOf .or .u8 192 x = 192 + x := by obtain ⟨n, rfl⟩ : ∃ n : Nat, x = n := ⟨x.toNat, by omega⟩; exact b_or192 ⟨n, by omega⟩
theorem o224 {x : Int} (h0 : 0 ≤ x) (h1 : x < 16) : bitsOf .or .u8 224 x = 224 + x := by obtain ⟨n, rfl⟩ : ∃ n : Nat, x = n := ⟨x.toNat, by omega⟩; exact b_or224 ⟨n, by omega⟩
theorem o240 {x : Int} (h0 : 0 ≤ x) (h1 : x < 8) : bitsOf .or .u8 240 x = 240 + x := by obtain ⟨n, rfl⟩ : ∃ n : Nat, x = n := ⟨x.toNat, by omega⟩; exact b_or240 ⟨n, by omega⟩
theorem a63 {x : Int} (h0 : 0 ≤ x) (h1 : x < 256) : bitsOf .and .u8 x 63 = x % 64 := by obtain ⟨n, rfl⟩ : ∃ n : Nat, x = n := ⟨x.toNat, by omega⟩; rw [b_and63 ⟨n, by omega⟩]
theorem wu8 (n : Int) : IntKind.u8.wrap n = n % 256 := by simp [IntKind.wrap, IntKind.bits, IntKind.signed]
theorem bytesR_enc (c : Int) : bytesR (Lib.encodeRune c) = (Lib.encodeRuneZ c).map fun x => [D.int .u8 x] := by
  have h := Lib.encodeRuneZ_byte c
  unfold Lib.encodeRune bytesR
  rw [List.map_map]
  refine List.map_congr_left fun x hx => ?_
  have := h x hx
  simp [UInt8.toNat_ofNat']
  omega
noncomputable def spAppendRune : Spec := fun args σ K => match args, σ with
  | [.sl 0 e rows, .d (.int .i32 c)], ⟨[], [0], 1⟩ => (e = 5 ∧ (∀ r ∈ rows, r.length = 1) ∧ rows.length < 70368744177664 ∧ 0 ≤ c ∧ c ≤ 1114111) ∧ K (.ret (.sl 0 5 (rows ++ bytesR (Lib.encodeRune c)))) ⟨[], [0], 1⟩
  | _, _ => False
theorem spAppendRune_mono : SpecMono spAppendRune := fun args σ K K' hK h => by
  unfold spAppendRune at h ⊢; split at h <;> first | exact ⟨h.1, hK _ _ h.2⟩ | exact h.elim
noncomputable def spAppendRune2 : Spec := fun args σ K => match args, σ with
  | [.sl 0 e rows, .d (.int .i32 c)], ⟨[], [0], 1⟩ => (e = 5 ∧ (∀ r ∈ rows, r.length = 1) ∧ rows.length < 70368744177664 ∧ 128 ≤ c ∧ c ≤ 1114111) ∧ K (.ret (.sl 0 5 (rows ++ bytesR (Lib.encodeRune c)))) ⟨[], [0], 1⟩
  | _, _ => False
theorem spAppendRune2_mono : SpecMono spAppendRune2 := fun args σ K K' hK h => by
  unfold spAppendRune2 at h ⊢; split at h <;> first | exact ⟨h.1, hK _ _ h.2⟩ | exact h.elim
theorem all1 {l : List (List D)} {r : List D} (h : ∀ r ∈ l, r.length = 1) (hr : r ∈ l) : r.length = 1 := h r hr
theorem appendRune2_ok : PCalls (GG w0 nG) 65 spAppendRune2 := by
  refine pcalls tab_ok mixed (tbl := []) trivial Tryd.func65 rfl (by kernel_rfl) (by kernel_rfl) ?_
  intro args σ K h
  unfold spAppendRune2 at h
  split at h
  · rename_i e rows c
    obtain ⟨⟨rfl, hr1, hrl, hc0, hc1⟩, h⟩ := h
    refine ⟨loopsOf [], 0, true, by simp, Nat.le_of_ble_eq_true rfl, ?_⟩
    have e6 : c.fdiv (2 ^ min (Int.toNat 6) IntKind.i32.bits) = c / 64 := by rw [show (2 : Int) ^ min (Int.toNat 6) IntKind.i32.bits = 64 by decide]; exact Int.fdiv_eq_ediv_of_nonneg _ (by omega)
    have e12 : c.fdiv (2 ^ min (Int.toNat 12) IntKind.i32.bits) = c / 4096 := by rw [show (2 : Int) ^ min (Int.toNat 12) IntKind.i32.bits = 4096 by decide]; exact Int.fdiv_eq_ediv_of_nonneg _ (by omega)
    have e18 : c.fdiv (2 ^ min (Int.toNat 18) IntKind.i32.bits) = c / 262144 := by rw [show (2 : Int) ^ min (Int.toNat 18) IntKind.i32.bits = 262144 by decide]; exact Int.fdiv_eq_ediv_of_nonneg _ (by omega)
    conv => whnf
    refine Or.inl ⟨InR.u32 (by omega) (by omega), ?_⟩
    conv => whnf
    refine CondP.dec (fun h1 => ?_) (fun h1 => ?_)
    · skip
      have g : K (.ret (.sl 0 5 (rows ++ [[D.int .u8 (bitsOf .or .u8 192 (IntKind.u8.wrap (c.fdiv (2 ^ min (Int.toNat 6) IntKind.i32.bits))))], [D.int .u8 (bitsOf .or .u8 128 (bitsOf .and .u8 (IntKind.u8.wrap (c)) 63))]]))) ⟨[], [0], 1⟩ := by
        have e : bytesR (Lib.encodeRune c) = [[D.int .u8 (bitsOf .or .u8 192 (IntKind.u8.wrap (c.fdiv (2 ^ min (Int.toNat 6) IntKind.i32.bits))))], [D.int .u8 (bitsOf .or .u8 128 (bitsOf .and .u8 (IntKind.u8.wrap (c)) 63))]] := by
          rw [bytesR_enc, Lib.encodeRuneZ_two hc0 (by omega)]
          simp only [e6, e12, e18, wu8, List.map_cons, List.map_nil]
          rw [o192 (by omega) (by omega), a63 (by omega) (by omega), o128 (by omega) (by omega), show c / 64 % 256 = c / 64 by omega, show c % 256 % 64 = c % 64 by omega]
          all_goals (try omega)
          (try (congr 1 <;> omega))
        rw [e] at h; exact h
      conv => whnf
      refine ⟨by decide, ?_⟩
      conv => whnf
      refine Or.inr ?_
      conv => whnf
      refine Or.inr ?_
      conv => whnf
      refine ⟨fun r hr => by (simp at hr; rcases hr with rfl | rfl <;> rfl), (show (rows.length + 2) * 1 ≤ 2 ^ 47 by omega), (show rows.length + 2 ≤ 2 ^ 47 by omega), ?_⟩
      conv => whnf
      exact g
    · conv => whnf
      refine CondP.dec (fun h2 => ?_) (fun h2 => ?_)
      · conv => whnf
        refine CondP.dec (fun h2' => ?_) (fun h2' => absurd h2 h2')
        have g : K (.ret (.sl 0 5 (rows ++ [[D.int .u8 (bitsOf .or .u8 224 (IntKind.u8.wrap (c.fdiv (2 ^ min (Int.toNat 12) IntKind.i32.bits))))], [D.int .u8 (bitsOf .or .u8 128 (bitsOf .and .u8 (IntKind.u8.wrap (c.fdiv (2 ^ min (Int.toNat 6) IntKind.i32.bits))) 63))], [D.int .u8 (bitsOf .or .u8 128 (bitsOf .and .u8 (IntKind.u8.wrap (c)) 63))]]))) ⟨[], [0], 1⟩ := by
          have e : bytesR (Lib.encodeRune c) = [[D.int .u8 (bitsOf .or .u8 224 (IntKind.u8.wrap (c.fdiv (2 ^ min (Int.toNat 12) IntKind.i32.bits))))], [D.int .u8 (bitsOf .or .u8 128 (bitsOf .and .u8 (IntKind.u8.wrap (c.fdiv (2 ^ min (Int.toNat 6) IntKind.i32.bits))) 63))], [D.int .u8 (bitsOf .or .u8 128 (bitsOf .and .u8 (IntKind.u8.wrap (c)) 63))]] := by
            rw [bytesR_enc, Lib.encodeRuneZ_three (by omega)]
            simp only [e6, e12, e18, wu8, List.map_cons, List.map_nil]
            rw [o224 (by omega) (by omega), a63 (by omega) (by omega), a63 (by omega) (by omega), o128 (by omega) (by omega), o128 (by omega) (by omega), show c / 4096 % 256 = c / 4096 by omega, show c / 64 % 256 % 64 = c / 64 % 64 by omega, show c % 256 % 64 = c % 64 by omega]
            all_goals (try omega)
            (try (congr 1 <;> omega))
          rw [e] at h; exact h
        conv => whnf
        refine ⟨by decide, ?_⟩
        conv => whnf
        refine Or.inr ?_
        conv => whnf
        refine ⟨by decide, ?_⟩
        conv => whnf
        refine Or.inr ?_
        conv => whnf
        refine Or.inr ?_
        conv => whnf
        refine ⟨fun r hr => by (simp at hr; rcases hr with rfl | rfl | rfl <;> rfl), (show (rows.length + 3) * 1 ≤ 2 ^ 47 by omega), (show rows.length + 3 ≤ 2 ^ 47 by omega), ?_⟩
        conv => whnf
        exact g
      · conv => whnf
        refine CondP.dec (fun h3 => ?_) (fun h3 => ?_)
        · conv => whnf
          refine CondP.dec (fun h4 => ?_) (fun h4 => ?_)
          · skip
            have g : K (.ret (.sl 0 5 (rows ++ [[D.int .u8 (bitsOf .or .u8 224 (IntKind.u8.wrap (c.fdiv (2 ^ min (Int.toNat 12) IntKind.i32.bits))))], [D.int .u8 (bitsOf .or .u8 128 (bitsOf .and .u8 (IntKind.u8.wrap (c.fdiv (2 ^ min (Int.toNat 6) IntKind.i32.bits))) 63))], [D.int .u8 (bitsOf .or .u8 128 (bitsOf .and .u8 (IntKind.u8.wrap (c)) 63))]]))) ⟨[], [0], 1⟩ := by
              have e : bytesR (Lib.encodeRune c) = [[D.int .u8 (bitsOf .or .u8 224 (IntKind.u8.wrap (c.fdiv (2 ^ min (Int.toNat 12) IntKind.i32.bits))))], [D.int .u8 (bitsOf .or .u8 128 (bitsOf .and .u8 (IntKind.u8.wrap (c.fdiv (2 ^ min (Int.toNat 6) IntKind.i32.bits))) 63))], [D.int .u8 (bitsOf .or .u8 128 (bitsOf .and .u8 (IntKind.u8.wrap (c)) 63))]] := by
                rw [bytesR_enc, Lib.encodeRuneZ_three (by omega)]
                simp only [e6, e12, e18, wu8, List.map_cons, List.map_nil]
                rw [o224 (by omega) (by omega), a63 (by omega) (by omega), a63 (by omega) (by omega), o128 (by omega) (by omega), o128 (by omega) (by omega), show c / 4096 % 256 = c / 4096 by omega, show c / 64 % 256 % 64 = c / 64 % 64 by omega, show c % 256 % 64 = c % 64 by omega]
                all_goals (try omega)
                (try (congr 1 <;> omega))
              rw [e] at h; exact h
            conv => whnf
            refine ⟨by decide, ?_⟩
            conv => whnf
            refine Or.inr ?_
            conv => whnf
            refine ⟨by decide, ?_⟩
            conv => whnf
            refine Or.inr ?_
            conv => whnf
            refine Or.inr ?_
            conv => whnf
            refine ⟨fun r hr => by (simp at hr; rcases hr with rfl | rfl | rfl <;> rfl), (show (rows.length + 3) * 1 ≤ 2 ^ 47 by omega), (show rows.length + 3 ≤ 2 ^ 47 by omega), ?_⟩
            conv => whnf
            exact g
          · conv => whnf
            refine CondP.dec (fun h5 => ?_) (fun h5 => ?_)
            · conv => whnf
              refine CondP.dec (fun h6 => ?_) (fun h6 => ?_)
              · skip
                have g : K (.ret (.sl 0 5 (rows ++ [[D.int .u8 (bitsOf .or .u8 240 (IntKind.u8.wrap (c.fdiv (2 ^ min (Int.toNat 18) IntKind.i32.bits))))], [D.int .u8 (bitsOf .or .u8 128 (bitsOf .and .u8 (IntKind.u8.wrap (c.fdiv (2 ^ min (Int.toNat 12) IntKind.i32.bits))) 63))], [D.int .u8 (bitsOf .or .u8 128 (bitsOf .and .u8 (IntKind.u8.wrap (c.fdiv (2 ^ min (Int.toNat 6) IntKind.i32.bits))) 63))], [D.int .u8 (bitsOf .or .u8 128 (bitsOf .and .u8 (IntKind.u8.wrap (c)) 63))]]))) ⟨[], [0], 1⟩ := by
                  have e : bytesR (Lib.encodeRune c) = [[D.int .u8 (bitsOf .or .u8 240 (IntKind.u8.wrap (c.fdiv (2 ^ min (Int.toNat 18) IntKind.i32.bits))))], [D.int .u8 (bitsOf .or .u8 128 (bitsOf .and .u8 (IntKind.u8.wrap (c.fdiv (2 ^ min (Int.toNat 12) IntKind.i32.bits))) 63))], [D.int .u8 (bitsOf .or .u8 128 (bitsOf .and .u8 (IntKind.u8.wrap (c.fdiv (2 ^ min (Int.toNat 6) IntKind.i32.bits))) 63))], [D.int .u8 (bitsOf .or .u8 128 (bitsOf .and .u8 (IntKind.u8.wrap (c)) 63))]] := by
                    rw [bytesR_enc, Lib.encodeRuneZ_four (by omega) (by omega)]
                    simp only [e6, e12, e18, wu8, List.map_cons, List.map_nil]
                    rw [o240 (by omega) (by omega), a63 (by omega) (by omega), a63 (by omega) (by omega), a63 (by omega) (by omega), o128 (by omega) (by omega), o128 (by omega) (by omega), o128 (by omega) (by omega), show c / 262144 % 256 = c / 262144 by omega, show c / 4096 % 256 % 64 = c / 4096 % 64 by omega, show c / 64 % 256 % 64 = c / 64 % 64 by omega, show c % 256 % 64 = c % 64 by omega]
                    all_goals (try omega)
                    (try (congr 1 <;> omega))
                  rw [e] at h; exact h
                conv => whnf
                refine ⟨by decide, ?_⟩
                conv => whnf
                refine Or.inr ?_
                conv => whnf
                refine ⟨by decide, ?_⟩
                conv => whnf
                refine Or.inr ?_
                conv => whnf
                refine ⟨by decide, ?_⟩
                conv => whnf
                refine Or.inr ?_
                conv => whnf
                refine Or.inr ?_
                conv => whnf
                refine ⟨fun r hr => by (simp at hr; rcases hr with rfl | rfl | rfl | rfl <;> rfl), (show (rows.length + 4) * 1 ≤ 2 ^ 47 by omega), (show rows.length + 4 ≤ 2 ^ 47 by omega), ?_⟩
                conv => whnf
                exact g
              · omega
            · omega
        · conv => whnf
          refine CondP.dec (fun h5 => ?_) (fun h5 => ?_)
          · omega
          · skip
            have g : K (.ret (.sl 0 5 (rows ++ [[D.int .u8 (239)], [D.int .u8 (191)], [D.int .u8 (189)]]))) ⟨[], [0], 1⟩ := by
              have e : bytesR (Lib.encodeRune c) = [[D.int .u8 (239)], [D.int .u8 (191)], [D.int .u8 (189)]] := by
                rw [bytesR_enc, Lib.encodeRuneZ_bad (by omega)]
                rfl
              rw [e] at h; exact h
            conv => whnf
            refine ⟨fun r hr => by (simp at hr; rcases hr with rfl | rfl | rfl <;> rfl), (show (rows.length + 3) * 1 ≤ 2 ^ 47 by omega), (show rows.length + 3 ≤ 2 ^ 47 by omega), ?_⟩
            conv => whnf
            exact g
  · exact h.elim
noncomputable def tblAR : Tbl := [(65, spAppendRune2)]
theorem appendRune_ok : PCalls (GG w0 nG) 59 spAppendRune := by
  refine pcalls tab_ok mixed (tbl := tblAR) ⟨⟨appendRune2_ok, spAppendRune2_mono⟩, trivial⟩ Tryd.func59 rfl (by kernel_rfl) (by kernel_rfl) ?_
  intro args σ K h
  unfold spAppendRune at h
  split at h
  · rename_i e rows c
    obtain ⟨⟨rfl, hr1, hrl, hc0, hc1⟩, h⟩ := h
    refine ⟨loopsOf [], 0, true, by simp, Nat.le_of_ble_eq_true rfl, ?_⟩
    conv => whnf
    refine Or.inl ⟨InR.u32 (by omega) (by omega), ?_⟩
    conv => whnf
    refine CondP.dec (fun h1 => ?_) (fun h1 => ?_)
    · have e : bytesR (Lib.encodeRune c) = [[D.int .u8 c]] := by rw [bytesR_enc, Lib.encodeRuneZ_one hc0 h1]; rfl
      rw [e] at h
      conv => whnf
      refine Or.inl ⟨InR.u8 (by omega) (by omega), ?_⟩
      conv => whnf
      refine ⟨fun r hr => by (simp at hr; rcases hr with rfl <;> rfl), (show (rows.length + 1) * 1 ≤ 2 ^ 47 by omega), (show rows.length + 1 ≤ 2 ^ 47 by omega), ?_⟩
      conv => whnf
      exact h
    · conv => whnf
      refine ⟨⟨rfl, hr1, by omega, by omega, by omega⟩, ?_⟩
      conv => whnf
      exact h
  · exact h.elim
noncomputable def tblWB : Tbl := [(58, spCopyCheck)]
theorem tblWB_ok : TblOK (GG w0 nG) tblWB := ⟨⟨copyCheck_ok, spCopyCheck_mono⟩, trivial⟩
theorem writeByte_ok : PCalls (GG w0 nG) 46 spWriteByte := by
  refine pcalls tab_ok mixed tblWB_ok Tryd.func46 rfl (by kernel_rfl) (by kernel_rfl) ?_
  intro args σ K h
  unfold spWriteByte at h
  split at h
  · rename_i c t p e rows
    obtain ⟨⟨hp, rfl, rfl, hr1, hrl⟩, h⟩ := h
    refine ⟨loopsOf [], 1, true, by simp, Nat.le_of_ble_eq_true rfl, ?_⟩
    rcases hp with rfl | rfl
    · conv => whnf
      refine ⟨⟨.inl rfl, rfl⟩, ?_⟩
      conv => whnf
      refine ⟨fun r hr => by (simp at hr; rcases hr with rfl <;> rfl), (show (rows.length + 1) * 1 ≤ 2 ^ 47 by omega), (show rows.length + 1 ≤ 2 ^ 47 by omega), ?_⟩
      conv => whnf
      exact h
    · conv => whnf
      refine ⟨⟨.inr rfl, rfl⟩, ?_⟩
      conv => whnf
      refine ⟨fun r hr => by (simp at hr; rcases hr with rfl <;> rfl), (show (rows.length + 1) * 1 ≤ 2 ^ 47 by omega), (show rows.length + 1 ≤ 2 ^ 47 by omega), ?_⟩
      conv => whnf
      exact h
  · exact h.elim
theorem enc4 (c : Int) : (Lib.encodeRune c).length ≤ 4 := by unfold Lib.encodeRune; rw [List.length_map]; exact (Lib.encodeRuneZ_length c).2
noncomputable def tblWR : Tbl := [(58, spCopyCheck), (59, spAppendRune)]
theorem tblWR_ok : TblOK (GG w0 nG) tblWR := ⟨⟨copyCheck_ok, spCopyCheck_mono⟩, ⟨appendRune_ok, spAppendRune_mono⟩, trivial⟩
theorem writeRune_ok : PCalls (GG w0 nG) 48 spWriteRune := by
  refine pcalls tab_ok mixed tblWR_ok Tryd.func48 rfl (by kernel_rfl) (by kernel_rfl) ?_
  intro args σ K h
  unfold spWriteRune at h
  split at h
  · rename_i c t p e rows
    obtain ⟨⟨hp, rfl, rfl, hr1, hrl, hc0, hc1⟩, h⟩ := h
    refine ⟨loopsOf [], 1, true, by simp, Nat.le_of_ble_eq_true rfl, ?_⟩
    rcases hp with rfl | rfl
    · conv => whnf
      refine ⟨⟨.inl rfl, rfl⟩, ?_⟩
      conv => whnf
      refine ⟨⟨rfl, hr1, hrl, hc0, hc1⟩, ?_⟩
      conv => whnf
      refine Or.inl ⟨InR.i64 (by rw [List.length_append, bytesR_len']; have := Lib.encodeRuneZ_length c; omega) (by rw [List.length_append, bytesR_len']; have := enc4 c; omega), ?_⟩
      conv => whnf
      exact h
    · conv => whnf
      refine ⟨⟨.inr rfl, rfl⟩, ?_⟩
      conv => whnf
      refine ⟨⟨rfl, hr1, hrl, hc0, hc1⟩, ?_⟩
      conv => whnf
      refine Or.inl ⟨InR.i64 (by rw [List.length_append, bytesR_len']; omega) (by rw [List.length_append, bytesR_len']; have := enc4 c; omega), ?_⟩
      conv => whnf
      exact h
  · exact h.elim
end Go.PM.Lex
