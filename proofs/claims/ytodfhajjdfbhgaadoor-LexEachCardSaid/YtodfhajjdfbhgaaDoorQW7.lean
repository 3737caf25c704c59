/- A part of the proof: plain logic, contracts and laws over the given program. -/
import Derived.Test.YtodfhajjdfbhgaaDoorQW6
set_option linter.unusedVariables false
set_option linter.unusedSimpArgs false
set_option linter.all false
set_option maxRecDepth 100000
set_option maxHeartbeats 4000000
namespace Go.PM.Lex
open Go.Proofs
variable {w0 : World} {nG : Nat}
theorem dec_rng (r : Bs) : (Lib.decodeL r).1 ≤ 1114111 ∧ 1 ≤ (Lib.decodeL r).2 ∧ (Lib.decodeL r).2 ≤ 4 := by
  rw [Lib.decodeL_N]
  have k0 := (r.getD 0 0).toNat_lt
  rcases Lib.decodeN_shape r.length (r.getD 0 0).toNat (r.getD 1 0).toNat (r.getD 2 0).toNat (r.getD 3 0).toNat with ⟨c, e⟩ | ⟨c1, c2, c3, cv, e⟩ | ⟨c1, c2, c3, c4, cv, cs, e⟩ | ⟨c1, c2, c3, c4, c5, cv, cw, e⟩ | e
  all_goals (rw [e]; dsimp only; omega)
theorem enc_len (c : Int) : (Lib.encodeRune c).length ≤ 4 := by
  unfold Lib.encodeRune Lib.encodeRuneZ
  rw [List.length_map]
  repeat' split
  all_goals simp
theorem byte_ne {n k : Nat} (h : n < 128) (hk : k < 128) (hne : n ≠ k) : (n : Int).toNat.toUInt8 ≠ UInt8.ofNat k := by
  intro h1
  have h2 := congrArg UInt8.toNat h1
  simp [UInt8.toNat_ofNat'] at h2
  omega
theorem esc_none {n : Nat} (h : escB n = none) : idxR [110, 116, 34, 92] n = -1 := by
  unfold escB at h
  split at h; · cases h
  split at h; · cases h
  split at h; · cases h
  split at h; · cases h
  rename_i h1 h2 h3 h4
  unfold idxR
  split
  · rename_i h5
    have hc : ([110, 116, 34, 92] : Bs).contains ((n : Int).toNat.toUInt8) = false := by
      have b1 := byte_ne (n := n) (k := 110) (by omega) (by omega) h1
      have b2 := byte_ne (n := n) (k := 116) (by omega) (by omega) h2
      have b3 := byte_ne (n := n) (k := 34) (by omega) (by omega) h3
      have b4 := byte_ne (n := n) (k := 92) (by omega) (by omega) h4
      simp only [List.contains_cons, List.contains_nil, Bool.or_false, Bool.or_eq_false_iff, beq_eq_false_iff_ne]
      exact ⟨b1, b2, b3, b4⟩
    rw [Lib.contains_iff_indexByte, decide_eq_false_iff_not] at hc
    have := Lib.indexByte_ge [110, 116, 34, 92] ((n : Int).toNat.toUInt8)
    omega
  · rfl
theorem esc_some {n : Nat} {b : UInt8} (h : escB n = some b) : (idxR [110, 116, 34, 92] n = 0 ∧ b = 10) ∨ (idxR [110, 116, 34, 92] n = 1 ∧ b = 9) ∨ (idxR [110, 116, 34, 92] n = 2 ∧ b = 34) ∨ (idxR [110, 116, 34, 92] n = 3 ∧ b = 92) := by
  unfold escB at h
  split at h; · cases h; rename_i h; subst h; exact .inl ⟨by decide, rfl⟩
  split at h; · cases h; rename_i h; subst h; exact .inr (.inl ⟨by decide, rfl⟩)
  split at h; · cases h; rename_i h; subst h; exact .inr (.inr (.inl ⟨by decide, rfl⟩))
  split at h; · cases h; rename_i h; subst h; exact .inr (.inr (.inr ⟨by decide, rfl⟩))
  cases h
theorem bytesR_snoc (l : Bs) (b : UInt8) : bytesR (l ++ [b]) = bytesR l ++ [[.int .u8 b.toNat]] := by simp [bytesR]
theorem bytesR_app (l m : Bs) : bytesR (l ++ m) = bytesR l ++ bytesR m := by simp [bytesR]
theorem bytesR_one (l : Bs) : ∀ r ∈ bytesR l, r.length = 1 := by
  intro r hr
  simp only [bytesR, List.mem_map] at hr
  obtain ⟨b, _, rfl⟩ := hr
  rfl
theorem bytesR_len (l : Bs) : (bytesR l).length = l.length := by simp [bytesR]
def muIt (B : Nat) : List PV → St → Nat := fun _ σ => match σ.bx with | [_, _, _, _, .iter _ p] => B - p | _ => 0
noncomputable def tblText : Tbl := [(45, spIndexRune), (46, spWriteByte), (29, spPeek), (48, spWriteRune), (47, spString)]
theorem text_ok (ht : TblOK (GG w0 nG) tblText) : PCalls (GG w0 nG) 33 spText := by
  refine pcalls tab_ok mixed ht Tryd.func33 rfl (by kernel_rfl) (by kernel_rfl) ?_
  intro args σ K h
  unfold spText at h
  split at h
  · rename_i t s a
    obtain ⟨⟨h0, h1, hs⟩, h⟩ := h
    obtain ⟨a, rfl⟩ : ∃ n : Nat, a = n := ⟨a.toNat, by omega⟩
    simp only [Int.toNat_natCast] at h
    obtain ⟨u, hu⟩ : ∃ u, u = s.drop (a + 1) := ⟨_, rfl⟩
    have hul : u.length = s.length - (a + 1) := by rw [hu, List.length_drop]
    refine ⟨loopsOf [(4, ⟨[5], [0, 2, 3, 4, 22], fun vs σ => ∃ (esc : Bool) (l : Bs) (i f : Nat) (p : PV), vs = [.d (.bool esc)] ∧ 
      σ = ⟨[.cells t [.d (.str s), .d (.int .i64 a)], .cells 31 [.d (.int .u8 0), .d (.str []), .d (.int .i64 0), .d (.int .i64 0), .d (.int .i64 0)], .cells 42 [.d (.int .i64 0), .d (.int .i64 0)], .cells 82 [p, .sl 0 5 (bytesR l)], .iter u i], [0], 1⟩ ∧
      (p = .d .nilp ∨ p = .ptr 3 0) ∧ (i ≤ u.length ∧ u.length < i + f ∧ l.length ≤ 4 * i) ∧ textGo f (u.drop i) esc l (1 + i) = textF (s.drop a), muIt u.length⟩)], 1, false, by simp, Nat.le_of_ble_eq_true rfl, ?_⟩
    have hbad : ∀ n : Nat, textF (s.drop a) = .err n → K (.ret (.tuple [tokPV 0 [] 0 0 0, fltPV ((a + n : Nat) : Int) 141])) ⟨[.cells t [.d (.str s), .d (.int .i64 a)]], [], 0⟩ := fun n g => by
      have e1 : textR a (s.drop a) = .bad (a + n) 141 := by rw [textR, g]
      rw [e1] at h; exact h
    have hgood : ∀ (l : Bs) (n : Nat), textF (s.drop a) = .ok l n → K (.ret (.tuple [tokPV 3 l 0 a ((a + n : Nat) : Int), fltPV 0 0])) ⟨[.cells t [.d (.str s), .d (.int .i64 a)]], [], 0⟩ := fun l n g => by
      have e1 : textR a (s.drop a) = .tok ⟨3, l, 0, a, a + n⟩ := by rw [textR, g]
      rw [e1] at h; exact h
    have ha1 : ((a : Int) + 1).toNat = a + 1 := by omega
    conv => whnf
    refine Or.inl ⟨InR.i64 (by omega) (by omega), ?_⟩
    conv => whnf
    refine ⟨by omega, by omega, ?_⟩
    conv => whnf
    rw [cut_end, ha1, ← hu]
    refine ⟨⟨false, [], 0, (s.drop a).length + 1, .d .nilp, rfl, rfl, .inl rfl, ⟨by omega, by rw [List.length_drop]; omega, by simp⟩, ?_⟩, ?_⟩
    · rw [textF, List.drop_drop, ← hu]; rfl
    intro vs σ1 hI
    obtain ⟨esc, l, i, f, p, rfl, rfl, hp, ⟨hi1, hi2, hl4⟩, hgo⟩ := hI
    obtain ⟨f, rfl⟩ : ∃ g, f = g + 1 := ⟨f - 1, by omega⟩
    have hb1 := bytesR_one l
    have hbl := bytesR_len l
    have hdec := dec_eq u i
    have hdr := dec_rng (u.drop i)
    have hdl := Lib.decodeL_le (u.drop i)
    rw [List.length_drop] at hdl
    cases esc with
    | true =>
      rcases hp with rfl | rfl
      · conv => whnf
        refine CondP.dec (fun h2 => ?_) (fun h2 => ?_)
        · have hne : u.drop i ≠ [] := fun g => by have := congrArg List.length g; rw [List.length_drop] at this; simp at this; omega
          conv => whnf
          refine Or.inl ⟨InR.i64 (by omega) (by omega), ?_⟩
          conv => whnf
          refine Or.inl ⟨InR.i64 (by omega) (by omega), ?_⟩
          conv => whnf
          refine ⟨⟨.inl rfl, by omega, by rw [hdec]; omega⟩, ?_⟩
          conv => whnf
          generalize hk : idxR _ _ = k
          have hk' : idxR [110, 116, 34, 92] ((Lib.decodeL (u.drop i)).1 : Int) = k := by rw [← hdec]; exact hk
          cases hE : escB (Lib.decodeL (u.drop i)).1 with
          | none =>
            rw [esc_none hE] at hk'
            subst hk'
            have g1 : textF (s.drop a) = .err (1 + i - 1) := by rw [← hgo]; simp [textGo, hne, hE]
            conv => whnf
            refine Or.inl ⟨InR.i64 (by omega) (by omega), ?_⟩
            conv => whnf
            have g2 := hbad _ g1
            rw [show ((a + (1 + i - 1) : Nat) : Int) = (a : Int) + 1 + (i : Int) - 1 by omega] at g2
            exact g2
          | some b =>
            have g1 : textF (s.drop a) = textGo f (u.drop (i + (decodeL u i).2)) false (l ++ [b]) (1 + (i + (decodeL u i).2)) := by rw [← hgo, hdec]; simp [textGo, hne, hE, List.drop_drop, Nat.add_assoc]
            have g3 : i + (decodeL u i).2 ≤ u.length := by rw [hdec]; have := hdl hne; omega
            have hdr' : 1 ≤ (decodeL u i).2 := by rw [hdec]; omega
            rcases esc_some hE with ⟨e1, rfl⟩ | ⟨e1, rfl⟩ | ⟨e1, rfl⟩ | ⟨e1, rfl⟩
            all_goals (rw [e1] at hk'; subst hk')
            all_goals (conv => whnf)
            all_goals (refine ⟨by omega, by first | omega | (simp; done) | (simp; omega), ?_⟩)
            all_goals (conv => whnf)
            all_goals (refine ⟨⟨.inl rfl, rfl, rfl, hb1, by omega⟩, ?_⟩)
            all_goals (conv => whnf)
            all_goals (refine ⟨⟨false, _, _, f, _, rfl, ?_, .inr rfl, ⟨g3, by omega, ?_⟩, g1.symm⟩, ?_⟩)
            all_goals (first | (rw [bytesR_snoc]; rfl) | (rw [List.length_append]; simp; omega) | exact (show u.length - (i + (decodeL u i).2) < u.length - i by omega))
        · have hnil : u.drop i = [] := List.drop_eq_nil_of_le (by omega)
          have g1 : textF (s.drop a) = .err 0 := by rw [← hgo]; simp [textGo, hnil]
          conv => whnf
          (try (refine ⟨rfl, ?_⟩; conv => whnf))
          (try (refine ⟨rfl, ?_⟩; conv => whnf))
          exact hbad _ g1
      · conv => whnf
        refine CondP.dec (fun h2 => ?_) (fun h2 => ?_)
        · have hne : u.drop i ≠ [] := fun g => by have := congrArg List.length g; rw [List.length_drop] at this; simp at this; omega
          conv => whnf
          refine Or.inl ⟨InR.i64 (by omega) (by omega), ?_⟩
          conv => whnf
          refine Or.inl ⟨InR.i64 (by omega) (by omega), ?_⟩
          conv => whnf
          refine ⟨⟨.inl rfl, by omega, by rw [hdec]; omega⟩, ?_⟩
          conv => whnf
          generalize hk : idxR _ _ = k
          have hk' : idxR [110, 116, 34, 92] ((Lib.decodeL (u.drop i)).1 : Int) = k := by rw [← hdec]; exact hk
          cases hE : escB (Lib.decodeL (u.drop i)).1 with
          | none =>
            rw [esc_none hE] at hk'
            subst hk'
            have g1 : textF (s.drop a) = .err (1 + i - 1) := by rw [← hgo]; simp [textGo, hne, hE]
            conv => whnf
            refine Or.inl ⟨InR.i64 (by omega) (by omega), ?_⟩
            conv => whnf
            have g2 := hbad _ g1
            rw [show ((a + (1 + i - 1) : Nat) : Int) = (a : Int) + 1 + (i : Int) - 1 by omega] at g2
            exact g2
          | some b =>
            have g1 : textF (s.drop a) = textGo f (u.drop (i + (decodeL u i).2)) false (l ++ [b]) (1 + (i + (decodeL u i).2)) := by rw [← hgo, hdec]; simp [textGo, hne, hE, List.drop_drop, Nat.add_assoc]
            have g3 : i + (decodeL u i).2 ≤ u.length := by rw [hdec]; have := hdl hne; omega
            have hdr' : 1 ≤ (decodeL u i).2 := by rw [hdec]; omega
            rcases esc_some hE with ⟨e1, rfl⟩ | ⟨e1, rfl⟩ | ⟨e1, rfl⟩ | ⟨e1, rfl⟩
            all_goals (rw [e1] at hk'; subst hk')
            all_goals (conv => whnf)
            all_goals (refine ⟨by omega, by first | omega | (simp; done) | (simp; omega), ?_⟩)
            all_goals (conv => whnf)
            all_goals (refine ⟨⟨.inr rfl, rfl, rfl, hb1, by omega⟩, ?_⟩)
            all_goals (conv => whnf)
            all_goals (refine ⟨⟨false, _, _, f, _, rfl, ?_, .inr rfl, ⟨g3, by omega, ?_⟩, g1.symm⟩, ?_⟩)
            all_goals (first | (rw [bytesR_snoc]; rfl) | (rw [List.length_append]; simp; omega) | exact (show u.length - (i + (decodeL u i).2) < u.length - i by omega))
        · have hnil : u.drop i = [] := List.drop_eq_nil_of_le (by omega)
          have g1 : textF (s.drop a) = .err 0 := by rw [← hgo]; simp [textGo, hnil]
          conv => whnf
          (try (refine ⟨rfl, ?_⟩; conv => whnf))
          (try (refine ⟨rfl, ?_⟩; conv => whnf))
          exact hbad _ g1
    | false =>
      rcases hp with rfl | rfl
      · conv => whnf
        refine CondP.dec (fun h2 => ?_) (fun h2 => ?_)
        · have hne : u.drop i ≠ [] := fun g => by have := congrArg List.length g; rw [List.length_drop] at this; simp at this; omega
          have g3 : i + (decodeL u i).2 ≤ u.length := by rw [hdec]; have := hdl hne; omega
          have hdr' : 1 ≤ (decodeL u i).2 := by rw [hdec]; omega
          have hat : ((a : Int) + 1 + (i : Int)).toNat = a + 1 + i := by omega
          have hsd : s.drop (a + 1 + i) = u.drop i := by rw [hu, List.drop_drop]
          conv => whnf
          refine Or.inl ⟨InR.i64 (by omega) (by omega), ?_⟩
          conv => whnf
          refine Or.inl ⟨InR.i64 (by omega) (by omega), ?_⟩
          conv => whnf
          refine ⟨⟨by omega, by omega⟩, ?_⟩
          conv => whnf
          refine CondP.dec (fun h3 => ?_) (fun h3 => ?_)
          · have h3' : (Lib.decodeL (u.drop i)).1 = 34 := by rw [hdec] at h3; omega
            have g1 : textF (s.drop a) = .ok l (1 + i + 1) := by rw [← hgo]; simp [textGo, hne, h3']
            conv => whnf
            refine Or.inl ⟨InR.i64 (by omega) (by omega), ?_⟩
            conv => whnf
            refine ⟨l, ⟨rfl, rfl, rfl, .inl rfl, by omega⟩, ?_⟩
            conv => whnf
            (try (refine ⟨rfl, ?_⟩; conv => whnf))
            (try (refine ⟨rfl, ?_⟩; conv => whnf))
            have g2 := hgood _ _ g1
            rw [show ((a + (1 + i + 1) : Nat) : Int) = (a : Int) + 1 + (i : Int) + 1 by omega] at g2
            exact g2
          · have h3' : ¬ (Lib.decodeL (u.drop i)).1 = 34 := by rw [hdec] at h3; omega
            conv => whnf
            refine CondP.dec (fun h4 => ?_) (fun h4 => ?_)
            · have h4' : (Lib.decodeL (u.drop i)).1 = 92 := by rw [hdec] at h4; omega
              have g1 : textF (s.drop a) = textGo f (u.drop (i + (decodeL u i).2)) true l (1 + (i + (decodeL u i).2)) := by rw [← hgo, hdec]; simp [textGo, hne, h3', h4', List.drop_drop, Nat.add_assoc]
              conv => whnf
              refine ⟨⟨true, _, _, f, _, rfl, rfl, .inl rfl, ⟨g3, by omega, by omega⟩, g1.symm⟩, ?_⟩
              exact (show u.length - (i + (decodeL u i).2) < u.length - i by omega)
            · have h4' : ¬ (Lib.decodeL (u.drop i)).1 = 92 := by rw [hdec] at h4; omega
              conv => whnf
              refine CondP.dec (fun h5 => ?_) (fun h5 => ?_)
              · have h5' : (pk (u.drop i)).1 < 32 := by rw [hat, hsd] at h5; exact h5
                have g1 : textF (s.drop a) = .err (1 + i) := by rw [← hgo]; simp [textGo, hne, h3', h4', h5']
                conv => whnf
                have g2 := hbad _ g1
                rw [show ((a + (1 + i) : Nat) : Int) = (a : Int) + 1 + (i : Int) by omega] at g2
                exact g2
              · have h5' : ¬ (pk (u.drop i)).1 < 32 := by rw [hat, hsd] at h5; exact h5
                have g1 : textF (s.drop a) = textGo f (u.drop (i + (decodeL u i).2)) false (l ++ Lib.encodeRune ((decodeL u i).1 : Int)) (1 + (i + (decodeL u i).2)) := by rw [← hgo, hdec]; simp [textGo, hne, h3', h4', h5', List.drop_drop, Nat.add_assoc]
                have hen := enc_len ((decodeL u i).1 : Int)
                conv => whnf
                refine ⟨⟨.inl rfl, rfl, rfl, hb1, by omega, by omega, by rw [hdec]; omega⟩, ?_⟩
                conv => whnf
                refine ⟨⟨false, _, _, f, _, rfl, ?_, .inr rfl, ⟨g3, by omega, ?_⟩, g1.symm⟩, ?_⟩
                · rw [bytesR_app]; rfl
                · rw [List.length_append]; omega
                · exact (show u.length - (i + (decodeL u i).2) < u.length - i by omega)
        · have hnil : u.drop i = [] := List.drop_eq_nil_of_le (by omega)
          have g1 : textF (s.drop a) = .err 0 := by rw [← hgo]; simp [textGo, hnil]
          conv => whnf
          (try (refine ⟨rfl, ?_⟩; conv => whnf))
          (try (refine ⟨rfl, ?_⟩; conv => whnf))
          exact hbad _ g1
      · conv => whnf
        refine CondP.dec (fun h2 => ?_) (fun h2 => ?_)
        · have hne : u.drop i ≠ [] := fun g => by have := congrArg List.length g; rw [List.length_drop] at this; simp at this; omega
          have g3 : i + (decodeL u i).2 ≤ u.length := by rw [hdec]; have := hdl hne; omega
          have hdr' : 1 ≤ (decodeL u i).2 := by rw [hdec]; omega
          have hat : ((a : Int) + 1 + (i : Int)).toNat = a + 1 + i := by omega
          have hsd : s.drop (a + 1 + i) = u.drop i := by rw [hu, List.drop_drop]
          conv => whnf
          refine Or.inl ⟨InR.i64 (by omega) (by omega), ?_⟩
          conv => whnf
          refine Or.inl ⟨InR.i64 (by omega) (by omega), ?_⟩
          conv => whnf
          refine ⟨⟨by omega, by omega⟩, ?_⟩
          conv => whnf
          refine CondP.dec (fun h3 => ?_) (fun h3 => ?_)
          · have h3' : (Lib.decodeL (u.drop i)).1 = 34 := by rw [hdec] at h3; omega
            have g1 : textF (s.drop a) = .ok l (1 + i + 1) := by rw [← hgo]; simp [textGo, hne, h3']
            conv => whnf
            refine Or.inl ⟨InR.i64 (by omega) (by omega), ?_⟩
            conv => whnf
            refine ⟨l, ⟨rfl, rfl, rfl, .inr rfl, by omega⟩, ?_⟩
            conv => whnf
            (try (refine ⟨rfl, ?_⟩; conv => whnf))
            (try (refine ⟨rfl, ?_⟩; conv => whnf))
            have g2 := hgood _ _ g1
            rw [show ((a + (1 + i + 1) : Nat) : Int) = (a : Int) + 1 + (i : Int) + 1 by omega] at g2
            exact g2
          · have h3' : ¬ (Lib.decodeL (u.drop i)).1 = 34 := by rw [hdec] at h3; omega
            conv => whnf
            refine CondP.dec (fun h4 => ?_) (fun h4 => ?_)
            · have h4' : (Lib.decodeL (u.drop i)).1 = 92 := by rw [hdec] at h4; omega
              have g1 : textF (s.drop a) = textGo f (u.drop (i + (decodeL u i).2)) true l (1 + (i + (decodeL u i).2)) := by rw [← hgo, hdec]; simp [textGo, hne, h3', h4', List.drop_drop, Nat.add_assoc]
              conv => whnf
              refine ⟨⟨true, _, _, f, _, rfl, rfl, .inr rfl, ⟨g3, by omega, by omega⟩, g1.symm⟩, ?_⟩
              exact (show u.length - (i + (decodeL u i).2) < u.length - i by omega)
            · have h4' : ¬ (Lib.decodeL (u.drop i)).1 = 92 := by rw [hdec] at h4; omega
              conv => whnf
              refine CondP.dec (fun h5 => ?_) (fun h5 => ?_)
              · have h5' : (pk (u.drop i)).1 < 32 := by rw [hat, hsd] at h5; exact h5
                have g1 : textF (s.drop a) = .err (1 + i) := by rw [← hgo]; simp [textGo, hne, h3', h4', h5']
                conv => whnf
                have g2 := hbad _ g1
                rw [show ((a + (1 + i) : Nat) : Int) = (a : Int) + 1 + (i : Int) by omega] at g2
                exact g2
              · have h5' : ¬ (pk (u.drop i)).1 < 32 := by rw [hat, hsd] at h5; exact h5
                have g1 : textF (s.drop a) = textGo f (u.drop (i + (decodeL u i).2)) false (l ++ Lib.encodeRune ((decodeL u i).1 : Int)) (1 + (i + (decodeL u i).2)) := by rw [← hgo, hdec]; simp [textGo, hne, h3', h4', h5', List.drop_drop, Nat.add_assoc]
                have hen := enc_len ((decodeL u i).1 : Int)
                conv => whnf
                refine ⟨⟨.inr rfl, rfl, rfl, hb1, by omega, by omega, by rw [hdec]; omega⟩, ?_⟩
                conv => whnf
                refine ⟨⟨false, _, _, f, _, rfl, ?_, .inr rfl, ⟨g3, by omega, ?_⟩, g1.symm⟩, ?_⟩
                · rw [bytesR_app]; rfl
                · rw [List.length_append]; omega
                · exact (show u.length - (i + (decodeL u i).2) < u.length - i by omega)
        · have hnil : u.drop i = [] := List.drop_eq_nil_of_le (by omega)
          have g1 : textF (s.drop a) = .err 0 := by rw [← hgo]; simp [textGo, hnil]
          conv => whnf
          (try (refine ⟨rfl, ?_⟩; conv => whnf))
          (try (refine ⟨rfl, ?_⟩; conv => whnf))
          exact hbad _ g1
  · exact h.elim
end Go.PM.Lex
