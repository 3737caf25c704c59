/- A part of the proof: plain logic, contracts and laws over the given program. -/
import Derived.Test.YtjmoaahgfjaafaaGreatDoorH10
set_option linter.unusedVariables false
set_option linter.unusedSimpArgs false
set_option linter.all false
section
set_option maxRecDepth 100000
namespace Go.PM.Lex
abbrev ws : Bs := [32, 9, 13, 10]
theorem indexByte_take {c : UInt8} : ∀ (l : Bs) (i m : Nat), Lib.indexByte l c = i → i < m → Lib.indexByte (l.take m) c = i
 | [], i, m, h, _ => by simp [Lib.indexByte] at h
 | b :: l, i, m, h, hm => by
  obtain ⟨m, rfl⟩ : ∃ k, m = k + 1 := ⟨m - 1, by omega⟩
  rw [List.take_succ_cons]
  unfold Lib.indexByte at h ⊢
  split at h
  ·rename_i hb; rw [if_pos hb]; exact h
  ·rename_i hb
   rw [if_neg hb]
   split at h
   ·omega
   ·rename_i h1
    have hge := Lib.indexByte_ge l c
    have h1' : Lib.indexByte l c ≠ -1 := by simpa using h1
    have := indexByte_take (c := c) l (Lib.indexByte l c).toNat m (by omega) (by omega)
    rw [this]
    have e : ((Lib.indexByte l c).toNat : Int) = Lib.indexByte l c := by omega
    rw [e, if_neg h1]; exact h
theorem index_take {p : Bs} : ∀ (l : Bs) (i m : Nat), Lib.index l p = i → i + p.length ≤ m → Lib.index (l.take m) p = i
 | [], i, m, h, hm => by simpa using h
 | b :: l, i, 0, h, hm => by
  have : p = [] := List.eq_nil_of_length_eq_zero (by omega)
  subst this
  simp [Lib.index] at h ⊢; omega
 | b :: l, i, m + 1, h, hm => by
  rw [List.take_succ_cons]
  unfold Lib.index at h ⊢
  split at h
  ·rename_i hb
   rw [if_pos]
   ·exact h
   ·rw [List.isPrefixOf_iff_prefix] at hb ⊢
    rw [← List.take_succ_cons, List.prefix_take_iff]
    exact ⟨hb, by omega⟩
  ·rename_i hb
   rw [if_neg]
   ·split at h
    ·omega
    ·rename_i h1
     have hge := Lib.index_ge l p
     have h1' : Lib.index l p ≠ -1 := by simpa using h1
     have := index_take (p := p) l (Lib.index l p).toNat m (by omega) (by omega)
     rw [this]
     have e : ((Lib.index l p).toNat : Int) = Lib.index l p := by omega
     rw [e, if_neg h1]; exact h
   ·intro g
    apply hb
    rw [List.isPrefixOf_iff_prefix] at g ⊢
    rw [← List.take_succ_cons] at g
    exact g.trans (List.take_prefix _ _)
theorem trim_take (r : Bs) (m : Nat) : Lib.trimLeftS (r.take (r.length - (Lib.trimLeftS r ws).length + m)) ws = (Lib.trimLeftS r ws).take m := by
 induction r with
 | nil => simp [Lib.trimLeftS]
 | cons b r ih =>
  unfold Lib.trimLeftS at ih ⊢
  by_cases h : ws.contains b = true
  ·have hl := (dropWhile_eq (ws.contains ·) r).2
   simp only [List.dropWhile_cons, h, if_true, List.length_cons]
   rw [show r.length + 1 - (r.dropWhile (ws.contains ·)).length + m = (r.length - (r.dropWhile (ws.contains ·)).length + m) + 1 by omega, List.take_succ_cons, List.dropWhile_cons, if_pos h]
   exact ih
  ·simp only [List.dropWhile_cons, h, Bool.false_eq_true, if_false, List.length_cons]
   rw [Nat.sub_self, Nat.zero_add]
   cases m with
   | zero => simp
   | succ m => rw [List.take_succ_cons, List.dropWhile_cons, if_neg h]
theorem trim_twice (r : Bs) : Lib.trimLeftS (Lib.trimLeftS r ws) ws = Lib.trimLeftS r ws := by
 induction r with
 | nil => rfl
 | cons b r ih =>
  unfold Lib.trimLeftS at ih ⊢
  by_cases h : ws.contains b = true
  ·simp only [List.dropWhile_cons, h, if_true]; exact ih
  ·simp only [List.dropWhile_cons, h, Bool.false_eq_true, if_false]
theorem pre_nil {a b : UInt8} : Lib.hasPrefix [] [a, b] = false := rfl
theorem blankGo_nil (f : Nat) : blankGo (f + 1) [] = (true, 0) := by simp [blankGo, Lib.trimLeftS, pre_nil]
theorem blankGo_end {f : Nat} {r : Bs} (h1 : Lib.hasPrefix (Lib.trimLeftS r ws) [47, 47] = false) (h2 : Lib.hasPrefix (Lib.trimLeftS r ws) [47, 42] = false) : blankGo (f + 1) r = (true, r.length - (Lib.trimLeftS r ws).length) := by
 simp only [blankGo, h1, h2, Bool.false_eq_true, if_false]
theorem blankGo_line {f : Nat} {r : Bs} (h1 : Lib.hasPrefix (Lib.trimLeftS r ws) [47, 47] = true) (n : Nat) (hn : n = if Lib.indexByte (Lib.trimLeftS r ws) 10 < 0 then (Lib.trimLeftS r ws).length else (Lib.indexByte (Lib.trimLeftS r ws) 10).toNat) :
  blankGo (f + 1) r = ((blankGo f ((Lib.trimLeftS r ws).drop n)).1, r.length - (Lib.trimLeftS r ws).length + n + (blankGo f ((Lib.trimLeftS r ws).drop n)).2) := by
 subst hn
 simp only [blankGo, h1, if_true]
theorem blankGo_open {f : Nat} {r : Bs} (h1 : Lib.hasPrefix (Lib.trimLeftS r ws) [47, 47] = false) (h2 : Lib.hasPrefix (Lib.trimLeftS r ws) [47, 42] = true) (h3 : Lib.index ((Lib.trimLeftS r ws).drop 2) [42, 47] < 0) : blankGo (f + 1) r = (false, r.length - (Lib.trimLeftS r ws).length) := by
 simp only [blankGo, h1, h2, h3, if_true, Bool.false_eq_true, if_false]
theorem blankGo_rem {f : Nat} {r : Bs} (h1 : Lib.hasPrefix (Lib.trimLeftS r ws) [47, 47] = false) (h2 : Lib.hasPrefix (Lib.trimLeftS r ws) [47, 42] = true) (i : Nat) (h3 : Lib.index ((Lib.trimLeftS r ws).drop 2) [42, 47] = i) :
  blankGo (f + 1) r = ((blankGo f ((Lib.trimLeftS r ws).drop (i + 4))).1, r.length - (Lib.trimLeftS r ws).length + (i + 4) + (blankGo f ((Lib.trimLeftS r ws).drop (i + 4))).2) := by
 simp only [blankGo, h1, h2, h3, if_true, Bool.false_eq_true, if_false]
 rw [if_neg (by omega)]
 simp
theorem blankGo_nl {f : Nat} {r : Bs} {k : Nat} (h : blankGo (f + 1) (10 :: r) = (true, k)) : 1 ≤ k := by
 have hl := (dropWhile_eq (ws.contains ·) r).2
 have e : (10 :: r).length - (Lib.trimLeftS (10 :: r) ws).length ≥ 1 := by
  have : Lib.trimLeftS (10 :: r) ws = Lib.trimLeftS r ws := by
   unfold Lib.trimLeftS; rw [List.dropWhile_cons, if_pos (by decide)]
  rw [this]
  unfold Lib.trimLeftS
  simp only [List.length_cons]; omega
 cases h1 : Lib.hasPrefix (Lib.trimLeftS (10 :: r) ws) [47, 47] with
 | true => rw [blankGo_line h1 _ rfl] at h; have := (Prod.mk.inj h).2; omega
 | false =>
  cases h2 : Lib.hasPrefix (Lib.trimLeftS (10 :: r) ws) [47, 42] with
  | false => rw [blankGo_end h1 h2] at h; have := (Prod.mk.inj h).2; omega
  | true =>
   by_cases h3 : Lib.index ((Lib.trimLeftS (10 :: r) ws).drop 2) [42, 47] < 0
   ·rw [blankGo_open h1 h2 h3] at h; have := (Prod.mk.inj h).1; simp at this
   ·rw [blankGo_rem h1 h2 (Lib.index ((Lib.trimLeftS (10 :: r) ws).drop 2) [42, 47]).toNat (by omega)] at h; have := (Prod.mk.inj h).2; omega
theorem drop_trim (r : Bs) : r.drop (r.length - (Lib.trimLeftS r ws).length) = Lib.trimLeftS r ws := (dropWhile_eq (ws.contains ·) r).1.symm
theorem trim_le (r : Bs) : (Lib.trimLeftS r ws).length ≤ r.length := (dropWhile_eq (ws.contains ·) r).2
theorem blankGo_cut : ∀ (f : Nat) (r : Bs) (k : Nat), blankGo f r = (true, k) → r.length < f → (∀ f', k < f' → blankGo f' (r.take k) = (true, k)) ∧ (∀ f', (r.drop k).length < f' → blankGo f' (r.drop k) = (true, 0))
 | 0, r, k, h, hf => by omega
 | f + 1, r, k, h, hf => by
  have hle := trim_le r
  have hdt := drop_trim r
  have htt := trim_take r
  have h2t := trim_twice r
  cases h1 : Lib.hasPrefix (Lib.trimLeftS r ws) [47, 47] with
  | true =>
   have hl2 := (hasPrefix_two h1).1
   have hix := indexByte_lt 10 (Lib.trimLeftS r ws)
   have hge := Lib.indexByte_ge (Lib.trimLeftS r ws) 10
   have h22 := indexByte_two (c := 10) h1 (by decide) (by decide)
   obtain ⟨n, hn⟩ : ∃ n, n = if Lib.indexByte (Lib.trimLeftS r ws) 10 < 0 then (Lib.trimLeftS r ws).length else (Lib.indexByte (Lib.trimLeftS r ws) 10).toNat := ⟨_, rfl⟩
   have hn2 : 2 ≤ n ∧ n ≤ (Lib.trimLeftS r ws).length := by
    rw [hn]; split <;> omega
   rw [blankGo_line h1 n hn] at h
   generalize hR : Lib.trimLeftS r ws = R at *
   obtain ⟨e1, e2⟩ := Prod.mk.inj h
   obtain ⟨k', hk'⟩ : ∃ k', blankGo f (R.drop n) = (true, k') := ⟨(blankGo f (R.drop n)).2, Prod.ext e1 rfl⟩
   rw [hk'] at e2
   simp only at e2
   obtain ⟨i1, i2⟩ := blankGo_cut f (R.drop n) k' hk' (by rw [List.length_drop]; omega)
   have hkl : k' ≤ R.length - n := by have := blank_len f (R.drop n); rw [hk', List.length_drop] at this; exact this
   have hdk : r.drop k = (R.drop n).drop k' := by rw [List.drop_drop, ← hdt, List.drop_drop]; congr 1; omega
   refine ⟨fun f' hf' => ?_, fun f' hf' => ?_⟩
   ·obtain ⟨g, rfl⟩ : ∃ g, f' = g + 1 := ⟨f' - 1, by omega⟩
    have ht : Lib.trimLeftS (r.take k) ws = R.take (n + k') := by rw [← htt (n + k')]; congr 2; omega
    have hp : Lib.hasPrefix (Lib.trimLeftS (r.take k) ws) [47, 47] = true := by rw [ht]; exact hasPrefix_long h1 (by simp; omega)
    have hd : (R.take (n + k')).drop n = (R.drop n).take k' := by rw [List.drop_take, Nat.add_sub_cancel_left]
    have hl : (R.take (n + k')).length = n + k' := by rw [List.length_take]; omega
    rw [blankGo_line hp n ?_, ht, hd, i1 g (by omega), List.length_take, hl]
    ·refine Prod.ext rfl ?_
     simp only; omega
    ·rw [ht]
     by_cases hneg : Lib.indexByte R 10 < 0
     ·rw [if_pos hneg] at hn
      have : R.take (n + k') = R := List.take_of_length_le (by omega)
      rw [this, if_pos hneg]; exact hn
     ·rw [if_neg hneg] at hn
      have hk1 : 1 ≤ k' := by
       have hnl : R.drop n = 10 :: R.drop (n + 1) := by
        have hlt : n < R.length := by omega
        have hg : R[n]'hlt = 10 := by
         have : ∀ (l : Bs) (i : Nat) (hi : i < l.length), Lib.indexByte l 10 = i → l[i] = 10 := by
          intro l
          induction l with
          | nil => intro i hi; simp at hi
          | cons b l ih =>
           intro i hi h
           unfold Lib.indexByte at h
           split at h
           ·rename_i hb
            have : i = 0 := by omega
            subst this
            simpa using hb
           ·split at h
            ·omega
            ·rename_i g1 g2
             have hge := Lib.indexByte_ge l 10
             have hne1 : Lib.indexByte l 10 ≠ -1 := by simpa using g2
             obtain ⟨j, rfl⟩ : ∃ j, i = j + 1 := ⟨i - 1, by omega⟩
             simp only [List.getElem_cons_succ]
             exact ih j (by simpa using hi) (by omega)
         exact this R n hlt (by omega)
        rw [List.drop_eq_getElem_cons hlt, hg]
       rw [hnl] at hk'
       obtain ⟨f2, rfl⟩ : ∃ f2, f = f2 + 1 := ⟨f - 1, by omega⟩
       exact blankGo_nl hk'
      have := indexByte_take (c := 10) R n (n + k') (by omega) (by omega)
      rw [this, if_neg (by omega)]; simp
   ·rw [hdk] at hf' ⊢
    exact i2 f' hf'
  | false =>
   cases h2 : Lib.hasPrefix (Lib.trimLeftS r ws) [47, 42] with
   | false =>
    rw [blankGo_end h1 h2] at h
    obtain ⟨-, e2⟩ := Prod.mk.inj h
    refine ⟨fun f' hf' => ?_, fun f' hf' => ?_⟩
    ·obtain ⟨g, rfl⟩ : ∃ g, f' = g + 1 := ⟨f' - 1, by omega⟩
     have ht : Lib.trimLeftS (r.take k) ws = [] := by
      have := htt 0
      rw [Nat.add_zero, e2] at this
      rw [this]; simp
     rw [blankGo_end (by rw [ht]; rfl) (by rw [ht]; rfl), ht, List.length_take]
     refine Prod.ext rfl ?_
     simp only [List.length_nil]; omega
    ·obtain ⟨g, rfl⟩ : ∃ g, f' = g + 1 := ⟨f' - 1, by omega⟩
     rw [← e2, hdt] at hf' ⊢
     rw [blankGo_end (by rw [h2t]; exact h1) (by rw [h2t]; exact h2), h2t, Nat.sub_self]
   | true =>
    by_cases h3 : Lib.index ((Lib.trimLeftS r ws).drop 2) [42, 47] < 0
    ·rw [blankGo_open h1 h2 h3] at h; have := (Prod.mk.inj h).1; simp at this
    ·have hl2 := (hasPrefix_two h2).1
     obtain ⟨i, hi⟩ : ∃ i : Nat, Lib.index ((Lib.trimLeftS r ws).drop 2) [42, 47] = i := ⟨(Lib.index ((Lib.trimLeftS r ws).drop 2) [42, 47]).toNat, by omega⟩
     have hil := index_le [42, 47] ((Lib.trimLeftS r ws).drop 2) (by omega)
     rw [hi, List.length_drop] at hil
     simp only [List.length_cons, List.length_nil] at hil
     rw [blankGo_rem h1 h2 i hi] at h
     generalize hR : Lib.trimLeftS r ws = R at *
     obtain ⟨e1, e2⟩ := Prod.mk.inj h
     obtain ⟨k', hk'⟩ : ∃ k', blankGo f (R.drop (i + 4)) = (true, k') := ⟨(blankGo f (R.drop (i + 4))).2, Prod.ext e1 rfl⟩
     rw [hk'] at e2
     simp only at e2
     obtain ⟨i1, i2⟩ := blankGo_cut f (R.drop (i + 4)) k' hk' (by rw [List.length_drop]; omega)
     have hkl : k' ≤ R.length - (i + 4) := by have := blank_len f (R.drop (i + 4)); rw [hk', List.length_drop] at this; exact this
     have hdk : r.drop k = (R.drop (i + 4)).drop k' := by rw [List.drop_drop, ← hdt, List.drop_drop]; congr 1; omega
     refine ⟨fun f' hf' => ?_, fun f' hf' => ?_⟩
     ·obtain ⟨g, rfl⟩ : ∃ g, f' = g + 1 := ⟨f' - 1, by omega⟩
      have ht : Lib.trimLeftS (r.take k) ws = R.take (i + 4 + k') := by rw [← htt (i + 4 + k')]; congr 2; omega
      have hp : Lib.hasPrefix (Lib.trimLeftS (r.take k) ws) [47, 42] = true := by rw [ht]; exact hasPrefix_long h2 (by simp; omega)
      have hp1 : Lib.hasPrefix (Lib.trimLeftS (r.take k) ws) [47, 47] = false := by
       cases hh : Lib.hasPrefix (Lib.trimLeftS (r.take k) ws) [47, 47] with
       | false => rfl
       | true => rw [ht] at hh; rw [hasPrefix_take hh] at h1; cases h1
      have hd : (R.take (i + 4 + k')).drop (i + 4) = (R.drop (i + 4)).take k' := by rw [List.drop_take, Nat.add_sub_cancel_left]
      have hl : (R.take (i + 4 + k')).length = i + 4 + k' := by rw [List.length_take]; omega
      rw [blankGo_rem hp1 hp i ?_, ht, hd, i1 g (by omega), List.length_take, hl]
      ·refine Prod.ext rfl ?_
       simp only; omega
      ·rw [ht, List.drop_take]
       exact index_take _ i _ hi (by simp; omega)
     ·rw [hdk] at hf' ⊢
      exact i2 f' hf'
theorem blank_cut {r : Bs} {k : Nat} (h : blankF r = (true, k)) : blankF (r.take k) = (true, k) ∧ blankF (r.drop k) = (true, 0) ∧ k ≤ r.length := by
 have hk := blank_len (r.length + 1) r
 have hk : k ≤ r.length := by have e : (blankGo (r.length + 1) r).2 = k := by unfold blankF at h; rw [h]
                              omega
 obtain ⟨h1, h2⟩ := blankGo_cut _ _ _ h (by omega)
 exact ⟨h1 _ (by rw [List.length_take]; omega), h2 _ (by omega), hk⟩
theorem blankF_nil : blankF [] = (true, 0) := blankGo_nil 0
end Go.PM.Lex
end

section
set_option maxRecDepth 100000
namespace Go.PM.Lex
theorem dN_app {len len' b0 b1 b2 b3 b1' b2' b3' : Nat} (hl : len ≤ len') (h1 : 1 < len → b1' = b1) (h2 : 2 < len → b2' = b2) (h3 : 3 < len → b3' = b3) (hv : Lib.decodeN len b0 b1 b2 b3 ≠ (65533, 1)) :
  Lib.decodeN len' b0 b1' b2' b3' = Lib.decodeN len b0 b1 b2 b3 := by
 rcases Lib.decodeN_shape len b0 b1 b2 b3 with ⟨c, e⟩ | ⟨c1, c2, c3, cv, e⟩ | ⟨c1, c2, c3, c4, cv, cs, e⟩ | ⟨c1, c2, c3, c4, c5, cv, cw, e⟩ | e
 ·rw [e]; unfold Lib.decodeN; rw [if_pos c]
 ·rw [e, h1 (by omega)]
  unfold Lib.decodeN
  rw [if_neg (by omega), if_pos ⟨c1, by omega, c3⟩, if_pos (by omega)]
 ·rw [e, h1 (by omega), h2 (by omega)]
  unfold Lib.decodeN
  rw [if_neg (by omega), if_neg (by omega), if_pos ⟨c1, ⟨by omega, c3⟩, by omega, c4⟩, if_pos ⟨by omega, by omega⟩]
 ·rw [e, h1 (by omega), h2 (by omega), h3 (by omega)]
  unfold Lib.decodeN
  rw [if_neg (by omega), if_neg (by omega), if_neg (by omega), if_pos ⟨c1, ⟨by omega, c3⟩, ⟨by omega, c4⟩, by omega, c5⟩, if_pos ⟨by omega, by omega⟩]
 ·exact absurd e hv
theorem getD_app (x y : Bs) (k : Nat) (h : k < x.length) : (x ++ y).getD k 0 = x.getD k 0 := by
 simp only [List.getD_eq_getElem?_getD]; rw [List.getElem?_append_left h]
theorem dec_app {x y : Bs} (hx : x ≠ []) (hv : Lib.decodeL x ≠ (65533, 1)) : Lib.decodeL (x ++ y) = Lib.decodeL x := by
 have hpos := List.length_pos_iff.2 hx
 rw [Lib.decodeL_N] at hv ⊢
 rw [Lib.decodeL_N, getD_app x y 0 hpos]
 exact dN_app (by rw [List.length_append]; omega) (fun h => by rw [getD_app x y 1 h]) (fun h => by rw [getD_app x y 2 h]) (fun h => by rw [getD_app x y 3 h]) hv
theorem pk_app {x y : Bs} (h : (pk x).1 ≠ -1) : pk (x ++ y) = pk x := by
 have hx := (pk_le x h).2.2
 unfold pk at h ⊢
 split at h
 ·exact absurd rfl h
 ·rename_i g
  rw [if_neg g]
  simp only [not_or] at g
  have e := dec_app (y := y) hx g.2
  rw [e, if_neg (by simp only [not_or]; exact ⟨by simp [hx], g.2⟩)]
theorem textGo_ext {y : Bs} : ∀ (f : Nat) (x : Bs) (esc : Bool) (acc : Bs) (p : Nat) (t : Bs) (l : Nat), textGo f x esc acc p = .ok t l → ∀ f', x.length < f' → textGo f' (x ++ y) esc acc p = .ok t l
 | 0, x, esc, acc, p, t, l, h, f', hf => by simp [textGo] at h
 | f + 1, x, esc, acc, p, t, l, h, f', hf => by
  obtain ⟨g, rfl⟩ : ∃ g, f' = g + 1 := ⟨f' - 1, by omega⟩
  unfold textGo at h
  split at h
  ·cases h
  ·rename_i hne
   have hd := Lib.decodeL_le x hne
   have hr := dec_rng x
   have hne' : ¬ x ++ y = [] := by simp [hne]
   have hdr : (x ++ y).drop (Lib.decodeL x).2 = x.drop (Lib.decodeL x).2 ++ y := List.drop_append_of_le_length hd
   have low : (Lib.decodeL x).1 < 128 → Lib.decodeL (x ++ y) = Lib.decodeL x := fun h => dec_app hne (fun g => by rw [g] at h; simp at h)
   have rec' : ∀ es ac, textGo f (x.drop (Lib.decodeL x).2) es ac (p + (Lib.decodeL x).2) = .ok t l → textGo g ((x ++ y).drop (Lib.decodeL x).2) es ac (p + (Lib.decodeL x).2) = .ok t l := fun es ac h => by
    rw [hdr]; exact textGo_ext f _ _ _ _ _ _ h g (by rw [List.length_drop]; omega)
   unfold textGo
   rw [if_neg hne']
   split at h
   ·rename_i he
    rw [if_pos he]
    split at h
    ·cases h
    ·rename_i b hb
     have hlow : (Lib.decodeL x).1 < 128 := by
      unfold escB at hb
      repeat' split at hb
      all_goals first | omega | cases hb
     rw [low hlow, hb]
     exact rec' _ _ h
   ·rename_i he
    rw [if_neg he]
    split at h
    ·rename_i h34
     rw [low (by omega), if_pos h34]; exact h
    ·rename_i h34
     split at h
     ·rename_i h92
      rw [low (by omega), if_neg h34, if_pos h92]
      exact rec' _ _ h
     ·rename_i h92
      split at h
      ·cases h
      ·rename_i h32
       have hv : Lib.decodeL x ≠ (65533, 1) := fun g => by
        apply h32
        unfold pk; rw [if_pos (.inr g)]; decide
       have e : pk (x ++ y) = pk x := pk_app (by omega)
       rw [dec_app hne hv, if_neg h34, if_neg h92, e, if_neg h32]
       exact rec' _ _ h
theorem hasPrefix_app {x y p : Bs} (h : Lib.hasPrefix x p = true) : Lib.hasPrefix (x ++ y) p = true := by
 unfold Lib.hasPrefix at h ⊢
 rw [List.isPrefixOf_iff_prefix] at h ⊢
 exact h.trans (List.prefix_append x y)
end Go.PM.Lex
end

section
set_option maxRecDepth 100000
namespace Go.PM.Lex
def Bare (y : Bs) : Prop := Lib.trimLeftS y ws = y ∧ Lib.hasPrefix y [47, 47] = false ∧ Lib.hasPrefix y [47, 42] = false
theorem bare_of {r : Bs} (h : blankF r = (true, 0)) : Bare r := by
 unfold blankF at h
 have hle := trim_le r
 have hdt := drop_trim r
 cases h1 : Lib.hasPrefix (Lib.trimLeftS r ws) [47, 47] with
 | true =>
  have hl2 := (hasPrefix_two h1).1
  have h22 := indexByte_two (c := 10) h1 (by decide) (by decide)
  have hge := Lib.indexByte_ge (Lib.trimLeftS r ws) 10
  rw [blankGo_line h1 _ rfl] at h
  have := (Prod.mk.inj h).2
  split at this <;> omega
 | false =>
  cases h2 : Lib.hasPrefix (Lib.trimLeftS r ws) [47, 42] with
  | true =>
   by_cases h3 : Lib.index ((Lib.trimLeftS r ws).drop 2) [42, 47] < 0
   ·rw [blankGo_open h1 h2 h3] at h; have := (Prod.mk.inj h).1; simp at this
   ·rw [blankGo_rem h1 h2 (Lib.index ((Lib.trimLeftS r ws).drop 2) [42, 47]).toNat (by omega)] at h; have := (Prod.mk.inj h).2; omega
  | false =>
   rw [blankGo_end h1 h2] at h
   have e := (Prod.mk.inj h).2
   rw [e, List.drop_zero] at hdt
   rw [← hdt] at h1 h2
   exact ⟨hdt.symm, h1, h2⟩
def Placed (s : Bs) (t : Tok) : Prop := t.at' < t.fin ∧ t.fin ≤ s.length ∧ Bare (s.drop t.at') ∧ nextF t.at' (s.drop t.at') true = .tok t
theorem room_of {a : Nat} {r : Bs} {room : Bool} {t : Tok} (h : nextF a r room = .tok t) : room = true := by
 cases room with
 | true => rfl
 | false =>
  rw [nextF_eq] at h
  split at h
  ·cases h
  ·rw [if_pos rfl] at h; cases h
theorem placed_of (s : Bs) : ∀ (f : Nat) (most : Int) (a : Nat) (l : List Tok) (p : Nat × Nat), allGo f most a (s.drop a) = (l, p) → a ≤ s.length → ∀ t ∈ l, Placed s t
 | 0, most, a, l, p, h, ha => by
  have : l = [] := (congrArg (fun x => x.1) h).symm
  subst this
  intro t ht; cases ht
 | f + 1, most, a, l, p, h, ha => by
  rw [allGo] at h
  split at h
  ·have : l = [] := (congrArg (fun x => x.1) h).symm
   subst this; intro t ht; cases ht
  ·rename_i hb
   obtain ⟨k, hk⟩ : ∃ k, blankF (s.drop a) = (true, k) := ⟨(blankF (s.drop a)).2, Prod.ext (by simpa using hb) rfl⟩
   obtain ⟨c1, c2, c3⟩ := blank_cut hk
   rw [List.length_drop] at c3
   rw [hk] at h
   simp only at h
   split at h
   ·have : l = [] := (congrArg (fun x => x.1) h).symm
    subst this; intro t ht; cases ht
   ·rename_i hnil
    rw [List.drop_drop] at h hnil c2
    have hpos := List.length_pos_iff.2 hnil
    split at h
    ·have : l = [] := (congrArg (fun x => x.1) h).symm
     subst this; intro t ht; cases ht
    ·rename_i t hx
     obtain ⟨t1, t2, t3⟩ := nextF_tok hpos hx
     rw [List.length_drop] at t3 hpos
     have hdr : (s.drop (a + k)).drop (t.fin - (a + k)) = s.drop t.fin := by rw [List.drop_drop]; congr 1; omega
     rw [hdr] at h
     have hl : l = t :: (allGo f (most - 1) t.fin (s.drop t.fin)).1 := (congrArg (fun x => x.1) h).symm
     subst hl
     have hroom := room_of hx
     rw [hroom] at hx
     intro t' ht'
     rcases List.mem_cons.1 ht' with rfl | ht'
     ·exact ⟨by omega, by omega, by rw [t1]; exact bare_of c2, by rw [t1]; exact hx⟩
     ·exact placed_of s f (most - 1) t.fin _ _ rfl (by omega) t' ht'
def keyT (t : Tok) : Nat × Bs × Int := (t.kind, t.text, t.n)
end Go.PM.Lex
end

section
set_option maxRecDepth 100000
namespace Go.PM.Lex
theorem dN_low {len len' b0 b1 b2 b3 b1' b2' b3' : Nat} (hl : len ≤ len') (h1 : 1 < len → b1' = b1) (h1' : ¬ 1 < len → b1' < 128) (h2 : 2 < len → b2' = b2) (h2' : 1 < len → ¬ 2 < len → b2' < 128) (h3 : 3 < len → b3' = b3) (h3' : 2 < len → ¬ 3 < len → b3' < 128) :
  Lib.decodeN len' b0 b1' b2' b3' = Lib.decodeN len b0 b1 b2 b3 := by
 unfold Lib.decodeN
 by_cases c0 : b0 < 128
 ·rw [if_pos c0, if_pos c0]
 rw [if_neg c0, if_neg c0]
 by_cases l1 : 1 < len
 ·have e1 := h1 l1; subst e1
  have g1 : 1 < len' := by omega
  by_cases l2 : 2 < len
  ·have e2 := h2 l2; subst e2
   have g2 : 2 < len' := by omega
   by_cases l3 : 3 < len
   ·have e3 := h3 l3; subst e3
    have g3 : 3 < len' := by omega
    simp only [l1, l2, l3, g1, g2, g3, true_and]
   ·have := h3' l2 l3
    have k : ¬ b3' / 64 = 2 := by omega
    simp only [l1, l2, l3, g1, g2, k, true_and, false_and, and_false, if_false]
  ·have := h2' l1 l2
   have k : ¬ b2' / 64 = 2 := by omega
   simp only [l1, l2, g1, k, true_and, false_and, and_false, if_false]
 ·have := h1' l1
  have k : ¬ b1' / 64 = 2 := by omega
  simp only [l1, k, true_and, false_and, and_false, if_false]
theorem getD_app0 (x z : Bs) (c : UInt8) (k : Nat) (h : ¬ k < x.length) (h2 : x.length = k) : (x ++ c :: z).getD k 0 = c := by
 simp only [List.getD_eq_getElem?_getD]; rw [List.getElem?_append_right (by omega), show k - x.length = 0 by omega]; rfl
theorem dec_lowapp {x z : Bs} {c : UInt8} (hx : x ≠ []) (hc : c.toNat < 128) : Lib.decodeL (x ++ c :: z) = Lib.decodeL x := by
 have hpos := List.length_pos_iff.2 hx
 rw [Lib.decodeL_N, Lib.decodeL_N, getD_app x _ 0 hpos]
 refine dN_low (by rw [List.length_append]; omega) (fun h => by rw [getD_app x _ 1 h]) (fun h => ?_) (fun h => by rw [getD_app x _ 2 h]) (fun h h' => ?_) (fun h => by rw [getD_app x _ 3 h]) (fun h h' => ?_)
 ·rw [getD_app0 x z c 1 h (by omega)]; exact hc
 ·rw [getD_app0 x z c 2 h' (by omega)]; exact hc
 ·rw [getD_app0 x z c 3 h' (by omega)]; exact hc
theorem pk_lowapp {x z : Bs} {c : UInt8} (hx : x ≠ []) (hc : c.toNat < 128) : pk (x ++ c :: z) = pk x := by
 unfold pk
 rw [dec_lowapp hx hc]
 by_cases g : Lib.decodeL x = (65533, 1)
 ·rw [if_pos (.inr g), if_pos (.inr g)]
 ·rw [if_neg (by simp [g]), if_neg (by simp [hx, g])]
theorem pk_low1 {z : Bs} {c : UInt8} (hc : c.toNat < 128) : pk (c :: z) = ((c.toNat : Int), 1) := by
 have e : Lib.decodeL (c :: z) = (c.toNat, 1) := by
  rw [Lib.decodeL_N]; unfold Lib.decodeN; rw [if_pos (by simpa using hc)]; simp
 unfold pk
 rw [e, if_neg (by simp; omega)]
structure Fol (c : UInt8) (z : Bs) : Prop where
 low : c.toNat < 128
 let' : isLetter c.toNat = false
 dig : isDigit c.toNat = false
 dot : c = 46 → isLetter (pk z).1 = false
theorem Fol.pk {c : UInt8} {z : Bs} (h : Fol c z) : Lex.pk (c :: z) = ((c.toNat : Int), 1) := pk_low1 h.low
theorem nameGo_fol {c : UInt8} {z : Bs} (h : Fol c z) : ∀ (f : Nat), nameGo f (c :: z) = 0
 | 0 => rfl
 | f + 1 => by
  by_cases h46 : (Lex.pk (c :: z)).1 = 46
  ·refine nameGo_dotend h46 ?_
   rw [h.pk] at h46
   have : c = 46 := by
    have h46 : (c.toNat : Int) = 46 := h46
    exact UInt8.toNat_inj.1 (show c.toNat = (46 : UInt8).toNat by have : (46 : UInt8).toNat = 46 := rfl; omega)
   exact h.dot this
  ·exact nameGo_end h46 (by rw [h.pk]; exact h.let') (by rw [h.pk]; exact h.dig)
theorem nameGo_more {c : UInt8} {z : Bs} (h : Fol c z) : ∀ (f : Nat) (x : Bs), x.length < f → ∀ f', (x ++ c :: z).length < f' → nameGo f' (x ++ c :: z) = nameGo f x
 | 0, x, hx, f', hf => by omega
 | f + 1, x, hx, 0, hf => by omega
 | f + 1, x, hx, f' + 1, hf => by
  by_cases hnil : x = []
  ·subst hnil
   rw [List.nil_append, nameGo_fol h, nameGo_nil]
  ·have hpk := pk_lowapp (z := z) hnil h.low
   rw [List.length_append] at hf
   have step : ∀ (hne : (Lex.pk x).1 ≠ -1), (x ++ c :: z).drop (Lex.pk x).2 = x.drop (Lex.pk x).2 ++ c :: z ∧ nameGo f' (x.drop (Lex.pk x).2 ++ c :: z) = nameGo f (x.drop (Lex.pk x).2) := fun hne => by
    obtain ⟨h1, h2, h3⟩ := pk_le x hne
    exact ⟨List.drop_append_of_le_length h2, nameGo_more h f _ (by rw [List.length_drop]; omega) f' (by rw [List.length_append, List.length_drop]; omega)⟩
   by_cases h1 : (Lex.pk x).1 = 46
   ·have hlow := pk_low x (by omega) (by omega)
    have hlet : isLetter (Lex.pk ((x ++ c :: z).drop 1)).1 = isLetter (Lex.pk (x.drop 1)).1 := by
     rw [List.drop_append_of_le_length hlow.1]
     by_cases hd : x.drop 1 = []
     ·rw [hd, List.nil_append, h.pk, pk_nil]; rw [h.let']; rfl
     ·rw [pk_lowapp hd h.low]
    obtain ⟨s1, s2⟩ := step (by omega)
    by_cases h2 : isLetter (Lex.pk (x.drop 1)).1 = true
    ·rw [nameGo_dot h1 h2, nameGo_dot (by rw [hpk]; exact h1) (by rw [hlet]; exact h2), hpk, s1, s2]
    ·have h2 : isLetter (Lex.pk (x.drop 1)).1 = false := by simpa using h2
     rw [nameGo_dotend h1 h2, nameGo_dotend (by rw [hpk]; exact h1) (by rw [hlet]; exact h2)]
   ·by_cases h2 : isLetter (Lex.pk x).1 = true ∨ isDigit (Lex.pk x).1 = true
    ·obtain ⟨s1, s2⟩ := step (letter_ne h2)
     rw [nameGo_on h1 h2, nameGo_on (by rw [hpk]; exact h1) (by rw [hpk]; exact h2), hpk, s1, s2]
    ·simp only [not_or, Bool.not_eq_true] at h2
     rw [nameGo_end h1 h2.1 h2.2, nameGo_end (by rw [hpk]; exact h1) (by rw [hpk]; exact h2.1) (by rw [hpk]; exact h2.2)]
theorem takeWhile_app (p : UInt8 → Bool) {c : UInt8} (z : Bs) (hc : p c = false) : ∀ l : Bs, (l ++ c :: z).takeWhile p = l.takeWhile p
 | [] => by simp [List.takeWhile_cons, hc]
 | b :: l => by
  by_cases hb : p b = true
  ·simp only [List.cons_append, List.takeWhile_cons, hb, if_true, takeWhile_app p z hc l]
  ·simp [List.takeWhile_cons, hb]
theorem hasPrefix_low {x z : Bs} {a b c : UInt8} (hx : x ≠ []) (hb : b ≠ c) : Lib.hasPrefix (x ++ c :: z) [a, b] = Lib.hasPrefix x [a, b] := by
 match x, hx with
 | [d], _ =>
  have : (b == c) = false := by simpa using hb
  simp [Lib.hasPrefix, List.isPrefixOf, this]
 | d :: e :: l, _ => simp [Lib.hasPrefix, List.isPrefixOf]
theorem digB_of {c : UInt8} {z : Bs} (h : Fol c z) (hex : Bool) : digB hex c = false := by
 have h1 := h.let'
 have h2 := h.dig
 unfold digB
 rw [h2, Bool.false_or]
 cases hex with
 | false => rfl
 | true =>
  simp only [isLetter, decide_eq_false_iff_not, not_or] at h1
  simp only [Bool.true_and, decide_eq_false_iff_not, not_or]
  omega
theorem number_more {x z : Bs} {c : UInt8} (hx : x ≠ []) (h : Fol c z) : numberF (x ++ c :: z) = numberF x ∧ numLen (x ++ c :: z) = numLen x := by
 have h120 : (120 : UInt8) ≠ c := fun g => by
  have := h.let'
  rw [← g] at this; revert this; decide
 have hh : isHex (x ++ c :: z) = isHex x := hasPrefix_low hx h120
 have hk : (if isHex x = true then 2 else 0) ≤ x.length := by
  split
  ·rename_i g; exact (hasPrefix_two g).1
  ·omega
 have hd : numDigits (x ++ c :: z) = numDigits x := by
  unfold numDigits
  rw [hh, List.drop_append_of_le_length hk, takeWhile_app _ _ (digB_of h _)]
 have hl : numLen (x ++ c :: z) = numLen x := by unfold numLen; rw [hh, hd]
 refine ⟨?_, hl⟩
 have hle := numLen_le x
 have hp : ∀ p : Int → Bool, p (-1) = false → p c.toNat = false → p (Lex.pk ((x ++ c :: z).drop (numLen x))).1 = p (Lex.pk (x.drop (numLen x))).1 := fun p h1 h2 => by
  rw [List.drop_append_of_le_length hle]
  by_cases hn : x.drop (numLen x) = []
  ·rw [hn, List.nil_append, h.pk, pk_nil]
   show p (c.toNat : Int) = p (-1)
   rw [h1, h2]
  ·rw [pk_lowapp hn h.low]
 unfold numberF
 rw [hd, hl, hh, hp isLetter (by decide) h.let', hp isDigit (by decide) h.dig]
theorem next_more {r z : Bs} {c : UInt8} {a : Nat} {room : Bool} {t : Tok} (hr : r ≠ []) (hc : Fol c z) (hs : signF (r ++ c :: z) = signF r) (h : nextF a r room = .tok t) : nextF a (r ++ c :: z) room = .tok t := by
 have hpos := List.length_pos_iff.2 hr
 have hpk := pk_lowapp (z := z) hr hc.low
 rw [nextF_eq] at h ⊢
 rw [hs, hpk]
 split at h
 ·cases h
 ·rename_i g0
  rw [if_neg g0]
  split at h
  ·cases h
  ·rename_i gr
   rw [if_neg gr]
   split at h
   ·rename_i g1
    have := (sign_le r hpos).1
    rw [if_pos g1, List.take_append_of_le_length this]; exact h
   ·rename_i g1
    rw [if_neg g1]
    split at h
    ·rename_i g2
     rw [if_pos g2]
     unfold textR at h ⊢
     split at h
     ·cases h
     ·rename_i tx l ht
      have ht' : textF (r ++ c :: z) = .ok tx l := by
       unfold textF at ht ⊢
       rw [List.drop_append_of_le_length hpos]
       exact textGo_ext _ _ _ _ _ _ _ ht _ (by rw [List.length_drop, List.length_append]; omega)
      rw [ht']; exact h
    ·rename_i g2
     rw [if_neg g2]
     split at h
     ·rename_i g3
      rw [if_pos g3]
      obtain ⟨n1, n2⟩ := number_more hr hc
      unfold numberR at h ⊢
      rw [n1, n2]; exact h
     ·rename_i g3
      rw [if_neg g3]
      have hn : nameF (r ++ c :: z) = nameF r := nameGo_more hc _ r (by omega) _ (by omega)
      have hle : nameF r ≤ r.length := nameGo_le _ _
      rw [hn, List.take_append_of_le_length hle]; exact h
theorem sign_more {r z : Bs} {c : UInt8} (hr : r ≠ []) (h : c ≠ 45 ∧ c ≠ 61 ∧ c ≠ 58) : signF (r ++ c :: z) = signF r := by
 obtain ⟨h1, h2, h3⟩ := h
 have hpos := List.length_pos_iff.2 hr
 have e : twos.any (Lib.hasPrefix (r ++ c :: z)) = twos.any (Lib.hasPrefix r) := by
  simp only [twos, List.any_cons, List.any_nil, hasPrefix_low hr h1.symm, hasPrefix_low hr h2.symm, hasPrefix_low hr h3.symm]
 unfold signF
 rw [getD_app r _ 0 hpos]
 cases g : twos.any (Lib.hasPrefix r) with
 | true => rw [if_pos (e.trans g)]; rfl
 | false => rw [if_neg (by rw [e, g]; simp)]; rfl
theorem fol_nl (z : Bs) : Fol 10 z := ⟨by decide, by decide, by decide, fun h => by cases h⟩
theorem blankGo_fuel : ∀ (f f' : Nat) (r : Bs), r.length < f → r.length < f' → blankGo f r = blankGo f' r
 | 0, f', r, h, h' => by omega
 | f + 1, 0, r, h, h' => by omega
 | f + 1, f' + 1, r, h, h' => by
  have hle := trim_le r
  cases h1 : Lib.hasPrefix (Lib.trimLeftS r ws) [47, 47] with
  | true =>
   have hl2 := (hasPrefix_two h1).1
   have h22 := indexByte_two (c := 10) h1 (by decide) (by decide)
   rw [blankGo_line h1 _ rfl, blankGo_line h1 _ rfl]
   rw [blankGo_fuel f f' _ (by rw [List.length_drop]; split <;> omega) (by rw [List.length_drop]; split <;> omega)]
  | false =>
   cases h2 : Lib.hasPrefix (Lib.trimLeftS r ws) [47, 42] with
   | true =>
    have hl2 := (hasPrefix_two h2).1
    by_cases h3 : Lib.index ((Lib.trimLeftS r ws).drop 2) [42, 47] < 0
    ·rw [blankGo_open h1 h2 h3, blankGo_open h1 h2 h3]
    ·have hi : Lib.index ((Lib.trimLeftS r ws).drop 2) [42, 47] = ((Lib.index ((Lib.trimLeftS r ws).drop 2) [42, 47]).toNat : Nat) := by omega
     rw [blankGo_rem h1 h2 _ hi, blankGo_rem h1 h2 _ hi, blankGo_fuel f f' _ (by rw [List.length_drop]; omega) (by rw [List.length_drop]; omega)]
   | false => rw [blankGo_end h1 h2, blankGo_end h1 h2]
theorem blankF_at {f : Nat} {r : Bs} (h : r.length < f) : blankGo f r = blankF r := blankGo_fuel _ _ r h (by omega)
theorem trim_app (r y : Bs) (h : Lib.trimLeftS r ws ≠ []) : Lib.trimLeftS (r ++ y) ws = Lib.trimLeftS r ws ++ y := by
 induction r with
 | nil => exact absurd rfl h
 | cons b r ih =>
  unfold Lib.trimLeftS at *
  by_cases hb : ws.contains b = true
  ·simp only [List.cons_append, List.dropWhile_cons, hb, if_true] at h ⊢; exact ih h
  ·simp only [List.cons_append, List.dropWhile_cons, hb, Bool.false_eq_true, if_false]
theorem trim_app0 (r y : Bs) (h : Lib.trimLeftS r ws = []) : Lib.trimLeftS (r ++ y) ws = Lib.trimLeftS y ws := by
 induction r with
 | nil => rfl
 | cons b r ih =>
  unfold Lib.trimLeftS at *
  by_cases hb : ws.contains b = true
  ·simp only [List.cons_append, List.dropWhile_cons, hb, if_true] at h ⊢; exact ih h
  ·rw [List.dropWhile_cons, if_neg hb] at h; cases h
theorem blank_shift {r y : Bs} (h : Lib.trimLeftS r ws = []) : blankF (r ++ y) = ((blankF y).1, r.length + (blankF y).2) := by
 have ht := trim_app0 r y h
 have hle := trim_le y
 obtain ⟨f, hf⟩ : ∃ f, (r ++ y).length + 1 = f + 1 := ⟨_, rfl⟩
 rw [← blankF_at (f := (r ++ y).length + 1) (r := y) (by rw [List.length_append]; omega)]
 unfold blankF
 rw [hf]
 have hlen : (r ++ y).length = r.length + y.length := List.length_append
 cases h1 : Lib.hasPrefix (Lib.trimLeftS y ws) [47, 47] with
 | true =>
  rw [blankGo_line (r := r ++ y) (by rw [ht]; exact h1) _ rfl, blankGo_line h1 _ rfl, ht]
  refine Prod.ext rfl ?_
  simp only; omega
 | false =>
  cases h2 : Lib.hasPrefix (Lib.trimLeftS y ws) [47, 42] with
  | false =>
   rw [blankGo_end (r := r ++ y) (by rw [ht]; exact h1) (by rw [ht]; exact h2), blankGo_end h1 h2, ht]
   refine Prod.ext rfl ?_
   simp only; omega
  | true =>
   by_cases h3 : Lib.index ((Lib.trimLeftS y ws).drop 2) [42, 47] < 0
   ·rw [blankGo_open (r := r ++ y) (by rw [ht]; exact h1) (by rw [ht]; exact h2) (by rw [ht]; exact h3), blankGo_open h1 h2 h3, ht]
    refine Prod.ext rfl ?_
    simp only; omega
   ·have hi : Lib.index ((Lib.trimLeftS y ws).drop 2) [42, 47] = ((Lib.index ((Lib.trimLeftS y ws).drop 2) [42, 47]).toNat : Nat) := by omega
    rw [blankGo_rem (r := r ++ y) (by rw [ht]; exact h1) (by rw [ht]; exact h2) _ (by rw [ht]; exact hi), blankGo_rem h1 h2 _ hi, ht]
    refine Prod.ext rfl ?_
    simp only; omega
theorem indexByte_app {c : UInt8} (y : Bs) : ∀ (l : Bs), 0 ≤ Lib.indexByte l c → Lib.indexByte (l ++ y) c = Lib.indexByte l c
 | [], h => by simp [Lib.indexByte] at h
 | b :: l, h => by
  have hge := Lib.indexByte_ge l c
  rw [List.cons_append]
  unfold Lib.indexByte at h ⊢
  by_cases hb : (b == c) = true
  ·rw [if_pos hb, if_pos hb]
  ·rw [if_neg hb] at h ⊢
   rw [if_neg hb]
   by_cases h1 : (Lib.indexByte l c == -1) = true
   ·rw [if_pos h1] at h; omega
   ·have h1' : Lib.indexByte l c ≠ -1 := by simpa using h1
    rw [indexByte_app y l (by omega)]
theorem indexByte_none {c : UInt8} (z : Bs) : ∀ (l : Bs), Lib.indexByte l c < 0 → Lib.indexByte (l ++ c :: z) c = l.length
 | [], h => by simp [Lib.indexByte]
 | b :: l, h => by
  have hge := Lib.indexByte_ge l c
  rw [List.cons_append]
  unfold Lib.indexByte at h ⊢
  by_cases hb : (b == c) = true
  ·rw [if_pos hb] at h; omega
  ·rw [if_neg hb] at h ⊢
   by_cases h1 : (Lib.indexByte l c == -1) = true
   ·have h1' : Lib.indexByte l c = -1 := by simpa using h1
    have ih := indexByte_none (c := c) z l (by omega)
    rw [ih, if_neg (by simp <;> omega)]
    simp only [List.length_cons]; omega
   ·have h1' : Lib.indexByte l c ≠ -1 := by simpa using h1
    rw [if_neg h1] at h; omega
theorem index_app2 (y : Bs) {p q : UInt8} : ∀ (l : Bs), 0 ≤ Lib.index l [p, q] → Lib.index (l ++ y) [p, q] = Lib.index l [p, q]
 | [], h => by simp [Lib.index] at h
 | [b], h => by
  simp [Lib.index, List.isPrefixOf] at h
 | b :: d :: l, h => by
  have hge := Lib.index_ge (d :: l) [p, q]
  rw [List.cons_append]
  have e : [p, q].isPrefixOf (b :: (d :: l ++ y)) = [p, q].isPrefixOf (b :: d :: l) := by simp [List.isPrefixOf]
  unfold Lib.index at h ⊢
  rw [e]
  by_cases hb : [p, q].isPrefixOf (b :: d :: l) = true
  ·rw [if_pos hb, if_pos hb]
  ·rw [if_neg hb] at h ⊢
   rw [if_neg hb]
   by_cases h1 : (Lib.index (d :: l) [p, q] == -1) = true
   ·rw [if_pos h1] at h; omega
   ·have h1' : Lib.index (d :: l) [p, q] ≠ -1 := by simpa using h1
    rw [index_app2 y (d :: l) (by omega)]
theorem blank_more (z : Bs) : ∀ (n : Nat) (r : Bs) (k : Nat), r.length < n → blankF r = (true, k) → (k = r.length ∧ blankF (r ++ 10 :: z) = ((blankF (10 :: z)).1, r.length + (blankF (10 :: z)).2)) ∨ (k < r.length ∧ blankF (r ++ 10 :: z) = (true, k))
 | 0, r, k, hn, h => by omega
 | n + 1, r, k, hn, h => by
  have hle := trim_le r
  by_cases hT : Lib.trimLeftS r ws = []
  ·refine .inl ⟨?_, blank_shift hT⟩
   unfold blankF at h
   rw [blankGo_end (by rw [hT]; rfl) (by rw [hT]; rfl), hT] at h
   simpa using (congrArg Prod.snd h).symm
  have ht := trim_app r (10 :: z) hT
  have hlen : (r ++ 10 :: z).length = r.length + (10 :: z).length := List.length_append
  generalize hTT : Lib.trimLeftS r ws = T at hT ht hle
  have hpos := List.length_pos_iff.2 hT
  cases h1 : Lib.hasPrefix T [47, 47] with
  | true =>
   have h22 := indexByte_two (c := 10) h1 (by decide) (by decide)
   have hl2 := (hasPrefix_two h1).1
   have h1' : Lib.hasPrefix (T ++ 10 :: z) [47, 47] = true := hasPrefix_app h1
   have hix := indexByte_lt 10 T
   unfold blankF at h
   rw [blankGo_line (by rw [hTT]; exact h1) _ rfl, hTT] at h
   have hx : blankF (r ++ 10 :: z) = ((blankGo (r ++ 10 :: z).length ((T ++ 10 :: z).drop (if Lib.indexByte (T ++ 10 :: z) 10 < 0 then (T ++ 10 :: z).length else (Lib.indexByte (T ++ 10 :: z) 10).toNat))).1, (r ++ 10 :: z).length - (T ++ 10 :: z).length + (if Lib.indexByte (T ++ 10 :: z) 10 < 0 then (T ++ 10 :: z).length else (Lib.indexByte (T ++ 10 :: z) 10).toNat) + (blankGo (r ++ 10 :: z).length ((T ++ 10 :: z).drop (if Lib.indexByte (T ++ 10 :: z) 10 < 0 then (T ++ 10 :: z).length else (Lib.indexByte (T ++ 10 :: z) 10).toNat))).2) := by
    unfold blankF
    rw [blankGo_line (by rw [ht]; exact h1') _ rfl, ht]
   rw [show (T ++ 10 :: z).length = T.length + (10 :: z).length from List.length_append] at hx
   by_cases hi : Lib.indexByte T 10 < 0
   ·rw [if_pos hi, List.drop_length, blankGo_fuel _ 1 [] (by simp; omega) (by simp), blankGo_nil] at h
    rw [indexByte_none z T hi, if_neg (by omega), Int.toNat_natCast, List.drop_left, blankF_at (by rw [hlen]; omega)] at hx
    have hk := (Prod.mk.inj h).2
    refine .inl ⟨by simp at hk; omega, ?_⟩
    rw [hx]
    refine Prod.ext rfl ?_
    simp only; omega
   ·rw [if_neg hi] at h
    rw [indexByte_app _ T (by omega), if_neg hi] at hx
    have hi2 : (Lib.indexByte T 10).toNat ≤ T.length := by omega
    rw [List.drop_append_of_le_length hi2] at hx
    have hdl : (T.drop (Lib.indexByte T 10).toNat).length = T.length - (Lib.indexByte T 10).toNat := List.length_drop
    rw [blankF_at (by rw [hdl]; omega)] at h
    rw [blankF_at (by rw [List.length_append, hdl, hlen]; omega)] at hx
    obtain ⟨k', hk'⟩ : ∃ k', blankF (T.drop (Lib.indexByte T 10).toNat) = (true, k') := ⟨_, Prod.ext (Prod.mk.inj h).1 rfl⟩
    rw [hk'] at h
    have hk := (Prod.mk.inj h).2
    simp only at hk
    rcases blank_more z n _ k' (by rw [hdl]; omega) hk' with ⟨g1, g2⟩ | ⟨g1, g2⟩
    ·rw [hdl] at g1
     refine .inl ⟨by omega, ?_⟩
     rw [hx, g2, hdl]
     refine Prod.ext rfl ?_
     simp only; omega
    ·rw [hdl] at g1
     refine .inr ⟨by omega, ?_⟩
     rw [hx, g2]
     refine Prod.ext rfl ?_
     simp only; omega
  | false =>
   have h1' : Lib.hasPrefix (T ++ 10 :: z) [47, 47] = false := by rw [hasPrefix_low hT (by decide)]; exact h1
   cases h2 : Lib.hasPrefix T [47, 42] with
   | false =>
    have h2' : Lib.hasPrefix (T ++ 10 :: z) [47, 42] = false := by rw [hasPrefix_low hT (by decide)]; exact h2
    unfold blankF at h
    rw [blankGo_end (by rw [hTT]; exact h1) (by rw [hTT]; exact h2), hTT] at h
    have hk := (Prod.mk.inj h).2
    refine .inr ⟨by omega, ?_⟩
    unfold blankF
    rw [blankGo_end (by rw [ht]; exact h1') (by rw [ht]; exact h2'), ht, List.length_append, List.length_append]
    refine Prod.ext rfl ?_
    simp only; omega
   | true =>
    have hl2 := (hasPrefix_two h2).1
    have h2' : Lib.hasPrefix (T ++ 10 :: z) [47, 42] = true := hasPrefix_app h2
    unfold blankF at h
    by_cases h3 : Lib.index (T.drop 2) [42, 47] < 0
    ·rw [blankGo_open (by rw [hTT]; exact h1) (by rw [hTT]; exact h2) (by rw [hTT]; exact h3)] at h
     have := (Prod.mk.inj h).1; simp at this
    ·obtain ⟨i, hi⟩ : ∃ i : Nat, Lib.index (T.drop 2) [42, 47] = i := ⟨(Lib.index (T.drop 2) [42, 47]).toNat, by omega⟩
     have hi' : Lib.index ((T ++ 10 :: z).drop 2) [42, 47] = i := by rw [List.drop_append_of_le_length hl2, index_app2 _ _ (by omega), hi]
     have hi4 := index_le [42, 47] (T.drop 2) (by omega)
     rw [hi, List.length_drop] at hi4
     simp only [List.length_cons, List.length_nil] at hi4
     rw [blankGo_rem (by rw [hTT]; exact h1) (by rw [hTT]; exact h2) i (by rw [hTT]; exact hi), hTT] at h
     have hdl : (T.drop (i + 4)).length = T.length - (i + 4) := List.length_drop
     have hx : blankF (r ++ 10 :: z) = ((blankF (T.drop (i + 4) ++ 10 :: z)).1, (r ++ 10 :: z).length - (T ++ 10 :: z).length + (i + 4) + (blankF (T.drop (i + 4) ++ 10 :: z)).2) := by
      rw [← blankF_at (f := (r ++ 10 :: z).length) (r := T.drop (i + 4) ++ 10 :: z) (by rw [List.length_append, hdl, hlen]; omega)]
      unfold blankF
      rw [blankGo_rem (r := r ++ 10 :: z) (by rw [ht]; exact h1') (by rw [ht]; exact h2') i (by rw [ht]; exact hi'), ht, List.drop_append_of_le_length (by omega)]
     rw [show (T ++ 10 :: z).length = T.length + (10 :: z).length from List.length_append] at hx
     rw [blankF_at (by rw [hdl]; omega)] at h
     obtain ⟨k', hk'⟩ : ∃ k', blankF (T.drop (i + 4)) = (true, k') := ⟨_, Prod.ext (Prod.mk.inj h).1 rfl⟩
     rw [hk'] at h
     have hk := (Prod.mk.inj h).2
     simp only at hk
     rcases blank_more z n _ k' (by rw [hdl]; omega) hk' with ⟨g1, g2⟩ | ⟨g1, g2⟩
     ·rw [hdl] at g1
      refine .inl ⟨by omega, ?_⟩
      rw [hx, g2, hdl]
      refine Prod.ext rfl ?_
      simp only; omega
     ·rw [hdl] at g1
      refine .inr ⟨by omega, ?_⟩
      rw [hx, g2]
      refine Prod.ext rfl ?_
      simp only; omega
theorem allGo_fuel : ∀ (f f' : Nat) (most : Int) (a : Nat) (r : Bs), r.length < f → r.length < f' → allGo f most a r = allGo f' most a r
 | 0, f', most, a, r, h, h' => by omega
 | f + 1, 0, most, a, r, h, h' => by omega
 | f + 1, f' + 1, most, a, r, h, h' => by
  rw [allGo, allGo]
  split
  ·rfl
  ·simp only
   split
   ·rfl
   ·rename_i hn
    have hpos := List.length_pos_iff.2 hn
    split
    ·rfl
    ·rename_i t ht
     obtain ⟨t1, t2, t3⟩ := nextF_tok hpos ht
     rw [List.length_drop] at t3 hpos
     rw [allGo_fuel f f' _ _ _ (by rw [List.length_drop, List.length_drop]; omega) (by rw [List.length_drop, List.length_drop]; omega)]
theorem next_bad {a : Nat} {r : Bs} {room : Bool} {p e : Nat} (h : nextF a r room = .bad p e) : e ≠ 0 := by
 rw [nextF_eq] at h
 unfold textR numberR at h
 repeat' split at h
 all_goals first
  | (cases h; decide)
  | (cases h; done)
theorem all_more (z : Bs) : ∀ (f : Nat) (most : Int) (a : Nat) (r : Bs) (l : List Tok) (p : Nat), allGo f most a r = (l, (p, 0)) → r.length < f → ∀ g, (r ++ 10 :: z).length < g →
  allGo g most a (r ++ 10 :: z) = (l ++ (allGo g (most - l.length) (a + r.length) (10 :: z)).1, (allGo g (most - l.length) (a + r.length) (10 :: z)).2)
 | 0, most, a, r, l, p, h, hf, g, hg => by omega
 | f + 1, most, a, r, l, p, h, hf, 0, hg => by omega
 | f + 1, most, a, r, l, p, h, hf, g + 1, hg => by
  rw [allGo] at h
  split at h
  ·exact absurd (congrArg (fun x => x.2.2) h) (by simp)
  ·rename_i hb
   obtain ⟨k, hk⟩ : ∃ k, blankF r = (true, k) := ⟨(blankF r).2, Prod.ext (by simpa using hb) rfl⟩
   obtain ⟨c1, c2, c3⟩ := blank_cut hk
   rw [hk] at h
   simp only at h
   have hlen : (r ++ 10 :: z).length = r.length + (10 :: z).length := List.length_append
   rcases blank_more z (r.length + 1) r k (by omega) hk with ⟨g1, g2⟩ | ⟨g1, g2⟩
   ·rw [if_pos (by rw [g1, List.drop_length])] at h
    obtain rfl : l = [] := (congrArg (fun x => x.1) h).symm
    simp only [List.nil_append, List.length_nil, Int.natCast_zero, Int.sub_zero]
    show allGo (g + 1) most a (r ++ 10 :: z) = allGo (g + 1) most (a + r.length) (10 :: z)
    rw [allGo, allGo, g2]
    simp only
    rw [show (r ++ 10 :: z).drop (r.length + (blankF (10 :: z)).2) = (10 :: z).drop (blankF (10 :: z)).2 by rw [← List.drop_drop, List.drop_left], Nat.add_assoc]
   ·have hnil : r.drop k ≠ [] := fun e => by have := congrArg List.length e; rw [List.length_drop] at this; simp at this; omega
    rw [if_neg hnil] at h
    have hpos := List.length_pos_iff.2 hnil
    cases hx : nextF (a + k) (r.drop k) (decide (0 < most)) with
    | bad p' e =>
     rw [hx] at h
     exact absurd (congrArg (fun x => x.2.2) h) (next_bad hx)
    | tok t =>
     rw [hx] at h
     simp only at h
     obtain ⟨t1, t2, t3⟩ := nextF_tok hpos hx
     have hx2 := next_more (z := z) hnil (fol_nl z) (sign_more hnil (by decide)) hx
     obtain ⟨l2, rfl⟩ : ∃ l2, l = t :: l2 := ⟨_, (congrArg (fun x => x.1) h).symm⟩
     have hrec : allGo f (most - 1) t.fin ((r.drop k).drop (t.fin - (a + k))) = (l2, (p, 0)) := by
      have e1 := congrArg (fun x => x.1) h
      have e2 := congrArg (fun x => x.2) h
      simp only [List.cons.injEq, true_and] at e1
      exact Prod.ext e1 e2
     rw [List.length_drop] at t3
     have hdl : ((r.drop k).drop (t.fin - (a + k))).length = r.length - k - (t.fin - (a + k)) := by rw [List.length_drop, List.length_drop]
     have ih := all_more z f (most - 1) t.fin _ l2 p hrec (by rw [hdl]; omega) g (by rw [List.length_append, hdl]; omega)
     rw [allGo, g2]
     simp only [Bool.true_eq_false, if_false]
     rw [List.drop_append_of_le_length (by omega), if_neg (by simp), hx2]
     simp only
     rw [List.drop_append_of_le_length (by rw [List.length_drop]; omega), ih, hdl]
     rw [show t.fin + (r.length - k - (t.fin - (a + k))) = a + r.length by omega, show most - 1 - (l2.length : Int) = most - ((t :: l2).length : Int) by simp only [List.length_cons]; omega]
     rw [allGo_fuel g (g + 1) _ _ (10 :: z) (by omega) (by omega)]
     rfl
theorem next_shift {a a' : Nat} {r : Bs} {t : Tok} (h : nextF a r true = .tok t) : nextF a' r true = .tok ⟨t.kind, t.text, t.n, a', a' + (t.fin - a)⟩ := by
 rw [nextF_eq] at h ⊢
 split at h
 ·cases h
 ·rename_i g0
  rw [if_neg g0]
  rw [if_neg (by simp)] at h ⊢
  split at h
  ·rename_i g1
   rw [if_pos g1]
   cases h
   simp
  ·rename_i g1
   rw [if_neg g1]
   split at h
   ·rename_i g2
    rw [if_pos g2]
    unfold textR at h ⊢
    split at h
    ·cases h
    ·cases h; simp
   ·rename_i g2
    rw [if_neg g2]
    split at h
    ·rename_i g3
     rw [if_pos g3]
     unfold numberR at h ⊢
     split at h
     ·cases h
     ·cases h; simp
    ·rename_i g3
     rw [if_neg g3]
     cases h; simp
theorem all_shift : ∀ (f : Nat) (most most' : Int) (a a' : Nat) (r : Bs) (l : List Tok) (p : Nat), allGo f most a r = (l, (p, 0)) → (l.length : Int) ≤ most' → ∃ l', allGo f most' a' r = (l', (0, 0)) ∧ l'.map keyT = l.map keyT
 | 0, most, most', a, a', r, l, p, h, hm => by cases h; exact ⟨[], rfl, rfl⟩
 | f + 1, most, most', a, a', r, l, p, h, hm => by
  rw [allGo] at h ⊢
  split at h
  ·exact absurd (congrArg (fun x => x.2.2) h) (by simp)
  ·rename_i hb
   rw [if_neg hb]
   simp only at h ⊢
   split at h
   ·rename_i hn
    rw [if_pos hn]
    obtain rfl : l = [] := (congrArg (fun x => x.1) h).symm
    exact ⟨[], rfl, rfl⟩
   ·rename_i hn
    rw [if_neg hn]
    have hpos := List.length_pos_iff.2 hn
    cases hx : nextF (a + (blankF r).2) (r.drop (blankF r).2) (decide (0 < most)) with
    | bad p' e =>
     rw [hx] at h
     exact absurd (congrArg (fun x => x.2.2) h) (next_bad hx)
    | tok t =>
     rw [hx] at h
     simp only at h
     obtain ⟨t1, t2, t3⟩ := nextF_tok hpos hx
     have hroom := room_of hx
     rw [hroom] at hx
     obtain ⟨l2, rfl⟩ : ∃ l2, l = t :: l2 := ⟨_, (congrArg (fun x => x.1) h).symm⟩
     have hrec : allGo f (most - 1) t.fin ((r.drop (blankF r).2).drop (t.fin - (a + (blankF r).2))) = (l2, (p, 0)) := by
      have e1 := congrArg (fun x => x.1) h
      have e2 := congrArg (fun x => x.2) h
      simp only [List.cons.injEq, true_and] at e1
      exact Prod.ext e1 e2
     simp only [List.length_cons] at hm
     rw [show decide (0 < most') = true by simp; omega, next_shift (a' := a' + (blankF r).2) hx]
     simp only
     obtain ⟨l', e1, e2⟩ := all_shift f (most - 1) (most' - 1) t.fin (a' + (blankF r).2 + (t.fin - (a + (blankF r).2))) _ l2 p hrec (by omega)
     rw [show a' + (blankF r).2 + (t.fin - (a + (blankF r).2)) - (a' + (blankF r).2) = t.fin - (a + (blankF r).2) by omega, e1]
     exact ⟨_, rfl, by simp only [List.map_cons, e2]; rfl⟩
theorem all_nl (g : Nat) (most : Int) (a : Nat) (b : Bs) : allGo (g + 1) most a (10 :: b) = allGo (g + 1) most (a + 1) b := by
 have e := blank_shift (r := [10]) (y := b) (by decide)
 rw [List.cons_append, List.nil_append] at e
 rw [allGo, allGo, e]
 simp only [List.length_cons, List.length_nil]
 rw [show (10 :: b).drop (0 + 1 + (blankF b).2) = b.drop (blankF b).2 by rw [show 0 + 1 + (blankF b).2 = (blankF b).2 + 1 by omega]; rfl, show a + (0 + 1 + (blankF b).2) = a + 1 + (blankF b).2 by omega]
theorem all_rows {a b : Bs} {M : Int} {l m : List Tok} {p q : Nat} (h1 : allF a M = (l, (p, 0))) (h2 : allF b M = (m, (q, 0))) (hM : (l.length : Int) + m.length ≤ M) : ∃ m', allF (a ++ 10 :: b) M = (l ++ m', (0, 0)) ∧ m'.map keyT = m.map keyT := by
 unfold allF at h1 h2 ⊢
 have e := all_more b _ M 0 a l p h1 (by omega) ((a ++ 10 :: b).length + 1) (by omega)
 rw [all_nl, ← allGo_fuel (b.length + 1) _ _ _ b (by omega) (by rw [List.length_append, List.length_cons]; omega)] at e
 obtain ⟨m', e1, e2⟩ := all_shift _ M (M - l.length) 0 (0 + a.length + 1) b m q h2 (by omega)
 rw [e1] at e
 exact ⟨m', e, e2⟩
end Go.PM.Lex
end

section
set_option maxRecDepth 100000
namespace Go.PM.Lex
end Go.PM.Lex
end

section
set_option maxRecDepth 100000
set_option maxHeartbeats 4000000
namespace Go.PM.Lex
open Go.Proofs
abbrev Fit {α : Type} (sz : α → Nat) (P : Ts → R α) : Prop := ∀ ts v ts', P ts = .ok v ts' → sz v + 4 * ts'.length ≤ 4 * ts.length
theorem tl_len {ts : Ts} {ws : List Bs} (h : isW ts ws = true) : ts.tail.length + 1 = ts.length := by obtain ⟨t, l, rfl⟩ := isW_pos h; rfl
theorem nm_len {ts : Ts} (h : namedF ts = true) : ts.tail.length + 1 = ts.length := by
 cases ts with
 | nil => exact absurd rfl (namedF_ne h)
 | cons t l => rfl
theorem tl_le (ts : Ts) : ts.tail.length ≤ ts.length := by rw [List.length_tail]; omega
theorem must_fit {w : Bs} {ts ts' : Ts} {u : Unit} (h : mustF w ts = .ok u ts') : ts'.length + 1 = ts.length := by
 unfold mustF at h
 split at h
 ·rename_i hc; cases h; exact tl_len hc
 ·cases h
theorem name_fit {ts ts' : Ts} {v : Bs} (h : nameP ts = .ok v ts') : ts'.length + 1 = ts.length := by
 unfold nameP at h
 split at h
 ·rename_i hc; cases h; exact nm_len hc
 ·cases h
theorem within_fit {α : Type} {d : Nat} {fr to : Bs} {read : Ts → R α} {ts ts' : Ts} {v : α} (h : withinF d fr to read ts = .ok v ts') : ∃ t1, read ts.tail = .ok v t1 ∧ ts.tail.length + 1 = ts.length ∧ ts'.length ≤ t1.length := by
 unfold withinF at h
 split at h
 ·rename_i hc
  split at h
  ·cases h
  ·obtain ⟨a, t1, h1, h2⟩ := R.bind_of h
   split at h2
   ·cases h2; exact ⟨_, h1, tl_len hc, Nat.le_refl _⟩
   ·obtain ⟨u, t2, h3, h4⟩ := R.bind_of h2
    cases h4
    have := must_fit h3
    exact ⟨_, h1, tl_len hc, by omega⟩
 ·cases h
theorem szS_snoc {α : Type} (f : α → Nat) (x : α) : ∀ l : List α, szS f (l ++ [x]) = szS f l + (1 + f x)
 | [] => by simp only [List.nil_append, szS]; omega
 | y :: l => by simp only [List.cons_append, szS, szS_snoc f x l]; omega
theorem manyGo_fit {α : Type} {sz : α → Nat} {sign : Bs} {most : Nat} {st : Ts → Bool} {one : Ts → R α} (h1 : Fit (fun x => 1 + sz x) one) : ∀ f l ts v ts', manyGo sign most st one f l ts = .ok v ts' → szS sz v + 4 * ts'.length ≤ szS sz l + 4 * ts.length
 | 0, _, _, _, _, h => by cases h
 | f + 1, l, ts, v, ts', h => by
  rw [manyGo] at h
  split at h
  ·cases h
  ·obtain ⟨x, t1, h2, h3⟩ := R.bind_of h
   have k := h1 _ _ _ h2
   dsimp only at k
   split at h3
   ·rename_i hc
    have k2 := manyGo_fit h1 f _ _ _ _ h3
    have k3 := tl_len hc
    rw [szS_snoc] at k2
    omega
   ·cases h3
    rw [szS_snoc]
    omega
theorem many_fit {α : Type} {sz : α → Nat} {sign : Bs} {most : Nat} {st : Ts → Bool} {one : Ts → R α} (h1 : Fit (fun x => 1 + sz x) one) : Fit (szS sz) (manyF sign most st one) := fun ts v ts' h => by
 have := manyGo_fit h1 _ _ _ _ _ h
 simpa [szS] using this
theorem field_fit : Fit (fun x => 1 + sz0 (α := Fi) x) fieldF := fun ts v ts' h => by
 obtain ⟨a, t1, h1, h⟩ := R.bind_of h
 obtain ⟨_, t2, h2, h⟩ := R.bind_of h
 obtain ⟨b, t3, h3, h⟩ := R.bind_of h
 cases h
 have := name_fit h1; have := must_fit h2; have := name_fit h3
 simp only [sz0]; omega
theorem nameS_fit : Fit (fun x => 1 + sz0 (α := Bs) x) nameP := fun ts v ts' h => by
 have := name_fit h
 simp only [sz0]; omega
theorem fields_fit (fin : Bs) : Fit (szS sz0) (fieldsF fin) := fun ts v ts' h => by
 unfold fieldsF at h
 split at h
 ·cases h; simp [szS]
 ·exact many_fit field_fit _ _ _ h
theorem names_fit : Fit (szS sz0) namesF := fun ts v ts' h => by
 unfold namesF at h
 split at h
 ·rename_i hc
  obtain ⟨a, t1, h1, h⟩ := R.bind_of h
  obtain ⟨_, t2, h2, h⟩ := R.bind_of h
  cases h
  have := many_fit nameS_fit _ _ _ h1; have := must_fit h2; have := tl_len hc
  omega
 ·cases h; simp [szS]
theorem case_fit : Fit (fun x => 1 + szCa x) caseF := fun ts v ts' h => by
 obtain ⟨a, t1, h1, h⟩ := R.bind_of h
 obtain ⟨_, t2, h2, h⟩ := R.bind_of h
 obtain ⟨b, t3, h3, h⟩ := R.bind_of h
 obtain ⟨_, t4, h4, h⟩ := R.bind_of h
 cases h
 have := name_fit h1; have := must_fit h2; have := fields_fit _ _ _ _ h3; have := must_fit h4
 simp only [szCa]; omega
theorem typed_fit : Fit (fun x => 1 + szTy x) typedF := fun ts v ts' h => by
 obtain ⟨a, t1, h1, h⟩ := R.bind_of h
 have := name_fit h1
 split at h
 ·rename_i hc
  obtain ⟨b, t3, h3, h⟩ := R.bind_of h
  cases h
  have := name_fit h3; have := tl_len hc
  simp only [szTy, szS]; omega
 ·obtain ⟨_, t2, h2, h⟩ := R.bind_of h
  have := must_fit h2
  split at h
  ·rename_i hc
   obtain ⟨b, t3, h3, h⟩ := R.bind_of h
   obtain ⟨_, t4, h4, h⟩ := R.bind_of h
   cases h
   have := fields_fit _ _ _ _ h3; have := must_fit h4; have := tl_len hc
   simp only [szTy, szS]; omega
  ·obtain ⟨b, t3, h3, h⟩ := R.bind_of h
   cases h
   have := many_fit case_fit _ _ _ h3
   simp only [szTy, szS]; omega
theorem flags_fit : ∀ (f : Nat) (i o n : Bool) (ts : Ts), (flagsGo f i o n ts).2.length ≤ ts.length
 | 0, i, o, n, ts => Nat.le_refl _
 | f + 1, i, o, n, ts => by
  rw [flagsGo]
  have := tl_le ts
  split
  ·exact Nat.le_trans (flags_fit f _ _ _ _) this
  ·split
   ·exact Nat.le_trans (flags_fit f _ _ _ _) this
   ·split
    ·exact Nat.le_trans (flags_fit f _ _ _ _) this
    ·exact Nat.le_refl _
theorem decl_fit : Fit (fun x => 1 + szRe x) declF := fun ts v ts' h => by
 obtain ⟨a, t1, h1, h⟩ := R.bind_of h
 obtain ⟨_, t2, h2, h⟩ := R.bind_of h
 obtain ⟨b, t3, h3, h⟩ := R.bind_of h
 obtain ⟨_, t4, h4, h⟩ := R.bind_of h
 have := name_fit h1; have := must_fit h2; have := fields_fit _ _ _ _ h3; have := must_fit h4
 have := flags_fit 4 false false false t4
 cases h
 simp only [szRe]; omega
abbrev FitE (P : Ts → R Ex) : Prop := Fit (fun v => szE v + 2) P
theorem fitE_ls {P : Ts → R Ex} (h : FitE P) : Fit (fun v => 1 + szE v) P := fun ts v ts' e => by have := h _ _ _ e; dsimp only at this ⊢; omega
theorem args_fit {d : Nat} {ex : Ts → R Ex} (h : FitE ex) (fr to : Bs) {ts ts' : Ts} {v : List Ex} (e : argsF d ex fr to ts = .ok v ts') : szS szE v + 4 + 4 * ts'.length ≤ 4 * ts.length := by
 unfold argsF at e
 obtain ⟨t1, h1, h2, h3⟩ := within_fit e
 split at h1
 ·cases h1; simp only [szS]; omega
 ·have := many_fit (fitE_ls h) _ _ _ h1
  omega
theorem callGo_fit {ex : Ts → R Ex} (h : FitE ex) : ∀ k l ts v ts', callGo ex k l ts = .ok v ts' → szS szE v + 4 * ts'.length ≤ szS szE l + 4 * ts.length
 | 0, l, ts, v, ts', e => by cases e; exact Nat.le_refl _
 | k + 1, l, ts, v, ts', e => by
  obtain ⟨_, t1, h1, e⟩ := R.bind_of e
  obtain ⟨x, t2, h2, e⟩ := R.bind_of e
  have k2 := callGo_fit h k _ _ _ _ e
  have k1 := h _ _ _ h2
  dsimp only at k1
  rw [szS_snoc] at k2
  have : t1.length ≤ ts.length := by
   split at h1
   ·cases h1; exact Nat.le_refl _
   ·have := must_fit h1; omega
  omega
theorem starts_len {ts : Ts} (h : ¬ startsF ts = false) : ts.tail.length + 1 = ts.length := by
 cases ts with
 | nil => exact absurd rfl h
 | cons t l => rfl
theorem szE_mk (o : Nat) (t : Bs) (n : Int) (l : List Ex) (a : Nat) : szE (.mk o t n l a) = 1 + szS szE l := by rw [szE, szEs_eq]
theorem primary_fit {d : Nat} {ex : Ts → R Ex} (h : FitE ex) : FitE (primaryF d ex) := fun ts v ts' e => by
 unfold primaryF at e
 split at e
 ·cases e
 rename_i hs
 have hl := starts_len hs
 split at e
 ·cases e; simp only [szE_mk, szS]; omega
 split at e
 ·cases e; simp only [szE_mk, szS]; omega
 split at e
 ·obtain ⟨t1, h1, h2, h3⟩ := within_fit e
  have := h _ _ _ h1
  dsimp only at this ⊢
  omega
 split at e
 ·obtain ⟨l, t1, h1, e⟩ := R.bind_of e
  cases e
  have := args_fit h _ _ h1
  simp only [szE_mk]; omega
 split at e
 ·obtain ⟨l, t1, h1, e⟩ := R.bind_of e
  have := name_fit h1
  split at e
  ·obtain ⟨l, t2, h2, e⟩ := R.bind_of e
   cases e
   have := args_fit h _ _ h2
   simp only [szE_mk]; omega
  ·cases e; simp only [szE_mk, szS]; omega
 split at e
 ·obtain ⟨l, t1, h1, e⟩ := R.bind_of e
  obtain ⟨t2, h2, h3, h4⟩ := within_fit h1
  cases e
  have := callGo_fit h _ _ _ _ _ h2
  simp only [szE_mk, szS] at *; omega
 split at e
 ·cases e; simp only [szE_mk, szS]; omega
 split at e
 ·cases e; simp only [szE_mk, szS]; omega
 ·cases e; simp only [szE_mk, szS]; omega
theorem bin_len {ts : Ts} (h : ¬ (binF ts).1 = 0) : ts.tail.length + 1 = ts.length := by
 obtain ⟨t, l, rfl⟩ := bin_pos h; rfl
theorem lineGo_fit {sub : Nat → Ts → R Ex} (h : ∀ n, FitE (sub n)) (least : Nat) : ∀ f e ts v ts', lineGo sub least f e ts = .ok v ts' → szE v + 4 * ts'.length ≤ szE e + 4 * ts.length
 | 0, _, _, _, _, k => by cases k
 | f + 1, e, ts, v, ts', k => by
  rw [lineGo] at k
  split at k
  ·cases k; exact Nat.le_refl _
  ·rename_i hc
   obtain ⟨g, t1, h1, k⟩ := R.bind_of k
   have k1 := h _ _ _ _ h1
   have k2 := lineGo_fit h least f _ _ _ _ k
   have k3 := bin_len (fun e => hc (.inr e))
   simp only [szE_mk, szS] at k2
   dsimp only at k1
   omega
theorem lineK_fit {sg : Ts → R Ex} (h : FitE sg) : ∀ k least, FitE (lineK sg k least)
 | 0, least => h
 | k + 1, least => fun ts v ts' e => by
  obtain ⟨a, t1, h1, e⟩ := R.bind_of e
  have k1 := h _ _ _ h1
  have k2 := lineGo_fit (fun n => lineK_fit h k n) _ _ _ _ _ _ e
  dsimp only at k1 ⊢
  omega
theorem signedF_fit {d : Nat} {sg : Ts → R Ex} (h : FitE sg) : FitE (signedF d sg) := fun ts v ts' e => by
 unfold signedF at e
 split at e
 ·obtain ⟨l, t1, h1, e⟩ := R.bind_of e
  obtain ⟨t2, h2, h3, h4⟩ := within_fit h1
  cases e
  have := h _ _ _ h2
  simp only [szE_mk, szS] at *; omega
 split at e
 ·obtain ⟨l, t1, h1, e⟩ := R.bind_of e
  obtain ⟨t2, h2, h3, h4⟩ := within_fit h1
  cases e
  have := h _ _ _ h2
  simp only [szE_mk, szS] at *; omega
 ·exact primary_fit (lineK_fit h 6 1) _ _ _ e
theorem signed_fit : ∀ d, FitE (signedD d)
 | 0 => signedF_fit fun _ _ _ e => by cases e
 | d + 1 => signedF_fit (signed_fit d)
theorem expr_fit (d : Nat) : FitE (exprD d) := lineK_fit (signed_fit d) 6 1
theorem exprB_fit : ∀ d, FitE (exprB d)
 | 0 => fun _ _ _ e => by cases e
 | d + 1 => expr_fit d
theorem idxW_ne {ts : Ts} : ∀ (ws : List Bs) (i j : Nat), idxW ts i ws = some j → ts.tail.length + 1 = ts.length
 | [], i, j, h => by cases h
 | w :: ws, i, j, h => by
  rw [idxW] at h
  split at h
  ·rename_i hc; exact tl_len hc
  ·exact idxW_ne ws _ _ h
theorem litOp_fit {ts ts' : Ts} {op : Nat} (h : litOp ts = .ok op ts') : ts'.length + 1 ≤ ts.length := by
 unfold litOp at h
 split at h
 ·cases h
 ·rename_i h1
  have := idxW_ne _ _ _ h1
  split at h
  ·cases h
   have := tl_le ts.tail
   omega
  ·cases h; omega
 ·rename_i h1
  have := idxW_ne _ _ _ h1
  cases h; omega
theorem szL_mk (o : Nat) (t : Bs) (l : List Ex) (b : List Li) (a : Nat) : szL (.mk o t l b a) = 1 + szS szE l + szS szL b := by rw [szL, szLs_eq]
theorem litAtom_fit {d op a : Nat} {ts ts' : Ts} {v : Li} (h : litAtom d op a ts = .ok v ts') : 1 + szL v + 4 * ts'.length ≤ 4 * ts.length := by
 obtain ⟨nm, t1, h1, h⟩ := R.bind_of h
 obtain ⟨l, t2, h2, h⟩ := R.bind_of h
 cases h
 have := name_fit h1; have := args_fit (exprB_fit d) _ _ h2
 simp only [szL_mk, szS]; omega
theorem litEnd_fit {d : Nat} {bd : Ts → R (List Li)} (hb : Fit (szS szL) bd) {a op : Nat} {l : List Ex} {ts ts' : Ts} {v : Li} (h : litEnd d bd a op l ts = .ok v ts') : szL v + 4 * ts'.length ≤ 1 + szS szE l + 4 * ts.length := by
 unfold litEnd at h
 split at h
 ·obtain ⟨_, t1, h1, h⟩ := R.bind_of h
  obtain ⟨b, t2, h2, h⟩ := R.bind_of h
  obtain ⟨t3, h3, h4, h5⟩ := within_fit h2
  cases h
  have := must_fit h1; have := hb _ _ _ h3
  simp only [szL_mk]; omega
 ·cases h; simp only [szL_mk, szS]; omega
theorem lit_fit {d : Nat} {bd : Ts → R (List Li)} (hb : Fit (szS szL) bd) : Fit (fun v => 1 + szL v) (litF d bd) := fun ts v ts' h => by
 unfold litF at h
 split at h
 ·rename_i hc
  have := tl_len hc; have := litAtom_fit h
  dsimp only; omega
 split at h
 ·exact litAtom_fit h
 ·obtain ⟨e, t1, h1, h⟩ := R.bind_of h
  obtain ⟨op, t2, h2, h⟩ := R.bind_of h
  have k1 := expr_fit _ _ _ _ h1; have k2 := litOp_fit h2
  split at h
  ·have k3 := litEnd_fit hb h
   simp only [szS] at k3 ⊢; dsimp only at k1; omega
  ·obtain ⟨g, t3, h3, h⟩ := R.bind_of h
   have k3 := expr_fit _ _ _ _ h3; have k4 := litEnd_fit hb h
   simp only [szS] at k4 ⊢; dsimp only at k1 k3; omega
theorem body_fit : ∀ d, Fit (szS szL) (bodyD d)
 | 0 => many_fit (lit_fit fun _ _ _ e => by cases e)
 | d + 1 => many_fit (lit_fit (body_fit d))
theorem rule_fit (d : Nat) (b : Bool) : Fit (fun v => 1 + szRu v) (ruleF d b) := fun ts v ts' h => by
 obtain ⟨nm, t1, h1, h⟩ := R.bind_of h
 obtain ⟨l, t2, h2, h⟩ := R.bind_of h
 have := name_fit h1; have := args_fit (exprB_fit d) _ _ h2
 split at h
 ·obtain ⟨b, t3, h3, h⟩ := R.bind_of h
  obtain ⟨_, t4, h4, h⟩ := R.bind_of h
  cases h
  have := body_fit _ _ _ _ h3; have := must_fit h4; have := tl_le t2
  simp only [szRu]; omega
 ·obtain ⟨_, t4, h4, h⟩ := R.bind_of h
  cases h
  have := must_fit h4
  simp only [szRu, szS]; omega
theorem szCo_mk (n : Bs) (p : List Bs) (b : Bs) (t : List Bs) (u : Un) (a : Nat) : szCo (.mk n p b t u a) = 1 + szS sz0 p + szS sz0 t + szUn u := by rw [szCo]
theorem szUn_mk (a1 a2 a3 a4 a5 a6) : szUn (.mk a1 a2 a3 a4 a5 a6) = 1 + szS szTy a1 + szS szRe a2 + szS szRu a3 + szS szCo a4 + szS szIn a5 + szS sz0 a6 := by rw [szUn, szCos_eq]
abbrev FitU (P : Ts → R Un) : Prop := ∀ ts v ts', P ts = .ok v ts' → szUn v + 4 * ts'.length ≤ 1 + 4 * ts.length
theorem comp_fit {d : Nat} {un : Ts → R Un} (hu : FitU un) : Fit (fun v => 1 + szCo v) (compF d un) := fun ts v ts' h => by
 obtain ⟨nm, t1, h1, h⟩ := R.bind_of h
 obtain ⟨ps, t2, h2, h⟩ := R.bind_of h
 have := name_fit h1; have := names_fit _ _ _ h2
 split at h
 ·rename_i hc
  obtain ⟨b, t3, h3, h⟩ := R.bind_of h
  obtain ⟨tys, t4, h4, h⟩ := R.bind_of h
  obtain ⟨u, t5, h5, h⟩ := R.bind_of h
  obtain ⟨t6, h6, h7, h8⟩ := within_fit h5
  cases h
  have := name_fit h3; have := names_fit _ _ _ h4; have := hu _ _ _ h6; have := tl_len hc
  simp only [szCo_mk]; omega
 ·obtain ⟨u, t5, h5, h⟩ := R.bind_of h
  obtain ⟨t6, h6, h7, h8⟩ := within_fit h5
  cases h
  have := hu _ _ _ h6
  simp only [szCo_mk, szS]; omega
theorem init_fit : Fit (fun v => 1 + szIn v) initF := fun ts v ts' h => by
 obtain ⟨nm, t1, h1, h⟩ := R.bind_of h
 obtain ⟨_, t2, h2, h⟩ := R.bind_of h
 obtain ⟨c, t3, h3, h⟩ := R.bind_of h
 obtain ⟨tys, t4, h4, h⟩ := R.bind_of h
 cases h
 have := name_fit h1; have := must_fit h2; have := name_fit h3; have := names_fit _ _ _ h4
 simp only [szIn]; omega
theorem over_fit : Fit (fun v => 1 + sz0 (α := Ov) v) overF := fun ts v ts' h => by
 obtain ⟨nm, t1, h1, h⟩ := R.bind_of h
 cases h
 have := name_fit h1
 simp only [sz0]; omega
theorem unitGo_fit {b : Bool} {d : Nat} {un : Ts → R Un} (hu : FitU un) : ∀ f u ts v ts', unitGo b d un f u ts = .ok v ts' → szUn v + 4 * ts'.length ≤ szUn u + 4 * ts.length
 | 0, u, ts, v, ts', h => by obtain ⟨a1, a2, a3, a4, a5, a6⟩ := u; cases h
 | f + 1, .mk tys rels rules comps inits overs, ts, v, ts', h => by
  rw [unitGo_eq] at h
  split at h
  ·cases h; exact Nat.le_refl _
  have ht := tl_le ts
  split at h
  ·split at h
   ·cases h
   ·obtain ⟨x, t1, h1, h⟩ := R.bind_of h
    have k1 := typed_fit _ _ _ h1; have k2 := unitGo_fit hu f _ _ _ _ h
    simp only [szUn_mk, szS_snoc] at k2 ⊢; dsimp only at k1; omega
  split at h
  ·split at h
   ·cases h
   ·obtain ⟨x, t1, h1, h⟩ := R.bind_of h
    have k1 := decl_fit _ _ _ h1; have k2 := unitGo_fit hu f _ _ _ _ h
    simp only [szUn_mk, szS_snoc] at k2 ⊢; dsimp only at k1; omega
  split at h
  ·split at h
   ·cases h
   ·obtain ⟨x, t1, h1, h⟩ := R.bind_of h
    have k1 := comp_fit hu _ _ _ h1; have k2 := unitGo_fit hu f _ _ _ _ h
    simp only [szUn_mk, szS_snoc] at k2 ⊢; dsimp only at k1; omega
  split at h
  ·split at h
   ·cases h
   ·obtain ⟨x, t1, h1, h⟩ := R.bind_of h
    have k1 := init_fit _ _ _ h1; have k2 := unitGo_fit hu f _ _ _ _ h
    simp only [szUn_mk, szS_snoc] at k2 ⊢; dsimp only at k1; omega
  split at h
  ·split at h
   ·cases h
   ·obtain ⟨x, t1, h1, h⟩ := R.bind_of h
    have k1 := over_fit _ _ _ h1; have k2 := unitGo_fit hu f _ _ _ _ h
    simp only [szUn_mk, szS_snoc] at k2 ⊢; dsimp only at k1; omega
  split at h
  ·split at h
   ·cases h
   ·obtain ⟨x, t1, h1, h⟩ := R.bind_of h
    have k1 := rule_fit _ _ _ _ _ h1; have k2 := unitGo_fit hu f _ _ _ _ h
    simp only [szUn_mk, szS_snoc] at k2 ⊢; dsimp only at k1; omega
  ·cases h
theorem szUn_nil : szUn .nil = 1 := by rw [Un.nil, szUn_mk]; rfl
theorem unitD_fit : ∀ d, FitU (unitD d)
 | 0 => fun ts v ts' h => by have := unitGo_fit (b := true) (d := 0) (un := fun _ => .err 0 150) (fun _ _ _ e => by cases e) _ _ _ _ _ h; rw [szUn_nil] at this; exact this
 | d + 1 => fun ts v ts' h => by have := unitGo_fit (unitD_fit d) _ _ _ _ _ h; rw [szUn_nil] at this; exact this
theorem unitTop_fit : FitU unitTop := fun ts v ts' h => by have := unitGo_fit (unitD_fit 63) _ _ _ _ _ h; rw [szUn_nil] at this; exact this
theorem unit_small {s : Bs} {v : Un} {L : List Tok} (h : readTop 65536 16384 unitTop s = .ok v L) : szUn v ≤ 65537 := by
 unfold readTop at h
 split at h
 ·cases h
 split at h
 ·cases h
 split at h
 ·rename_i h1
  cases h
  have k := unitTop_fit _ _ _ h1
  have k2 := allF_le s 16384
  rw [List.length_map] at k
  simp only [List.length_nil] at k
  have : ((16384 : Int)).toNat = 16384 := rfl
  have k3 : (allF s 16384).1.length ≤ 16384 := k2
  have k4 : (allF s ((16384 : Nat) : Int)).1.length ≤ 16384 := k3
  omega
 ·cases h
 ·cases h
theorem allS_er {α : Type} {er : α → α} {f : α → α → Bool} : ∀ (l m : List α), (∀ x ∈ l, ∀ y, er x = er y → f x y = true) → l.map er = m.map er → allS f l m = true
 | [], [], _, _ => rfl
 | [], _ :: _, _, h => by simp at h
 | _ :: _, [], _, h => by simp at h
 | x :: l, y :: m, hf, h => by
  simp only [List.map_cons, List.cons.injEq] at h
  rw [allS, hf x (List.mem_cons_self ..) y h.1, Bool.true_and]
  exact allS_er l m (fun z hz => hf z (List.mem_cons_of_mem _ hz)) h.2
theorem allS_refl {α : Type} {f : α → α → Bool} (hf : ∀ x, f x x = true) (l : List α) : allS f l l = true := by
 induction l with
 | nil => rfl
 | cons x l ih => rw [allS, hf, ih]; rfl
theorem eqB_refl (x : Bs) : eqB x x = true := by simp [eqB]
theorem sameFi_refl (x : Fi) : sameFi x x = true := by simp [sameFi]
theorem sameCa_refl (x : Ca) : sameCa x x = true := by simp [sameCa, allS_refl sameFi_refl]
theorem sameE_er : ∀ (n : Nat) (x : Ex), szE x < n → ∀ y, erE x = erE y → sameE x y = true
 | 0, _, h, _, _ => by omega
 | n + 1, .mk o1 t1 n1 l1 a1, hz, .mk o2 t2 n2 l2 a2, h => by
  simp only [erE, erEs_eq, Ex.mk.injEq] at h
  obtain ⟨rfl, rfl, rfl, h, -⟩ := h
  rw [szE_mk] at hz
  have : allS sameE l1 l2 = true := allS_er l1 l2 (fun x hx y e => by
   obtain ⟨i, hi, rfl⟩ := List.getElem_of_mem hx
   have := szS_get szE l1 i hi
   exact sameE_er n _ (by omega) y e) h
  simp [sameE, sameEs_eq, this]
theorem sameE_of {x y : Ex} (h : erE x = erE y) : sameE x y = true := sameE_er _ x (Nat.lt_succ_self _) y h
theorem sameL_er : ∀ (n : Nat) (x : Li), szL x < n → ∀ y, erL x = erL y → sameL x y = true
 | 0, _, h, _, _ => by omega
 | n + 1, .mk o1 t1 l1 b1 a1, hz, .mk o2 t2 l2 b2 a2, h => by
  simp only [erL, erLs_eq, Li.mk.injEq] at h
  obtain ⟨rfl, rfl, h, h2, -⟩ := h
  rw [szL_mk] at hz
  have e1 : allS sameE l1 l2 = true := allS_er l1 l2 (fun x hx y e => sameE_of e) (by first | exact h | (simpa [erEs_eq] using h))
  have e2 : allS sameL b1 b2 = true := allS_er b1 b2 (fun x hx y e => by
   obtain ⟨i, hi, rfl⟩ := List.getElem_of_mem hx
   have := szS_get szL b1 i hi
   exact sameL_er n _ (by omega) y e) h2
  simp [sameL, sameLs_eq, e1, e2]
theorem sameL_of {x y : Li} (h : erL x = erL y) : sameL x y = true := sameL_er _ x (Nat.lt_succ_self _) y h
theorem sameRu_of {x y : Ru} (h : erRu x = erRu y) : sameRu x y = true := by
 simp only [erRu, Ru.mk.injEq] at h
 obtain ⟨e1, e2, e3, -⟩ := h
 simp [sameRu, e1, allS_er (er := erE) _ _ (fun x hx y e => sameE_of e) e2, allS_er (er := erL) _ _ (fun x hx y e => sameL_of e) e3]
theorem sameTy_of {x y : Ty} (h : erTy x = erTy y) : sameTy x y = true := by
 simp only [erTy, Ty.mk.injEq] at h
 obtain ⟨e1, e2, e3, e4, e5, -⟩ := h
 simp [sameTy, e1, e2, e3, e4, e5, allS_refl sameFi_refl, allS_refl sameCa_refl]
theorem sameRe_of {x y : Re} (h : erRe x = erRe y) : sameRe x y = true := by
 simp only [erRe, Re.mk.injEq] at h
 obtain ⟨e1, e2, e3, e4, e5, -⟩ := h
 simp [sameRe, e1, e2, e3, e4, e5, allS_refl sameFi_refl]
theorem sameIn_of {x y : Ini} (h : erIn x = erIn y) : sameIn x y = true := by
 simp only [erIn, Ini.mk.injEq] at h
 obtain ⟨e1, e2, e3, -⟩ := h
 simp [sameIn, e1, e2, e3, allS_refl eqB_refl]
theorem sameOv_of {x y : Ov} (h : erOv x = erOv y) : sameOv x y = true := by
 simp only [erOv, Ov.mk.injEq] at h
 simp [sameOv, h.1]
theorem sameUn_er : ∀ (n : Nat) (x : Un), szUn x < n → ∀ y, erUn x = erUn y → sameUn x y = true
 | 0, _, h, _, _ => by omega
 | n + 1, .mk a1 a2 a3 a4 a5 a6, hz, .mk b1 b2 b3 b4 b5 b6, h => by
  simp only [erUn, erCos_eq, Un.mk.injEq] at h
  obtain ⟨e1, e2, e3, e4, e5, e6⟩ := h
  rw [szUn_mk] at hz
  have k4 : allS sameCo a4 b4 = true := allS_er a4 b4 (fun x hx y e => by
   obtain ⟨i, hi, rfl⟩ := List.getElem_of_mem hx
   have hg := szS_get szCo a4 i hi
   revert hg e
   generalize a4[i] = c
   intro e hg
   obtain ⟨n1, p1, c1, t1, u1, q1⟩ := c
   obtain ⟨n2, p2, c2, t2, u2, q2⟩ := y
   rw [szCo_mk] at hg
   simp only [erCo, Co.mk.injEq] at e
   obtain ⟨rfl, rfl, rfl, rfl, e, -⟩ := e
   have := sameUn_er n u1 (by omega) u2 e
   simp [sameCo, this, allS_refl eqB_refl]) e4
  simp [sameUn, sameCos_eq, k4, allS_er (er := erTy) _ _ (fun x hx y e => sameTy_of e) e1, allS_er (er := erRe) _ _ (fun x hx y e => sameRe_of e) e2, allS_er (er := erRu) _ _ (fun x hx y e => sameRu_of e) e3, allS_er (er := erIn) _ _ (fun x hx y e => sameIn_of e) e5, allS_er (er := erOv) _ _ (fun x hx y e => sameOv_of e) e6]
theorem sameUn_of {x y : Un} (h : erUn x = erUn y) : sameUn x y = true := sameUn_er _ x (Nat.lt_succ_self _) y h
end Go.PM.Lex
end

section
set_option maxRecDepth 100000
set_option maxHeartbeats 4000000
namespace Go.PM.Lex
open Go.Proofs
theorem t0_of_key {l m : List Tok} (h : l.map keyT = m.map keyT) : l.map Tok.t0 = m.map Tok.t0 := by
 have e : Tok.t0 = (fun k : Nat × Bs × Int => (⟨k.1, k.2.1, k.2.2⟩ : T0)) ∘ keyT := rfl
 rw [e, ← List.map_map, h, List.map_map]
theorem top_inv {s : Bs} {v : Un} {L : List Tok} (h : readTop 65536 16384 unitTop s = .ok v L) : s.length ≤ 65536 ∧ (∃ p, allF s 16384 = (L, (p, 0))) ∧ unitTop (L.map Tok.t0) = .ok v [] := by
 unfold readTop at h
 split at h
 ·cases h
 rename_i h1
 split at h
 ·cases h
 rename_i h2
 split at h
 ·rename_i h3
  cases h
  exact ⟨by omega, ⟨(allF s 16384).2.1, Prod.ext rfl (Prod.ext rfl (by simpa using h2))⟩, h3⟩
 ·cases h
 ·cases h
theorem top_eq {s : Bs} {l : List Tok} {p : Nat} (hs : s.length ≤ 65536) (h : allF s 16384 = (l, (p, 0))) : readTop 65536 16384 unitTop s = match unitTop (l.map Tok.t0) with
  | .ok v [] => .ok v l
  | .ok v (_ :: ts) => .err (placeOf l s.length (ts.length + 1)) 150
  | .err r e => .err (placeOf l s.length r) e := by
 have h : allF s ((16384 : Nat) : Int) = (l, (p, 0)) := h
 unfold readTop
 rw [if_neg (by omega), h, if_neg (by simp)]
 dsimp only
 cases unitTop (l.map Tok.t0) with
 | ok v ts => cases ts <;> rfl
 | err r e => rfl
theorem next_word {a : Nat} {r : Bs} {t : Tok} (h : nextF a r true = .tok t) (hk : t.kind = 1) {c : UInt8} {w : Bs} (ht : t.text = c :: w) (hc : c.toNat < 128) : isLetter (c.toNat : Int) = true := by
 rw [nextF_eq] at h
 split at h
 ·cases h
 rename_i g0
 rw [if_neg (by simp)] at h
 split at h
 ·cases h; cases hk
 rename_i g1
 split at h
 ·unfold textR at h
  split at h
  ·cases h
  ·cases h; cases hk
 rename_i g2
 split at h
 ·unfold numberR at h
  split at h
  ·cases h
  ·cases h; cases hk
 rename_i g3
 cases h
 have hr : ∃ r', r = c :: r' := by
  cases r with
  | nil => simp at ht
  | cons x r =>
   cases hn : nameF (x :: r) with
   | zero => rw [hn] at ht; simp at ht
   | succ n => rw [hn, List.take_succ_cons] at ht; cases ht; exact ⟨r, rfl⟩
 obtain ⟨r', rfl⟩ := hr
 rw [pk_low1 hc] at g0 g2 g3
 by_cases hl : isLetter (c.toNat : Int) = true
 ·exact hl
 ·exact absurd ⟨by omega, g2, by simpa using hl, by simpa using g3⟩ g0
def signsB : List Bs := [[44], [124], [60], [40], [43], [45], [42], [47], [37]]
theorem bad_split : ∀ w ∈ badW, keptF w = true ∨ w ∈ signsB := by decide
theorem signs_low : ∀ w ∈ signsB, ∃ c w', w = c :: w' ∧ c.toNat < 128 ∧ isLetter (c.toNat : Int) = false := by
 intro w hw
 simp only [signsB, List.mem_cons, List.not_mem_nil, or_false] at hw
 rcases hw with rfl | rfl | rfl | rfl | rfl | rfl | rfl | rfl | rfl <;> exact ⟨_, _, rfl, by decide, by decide⟩
theorem isW_text {ts : Ts} {w : Bs} (h : isW ts [w] = true) : (hd ts).text = w := by
 simp [isW] at h; exact h.2
theorem good_of {l : List Tok} {s : Bs} (hp : ∀ t ∈ l, Placed s t) {v : Un} (h : unitTop (l.map Tok.t0) = .ok v []) : Good (l.map Tok.t0) := by
 intro w hw
 cases hx : isW (l.map Tok.t0) [w] with
 | false => rfl
 | true =>
  exfalso
  have ht := isW_text hx
  unfold unitTop unitF at h
  have hne : ∀ w', (w' : Bs) ∈ [[116, 121, 112, 101], [100, 101, 99, 108], [99, 111, 109, 112], [105, 110, 105, 116], [111, 118, 101, 114, 114, 105, 100, 101]] → ¬ isW (l.map Tok.t0) [w'] = true := fun w' hw' hc => by
   have := isW_text hc
   rw [ht] at this
   subst this
   have : ∀ x ∈ [[116, 121, 112, 101], [100, 101, 99, 108], [99, 111, 109, 112], [105, 110, 105, 116], [111, 118, 101, 114, 114, 105, 100, 101]], ¬ (x : Bs) ∈ badW := by decide
   exact this _ hw' hw
  rw [Un.nil, unitGo_eq, if_neg (by rintro (h0 | ⟨h0, _⟩); · rw [h0, isW_nil] at hx; cases hx
                                    ·cases h0), if_neg (hne _ (by simp)), if_neg (hne _ (by simp)), if_neg (hne _ (by simp)), if_neg (hne _ (by simp)), if_neg (hne _ (by simp))] at h
  split at h
  ·rename_i hn
   unfold namedF at hn
   simp only [Bool.and_eq_true, decide_eq_true_eq, Bool.not_eq_true'] at hn
   obtain ⟨h1, h2, h3⟩ := hn
   rw [ht] at h3
   rcases bad_split w hw with hk | hk
   ·rw [hk] at h3; cases h3
   ·obtain ⟨c, w', rfl, hc, hl⟩ := signs_low w hk
    cases l with
    | nil => rw [List.map_nil, isW_nil] at hx; cases hx
    | cons t l =>
     have := next_word (hp t (List.mem_cons_self ..)).2.2.2 h1 ht hc
     rw [hl] at this; cases this
  ·cases h
theorem rows_law {a b : Bs} {u v : Un} {L1 L2 : List Tok} (h1 : readTop 65536 16384 unitTop a = .ok u L1) (h2 : readTop 65536 16384 unitTop b = .ok v L2) (hl : a.length + b.length ≤ 40000) (hr : Un.room u v) (ht : L1.length + L2.length ≤ 16384) :
  ∃ w L, readTop 65536 16384 unitTop (a ++ 10 :: b) = .ok w L ∧ erUn w = erUn (u.app v) := by
 obtain ⟨-, ⟨p, k1⟩, u1⟩ := top_inv h1
 obtain ⟨-, ⟨q, k2⟩, u2⟩ := top_inv h2
 obtain ⟨m', e1, e2⟩ := all_rows k1 k2 (by omega)
 have hp : ∀ t ∈ L2, Placed b t := placed_of b _ 16384 0 L2 (q, 0) (by rw [List.drop_zero]; exact k2) (by omega)
 obtain ⟨w, w1, w2⟩ := unitTop_rows (good_of hp u2) u1 u2 hr
 refine ⟨w, L1 ++ m', ?_, w2⟩
 rw [top_eq (by rw [List.length_append, List.length_cons]; omega) e1, List.map_append, t0_of_key e2, w1]
end Go.PM.Lex
end

section
set_option maxRecDepth 100000
set_option maxHeartbeats 4000000
namespace Go.PM.Lex
open Go.Proofs
variable {w0 : World} {nG : Nat}
noncomputable def tblkRels (n : Nat) : Tbl := [(100, spL2 encFi sameFi n)]
theorem kRels_ok {n : Nat} (ht : TblOK (GG w0 nG) (tblkRels n)) : PCalls (GG w0 nG) 43 (spLS encRe sameRe szRe n) := by
 refine pcalls tab_ok mixed (tbl := (tblkRels n)) ht Tryz.func43 rfl (by kernel_rfl) (by kernel_rfl) ?_
 intro args σ K h
 unfold spLS at h
 split at h
 ·obtain ⟨p1, l1, p2, l2, rfl, rfl, ⟨rfl, hz, hn⟩, h⟩ := h
  have h := h _ rfl
  have hlen1 : (l1.map (encRe p1)).length = l1.length := List.length_map ..
  have hlen2 : (l2.map (encRe p2)).length = l2.length := List.length_map ..
  have hsz := szS_len szRe l1
  refine ⟨loopsOf [(4, ⟨[7], [0, 1, 2], fun vs σ => ∃ i : Nat, vs = [.d (.int .i64 i)] ∧ σ = ⟨[], [], 0⟩ ∧ i ≤ l1.length ∧ allS sameRe l1 l2 = allS sameRe (l1.drop i) (l2.drop i), fun vs _ => match vs with | [.d (.int _ i)] => ((l1.length : Int) - i).toNat | _ => 0⟩)], 0, false, by simp, Nat.le_of_ble_eq_true rfl, ?_⟩
  conv => whnf
  refine CondP.ndec (fun hc => ?_) (fun hc => ?_)
  ·have hc : l1.length ≠ l2.length := fun g => hc (by show ((l1.map (encRe p1)).length : Int) = (l2.map (encRe p2)).length; rw [hlen1, hlen2, g])
   rw [allS_ne _ _ _ hc] at h
   conv => whnf
   exact h
  have hc : l1.length = l2.length := by have hc : ((l1.map (encRe p1)).length : Int) = (l2.map (encRe p2)).length := hc; rw [hlen1, hlen2] at hc; omega
  conv => whnf
  refine ⟨⟨0, rfl, rfl, by omega, rfl⟩, ?_⟩
  intro vs σ hI
  obtain ⟨i, rfl, rfl, hi, hs⟩ := hI
  conv => whnf
  refine CondP.dec (fun hi2 => ?_) (fun hi2 => ?_)
  rotate_left
  ·have hi2 : l1.length ≤ i := by have hi2 : ¬ (i : Int) < (l1.map (encRe p1)).length := hi2; rw [hlen1] at hi2; omega
   rw [allS_end _ hi2 (by omega)] at hs
   rw [hs] at h
   conv => whnf
   exact h
  have hi2 : i < l1.length := by have hi2 : (i : Int) < (l1.map (encRe p1)).length := hi2; rw [hlen1] at hi2; omega
  have hi3 : i < l2.length := by omega
  have hg := szS_get szRe l1 i hi2
  rw [allS_drop _ hi2 hi3] at hs
  obtain ⟨eA, hA⟩ : ∃ e, l1[i] = e := ⟨_, rfl⟩
  obtain ⟨eB, hB⟩ : ∃ e, l2[i] = e := ⟨_, rfl⟩
  obtain ⟨a1, a2, a3, a4, a5, a6⟩ := eA
  obtain ⟨b1, b2, b3, b4, b5, b6⟩ := eB
  have hr1 : (l1.map (encRe p1))[((i : Nat) : Int).toNat]? = some ((encRe p1) (⟨a1, a2, a3, a4, a5, a6⟩ : Re)) := by simp [hi2, hA]
  have hr2 : (l2.map (encRe p2))[((i : Nat) : Int).toNat]? = some ((encRe p2) (⟨b1, b2, b3, b4, b5, b6⟩ : Re)) := by simp [hi3, hB]
  rw [hA, hB] at hs
  rw [hA] at hg
  simp only [szRe] at hg
  have hneg : sameRe (⟨a1, a2, a3, a4, a5, a6⟩ : Re) (⟨b1, b2, b3, b4, b5, b6⟩ : Re) = false → K (.ret (.d (.bool false))) ⟨[], [], 0⟩ := fun he => by rw [hs, he, Bool.false_and] at h; exact h
  conv => whnf
  (repeat (first | (refine ⟨_, by omega, hr1, ?_⟩; conv => whnf) | (refine ⟨_, by omega, hr2, ?_⟩; conv => whnf)))
  refine ⟨?_, ?_, trivial⟩
  ·conv => whnf
   (repeat (first | (refine ⟨?_, trivial⟩; conv => whnf) | (refine ⟨rfl, ?_⟩; conv => whnf)))
   refine CondP.ndec (fun hc1 => ?_) (fun hc1 => ?_)
   ·(conv => whnf); exact hneg (by simp [sameRe, hc1])
   (try dsimp only at hc1)
   conv => whnf
   refine CondP.ndec (fun hc2 => ?_) (fun hc2 => ?_)
   ·(conv => whnf); exact hneg (by simp [sameRe, hc2])
   (try dsimp only at hc2)
   conv => whnf
   refine CondP.ndec (fun hc3 => ?_) (fun hc3 => ?_)
   ·(conv => whnf); exact hneg (by simp [sameRe, hc3])
   (try dsimp only at hc3)
   conv => whnf
   refine CondP.ndec (fun hc4 => ?_) (fun hc4 => ?_)
   ·(conv => whnf); exact hneg (by simp [sameRe, hc4])
   (try dsimp only at hc4)
   conv => whnf
   refine ⟨a2, b2, rfl, rfl, ⟨by omega, by omega⟩, fun b_5 hb5 => ?_⟩
   cases b_5 with
   | false =>
    conv => whnf
    (repeat (refine ⟨rfl, ?_⟩; conv => whnf))
    exact hneg (by simp [sameRe, hb5])
   | true =>
    conv => whnf
    (repeat (refine ⟨rfl, ?_⟩; conv => whnf))
    have he : sameRe (⟨a1, a2, a3, a4, a5, a6⟩ : Re) (⟨b1, b2, b3, b4, b5, b6⟩ : Re) = true := by simp [sameRe, hc1, hc2, hc3, hc4, hb5]
    rw [he, Bool.true_and] at hs
    refine Or.inl ⟨InR.i64 (by omega) (by omega), ?_⟩
    conv => whnf
    refine ⟨⟨i + 1, rfl, rfl, by omega, hs⟩, ?_⟩
    show ((l1.length : Int) - ((i : Int) + 1)).toNat < ((l1.length : Int) - (i : Int)).toNat
    omega
  ·conv => whnf
   (repeat (first | (refine ⟨?_, trivial⟩; conv => whnf) | (refine ⟨rfl, ?_⟩; conv => whnf)))
   refine CondP.ndec (fun hc1 => ?_) (fun hc1 => ?_)
   ·(conv => whnf); exact hneg (by simp [sameRe, hc1])
   (try dsimp only at hc1)
   conv => whnf
   refine CondP.ndec (fun hc2 => ?_) (fun hc2 => ?_)
   ·(conv => whnf); exact hneg (by simp [sameRe, hc2])
   (try dsimp only at hc2)
   conv => whnf
   refine CondP.ndec (fun hc3 => ?_) (fun hc3 => ?_)
   ·(conv => whnf); exact hneg (by simp [sameRe, hc3])
   (try dsimp only at hc3)
   conv => whnf
   refine CondP.ndec (fun hc4 => ?_) (fun hc4 => ?_)
   ·(conv => whnf); exact hneg (by simp [sameRe, hc4])
   (try dsimp only at hc4)
   conv => whnf
   refine ⟨a2, b2, rfl, rfl, ⟨by omega, by omega⟩, fun b_5 hb5 => ?_⟩
   cases b_5 with
   | false =>
    conv => whnf
    (repeat (refine ⟨rfl, ?_⟩; conv => whnf))
    exact hneg (by simp [sameRe, hb5])
   | true =>
    conv => whnf
    (repeat (refine ⟨rfl, ?_⟩; conv => whnf))
    have he : sameRe (⟨a1, a2, a3, a4, a5, a6⟩ : Re) (⟨b1, b2, b3, b4, b5, b6⟩ : Re) = true := by simp [sameRe, hc1, hc2, hc3, hc4, hb5]
    rw [he, Bool.true_and] at hs
    refine Or.inl ⟨InR.i64 (by omega) (by omega), ?_⟩
    conv => whnf
    refine ⟨⟨i + 1, rfl, rfl, by omega, hs⟩, ?_⟩
    show ((l1.length : Int) - ((i : Int) + 1)).toNat < ((l1.length : Int) - (i : Int)).toNat
    omega
 ·exact h.elim
noncomputable def tblkTypes (n : Nat) : Tbl := [(100, spL2 encFi sameFi n)]
theorem kTypes_ok {n : Nat} (ht : TblOK (GG w0 nG) (tblkTypes n)) : PCalls (GG w0 nG) 42 (spLS encTy sameTy szTy n) := by
 refine pcallsN tab_ok mixed (tbl := (tblkTypes n)) ht Tryz.func42 rfl (by kernel_rfl) (by kernel_rfl) ?_
 intro args σ K h
 unfold spLS at h
 split at h
 ·obtain ⟨p1, l1, p2, l2, rfl, rfl, ⟨rfl, hz, hn⟩, h⟩ := h
  have h := h _ rfl
  have hlen1 : (l1.map (encTy p1)).length = l1.length := List.length_map ..
  have hlen2 : (l2.map (encTy p2)).length = l2.length := List.length_map ..
  have hsz := szS_len szTy l1
  refine ⟨loopsOf [(4, ⟨[7], [0, 1, 2], fun vs σ => ∃ i : Nat, vs = [.d (.int .i64 i)] ∧ σ = ⟨[], [], 0⟩ ∧ i ≤ l1.length ∧ allS sameTy l1 l2 = allS sameTy (l1.drop i) (l2.drop i), fun vs _ => match vs with | [.d (.int _ i)] => ((l1.length : Int) - i).toNat | _ => 0⟩), (10, ⟨[10], [0, 1, 2, 7, 8, 9], fun vs σ => ∃ (i k x y : Nat) (a1 : Nat) (a2 a3 : Bs) (a4 : List Fi) (a5 : List Ca) (a6 : Nat) (b1 : Nat) (b2 b3 : Bs) (b4 : List Fi) (b5 : List Ca) (b6 : Nat), vs = [.d (.sl (l1.map (encTy p1))), .d (.sl (l2.map (encTy p2))), .d (.bool false), .d (.int .i64 i), .ptr x 0, .ptr y 0, .d (.int .i64 k)] ∧ ((x = 0 ∧ y = 1 ∧ σ = ⟨[.cells 57 ((encTy p1 (⟨a1, a2, a3, a4, a5, a6⟩ : Ty)).map .d), .cells 57 ((encTy p2 (⟨b1, b2, b3, b4, b5, b6⟩ : Ty)).map .d)], [], 0⟩) ∨ (x = 1 ∧ y = 0 ∧ σ = ⟨[.cells 57 ((encTy p2 (⟨b1, b2, b3, b4, b5, b6⟩ : Ty)).map .d), .cells 57 ((encTy p1 (⟨a1, a2, a3, a4, a5, a6⟩ : Ty)).map .d)], [], 0⟩)) ∧ i < l1.length ∧ (k ≤ a5.length ∧ a5.length = b5.length ∧ szS szCa a5 ≤ n) ∧ allS sameTy l1 l2 = (allS sameCa (a5.drop k) (b5.drop k) && allS sameTy (l1.drop (i + 1)) (l2.drop (i + 1))), fun vs _ => match vs with | [_, _, _, _, _, _, .d (.int _ k)] => ((n : Int) - k).toNat | _ => 0⟩)], unrOf [], tieOf [10], 0, false, by simp, Nat.le_of_ble_eq_true rfl, ?_⟩
  conv => whnf
  refine CondP.ndec (fun hc => ?_) (fun hc => ?_)
  ·have hc : l1.length ≠ l2.length := fun g => hc (by show ((l1.map (encTy p1)).length : Int) = (l2.map (encTy p2)).length; rw [hlen1, hlen2, g])
   rw [allS_ne _ _ _ hc] at h
   conv => whnf
   exact h
  have hc : l1.length = l2.length := by have hc : ((l1.map (encTy p1)).length : Int) = (l2.map (encTy p2)).length := hc; rw [hlen1, hlen2] at hc; omega
  conv => whnf
  refine ⟨⟨0, rfl, rfl, by omega, rfl⟩, ?_⟩
  intro vs σ hI
  obtain ⟨i, rfl, rfl, hi, hs⟩ := hI
  conv => whnf
  refine CondP.dec (fun hi2 => ?_) (fun hi2 => ?_)
  rotate_left
  ·have hi2 : l1.length ≤ i := by have hi2 : ¬ (i : Int) < (l1.map (encTy p1)).length := hi2; rw [hlen1] at hi2; omega
   rw [allS_end _ hi2 (by omega)] at hs
   rw [hs] at h
   conv => whnf
   exact h
  have hi2 : i < l1.length := by have hi2 : (i : Int) < (l1.map (encTy p1)).length := hi2; rw [hlen1] at hi2; omega
  have hi3 : i < l2.length := by omega
  have hg := szS_get szTy l1 i hi2
  rw [allS_drop _ hi2 hi3] at hs
  obtain ⟨eA, hA⟩ : ∃ e, l1[i] = e := ⟨_, rfl⟩
  obtain ⟨eB, hB⟩ : ∃ e, l2[i] = e := ⟨_, rfl⟩
  obtain ⟨a1, a2, a3, a4, a5, a6⟩ := eA
  obtain ⟨b1, b2, b3, b4, b5, b6⟩ := eB
  have hr1 : (l1.map (encTy p1))[((i : Nat) : Int).toNat]? = some ((encTy p1) (⟨a1, a2, a3, a4, a5, a6⟩ : Ty)) := by simp [hi2, hA]
  have hr2 : (l2.map (encTy p2))[((i : Nat) : Int).toNat]? = some ((encTy p2) (⟨b1, b2, b3, b4, b5, b6⟩ : Ty)) := by simp [hi3, hB]
  rw [hA, hB] at hs
  rw [hA] at hg
  simp only [szTy] at hg
  have hneg : sameTy (⟨a1, a2, a3, a4, a5, a6⟩ : Ty) (⟨b1, b2, b3, b4, b5, b6⟩ : Ty) = false → K (.ret (.d (.bool false))) ⟨[], [], 0⟩ := fun he => by rw [hs, he, Bool.false_and] at h; exact h
  conv => whnf
  (repeat (first | (refine ⟨_, by omega, hr1, ?_⟩; conv => whnf) | (refine ⟨_, by omega, hr2, ?_⟩; conv => whnf)))
  refine ⟨?_, ?_, trivial⟩
  ·conv => whnf
   (repeat (first | (refine ⟨?_, trivial⟩; conv => whnf) | (refine ⟨rfl, ?_⟩; conv => whnf)))
   refine CondP.ndec (fun hc1 => ?_) (fun hc1 => ?_)
   ·(conv => whnf); exact hneg (by simp [sameTy, hc1])
   (try dsimp only at hc1)
   conv => whnf
   refine CondP.ndec (fun hc2 => ?_) (fun hc2 => ?_)
   ·(conv => whnf); exact hneg (by simp [sameTy, hc2])
   (try dsimp only at hc2)
   conv => whnf
   refine CondP.ndec (fun hc3 => ?_) (fun hc3 => ?_)
   ·(conv => whnf); exact hneg (by simp [sameTy, hc3])
   (try dsimp only at hc3)
   conv => whnf
   refine ⟨a4, b4, rfl, rfl, ⟨by omega, by omega⟩, fun b_4 hb4 => ?_⟩
   cases b_4 with
   | false =>
    conv => whnf
    (repeat (refine ⟨rfl, ?_⟩; conv => whnf))
    exact hneg (by simp [sameTy, hb4])
   | true =>
    conv => whnf
    (repeat (refine ⟨rfl, ?_⟩; conv => whnf))
    have hl5 : (a5.map encCa).length = a5.length := List.length_map ..
    have hm5 : (b5.map encCa).length = b5.length := List.length_map ..
    refine CondP.ndec (fun hc9 => ?_) (fun hc9 => ?_)
    ·have hc9 : a5.length ≠ b5.length := fun g => hc9 (by show ((a5.map encCa).length : Int) = (b5.map encCa).length; rw [hl5, hm5, g])
     (conv => whnf); exact hneg (by simp [sameTy, allS_ne sameCa _ _ hc9])
    have hc9 : a5.length = b5.length := by have hc9 : ((a5.map encCa).length : Int) = (b5.map encCa).length := hc9; rw [hl5, hm5] at hc9; omega
    have hs5 := szS_len szCa a5
    have he : sameTy (⟨a1, a2, a3, a4, a5, a6⟩ : Ty) (⟨b1, b2, b3, b4, b5, b6⟩ : Ty) = allS sameCa a5 b5 := by simp [sameTy, hc1, hc2, hc3, hb4]
    rw [he] at hs
    conv => whnf
    first
     | refine ⟨⟨i, 0, 0, 1, a1, a2, a3, a4, a5, a6, b1, b2, b3, b4, b5, b6, rfl, .inl ⟨rfl, rfl, rfl⟩, hi2, ⟨by omega, hc9, by omega⟩, hs⟩, ?_⟩
     | refine ⟨⟨i, 0, 1, 0, a1, a2, a3, a4, a5, a6, b1, b2, b3, b4, b5, b6, rfl, .inr ⟨rfl, rfl, rfl⟩, hi2, ⟨by omega, hc9, by omega⟩, hs⟩, ?_⟩
    intro vs' σ' hI'
    obtain ⟨i', j, x', y', a1', a2', a3', a4', a5', a6', b1', b2', b3', b4', b5', b6', hvs, hσ, hi', ⟨hj, hlen5, hz5⟩, hs'⟩ := hI'
    have ex : (some (PV.ptr 0 0) : Option PV) = some (PV.ptr x' 0) := congrArg (fun l : List PV => l[4]?) hvs
    have ei : (some (PV.d (D.int IntKind.i64 (i : Int))) : Option PV) = some (PV.d (D.int IntKind.i64 (i' : Int))) := congrArg (fun l : List PV => l[3]?) hvs
    simp only [Option.some.injEq, PV.ptr.injEq, PV.d.injEq, D.int.injEq, and_true, true_and] at ex ei
    obtain rfl : i' = i := by omega
    have hvs : vs' = [.d (.int .i64 j)] := congrArg (List.drop 6) hvs
    subst hvs
    have hσ : σ' = ⟨[.cells 57 ((encTy p1 (⟨a1', a2', a3', a4', a5', a6'⟩ : Ty)).map .d), .cells 57 ((encTy p2 (⟨b1', b2', b3', b4', b5', b6'⟩ : Ty)).map .d)], [], 0⟩ := by rcases hσ with ⟨e1, e2, e3⟩ | ⟨e1, e2, e3⟩ <;> first | exact e3 | (exfalso; omega)
    subst hσ
    have hl5 : (a5'.map encCa).length = a5'.length := List.length_map ..
    conv => whnf
    refine CondP.dec (fun hj2 => ?_) (fun hj2 => ?_)
    rotate_left
    ·have hj2 : a5'.length ≤ j := by have hj2 : ¬ (j : Int) < (a5'.map encCa).length := hj2; rw [hl5] at hj2; omega
     rw [allS_end _ hj2 (by omega), Bool.true_and] at hs'
     conv => whnf
     refine Or.inl ⟨InR.i64 (by omega) (by omega), ?_⟩
     conv => whnf
     refine ⟨⟨i' + 1, rfl, rfl, by omega, hs'⟩, ?_⟩
     show ((l1.length : Int) - ((i' : Int) + 1)).toNat < ((l1.length : Int) - (i' : Int)).toNat
     omega
    have hj2 : j < a5'.length := by have hj2 : (j : Int) < (a5'.map encCa).length := hj2; rw [hl5] at hj2; omega
    have hj3 : j < b5'.length := by omega
    have hg5 := szS_get szCa a5' j hj2
    have hs5' := szS_len szCa a5'
    rw [allS_drop _ hj2 hj3] at hs'
    obtain ⟨eAc, hAc⟩ : ∃ e, a5'[j] = e := ⟨_, rfl⟩
    obtain ⟨eBc, hBc⟩ : ∃ e, b5'[j] = e := ⟨_, rfl⟩
    obtain ⟨a1c, a2c⟩ := eAc
    obtain ⟨b1c, b2c⟩ := eBc
    have hr1c : (a5'.map encCa)[((j : Nat) : Int).toNat]? = some (encCa (⟨a1c, a2c⟩ : Ca)) := by simp [hj2, hAc]
    have hr2c : (b5'.map encCa)[((j : Nat) : Int).toNat]? = some (encCa (⟨b1c, b2c⟩ : Ca)) := by simp [hj3, hBc]
    rw [hAc, hBc] at hs'
    rw [hAc] at hg5
    simp only [szCa] at hg5
    have hneg : sameCa (⟨a1c, a2c⟩ : Ca) (⟨b1c, b2c⟩ : Ca) = false → K (.ret (.d (.bool false))) ⟨[], [], 0⟩ := fun he => by rw [hs', he, Bool.false_and, Bool.false_and] at h; exact h
    conv => whnf
    (repeat (first | (refine ⟨_, by omega, hr1c, ?_⟩; conv => whnf) | (refine ⟨_, by omega, hr2c, ?_⟩; conv => whnf)))
    refine CondP.ndec (fun hd1 => ?_) (fun hd1 => ?_)
    ·(conv => whnf); exact hneg (by simp [sameCa, hd1])
    (try dsimp only at hd1)
    conv => whnf
    (repeat (first | (refine ⟨_, by omega, hr1c, ?_⟩; conv => whnf) | (refine ⟨_, by omega, hr2c, ?_⟩; conv => whnf)))
    refine ⟨a2c, b2c, rfl, rfl, ⟨by omega, by omega⟩, fun bb hbb => ?_⟩
    cases bb with
    | false =>
     conv => whnf
     (repeat (refine ⟨rfl, ?_⟩; conv => whnf))
     exact hneg (by simp [sameCa, hbb])
    | true =>
     conv => whnf
     (repeat (refine ⟨rfl, ?_⟩; conv => whnf))
     have he : sameCa (⟨a1c, a2c⟩ : Ca) (⟨b1c, b2c⟩ : Ca) = true := by simp [sameCa, hd1, hbb]
     rw [he, Bool.true_and] at hs'
     refine Or.inl ⟨InR.i64 (by omega) (by omega), ?_⟩
     conv => whnf
     first
      | refine ⟨⟨i', j + 1, 0, 1, a1', a2', a3', a4', a5', a6', b1', b2', b3', b4', b5', b6', rfl, .inl ⟨rfl, rfl, rfl⟩, hi', ⟨by omega, hlen5, by omega⟩, hs'⟩, ?_⟩
      | refine ⟨⟨i', j + 1, 1, 0, a1', a2', a3', a4', a5', a6', b1', b2', b3', b4', b5', b6', rfl, .inr ⟨rfl, rfl, rfl⟩, hi', ⟨by omega, hlen5, by omega⟩, hs'⟩, ?_⟩
     show ((n : Int) - ((j : Int) + 1)).toNat < ((n : Int) - (j : Int)).toNat
     omega
  ·conv => whnf
   (repeat (first | (refine ⟨?_, trivial⟩; conv => whnf) | (refine ⟨rfl, ?_⟩; conv => whnf)))
   refine CondP.ndec (fun hc1 => ?_) (fun hc1 => ?_)
   ·(conv => whnf); exact hneg (by simp [sameTy, hc1])
   (try dsimp only at hc1)
   conv => whnf
   refine CondP.ndec (fun hc2 => ?_) (fun hc2 => ?_)
   ·(conv => whnf); exact hneg (by simp [sameTy, hc2])
   (try dsimp only at hc2)
   conv => whnf
   refine CondP.ndec (fun hc3 => ?_) (fun hc3 => ?_)
   ·(conv => whnf); exact hneg (by simp [sameTy, hc3])
   (try dsimp only at hc3)
   conv => whnf
   refine ⟨a4, b4, rfl, rfl, ⟨by omega, by omega⟩, fun b_4 hb4 => ?_⟩
   cases b_4 with
   | false =>
    conv => whnf
    (repeat (refine ⟨rfl, ?_⟩; conv => whnf))
    exact hneg (by simp [sameTy, hb4])
   | true =>
    conv => whnf
    (repeat (refine ⟨rfl, ?_⟩; conv => whnf))
    have hl5 : (a5.map encCa).length = a5.length := List.length_map ..
    have hm5 : (b5.map encCa).length = b5.length := List.length_map ..
    refine CondP.ndec (fun hc9 => ?_) (fun hc9 => ?_)
    ·have hc9 : a5.length ≠ b5.length := fun g => hc9 (by show ((a5.map encCa).length : Int) = (b5.map encCa).length; rw [hl5, hm5, g])
     (conv => whnf); exact hneg (by simp [sameTy, allS_ne sameCa _ _ hc9])
    have hc9 : a5.length = b5.length := by have hc9 : ((a5.map encCa).length : Int) = (b5.map encCa).length := hc9; rw [hl5, hm5] at hc9; omega
    have hs5 := szS_len szCa a5
    have he : sameTy (⟨a1, a2, a3, a4, a5, a6⟩ : Ty) (⟨b1, b2, b3, b4, b5, b6⟩ : Ty) = allS sameCa a5 b5 := by simp [sameTy, hc1, hc2, hc3, hb4]
    rw [he] at hs
    conv => whnf
    first
     | refine ⟨⟨i, 0, 0, 1, a1, a2, a3, a4, a5, a6, b1, b2, b3, b4, b5, b6, rfl, .inl ⟨rfl, rfl, rfl⟩, hi2, ⟨by omega, hc9, by omega⟩, hs⟩, ?_⟩
     | refine ⟨⟨i, 0, 1, 0, a1, a2, a3, a4, a5, a6, b1, b2, b3, b4, b5, b6, rfl, .inr ⟨rfl, rfl, rfl⟩, hi2, ⟨by omega, hc9, by omega⟩, hs⟩, ?_⟩
    intro vs' σ' hI'
    obtain ⟨i', j, x', y', a1', a2', a3', a4', a5', a6', b1', b2', b3', b4', b5', b6', hvs, hσ, hi', ⟨hj, hlen5, hz5⟩, hs'⟩ := hI'
    have ex : (some (PV.ptr 1 0) : Option PV) = some (PV.ptr x' 0) := congrArg (fun l : List PV => l[4]?) hvs
    have ei : (some (PV.d (D.int IntKind.i64 (i : Int))) : Option PV) = some (PV.d (D.int IntKind.i64 (i' : Int))) := congrArg (fun l : List PV => l[3]?) hvs
    simp only [Option.some.injEq, PV.ptr.injEq, PV.d.injEq, D.int.injEq, and_true, true_and] at ex ei
    obtain rfl : i' = i := by omega
    have hvs : vs' = [.d (.int .i64 j)] := congrArg (List.drop 6) hvs
    subst hvs
    have hσ : σ' = ⟨[.cells 57 ((encTy p2 (⟨b1', b2', b3', b4', b5', b6'⟩ : Ty)).map .d), .cells 57 ((encTy p1 (⟨a1', a2', a3', a4', a5', a6'⟩ : Ty)).map .d)], [], 0⟩ := by rcases hσ with ⟨e1, e2, e3⟩ | ⟨e1, e2, e3⟩ <;> first | exact e3 | (exfalso; omega)
    subst hσ
    have hl5 : (a5'.map encCa).length = a5'.length := List.length_map ..
    conv => whnf
    refine CondP.dec (fun hj2 => ?_) (fun hj2 => ?_)
    rotate_left
    ·have hj2 : a5'.length ≤ j := by have hj2 : ¬ (j : Int) < (a5'.map encCa).length := hj2; rw [hl5] at hj2; omega
     rw [allS_end _ hj2 (by omega), Bool.true_and] at hs'
     conv => whnf
     refine Or.inl ⟨InR.i64 (by omega) (by omega), ?_⟩
     conv => whnf
     refine ⟨⟨i' + 1, rfl, rfl, by omega, hs'⟩, ?_⟩
     show ((l1.length : Int) - ((i' : Int) + 1)).toNat < ((l1.length : Int) - (i' : Int)).toNat
     omega
    have hj2 : j < a5'.length := by have hj2 : (j : Int) < (a5'.map encCa).length := hj2; rw [hl5] at hj2; omega
    have hj3 : j < b5'.length := by omega
    have hg5 := szS_get szCa a5' j hj2
    have hs5' := szS_len szCa a5'
    rw [allS_drop _ hj2 hj3] at hs'
    obtain ⟨eAc, hAc⟩ : ∃ e, a5'[j] = e := ⟨_, rfl⟩
    obtain ⟨eBc, hBc⟩ : ∃ e, b5'[j] = e := ⟨_, rfl⟩
    obtain ⟨a1c, a2c⟩ := eAc
    obtain ⟨b1c, b2c⟩ := eBc
    have hr1c : (a5'.map encCa)[((j : Nat) : Int).toNat]? = some (encCa (⟨a1c, a2c⟩ : Ca)) := by simp [hj2, hAc]
    have hr2c : (b5'.map encCa)[((j : Nat) : Int).toNat]? = some (encCa (⟨b1c, b2c⟩ : Ca)) := by simp [hj3, hBc]
    rw [hAc, hBc] at hs'
    rw [hAc] at hg5
    simp only [szCa] at hg5
    have hneg : sameCa (⟨a1c, a2c⟩ : Ca) (⟨b1c, b2c⟩ : Ca) = false → K (.ret (.d (.bool false))) ⟨[], [], 0⟩ := fun he => by rw [hs', he, Bool.false_and, Bool.false_and] at h; exact h
    conv => whnf
    (repeat (first | (refine ⟨_, by omega, hr1c, ?_⟩; conv => whnf) | (refine ⟨_, by omega, hr2c, ?_⟩; conv => whnf)))
    refine CondP.ndec (fun hd1 => ?_) (fun hd1 => ?_)
    ·(conv => whnf); exact hneg (by simp [sameCa, hd1])
    (try dsimp only at hd1)
    conv => whnf
    (repeat (first | (refine ⟨_, by omega, hr1c, ?_⟩; conv => whnf) | (refine ⟨_, by omega, hr2c, ?_⟩; conv => whnf)))
    refine ⟨a2c, b2c, rfl, rfl, ⟨by omega, by omega⟩, fun bb hbb => ?_⟩
    cases bb with
    | false =>
     conv => whnf
     (repeat (refine ⟨rfl, ?_⟩; conv => whnf))
     exact hneg (by simp [sameCa, hbb])
    | true =>
     conv => whnf
     (repeat (refine ⟨rfl, ?_⟩; conv => whnf))
     have he : sameCa (⟨a1c, a2c⟩ : Ca) (⟨b1c, b2c⟩ : Ca) = true := by simp [sameCa, hd1, hbb]
     rw [he, Bool.true_and] at hs'
     refine Or.inl ⟨InR.i64 (by omega) (by omega), ?_⟩
     conv => whnf
     first
      | refine ⟨⟨i', j + 1, 0, 1, a1', a2', a3', a4', a5', a6', b1', b2', b3', b4', b5', b6', rfl, .inl ⟨rfl, rfl, rfl⟩, hi', ⟨by omega, hlen5, by omega⟩, hs'⟩, ?_⟩
      | refine ⟨⟨i', j + 1, 1, 0, a1', a2', a3', a4', a5', a6', b1', b2', b3', b4', b5', b6', rfl, .inr ⟨rfl, rfl, rfl⟩, hi', ⟨by omega, hlen5, by omega⟩, hs'⟩, ?_⟩
     show ((n : Int) - ((j : Int) + 1)).toNat < ((n : Int) - (j : Int)).toNat
     omega
 ·exact h.elim
noncomputable def spKU (n : Nat) : Spec := fun args σ K => match args, σ with
 | [.agg c1, .agg c2, .d (.bool at')], ⟨[], [], 0⟩ => ∃ pl1 x1 pl2 x2, c1 = (encUn pl1 x1).map .d ∧ c2 = (encUn pl2 x2).map .d ∧ (at' = false ∧ szUn x1 ≤ n ∧ n ≤ 1099511627776) ∧ ∀ b, sameUn x1 x2 = b → K (.ret (.d (.bool b))) ⟨[], [], 0⟩
 | _, _ => False
theorem spKU_mono (n : Nat) : SpecMono (spKU n) := fun args σ K K' hK h => by
 unfold spKU at h ⊢
 split at h
 ·obtain ⟨p1, l1, p2, l2, h1, h2, h3, h4⟩ := h
  exact ⟨p1, l1, p2, l2, h1, h2, h3, fun b hb => hK _ _ (h4 b hb)⟩
 ·exact h.elim
noncomputable def tblkUnit (n : Nat) : Tbl := [(42, spLS encTy sameTy szTy n), (43, spLS encRe sameRe szRe n), (44, spLS encRu sameRu szRu n), (45, spL2 encBs eqB n), (17, spB spKU n)]
theorem kUnit_ok {n : Nat} (ht : TblOK (GG w0 nG) (tblkUnit n)) : PCalls (GG w0 nG) 17 (spKU n) := by
 refine pcalls tab_ok mixed (tbl := tblkUnit n) ht Tryz.func17 rfl (by kernel_rfl) (by kernel_rfl) ?_
 intro args σ K h
 unfold spKU at h
 split at h
 ·obtain ⟨p1, ⟨a1, a2, a3, a4, a5, a6⟩, p2, ⟨b1, b2, b3, b4, b5, b6⟩, rfl, rfl, ⟨rfl, hz, hn⟩, h⟩ := h
  have h := h _ rfl
  simp only [szUn, szCos_eq] at hz
  have e4 : ∀ (p : Pl) (l : List Co), (encCos p l).length = l.length := fun p l => by rw [encCos_eq, List.length_map]
  have e5 : ∀ (p : Pl) (l : List Ini), (l.map (encIn p)).length = l.length := fun p l => List.length_map ..
  have e6 : ∀ (p : Pl) (l : List Ov), (l.map (encOv p)).length = l.length := fun p l => List.length_map ..
  have z4 := szS_len szCo a4
  have z5 := szS_len szIn a5
  have z6 := szS_len (sz0 (α := Ov)) a6
  refine ⟨loopsOf [(4, ⟨[7], [2, 3, 4], fun vs σ => ∃ i : Nat, vs = [.d (.int .i64 i)] ∧ σ = ⟨[.cells 29 ((encUn p1 (.mk a1 a2 a3 a4 a5 a6)).map .d), .cells 29 ((encUn p2 (.mk b1 b2 b3 b4 b5 b6)).map .d)], [], 0⟩ ∧ i ≤ a4.length ∧ sameUn (.mk a1 a2 a3 a4 a5 a6) (.mk b1 b2 b3 b4 b5 b6) = (allS sameCo (a4.drop i) (b4.drop i) && (allS sameIn a5 b5 && allS sameOv a6 b6)), fun vs _ => match vs with | [.d (.int _ i)] => ((a4.length : Int) - i).toNat | _ => 0⟩), (10, ⟨[10], [2, 3, 4], fun vs σ => ∃ i : Nat, vs = [.d (.int .i64 i)] ∧ σ = ⟨[.cells 29 ((encUn p1 (.mk a1 a2 a3 a4 a5 a6)).map .d), .cells 29 ((encUn p2 (.mk b1 b2 b3 b4 b5 b6)).map .d)], [], 0⟩ ∧ i ≤ a5.length ∧ sameUn (.mk a1 a2 a3 a4 a5 a6) (.mk b1 b2 b3 b4 b5 b6) = (allS sameIn (a5.drop i) (b5.drop i) && allS sameOv a6 b6), fun vs _ => match vs with | [.d (.int _ i)] => ((a5.length : Int) - i).toNat | _ => 0⟩), (16, ⟨[13], [2, 3, 4], fun vs σ => ∃ i : Nat, vs = [.d (.int .i64 i)] ∧ σ = ⟨[.cells 29 ((encUn p1 (.mk a1 a2 a3 a4 a5 a6)).map .d), .cells 29 ((encUn p2 (.mk b1 b2 b3 b4 b5 b6)).map .d)], [], 0⟩ ∧ i ≤ a6.length ∧ sameUn (.mk a1 a2 a3 a4 a5 a6) (.mk b1 b2 b3 b4 b5 b6) = (allS sameOv (a6.drop i) (b6.drop i)), fun vs _ => match vs with | [.d (.int _ i)] => ((a6.length : Int) - i).toNat | _ => 0⟩)], 0, false, by simp, Nat.le_of_ble_eq_true rfl, ?_⟩
  have hneg0 : sameUn (.mk a1 a2 a3 a4 a5 a6) (.mk b1 b2 b3 b4 b5 b6) = false → K (.ret (.d (.bool false))) ⟨[], [], 0⟩ := fun he => by rw [he] at h; exact h
  conv => whnf
  refine ⟨p1, a1, p2, b1, rfl, rfl, ⟨rfl, by omega, by omega⟩, fun bq hq1 => ?_⟩
  cases bq with
  | false =>
   conv => whnf
   exact hneg0 (by simp [sameUn, hq1])
  | true =>
   conv => whnf
   refine ⟨p1, a2, p2, b2, rfl, rfl, ⟨rfl, by omega, by omega⟩, fun bq hq2 => ?_⟩
   cases bq with
   | false =>
    conv => whnf
    exact hneg0 (by simp [sameUn, hq2])
   | true =>
    conv => whnf
    refine ⟨p1, a3, p2, b3, rfl, rfl, ⟨rfl, by omega, by omega⟩, fun bq hq3 => ?_⟩
    cases bq with
    | false =>
     conv => whnf
     exact hneg0 (by simp [sameUn, hq3])
    | true =>
     conv => whnf
     refine CondP.ndec (fun hl0 => ?_) (fun hl0 => ?_)
     ·have hl0 : a4.length ≠ b4.length := fun g => hl0 (by show ((encCos p1 a4).length : Int) = (encCos p2 b4).length; rw [e4, e4, g])
      (conv => whnf); exact hneg0 (by simp [sameUn, sameCos_eq, allS_ne sameCo _ _ hl0])
     have hl0 : a4.length = b4.length := by have hl0 : ((encCos p1 a4).length : Int) = (encCos p2 b4).length := hl0; rw [e4, e4] at hl0; omega
     conv => whnf
     refine CondP.ndec (fun hl1 => ?_) (fun hl1 => ?_)
     ·have hl1 : a5.length ≠ b5.length := fun g => hl1 (by show ((a5.map (encIn p1)).length : Int) = (b5.map (encIn p2)).length; rw [e5, e5, g])
      (conv => whnf); exact hneg0 (by simp [sameUn, allS_ne sameIn _ _ hl1])
     have hl1 : a5.length = b5.length := by have hl1 : ((a5.map (encIn p1)).length : Int) = (b5.map (encIn p2)).length := hl1; rw [e5, e5] at hl1; omega
     conv => whnf
     refine CondP.ndec (fun hl2 => ?_) (fun hl2 => ?_)
     ·have hl2 : a6.length ≠ b6.length := fun g => hl2 (by show ((a6.map (encOv p1)).length : Int) = (b6.map (encOv p2)).length; rw [e6, e6, g])
      (conv => whnf); exact hneg0 (by simp [sameUn, allS_ne sameOv _ _ hl2])
     have hl2 : a6.length = b6.length := by have hl2 : ((a6.map (encOv p1)).length : Int) = (b6.map (encOv p2)).length := hl2; rw [e6, e6] at hl2; omega
     conv => whnf
     have hs0 : sameUn (.mk a1 a2 a3 a4 a5 a6) (.mk b1 b2 b3 b4 b5 b6) = (allS sameCo a4 b4 && (allS sameIn a5 b5 && allS sameOv a6 b6)) := by simp [sameUn, sameCos_eq, hq1, hq2, hq3]
     refine ⟨⟨0, rfl, rfl, by omega, hs0⟩, ?_⟩
     intro vs σ hI
     obtain ⟨i, rfl, rfl, hi, hs⟩ := hI
     conv => whnf
     refine CondP.dec (fun hi2 => ?_) (fun hi2 => ?_)
     ·have hi2 : i < a4.length := by have hi2 : (i : Int) < (encCos p1 a4).length := hi2; rw [e4] at hi2; omega
      have hi3 : i < b4.length := by omega
      have hg := szS_get szCo a4 i hi2
      rw [allS_drop _ hi2 hi3] at hs
      obtain ⟨eA, hA⟩ : ∃ e, a4[i] = e := ⟨_, rfl⟩
      obtain ⟨eB, hB⟩ : ∃ e, b4[i] = e := ⟨_, rfl⟩
      obtain ⟨a1e, a2e, a3e, a4e, ⟨u1, u2, u3, u4, u5, u6⟩, a6e⟩ := eA
      obtain ⟨b1e, b2e, b3e, b4e, ⟨v1, v2, v3, v4, v5, v6⟩, b6e⟩ := eB
      have hr1 : (encCos p1 a4)[((i : Nat) : Int).toNat]? = some (encCo p1 (.mk a1e a2e a3e a4e (.mk u1 u2 u3 u4 u5 u6) a6e)) := by rw [encCos_eq]; simp [hi2, hA]
      have hr2 : (encCos p2 b4)[((i : Nat) : Int).toNat]? = some (encCo p2 (.mk b1e b2e b3e b4e (.mk v1 v2 v3 v4 v5 v6) b6e)) := by rw [encCos_eq]; simp [hi3, hB]
      rw [hA, hB] at hs
      rw [hA] at hg
      simp only [szCo] at hg
      have hneg : sameCo (.mk a1e a2e a3e a4e (.mk u1 u2 u3 u4 u5 u6) a6e) (.mk b1e b2e b3e b4e (.mk v1 v2 v3 v4 v5 v6) b6e) = false → K (.ret (.d (.bool false))) ⟨[], [], 0⟩ := fun he => by rw [he] at hs; simp only [Bool.false_and] at hs; exact hneg0 hs
      conv => whnf
      (repeat (first | (refine ⟨_, by omega, hr1, ?_⟩; conv => whnf) | (refine ⟨_, by omega, hr2, ?_⟩; conv => whnf)))
      refine ⟨?_, ?_, trivial⟩
      ·conv => whnf
       (repeat (first | (refine ⟨?_, trivial⟩; conv => whnf) | (refine ⟨rfl, ?_⟩; conv => whnf)))
       refine CondP.ndec (fun hc1 => ?_) (fun hc1 => ?_)
       ·(conv => whnf); exact hneg (by simp [sameCo, hc1])
       (try dsimp only at hc1)
       conv => whnf
       refine CondP.ndec (fun hc2 => ?_) (fun hc2 => ?_)
       ·(conv => whnf); exact hneg (by simp [sameCo, hc2])
       (try dsimp only at hc2)
       conv => whnf
       refine ⟨a2e, b2e, rfl, rfl, ⟨by omega, by omega⟩, fun b_3 hb3 => ?_⟩
       cases b_3 with
       | false =>
        conv => whnf
        (repeat (refine ⟨rfl, ?_⟩; conv => whnf))
        exact hneg (by simp [sameCo, hb3])
       | true =>
        conv => whnf
        (repeat (refine ⟨rfl, ?_⟩; conv => whnf))
        refine ⟨a4e, b4e, rfl, rfl, ⟨by omega, by omega⟩, fun b_4 hb4 => ?_⟩
        cases b_4 with
        | false =>
         conv => whnf
         (repeat (refine ⟨rfl, ?_⟩; conv => whnf))
         exact hneg (by simp [sameCo, hb4])
        | true =>
         conv => whnf
         (repeat (refine ⟨rfl, ?_⟩; conv => whnf))
         refine ⟨by omega, p1, (.mk u1 u2 u3 u4 u5 u6), p2, (.mk v1 v2 v3 v4 v5 v6), rfl, rfl, ⟨rfl, by simp only [szUn] at hg ⊢; omega, by omega⟩, fun b_5 hb5 => ?_⟩
         cases b_5 with
         | false =>
          conv => whnf
          (repeat (refine ⟨rfl, ?_⟩; conv => whnf))
          exact hneg (by simp [sameCo, hb5])
         | true =>
          conv => whnf
          (repeat (refine ⟨rfl, ?_⟩; conv => whnf))
          have he : sameCo (.mk a1e a2e a3e a4e (.mk u1 u2 u3 u4 u5 u6) a6e) (.mk b1e b2e b3e b4e (.mk v1 v2 v3 v4 v5 v6) b6e) = true := by simp [sameCo, hc1, hc2, hb3, hb4, hb5]
          rw [he, Bool.true_and] at hs
          refine Or.inl ⟨InR.i64 (by omega) (by omega), ?_⟩
          conv => whnf
          refine ⟨⟨i + 1, rfl, rfl, by omega, hs⟩, ?_⟩
          show ((a4.length : Int) - ((i : Int) + 1)).toNat < ((a4.length : Int) - (i : Int)).toNat
          omega
      ·conv => whnf
       (repeat (first | (refine ⟨?_, trivial⟩; conv => whnf) | (refine ⟨rfl, ?_⟩; conv => whnf)))
       refine CondP.ndec (fun hc1 => ?_) (fun hc1 => ?_)
       ·(conv => whnf); exact hneg (by simp [sameCo, hc1])
       (try dsimp only at hc1)
       conv => whnf
       refine CondP.ndec (fun hc2 => ?_) (fun hc2 => ?_)
       ·(conv => whnf); exact hneg (by simp [sameCo, hc2])
       (try dsimp only at hc2)
       conv => whnf
       refine ⟨a2e, b2e, rfl, rfl, ⟨by omega, by omega⟩, fun b_3 hb3 => ?_⟩
       cases b_3 with
       | false =>
        conv => whnf
        (repeat (refine ⟨rfl, ?_⟩; conv => whnf))
        exact hneg (by simp [sameCo, hb3])
       | true =>
        conv => whnf
        (repeat (refine ⟨rfl, ?_⟩; conv => whnf))
        refine ⟨a4e, b4e, rfl, rfl, ⟨by omega, by omega⟩, fun b_4 hb4 => ?_⟩
        cases b_4 with
        | false =>
         conv => whnf
         (repeat (refine ⟨rfl, ?_⟩; conv => whnf))
         exact hneg (by simp [sameCo, hb4])
        | true =>
         conv => whnf
         (repeat (refine ⟨rfl, ?_⟩; conv => whnf))
         refine ⟨by omega, p1, (.mk u1 u2 u3 u4 u5 u6), p2, (.mk v1 v2 v3 v4 v5 v6), rfl, rfl, ⟨rfl, by simp only [szUn] at hg ⊢; omega, by omega⟩, fun b_5 hb5 => ?_⟩
         cases b_5 with
         | false =>
          conv => whnf
          (repeat (refine ⟨rfl, ?_⟩; conv => whnf))
          exact hneg (by simp [sameCo, hb5])
         | true =>
          conv => whnf
          (repeat (refine ⟨rfl, ?_⟩; conv => whnf))
          have he : sameCo (.mk a1e a2e a3e a4e (.mk u1 u2 u3 u4 u5 u6) a6e) (.mk b1e b2e b3e b4e (.mk v1 v2 v3 v4 v5 v6) b6e) = true := by simp [sameCo, hc1, hc2, hb3, hb4, hb5]
          rw [he, Bool.true_and] at hs
          refine Or.inl ⟨InR.i64 (by omega) (by omega), ?_⟩
          conv => whnf
          refine ⟨⟨i + 1, rfl, rfl, by omega, hs⟩, ?_⟩
          show ((a4.length : Int) - ((i : Int) + 1)).toNat < ((a4.length : Int) - (i : Int)).toNat
          omega
     have hi2 : a4.length ≤ i := by have hi2 : ¬ (i : Int) < (encCos p1 a4).length := hi2; rw [e4] at hi2; omega
     rw [allS_end _ hi2 (by omega)] at hs
     rw [Bool.true_and] at hs
     conv => whnf
     refine ⟨⟨0, rfl, rfl, by omega, hs⟩, ?_⟩
     intro vs σ hI
     obtain ⟨i, rfl, rfl, hi, hs⟩ := hI
     conv => whnf
     refine CondP.dec (fun hi2 => ?_) (fun hi2 => ?_)
     ·have hi2 : i < a5.length := by have hi2 : (i : Int) < (a5.map (encIn p1)).length := hi2; rw [e5] at hi2; omega
      have hi3 : i < b5.length := by omega
      have hg := szS_get szIn a5 i hi2
      rw [allS_drop _ hi2 hi3] at hs
      obtain ⟨eA, hA⟩ : ∃ e, a5[i] = e := ⟨_, rfl⟩
      obtain ⟨eB, hB⟩ : ∃ e, b5[i] = e := ⟨_, rfl⟩
      obtain ⟨a1e, a2e, a3e, a4e⟩ := eA
      obtain ⟨b1e, b2e, b3e, b4e⟩ := eB
      have hr1 : (a5.map (encIn p1))[((i : Nat) : Int).toNat]? = some (encIn p1 (⟨a1e, a2e, a3e, a4e⟩ : Ini)) := by simp [hi2, hA]
      have hr2 : (b5.map (encIn p2))[((i : Nat) : Int).toNat]? = some (encIn p2 (⟨b1e, b2e, b3e, b4e⟩ : Ini)) := by simp [hi3, hB]
      rw [hA, hB] at hs
      rw [hA] at hg
      simp only [szIn] at hg
      have hneg : sameIn (⟨a1e, a2e, a3e, a4e⟩ : Ini) (⟨b1e, b2e, b3e, b4e⟩ : Ini) = false → K (.ret (.d (.bool false))) ⟨[], [], 0⟩ := fun he => by rw [he] at hs; simp only [Bool.false_and] at hs; exact hneg0 hs
      conv => whnf
      (repeat (first | (refine ⟨_, by omega, hr1, ?_⟩; conv => whnf) | (refine ⟨_, by omega, hr2, ?_⟩; conv => whnf)))
      refine ⟨?_, ?_, trivial⟩
      ·conv => whnf
       (repeat (first | (refine ⟨?_, trivial⟩; conv => whnf) | (refine ⟨rfl, ?_⟩; conv => whnf)))
       refine CondP.ndec (fun hc1 => ?_) (fun hc1 => ?_)
       ·(conv => whnf); exact hneg (by simp [sameIn, hc1])
       (try dsimp only at hc1)
       conv => whnf
       refine CondP.ndec (fun hc2 => ?_) (fun hc2 => ?_)
       ·(conv => whnf); exact hneg (by simp [sameIn, hc2])
       (try dsimp only at hc2)
       conv => whnf
       refine ⟨a3e, b3e, rfl, rfl, ⟨by omega, by omega⟩, fun b_3 hb3 => ?_⟩
       cases b_3 with
       | false =>
        conv => whnf
        (repeat (refine ⟨rfl, ?_⟩; conv => whnf))
        exact hneg (by simp [sameIn, hb3])
       | true =>
        conv => whnf
        (repeat (refine ⟨rfl, ?_⟩; conv => whnf))
        have he : sameIn (⟨a1e, a2e, a3e, a4e⟩ : Ini) (⟨b1e, b2e, b3e, b4e⟩ : Ini) = true := by simp [sameIn, hc1, hc2, hb3]
        rw [he, Bool.true_and] at hs
        refine Or.inl ⟨InR.i64 (by omega) (by omega), ?_⟩
        conv => whnf
        refine ⟨⟨i + 1, rfl, rfl, by omega, hs⟩, ?_⟩
        show ((a5.length : Int) - ((i : Int) + 1)).toNat < ((a5.length : Int) - (i : Int)).toNat
        omega
      ·conv => whnf
       (repeat (first | (refine ⟨?_, trivial⟩; conv => whnf) | (refine ⟨rfl, ?_⟩; conv => whnf)))
       refine CondP.ndec (fun hc1 => ?_) (fun hc1 => ?_)
       ·(conv => whnf); exact hneg (by simp [sameIn, hc1])
       (try dsimp only at hc1)
       conv => whnf
       refine CondP.ndec (fun hc2 => ?_) (fun hc2 => ?_)
       ·(conv => whnf); exact hneg (by simp [sameIn, hc2])
       (try dsimp only at hc2)
       conv => whnf
       refine ⟨a3e, b3e, rfl, rfl, ⟨by omega, by omega⟩, fun b_3 hb3 => ?_⟩
       cases b_3 with
       | false =>
        conv => whnf
        (repeat (refine ⟨rfl, ?_⟩; conv => whnf))
        exact hneg (by simp [sameIn, hb3])
       | true =>
        conv => whnf
        (repeat (refine ⟨rfl, ?_⟩; conv => whnf))
        have he : sameIn (⟨a1e, a2e, a3e, a4e⟩ : Ini) (⟨b1e, b2e, b3e, b4e⟩ : Ini) = true := by simp [sameIn, hc1, hc2, hb3]
        rw [he, Bool.true_and] at hs
        refine Or.inl ⟨InR.i64 (by omega) (by omega), ?_⟩
        conv => whnf
        refine ⟨⟨i + 1, rfl, rfl, by omega, hs⟩, ?_⟩
        show ((a5.length : Int) - ((i : Int) + 1)).toNat < ((a5.length : Int) - (i : Int)).toNat
        omega
     have hi2 : a5.length ≤ i := by have hi2 : ¬ (i : Int) < (a5.map (encIn p1)).length := hi2; rw [e5] at hi2; omega
     rw [allS_end _ hi2 (by omega)] at hs
     rw [Bool.true_and] at hs
     conv => whnf
     refine ⟨⟨0, rfl, rfl, by omega, hs⟩, ?_⟩
     intro vs σ hI
     obtain ⟨i, rfl, rfl, hi, hs⟩ := hI
     conv => whnf
     refine CondP.dec (fun hi2 => ?_) (fun hi2 => ?_)
     ·have hi2 : i < a6.length := by have hi2 : (i : Int) < (a6.map (encOv p1)).length := hi2; rw [e6] at hi2; omega
      have hi3 : i < b6.length := by omega
      have hg := szS_get (sz0 (α := Ov)) a6 i hi2
      rw [allS_drop _ hi2 hi3] at hs
      obtain ⟨eA, hA⟩ : ∃ e, a6[i] = e := ⟨_, rfl⟩
      obtain ⟨eB, hB⟩ : ∃ e, b6[i] = e := ⟨_, rfl⟩
      obtain ⟨a1e, a2e⟩ := eA
      obtain ⟨b1e, b2e⟩ := eB
      have hr1 : (a6.map (encOv p1))[((i : Nat) : Int).toNat]? = some (encOv p1 (⟨a1e, a2e⟩ : Ov)) := by simp [hi2, hA]
      have hr2 : (b6.map (encOv p2))[((i : Nat) : Int).toNat]? = some (encOv p2 (⟨b1e, b2e⟩ : Ov)) := by simp [hi3, hB]
      rw [hA, hB] at hs
      have hneg : sameOv (⟨a1e, a2e⟩ : Ov) (⟨b1e, b2e⟩ : Ov) = false → K (.ret (.d (.bool false))) ⟨[], [], 0⟩ := fun he => by rw [he] at hs; simp only [Bool.false_and] at hs; exact hneg0 hs
      conv => whnf
      (repeat (first | (refine ⟨_, by omega, hr1, ?_⟩; conv => whnf) | (refine ⟨_, by omega, hr2, ?_⟩; conv => whnf)))
      refine CondP.ndec (fun hc1 => ?_) (fun hc1 => ?_)
      ·(conv => whnf); exact hneg (by simp [sameOv, hc1])
      (try dsimp only at hc1)
      conv => whnf
      have he : sameOv (⟨a1e, a2e⟩ : Ov) (⟨b1e, b2e⟩ : Ov) = true := by simp [sameOv, hc1]
      rw [he, Bool.true_and] at hs
      refine Or.inl ⟨InR.i64 (by omega) (by omega), ?_⟩
      conv => whnf
      refine ⟨⟨i + 1, rfl, rfl, by omega, hs⟩, ?_⟩
      show ((a6.length : Int) - ((i : Int) + 1)).toNat < ((a6.length : Int) - (i : Int)).toNat
      omega
     have hi2 : a6.length ≤ i := by have hi2 : ¬ (i : Int) < (a6.map (encOv p1)).length := hi2; rw [e6] at hi2; omega
     rw [allS_end _ hi2 (by omega)] at hs
     rw [hs] at h
     conv => whnf
     exact h
 ·exact h.elim
theorem ckTab (n : Nat) {sp : Spec} (h : PCalls (GG w0 nG) 17 sp) (hm : SpecMono sp) : TblOK (GG w0 nG) [(42, spLS encTy sameTy szTy n), (43, spLS encRe sameRe szRe n), (44, spLS encRu sameRu szRu n), (45, spL2 encBs eqB n), (17, sp)] :=
 ⟨⟨kTypes_ok ⟨⟨kFields_ok, spL2_mono _ _ _⟩, trivial⟩, spLS_mono _ _ _ _⟩, ⟨kRels_ok ⟨⟨kFields_ok, spL2_mono _ _ _⟩, trivial⟩, spLS_mono _ _ _ _⟩, ⟨kRules_ok ⟨⟨cSameEs n, spLS_mono _ _ _ _⟩, ⟨cLits n, spLS_mono _ _ _ _⟩, trivial⟩, spLS_mono _ _ _ _⟩, ⟨kTexts_ok, spL2_mono _ _ _⟩, ⟨h, hm⟩, trivial⟩
theorem cKUnit : ∀ n, PCalls (GG w0 nG) 17 (spKU n)
 | 0 => kUnit_ok (ckTab 0 (pcalls_none (enters_of Tryz.func17 (by kernel_rfl) rfl)) (spB_mono spKU_mono _))
 | n + 1 => kUnit_ok (ckTab _ (pcalls_less (sp := spKU) (cKUnit n)) (spB_mono spKU_mono _))
end Go.PM.Lex
end
