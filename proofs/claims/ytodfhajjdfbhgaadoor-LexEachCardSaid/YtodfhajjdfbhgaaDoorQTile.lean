/- A part of the proof: plain logic, contracts and laws over the given program. -/
import Derived.Test.YtodfhajjdfbhgaaDoorQCut
import Derived.Test.YtodfhajjdfbhgaaDoorQW9
set_option linter.unusedVariables false
set_option linter.unusedSimpArgs false
set_option linter.all false
set_option maxRecDepth 100000
namespace Go.PM.Lex
abbrev ws : Bs := [32, 9, 13, 10]
theorem indexByte_take {c : UInt8} : ∀ (l : Bs) (i m : Nat), Lib.indexByte l c = i → i < m → Lib.indexByte (l.take m) c = i
  | [], i, m, h, _ => by simp [Lib.indexByte] at h
  | b :: l, i, m, h, hm => by
    obtain ⟨m, rfl⟩ : ∃ k, m = k + 1 := ⟨m - 1, by omega⟩
    rw [List.take_succ_cons]
    unfold Lib.indexByte at h ⊢
    split at h
    · rename_i hb; rw [if_pos hb]; exact h
    · rename_i hb
      rw [if_neg hb]
      split at h
      · omega
      · rename_i h1
        have hge := Lib.indexByte_ge l c
        have h1' : Lib.indexByte l c ≠ -1 := by simpa using h1
        have := indexByte_take (c := c) l (Lib.indexByte l c).toNat m (by omega) (by omega)
        rw [this]
        have e : ((Lib.indexByte l c).toNat : Int) = Lib.indexByte l c := by omega
        rw [e, if_neg h1]; exact h
theorem index_take {p : Bs} : ∀ (l : Bs) (i m : Nat), Lib.index l p = i → i + p.length ≤ m → Lib.index (l.take m) p = i
  | [], i, m, h, hm => by simpa using h
  | b :: l, i, 0, h, hm => by
    have : p = [] := List.eq_nil_of_length_eq_zero (by omega)
    subst this
    simp [Lib.index] at h ⊢; omega
  | b :: l, i, m + 1, h, hm => by
    rw [List.take_succ_cons]
    unfold Lib.index at h ⊢
    split at h
    · rename_i hb
      rw [if_pos]
      · exact h
      · rw [List.isPrefixOf_iff_prefix] at hb ⊢
        rw [← List.take_succ_cons, List.prefix_take_iff]
        exact ⟨hb, by omega⟩
    · rename_i hb
      rw [if_neg]
      · split at h
        · omega
        · rename_i h1
          have hge := Lib.index_ge l p
          have h1' : Lib.index l p ≠ -1 := by simpa using h1
          have := index_take (p := p) l (Lib.index l p).toNat m (by omega) (by omega)
          rw [this]
          have e : ((Lib.index l p).toNat : Int) = Lib.index l p := by omega
          rw [e, if_neg h1]; exact h
      · intro g
        apply hb
        rw [List.isPrefixOf_iff_prefix] at g ⊢
        rw [← List.take_succ_cons] at g
        exact g.trans (List.take_prefix _ _)
/-- A text is its blank bytes and the rest. -/
theorem trim_take (r : Bs) (m : Nat) : Lib.trimLeftS (r.take (r.length - (Lib.trimLeftS r ws).length + m)) ws = (Lib.trimLeftS r ws).take m := by
  induction r with
  | nil => simp [Lib.trimLeftS]
  | cons b r ih =>
    unfold Lib.trimLeftS at ih ⊢
    by_cases h : ws.contains b = true
    · have hl := (dropWhile_eq (ws.contains ·) r).2
      simp only [List.dropWhile_cons, h, if_true, List.length_cons]
      rw [show r.length + 1 - (r.dropWhile (ws.contains ·)).length + m = (r.length - (r.dropWhile (ws.contains ·)).length + m) + 1 by omega, List.take_succ_cons, List.dropWhile_cons, if_pos h]
      exact ih
    · simp only [List.dropWhile_cons, h, Bool.false_eq_true, if_false, List.length_cons]
      rw [Nat.sub_self, Nat.zero_add]
      cases m with
      | zero => simp
      | succ m => rw [List.take_succ_cons, List.dropWhile_cons, if_neg h]
theorem trim_twice (r : Bs) : Lib.trimLeftS (Lib.trimLeftS r ws) ws = Lib.trimLeftS r ws := by
  induction r with
  | nil => rfl
  | cons b r ih =>
    unfold Lib.trimLeftS at ih ⊢
    by_cases h : ws.contains b = true
    · simp only [List.dropWhile_cons, h, if_true]; exact ih
    · simp only [List.dropWhile_cons, h, Bool.false_eq_true, if_false]
theorem pre_nil {a b : UInt8} : Lib.hasPrefix [] [a, b] = false := rfl
theorem blankGo_nil (f : Nat) : blankGo (f + 1) [] = (true, 0) := by simp [blankGo, Lib.trimLeftS, pre_nil]
theorem blankGo_end {f : Nat} {r : Bs} (h1 : Lib.hasPrefix (Lib.trimLeftS r ws) [47, 47] = false) (h2 : Lib.hasPrefix (Lib.trimLeftS r ws) [47, 42] = false) : blankGo (f + 1) r = (true, r.length - (Lib.trimLeftS r ws).length) := by
  simp only [blankGo, h1, h2, Bool.false_eq_true, if_false]
theorem blankGo_line {f : Nat} {r : Bs} (h1 : Lib.hasPrefix (Lib.trimLeftS r ws) [47, 47] = true) (n : Nat) (hn : n = if Lib.indexByte (Lib.trimLeftS r ws) 10 < 0 then (Lib.trimLeftS r ws).length else (Lib.indexByte (Lib.trimLeftS r ws) 10).toNat) :
    blankGo (f + 1) r = ((blankGo f ((Lib.trimLeftS r ws).drop n)).1, r.length - (Lib.trimLeftS r ws).length + n + (blankGo f ((Lib.trimLeftS r ws).drop n)).2) := by
  subst hn
  simp only [blankGo, h1, if_true]
theorem blankGo_open {f : Nat} {r : Bs} (h1 : Lib.hasPrefix (Lib.trimLeftS r ws) [47, 47] = false) (h2 : Lib.hasPrefix (Lib.trimLeftS r ws) [47, 42] = true) (h3 : Lib.index ((Lib.trimLeftS r ws).drop 2) [42, 47] < 0) : blankGo (f + 1) r = (false, r.length - (Lib.trimLeftS r ws).length) := by
  simp only [blankGo, h1, h2, h3, if_true, Bool.false_eq_true, if_false]
theorem blankGo_rem {f : Nat} {r : Bs} (h1 : Lib.hasPrefix (Lib.trimLeftS r ws) [47, 47] = false) (h2 : Lib.hasPrefix (Lib.trimLeftS r ws) [47, 42] = true) (i : Nat) (h3 : Lib.index ((Lib.trimLeftS r ws).drop 2) [42, 47] = i) :
    blankGo (f + 1) r = ((blankGo f ((Lib.trimLeftS r ws).drop (i + 4))).1, r.length - (Lib.trimLeftS r ws).length + (i + 4) + (blankGo f ((Lib.trimLeftS r ws).drop (i + 4))).2) := by
  simp only [blankGo, h1, h2, h3, if_true, Bool.false_eq_true, if_false]
  rw [if_neg (by omega)]
  simp
theorem blankGo_nl {f : Nat} {r : Bs} {k : Nat} (h : blankGo (f + 1) (10 :: r) = (true, k)) : 1 ≤ k := by
  have hl := (dropWhile_eq (ws.contains ·) r).2
  have e : (10 :: r).length - (Lib.trimLeftS (10 :: r) ws).length ≥ 1 := by
    have : Lib.trimLeftS (10 :: r) ws = Lib.trimLeftS r ws := by
      unfold Lib.trimLeftS; rw [List.dropWhile_cons, if_pos (by decide)]
    rw [this]
    unfold Lib.trimLeftS
    simp only [List.length_cons]; omega
  cases h1 : Lib.hasPrefix (Lib.trimLeftS (10 :: r) ws) [47, 47] with
  | true => rw [blankGo_line h1 _ rfl] at h; have := (Prod.mk.inj h).2; omega
  | false =>
    cases h2 : Lib.hasPrefix (Lib.trimLeftS (10 :: r) ws) [47, 42] with
    | false => rw [blankGo_end h1 h2] at h; have := (Prod.mk.inj h).2; omega
    | true =>
      by_cases h3 : Lib.index ((Lib.trimLeftS (10 :: r) ws).drop 2) [42, 47] < 0
      · rw [blankGo_open h1 h2 h3] at h; have := (Prod.mk.inj h).1; simp at this
      · rw [blankGo_rem h1 h2 (Lib.index ((Lib.trimLeftS (10 :: r) ws).drop 2) [42, 47]).toNat (by omega)] at h; have := (Prod.mk.inj h).2; omega
theorem drop_trim (r : Bs) : r.drop (r.length - (Lib.trimLeftS r ws).length) = Lib.trimLeftS r ws := (dropWhile_eq (ws.contains ·) r).1.symm
theorem trim_le (r : Bs) : (Lib.trimLeftS r ws).length ≤ r.length := (dropWhile_eq (ws.contains ·) r).2
/-- What is blank is blank alone; behind it nothing is. -/
theorem blankGo_cut : ∀ (f : Nat) (r : Bs) (k : Nat), blankGo f r = (true, k) → r.length < f → (∀ f', k < f' → blankGo f' (r.take k) = (true, k)) ∧ (∀ f', (r.drop k).length < f' → blankGo f' (r.drop k) = (true, 0))
  | 0, r, k, h, hf => by omega
  | f + 1, r, k, h, hf => by
    have hle := trim_le r
    have hdt := drop_trim r
    have htt := trim_take r
    have h2t := trim_twice r
    cases h1 : Lib.hasPrefix (Lib.trimLeftS r ws) [47, 47] with
    | true =>
      have hl2 := (hasPrefix_two h1).1
      have hix := indexByte_lt 10 (Lib.trimLeftS r ws)
      have hge := Lib.indexByte_ge (Lib.trimLeftS r ws) 10
      have h22 := indexByte_two (c := 10) h1 (by decide) (by decide)
      obtain ⟨n, hn⟩ : ∃ n, n = if Lib.indexByte (Lib.trimLeftS r ws) 10 < 0 then (Lib.trimLeftS r ws).length else (Lib.indexByte (Lib.trimLeftS r ws) 10).toNat := ⟨_, rfl⟩
      have hn2 : 2 ≤ n ∧ n ≤ (Lib.trimLeftS r ws).length := by
        rw [hn]; split <;> omega
      rw [blankGo_line h1 n hn] at h
      generalize hR : Lib.trimLeftS r ws = R at *
      obtain ⟨e1, e2⟩ := Prod.mk.inj h
      obtain ⟨k', hk'⟩ : ∃ k', blankGo f (R.drop n) = (true, k') := ⟨(blankGo f (R.drop n)).2, Prod.ext e1 rfl⟩
      rw [hk'] at e2
      simp only at e2
      obtain ⟨i1, i2⟩ := blankGo_cut f (R.drop n) k' hk' (by rw [List.length_drop]; omega)
      have hkl : k' ≤ R.length - n := by have := blank_len f (R.drop n); rw [hk', List.length_drop] at this; exact this
      have hdk : r.drop k = (R.drop n).drop k' := by rw [List.drop_drop, ← hdt, List.drop_drop]; congr 1; omega
      refine ⟨fun f' hf' => ?_, fun f' hf' => ?_⟩
      · obtain ⟨g, rfl⟩ : ∃ g, f' = g + 1 := ⟨f' - 1, by omega⟩
        have ht : Lib.trimLeftS (r.take k) ws = R.take (n + k') := by rw [← htt (n + k')]; congr 2; omega
        have hp : Lib.hasPrefix (Lib.trimLeftS (r.take k) ws) [47, 47] = true := by rw [ht]; exact hasPrefix_long h1 (by simp; omega)
        have hd : (R.take (n + k')).drop n = (R.drop n).take k' := by rw [List.drop_take, Nat.add_sub_cancel_left]
        have hl : (R.take (n + k')).length = n + k' := by rw [List.length_take]; omega
        rw [blankGo_line hp n ?_, ht, hd, i1 g (by omega), List.length_take, hl]
        · refine Prod.ext rfl ?_
          simp only; omega
        · rw [ht]
          by_cases hneg : Lib.indexByte R 10 < 0
          · rw [if_pos hneg] at hn
            have : R.take (n + k') = R := List.take_of_length_le (by omega)
            rw [this, if_pos hneg]; exact hn
          · rw [if_neg hneg] at hn
            have hk1 : 1 ≤ k' := by
              have hnl : R.drop n = 10 :: R.drop (n + 1) := by
                have hlt : n < R.length := by omega
                have hg : R[n]'hlt = 10 := by
                  have : ∀ (l : Bs) (i : Nat) (hi : i < l.length), Lib.indexByte l 10 = i → l[i] = 10 := by
                    intro l
                    induction l with
                    | nil => intro i hi; simp at hi
                    | cons b l ih =>
                      intro i hi h
                      unfold Lib.indexByte at h
                      split at h
                      · rename_i hb
                        have : i = 0 := by omega
                        subst this
                        simpa using hb
                      · split at h
                        · omega
                        · rename_i g1 g2
                          have hge := Lib.indexByte_ge l 10
                          have hne1 : Lib.indexByte l 10 ≠ -1 := by simpa using g2
                          obtain ⟨j, rfl⟩ : ∃ j, i = j + 1 := ⟨i - 1, by omega⟩
                          simp only [List.getElem_cons_succ]
                          exact ih j (by simpa using hi) (by omega)
                  exact this R n hlt (by omega)
                rw [List.drop_eq_getElem_cons hlt, hg]
              rw [hnl] at hk'
              obtain ⟨f2, rfl⟩ : ∃ f2, f = f2 + 1 := ⟨f - 1, by omega⟩
              exact blankGo_nl hk'
            have := indexByte_take (c := 10) R n (n + k') (by omega) (by omega)
            rw [this, if_neg (by omega)]; simp
      · rw [hdk] at hf' ⊢
        exact i2 f' hf'
    | false =>
      cases h2 : Lib.hasPrefix (Lib.trimLeftS r ws) [47, 42] with
      | false =>
        rw [blankGo_end h1 h2] at h
        obtain ⟨-, e2⟩ := Prod.mk.inj h
        refine ⟨fun f' hf' => ?_, fun f' hf' => ?_⟩
        · obtain ⟨g, rfl⟩ : ∃ g, f' = g + 1 := ⟨f' - 1, by omega⟩
          have ht : Lib.trimLeftS (r.take k) ws = [] := by
            have := htt 0
            rw [Nat.add_zero, e2] at this
            rw [this]; simp
          rw [blankGo_end (by rw [ht]; rfl) (by rw [ht]; rfl), ht, List.length_take]
          refine Prod.ext rfl ?_
          simp only [List.length_nil]; omega
        · obtain ⟨g, rfl⟩ : ∃ g, f' = g + 1 := ⟨f' - 1, by omega⟩
          rw [← e2, hdt] at hf' ⊢
          rw [blankGo_end (by rw [h2t]; exact h1) (by rw [h2t]; exact h2), h2t, Nat.sub_self]
      | true =>
        by_cases h3 : Lib.index ((Lib.trimLeftS r ws).drop 2) [42, 47] < 0
        · rw [blankGo_open h1 h2 h3] at h; have := (Prod.mk.inj h).1; simp at this
        · have hl2 := (hasPrefix_two h2).1
          obtain ⟨i, hi⟩ : ∃ i : Nat, Lib.index ((Lib.trimLeftS r ws).drop 2) [42, 47] = i := ⟨(Lib.index ((Lib.trimLeftS r ws).drop 2) [42, 47]).toNat, by omega⟩
          have hil := index_le [42, 47] ((Lib.trimLeftS r ws).drop 2) (by omega)
          rw [hi, List.length_drop] at hil
          simp only [List.length_cons, List.length_nil] at hil
          rw [blankGo_rem h1 h2 i hi] at h
          generalize hR : Lib.trimLeftS r ws = R at *
          obtain ⟨e1, e2⟩ := Prod.mk.inj h
          obtain ⟨k', hk'⟩ : ∃ k', blankGo f (R.drop (i + 4)) = (true, k') := ⟨(blankGo f (R.drop (i + 4))).2, Prod.ext e1 rfl⟩
          rw [hk'] at e2
          simp only at e2
          obtain ⟨i1, i2⟩ := blankGo_cut f (R.drop (i + 4)) k' hk' (by rw [List.length_drop]; omega)
          have hkl : k' ≤ R.length - (i + 4) := by have := blank_len f (R.drop (i + 4)); rw [hk', List.length_drop] at this; exact this
          have hdk : r.drop k = (R.drop (i + 4)).drop k' := by rw [List.drop_drop, ← hdt, List.drop_drop]; congr 1; omega
          refine ⟨fun f' hf' => ?_, fun f' hf' => ?_⟩
          · obtain ⟨g, rfl⟩ : ∃ g, f' = g + 1 := ⟨f' - 1, by omega⟩
            have ht : Lib.trimLeftS (r.take k) ws = R.take (i + 4 + k') := by rw [← htt (i + 4 + k')]; congr 2; omega
            have hp : Lib.hasPrefix (Lib.trimLeftS (r.take k) ws) [47, 42] = true := by rw [ht]; exact hasPrefix_long h2 (by simp; omega)
            have hp1 : Lib.hasPrefix (Lib.trimLeftS (r.take k) ws) [47, 47] = false := by
              cases hh : Lib.hasPrefix (Lib.trimLeftS (r.take k) ws) [47, 47] with
              | false => rfl
              | true => rw [ht] at hh; rw [hasPrefix_take hh] at h1; cases h1
            have hd : (R.take (i + 4 + k')).drop (i + 4) = (R.drop (i + 4)).take k' := by rw [List.drop_take, Nat.add_sub_cancel_left]
            have hl : (R.take (i + 4 + k')).length = i + 4 + k' := by rw [List.length_take]; omega
            rw [blankGo_rem hp1 hp i ?_, ht, hd, i1 g (by omega), List.length_take, hl]
            · refine Prod.ext rfl ?_
              simp only; omega
            · rw [ht, List.drop_take]
              exact index_take _ i _ hi (by simp; omega)
          · rw [hdk] at hf' ⊢
            exact i2 f' hf'
theorem blank_cut {r : Bs} {k : Nat} (h : blankF r = (true, k)) : blankF (r.take k) = (true, k) ∧ blankF (r.drop k) = (true, 0) ∧ k ≤ r.length := by
  have hk := blank_len (r.length + 1) r
  have hk : k ≤ r.length := by have e : (blankGo (r.length + 1) r).2 = k := by unfold blankF at h; rw [h]
                               omega
  obtain ⟨h1, h2⟩ := blankGo_cut _ _ _ h (by omega)
  exact ⟨h1 _ (by rw [List.length_take]; omega), h2 _ (by omega), hk⟩
/-- Where nothing blank stands in front, none does in a part. -/
theorem blank_zero_take {r : Bs} {n : Nat} (hr : 0 < r.length) (hn : 1 ≤ n) (h : blankF r = (true, 0)) : blankF (r.take n) = (true, 0) := by
  unfold blankF at h ⊢
  have hle := trim_le r
  have hdt := drop_trim r
  -- no blank byte in front
  have ht0 : Lib.trimLeftS r ws = r ∧ Lib.hasPrefix r [47, 47] = false ∧ Lib.hasPrefix r [47, 42] = false := by
    cases h1 : Lib.hasPrefix (Lib.trimLeftS r ws) [47, 47] with
    | true =>
      have hl2 := (hasPrefix_two h1).1
      have h22 := indexByte_two (c := 10) h1 (by decide) (by decide)
      have hge := Lib.indexByte_ge (Lib.trimLeftS r ws) 10
      rw [blankGo_line h1 _ rfl] at h
      have := (Prod.mk.inj h).2
      split at this <;> omega
    | false =>
      cases h2 : Lib.hasPrefix (Lib.trimLeftS r ws) [47, 42] with
      | true =>
        by_cases h3 : Lib.index ((Lib.trimLeftS r ws).drop 2) [42, 47] < 0
        · rw [blankGo_open h1 h2 h3] at h; have := (Prod.mk.inj h).1; simp at this
        · rw [blankGo_rem h1 h2 (Lib.index ((Lib.trimLeftS r ws).drop 2) [42, 47]).toNat (by omega)] at h; have := (Prod.mk.inj h).2; omega
      | false =>
        rw [blankGo_end h1 h2] at h
        have e := (Prod.mk.inj h).2
        rw [e, List.drop_zero] at hdt
        rw [← hdt] at h1 h2
        exact ⟨hdt.symm, h1, h2⟩
  obtain ⟨e, h1, h2⟩ := ht0
  have et : Lib.trimLeftS (r.take n) ws = r.take n := by
    have := trim_take r n
    rw [e, Nat.sub_self, Nat.zero_add] at this
    exact this
  have np : ∀ p, Lib.hasPrefix r p = false → Lib.hasPrefix (r.take n) p = false := fun p hp => by
    cases hh : Lib.hasPrefix (r.take n) p with
    | false => rfl
    | true => rw [hasPrefix_take hh] at hp; cases hp
  rw [blankGo_end (by rw [et]; exact np _ h1) (by rw [et]; exact np _ h2), et, Nat.sub_self]
/-- The tokens stand one behind the other; each alone is itself; what lies between has none. -/
def Chain (s : Bs) (M : Int) : Nat → List Tok → Prop
  | a, [] => allF (s.drop a) M = ([], (0, 0))
  | a, t :: l => a ≤ t.at' ∧ t.at' < t.fin ∧ t.fin ≤ s.length ∧ allF (cut s a t.at') M = ([], (0, 0)) ∧ allF (cut s t.at' t.fin) M = ([⟨t.kind, t.text, t.n, 0, t.fin - t.at'⟩], (0, 0)) ∧ Chain s M t.fin l
theorem allF_blank {r : Bs} {M : Int} (h : blankF r = (true, r.length)) : allF r M = ([], (0, 0)) := by
  unfold allF allGo
  rw [h]
  simp
theorem blankF_nil : blankF [] = (true, 0) := blankGo_nil 0
theorem chain_of (s : Bs) (M : Int) (hM : 0 < M) : ∀ (f : Nat) (most : Int) (a : Nat) (l : List Tok) (p : Nat), allGo f most a (s.drop a) = (l, (p, 0)) → s.length < a + f → a ≤ s.length → Chain s M a l
  | 0, most, a, l, p, h, hf, ha => by omega
  | f + 1, most, a, l, p, h, hf, ha => by
    rw [allGo] at h
    split at h
    · have := congrArg (fun x => x.2.2) h; simp at this
    · rename_i hb
      obtain ⟨k, hk⟩ : ∃ k, blankF (s.drop a) = (true, k) := ⟨(blankF (s.drop a)).2, Prod.ext (by simpa using hb) rfl⟩
      obtain ⟨c1, c2, c3⟩ := blank_cut hk
      rw [List.length_drop] at c3
      rw [hk] at h
      simp only at h
      split at h
      · rename_i hnil
        have hl : l = [] := (congrArg (fun x => x.1) h).symm
        subst hl
        have hlen := congrArg List.length hnil
        rw [List.length_drop, List.length_drop, List.length_nil] at hlen
        show allF (s.drop a) M = ([], (0, 0))
        exact allF_blank (by rw [hk, List.length_drop]; congr 1; omega)
      · rename_i hnil
        rw [List.drop_drop] at h hnil c2
        have hpos := List.length_pos_iff.2 hnil
        split at h
        · rename_i q e hx
          have := nextF_bad hx
          have h0 : e = 0 := congrArg (fun x => x.2.2) h
          omega
        · rename_i t hx
          obtain ⟨t1, t2, t3⟩ := nextF_tok hpos hx
          rw [List.length_drop] at t3 hpos
          have hdr : (s.drop (a + k)).drop (t.fin - (a + k)) = s.drop t.fin := by rw [List.drop_drop]; congr 1; omega
          rw [hdr] at h
          have hl : l = t :: (allGo f (most - 1) t.fin (s.drop t.fin)).1 := (congrArg (fun x => x.1) h).symm
          have h2 : (allGo f (most - 1) t.fin (s.drop t.fin)).2 = (p, 0) := congrArg (fun x => x.2) h
          subst hl
          refine ⟨by omega, by omega, by omega, ?_, ?_, chain_of s M hM f (most - 1) t.fin _ p (Prod.ext rfl h2) (by omega) (by omega)⟩
          · rw [t1, cut_mid, Nat.add_sub_cancel_left]
            exact allF_blank (by rw [c1, List.length_take, List.length_drop]; congr 1; omega)
          · rw [t1, cut_mid]
            have hx2 := next_take (by rw [List.length_drop]; exact hpos) hx
            have hlen : ((s.drop (a + k)).take (t.fin - (a + k))).length = t.fin - (a + k) := by rw [List.length_take, List.length_drop]; omega
            have hb0 := blank_zero_take (n := t.fin - (a + k)) (by rw [List.length_drop]; exact hpos) (by omega) c2
            obtain ⟨g, hg⟩ : ∃ g, t.fin - (a + k) = g + 1 := ⟨t.fin - (a + k) - 1, by omega⟩
            unfold allF
            rw [hlen, allGo, hb0]
            simp only [Bool.true_eq_false, if_false, Nat.add_zero, List.drop_zero, Nat.sub_zero]
            rw [if_neg (fun g => by rw [g] at hlen; simp at hlen; omega), show decide (0 < M) = true by simpa using hM, hx2]
            simp only [Nat.sub_zero]
            rw [show ((s.drop (a + k)).take (t.fin - (a + k))).drop (t.fin - (a + k)) = [] from List.drop_eq_nil_of_le (by omega), hg, allGo, blankF_nil]
            simp
/-! ### Where it goes wrong -/
theorem blank_bad : ∀ (f : Nat) (r : Bs) (k : Nat), blankGo f r = (false, k) → r.length < f → k < r.length
  | 0, r, k, h, hf => by omega
  | f + 1, r, k, h, hf => by
    have hle := trim_le r
    cases h1 : Lib.hasPrefix (Lib.trimLeftS r ws) [47, 47] with
    | true =>
      have hl2 := (hasPrefix_two h1).1
      have hix := indexByte_lt 10 (Lib.trimLeftS r ws)
      have hge := Lib.indexByte_ge (Lib.trimLeftS r ws) 10
      have h22 := indexByte_two (c := 10) h1 (by decide) (by decide)
      obtain ⟨n, hn⟩ : ∃ n, n = if Lib.indexByte (Lib.trimLeftS r ws) 10 < 0 then (Lib.trimLeftS r ws).length else (Lib.indexByte (Lib.trimLeftS r ws) 10).toNat := ⟨_, rfl⟩
      have hn2 : 2 ≤ n ∧ n ≤ (Lib.trimLeftS r ws).length := by
        rw [hn]; split <;> omega
      rw [blankGo_line h1 n hn] at h
      obtain ⟨e1, e2⟩ := Prod.mk.inj h
      have h5 : (blankGo f ((Lib.trimLeftS r ws).drop n)).2 < ((Lib.trimLeftS r ws).drop n).length := blank_bad f _ _ (Prod.ext e1 rfl) (by rw [List.length_drop]; omega)
      rw [List.length_drop] at h5
      omega
    | false =>
      cases h2 : Lib.hasPrefix (Lib.trimLeftS r ws) [47, 42] with
      | false => rw [blankGo_end h1 h2] at h; have := (Prod.mk.inj h).1; simp at this
      | true =>
        have hl2 := (hasPrefix_two h2).1
        by_cases h3 : Lib.index ((Lib.trimLeftS r ws).drop 2) [42, 47] < 0
        · rw [blankGo_open h1 h2 h3] at h; have := (Prod.mk.inj h).2; omega
        · obtain ⟨i, hi⟩ : ∃ i : Nat, Lib.index ((Lib.trimLeftS r ws).drop 2) [42, 47] = i := ⟨(Lib.index ((Lib.trimLeftS r ws).drop 2) [42, 47]).toNat, by omega⟩
          rw [blankGo_rem h1 h2 i hi] at h
          obtain ⟨e1, e2⟩ := Prod.mk.inj h
          have h5 : (blankGo f ((Lib.trimLeftS r ws).drop (i + 4))).2 < ((Lib.trimLeftS r ws).drop (i + 4)).length := blank_bad f _ _ (Prod.ext e1 rfl) (by rw [List.length_drop]; omega)
          rw [List.length_drop] at h5
          omega
theorem textGo_err : ∀ (f : Nat) (r : Bs) (esc : Bool) (acc : Bs) (p q : Nat), textGo f r esc acc p = .err q → q = 0 ∨ q < p + r.length
  | 0, r, esc, acc, p, q, h => by simp [textGo] at h; omega
  | f + 1, r, esc, acc, p, q, h => by
    unfold textGo at h
    split at h
    · cases h; exact .inl rfl
    · rename_i hne
      have hl := List.length_pos_iff.2 hne
      have hd := Lib.decodeL_le r hne
      split at h
      · split at h
        · cases h; right; omega
        · rcases textGo_err f _ _ _ _ _ h with h | h
          · exact .inl h
          · rw [List.length_drop] at h; right; omega
      · split at h
        · cases h
        · split at h
          · rcases textGo_err f _ _ _ _ _ h with h | h
            · exact .inl h
            · rw [List.length_drop] at h; right; omega
          · split at h
            · cases h; right; omega
            · rcases textGo_err f _ _ _ _ _ h with h | h
              · exact .inl h
              · rw [List.length_drop] at h; right; omega
theorem nextF_place {a : Nat} {r : Bs} {room : Bool} {p e : Nat} (h0 : 0 < r.length) (h : nextF a r room = .bad p e) : p < a + r.length := by
  rw [nextF_eq] at h
  split at h
  · cases h; omega
  · split at h
    · cases h; omega
    · split at h
      · cases h
      · split at h
        · unfold textR at h
          split at h
          · rename_i q hx
            cases h
            have := textGo_err _ _ _ _ _ _ hx
            rw [List.length_drop] at this
            omega
          · cases h
        · split at h
          · unfold numberR at h
            split at h
            · cases h; omega
            · cases h
          · cases h
theorem all_place (s : Bs) : ∀ (f : Nat) (most : Int) (a : Nat) (l : List Tok) (p c : Nat), allGo f most a (s.drop a) = (l, (p, c)) → c ≠ 0 → a ≤ s.length → p < s.length
  | 0, most, a, l, p, c, h, hc, ha => by have : c = 0 := (congrArg (fun x => x.2.2) h).symm; omega
  | f + 1, most, a, l, p, c, h, hc, ha => by
    rw [allGo] at h
    split at h
    · rename_i hb
      have := blank_bad _ (s.drop a) (blankF (s.drop a)).2 (Prod.ext hb rfl) (by omega)
      rw [List.length_drop] at this
      have h2 : a + (blankF (s.drop a)).2 = p := congrArg (fun x => x.2.1) h
      omega
    · rename_i hb
      have hbl := blank_len ((s.drop a).length + 1) (s.drop a)
      have hbl : (blankF (s.drop a)).2 ≤ (s.drop a).length := hbl
      rw [List.length_drop] at hbl
      generalize (blankF (s.drop a)).2 = k at h hbl
      simp only at h
      split at h
      · have : c = 0 := (congrArg (fun x => x.2.2) h).symm
        omega
      · rename_i hnil
        rw [List.drop_drop] at h hnil
        have hpos := List.length_pos_iff.2 hnil
        split at h
        · rename_i q e hx
          have h1 := nextF_place hpos hx
          rw [List.length_drop] at h1 hpos
          have h2 : q = p := congrArg (fun x => x.2.1) h
          omega
        · rename_i t hx
          obtain ⟨t1, t2, t3⟩ := nextF_tok hpos hx
          rw [List.length_drop] at t3 hpos
          have hdr : (s.drop (a + k)).drop (t.fin - (a + k)) = s.drop t.fin := by rw [List.drop_drop]; congr 1; omega
          rw [hdr] at h
          have h2 : (allGo f (most - 1) t.fin (s.drop t.fin)).2 = (p, c) := congrArg (fun x => x.2) h
          exact all_place s f (most - 1) t.fin _ p c (Prod.ext rfl h2) hc (by omega)
theorem all_err {s : Bs} {M : Int} (h : (allF s M).2.2 ≠ 0) : (allF s M).2.1 < s.length := all_place s _ M 0 (allF s M).1 _ _ (by rw [List.drop_zero]; rfl) h (by omega)
theorem all_chain {s : Bs} {M : Int} (hM : 0 < M) (h : (allF s M).2.2 = 0) : Chain s M 0 (allF s M).1 := chain_of s M hM _ M 0 _ (allF s M).2.1 (by rw [List.drop_zero]; exact Prod.ext rfl (Prod.ext rfl h)) (by omega) (by omega)
end Go.PM.Lex
