/- A part of the proof: plain logic, contracts and laws over the given program. -/
import Derived.Test.YtcgedoibicfihaaDoorQExt
set_option linter.unusedVariables false
set_option linter.unusedSimpArgs false
set_option linter.all false
set_option maxRecDepth 100000
namespace Go.PM.Lex
/-- Nothing blank stands in front. -/
def Bare (y : Bs) : Prop := Lib.trimLeftS y ws = y ∧ Lib.hasPrefix y [47, 47] = false ∧ Lib.hasPrefix y [47, 42] = false
theorem bare_of {r : Bs} (h : blankF r = (true, 0)) : Bare r := by
  unfold blankF at h
  have hle := trim_le r
  have hdt := drop_trim r
  cases h1 : Lib.hasPrefix (Lib.trimLeftS r ws) [47, 47] with
  | true =>
    have hl2 := (hasPrefix_two h1).1
    have h22 := indexByte_two (c := 10) h1 (by decide) (by decide)
    have hge := Lib.indexByte_ge (Lib.trimLeftS r ws) 10
    rw [blankGo_line h1 _ rfl] at h
    have := (Prod.mk.inj h).2
    split at this <;> omega
  | false =>
    cases h2 : Lib.hasPrefix (Lib.trimLeftS r ws) [47, 42] with
    | true =>
      by_cases h3 : Lib.index ((Lib.trimLeftS r ws).drop 2) [42, 47] < 0
      · rw [blankGo_open h1 h2 h3] at h; have := (Prod.mk.inj h).1; simp at this
      · rw [blankGo_rem h1 h2 (Lib.index ((Lib.trimLeftS r ws).drop 2) [42, 47]).toNat (by omega)] at h; have := (Prod.mk.inj h).2; omega
    | false =>
      rw [blankGo_end h1 h2] at h
      have e := (Prod.mk.inj h).2
      rw [e, List.drop_zero] at hdt
      rw [← hdt] at h1 h2
      exact ⟨hdt.symm, h1, h2⟩
theorem bare_blank {y : Bs} (h : Bare y) (f : Nat) : blankGo (f + 1) y = (true, 0) := by
  obtain ⟨h1, h2, h3⟩ := h
  rw [blankGo_end (by rw [h1]; exact h2) (by rw [h1]; exact h3), h1, Nat.sub_self]
theorem bare_ext {r z : Bs} {n : Nat} (hr : 0 < r.length) (hn : 1 ≤ n) (h : Bare r) : Bare (r.take n ++ 32 :: z) := by
  obtain ⟨h1, h2, h3⟩ := h
  match r, hr with
  | b :: r, _ =>
    obtain ⟨n, rfl⟩ : ∃ k, n = k + 1 := ⟨n - 1, by omega⟩
    have hb : ws.contains b = false := by
      cases hb : ws.contains b with
      | false => rfl
      | true =>
        have := (dropWhile_eq (ws.contains ·) r).2
        unfold Lib.trimLeftS at h1
        simp only [List.dropWhile_cons, hb, if_true] at h1
        rw [h1] at this
        simp at this; omega
    rw [List.take_succ_cons, List.cons_append]
    refine ⟨by unfold Lib.trimLeftS; simp only [List.dropWhile_cons, hb, Bool.false_eq_true, if_false], ?_, ?_⟩
    · cases hh : Lib.hasPrefix (b :: (r.take n ++ 32 :: z)) [47, 47] with
      | false => rfl
      | true =>
        have h5 := hasPrefix_sp (a := 47) (b := 47) (x := b :: r.take n) (by simp) (by decide) (by rw [List.cons_append]; exact hh)
        rw [← List.take_succ_cons] at h5
        rw [hasPrefix_take h5] at h2; cases h2
    · cases hh : Lib.hasPrefix (b :: (r.take n ++ 32 :: z)) [47, 42] with
      | false => rfl
      | true =>
        have h5 := hasPrefix_sp (a := 47) (b := 42) (x := b :: r.take n) (by simp) (by decide) (by rw [List.cons_append]; exact hh)
        rw [← List.take_succ_cons] at h5
        rw [hasPrefix_take h5] at h3; cases h3
/-- A blank byte more. -/
theorem bl_ws {w : UInt8} (hw : ws.contains w = true) (f : Nat) (r : Bs) : blankGo (f + 1) (w :: r) = ((blankGo (f + 1) r).1, (blankGo (f + 1) r).2 + 1) := by
  have ht : Lib.trimLeftS (w :: r) ws = Lib.trimLeftS r ws := by unfold Lib.trimLeftS; rw [List.dropWhile_cons, if_pos hw]
  have hle := trim_le r
  cases h1 : Lib.hasPrefix (Lib.trimLeftS r ws) [47, 47] with
  | true =>
    rw [blankGo_line (r := w :: r) (by rw [ht]; exact h1) _ rfl, blankGo_line h1 _ rfl, ht]
    refine Prod.ext rfl ?_
    simp only [List.length_cons]; omega
  | false =>
    cases h2 : Lib.hasPrefix (Lib.trimLeftS r ws) [47, 42] with
    | false =>
      rw [blankGo_end (r := w :: r) (by rw [ht]; exact h1) (by rw [ht]; exact h2), blankGo_end h1 h2, ht]
      refine Prod.ext rfl ?_
      simp only [List.length_cons]; omega
    | true =>
      by_cases h3 : Lib.index ((Lib.trimLeftS r ws).drop 2) [42, 47] < 0
      · rw [blankGo_open (r := w :: r) (by rw [ht]; exact h1) (by rw [ht]; exact h2) (by rw [ht]; exact h3), blankGo_open h1 h2 h3, ht]
        refine Prod.ext rfl ?_
        simp only [List.length_cons]; omega
      · have hi : Lib.index ((Lib.trimLeftS r ws).drop 2) [42, 47] = ((Lib.index ((Lib.trimLeftS r ws).drop 2) [42, 47]).toNat : Nat) := by omega
        rw [blankGo_rem (r := w :: r) (by rw [ht]; exact h1) (by rw [ht]; exact h2) _ (by rw [ht]; exact hi), blankGo_rem h1 h2 _ hi, ht]
        refine Prod.ext rfl ?_
        simp only [List.length_cons]; omega
theorem bl_sl {y : Bs} : Lib.trimLeftS (47 :: y) ws = 47 :: y := by unfold Lib.trimLeftS; rw [List.dropWhile_cons, if_neg (by decide)]
/-- "// x" and a new line. -/
theorem bl_line (f : Nat) (y : Bs) : blankGo (f + 1) ([47, 47, 32, 120, 10] ++ y) = ((blankGo f (10 :: y)).1, 4 + (blankGo f (10 :: y)).2) := by
  have e : ([47, 47, 32, 120, 10] ++ y : Bs) = 47 :: ([47, 32, 120, 10] ++ y) := rfl
  rw [e, blankGo_line (by rw [bl_sl]; rfl) 4 ?_, bl_sl]
  · refine Prod.ext rfl ?_
    simp
  · rw [bl_sl]
    have : Lib.indexByte (47 :: ([47, 32, 120, 10] ++ y)) 10 = 4 := by
      simp [Lib.indexByte]
    rw [this]; rfl
theorem bl_rem1 (f : Nat) (y : Bs) : blankGo (f + 1) ([47, 42, 32, 34, 32, 42, 47] ++ y) = ((blankGo f y).1, 7 + (blankGo f y).2) := by
  have e : ([47, 42, 32, 34, 32, 42, 47] ++ y : Bs) = 47 :: ([42, 32, 34, 32, 42, 47] ++ y) := rfl
  rw [e, blankGo_rem (by rw [bl_sl]; rfl) (by rw [bl_sl]; rfl) 3 ?_, bl_sl]
  · refine Prod.ext rfl ?_
    simp
  · rw [bl_sl]
    simp [Lib.index, List.isPrefixOf]
theorem bl_rem2 (f : Nat) (y : Bs) : blankGo (f + 1) ([47, 42, 42, 47] ++ y) = ((blankGo f y).1, 4 + (blankGo f y).2) := by
  have e : ([47, 42, 42, 47] ++ y : Bs) = 47 :: ([42, 42, 47] ++ y) := rfl
  rw [e, blankGo_rem (by rw [bl_sl]; rfl) (by rw [bl_sl]; rfl) 0 ?_, bl_sl]
  · refine Prod.ext rfl ?_
    simp
  · rw [bl_sl]
    simp [Lib.index, List.isPrefixOf]
def blanks : List Bs := [[32], [10], [9], [13], [47, 47, 32, 120, 10], [47, 42, 32, 34, 32, 42, 47], [47, 42, 42, 47]]
theorem bl_any {b y : Bs} (hb : b ∈ blanks) (hy : Bare y) (f : Nat) : blankGo (f + 2) (b ++ y) = (true, b.length) := by
  have h0 := bare_blank hy
  simp only [blanks, List.mem_cons, List.mem_nil_iff, or_false] at hb
  rcases hb with rfl | rfl | rfl | rfl | rfl | rfl | rfl
  · rw [List.cons_append, List.nil_append, bl_ws (by decide), h0]; rfl
  · rw [List.cons_append, List.nil_append, bl_ws (by decide), h0]; rfl
  · rw [List.cons_append, List.nil_append, bl_ws (by decide), h0]; rfl
  · rw [List.cons_append, List.nil_append, bl_ws (by decide), h0]; rfl
  · rw [bl_line, bl_ws (by decide), h0]; rfl
  · rw [bl_rem1, h0]; rfl
  · rw [bl_rem2, h0]; rfl
/-- A blank, or none, ahead of it. -/
theorem bl_sp {sp b y : Bs} (hsp : sp = [] ∨ sp = [32]) (hb : b ∈ blanks) (hy : Bare y) : blankF (sp ++ (b ++ y)) = (true, sp.length + b.length) := by
  have hbl : 1 ≤ b.length := by
    simp only [blanks, List.mem_cons, List.mem_nil_iff, or_false] at hb
    rcases hb with rfl | rfl | rfl | rfl | rfl | rfl | rfl <;> simp
  unfold blankF
  rcases hsp with rfl | rfl
  · obtain ⟨f, hf⟩ : ∃ f, ([] ++ (b ++ y)).length + 1 = f + 2 := ⟨([] ++ (b ++ y)).length - 1, by simp; omega⟩
    rw [hf, List.nil_append, bl_any hb hy, List.length_nil, Nat.zero_add]
  · obtain ⟨f, hf⟩ : ∃ f, ([32] ++ (b ++ y)).length + 1 = f + 2 := ⟨([32] ++ (b ++ y)).length - 1, by simp⟩
    rw [hf, List.cons_append, List.nil_append, bl_ws (by decide), bl_any hb hy]
    refine Prod.ext rfl ?_
    simp only [List.length_cons, List.length_nil]; omega
theorem bl_end {sp : Bs} (hsp : sp = [] ∨ sp = [32]) : blankF sp = (true, sp.length) := by
  rcases hsp with rfl | rfl
  · exact blankF_nil
  · decide
/-- A token at its place. -/
def Placed (s : Bs) (t : Tok) : Prop := t.at' < t.fin ∧ t.fin ≤ s.length ∧ Bare (s.drop t.at') ∧ nextF t.at' (s.drop t.at') true = .tok t
theorem room_of {a : Nat} {r : Bs} {room : Bool} {t : Tok} (h : nextF a r room = .tok t) : room = true := by
  cases room with
  | true => rfl
  | false =>
    rw [nextF_eq] at h
    split at h
    · cases h
    · rw [if_pos rfl] at h; cases h
theorem placed_of (s : Bs) : ∀ (f : Nat) (most : Int) (a : Nat) (l : List Tok) (p : Nat × Nat), allGo f most a (s.drop a) = (l, p) → a ≤ s.length → ∀ t ∈ l, Placed s t
  | 0, most, a, l, p, h, ha => by
    have : l = [] := (congrArg (fun x => x.1) h).symm
    subst this
    intro t ht; cases ht
  | f + 1, most, a, l, p, h, ha => by
    rw [allGo] at h
    split at h
    · have : l = [] := (congrArg (fun x => x.1) h).symm
      subst this; intro t ht; cases ht
    · rename_i hb
      obtain ⟨k, hk⟩ : ∃ k, blankF (s.drop a) = (true, k) := ⟨(blankF (s.drop a)).2, Prod.ext (by simpa using hb) rfl⟩
      obtain ⟨c1, c2, c3⟩ := blank_cut hk
      rw [List.length_drop] at c3
      rw [hk] at h
      simp only at h
      split at h
      · have : l = [] := (congrArg (fun x => x.1) h).symm
        subst this; intro t ht; cases ht
      · rename_i hnil
        rw [List.drop_drop] at h hnil c2
        have hpos := List.length_pos_iff.2 hnil
        split at h
        · have : l = [] := (congrArg (fun x => x.1) h).symm
          subst this; intro t ht; cases ht
        · rename_i t hx
          obtain ⟨t1, t2, t3⟩ := nextF_tok hpos hx
          rw [List.length_drop] at t3 hpos
          have hdr : (s.drop (a + k)).drop (t.fin - (a + k)) = s.drop t.fin := by rw [List.drop_drop]; congr 1; omega
          rw [hdr] at h
          have hl : l = t :: (allGo f (most - 1) t.fin (s.drop t.fin)).1 := (congrArg (fun x => x.1) h).symm
          subst hl
          have hroom := room_of hx
          rw [hroom] at hx
          intro t' ht'
          rcases List.mem_cons.1 ht' with rfl | ht'
          · exact ⟨by omega, by omega, by rw [t1]; exact bare_of c2, by rw [t1]; exact hx⟩
          · exact placed_of s f (most - 1) t.fin _ _ rfl (by omega) t' ht'
/-- The text that the law makes: of each token its blank, its bytes, a blank. -/
def rend (s : Bs) : List (Bs × Tok) → Bs
  | [] => []
  | (b, t) :: l => b ++ (cut s t.at' t.fin ++ 32 :: rend s l)
def keyT (t : Tok) : Nat × Bs × Int := (t.kind, t.text, t.n)
theorem rend_all (s : Bs) : ∀ (l : List (Bs × Tok)), (∀ x ∈ l, x.1 ∈ blanks ∧ Placed s x.2) → ∀ (sp : Bs), (sp = [] ∨ sp = [32]) → ∀ (f : Nat) (most : Int) (a : Nat), (sp ++ rend s l).length < f → (l.length : Int) < most →
    ∃ l', allGo f most a (sp ++ rend s l) = (l', (0, 0)) ∧ l'.map keyT = l.map (fun x => keyT x.2)
  | [], _, sp, hsp, 0, most, a, hf, hm => by omega
  | [], _, sp, hsp, f + 1, most, a, hf, hm => by
    refine ⟨[], ?_, rfl⟩
    simp only [rend, List.append_nil] at hf ⊢
    rw [allGo, bl_end hsp]
    simp
  | (b, t) :: l, hl, sp, hsp, 0, most, a, hf, hm => by omega
  | (b, t) :: l, hl, sp, hsp, f + 1, most, a, hf, hm => by
    obtain ⟨hb, h1, h2, h3, h4⟩ := hl (b, t) (by simp)
    simp only at h1 h2 h3 h4 hb
    have hdl : (s.drop t.at').length = s.length - t.at' := List.length_drop
    have hx : cut s t.at' t.fin = (s.drop t.at').take (t.fin - t.at') := cut_mid
    have hxl : (cut s t.at' t.fin).length = t.fin - t.at' := by rw [hx, List.length_take, hdl]; omega
    have hne : cut s t.at' t.fin ≠ [] := fun g => by rw [g] at hxl; simp at hxl; omega
    have hbare : Bare (cut s t.at' t.fin ++ 32 :: rend s l) := by rw [hx]; exact bare_ext (by omega) (by omega) h3
    have hbl := bl_sp hsp hb hbare
    have hn := next_take (by omega) h4
    rw [← hx] at hn
    have hn2 : nextF (a + (sp.length + b.length)) (cut s t.at' t.fin ++ 32 :: rend s l) true = .tok ⟨t.kind, t.text, t.n, a + (sp.length + b.length), a + (sp.length + b.length) + (cut s t.at' t.fin).length⟩ := next_ext (n := 0) hne (by rw [hxl]; exact hn)
    simp only [rend, List.length_cons] at hf hm ⊢
    simp only [List.length_append, List.length_cons] at hf
    obtain ⟨l', e1, e2⟩ := rend_all s l (fun x hx => hl x (List.mem_cons_of_mem _ hx)) [32] (.inr rfl) f (most - 1) (a + (sp.length + b.length) + (cut s t.at' t.fin).length) (by simp only [List.length_append, List.length_cons, List.length_nil]; omega) (by omega)
    refine ⟨⟨t.kind, t.text, t.n, a + (sp.length + b.length), a + (sp.length + b.length) + (cut s t.at' t.fin).length⟩ :: l', ?_, by simp only [List.map_cons, e2]; rfl⟩
    have hdrop : (sp ++ (b ++ (cut s t.at' t.fin ++ 32 :: rend s l))).drop (sp.length + b.length) = cut s t.at' t.fin ++ 32 :: rend s l := by
      rw [← List.append_assoc, ← List.length_append, List.drop_left]
    rw [allGo, hbl]
    simp only [Bool.true_eq_false, if_false, hdrop]
    rw [if_neg (by simp), show decide (0 < most) = true by simp; omega, hn2]
    simp only
    rw [show a + (sp.length + b.length) + (cut s t.at' t.fin).length - (a + (sp.length + b.length)) = (cut s t.at' t.fin).length by omega, List.drop_left]
    have e1' : allGo f (most - 1) (a + (sp.length + b.length) + (cut s t.at' t.fin).length) (32 :: rend s l) = (l', (0, 0)) := e1
    rw [e1']
end Go.PM.Lex
