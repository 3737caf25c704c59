/- A part of the proof: plain logic, contracts and laws over the given program. -/
import Derived.Test.YtjmoaahgfjaafaaGreatDoorG10
set_option linter.unusedVariables false
set_option linter.unusedSimpArgs false
set_option linter.all false
section
set_option maxRecDepth 100000
namespace Go.PM.Lex
def Bare (y : Bs) : Prop := Lib.trimLeftS y ws = y ∧ Lib.hasPrefix y [47, 47] = false ∧ Lib.hasPrefix y [47, 42] = false
theorem bare_of {r : Bs} (h : blankF r = (true, 0)) : Bare r := by
 unfold blankF at h
 have hle := trim_le r
 have hdt := drop_trim r
 cases h1 : Lib.hasPrefix (Lib.trimLeftS r ws) [47, 47] with
 | true =>
  have hl2 := (hasPrefix_two h1).1
  have h22 := indexByte_two (c := 10) h1 (by decide) (by decide)
  have hge := Lib.indexByte_ge (Lib.trimLeftS r ws) 10
  rw [blankGo_line h1 _ rfl] at h
  have := (Prod.mk.inj h).2
  split at this <;> omega
 | false =>
  cases h2 : Lib.hasPrefix (Lib.trimLeftS r ws) [47, 42] with
  | true =>
   by_cases h3 : Lib.index ((Lib.trimLeftS r ws).drop 2) [42, 47] < 0
   ·rw [blankGo_open h1 h2 h3] at h; have := (Prod.mk.inj h).1; simp at this
   ·rw [blankGo_rem h1 h2 (Lib.index ((Lib.trimLeftS r ws).drop 2) [42, 47]).toNat (by omega)] at h; have := (Prod.mk.inj h).2; omega
  | false =>
   rw [blankGo_end h1 h2] at h
   have e := (Prod.mk.inj h).2
   rw [e, List.drop_zero] at hdt
   rw [← hdt] at h1 h2
   exact ⟨hdt.symm, h1, h2⟩
theorem bare_blank {y : Bs} (h : Bare y) (f : Nat) : blankGo (f + 1) y = (true, 0) := by
 obtain ⟨h1, h2, h3⟩ := h
 rw [blankGo_end (by rw [h1]; exact h2) (by rw [h1]; exact h3), h1, Nat.sub_self]
theorem bare_ext {r z : Bs} {n : Nat} (hr : 0 < r.length) (hn : 1 ≤ n) (h : Bare r) : Bare (r.take n ++ 32 :: z) := by
 obtain ⟨h1, h2, h3⟩ := h
 match r, hr with
 | b :: r, _ =>
  obtain ⟨n, rfl⟩ : ∃ k, n = k + 1 := ⟨n - 1, by omega⟩
  have hb : ws.contains b = false := by
   cases hb : ws.contains b with
   | false => rfl
   | true =>
    have := (dropWhile_eq (ws.contains ·) r).2
    unfold Lib.trimLeftS at h1
    simp only [List.dropWhile_cons, hb, if_true] at h1
    rw [h1] at this
    simp at this; omega
  rw [List.take_succ_cons, List.cons_append]
  refine ⟨by unfold Lib.trimLeftS; simp only [List.dropWhile_cons, hb, Bool.false_eq_true, if_false], ?_, ?_⟩
  ·cases hh : Lib.hasPrefix (b :: (r.take n ++ 32 :: z)) [47, 47] with
   | false => rfl
   | true =>
    have h5 := hasPrefix_sp (a := 47) (b := 47) (x := b :: r.take n) (by simp) (by decide) (by rw [List.cons_append]; exact hh)
    rw [← List.take_succ_cons] at h5
    rw [hasPrefix_take h5] at h2; cases h2
  ·cases hh : Lib.hasPrefix (b :: (r.take n ++ 32 :: z)) [47, 42] with
   | false => rfl
   | true =>
    have h5 := hasPrefix_sp (a := 47) (b := 42) (x := b :: r.take n) (by simp) (by decide) (by rw [List.cons_append]; exact hh)
    rw [← List.take_succ_cons] at h5
    rw [hasPrefix_take h5] at h3; cases h3
theorem bl_sl {y : Bs} : Lib.trimLeftS (47 :: y) ws = 47 :: y := by unfold Lib.trimLeftS; rw [List.dropWhile_cons, if_neg (by decide)]
def Placed (s : Bs) (t : Tok) : Prop := t.at' < t.fin ∧ t.fin ≤ s.length ∧ Bare (s.drop t.at') ∧ nextF t.at' (s.drop t.at') true = .tok t
theorem room_of {a : Nat} {r : Bs} {room : Bool} {t : Tok} (h : nextF a r room = .tok t) : room = true := by
 cases room with
 | true => rfl
 | false =>
  rw [nextF_eq] at h
  split at h
  ·cases h
  ·rw [if_pos rfl] at h; cases h
theorem placed_of (s : Bs) : ∀ (f : Nat) (most : Int) (a : Nat) (l : List Tok) (p : Nat × Nat), allGo f most a (s.drop a) = (l, p) → a ≤ s.length → ∀ t ∈ l, Placed s t
 | 0, most, a, l, p, h, ha => by
  have : l = [] := (congrArg (fun x => x.1) h).symm
  subst this
  intro t ht; cases ht
 | f + 1, most, a, l, p, h, ha => by
  rw [allGo] at h
  split at h
  ·have : l = [] := (congrArg (fun x => x.1) h).symm
   subst this; intro t ht; cases ht
  ·rename_i hb
   obtain ⟨k, hk⟩ : ∃ k, blankF (s.drop a) = (true, k) := ⟨(blankF (s.drop a)).2, Prod.ext (by simpa using hb) rfl⟩
   obtain ⟨c1, c2, c3⟩ := blank_cut hk
   rw [List.length_drop] at c3
   rw [hk] at h
   simp only at h
   split at h
   ·have : l = [] := (congrArg (fun x => x.1) h).symm
    subst this; intro t ht; cases ht
   ·rename_i hnil
    rw [List.drop_drop] at h hnil c2
    have hpos := List.length_pos_iff.2 hnil
    split at h
    ·have : l = [] := (congrArg (fun x => x.1) h).symm
     subst this; intro t ht; cases ht
    ·rename_i t hx
     obtain ⟨t1, t2, t3⟩ := nextF_tok hpos hx
     rw [List.length_drop] at t3 hpos
     have hdr : (s.drop (a + k)).drop (t.fin - (a + k)) = s.drop t.fin := by rw [List.drop_drop]; congr 1; omega
     rw [hdr] at h
     have hl : l = t :: (allGo f (most - 1) t.fin (s.drop t.fin)).1 := (congrArg (fun x => x.1) h).symm
     subst hl
     have hroom := room_of hx
     rw [hroom] at hx
     intro t' ht'
     rcases List.mem_cons.1 ht' with rfl | ht'
     ·exact ⟨by omega, by omega, by rw [t1]; exact bare_of c2, by rw [t1]; exact hx⟩
     ·exact placed_of s f (most - 1) t.fin _ _ rfl (by omega) t' ht'
def keyT (t : Tok) : Nat × Bs × Int := (t.kind, t.text, t.n)
end Go.PM.Lex
end

section
set_option maxRecDepth 100000
namespace Go.PM.Lex
theorem pk_low1 {z : Bs} {c : UInt8} (hc : c.toNat < 128) : pk (c :: z) = ((c.toNat : Int), 1) := by
 have e : Lib.decodeL (c :: z) = (c.toNat, 1) := by
  rw [Lib.decodeL_N]; unfold Lib.decodeN; rw [if_pos (by simpa using hc)]; simp
 unfold pk
 rw [e, if_neg (by simp; omega)]
structure Fol (c : UInt8) (z : Bs) : Prop where
 low : c.toNat < 128
 let' : isLetter c.toNat = false
 dig : isDigit c.toNat = false
 dot : c = 46 → isLetter (pk z).1 = false
theorem Fol.pk {c : UInt8} {z : Bs} (h : Fol c z) : Lex.pk (c :: z) = ((c.toNat : Int), 1) := pk_low1 h.low
theorem blankGo_fuel : ∀ (f f' : Nat) (r : Bs), r.length < f → r.length < f' → blankGo f r = blankGo f' r
 | 0, f', r, h, h' => by omega
 | f + 1, 0, r, h, h' => by omega
 | f + 1, f' + 1, r, h, h' => by
  have hle := trim_le r
  cases h1 : Lib.hasPrefix (Lib.trimLeftS r ws) [47, 47] with
  | true =>
   have hl2 := (hasPrefix_two h1).1
   have h22 := indexByte_two (c := 10) h1 (by decide) (by decide)
   rw [blankGo_line h1 _ rfl, blankGo_line h1 _ rfl]
   rw [blankGo_fuel f f' _ (by rw [List.length_drop]; split <;> omega) (by rw [List.length_drop]; split <;> omega)]
  | false =>
   cases h2 : Lib.hasPrefix (Lib.trimLeftS r ws) [47, 42] with
   | true =>
    have hl2 := (hasPrefix_two h2).1
    by_cases h3 : Lib.index ((Lib.trimLeftS r ws).drop 2) [42, 47] < 0
    ·rw [blankGo_open h1 h2 h3, blankGo_open h1 h2 h3]
    ·have hi : Lib.index ((Lib.trimLeftS r ws).drop 2) [42, 47] = ((Lib.index ((Lib.trimLeftS r ws).drop 2) [42, 47]).toNat : Nat) := by omega
     rw [blankGo_rem h1 h2 _ hi, blankGo_rem h1 h2 _ hi, blankGo_fuel f f' _ (by rw [List.length_drop]; omega) (by rw [List.length_drop]; omega)]
   | false => rw [blankGo_end h1 h2, blankGo_end h1 h2]
theorem blankF_at {f : Nat} {r : Bs} (h : r.length < f) : blankGo f r = blankF r := blankGo_fuel _ _ r h (by omega)
theorem trim_app0 (r y : Bs) (h : Lib.trimLeftS r ws = []) : Lib.trimLeftS (r ++ y) ws = Lib.trimLeftS y ws := by
 induction r with
 | nil => rfl
 | cons b r ih =>
  unfold Lib.trimLeftS at *
  by_cases hb : ws.contains b = true
  ·simp only [List.cons_append, List.dropWhile_cons, hb, if_true] at h ⊢; exact ih h
  ·rw [List.dropWhile_cons, if_neg hb] at h; cases h
theorem blank_shift {r y : Bs} (h : Lib.trimLeftS r ws = []) : blankF (r ++ y) = ((blankF y).1, r.length + (blankF y).2) := by
 have ht := trim_app0 r y h
 have hle := trim_le y
 obtain ⟨f, hf⟩ : ∃ f, (r ++ y).length + 1 = f + 1 := ⟨_, rfl⟩
 rw [← blankF_at (f := (r ++ y).length + 1) (r := y) (by rw [List.length_append]; omega)]
 unfold blankF
 rw [hf]
 have hlen : (r ++ y).length = r.length + y.length := List.length_append
 cases h1 : Lib.hasPrefix (Lib.trimLeftS y ws) [47, 47] with
 | true =>
  rw [blankGo_line (r := r ++ y) (by rw [ht]; exact h1) _ rfl, blankGo_line h1 _ rfl, ht]
  refine Prod.ext rfl ?_
  simp only; omega
 | false =>
  cases h2 : Lib.hasPrefix (Lib.trimLeftS y ws) [47, 42] with
  | false =>
   rw [blankGo_end (r := r ++ y) (by rw [ht]; exact h1) (by rw [ht]; exact h2), blankGo_end h1 h2, ht]
   refine Prod.ext rfl ?_
   simp only; omega
  | true =>
   by_cases h3 : Lib.index ((Lib.trimLeftS y ws).drop 2) [42, 47] < 0
   ·rw [blankGo_open (r := r ++ y) (by rw [ht]; exact h1) (by rw [ht]; exact h2) (by rw [ht]; exact h3), blankGo_open h1 h2 h3, ht]
    refine Prod.ext rfl ?_
    simp only; omega
   ·have hi : Lib.index ((Lib.trimLeftS y ws).drop 2) [42, 47] = ((Lib.index ((Lib.trimLeftS y ws).drop 2) [42, 47]).toNat : Nat) := by omega
    rw [blankGo_rem (r := r ++ y) (by rw [ht]; exact h1) (by rw [ht]; exact h2) _ (by rw [ht]; exact hi), blankGo_rem h1 h2 _ hi, ht]
    refine Prod.ext rfl ?_
    simp only; omega
theorem next_shift {a a' : Nat} {r : Bs} {t : Tok} (h : nextF a r true = .tok t) : nextF a' r true = .tok ⟨t.kind, t.text, t.n, a', a' + (t.fin - a)⟩ := by
 rw [nextF_eq] at h ⊢
 split at h
 ·cases h
 ·rename_i g0
  rw [if_neg g0]
  rw [if_neg (by simp)] at h ⊢
  split at h
  ·rename_i g1
   rw [if_pos g1]
   cases h
   simp
  ·rename_i g1
   rw [if_neg g1]
   split at h
   ·rename_i g2
    rw [if_pos g2]
    unfold textR at h ⊢
    split at h
    ·cases h
    ·cases h; simp
   ·rename_i g2
    rw [if_neg g2]
    split at h
    ·rename_i g3
     rw [if_pos g3]
     unfold numberR at h ⊢
     split at h
     ·cases h
     ·cases h; simp
    ·rename_i g3
     rw [if_neg g3]
     cases h; simp
end Go.PM.Lex
end

section
set_option maxRecDepth 100000
namespace Go.PM.Lex
def sepB : Bs := [32, 47, 42, 32, 120, 32, 42, 47, 32]
def headB : Bs := [47, 47, 32, 98, 101, 103, 105, 110, 115, 10]
def rendB (s : Bs) : List Tok → Bs
 | [] => []
 | t :: l => sepB ++ (cut s t.at' t.fin ++ rendB s l)
def posB : Nat → List Tok → List Nat
 | _, [] => []
 | a, t :: l => (a + 9) :: posB (a + 9 + (t.fin - t.at')) l
theorem bl_sep {y : Bs} (hy : Bare y) : blankF (sepB ++ y) = (true, 9) := by
 have e : (sepB ++ y : Bs) = [32] ++ (47 :: ([42, 32, 120, 32, 42, 47, 32] ++ y)) := rfl
 rw [e, blank_shift (by decide)]
 have h2 : blankF (47 :: ([42, 32, 120, 32, 42, 47, 32] ++ y)) = (true, 8) := by
  unfold blankF
  rw [blankGo_rem (by rw [bl_sl]; rfl) (by rw [bl_sl]; rfl) 3 (by rw [bl_sl]; simp [Lib.index, List.isPrefixOf]), bl_sl]
  have e3 : (47 :: ([42, 32, 120, 32, 42, 47, 32] ++ y)).drop (3 + 4) = [32] ++ y := rfl
  rw [e3, blankF_at (by simp), blank_shift (by decide)]
  have e4 : blankF y = (true, 0) := bare_blank hy _
  rw [e4]
  refine Prod.ext rfl ?_
  simp
 rw [h2]; rfl
theorem bl_head (y : Bs) : blankF (headB ++ y) = ((blankF y).1, 10 + (blankF y).2) := by
 have e : (headB ++ y : Bs) = 47 :: ([47, 32, 98, 101, 103, 105, 110, 115, 10] ++ y) := rfl
 have h1 : blankF (headB ++ y) = ((blankF ([10] ++ y)).1, 9 + (blankF ([10] ++ y)).2) := by
  rw [← blankF_at (f := (headB ++ y).length) (r := [10] ++ y) (by simp [headB])]
  rw [e]
  unfold blankF
  rw [blankGo_line (by rw [bl_sl]; rfl) 9 (by rw [bl_sl]; simp [Lib.indexByte]), bl_sl]
  have e2 : (47 :: ([47, 32, 98, 101, 103, 105, 110, 115, 10] ++ y)).drop 9 = [10] ++ y := rfl
  rw [e2]
  refine Prod.ext rfl ?_
  simp only [Nat.sub_self, Nat.zero_add]
 rw [h1, blank_shift (by decide)]
 refine Prod.ext rfl ?_
 simp only [List.length_cons, List.length_nil]; omega
theorem all_head (g : Nat) (most : Int) (a : Nat) (y : Bs) : allGo (g + 1) most a (headB ++ y) = allGo (g + 1) most (a + 10) y := by
 rw [allGo, allGo, bl_head]
 simp only
 rw [show (headB ++ y).drop (10 + (blankF y).2) = y.drop (blankF y).2 by rw [← List.drop_drop]; rfl, show a + (10 + (blankF y).2) = a + 10 + (blankF y).2 by omega]
theorem rendB_all (s : Bs) : ∀ (l : List Tok), (∀ t ∈ l, Placed s t) → ∀ (f : Nat) (most : Int) (a : Nat), (rendB s l).length < f → (l.length : Int) ≤ most →
  ∃ l', allGo f most a (rendB s l) = (l', (0, 0)) ∧ l'.map keyT = l.map keyT ∧ l'.map Tok.at' = posB a l
 | [], _, 0, most, a, hf, hm => by omega
 | [], _, f + 1, most, a, hf, hm => by
  refine ⟨[], ?_, rfl, rfl⟩
  rw [allGo, show rendB s [] = [] from rfl, blankF_nil]
  simp
 | t :: l, hl, 0, most, a, hf, hm => by omega
 | t :: l, hl, f + 1, most, a, hf, hm => by
  obtain ⟨h1, h2, h3, h4⟩ := hl t (by simp)
  have hdl : (s.drop t.at').length = s.length - t.at' := List.length_drop
  have hx : cut s t.at' t.fin = (s.drop t.at').take (t.fin - t.at') := cut_mid
  have hxl : (cut s t.at' t.fin).length = t.fin - t.at' := by rw [hx, List.length_take, hdl]; omega
  have hne : cut s t.at' t.fin ≠ [] := fun g => by rw [g] at hxl; simp at hxl; omega
  have hn := next_take (by omega) h4
  rw [← hx] at hn
  have both : Bare (cut s t.at' t.fin ++ rendB s l) ∧ nextF (a + 9) (cut s t.at' t.fin ++ rendB s l) true = .tok ⟨t.kind, t.text, t.n, a + 9, a + 9 + (t.fin - t.at')⟩ := by
   cases l with
   | nil =>
    rw [show rendB s [] = [] from rfl, List.append_nil]
    refine ⟨?_, ?_⟩
    ·have hz := blank_zero_take (n := t.fin - t.at') (by omega) (by omega) (bare_blank h3 _ : blankF (s.drop t.at') = (true, 0))
     rw [← hx] at hz
     exact bare_of hz
    ·have := next_shift (a' := a + 9) hn
     simpa using this
   | cons u l =>
    have e : rendB s (u :: l) = 32 :: ([47, 42, 32, 120, 32, 42, 47, 32] ++ (cut s u.at' u.fin ++ rendB s l)) := rfl
    rw [e]
    refine ⟨?_, ?_⟩
    ·rw [hx]; exact bare_ext (by omega) (by omega) h3
    ·have := next_ext (n := 0) (a := a + 9) (z := [47, 42, 32, 120, 32, 42, 47, 32] ++ (cut s u.at' u.fin ++ rendB s l)) hne (by rw [hxl]; exact hn)
     rw [hxl] at this; exact this
  obtain ⟨hb, hn2⟩ := both
  have hbl := bl_sep hb
  have hlen : (rendB s (t :: l)).length = 9 + ((t.fin - t.at') + (rendB s l).length) := by
   rw [rendB, List.length_append, List.length_append, hxl]; rfl
  simp only [List.length_cons] at hm
  obtain ⟨l', e1, e2, e3⟩ := rendB_all s l (fun x hx => hl x (List.mem_cons_of_mem _ hx)) f (most - 1) (a + 9 + (t.fin - t.at')) (by omega) (by omega)
  refine ⟨⟨t.kind, t.text, t.n, a + 9, a + 9 + (t.fin - t.at')⟩ :: l', ?_, by simp only [List.map_cons, e2]; rfl, by simp only [List.map_cons, e3]; rfl⟩
  have hdrop : (sepB ++ (cut s t.at' t.fin ++ rendB s l)).drop 9 = cut s t.at' t.fin ++ rendB s l := rfl
  rw [allGo, rendB, hbl]
  simp only [Bool.true_eq_false, if_false, hdrop]
  rw [if_neg (by simp [hne]), show decide (0 < most) = true by simp; omega, hn2]
  simp only
  rw [show a + 9 + (t.fin - t.at') - (a + 9) = (cut s t.at' t.fin).length by omega, List.drop_left, e1]
theorem blankB_all {s : Bs} {M : Int} {l : List Tok} {p : Nat} (h : allF s M = (l, (p, 0))) (hM : (l.length : Int) ≤ M) : ∃ l', allF (headB ++ rendB s l) M = (l', (0, 0)) ∧ l'.map keyT = l.map keyT ∧ l'.map Tok.at' = posB 10 l := by
 have hp : ∀ t ∈ l, Placed s t := placed_of s _ M 0 l (p, 0) (by rw [List.drop_zero]; exact h) (by omega)
 unfold allF
 rw [all_head, ]
 exact rendB_all s l hp _ M 10 (by rw [List.length_append]; simp [headB]; omega) hM
end Go.PM.Lex
end

section
set_option maxRecDepth 100000
set_option maxHeartbeats 4000000
namespace Go.PM.Lex
open Go.Proofs
abbrev Fit {α : Type} (sz : α → Nat) (P : Ts → R α) : Prop := ∀ ts v ts', P ts = .ok v ts' → sz v + 4 * ts'.length ≤ 4 * ts.length
theorem tl_len {ts : Ts} {ws : List Bs} (h : isW ts ws = true) : ts.tail.length + 1 = ts.length := by obtain ⟨t, l, rfl⟩ := isW_pos h; rfl
theorem nm_len {ts : Ts} (h : namedF ts = true) : ts.tail.length + 1 = ts.length := by
 cases ts with
 | nil => exact absurd rfl (namedF_ne h)
 | cons t l => rfl
theorem tl_le (ts : Ts) : ts.tail.length ≤ ts.length := by rw [List.length_tail]; omega
theorem must_fit {w : Bs} {ts ts' : Ts} {u : Unit} (h : mustF w ts = .ok u ts') : ts'.length + 1 = ts.length := by
 unfold mustF at h
 split at h
 ·rename_i hc; cases h; exact tl_len hc
 ·cases h
theorem name_fit {ts ts' : Ts} {v : Bs} (h : nameP ts = .ok v ts') : ts'.length + 1 = ts.length := by
 unfold nameP at h
 split at h
 ·rename_i hc; cases h; exact nm_len hc
 ·cases h
theorem within_fit {α : Type} {d : Nat} {fr to : Bs} {read : Ts → R α} {ts ts' : Ts} {v : α} (h : withinF d fr to read ts = .ok v ts') : ∃ t1, read ts.tail = .ok v t1 ∧ ts.tail.length + 1 = ts.length ∧ ts'.length ≤ t1.length := by
 unfold withinF at h
 split at h
 ·rename_i hc
  split at h
  ·cases h
  ·obtain ⟨a, t1, h1, h2⟩ := R.bind_of h
   split at h2
   ·cases h2; exact ⟨_, h1, tl_len hc, Nat.le_refl _⟩
   ·obtain ⟨u, t2, h3, h4⟩ := R.bind_of h2
    cases h4
    have := must_fit h3
    exact ⟨_, h1, tl_len hc, by omega⟩
 ·cases h
theorem szS_snoc {α : Type} (f : α → Nat) (x : α) : ∀ l : List α, szS f (l ++ [x]) = szS f l + (1 + f x)
 | [] => by simp only [List.nil_append, szS]; omega
 | y :: l => by simp only [List.cons_append, szS, szS_snoc f x l]; omega
theorem manyGo_fit {α : Type} {sz : α → Nat} {sign : Bs} {most : Nat} {st : Ts → Bool} {one : Ts → R α} (h1 : Fit (fun x => 1 + sz x) one) : ∀ f l ts v ts', manyGo sign most st one f l ts = .ok v ts' → szS sz v + 4 * ts'.length ≤ szS sz l + 4 * ts.length
 | 0, _, _, _, _, h => by cases h
 | f + 1, l, ts, v, ts', h => by
  rw [manyGo] at h
  split at h
  ·cases h
  ·obtain ⟨x, t1, h2, h3⟩ := R.bind_of h
   have k := h1 _ _ _ h2
   dsimp only at k
   split at h3
   ·rename_i hc
    have k2 := manyGo_fit h1 f _ _ _ _ h3
    have k3 := tl_len hc
    rw [szS_snoc] at k2
    omega
   ·cases h3
    rw [szS_snoc]
    omega
theorem many_fit {α : Type} {sz : α → Nat} {sign : Bs} {most : Nat} {st : Ts → Bool} {one : Ts → R α} (h1 : Fit (fun x => 1 + sz x) one) : Fit (szS sz) (manyF sign most st one) := fun ts v ts' h => by
 have := manyGo_fit h1 _ _ _ _ _ h
 simpa [szS] using this
theorem field_fit : Fit (fun x => 1 + sz0 (α := Fi) x) fieldF := fun ts v ts' h => by
 obtain ⟨a, t1, h1, h⟩ := R.bind_of h
 obtain ⟨_, t2, h2, h⟩ := R.bind_of h
 obtain ⟨b, t3, h3, h⟩ := R.bind_of h
 cases h
 have := name_fit h1; have := must_fit h2; have := name_fit h3
 simp only [sz0]; omega
theorem nameS_fit : Fit (fun x => 1 + sz0 (α := Bs) x) nameP := fun ts v ts' h => by
 have := name_fit h
 simp only [sz0]; omega
theorem fields_fit (fin : Bs) : Fit (szS sz0) (fieldsF fin) := fun ts v ts' h => by
 unfold fieldsF at h
 split at h
 ·cases h; simp [szS]
 ·exact many_fit field_fit _ _ _ h
theorem names_fit : Fit (szS sz0) namesF := fun ts v ts' h => by
 unfold namesF at h
 split at h
 ·rename_i hc
  obtain ⟨a, t1, h1, h⟩ := R.bind_of h
  obtain ⟨_, t2, h2, h⟩ := R.bind_of h
  cases h
  have := many_fit nameS_fit _ _ _ h1; have := must_fit h2; have := tl_len hc
  omega
 ·cases h; simp [szS]
theorem case_fit : Fit (fun x => 1 + szCa x) caseF := fun ts v ts' h => by
 obtain ⟨a, t1, h1, h⟩ := R.bind_of h
 obtain ⟨_, t2, h2, h⟩ := R.bind_of h
 obtain ⟨b, t3, h3, h⟩ := R.bind_of h
 obtain ⟨_, t4, h4, h⟩ := R.bind_of h
 cases h
 have := name_fit h1; have := must_fit h2; have := fields_fit _ _ _ _ h3; have := must_fit h4
 simp only [szCa]; omega
theorem typed_fit : Fit (fun x => 1 + szTy x) typedF := fun ts v ts' h => by
 obtain ⟨a, t1, h1, h⟩ := R.bind_of h
 have := name_fit h1
 split at h
 ·rename_i hc
  obtain ⟨b, t3, h3, h⟩ := R.bind_of h
  cases h
  have := name_fit h3; have := tl_len hc
  simp only [szTy, szS]; omega
 ·obtain ⟨_, t2, h2, h⟩ := R.bind_of h
  have := must_fit h2
  split at h
  ·rename_i hc
   obtain ⟨b, t3, h3, h⟩ := R.bind_of h
   obtain ⟨_, t4, h4, h⟩ := R.bind_of h
   cases h
   have := fields_fit _ _ _ _ h3; have := must_fit h4; have := tl_len hc
   simp only [szTy, szS]; omega
  ·obtain ⟨b, t3, h3, h⟩ := R.bind_of h
   cases h
   have := many_fit case_fit _ _ _ h3
   simp only [szTy, szS]; omega
theorem flags_fit : ∀ (f : Nat) (i o n : Bool) (ts : Ts), (flagsGo f i o n ts).2.length ≤ ts.length
 | 0, i, o, n, ts => Nat.le_refl _
 | f + 1, i, o, n, ts => by
  rw [flagsGo]
  have := tl_le ts
  split
  ·exact Nat.le_trans (flags_fit f _ _ _ _) this
  ·split
   ·exact Nat.le_trans (flags_fit f _ _ _ _) this
   ·split
    ·exact Nat.le_trans (flags_fit f _ _ _ _) this
    ·exact Nat.le_refl _
theorem decl_fit : Fit (fun x => 1 + szRe x) declF := fun ts v ts' h => by
 obtain ⟨a, t1, h1, h⟩ := R.bind_of h
 obtain ⟨_, t2, h2, h⟩ := R.bind_of h
 obtain ⟨b, t3, h3, h⟩ := R.bind_of h
 obtain ⟨_, t4, h4, h⟩ := R.bind_of h
 have := name_fit h1; have := must_fit h2; have := fields_fit _ _ _ _ h3; have := must_fit h4
 have := flags_fit 4 false false false t4
 cases h
 simp only [szRe]; omega
abbrev FitE (P : Ts → R Ex) : Prop := Fit (fun v => szE v + 2) P
theorem fitE_ls {P : Ts → R Ex} (h : FitE P) : Fit (fun v => 1 + szE v) P := fun ts v ts' e => by have := h _ _ _ e; dsimp only at this ⊢; omega
theorem args_fit {d : Nat} {ex : Ts → R Ex} (h : FitE ex) (fr to : Bs) {ts ts' : Ts} {v : List Ex} (e : argsF d ex fr to ts = .ok v ts') : szS szE v + 4 + 4 * ts'.length ≤ 4 * ts.length := by
 unfold argsF at e
 obtain ⟨t1, h1, h2, h3⟩ := within_fit e
 split at h1
 ·cases h1; simp only [szS]; omega
 ·have := many_fit (fitE_ls h) _ _ _ h1
  omega
theorem callGo_fit {ex : Ts → R Ex} (h : FitE ex) : ∀ k l ts v ts', callGo ex k l ts = .ok v ts' → szS szE v + 4 * ts'.length ≤ szS szE l + 4 * ts.length
 | 0, l, ts, v, ts', e => by cases e; exact Nat.le_refl _
 | k + 1, l, ts, v, ts', e => by
  obtain ⟨_, t1, h1, e⟩ := R.bind_of e
  obtain ⟨x, t2, h2, e⟩ := R.bind_of e
  have k2 := callGo_fit h k _ _ _ _ e
  have k1 := h _ _ _ h2
  dsimp only at k1
  rw [szS_snoc] at k2
  have : t1.length ≤ ts.length := by
   split at h1
   ·cases h1; exact Nat.le_refl _
   ·have := must_fit h1; omega
  omega
theorem starts_len {ts : Ts} (h : ¬ startsF ts = false) : ts.tail.length + 1 = ts.length := by
 cases ts with
 | nil => exact absurd rfl h
 | cons t l => rfl
theorem szE_mk (o : Nat) (t : Bs) (n : Int) (l : List Ex) (a : Nat) : szE (.mk o t n l a) = 1 + szS szE l := by rw [szE, szEs_eq]
theorem primary_fit {d : Nat} {ex : Ts → R Ex} (h : FitE ex) : FitE (primaryF d ex) := fun ts v ts' e => by
 unfold primaryF at e
 split at e
 ·cases e
 rename_i hs
 have hl := starts_len hs
 split at e
 ·cases e; simp only [szE_mk, szS]; omega
 split at e
 ·cases e; simp only [szE_mk, szS]; omega
 split at e
 ·obtain ⟨t1, h1, h2, h3⟩ := within_fit e
  have := h _ _ _ h1
  dsimp only at this ⊢
  omega
 split at e
 ·obtain ⟨l, t1, h1, e⟩ := R.bind_of e
  cases e
  have := args_fit h _ _ h1
  simp only [szE_mk]; omega
 split at e
 ·obtain ⟨l, t1, h1, e⟩ := R.bind_of e
  have := name_fit h1
  split at e
  ·obtain ⟨l, t2, h2, e⟩ := R.bind_of e
   cases e
   have := args_fit h _ _ h2
   simp only [szE_mk]; omega
  ·cases e; simp only [szE_mk, szS]; omega
 split at e
 ·obtain ⟨l, t1, h1, e⟩ := R.bind_of e
  obtain ⟨t2, h2, h3, h4⟩ := within_fit h1
  cases e
  have := callGo_fit h _ _ _ _ _ h2
  simp only [szE_mk, szS] at *; omega
 split at e
 ·cases e; simp only [szE_mk, szS]; omega
 split at e
 ·cases e; simp only [szE_mk, szS]; omega
 ·cases e; simp only [szE_mk, szS]; omega
theorem bin_len {ts : Ts} (h : ¬ (binF ts).1 = 0) : ts.tail.length + 1 = ts.length := by
 obtain ⟨t, l, rfl⟩ := bin_pos h; rfl
theorem lineGo_fit {sub : Nat → Ts → R Ex} (h : ∀ n, FitE (sub n)) (least : Nat) : ∀ f e ts v ts', lineGo sub least f e ts = .ok v ts' → szE v + 4 * ts'.length ≤ szE e + 4 * ts.length
 | 0, _, _, _, _, k => by cases k
 | f + 1, e, ts, v, ts', k => by
  rw [lineGo] at k
  split at k
  ·cases k; exact Nat.le_refl _
  ·rename_i hc
   obtain ⟨g, t1, h1, k⟩ := R.bind_of k
   have k1 := h _ _ _ _ h1
   have k2 := lineGo_fit h least f _ _ _ _ k
   have k3 := bin_len (fun e => hc (.inr e))
   simp only [szE_mk, szS] at k2
   dsimp only at k1
   omega
theorem lineK_fit {sg : Ts → R Ex} (h : FitE sg) : ∀ k least, FitE (lineK sg k least)
 | 0, least => h
 | k + 1, least => fun ts v ts' e => by
  obtain ⟨a, t1, h1, e⟩ := R.bind_of e
  have k1 := h _ _ _ h1
  have k2 := lineGo_fit (fun n => lineK_fit h k n) _ _ _ _ _ _ e
  dsimp only at k1 ⊢
  omega
theorem signedF_fit {d : Nat} {sg : Ts → R Ex} (h : FitE sg) : FitE (signedF d sg) := fun ts v ts' e => by
 unfold signedF at e
 split at e
 ·obtain ⟨l, t1, h1, e⟩ := R.bind_of e
  obtain ⟨t2, h2, h3, h4⟩ := within_fit h1
  cases e
  have := h _ _ _ h2
  simp only [szE_mk, szS] at *; omega
 split at e
 ·obtain ⟨l, t1, h1, e⟩ := R.bind_of e
  obtain ⟨t2, h2, h3, h4⟩ := within_fit h1
  cases e
  have := h _ _ _ h2
  simp only [szE_mk, szS] at *; omega
 ·exact primary_fit (lineK_fit h 6 1) _ _ _ e
theorem signed_fit : ∀ d, FitE (signedD d)
 | 0 => signedF_fit fun _ _ _ e => by cases e
 | d + 1 => signedF_fit (signed_fit d)
theorem expr_fit (d : Nat) : FitE (exprD d) := lineK_fit (signed_fit d) 6 1
theorem exprB_fit : ∀ d, FitE (exprB d)
 | 0 => fun _ _ _ e => by cases e
 | d + 1 => expr_fit d
theorem idxW_ne {ts : Ts} : ∀ (ws : List Bs) (i j : Nat), idxW ts i ws = some j → ts.tail.length + 1 = ts.length
 | [], i, j, h => by cases h
 | w :: ws, i, j, h => by
  rw [idxW] at h
  split at h
  ·rename_i hc; exact tl_len hc
  ·exact idxW_ne ws _ _ h
theorem litOp_fit {ts ts' : Ts} {op : Nat} (h : litOp ts = .ok op ts') : ts'.length + 1 ≤ ts.length := by
 unfold litOp at h
 split at h
 ·cases h
 ·rename_i h1
  have := idxW_ne _ _ _ h1
  split at h
  ·cases h
   have := tl_le ts.tail
   omega
  ·cases h; omega
 ·rename_i h1
  have := idxW_ne _ _ _ h1
  cases h; omega
theorem szL_mk (o : Nat) (t : Bs) (l : List Ex) (b : List Li) (a : Nat) : szL (.mk o t l b a) = 1 + szS szE l + szS szL b := by rw [szL, szLs_eq]
theorem litAtom_fit {d op a : Nat} {ts ts' : Ts} {v : Li} (h : litAtom d op a ts = .ok v ts') : 1 + szL v + 4 * ts'.length ≤ 4 * ts.length := by
 obtain ⟨nm, t1, h1, h⟩ := R.bind_of h
 obtain ⟨l, t2, h2, h⟩ := R.bind_of h
 cases h
 have := name_fit h1; have := args_fit (exprB_fit d) _ _ h2
 simp only [szL_mk, szS]; omega
theorem litEnd_fit {d : Nat} {bd : Ts → R (List Li)} (hb : Fit (szS szL) bd) {a op : Nat} {l : List Ex} {ts ts' : Ts} {v : Li} (h : litEnd d bd a op l ts = .ok v ts') : szL v + 4 * ts'.length ≤ 1 + szS szE l + 4 * ts.length := by
 unfold litEnd at h
 split at h
 ·obtain ⟨_, t1, h1, h⟩ := R.bind_of h
  obtain ⟨b, t2, h2, h⟩ := R.bind_of h
  obtain ⟨t3, h3, h4, h5⟩ := within_fit h2
  cases h
  have := must_fit h1; have := hb _ _ _ h3
  simp only [szL_mk]; omega
 ·cases h; simp only [szL_mk, szS]; omega
theorem lit_fit {d : Nat} {bd : Ts → R (List Li)} (hb : Fit (szS szL) bd) : Fit (fun v => 1 + szL v) (litF d bd) := fun ts v ts' h => by
 unfold litF at h
 split at h
 ·rename_i hc
  have := tl_len hc; have := litAtom_fit h
  dsimp only; omega
 split at h
 ·exact litAtom_fit h
 ·obtain ⟨e, t1, h1, h⟩ := R.bind_of h
  obtain ⟨op, t2, h2, h⟩ := R.bind_of h
  have k1 := expr_fit _ _ _ _ h1; have k2 := litOp_fit h2
  split at h
  ·have k3 := litEnd_fit hb h
   simp only [szS] at k3 ⊢; dsimp only at k1; omega
  ·obtain ⟨g, t3, h3, h⟩ := R.bind_of h
   have k3 := expr_fit _ _ _ _ h3; have k4 := litEnd_fit hb h
   simp only [szS] at k4 ⊢; dsimp only at k1 k3; omega
theorem body_fit : ∀ d, Fit (szS szL) (bodyD d)
 | 0 => many_fit (lit_fit fun _ _ _ e => by cases e)
 | d + 1 => many_fit (lit_fit (body_fit d))
theorem rule_fit (d : Nat) (b : Bool) : Fit (fun v => 1 + szRu v) (ruleF d b) := fun ts v ts' h => by
 obtain ⟨nm, t1, h1, h⟩ := R.bind_of h
 obtain ⟨l, t2, h2, h⟩ := R.bind_of h
 have := name_fit h1; have := args_fit (exprB_fit d) _ _ h2
 split at h
 ·obtain ⟨b, t3, h3, h⟩ := R.bind_of h
  obtain ⟨_, t4, h4, h⟩ := R.bind_of h
  cases h
  have := body_fit _ _ _ _ h3; have := must_fit h4; have := tl_le t2
  simp only [szRu]; omega
 ·obtain ⟨_, t4, h4, h⟩ := R.bind_of h
  cases h
  have := must_fit h4
  simp only [szRu, szS]; omega
theorem szCo_mk (n : Bs) (p : List Bs) (b : Bs) (t : List Bs) (u : Un) (a : Nat) : szCo (.mk n p b t u a) = 1 + szS sz0 p + szS sz0 t + szUn u := by rw [szCo]
theorem szUn_mk (a1 a2 a3 a4 a5 a6) : szUn (.mk a1 a2 a3 a4 a5 a6) = 1 + szS szTy a1 + szS szRe a2 + szS szRu a3 + szS szCo a4 + szS szIn a5 + szS sz0 a6 := by rw [szUn, szCos_eq]
abbrev FitU (P : Ts → R Un) : Prop := ∀ ts v ts', P ts = .ok v ts' → szUn v + 4 * ts'.length ≤ 1 + 4 * ts.length
theorem comp_fit {d : Nat} {un : Ts → R Un} (hu : FitU un) : Fit (fun v => 1 + szCo v) (compF d un) := fun ts v ts' h => by
 obtain ⟨nm, t1, h1, h⟩ := R.bind_of h
 obtain ⟨ps, t2, h2, h⟩ := R.bind_of h
 have := name_fit h1; have := names_fit _ _ _ h2
 split at h
 ·rename_i hc
  obtain ⟨b, t3, h3, h⟩ := R.bind_of h
  obtain ⟨tys, t4, h4, h⟩ := R.bind_of h
  obtain ⟨u, t5, h5, h⟩ := R.bind_of h
  obtain ⟨t6, h6, h7, h8⟩ := within_fit h5
  cases h
  have := name_fit h3; have := names_fit _ _ _ h4; have := hu _ _ _ h6; have := tl_len hc
  simp only [szCo_mk]; omega
 ·obtain ⟨u, t5, h5, h⟩ := R.bind_of h
  obtain ⟨t6, h6, h7, h8⟩ := within_fit h5
  cases h
  have := hu _ _ _ h6
  simp only [szCo_mk, szS]; omega
theorem init_fit : Fit (fun v => 1 + szIn v) initF := fun ts v ts' h => by
 obtain ⟨nm, t1, h1, h⟩ := R.bind_of h
 obtain ⟨_, t2, h2, h⟩ := R.bind_of h
 obtain ⟨c, t3, h3, h⟩ := R.bind_of h
 obtain ⟨tys, t4, h4, h⟩ := R.bind_of h
 cases h
 have := name_fit h1; have := must_fit h2; have := name_fit h3; have := names_fit _ _ _ h4
 simp only [szIn]; omega
theorem over_fit : Fit (fun v => 1 + sz0 (α := Ov) v) overF := fun ts v ts' h => by
 obtain ⟨nm, t1, h1, h⟩ := R.bind_of h
 cases h
 have := name_fit h1
 simp only [sz0]; omega
theorem unitGo_fit {b : Bool} {d : Nat} {un : Ts → R Un} (hu : FitU un) : ∀ f u ts v ts', unitGo b d un f u ts = .ok v ts' → szUn v + 4 * ts'.length ≤ szUn u + 4 * ts.length
 | 0, u, ts, v, ts', h => by obtain ⟨a1, a2, a3, a4, a5, a6⟩ := u; cases h
 | f + 1, .mk tys rels rules comps inits overs, ts, v, ts', h => by
  rw [unitGo_eq] at h
  split at h
  ·cases h; exact Nat.le_refl _
  have ht := tl_le ts
  split at h
  ·split at h
   ·cases h
   ·obtain ⟨x, t1, h1, h⟩ := R.bind_of h
    have k1 := typed_fit _ _ _ h1; have k2 := unitGo_fit hu f _ _ _ _ h
    simp only [szUn_mk, szS_snoc] at k2 ⊢; dsimp only at k1; omega
  split at h
  ·split at h
   ·cases h
   ·obtain ⟨x, t1, h1, h⟩ := R.bind_of h
    have k1 := decl_fit _ _ _ h1; have k2 := unitGo_fit hu f _ _ _ _ h
    simp only [szUn_mk, szS_snoc] at k2 ⊢; dsimp only at k1; omega
  split at h
  ·split at h
   ·cases h
   ·obtain ⟨x, t1, h1, h⟩ := R.bind_of h
    have k1 := comp_fit hu _ _ _ h1; have k2 := unitGo_fit hu f _ _ _ _ h
    simp only [szUn_mk, szS_snoc] at k2 ⊢; dsimp only at k1; omega
  split at h
  ·split at h
   ·cases h
   ·obtain ⟨x, t1, h1, h⟩ := R.bind_of h
    have k1 := init_fit _ _ _ h1; have k2 := unitGo_fit hu f _ _ _ _ h
    simp only [szUn_mk, szS_snoc] at k2 ⊢; dsimp only at k1; omega
  split at h
  ·split at h
   ·cases h
   ·obtain ⟨x, t1, h1, h⟩ := R.bind_of h
    have k1 := over_fit _ _ _ h1; have k2 := unitGo_fit hu f _ _ _ _ h
    simp only [szUn_mk, szS_snoc] at k2 ⊢; dsimp only at k1; omega
  split at h
  ·split at h
   ·cases h
   ·obtain ⟨x, t1, h1, h⟩ := R.bind_of h
    have k1 := rule_fit _ _ _ _ _ h1; have k2 := unitGo_fit hu f _ _ _ _ h
    simp only [szUn_mk, szS_snoc] at k2 ⊢; dsimp only at k1; omega
  ·cases h
theorem szUn_nil : szUn .nil = 1 := by rw [Un.nil, szUn_mk]; rfl
theorem unitD_fit : ∀ d, FitU (unitD d)
 | 0 => fun ts v ts' h => by have := unitGo_fit (b := true) (d := 0) (un := fun _ => .err 0 150) (fun _ _ _ e => by cases e) _ _ _ _ _ h; rw [szUn_nil] at this; exact this
 | d + 1 => fun ts v ts' h => by have := unitGo_fit (unitD_fit d) _ _ _ _ _ h; rw [szUn_nil] at this; exact this
theorem unitTop_fit : FitU unitTop := fun ts v ts' h => by have := unitGo_fit (unitD_fit 63) _ _ _ _ _ h; rw [szUn_nil] at this; exact this
theorem unit_small {s : Bs} {v : Un} {L : List Tok} (h : readTop 65536 16384 unitTop s = .ok v L) : szUn v ≤ 65537 := by
 unfold readTop at h
 split at h
 ·cases h
 split at h
 ·cases h
 split at h
 ·rename_i h1
  cases h
  have k := unitTop_fit _ _ _ h1
  have k2 := allF_le s 16384
  rw [List.length_map] at k
  simp only [List.length_nil] at k
  have : ((16384 : Int)).toNat = 16384 := rfl
  have k3 : (allF s 16384).1.length ≤ 16384 := k2
  have k4 : (allF s ((16384 : Nat) : Int)).1.length ≤ 16384 := k3
  omega
 ·cases h
 ·cases h
theorem allS_er {α : Type} {er : α → α} {f : α → α → Bool} : ∀ (l m : List α), (∀ x ∈ l, ∀ y, er x = er y → f x y = true) → l.map er = m.map er → allS f l m = true
 | [], [], _, _ => rfl
 | [], _ :: _, _, h => by simp at h
 | _ :: _, [], _, h => by simp at h
 | x :: l, y :: m, hf, h => by
  simp only [List.map_cons, List.cons.injEq] at h
  rw [allS, hf x (List.mem_cons_self ..) y h.1, Bool.true_and]
  exact allS_er l m (fun z hz => hf z (List.mem_cons_of_mem _ hz)) h.2
theorem allS_refl {α : Type} {f : α → α → Bool} (hf : ∀ x, f x x = true) (l : List α) : allS f l l = true := by
 induction l with
 | nil => rfl
 | cons x l ih => rw [allS, hf, ih]; rfl
theorem eqB_refl (x : Bs) : eqB x x = true := by simp [eqB]
theorem sameFi_refl (x : Fi) : sameFi x x = true := by simp [sameFi]
theorem sameCa_refl (x : Ca) : sameCa x x = true := by simp [sameCa, allS_refl sameFi_refl]
theorem sameE_er : ∀ (n : Nat) (x : Ex), szE x < n → ∀ y, erE x = erE y → sameE x y = true
 | 0, _, h, _, _ => by omega
 | n + 1, .mk o1 t1 n1 l1 a1, hz, .mk o2 t2 n2 l2 a2, h => by
  simp only [erE, erEs_eq, Ex.mk.injEq] at h
  obtain ⟨rfl, rfl, rfl, h, -⟩ := h
  rw [szE_mk] at hz
  have : allS sameE l1 l2 = true := allS_er l1 l2 (fun x hx y e => by
   obtain ⟨i, hi, rfl⟩ := List.getElem_of_mem hx
   have := szS_get szE l1 i hi
   exact sameE_er n _ (by omega) y e) h
  simp [sameE, sameEs_eq, this]
theorem sameE_of {x y : Ex} (h : erE x = erE y) : sameE x y = true := sameE_er _ x (Nat.lt_succ_self _) y h
theorem sameL_er : ∀ (n : Nat) (x : Li), szL x < n → ∀ y, erL x = erL y → sameL x y = true
 | 0, _, h, _, _ => by omega
 | n + 1, .mk o1 t1 l1 b1 a1, hz, .mk o2 t2 l2 b2 a2, h => by
  simp only [erL, erLs_eq, Li.mk.injEq] at h
  obtain ⟨rfl, rfl, h, h2, -⟩ := h
  rw [szL_mk] at hz
  have e1 : allS sameE l1 l2 = true := allS_er l1 l2 (fun x hx y e => sameE_of e) (by first | exact h | (simpa [erEs_eq] using h))
  have e2 : allS sameL b1 b2 = true := allS_er b1 b2 (fun x hx y e => by
   obtain ⟨i, hi, rfl⟩ := List.getElem_of_mem hx
   have := szS_get szL b1 i hi
   exact sameL_er n _ (by omega) y e) h2
  simp [sameL, sameLs_eq, e1, e2]
theorem sameL_of {x y : Li} (h : erL x = erL y) : sameL x y = true := sameL_er _ x (Nat.lt_succ_self _) y h
theorem sameRu_of {x y : Ru} (h : erRu x = erRu y) : sameRu x y = true := by
 simp only [erRu, Ru.mk.injEq] at h
 obtain ⟨e1, e2, e3, -⟩ := h
 simp [sameRu, e1, allS_er (er := erE) _ _ (fun x hx y e => sameE_of e) e2, allS_er (er := erL) _ _ (fun x hx y e => sameL_of e) e3]
theorem sameTy_of {x y : Ty} (h : erTy x = erTy y) : sameTy x y = true := by
 simp only [erTy, Ty.mk.injEq] at h
 obtain ⟨e1, e2, e3, e4, e5, -⟩ := h
 simp [sameTy, e1, e2, e3, e4, e5, allS_refl sameFi_refl, allS_refl sameCa_refl]
theorem sameRe_of {x y : Re} (h : erRe x = erRe y) : sameRe x y = true := by
 simp only [erRe, Re.mk.injEq] at h
 obtain ⟨e1, e2, e3, e4, e5, -⟩ := h
 simp [sameRe, e1, e2, e3, e4, e5, allS_refl sameFi_refl]
theorem sameIn_of {x y : Ini} (h : erIn x = erIn y) : sameIn x y = true := by
 simp only [erIn, Ini.mk.injEq] at h
 obtain ⟨e1, e2, e3, -⟩ := h
 simp [sameIn, e1, e2, e3, allS_refl eqB_refl]
theorem sameOv_of {x y : Ov} (h : erOv x = erOv y) : sameOv x y = true := by
 simp only [erOv, Ov.mk.injEq] at h
 simp [sameOv, h.1]
theorem sameUn_er : ∀ (n : Nat) (x : Un), szUn x < n → ∀ y, erUn x = erUn y → sameUn x y = true
 | 0, _, h, _, _ => by omega
 | n + 1, .mk a1 a2 a3 a4 a5 a6, hz, .mk b1 b2 b3 b4 b5 b6, h => by
  simp only [erUn, erCos_eq, Un.mk.injEq] at h
  obtain ⟨e1, e2, e3, e4, e5, e6⟩ := h
  rw [szUn_mk] at hz
  have k4 : allS sameCo a4 b4 = true := allS_er a4 b4 (fun x hx y e => by
   obtain ⟨i, hi, rfl⟩ := List.getElem_of_mem hx
   have hg := szS_get szCo a4 i hi
   revert hg e
   generalize a4[i] = c
   intro e hg
   obtain ⟨n1, p1, c1, t1, u1, q1⟩ := c
   obtain ⟨n2, p2, c2, t2, u2, q2⟩ := y
   rw [szCo_mk] at hg
   simp only [erCo, Co.mk.injEq] at e
   obtain ⟨rfl, rfl, rfl, rfl, e, -⟩ := e
   have := sameUn_er n u1 (by omega) u2 e
   simp [sameCo, this, allS_refl eqB_refl]) e4
  simp [sameUn, sameCos_eq, k4, allS_er (er := erTy) _ _ (fun x hx y e => sameTy_of e) e1, allS_er (er := erRe) _ _ (fun x hx y e => sameRe_of e) e2, allS_er (er := erRu) _ _ (fun x hx y e => sameRu_of e) e3, allS_er (er := erIn) _ _ (fun x hx y e => sameIn_of e) e5, allS_er (er := erOv) _ _ (fun x hx y e => sameOv_of e) e6]
theorem sameUn_of {x y : Un} (h : erUn x = erUn y) : sameUn x y = true := sameUn_er _ x (Nat.lt_succ_self _) y h
end Go.PM.Lex
end

section
set_option maxRecDepth 100000
set_option maxHeartbeats 4000000
namespace Go.PM.Lex
open Go.Proofs
theorem t0_of_key {l m : List Tok} (h : l.map keyT = m.map keyT) : l.map Tok.t0 = m.map Tok.t0 := by
 have e : Tok.t0 = (fun k : Nat × Bs × Int => (⟨k.1, k.2.1, k.2.2⟩ : T0)) ∘ keyT := rfl
 rw [e, ← List.map_map, h, List.map_map]
theorem top_eq {s : Bs} {l : List Tok} {p : Nat} (hs : s.length ≤ 65536) (h : allF s 16384 = (l, (p, 0))) : readTop 65536 16384 unitTop s = match unitTop (l.map Tok.t0) with
  | .ok v [] => .ok v l
  | .ok v (_ :: ts) => .err (placeOf l s.length (ts.length + 1)) 150
  | .err r e => .err (placeOf l s.length r) e := by
 have h : allF s ((16384 : Nat) : Int) = (l, (p, 0)) := h
 unfold readTop
 rw [if_neg (by omega), h, if_neg (by simp)]
 dsimp only
 cases unitTop (l.map Tok.t0) with
 | ok v ts => cases ts <;> rfl
 | err r e => rfl
def plB (q : Int) : Nat → List Tok → Int → Int
 | _, [], pl => pl
 | a, t :: l, pl => plB q (a + 9 + (t.fin - t.at')) l (if (t.at' : Int) = q then ((a + 9 : Nat) : Int) else pl)
theorem chain_ge {s : Bs} {M : Int} : ∀ (l : List Tok) (b : Nat), Chain s M b l → ∀ t ∈ l, b ≤ t.at'
 | [], b, h, t, ht => by cases ht
 | u :: l, b, h, t, ht => by
  obtain ⟨h1, h2, h3, h4, h5, h6⟩ := h
  rcases List.mem_cons.1 ht with rfl | ht
  ·exact h1
  ·have := chain_ge l _ h6 t ht; omega
theorem chain_fin {s : Bs} {M : Int} : ∀ (l : List Tok) (b : Nat), Chain s M b l → ∀ t ∈ l, t.at' < t.fin ∧ t.fin ≤ s.length
 | [], b, h, t, ht => by cases ht
 | u :: l, b, h, t, ht => by
  obtain ⟨h1, h2, h3, h4, h5, h6⟩ := h
  rcases List.mem_cons.1 ht with rfl | ht
  ·exact ⟨h2, h3⟩
  ·exact chain_fin l _ h6 t ht
theorem chain_mono {s : Bs} {M : Int} : ∀ (l : List Tok) (b : Nat), Chain s M b l → ∀ (i j : Nat) (hij : i ≤ j) (hj : j < l.length), (l[i]'(by omega)).at' ≤ l[j].at'
 | [], b, h, i, j, hij, hj => by cases hj
 | u :: l, b, h, 0, 0, hij, hj => Nat.le_refl _
 | u :: l, b, h, 0, j + 1, hij, hj => by
  obtain ⟨h1, h2, h3, h4, h5, h6⟩ := h
  have := chain_ge l _ h6 _ (List.getElem_mem (show j < l.length by simpa using hj))
  simp only [List.getElem_cons_zero, List.getElem_cons_succ]
  omega
 | u :: l, b, h, i + 1, 0, hij, hj => by omega
 | u :: l, b, h, i + 1, j + 1, hij, hj => by
  obtain ⟨h1, h2, h3, h4, h5, h6⟩ := h
  simp only [List.getElem_cons_succ]
  exact chain_mono l _ h6 i j (by omega) (by simpa using hj)
theorem plB_miss {q : Int} : ∀ (l : List Tok) (a : Nat) (pl : Int), (∀ t ∈ l, (t.at' : Int) ≠ q) → plB q a l pl = pl
 | [], a, pl, h => rfl
 | t :: l, a, pl, h => by
  rw [plB, if_neg (h t (List.mem_cons_self ..))]
  exact plB_miss l _ _ fun u hu => h u (List.mem_cons_of_mem _ hu)
theorem plB_hit {s : Bs} {M q : Int} : ∀ (l : List Tok) (b a : Nat) (pl : Int) (i : Nat) (hi : i < l.length), Chain s M b l → (l[i].at' : Int) = q → ∃ k, (posB a l)[i]? = some k ∧ plB q a l pl = (k : Int)
 | [], b, a, pl, i, hi, hc, hq => by cases hi
 | t :: l, b, a, pl, 0, hi, hc, hq => by
  obtain ⟨h1, h2, h3, h4, h5, h6⟩ := hc
  simp only [List.getElem_cons_zero] at hq
  refine ⟨a + 9, rfl, ?_⟩
  rw [plB, if_pos hq]
  exact plB_miss l _ _ fun u hu e => by have := chain_ge l _ h6 u hu; omega
 | t :: l, b, a, pl, i + 1, hi, hc, hq => by
  obtain ⟨h1, h2, h3, h4, h5, h6⟩ := hc
  simp only [List.getElem_cons_succ] at hq
  obtain ⟨k, e1, e2⟩ := plB_hit l _ (a + 9 + (t.fin - t.at')) (if (t.at' : Int) = q then ((a + 9 : Nat) : Int) else pl) i (by simpa using hi) h6 hq
  exact ⟨k, by rw [posB, List.getElem?_cons_succ]; exact e1, by rw [plB]; exact e2⟩
theorem blank_place {s t : Bs} {l l' : List Tok} (hc : Chain s 16384 0 l) (he : l'.map Tok.at' = posB 10 l) (r : Nat) :
  (l = [] → placeOf l' t.length r = t.length) ∧ ∀ tk, l[l.length - 1]? = some tk → ((tk.at' : Int) < placeOf l s.length r → placeOf l' t.length r = t.length) ∧ (¬ (tk.at' : Int) < placeOf l s.length r → placeOf l' t.length r = plB (placeOf l s.length r) 10 l 0) := by
 have hlen : l'.length = l.length := by
  have := congrArg List.length he
  rw [List.length_map] at this
  rw [this]
  have : ∀ (m : List Tok) (a : Nat), (posB a m).length = m.length := fun m => by
   induction m with
   | nil => intro a; rfl
   | cons x m ih => intro a; simp [posB, ih]
  exact this l 10
 have hE : ∀ (m : List Tok) (en : Int), ¬ m.length - r < m.length → placeOf m en r = en := fun m en h => by
  unfold placeOf
  rw [List.drop_eq_nil_of_le (by omega)]
 have hP : ∀ (m : List Tok) (en : Int) (h : m.length - r < m.length), placeOf m en r = (m[m.length - r].at' : Int) := fun m en h => by
  unfold placeOf
  rw [List.drop_eq_getElem_cons h]
 refine ⟨fun h0 => hE _ _ (by rw [hlen, h0]; simp), fun tk htk => ?_⟩
 obtain ⟨hl1, rfl⟩ := List.getElem?_eq_some_iff.1 htk
 by_cases hb : l.length - r < l.length
 ·rw [hP l _ hb]
  have hm := chain_mono l 0 hc (l.length - r) (l.length - 1) (by omega) (by omega)
  refine ⟨fun h => by omega, fun h => ?_⟩
  obtain ⟨k, k1, k2⟩ := plB_hit (q := (l[l.length - r].at' : Int)) l 0 10 0 (l.length - r) hb hc rfl
  rw [k2, hP l' _ (by omega)]
  rw [← he, List.getElem?_map] at k1
  obtain ⟨u, hu, e⟩ := Option.map_eq_some_iff.1 k1
  obtain ⟨hu1, hu2⟩ := List.getElem?_eq_some_iff.1 hu
  rw [← e, ← hu2]
  congr 2
  simp only [hlen]
 ·rw [hE l _ hb, hE l' _ (by omega)]
  have := chain_fin l 0 hc _ (List.getElem_mem hl1)
  exact ⟨fun _ => rfl, fun h => by omega⟩
theorem blank_law {s t : Bs} {l : List Tok} {p : Nat} (h : allF s 16384 = (l, (p, 0))) (hs : s.length ≤ 20000) (ht : t = headB ++ rendB s l) (htl : t.length ≤ 65536) :
  (∀ v L, readTop 65536 16384 unitTop s = .ok v L → ∃ L', readTop 65536 16384 unitTop t = .ok v L') ∧
  (∀ q e, readTop 65536 16384 unitTop s = .err q e → (l = [] → readTop 65536 16384 unitTop t = .err t.length e) ∧ ∀ tk, l[l.length - 1]? = some tk → ((tk.at' : Int) < q → readTop 65536 16384 unitTop t = .err t.length e) ∧ (¬ (tk.at' : Int) < q → readTop 65536 16384 unitTop t = .err (plB q 10 l 0) e)) := by
 have hc : Chain s 16384 0 l := by
  have := all_chain (s := s) (M := 16384) (by decide) (by rw [h])
  rw [h] at this; exact this
 have hl : (l.length : Int) ≤ 16384 := by
  have := allF_le s 16384
  rw [h] at this
  have : l.length ≤ 16384 := this
  omega
 obtain ⟨l', e1, e2, e3⟩ := blankB_all h hl
 rw [← ht] at e1
 rw [top_eq (by omega) h, top_eq htl e1, t0_of_key e2]
 have hp := fun r => blank_place (t := t) hc e3 r
 cases hx : unitTop (l.map Tok.t0) with
 | ok v ts =>
  cases ts with
  | nil => exact ⟨fun w L e => by cases e; exact ⟨_, rfl⟩, fun q e he => by cases he⟩
  | cons u ts =>
   refine ⟨fun w L e => (by cases e), fun q e he => ?_⟩
   cases he
   obtain ⟨p1, p2⟩ := hp (ts.length + 1)
   exact ⟨fun h0 => by simp only [p1 h0], fun tk hk => ⟨fun hlt => by simp only [(p2 tk hk).1 hlt], fun hlt => by simp only [(p2 tk hk).2 hlt]⟩⟩
 | err r e0 =>
  refine ⟨fun w L e => (by cases e), fun q e he => ?_⟩
  cases he
  obtain ⟨p1, p2⟩ := hp r
  exact ⟨fun h0 => by simp only [p1 h0], fun tk hk => ⟨fun hlt => by simp only [(p2 tk hk).1 hlt], fun hlt => by simp only [(p2 tk hk).2 hlt]⟩⟩
end Go.PM.Lex
end

section
set_option maxRecDepth 100000
set_option maxHeartbeats 4000000
namespace Go.PM.Lex
open Go.Proofs
variable {w0 : World} {nG : Nat}
noncomputable def tblkRels (n : Nat) : Tbl := [(100, spL2 encFi sameFi n)]
theorem kRels_ok {n : Nat} (ht : TblOK (GG w0 nG) (tblkRels n)) : PCalls (GG w0 nG) 43 (spLS encRe sameRe szRe n) := by
 refine pcalls tab_ok mixed (tbl := (tblkRels n)) ht Tryz.func43 rfl (by kernel_rfl) (by kernel_rfl) ?_
 intro args σ K h
 unfold spLS at h
 split at h
 ·obtain ⟨p1, l1, p2, l2, rfl, rfl, ⟨rfl, hz, hn⟩, h⟩ := h
  have h := h _ rfl
  have hlen1 : (l1.map (encRe p1)).length = l1.length := List.length_map ..
  have hlen2 : (l2.map (encRe p2)).length = l2.length := List.length_map ..
  have hsz := szS_len szRe l1
  refine ⟨loopsOf [(4, ⟨[7], [0, 1, 2], fun vs σ => ∃ i : Nat, vs = [.d (.int .i64 i)] ∧ σ = ⟨[], [], 0⟩ ∧ i ≤ l1.length ∧ allS sameRe l1 l2 = allS sameRe (l1.drop i) (l2.drop i), fun vs _ => match vs with | [.d (.int _ i)] => ((l1.length : Int) - i).toNat | _ => 0⟩)], 0, false, by simp, Nat.le_of_ble_eq_true rfl, ?_⟩
  conv => whnf
  refine CondP.ndec (fun hc => ?_) (fun hc => ?_)
  ·have hc : l1.length ≠ l2.length := fun g => hc (by show ((l1.map (encRe p1)).length : Int) = (l2.map (encRe p2)).length; rw [hlen1, hlen2, g])
   rw [allS_ne _ _ _ hc] at h
   conv => whnf
   exact h
  have hc : l1.length = l2.length := by have hc : ((l1.map (encRe p1)).length : Int) = (l2.map (encRe p2)).length := hc; rw [hlen1, hlen2] at hc; omega
  conv => whnf
  refine ⟨⟨0, rfl, rfl, by omega, rfl⟩, ?_⟩
  intro vs σ hI
  obtain ⟨i, rfl, rfl, hi, hs⟩ := hI
  conv => whnf
  refine CondP.dec (fun hi2 => ?_) (fun hi2 => ?_)
  rotate_left
  ·have hi2 : l1.length ≤ i := by have hi2 : ¬ (i : Int) < (l1.map (encRe p1)).length := hi2; rw [hlen1] at hi2; omega
   rw [allS_end _ hi2 (by omega)] at hs
   rw [hs] at h
   conv => whnf
   exact h
  have hi2 : i < l1.length := by have hi2 : (i : Int) < (l1.map (encRe p1)).length := hi2; rw [hlen1] at hi2; omega
  have hi3 : i < l2.length := by omega
  have hg := szS_get szRe l1 i hi2
  rw [allS_drop _ hi2 hi3] at hs
  obtain ⟨eA, hA⟩ : ∃ e, l1[i] = e := ⟨_, rfl⟩
  obtain ⟨eB, hB⟩ : ∃ e, l2[i] = e := ⟨_, rfl⟩
  obtain ⟨a1, a2, a3, a4, a5, a6⟩ := eA
  obtain ⟨b1, b2, b3, b4, b5, b6⟩ := eB
  have hr1 : (l1.map (encRe p1))[((i : Nat) : Int).toNat]? = some ((encRe p1) (⟨a1, a2, a3, a4, a5, a6⟩ : Re)) := by simp [hi2, hA]
  have hr2 : (l2.map (encRe p2))[((i : Nat) : Int).toNat]? = some ((encRe p2) (⟨b1, b2, b3, b4, b5, b6⟩ : Re)) := by simp [hi3, hB]
  rw [hA, hB] at hs
  rw [hA] at hg
  simp only [szRe] at hg
  have hneg : sameRe (⟨a1, a2, a3, a4, a5, a6⟩ : Re) (⟨b1, b2, b3, b4, b5, b6⟩ : Re) = false → K (.ret (.d (.bool false))) ⟨[], [], 0⟩ := fun he => by rw [hs, he, Bool.false_and] at h; exact h
  conv => whnf
  (repeat (first | (refine ⟨_, by omega, hr1, ?_⟩; conv => whnf) | (refine ⟨_, by omega, hr2, ?_⟩; conv => whnf)))
  refine ⟨?_, ?_, trivial⟩
  ·conv => whnf
   (repeat (first | (refine ⟨?_, trivial⟩; conv => whnf) | (refine ⟨rfl, ?_⟩; conv => whnf)))
   refine CondP.ndec (fun hc1 => ?_) (fun hc1 => ?_)
   ·(conv => whnf); exact hneg (by simp [sameRe, hc1])
   (try dsimp only at hc1)
   conv => whnf
   refine CondP.ndec (fun hc2 => ?_) (fun hc2 => ?_)
   ·(conv => whnf); exact hneg (by simp [sameRe, hc2])
   (try dsimp only at hc2)
   conv => whnf
   refine CondP.ndec (fun hc3 => ?_) (fun hc3 => ?_)
   ·(conv => whnf); exact hneg (by simp [sameRe, hc3])
   (try dsimp only at hc3)
   conv => whnf
   refine CondP.ndec (fun hc4 => ?_) (fun hc4 => ?_)
   ·(conv => whnf); exact hneg (by simp [sameRe, hc4])
   (try dsimp only at hc4)
   conv => whnf
   refine ⟨a2, b2, rfl, rfl, ⟨by omega, by omega⟩, fun b_5 hb5 => ?_⟩
   cases b_5 with
   | false =>
    conv => whnf
    (repeat (refine ⟨rfl, ?_⟩; conv => whnf))
    exact hneg (by simp [sameRe, hb5])
   | true =>
    conv => whnf
    (repeat (refine ⟨rfl, ?_⟩; conv => whnf))
    have he : sameRe (⟨a1, a2, a3, a4, a5, a6⟩ : Re) (⟨b1, b2, b3, b4, b5, b6⟩ : Re) = true := by simp [sameRe, hc1, hc2, hc3, hc4, hb5]
    rw [he, Bool.true_and] at hs
    refine Or.inl ⟨InR.i64 (by omega) (by omega), ?_⟩
    conv => whnf
    refine ⟨⟨i + 1, rfl, rfl, by omega, hs⟩, ?_⟩
    show ((l1.length : Int) - ((i : Int) + 1)).toNat < ((l1.length : Int) - (i : Int)).toNat
    omega
  ·conv => whnf
   (repeat (first | (refine ⟨?_, trivial⟩; conv => whnf) | (refine ⟨rfl, ?_⟩; conv => whnf)))
   refine CondP.ndec (fun hc1 => ?_) (fun hc1 => ?_)
   ·(conv => whnf); exact hneg (by simp [sameRe, hc1])
   (try dsimp only at hc1)
   conv => whnf
   refine CondP.ndec (fun hc2 => ?_) (fun hc2 => ?_)
   ·(conv => whnf); exact hneg (by simp [sameRe, hc2])
   (try dsimp only at hc2)
   conv => whnf
   refine CondP.ndec (fun hc3 => ?_) (fun hc3 => ?_)
   ·(conv => whnf); exact hneg (by simp [sameRe, hc3])
   (try dsimp only at hc3)
   conv => whnf
   refine CondP.ndec (fun hc4 => ?_) (fun hc4 => ?_)
   ·(conv => whnf); exact hneg (by simp [sameRe, hc4])
   (try dsimp only at hc4)
   conv => whnf
   refine ⟨a2, b2, rfl, rfl, ⟨by omega, by omega⟩, fun b_5 hb5 => ?_⟩
   cases b_5 with
   | false =>
    conv => whnf
    (repeat (refine ⟨rfl, ?_⟩; conv => whnf))
    exact hneg (by simp [sameRe, hb5])
   | true =>
    conv => whnf
    (repeat (refine ⟨rfl, ?_⟩; conv => whnf))
    have he : sameRe (⟨a1, a2, a3, a4, a5, a6⟩ : Re) (⟨b1, b2, b3, b4, b5, b6⟩ : Re) = true := by simp [sameRe, hc1, hc2, hc3, hc4, hb5]
    rw [he, Bool.true_and] at hs
    refine Or.inl ⟨InR.i64 (by omega) (by omega), ?_⟩
    conv => whnf
    refine ⟨⟨i + 1, rfl, rfl, by omega, hs⟩, ?_⟩
    show ((l1.length : Int) - ((i : Int) + 1)).toNat < ((l1.length : Int) - (i : Int)).toNat
    omega
 ·exact h.elim
noncomputable def tblkTypes (n : Nat) : Tbl := [(100, spL2 encFi sameFi n)]
theorem kTypes_ok {n : Nat} (ht : TblOK (GG w0 nG) (tblkTypes n)) : PCalls (GG w0 nG) 42 (spLS encTy sameTy szTy n) := by
 refine pcallsN tab_ok mixed (tbl := (tblkTypes n)) ht Tryz.func42 rfl (by kernel_rfl) (by kernel_rfl) ?_
 intro args σ K h
 unfold spLS at h
 split at h
 ·obtain ⟨p1, l1, p2, l2, rfl, rfl, ⟨rfl, hz, hn⟩, h⟩ := h
  have h := h _ rfl
  have hlen1 : (l1.map (encTy p1)).length = l1.length := List.length_map ..
  have hlen2 : (l2.map (encTy p2)).length = l2.length := List.length_map ..
  have hsz := szS_len szTy l1
  refine ⟨loopsOf [(4, ⟨[7], [0, 1, 2], fun vs σ => ∃ i : Nat, vs = [.d (.int .i64 i)] ∧ σ = ⟨[], [], 0⟩ ∧ i ≤ l1.length ∧ allS sameTy l1 l2 = allS sameTy (l1.drop i) (l2.drop i), fun vs _ => match vs with | [.d (.int _ i)] => ((l1.length : Int) - i).toNat | _ => 0⟩), (10, ⟨[10], [0, 1, 2, 7, 8, 9], fun vs σ => ∃ (i k x y : Nat) (a1 : Nat) (a2 a3 : Bs) (a4 : List Fi) (a5 : List Ca) (a6 : Nat) (b1 : Nat) (b2 b3 : Bs) (b4 : List Fi) (b5 : List Ca) (b6 : Nat), vs = [.d (.sl (l1.map (encTy p1))), .d (.sl (l2.map (encTy p2))), .d (.bool false), .d (.int .i64 i), .ptr x 0, .ptr y 0, .d (.int .i64 k)] ∧ ((x = 0 ∧ y = 1 ∧ σ = ⟨[.cells 57 ((encTy p1 (⟨a1, a2, a3, a4, a5, a6⟩ : Ty)).map .d), .cells 57 ((encTy p2 (⟨b1, b2, b3, b4, b5, b6⟩ : Ty)).map .d)], [], 0⟩) ∨ (x = 1 ∧ y = 0 ∧ σ = ⟨[.cells 57 ((encTy p2 (⟨b1, b2, b3, b4, b5, b6⟩ : Ty)).map .d), .cells 57 ((encTy p1 (⟨a1, a2, a3, a4, a5, a6⟩ : Ty)).map .d)], [], 0⟩)) ∧ i < l1.length ∧ (k ≤ a5.length ∧ a5.length = b5.length ∧ szS szCa a5 ≤ n) ∧ allS sameTy l1 l2 = (allS sameCa (a5.drop k) (b5.drop k) && allS sameTy (l1.drop (i + 1)) (l2.drop (i + 1))), fun vs _ => match vs with | [_, _, _, _, _, _, .d (.int _ k)] => ((n : Int) - k).toNat | _ => 0⟩)], unrOf [], tieOf [10], 0, false, by simp, Nat.le_of_ble_eq_true rfl, ?_⟩
  conv => whnf
  refine CondP.ndec (fun hc => ?_) (fun hc => ?_)
  ·have hc : l1.length ≠ l2.length := fun g => hc (by show ((l1.map (encTy p1)).length : Int) = (l2.map (encTy p2)).length; rw [hlen1, hlen2, g])
   rw [allS_ne _ _ _ hc] at h
   conv => whnf
   exact h
  have hc : l1.length = l2.length := by have hc : ((l1.map (encTy p1)).length : Int) = (l2.map (encTy p2)).length := hc; rw [hlen1, hlen2] at hc; omega
  conv => whnf
  refine ⟨⟨0, rfl, rfl, by omega, rfl⟩, ?_⟩
  intro vs σ hI
  obtain ⟨i, rfl, rfl, hi, hs⟩ := hI
  conv => whnf
  refine CondP.dec (fun hi2 => ?_) (fun hi2 => ?_)
  rotate_left
  ·have hi2 : l1.length ≤ i := by have hi2 : ¬ (i : Int) < (l1.map (encTy p1)).length := hi2; rw [hlen1] at hi2; omega
   rw [allS_end _ hi2 (by omega)] at hs
   rw [hs] at h
   conv => whnf
   exact h
  have hi2 : i < l1.length := by have hi2 : (i : Int) < (l1.map (encTy p1)).length := hi2; rw [hlen1] at hi2; omega
  have hi3 : i < l2.length := by omega
  have hg := szS_get szTy l1 i hi2
  rw [allS_drop _ hi2 hi3] at hs
  obtain ⟨eA, hA⟩ : ∃ e, l1[i] = e := ⟨_, rfl⟩
  obtain ⟨eB, hB⟩ : ∃ e, l2[i] = e := ⟨_, rfl⟩
  obtain ⟨a1, a2, a3, a4, a5, a6⟩ := eA
  obtain ⟨b1, b2, b3, b4, b5, b6⟩ := eB
  have hr1 : (l1.map (encTy p1))[((i : Nat) : Int).toNat]? = some ((encTy p1) (⟨a1, a2, a3, a4, a5, a6⟩ : Ty)) := by simp [hi2, hA]
  have hr2 : (l2.map (encTy p2))[((i : Nat) : Int).toNat]? = some ((encTy p2) (⟨b1, b2, b3, b4, b5, b6⟩ : Ty)) := by simp [hi3, hB]
  rw [hA, hB] at hs
  rw [hA] at hg
  simp only [szTy] at hg
  have hneg : sameTy (⟨a1, a2, a3, a4, a5, a6⟩ : Ty) (⟨b1, b2, b3, b4, b5, b6⟩ : Ty) = false → K (.ret (.d (.bool false))) ⟨[], [], 0⟩ := fun he => by rw [hs, he, Bool.false_and] at h; exact h
  conv => whnf
  (repeat (first | (refine ⟨_, by omega, hr1, ?_⟩; conv => whnf) | (refine ⟨_, by omega, hr2, ?_⟩; conv => whnf)))
  refine ⟨?_, ?_, trivial⟩
  ·conv => whnf
   (repeat (first | (refine ⟨?_, trivial⟩; conv => whnf) | (refine ⟨rfl, ?_⟩; conv => whnf)))
   refine CondP.ndec (fun hc1 => ?_) (fun hc1 => ?_)
   ·(conv => whnf); exact hneg (by simp [sameTy, hc1])
   (try dsimp only at hc1)
   conv => whnf
   refine CondP.ndec (fun hc2 => ?_) (fun hc2 => ?_)
   ·(conv => whnf); exact hneg (by simp [sameTy, hc2])
   (try dsimp only at hc2)
   conv => whnf
   refine CondP.ndec (fun hc3 => ?_) (fun hc3 => ?_)
   ·(conv => whnf); exact hneg (by simp [sameTy, hc3])
   (try dsimp only at hc3)
   conv => whnf
   refine ⟨a4, b4, rfl, rfl, ⟨by omega, by omega⟩, fun b_4 hb4 => ?_⟩
   cases b_4 with
   | false =>
    conv => whnf
    (repeat (refine ⟨rfl, ?_⟩; conv => whnf))
    exact hneg (by simp [sameTy, hb4])
   | true =>
    conv => whnf
    (repeat (refine ⟨rfl, ?_⟩; conv => whnf))
    have hl5 : (a5.map encCa).length = a5.length := List.length_map ..
    have hm5 : (b5.map encCa).length = b5.length := List.length_map ..
    refine CondP.ndec (fun hc9 => ?_) (fun hc9 => ?_)
    ·have hc9 : a5.length ≠ b5.length := fun g => hc9 (by show ((a5.map encCa).length : Int) = (b5.map encCa).length; rw [hl5, hm5, g])
     (conv => whnf); exact hneg (by simp [sameTy, allS_ne sameCa _ _ hc9])
    have hc9 : a5.length = b5.length := by have hc9 : ((a5.map encCa).length : Int) = (b5.map encCa).length := hc9; rw [hl5, hm5] at hc9; omega
    have hs5 := szS_len szCa a5
    have he : sameTy (⟨a1, a2, a3, a4, a5, a6⟩ : Ty) (⟨b1, b2, b3, b4, b5, b6⟩ : Ty) = allS sameCa a5 b5 := by simp [sameTy, hc1, hc2, hc3, hb4]
    rw [he] at hs
    conv => whnf
    first
     | refine ⟨⟨i, 0, 0, 1, a1, a2, a3, a4, a5, a6, b1, b2, b3, b4, b5, b6, rfl, .inl ⟨rfl, rfl, rfl⟩, hi2, ⟨by omega, hc9, by omega⟩, hs⟩, ?_⟩
     | refine ⟨⟨i, 0, 1, 0, a1, a2, a3, a4, a5, a6, b1, b2, b3, b4, b5, b6, rfl, .inr ⟨rfl, rfl, rfl⟩, hi2, ⟨by omega, hc9, by omega⟩, hs⟩, ?_⟩
    intro vs' σ' hI'
    obtain ⟨i', j, x', y', a1', a2', a3', a4', a5', a6', b1', b2', b3', b4', b5', b6', hvs, hσ, hi', ⟨hj, hlen5, hz5⟩, hs'⟩ := hI'
    have ex : (some (PV.ptr 0 0) : Option PV) = some (PV.ptr x' 0) := congrArg (fun l : List PV => l[4]?) hvs
    have ei : (some (PV.d (D.int IntKind.i64 (i : Int))) : Option PV) = some (PV.d (D.int IntKind.i64 (i' : Int))) := congrArg (fun l : List PV => l[3]?) hvs
    simp only [Option.some.injEq, PV.ptr.injEq, PV.d.injEq, D.int.injEq, and_true, true_and] at ex ei
    obtain rfl : i' = i := by omega
    have hvs : vs' = [.d (.int .i64 j)] := congrArg (List.drop 6) hvs
    subst hvs
    have hσ : σ' = ⟨[.cells 57 ((encTy p1 (⟨a1', a2', a3', a4', a5', a6'⟩ : Ty)).map .d), .cells 57 ((encTy p2 (⟨b1', b2', b3', b4', b5', b6'⟩ : Ty)).map .d)], [], 0⟩ := by rcases hσ with ⟨e1, e2, e3⟩ | ⟨e1, e2, e3⟩ <;> first | exact e3 | (exfalso; omega)
    subst hσ
    have hl5 : (a5'.map encCa).length = a5'.length := List.length_map ..
    conv => whnf
    refine CondP.dec (fun hj2 => ?_) (fun hj2 => ?_)
    rotate_left
    ·have hj2 : a5'.length ≤ j := by have hj2 : ¬ (j : Int) < (a5'.map encCa).length := hj2; rw [hl5] at hj2; omega
     rw [allS_end _ hj2 (by omega), Bool.true_and] at hs'
     conv => whnf
     refine Or.inl ⟨InR.i64 (by omega) (by omega), ?_⟩
     conv => whnf
     refine ⟨⟨i' + 1, rfl, rfl, by omega, hs'⟩, ?_⟩
     show ((l1.length : Int) - ((i' : Int) + 1)).toNat < ((l1.length : Int) - (i' : Int)).toNat
     omega
    have hj2 : j < a5'.length := by have hj2 : (j : Int) < (a5'.map encCa).length := hj2; rw [hl5] at hj2; omega
    have hj3 : j < b5'.length := by omega
    have hg5 := szS_get szCa a5' j hj2
    have hs5' := szS_len szCa a5'
    rw [allS_drop _ hj2 hj3] at hs'
    obtain ⟨eAc, hAc⟩ : ∃ e, a5'[j] = e := ⟨_, rfl⟩
    obtain ⟨eBc, hBc⟩ : ∃ e, b5'[j] = e := ⟨_, rfl⟩
    obtain ⟨a1c, a2c⟩ := eAc
    obtain ⟨b1c, b2c⟩ := eBc
    have hr1c : (a5'.map encCa)[((j : Nat) : Int).toNat]? = some (encCa (⟨a1c, a2c⟩ : Ca)) := by simp [hj2, hAc]
    have hr2c : (b5'.map encCa)[((j : Nat) : Int).toNat]? = some (encCa (⟨b1c, b2c⟩ : Ca)) := by simp [hj3, hBc]
    rw [hAc, hBc] at hs'
    rw [hAc] at hg5
    simp only [szCa] at hg5
    have hneg : sameCa (⟨a1c, a2c⟩ : Ca) (⟨b1c, b2c⟩ : Ca) = false → K (.ret (.d (.bool false))) ⟨[], [], 0⟩ := fun he => by rw [hs', he, Bool.false_and, Bool.false_and] at h; exact h
    conv => whnf
    (repeat (first | (refine ⟨_, by omega, hr1c, ?_⟩; conv => whnf) | (refine ⟨_, by omega, hr2c, ?_⟩; conv => whnf)))
    refine CondP.ndec (fun hd1 => ?_) (fun hd1 => ?_)
    ·(conv => whnf); exact hneg (by simp [sameCa, hd1])
    (try dsimp only at hd1)
    conv => whnf
    (repeat (first | (refine ⟨_, by omega, hr1c, ?_⟩; conv => whnf) | (refine ⟨_, by omega, hr2c, ?_⟩; conv => whnf)))
    refine ⟨a2c, b2c, rfl, rfl, ⟨by omega, by omega⟩, fun bb hbb => ?_⟩
    cases bb with
    | false =>
     conv => whnf
     (repeat (refine ⟨rfl, ?_⟩; conv => whnf))
     exact hneg (by simp [sameCa, hbb])
    | true =>
     conv => whnf
     (repeat (refine ⟨rfl, ?_⟩; conv => whnf))
     have he : sameCa (⟨a1c, a2c⟩ : Ca) (⟨b1c, b2c⟩ : Ca) = true := by simp [sameCa, hd1, hbb]
     rw [he, Bool.true_and] at hs'
     refine Or.inl ⟨InR.i64 (by omega) (by omega), ?_⟩
     conv => whnf
     first
      | refine ⟨⟨i', j + 1, 0, 1, a1', a2', a3', a4', a5', a6', b1', b2', b3', b4', b5', b6', rfl, .inl ⟨rfl, rfl, rfl⟩, hi', ⟨by omega, hlen5, by omega⟩, hs'⟩, ?_⟩
      | refine ⟨⟨i', j + 1, 1, 0, a1', a2', a3', a4', a5', a6', b1', b2', b3', b4', b5', b6', rfl, .inr ⟨rfl, rfl, rfl⟩, hi', ⟨by omega, hlen5, by omega⟩, hs'⟩, ?_⟩
     show ((n : Int) - ((j : Int) + 1)).toNat < ((n : Int) - (j : Int)).toNat
     omega
  ·conv => whnf
   (repeat (first | (refine ⟨?_, trivial⟩; conv => whnf) | (refine ⟨rfl, ?_⟩; conv => whnf)))
   refine CondP.ndec (fun hc1 => ?_) (fun hc1 => ?_)
   ·(conv => whnf); exact hneg (by simp [sameTy, hc1])
   (try dsimp only at hc1)
   conv => whnf
   refine CondP.ndec (fun hc2 => ?_) (fun hc2 => ?_)
   ·(conv => whnf); exact hneg (by simp [sameTy, hc2])
   (try dsimp only at hc2)
   conv => whnf
   refine CondP.ndec (fun hc3 => ?_) (fun hc3 => ?_)
   ·(conv => whnf); exact hneg (by simp [sameTy, hc3])
   (try dsimp only at hc3)
   conv => whnf
   refine ⟨a4, b4, rfl, rfl, ⟨by omega, by omega⟩, fun b_4 hb4 => ?_⟩
   cases b_4 with
   | false =>
    conv => whnf
    (repeat (refine ⟨rfl, ?_⟩; conv => whnf))
    exact hneg (by simp [sameTy, hb4])
   | true =>
    conv => whnf
    (repeat (refine ⟨rfl, ?_⟩; conv => whnf))
    have hl5 : (a5.map encCa).length = a5.length := List.length_map ..
    have hm5 : (b5.map encCa).length = b5.length := List.length_map ..
    refine CondP.ndec (fun hc9 => ?_) (fun hc9 => ?_)
    ·have hc9 : a5.length ≠ b5.length := fun g => hc9 (by show ((a5.map encCa).length : Int) = (b5.map encCa).length; rw [hl5, hm5, g])
     (conv => whnf); exact hneg (by simp [sameTy, allS_ne sameCa _ _ hc9])
    have hc9 : a5.length = b5.length := by have hc9 : ((a5.map encCa).length : Int) = (b5.map encCa).length := hc9; rw [hl5, hm5] at hc9; omega
    have hs5 := szS_len szCa a5
    have he : sameTy (⟨a1, a2, a3, a4, a5, a6⟩ : Ty) (⟨b1, b2, b3, b4, b5, b6⟩ : Ty) = allS sameCa a5 b5 := by simp [sameTy, hc1, hc2, hc3, hb4]
    rw [he] at hs
    conv => whnf
    first
     | refine ⟨⟨i, 0, 0, 1, a1, a2, a3, a4, a5, a6, b1, b2, b3, b4, b5, b6, rfl, .inl ⟨rfl, rfl, rfl⟩, hi2, ⟨by omega, hc9, by omega⟩, hs⟩, ?_⟩
     | refine ⟨⟨i, 0, 1, 0, a1, a2, a3, a4, a5, a6, b1, b2, b3, b4, b5, b6, rfl, .inr ⟨rfl, rfl, rfl⟩, hi2, ⟨by omega, hc9, by omega⟩, hs⟩, ?_⟩
    intro vs' σ' hI'
    obtain ⟨i', j, x', y', a1', a2', a3', a4', a5', a6', b1', b2', b3', b4', b5', b6', hvs, hσ, hi', ⟨hj, hlen5, hz5⟩, hs'⟩ := hI'
    have ex : (some (PV.ptr 1 0) : Option PV) = some (PV.ptr x' 0) := congrArg (fun l : List PV => l[4]?) hvs
    have ei : (some (PV.d (D.int IntKind.i64 (i : Int))) : Option PV) = some (PV.d (D.int IntKind.i64 (i' : Int))) := congrArg (fun l : List PV => l[3]?) hvs
    simp only [Option.some.injEq, PV.ptr.injEq, PV.d.injEq, D.int.injEq, and_true, true_and] at ex ei
    obtain rfl : i' = i := by omega
    have hvs : vs' = [.d (.int .i64 j)] := congrArg (List.drop 6) hvs
    subst hvs
    have hσ : σ' = ⟨[.cells 57 ((encTy p2 (⟨b1', b2', b3', b4', b5', b6'⟩ : Ty)).map .d), .cells 57 ((encTy p1 (⟨a1', a2', a3', a4', a5', a6'⟩ : Ty)).map .d)], [], 0⟩ := by rcases hσ with ⟨e1, e2, e3⟩ | ⟨e1, e2, e3⟩ <;> first | exact e3 | (exfalso; omega)
    subst hσ
    have hl5 : (a5'.map encCa).length = a5'.length := List.length_map ..
    conv => whnf
    refine CondP.dec (fun hj2 => ?_) (fun hj2 => ?_)
    rotate_left
    ·have hj2 : a5'.length ≤ j := by have hj2 : ¬ (j : Int) < (a5'.map encCa).length := hj2; rw [hl5] at hj2; omega
     rw [allS_end _ hj2 (by omega), Bool.true_and] at hs'
     conv => whnf
     refine Or.inl ⟨InR.i64 (by omega) (by omega), ?_⟩
     conv => whnf
     refine ⟨⟨i' + 1, rfl, rfl, by omega, hs'⟩, ?_⟩
     show ((l1.length : Int) - ((i' : Int) + 1)).toNat < ((l1.length : Int) - (i' : Int)).toNat
     omega
    have hj2 : j < a5'.length := by have hj2 : (j : Int) < (a5'.map encCa).length := hj2; rw [hl5] at hj2; omega
    have hj3 : j < b5'.length := by omega
    have hg5 := szS_get szCa a5' j hj2
    have hs5' := szS_len szCa a5'
    rw [allS_drop _ hj2 hj3] at hs'
    obtain ⟨eAc, hAc⟩ : ∃ e, a5'[j] = e := ⟨_, rfl⟩
    obtain ⟨eBc, hBc⟩ : ∃ e, b5'[j] = e := ⟨_, rfl⟩
    obtain ⟨a1c, a2c⟩ := eAc
    obtain ⟨b1c, b2c⟩ := eBc
    have hr1c : (a5'.map encCa)[((j : Nat) : Int).toNat]? = some (encCa (⟨a1c, a2c⟩ : Ca)) := by simp [hj2, hAc]
    have hr2c : (b5'.map encCa)[((j : Nat) : Int).toNat]? = some (encCa (⟨b1c, b2c⟩ : Ca)) := by simp [hj3, hBc]
    rw [hAc, hBc] at hs'
    rw [hAc] at hg5
    simp only [szCa] at hg5
    have hneg : sameCa (⟨a1c, a2c⟩ : Ca) (⟨b1c, b2c⟩ : Ca) = false → K (.ret (.d (.bool false))) ⟨[], [], 0⟩ := fun he => by rw [hs', he, Bool.false_and, Bool.false_and] at h; exact h
    conv => whnf
    (repeat (first | (refine ⟨_, by omega, hr1c, ?_⟩; conv => whnf) | (refine ⟨_, by omega, hr2c, ?_⟩; conv => whnf)))
    refine CondP.ndec (fun hd1 => ?_) (fun hd1 => ?_)
    ·(conv => whnf); exact hneg (by simp [sameCa, hd1])
    (try dsimp only at hd1)
    conv => whnf
    (repeat (first | (refine ⟨_, by omega, hr1c, ?_⟩; conv => whnf) | (refine ⟨_, by omega, hr2c, ?_⟩; conv => whnf)))
    refine ⟨a2c, b2c, rfl, rfl, ⟨by omega, by omega⟩, fun bb hbb => ?_⟩
    cases bb with
    | false =>
     conv => whnf
     (repeat (refine ⟨rfl, ?_⟩; conv => whnf))
     exact hneg (by simp [sameCa, hbb])
    | true =>
     conv => whnf
     (repeat (refine ⟨rfl, ?_⟩; conv => whnf))
     have he : sameCa (⟨a1c, a2c⟩ : Ca) (⟨b1c, b2c⟩ : Ca) = true := by simp [sameCa, hd1, hbb]
     rw [he, Bool.true_and] at hs'
     refine Or.inl ⟨InR.i64 (by omega) (by omega), ?_⟩
     conv => whnf
     first
      | refine ⟨⟨i', j + 1, 0, 1, a1', a2', a3', a4', a5', a6', b1', b2', b3', b4', b5', b6', rfl, .inl ⟨rfl, rfl, rfl⟩, hi', ⟨by omega, hlen5, by omega⟩, hs'⟩, ?_⟩
      | refine ⟨⟨i', j + 1, 1, 0, a1', a2', a3', a4', a5', a6', b1', b2', b3', b4', b5', b6', rfl, .inr ⟨rfl, rfl, rfl⟩, hi', ⟨by omega, hlen5, by omega⟩, hs'⟩, ?_⟩
     show ((n : Int) - ((j : Int) + 1)).toNat < ((n : Int) - (j : Int)).toNat
     omega
 ·exact h.elim
noncomputable def spKU (n : Nat) : Spec := fun args σ K => match args, σ with
 | [.agg c1, .agg c2, .d (.bool at')], ⟨[], [], 0⟩ => ∃ pl1 x1 pl2 x2, c1 = (encUn pl1 x1).map .d ∧ c2 = (encUn pl2 x2).map .d ∧ (at' = false ∧ szUn x1 ≤ n ∧ n ≤ 1099511627776) ∧ ∀ b, sameUn x1 x2 = b → K (.ret (.d (.bool b))) ⟨[], [], 0⟩
 | _, _ => False
theorem spKU_mono (n : Nat) : SpecMono (spKU n) := fun args σ K K' hK h => by
 unfold spKU at h ⊢
 split at h
 ·obtain ⟨p1, l1, p2, l2, h1, h2, h3, h4⟩ := h
  exact ⟨p1, l1, p2, l2, h1, h2, h3, fun b hb => hK _ _ (h4 b hb)⟩
 ·exact h.elim
noncomputable def tblkUnit (n : Nat) : Tbl := [(42, spLS encTy sameTy szTy n), (43, spLS encRe sameRe szRe n), (44, spLS encRu sameRu szRu n), (45, spL2 encBs eqB n), (17, spB spKU n)]
theorem kUnit_ok {n : Nat} (ht : TblOK (GG w0 nG) (tblkUnit n)) : PCalls (GG w0 nG) 17 (spKU n) := by
 refine pcalls tab_ok mixed (tbl := tblkUnit n) ht Tryz.func17 rfl (by kernel_rfl) (by kernel_rfl) ?_
 intro args σ K h
 unfold spKU at h
 split at h
 ·obtain ⟨p1, ⟨a1, a2, a3, a4, a5, a6⟩, p2, ⟨b1, b2, b3, b4, b5, b6⟩, rfl, rfl, ⟨rfl, hz, hn⟩, h⟩ := h
  have h := h _ rfl
  simp only [szUn, szCos_eq] at hz
  have e4 : ∀ (p : Pl) (l : List Co), (encCos p l).length = l.length := fun p l => by rw [encCos_eq, List.length_map]
  have e5 : ∀ (p : Pl) (l : List Ini), (l.map (encIn p)).length = l.length := fun p l => List.length_map ..
  have e6 : ∀ (p : Pl) (l : List Ov), (l.map (encOv p)).length = l.length := fun p l => List.length_map ..
  have z4 := szS_len szCo a4
  have z5 := szS_len szIn a5
  have z6 := szS_len (sz0 (α := Ov)) a6
  refine ⟨loopsOf [(4, ⟨[7], [2, 3, 4], fun vs σ => ∃ i : Nat, vs = [.d (.int .i64 i)] ∧ σ = ⟨[.cells 29 ((encUn p1 (.mk a1 a2 a3 a4 a5 a6)).map .d), .cells 29 ((encUn p2 (.mk b1 b2 b3 b4 b5 b6)).map .d)], [], 0⟩ ∧ i ≤ a4.length ∧ sameUn (.mk a1 a2 a3 a4 a5 a6) (.mk b1 b2 b3 b4 b5 b6) = (allS sameCo (a4.drop i) (b4.drop i) && (allS sameIn a5 b5 && allS sameOv a6 b6)), fun vs _ => match vs with | [.d (.int _ i)] => ((a4.length : Int) - i).toNat | _ => 0⟩), (10, ⟨[10], [2, 3, 4], fun vs σ => ∃ i : Nat, vs = [.d (.int .i64 i)] ∧ σ = ⟨[.cells 29 ((encUn p1 (.mk a1 a2 a3 a4 a5 a6)).map .d), .cells 29 ((encUn p2 (.mk b1 b2 b3 b4 b5 b6)).map .d)], [], 0⟩ ∧ i ≤ a5.length ∧ sameUn (.mk a1 a2 a3 a4 a5 a6) (.mk b1 b2 b3 b4 b5 b6) = (allS sameIn (a5.drop i) (b5.drop i) && allS sameOv a6 b6), fun vs _ => match vs with | [.d (.int _ i)] => ((a5.length : Int) - i).toNat | _ => 0⟩), (16, ⟨[13], [2, 3, 4], fun vs σ => ∃ i : Nat, vs = [.d (.int .i64 i)] ∧ σ = ⟨[.cells 29 ((encUn p1 (.mk a1 a2 a3 a4 a5 a6)).map .d), .cells 29 ((encUn p2 (.mk b1 b2 b3 b4 b5 b6)).map .d)], [], 0⟩ ∧ i ≤ a6.length ∧ sameUn (.mk a1 a2 a3 a4 a5 a6) (.mk b1 b2 b3 b4 b5 b6) = (allS sameOv (a6.drop i) (b6.drop i)), fun vs _ => match vs with | [.d (.int _ i)] => ((a6.length : Int) - i).toNat | _ => 0⟩)], 0, false, by simp, Nat.le_of_ble_eq_true rfl, ?_⟩
  have hneg0 : sameUn (.mk a1 a2 a3 a4 a5 a6) (.mk b1 b2 b3 b4 b5 b6) = false → K (.ret (.d (.bool false))) ⟨[], [], 0⟩ := fun he => by rw [he] at h; exact h
  conv => whnf
  refine ⟨p1, a1, p2, b1, rfl, rfl, ⟨rfl, by omega, by omega⟩, fun bq hq1 => ?_⟩
  cases bq with
  | false =>
   conv => whnf
   exact hneg0 (by simp [sameUn, hq1])
  | true =>
   conv => whnf
   refine ⟨p1, a2, p2, b2, rfl, rfl, ⟨rfl, by omega, by omega⟩, fun bq hq2 => ?_⟩
   cases bq with
   | false =>
    conv => whnf
    exact hneg0 (by simp [sameUn, hq2])
   | true =>
    conv => whnf
    refine ⟨p1, a3, p2, b3, rfl, rfl, ⟨rfl, by omega, by omega⟩, fun bq hq3 => ?_⟩
    cases bq with
    | false =>
     conv => whnf
     exact hneg0 (by simp [sameUn, hq3])
    | true =>
     conv => whnf
     refine CondP.ndec (fun hl0 => ?_) (fun hl0 => ?_)
     ·have hl0 : a4.length ≠ b4.length := fun g => hl0 (by show ((encCos p1 a4).length : Int) = (encCos p2 b4).length; rw [e4, e4, g])
      (conv => whnf); exact hneg0 (by simp [sameUn, sameCos_eq, allS_ne sameCo _ _ hl0])
     have hl0 : a4.length = b4.length := by have hl0 : ((encCos p1 a4).length : Int) = (encCos p2 b4).length := hl0; rw [e4, e4] at hl0; omega
     conv => whnf
     refine CondP.ndec (fun hl1 => ?_) (fun hl1 => ?_)
     ·have hl1 : a5.length ≠ b5.length := fun g => hl1 (by show ((a5.map (encIn p1)).length : Int) = (b5.map (encIn p2)).length; rw [e5, e5, g])
      (conv => whnf); exact hneg0 (by simp [sameUn, allS_ne sameIn _ _ hl1])
     have hl1 : a5.length = b5.length := by have hl1 : ((a5.map (encIn p1)).length : Int) = (b5.map (encIn p2)).length := hl1; rw [e5, e5] at hl1; omega
     conv => whnf
     refine CondP.ndec (fun hl2 => ?_) (fun hl2 => ?_)
     ·have hl2 : a6.length ≠ b6.length := fun g => hl2 (by show ((a6.map (encOv p1)).length : Int) = (b6.map (encOv p2)).length; rw [e6, e6, g])
      (conv => whnf); exact hneg0 (by simp [sameUn, allS_ne sameOv _ _ hl2])
     have hl2 : a6.length = b6.length := by have hl2 : ((a6.map (encOv p1)).length : Int) = (b6.map (encOv p2)).length := hl2; rw [e6, e6] at hl2; omega
     conv => whnf
     have hs0 : sameUn (.mk a1 a2 a3 a4 a5 a6) (.mk b1 b2 b3 b4 b5 b6) = (allS sameCo a4 b4 && (allS sameIn a5 b5 && allS sameOv a6 b6)) := by simp [sameUn, sameCos_eq, hq1, hq2, hq3]
     refine ⟨⟨0, rfl, rfl, by omega, hs0⟩, ?_⟩
     intro vs σ hI
     obtain ⟨i, rfl, rfl, hi, hs⟩ := hI
     conv => whnf
     refine CondP.dec (fun hi2 => ?_) (fun hi2 => ?_)
     ·have hi2 : i < a4.length := by have hi2 : (i : Int) < (encCos p1 a4).length := hi2; rw [e4] at hi2; omega
      have hi3 : i < b4.length := by omega
      have hg := szS_get szCo a4 i hi2
      rw [allS_drop _ hi2 hi3] at hs
      obtain ⟨eA, hA⟩ : ∃ e, a4[i] = e := ⟨_, rfl⟩
      obtain ⟨eB, hB⟩ : ∃ e, b4[i] = e := ⟨_, rfl⟩
      obtain ⟨a1e, a2e, a3e, a4e, ⟨u1, u2, u3, u4, u5, u6⟩, a6e⟩ := eA
      obtain ⟨b1e, b2e, b3e, b4e, ⟨v1, v2, v3, v4, v5, v6⟩, b6e⟩ := eB
      have hr1 : (encCos p1 a4)[((i : Nat) : Int).toNat]? = some (encCo p1 (.mk a1e a2e a3e a4e (.mk u1 u2 u3 u4 u5 u6) a6e)) := by rw [encCos_eq]; simp [hi2, hA]
      have hr2 : (encCos p2 b4)[((i : Nat) : Int).toNat]? = some (encCo p2 (.mk b1e b2e b3e b4e (.mk v1 v2 v3 v4 v5 v6) b6e)) := by rw [encCos_eq]; simp [hi3, hB]
      rw [hA, hB] at hs
      rw [hA] at hg
      simp only [szCo] at hg
      have hneg : sameCo (.mk a1e a2e a3e a4e (.mk u1 u2 u3 u4 u5 u6) a6e) (.mk b1e b2e b3e b4e (.mk v1 v2 v3 v4 v5 v6) b6e) = false → K (.ret (.d (.bool false))) ⟨[], [], 0⟩ := fun he => by rw [he] at hs; simp only [Bool.false_and] at hs; exact hneg0 hs
      conv => whnf
      (repeat (first | (refine ⟨_, by omega, hr1, ?_⟩; conv => whnf) | (refine ⟨_, by omega, hr2, ?_⟩; conv => whnf)))
      refine ⟨?_, ?_, trivial⟩
      ·conv => whnf
       (repeat (first | (refine ⟨?_, trivial⟩; conv => whnf) | (refine ⟨rfl, ?_⟩; conv => whnf)))
       refine CondP.ndec (fun hc1 => ?_) (fun hc1 => ?_)
       ·(conv => whnf); exact hneg (by simp [sameCo, hc1])
       (try dsimp only at hc1)
       conv => whnf
       refine CondP.ndec (fun hc2 => ?_) (fun hc2 => ?_)
       ·(conv => whnf); exact hneg (by simp [sameCo, hc2])
       (try dsimp only at hc2)
       conv => whnf
       refine ⟨a2e, b2e, rfl, rfl, ⟨by omega, by omega⟩, fun b_3 hb3 => ?_⟩
       cases b_3 with
       | false =>
        conv => whnf
        (repeat (refine ⟨rfl, ?_⟩; conv => whnf))
        exact hneg (by simp [sameCo, hb3])
       | true =>
        conv => whnf
        (repeat (refine ⟨rfl, ?_⟩; conv => whnf))
        refine ⟨a4e, b4e, rfl, rfl, ⟨by omega, by omega⟩, fun b_4 hb4 => ?_⟩
        cases b_4 with
        | false =>
         conv => whnf
         (repeat (refine ⟨rfl, ?_⟩; conv => whnf))
         exact hneg (by simp [sameCo, hb4])
        | true =>
         conv => whnf
         (repeat (refine ⟨rfl, ?_⟩; conv => whnf))
         refine ⟨by omega, p1, (.mk u1 u2 u3 u4 u5 u6), p2, (.mk v1 v2 v3 v4 v5 v6), rfl, rfl, ⟨rfl, by simp only [szUn] at hg ⊢; omega, by omega⟩, fun b_5 hb5 => ?_⟩
         cases b_5 with
         | false =>
          conv => whnf
          (repeat (refine ⟨rfl, ?_⟩; conv => whnf))
          exact hneg (by simp [sameCo, hb5])
         | true =>
          conv => whnf
          (repeat (refine ⟨rfl, ?_⟩; conv => whnf))
          have he : sameCo (.mk a1e a2e a3e a4e (.mk u1 u2 u3 u4 u5 u6) a6e) (.mk b1e b2e b3e b4e (.mk v1 v2 v3 v4 v5 v6) b6e) = true := by simp [sameCo, hc1, hc2, hb3, hb4, hb5]
          rw [he, Bool.true_and] at hs
          refine Or.inl ⟨InR.i64 (by omega) (by omega), ?_⟩
          conv => whnf
          refine ⟨⟨i + 1, rfl, rfl, by omega, hs⟩, ?_⟩
          show ((a4.length : Int) - ((i : Int) + 1)).toNat < ((a4.length : Int) - (i : Int)).toNat
          omega
      ·conv => whnf
       (repeat (first | (refine ⟨?_, trivial⟩; conv => whnf) | (refine ⟨rfl, ?_⟩; conv => whnf)))
       refine CondP.ndec (fun hc1 => ?_) (fun hc1 => ?_)
       ·(conv => whnf); exact hneg (by simp [sameCo, hc1])
       (try dsimp only at hc1)
       conv => whnf
       refine CondP.ndec (fun hc2 => ?_) (fun hc2 => ?_)
       ·(conv => whnf); exact hneg (by simp [sameCo, hc2])
       (try dsimp only at hc2)
       conv => whnf
       refine ⟨a2e, b2e, rfl, rfl, ⟨by omega, by omega⟩, fun b_3 hb3 => ?_⟩
       cases b_3 with
       | false =>
        conv => whnf
        (repeat (refine ⟨rfl, ?_⟩; conv => whnf))
        exact hneg (by simp [sameCo, hb3])
       | true =>
        conv => whnf
        (repeat (refine ⟨rfl, ?_⟩; conv => whnf))
        refine ⟨a4e, b4e, rfl, rfl, ⟨by omega, by omega⟩, fun b_4 hb4 => ?_⟩
        cases b_4 with
        | false =>
         conv => whnf
         (repeat (refine ⟨rfl, ?_⟩; conv => whnf))
         exact hneg (by simp [sameCo, hb4])
        | true =>
         conv => whnf
         (repeat (refine ⟨rfl, ?_⟩; conv => whnf))
         refine ⟨by omega, p1, (.mk u1 u2 u3 u4 u5 u6), p2, (.mk v1 v2 v3 v4 v5 v6), rfl, rfl, ⟨rfl, by simp only [szUn] at hg ⊢; omega, by omega⟩, fun b_5 hb5 => ?_⟩
         cases b_5 with
         | false =>
          conv => whnf
          (repeat (refine ⟨rfl, ?_⟩; conv => whnf))
          exact hneg (by simp [sameCo, hb5])
         | true =>
          conv => whnf
          (repeat (refine ⟨rfl, ?_⟩; conv => whnf))
          have he : sameCo (.mk a1e a2e a3e a4e (.mk u1 u2 u3 u4 u5 u6) a6e) (.mk b1e b2e b3e b4e (.mk v1 v2 v3 v4 v5 v6) b6e) = true := by simp [sameCo, hc1, hc2, hb3, hb4, hb5]
          rw [he, Bool.true_and] at hs
          refine Or.inl ⟨InR.i64 (by omega) (by omega), ?_⟩
          conv => whnf
          refine ⟨⟨i + 1, rfl, rfl, by omega, hs⟩, ?_⟩
          show ((a4.length : Int) - ((i : Int) + 1)).toNat < ((a4.length : Int) - (i : Int)).toNat
          omega
     have hi2 : a4.length ≤ i := by have hi2 : ¬ (i : Int) < (encCos p1 a4).length := hi2; rw [e4] at hi2; omega
     rw [allS_end _ hi2 (by omega)] at hs
     rw [Bool.true_and] at hs
     conv => whnf
     refine ⟨⟨0, rfl, rfl, by omega, hs⟩, ?_⟩
     intro vs σ hI
     obtain ⟨i, rfl, rfl, hi, hs⟩ := hI
     conv => whnf
     refine CondP.dec (fun hi2 => ?_) (fun hi2 => ?_)
     ·have hi2 : i < a5.length := by have hi2 : (i : Int) < (a5.map (encIn p1)).length := hi2; rw [e5] at hi2; omega
      have hi3 : i < b5.length := by omega
      have hg := szS_get szIn a5 i hi2
      rw [allS_drop _ hi2 hi3] at hs
      obtain ⟨eA, hA⟩ : ∃ e, a5[i] = e := ⟨_, rfl⟩
      obtain ⟨eB, hB⟩ : ∃ e, b5[i] = e := ⟨_, rfl⟩
      obtain ⟨a1e, a2e, a3e, a4e⟩ := eA
      obtain ⟨b1e, b2e, b3e, b4e⟩ := eB
      have hr1 : (a5.map (encIn p1))[((i : Nat) : Int).toNat]? = some (encIn p1 (⟨a1e, a2e, a3e, a4e⟩ : Ini)) := by simp [hi2, hA]
      have hr2 : (b5.map (encIn p2))[((i : Nat) : Int).toNat]? = some (encIn p2 (⟨b1e, b2e, b3e, b4e⟩ : Ini)) := by simp [hi3, hB]
      rw [hA, hB] at hs
      rw [hA] at hg
      simp only [szIn] at hg
      have hneg : sameIn (⟨a1e, a2e, a3e, a4e⟩ : Ini) (⟨b1e, b2e, b3e, b4e⟩ : Ini) = false → K (.ret (.d (.bool false))) ⟨[], [], 0⟩ := fun he => by rw [he] at hs; simp only [Bool.false_and] at hs; exact hneg0 hs
      conv => whnf
      (repeat (first | (refine ⟨_, by omega, hr1, ?_⟩; conv => whnf) | (refine ⟨_, by omega, hr2, ?_⟩; conv => whnf)))
      refine ⟨?_, ?_, trivial⟩
      ·conv => whnf
       (repeat (first | (refine ⟨?_, trivial⟩; conv => whnf) | (refine ⟨rfl, ?_⟩; conv => whnf)))
       refine CondP.ndec (fun hc1 => ?_) (fun hc1 => ?_)
       ·(conv => whnf); exact hneg (by simp [sameIn, hc1])
       (try dsimp only at hc1)
       conv => whnf
       refine CondP.ndec (fun hc2 => ?_) (fun hc2 => ?_)
       ·(conv => whnf); exact hneg (by simp [sameIn, hc2])
       (try dsimp only at hc2)
       conv => whnf
       refine ⟨a3e, b3e, rfl, rfl, ⟨by omega, by omega⟩, fun b_3 hb3 => ?_⟩
       cases b_3 with
       | false =>
        conv => whnf
        (repeat (refine ⟨rfl, ?_⟩; conv => whnf))
        exact hneg (by simp [sameIn, hb3])
       | true =>
        conv => whnf
        (repeat (refine ⟨rfl, ?_⟩; conv => whnf))
        have he : sameIn (⟨a1e, a2e, a3e, a4e⟩ : Ini) (⟨b1e, b2e, b3e, b4e⟩ : Ini) = true := by simp [sameIn, hc1, hc2, hb3]
        rw [he, Bool.true_and] at hs
        refine Or.inl ⟨InR.i64 (by omega) (by omega), ?_⟩
        conv => whnf
        refine ⟨⟨i + 1, rfl, rfl, by omega, hs⟩, ?_⟩
        show ((a5.length : Int) - ((i : Int) + 1)).toNat < ((a5.length : Int) - (i : Int)).toNat
        omega
      ·conv => whnf
       (repeat (first | (refine ⟨?_, trivial⟩; conv => whnf) | (refine ⟨rfl, ?_⟩; conv => whnf)))
       refine CondP.ndec (fun hc1 => ?_) (fun hc1 => ?_)
       ·(conv => whnf); exact hneg (by simp [sameIn, hc1])
       (try dsimp only at hc1)
       conv => whnf
       refine CondP.ndec (fun hc2 => ?_) (fun hc2 => ?_)
       ·(conv => whnf); exact hneg (by simp [sameIn, hc2])
       (try dsimp only at hc2)
       conv => whnf
       refine ⟨a3e, b3e, rfl, rfl, ⟨by omega, by omega⟩, fun b_3 hb3 => ?_⟩
       cases b_3 with
       | false =>
        conv => whnf
        (repeat (refine ⟨rfl, ?_⟩; conv => whnf))
        exact hneg (by simp [sameIn, hb3])
       | true =>
        conv => whnf
        (repeat (refine ⟨rfl, ?_⟩; conv => whnf))
        have he : sameIn (⟨a1e, a2e, a3e, a4e⟩ : Ini) (⟨b1e, b2e, b3e, b4e⟩ : Ini) = true := by simp [sameIn, hc1, hc2, hb3]
        rw [he, Bool.true_and] at hs
        refine Or.inl ⟨InR.i64 (by omega) (by omega), ?_⟩
        conv => whnf
        refine ⟨⟨i + 1, rfl, rfl, by omega, hs⟩, ?_⟩
        show ((a5.length : Int) - ((i : Int) + 1)).toNat < ((a5.length : Int) - (i : Int)).toNat
        omega
     have hi2 : a5.length ≤ i := by have hi2 : ¬ (i : Int) < (a5.map (encIn p1)).length := hi2; rw [e5] at hi2; omega
     rw [allS_end _ hi2 (by omega)] at hs
     rw [Bool.true_and] at hs
     conv => whnf
     refine ⟨⟨0, rfl, rfl, by omega, hs⟩, ?_⟩
     intro vs σ hI
     obtain ⟨i, rfl, rfl, hi, hs⟩ := hI
     conv => whnf
     refine CondP.dec (fun hi2 => ?_) (fun hi2 => ?_)
     ·have hi2 : i < a6.length := by have hi2 : (i : Int) < (a6.map (encOv p1)).length := hi2; rw [e6] at hi2; omega
      have hi3 : i < b6.length := by omega
      have hg := szS_get (sz0 (α := Ov)) a6 i hi2
      rw [allS_drop _ hi2 hi3] at hs
      obtain ⟨eA, hA⟩ : ∃ e, a6[i] = e := ⟨_, rfl⟩
      obtain ⟨eB, hB⟩ : ∃ e, b6[i] = e := ⟨_, rfl⟩
      obtain ⟨a1e, a2e⟩ := eA
      obtain ⟨b1e, b2e⟩ := eB
      have hr1 : (a6.map (encOv p1))[((i : Nat) : Int).toNat]? = some (encOv p1 (⟨a1e, a2e⟩ : Ov)) := by simp [hi2, hA]
      have hr2 : (b6.map (encOv p2))[((i : Nat) : Int).toNat]? = some (encOv p2 (⟨b1e, b2e⟩ : Ov)) := by simp [hi3, hB]
      rw [hA, hB] at hs
      have hneg : sameOv (⟨a1e, a2e⟩ : Ov) (⟨b1e, b2e⟩ : Ov) = false → K (.ret (.d (.bool false))) ⟨[], [], 0⟩ := fun he => by rw [he] at hs; simp only [Bool.false_and] at hs; exact hneg0 hs
      conv => whnf
      (repeat (first | (refine ⟨_, by omega, hr1, ?_⟩; conv => whnf) | (refine ⟨_, by omega, hr2, ?_⟩; conv => whnf)))
      refine CondP.ndec (fun hc1 => ?_) (fun hc1 => ?_)
      ·(conv => whnf); exact hneg (by simp [sameOv, hc1])
      (try dsimp only at hc1)
      conv => whnf
      have he : sameOv (⟨a1e, a2e⟩ : Ov) (⟨b1e, b2e⟩ : Ov) = true := by simp [sameOv, hc1]
      rw [he, Bool.true_and] at hs
      refine Or.inl ⟨InR.i64 (by omega) (by omega), ?_⟩
      conv => whnf
      refine ⟨⟨i + 1, rfl, rfl, by omega, hs⟩, ?_⟩
      show ((a6.length : Int) - ((i : Int) + 1)).toNat < ((a6.length : Int) - (i : Int)).toNat
      omega
     have hi2 : a6.length ≤ i := by have hi2 : ¬ (i : Int) < (a6.map (encOv p1)).length := hi2; rw [e6] at hi2; omega
     rw [allS_end _ hi2 (by omega)] at hs
     rw [hs] at h
     conv => whnf
     exact h
 ·exact h.elim
theorem ckTab (n : Nat) {sp : Spec} (h : PCalls (GG w0 nG) 17 sp) (hm : SpecMono sp) : TblOK (GG w0 nG) [(42, spLS encTy sameTy szTy n), (43, spLS encRe sameRe szRe n), (44, spLS encRu sameRu szRu n), (45, spL2 encBs eqB n), (17, sp)] :=
 ⟨⟨kTypes_ok ⟨⟨kFields_ok, spL2_mono _ _ _⟩, trivial⟩, spLS_mono _ _ _ _⟩, ⟨kRels_ok ⟨⟨kFields_ok, spL2_mono _ _ _⟩, trivial⟩, spLS_mono _ _ _ _⟩, ⟨kRules_ok ⟨⟨cSameEs n, spLS_mono _ _ _ _⟩, ⟨cLits n, spLS_mono _ _ _ _⟩, trivial⟩, spLS_mono _ _ _ _⟩, ⟨kTexts_ok, spL2_mono _ _ _⟩, ⟨h, hm⟩, trivial⟩
theorem cKUnit : ∀ n, PCalls (GG w0 nG) 17 (spKU n)
 | 0 => kUnit_ok (ckTab 0 (pcalls_none (enters_of Tryz.func17 (by kernel_rfl) rfl)) (spB_mono spKU_mono _))
 | n + 1 => kUnit_ok (ckTab _ (pcalls_less (sp := spKU) (cKUnit n)) (spB_mono spKU_mono _))
end Go.PM.Lex
end

section
set_option maxRecDepth 100000
set_option maxHeartbeats 8000000
namespace Go.PM.Lex
open Go.Proofs
variable {w0 : World} {nG : Nat}
noncomputable def spLetR : Spec := fun args σ K => match args, σ with
 | [.d (.int .i32 c)], ⟨[], [], 0⟩ => K (.ret (.d (.bool (isLetter c)))) ⟨[], [], 0⟩
 | _, _ => False
theorem spLetR_mono : SpecMono spLetR := fun args σ K K' hK h => by
 unfold spLetR at h ⊢; split at h <;> first | exact hK _ _ h | exact h.elim
theorem digitR_ok : PCalls (GG w0 nG) 175 spDigit := by
 refine pcalls tab_ok mixed (tbl := []) trivial Tryz.func175 rfl (by kernel_rfl) (by kernel_rfl) ?_
 intro args σ K h
 unfold spDigit at h
 split at h
 ·rename_i c
  refine ⟨loopsOf [], 0, false, by decide, Nat.le_of_ble_eq_true rfl, ?_⟩
  refine CondP.dec (fun h1 => ?_) (fun h1 => ?_)
  ·refine K_bool h ?_
   simp only [isDigit, decide_eq_decide]; omega
  ·refine K_bool h ?_
   simp only [isDigit, decide_eq_false_iff_not]; omega
 ·exact h.elim
theorem letterR_ok : PCalls (GG w0 nG) 240 spLetR := by
 refine pcalls tab_ok mixed (tbl := []) trivial Tryz.func240 rfl (by kernel_rfl) (by kernel_rfl) ?_
 intro args σ K h
 unfold spLetR at h
 split at h
 ·rename_i c
  refine ⟨loopsOf [], 0, false, by decide, Nat.le_of_ble_eq_true rfl, ?_⟩
  repeat' ((conv => whnf); refine CondP.dec (fun h1 => ?_) (fun h1 => ?_))
  all_goals (conv => whnf)
  all_goals (refine K_bool h ?_; simp only [isLetter, decide_eq_true_eq, decide_eq_false_iff_not, decide_eq_decide]; omega)
 ·exact h.elim
noncomputable def spFirst : Spec := fun args σ K => match args, σ with
 | [.d (.str s), .d (.int .i64 a), .d (.int .i64 e)], ⟨[], [], 0⟩ => (0 ≤ a ∧ a ≤ e ∧ e ≤ s.length ∧ s.length < 4294967281) ∧
   (3 ≤ e - a ∧ cut s a.toNat (a.toNat + 3) = [239, 191, 189] → K (.ret (.tuple [.d (.int .i32 65533), .d (.int .i64 3)])) ⟨[], [], 0⟩) ∧
   (¬ (3 ≤ e - a ∧ cut s a.toNat (a.toNat + 3) = [239, 191, 189]) → K (.ret (.tuple [.d (.int .i32 (-1)), .d (.int .i64 1)])) ⟨[], [], 0⟩)
 | _, _ => False
theorem spFirst_mono : SpecMono spFirst := fun args σ K K' hK h => by
 unfold spFirst at h ⊢
 split at h
 ·exact ⟨h.1, fun g => hK _ _ (h.2.1 g), fun g => hK _ _ (h.2.2 g)⟩
 ·exact h.elim
theorem first_ok : PCalls (GG w0 nG) 263 spFirst := by
 refine pcalls tab_ok mixed (tbl := []) trivial Tryz.func263 rfl (by kernel_rfl) (by kernel_rfl) ?_
 intro args σ K h
 unfold spFirst at h
 split at h
 ·rename_i s a e
  obtain ⟨⟨h0, h1, h2, h3⟩, hA, hB⟩ := h
  refine ⟨loopsOf [], 0, false, by decide, Nat.le_of_ble_eq_true rfl, ?_⟩
  conv => whnf
  refine Or.inl ⟨InR.i64 (by omega) (by omega), ?_⟩
  conv => whnf
  refine CondP.dec (fun h4 => ?_) (fun h4 => ?_)
  ·conv => whnf
   refine Or.inl ⟨InR.i64 (by omega) (by omega), ?_⟩
   conv => whnf
   refine ⟨h0, by omega, by omega, ?_⟩
   conv => whnf
   have ec : cut s a.toNat (a + 3).toNat = cut s a.toNat (a.toNat + 3) := by rw [show (a + 3).toNat = a.toNat + 3 by omega]
   refine CondP.dec (fun h5 => ?_) (fun h5 => ?_)
   ·conv => whnf
    exact hA ⟨h4, by rw [← ec]; exact h5⟩
   ·conv => whnf
    exact hB (fun g => h5 (by rw [ec]; exact g.2))
  ·conv => whnf
   exact hB (fun g => h4 g.1)
 ·exact h.elim
noncomputable def spRune : Spec := fun args σ K => match args, σ with
 | [.d (.str s), .d (.int .i64 a)], ⟨[], [], 0⟩ => (0 ≤ a ∧ a ≤ s.length ∧ s.length < 4294967281) ∧
   K (.ret (.tuple [.d (.int .i32 (pk (s.drop a.toNat)).1), .d (.int .i64 (pk (s.drop a.toNat)).2)])) ⟨[], [], 0⟩
 | _, _ => False
theorem spRune_mono : SpecMono spRune := fun args σ K K' hK h => by
 unfold spRune at h ⊢; split at h <;> first | exact ⟨h.1, hK _ _ h.2⟩ | exact h.elim
theorem dec_size (r : Bs) (h : (Lib.decodeL r).1 ≠ 65533) : (Lib.decodeL r).2 = if (Lib.decodeL r).1 < 128 then 1 else if (Lib.decodeL r).1 < 2048 then 2 else if (Lib.decodeL r).1 < 65536 then 3 else 4 := by
 rw [Lib.decodeL_N] at h ⊢
 have k0 := (r.getD 0 0).toNat_lt
 rcases Lib.decodeN_shape r.length (r.getD 0 0).toNat (r.getD 1 0).toNat (r.getD 2 0).toNat (r.getD 3 0).toNat with ⟨c, e⟩ | ⟨c1, c2, c3, cv, e⟩ | ⟨c1, c2, c3, c4, cv, cs, e⟩ | ⟨c1, c2, c3, c4, c5, cv, cw, e⟩ | e
 all_goals (rw [e] at h ⊢; dsimp only at h ⊢)
 ·rw [if_pos c]
 ·rw [if_neg (by omega), if_pos (by omega)]
 ·rw [if_neg (by omega), if_neg (by omega), if_pos (by omega)]
 ·rw [if_neg (by omega), if_neg (by omega), if_neg (by omega)]
 ·exact absurd rfl h
theorem cut3 (s : Bs) (a : Nat) (h : 3 ≤ s.length - a) : cut s a (a + 3) = [239, 191, 189] ↔ Lib.hasPrefix (s.drop a) [239, 191, 189] = true := by
 rw [cut_mid, Nat.add_sub_cancel_left]
 unfold Lib.hasPrefix
 rw [List.isPrefixOf_iff_prefix, List.prefix_iff_eq_take]
 exact ⟨fun g => by rw [← g]; simp, fun g => g.symm⟩
def muI0 (B : Nat) : List PV → St → Nat := fun _ σ => match σ.bx with | [.iter _ p] => B - p | _ => 0
noncomputable def tblRune : Tbl := [(263, spFirst)]
theorem rune_ok : PCalls (GG w0 nG) 202 spRune := by
 refine pcalls tab_ok mixed (tbl := tblRune) ⟨⟨first_ok, spFirst_mono⟩, trivial⟩ Tryz.func202 rfl (by kernel_rfl) (by kernel_rfl) ?_
 intro args σ K h
 unfold spRune at h
 split at h
 ·rename_i s a
  obtain ⟨⟨h0, h1, hs⟩, h⟩ := h
  obtain ⟨a, rfl⟩ : ∃ n : Nat, a = n := ⟨a.toNat, by omega⟩
  simp only [Int.toNat_natCast] at h
  obtain ⟨u, hu⟩ : ∃ u, u = (s.drop a).take 4 := ⟨_, rfl⟩
  have hul : u.length = min 4 (s.length - a) := by rw [hu, List.length_take, List.length_drop]
  have hd0 : s.length ≠ a → decodeL u 0 = Lib.decodeL (s.drop a) := fun hne => by
   rw [dec_eq, List.drop_zero, hu]
   exact dec_take (by omega) (dec_rng _).2.2
  have hdr := dec_rng (s.drop a)
  have hdl := Lib.decodeL_le (s.drop a)
  rw [List.length_drop] at hdl
  have hfff := fffd (s.drop a)
  have hcut3 := cut3 s a
  refine ⟨loopsOf [(2, ⟨[], [0, 1, 16], fun vs σ => vs = [] ∧ ∃ p : Nat, σ = ⟨[.iter u p], [], 0⟩ ∧ (p = 0 ∨ (s.length ≠ a ∧ p = (Lib.decodeL (s.drop a)).2 ∧ (Lib.decodeL (s.drop a)).1 = 65533)), muI0 u.length⟩)], 0, false, by decide, Nat.le_of_ble_eq_true rfl, ?_⟩
  have hcu : cut s ((a : Int)).toNat (min ((a : Int) + 4) (s.length : Int)).toNat = u := by
   rw [cut_mid, hu]
   by_cases h4 : (a : Int) + 4 ≤ s.length
   ·rw [Int.min_eq_left h4]; congr 1; omega
   ·rw [Int.min_eq_right (by omega), List.take_of_length_le (by rw [List.length_drop]; omega), List.take_of_length_le (by rw [List.length_drop]; omega)]; rfl
  have fin : ∀ e : Int, ((Lib.decodeL (s.drop a)).1 = 65533 ∧ s.length ≠ a ∧ (e = a + (Lib.decodeL (s.drop a)).2 ∨ ((Lib.decodeL (s.drop a)).2 ≥ u.length ∧ e = a + u.length))) ∨ (s.length = a ∧ e = a) →
    (3 ≤ e - a ∧ cut s ((a : Int)).toNat (((a : Int)).toNat + 3) = [239, 191, 189] → K (.ret (.tuple [.d (.int .i32 65533), .d (.int .i64 3)])) ⟨[], [], 0⟩) ∧
    (¬ (3 ≤ e - a ∧ cut s ((a : Int)).toNat (((a : Int)).toNat + 3) = [239, 191, 189]) → K (.ret (.tuple [.d (.int .i32 (-1)), .d (.int .i64 1)])) ⟨[], [], 0⟩) := fun e he => by
   simp only [Int.toNat_natCast]
   rcases he with ⟨hv, hne, he⟩ | ⟨hne, he⟩
   ·have hl : 0 < (s.drop a).length := by rw [List.length_drop]; omega
    have hdl' := hdl (fun g => by rw [g] at hl; simp at hl)
    refine ⟨fun g => ?_, fun g => ?_⟩
    ·rw [pk_fffd _ hl ((hcut3 (by omega)).1 g.2) hv] at h; exact h
    ·have : ¬ Lib.hasPrefix (s.drop a) [239, 191, 189] = true := fun gp => by
      have hl3 := (pre3 _).1 gp
      rw [List.length_drop] at hl3
      rcases hfff hv with ⟨_, g2⟩ | ⟨g1, _⟩
      ·exact g ⟨by omega, (hcut3 (by omega)).2 gp⟩
      ·exact g1 gp
     rw [pk_bad _ this hv] at h; exact h
   ·refine ⟨fun g => by omega, fun g => ?_⟩
    rw [List.drop_eq_nil_of_le (by omega), pk_nil] at h; exact h
  conv => whnf
  refine Or.inl ⟨InR.i64 (by omega) (by omega), ?_⟩
  conv => whnf
  refine ⟨by omega, by omega, by omega, ?_⟩
  conv => whnf
  rw [hcu]
  refine ⟨⟨rfl, 0, rfl, .inl rfl⟩, ?_⟩
  intro vs σ1 hI
  obtain ⟨rfl, p, rfl, hp⟩ := hI
  conv => whnf
  refine CondP.dec (fun h2 => ?_) (fun h2 => ?_)
  ·rcases hp with rfl | ⟨hp0, rfl, hp2⟩
   ·have hd := hd0 (by omega)
    conv => whnf
    refine CondP.ndec (fun h3 => ?_) (fun h3 => ?_)
    ·have hv : (Lib.decodeL (s.drop a)).1 ≠ 65533 := by rw [hd] at h3; omega
     have hpk := pk_plain (s.drop a) (by rw [List.length_drop]; omega) hv
     have hsz := dec_size _ hv
     rw [hpk] at h
     rw [← hd] at h hsz
     simp only at h
     generalize hc : ((decodeL u 0).1 : Int) = c at h ⊢
     conv => whnf
     refine CondP.dec (fun h4 => ?_) (fun h4 => ?_)
     ·conv => whnf
      rw [hsz, if_pos (by omega)] at h
      exact h
     ·conv => whnf
      refine CondP.dec (fun h5 => ?_) (fun h5 => ?_)
      ·conv => whnf
       rw [hsz, if_neg (by omega), if_pos (by omega)] at h
       exact h
      ·conv => whnf
       refine CondP.dec (fun h6 => ?_) (fun h6 => ?_)
       ·conv => whnf
        rw [hsz, if_neg (by omega), if_neg (by omega), if_pos (by omega)] at h
        exact h
       ·conv => whnf
        rw [hsz, if_neg (by omega), if_neg (by omega), if_neg (by omega)] at h
        exact h
    ·have hv : (Lib.decodeL (s.drop a)).1 = 65533 := by rw [hd] at h3; omega
     conv => whnf
     refine ⟨⟨rfl, 0 + (decodeL u 0).2, rfl, .inr ⟨by omega, by rw [hd, Nat.zero_add], hv⟩⟩, ?_⟩
     exact (show u.length - (0 + (decodeL u 0).2) < u.length - 0 by rw [hd]; omega)
   ·have hl := hdl (fun g => by have := congrArg List.length g; rw [List.length_drop] at this; simp at this; omega)
    conv => whnf
    refine CondP.dec (fun h3 => ?_) (fun h3 => ?_)
    ·conv => whnf
     refine Or.inl ⟨InR.i64 (by omega) (by omega), ?_⟩
     conv => whnf
     refine ⟨⟨by omega, by omega, by omega, hs⟩, ?_⟩
     obtain ⟨f1, f2⟩ := fin ((a : Int) + ((Lib.decodeL (s.drop a)).2 : Int)) (.inl ⟨hp2, hp0, .inl rfl⟩)
     refine ⟨fun g => ?_, fun g => ?_⟩
     ·conv => whnf
      exact f1 g
     ·conv => whnf
      exact f2 g
    ·omega
  ·conv => whnf
   refine Or.inl ⟨InR.i64 (by omega) (by omega), ?_⟩
   conv => whnf
   refine ⟨⟨by omega, by omega, by omega, hs⟩, ?_⟩
   obtain ⟨f1, f2⟩ := fin (min ((a : Int) + 4) (s.length : Int)) (by
    rcases hp with rfl | ⟨hp0, rfl, hp2⟩
    ·exact .inr ⟨by omega, by omega⟩
    ·exact .inl ⟨hp2, hp0, .inr ⟨by omega, by omega⟩⟩)
   refine ⟨fun g => ?_, fun g => ?_⟩
   ·conv => whnf
    exact f1 g
   ·conv => whnf
    exact f2 g
 ·exact h.elim
noncomputable def spLetAt : Spec := fun args σ K => match args, σ with
 | [.d (.str s), .d (.int .i64 a)], ⟨[], [], 0⟩ => (0 ≤ a ∧ s.length < 4294967281) ∧ K (.ret (.d (.bool (isLetter (pk (s.drop a.toNat)).1)))) ⟨[], [], 0⟩
 | _, _ => False
theorem spLetAt_mono : SpecMono spLetAt := fun args σ K K' hK h => by
 unfold spLetAt at h ⊢; split at h <;> first | exact ⟨h.1, hK _ _ h.2⟩ | exact h.elim
noncomputable def tblLetAt : Tbl := [(202, spRune), (240, spLetR)]
theorem letAt_ok : PCalls (GG w0 nG) 174 spLetAt := by
 refine pcalls tab_ok mixed (tbl := tblLetAt) ⟨⟨rune_ok, spRune_mono⟩, ⟨letterR_ok, spLetR_mono⟩, trivial⟩ Tryz.func174 rfl (by kernel_rfl) (by kernel_rfl) ?_
 intro args σ K h
 unfold spLetAt at h
 split at h
 ·rename_i s a
  obtain ⟨⟨h0, hs⟩, h⟩ := h
  refine ⟨loopsOf [], 0, false, by decide, Nat.le_of_ble_eq_true rfl, ?_⟩
  conv => whnf
  refine CondP.dec (fun h1 => ?_) (fun h1 => ?_)
  ·conv => whnf
   rw [List.drop_eq_nil_of_le (by omega), pk_nil, isLetter_neg] at h
   exact h
  ·conv => whnf
   refine ⟨⟨h0, by omega, hs⟩, ?_⟩
   conv => whnf
   exact h
 ·exact h.elim
end Go.PM.Lex
end

section
set_option maxRecDepth 100000
set_option maxHeartbeats 8000000
namespace Go.PM.Lex
open Go.Proofs
variable {w0 : World} {nG : Nat}
noncomputable def spNameR : Spec := fun args σ K => match args, σ with
 | [.d (.str s), .d (.int .i64 a)], ⟨[], [], 0⟩ => (0 ≤ a ∧ a ≤ s.length ∧ s.length < 4294967281 ∧ isLetter (pk (s.drop a.toNat)).1 = true) ∧
   K (.ret (tokPV 1 (cut s a.toNat (a.toNat + nameF (s.drop a.toNat))) 0 a (a + nameF (s.drop a.toNat)))) ⟨[], [], 0⟩
 | _, _ => False
theorem spNameR_mono : SpecMono spNameR := fun args σ K K' hK h => by
 unfold spNameR at h ⊢; split at h <;> first | exact ⟨h.1, hK _ _ h.2⟩ | exact h.elim
noncomputable def tblNameR : Tbl := [(202, spRune), (240, spLetR), (175, spDigit), (174, spLetAt)]
theorem nameR_ok : PCalls (GG w0 nG) 177 spNameR := by
 refine pcalls tab_ok mixed (tbl := tblNameR) ⟨⟨rune_ok, spRune_mono⟩, ⟨letterR_ok, spLetR_mono⟩, ⟨digitR_ok, spDigit_mono⟩, ⟨letAt_ok, spLetAt_mono⟩, trivial⟩ Tryz.func177 rfl (by kernel_rfl) (by kernel_rfl) ?_
 intro args σ K h
 unfold spNameR at h
 split at h
 ·rename_i s a
  obtain ⟨⟨h0, h1, hs, hlet⟩, h⟩ := h
  obtain ⟨a, rfl⟩ : ∃ n : Nat, a = n := ⟨a.toNat, by omega⟩
  simp only [Int.toNat_natCast] at h hlet
  refine ⟨loopsOf [(2, ⟨[5], [0, 1, 4], fun vs σ => σ = ⟨[.cells 40 [.d (.int .u8 0), .d (.str []), .d (.int .i64 0), .d (.int .i64 0), .d (.int .i64 0)]], [], 0⟩ ∧
   ∃ e f : Nat, a ≤ e ∧ e ≤ s.length ∧ vs = [.d (.int .i64 e)] ∧ s.length < e + f ∧ e + nameGo f (s.drop e) = a + nameF (s.drop a), muI s.length⟩)], 0, false, by simp, Nat.le_of_ble_eq_true rfl, ?_⟩
  conv => whnf
  refine ⟨⟨rfl, a, s.length - a + 1, by omega, by omega, rfl, by omega, by simp [nameF]⟩, ?_⟩
  intro vs σ1 hI
  obtain ⟨rfl, e, f, he1, he2, rfl, hf, hn⟩ := hI
  obtain ⟨f, rfl⟩ : ∃ g, f = g + 1 := ⟨f - 1, by omega⟩
  have hpr := pk_rng (s.drop e)
  have hple := pk_le (s.drop e)
  have hend : nameGo (f + 1) (s.drop e) = 0 → K (.ret (tokPV 1 (cut s a e) 0 a e)) ⟨[], [], 0⟩ := fun h3 => by
   have e2 : a + nameF (s.drop a) = e := by rw [h3] at hn; omega
   have e3 : (a : Int) + (nameF (s.drop a) : Int) = (e : Int) := by omega
   rw [e2, e3] at h
   exact h
  have hgo : ∀ n : Nat, 1 ≤ n → e + n ≤ s.length → nameGo (f + 1) (s.drop e) = n + nameGo f ((s.drop e).drop n) → a ≤ e + n ∧ e + n ≤ s.length ∧ s.length < (e + n) + f ∧ (e + n) + nameGo f (s.drop (e + n)) = a + nameF (s.drop a) := fun n h1 h2 h3 => by
   rw [List.drop_drop] at h3
   exact ⟨by omega, h2, by omega, by rw [← hn, h3]; omega⟩
  have hfst : e = a → isLetter (pk (s.drop e)).1 = true := fun g => by rw [g]; exact hlet
  conv => whnf
  refine CondP.dec (fun h2 => ?_) (fun h2 => ?_)
  ·conv => whnf
   refine ⟨⟨by omega, by omega, hs⟩, ?_⟩
   conv => whnf
   generalize hc0 : (pk (s.drop ((e : Int)).toNat)).1 = c
   have hc : (pk (s.drop e)).1 = c := hc0
   have fin : ∀ (h4 : isLetter (pk (s.drop e)).1 = true ∨ isDigit (pk (s.drop e)).1 = true), a ≤ e + (pk (s.drop e)).2 ∧ e + (pk (s.drop e)).2 ≤ s.length ∧ s.length < (e + (pk (s.drop e)).2) + f ∧ (e + (pk (s.drop e)).2) + nameGo f (s.drop (e + (pk (s.drop e)).2)) = a + nameF (s.drop a) ∧ 1 ≤ (pk (s.drop e)).2 := fun h4 => by
    obtain ⟨g1, g2, g3⟩ := hple (letter_ne h4)
    have g2' : e + (pk (s.drop e)).2 ≤ s.length := by rw [List.length_drop] at g2; omega
    have h46 : ¬ (pk (s.drop e)).1 = 46 := fun g => by rw [g] at h4; revert h4; decide
    obtain ⟨k1, k2, k3, k4⟩ := hgo _ g1 g2' (nameGo_on h46 h4)
    exact ⟨k1, k2, k3, k4, g1⟩
   conv => whnf
   refine CondP.intro (fun h3 => ?_) (fun h3 => ?_)
   ·obtain ⟨k1, k2, k3, k4, k5⟩ := fin (.inl (by rw [hc]; exact h3))
    conv => whnf
    refine Or.inl ⟨InR.i64 (by simp only [Int.toNat_natCast]; omega) (by simp only [Int.toNat_natCast]; omega), ?_⟩
    conv => whnf
    refine ⟨⟨rfl, e + (pk (s.drop e)).2, f, k1, k2, rfl, k3, k4⟩, ?_⟩
    exact (show ((s.length : Int) - ((e : Int) + ((pk (s.drop e)).2 : Int))).toNat < ((s.length : Int) - (e : Int)).toNat by omega)
   ·have h3' : isLetter (pk (s.drop e)).1 = false := by rw [hc]; exact h3
    have hea : a < e := by
     rcases Nat.lt_or_ge a e with g | g
     ·exact g
     ·have := hfst (by omega); rw [h3'] at this; cases this
    conv => whnf
    refine CondP.intro (fun h4 => ?_) (fun h4 => ?_)
    ·obtain ⟨k1, k2, k3, k4, k5⟩ := fin (.inr (by rw [hc]; exact h4))
     conv => whnf
     refine CondP.dec (fun h5 => ?_) (fun h5 => ?_)
     ·conv => whnf
      refine Or.inl ⟨InR.i64 (by simp only [Int.toNat_natCast]; omega) (by simp only [Int.toNat_natCast]; omega), ?_⟩
      conv => whnf
      refine ⟨⟨rfl, e + (pk (s.drop e)).2, f, k1, k2, rfl, k3, k4⟩, ?_⟩
      exact (show ((s.length : Int) - ((e : Int) + ((pk (s.drop e)).2 : Int))).toNat < ((s.length : Int) - (e : Int)).toNat by omega)
     ·omega
    ·have h4' : isDigit (pk (s.drop e)).1 = false := by rw [hc]; exact h4
     conv => whnf
     refine CondP.dec (fun h5 => ?_) (fun h5 => ?_)
     ·have h46 : (pk (s.drop e)).1 = 46 := by rw [hc]; exact h5
      have hlow := pk_low (s.drop e) (by omega) (by omega)
      conv => whnf
      refine CondP.dec (fun h6 => ?_) (fun h6 => ?_)
      ·conv => whnf
       refine Or.inl ⟨InR.i64 (by omega) (by omega), ?_⟩
       conv => whnf
       refine ⟨⟨by omega, hs⟩, ?_⟩
       conv => whnf
       have ed : s.drop ((e : Int) + 1).toNat = (s.drop e).drop 1 := by rw [List.drop_drop]; congr 1
       conv => whnf
       refine CondP.intro (fun h7 => ?_) (fun h7 => ?_)
       ·have h7' : isLetter (pk ((s.drop e).drop 1)).1 = true := by rw [← ed]; exact h7
        obtain ⟨k1, k2, k3, k4⟩ := hgo 1 (by omega) (by omega) (by have := nameGo_dot (f := f) h46 h7'; rw [hlow.2.2] at this; exact this)
        conv => whnf
        refine Or.inl ⟨InR.i64 (by omega) (by omega), ?_⟩
        conv => whnf
        refine ⟨⟨rfl, e + 1, f, k1, k2, rfl, k3, k4⟩, ?_⟩
        exact (show ((s.length : Int) - ((e : Int) + 1)).toNat < ((s.length : Int) - (e : Int)).toNat by omega)
       ·have h7' : isLetter (pk ((s.drop e).drop 1)).1 = false := by rw [← ed]; exact h7
        conv => whnf
        refine ⟨by omega, by omega, by omega, ?_⟩
        conv => whnf
        exact hend (nameGo_dotend h46 h7')
      ·omega
     ·have h46 : ¬ (pk (s.drop e)).1 = 46 := by rw [hc]; exact h5
      conv => whnf
      refine ⟨by omega, by omega, by omega, ?_⟩
      conv => whnf
      exact hend (nameGo_end h46 h3' h4')
  ·have hnil : s.drop e = [] := List.drop_eq_nil_of_le (by omega)
   conv => whnf
   refine ⟨by omega, by omega, by omega, ?_⟩
   conv => whnf
   exact hend (by rw [hnil]; exact nameGo_nil _)
 ·exact h.elim
end Go.PM.Lex
end

section
set_option maxRecDepth 100000
set_option maxHeartbeats 8000000
namespace Go.PM.Lex
open Go.Proofs
variable {w0 : World} {nG : Nat}
def hexV (c : Int) : Int := if 48 ≤ c ∧ c ≤ 57 then c - 48 else if 97 ≤ c ∧ c ≤ 102 then c - 87 else if 65 ≤ c ∧ c ≤ 70 then c - 55 else -1
noncomputable def spHexR : Spec := fun args σ K => match args, σ with
 | [.d (.int .u8 c)], ⟨[], [], 0⟩ => (0 ≤ c ∧ c < 256) ∧ K (.ret (.d (.int .i64 (hexV c)))) ⟨[], [], 0⟩
 | _, _ => False
theorem spHexR_mono : SpecMono spHexR := fun args σ K K' hK h => by
 unfold spHexR at h ⊢; split at h <;> first | exact ⟨h.1, hK _ _ h.2⟩ | exact h.elim
theorem hexR_ok : PCalls (GG w0 nG) 241 spHexR := by
 refine pcalls tab_ok mixed (tbl := []) trivial Tryz.func241 rfl (by kernel_rfl) (by kernel_rfl) ?_
 intro args σ K h
 unfold spHexR at h
 split at h
 ·rename_i c
  obtain ⟨⟨h0, h1⟩, h⟩ := h
  refine ⟨loopsOf [], 0, false, by decide, Nat.le_of_ble_eq_true rfl, ?_⟩
  unfold hexV at h
  by_cases k1 : 48 ≤ c ∧ c ≤ 57
  ·rw [if_pos k1] at h
   conv => whnf
   refine CondP.dec (fun h2 => ?_) (fun h2 => absurd k1.1 h2)
   conv => whnf
   refine CondP.dec (fun h3 => ?_) (fun h3 => absurd k1.2 h3)
   conv => whnf
   refine Or.inl ⟨InR.u8 (by omega) (by omega), ?_⟩
   conv => whnf
   refine Or.inl ⟨InR.i64 (by omega) (by omega), ?_⟩
   conv => whnf
   exact h
  rw [if_neg k1] at h
  by_cases k2 : 97 ≤ c ∧ c ≤ 102
  ·rw [if_pos k2] at h
   conv => whnf
   refine CondP.dec (fun h2 => ?_) (fun h2 => absurd (show c ≥ 48 by omega) h2)
   conv => whnf
   refine CondP.dec (fun h3 => absurd ⟨h2, h3⟩ k1) (fun h3 => ?_)
   conv => whnf
   refine CondP.dec (fun h4 => ?_) (fun h4 => absurd k2.1 h4)
   conv => whnf
   refine CondP.dec (fun h5 => ?_) (fun h5 => absurd k2.2 h5)
   conv => whnf
   refine Or.inl ⟨InR.u8 (by omega) (by omega), ?_⟩
   conv => whnf
   refine Or.inl ⟨InR.i64 (by omega) (by omega), ?_⟩
   conv => whnf
   refine Or.inl ⟨InR.i64 (by omega) (by omega), ?_⟩
   conv => whnf
   rw [show c - 87 = c - 97 + 10 by omega] at h
   exact h
  rw [if_neg k2] at h
  by_cases k3 : 65 ≤ c ∧ c ≤ 70
  ·rw [if_pos k3] at h
   conv => whnf
   refine CondP.dec (fun h2 => ?_) (fun h2 => absurd (show c ≥ 48 by omega) h2)
   conv => whnf
   refine CondP.dec (fun h3 => absurd ⟨h2, h3⟩ k1) (fun h3 => ?_)
   conv => whnf
   refine CondP.dec (fun h4 => absurd h4 (show ¬ (c ≥ 97) by omega)) (fun h4 => ?_)
   conv => whnf
   refine CondP.dec (fun h6 => ?_) (fun h6 => absurd k3.1 h6)
   conv => whnf
   refine CondP.dec (fun h7 => ?_) (fun h7 => absurd k3.2 h7)
   conv => whnf
   refine Or.inl ⟨InR.u8 (by omega) (by omega), ?_⟩
   conv => whnf
   refine Or.inl ⟨InR.i64 (by omega) (by omega), ?_⟩
   conv => whnf
   refine Or.inl ⟨InR.i64 (by omega) (by omega), ?_⟩
   conv => whnf
   rw [show c - 55 = c - 65 + 10 by omega] at h
   exact h
  rw [if_neg k3] at h
  have fin : ∀ b : Bool, b = false → True := fun _ _ => trivial
  conv => whnf
  refine CondP.dec (fun h2 => ?_) (fun h2 => ?_)
  ·conv => whnf
   refine CondP.dec (fun h3 => absurd ⟨h2, h3⟩ k1) (fun h3 => ?_)
   conv => whnf
   refine CondP.dec (fun h4 => ?_) (fun h4 => ?_)
   ·conv => whnf
    refine CondP.dec (fun h5 => absurd ⟨h4, h5⟩ k2) (fun h5 => ?_)
    conv => whnf
    refine CondP.dec (fun h6 => ?_) (fun h6 => ?_)
    ·conv => whnf
     refine CondP.dec (fun h7 => absurd ⟨h6, h7⟩ k3) (fun h7 => ?_)
     conv => whnf
     exact h
    ·conv => whnf
     exact h
   ·conv => whnf
    refine CondP.dec (fun h6 => ?_) (fun h6 => ?_)
    ·conv => whnf
     refine CondP.dec (fun h7 => absurd ⟨h6, h7⟩ k3) (fun h7 => ?_)
     conv => whnf
     exact h
    ·conv => whnf
     exact h
  ·conv => whnf
   refine CondP.dec (fun h4 => absurd (show c ≥ 48 from by have : c ≥ 97 := h4; omega) h2) (fun h4 => ?_)
   conv => whnf
   refine CondP.dec (fun h4 => absurd (show c ≥ 48 from by have : c ≥ 65 := h4; omega) h2) (fun h4 => ?_)
   conv => whnf
   exact h
 ·exact h.elim
noncomputable def spSignR : Spec := fun args σ K => match args, σ with
 | [.d (.str s), .d (.int .i64 a)], ⟨[], [], 0⟩ => (0 ≤ a ∧ a < s.length ∧ s.length < 4294967281) ∧ K (.ret (.d (.str ((s.drop a.toNat).take (signF (s.drop a.toNat)))))) ⟨[], [], 0⟩
 | _, _ => False
theorem spSignR_mono : SpecMono spSignR := fun args σ K K' hK h => by
 unfold spSignR at h ⊢; split at h <;> first | exact ⟨h.1, hK _ _ h.2⟩ | exact h.elim
theorem getD_get {l : Bs} {i : Nat} (h : i < l.length) : l.getD i 0 = l[i] := by rw [List.getD_eq_getElem?_getD, List.getElem?_eq_getElem h]; rfl
theorem pre2 (r : Bs) (x y : UInt8) : Lib.hasPrefix r [x, y] = true ↔ r.take 2 = [x, y] := by
 unfold Lib.hasPrefix
 rw [List.isPrefixOf_iff_prefix, List.prefix_iff_eq_take]
 exact ⟨fun g => g.symm, fun g => g.symm⟩
theorem twos_any (r : Bs) : twos.any (Lib.hasPrefix r) = true ↔ r.take 2 ∈ twos := by
 simp only [twos, List.any_cons, List.any_nil, Bool.or_eq_true, pre2, List.mem_cons, Bool.false_eq_true, or_false, List.not_mem_nil]
theorem signR_ok : PCalls (GG w0 nG) 176 spSignR := by
 refine pcalls tab_ok mixed (tbl := []) trivial Tryz.func176 rfl (by kernel_rfl) (by kernel_rfl) ?_
 intro args σ K h
 unfold spSignR at h
 split at h
 ·rename_i s a
  obtain ⟨⟨h0, h1, hs⟩, h⟩ := h
  obtain ⟨a, rfl⟩ : ∃ n : Nat, a = n := ⟨a.toNat, by omega⟩
  simp only [Int.toNat_natCast] at h
  have hcu : cut s ((a : Int)).toNat (min ((a : Int) + 2) (s.length : Int)).toNat = (s.drop a).take 2 := by
   rw [cut_mid]
   by_cases h4 : (a : Int) + 2 ≤ s.length
   ·rw [Int.min_eq_left h4]; congr 1; omega
   ·rw [Int.min_eq_right (by omega), List.take_of_length_le (by rw [List.length_drop]; omega), List.take_of_length_le (by rw [List.length_drop]; omega)]; rfl
  have h2 := twos_any (s.drop a)
  generalize hu : (s.drop a).take 2 = u at hcu h2
  have hin : u ∈ twos → K (.ret (.d (.str u))) ⟨[], [], 0⟩ := fun g => by
   rw [signF, if_pos (h2.2 g), hu] at h; exact h
  refine ⟨loopsOf [(6, ⟨[7], [0, 1, 6], fun vs σ => σ = ⟨[], [], 0⟩ ∧ ∃ i : Nat, vs = [.d (.int .i64 i)] ∧ i ≤ 21 ∧ ∀ j < i, ones.getD j 0 ≠ s.getD a 0, fun vs _ => match vs with | [.d (.int _ n)] => (21 - n).toNat | _ => 0⟩)], 0, false, by simp, Nat.le_of_ble_eq_true rfl, ?_⟩
  conv => whnf
  refine Or.inl ⟨InR.i64 (by omega) (by omega), ?_⟩
  conv => whnf
  refine ⟨by omega, by omega, by omega, ?_⟩
  conv => whnf
  rw [hcu]
  have mem : ∀ x, x ∈ twos → u = x → K (.ret (.d (.str u))) ⟨[], [], 0⟩ := fun x hx g => hin (g ▸ hx)
  conv => whnf
  refine CondP.dec (fun h3 => ?_) (fun h3 => ?_)
  ·conv => whnf
   exact mem _ (by decide) h3
  conv => whnf
  refine CondP.dec (fun h4 => ?_) (fun h4 => ?_)
  ·conv => whnf
   exact mem _ (by decide) h4
  conv => whnf
  refine CondP.dec (fun h5 => ?_) (fun h5 => ?_)
  ·conv => whnf
   exact mem _ (by decide) h5
  conv => whnf
  refine CondP.dec (fun h6 => ?_) (fun h6 => ?_)
  ·conv => whnf
   exact mem _ (by decide) h6
  conv => whnf
  refine CondP.dec (fun h7 => ?_) (fun h7 => ?_)
  ·conv => whnf
   exact mem _ (by decide) h7
  have hno : ¬ u ∈ twos := fun g => by
   simp only [twos, List.mem_cons, List.not_mem_nil, or_false] at g
   rcases g with g | g | g | g | g
   ·exact h3 g
   ·exact h4 g
   ·exact h5 g
   ·exact h6 g
   ·exact h7 g
  have hs1 : signF (s.drop a) = if ones.contains (s.getD a 0) then 1 else 0 := by
   rw [signF, if_neg (fun g => hno (h2.1 g)), Lib.getD_dropU, Nat.add_zero]
  conv => whnf
  refine ⟨⟨rfl, 0, rfl, by omega, by omega⟩, ?_⟩
  intro vs σ1 hI
  obtain ⟨rfl, i, rfl, hi, hj⟩ := hI
  conv => whnf
  have hol : ones.length = 21 := rfl
  conv => whnf
  refine CondP.dec (fun h8 => ?_) (fun h8 => ?_)
  ·have h8' : i < 21 := by have : (i : Int) < (21 : Int) := h8; omega
   have hget : ∀ x : UInt8, ones.getD i 0 = x → ones.contains x = true := fun x g => by
    rw [getD_get (by rw [hol]; exact h8')] at g
    rw [← g]; simp
   conv => whnf
   refine ⟨by omega, h8, ?_⟩
   conv => whnf
   refine ⟨h0, h1, ?_⟩
   conv => whnf
   refine CondP.dec (fun h9 => ?_) (fun h9 => ?_)
   ·have h9' : ones.getD i 0 = s.getD a 0 := by
     have : ((ones.getD i 0).toNat : Int) = ((s.getD a 0).toNat : Int) := h9
     exact UInt8.toNat_inj.1 (by omega)
    conv => whnf
    refine Or.inl ⟨InR.i64 (by omega) (by omega), ?_⟩
    conv => whnf
    refine ⟨by omega, by omega, show (i : Int) + 1 ≤ 21 by omega, ?_⟩
    conv => whnf
    have e : cut ones ((i : Int)).toNat ((i : Int) + 1).toNat = (s.drop a).take 1 := by
     rw [cut_mid, show ((i : Int) + 1).toNat - ((i : Int)).toNat = 1 by omega, show ((i : Int)).toNat = i from rfl]
     rw [List.drop_eq_getElem_cons (by rw [hol]; exact h8' : i < ones.length), List.drop_eq_getElem_cons (by omega : a < s.length)]
     rw [getD_get (by rw [hol]; exact h8'), getD_get (by omega)] at h9'
     rw [List.take_succ_cons, List.take_succ_cons, List.take_zero, List.take_zero, h9']
    rw [hs1, hget _ h9', if_pos rfl, ← e] at h
    exact h
   ·conv => whnf
    refine Or.inl ⟨InR.i64 (by omega) (by omega), ?_⟩
    conv => whnf
    refine ⟨⟨rfl, i + 1, rfl, by omega, fun j hj1 g => ?_⟩, ?_⟩
    ·rcases Nat.lt_or_ge j i with g1 | g1
     ·exact hj j g1 g
     ·obtain rfl : j = i := by omega
      exact h9 (show ((ones.getD j 0).toNat : Int) = ((s.getD a 0).toNat : Int) by rw [g])
    ·exact (show ((21 : Int) - ((i : Int) + 1)).toNat < ((21 : Int) - (i : Int)).toNat by omega)
  ·have h8' : 21 ≤ i := by have : ¬ (i : Int) < (21 : Int) := h8; omega
   have hc : ones.contains (s.getD a 0) = false := by
    rw [Bool.eq_false_iff]
    intro g
    rw [List.contains_iff_mem] at g
    obtain ⟨j, hj1, hj2⟩ := List.getElem_of_mem g
    exact hj j (by rw [hol] at hj1; omega) (by rw [getD_get hj1]; exact hj2)
   conv => whnf
   rw [hs1, hc, if_neg (by simp), List.take_zero] at h
   exact h
 ·exact h.elim
def begF (r : Bs) : Bool := isLetter (pk r).1 || isDigit (pk r).1 || decide ((pk r).1 = 34) || decide (0 < signF r)
noncomputable def spBegR : Spec := fun args σ K => match args, σ with
 | [.d (.str s), .d (.int .i64 a)], ⟨[], [], 0⟩ => (0 ≤ a ∧ a < s.length ∧ s.length < 4294967281) ∧ K (.ret (.d (.bool (begF (s.drop a.toNat))))) ⟨[], [], 0⟩
 | _, _ => False
theorem spBegR_mono : SpecMono spBegR := fun args σ K K' hK h => by
 unfold spBegR at h ⊢; split at h <;> first | exact ⟨h.1, hK _ _ h.2⟩ | exact h.elim
theorem pk_byte {r : Bs} (h0 : 0 < r.length) {c : Int} (hc0 : 0 ≤ c) (hc : c < 128) : (pk r).1 = c ↔ ((r.getD 0 0).toNat : Int) = c := by
 constructor
 ·intro g
  have := (pk_low r (by omega) (by omega)).2.1
  omega
 ·intro g
  obtain ⟨b, l, rfl⟩ : ∃ b l, r = b :: l := by cases r with | nil => simp at h0 | cons b l => exact ⟨b, l, rfl⟩
  have e : Lib.decodeL (b :: l) = (b.toNat, 1) := by
   rw [Lib.decodeL_N]
   simp only [List.getD_cons_zero, List.length_cons] at g ⊢
   unfold Lib.decodeN
   rw [if_pos (by omega)]
  unfold pk
  rw [if_neg, e]
  ·simpa using g
  ·rw [e]; simp only [not_or]; exact ⟨by simp, fun k => by have := b.toNat_lt; injection k; omega⟩
theorem dig_byte {r : Bs} (h0 : 0 < r.length) : isDigit (pk r).1 = isDigit ((r.getD 0 0).toNat : Int) := by
 have k := fun (c : Int) h1 h2 => @pk_byte r h0 c h1 h2
 rw [Bool.eq_iff_iff, isDigit_iff, isDigit_iff]
 constructor
 ·intro g; have := (k _ (by omega : 0 ≤ (pk r).1) (by omega)).1 rfl; omega
 ·intro g; have := (k _ (by omega : 0 ≤ ((r.getD 0 0).toNat : Int)) (by omega)).2 rfl; omega
noncomputable def tblBegR : Tbl := [(174, spLetAt), (175, spDigit), (176, spSignR)]
theorem begR_ok : PCalls (GG w0 nG) 98 spBegR := by
 refine pcalls tab_ok mixed (tbl := tblBegR) ⟨⟨letAt_ok, spLetAt_mono⟩, ⟨digitR_ok, spDigit_mono⟩, ⟨signR_ok, spSignR_mono⟩, trivial⟩ Tryz.func98 rfl (by kernel_rfl) (by kernel_rfl) ?_
 intro args σ K h
 unfold spBegR at h
 split at h
 ·rename_i s a
  obtain ⟨⟨h0, h1, hs⟩, h⟩ := h
  obtain ⟨a, rfl⟩ : ∃ n : Nat, a = n := ⟨a.toNat, by omega⟩
  simp only [Int.toNat_natCast] at h
  have hr0 : 0 < (s.drop a).length := by rw [List.length_drop]; omega
  have hdg := dig_byte hr0
  have h34 := pk_byte hr0 (c := 34) (by omega) (by omega)
  rw [Lib.getD_dropU, Nat.add_zero] at hdg h34
  refine ⟨loopsOf [], 0, false, by decide, Nat.le_of_ble_eq_true rfl, ?_⟩
  conv => whnf
  refine ⟨⟨h0, hs⟩, ?_⟩
  conv => whnf
  refine CondP.intro (fun h2 => ?_) (fun h2 => ?_)
  ·have h2' : isLetter (pk (s.drop a)).1 = true := h2
   conv => whnf
   rw [begF, h2', Bool.true_or, Bool.true_or, Bool.true_or] at h
   exact h
  ·have h2' : isLetter (pk (s.drop a)).1 = false := h2
   rw [begF, h2', Bool.false_or] at h
   conv => whnf
   refine ⟨h0, h1, ?_⟩
   conv => whnf
   have hbt := (s.getD ((a : Int)).toNat 0).toNat_lt
   refine Or.inl ⟨InR.i32 (by omega) (by omega), ?_⟩
   conv => whnf
   refine CondP.intro (fun h3 => ?_) (fun h3 => ?_)
   ·have h3' : isDigit (pk (s.drop a)).1 = true := hdg.trans h3
    conv => whnf
    rw [h3', Bool.true_or, Bool.true_or] at h
    exact h
   ·have h3' : isDigit (pk (s.drop a)).1 = false := hdg.trans h3
    rw [h3', Bool.false_or] at h
    conv => whnf
    refine ⟨h0, h1, ?_⟩
    conv => whnf
    refine CondP.dec (fun h4 => ?_) (fun h4 => ?_)
    ·conv => whnf
     rw [decide_eq_true (h34.2 h4), Bool.true_or] at h
     exact h
    ·rw [decide_eq_false (fun g => h4 (h34.1 g)), Bool.false_or] at h
     conv => whnf
     refine ⟨⟨h0, h1, hs⟩, ?_⟩
     conv => whnf
     have hl : ((s.drop a).take (signF (s.drop a))).length = 0 ↔ signF (s.drop a) = 0 := by rw [List.length_take]; omega
     refine K_bool h ?_
     have e : ∀ n, (decide (0 < n)) = !(decide (n = 0)) := fun n => by cases n <;> simp
     rw [e]
     congr 1
     rw [decide_eq_decide, ← hl]
     exact List.length_eq_zero_iff
 ·exact h.elim
end Go.PM.Lex
end
