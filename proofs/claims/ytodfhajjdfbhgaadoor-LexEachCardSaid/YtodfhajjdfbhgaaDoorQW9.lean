/- A part of the proof: plain logic, contracts and laws over the given program. -/
import Derived.Test.YtodfhajjdfbhgaaDoorQFacts
set_option linter.unusedVariables false
set_option linter.unusedSimpArgs false
set_option linter.all false
set_option maxRecDepth 100000
set_option maxHeartbeats 4000000
namespace Go.PM
/-- A function that is ranged over, walked in place, with annotations that are told at the place. -/
def iterAny (T : Tab) (tbl : Tbl) (it : Iter) (gid : FuncId) (fn : Func) : Iter := fun g args raw σ K => ∃ loops, iterOf T tbl it gid fn loops g args raw σ K
theorem iterAny_sem {G : GE} {T : Tab} {tbl : Tbl} (hT : TabOK T G.P) (hmix : G.P.follows .mixedOrders = true) (ht : TblOK G tbl) {it : Iter} (hit : IterSem G it) {gid : FuncId} {fn : Func} {c : Code} (hf : G.P.funcs[gid]? = some fn) (hb : fn.body = some c) (hname : (fn.name == "runtime.NumGoroutine") = false)
    (hok : codeOK fn.ntmps c = true) : IterSem G (iterAny T tbl it gid fn) := fun g args raw σ K h => by
  obtain ⟨loops, h⟩ := h
  exact iterOf_sem hT hmix ht hit hf hb hname hok loops g args raw σ K h
end Go.PM
namespace Go.PM.Lex
open Go.Proofs
variable {w0 : World} {nG : Nat}
noncomputable def spAll : Spec := fun args σ K => match args, σ with
  | [.d (.str s), .d (.int .i64 m)], ⟨[], [], 0⟩ => K (.ret (.func 19 [] [.ptr 0 0, .ptr 1 0])) ⟨[.cells 9 [.d (.str s)], .cells 3 [.d (.int .i64 m)]], [], 0⟩
  | _, _ => False
theorem spAll_mono : SpecMono spAll := fun args σ K K' hK h => by
  unfold spAll at h ⊢; split at h <;> first | exact hK _ _ h | exact h.elim
theorem all_ok : PCalls (GG w0 nG) 12 spAll := by
  refine pcalls tab_ok mixed (tbl := []) trivial Tryd.func12 rfl (by kernel_rfl) (by kernel_rfl) ?_
  intro args σ K h
  unfold spAll at h
  split at h
  · rename_i s m
    refine ⟨loopsOf [], 2, false, by simp, Nat.le_of_ble_eq_true rfl, ?_⟩
    conv => whnf
    exact h
  · exact h.elim
def tokR (t : Tok) : List D := [.int .u8 t.kind, .str t.text, .int .i64 t.n, .int .i64 t.at', .int .i64 t.fin]
def toksR (l : List Tok) : List (List D) := l.map tokR
theorem toksR_len (l : List Tok) : (toksR l).length = l.length := by simp [toksR]
theorem toksR_snoc (l : List Tok) (t : Tok) : toksR (l ++ [t]) = toksR l ++ [tokR t] := by simp [toksR]
noncomputable def spTokens : Spec := fun args σ K => match args, σ with
  | [.d (.str s), .d (.int .i64 m)], ⟨[], [], 0⟩ => s.length < 4294967281 ∧
      K (.ret (.tuple [.d (.sl (if (allF s m).2.2 = 0 then toksR (allF s m).1 else [])), .d (.int .i64 (allF s m).2.1), .d (.int .i64 (allF s m).2.2)])) ⟨[], [], 0⟩
  | _, _ => False
theorem spTokens_mono : SpecMono spTokens := fun args σ K K' hK h => by
  unfold spTokens at h ⊢; split at h <;> first | exact ⟨h.1, hK _ _ h.2⟩ | exact h.elim
noncomputable def tblAll1 : Tbl := [(20, spBlank), (21, spNext)]
noncomputable def tblTokens : Tbl := [(12, spAll)]
noncomputable def itAll : Iter := iterAny Tab0 tblAll1 noIter 19 Tryd.f19
theorem itAll_sem (ht : TblOK (GG w0 nG) tblAll1) : IterSem (GG w0 nG) itAll := iterAny_sem tab_ok mixed ht noIter_sem Tryd.func19 rfl (by kernel_rfl) (by kernel_rfl)
def muX (B : Int) (k : Nat) : List PV → St → Nat := fun _ σ => match σ.bx[k]? with | some (.cells _ (_ :: .d (.int _ n) :: _)) => (B - n).toNat | _ => 0
theorem tokens_ok (ht1 : TblOK (GG w0 nG) tblAll1) (ht : TblOK (GG w0 nG) tblTokens) : PCalls (GG w0 nG) 7 spTokens := by
  refine pcallsI tab_ok mixed ht (itAll_sem ht1) Tryd.func7 rfl (by kernel_rfl) (by kernel_rfl) ?_
  intro args σ K h
  unfold spTokens at h
  split at h
  · rename_i s m
    obtain ⟨hs, h⟩ := h
    refine ⟨loopsOf [], 0, false, by simp, Nat.le_of_ble_eq_true rfl, ?_⟩
    conv => whnf
    intro y r
    refine ⟨loopsOf [(3, ⟨[5], [0, 1, 2, 4], fun vs σ => ∃ (l : List Tok) (e f : Nat), vs = [.d (.int .i64 (l.length : Int))] ∧
      σ = ⟨[.cells 23 [.sl 0 31 []], .cells 3 [.d (.int .i64 0)], .cells 24 [.d (.int .i64 0)], .cells 23 [.sl 1 31 (toksR l)], .cells 9 [.d (.str s)], .cells 3 [.d (.int .i64 m)], .loop .ready none r, .cells 53 [.d (.str s), .d (.int .i64 e)]], [1, 0], 2⟩ ∧
      (e ≤ s.length ∧ s.length < e + f ∧ l.length ≤ e) ∧ allF s m = (l ++ (allGo f (m - l.length) e (s.drop e)).1, (allGo f (m - l.length) e (s.drop e)).2), muX s.length 7⟩)], rfl, ?_⟩
    conv => whnf
    refine ⟨⟨[], 0, s.length + 1, rfl, rfl, ⟨by omega, by omega, by simp⟩, by simp [allF]⟩, ?_⟩
    intro vs σ1 hI
    obtain ⟨l, e, f, rfl, rfl, ⟨he1, he2, hle⟩, hall⟩ := hI
    obtain ⟨f, rfl⟩ : ∃ g, f = g + 1 := ⟨f - 1, by omega⟩
    have hbl : (blankF (s.drop e)).2 ≤ s.length - e := by have : (blankF (s.drop e)).2 ≤ (s.drop e).length := blank_len _ _; rw [List.length_drop] at this; exact this
    have hbad : ∀ p c : Nat, (allGo (f + 1) (m - l.length) e (s.drop e)).2 = (p, c) → c ≠ 0 → K (.ret (.tuple [.d (.sl []), .d (.int .i64 p), .d (.int .i64 c)])) ⟨[], [], 0⟩ := fun p c g1 g2 => by
      have e1 : (allF s m).2 = (p, c) := by rw [hall]; exact g1
      rw [e1] at h
      simp only at h
      rw [if_neg g2] at h
      exact h
    have hend : allGo (f + 1) (m - l.length) e (s.drop e) = ([], (0, 0)) → K (.ret (.tuple [.d (.sl (toksR l)), .d (.int .i64 0), .d (.int .i64 0)])) ⟨[], [], 0⟩ := fun g => by
      rw [hall, g] at h
      simp only [List.append_nil, if_true] at h
      exact h
    conv => whnf
    refine ⟨⟨by omega, by omega, by omega⟩, ?_⟩
    conv => whnf
    generalize hk0 : (blankF (s.drop ((e : Int)).toNat)).2 = k
    have hk : (blankF (s.drop e)).2 = k := hk0
    rw [hk] at hbl
    refine CondP.intro (fun h2 => ?_) (fun h2 => ?_)
    · have h2' : (blankF (s.drop e)).1 = false := by simpa using h2
      have g1 : allGo (f + 1) (m - l.length) e (s.drop e) = ([], (e + k, 140)) := by rw [allGo, if_pos h2', hk]
      have g2 := hbad _ _ (by rw [g1]) (by decide)
      rw [show ((e + k : Nat) : Int) = (e : Int) + (k : Int) by omega] at g2
      conv => whnf
      refine ⟨rfl, rfl, rfl, ?_⟩
      conv => whnf
      refine ⟨rfl, ?_⟩
      conv => whnf
      iterate 6 (try (refine ⟨rfl, ?_⟩; conv => whnf))
      exact g2
    · have h2' : (blankF (s.drop e)).1 = true := by simpa using h2
      have hb1 : ¬ (blankF (s.drop e)).1 = false := by rw [h2']; simp
      conv => whnf
      refine CondP.dec (fun h3 => ?_) (fun h3 => ?_)
      · have hnil : (s.drop e).drop k = [] := by rw [List.drop_drop]; exact List.drop_eq_nil_of_le (by omega)
        have g1 : allGo (f + 1) (m - l.length) e (s.drop e) = ([], (0, 0)) := by rw [allGo, if_neg hb1, hk, if_pos hnil]
        conv => whnf
        exact hend g1
      · have hlt : e + k < s.length := by omega
        have hne : ¬ (s.drop e).drop k = [] := fun g => by have := congrArg List.length g; rw [List.drop_drop, List.length_drop] at this; simp at this; omega
        have g1 : allGo (f + 1) (m - l.length) e (s.drop e) = (match nextF (e + k) (s.drop (e + k)) (decide ((l.length : Int) < m)) with
            | .bad p e => ([], (p, e))
            | .tok t => (t :: (allGo f (m - l.length - 1) t.fin ((s.drop (e + k)).drop (t.fin - (e + k)))).1, (allGo f (m - l.length - 1) t.fin ((s.drop (e + k)).drop (t.fin - (e + k)))).2)) := by
          rw [allGo, if_neg hb1, hk, if_neg hne, List.drop_drop, show (decide (0 < m - (l.length : Int))) = decide ((l.length : Int) < m) from by rw [decide_eq_decide]; omega]
          rfl
        conv => whnf
        refine ⟨⟨by omega, by omega, by omega⟩, ?_⟩
        conv => whnf
        generalize hx0 : nextF ((e : Int) + (k : Int)).toNat (s.drop ((e : Int) + (k : Int)).toNat) _ = x
        have hx : nextF (e + k) (s.drop (e + k)) (decide ((l.length : Int) < m)) = x := by
          rw [show ((e : Int) + (k : Int)).toNat = e + k by omega] at hx0; exact hx0
        rw [hx] at g1
        cases x with
        | bad p c =>
          have hc := nextF_bad hx
          have g2 := hbad p c (by rw [g1]) hc.1
          conv => whnf
          refine ⟨rfl, rfl, rfl, ?_⟩
          conv => whnf
          refine ⟨rfl, ?_⟩
          conv => whnf
          refine CondP.ndec (fun h4 => ?_) (fun h4 => ?_)
          · conv => whnf
            iterate 6 (try (refine ⟨rfl, ?_⟩; conv => whnf))
            exact g2
          · exact absurd h4 (by have : ((c : Nat) : Int) ≠ 0 := by omega
                                exact this)
        | tok t =>
          obtain ⟨ht1, ht2, ht3⟩ := nextF_tok (by rw [List.length_drop]; omega) hx
          rw [List.length_drop] at ht3
          conv => whnf
          refine ⟨rfl, rfl, rfl, ?_⟩
          conv => whnf
          refine ⟨rfl, ?_⟩
          conv => whnf
          refine ⟨fun r hr => by (simp at hr; subst hr; rfl), (show ((toksR l).length + 1) * 48 ≤ 2 ^ 47 by rw [toksR_len]; omega), (show (toksR l).length + 1 ≤ 2 ^ 47 by rw [toksR_len]; omega), ?_⟩
          conv => whnf
          iterate 3 (try (refine ⟨rfl, ?_⟩; conv => whnf))
          refine Or.inl ⟨InR.i64 (by omega) (by omega), ?_⟩
          conv => whnf
          refine ⟨⟨l ++ [t], t.fin, f, ?_, ?_, ⟨by omega, by omega, by rw [List.length_append]; simp; omega⟩, ?_⟩, ?_⟩
          · rw [List.length_append]; rfl
          · rw [toksR_snoc]; rfl
          · have hd : (s.drop (e + k)).drop (t.fin - (e + k)) = s.drop t.fin := by rw [List.drop_drop, show e + k + (t.fin - (e + k)) = t.fin by omega]
            rw [hall, g1, List.length_append]
            simp only [hd, List.length_cons, List.length_nil, Int.natCast_add, Int.sub_sub, List.append_assoc, List.cons_append, List.nil_append]
            rfl
          · exact (show ((s.length : Int) - (t.fin : Int)).toNat < ((s.length : Int) - (e : Int)).toNat by omega)
  · exact h.elim
end Go.PM.Lex
