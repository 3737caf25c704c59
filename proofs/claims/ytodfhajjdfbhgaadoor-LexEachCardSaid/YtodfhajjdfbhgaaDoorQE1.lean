/- A part of the proof: plain logic, contracts and laws over the given program. -/
import Derived.Test.YtodfhajjdfbhgaaDoorQS5
import Derived.Test.YtodfhajjdfbhgaaDoorQTop
set_option linter.unusedVariables false
set_option linter.unusedSimpArgs false
set_option linter.all false
set_option maxRecDepth 100000
set_option maxHeartbeats 4000000
namespace Go.PM.Lex
open Go.Proofs
variable {w0 : World} {nG : Nat}
noncomputable def spEach : Spec := fun args σ K => match args, σ with
  | [.d (.str s)], ⟨[], [], 0⟩ => K (.ret (.func 11 [] [.ptr 0 0])) ⟨[.cells 9 [.d (.str s)]], [], 0⟩
  | _, _ => False
theorem spEach_mono : SpecMono spEach := fun args σ K K' hK h => by
  unfold spEach at h ⊢; split at h <;> first | exact hK _ _ h | exact h.elim
theorem each_ok : PCalls (GG w0 nG) 6 spEach := by
  refine pcalls tab_ok mixed (tbl := []) trivial Tryd.func6 rfl (by kernel_rfl) (by kernel_rfl) ?_
  intro args σ K h
  unfold spEach at h
  split at h
  · rename_i s
    refine ⟨loopsOf [], 1, false, by simp, Nat.le_of_ble_eq_true rfl, ?_⟩
    conv => whnf
    exact h
  · exact h.elim
theorem _root_.Go.PM.PCalls.weaken {G : GE} {g : FuncId} {sp sp' : Spec} (h : PCalls G g sp) (hw : ∀ args σ K, sp' args σ K → sp args σ K) : PCalls G g sp' := ⟨h.enters, fun args σ K hs => h.calls args σ K (hw _ _ _ hs)⟩
noncomputable def spBlankQ : Spec := fun args σ K => match args, σ with
  | [.ptr 0 0], ⟨[.cells t [.d (.str s), .d (.int .i64 a)]], [], 0⟩ => (0 ≤ a ∧ a ≤ s.length ∧ s.length < 4294967281) ∧
      ∀ (b : Bool) (k : Nat), blankF (s.drop a.toNat) = (b, k) → K (.ret (.d (.bool b))) ⟨[.cells t [.d (.str s), .d (.int .i64 (a + k))]], [], 0⟩
  | _, _ => False
theorem spBlankQ_mono : SpecMono spBlankQ := fun args σ K K' hK h => by
  unfold spBlankQ at h ⊢; split at h <;> first | exact ⟨h.1, fun b k g => hK _ _ (h.2 b k g)⟩ | exact h.elim
theorem blankQ_of {g : FuncId} (h : PCalls (GG w0 nG) g spBlank) : PCalls (GG w0 nG) g spBlankQ := h.weaken fun args σ K hs => by
  unfold spBlankQ at hs
  split at hs
  · exact ⟨hs.1, hs.2 _ _ rfl⟩
  · exact hs.elim
noncomputable def spNextQ : Spec := fun args σ K => match args, σ with
  | [.ptr 0 0, .d (.bool room)], ⟨[.cells t [.d (.str s), .d (.int .i64 a)]], [], 0⟩ => (0 ≤ a ∧ a < s.length ∧ s.length < 4294967281) ∧
      ∀ x : NR, nextF a.toNat (s.drop a.toNat) room = x → K (.ret (nrPV x)) ⟨[.cells t [.d (.str s), .d (.int .i64 a)]], [], 0⟩
  | _, _ => False
theorem spNextQ_mono : SpecMono spNextQ := fun args σ K K' hK h => by
  unfold spNextQ at h ⊢; split at h <;> first | exact ⟨h.1, fun x g => hK _ _ (h.2 x g)⟩ | exact h.elim
theorem nextQ_of {g : FuncId} (h : PCalls (GG w0 nG) g spNext) : PCalls (GG w0 nG) g spNextQ := h.weaken fun args σ K hs => by
  unfold spNextQ at hs
  split at hs
  · exact ⟨hs.1, hs.2 _ rfl⟩
  · exact hs.elim
noncomputable def tblAllQ : Tbl := [(20, spBlankQ), (21, spNextQ)]
noncomputable def itAllQ : Iter := iterAny Tab0 tblAllQ noIter 19 Tryd.f19
theorem itAllQ_sem (ht : TblOK (GG w0 nG) tblAllQ) : IterSem (GG w0 nG) itAllQ := iterAny_sem tab_ok mixed ht noIter_sem Tryd.func19 rfl (by kernel_rfl) (by kernel_rfl)
theorem tblAllQ_of (hg : GlobOK w0 nG) : TblOK (GG w0 nG) tblAllQ := ⟨⟨blankQ_of (cBlank hg), spBlankQ_mono⟩, ⟨nextQ_of (cNext hg), spNextQ_mono⟩, trivial⟩
noncomputable def tblE1 : Tbl := [(12, spAll)]
noncomputable def itEach : Iter := iterAny Tab0 tblE1 itAllQ 11 Tryd.f11
theorem itEach_sem (ht : TblOK (GG w0 nG) tblAllQ) (ht2 : TblOK (GG w0 nG) tblE1) : IterSem (GG w0 nG) itEach := iterAny_sem tab_ok mixed ht2 (itAllQ_sem ht) Tryd.func11 rfl (by kernel_rfl) (by kernel_rfl)
noncomputable def spLaw2 : Spec := fun args σ K => match args, σ with
  | [.d (.str s), .d (.int .i64 stop)], ⟨[], [], 0⟩ => K (.ret (.d (.bool true))) ⟨[], [], 0⟩
  | _, _ => False
noncomputable def tblLaw : Tbl := [(4, spTrue), (5, spAllR), (6, spEach)]
abbrev big62 : Int := 4611686018427387904
theorem tok_at {l u : List Tok} {t : Tok} : (toksR (l ++ t :: u))[l.length]? = some (tokR t) := by simp [toksR]
set_option maxHeartbeats 16000000 in
theorem lexEach_ok (ht1 : TblOK (GG w0 nG) tblAllQ) (htE : TblOK (GG w0 nG) tblE1) (ht : TblOK (GG w0 nG) tblLaw) : PCalls (GG w0 nG) 3 spLaw2 := by
  refine pcallsI tab_ok mixed ht (itEach_sem ht1 htE) Tryd.func3 rfl (by kernel_rfl) (by kernel_rfl) ?_
  intro args σ K h
  unfold spLaw2 at h
  split at h
  · rename_i s stop
    refine ⟨loopsOf [], 0, false, by simp, Nat.le_of_ble_eq_true rfl, ?_⟩
    conv => whnf
    refine CondP.dec (fun h1 => ?_) (fun h1 => ?_)
    · conv => whnf
      exact h
    · have hs : s.length ≤ 131072 := by have h1 : ¬ (131072 : Int) < s.length := h1; omega
      conv => whnf
      refine ⟨by omega, ?_⟩
      obtain ⟨WT, hWT⟩ : ∃ WT, WT = (allF s 4611686018427387904).1 := ⟨_, rfl⟩
      rw [← hWT]
      generalize (allF s 4611686018427387904).2.1 = c1
      generalize (allF s 4611686018427387904).2.2 = c2
      conv => whnf
      intro y r
      refine ⟨loopsOf [], rfl, ?_⟩
      conv => whnf
      intro y2 r2
      refine ⟨loopsOf [(3, ⟨[5], [0, 1, 2, 4], fun vs σ => ∃ (l : List Tok) (e f : Nat), vs = [.d (.int .i64 (l.length : Int))] ∧
        σ = ⟨[.cells 3 [.d (.int .i64 stop)], .cells 4 [.d (.bool false)], .cells 23 [.d (.sl (toksR WT))], .cells 9 [.d (.str s)], .cells 3 [.d (.int .i64 (l.length : Int))], .loop .ready none r, .cells 37 [.raw (.func (.yield y) #[] #[])], .cells 3 [.d (.int .i64 (l.length : Int))], .cells 9 [.d (.str s)], .cells 3 [.d (.int .i64 big62)], .loop .ready none r2, .cells 53 [.d (.str s), .d (.int .i64 e)]], [], 0⟩ ∧
        (e ≤ s.length ∧ s.length < e + f ∧ l.length ≤ e) ∧ WT = l ++ (allGo f (big62 - l.length) e (s.drop e)).1, muX s.length 11⟩)], rfl, ?_⟩
      conv => whnf
      refine ⟨⟨[], 0, s.length + 1, rfl, rfl, ⟨by omega, by omega, by simp⟩, by rw [hWT]; simp [allF]⟩, ?_⟩
      intro vs σ1 hI
      obtain ⟨l, e, f, rfl, rfl, ⟨he1, he2, hle⟩, hall⟩ := hI
      obtain ⟨f, rfl⟩ : ∃ g, f = g + 1 := ⟨f - 1, by omega⟩
      conv => whnf
      refine ⟨⟨by omega, by omega, by omega⟩, ?_⟩
      intro b k hbk
      rw [Int.toNat_natCast] at hbk
      have hk : (blankF (s.drop e)).2 = k := by rw [hbk]
      have hb0 : (blankF (s.drop e)).1 = b := by rw [hbk]
      have hbl : k ≤ s.length - e := by have : (blankF (s.drop e)).2 ≤ (s.drop e).length := blank_len _ _; rw [List.length_drop, hk] at this; exact this
      have hend : (allGo (f + 1) (big62 - l.length) e (s.drop e)).1 = [] → (l.length : Int) = (toksR WT).length := fun g => by
        rw [hall, g, List.append_nil, toksR_len]
      clear hbk
      cases b with
      | false =>
        have h2' := hb0
        have g1 : allGo (f + 1) (big62 - l.length) e (s.drop e) = ([], (e + k, 140)) := by rw [allGo, if_pos h2', hk]
        have g2 := hend (by rw [g1])
        conv => whnf
        refine ⟨rfl, rfl, rfl, ?_⟩
        conv => whnf
        refine ⟨rfl, ?_⟩
        conv => whnf
        iterate 4 (try (refine ⟨rfl, ?_⟩; conv => whnf))
        refine CondP.ndec (fun h4 => absurd g2 h4) (fun h4 => ?_)
        conv => whnf
        intro y3 r3
        refine ⟨loopsOf [], rfl, ?_⟩
        conv => whnf
        intro y4 r4
        clear hend hbl he1 he2 hle g1
        refine ⟨loopsOf [(3, ⟨[5], [0, 1, 2, 4], fun vs σ => ∃ (l' : List Tok) (e' f' : Nat), vs = [.d (.int .i64 (l'.length : Int))] ∧
          σ = ⟨[.cells 3 [.d (.int .i64 stop)], .cells 4 [.d (.bool false)], .cells 23 [.d (.sl (toksR WT))], .cells 9 [.d (.str s)], .cells 3 [.d (.int .i64 (l'.length : Int))], .loop .exhausted none r, .cells 37 [.raw (.func (.yield y) #[] #[])], .cells 3 [.d (.int .i64 (l.length : Int))], .cells 9 [.d (.str s)], .cells 3 [.d (.int .i64 big62)], .loop .exhausted (some .ret) r2, .cells 53 [.d (.str s), .d (.int .i64 ((e : Int) + k))], .cells 31 [.d (.int .u8 0), .d (.str []), .d (.int .i64 0), .d (.int .i64 0), .d (.int .i64 0)], .cells 42 [.d (.int .i64 ((e : Int) + k)), .d (.int .i64 140)], .loop .ready none r3, .cells 37 [.raw (.func (.yield y3) #[] #[])], .cells 3 [.d (.int .i64 (l'.length : Int))], .cells 9 [.d (.str s)], .cells 3 [.d (.int .i64 big62)], .loop .ready none r4, .cells 53 [.d (.str s), .d (.int .i64 e')]], [], 0⟩ ∧
          (e' ≤ s.length ∧ s.length < e' + f' ∧ l'.length ≤ e') ∧ WT = l' ++ (allGo f' (big62 - l'.length) e' (s.drop e')).1, muX s.length 20⟩)], rfl, ?_⟩
        conv => whnf
        refine ⟨⟨[], 0, s.length + 1, rfl, rfl, ⟨by omega, by omega, by simp⟩, by rw [hWT]; simp [allF]⟩, ?_⟩
        intro vs σ1 hI
        obtain ⟨l', e', f', rfl, rfl, ⟨he1, he2, hle⟩, hallb⟩ := hI
        obtain ⟨f', rfl⟩ : ∃ g, f' = g + 1 := ⟨f' - 1, by omega⟩
        conv => whnf
        refine ⟨⟨by omega, by omega, by omega⟩, ?_⟩
        intro bb k' hbkb
        rw [Int.toNat_natCast] at hbkb
        have hkb : (blankF (s.drop e')).2 = k' := by rw [hbkb]
        have hb0b : (blankF (s.drop e')).1 = bb := by rw [hbkb]
        have hbl : k' ≤ s.length - e' := by have : (blankF (s.drop e')).2 ≤ (s.drop e').length := blank_len _ _; rw [List.length_drop, hkb] at this; exact this
        have hend : (allGo (f' + 1) (big62 - l'.length) e' (s.drop e')).1 = [] → (l'.length : Int) = (toksR WT).length := fun g => by
          rw [hallb, g, List.append_nil, toksR_len]
        clear hbkb
        cases bb with
        | false =>
          have h2b' := hb0b
          have g1 : allGo (f' + 1) (big62 - l'.length) e' (s.drop e') = ([], (e' + k', 140)) := by rw [allGo, if_pos h2b', hkb]
          have g2 := hend (by rw [g1])
          conv => whnf
          refine ⟨rfl, rfl, rfl, ?_⟩
          conv => whnf
          refine ⟨rfl, ?_⟩
          conv => whnf
          iterate 4 (try (refine ⟨rfl, ?_⟩; conv => whnf))
          refine CondP.dec (fun _ => ?_) (fun h9 => absurd g2 h9)
          conv => whnf
          exact h
        | true =>
          have h2b' := hb0b
          have hb1 : ¬ (blankF (s.drop e')).1 = false := by rw [h2b']; simp
          conv => whnf
          refine CondP.dec (fun h3 => ?_) (fun h3 => ?_)
          · have hnil : (s.drop e').drop k' = [] := by rw [List.drop_drop]; exact List.drop_eq_nil_of_le (by omega)
            have g1 : allGo (f' + 1) (big62 - l'.length) e' (s.drop e') = ([], (0, 0)) := by rw [allGo, if_neg hb1, hkb, if_pos hnil]
            have g2 := hend (by rw [g1])
            conv => whnf
            iterate 4 (try (refine ⟨rfl, ?_⟩; conv => whnf))
            refine CondP.dec (fun _ => ?_) (fun h9 => absurd g2 h9)
            conv => whnf
            exact h
          · have hlt : e' + k' < s.length := by omega
            have hne : ¬ (s.drop e').drop k' = [] := fun g => by have := congrArg List.length g; rw [List.drop_drop, List.length_drop] at this; simp at this; omega
            have hlm : (l'.length : Int) < big62 := by show (l'.length : Int) < 4611686018427387904; omega
            have g1 : allGo (f' + 1) (big62 - l'.length) e' (s.drop e') = (match nextF (e' + k') (s.drop (e' + k')) true with
                | .bad p e => ([], (p, e))
                | .tok t => (t :: (allGo f' (big62 - l'.length - 1) t.fin ((s.drop (e' + k')).drop (t.fin - (e' + k')))).1, (allGo f' (big62 - l'.length - 1) t.fin ((s.drop (e' + k')).drop (t.fin - (e' + k')))).2)) := by
              rw [allGo, if_neg hb1, hkb, if_neg hne, List.drop_drop, show (decide (0 < big62 - (l'.length : Int))) = true from by rw [decide_eq_true_eq]; omega]
              rfl
            conv => whnf
            refine ⟨⟨by omega, by omega, by omega⟩, ?_⟩
            intro x hx
            have hx : nextF (e' + k') (s.drop (e' + k')) true = x := by
              rw [show ((e' : Int) + (k' : Int)).toNat = e' + k' by omega] at hx
              have h8 : decide ((l'.length : Int) < 4611686018427387904) = true := decide_eq_true hlm
              rw [show nextF (e' + k') (s.drop (e' + k')) true = nextF (e' + k') (s.drop (e' + k')) (decide ((l'.length : Int) < 4611686018427387904)) by rw [h8]]
              exact hx
            rw [hx] at g1
            cases x with
            | bad p c =>
              have hc := nextF_bad hx
              have g2 := hend (by rw [g1])
              conv => whnf
              refine ⟨rfl, rfl, rfl, ?_⟩
              conv => whnf
              refine ⟨rfl, ?_⟩
              conv => whnf
              refine CondP.ndec (fun h4 => ?_) (fun h4 => absurd (show (c : Int) = 0 from h4) (by omega))
              conv => whnf
              iterate 4 (try (refine ⟨rfl, ?_⟩; conv => whnf))
              refine CondP.dec (fun _ => ?_) (fun h9 => absurd g2 h9)
              conv => whnf
              exact h
            | tok t =>
              have hnt := nextF_tok (by rw [List.length_drop]; omega) hx
              have ht1 := hnt.1
              have ht2 := hnt.2.1
              have ht3 := hnt.2.2
              rw [List.length_drop] at ht3
              have hW : ∃ u, WT = l' ++ t :: u := ⟨_, by rw [hallb, g1]⟩
              conv => whnf
              refine ⟨rfl, rfl, rfl, ?_⟩
              conv => whnf
              refine ⟨rfl, ?_⟩
              conv => whnf
              refine ⟨rfl, rfl, rfl, ?_⟩
              conv => whnf
              refine ⟨rfl, ?_⟩
              conv => whnf
              refine CondP.dec (fun h7 => ?_) (fun h7 => ?_)
              · conv => whnf
                iterate 4 (try (refine ⟨rfl, ?_⟩; conv => whnf))
                refine CondP.dec (fun _ => ?_) (fun _ => ?_)
                · conv => whnf
                  exact h
                · conv => whnf
                  refine CondP.dec (fun _ => ?_) (fun h9 => absurd h7 h9)
                  conv => whnf
                  exact h
              conv => whnf
              have hWl : ¬ (toksR WT).length ≤ l'.length := by obtain ⟨u, hu⟩ := hW; rw [toksR_len, hu, List.length_append]; simp
              refine CondP.ndec (fun h5 => absurd rfl h5) (fun _ => ?_)
              conv => whnf
              refine CondP.dec (fun h5 => absurd (show (toksR WT).length ≤ l'.length by have h5 : ((toksR WT).length : Int) ≤ (l'.length : Int) := h5; omega) hWl) (fun _ => ?_)
              conv => whnf
              refine ⟨tokR t, by omega, ?_, ?_⟩
              · obtain ⟨u, hu⟩ := hW
                rw [hu, Int.toNat_natCast]; exact tok_at
              conv => whnf
              refine CondP.intro (fun h6 => ?_) (fun _ => ?_)
              · exfalso; simp [NR.t] at h6
              conv => whnf
              refine Or.inl ⟨InR.i64 (by omega) (by omega), ?_⟩
              conv => whnf
              iterate 4 (try (refine ⟨rfl, ?_⟩; conv => whnf))
              refine Or.inl ⟨InR.i64 (by omega) (by omega), ?_⟩
              conv => whnf
              iterate 4 (try (refine ⟨rfl, ?_⟩; conv => whnf))
              refine Or.inl ⟨InR.i64 (by omega) (by omega), ?_⟩
              conv => whnf
              refine ⟨⟨l' ++ [t], t.fin, f', ?_, ?_, ⟨by omega, by omega, by rw [List.length_append]; simp; omega⟩, ?_⟩, ?_⟩
              · rw [List.length_append]; rfl
              · rw [List.length_append]; rfl
              · have hd : (s.drop (e' + k')).drop (t.fin - (e' + k')) = s.drop t.fin := by rw [List.drop_drop, show e' + k' + (t.fin - (e' + k')) = t.fin by omega]
                rw [hallb, g1, List.length_append]
                simp only [hd, List.length_cons, List.length_nil, Int.natCast_add, Int.sub_sub, List.append_assoc, List.cons_append, List.nil_append]
                rfl
              · exact (show ((s.length : Int) - (t.fin : Int)).toNat < ((s.length : Int) - (e' : Int)).toNat by omega)
      | true =>
        have h2' := hb0
        have hb1 : ¬ (blankF (s.drop e)).1 = false := by rw [h2']; simp
        conv => whnf
        refine CondP.dec (fun h3 => ?_) (fun h3 => ?_)
        · have hnil : (s.drop e).drop k = [] := by rw [List.drop_drop]; exact List.drop_eq_nil_of_le (by omega)
          have g1 : allGo (f + 1) (big62 - l.length) e (s.drop e) = ([], (0, 0)) := by rw [allGo, if_neg hb1, hk, if_pos hnil]
          have g2 := hend (by rw [g1])
          conv => whnf
          iterate 4 (try (refine ⟨rfl, ?_⟩; conv => whnf))
          refine CondP.ndec (fun h4 => absurd g2 h4) (fun h4 => ?_)
          conv => whnf
          intro y3 r3
          refine ⟨loopsOf [], rfl, ?_⟩
          conv => whnf
          intro y4 r4
          clear hend hbl he1 he2 hle g1
          refine ⟨loopsOf [(3, ⟨[5], [0, 1, 2, 4], fun vs σ => ∃ (l' : List Tok) (e' f' : Nat), vs = [.d (.int .i64 (l'.length : Int))] ∧
            σ = ⟨[.cells 3 [.d (.int .i64 stop)], .cells 4 [.d (.bool false)], .cells 23 [.d (.sl (toksR WT))], .cells 9 [.d (.str s)], .cells 3 [.d (.int .i64 (l'.length : Int))], .loop .exhausted none r, .cells 37 [.raw (.func (.yield y) #[] #[])], .cells 3 [.d (.int .i64 (l.length : Int))], .cells 9 [.d (.str s)], .cells 3 [.d (.int .i64 big62)], .loop .exhausted none r2, .cells 53 [.d (.str s), .d (.int .i64 ((e : Int) + k))], .loop .ready none r3, .cells 37 [.raw (.func (.yield y3) #[] #[])], .cells 3 [.d (.int .i64 (l'.length : Int))], .cells 9 [.d (.str s)], .cells 3 [.d (.int .i64 big62)], .loop .ready none r4, .cells 53 [.d (.str s), .d (.int .i64 e')]], [], 0⟩ ∧
            (e' ≤ s.length ∧ s.length < e' + f' ∧ l'.length ≤ e') ∧ WT = l' ++ (allGo f' (big62 - l'.length) e' (s.drop e')).1, muX s.length 18⟩)], rfl, ?_⟩
          conv => whnf
          refine ⟨⟨[], 0, s.length + 1, rfl, rfl, ⟨by omega, by omega, by simp⟩, by rw [hWT]; simp [allF]⟩, ?_⟩
          intro vs σ1 hI
          obtain ⟨l', e', f', rfl, rfl, ⟨he1, he2, hle⟩, hallb⟩ := hI
          obtain ⟨f', rfl⟩ : ∃ g, f' = g + 1 := ⟨f' - 1, by omega⟩
          conv => whnf
          refine ⟨⟨by omega, by omega, by omega⟩, ?_⟩
          intro bb k' hbkb
          rw [Int.toNat_natCast] at hbkb
          have hkb : (blankF (s.drop e')).2 = k' := by rw [hbkb]
          have hb0b : (blankF (s.drop e')).1 = bb := by rw [hbkb]
          have hbl : k' ≤ s.length - e' := by have : (blankF (s.drop e')).2 ≤ (s.drop e').length := blank_len _ _; rw [List.length_drop, hkb] at this; exact this
          have hend : (allGo (f' + 1) (big62 - l'.length) e' (s.drop e')).1 = [] → (l'.length : Int) = (toksR WT).length := fun g => by
            rw [hallb, g, List.append_nil, toksR_len]
          clear hbkb
          cases bb with
          | false =>
            have h2b' := hb0b
            have g1 : allGo (f' + 1) (big62 - l'.length) e' (s.drop e') = ([], (e' + k', 140)) := by rw [allGo, if_pos h2b', hkb]
            have g2 := hend (by rw [g1])
            conv => whnf
            refine ⟨rfl, rfl, rfl, ?_⟩
            conv => whnf
            refine ⟨rfl, ?_⟩
            conv => whnf
            iterate 4 (try (refine ⟨rfl, ?_⟩; conv => whnf))
            refine CondP.dec (fun _ => ?_) (fun h9 => absurd g2 h9)
            conv => whnf
            exact h
          | true =>
            have h2b' := hb0b
            have hb1 : ¬ (blankF (s.drop e')).1 = false := by rw [h2b']; simp
            conv => whnf
            refine CondP.dec (fun h3 => ?_) (fun h3 => ?_)
            · have hnil : (s.drop e').drop k' = [] := by rw [List.drop_drop]; exact List.drop_eq_nil_of_le (by omega)
              have g1 : allGo (f' + 1) (big62 - l'.length) e' (s.drop e') = ([], (0, 0)) := by rw [allGo, if_neg hb1, hkb, if_pos hnil]
              have g2 := hend (by rw [g1])
              conv => whnf
              iterate 4 (try (refine ⟨rfl, ?_⟩; conv => whnf))
              refine CondP.dec (fun _ => ?_) (fun h9 => absurd g2 h9)
              conv => whnf
              exact h
            · have hlt : e' + k' < s.length := by omega
              have hne : ¬ (s.drop e').drop k' = [] := fun g => by have := congrArg List.length g; rw [List.drop_drop, List.length_drop] at this; simp at this; omega
              have hlm : (l'.length : Int) < big62 := by show (l'.length : Int) < 4611686018427387904; omega
              have g1 : allGo (f' + 1) (big62 - l'.length) e' (s.drop e') = (match nextF (e' + k') (s.drop (e' + k')) true with
                  | .bad p e => ([], (p, e))
                  | .tok t => (t :: (allGo f' (big62 - l'.length - 1) t.fin ((s.drop (e' + k')).drop (t.fin - (e' + k')))).1, (allGo f' (big62 - l'.length - 1) t.fin ((s.drop (e' + k')).drop (t.fin - (e' + k')))).2)) := by
                rw [allGo, if_neg hb1, hkb, if_neg hne, List.drop_drop, show (decide (0 < big62 - (l'.length : Int))) = true from by rw [decide_eq_true_eq]; omega]
                rfl
              conv => whnf
              refine ⟨⟨by omega, by omega, by omega⟩, ?_⟩
              intro x hx
              have hx : nextF (e' + k') (s.drop (e' + k')) true = x := by
                rw [show ((e' : Int) + (k' : Int)).toNat = e' + k' by omega] at hx
                have h8 : decide ((l'.length : Int) < 4611686018427387904) = true := decide_eq_true hlm
                rw [show nextF (e' + k') (s.drop (e' + k')) true = nextF (e' + k') (s.drop (e' + k')) (decide ((l'.length : Int) < 4611686018427387904)) by rw [h8]]
                exact hx
              rw [hx] at g1
              cases x with
              | bad p c =>
                have hc := nextF_bad hx
                have g2 := hend (by rw [g1])
                conv => whnf
                refine ⟨rfl, rfl, rfl, ?_⟩
                conv => whnf
                refine ⟨rfl, ?_⟩
                conv => whnf
                refine CondP.ndec (fun h4 => ?_) (fun h4 => absurd (show (c : Int) = 0 from h4) (by omega))
                conv => whnf
                iterate 4 (try (refine ⟨rfl, ?_⟩; conv => whnf))
                refine CondP.dec (fun _ => ?_) (fun h9 => absurd g2 h9)
                conv => whnf
                exact h
              | tok t =>
                have hnt := nextF_tok (by rw [List.length_drop]; omega) hx
                have ht1 := hnt.1
                have ht2 := hnt.2.1
                have ht3 := hnt.2.2
                rw [List.length_drop] at ht3
                have hW : ∃ u, WT = l' ++ t :: u := ⟨_, by rw [hallb, g1]⟩
                conv => whnf
                refine ⟨rfl, rfl, rfl, ?_⟩
                conv => whnf
                refine ⟨rfl, ?_⟩
                conv => whnf
                refine ⟨rfl, rfl, rfl, ?_⟩
                conv => whnf
                refine ⟨rfl, ?_⟩
                conv => whnf
                refine CondP.dec (fun h7 => ?_) (fun h7 => ?_)
                · conv => whnf
                  iterate 4 (try (refine ⟨rfl, ?_⟩; conv => whnf))
                  refine CondP.dec (fun _ => ?_) (fun _ => ?_)
                  · conv => whnf
                    exact h
                  · conv => whnf
                    refine CondP.dec (fun _ => ?_) (fun h9 => absurd h7 h9)
                    conv => whnf
                    exact h
                conv => whnf
                have hWl : ¬ (toksR WT).length ≤ l'.length := by obtain ⟨u, hu⟩ := hW; rw [toksR_len, hu, List.length_append]; simp
                refine CondP.ndec (fun h5 => absurd rfl h5) (fun _ => ?_)
                conv => whnf
                refine CondP.dec (fun h5 => absurd (show (toksR WT).length ≤ l'.length by have h5 : ((toksR WT).length : Int) ≤ (l'.length : Int) := h5; omega) hWl) (fun _ => ?_)
                conv => whnf
                refine ⟨tokR t, by omega, ?_, ?_⟩
                · obtain ⟨u, hu⟩ := hW
                  rw [hu, Int.toNat_natCast]; exact tok_at
                conv => whnf
                refine CondP.intro (fun h6 => ?_) (fun _ => ?_)
                · exfalso; simp [NR.t] at h6
                conv => whnf
                refine Or.inl ⟨InR.i64 (by omega) (by omega), ?_⟩
                conv => whnf
                iterate 4 (try (refine ⟨rfl, ?_⟩; conv => whnf))
                refine Or.inl ⟨InR.i64 (by omega) (by omega), ?_⟩
                conv => whnf
                iterate 4 (try (refine ⟨rfl, ?_⟩; conv => whnf))
                refine Or.inl ⟨InR.i64 (by omega) (by omega), ?_⟩
                conv => whnf
                refine ⟨⟨l' ++ [t], t.fin, f', ?_, ?_, ⟨by omega, by omega, by rw [List.length_append]; simp; omega⟩, ?_⟩, ?_⟩
                · rw [List.length_append]; rfl
                · rw [List.length_append]; rfl
                · have hd : (s.drop (e' + k')).drop (t.fin - (e' + k')) = s.drop t.fin := by rw [List.drop_drop, show e' + k' + (t.fin - (e' + k')) = t.fin by omega]
                  rw [hallb, g1, List.length_append]
                  simp only [hd, List.length_cons, List.length_nil, Int.natCast_add, Int.sub_sub, List.append_assoc, List.cons_append, List.nil_append]
                  rfl
                · exact (show ((s.length : Int) - (t.fin : Int)).toNat < ((s.length : Int) - (e' : Int)).toNat by omega)
        · have hlt : e + k < s.length := by omega
          have hne : ¬ (s.drop e).drop k = [] := fun g => by have := congrArg List.length g; rw [List.drop_drop, List.length_drop] at this; simp at this; omega
          have hlm : (l.length : Int) < big62 := by show (l.length : Int) < 4611686018427387904; omega
          have g1 : allGo (f + 1) (big62 - l.length) e (s.drop e) = (match nextF (e + k) (s.drop (e + k)) true with
              | .bad p e => ([], (p, e))
              | .tok t => (t :: (allGo f (big62 - l.length - 1) t.fin ((s.drop (e + k)).drop (t.fin - (e + k)))).1, (allGo f (big62 - l.length - 1) t.fin ((s.drop (e + k)).drop (t.fin - (e + k)))).2)) := by
            rw [allGo, if_neg hb1, hk, if_neg hne, List.drop_drop, show (decide (0 < big62 - (l.length : Int))) = true from by rw [decide_eq_true_eq]; omega]
            rfl
          conv => whnf
          refine ⟨⟨by omega, by omega, by omega⟩, ?_⟩
          intro x hx
          have hx : nextF (e + k) (s.drop (e + k)) true = x := by
            rw [show ((e : Int) + (k : Int)).toNat = e + k by omega] at hx
            have h8 : decide ((l.length : Int) < 4611686018427387904) = true := decide_eq_true hlm
            rw [show nextF (e + k) (s.drop (e + k)) true = nextF (e + k) (s.drop (e + k)) (decide ((l.length : Int) < 4611686018427387904)) by rw [h8]]
            exact hx
          rw [hx] at g1
          cases x with
          | bad p c =>
            have hc := nextF_bad hx
            have g2 := hend (by rw [g1])
            conv => whnf
            refine ⟨rfl, rfl, rfl, ?_⟩
            conv => whnf
            refine ⟨rfl, ?_⟩
            conv => whnf
            refine CondP.ndec (fun h4 => ?_) (fun h4 => absurd (show (c : Int) = 0 from h4) (by omega))
            conv => whnf
            iterate 4 (try (refine ⟨rfl, ?_⟩; conv => whnf))
            refine CondP.ndec (fun h4 => absurd g2 h4) (fun h4 => ?_)
            conv => whnf
            intro y3 r3
            refine ⟨loopsOf [], rfl, ?_⟩
            conv => whnf
            intro y4 r4
            clear hend hbl he1 he2 hle g1
            refine ⟨loopsOf [(3, ⟨[5], [0, 1, 2, 4], fun vs σ => ∃ (l' : List Tok) (e' f' : Nat), vs = [.d (.int .i64 (l'.length : Int))] ∧
              σ = ⟨[.cells 3 [.d (.int .i64 stop)], .cells 4 [.d (.bool false)], .cells 23 [.d (.sl (toksR WT))], .cells 9 [.d (.str s)], .cells 3 [.d (.int .i64 (l'.length : Int))], .loop .exhausted none r, .cells 37 [.raw (.func (.yield y) #[] #[])], .cells 3 [.d (.int .i64 (l.length : Int))], .cells 9 [.d (.str s)], .cells 3 [.d (.int .i64 big62)], .loop .exhausted (some .ret) r2, .cells 53 [.d (.str s), .d (.int .i64 ((e : Int) + k))], .cells 31 [.d (.int .u8 0), .d (.str []), .d (.int .i64 0), .d (.int .i64 0), .d (.int .i64 0)], .cells 42 [.d (.int .i64 p), .d (.int .i64 c)], .cells 31 [.d (.int .u8 0), .d (.str []), .d (.int .i64 0), .d (.int .i64 0), .d (.int .i64 0)], .cells 42 [.d (.int .i64 p), .d (.int .i64 c)], .loop .ready none r3, .cells 37 [.raw (.func (.yield y3) #[] #[])], .cells 3 [.d (.int .i64 (l'.length : Int))], .cells 9 [.d (.str s)], .cells 3 [.d (.int .i64 big62)], .loop .ready none r4, .cells 53 [.d (.str s), .d (.int .i64 e')]], [], 0⟩ ∧
              (e' ≤ s.length ∧ s.length < e' + f' ∧ l'.length ≤ e') ∧ WT = l' ++ (allGo f' (big62 - l'.length) e' (s.drop e')).1, muX s.length 22⟩)], rfl, ?_⟩
            conv => whnf
            refine ⟨⟨[], 0, s.length + 1, rfl, rfl, ⟨by omega, by omega, by simp⟩, by rw [hWT]; simp [allF]⟩, ?_⟩
            intro vs σ1 hI
            obtain ⟨l', e', f', rfl, rfl, ⟨he1, he2, hle⟩, hallb⟩ := hI
            obtain ⟨f', rfl⟩ : ∃ g, f' = g + 1 := ⟨f' - 1, by omega⟩
            conv => whnf
            refine ⟨⟨by omega, by omega, by omega⟩, ?_⟩
            intro bb k' hbkb
            rw [Int.toNat_natCast] at hbkb
            have hkb : (blankF (s.drop e')).2 = k' := by rw [hbkb]
            have hb0b : (blankF (s.drop e')).1 = bb := by rw [hbkb]
            have hbl : k' ≤ s.length - e' := by have : (blankF (s.drop e')).2 ≤ (s.drop e').length := blank_len _ _; rw [List.length_drop, hkb] at this; exact this
            have hend : (allGo (f' + 1) (big62 - l'.length) e' (s.drop e')).1 = [] → (l'.length : Int) = (toksR WT).length := fun g => by
              rw [hallb, g, List.append_nil, toksR_len]
            clear hbkb
            cases bb with
            | false =>
              have h2b' := hb0b
              have g1 : allGo (f' + 1) (big62 - l'.length) e' (s.drop e') = ([], (e' + k', 140)) := by rw [allGo, if_pos h2b', hkb]
              have g2 := hend (by rw [g1])
              conv => whnf
              refine ⟨rfl, rfl, rfl, ?_⟩
              conv => whnf
              refine ⟨rfl, ?_⟩
              conv => whnf
              iterate 4 (try (refine ⟨rfl, ?_⟩; conv => whnf))
              refine CondP.dec (fun _ => ?_) (fun h9 => absurd g2 h9)
              conv => whnf
              exact h
            | true =>
              have h2b' := hb0b
              have hb1 : ¬ (blankF (s.drop e')).1 = false := by rw [h2b']; simp
              conv => whnf
              refine CondP.dec (fun h3 => ?_) (fun h3 => ?_)
              · have hnil : (s.drop e').drop k' = [] := by rw [List.drop_drop]; exact List.drop_eq_nil_of_le (by omega)
                have g1 : allGo (f' + 1) (big62 - l'.length) e' (s.drop e') = ([], (0, 0)) := by rw [allGo, if_neg hb1, hkb, if_pos hnil]
                have g2 := hend (by rw [g1])
                conv => whnf
                iterate 4 (try (refine ⟨rfl, ?_⟩; conv => whnf))
                refine CondP.dec (fun _ => ?_) (fun h9 => absurd g2 h9)
                conv => whnf
                exact h
              · have hlt : e' + k' < s.length := by omega
                have hne : ¬ (s.drop e').drop k' = [] := fun g => by have := congrArg List.length g; rw [List.drop_drop, List.length_drop] at this; simp at this; omega
                have hlm : (l'.length : Int) < big62 := by show (l'.length : Int) < 4611686018427387904; omega
                have g1 : allGo (f' + 1) (big62 - l'.length) e' (s.drop e') = (match nextF (e' + k') (s.drop (e' + k')) true with
                    | .bad p e => ([], (p, e))
                    | .tok t => (t :: (allGo f' (big62 - l'.length - 1) t.fin ((s.drop (e' + k')).drop (t.fin - (e' + k')))).1, (allGo f' (big62 - l'.length - 1) t.fin ((s.drop (e' + k')).drop (t.fin - (e' + k')))).2)) := by
                  rw [allGo, if_neg hb1, hkb, if_neg hne, List.drop_drop, show (decide (0 < big62 - (l'.length : Int))) = true from by rw [decide_eq_true_eq]; omega]
                  rfl
                conv => whnf
                refine ⟨⟨by omega, by omega, by omega⟩, ?_⟩
                intro x hx
                have hx : nextF (e' + k') (s.drop (e' + k')) true = x := by
                  rw [show ((e' : Int) + (k' : Int)).toNat = e' + k' by omega] at hx
                  have h8 : decide ((l'.length : Int) < 4611686018427387904) = true := decide_eq_true hlm
                  rw [show nextF (e' + k') (s.drop (e' + k')) true = nextF (e' + k') (s.drop (e' + k')) (decide ((l'.length : Int) < 4611686018427387904)) by rw [h8]]
                  exact hx
                rw [hx] at g1
                cases x with
                | bad p c =>
                  have hc := nextF_bad hx
                  have g2 := hend (by rw [g1])
                  conv => whnf
                  refine ⟨rfl, rfl, rfl, ?_⟩
                  conv => whnf
                  refine ⟨rfl, ?_⟩
                  conv => whnf
                  refine CondP.ndec (fun h4 => ?_) (fun h4 => absurd (show (c : Int) = 0 from h4) (by omega))
                  conv => whnf
                  iterate 4 (try (refine ⟨rfl, ?_⟩; conv => whnf))
                  refine CondP.dec (fun _ => ?_) (fun h9 => absurd g2 h9)
                  conv => whnf
                  exact h
                | tok t =>
                  have hnt := nextF_tok (by rw [List.length_drop]; omega) hx
                  have ht1 := hnt.1
                  have ht2 := hnt.2.1
                  have ht3 := hnt.2.2
                  rw [List.length_drop] at ht3
                  have hW : ∃ u, WT = l' ++ t :: u := ⟨_, by rw [hallb, g1]⟩
                  conv => whnf
                  refine ⟨rfl, rfl, rfl, ?_⟩
                  conv => whnf
                  refine ⟨rfl, ?_⟩
                  conv => whnf
                  refine ⟨rfl, rfl, rfl, ?_⟩
                  conv => whnf
                  refine ⟨rfl, ?_⟩
                  conv => whnf
                  refine CondP.dec (fun h7 => ?_) (fun h7 => ?_)
                  · conv => whnf
                    iterate 4 (try (refine ⟨rfl, ?_⟩; conv => whnf))
                    refine CondP.dec (fun _ => ?_) (fun _ => ?_)
                    · conv => whnf
                      exact h
                    · conv => whnf
                      refine CondP.dec (fun _ => ?_) (fun h9 => absurd h7 h9)
                      conv => whnf
                      exact h
                  conv => whnf
                  have hWl : ¬ (toksR WT).length ≤ l'.length := by obtain ⟨u, hu⟩ := hW; rw [toksR_len, hu, List.length_append]; simp
                  refine CondP.ndec (fun h5 => absurd rfl h5) (fun _ => ?_)
                  conv => whnf
                  refine CondP.dec (fun h5 => absurd (show (toksR WT).length ≤ l'.length by have h5 : ((toksR WT).length : Int) ≤ (l'.length : Int) := h5; omega) hWl) (fun _ => ?_)
                  conv => whnf
                  refine ⟨tokR t, by omega, ?_, ?_⟩
                  · obtain ⟨u, hu⟩ := hW
                    rw [hu, Int.toNat_natCast]; exact tok_at
                  conv => whnf
                  refine CondP.intro (fun h6 => ?_) (fun _ => ?_)
                  · exfalso; simp [NR.t] at h6
                  conv => whnf
                  refine Or.inl ⟨InR.i64 (by omega) (by omega), ?_⟩
                  conv => whnf
                  iterate 4 (try (refine ⟨rfl, ?_⟩; conv => whnf))
                  refine Or.inl ⟨InR.i64 (by omega) (by omega), ?_⟩
                  conv => whnf
                  iterate 4 (try (refine ⟨rfl, ?_⟩; conv => whnf))
                  refine Or.inl ⟨InR.i64 (by omega) (by omega), ?_⟩
                  conv => whnf
                  refine ⟨⟨l' ++ [t], t.fin, f', ?_, ?_, ⟨by omega, by omega, by rw [List.length_append]; simp; omega⟩, ?_⟩, ?_⟩
                  · rw [List.length_append]; rfl
                  · rw [List.length_append]; rfl
                  · have hd : (s.drop (e' + k')).drop (t.fin - (e' + k')) = s.drop t.fin := by rw [List.drop_drop, show e' + k' + (t.fin - (e' + k')) = t.fin by omega]
                    rw [hallb, g1, List.length_append]
                    simp only [hd, List.length_cons, List.length_nil, Int.natCast_add, Int.sub_sub, List.append_assoc, List.cons_append, List.nil_append]
                    rfl
                  · exact (show ((s.length : Int) - (t.fin : Int)).toNat < ((s.length : Int) - (e' : Int)).toNat by omega)
          | tok t =>
            have hnt := nextF_tok (by rw [List.length_drop]; omega) hx
            have ht1 := hnt.1
            have ht2 := hnt.2.1
            have ht3 := hnt.2.2
            rw [List.length_drop] at ht3
            have hW : ∃ u, WT = l ++ t :: u := ⟨_, by rw [hall, g1]⟩
            conv => whnf
            refine ⟨rfl, rfl, rfl, ?_⟩
            conv => whnf
            refine ⟨rfl, ?_⟩
            conv => whnf
            refine ⟨rfl, rfl, rfl, ?_⟩
            conv => whnf
            refine ⟨rfl, ?_⟩
            conv => whnf
            have hWl : ¬ (toksR WT).length ≤ l.length := by obtain ⟨u, hu⟩ := hW; rw [toksR_len, hu, List.length_append]; simp
            refine CondP.ndec (fun h5 => absurd rfl h5) (fun _ => ?_)
            conv => whnf
            refine CondP.dec (fun h5 => absurd (show (toksR WT).length ≤ l.length by have h5 : ((toksR WT).length : Int) ≤ (l.length : Int) := h5; omega) hWl) (fun _ => ?_)
            conv => whnf
            refine ⟨tokR t, by omega, ?_, ?_⟩
            · obtain ⟨u, hu⟩ := hW
              rw [hu, Int.toNat_natCast]; exact tok_at
            conv => whnf
            refine CondP.intro (fun h6 => ?_) (fun _ => ?_)
            · exfalso; simp [NR.t] at h6
            conv => whnf
            refine Or.inl ⟨InR.i64 (by omega) (by omega), ?_⟩
            conv => whnf
            iterate 4 (try (refine ⟨rfl, ?_⟩; conv => whnf))
            refine Or.inl ⟨InR.i64 (by omega) (by omega), ?_⟩
            conv => whnf
            iterate 4 (try (refine ⟨rfl, ?_⟩; conv => whnf))
            refine Or.inl ⟨InR.i64 (by omega) (by omega), ?_⟩
            conv => whnf
            refine ⟨⟨l ++ [t], t.fin, f, ?_, ?_, ⟨by omega, by omega, by rw [List.length_append]; simp; omega⟩, ?_⟩, ?_⟩
            · rw [List.length_append]; rfl
            · rw [List.length_append]; rfl
            · have hd : (s.drop (e + k)).drop (t.fin - (e + k)) = s.drop t.fin := by rw [List.drop_drop, show e + k + (t.fin - (e + k)) = t.fin by omega]
              rw [hall, g1, List.length_append]
              simp only [hd, List.length_cons, List.length_nil, Int.natCast_add, Int.sub_sub, List.append_assoc, List.cons_append, List.nil_append]
              rfl
            · exact (show ((s.length : Int) - (t.fin : Int)).toNat < ((s.length : Int) - (e : Int)).toNat by omega)
  · exact h.elim
end Go.PM.Lex
