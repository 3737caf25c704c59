/- A part of the proof: plain logic, contracts and laws over the given program. -/
import Derived.Test.YtodfhajjdfbhgaaDoorPmCode
set_option linter.unusedVariables false
set_option linter.unusedSimpArgs false
set_option linter.all false
namespace Go.PM
theorem wrapK_ex {k : IntKind} {n : Int} {K : PV → Prop} (h : wrapK k n K) : ∃ v, K v ∧ ∀ K' : PV → Prop, K' v → wrapK k n K' := by
  rcases h with ⟨h1, h2⟩ | h
  · exact ⟨_, h2, fun K' h' => .inl ⟨h1, h'⟩⟩
  · exact ⟨_, h, fun K' h' => .inr h'⟩
theorem pint_ex {op : BinOp} {k : IntKind} {a b : Int} {K : PV → Prop} (h : pint op k a b K) : ∃ v, K v ∧ ∀ K' : PV → Prop, K' v → pint op k a b K' := by
  cases op <;> simp only [pint] at h <;> first
    | exact h.elim
    | exact wrapK_ex h
    | exact ⟨_, h, fun K' h' => h'⟩
    | (obtain ⟨v, h1, h2⟩ := wrapK_ex h.2; exact ⟨v, h1, fun K' h' => ⟨h.1, h2 K' h'⟩⟩)
    | exact ⟨_, h.2, fun K' h' => ⟨h.1, h'⟩⟩
theorem peqCells_ex {T : Tab} : ∀ {fs : List (Nat × Nat)} {i : Nat} {xs ys : List PV} {K : Bool → Prop}, peqCells T i fs xs ys K → ∃ v, K v ∧ ∀ K' : Bool → Prop, K' v → peqCells T i fs xs ys K'
  | [], i, xs, ys, K, h => by cases xs <;> cases ys <;> first | exact ⟨_, h, fun K' h' => h'⟩ | exact h.elim
  | (o, t) :: fs, i, [], ys, K, h => h.elim
  | (o, t) :: fs, i, x :: xs, [], K, h => h.elim
  | (o, t) :: fs, i, x :: xs, y :: ys, K, h => by
    simp only [peqCells] at h
    split at h
    · rename_i h1 h2
      split at h
      · rename_i h3
        obtain ⟨v, g1, g2⟩ := peqCells_ex h
        exact ⟨_, g1, fun K' h' => by simp only [peqCells, h1, h2, h3]; exact g2 (fun r => K' _) h'⟩
      · exact h.elim
    · rename_i h1 h2
      obtain ⟨v, g1, g2⟩ := peqCells_ex h
      exact ⟨_, g1, fun K' h' => by simp only [peqCells, h1, h2]; exact g2 (fun r => K' _) h'⟩
    · rename_i h1 h2
      obtain ⟨v, g1, g2⟩ := peqCells_ex h
      exact ⟨_, g1, fun K' h' => by simp only [peqCells, h1, h2]; exact g2 (fun r => K' _) h'⟩
    · exact h.elim
theorem peq_ex {T : Tab} {t : TypeId} {x y : Operand} {px py : PV} {K : Bool → Prop} (h : peq T t x y px py K) : ∃ v, K v ∧ ∀ K' : Bool → Prop, K' v → peq T t x y px py K' := by
  unfold peq at h
  split at h
  case h_6 =>
    rename_i hk
    split at h
    · rename_i he
      split at h
      · obtain ⟨v, g1, g2⟩ := peqCells_ex h
        exact ⟨v, g1, fun K' h' => by simp only [peq, hk, he]; exact g2 K' h'⟩
      · exact h.elim
    · exact h.elim
  all_goals (repeat' split at h) <;> first
    | exact h.elim
    | exact ⟨_, h, fun K' h' => by simp only [peq, *]; exact h'⟩
    | exact ⟨_, h, fun K' h' => by simp only [peq, *]⟩
theorem pbin_ex {T : Tab} {op : BinOp} {t : TypeId} {x y : Operand} {px py : PV} {K : PV → Prop} (h : pbin T op t x y px py K) : ∃ v, K v ∧ ∀ K' : PV → Prop, K' v → pbin T op t x y px py K' := by
  unfold pbin at h
  split at h
  · split at h
    · obtain ⟨v, h1, h2⟩ := wrapK_ex h.2
      exact ⟨_, h1, fun K' h' => ⟨h.1, h2 K' h'⟩⟩
    · exact ⟨_, h.2, fun K' h' => ⟨h.1, h'⟩⟩
    · rename_i h1 h2
      split at h
      · rename_i hk
        obtain ⟨v, g1, g2⟩ := pint_ex h
        refine ⟨v, g1, fun K' h' => ?_⟩
        cases op <;> first
          | exact absurd rfl h1
          | exact absurd rfl h2
          | (simp only [pbin, hk]; exact g2 K' h')
      · exact h.elim
  · cases op <;> simp only at h <;> first
      | exact h.elim
      | exact ⟨_, h, fun K' h' => h'⟩
      | exact ⟨_, h.2, fun K' h' => ⟨h.1, h'⟩⟩
  · rename_i h1 h2
    cases op <;> simp only at h <;> first
      | exact h.elim
      | (obtain ⟨v, g1, g2⟩ := peq_ex h
         refine ⟨_, g1, fun K' h' => ?_⟩
         unfold pbin
         split
         · exact absurd rfl (h1 _ _ _ _ rfl)
         · exact absurd rfl (h2 _ _ rfl)
         · exact g2 _ h')
theorem slBounds_ex {lo hi : Option PV} {n : Nat} {K : Nat → Nat → Prop} (h : slBounds lo hi n K) : ∃ a b, K a b ∧ ∀ K' : Nat → Nat → Prop, K' a b → slBounds lo hi n K' := by
  unfold slBounds at h
  split at h
  · exact ⟨_, _, h, fun K' h' => h'⟩
  · split at h
    · exact ⟨_, _, h.2.2, fun K' h' => ⟨h.1, h.2.1, h'⟩⟩
    · exact h.elim
  · split at h
    · exact ⟨_, _, h.2.2, fun K' h' => ⟨h.1, h.2.1, h'⟩⟩
    · exact h.elim
  · split at h
    · exact ⟨_, _, h.2.2.2, fun K' h' => ⟨h.1, h.2.1, h.2.2.1, h'⟩⟩
    · exact h.elim
theorem pload_ex {T : Tab} {t : TypeId} {x : PV} {bx : List Box} {K : PV → Prop} (h : pload T t x bx K) : ∃ v, K v ∧ ∀ K' : PV → Prop, K' v → pload T t x bx K' := by
  unfold pload at h
  (repeat' split at h) <;> first
    | exact h.elim
    | exact ⟨_, h, fun K' h' => by simp only [pload, *]; exact h'⟩
    | exact ⟨_, h, fun K' h' => by simp_all [pload]⟩
theorem pslice_ex {T : Tab} {t : TypeId} {x : PV} {lo hi : Option PV} {K : PV → Prop} (h : pslice T t x lo hi K) : ∃ v, K v ∧ ∀ K' : PV → Prop, K' v → pslice T t x lo hi K' := by
  unfold pslice at h
  split at h
  · rename_i hk
    split at h
    · obtain ⟨a, b, h1, h2⟩ := slBounds_ex h
      exact ⟨_, h1, fun K' h' => by simp only [pslice, hk]; exact h2 (fun a b => K' _) h'⟩
    · exact h.elim
  · rename_i el hk
    split at h
    · exact h.elim
    · rename_i hk2
      split at h
      · rename_i rows hrows
        obtain ⟨hw, h⟩ := h
        obtain ⟨a, b, h1, h2⟩ := slBounds_ex h
        refine ⟨_, h1, fun K' h' => ?_⟩
        unfold pslice
        rw [hk]
        dsimp only
        cases hk3 : (T.get el).kind
        case other => exact absurd hk3 hk2
        all_goals (dsimp only; rw [hrows]; exact ⟨hw, h2 (fun a b => K' _) h'⟩)
      · exact h.elim
  · exact h.elim
theorem fill_ex {T : Tab} {fs : List (Nat × Nat)} {ρ : Operand → PV} : ∀ {ps : List (Nat × Operand)} {cs : List PV} {K : List PV → Prop}, fillParts T fs ρ ps cs K → ∃ v, K v ∧ ∀ K' : List PV → Prop, K' v → fillParts T fs ρ ps cs K'
  | [], cs, K, h => ⟨cs, h, fun K' h' => h'⟩
  | (i, x) :: ps, cs, K, h => by
    simp only [fillParts] at h
    split at h
    · split at h
      · exact h.elim
      · obtain ⟨v, h1, h2⟩ := fill_ex h
        exact ⟨v, h1, fun K' h' => by have := h2 K' h'; simp only [fillParts, *]⟩
      · exact h.elim
    · exact h.elim
/-- What an operation yields, it yields whatever follows. -/
theorem qop_ex {T : Tab} {o : Op} {ty : TypeId} {ρ : Operand → PV} {bx : List Box} {K : PV → Prop} (h : qop T o ty ρ bx K) : ∃ v, K v ∧ ∀ K' : PV → Prop, K' v → qop T o ty ρ bx K' := by
  unfold qop at h
  split at h
  case h_5 => obtain ⟨v, h1, h2⟩ := pload_ex h; exact ⟨v, h1, fun K' h' => h2 K' h'⟩
  case h_7 => obtain ⟨v, h1, h2⟩ := pbin_ex h; exact ⟨v, h1, fun K' h' => h2 K' h'⟩
  case h_14 => obtain ⟨v, h1, h2⟩ := pslice_ex h; exact ⟨v, h1, fun K' h' => h2 K' h'⟩
  case h_4 =>
    split at h
    · rename_i fs hk; obtain ⟨v, h1, h2⟩ := fill_ex h; exact ⟨_, h1, fun K' h' => by simp only [qop, hk]; exact h2 (fun cs => K' (.agg cs)) h'⟩
    · rename_i n el hk
      split at h
      · exact h.elim
      · rename_i hk2
        split at h
        · rename_i hb1
          obtain ⟨v, h1, h2⟩ := fill_ex h
          refine ⟨_, h1, fun K' h' => ?_⟩
          have h3 := h2 (fun cs => K' (.agg cs)) h'
          simp only [qop, hk]
          cases hk5 : (T.get el).kind
          case other => exact absurd hk5 hk2
          all_goals (simp only [hb1]; exact h3)
        · exact h.elim
    · exact h.elim
  case h_3 =>
    split at h
    · rename_i t heq
      cases t
      · exact ⟨_, h, fun K' h' => by simp only [qop, heq]; exact h'⟩
      · exact ⟨_, h, fun K' h' => by simp only [qop, heq]; exact h'⟩
    · exact h.elim
  all_goals (repeat' split at h) <;> first
    | exact h.elim
    | exact ⟨_, h, fun K' h' => by first | (simp only [qop, *]; exact h') | (simp only [qop, *])⟩
    | (obtain ⟨v, h1, h2⟩ := wrapK_ex h; exact ⟨_, h1, fun K' h' => by first | (simp only [qop, *]; exact h2 K' h') | (simp only [qop, *])⟩)
    | (obtain ⟨h1, h2⟩ := h; exact ⟨_, h2, fun K' h' => by simp only [qop, *]; exact ⟨h1, h'⟩⟩)
    | (obtain ⟨h0, h1, h2⟩ := h; exact ⟨_, h2, fun K' h' => by first | (simp only [qop, *]; exact ⟨h0, h1, h'⟩) | (simp only [qop, *]; exact ⟨trivial, trivial, h'⟩)⟩)
    | skip
  · rename_i h1 _ h2 _ h3 _ rows h4
    obtain ⟨l, hl, hK⟩ := h
    exact ⟨_, hK, fun K' h' => by simp only [qop, h1, h2, h3, h4]; exact ⟨l, hl, h'⟩⟩
  · rename_i h1 _ h2 _ s h3
    obtain ⟨h4, h5, hK⟩ := h
    exact ⟨_, hK, fun K' h' => by simp only [qop, h1, h2, h3]; exact ⟨h4, h5, h'⟩⟩
  · rename_i hi _ m el hk _ cs hx _ ha _ ho _ hs _ v hv
    obtain ⟨h4, h5, hK⟩ := h
    refine ⟨_, hK, fun K' h' => ?_⟩
    simp only [qop, hi, hk, hx, ha]
    cases hk3 : (T.get el).kind
    case other => exact absurd hk3 ho
    all_goals (simp only [hs, hv]; exact ⟨h4, h5, h'⟩)
  · rename_i hi _ el hk _ ho _ rows hr
    obtain ⟨r, h4, h5, h6⟩ := h
    split at h6
    · rename_i h7
      refine ⟨_, h6, fun K' h' => ?_⟩
      simp only [qop, hi, hk]
      cases hk3 : (T.get el).kind
      case other => exact absurd hk3 ho
      all_goals (simp only [hr]; exact ⟨r, h4, h5, by simp only [h7]; exact h'⟩)
    · exact h6.elim

theorem qopG_ex {T : Tab} {o : Op} {ty : TypeId} {ρ : Operand → PV} {bx : List Box} {K : PV → Prop} (h : qopG T o ty ρ bx K) : ∃ v, K v ∧ ∀ K' : PV → Prop, K' v → qopG T o ty ρ bx K' := by
  unfold qopG at h
  split at h
  · rename_i x hx
    split at h
    · rename_i s heq
      exact ⟨_, h, fun K' h' => by unfold qopG; rw [hx]; simp only [heq]; exact h'⟩
    · exact h.elim
  · rename_i hx
    obtain ⟨v, h1, h2⟩ := qop_ex h
    exact ⟨v, h1, fun K' h' => by unfold qopG; rw [hx]; exact h2 K' h'⟩

/-! ### What an operation hangs on -/
theorem cellsAt_get {bx bx' : List Box} {b off n : Nat} (h : cellsAt bx b off n = cellsAt bx' b off n) {t : TypeId} {cs : List PV} (hb : bx[b]? = some (.cells t cs)) :
    ∃ t' cs', bx'[b]? = some (.cells t' cs') ∧ (cs.drop off).take n = (cs'.drop off).take n := by
  unfold cellsAt at h
  rw [hb] at h
  simp only at h
  split at h
  · rename_i t' cs' hb'; exact ⟨t', cs', hb', Option.some.inj h⟩
  · cases h
theorem takeN_congr {α : Type} : ∀ {n : Nat} {l m : List α}, l.take n = m.take n → takeN n l = takeN n m
  | 0, _, _, _ => rfl
  | n + 1, [], [], _ => rfl
  | n + 1, [], y :: m, h => by simp at h
  | n + 1, x :: l, [], h => by simp at h
  | n + 1, x :: l, y :: m, h => by
    simp only [List.take_succ_cons, List.cons.injEq] at h
    obtain ⟨rfl, h⟩ := h
    simp only [takeN, takeN_congr h]
theorem pload_congr {T : Tab} {t : TypeId} {x : PV} {bx bx' : List Box} {K : PV → Prop} (hpos : (T.get t).kind ≠ .other → (T.get t).kind.isAgg = false → (T.get t).size = 1) (hl : ∀ b off, x = .ptr b off → cellsAt bx b off (T.get t).size = cellsAt bx' b off (T.get t).size)
    (h : pload T t x bx K) : pload T t x bx' K := by
  unfold pload at h ⊢
  split at h
  · rename_i b off
    have hc := hl b off rfl
    split at h
    · rename_i ty cs hb
      obtain ⟨t', cs', hb', htake⟩ := cellsAt_get hc hb
      simp only [hb']
      split at h
      · rename_i hk
        rw [← takeN_congr htake]; exact h
      · rename_i hk
        have h1 : (T.get t).kind ≠ .other → cs[off]? = cs'[off]? := fun ho => by
          have hp := hpos ho hk
          have := congrArg (·[0]?) htake
          simpa [List.getElem?_take, hp] using this
        cases hk2 : (T.get t).kind <;> rw [hk2] at h <;> simp only at h ⊢ <;> first | exact h.elim | (rw [← h1 (by rw [hk2]; simp)]; exact h)
    · exact h.elim
  · exact h
  · exact h.elim
/-- The operation's operands alone, and for a load the cells. -/
theorem qop_congr {T : Tab} {o : Op} {ty : TypeId} {ρ ρ' : Operand → PV} {bx bx' : List Box} {K : PV → Prop} (hρ : ∀ x, x ∈ o.operands → ρ x = ρ' x)
    (hpos : ∀ t, (T.get t).kind ≠ .other → (T.get t).kind.isAgg = false → (T.get t).size = 1)
    (hl : ∀ t a b off, o = .load t a → ρ a = .ptr b off → cellsAt bx b off (T.get t).size = cellsAt bx' b off (T.get t).size) (h : qop T o ty ρ bx K) : qop T o ty ρ' bx' K := by
  cases o with
  | load t a =>
    have ha : ρ a = ρ' a := hρ a (by simp [Op.operands])
    simp only [qop] at h ⊢
    rw [← ha]
    exact pload_congr (hpos t) (fun b off hx => hl t a b off rfl hx) h
  | build t ps =>
    simp only [qop] at h ⊢
    have fillC : ∀ fs (l : List (Nat × Operand)), (∀ p ∈ l, ρ p.2 = ρ' p.2) → ∀ cs (K : List PV → Prop), fillParts T fs ρ l cs K → fillParts T fs ρ' l cs K := by
        intro fs l
        induction l with
        | nil => intro _ cs K h; exact h
        | cons p l ih =>
          intro hp cs K h
          obtain ⟨i, x⟩ := p
          simp only [fillParts] at h ⊢
          rw [← hp (i, x) (by simp)]
          split at h
          · rename_i h1 h2
            split at h
            · exact h.elim
            · rename_i h3 h4 h5
              simp only [h1, h2, h3, h4]
              cases hk5 : (T.get _).kind
              case other => exact absurd hk5 h5
              all_goals exact ih (fun q hq => hp q (by simp [hq])) _ _ h
            · exact h.elim
          · exact h.elim
    have hps : ∀ p ∈ ps.toList, ρ p.2 = ρ' p.2 := fun p hp => hρ p.2 (by simp only [Op.operands]; exact Array.mem_def.2 (by simp only [List.mem_map]; exact ⟨p, hp, rfl⟩))
    split at h
    · exact fillC _ ps.toList hps _ _ h
    · rename_i n el hk
      split at h
      · exact h.elim
      · rename_i hk2
        split at h
        · rename_i hb1
          cases hk5 : (T.get el).kind
          case other => exact absurd hk5 hk2
          all_goals (exact fillC _ ps.toList hps _ _ h)
        · exact h.elim
    · exact h.elim
  | slice t x lo hi mx =>
    cases mx with
    | some _ => exact h
    | none =>
      simp only [qop] at h ⊢
      have h1 : ρ x = ρ' x := hρ x (by simp [Op.operands])
      have h2 : lo.map ρ = lo.map ρ' := by cases lo with | none => rfl | some a => simp [hρ a (by simp [Op.operands])]
      have h3 : hi.map ρ = hi.map ρ' := by cases hi with | none => rfl | some a => simp [hρ a (by simp [Op.operands])]
      rw [← h1, ← h2, ← h3]; exact h
  | makeFunc fn a c =>
    cases fn with
    | func g =>
      simp only [qop] at h ⊢
      have h1 : a.toList.map ρ = a.toList.map ρ' := List.map_congr_left fun x hx => hρ x (by simp only [Op.operands, Array.mem_append]; exact .inl (Array.mem_def.2 hx))
      have h2 : c.toList.map ρ = c.toList.map ρ' := List.map_congr_left fun x hx => hρ x (by simp only [Op.operands, Array.mem_append]; exact .inr (Array.mem_def.2 hx))
      rw [← h1, ← h2]; exact h
    | _ => exact h
  | call c =>
    obtain ⟨callee, args, argTypes⟩ := c
    cases callee with
    | builtin b =>
      simp only [qop] at h ⊢
      have h1 : args.toList.map ρ = args.toList.map ρ' := List.map_congr_left fun x hx => hρ x (by simp only [Op.operands, Call.operands, Array.empty_append]; exact Array.mem_def.2 hx)
      rw [← h1]; exact h
    | _ => exact h
  | move x => simp only [qop] at h ⊢; rw [← hρ x (by simp [Op.operands])]; exact h
  | assign x => simp only [qop] at h ⊢; rw [← hρ x (by simp [Op.operands])]; exact h
  | pick c a b => simp only [qop] at h ⊢; rw [← hρ c (by simp [Op.operands]), ← hρ a (by simp [Op.operands]), ← hρ b (by simp [Op.operands])]; exact h
  | nilCheck x => simp only [qop] at h ⊢; rw [← hρ x (by simp [Op.operands])]; exact h
  | binOp op t x y yt => simp only [qop] at h ⊢; rw [← hρ x (by simp [Op.operands]), ← hρ y (by simp [Op.operands])]; exact h
  | unOp op t x => simp only [qop] at h ⊢; rw [← hρ x (by simp [Op.operands])]; exact h
  | convert s d x => simp only [qop] at h ⊢; rw [← hρ x (by simp [Op.operands])]; exact h
  | fieldAddr s x i => simp only [qop] at h ⊢; rw [← hρ x (by simp [Op.operands])]; exact h
  | field s x i => simp only [qop] at h ⊢; rw [← hρ x (by simp [Op.operands])]; exact h
  | index t x i => simp only [qop] at h ⊢; rw [← hρ x (by simp [Op.operands]), ← hρ i (by simp [Op.operands])]; exact h
  | indexAddr t x i => simp only [qop] at h ⊢; rw [← hρ x (by simp [Op.operands]), ← hρ i (by simp [Op.operands])]; exact h
  | extract x i => simp only [qop] at h ⊢; rw [← hρ x (by simp [Op.operands])]; exact h
  | makeInterface t x => simp only [qop] at h ⊢; rw [← hρ x (by simp [Op.operands])]; exact h
  | typeAssert x xt t b => cases b <;> simp only [qop] at h ⊢ <;> first | exact h.elim | (rw [← hρ x (by simp [Op.operands])]; exact h)
  | _ => exact h
theorem isS2B_operand {T : Tab} {o : Op} {x : Operand} (h : isS2B T o = some x) : x ∈ o.operands ∧ ∀ t a, o ≠ .load t a := by
  unfold isS2B at h
  split at h
  · (repeat' split at h) <;> first | cases h; done | (cases h; exact ⟨by simp [Op.operands], fun t a hh => by cases hh⟩)
  · cases h
theorem qopG_congr {T : Tab} {o : Op} {ty : TypeId} {ρ ρ' : Operand → PV} {bx bx' : List Box} {K : PV → Prop} (hρ : ∀ x, x ∈ o.operands → ρ x = ρ' x)
    (hpos : ∀ t, (T.get t).kind ≠ .other → (T.get t).kind.isAgg = false → (T.get t).size = 1)
    (hl : ∀ t a b off, o = .load t a → ρ a = .ptr b off → cellsAt bx b off (T.get t).size = cellsAt bx' b off (T.get t).size) (h : qopG T o ty ρ bx K) : qopG T o ty ρ' bx' K := by
  unfold qopG at h ⊢
  split at h
  · rename_i x hx
    rw [← hρ x (isS2B_operand hx).1]
    exact h
  · exact qop_congr hρ hpos hl h
theorem laidRows_congr {w : Nat} {ρ ρ' : Operand → PV} : ∀ {ps : List (Nat × Operand)} (_ : ∀ p ∈ ps, ρ p.2 = ρ' p.2) (rows : List (List D)), laidRows w ρ ps rows = laidRows w ρ' ps rows
  | [], _, _ => rfl
  | (i, x) :: ps, h, rows => by
    simp only [laidRows]
    rw [← h (i, x) (by simp)]
    cases rowOf (ρ x) with
    | none => rfl
    | some r =>
      have ih := laidRows_congr (w := w) (ρ := ρ) (ρ' := ρ') (ps := ps) (fun p hp => h p (List.mem_cons_of_mem _ hp)) (rows.set i r)
      simp only [ih]
theorem eop_congr {T : Tab} {o : Op} {ρ ρ' : Operand → PV} {σ : St} {K : PV → St → Prop} (hρ : ∀ x, x ∈ o.operands → ρ x = ρ' x) (h : eop T o ρ σ K) : eop T o ρ' σ K := by
  cases o with
  | box e x => simp only [eop] at h ⊢; rw [← hρ x (by simp [Op.operands])]; exact h
  | store t a x => simp only [eop] at h ⊢; rw [← hρ a (by simp [Op.operands]), ← hρ x (by simp [Op.operands])]; exact h
  | range t x => simp only [eop] at h ⊢; rw [← hρ x (by simp [Op.operands])]; exact h
  | next x b => cases b <;> simp only [eop] at h ⊢ <;> first | exact h | (rw [← hρ x (by simp [Op.operands])]; exact h)
  | buildSlice t n ps =>
    simp only [eop, litRows] at h ⊢
    have : ∀ w rows, laidRows w ρ ps.toList rows = laidRows w ρ' ps.toList rows := fun w rows => laidRows_congr (fun p hp => hρ p.2 (by simp only [Op.operands]; exact Array.mem_def.2 (by simp only [List.mem_map]; exact ⟨p, hp, rfl⟩))) rows
    simp only [← this]; exact h
  | call c =>
    obtain ⟨callee, args, argTypes⟩ := c
    cases callee with
    | builtin b =>
      cases b with
      | append =>
        simp only [eop] at h ⊢
        have h1 : args.toList.map ρ = args.toList.map ρ' := List.map_congr_left fun x hx => hρ x (by simp only [Op.operands, Call.operands, Array.empty_append]; exact Array.mem_def.2 hx)
        rw [← h1]; exact h
      | _ => exact h
    | _ => exact h
  | _ => exact h
end Go.PM
