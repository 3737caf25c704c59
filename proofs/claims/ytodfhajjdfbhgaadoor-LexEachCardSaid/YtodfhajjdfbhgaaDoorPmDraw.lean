/-
  THE PURE LOGIC, 8: a region that draws its order.
-/
import Derived.Test.YtodfhajjdfbhgaaDoorPmYield
set_option linter.unusedVariables false
set_option linter.unusedSimpArgs false
set_option linter.all false
namespace Go.PM

def guardState (all : List Oper) (o : Oper) (f : Frame) : Option Bool := match o.guard with
  | none => some true
  | some (j, want) => match guardSlot all j with
    | some s => match f s with
      | .d (.bool t) => some (t == want)
      | .raw (.tuple _) => some false
      | _ => none
    | none => none
theorem pstep_iff (C : Cx) (all : List Oper) (Q : PQ) (o : Oper) (f : Frame) (σ : St) (K : Frame → St → Prop) :
    pstep C all Q o f σ K ↔ match guardState all o f with
      | some true => runOp C o f σ Q K
      | some false => K (fputO f o.dst (.raw Go.undef)) σ
      | none => False := by
  unfold pstep guardState
  cases hg : o.guard with
  | none => exact Iff.rfl
  | some p =>
    obtain ⟨j, want⟩ := p
    simp only
    cases hs : guardSlot all j with
    | none => exact Iff.rfl
    | some s =>
      simp only
      cases hf : f s with
      | d x =>
        cases x with
        | bool t => cases t <;> cases want <;> simp only [CondP, fset_self hf, putK_eq] <;> exact Iff.rfl
        | _ => exact Iff.rfl
      | raw v => cases v <;> simp only [putK_eq] <;> exact Iff.rfl
      | _ => exact Iff.rfl

structure CxMono (C : Cx) : Prop where
  one : ∀ t, (C.T.get t).kind ≠ .other → (C.T.get t).kind.isAgg = false → (C.T.get t).size = 1
  call : ∀ g args σ (K K' : PEnd → St → Prop), (∀ e σ, K e σ → K' e σ) → C.call g args σ K → C.call g args σ K'
  raw : ∀ v args σ (K : PEnd → St → Prop), ¬ C.raw v args σ K
theorem qop_mono {T : Tab} {o : Op} {ty : TypeId} {ρ : Operand → PV} {bx : List Box} {K K' : PV → Prop} (hK : ∀ v, K v → K' v) (h : qop T o ty ρ bx K) : qop T o ty ρ bx K' :=
  let ⟨v, h1, h2⟩ := qop_ex h; h2 K' (hK v h1)
theorem qopG_mono {T : Tab} {o : Op} {ty : TypeId} {ρ : Operand → PV} {bx : List Box} {K K' : PV → Prop} (hK : ∀ v, K v → K' v) (h : qopG T o ty ρ bx K) : qopG T o ty ρ bx K' :=
  let ⟨v, h1, h2⟩ := qopG_ex h; h2 K' (hK v h1)
theorem CondP_mono {t : Bool} {X Y X' Y' : Prop} (h1 : X → X') (h2 : Y → Y') (h : CondP t X Y) : CondP t X' Y' := by cases t; exact h2 h; exact h1 h
theorem eop_mono {T : Tab} {o : Op} {ρ : Operand → PV} {σ : St} {K K' : PV → St → Prop} (hK : ∀ v σ, K v σ → K' v σ) (h : eop T o ρ σ K) : eop T o ρ σ K' := by
  unfold eop at h ⊢
  (repeat' split at h) <;> first
    | exact h.elim
    | exact hK _ _ h
    | exact CondP_mono (hK _ _) (hK _ _) h
    | exact ⟨h.1, h.2.1, h.2.2.1, hK _ _ h.2.2.2⟩
    | (rename_i hk; exfalso; simp_all; done)

section
variable {C : Cx} {all : List Oper} {Q : PQ} {f : Frame} {σ : St} {K K' : Frame → St → Prop}
theorem runOp_mono (hM : CxMono C) {o : Oper} (hK : ∀ f σ, K f σ → K' f σ) (h : runOp C o f σ Q K) : runOp C o f σ Q K' := by
  unfold runOp at h ⊢
  simp only [forceSt_eq] at h ⊢
  split at h
  · exact qopG_mono (fun v hv => by rw [putK_eq] at hv ⊢; exact hK _ _ hv) h
  · split at h
    · unfold callPV at h ⊢
      split at h
      · refine hM.call _ _ _ _ _ (fun e σ he => ?_) h
        cases e with
        | ret v => simp only at he ⊢; rw [putK_eq] at he ⊢; exact hK _ _ he
        | panic v => exact he
      · exact (hM.raw _ _ _ _ h).elim
      · exact h
    · exact h
    · exact eop_mono (fun v σ hv => by rw [putK_eq] at hv ⊢; exact hK _ _ hv) h
theorem pstep_mono (hM : CxMono C) {o : Oper} (hK : ∀ f σ, K f σ → K' f σ) (h : pstep C all Q o f σ K) : pstep C all Q o f σ K' := by
  rw [pstep_iff] at h ⊢
  split at h
  · exact runOp_mono hM hK h
  · exact hK _ _ h
  · exact h

/-- The slots that an operation looks at. -/
def looks (all : List Oper) (o : Oper) : List Nat :=
  (o.op.operands.toList.filterMap fun | .tmp t => some t | _ => none) ++ (match o.guard with | some (j, _) => (guardSlot all j).toList | none => [])
theorem looks_eq (ops : Array Oper) (o : Oper) : looks ops.toList o = o.looksAt ops := by
  unfold looks Oper.looksAt
  congr 1
  cases o.guard with
  | none => rfl
  | some p =>
    simp only [guardSlot, Array.getElem?_toList]
    cases ops[p.1]? <;> rfl
theorem ev_same {f f' : Frame} {o : Oper} (h : ∀ d, d ∈ looks all o → f d = f' d) {x : Operand} (hx : x ∈ o.op.operands) : ev f x = ev f' x := by
  cases x with
  | tmp t =>
    refine h t ?_
    unfold looks
    refine List.mem_append.2 (.inl (List.mem_filterMap.2 ⟨.tmp t, Array.mem_def.1 hx, rfl⟩))
  | _ => rfl
theorem guard_same {f f' : Frame} {o : Oper} (h : ∀ d, d ∈ looks all o → f d = f' d) : guardState all o f = guardState all o f' := by
  unfold guardState
  cases hg : o.guard with
  | none => rfl
  | some p =>
    obtain ⟨j, want⟩ := p
    simp only
    cases hs : guardSlot all j with
    | none => rfl
    | some s =>
      simp only
      rw [h s (by unfold looks; rw [hg]; simp only [hs]; simp)]
theorem fputO_comm {d d' : Option Nat} (h : ∀ i, d = some i → d' ≠ some i) (f : Frame) (v u : PV) : fputO (fputO f d v) d' u = fputO (fputO f d' u) d v := by
  cases d with
  | none => rfl
  | some i =>
    cases d' with
    | none => rfl
    | some j =>
      have hij : i ≠ j := fun e => h i rfl (by rw [e])
      funext k
      simp only [fputO]
      by_cases h1 : j = k
      · subst h1; rw [fset_same, fset_ne _ _ hij, fset_same]
      · rw [fset_ne _ _ h1]
        by_cases h2 : i = k
        · subst h2; rw [fset_same, fset_same]
        · rw [fset_ne _ _ h2, fset_ne _ _ h2, fset_ne _ _ h1]
theorem fputO_out {d : Option Nat} {v : PV} {k : Nat} (h : ∀ i, d = some i → i ≠ k) : fputO f d v k = f k := by
  cases d with
  | none => rfl
  | some i => exact fset_ne f v (h i rfl)

theorem calls_operands {x : Operand} {args : Array Operand} {at' : Array TypeId} {y : Operand} : y ∈ (Op.call { callee := .value x, args, argTypes := at' }).operands ↔ y = x ∨ y ∈ args := by
  simp [Op.operands, Call.operands]
/-- A slot that the operation does not look at and does not write may be set ahead of it or behind it. -/
theorem runOp_out (hM : CxMono C) {o : Oper} {d : Option Nat} {v : PV} (h1 : ∀ i, d = some i → i ∉ looks all o) (h2 : ∀ i, d = some i → o.dst ≠ some i) (h : runOp C o (fputO f d v) σ Q K) :
    runOp C o f σ Q (fun f' σ' => K (fputO f' d v) σ') := by
  have hsame : ∀ k, k ∈ looks all o → fputO f d v k = f k := fun k hk => fputO_out fun i hi e => h1 i hi (e ▸ hk)
  have hev : ∀ x, x ∈ o.op.operands → ev (fputO f d v) x = ev f x := fun x hx => ev_same hsame hx
  have hcomm : ∀ u, fputO (fputO f d v) o.dst u = fputO (fputO f o.dst u) d v := fun u => fputO_comm h2 f v u
  unfold runOp at h ⊢
  simp only [forceSt_eq] at h ⊢
  split at h
  · refine qopG_mono (fun u hu => ?_) (qopG_congr hev hM.one (fun _ _ _ _ _ _ => rfl) h)
    rw [putK_eq] at hu ⊢; rw [hcomm] at hu; exact hu
  · split at h
    · rename_i x args at' ho
      have hx : ev (fputO f d v) x = ev f x := hev x (by rw [ho]; exact calls_operands.2 (.inl rfl))
      have hargs : args.toList.map (ev (fputO f d v)) = args.toList.map (ev f) := List.map_congr_left fun y hy => hev y (by rw [ho]; exact calls_operands.2 (.inr (Array.mem_def.2 hy)))
      rw [hx, hargs] at h
      have hk : ∀ (e : PEnd) (σ' : St), (match e with | .ret u => putK (fputO f d v) o.dst u fun f => K f σ' | .panic v => Q (.panic v) (fun _ => .undef) σ' : Prop) → (match e with | .ret u => putK f o.dst u fun f => K (fputO f d v) σ' | .panic v => Q (.panic v) (fun _ => .undef) σ' : Prop) := fun e σ' he => by
        cases e with
        | ret u => simp only at he ⊢; rw [putK_eq] at he ⊢; rw [hcomm] at he; exact he
        | panic v => exact he
      unfold callPV at h ⊢
      split at h
      · exact hM.call _ _ _ _ _ hk h
      · exact (hM.raw _ _ _ _ h).elim
      · exact h
    · rename_i x ho
      rw [hev x (by rw [ho]; simp [Op.operands])] at h
      exact h
    · refine eop_mono (fun u σ' hu => ?_) (eop_congr (fun x hx => hev x hx) h)
      rw [putK_eq] at hu ⊢; rw [hcomm] at hu; exact hu

theorem runOp_mono' (hM : CxMono C) {o : Oper} (hK : ∀ u σ', (isEff o.op = false → σ' = σ) → K (fputO f o.dst u) σ' → K' (fputO f o.dst u) σ') (h : runOp C o f σ Q K) : runOp C o f σ Q K' := by
  unfold runOp at h ⊢
  simp only [forceSt_eq] at h ⊢
  split at h
  · rename_i hE
    exact qopG_mono (fun v hv => by rw [putK_eq] at hv ⊢; exact hK _ _ (fun _ => rfl) hv) h
  · rename_i hE
    have hE' : ∀ σ', isEff o.op = false → σ' = σ := fun σ' h => by rw [hE] at h; cases h
    split at h
    · unfold callPV at h ⊢
      split at h
      · refine hM.call _ _ _ _ _ (fun e σ he => ?_) h
        cases e with
        | ret v => simp only at he ⊢; rw [putK_eq] at he ⊢; exact hK _ _ (hE' _) he
        | panic v => exact he
      · exact (hM.raw _ _ _ _ h).elim
      · exact h
    · exact h
    · exact eop_mono (fun v σ hv => by rw [putK_eq] at hv ⊢; exact hK _ _ (hE' _) hv) h
theorem pstep_mono' (hM : CxMono C) {o : Oper} (hK : ∀ u σ', (isEff o.op = false → σ' = σ) → K (fputO f o.dst u) σ' → K' (fputO f o.dst u) σ') (h : pstep C all Q o f σ K) : pstep C all Q o f σ K' := by
  rw [pstep_iff] at h ⊢
  split at h
  · exact runOp_mono' hM hK h
  · exact hK _ _ (fun _ => rfl) h
  · exact h
theorem pstep_out (hM : CxMono C) {o : Oper} {d : Option Nat} {v : PV} (h1 : ∀ i, d = some i → i ∉ looks all o) (h2 : ∀ i, d = some i → o.dst ≠ some i) (h : pstep C all Q o (fputO f d v) σ K) :
    pstep C all Q o f σ (fun f' σ' => K (fputO f' d v) σ') := by
  rw [pstep_iff] at h ⊢
  rw [guard_same (f' := f) (fun k hk => fputO_out fun i hi e => h1 i hi (e ▸ hk))] at h
  split at h
  · exact runOp_out hM h1 h2 h
  · rw [fputO_comm h2] at h; exact h
  · exact h
/-- What leaves the store alone yields one value, and the same wherever its operands and what it loads are the same. -/
theorem quiet_yield (hM : CxMono C) {o : Oper} (hE : isEff o.op = false) (h : pstep C all Q o f σ K) : ∃ v, K (fputO f o.dst v) σ ∧ ∀ f' σ', (∀ d, d ∈ looks all o → f d = f' d) →
    (∀ t a b off, o.op = .load t a → ev f a = .ptr b off → cellsAt σ.bx b off (C.T.get t).size = cellsAt σ'.bx b off (C.T.get t).size) → ∀ K' : Frame → St → Prop, K' (fputO f' o.dst v) σ' → pstep C all Q o f' σ' K' := by
  rw [pstep_iff] at h
  split at h
  · rename_i hg
    unfold runOp at h
    simp only [hE] at h
    obtain ⟨v, hv, hall⟩ := qopG_ex h
    rw [putK_eq] at hv
    refine ⟨v, hv, fun f' σ' hf hl K' hK' => ?_⟩
    rw [pstep_iff, ← guard_same hf, hg]
    simp only [runOp, hE]
    refine qopG_congr (fun x hx => ev_same hf hx) hM.one hl (hall _ ?_)
    rw [putK_eq]; exact hK'
  · rename_i hg
    refine ⟨_, h, fun f' σ' hf hl K' hK' => ?_⟩
    rw [pstep_iff, ← guard_same hf, hg]
    exact hK'
  · exact h.elim

theorem chkL_iff {ms : List Nat} {j : Nat} {pre post : List Box} {X : Prop} : ∀ {l : List Ld}, chkL ms j pre post l X ↔ (∀ d, d ∈ l → anc ms d.i j = false → cellsAt pre d.b d.off d.n = cellsAt post d.b d.off d.n) ∧ X
  | [] => by simp [chkL]
  | d :: l => by
    obtain ⟨di, db, doff, dn⟩ := d
    simp only [chkL]
    cases hd : anc ms di j with
    | true => simp only [chkL_iff, List.mem_cons, forall_eq_or_imp, hd, Bool.true_eq_false, false_implies, true_and]
    | false => simp only [chkL_iff, List.mem_cons, forall_eq_or_imp, hd, true_implies, and_assoc]
theorem addLd_same {o : Oper} {f' : Frame} (h : ∀ d, d ∈ looks all o → f d = f' d) (T : Tab) (i : Nat) (ctx : List Ld) : addLd T o i f ctx = addLd T o i f' ctx := by
  unfold addLd
  split
  · rename_i t a ho
    rw [ev_same h (by rw [ho]; simp [Op.operands] : a ∈ o.op.operands)]
  · rfl
theorem addLd_sub {o : Oper} {ctx ctx' : List Ld} (h : ∀ d, d ∈ ctx' → d ∈ ctx) (T : Tab) (i : Nat) : ∀ d, d ∈ addLd T o i f ctx' → d ∈ addLd T o i f ctx := by
  unfold addLd
  split
  · split
    · intro d hd; rcases List.mem_cons.1 hd with rfl | hd
      · simp
      · exact List.mem_cons_of_mem _ (h d hd)
    · exact h
  · exact h
theorem addLd_old {o : Oper} {ctx : List Ld} (T : Tab) (i : Nat) : ∀ d, d ∈ ctx → d ∈ addLd T o i f ctx := by
  unfold addLd
  split
  · split
    · intro d hd; exact List.mem_cons_of_mem _ hd
    · exact fun _ h => h
  · exact fun _ h => h
theorem addLd_two {o o' : Oper} {f' : Frame} {ctx : List Ld} (T : Tab) (i i' : Nat) : ∀ d, d ∈ addLd T o i f (addLd T o' i' f' ctx) → d ∈ addLd T o' i' f' (addLd T o i f ctx) := by
  have key : ∀ (o : Oper) (i : Nat) (f : Frame), ∃ l, ∀ c, addLd T o i f c = l ++ c := fun o i f => by
    unfold addLd
    split
    · split
      · exact ⟨[_], fun c => rfl⟩
      · exact ⟨[], fun c => rfl⟩
    · exact ⟨[], fun c => rfl⟩
  obtain ⟨l, hl⟩ := key o i f
  obtain ⟨l', hl'⟩ := key o' i' f'
  intro d hd
  rw [hl, hl'] at hd
  rw [hl', hl]
  simp only [List.mem_append] at hd ⊢
  rcases hd with h | h | h
  · exact .inr (.inl h)
  · exact .inl h
  · exact .inr (.inr h)
theorem stepI_ctx (hM : CxMono C) {ms : List Nat} {i : Nat} {o : Oper} {ctx ctx' : List Ld} {K : List Ld → Frame → St → Prop} (hs : ∀ d, d ∈ ctx' → d ∈ ctx) (hK : ∀ c c' f σ, (∀ d, d ∈ c' → d ∈ c) → K c f σ → K c' f σ)
    (h : stepI C all ms Q i o ctx f σ K) : stepI C all ms Q i o ctx' f σ K := by
  unfold stepI at h ⊢
  refine pstep_mono hM (fun f' σ' hk => ?_) h
  cases hE : isEff o.op with
  | true => simp only [hE] at hk ⊢; rw [chkL_iff] at hk ⊢; exact ⟨fun d hd => hk.1 d (hs d hd), hK _ _ _ _ hs hk.2⟩
  | false => simp only [hE] at hk ⊢; exact hK _ _ _ _ (addLd_sub hs _ _) hk
theorem popsI_ctx (hM : CxMono C) {ms : List Nat} : ∀ (l : List (Nat × Oper)) (c c' : List Ld) (f : Frame) (σ : St), (∀ d, d ∈ c' → d ∈ c) → popsI C all ms Q l c f σ → popsI C all ms Q l c' f σ
  | [], _, _, _, _, _, h => h
  | (i, o) :: l, c, c', f, σ, hs, h => stepI_ctx hM hs (fun c c' f σ => popsI_ctx hM l c c' f σ) h

/-- Neither writes what the other looks at or writes. -/
def apartB (all : List Oper) (x y : Oper) : Bool :=
  (match x.dst with | some d => !(nmem d (looks all y)) && (match y.dst with | some d' => !(Nat.beq d d') | none => true) | none => true) &&
  (match y.dst with | some d => !(nmem d (looks all x)) | none => true)
theorem apartB_spec {x y : Oper} (h : apartB all x y = true) : (∀ i, x.dst = some i → i ∉ looks all y) ∧ (∀ i, x.dst = some i → y.dst ≠ some i) ∧ (∀ i, y.dst = some i → i ∉ looks all x) := by
  unfold apartB at h
  rw [Bool.and_eq_true] at h
  refine ⟨fun i hi => ?_, fun i hi => ?_, fun i hi => ?_⟩
  · have := h.1; rw [hi] at this; simp only [Bool.and_eq_true, Bool.not_eq_true'] at this
    intro hm; rw [(nmem_iff _ _).2 hm] at this; cases this.1
  · have := h.1; rw [hi] at this; simp only [Bool.and_eq_true, Bool.not_eq_true'] at this
    intro hm; rw [hm] at this; simp at this
  · have := h.2; rw [hi] at this; simp only [Bool.not_eq_true'] at this
    intro hm; rw [(nmem_iff _ _).2 hm] at this; cases this
/-- What leaves the store alone may come behind what does not wait for it. -/
theorem swap (hM : CxMono C) {ms : List Nat} {ix iy : Nat} {x y : Oper} {ctx : List Ld} {K0 : List Ld → Frame → St → Prop} (hK : ∀ c c' f σ, (∀ d, d ∈ c' → d ∈ c) → K0 c f σ → K0 c' f σ)
    (hE : isEff x.op = false) (hap : apartB all x y = true) (hanc : anc ms ix iy = false) (h : stepI C all ms Q ix x ctx f σ (fun c f σ => stepI C all ms Q iy y c f σ K0)) :
    stepI C all ms Q iy y ctx f σ (fun c f σ => stepI C all ms Q ix x c f σ K0) := by
  obtain ⟨ha, hb, hc⟩ := apartB_spec hap
  unfold stepI at h
  simp only [hE] at h
  obtain ⟨v, hv, hall⟩ := quiet_yield hM hE h
  have hsame : ∀ u d, d ∈ looks all x → f d = fputO f y.dst u d := fun u d hd => (fputO_out fun i hi e => hc i hi (e ▸ hd)).symm
  have hv := pstep_out hM ha hb hv
  unfold stepI
  refine pstep_mono' hM (fun u σ' hq hk => ?_) hv
  cases hEy : isEff y.op with
  | true =>
    simp only [hEy] at hk ⊢
    rw [chkL_iff] at hk ⊢
    refine ⟨fun d hd hda => hk.1 d (addLd_old _ _ d hd) hda, ?_⟩
    simp only [hE]
    refine hall _ _ (hsame u) (fun t a b off ho ha => ?_) _ ?_
    · exact hk.1 ⟨ix, b, off, (C.T.get t).size⟩ (by simp [addLd, ho, ha]) hanc
    · rw [← addLd_same (hsame u)]; exact hk.2
  | false =>
    simp only [hEy] at hk ⊢
    simp only [hE]
    obtain rfl := hq hEy
    refine hall _ _ (hsame u) (fun t a b off ho ha => rfl) _ ?_
    rw [← addLd_same (hsame u)]
    refine hK _ _ _ _ ?_ hk
    rw [← addLd_same (f := f) (f' := fputO f x.dst v) (o := y) (fun d hd => (fputO_out fun i hi e => ha i hi (e ▸ hd)).symm)]
    exact addLd_two _ _ _
theorem toFront (hM : CxMono C) {ms : List Nat} {i : Nat} {o : Oper} {post : List (Nat × Oper)} : ∀ (pre : List (Nat × Oper)), (∀ p, p ∈ pre → isEff p.2.op = false ∧ apartB all p.2 o = true ∧ anc ms p.1 i = false) → ∀ (ctx : List Ld) (f : Frame) (σ : St),
    popsI C all ms Q (pre ++ (i, o) :: post) ctx f σ → stepI C all ms Q i o ctx f σ (popsI C all ms Q (pre ++ post))
  | [], _, _, _, _, h => h
  | (ix, x) :: pre, hp, ctx, f, σ, h => by
    obtain ⟨h1, h2, h3⟩ := hp (ix, x) (by simp)
    refine swap hM (popsI_ctx hM _) h1 h2 h3 ?_
    have h' : stepI C all ms Q ix x ctx f σ (popsI C all ms Q (pre ++ (i, o) :: post)) := h
    unfold stepI at h' ⊢
    refine pstep_mono hM (fun f' σ' hk => ?_) h'
    cases hE : isEff x.op with
    | true => rw [hE] at h1; cases h1
    | false => simp only [hE] at hk ⊢; exact toFront hM pre (fun p hp' => hp p (List.mem_cons_of_mem _ hp')) _ _ _ hk
end
end Go.PM
