/-
  THE PURE LOGIC, 9: a region that draws its order, whichever it draws.
-/
import Derived.Test.YtodfhajjdfbhgaaDoorPmDraw
set_option linter.unusedVariables false
set_option linter.unusedSimpArgs false
set_option linter.all false
namespace Go.PM

/-! ### What the kernel looks over, once for each region -/
def edgesIn (n i : Nat) : List Edge → Bool
  | [] => true
  | e :: l => (match Region.binds .any e with | true => Nat.ble (e.on + 1) n && !(Nat.beq e.on i) | false => true) && edgesIn n i l
def edgesOff (j : Nat) : List Edge → Bool
  | [] => true
  | e :: l => (match Region.binds .any e with | true => !(Nat.beq e.on j) | false => true) && edgesOff j l
def headOK (all : List Oper) (ms : List Nat) (i : Nat) (o : Oper) : List (Nat × Oper) → Bool
  | [] => true
  | (j, p) :: l => !(Nat.beq i j) && edgesOff j o.after.toList && (anc ms i j || (!(isEff o.op) && apartB all o p)) && headOK all ms i o l
def pairOK (all : List Oper) (ms : List Nat) (n : Nat) : List (Nat × Oper) → Bool
  | [] => true
  | (i, o) :: l => headOK all ms i o l && edgesIn n i o.after.toList && pairOK all ms n l
def covers (cs : List (Nat × Oper)) : Nat → Bool
  | 0 => true
  | n + 1 => cs.any (fun p => Nat.beq p.1 n) && covers cs n
def masksOK (ms : List Nat) : List (Nat × Oper) → Bool
  | [] => true
  | (i, o) :: l => Nat.beq (ms.getD i 0) (maskOf ms o.after.toList 0) && masksOK ms l
def drawOK (ops : List Oper) : Bool :=
  let ms := masks ops []
  let cs := canon ops
  Nat.beq cs.length ops.length && pairOK ops ms ops.length cs && covers cs ops.length && masksOK ms cs

theorem edgesIn_spec {n i : Nat} : ∀ {l : List Edge}, edgesIn n i l = true → ∀ e ∈ l, Region.binds .any e = true → e.on < n ∧ e.on ≠ i
  | [], _, e, he, _ => by cases he
  | x :: l, h, e, he, hb => by
    simp only [edgesIn, Bool.and_eq_true] at h
    rcases List.mem_cons.1 he with rfl | he
    · have h1 := h.1
      rw [hb] at h1
      simp only [Bool.and_eq_true, Nat.ble_eq, Bool.not_eq_true'] at h1
      exact ⟨h1.1, fun e => by rw [e] at h1; simp at h1⟩
    · exact edgesIn_spec h.2 e he hb
theorem edgesOff_spec {j : Nat} : ∀ {l : List Edge}, edgesOff j l = true → ∀ e ∈ l, Region.binds .any e = true → e.on ≠ j
  | [], _, e, he, _ => by cases he
  | x :: l, h, e, he, hb => by
    simp only [edgesOff, Bool.and_eq_true] at h
    rcases List.mem_cons.1 he with rfl | he
    · have h1 := h.1
      rw [hb] at h1
      simp only [Bool.not_eq_true'] at h1
      exact fun e => by rw [e] at h1; simp at h1
    · exact edgesOff_spec h.2 e he hb
/-- One stands ahead of another. -/
def Ahead (all : List Oper) (ms : List Nat) (x y : Nat × Oper) : Prop :=
  x.1 ≠ y.1 ∧ (∀ e ∈ x.2.after.toList, Region.binds .any e = true → e.on ≠ y.1) ∧ (anc ms x.1 y.1 = true ∨ (isEff x.2.op = false ∧ apartB all x.2 y.2 = true))
theorem headOK_spec {all : List Oper} {ms : List Nat} {i : Nat} {o : Oper} : ∀ {l : List (Nat × Oper)}, headOK all ms i o l = true → ∀ p ∈ l, Ahead all ms (i, o) p
  | [], _, p, hp => by cases hp
  | (j, x) :: l, h, p, hp => by
    simp only [headOK, Bool.and_eq_true, Bool.or_eq_true, Bool.not_eq_true'] at h
    rcases List.mem_cons.1 hp with rfl | hp
    · exact ⟨fun (e : i = j) => by have := h.1.1.1; rw [e] at this; simp at this, edgesOff_spec h.1.1.2, h.1.2⟩
    · exact headOK_spec h.2 p hp
theorem pairOK_spec {all : List Oper} {ms : List Nat} {n : Nat} : ∀ {l : List (Nat × Oper)}, pairOK all ms n l = true → l.Pairwise (Ahead all ms) ∧ ∀ p ∈ l, ∀ e ∈ p.2.after.toList, Region.binds .any e = true → e.on < n ∧ e.on ≠ p.1
  | [], _ => ⟨List.Pairwise.nil, fun p hp => by cases hp⟩
  | (i, o) :: l, h => by
    simp only [pairOK, Bool.and_eq_true] at h
    obtain ⟨h1, h2⟩ := pairOK_spec h.2
    refine ⟨List.Pairwise.cons (headOK_spec h.1.1) h1, fun p hp => ?_⟩
    rcases List.mem_cons.1 hp with rfl | hp
    · exact edgesIn_spec h.1.2
    · exact h2 p hp
theorem covers_spec {cs : List (Nat × Oper)} : ∀ {n : Nat}, covers cs n = true → ∀ k, k < n → ∃ p ∈ cs, p.1 = k
  | 0, _, k, hk => by omega
  | n + 1, h, k, hk => by
    simp only [covers, Bool.and_eq_true, List.any_eq_true] at h
    by_cases hkn : k = n
    · obtain ⟨p, hp, hb⟩ := h.1; exact ⟨p, hp, by rw [hkn]; exact Nat.eq_of_beq_eq_true hb⟩
    · exact covers_spec h.2 k (by omega)
theorem masksOK_spec {ms : List Nat} : ∀ {l : List (Nat × Oper)}, masksOK ms l = true → ∀ p ∈ l, ms.getD p.1 0 = maskOf ms p.2.after.toList 0
  | [], _, p, hp => by cases hp
  | (i, o) :: l, h, p, hp => by
    simp only [masksOK, Bool.and_eq_true] at h
    rcases List.mem_cons.1 hp with rfl | hp
    · exact Nat.eq_of_beq_eq_true h.1
    · exact masksOK_spec h.2 p hp
theorem maskOf_bit {ms : List Nat} {x : Nat} : ∀ {l : List Edge} {s : Nat}, (maskOf ms l s).testBit x = true → s.testBit x = true ∨ ∃ e ∈ l, Region.binds .any e = true ∧ (e.on = x ∨ anc ms x e.on = true)
  | [], s, h => .inl h
  | e :: l, s, h => by
    unfold maskOf at h
    cases hb : Region.binds .any e with
    | true =>
      rw [hb] at h
      rcases maskOf_bit h with h1 | ⟨e', he', h1⟩
      · rw [Nat.testBit_or, Nat.testBit_or, Bool.or_eq_true, Bool.or_eq_true] at h1
        rcases h1 with (h1 | h1) | h1
        · exact .inl h1
        · rw [Nat.testBit_two_pow] at h1
          exact .inr ⟨e, by simp, hb, .inl (by simpa using h1)⟩
        · exact .inr ⟨e, by simp, hb, .inr h1⟩
      · exact .inr ⟨e', List.mem_cons_of_mem _ he', h1⟩
    | false =>
      rw [hb] at h
      rcases maskOf_bit h with h1 | ⟨e', he', h1⟩
      · exact .inl h1
      · exact .inr ⟨e', List.mem_cons_of_mem _ he', h1⟩
theorem pickQ_mem {left : List (Nat × Oper)} : ∀ {l : List (Nat × Oper)} {p : Nat × Oper}, pickQ left l = some p → p ∈ l
  | [], p, h => by cases h
  | (i, o) :: l, p, h => by
    unfold pickQ at h
    split at h
    · cases h; simp
    · exact List.mem_cons_of_mem _ (pickQ_mem h)
theorem dropI_mem {i : Nat} : ∀ {l : List (Nat × Oper)} {p : Nat × Oper}, p ∈ dropI i l → p ∈ l
  | [], p, h => by cases h
  | (j, o) :: l, p, h => by
    unfold dropI at h
    split at h
    · exact List.mem_cons_of_mem _ h
    · rcases List.mem_cons.1 h with rfl | h
      · simp
      · exact List.mem_cons_of_mem _ (dropI_mem h)
theorem canonF_mem : ∀ {n : Nat} {l : List (Nat × Oper)} {p : Nat × Oper}, p ∈ canonF n l → p ∈ l
  | 0, l, p, h => h
  | n + 1, [], p, h => by cases h
  | n + 1, x :: l, p, h => by
    unfold canonF at h
    split at h
    · rename_i i o hp
      rcases List.mem_cons.1 h with rfl | h
      · exact pickQ_mem hp
      · exact dropI_mem (canonF_mem h)
    · rcases List.mem_cons.1 h with rfl | h
      · simp
      · exact List.mem_cons_of_mem _ (canonF_mem h)
theorem numbered_mem : ∀ {l : List Oper} {i : Nat} {p : Nat × Oper}, p ∈ numbered i l → i ≤ p.1 ∧ l[p.1 - i]? = some p.2
  | [], i, p, h => by cases h
  | o :: l, i, p, h => by
    unfold numbered at h
    rcases List.mem_cons.1 h with rfl | h
    · simp
    · obtain ⟨h1, h2⟩ := numbered_mem h
      refine ⟨by omega, ?_⟩
      rw [show p.1 - i = (p.1 - (i + 1)) + 1 by omega]
      simpa using h2
theorem canon_mem {ops : List Oper} {p : Nat × Oper} (h : p ∈ canon ops) : ops[p.1]? = some p.2 := by
  have := numbered_mem (canonF_mem h)
  simpa using this.2

section
variable {G : GE} {C : Cx} {e0 e : Env} {σ0 σ : St} {w0 w : World} {a : Act} {f : Frame} {Q : PQ} {ro : Option Nat} {n : Nat} {ds : Nat} {N : Nat} {Z : Array Value → Prop}

theorem any_sound (hC : CxOK G C ro e0 σ0 w0) (hM : CxMono C) {ops : Array Oper} (hd : ∀ o, o ∈ ops → ∀ d, o.dst = some d → d < N ∧ ∀ t v, Z t → Z (t.setIfInBounds d v)) {ms : List Nat} (hms : ∀ i o, ops[i]? = some o → ms.getD i 0 = maskOf ms o.after.toList 0) :
    ∀ (k : Nat) (l : List (Nat × Oper)), l.length = k → (∀ p ∈ l, ops[p.1]? = some p.2) → l.Pairwise (Ahead ops.toList ms) → (∀ p ∈ l, ∀ e ∈ p.2.after.toList, Region.binds .any e = true → e.on < ops.size ∧ e.on ≠ p.1) →
    ∀ {listed : Array Bool}, listed.size = ops.size → (∀ k, k < ops.size → (listed.getD k false = true ↔ ∀ p ∈ l, p.1 ≠ k)) → (∀ j, (∀ p ∈ l, p.1 ≠ j) → ∀ p ∈ l, anc ms p.1 j = false) →
    ∀ {ctx : List Ld} {e : Env} {σ : St} {w : World} {a : Act} {f : Frame}, SRel G e σ w → FRel G e σ w f a.tmps → Later e0 σ0 w0 e σ w → a.tmps.size = N → Marks ds e σ w a.defers → Z a.tmps → popsI C ops.toList ms Q l ctx f σ →
    wpAnyIn (fw ro) n G.P .any ops (PostOf G e0 σ0 w0 ds N Z Q) k listed a w
  | 0, l, hl, hget, hp, hed, listed, hsz, hli, hdown, ctx, e, σ, w, a, f, hS, hF, hL, hN, hds, hZ, h => by
    have hl0 : l = [] := List.length_eq_zero_iff.1 hl
    subst hl0
    refine ⟨?_, ⟨.normal, f, e, σ, h, rfl, hS, hF, hL, hN, hds, hZ⟩⟩
    rw [List.eq_nil_iff_forall_not_mem]
    intro i hi
    obtain ⟨h1, o, ho, _⟩ := mem_ready.1 hi
    have hlt := (Array.getElem?_eq_some_iff.1 ho).1
    have := (hli i hlt).2 (fun p hp => by cases hp)
    have hlt' : i < listed.size := by rw [hsz]; exact hlt
    simp [Array.getD, hlt'] at this h1
    rw [this] at h1; cases h1
  | k + 1, l, hl, hget, hp, hed, listed, hsz, hli, hdown, ctx, e, σ, w, a, f, hS, hF, hL, hN, hds, hZ, h => by
    have hgd : ∀ i b, i < ops.size → listed.getD i b = listed.getD i false := fun i b hi => by
      have hlt' : i < listed.size := by rw [hsz]; exact hi
      simp [Array.getD, hlt']
    refine ⟨fun hr => ?_, fun i hi => ?_⟩
    · cases l with
      | nil => simp at hl
      | cons x l =>
        exfalso
        have hx := hget x (by simp)
        have hlt := (Array.getElem?_eq_some_iff.1 hx).1
        have : x.1 ∈ Region.ready .any ops listed := by
          refine mem_ready.2 ⟨?_, x.2, hx, fun ed hed' hb => ?_⟩
          · rw [hgd _ _ hlt]
            cases hv : listed.getD x.1 false with
            | false => rfl
            | true => exact absurd rfl ((hli x.1 hlt).1 hv x (by simp))
          · have h1 := hed x (by simp) ed (Array.mem_def.1 hed') hb
            refine (hli ed.on h1.1).2 fun p hp' => ?_
            rcases List.mem_cons.1 hp' with rfl | hp'
            · exact fun e => h1.2 e.symm
            · exact fun e => (List.rel_of_pairwise_cons hp hp').2.1 ed (Array.mem_def.1 hed') hb e.symm
        rw [hr] at this; cases this
    · obtain ⟨h1, o, ho, hall⟩ := mem_ready.1 hi
      have hlt := (Array.getElem?_eq_some_iff.1 ho).1
      rw [hgd _ _ hlt] at h1
      have hmem : ∃ p ∈ l, p.1 = i := by
        apply Classical.byContradiction
        intro hno
        have := (hli i hlt).2 (fun p hp e => hno ⟨p, hp, e⟩)
        rw [h1] at this; cases this
      obtain ⟨p, hpl, rfl⟩ := hmem
      have hpo : p.2 = o := by have := hget p hpl; rw [ho] at this; exact (Option.some.inj this).symm
      obtain ⟨pre, post, rfl⟩ := List.append_of_mem hpl
      obtain ⟨i, o'⟩ := p
      dsimp only at hpo ho hlt h1 hi
      subst hpo
      have hpw := List.pairwise_append.1 hp
      have hpost := (List.pairwise_cons.1 hpw.2.1)
      have hnotanc : ∀ x ∈ pre ++ (i, o') :: post, anc ms x.1 i = false := fun x hx => by
        cases hax : anc ms x.1 i with
        | false => rfl
        | true =>
          exfalso
          unfold anc at hax
          rw [hms i o' ho] at hax
          rcases maskOf_bit hax with h2 | ⟨ed, hed', hb, h2⟩
          · simp at h2
          · have hlst := hall ed (Array.mem_def.2 hed') hb
            have hne := (hli ed.on (hed _ hpl ed hed' hb).1).1 hlst
            rcases h2 with h2 | h2
            · exact hne x hx h2.symm
            · rw [hdown ed.on hne x hx] at h2; cases h2
      have hfront := toFront hM pre (fun x hx => by
        have hA := hpw.2.2 x hx (i, o') (by simp)
        have hna := hnotanc x (by simp [hx])
        rcases hA.2.2 with h2 | h2
        · rw [hna] at h2; cases h2
        · exact ⟨h2.1, h2.2, hna⟩) ctx f σ h
      have hstep := pstep_sound (ro := ro) (n := n) hC hS hF hL hN hds hZ (ops := ops) (hd o' (Array.mem_of_getElem? ho)) hfront
      have hne' : ∀ x ∈ pre ++ post, x.1 ≠ i := fun x hx => by
        rcases List.mem_append.1 hx with hx | hx
        · exact (hpw.2.2 x hx (i, o') (by simp)).1
        · exact fun e => (hpost.1 x hx).1 e.symm
      have hsub : ∀ x, x ∈ pre ++ post → x ∈ pre ++ (i, o') :: post := fun x hx => by
        rcases List.mem_append.1 hx with hx | hx <;> simp [hx]
      have next : ∀ a' w', KRel G e0 σ0 w0 ds N Z (fun f' σ' => ∃ c, popsI C ops.toList ms Q (pre ++ post) c f' σ') a' w' → wpAnyIn (fw ro) n G.P .any ops (PostOf G e0 σ0 w0 ds N Z Q) k (listed.setIfInBounds i true) a' w' := fun a' w' ⟨f', e', σ', ⟨c, hk1⟩, h2, h3, h4, h5, h6, h7⟩ => by
        refine any_sound hC hM hd hms k (pre ++ post) (by simp at hl ⊢; omega) (fun x hx => hget x (hsub x hx)) (List.pairwise_append.2 ⟨hpw.1, hpost.2, fun x hx y hy => hpw.2.2 x hx y (List.mem_cons_of_mem _ hy)⟩)
          (fun x hx => hed x (hsub x hx)) (by simpa using hsz) (fun k hk => ?_) (fun j hj x hx => ?_) h2 h3 h4 h5 h6 h7 hk1
        · by_cases hki : k = i
          · subst hki
            have hlt' : k < listed.size := by rw [hsz]; exact hlt
            have : (listed.setIfInBounds k true).getD k false = true := by simp [Array.getD, hlt']
            simp only [this, true_iff]
            exact hne'
          · have : (listed.setIfInBounds i true).getD k false = listed.getD k false := getD_set_ne false (Ne.symm hki)
            rw [this, hli k hk]
            constructor
            · exact fun hh x hx => hh x (hsub x hx)
            · intro hh x hx
              rcases List.mem_append.1 hx with hx | hx
              · exact hh x (by simp [hx])
              · rcases List.mem_cons.1 hx with rfl | hx
                · exact fun e => hki e.symm
                · exact hh x (by simp [hx])
        · by_cases hji : j = i
          · subst hji; exact hnotanc x (hsub x hx)
          · refine hdown j (fun y hy => ?_) x (hsub x hx)
            rcases List.mem_append.1 hy with hy | hy
            · exact hj y (by simp [hy])
            · rcases List.mem_cons.1 hy with rfl | hy
              · exact fun e => hji e.symm
              · exact hj y (by simp [hy])
      have hK : ∀ a' w', KRel G e0 σ0 w0 ds N Z (fun f' σ' => match isEff o'.op with | true => chkL ms i σ.bx σ'.bx ctx (popsI C ops.toList ms Q (pre ++ post) ctx f' σ') | false => popsI C ops.toList ms Q (pre ++ post) (addLd C.T o' i f ctx) f' σ') a' w' →
          KRel G e0 σ0 w0 ds N Z (fun f' σ' => ∃ c, popsI C ops.toList ms Q (pre ++ post) c f' σ') a' w' := fun a' w' ⟨f', e', σ', hk, hrest⟩ => by
        refine ⟨f', e', σ', ?_, hrest⟩
        cases hE : isEff o'.op with
        | true => rw [hE] at hk; exact ⟨_, (chkL_iff.1 hk).2⟩
        | false => rw [hE] at hk; exact ⟨_, hk⟩
      unfold wpOpIn
      rw [ho]
      dsimp only
      split at hstep
      · rename_i hw
        rw [if_pos hw]
        exact Oper.wpIn_mono (fun a w h => next a w (hK a w h)) hstep
      · rename_i hw
        rw [if_neg hw]
        exact ⟨fun _ _ => trivial, next _ _ (hK _ _ hstep)⟩
/-- A region that draws its order. -/
theorem draw_sound (hC : CxOK G C ro e0 σ0 w0) (hM : CxMono C) {ops : Array Oper} (hd : ∀ o, o ∈ ops → ∀ d, o.dst = some d → d < N ∧ ∀ t v, Z t → Z (t.setIfInBounds d v)) (hok : drawOK ops.toList = true)
    (hS : SRel G e σ w) (hF : FRel G e σ w f a.tmps) (hL : Later e0 σ0 w0 e σ w) (hN : a.tmps.size = N) (hds : Marks ds e σ w a.defers) (hZ : Z a.tmps) (h : popsI C ops.toList (masks ops.toList []) Q (canon ops.toList) [] f σ) :
    wpAnyIn (fw ro) n G.P .any ops (PostOf G e0 σ0 w0 ds N Z Q) ops.size (Array.replicate ops.size false) a w := by
  simp only [drawOK, Bool.and_eq_true] at hok
  obtain ⟨⟨⟨h1, h2⟩, h3⟩, h4⟩ := hok
  have hlen : (canon ops.toList).length = ops.size := by simpa using Nat.eq_of_beq_eq_true h1
  have hcov : ∀ k, k < ops.size → ∃ p ∈ canon ops.toList, p.1 = k := fun k hk => covers_spec h3 k (by simpa using hk)
  have hget : ∀ p ∈ canon ops.toList, ops[p.1]? = some p.2 := fun p hp => by have := canon_mem hp; simpa using this
  refine any_sound hC hM hd (ms := masks ops.toList []) (fun i o ho => ?_) _ (canon ops.toList) hlen hget (pairOK_spec h2).1 (fun p hp e he hb => by have := (pairOK_spec h2).2 p hp e he hb; simpa using this) (by simp) (fun k hk => ?_) (fun j hj p hp => ?_) hS hF hL hN hds hZ h
  · obtain ⟨p, hp, rfl⟩ := hcov i (Array.getElem?_eq_some_iff.1 ho).1
    have := hget p hp
    rw [ho] at this
    cases this
    exact masksOK_spec h4 p hp
  · have : (Array.replicate ops.size false).getD k false = false := by simp [Array.getD]
    rw [this]
    simp only [Bool.false_eq_true, false_iff]
    obtain ⟨p, hp, he⟩ := hcov k hk
    exact fun hh => hh p hp he
  · by_cases hj' : j < ops.size
    · obtain ⟨q, hq, he⟩ := hcov j hj'
      exact absurd he (hj q hq)
    · unfold anc
      have : (masks ops.toList []).length = ops.size := by
        have : ∀ (l : List Oper) (acc : List Nat), (masks l acc).length = acc.length + l.length := by
          intro l
          induction l with
          | nil => intro acc; rfl
          | cons o l ih => intro acc; rw [masks, ih]; simp; omega
        rw [this]; simp
      rw [List.getD_eq_getElem?_getD, List.getElem?_eq_none (by omega)]
      simp
end
end Go.PM
