/-
  THE PURE LOGIC, 3: the table of types, held against the program.
-/
import Derived.Test.YtodfhajjdfbhgaaDoorPmRel
set_option linter.unusedVariables false
set_option linter.unusedSimpArgs false
set_option linter.all false
namespace Go.PM

def zeroD : D → Value → Bool
  | .bool a, .bool b => a == b
  | .int k a, .int k' b => keq k k' && (a == b)
  | .str s, .string t => s == t.data.toList
  | .nilp, .pointer none => true
  | .nilf, .nilFunc => true
  | .nili, .nilIface => true
  | _, _ => false
def zeroV : PV → Value → Bool
  | .d x, v => zeroD x v
  | .nils _, .slice none 0 0 => true
  | _, _ => false
def zeroL : List PV → List Value → Bool
  | [], [] => true
  | x :: l, v :: m => zeroV x v && zeroL l m
  | _, _ => false
def fieldsB (P : Program) : List (Nat × Nat) → List Field → Bool
  | [], [] => true
  | (o, t) :: l, f :: m => Nat.beq o f.offset && Nat.beq t f.type && (match P.info? t with | some i => Nat.ble 1 i.size | none => false) && fieldsB P l m
  | _, _ => false
def kindB (P : Program) : TK → TypeDesc → Bool
  | .int k, .int k' => keq k k'
  | .bool, .bool => true
  | .string, .string => true
  | .ptr e, .pointer e' => Nat.beq e e'
  | .slice e, .slice e' => Nat.beq e e'
  | .array n e, .array n' e' => Nat.beq n n' && Nat.beq e e'
  | .struct fs, .struct gs => fieldsB P fs gs.toList
  | .func, .func _ _ _ => true
  | .iface, .interface _ => true
  | _, _ => false
def eqB (P : Program) (t : Nat) (d : TypeDesc) : Bool := match d with
  | .struct gs => gs.toList.all (fun f => f.name != "_") && !P.stoodInHeld t && !P.eqGuardType P.depth t
  | .int _ => match P.info? t with | some i => i.comparable | none => false
  | _ => false
def checkTI (P : Program) (t : Nat) (v : TI) : Bool := match v.kind with
  | .other => true
  | k => match P.info? t, P.underlying t with
    | some i, some d => Nat.beq i.size v.size && Nat.beq i.bytes v.bytes && kindB P k d && Nat.beq v.zero.length v.size && (k.isAgg || Nat.beq v.size 1) && (!v.eqok || eqB P t d) && (match i.zero with | some z => zeroL v.zero z.cells.toList | none => false)
    | _, _ => false
def Tab.all (p : Nat → TI → Bool) : Tab → Bool
  | .leaf => true
  | .node l k v r => p k v && (l.all p && r.all p)
theorem Tab.get_all {p : Nat → TI → Bool} : ∀ {T : Tab}, T.all p = true → ∀ t, T.get t = TI.no ∨ p t (T.get t) = true := by
  intro T
  induction T with
  | leaf => exact fun _ _ => .inl rfl
  | node l k v r ihl ihr =>
    intro h t
    simp only [Tab.all, Bool.and_eq_true] at h
    unfold Tab.get
    split
    · rename_i hb
      have : t = k := Nat.eq_of_beq_eq_true hb
      subst this
      exact .inr h.1
    · split
      · exact ihl h.2.1 t
      · exact ihr h.2.2 t
theorem keq_eq {a b : IntKind} (h : keq a b = true) : a = b := by cases a <;> cases b <;> first | rfl | cases h

inductive FieldsOK (P : Program) : List (Nat × Nat) → List Field → Prop
  | nil : FieldsOK P [] []
  | cons (o t : Nat) (l) (f : Field) (m) (i : TypeInfo) (ho : f.offset = o) (ht : f.type = t) (hi : P.info? t = some i) (hs : 1 ≤ i.size) (h : FieldsOK P l m) : FieldsOK P ((o, t) :: l) (f :: m)
theorem fieldsB_ok {P : Program} : ∀ {l : List (Nat × Nat)} {m : List Field}, fieldsB P l m = true → FieldsOK P l m
  | [], [], _ => .nil
  | (o, t) :: l, f :: m, h => by
    simp only [fieldsB, Bool.and_eq_true] at h
    obtain ⟨⟨⟨h1, h2⟩, h3⟩, h4⟩ := h
    cases hi : P.info? t with
    | none => rw [hi] at h3; cases h3
    | some i =>
      rw [hi] at h3
      exact .cons o t l f m i (Nat.eq_of_beq_eq_true h1).symm (Nat.eq_of_beq_eq_true h2).symm hi (Nat.le_of_ble_eq_true h3) (fieldsB_ok h4)
  | [], _ :: _, h => by cases h
  | _ :: _, [], h => by cases h
theorem FieldsOK.get {P : Program} {l : List (Nat × Nat)} {m : List Field} (h : FieldsOK P l m) : ∀ {i o t : Nat}, l[i]? = some (o, t) → ∃ f j, m[i]? = some f ∧ f.offset = o ∧ f.type = t ∧ P.info? t = some j ∧ 1 ≤ j.size := by
  induction h with
  | nil => intro i o t h; simp at h
  | cons o t l f m j ho ht hi hs _ ih =>
    intro i o' t' h'
    cases i with
    | zero => simp at h'; obtain ⟨rfl, rfl⟩ := h'; exact ⟨f, j, rfl, ho, ht, hi, hs⟩
    | succ i => simpa using ih (by simpa using h')

def KindOK (P : Program) : TK → TypeDesc → Prop
  | .int k, d => d = .int k
  | .bool, d => d = .bool
  | .string, d => d = .string
  | .ptr e, d => d = .pointer e
  | .slice e, d => d = .slice e
  | .array n e, d => d = .array n e
  | .struct fs, d => ∃ gs, d = .struct gs ∧ FieldsOK P fs gs.toList
  | .func, d => ∃ a b c, d = .func a b c
  | .iface, d => ∃ ms, d = .interface ms
  | .other, _ => False
theorem kindB_ok {P : Program} {k : TK} {d : TypeDesc} (h : kindB P k d = true) : KindOK P k d := by
  cases k <;> cases d <;> simp only [kindB, Bool.and_eq_true] at h <;> first
    | (cases h; done)
    | rfl
    | (have := keq_eq h; subst this; rfl)
    | (have := Nat.eq_of_beq_eq_true h; subst this; rfl)
    | (have h1 := Nat.eq_of_beq_eq_true h.1; have h2 := Nat.eq_of_beq_eq_true h.2; subst h1; subst h2; rfl)
    | exact ⟨_, rfl, fieldsB_ok h⟩
    | exact ⟨_, _, _, rfl⟩
    | exact ⟨_, rfl⟩
structure TIOK (P : Program) (t : Nat) (v : TI) : Prop where
  ex : ∃ i d z, P.info? t = some i ∧ P.underlying t = some d ∧ i.size = v.size ∧ i.bytes = v.bytes ∧ KindOK P v.kind d ∧ i.zero = some z ∧ zeroL v.zero z.cells.toList = true ∧ v.zero.length = v.size ∧ (v.kind.isAgg = true ∨ v.size = 1) ∧ (v.eqok = true → eqB P t d = true)
def TabOK (T : Tab) (P : Program) : Prop := T.all (checkTI P) = true
theorem TabOK.get {T : Tab} {P : Program} (h : TabOK T P) {t : Nat} (hk : (T.get t).kind ≠ .other) : TIOK P t (T.get t) := by
  rcases Tab.get_all h t with h1 | h1
  · rw [h1] at hk; exact absurd rfl hk
  · refine ⟨?_⟩
    unfold checkTI at h1
    split at h1
    · rename_i h2; exact absurd h2 hk
    · split at h1
      · rename_i i d hi hd
        simp only [Bool.and_eq_true] at h1
        obtain ⟨⟨⟨⟨⟨⟨h2, h3⟩, h4⟩, h6⟩, h7⟩, h8⟩, h5⟩ := h1
        split at h5
        · rename_i z hz
          exact ⟨i, d, z, hi, hd, Nat.eq_of_beq_eq_true h2, Nat.eq_of_beq_eq_true h3, kindB_ok h4, hz, h5, Nat.eq_of_beq_eq_true h6, by
            rw [Bool.or_eq_true] at h7
            exact h7.imp id Nat.eq_of_beq_eq_true, fun he => by
            rw [he] at h8; simpa using h8⟩
        · cases h5
      · cases h1
theorem TabOK.one {T : Tab} {P : Program} (h : TabOK T P) {t : Nat} (hk : (T.get t).kind ≠ .other) (ha : (T.get t).kind.isAgg = false) : (T.get t).size = 1 := by
  obtain ⟨i, d, z, _, _, _, _, _, _, _, _, h1, _⟩ := (h.get hk).ex
  exact h1.resolve_left (by rw [ha]; simp)
theorem zeroD_rel {ok : Nat → Nat → Prop} {w : World} {x : D} {v : Value} (h : zeroD x v = true) : DRel ok w x v ∧ v.oneCell' = true := by
  cases x <;> cases v <;> try (first | (cases h; done) | (rename_i a; cases a <;> first | (cases h; done) | exact ⟨.nilp, rfl⟩))
  · rename_i a b; have : a = b := by simpa [zeroD] using h
    subst this; exact ⟨.bool _, rfl⟩
  · rename_i k a k' b
    simp only [zeroD, Bool.and_eq_true] at h
    have h1 := keq_eq h.1; have h2 : a = b := by simpa using h.2
    subst h1; subst h2; exact ⟨.int _ _, rfl⟩
  · rename_i s t
    have : s = t.data.toList := by simpa [zeroD] using h
    subst this; exact ⟨.str _, rfl⟩
  · exact ⟨.nilf, rfl⟩
  · exact ⟨.nili, rfl⟩
theorem zeroV_rel {G : GE} {e : Env} {σ : St} {w : World} {x : PV} {v : Value} (h : zeroV x v = true) : VRel G e σ w x v ∧ v.oneCell' = true := by
  cases x with
  | d x => exact ⟨.d _ _ (zeroD_rel h).1, (zeroD_rel (ok := okc e σ) (w := w) h).2⟩
  | nils el =>
    unfold zeroV at h
    split at h <;> first | (cases h; done) | skip
    · rename_i heq; cases heq
    · exact ⟨.nils _, rfl⟩
  | _ => cases h
theorem zeroL_rel {G : GE} {e : Env} {σ : St} {w : World} : ∀ {l : List PV} {m : List Value}, zeroL l m = true → m.length = l.length ∧ ∀ (i : Nat) (x : PV) (u : Value), l[i]? = some x → m[i]? = some u → VRel G e σ w x u ∧ u.oneCell' = true
  | [], [], _ => ⟨rfl, fun i x u h => by simp at h⟩
  | x :: l, v :: m, h => by
    simp only [zeroL, Bool.and_eq_true] at h
    obtain ⟨h1, h2⟩ := zeroL_rel (G := G) (e := e) (σ := σ) (w := w) h.2
    refine ⟨by simp [h1], fun i x' u hx hu => ?_⟩
    cases i with
    | zero => simp at hx hu; subst hx; subst hu; exact zeroV_rel h.1
    | succ i => exact h2 i x' u (by simpa using hx) (by simpa using hu)
  | [], _ :: _, h => by cases h
  | _ :: _, [], h => by cases h
end Go.PM
