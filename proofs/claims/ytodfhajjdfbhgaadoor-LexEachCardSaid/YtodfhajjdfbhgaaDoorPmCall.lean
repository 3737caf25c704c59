/-
  THE PURE LOGIC, 13: a call: what is handed over is numbered anew; what is kept back stays.
-/
import Derived.Test.YtodfhajjdfbhgaaDoorPmFun
set_option linter.unusedVariables false
set_option linter.unusedSimpArgs false
set_option linter.all false
namespace Go.PM

/-! ### Which boxes are handed over -/
mutual
def ptrsV : PV → List Nat → List Nat
  | .ptr b _, acc => match nmem b acc with | true => acc | false => acc ++ [b]
  | .func _ a c, acc => ptrsL c (ptrsL a acc)
  | .iface _ v, acc => ptrsV v acc
  | .agg cs, acc => ptrsL cs acc
  | .tuple vs, acc => ptrsL vs acc
  | _, acc => acc
def ptrsL : List PV → List Nat → List Nat
  | [], acc => acc
  | v :: l, acc => ptrsL l (ptrsV v acc)
end
def closeB (bx : List Box) : Nat → Nat → List Nat → List Nat
  | 0, _, acc => acc
  | n + 1, i, acc => match acc[i]? with
    | none => acc
    | some b => match bx[b]? with
      | some (.cells _ cs) => closeB bx n (i + 1) (ptrsL cs acc)
      | _ => closeB bx n (i + 1) acc
def idxOf (b : Nat) : List Nat → Nat → Option Nat
  | [], _ => none
  | x :: l, i => match Nat.beq x b with | true => some i | false => idxOf b l (i + 1)
def nodupB : List Nat → Bool
  | [] => true
  | x :: l => match nmem x l with | true => false | false => nodupB l
mutual
def renV (bs : List Nat) : PV → PV
  | .ptr b o => match idxOf b bs 0 with | some i => .ptr i o | none => .undef
  | .func f a c => .func f (renL bs a) (renL bs c)
  | .iface t v => .iface t (renV bs v)
  | .agg cs => .agg (renL bs cs)
  | .tuple vs => .tuple (renL bs vs)
  | .d x => .d x
  | .undef => .undef
  | .elem r o => .elem r o
  | .sl t e rows => .sl t e rows
  | .nils e => .nils e
  | .raw v => .raw v
def renL (bs : List Nat) : List PV → List PV
  | [] => []
  | v :: l => renV bs v :: renL bs l
end
def selB (bs : List Nat) (bx : List Box) : List Nat → (List Box → Prop) → Prop
  | [], K => K []
  | b :: l, K => match bx[b]? with
    | some (.cells t cs) => selB bs bx l fun r => K (.cells t (renL bs cs) :: r)
    | some (.iter s p) => selB bs bx l fun r => K (.iter s p :: r)
    | some (.loop _ _ _) => False
    | none => False
/-! ### What comes back -/
mutual
def backV (bs : List Nat) (m L nx : Nat) : PV → PV
  | .ptr i o => match bs[i]? with | some b => .ptr b o | none => .ptr (L + (i - m)) o
  | .sl t e rows => .sl (nx + t) e rows
  | .func f a c => .func f (backL bs m L nx a) (backL bs m L nx c)
  | .iface t v => .iface t (backV bs m L nx v)
  | .agg cs => .agg (backL bs m L nx cs)
  | .tuple vs => .tuple (backL bs m L nx vs)
  | .d x => .d x
  | .undef => .undef
  | .elem r o => .elem r o
  | .nils e => .nils e
  | .raw v => .raw v
def backL (bs : List Nat) (m L nx : Nat) : List PV → List PV
  | [] => []
  | v :: l => backV bs m L nx v :: backL bs m L nx l
end
def backBox (bs : List Nat) (m L nx : Nat) : Box → Box
  | .cells t cs => .cells t (backL bs m L nx cs)
  | .iter s p => .iter s p
  | .loop st pd r => .loop st pd r
def backB (bb : Box → Box) : List Nat → List Box → List Box → (List Box → Prop) → Prop
  | [], xs, acc, K => K (acc ++ xs.map bb)
  | b :: l, x :: xs, acc, K => backB bb l xs (acc.set b (bb x)) K
  | _ :: _, [], _, _ => False
def backE (bs : List Nat) (m L nx : Nat) : PEnd → PEnd
  | .ret v => .ret (backV bs m L nx v)
  | .panic v => .panic (backV bs m L nx v)
/-- A call by a contract. -/
def viaCall (sp : Spec) (args : List PV) (σ : St) (K : PEnd → St → Prop) : Prop :=
  let bs := closeB σ.bx (σ.bx.length + 1) 0 (ptrsL args [])
  match nodupB bs with
  | true => selB bs σ.bx bs fun cb => nrmL bs.length (renL bs args) σ.tk 0 fun args' tk k => nrmB bs.length bs.length cb tk k fun cb' rest k =>
      sp args' ⟨cb', toks k, k⟩ fun pe σ3 => backB (backBox bs bs.length σ.bx.length σ.nx) bs σ3.bx σ.bx fun bx =>
        K (backE bs bs.length σ.bx.length σ.nx pe) ⟨bx, rest ++ σ3.tk.map (σ.nx + ·), σ.nx + σ3.nx⟩
  | false => False

/-! ### Lemmas on lists -/
theorem nodupB_spec : ∀ {l : List Nat}, nodupB l = true → ∀ (i j b : Nat), l[i]? = some b → l[j]? = some b → i = j
  | [], _, i, j, b, h, _ => by simp at h
  | x :: l, h, i, j, b, hi, hj => by
    simp only [nodupB] at h
    split at h
    · cases h
    · rename_i hm
      have hx : ∀ k : Nat, l[k]? ≠ some x := fun k hk => by
        have := (nmem_iff x l).2 (List.mem_of_getElem? hk)
        rw [this] at hm; cases hm
      cases i with
      | zero =>
        cases j with
        | zero => rfl
        | succ j => simp at hi hj; subst hi; exact absurd hj (hx j)
      | succ i =>
        cases j with
        | zero => simp at hi hj; subst hj; exact absurd hi (hx i)
        | succ j => simp at hi hj; rw [nodupB_spec h i j b hi hj]
theorem idxOf_spec {b : Nat} : ∀ {l : List Nat} {i j : Nat}, idxOf b l i = some j → i ≤ j ∧ l[j - i]? = some b
  | [], i, j, h => by simp [idxOf] at h
  | x :: l, i, j, h => by
    simp only [idxOf] at h
    split at h
    · rename_i hb; cases h; simp [Nat.eq_of_beq_eq_true hb]
    · obtain ⟨h1, h2⟩ := idxOf_spec h
      refine ⟨by omega, ?_⟩
      rw [show j - i = (j - (i + 1)) + 1 by omega]; simpa using h2
theorem renL_get {bs : List Nat} : ∀ {l : List PV} (i : Nat) (y : PV), (renL bs l)[i]? = some y → ∃ x, l[i]? = some x ∧ y = renV bs x
  | [], i, y, h => by simp [renL] at h
  | x :: l, i, y, h => by
    cases i with
    | zero => simp [renL] at h; exact ⟨x, by simp, h.symm⟩
    | succ i => simp only [renL, List.getElem?_cons_succ] at h; obtain ⟨z, h1, h2⟩ := renL_get i y h; exact ⟨z, by simpa using h1, h2⟩
theorem renL_length {bs : List Nat} : ∀ {l : List PV}, (renL bs l).length = l.length
  | [] => rfl
  | x :: l => by simp [renL, renL_length]
theorem backL_get {bs : List Nat} {m L nx : Nat} : ∀ {l : List PV} (i : Nat) (y : PV), (backL bs m L nx l)[i]? = some y → ∃ x, l[i]? = some x ∧ y = backV bs m L nx x
  | [], i, y, h => by simp [backL] at h
  | x :: l, i, y, h => by
    cases i with
    | zero => simp [backL] at h; exact ⟨x, by simp, h.symm⟩
    | succ i => simp only [backL, List.getElem?_cons_succ] at h; obtain ⟨z, h1, h2⟩ := backL_get i y h; exact ⟨z, by simpa using h1, h2⟩
theorem backL_length {bs : List Nat} {m L nx : Nat} : ∀ {l : List PV}, (backL bs m L nx l).length = l.length
  | [] => rfl
  | x :: l => by simp [backL, backL_length]
def renBox (bs : List Nat) : Box → Box
  | .cells t cs => .cells t (renL bs cs)
  | .iter s p => .iter s p
  | .loop st pd r => .loop st pd r
theorem selB_ex {bs : List Nat} {bx : List Box} : ∀ {l : List Nat} {K : List Box → Prop}, selB bs bx l K → ∃ cb, K cb ∧ cb.length = l.length ∧ ∀ (j b : Nat), l[j]? = some b → ∃ x, bx[b]? = some x ∧ cb[j]? = some (renBox bs x)
  | [], K, h => ⟨[], h, rfl, fun j b hj => by simp at hj⟩
  | b :: l, K, h => by
    simp only [selB] at h
    split at h
    · rename_i t cs hb
      obtain ⟨cb, h1, h2, h3⟩ := selB_ex h
      refine ⟨_, h1, by simp [h2], fun j b' hj => ?_⟩
      cases j with
      | zero => simp at hj; subst hj; exact ⟨_, hb, rfl⟩
      | succ j => exact h3 j b' (by simpa using hj)
    · rename_i s p hb
      obtain ⟨cb, h1, h2, h3⟩ := selB_ex h
      refine ⟨_, h1, by simp [h2], fun j b' hj => ?_⟩
      cases j with
      | zero => simp at hj; subst hj; exact ⟨_, hb, rfl⟩
      | succ j => exact h3 j b' (by simpa using hj)
    · exact h.elim
    · exact h.elim
theorem backB_ex {bb : Box → Box} : ∀ {bs : List Nat} {xs acc : List Box} {K : List Box → Prop}, (∀ (i j b : Nat), bs[i]? = some b → bs[j]? = some b → i = j) → (∀ b, b ∈ bs → b < acc.length) → backB bb bs xs acc K →
    ∃ r, K r ∧ bs.length ≤ xs.length ∧ r.length = acc.length + (xs.length - bs.length) ∧ (∀ (j b : Nat) (x : Box), bs[j]? = some b → xs[j]? = some x → r[b]? = some (bb x)) ∧ (∀ i, i < acc.length → i ∉ bs → r[i]? = acc[i]?) ∧
      ∀ i, acc.length ≤ i → r[i]? = xs[bs.length + (i - acc.length)]?.map bb
  | [], xs, acc, K, hn, hl, h => ⟨_, h, by simp, by simp, fun j b x hj => by simp at hj, fun i hi _ => by rw [List.getElem?_append_left hi], fun i hi => by rw [List.getElem?_append_right hi, List.getElem?_map]; simp⟩
  | b :: bs, x :: xs, acc, K, hn, hl, h => by
    simp only [backB] at h
    have hlt : b < acc.length := hl b (by simp)
    obtain ⟨r, h1, h2, h3, h4, h5, h6⟩ := backB_ex (bs := bs) (fun i j c hi hj => by have := hn (i + 1) (j + 1) c (by simpa using hi) (by simpa using hj); omega) (fun c hc => by rw [List.length_set]; exact hl c (List.mem_cons_of_mem _ hc)) h
    have hnb : b ∉ bs := fun hm => by
      obtain ⟨k, hk, hke⟩ := List.getElem_of_mem hm
      have := hn 0 (k + 1) b (by simp) (by simp [List.getElem?_eq_getElem hk, hke])
      omega
    refine ⟨r, h1, by simp; omega, by rw [h3, List.length_set]; simp, fun j c y hj hy => ?_, fun i hi hni => ?_, fun i hi => ?_⟩
    · cases j with
      | zero =>
        simp only [List.getElem?_cons_zero, Option.some.injEq] at hj hy
        subst hj; subst hy
        rw [h5 b (by rw [List.length_set]; exact hlt) hnb, List.getElem?_set_self hlt]
      | succ j => exact h4 j c y (by simpa using hj) (by simpa using hy)
    · have hib : b ≠ i := fun e => hni (e ▸ by simp)
      rw [h5 i (by rw [List.length_set]; exact hi) (fun hm => hni (List.mem_cons_of_mem _ hm)), List.getElem?_set_ne hib]
    · rw [h6 i (by rw [List.length_set]; exact hi), List.length_set, List.length_cons, show bs.length + 1 + (i - acc.length) = bs.length + (i - acc.length) + 1 by omega, List.getElem?_cons_succ]
  | b :: bs, [], acc, K, hn, hl, h => h.elim

/-! ### Going in -/
section
variable {G : GE} {e : Env} {σ : St} {w : World}
/-- What is kept back: nobody may touch it. -/
def keptBack (e : Env) (σ : St) (bs rest : List Nat) (b off : Nat) : Prop :=
  e.X b off ∨ (∃ i, i < σ.bx.length ∧ i ∉ bs ∧ e.β i = b) ∨ ∃ t, t ∈ rest ∧ ∃ p, e.M t = some p ∧ p.1 = b ∧ p.2 ≤ off
def Env.handed (e : Env) (σ : St) (bs rest : List Nat) : Env := ⟨fun j => e.β (bs.getD j 0), e.M, keptBack e σ bs rest⟩
structure Hand (σ : St) (bs rest pass : List Nat) (cb : List Box) : Prop where
  nodup : ∀ (i j b : Nat), bs[i]? = some b → bs[j]? = some b → i = j
  len : cb.length = bs.length
  get : ∀ (j b : Nat), bs[j]? = some b → ∃ x, σ.bx[b]? = some x ∧ cb[j]? = some (renBox bs x)
  restIn : ∀ t, t ∈ rest → t ∈ σ.tk
  passIn : ∀ t, t ∈ pass → t ∈ σ.tk ∧ t ∉ rest
variable {bs rest pass : List Nat} {cb : List Box}
theorem Hand.lt (h : Hand σ bs rest pass cb) {b : Nat} (hb : b ∈ bs) : b < σ.bx.length := by
  obtain ⟨k, hk, he⟩ := List.getElem_of_mem hb
  obtain ⟨x, hx, _⟩ := h.get k b (by rw [List.getElem?_eq_getElem hk, he])
  exact (List.getElem?_eq_some_iff.1 hx).1
theorem Hand.at (h : Hand σ bs rest pass cb) {j : Nat} (hj : j < bs.length) : ∃ b, bs[j]? = some b ∧ b ∈ bs ∧ (e.handed σ bs rest).β j = e.β b := by
  have := List.getElem?_eq_getElem hj
  exact ⟨bs[j], this, List.getElem_mem hj, by simp [Env.handed, this]⟩
theorem okc_in (hS : SRel G e σ w) (h : Hand σ bs rest pass cb) {b off : Nat} (ho : okc e σ b off) : okc (e.handed σ bs rest) ⟨cb, pass, σ.nx⟩ b off := by
  refine ⟨fun hX => ?_, fun j hj => ?_, fun t ht p hp hpb => ho.2.2 t (h.passIn t ht).1 p hp hpb⟩
  · rcases hX with hX | ⟨i, h1, _, h2⟩ | ⟨t, h1, p, h2, h3, h4⟩
    · exact ho.1 hX
    · exact ho.2.1 i h1 h2
    · have := ho.2.2 t (h.restIn t h1) p h2 h3; omega
  · obtain ⟨b', h1, h2, h3⟩ := h.at (e := e) (show j < bs.length by rw [← h.len]; exact hj)
    rw [h3]; exact ho.2.1 b' (h.lt h2)
theorem VRel.ren (hS : SRel G e σ w) (h : Hand σ bs rest pass cb) {x : PV} {v : Value} (hv : VRel G e σ w x v) : VRel G (e.handed σ bs rest) ⟨cb, pass, σ.nx⟩ w (renV bs x) v := by
  have hd : ∀ {x : D} {v : Value}, DRel (okc e σ) w x v → DRel (okc (e.handed σ bs rest) ⟨cb, pass, σ.nx⟩) w x v := fun hd => hd.mono fun b off u hu ho => ⟨okc_in hS h ho, hu⟩
  induction hv with
  | d x v hx => exact .d _ _ (hd hx)
  | undef v => exact .undef _
  | ptr b off hb =>
    simp only [renV]
    cases hi : idxOf b bs 0 with
    | none => exact .undef _
    | some i =>
      obtain ⟨_, h2⟩ := idxOf_spec hi
      simp only [Nat.sub_zero] at h2
      have hlt := (List.getElem?_eq_some_iff.1 h2).1
      have : (e.handed σ bs rest).β i = e.β b := by simp [Env.handed, h2]
      rw [← this]
      exact .ptr i off (by show i < cb.length; rw [h.len]; exact hlt)
  | elem r off b o u hc ho hu => exact .elem r off b o u hc (fun j hj => okc_in hS h (ho j hj)) (fun j x hx => hd (hu j x hx))
  | sl t el rows v hn hdd ht => exact .sl t el rows v hn (hd hdd) fun hp => ht (h.passIn t hp).1
  | nils el => exact .nils el
  | func f a c va vc ha hc _ _ ih1 ih2 =>
    refine .func f _ _ va vc (by rw [renL_length]; exact ha) (by rw [renL_length]; exact hc) (fun i y u hy hu => ?_) (fun i y u hy hu => ?_)
    · obtain ⟨x, hx, rfl⟩ := renL_get i y hy; exact ih1 i x u hx hu
    · obtain ⟨x, hx, rfl⟩ := renL_get i y hy; exact ih2 i x u hx hu
  | iface t x v _ ih => exact .iface t _ v ih
  | agg cs vs hs _ h1 ih => exact .agg _ vs (by rw [renL_length]; exact hs) (fun i y u hy hu => by obtain ⟨x, hx, rfl⟩ := renL_get i y hy; exact ih i x u hx hu) h1
  | tuple cs vs hs _ ih => exact .tuple _ vs (by rw [renL_length]; exact hs) (fun i y u hy hu => by obtain ⟨x, hx, rfl⟩ := renL_get i y hy; exact ih i x u hx hu)
  | raw v => exact .raw _
theorem SRel.ren (hS : SRel G e σ w) (h : Hand σ bs rest pass cb) : SRel G (e.handed σ bs rest) ⟨cb, pass, σ.nx⟩ w where
  inj := fun i j hi hj he => by
    obtain ⟨b, h1, h2, h3⟩ := h.at (e := e) (show i < bs.length by rw [← h.len]; exact hi)
    obtain ⟨b', h1', h2', h3'⟩ := h.at (e := e) (show j < bs.length by rw [← h.len]; exact hj)
    rw [h3, h3'] at he
    have := hS.inj b b' (h.lt h2) (h.lt h2') he
    subst this
    exact h.nodup i j b h1 h1'
  box := fun j y hy => by
    have hj := (List.getElem?_eq_some_iff.1 hy).1
    obtain ⟨b, h1, h2, h3⟩ := h.at (e := e) (show j < bs.length by rw [← h.len]; exact hj)
    obtain ⟨x, hx, hcb⟩ := h.get j b h1
    simp only at hy
    rw [hcb] at hy
    cases hy
    have hB := hS.box b x hx
    rw [h3]
    cases x with
    | cells t cs =>
      obtain ⟨vs, g1, g2, g3⟩ := hB
      refine ⟨vs, g1, by rw [renL_length]; exact g2, fun i y u hy hu => ?_⟩
      obtain ⟨z, hz, rfl⟩ := renL_get i y hy
      exact ⟨(g3 i z u hz hu).1.ren hS h, (g3 i z u hz hu).2⟩
    | iter s p => exact hB
    | loop st pd r => exact hB
  low := fun j hj => by
    obtain ⟨b, h1, h2, h3⟩ := h.at (e := e) (show j < bs.length by rw [← h.len]; exact hj)
    rw [h3]; exact hS.low b (h.lt h2)
  tkn := fun t ht => hS.tkn t (h.passIn t ht).1
  own := fun t ht p hp => by
    obtain ⟨h1, h2, h3⟩ := hS.own t (h.passIn t ht).1 p hp
    refine ⟨h1, fun j hj => ?_, h3⟩
    obtain ⟨b, g1, g2, g3⟩ := h.at (e := e) (show j < bs.length by rw [← h.len]; exact hj)
    rw [g3]; exact h2 b (h.lt g2)
  dis := fun t t' ht ht' => hS.dis t t' (h.passIn t ht).1 (h.passIn t' ht').1
  xlt := fun b off hX => by
    rcases hX with hX | ⟨i, h1, _, h2⟩ | ⟨t, h1, p, h2, h3, h4⟩
    · exact hS.xlt b off hX
    · rw [← h2]; exact hS.lt h1
    · obtain ⟨_, _, cs, ty, fz, hh⟩ := hS.own t (h.restIn t h1) p h2
      rw [← h3]; exact (Array.getElem?_eq_some_iff.1 hh).1
  xown := fun t ht p hp off hoff hX => by
    rcases hX with hX | ⟨i, h1, _, h2⟩ | ⟨t', h1, p', h2, h3, h4⟩
    · exact hS.xown t (h.passIn t ht).1 p hp off hoff hX
    · exact (hS.own t (h.passIn t ht).1 p hp).2.1 i h1 h2
    · exact hS.dis t' t (h.restIn t' h1) (h.passIn t ht).1 (fun e => (h.passIn t ht).2 (e ▸ h1)) p' p h2 hp h3
  glob := hS.glob
  big := hS.big

/-! ### Coming back -/
/-- The caller's moment behind the call. -/
def Env.back (e : Env) (L m nx : Nat) (e3 : Env) : Env := ⟨fun i => if i < L then e.β i else e3.β (m + (i - L)), fun t => if t < nx then e.M t else e3.M (t - nx), e.X⟩
structure Handed (e : Env) (σ : St) (w : World) (bs rest : List Nat) (e2 : Env) (σ2 : St) : Prop where
  nodup : ∀ (i j b : Nat), bs[i]? = some b → bs[j]? = some b → i = j
  lt : ∀ b, b ∈ bs → b < σ.bx.length
  len : σ2.bx.length = bs.length
  beta : ∀ (j b : Nat), bs[j]? = some b → e2.β j = e.β b
  X : e2.X = keptBack e σ bs rest
  okc : ∀ b off, okc e σ b off → okc e2 σ2 b off
  tok : ∀ t, t ∈ σ2.tk → ∀ p, e2.M t = some p → ∃ t0, t0 ∈ σ.tk ∧ t0 ∉ rest ∧ e.M t0 = some p
  restIn : ∀ t, t ∈ rest → t ∈ σ.tk
variable {e2 e3 : Env} {σ2 σ3 : St} {w' : World} {bx : List Box}
structure Backed (σ : St) (bs : List Nat) (σ3 : St) (bx : List Box) : Prop where
  le : bs.length ≤ σ3.bx.length
  len : bx.length = σ.bx.length + (σ3.bx.length - bs.length)
  some : ∀ (j b : Nat) (x : Box), bs[j]? = some b → σ3.bx[j]? = some x → bx[b]? = some (backBox bs bs.length σ.bx.length σ.nx x)
  old : ∀ i, i < σ.bx.length → i ∉ bs → bx[i]? = σ.bx[i]?
  new : ∀ i, σ.bx.length ≤ i → bx[i]? = σ3.bx[bs.length + (i - σ.bx.length)]?.map (backBox bs bs.length σ.bx.length σ.nx)
abbrev backSt (σ : St) (rest : List Nat) (σ3 : St) (bx : List Box) : St := ⟨bx, rest ++ σ3.tk.map (σ.nx + ·), σ.nx + σ3.nx⟩
theorem mem_backSt {t : Nat} (hS : SRel G e σ w) (h : Handed e σ w bs rest e2 σ2) (ht : t ∈ (backSt σ rest σ3 bx).tk) : (t ∈ rest ∧ t < σ.nx) ∨ ∃ t', t' ∈ σ3.tk ∧ t = σ.nx + t' := by
  rcases List.mem_append.1 ht with h1 | h1
  · exact .inl ⟨h1, hS.tkn t (h.restIn t h1)⟩
  · obtain ⟨t', h2, h3⟩ := List.mem_map.1 h1
    exact .inr ⟨t', h2, h3.symm⟩
theorem back_M_old {L m nx t : Nat} (h : t < nx) : (e.back L m nx e3).M t = e.M t := by simp [Env.back, h]
theorem back_M_new {L m nx t : Nat} : (e.back L m nx e3).M (nx + t) = e3.M t := by
  have : ¬ nx + t < nx := by omega
  simp [Env.back, this]
theorem back_β_old {L m nx i : Nat} (h : i < L) : (e.back L m nx e3).β i = e.β i := by simp [Env.back, h]
theorem back_β_new {L m nx i : Nat} (h : L ≤ i) : (e.back L m nx e3).β i = e3.β (m + (i - L)) := by
  have : ¬ i < L := by omega
  simp [Env.back, this]
/-- A box of the caller is a box of the callee's, or kept back. -/
theorem old_box (h : Handed e σ w bs rest e2 σ2) (hL : Later e2 σ2 w e3 σ3 w') {i : Nat} (hi : i < σ.bx.length) : (∃ j, j < σ2.bx.length ∧ bs[j]? = some i ∧ e3.β j = e.β i) ∨ (i ∉ bs ∧ ∀ off, e3.X (e.β i) off) := by
  by_cases hm : i ∈ bs
  · obtain ⟨j, hj, he⟩ := List.getElem_of_mem hm
    have hb : bs[j]? = some i := by rw [List.getElem?_eq_getElem hj, he]
    have hj2 : j < σ2.bx.length := by rw [h.len]; exact hj
    exact .inl ⟨j, hj2, hb, (hL.beta j hj2).trans (h.beta j i hb)⟩
  · exact .inr ⟨hm, fun off => by rw [hL.X, h.X]; exact .inr (.inl ⟨i, hi, hm, rfl⟩)⟩
theorem okc_back (hS : SRel G e σ w) (h : Handed e σ w bs rest e2 σ2) (hL : Later e2 σ2 w e3 σ3 w') (hb : Backed σ bs σ3 bx) {b off : Nat} (ho : okc e3 σ3 b off) :
    okc (e.back σ.bx.length bs.length σ.nx e3) (backSt σ rest σ3 bx) b off := by
  have hX : ¬ keptBack e σ bs rest b off := by rw [← h.X, ← hL.X]; exact ho.1
  refine ⟨fun hx => hX (.inl hx), fun i hi => ?_, fun t ht p hp hpb => ?_⟩
  · by_cases hlt : i < σ.bx.length
    · rw [back_β_old hlt]
      rcases old_box h hL hlt with ⟨j, hj, _, he⟩ | ⟨_, hx⟩
      · rw [← he]; exact ho.2.1 j (Nat.lt_of_lt_of_le hj hL.len)
      · intro e; rw [← e] at ho; exact ho.1 (hx off)
    · rw [back_β_new (by omega)]
      have hlen := hb.len
      have hle := hb.le
      simp only at hi
      exact ho.2.1 _ (by omega)
  · rcases mem_backSt hS h ht with ⟨h1, h2⟩ | ⟨t', h1, rfl⟩
    · rw [back_M_old h2] at hp
      have : ¬ p.2 ≤ off := fun hle => hX (.inr (.inr ⟨t, h1, p, hp, hpb, hle⟩))
      omega
    · rw [back_M_new] at hp
      exact ho.2.2 t' h1 p hp hpb
theorem VRel.back (hS : SRel G e σ w) (h : Handed e σ w bs rest e2 σ2) (hL : Later e2 σ2 w e3 σ3 w') (hb : Backed σ bs σ3 bx) {x : PV} {v : Value} (hv : VRel G e3 σ3 w' x v) :
    VRel G (e.back σ.bx.length bs.length σ.nx e3) (backSt σ rest σ3 bx) w' (backV bs bs.length σ.bx.length σ.nx x) v := by
  have hd : ∀ {x : D} {v : Value}, DRel (okc e3 σ3) w' x v → DRel (okc (e.back σ.bx.length bs.length σ.nx e3) (backSt σ rest σ3 bx)) w' x v := fun hd => hd.mono fun b off u hu ho => ⟨okc_back hS h hL hb ho, hu⟩
  induction hv with
  | d x v hx => exact .d _ _ (hd hx)
  | undef v => exact .undef _
  | ptr i off hi =>
    simp only [backV]
    have hlen := hb.len
    have hle := hb.le
    cases hbi : bs[i]? with
    | some b =>
      have hj := (List.getElem?_eq_some_iff.1 hbi).1
      have hlt := h.lt b (List.mem_of_getElem? hbi)
      have : e3.β i = (e.back σ.bx.length bs.length σ.nx e3).β b := by
        rw [back_β_old hlt]; exact (hL.beta i (by rw [h.len]; exact hj)).trans (h.beta i b hbi)
      rw [this]
      exact .ptr b off (by show b < bx.length; omega)
    | none =>
      have hge : bs.length ≤ i := by simpa using hbi
      have : e3.β i = (e.back σ.bx.length bs.length σ.nx e3).β (σ.bx.length + (i - bs.length)) := by
        rw [back_β_new (by omega)]; congr 1; omega
      rw [this]
      exact .ptr _ off (by show _ < bx.length; omega)
  | elem r off b o u hc ho hu => exact .elem r off b o u hc (fun j hj => okc_back hS h hL hb (ho j hj)) (fun j x hx => hd (hu j x hx))
  | sl t el rows v hn hdd ht =>
    refine .sl _ el rows v (by show σ.nx + t < σ.nx + σ3.nx; omega) (hd hdd) fun hp => ?_
    rcases mem_backSt hS h hp with ⟨_, h2⟩ | ⟨t', h1, h2⟩
    · omega
    · obtain rfl : t = t' := by omega
      rcases ht h1 with ⟨g1, g2, g3⟩ | ⟨sz, g1, g2, g3, b, off, cap, cs, ty, fz, g4, g5, g6, g7, g8, g9, g10⟩
      · exact .inl ⟨g1, g2, back_M_new.trans g3⟩
      · exact .inr ⟨sz, g1, g2, g3, b, off, cap, cs, ty, fz, g4, g5, g6, g7, g8, g9, back_M_new.trans g10⟩
  | nils el => exact .nils el
  | func f a c va vc ha hc _ _ ih1 ih2 =>
    refine .func f _ _ va vc (by rw [backL_length]; exact ha) (by rw [backL_length]; exact hc) (fun i y u hy hu => ?_) (fun i y u hy hu => ?_)
    · obtain ⟨x, hx, rfl⟩ := backL_get i y hy; exact ih1 i x u hx hu
    · obtain ⟨x, hx, rfl⟩ := backL_get i y hy; exact ih2 i x u hx hu
  | iface t x v _ ih => exact .iface t _ v ih
  | agg cs vs hs _ h1 ih => exact .agg _ vs (by rw [backL_length]; exact hs) (fun i y u hy hu => by obtain ⟨x, hx, rfl⟩ := backL_get i y hy; exact ih i x u hx hu) h1
  | tuple cs vs hs _ ih => exact .tuple _ vs (by rw [backL_length]; exact hs) (fun i y u hy hu => by obtain ⟨x, hx, rfl⟩ := backL_get i y hy; exact ih i x u hx hu)
  | raw v => exact .raw _
theorem stepped_back (hS : SRel G e σ w) (h : Handed e σ w bs rest e2 σ2) (hS3 : SRel G e3 σ3 w') (hL : Later e2 σ2 w e3 σ3 w') (hb : Backed σ bs σ3 bx) : Stepped e σ w (e.back σ.bx.length bs.length σ.nx e3) (backSt σ rest σ3 bx) w' where
  len := by show σ.bx.length ≤ bx.length; rw [hb.len]; omega
  beta := fun i hi => back_β_old hi
  X := rfl
  pres := fun b off u hu ho => by
    obtain ⟨h1, h2⟩ := hL.pres b off u hu (h.okc b off ho)
    exact ⟨okc_back hS h hL hb h1, h2⟩
  blocks := fun b hlt hn ht => hL.blocks b hlt (fun j hj => by
      have hj' : j < bs.length := by rw [← h.len]; exact hj
      have hbj := List.getElem?_eq_getElem hj'
      rw [h.beta j _ hbj]; exact hn _ (h.lt _ (List.getElem_mem hj'))) (fun t htm p hp => by
      obtain ⟨t0, h1, _, h2⟩ := h.tok t htm p hp; exact ht t0 h1 p h2)
  size := hL.size
  os := hL.os
  tape := hL.tape
  output := hL.output
  fresh := fun i h1 h2 => by
    rw [back_β_new h1]
    have hlen := hb.len
    have hle := hb.le
    have : i < bx.length := h2
    exact hL.fresh _ (by rw [h.len]; omega) (by omega)
  ftok := fun t ht p hp => by
    rcases mem_backSt hS h ht with ⟨h1, h2⟩ | ⟨t', h1, rfl⟩
    · rw [back_M_old h2] at hp; exact .inr ⟨t, h.restIn t h1, p, hp, rfl⟩
    · rw [back_M_new] at hp
      rcases hL.ftok t' h1 p hp with h2 | ⟨t0, h3, p0, h4, h5⟩
      · exact .inl h2
      · obtain ⟨t1, g1, _, g2⟩ := h.tok t0 h3 p0 h4; exact .inr ⟨t1, g1, p0, g2, h5⟩
  nx := Nat.le_add_right _ _
  toks := fun t hlt ht => by
    rcases mem_backSt hS h ht with ⟨h1, _⟩ | ⟨t', h1, rfl⟩
    · exact ⟨h.restIn t h1, back_M_old hlt⟩
    · omega
  own := fun t hlt ht p hp hplt => by
    rcases mem_backSt hS h ht with ⟨h1, _⟩ | ⟨t', h1, rfl⟩
    · obtain ⟨_, hnb, _⟩ := hS.own t (h.restIn t h1) p hp
      refine hL.blocks p.1 hplt (fun j hj => ?_) (fun t2 ht2 p2 hp2 => ?_)
      · have hj' : j < bs.length := by rw [← h.len]; exact hj
        have hbj := List.getElem?_eq_getElem hj'
        rw [h.beta j _ hbj]; exact hnb _ (h.lt _ (List.getElem_mem hj'))
      · obtain ⟨t0, g1, g2, g3⟩ := h.tok t2 ht2 p2 hp2
        exact hS.dis t0 t g1 (h.restIn t h1) (fun e => g2 (e ▸ h1)) p2 p g3 hp
    · omega
theorem SRel.back (hS : SRel G e σ w) (h : Handed e σ w bs rest e2 σ2) (hS3 : SRel G e3 σ3 w') (hL : Later e2 σ2 w e3 σ3 w') (hb : Backed σ bs σ3 bx) : SRel G (e.back σ.bx.length bs.length σ.nx e3) (backSt σ rest σ3 bx) w' := by
  have hst := stepped_back hS h hS3 hL hb
  have hlen := hb.len
  have hle := hb.le
  have hbx : (backSt σ rest σ3 bx).bx.length = bx.length := rfl
  have hnew : ∀ i, σ.bx.length ≤ i → i < bx.length → (e.back σ.bx.length bs.length σ.nx e3).β i = e3.β (bs.length + (i - σ.bx.length)) ∧ bs.length + (i - σ.bx.length) < σ3.bx.length ∧ w.heap.size ≤ e3.β (bs.length + (i - σ.bx.length)) := fun i h1 h2 => by
    have := hst.fresh i h1 h2
    rw [back_β_new h1] at this
    exact ⟨back_β_new h1, by omega, this⟩
  have hrest : ∀ t, t ∈ rest → ∀ p, e.M t = some p → p.1 < w.heap.size := fun t ht p hp => by
    obtain ⟨_, _, cs, ty, fz, hh⟩ := hS.own t (h.restIn t ht) p hp
    exact (Array.getElem?_eq_some_iff.1 hh).1
  constructor
  · intro i j hi hj he
    by_cases h1 : i < σ.bx.length <;> by_cases h2 : j < σ.bx.length
    · rw [back_β_old h1, back_β_old h2] at he; exact hS.inj i j h1 h2 he
    · obtain ⟨g1, g2, g3⟩ := hnew j (by omega) hj
      rw [back_β_old h1, g1] at he
      have := hS.lt h1; omega
    · obtain ⟨g1, g2, g3⟩ := hnew i (by omega) hi
      rw [back_β_old h2, g1] at he
      have := hS.lt h2; omega
    · obtain ⟨g1, g2, g3⟩ := hnew i (by omega) hi
      obtain ⟨k1, k2, k3⟩ := hnew j (by omega) hj
      rw [g1, k1] at he
      have := hS3.inj _ _ g2 k2 he
      omega
  · intro i x hx
    have hi := (List.getElem?_eq_some_iff.1 hx).1
    simp only at hx hi
    have hBk : ∀ (y : Box) (b : Nat), BRel G e3 σ3 w' y b → BRel G (e.back σ.bx.length bs.length σ.nx e3) (backSt σ rest σ3 bx) w' (backBox bs bs.length σ.bx.length σ.nx y) b := fun y b hB => by
      cases y with
      | cells t cs =>
        obtain ⟨vs, g1, g2, g3⟩ := hB
        refine ⟨vs, g1, by rw [backL_length]; exact g2, fun k z u hz hu => ?_⟩
        obtain ⟨z', hz', rfl⟩ := backL_get k z hz
        exact ⟨(g3 k z' u hz' hu).1.back hS h hL hb, (g3 k z' u hz' hu).2⟩
      | iter s p => exact hB
      | loop st pd r => exact hB
    by_cases h1 : i < σ.bx.length
    · rw [back_β_old h1]
      rcases old_box h hL h1 with ⟨j, hj, hbj, he⟩ | ⟨hni, hX⟩
      · have hj3 : j < σ3.bx.length := Nat.lt_of_lt_of_le hj hL.len
        have := hb.some j i _ hbj (List.getElem?_eq_getElem hj3)
        rw [this] at hx
        cases hx
        rw [← he]
        exact hBk _ _ (hS3.box j _ (List.getElem?_eq_getElem hj3))
      · rw [hb.old i h1 hni] at hx
        refine (hS.box i x hx).step hst (hL.blocks _ (hS.lt h1) (fun j hj => ?_) (fun t ht p hp => ?_))
        · have hj' : j < bs.length := by rw [← h.len]; exact hj
          have hbj := List.getElem?_eq_getElem hj'
          rw [h.beta j _ hbj]
          intro he
          have := hS.inj _ _ (h.lt _ (List.getElem_mem hj')) h1 he
          exact hni (this ▸ List.getElem_mem hj')
        · obtain ⟨t0, g1, _, g2⟩ := h.tok t ht p hp
          exact fun he => (hS.own t0 g1 p g2).2.1 i h1 he.symm
    · obtain ⟨g1, g2, g3⟩ := hnew i (by omega) hi
      rw [hb.new i (by omega), List.getElem?_eq_getElem g2] at hx
      cases hx
      rw [g1]
      exact hBk _ _ (hS3.box _ _ (List.getElem?_eq_getElem g2))
  · intro i hi
    by_cases h1 : i < σ.bx.length
    · rw [back_β_old h1]; exact hS.low i h1
    · obtain ⟨g1, g2, g3⟩ := hnew i (by omega) hi
      rw [g1]; exact hS3.low _ g2
  · intro t ht
    rcases mem_backSt hS h ht with ⟨_, h2⟩ | ⟨t', h1, rfl⟩
    · show t < σ.nx + σ3.nx; omega
    · have := hS3.tkn t' h1; show σ.nx + t' < σ.nx + σ3.nx; omega
  · intro t ht p hp
    rcases mem_backSt hS h ht with ⟨h1, h2⟩ | ⟨t', h1, rfl⟩
    · rw [back_M_old h2] at hp
      obtain ⟨g1, g2, cs, ty, fz, g3⟩ := hS.own t (h.restIn t h1) p hp
      refine ⟨g1, fun i hi => ?_, cs, ty, fz, (hst.own t h2 ht p hp (hrest t h1 p hp)).trans g3⟩
      by_cases h3 : i < σ.bx.length
      · rw [back_β_old h3]; exact g2 i h3
      · obtain ⟨k1, k2, k3⟩ := hnew i (by omega) hi
        rw [k1]
        have := hrest t h1 p hp; omega
    · rw [back_M_new] at hp
      obtain ⟨g1, g2, g3⟩ := hS3.own t' h1 p hp
      refine ⟨g1, fun i hi => ?_, g3⟩
      by_cases h3 : i < σ.bx.length
      · rw [back_β_old h3]
        rcases old_box h hL h3 with ⟨j, hj, _, he⟩ | ⟨_, hX⟩
        · rw [← he]; exact g2 j (Nat.lt_of_lt_of_le hj hL.len)
        · intro he
          exact hS3.xown t' h1 p hp p.2 (Nat.le_refl _) (he ▸ hX p.2)
      · obtain ⟨k1, k2, k3⟩ := hnew i (by omega) hi
        rw [k1]; exact g2 _ k2
  · intro t t' ht ht' hne p p' hp hp'
    have mixed : ∀ t t', t ∈ rest → t < σ.nx → t' ∈ σ3.tk → ∀ p p', e.M t = some p → e3.M t' = some p' → p.1 ≠ p'.1 := fun t t' h1 h2 h3 p p' hp hp' he => by
      refine hS3.xown t' h3 p' hp' (max p.2 p'.2) (Nat.le_max_right _ _) ?_
      rw [hL.X, h.X]
      exact .inr (.inr ⟨t, h1, p, hp, he, Nat.le_max_left _ _⟩)
    rcases mem_backSt hS h ht with ⟨h1, h2⟩ | ⟨s, h1, rfl⟩ <;> rcases mem_backSt hS h ht' with ⟨k1, k2⟩ | ⟨s', k1, rfl⟩
    · rw [back_M_old h2] at hp
      rw [back_M_old k2] at hp'
      exact hS.dis t t' (h.restIn t h1) (h.restIn t' k1) hne p p' hp hp'
    · rw [back_M_old h2] at hp
      rw [back_M_new] at hp'
      exact mixed t s' h1 h2 k1 p p' hp hp'
    · rw [back_M_new] at hp
      rw [back_M_old k2] at hp'
      exact fun he => mixed t' s k1 k2 h1 p' p hp' hp he.symm
    · rw [back_M_new] at hp hp'
      exact hS3.dis s s' h1 k1 (fun e => hne (by rw [e])) p p' hp hp'
  · intro b off hX
    exact Nat.lt_of_lt_of_le (hS.xlt b off hX) hL.size
  · intro t ht p hp off hoff hX
    rcases mem_backSt hS h ht with ⟨h1, h2⟩ | ⟨t', h1, rfl⟩
    · rw [back_M_old h2] at hp; exact hS.xown t (h.restIn t h1) p hp off hoff hX
    · rw [back_M_new] at hp
      refine hS3.xown t' h1 p hp off hoff ?_
      rw [hL.X, h.X]; exact .inl hX
  · exact hS3.glob
  · exact hS3.big

/-! ### The call -/
theorem viaCall_sound {g : FuncId} {sp : Spec} (hP : PCalls G g sp) {args : List PV} {K : PEnd → St → Prop} (hv : viaCall sp args σ K) :
    Enters G.P g ∧ ∀ (ro : Option Nat) (n : Nat) (e : Env) (w : World) (vs : Array Value), SRel G e σ w → ArgsRel G e σ w args vs → CallsIn (fw ro) n G.P g vs w (After G e σ w K) := by
  unfold viaCall at hv
  simp only at hv
  generalize closeB σ.bx (σ.bx.length + 1) 0 (ptrsL args []) = bs at hv
  split at hv
  · rename_i hnd
    obtain ⟨cb, hv, hcl, hcg⟩ := selB_ex hv
    obtain ⟨args', tk1, as1, hv, hx1, hI1, hal, hav⟩ := nrmL_ex (as := []) (NInv.start σ.tk σ.tk fun _ h => h) hv
    obtain ⟨cb', rest, as2, hv, hx2, hI2, hbl, hble, hbs⟩ := nrmB_ex hI1 hv
    have hnodup := nodupB_spec hnd
    have hbslt : ∀ b, b ∈ bs → b < σ.bx.length := fun b hb => by
      obtain ⟨k, hk, he⟩ := List.getElem_of_mem hb
      obtain ⟨x, hx, _⟩ := hcg k b (by rw [List.getElem?_eq_getElem hk, he])
      exact (List.getElem?_eq_some_iff.1 hx).1
    have backOf : ∀ (pe : PEnd) (σ3 : St), (backB (backBox bs bs.length σ.bx.length σ.nx) bs σ3.bx σ.bx fun bx => K (backE bs bs.length σ.bx.length σ.nx pe) (backSt σ rest σ3 bx)) → ∃ bx, Backed σ bs σ3 bx ∧ K (backE bs bs.length σ.bx.length σ.nx pe) (backSt σ rest σ3 bx) := fun pe σ3 hb => by
      obtain ⟨bx, h1, h2, h3, h4, h5, h6⟩ := backB_ex hnodup hbslt hb
      exact ⟨bx, ⟨h2, h3, h4, h5, h6⟩, h1⟩
    refine ⟨hP.enters, fun ro n e w vs hS hargs => ?_⟩
    · have hmemP : ∀ t, t ∈ as2.filterMap id ↔ some t ∈ as2 := fun t => by simp
      have hpass : ∀ t, t ∈ as2.filterMap id → t ∈ σ.tk ∧ t ∉ rest := fun t ht => by
        obtain ⟨i, hi, he⟩ := List.getElem_of_mem ((hmemP t).1 ht)
        exact hI2.mem i t (by rw [List.getElem?_eq_getElem hi, he])
      have hH : Hand σ bs rest (as2.filterMap id) cb := ⟨hnodup, hcl, hcg, hI2.sub, hpass⟩
      have hS1 := hS.ren hH
      have hIP : NInv (as2.filterMap id) [] as2 := ⟨(fun t ht => by cases ht), (fun i t hi => ⟨(hmemP t).2 (List.mem_of_getElem? hi), by simp⟩), hI2.inj⟩
      have hn1 : bs.length ≤ (St.mk cb (as2.filterMap id) σ.nx).bx.length := Nat.le_of_eq hcl.symm
      have hS2 := re_srel hS1 hn1 hIP hbl hbs
      have hD := re_drop (e := e.handed σ bs rest) hn1 hIP hbl
      have hA2 : ArgsRel G ((e.handed σ bs rest).re as2) ⟨cb', toks as2.length, as2.length⟩ w args' vs := by
        refine ⟨by rw [hargs.1, hal, renL_length], fun i x u hx hu => ?_⟩
        have hi := (List.getElem?_eq_some_iff.1 hx).1
        rw [hal] at hi
        have hy := List.getElem?_eq_getElem hi
        obtain ⟨z, hz, hze⟩ := renL_get i _ hy
        have h1 := (hargs.2 i z u hz hu).ren hS hH
        rw [← hze] at h1
        exact ((hav i _ x hy hx).ext hx2).rel hn1 hIP hbl h1
      have hHd : Handed e σ w bs rest ((e.handed σ bs rest).re as2) ⟨cb', toks as2.length, as2.length⟩ := {
        nodup := hnodup
        lt := hbslt
        len := hbl
        beta := fun j b hj => by simp [Env.re, Env.handed, hj]
        X := rfl
        okc := fun b off ho => hD.okc b off (okc_in hS hH ho)
        tok := fun t ht p hp => by
          obtain ⟨t0, h1, h2⟩ := hD.tok t ht p hp
          exact ⟨t0, (hpass t0 h1).1, (hpass t0 h1).2, h2⟩
        restIn := hI2.sub }
      have hcall := hP.calls _ _ _ hv n _ w vs hS2 hA2
      have hro : ∀ R, CallsIn (fw none) n G.P g vs w R → CallsIn (fw ro) n G.P g vs w R := fun R h => by
        cases ro with
        | none => exact h
        | some l => exact h.inRound l
      refine (hro _ hcall).mono fun en w' hA => ?_
      obtain ⟨pe, σ3, e3, hk, hE, hS3, hL⟩ := hA
      obtain ⟨bx, hB, hK⟩ := backOf pe σ3 hk
      refine ⟨_, _, e.back σ.bx.length bs.length σ.nx e3, hK, ?_, hS.back hHd hS3 hL hB, stepped_back hS hHd hS3 hL hB⟩
      cases pe with
      | ret x => obtain ⟨v, rfl, hr⟩ := hE; exact ⟨v, rfl, hr.back hS hHd hL hB⟩
      | panic x => obtain ⟨v, rfl, hr⟩ := hE; exact ⟨v, rfl, hr.back hS hHd hL hB⟩
  · exact hv.elim
/-- A specification asks no less of more. -/
def SpecMono (sp : Spec) : Prop := ∀ args σ (K K' : PEnd → St → Prop), (∀ e σ, K e σ → K' e σ) → sp args σ K → sp args σ K'
theorem selB_mono {bs : List Nat} {bx : List Box} : ∀ {l : List Nat} {K K' : List Box → Prop}, (∀ r, K r → K' r) → selB bs bx l K → selB bs bx l K'
  | [], K, K', hK, h => hK _ h
  | b :: l, K, K', hK, h => by
    simp only [selB] at h ⊢
    split at h
    · exact selB_mono (fun r hr => hK _ hr) h
    · exact selB_mono (fun r hr => hK _ hr) h
    · exact h.elim
    · exact h.elim
theorem nrm1_mono {n : Nat} {tk : List Nat} {k : Nat} {v : PV} {K K' : PV → List Nat → Nat → Prop} (hK : ∀ v t k, K v t k → K' v t k) (h : nrm1 n tk k v K) : nrm1 n tk k v K' := by
  have gen : ∀ v, (match bnd n v with | true => force (clean v) fun v => K v tk k | false => K .undef tk k : Prop) → (match bnd n v with | true => force (clean v) fun v => K' v tk k | false => K' .undef tk k : Prop) := fun v h => by
    split at h
    · rw [force_eq] at h ⊢; exact hK _ _ _ h
    · exact hK _ _ _ h
  cases v with
  | sl t el rows =>
    simp only [nrm1] at h ⊢
    split at h <;> exact hK _ _ _ h
  | nils el => exact hK _ _ _ h
  | d x => exact gen (.d x) h
  | undef => exact gen .undef h
  | ptr b o => exact gen (.ptr b o) h
  | elem r o => exact gen (.elem r o) h
  | func f a c => exact gen (.func f a c) h
  | iface t v => exact gen (.iface t v) h
  | agg cs => exact gen (.agg cs) h
  | tuple cs => exact gen (.tuple cs) h
  | raw v => exact gen (.raw v) h
theorem nrmL_mono {n : Nat} : ∀ {vs : List PV} {tk : List Nat} {k : Nat} {K K' : List PV → List Nat → Nat → Prop}, (∀ v t k, K v t k → K' v t k) → nrmL n vs tk k K → nrmL n vs tk k K'
  | [], _, _, _, _, hK, h => hK _ _ _ h
  | v :: vs, _, _, _, _, hK, h => nrm1_mono (fun v t k h => nrmL_mono (fun vs t k h => hK _ _ _ h) h) h
theorem nrmB_mono {n : Nat} : ∀ {m : Nat} {bs : List Box} {tk : List Nat} {k : Nat} {K K' : List Box → List Nat → Nat → Prop}, (∀ v t k, K v t k → K' v t k) → nrmB n m bs tk k K → nrmB n m bs tk k K'
  | 0, _, _, _, _, _, hK, h => by simp only [nrmB] at h ⊢; exact hK _ _ _ h
  | _ + 1, [], _, _, _, _, _, h => h.elim
  | _ + 1, .cells t cs :: bs, _, _, _, _, hK, h => by
    simp only [nrmB] at h ⊢
    exact nrmL_mono (fun v t k h => nrmB_mono (fun _ _ _ h => hK _ _ _ h) h) h
  | _ + 1, .iter s p :: bs, _, _, K, K', hK, h => by
    simp only [nrmB] at h ⊢
    exact nrmB_mono (K := fun l tk k => K (.iter s p :: l) tk k) (K' := fun l tk k => K' (.iter s p :: l) tk k) (fun _ _ _ h => hK _ _ _ h) h
  | _ + 1, .loop st pd r :: bs, _, _, K, K', hK, h => by
    simp only [nrmB] at h ⊢
    exact nrmB_mono (K := fun l tk k => K (.loop st pd r :: l) tk k) (K' := fun l tk k => K' (.loop st pd r :: l) tk k) (fun _ _ _ h => hK _ _ _ h) h
theorem backB_mono {bb : Box → Box} : ∀ {bs : List Nat} {xs acc : List Box} {K K' : List Box → Prop}, (∀ r, K r → K' r) → backB bb bs xs acc K → backB bb bs xs acc K'
  | [], _, _, _, _, hK, h => by simp only [backB] at h ⊢; exact hK _ h
  | _ :: _, [], _, _, _, _, h => h.elim
  | b :: bs, x :: xs, _, _, _, hK, h => by simp only [backB] at h ⊢; exact backB_mono hK h
theorem viaCall_mono {sp : Spec} (hsp : SpecMono sp) : SpecMono (viaCall sp) := fun args σ K K' hK h => by
  unfold viaCall at h ⊢
  simp only at h ⊢
  split at h
  · exact selB_mono (fun cb h => nrmL_mono (fun a t k h => nrmB_mono (fun cb' r k h => hsp _ _ _ _ (fun pe σ3 h => backB_mono (fun bx h => hK _ _ h) h) h) h) h) h
  · exact h.elim
end
end Go.PM
