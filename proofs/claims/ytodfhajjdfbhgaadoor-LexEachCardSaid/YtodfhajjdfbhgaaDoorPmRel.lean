/-
  THE PURE LOGIC, 2: what the machine's memory has to do with boxes and trees.
-/
import Derived.Test.YtodfhajjdfbhgaaDoorPmDefs
import Derived.Laws.AppendOwn
import Derived.Below
import Derived.Laws.StructEq
import Derived.Laws.Pointers
import Derived.Laws.Cover3
set_option linter.unusedVariables false
set_option linter.unusedSimpArgs false
set_option linter.all false
namespace Go.PM
open Go.RowKit

/-- The machine's value reads as this datum; every cell that it takes is 'ok'. -/
inductive DRel (ok : Nat → Nat → Prop) (w : World) : D → Value → Prop
  | bool (b : Bool) : DRel ok w (.bool b) (.bool b)
  | int (k : IntKind) (n : Int) : DRel ok w (.int k n) (.int k n)
  | str (s : List UInt8) : DRel ok w (.str s) (.string ⟨s.toArray⟩)
  | nilp : DRel ok w .nilp (.pointer none)
  | nilf : DRel ok w .nilf .nilFunc
  | nili : DRel ok w .nili .nilIface
  | slnil : DRel ok w (.sl []) (.slice none 0 0)
  | sl (rows : List (List D)) (b off cap sz : Nat) (u : Nat → Nat → Value) (hcap : rows.length ≤ cap) (hsz : ∀ r ∈ rows, r.length = sz)
      (hc : ∀ i j, i < rows.length → j < sz → w.cell? ⟨b, off + i * sz + j, none⟩ = some (u i j))
      (ho : ∀ i j, i < rows.length → j < sz → ok b (off + i * sz + j))
      (hu : ∀ (i j : Nat) (x : D), (rows[i]?.bind (·[j]?)) = some x → DRel ok w x (u i j)) : DRel ok w (.sl rows) (.slice (some ⟨b, off, none⟩) rows.length cap)

/-- What the world outside the boxes gives: the program, the world at the start, how many blocks are the package variables'. -/
structure GE where
  P : Program
  w0 : World
  nG : Nat

structure Env where
  β : Nat → Nat
  M : Nat → Option (Nat × Nat)
  X : Nat → Nat → Prop

/-- Cells that data may take: no box, nothing behind an owned slice, nothing that somebody else holds. -/
def okc (e : Env) (σ : St) (b off : Nat) : Prop :=
  ¬ e.X b off ∧ (∀ i, i < σ.bx.length → e.β i ≠ b) ∧ ∀ t, t ∈ σ.tk → ∀ p, e.M t = some p → p.1 = b → off < p.2

/-- An owned slice: nil, or with all that stands behind it in its block its own. -/
def Owned (G : GE) (e : Env) (w : World) (t el : Nat) (rows : List (List D)) (v : Value) : Prop :=
  (v = .slice none 0 0 ∧ rows = [] ∧ e.M t = none) ∨
  ∃ sz, (G.P.info? el).map (·.size) = some sz ∧ 0 < sz ∧ (∀ r ∈ rows, r.length = sz) ∧
     ∃ b off cap cs ty fz, v = .slice (some ⟨b, off, none⟩) rows.length cap ∧ G.nG ≤ b ∧ rows.length ≤ cap ∧ w.heap[b]? = some (.cells cs ty fz) ∧ (off + cap * sz ≤ cs.size ∧ off = 0 ∧ ty = el ∧ 0 < cap) ∧
       (∀ o, off + rows.length * sz ≤ o → fz.1 ≤ o → fz.2 ≤ o) ∧ e.M t = some (b, off + rows.length * sz)

inductive VRel (G : GE) (e : Env) (σ : St) (w : World) : PV → Value → Prop
  | d (x : D) (v : Value) (h : DRel (okc e σ) w x v) : VRel G e σ w (.d x) v
  | undef (v : Value) : VRel G e σ w .undef v
  | ptr (b off : Nat) (h : b < σ.bx.length) : VRel G e σ w (.ptr b off) (.pointer (some ⟨e.β b, off, none⟩))
  | elem (r : List D) (off b o : Nat) (u : Nat → Value) (hc : ∀ j, j < r.length → w.cell? ⟨b, o + j, none⟩ = some (u j)) (ho : ∀ j, j < r.length → okc e σ b (o + j))
      (hu : ∀ (j : Nat) (x : D), r[j]? = some x → DRel (okc e σ) w x (u j)) : VRel G e σ w (.elem r off) (.pointer (some ⟨b, o + off, none⟩))
  | sl (t el : Nat) (rows : List (List D)) (v : Value) (hn : t < σ.nx) (hd : DRel (okc e σ) w (.sl rows) v) (ht : t ∈ σ.tk → Owned G e w t el rows v) : VRel G e σ w (.sl t el rows) v
  | nils (el : Nat) : VRel G e σ w (.nils el) (.slice none 0 0)
  | func (f : FuncId) (a c : List PV) (va vc : Array Value) (ha : va.size = a.length) (hc : vc.size = c.length) (h1 : ∀ (i : Nat) (x : PV) (u : Value), a[i]? = some x → va[i]? = some u → VRel G e σ w x u)
      (h2 : ∀ (i : Nat) (x : PV) (u : Value), c[i]? = some x → vc[i]? = some u → VRel G e σ w x u) : VRel G e σ w (.func f a c) (.func (.func f) va vc)
  | iface (t : TypeId) (x : PV) (v : Value) (h : VRel G e σ w x v) : VRel G e σ w (.iface t x) (.iface t v)
  | agg (cs : List PV) (vs : Array Value) (hs : vs.size = cs.length) (h : ∀ (i : Nat) (x : PV) (u : Value), cs[i]? = some x → vs[i]? = some u → VRel G e σ w x u) (h1 : ∀ u ∈ vs, u.oneCell' = true) : VRel G e σ w (.agg cs) (.agg vs)
  | tuple (cs : List PV) (vs : Array Value) (hs : vs.size = cs.length) (h : ∀ (i : Nat) (x : PV) (u : Value), cs[i]? = some x → vs[i]? = some u → VRel G e σ w x u) : VRel G e σ w (.tuple cs) (.tuple vs)
  | raw (v : Value) : VRel G e σ w (.raw v) v

/-! ### Data stay -/
theorem DRel.mono {ok ok' : Nat → Nat → Prop} {w w' : World} {x : D} {v : Value} (h : DRel ok w x v)
    (hp : ∀ b off u, w.cell? ⟨b, off, none⟩ = some u → ok b off → ok' b off ∧ w'.cell? ⟨b, off, none⟩ = some u) : DRel ok' w' x v := by
  induction h with
  | bool b => exact .bool b
  | int k n => exact .int k n
  | str s => exact .str s
  | nilp => exact .nilp
  | nilf => exact .nilf
  | nili => exact .nili
  | slnil => exact .slnil
  | sl rows b off cap sz u hcap hsz hc ho _ ih =>
    exact .sl rows b off cap sz u hcap hsz (fun i j hi hj => (hp _ _ _ (hc i j hi hj) (ho i j hi hj)).2) (fun i j hi hj => (hp _ _ _ (hc i j hi hj) (ho i j hi hj)).1)
      (fun i j x hx => ih i j x hx)

/-- From one moment to a later one: what is kept. -/
structure Later (e : Env) (σ : St) (w : World) (e' : Env) (σ' : St) (w' : World) : Prop where
  len : σ.bx.length ≤ σ'.bx.length
  beta : ∀ i, i < σ.bx.length → e'.β i = e.β i
  X : e'.X = e.X
  pres : ∀ b off u, w.cell? ⟨b, off, none⟩ = some u → okc e σ b off → okc e' σ' b off ∧ w'.cell? ⟨b, off, none⟩ = some u
  blocks : ∀ b, b < w.heap.size → (∀ i, i < σ.bx.length → e.β i ≠ b) → (∀ t, t ∈ σ.tk → ∀ p, e.M t = some p → p.1 ≠ b) → w'.heap[b]? = w.heap[b]?
  size : w.heap.size ≤ w'.heap.size
  os : w'.os = w.os
  tape : w'.tape = w.tape
  output : w'.output = w.output
  fresh : ∀ i, σ.bx.length ≤ i → i < σ'.bx.length → w.heap.size ≤ e'.β i
  ftok : ∀ t, t ∈ σ'.tk → ∀ p, e'.M t = some p → w.heap.size ≤ p.1 ∨ ∃ t0, t0 ∈ σ.tk ∧ ∃ p0, e.M t0 = some p0 ∧ p0.1 = p.1
/-- The tokens, too. -/
structure Stepped (e : Env) (σ : St) (w : World) (e' : Env) (σ' : St) (w' : World) : Prop extends Later e σ w e' σ' w' where
  nx : σ.nx ≤ σ'.nx
  toks : ∀ t, t < σ.nx → t ∈ σ'.tk → t ∈ σ.tk ∧ e'.M t = e.M t
  own : ∀ t, t < σ.nx → t ∈ σ'.tk → ∀ p, e.M t = some p → p.1 < w.heap.size → w'.heap[p.1]? = w.heap[p.1]?

theorem cell_lt {w : World} {b off : Nat} {u : Value} (h : w.cell? ⟨b, off, none⟩ = some u) : b < w.heap.size := World.block_lt_of_cell? w ⟨b, off, none⟩ h
theorem DRel.later {e : Env} {σ : St} {w : World} {e' : Env} {σ' : St} {w' : World} {x : D} {v : Value} (h : DRel (okc e σ) w x v) (hl : Later e σ w e' σ' w') : DRel (okc e' σ') w' x v :=
  h.mono fun b off u hc ho => hl.pres b off u hc ho
theorem Later.refl (e : Env) (σ : St) (w : World) : Later e σ w e σ w := ⟨Nat.le_refl _, fun _ _ => rfl, rfl, fun _ _ _ hc h => ⟨h, hc⟩, fun _ _ _ _ => rfl, Nat.le_refl _, rfl, rfl, rfl, fun i h1 h2 => by omega, fun t ht p hp => .inr ⟨t, ht, p, hp, rfl⟩⟩
theorem Later.trans {e0 e1 e2 : Env} {σ0 σ1 σ2 : St} {w0 w1 w2 : World} (h : Later e0 σ0 w0 e1 σ1 w1) (k : Later e1 σ1 w1 e2 σ2 w2) : Later e0 σ0 w0 e2 σ2 w2 where
  len := Nat.le_trans h.len k.len
  beta := fun i hi => (k.beta i (Nat.lt_of_lt_of_le hi h.len)).trans (h.beta i hi)
  X := k.X.trans h.X
  pres := fun b off u hu ho => let ⟨h1, h2⟩ := h.pres b off u hu ho; k.pres b off u h2 h1
  blocks := fun b hb hn ht => (k.blocks b (Nat.lt_of_lt_of_le hb h.size) (fun i hi => by
      by_cases hi0 : i < σ0.bx.length
      · rw [h.beta i hi0]; exact hn i hi0
      · have := h.fresh i (by omega) hi; omega) (fun t htm p hp => by
      rcases h.ftok t htm p hp with h1 | ⟨t0, ht0, p0, hp0, h1⟩
      · omega
      · rw [← h1]; exact ht t0 ht0 p0 hp0)).trans (h.blocks b hb hn ht)
  size := Nat.le_trans h.size k.size
  os := k.os.trans h.os
  tape := k.tape.trans h.tape
  output := k.output.trans h.output
  fresh := fun i h1 h2 => by
    by_cases hi : i < σ1.bx.length
    · rw [k.beta i hi]; exact h.fresh i h1 hi
    · exact Nat.le_trans h.size (k.fresh i (by omega) h2)
  ftok := fun t ht p hp => by
    rcases k.ftok t ht p hp with h1 | ⟨t1, ht1, p1, hp1, h1⟩
    · exact .inl (Nat.le_trans h.size h1)
    · rcases h.ftok t1 ht1 p1 hp1 with h2 | ⟨t0, ht0, p0, hp0, h2⟩
      · exact .inl (by rw [← h1]; exact h2)
      · exact .inr ⟨t0, ht0, p0, hp0, h2.trans h1⟩
theorem Stepped.refl (e : Env) (σ : St) (w : World) : Stepped e σ w e σ w := { Later.refl e σ w with nx := Nat.le_refl _, toks := fun _ _ h => ⟨h, rfl⟩, own := fun _ _ _ _ _ _ => rfl }

theorem Owned.step {G : GE} {e : Env} {σ : St} {w : World} {e' : Env} {σ' : St} {w' : World} {t el : Nat} {rows : List (List D)} {v : Value} (h : Owned G e w t el rows v)
    (hs : Stepped e σ w e' σ' w') (hn : t < σ.nx) (ht : t ∈ σ'.tk) : Owned G e' w' t el rows v := by
  rcases h with ⟨rfl, hr, hm⟩ | ⟨sz, h1, h2, h3, b, off, cap, cs, ty, fz, rfl, hb, hc, hh, hsz, hfz, hm⟩
  · exact .inl ⟨rfl, hr, (hs.toks t hn ht).2.trans hm⟩
  · exact .inr ⟨sz, h1, h2, h3, b, off, cap, cs, ty, fz, rfl, hb, hc, (hs.own t hn ht _ hm (Array.getElem?_eq_some_iff.1 hh).1).trans hh, hsz, hfz, (hs.toks t hn ht).2.trans hm⟩
theorem VRel.step {G : GE} {e : Env} {σ : St} {w : World} {e' : Env} {σ' : St} {w' : World} {x : PV} {v : Value} (h : VRel G e σ w x v) (hs : Stepped e σ w e' σ' w') : VRel G e' σ' w' x v := by
  induction h with
  | d x v h => exact .d x v (h.later hs.toLater)
  | undef v => exact .undef v
  | ptr b off h => rw [← hs.beta b h]; exact .ptr b off (Nat.lt_of_lt_of_le h hs.len)
  | elem r off b o u hc ho hu =>
    exact .elem r off b o u (fun j hj => (hs.pres b _ _ (hc j hj) (ho j hj)).2) (fun j hj => (hs.pres b _ _ (hc j hj) (ho j hj)).1)
      (fun j x hx => (hu j x hx).later hs.toLater)
  | sl t el rows v hn hd ht => exact .sl t el rows v (Nat.lt_of_lt_of_le hn hs.nx) (hd.later hs.toLater) fun h => (ht (hs.toks t hn h).1).step hs hn h
  | nils el => exact .nils el
  | func f a c va vc ha hc _ _ ih1 ih2 => exact .func f a c va vc ha hc ih1 ih2
  | iface t x v _ ih => exact .iface t x v ih
  | agg cs vs hs' _ h1 ih => exact .agg cs vs hs' ih h1
  | tuple cs vs hs' _ ih => exact .tuple cs vs hs' ih
  | raw v => exact .raw v

/-! ### The store -/
def BRel (G : GE) (e : Env) (σ : St) (w : World) : Box → Nat → Prop
  | .cells t cs, b => ∃ vs : Array Value, w.heap[b]? = some (.cells vs t (0, 0)) ∧ vs.size = cs.length ∧ ∀ (i : Nat) (x : PV) (u : Value), cs[i]? = some x → vs[i]? = some u → VRel G e σ w x u ∧ u.oneCell' = true
  | .iter s pos, b => w.heap[b]? = some (.stringIter ⟨s.toArray⟩ pos)
  | .loop st pd r, b => w.heap[b]? = some (.loop { r with state := st, pending := pd })
structure SRel (G : GE) (e : Env) (σ : St) (w : World) : Prop where
  inj : ∀ i j, i < σ.bx.length → j < σ.bx.length → e.β i = e.β j → i = j
  box : ∀ i x, σ.bx[i]? = some x → BRel G e σ w x (e.β i)
  low : ∀ i, i < σ.bx.length → G.nG ≤ e.β i
  tkn : ∀ t, t ∈ σ.tk → t < σ.nx
  own : ∀ t, t ∈ σ.tk → ∀ p, e.M t = some p → G.nG ≤ p.1 ∧ (∀ i, i < σ.bx.length → e.β i ≠ p.1) ∧ ∃ cs ty fz, w.heap[p.1]? = some (.cells cs ty fz)
  dis : ∀ t t', t ∈ σ.tk → t' ∈ σ.tk → t ≠ t' → ∀ p p', e.M t = some p → e.M t' = some p' → p.1 ≠ p'.1
  xlt : ∀ b off, e.X b off → b < w.heap.size
  xown : ∀ t, t ∈ σ.tk → ∀ p, e.M t = some p → ∀ off, p.2 ≤ off → ¬ e.X p.1 off
  glob : ∀ b, b < G.nG → w.heap[b]? = G.w0.heap[b]?
  big : G.nG ≤ w.heap.size
theorem SRel.lt {G : GE} {e : Env} {σ : St} {w : World} (h : SRel G e σ w) {i : Nat} (hi : i < σ.bx.length) : e.β i < w.heap.size := by
  have := h.box i _ (List.getElem?_eq_getElem hi)
  generalize σ.bx[i] = x at this
  cases x with
  | cells t cs => obtain ⟨vs, hv, _⟩ := this; exact (Array.getElem?_eq_some_iff.1 hv).1
  | iter s p => exact (Array.getElem?_eq_some_iff.1 this).1
  | loop st pd r => exact (Array.getElem?_eq_some_iff.1 this).1
theorem BRel.step {G : GE} {e : Env} {σ : St} {w : World} {e' : Env} {σ' : St} {w' : World} {x : Box} {b : Nat} (h : BRel G e σ w x b) (hs : Stepped e σ w e' σ' w') (hb : w'.heap[b]? = w.heap[b]?) : BRel G e' σ' w' x b := by
  cases x with
  | cells t cs =>
    obtain ⟨vs, h1, h2, h3⟩ := h
    exact ⟨vs, hb.trans h1, h2, fun i x u hx hu => ⟨(h3 i x u hx hu).1.step hs, (h3 i x u hx hu).2⟩⟩
  | iter s p => exact Eq.trans hb h
  | loop st pd r => exact Eq.trans hb h

/-- Frames. -/
def FRel (G : GE) (e : Env) (σ : St) (w : World) (f : Frame) (tmps : Array Value) : Prop := ∀ i, VRel G e σ w (f i) (tmps.getD i Go.undef)
theorem FRel.step {G : GE} {e : Env} {σ : St} {w : World} {e' : Env} {σ' : St} {w' : World} {f : Frame} {tmps : Array Value} (h : FRel G e σ w f tmps) (hs : Stepped e σ w e' σ' w') : FRel G e' σ' w' f tmps :=
  fun i => (h i).step hs
theorem fset_same (f : Frame) (i : Nat) (v : PV) : fset f i v i = v := by simp [fset]
theorem fset_ne (f : Frame) {i j : Nat} (v : PV) (h : i ≠ j) : fset f i v j = f j := by
  have : Nat.beq i j = false := by
    cases h' : Nat.beq i j
    · rfl
    · exact absurd (Nat.eq_of_beq_eq_true h') h
  simp [fset, this]
def fputO (f : Frame) (d : Option Nat) (v : PV) : Frame := match d with | some i => fset f i v | none => f
theorem FRel.put {G : GE} {e : Env} {σ : St} {w : World} {f : Frame} {a : Act} (h : FRel G e σ w f a.tmps) {d : Option Nat} {x : PV} {v : Value} (hv : VRel G e σ w x v) (hd : ∀ i, d = some i → i < a.tmps.size) :
    FRel G e σ w (fputO f d x) (a.put d v).tmps := by
  cases d with
  | none => exact h
  | some i =>
    intro j
    have hi := hd i rfl
    simp only [Act.put, fputO]
    by_cases hij : i = j
    · subst hij
      rw [fset_same]
      simpa [hi] using hv
    · rw [fset_ne f x hij]
      have := h j
      simpa [Array.getElem?_setIfInBounds, hij] using this
theorem ofConst_rel (G : GE) (e : Env) (σ : St) (w : World) (v : Value) : VRel G e σ w (ofConst v) v := by
  unfold ofConst
  split
  · exact .d _ _ (.bool _)
  · exact .d _ _ (.int _ _)
  · rename_i s; exact .d _ _ (.str _)
  · exact .d _ _ .nilp
  · exact .nils 0
  · exact .d _ _ .nilf
  · exact .d _ _ .nili
  · exact .raw _
theorem ev_rel {G : GE} {e : Env} {σ : St} {w : World} {f : Frame} {a : Act} (h : FRel G e σ w f a.tmps) (x : Operand) : VRel G e σ w (ev f x) (a.eval x) := by
  cases x with
  | tmp t => exact h t
  | const v => exact ofConst_rel G e σ w v
  | global g => exact .undef _
  | func g => exact .func g [] [] #[] #[] rfl rfl (fun i x u hx => by simp at hx) (fun i x u hx => by simp at hx)
end Go.PM
