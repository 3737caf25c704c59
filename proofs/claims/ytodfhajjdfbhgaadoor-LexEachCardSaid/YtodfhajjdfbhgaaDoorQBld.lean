/- A part of the proof: plain logic, contracts and laws over the given program. -/
import Derived.Test.YtodfhajjdfbhgaaDoorQLib
import Derived.Test.YtodfhajjdfbhgaaDoorQSp2
import Derived.Shelf.Strings.Builder1
import Derived.Test.YtodfhajjdfbhgaaDoorShelf
import Derived.Shelf.RegionOpenPlain
import Derived.Lib.Walk
import Derived.Lib.UnsafeStr
import Derived.Lib.Builder
import Derived.WalkKit
import Derived.Laws.Externs
set_option linter.unusedVariables false
set_option linter.unusedSimpArgs false
set_option linter.all false
set_option maxRecDepth 100000
set_option maxHeartbeats 4000000
namespace Go.PM
theorem pcalls_mach {G : GE} {g : FuncId} {sp : Spec} (hent : Enters G.P g)
    (h : ∀ args σ K, sp args σ K → ∀ (e : Env) (w : World) (vs : Array Value), SRel G e σ w → ArgsRel G e σ w args vs → ∃ pv σ' v, K (.ret pv) σ' ∧ Calls G.P g vs w fun en w' => en = .returned v ∧ VRel G e σ' w' pv v ∧ SRel G e σ' w' ∧ Later e σ w e σ' w') : PCalls G g sp where
  enters := hent
  calls := fun args σ K hs n e w vs hS ha => by
    obtain ⟨pv, σ', v, hK, hc⟩ := h args σ K hs e w vs hS ha
    refine CallsIn.mono (callsIn_wide.2 hc) fun en w' ⟨he, hv, hS', hL⟩ => ?_
    subst he
    exact ⟨.ret pv, σ', e, hK, ⟨v, rfl, hv⟩, hS', hL⟩
section
variable {G : GE} {T : Tab} {e : Env} {σ : St} {w : World}
theorem store_exact (hT : TabOK T G.P) (hS : SRel G e σ w) {t : TypeId} {b off : Nat} {x : PV} {v : Value} {l cs : List PV} {ty : TypeId} (hb : σ.bx[b]? = some (.cells ty cs)) (hx : VRel G e σ w x v) (hl : x.cells = some l)
    (hlen : l.length = (T.get t).size) (hfit : off + l.length ≤ cs.length) (hk : (T.get t).kind ≠ .other) :
    Stepped e σ w e (σ.set b (.cells ty (setRange cs off l))) (w.setCells (e.β b) off v.cells.toList) ∧ SRel G e (σ.set b (.cells ty (setRange cs off l))) (w.setCells (e.β b) off v.cells.toList) := by
  obtain ⟨w1, hr, h1, h2⟩ := store_sound hT hS hb hx hl hlen hfit hk
  obtain ⟨i, d, z, hi, hd, hs, hby, hkd, hz, hz2, _⟩ := (hT.get hk).ex
  obtain ⟨vs, hv1, hv2, hv3⟩ := hS.box b _ hb
  obtain ⟨hc1, hc2⟩ := cells_rel hx hl
  have hvc : v.cells.toList.length = l.length := by simpa using hc1
  have hone : ∀ u ∈ v.cells.toList, u.oneCell' = true := fun u hu => by
    obtain ⟨j, hj, rfl⟩ := List.getElem_of_mem hu
    have h1 : j < l.length := by omega
    exact (hc2 j l[j] _ (List.getElem?_eq_getElem h1) (by rw [← Array.getElem?_toList, List.getElem?_eq_getElem hj])).2
  have hrun := run_storeCells_cells (P := G.P) (e.β b) off v.cells.toList 0 w (fun j hj => by
      have : off + j < vs.size := by omega
      simp [World.cell?, hv1, this]) (fun j hj => by simp [World.frozen?, hv1]) hone
  simp only [Nat.add_zero] at hrun
  have hr2 : (Instr.storeAt t (.pointer (some ⟨e.β b, off, none⟩)) v).run G.P w = .ok () (w.setCells (e.β b) off v.cells.toList) := by
    have h1' : v.cells.size = i.size := by rw [hc1, hlen, hs]
    simp only [Instr.storeAt, Instr.sureAddr, storeVar, Sem.run_bind, Sem.run_pure, Result.andThen, run_sizeOf' hi]
    rw [if_neg (by rw [h1']; simp)]
    exact hrun
  rw [hr2] at hr
  cases hr
  exact ⟨h1, h2⟩
end
end Go.PM
namespace Go.PM.Lex
open Go.Proofs Go.Shelf
variable {w0 : World} {nG : Nat}
theorem u50 : Tryd.prog.underlying 80 = some (.pointer 82) := by kernel_rfl
theorem u95 : Tryd.prog.underlying 102 = some .unsafePointer := by kernel_rfl
theorem i53 : ∃ j, Tryd.prog.info? 82 = some j ∧ j.size = 2 := by
  have h : (Tryd.prog.info? 82).map (·.size) = some 2 := by kernel_rfl
  obtain ⟨j, h1, h2⟩ := Option.map_eq_some_iff.1 h
  exact ⟨j, h1, h2⟩
theorem lies53 : liesAt Tryd.prog Tryd.prog.depth 82 (2 / Tryd.prog.cellsOf 82) 0 82 1 = true := by kernel_rfl
theorem copy_used (b : Nat) (w : World) (h0 : w.cell? ⟨b, 0, none⟩ = some (.pointer (some ⟨b, 0, none⟩))) :
    Calls Tryd.prog 58 #[.pointer (some ⟨b, 0, none⟩)] w fun e w' => e = .returned (.tuple #[]) ∧ w' = w := by
  obtain ⟨j, hj, hjs⟩ := i53
  go_enter Tryd.func58, Tryd.ntmps58
  go_wp2
  rw [Go.Lib.run_neq_ptr_same w _ u50 hj]
  go_wp2
  go_end0
  exact ⟨rfl, rfl⟩
theorem copy_fresh (b : Nat) (w : World) (h0 : w.cell? ⟨b, 0, none⟩ = some (.pointer none)) (hsh : w.shape? b = some (82, 2)) (hfz : w.frozen? ⟨b, 0, none⟩ = false) :
    Calls Tryd.prog 58 #[.pointer (some ⟨b, 0, none⟩)] w fun e w' => e = .returned (.tuple #[]) ∧ w' = w.setCell ⟨b, 0, none⟩ (.pointer (some ⟨b, 0, none⟩)) := by
  obtain ⟨j, hj, hjs⟩ := i53
  go_enter Tryd.func58, Tryd.ntmps58
  go_wp2
  rw [Go.Lib.run_to_unsafe w ⟨b, 0, none⟩ u50 u95 hj (by rw [hjs]; decide) hsh (Nat.zero_lt_succ 1)]
  simp only [Result.andThen]
  rw [Oper.upon_value]
  go_wp2
  rw [run_callFunc_extern Tryd.func64 (by kernel_rfl) (by kernel_rfl) (by kernel_rfl) (e := Extern.AbiNoEscape.same) (by kernel_rfl)]
  rw [Go.Lib.run_noEscape]
  simp only [Result.andThen]
  rw [Oper.upon_value]
  go_wp2
  rw [Go.Lib.run_from_unsafe w ⟨b, 0, none⟩ u95 u50 hj hsh lies53]
  simp only [Result.andThen]
  rw [Oper.upon_value]
  go_wp2
  go_end0
  exact ⟨rfl, rfl⟩
noncomputable def spCopyCheck : Spec := fun args σ K => match args, σ with
  | [.ptr 0 0], ⟨[.cells t [p, q]], tk, nx⟩ => ((p = .d .nilp ∨ p = .ptr 0 0) ∧ t = 82) ∧ K (.ret (.tuple [])) ⟨[.cells t [.ptr 0 0, q]], tk, nx⟩
  | _, _ => False
theorem spCopyCheck_mono : SpecMono spCopyCheck := fun args σ K K' hK h => by
  unfold spCopyCheck at h ⊢; split at h <;> first | exact ⟨h.1, hK _ _ h.2⟩ | exact h.elim
theorem copyCheck_ok : PCalls (GG w0 nG) 58 spCopyCheck := pcalls_mach (enters_of Tryd.func58 (by kernel_rfl) rfl) fun args σ K h e w vs hS ha => by
  unfold spCopyCheck at h
  split at h
  · rename_i t p q tk nx
    obtain ⟨⟨hp, rfl⟩, hK⟩ := h
    obtain ⟨u, rfl, hu⟩ := args1 ha
    obtain ⟨cv, hc1, hc2, hc3⟩ := hS.box 0 _ rfl
    have hcs : cv.size = 2 := hc2
    obtain ⟨x0, hx0⟩ : ∃ x, cv[0]? = some x := ⟨cv[0]'(by omega), by simp [hcs]⟩
    have hr0 := (hc3 0 p x0 rfl hx0).1
    cases hu with
    | ptr b off hb =>
    refine ⟨_, _, .tuple #[], hK, ?_⟩
    rcases hp with rfl | rfl
    · cases hr0 with
      | d _ _ hd =>
      cases hd
      refine Calls.mono (copy_fresh (e.β 0) w ?_ ?_ ?_) fun en w' ⟨h1, h2⟩ => ?_
      · simp [World.cell?, hc1, hx0]
      · simp only [World.shape?, hc1, hcs]
      · simp [World.frozen?, hc1]
      · have hst := store_exact (G := GG w0 nG) (T := Tab0) tab_ok hS (t := 80) (b := 0) (off := 0) (x := .ptr 0 0) (v := .pointer (some ⟨e.β 0, 0, none⟩)) (l := [.ptr 0 0]) (cs := [.d .nilp, q]) (ty := 82) rfl (.ptr 0 0 hb) rfl rfl (by simp) (by intro h; cases h)
        rw [h2]
        exact ⟨h1, .tuple [] #[] rfl (fun i x u hx => by simp at hx), hst.2, hst.1.toLater⟩
    · cases hr0 with
      | ptr _ _ _ =>
      refine Calls.mono (copy_used (e.β 0) w (by simp [World.cell?, hc1, hx0])) fun en w' ⟨h1, h2⟩ => ?_
      rw [h2]
      exact ⟨h1, .tuple [] #[] rfl (fun i x u hx => by simp at hx), hS, Later.refl _ _ _⟩
  · exact h.elim
/-- String, of a builder that holds a byte, with its world. -/
theorem str_exact {P : Program} {ρ : Ren} (L : Lays.n169 P ρ) (X : Builder.Extra P ρ) (b g cap : Nat) (p : Value) (cur : Array Value) (fz : Nat × Nat) (l : Bs) (w : World) (h0 : l ≠ [])
    (hbk : w.heap[b]? = some (.cells #[p, .slice (some ⟨g, 0, none⟩) l.length cap] (ρ.t 72) (0, 0))) (hg : w.heap[g]? = some (.cells cur (ρ.t 5) fz)) (hn : l.length ≤ cur.size) (hcap : cap ≠ 0) (hbig : l.length ≤ 9223372036854775807)
    (hcell : ∀ j x, l[j]? = some x → w.cell? ⟨g, j, none⟩ = some (.int .u8 x.toNat)) :
    Calls P (ρ.f 169) #[.pointer (some ⟨b, 0, none⟩)] w fun e w' => e = .returned (.string ⟨l.toArray⟩) ∧ w' = w.drew.freeze ⟨g, 0, none⟩ l.length := by
  have c1 : w.drew.cell? ⟨b, 1, none⟩ = some (.slice (some ⟨g, 0, none⟩) l.length cap) := by
    have : w.drew.heap[b]? = some (.cells #[p, .slice (some ⟨g, 0, none⟩) l.length cap] (ρ.t 72) (0, 0)) := hbk
    rw [Go.Lib.cell_of_heap this]; rfl
  have hSD : (Builtin.unsafeSliceData_ #[(ρ.t 37)] (ρ.t 127) #[.slice (some ⟨g, 0, none⟩) l.length cap]).run P w.drew = .ok (.pointer (some ⟨g, 0, none⟩)) w.drew :=
    Go.Lib.run_unsafeSliceData_row _ _ _ _ _ _ hcap
  have hUS : (Builtin.unsafeString_ #[(ρ.t 127), (ρ.t 3)] (ρ.t 9) #[.pointer (some ⟨g, 0, none⟩), .int .i64 l.length]).run P w.drew = .ok (.string ⟨l.toArray⟩) (w.drew.freeze ⟨g, 0, none⟩ l.length) := by
    refine Go.Lib.run_unsafeString_row w.drew (ρ.t 127) (ρ.t 3) (ρ.t 9) (ρ.t 5) L.t127 X.cellsByte g cur.size (by have hg' : w.drew.heap[g]? = some (.cells cur (ρ.t 5) fz) := hg; simp [World.shape?, hg']) l h0 hn hbig ?_
    intro j x hx
    have := hcell j x hx
    rw [add_addr, Nat.zero_add]; exact this
  have mixed := L.mixed
  have t72 := L.t72; have a72 := L.a72; have z72 := L.z72; have v72 := L.v72; have u72 := run_underlying L.t72
  have t70 := L.t70; have a70 := L.a70; have z70 := L.z70; have v70 := L.v70; have u70 := run_underlying L.t70
  have t37 := L.t37; have a37 := L.a37; have z37 := L.z37; have v37 := L.v37; have u37 := run_underlying L.t37
  have t127 := L.t127; have a127 := L.a127; have z127 := L.z127; have v127 := L.v127; have u127 := run_underlying L.t127
  have t3 := L.t3; have a3 := L.a3; have z3 := L.z3; have v3 := L.v3; have u3 := run_underlying L.t3
  have t9 := L.t9; have a9 := L.a9; have z9 := L.z9; have v9 := L.v9; have u9 := run_underlying L.t9
  have t5 := X.t5; have a5 := X.a5; have z5 := X.z5; have v5 := X.v5; have u5 := run_underlying X.t5
  go_enter L.f169, Body.n169_ntmps ρ
  go_wp2
  go_region_o
  all_goals (go_wp2; go_ret; exact ⟨rfl, rfl⟩)
theorem freeze_heap (w : World) (g n k : Nat) (hk : k ≠ g) : (w.drew.freeze ⟨g, 0, none⟩ n).heap[k]? = w.heap[k]? := by
  unfold World.freeze
  split
  · rfl
  · simp only [Array.getElem?_modify]; rw [if_neg (fun h => hk h.symm)]; rfl
theorem freeze_same (w : World) (g n : Nat) {cs : Array Value} {ty : TypeId} {fz : Nat × Nat} (h : w.heap[g]? = some (.cells cs ty fz)) : ∃ fz', (w.drew.freeze ⟨g, 0, none⟩ n).heap[g]? = some (.cells cs ty fz') := by
  have h' : w.drew.heap[g]? = some (.cells cs ty fz) := h
  unfold World.freeze
  split
  · exact ⟨fz, h'⟩
  · simp only [Array.getElem?_modify, if_true, h', Option.map_some]
    exact ⟨_, rfl⟩
/-- What is left of a store whose last owned slice is struck, the world turned in that slice's block by no cell. -/
theorem strike {G : GE} {e : Env} {w w' : World} {t : TypeId} {p : PV} {rows : List (List D)} (hp : p = .d .nilp ∨ p = .ptr 0 0) (hS : SRel G e ⟨[.cells t [p, .sl 0 5 rows]], [0], 1⟩ w)
    (hsz : w.heap.size ≤ w'.heap.size) (hos : w'.os = w.os) (htp : w'.tape = w.tape) (hout : w'.output = w.output)
    (hcell : ∀ b off u, w.cell? ⟨b, off, none⟩ = some u → w'.cell? ⟨b, off, none⟩ = some u)
    (hblk : ∀ b, b < w.heap.size → (∀ q, e.M 0 = some q → q.1 ≠ b) → w'.heap[b]? = w.heap[b]?) :
    SRel G e ⟨[.cells t [p, .d (.sl rows)]], [], 0⟩ w' ∧ Later e ⟨[.cells t [p, .sl 0 5 rows]], [0], 1⟩ w e ⟨[.cells t [p, .d (.sl rows)]], [], 0⟩ w' := by
  have hL : Later e ⟨[.cells t [p, .sl 0 5 rows]], [0], 1⟩ w e ⟨[.cells t [p, .d (.sl rows)]], [], 0⟩ w' := {
    len := Nat.le_refl _
    beta := fun _ _ => rfl
    X := rfl
    pres := fun b off u hu ho => ⟨⟨ho.1, ho.2.1, fun x hx => by cases hx⟩, hcell b off u hu⟩
    blocks := fun b hb h1 h2 => hblk b hb fun q hq => h2 0 (by simp) q hq
    size := hsz
    os := hos
    tape := htp
    output := hout
    fresh := fun i h1 h2 => by simp at h1 h2; omega
    ftok := fun x hx => by cases hx }
  have hlt := hS.lt (i := 0) (by simp)
  have hblk0 : w'.heap[e.β 0]? = w.heap[e.β 0]? := hblk _ hlt fun q hq => fun h => (hS.own 0 (by simp) q hq).2.1 0 (by simp) h.symm
  refine ⟨?_, hL⟩
  exact {
    inj := hS.inj
    box := fun i x hx => by
      match i, hx with
      | 0, hx =>
        cases hx
        obtain ⟨cv, h1, h2, h3⟩ := hS.box 0 _ rfl
        refine ⟨cv, hblk0.trans h1, h2, fun j y u hy hu => ?_⟩
        match j, hy with
        | 0, hy =>
          cases hy
          obtain ⟨q1, q2⟩ := h3 0 p u rfl hu
          refine ⟨?_, q2⟩
          rcases hp with rfl | rfl
          · cases q1 with
            | d _ _ hd => exact .d _ _ (hd.later hL)
          · cases q1 with
            | ptr b o hb => exact .ptr 0 0 (by simp)
        | 1, hy =>
          cases hy
          obtain ⟨q1, q2⟩ := h3 1 (.sl 0 5 rows) u rfl hu
          refine ⟨?_, q2⟩
          cases q1 with
          | sl _ _ _ _ hn hd ht => exact .d _ _ (hd.later hL)
        | j + 2, hy => simp at hy
      | i + 1, hx => simp at hx
    low := hS.low
    tkn := fun x hx => by cases hx
    own := fun x hx => by cases hx
    dis := fun x y hx => by cases hx
    xlt := fun b off hx => Nat.lt_of_lt_of_le (hS.xlt b off hx) hsz
    xown := fun x hx => by cases hx
    glob := fun b hb => by
      rw [hblk b (Nat.lt_of_lt_of_le hb hS.big) fun q hq => fun h => by have := (hS.own 0 (by simp) q hq).1; omega]
      exact hS.glob b hb
    big := Nat.le_trans hS.big hsz }
theorem bytesR_len' (l : Bs) : (bytesR l).length = l.length := by simp [bytesR]
theorem info5 : (Tryd.prog.info? 5).map (·.size) = some 1 := by kernel_rfl
theorem string_ok : PCalls (GG w0 nG) 47 spString := pcalls_mach (enters_of Tryd.func47 (by kernel_rfl) rfl) fun args σ K h e w vs hS ha => by
  unfold spString at h
  split at h
  · rename_i t p el rows
    obtain ⟨l, ⟨rfl, rfl, rfl, hp, hbig⟩, hK⟩ := h
    obtain ⟨u, rfl, hu⟩ := args1 ha
    obtain ⟨cv, hc1, hc2, hc3⟩ := hS.box 0 _ rfl
    have hcs : cv.size = 2 := hc2
    obtain ⟨v0, v1, rfl⟩ : ∃ v0 v1, cv = #[v0, v1] := by
      obtain ⟨lst⟩ := cv
      match lst, hcs with
      | [a, b], _ => exact ⟨a, b, rfl⟩
    have hr1 := (hc3 1 (.sl 0 5 (bytesR l)) v1 rfl rfl).1
    cases hu with
    | ptr b off hb =>
    refine ⟨_, _, .string ⟨l.toArray⟩, hK, ?_⟩
    have fin : ∀ w', w.heap.size ≤ w'.heap.size → w'.os = w.os → w'.tape = w.tape → w'.output = w.output →
        (∀ b off u, w.cell? ⟨b, off, none⟩ = some u → w'.cell? ⟨b, off, none⟩ = some u) →
        (∀ b, b < w.heap.size → (∀ q, e.M 0 = some q → q.1 ≠ b) → w'.heap[b]? = w.heap[b]?) →
        VRel (GG w0 nG) e ⟨[.cells 82 [p, .d (.sl (bytesR l))]], [], 0⟩ w' (.d (.str l)) (.string ⟨l.toArray⟩) ∧ SRel (GG w0 nG) e ⟨[.cells 82 [p, .d (.sl (bytesR l))]], [], 0⟩ w' ∧ Later e ⟨[.cells 82 [p, .sl 0 5 (bytesR l)]], [0], 1⟩ w e ⟨[.cells 82 [p, .d (.sl (bytesR l))]], [], 0⟩ w' := fun w' h1 h2 h3 h4 h5 h6 =>
      ⟨.mkstr, strike hp hS h1 h2 h3 h4 h5 h6⟩
    have grown : ∀ w', Grows w w' → _ := fun w' g => fin w' g.size g.os g.tape g.output (fun b off u hu => (g.cell (cell_lt hu)).trans hu) (fun b hb _ => g.old b hb)
    cases hr1 with
    | sl _ _ _ _ hn hd ht =>
    rcases ht (by simp) with ⟨rfl, hrows, hM⟩ | ⟨sz, g1, g2, g3, g, off, cap, cs, ty, fz, rfl, g4, g5, g6, ⟨g7, rfl, rfl, g8⟩, g9, hM⟩
    · have hl : l = [] := by simpa [bytesR] using hrows
      subst hl
      refine (Any.Builder_String_nil Tryd.lays169 Tryd.Builder_Extra_169 w.heap.size (e.β 0) v0 w hc1).mono fun en w' ⟨h1, h2⟩ => ?_
      exact ⟨h1, grown w' (Grows.of_below h2)⟩
    · have hsz1 : sz = 1 := by
        have : (Tryd.prog.info? 5).map (·.size) = some sz := g1
        rw [info5] at this; cases this; rfl
      subst hsz1
      rw [bytesR_len'] at g5 hc1 g9 hM hd
      by_cases hl : l = []
      · subst hl
        refine (Any.Builder_String_room Tryd.lays169 Tryd.Builder_Extra_169 w.heap.size (e.β 0) g cap v0 w (by omega) hc1).mono fun en w' ⟨h1, h2⟩ => ?_
        exact ⟨h1, grown w' (Grows.of_below h2)⟩
      · have hcell : ∀ j x, l[j]? = some x → w.cell? ⟨g, j, none⟩ = some (.int .u8 x.toNat) := by
          intro j x hx
          have hj := (List.getElem?_eq_some_iff.1 hx).1
          have hrow : (bytesR l)[j]? = some [.int .u8 x.toNat] := by simp [bytesR, hx]
          generalize hrr : bytesR l = rr at hd hrow
          have hlen : rr.length = l.length := by rw [← hrr]; simp [bytesR]
          generalize hvv : Value.slice (some ⟨g, 0, none⟩) l.length cap = vv at hd
          cases hd with
          | slnil => simp at hrow
          | sl _ _ _ _ sz u hcap hsz hc ho hu =>
            simp only [Value.slice.injEq, Option.some.injEq, Addr.mk.injEq] at hvv
            obtain ⟨⟨rfl, rfl, _⟩, _, rfl⟩ := hvv
            have hsz' : sz = 1 := by
              have := hsz _ (List.mem_of_getElem? hrow); simpa using this.symm
            subst hsz'
            have h1 := hc j 0 (by omega) (by omega)
            have h2 := hu j 0 (.int .u8 x.toNat) (by rw [hrow]; rfl)
            generalize huu : u j 0 = uu at h1 h2; cases h2
            simpa using h1
        obtain ⟨fz', hfz'⟩ := freeze_same w g l.length g6
        refine (str_exact Tryd.lays169 Tryd.Builder_Extra_169 (e.β 0) g cap v0 cs fz l w hl hc1 g6 (by omega) (by omega) (by omega) hcell).mono fun en w' ⟨h1, h2⟩ => ?_
        rw [h2]
        refine ⟨h1, fin _ ?_ ?_ ?_ ?_ ?_ ?_⟩
        · unfold World.freeze; split <;> first | exact Nat.le_refl _ | (simp only [Array.size_modify]; exact Nat.le_refl _)
        · unfold World.freeze; split <;> rfl
        · unfold World.freeze; split <;> rfl
        · unfold World.freeze; split <;> rfl
        · intro b off u hu
          by_cases hbg : b = g
          · subst hbg
            simp only [World.cell?, hfz', g6] at hu ⊢
            exact hu
          · simpa [World.cell?, freeze_heap w g l.length b hbg] using hu
        · intro b hb hq
          exact freeze_heap w g l.length b fun h => hq _ hM h.symm
  · exact h.elim
end Go.PM.Lex
