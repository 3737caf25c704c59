/- A part of the proof: plain logic, contracts and laws over the given program. -/
import Derived.Test.YtlcmifmmfnnoiaaGreatDoorRows
import Derived.Test.YtlcmifmmfnnoiaaGreatDoorTie
import Derived.Test.YtlcmifmmfnnoiaaGreatDoorCards
import Derived.ProofKit
import Derived.OpenShut
import Derived.LaidMore
import Derived.Lay
import Derived.LaidSub
import Derived.SevenTiedAt
import Derived.Stop.Joined
import Derived.Stop.LaidErr
import Derived.Test.YtlcmifmmfnnoiaaGreatDoorG10
set_option linter.unusedVariables false
set_option linter.unusedSimpArgs false
set_option linter.all false
section
set_option maxRecDepth 100000
set_option maxHeartbeats 4000000
namespace Go.PM.Lex
open Go.Proofs
variable {w0 : World} {nG : Nat}
def sg (p : Nat) : Bs := sgnL.getD p []
def ln (p : Nat) : Int := linL.getD p 0
def op (p : Nat) : Nat := opsL.getD p 0
theorem ten {P : Nat → Prop} (h : ∀ i : Fin 10, P i.val) {p : Nat} (hp : p < 10) : P p := h ⟨p, hp⟩
theorem sg_len {p : Nat} (hp : p < 10) : (sg p).length ≤ 4 := ten (P := fun p => (sg p).length ≤ 4) (by decide) hp
theorem get_sg {p : Nat} (hp : p < 10) : (sgnL.map encBs)[((p : Nat) : Int).toNat]? = some [.str (sg p)] := by
  rw [Int.toNat_natCast, List.getElem?_map, sg, List.getD_eq_getElem?_getD, List.getElem?_eq_getElem (show p < sgnL.length from hp)]; rfl
theorem get_ln {p : Nat} (hp : p < 10) : (linL.map fun n => [D.int .i64 n])[((p : Nat) : Int).toNat]? = some [.int .i64 (ln p)] := by
  rw [Int.toNat_natCast, List.getElem?_map, ln, List.getD_eq_getElem?_getD, List.getElem?_eq_getElem (show p < linL.length from hp)]; rfl
theorem get_op {p : Nat} (hp : p < 10) : (opsL.map fun n => [D.int .u8 (Int.ofNat n)])[((p : Nat) : Int).toNat]? = some [.int .u8 (op p)] := by
  rw [Int.toNat_natCast, List.getElem?_map, op, List.getD_eq_getElem?_getD, List.getElem?_eq_getElem (show p < opsL.length from hp)]; rfl
def vE (c : UInt8) : Ex := .mk 1 [c] 0 [] 0
def twoE (o : Nat) (a b : Ex) : Ex := .mk o [] 0 [a, b] 0
def wantE (p q : Nat) : Ex := if ln p < ln q then twoE (op p) (vE 97) (twoE (op q) (vE 98) (vE 99)) else twoE (op q) (twoE (op p) (vE 97) (vE 98)) (vE 99)
def want2 (p q : Nat) : Ex := twoE (op q) (twoE (op p) (vE 97) (vE 98)) (vE 99)
def negE (p : Nat) : Ex := twoE (op p) (.mk 8 [] 0 [vE 97] 0) (.mk 9 [] 0 [vE 98] 0)
def txt1 (p q : Nat) : Bs := [97, 32] ++ sg p ++ [32, 98, 32] ++ sg q ++ [32, 99]
def txt2 (p : Nat) : Bs := [45, 97, 32] ++ sg p ++ [32, 126, 98]
def txt3 (p q : Nat) : Bs := [40, 97, 32] ++ sg p ++ [32, 98, 41, 32] ++ sg q ++ [32, 40, 99, 41]
/-- Is a text read as that tree (of few parts)? -/
def reads (s : Bs) (w : Ex) : Bool := match readTop 65536 16384 (exprD 64) s with
  | .ok v _ => sameE v w && decide (szE v ≤ 1000)
  | .err _ _ => false
theorem reads_ok {s : Bs} {w : Ex} (h : reads s w = true) {x : Top Ex} (hx : readTop 65536 16384 (exprD 64) s = x) : ∃ v L, x = .ok v L ∧ sameE v w = true ∧ szE v ≤ 1000 := by
  unfold reads at h
  rw [hx] at h
  cases x with
  | ok v L => rw [Bool.and_eq_true, decide_eq_true_eq] at h; exact ⟨v, L, rfl, h.1, h.2⟩
  | err p e => cases h
theorem lines_chk : ∀ p q : Fin 10, (reads (txt1 p q) (wantE p q) && reads (txt2 p) (negE p) && reads (txt3 p q) (want2 p q)) = true := by decide +kernel
theorem lines_all {p q : Nat} (hp : p < 10) (hq : q < 10) : reads (txt1 p q) (wantE p q) = true ∧ reads (txt2 p) (negE p) = true ∧ reads (txt3 p q) (want2 p q) = true := by
  have := lines_chk ⟨p, hp⟩ ⟨q, hq⟩
  simp only [Bool.and_eq_true] at this
  exact ⟨this.1.1, this.1.2, this.2⟩
noncomputable def spLaw2i : Spec := fun args σ K => match args, σ with
  | [.d (.int .i64 i), .d (.int .i64 k)], ⟨[], [], 0⟩ => K (.ret (.d (.bool true))) ⟨[], [], 0⟩
  | _, _ => False
theorem spLaw2i_mono : SpecMono spLaw2i := fun args σ K K' hK h => by
  unfold spLaw2i at h ⊢
  split at h
  · exact hK _ _ h
  · exact h.elim
noncomputable def tblLines : Tbl := [(11, spSigns), (12, spPick), (13, spTwo), (14, spTopE), (15, spSameE 1000), (8, spTrue15)]
abbrev vbox (c : UInt8) (t : Nat) : Box := .cells 50 [.d (.int .u8 1), .d (.str [c]), .d (.int .i64 0), .sl t 50 [], .d (.int .i64 0)]
abbrev ebox (pl : Pl) (v1 : Nat) (v2 : Bs) (v3 : Int) (v4 : List Ex) (v5 : Nat) : Box := .cells 50 [.d (.int .u8 v1), .d (.str v2), .d (.int .i64 v3), .d (.sl (encEs pl v4)), .d (.int .i64 (pl v5))]
abbrev pl0 : Pl := fun _ => 0
abbrev sgR : PV := .d (.sl (sgnL.map encBs))
abbrev lnR : PV := .d (.sl (linL.map fun n => [.int .i64 n]))
abbrev opR : PV := .d (.sl (opsL.map fun n => [.int .u8 (Int.ofNat n)]))
abbrev i64 (n : Int) : PV := .d (.int .i64 n)
theorem lines_ok (ht : TblOK (GG w0 nG) tblLines) : PCalls (GG w0 nG) 5 spLaw2i := by
  refine pcallsC tab_ok mixed (tbl := tblLines) ht Tryz.func5 rfl (by kernel_rfl) (by kernel_rfl) ?_
  intro args σ K h
  unfold spLaw2i at h
  split at h
  · rename_i i k
    refine ⟨loopsOf [], unrOf [], tieOf [], tieOf [], tieOf [], cutOf [(5, [0, 1, 5, 6, 7, 8, 9, 10, 11], fun vs σ => ∃ (p q : Nat) , (p < 10 ∧ q < 10) ∧ vs = [i64 p, i64 q, sgR, lnR, opR, .ptr 0 0, .ptr 1 0, .ptr 2 0, .ptr 3 0] ∧ σ = ⟨[vbox 97 0, vbox 98 1, vbox 99 2, ebox pl0 (op q) [] 0 [twoE (op p) (vE 97) (vE 98), vE 99] 0], [2, 1, 0], 3⟩),
          (7, [0, 1, 5, 7, 8, 9, 10, 11], fun vs σ => ∃ (p q : Nat) (x0a : Nat) (x0b : Bs) (x0c : Int) (x0d : List Ex) (x0e : Nat), (p < 10 ∧ q < 10) ∧ vs = [i64 p, i64 q, sgR, opR, .ptr 0 0, .ptr 1 0, .ptr 2 0, .ptr 3 0] ∧ σ = ⟨[vbox 97 0, vbox 98 1, vbox 99 2, ebox pl0 x0a x0b x0c x0d x0e], [2, 1, 0], 3⟩ ∧ wantE p q = .mk x0a x0b x0c x0d x0e),
          (8, [0, 1, 5, 7, 8, 9, 10, 11, 12, 14], fun vs σ => ∃ (p q : Nat) (x0a : Nat) (x0b : Bs) (x0c : Int) (x0d : List Ex) (x0e : Nat) (q1 : Pl) (x1a : Nat) (x1b : Bs) (x1c : Int) (x1d : List Ex) (x1e : Nat), (p < 10 ∧ q < 10) ∧ vs = [i64 p, i64 q, sgR, opR, .ptr 0 0, .ptr 1 0, .ptr 2 0, .ptr 3 0, .ptr 4 0, i64 0] ∧ σ = ⟨[vbox 97 0, vbox 98 1, vbox 99 2, ebox pl0 x0a x0b x0c x0d x0e, ebox q1 x1a x1b x1c x1d x1e], [2, 1, 0], 3⟩ ∧ wantE p q = .mk x0a x0b x0c x0d x0e ∧ (sameE (.mk x1a x1b x1c x1d x1e) (wantE p q) = true ∧ szE (.mk x1a x1b x1c x1d x1e) ≤ 1000)),
          (9, [0, 1, 5, 7, 8, 9, 10, 11, 12, 14, 15, 17], fun vs σ => ∃ (p q : Nat) (x0a : Nat) (x0b : Bs) (x0c : Int) (x0d : List Ex) (x0e : Nat) (q1 : Pl) (x1a : Nat) (x1b : Bs) (x1c : Int) (x1d : List Ex) (x1e : Nat) (q2 : Pl) (x2a : Nat) (x2b : Bs) (x2c : Int) (x2d : List Ex) (x2e : Nat), (p < 10 ∧ q < 10) ∧ vs = [i64 p, i64 q, sgR, opR, .ptr 0 0, .ptr 1 0, .ptr 2 0, .ptr 3 0, .ptr 4 0, i64 0, .ptr 5 0, i64 0] ∧ σ = ⟨[vbox 97 0, vbox 98 1, vbox 99 2, ebox pl0 x0a x0b x0c x0d x0e, ebox q1 x1a x1b x1c x1d x1e, ebox q2 x2a x2b x2c x2d x2e], [2, 1, 0], 3⟩ ∧ wantE p q = .mk x0a x0b x0c x0d x0e ∧ (sameE (.mk x1a x1b x1c x1d x1e) (wantE p q) = true ∧ szE (.mk x1a x1b x1c x1d x1e) ≤ 1000) ∧ (sameE (.mk x2a x2b x2c x2d x2e) (negE p) = true ∧ szE (.mk x2a x2b x2c x2d x2e) ≤ 1000)),
          (10, [0, 1, 5, 7, 8, 9, 10, 11, 12, 14, 15, 17, 18, 20], fun vs σ => ∃ (p q : Nat) (x0a : Nat) (x0b : Bs) (x0c : Int) (x0d : List Ex) (x0e : Nat) (q1 : Pl) (x1a : Nat) (x1b : Bs) (x1c : Int) (x1d : List Ex) (x1e : Nat) (q2 : Pl) (x2a : Nat) (x2b : Bs) (x2c : Int) (x2d : List Ex) (x2e : Nat) (q3 : Pl) (x3a : Nat) (x3b : Bs) (x3c : Int) (x3d : List Ex) (x3e : Nat), (p < 10 ∧ q < 10) ∧ vs = [i64 p, i64 q, sgR, opR, .ptr 0 0, .ptr 1 0, .ptr 2 0, .ptr 3 0, .ptr 4 0, i64 0, .ptr 5 0, i64 0, .ptr 6 0, i64 0] ∧ σ = ⟨[vbox 97 0, vbox 98 1, vbox 99 2, ebox pl0 x0a x0b x0c x0d x0e, ebox q1 x1a x1b x1c x1d x1e, ebox q2 x2a x2b x2c x2d x2e, ebox q3 x3a x3b x3c x3d x3e], [2, 1, 0], 3⟩ ∧ wantE p q = .mk x0a x0b x0c x0d x0e ∧ (sameE (.mk x1a x1b x1c x1d x1e) (wantE p q) = true ∧ szE (.mk x1a x1b x1c x1d x1e) ≤ 1000) ∧ (sameE (.mk x2a x2b x2c x2d x2e) (negE p) = true ∧ szE (.mk x2a x2b x2c x2d x2e) ≤ 1000) ∧ (sameE (.mk x3a x3b x3c x3d x3e) (want2 p q) = true ∧ szE (.mk x3a x3b x3c x3d x3e) ≤ 1000)),
          (11, [0, 1, 5, 7, 8, 9, 10, 11, 12, 14, 15, 17, 18, 20, 21], fun vs σ => ∃ (p q : Nat) (x0a : Nat) (x0b : Bs) (x0c : Int) (x0d : List Ex) (x0e : Nat) (q1 : Pl) (x1a : Nat) (x1b : Bs) (x1c : Int) (x1d : List Ex) (x1e : Nat) (q2 : Pl) (x2a : Nat) (x2b : Bs) (x2c : Int) (x2d : List Ex) (x2e : Nat) (q3 : Pl) (x3a : Nat) (x3b : Bs) (x3c : Int) (x3d : List Ex) (x3e : Nat), (p < 10 ∧ q < 10) ∧ vs = [i64 p, i64 q, sgR, opR, .ptr 0 0, .ptr 1 0, .ptr 2 0, .ptr 3 0, .ptr 4 0, i64 0, .ptr 5 0, i64 0, .ptr 6 0, i64 0, .ptr 7 0] ∧ σ = ⟨[vbox 97 0, vbox 98 1, vbox 99 2, ebox pl0 x0a x0b x0c x0d x0e, ebox q1 x1a x1b x1c x1d x1e, ebox q2 x2a x2b x2c x2d x2e, ebox q3 x3a x3b x3c x3d x3e, ebox pl0 (op p) [] 0 [.mk 8 [] 0 [vE 97] 0, .mk 9 [] 0 [vE 98] 0] 0], [2, 1, 0], 3⟩ ∧ wantE p q = .mk x0a x0b x0c x0d x0e ∧ (sameE (.mk x1a x1b x1c x1d x1e) (wantE p q) = true ∧ szE (.mk x1a x1b x1c x1d x1e) ≤ 1000) ∧ (sameE (.mk x2a x2b x2c x2d x2e) (negE p) = true ∧ szE (.mk x2a x2b x2c x2d x2e) ≤ 1000) ∧ (sameE (.mk x3a x3b x3c x3d x3e) (want2 p q) = true ∧ szE (.mk x3a x3b x3c x3d x3e) ≤ 1000))], 0, false, by simp, Nat.le_of_ble_eq_true rfl, ?_⟩
    conv => whnf
    refine ⟨⟨by decide, by decide⟩, fun p hp => ?_⟩
    have hp : p < 10 := by have hp : (p : Int) < 10 := hp; omega
    conv => whnf
    refine ⟨⟨by decide, by decide⟩, fun q hq => ?_⟩
    have hq : q < 10 := by have hq : (q : Int) < 10 := hq; omega
    conv => whnf
    refine ⟨?_, ?_⟩
    · conv => whnf
      refine ⟨_, by omega, get_op hq, ?_⟩
      conv => whnf
      refine ⟨_, by omega, get_op hp, ?_⟩
      conv => whnf
      refine ⟨?_, ?_, True.intro⟩
      · conv => whnf
        (repeat (refine ⟨rfl, ?_⟩; conv => whnf))
        refine ⟨?_, ?_, True.intro⟩
        · conv => whnf
          (repeat (refine ⟨rfl, ?_⟩; conv => whnf))
          refine ⟨?_, True.intro⟩
          conv => whnf
          (repeat (refine ⟨rfl, ?_⟩; conv => whnf))
          (try (refine ⟨?_, True.intro⟩)); (conv => whnf); (repeat (refine ⟨rfl, ?_⟩; conv => whnf))
          exact ⟨p, q, ⟨hp, hq⟩, rfl, rfl⟩
        conv => whnf
        (repeat (refine ⟨rfl, ?_⟩; conv => whnf))
        refine ⟨?_, True.intro⟩
        conv => whnf
        (repeat (refine ⟨rfl, ?_⟩; conv => whnf))
        (try (refine ⟨?_, True.intro⟩)); (conv => whnf); (repeat (refine ⟨rfl, ?_⟩; conv => whnf))
        exact ⟨p, q, ⟨hp, hq⟩, rfl, rfl⟩
      conv => whnf
      (repeat (refine ⟨rfl, ?_⟩; conv => whnf))
      refine ⟨?_, True.intro⟩
      conv => whnf
      (repeat (refine ⟨rfl, ?_⟩; conv => whnf))
      refine ⟨?_, True.intro⟩
      conv => whnf
      (repeat (refine ⟨rfl, ?_⟩; conv => whnf))
      (try (refine ⟨?_, True.intro⟩)); (conv => whnf); (repeat (refine ⟨rfl, ?_⟩; conv => whnf))
      exact ⟨p, q, ⟨hp, hq⟩, rfl, rfl⟩
    intro vs σ hI
    obtain ⟨p, q, ⟨hp, hq⟩, rfl, rfl⟩ := hI
    conv => whnf
    refine ⟨?_, ?_⟩
    · conv => whnf
      refine ⟨_, by omega, get_ln hp, ?_⟩
      conv => whnf
      refine ⟨_, by omega, get_ln hq, ?_⟩
      conv => whnf
      refine CondP.dec (fun hlt => ?_) (fun hlt => ?_)
      · conv => whnf
        refine ⟨_, by omega, get_op hp, ?_⟩
        conv => whnf
        refine ⟨_, by omega, get_op hq, ?_⟩
        conv => whnf
        (repeat (refine ⟨rfl, ?_⟩; conv => whnf))
        exact ⟨p, q, op p, [], 0, [vE 97, twoE (op q) (vE 98) (vE 99)], 0, ⟨hp, hq⟩, rfl, rfl, by rw [wantE, if_pos hlt]; rfl⟩
      conv => whnf
      exact ⟨p, q, op q, [], 0, [twoE (op p) (vE 97) (vE 98), vE 99], 0, ⟨hp, hq⟩, rfl, rfl, by rw [wantE, if_neg hlt]; rfl⟩
    intro vs σ hI
    obtain ⟨p, q, x0a, x0b, x0c, x0d, x0e, ⟨hp, hq⟩, rfl, rfl, hw⟩ := hI
    obtain ⟨c1, c2, c3⟩ := lines_all hp hq
    have l1 := sg_len hp
    have l2 := sg_len hq
    conv => whnf
    refine ⟨?_, ?_⟩
    · conv => whnf
      refine ⟨_, by omega, get_sg hp, ?_⟩
      conv => whnf
      refine ⟨(by simp; omega), ?_⟩
      conv => whnf
      refine ⟨(by simp; omega), ?_⟩
      conv => whnf
      refine ⟨_, by omega, get_sg hq, ?_⟩
      conv => whnf
      refine ⟨(by simp; omega), ?_⟩
      conv => whnf
      refine ⟨(by simp; omega), ?_⟩
      conv => whnf
      refine ⟨?_, ?_, True.intro⟩
      · conv => whnf
        refine ⟨(by simp; omega), fun x hx => ?_⟩
        obtain ⟨⟨v1a, v1b, v1c, v1d, v1e⟩, L1, rfl, s1a, s1b⟩ := reads_ok c1 hx
        conv => whnf
        (repeat (refine ⟨rfl, ?_⟩; conv => whnf))
        refine ⟨?_, True.intro⟩
        conv => whnf
        (repeat (refine ⟨rfl, ?_⟩; conv => whnf))
        refine ⟨?_, True.intro⟩
        conv => whnf
        (repeat (refine ⟨rfl, ?_⟩; conv => whnf))
        exact ⟨p, q, x0a, x0b, x0c, x0d, x0e, (placeOf L1 _), v1a, v1b, v1c, v1d, v1e, ⟨hp, hq⟩, rfl, rfl, hw, s1a, s1b⟩
      conv => whnf
      (repeat (refine ⟨rfl, ?_⟩; conv => whnf))
      refine ⟨?_, True.intro⟩
      conv => whnf
      refine ⟨(by simp; omega), fun x hx => ?_⟩
      obtain ⟨⟨v1a, v1b, v1c, v1d, v1e⟩, L1, rfl, s1a, s1b⟩ := reads_ok c1 hx
      conv => whnf
      (repeat (refine ⟨rfl, ?_⟩; conv => whnf))
      refine ⟨?_, True.intro⟩
      conv => whnf
      (repeat (refine ⟨rfl, ?_⟩; conv => whnf))
      exact ⟨p, q, x0a, x0b, x0c, x0d, x0e, (placeOf L1 _), v1a, v1b, v1c, v1d, v1e, ⟨hp, hq⟩, rfl, rfl, hw, s1a, s1b⟩
    intro vs σ hI
    obtain ⟨p, q, x0a, x0b, x0c, x0d, x0e, q1, x1a, x1b, x1c, x1d, x1e, ⟨hp, hq⟩, rfl, rfl, hw, s1⟩ := hI
    obtain ⟨c1, c2, c3⟩ := lines_all hp hq
    have l1 := sg_len hp
    have l2 := sg_len hq
    conv => whnf
    refine ⟨?_, ?_⟩
    · conv => whnf
      refine ⟨_, by omega, get_sg hp, ?_⟩
      conv => whnf
      refine ⟨(by simp; omega), ?_⟩
      conv => whnf
      refine ⟨(by simp; omega), ?_⟩
      conv => whnf
      refine ⟨(by simp; omega), fun x hx => ?_⟩
      obtain ⟨⟨v2a, v2b, v2c, v2d, v2e⟩, L2, rfl, s2a, s2b⟩ := reads_ok c2 hx
      conv => whnf
      (repeat (refine ⟨rfl, ?_⟩; conv => whnf))
      exact ⟨p, q, x0a, x0b, x0c, x0d, x0e, q1, x1a, x1b, x1c, x1d, x1e, (placeOf L2 _), v2a, v2b, v2c, v2d, v2e, ⟨hp, hq⟩, rfl, rfl, hw, s1, s2a, s2b⟩
    intro vs σ hI
    obtain ⟨p, q, x0a, x0b, x0c, x0d, x0e, q1, x1a, x1b, x1c, x1d, x1e, q2, x2a, x2b, x2c, x2d, x2e, ⟨hp, hq⟩, rfl, rfl, hw, s1, s2⟩ := hI
    obtain ⟨c1, c2, c3⟩ := lines_all hp hq
    have l1 := sg_len hp
    have l2 := sg_len hq
    conv => whnf
    refine ⟨?_, ?_⟩
    · conv => whnf
      refine ⟨_, by omega, get_sg hp, ?_⟩
      conv => whnf
      refine ⟨(by simp; omega), ?_⟩
      conv => whnf
      refine ⟨(by simp; omega), ?_⟩
      conv => whnf
      refine ⟨_, by omega, get_sg hq, ?_⟩
      conv => whnf
      refine ⟨(by simp; omega), ?_⟩
      conv => whnf
      refine ⟨(by simp; omega), ?_⟩
      conv => whnf
      refine ⟨?_, ?_, True.intro⟩
      · conv => whnf
        refine ⟨(by simp; omega), fun x hx => ?_⟩
        obtain ⟨⟨v3a, v3b, v3c, v3d, v3e⟩, L3, rfl, s3a, s3b⟩ := reads_ok c3 hx
        conv => whnf
        (repeat (refine ⟨rfl, ?_⟩; conv => whnf))
        refine ⟨?_, True.intro⟩
        conv => whnf
        (repeat (refine ⟨rfl, ?_⟩; conv => whnf))
        refine ⟨?_, True.intro⟩
        conv => whnf
        (repeat (refine ⟨rfl, ?_⟩; conv => whnf))
        exact ⟨p, q, x0a, x0b, x0c, x0d, x0e, q1, x1a, x1b, x1c, x1d, x1e, q2, x2a, x2b, x2c, x2d, x2e, (placeOf L3 _), v3a, v3b, v3c, v3d, v3e, ⟨hp, hq⟩, rfl, rfl, hw, s1, s2, s3a, s3b⟩
      conv => whnf
      (repeat (refine ⟨rfl, ?_⟩; conv => whnf))
      refine ⟨?_, True.intro⟩
      conv => whnf
      refine ⟨(by simp; omega), fun x hx => ?_⟩
      obtain ⟨⟨v3a, v3b, v3c, v3d, v3e⟩, L3, rfl, s3a, s3b⟩ := reads_ok c3 hx
      conv => whnf
      (repeat (refine ⟨rfl, ?_⟩; conv => whnf))
      refine ⟨?_, True.intro⟩
      conv => whnf
      (repeat (refine ⟨rfl, ?_⟩; conv => whnf))
      exact ⟨p, q, x0a, x0b, x0c, x0d, x0e, q1, x1a, x1b, x1c, x1d, x1e, q2, x2a, x2b, x2c, x2d, x2e, (placeOf L3 _), v3a, v3b, v3c, v3d, v3e, ⟨hp, hq⟩, rfl, rfl, hw, s1, s2, s3a, s3b⟩
    intro vs σ hI
    obtain ⟨p, q, x0a, x0b, x0c, x0d, x0e, q1, x1a, x1b, x1c, x1d, x1e, q2, x2a, x2b, x2c, x2d, x2e, q3, x3a, x3b, x3c, x3d, x3e, ⟨hp, hq⟩, rfl, rfl, hw, s1, s2, s3⟩ := hI
    conv => whnf
    refine ⟨?_, ?_⟩
    · conv => whnf
      refine ⟨_, by omega, get_op hp, ?_⟩
      conv => whnf
      refine ⟨?_, ?_, True.intro⟩
      · conv => whnf
        (repeat (refine ⟨rfl, ?_⟩; conv => whnf))
        refine ⟨?_, True.intro⟩
        conv => whnf
        (repeat (refine ⟨rfl, ?_⟩; conv => whnf))
        refine ⟨?_, True.intro⟩
        conv => whnf
        (repeat (refine ⟨rfl, ?_⟩; conv => whnf))
        exact ⟨p, q, x0a, x0b, x0c, x0d, x0e, q1, x1a, x1b, x1c, x1d, x1e, q2, x2a, x2b, x2c, x2d, x2e, q3, x3a, x3b, x3c, x3d, x3e, ⟨hp, hq⟩, rfl, rfl, hw, s1, s2, s3⟩
      conv => whnf
      (repeat (refine ⟨rfl, ?_⟩; conv => whnf))
      refine ⟨?_, True.intro⟩
      conv => whnf
      (repeat (refine ⟨rfl, ?_⟩; conv => whnf))
      refine ⟨?_, True.intro⟩
      conv => whnf
      (repeat (refine ⟨rfl, ?_⟩; conv => whnf))
      exact ⟨p, q, x0a, x0b, x0c, x0d, x0e, q1, x1a, x1b, x1c, x1d, x1e, q2, x2a, x2b, x2c, x2d, x2e, q3, x3a, x3b, x3c, x3d, x3e, ⟨hp, hq⟩, rfl, rfl, hw, s1, s2, s3⟩
    intro vs σ hI
    obtain ⟨p, q, x0a, x0b, x0c, x0d, x0e, q1, x1a, x1b, x1c, x1d, x1e, q2, x2a, x2b, x2c, x2d, x2e, q3, x3a, x3b, x3c, x3d, x3e, ⟨hp, hq⟩, rfl, rfl, hw, s1, s2, s3⟩ := hI
    conv => whnf
    refine ⟨q1, .mk x1a x1b x1c x1d x1e, pl0, .mk x0a x0b x0c x0d x0e, rfl, rfl, ⟨rfl, s1.2, by decide⟩, fun b hb => ?_⟩
    obtain rfl : b = true := hb.symm.trans (by rw [← hw]; exact s1.1)
    conv => whnf
    (repeat (refine ⟨rfl, ?_⟩; conv => whnf))
    refine ⟨q2, .mk x2a x2b x2c x2d x2e, pl0, negE p, rfl, rfl, ⟨rfl, s2.2, by decide⟩, fun b hb => ?_⟩
    obtain rfl : b = true := hb.symm.trans (s2.1)
    conv => whnf
    (repeat (refine ⟨rfl, ?_⟩; conv => whnf))
    refine ⟨_, by omega, get_op hq, ?_⟩
    conv => whnf
    (repeat (refine ⟨rfl, ?_⟩; conv => whnf))
    refine ⟨_, by omega, get_op hp, ?_⟩
    conv => whnf
    (repeat (refine ⟨rfl, ?_⟩; conv => whnf))
    refine ⟨q3, .mk x3a x3b x3c x3d x3e, pl0, want2 p q, rfl, rfl, ⟨rfl, s3.2, by decide⟩, fun b hb => ?_⟩
    obtain rfl : b = true := hb.symm.trans (s3.1)
    conv => whnf
    (repeat (refine ⟨rfl, ?_⟩; conv => whnf))
    exact h
  · exact h.elim
end Go.PM.Lex
end

section
set_option maxRecDepth 100000
namespace Go
variable {H : Type} {enc : TypeId × Value → H}
/-- The plain wrap with a condition of the row's, the world's shape kept. -/
theorem returnsInHanded_and_shape {a : Assume} {C : Checked} {os : Os} {f : FuncId} {fn : Func} {s : ChangeSpec} {conds : List PathCond} {apart fresh handsOn again : Bool} {X : World → Array Value → Prop}
    (hX : ∀ (w w' : World) (args : Array Value), w.heap = w'.heap → X w args → X w' args)
    (own : ownKnob C.prog.godebug = none) (started : os.Started) (noInit : C.prog.inits.idxOf? f = none) (hfn : C.prog.funcs[f]? = some fn)
    (witness : ∃ (w : World) (tape : Tape) (i : Input), w.os = os ∧ (w.forCall tape i).Shaped C.prog ∧ i.vars = [] ∧ Input.okWide C.prog (w.forCall tape i) .any w.heap.size f i ∧
      ((s.pre enc C.prog fn conds apart (w.forCall tape i).memory i.args ∧ X (w.forCall tape i).memory i.args) ∧ sizedMet enc C.prog fn (OpenSpec.ofChange s) apart (w.forCall tape i).memory i.args) ∧ a.holds C.prog (lone (Frame.enter C.prog f i.args .normal) [] (w.forCall tape i)))
    (contract : ∀ (W : World) (base : Nat) (args : Array Value) (ds gs : List (DataW H)) (before : List MemPlace),
      (∀ (j : Nat) t v, fn.params[j]? = some t → args[j]? = some v → Value.okWide C.prog W .any base t v) →
      DataW.Whole enc C.prog fn.params.toList s.vars apart W args.toList ds gs before → X W args → W.ShapedOpen C.prog →
      Calls C.prog f args W fun e W' => ∃ v, e = .returned v ∧ s.post enc C.prog fn apart fresh handsOn again W args v W') :
    ReturnsInHanded a C os f .any (fun w args => (s.pre enc C.prog fn conds apart w args ∧ X w args) ∧ sizedMet enc C.prog fn (OpenSpec.ofChange s) apart w args) (s.post enc C.prog fn apart fresh handsOn again) := by
  refine returnsInHanded_of_calls own started noInit witness ?_
  intro w tape i _ hsh _ hok hpre hholds
  obtain ⟨_, _, _, fn', hfn', _, _, _, _, hval⟩ := hok
  have e : fn' = fn := Option.some.inj (hfn'.symm.trans hfn)
  subst e
  obtain ⟨⟨⟨ds, gs, before, hw, hc⟩, hx⟩, hz⟩ := hpre
  have hw' := DataW.Whole.of_heap (w' := w.forCall tape i) (by rfl) hw
  refine (contract (w.forCall tape i) w.heap.size i.args ds gs before hval hw' (hX _ _ _ (by rfl) hx) hsh).mono fun e W' ⟨v, he, hp⟩ => ?_
  subst he
  exact ChangeSpec.post_blind hp
end Go
namespace Go.PM.Lex
open Go.Proofs Go.Proofs.YtlcmifmmfnnoiaaGreatDoor Go.ChangeShapes Go.WideShapes Go.ChangeAt Go.RowKit
theorem r_own : ownKnob Tryz.prog.godebug = none := by kernel_rfl
theorem r_star : "*" ++ "errors.errorString" = "*errors.errorString" := by decide
theorem r_row124 (u : TypeId) (h : Tryz.prog.typeName? 3 u = some "*errors.errorString") : u = 218 :=
  typeName_ptr_named (nm := "errors.errorString") (by rw [r_star]; kernel_rfl) (by kernel_rfl) (by decide) u (by rw [r_star]; exact h)
theorem r_iface {W : World} {n : String} {text : List UInt8} {g : Nat} (hg : Tryz.prog.globalNamed n = some g) (ht : (Tryz.prog.globals[g]?).map (·.type) = some 186)
    (h : laidMet Tryz.prog [(n, .iface "*errors.errorString" (.ptr (.agg [.lit (.string text)])))] W) : ∃ ev, W.cell? ⟨g, 0, none⟩ = some ev ∧ (ev = .nilIface ∨ ∃ te pe, ev = .iface te pe) := by
  obtain ⟨a1, s1, hv1, _⟩ := laid_sentinel h hg ht Tryz.underlying186 r_row124 Tryz.underlying218 Tryz.underlying220 rfl rfl Tryz.underlying9 (by kernel_rfl) (by kernel_rfl)
  refine ⟨.iface 218 (.pointer (some a1)), ?_, .inr ⟨_, _, rfl⟩⟩
  simpa using World.var?_cell hg hv1 0
theorem r_glob {W : World} (h : laidMetH Tryz.prog Rows.parseRowsRow.laid W) (hsh : W.ShapedOpen Tryz.prog) : GlobOK W 5 := by
  rw [MakeChecks.laidMetH_plain _ _ _ (by kernel_rfl)] at h
  have h1 := laidMet.filter (fun x => x.1 == "strconv.ErrSyntax") h
  have h2 := laidMet.filter (fun x => x.1 == "strconv.ErrRange") h
  exact ⟨by omega, Tryz.laysM143.s1_3 W hsh, r_iface (by kernel_rfl) (by kernel_rfl) h1, r_iface (by kernel_rfl) (by kernel_rfl) h2⟩
theorem r_kept {e e' : Env} {W W' : World} {σ' : St} {may : MemPlace → Prop} (h : Later e ⟨[], [], 0⟩ W e' σ' W') : W.keptBut W' may := by
  refine ⟨h.os, h.output, fun i hi => ?_⟩
  have := h.blocks i hi (fun j hj => by simp at hj) (fun t ht => by cases ht)
  rw [this]
  cases hh : W.heap[i]? with
  | none => rfl
  | some o => cases o <;> simp
def ePure : Env := ⟨fun _ => 0, fun _ => none, fun _ _ => False⟩
theorem r_start {W : World} (h : 5 ≤ W.heap.size) : SRel (GG W 5) ePure ⟨[], [], 0⟩ W where
  inj := fun i j hi => by simp at hi
  box := fun i x hx => by simp at hx
  low := fun i hi => by simp at hi
  tkn := fun t ht => by cases ht
  own := fun t ht => by cases ht
  dis := fun t t' ht => by cases ht
  xlt := fun b off hx => hx.elim
  xown := fun t ht => by cases ht
  glob := fun b hb => rfl
  big := h
/-- A law of one text: true. -/
noncomputable def spLaw1 : Spec := fun args σ K => match args, σ with
  | [.d (.str s)], ⟨[], [], 0⟩ => K (.ret (.d (.bool true))) ⟨[], [], 0⟩
  | _, _ => False
theorem r_call1 {g : FuncId} (hp : ∀ {W : World}, GlobOK W 5 → PCalls (GG W 5) g spLaw1) {W : World} (hg : GlobOK W 5) (s : ByteArray) :
    Calls Tryz.prog g #[.string s] W fun e W' => e = .returned (.bool true) ∧ ∀ may, W.keptBut W' may := by
  have hsz : 5 ≤ W.heap.size := by
    obtain ⟨ev, h1, _⟩ := hg.errRange
    have := World.block_lt_of_cell? W ⟨4, 0, none⟩ h1
    simp at this; omega
  have hc := (hp hg).calls [.d (.str s.data.toList)] ⟨[], [], 0⟩ (fun pe _ => pe = .ret (.d (.bool true))) rfl 0 ePure W #[.string s] (r_start hsz) ⟨rfl, fun i x u hx hu => by
    match i, hx, hu with
    | 0, hx, hu => cases hx; cases hu; exact .d _ _ (.str _)
    | i + 1, hx, hu => simp at hx⟩
  refine Calls.mono (callsIn_wide.1 hc) fun en W' ⟨pe, σ', e', hK, hE, hS, hL⟩ => ?_
  subst hK
  obtain ⟨v, rfl, hv⟩ := hE
  cases hv with
  | d _ _ hd =>
    cases hd
    exact ⟨rfl, fun may => r_kept hL⟩
end Go.PM.Lex
end
