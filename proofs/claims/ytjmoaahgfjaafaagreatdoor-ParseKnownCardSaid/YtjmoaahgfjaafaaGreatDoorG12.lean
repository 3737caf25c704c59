/- A row's closed facts, one by one. -/
import Derived.Test.YtjmoaahgfjaafaaGreatDoorRows
import Derived.Test.YtjmoaahgfjaafaaGreatDoorTie
import Derived.Test.YtjmoaahgfjaafaaGreatDoorCards
import Derived.ProofKit
import Derived.OpenShut
import Derived.LaidMore
import Derived.Lay
import Derived.LaidSub
import Derived.SevenTiedAt
import Derived.Stop.Joined
import Derived.Stop.LaidErr
import Derived.JoinedOf
import Derived.Test.YtjmoaahgfjaafaaGreatDoorG11
set_option linter.unusedVariables false
set_option linter.unusedSimpArgs false
set_option linter.all false
section
set_option maxRecDepth 100000
set_option maxHeartbeats 4000000
namespace Go.PM.Lex
open Go.Proofs
variable {w0 : World} {nG : Nat}
theorem cut_le {α : Type} (l : List α) (a b : Nat) : (cut l a b).length ≤ l.length := by simp only [cut, List.length_drop, List.length_take]; omega
noncomputable def spLaw0 : Spec := fun args σ K => match args, σ with
  | [], ⟨[], [], 0⟩ => K (.ret (.d (.bool true))) ⟨[], [], 0⟩
  | _, _ => False
theorem spLaw0_mono : SpecMono spLaw0 := fun args σ K K' hK h => by
  unfold spLaw0 at h ⊢
  split at h
  · exact hK _ _ h
  · exact h.elim
noncomputable def tblKnown : Tbl := [(14, spTopU), (18, spTopE), (21, spTopF), (19, spWrong), (20, spTimes 65536), (15, spTrue15)]
theorem known_ok (ht : TblOK (GG w0 nG) tblKnown) : PCalls (GG w0 nG) 5 spLaw0 := by
  refine pcallsC tab_ok mixed (tbl := tblKnown) ht Tryz.func5 rfl (by kernel_rfl) (by kernel_rfl) ?_
  intro args σ K h
  unfold spLaw0 at h
  split at h
  · skip
    refine ⟨loopsOf [], unrOf [], tieOf [], tieOf [], tieOf [], cutOf [(3, [4], fun vs σ => ∃ (r1a r1b r1c r1d r1e r1f : List (List D)), vs = [.d (.bool true)] ∧ σ = ⟨[.cells 29 [.d (.sl r1a), .d (.sl r1b), .d (.sl r1c), .d (.sl r1d), .d (.sl r1e), .d (.sl r1f)]], [], 0⟩),
          (8, [4, 9], fun vs σ => ∃ (r1a r1b r1c r1d r1e r1f : List (List D)) (r2a r2b r2c r2d r2e r2f : List (List D)), vs = [.d (.bool true), .d (.bool true)] ∧ σ = ⟨[.cells 29 [.d (.sl r1a), .d (.sl r1b), .d (.sl r1c), .d (.sl r1d), .d (.sl r1e), .d (.sl r1f)], .cells 29 [.d (.sl r2a), .d (.sl r2b), .d (.sl r2c), .d (.sl r2d), .d (.sl r2e), .d (.sl r2f)]], [], 0⟩),
          (10, [4, 9, 13], fun vs σ => ∃ (r1a r1b r1c r1d r1e r1f : List (List D)) (r2a r2b r2c r2d r2e r2f : List (List D)) (r3a r3b r3c r3d r3e r3f : List (List D)), vs = [.d (.bool true), .d (.bool true), .d (.bool true)] ∧ σ = ⟨[.cells 29 [.d (.sl r1a), .d (.sl r1b), .d (.sl r1c), .d (.sl r1d), .d (.sl r1e), .d (.sl r1f)], .cells 29 [.d (.sl r2a), .d (.sl r2b), .d (.sl r2c), .d (.sl r2d), .d (.sl r2e), .d (.sl r2f)], .cells 29 [.d (.sl r3a), .d (.sl r3b), .d (.sl r3c), .d (.sl r3d), .d (.sl r3e), .d (.sl r3f)]], [], 0⟩),
          (12, [4, 9, 13, 17], fun vs σ => ∃ (r1a r1b r1c r1d r1e r1f : List (List D)) (r2a r2b r2c r2d r2e r2f : List (List D)) (r3a r3b r3c r3d r3e r3f : List (List D)) (y1 : Int) (y2 : Bs) (y3 : Int) (y4 : List (List D)) (y5 : Int), vs = [.d (.bool true), .d (.bool true), .d (.bool true), .d (.bool true)] ∧ σ = ⟨[.cells 29 [.d (.sl r1a), .d (.sl r1b), .d (.sl r1c), .d (.sl r1d), .d (.sl r1e), .d (.sl r1f)], .cells 29 [.d (.sl r2a), .d (.sl r2b), .d (.sl r2c), .d (.sl r2d), .d (.sl r2e), .d (.sl r2f)], .cells 29 [.d (.sl r3a), .d (.sl r3b), .d (.sl r3c), .d (.sl r3d), .d (.sl r3e), .d (.sl r3f)], .cells 49 [.d (.int .u8 y1), .d (.str y2), .d (.int .i64 y3), .d (.sl y4), .d (.int .i64 y5)]], [], 0⟩),
          (13, [4, 9, 13, 17, 18], fun vs σ => ∃ (r1a r1b r1c r1d r1e r1f : List (List D)) (r2a r2b r2c r2d r2e r2f : List (List D)) (r3a r3b r3c r3d r3e r3f : List (List D)) (y1 : Int) (y2 : Bs) (y3 : Int) (y4 : List (List D)) (y5 : Int), vs = [.d (.bool true), .d (.bool true), .d (.bool true), .d (.bool true), .d (.bool true)] ∧ σ = ⟨[.cells 29 [.d (.sl r1a), .d (.sl r1b), .d (.sl r1c), .d (.sl r1d), .d (.sl r1e), .d (.sl r1f)], .cells 29 [.d (.sl r2a), .d (.sl r2b), .d (.sl r2c), .d (.sl r2d), .d (.sl r2e), .d (.sl r2f)], .cells 29 [.d (.sl r3a), .d (.sl r3b), .d (.sl r3c), .d (.sl r3d), .d (.sl r3e), .d (.sl r3f)], .cells 49 [.d (.int .u8 y1), .d (.str y2), .d (.int .i64 y3), .d (.sl y4), .d (.int .i64 y5)]], [], 0⟩),
          (14, [4, 9, 13, 17, 18, 19], fun vs σ => ∃ (r1a r1b r1c r1d r1e r1f : List (List D)) (r2a r2b r2c r2d r2e r2f : List (List D)) (r3a r3b r3c r3d r3e r3f : List (List D)) (y1 : Int) (y2 : Bs) (y3 : Int) (y4 : List (List D)) (y5 : Int), vs = [.d (.bool true), .d (.bool true), .d (.bool true), .d (.bool true), .d (.bool true), .d (.bool true)] ∧ σ = ⟨[.cells 29 [.d (.sl r1a), .d (.sl r1b), .d (.sl r1c), .d (.sl r1d), .d (.sl r1e), .d (.sl r1f)], .cells 29 [.d (.sl r2a), .d (.sl r2b), .d (.sl r2c), .d (.sl r2d), .d (.sl r2e), .d (.sl r2f)], .cells 29 [.d (.sl r3a), .d (.sl r3b), .d (.sl r3c), .d (.sl r3d), .d (.sl r3e), .d (.sl r3f)], .cells 49 [.d (.int .u8 y1), .d (.str y2), .d (.int .i64 y3), .d (.sl y4), .d (.int .i64 y5)]], [], 0⟩),
          (15, [4, 9, 13, 17, 18, 19, 20, 22], fun vs σ => ∃ (r1a r1b r1c r1d r1e r1f : List (List D)) (r2a r2b r2c r2d r2e r2f : List (List D)) (r3a r3b r3c r3d r3e r3f : List (List D)) (y1 : Int) (y2 : Bs) (y3 : Int) (y4 : List (List D)) (y5 : Int) (z1 z2 : List (List D)) (z3 : List D) (z4 z5 z6 : List (List D)), vs = [.d (.bool true), .d (.bool true), .d (.bool true), .d (.bool true), .d (.bool true), .d (.bool true), .ptr 4 0, .d (.int .i64 0)] ∧ σ = ⟨[.cells 29 [.d (.sl r1a), .d (.sl r1b), .d (.sl r1c), .d (.sl r1d), .d (.sl r1e), .d (.sl r1f)], .cells 29 [.d (.sl r2a), .d (.sl r2b), .d (.sl r2c), .d (.sl r2d), .d (.sl r2e), .d (.sl r2f)], .cells 29 [.d (.sl r3a), .d (.sl r3b), .d (.sl r3c), .d (.sl r3d), .d (.sl r3e), .d (.sl r3f)], .cells 49 [.d (.int .u8 y1), .d (.str y2), .d (.int .i64 y3), .d (.sl y4), .d (.int .i64 y5)], .cells 29 [.d (.sl z1), .d (.sl z2), .d (.sl [z3]), .d (.sl z4), .d (.sl z5), .d (.sl z6)]], [], 0⟩),
          (16, [4, 9, 13, 17, 18, 19, 20, 22, 23], fun vs σ => ∃ (r1a r1b r1c r1d r1e r1f : List (List D)) (r2a r2b r2c r2d r2e r2f : List (List D)) (r3a r3b r3c r3d r3e r3f : List (List D)) (y1 : Int) (y2 : Bs) (y3 : Int) (y4 : List (List D)) (y5 : Int) (z1 z2 : List (List D)) (z3 : List D) (z4 z5 z6 : List (List D)), vs = [.d (.bool true), .d (.bool true), .d (.bool true), .d (.bool true), .d (.bool true), .d (.bool true), .ptr 4 0, .d (.int .i64 0), .d (.bool true)] ∧ σ = ⟨[.cells 29 [.d (.sl r1a), .d (.sl r1b), .d (.sl r1c), .d (.sl r1d), .d (.sl r1e), .d (.sl r1f)], .cells 29 [.d (.sl r2a), .d (.sl r2b), .d (.sl r2c), .d (.sl r2d), .d (.sl r2e), .d (.sl r2f)], .cells 29 [.d (.sl r3a), .d (.sl r3b), .d (.sl r3c), .d (.sl r3d), .d (.sl r3e), .d (.sl r3f)], .cells 49 [.d (.int .u8 y1), .d (.str y2), .d (.int .i64 y3), .d (.sl y4), .d (.int .i64 y5)], .cells 29 [.d (.sl z1), .d (.sl z2), .d (.sl [z3]), .d (.sl z4), .d (.sl z5), .d (.sl z6)]], [], 0⟩),
          (17, [4, 9, 13, 17, 18, 19, 20, 22, 23, 24, 25, 26], fun vs σ => ∃ (r1a r1b r1c r1d r1e r1f : List (List D)) (r2a r2b r2c r2d r2e r2f : List (List D)) (r3a r3b r3c r3d r3e r3f : List (List D)) (y1 : Int) (y2 : Bs) (y3 : Int) (y4 : List (List D)) (y5 : Int) (z1 z2 : List (List D)) (z3 : List D) (z4 z5 z6 : List (List D)) (w1 : List D) (w2 w3 : List (List D)) (w4 : Int), vs = [.d (.bool true), .d (.bool true), .d (.bool true), .d (.bool true), .d (.bool true), .d (.bool true), .ptr 4 0, .d (.int .i64 0), .d (.bool true), .d (.sl [w1, [.str [99, 46, 113], .sl w2, .sl w3, .int .i64 w4]]), .d (.int .i64 0), .d (.int .i64 0)] ∧ σ = ⟨[.cells 29 [.d (.sl r1a), .d (.sl r1b), .d (.sl r1c), .d (.sl r1d), .d (.sl r1e), .d (.sl r1f)], .cells 29 [.d (.sl r2a), .d (.sl r2b), .d (.sl r2c), .d (.sl r2d), .d (.sl r2e), .d (.sl r2f)], .cells 29 [.d (.sl r3a), .d (.sl r3b), .d (.sl r3c), .d (.sl r3d), .d (.sl r3e), .d (.sl r3f)], .cells 49 [.d (.int .u8 y1), .d (.str y2), .d (.int .i64 y3), .d (.sl y4), .d (.int .i64 y5)], .cells 29 [.d (.sl z1), .d (.sl z2), .d (.sl [z3]), .d (.sl z4), .d (.sl z5), .d (.sl z6)]], [], 0⟩),
          (18, [4, 9, 13, 17, 18, 19, 20, 22, 23, 24, 25, 26, 28, 29], fun vs σ => ∃ (r1a r1b r1c r1d r1e r1f : List (List D)) (r2a r2b r2c r2d r2e r2f : List (List D)) (r3a r3b r3c r3d r3e r3f : List (List D)) (y1 : Int) (y2 : Bs) (y3 : Int) (y4 : List (List D)) (y5 : Int) (z1 z2 : List (List D)) (z3 : List D) (z4 z5 z6 : List (List D)) (w1 : List D) (w2 w3 : List (List D)) (w4 : Int), vs = [.d (.bool true), .d (.bool true), .d (.bool true), .d (.bool true), .d (.bool true), .d (.bool true), .ptr 4 0, .d (.int .i64 0), .d (.bool true), .d (.sl [w1, [.str [99, 46, 113], .sl w2, .sl w3, .int .i64 w4]]), .d (.int .i64 0), .d (.int .i64 0), .d (.int .i64 5), .d (.int .i64 150)] ∧ σ = ⟨[.cells 29 [.d (.sl r1a), .d (.sl r1b), .d (.sl r1c), .d (.sl r1d), .d (.sl r1e), .d (.sl r1f)], .cells 29 [.d (.sl r2a), .d (.sl r2b), .d (.sl r2c), .d (.sl r2d), .d (.sl r2e), .d (.sl r2f)], .cells 29 [.d (.sl r3a), .d (.sl r3b), .d (.sl r3c), .d (.sl r3d), .d (.sl r3e), .d (.sl r3f)], .cells 49 [.d (.int .u8 y1), .d (.str y2), .d (.int .i64 y3), .d (.sl y4), .d (.int .i64 y5)], .cells 29 [.d (.sl z1), .d (.sl z2), .d (.sl [z3]), .d (.sl z4), .d (.sl z5), .d (.sl z6)]], [], 0⟩)], 0, false, by simp, Nat.le_of_ble_eq_true rfl, ?_⟩
    conv => whnf
    refine ⟨by decide, fun x hx => ?_⟩
    obtain rfl := hx.symm.trans ev_u
    conv => whnf
    refine ⟨?_, ?_⟩
    · conv => whnf
      (repeat (refine ⟨_, by decide, rfl, ?_⟩; conv => whnf))
      exact ⟨_, _, _, _, _, _, rfl, rfl⟩
    intro vs σ hI
    obtain ⟨r1a, r1b, r1c, r1d, r1e, r1f, rfl, rfl⟩ := hI
    conv => whnf
    refine ⟨by decide, fun x hx => ?_⟩
    obtain rfl := hx.symm.trans ev_v
    conv => whnf
    (repeat (refine ⟨_, by decide, rfl, ?_⟩; conv => whnf))
    refine ⟨?_, ?_⟩
    · conv => whnf
      (repeat (refine ⟨_, by decide, rfl, ?_⟩; conv => whnf))
      exact ⟨r1a, r1b, r1c, r1d, r1e, r1f, _, _, _, _, _, _, rfl, rfl⟩
    intro vs σ hI
    obtain ⟨r1a, r1b, r1c, r1d, r1e, r1f, r2a, r2b, r2c, r2d, r2e, r2f, rfl, rfl⟩ := hI
    conv => whnf
    refine ⟨by decide, fun x hx => ?_⟩
    obtain rfl := hx.symm.trans ev_w
    conv => whnf
    refine ⟨?_, ?_⟩
    · conv => whnf
      (repeat (refine ⟨_, by decide, rfl, ?_⟩; conv => whnf))
      exact ⟨r1a, r1b, r1c, r1d, r1e, r1f, r2a, r2b, r2c, r2d, r2e, r2f, _, _, _, _, _, _, rfl, rfl⟩
    intro vs σ hI
    obtain ⟨r1a, r1b, r1c, r1d, r1e, r1f, r2a, r2b, r2c, r2d, r2e, r2f, r3a, r3b, r3c, r3d, r3e, r3f, rfl, rfl⟩ := hI
    conv => whnf
    refine ⟨by decide, fun x hx => ?_⟩
    obtain rfl := hx.symm.trans ev_x
    conv => whnf
    refine ⟨?_, ?_⟩
    · conv => whnf
      (repeat (refine ⟨_, by decide, rfl, ?_⟩; conv => whnf))
      exact ⟨r1a, r1b, r1c, r1d, r1e, r1f, r2a, r2b, r2c, r2d, r2e, r2f, r3a, r3b, r3c, r3d, r3e, r3f, _, _, _, _, _, rfl, rfl⟩
    intro vs σ hI
    obtain ⟨r1a, r1b, r1c, r1d, r1e, r1f, r2a, r2b, r2c, r2d, r2e, r2f, r3a, r3b, r3c, r3d, r3e, r3f, y1, y2, y3, y4, y5, rfl, rfl⟩ := hI
    conv => whnf
    refine ⟨?_, ?_⟩
    · conv => whnf
      refine ⟨_, by decide, rfl, ev_b0, ?_⟩
      conv => whnf
      refine ⟨_, by decide, rfl, ev_b1, ?_⟩
      conv => whnf
      refine ⟨_, by decide, rfl, ev_b2, ?_⟩
      conv => whnf
      refine ⟨_, by decide, rfl, ev_b3, ?_⟩
      conv => whnf
      refine ⟨_, by decide, rfl, ev_b4, ?_⟩
      conv => whnf
      refine ⟨_, by decide, rfl, ev_b5, ?_⟩
      conv => whnf
      refine ⟨_, by decide, rfl, ev_b6, ?_⟩
      conv => whnf
      refine ⟨_, by decide, rfl, ev_b7, ?_⟩
      conv => whnf
      refine ⟨_, by decide, rfl, ev_b8, ?_⟩
      conv => whnf
      refine ⟨_, by decide, rfl, ev_b9, ?_⟩
      conv => whnf
      refine ⟨_, by decide, rfl, ev_b10, ?_⟩
      conv => whnf
      refine ⟨_, by decide, rfl, ev_b11, ?_⟩
      conv => whnf
      refine ⟨_, by decide, rfl, ev_b12, ?_⟩
      conv => whnf
      refine ⟨_, by decide, rfl, ev_b13, ?_⟩
      conv => whnf
      refine ⟨_, by decide, rfl, ev_b14, ?_⟩
      conv => whnf
      exact ⟨r1a, r1b, r1c, r1d, r1e, r1f, r2a, r2b, r2c, r2d, r2e, r2f, r3a, r3b, r3c, r3d, r3e, r3f, y1, y2, y3, y4, y5, rfl, rfl⟩
    intro vs σ hI
    obtain ⟨r1a, r1b, r1c, r1d, r1e, r1f, r2a, r2b, r2c, r2d, r2e, r2f, r3a, r3b, r3c, r3d, r3e, r3f, y1, y2, y3, y4, y5, rfl, rfl⟩ := hI
    conv => whnf
    refine ⟨?_, ?_⟩
    · conv => whnf
      refine ⟨64, rfl, by decide, by decide, by decide, ?_⟩
      conv => whnf
      refine ⟨(by simp only [List.length_append, rep_len]; decide), ?_⟩
      conv => whnf
      refine ⟨(by simp only [List.length_append, rep_len]; decide), ?_⟩
      conv => whnf
      refine ⟨_, (by simp only [List.length_append, rep_len]; decide), rfl, ev_r0, ?_⟩
      conv => whnf
      refine ⟨64, rfl, by decide, by decide, by decide, ?_⟩
      conv => whnf
      refine ⟨(by simp only [List.length_append, rep_len]; decide), ?_⟩
      conv => whnf
      refine ⟨(by simp only [List.length_append, rep_len]; decide), ?_⟩
      conv => whnf
      refine ⟨_, (by simp only [List.length_append, rep_len]; decide), rfl, ev_r1, ?_⟩
      conv => whnf
      refine ⟨65, rfl, by decide, by decide, by decide, ?_⟩
      conv => whnf
      refine ⟨_, (by rw [rep_len]; decide), rfl, ev_r2, ?_⟩
      conv => whnf
      exact ⟨r1a, r1b, r1c, r1d, r1e, r1f, r2a, r2b, r2c, r2d, r2e, r2f, r3a, r3b, r3c, r3d, r3e, r3f, y1, y2, y3, y4, y5, rfl, rfl⟩
    intro vs σ hI
    obtain ⟨r1a, r1b, r1c, r1d, r1e, r1f, r2a, r2b, r2c, r2d, r2e, r2f, r3a, r3b, r3c, r3d, r3e, r3f, y1, y2, y3, y4, y5, rfl, rfl⟩ := hI
    conv => whnf
    refine ⟨?_, ?_⟩
    · conv => whnf
      refine ⟨63, rfl, by decide, by decide, by decide, ?_⟩
      conv => whnf
      refine ⟨(by simp only [List.length_append, rep_len]; decide), ?_⟩
      conv => whnf
      refine ⟨(by simp only [List.length_append, rep_len]; decide), ?_⟩
      conv => whnf
      refine ⟨63, rfl, by decide, by decide, by decide, ?_⟩
      conv => whnf
      refine ⟨(by simp only [List.length_append, rep_len]; decide), ?_⟩
      conv => whnf
      refine ⟨(by simp only [List.length_append, rep_len]; decide), ?_⟩
      conv => whnf
      refine ⟨(by simp only [List.length_append, rep_len]; decide), fun x hx => ?_⟩
      have hn := ev_nest
      rw [show readTop 65536 16384 unitTop ([112, 40] ++ rep 63 [40] ++ [49] ++ rep 63 [41] ++ [41, 46]) = x from hx] at hn
      unfold oneRule at hn
      split at hn
      rotate_left
      · cases hn
      conv => whnf
      exact ⟨r1a, r1b, r1c, r1d, r1e, r1f, r2a, r2b, r2c, r2d, r2e, r2f, r3a, r3b, r3c, r3d, r3e, r3f, y1, y2, y3, y4, y5, _, _, _, _, _, _, rfl, rfl⟩
    intro vs σ hI
    obtain ⟨r1a, r1b, r1c, r1d, r1e, r1f, r2a, r2b, r2c, r2d, r2e, r2f, r3a, r3b, r3c, r3d, r3e, r3f, y1, y2, y3, y4, y5, z1, z2, z3, z4, z5, z6, rfl, rfl⟩ := hI
    conv => whnf
    refine ⟨?_, ?_⟩
    · conv => whnf
      refine ⟨12, rfl, by decide, by decide, by decide, ?_⟩
      conv => whnf
      refine ⟨(by simp only [List.length_append, rep_len]; decide), ?_⟩
      conv => whnf
      refine ⟨(by simp only [List.length_append, rep_len]; decide), ?_⟩
      conv => whnf
      refine ⟨_, (by simp only [List.length_append, rep_len]; decide), rfl, ev_r3, ?_⟩
      conv => whnf
      refine ⟨32, rfl, by decide, by decide, by decide, ?_⟩
      conv => whnf
      refine ⟨(by simp only [List.length_append, rep_len]; decide), ?_⟩
      conv => whnf
      refine ⟨(by simp only [List.length_append, rep_len]; decide), ?_⟩
      conv => whnf
      refine ⟨_, (by simp only [List.length_append, rep_len]; decide), rfl, ev_r4, ?_⟩
      conv => whnf
      refine ⟨1024, rfl, by decide, by decide, by decide, ?_⟩
      conv => whnf
      refine ⟨(by simp only [List.length_append, rep_len]; decide), ?_⟩
      conv => whnf
      refine ⟨_, (by simp only [List.length_append, rep_len]; decide), rfl, ev_s0, ?_⟩
      conv => whnf
      refine ⟨256, rfl, by decide, by decide, by decide, ?_⟩
      conv => whnf
      refine ⟨(by simp only [List.length_append, rep_len]; decide), ?_⟩
      conv => whnf
      refine ⟨_, (by simp only [List.length_append, rep_len]; decide), rfl, ev_s1, ?_⟩
      conv => whnf
      refine ⟨12, rfl, by decide, by decide, by decide, ?_⟩
      conv => whnf
      refine ⟨(by simp only [List.length_append, rep_len]; decide), ?_⟩
      conv => whnf
      refine ⟨(by simp only [List.length_append, rep_len]; decide), ?_⟩
      conv => whnf
      refine ⟨_, (by simp only [List.length_append, rep_len]; decide), rfl, ev_r5, ?_⟩
      conv => whnf
      exact ⟨r1a, r1b, r1c, r1d, r1e, r1f, r2a, r2b, r2c, r2d, r2e, r2f, r3a, r3b, r3c, r3d, r3e, r3f, y1, y2, y3, y4, y5, z1, z2, z3, z4, z5, z6, rfl, rfl⟩
    intro vs σ hI
    obtain ⟨r1a, r1b, r1c, r1d, r1e, r1f, r2a, r2b, r2c, r2d, r2e, r2f, r3a, r3b, r3c, r3d, r3e, r3f, y1, y2, y3, y4, y5, z1, z2, z3, z4, z5, z6, rfl, rfl⟩ := hI
    conv => whnf
    refine ⟨?_, ?_⟩
    · conv => whnf
      refine ⟨by decide, fun x hx => ?_⟩
      obtain rfl := hx.symm.trans ev_l
      conv => whnf
      exact ⟨r1a, r1b, r1c, r1d, r1e, r1f, r2a, r2b, r2c, r2d, r2e, r2f, r3a, r3b, r3c, r3d, r3e, r3f, y1, y2, y3, y4, y5, z1, z2, z3, z4, z5, z6, _, _, _, _, rfl, rfl⟩
    intro vs σ hI
    obtain ⟨r1a, r1b, r1c, r1d, r1e, r1f, r2a, r2b, r2c, r2d, r2e, r2f, r3a, r3b, r3c, r3d, r3e, r3f, y1, y2, y3, y4, y5, z1, z2, z3, z4, z5, z6, w1, w2, w3, w4, rfl, rfl⟩ := hI
    conv => whnf
    refine ⟨?_, ?_⟩
    · conv => whnf
      refine ⟨by decide, fun x hx => ?_⟩
      obtain rfl := hx.symm.trans ev_k
      conv => whnf
      exact ⟨r1a, r1b, r1c, r1d, r1e, r1f, r2a, r2b, r2c, r2d, r2e, r2f, r3a, r3b, r3c, r3d, r3e, r3f, y1, y2, y3, y4, y5, z1, z2, z3, z4, z5, z6, w1, w2, w3, w4, rfl, rfl⟩
    intro vs σ hI
    obtain ⟨r1a, r1b, r1c, r1d, r1e, r1f, r2a, r2b, r2c, r2d, r2e, r2f, r3a, r3b, r3c, r3d, r3e, r3f, y1, y2, y3, y4, y5, z1, z2, z3, z4, z5, z6, w1, w2, w3, w4, rfl, rfl⟩ := hI
    conv => whnf
    refine ⟨65536, rfl, by decide, by decide, by decide, ?_⟩
    conv => whnf
    (repeat (refine ⟨_, by decide, rfl, ?_⟩; conv => whnf))
    refine ⟨(by simp only [List.length_append, rep_len]; decide), ?_⟩
    conv => whnf
    refine ⟨_, (by simp only [List.length_append, rep_len]; decide), rfl, ev_long1, ?_⟩
    conv => whnf
    refine ⟨by decide, by rw [rep_len]; decide, ?_⟩
    conv => whnf
    refine ⟨Nat.lt_of_le_of_lt (Nat.add_le_add_right (cut_le _ _ _) _) (by rw [rep_len]; decide), ?_⟩
    conv => whnf
    refine ⟨_, by rw [List.length_append]; exact Nat.lt_of_le_of_lt (Nat.add_le_add_right (cut_le _ _ _) _) (by rw [rep_len]; decide), rfl, ev_long2, ?_⟩
    conv => whnf
    exact h
  · exact h.elim
end Go.PM.Lex
end

section
set_option maxRecDepth 100000
namespace Go
variable {H : Type} {enc : TypeId × Value → H}
/-- The plain wrap with a condition of the row's, the world's shape kept. -/
theorem returnsInHanded_and_shape {a : Assume} {C : Checked} {os : Os} {f : FuncId} {fn : Func} {s : ChangeSpec} {conds : List PathCond} {apart fresh handsOn again : Bool} {X : World → Array Value → Prop}
    (hX : ∀ (w w' : World) (args : Array Value), w.heap = w'.heap → X w args → X w' args)
    (own : ownKnob C.prog.godebug = none) (started : os.Started) (noInit : C.prog.inits.idxOf? f = none) (hfn : C.prog.funcs[f]? = some fn)
    (witness : ∃ (w : World) (tape : Tape) (i : Input), w.os = os ∧ (w.forCall tape i).Shaped C.prog ∧ i.vars = [] ∧ Input.okWide C.prog (w.forCall tape i) .any w.heap.size f i ∧
      ((s.pre enc C.prog fn conds apart (w.forCall tape i).memory i.args ∧ X (w.forCall tape i).memory i.args) ∧ sizedMet enc C.prog fn (OpenSpec.ofChange s) apart (w.forCall tape i).memory i.args) ∧ a.holds C.prog (lone (Frame.enter C.prog f i.args .normal) [] (w.forCall tape i)))
    (contract : ∀ (W : World) (base : Nat) (args : Array Value) (ds gs : List (DataW H)) (before : List MemPlace),
      (∀ (j : Nat) t v, fn.params[j]? = some t → args[j]? = some v → Value.okWide C.prog W .any base t v) →
      DataW.Whole enc C.prog fn.params.toList s.vars apart W args.toList ds gs before → X W args → W.ShapedOpen C.prog →
      Calls C.prog f args W fun e W' => ∃ v, e = .returned v ∧ s.post enc C.prog fn apart fresh handsOn again W args v W') :
    ReturnsInHanded a C os f .any (fun w args => (s.pre enc C.prog fn conds apart w args ∧ X w args) ∧ sizedMet enc C.prog fn (OpenSpec.ofChange s) apart w args) (s.post enc C.prog fn apart fresh handsOn again) := by
  refine returnsInHanded_of_calls own started noInit witness ?_
  intro w tape i _ hsh _ hok hpre hholds
  obtain ⟨_, _, _, fn', hfn', _, _, _, _, hval⟩ := hok
  have e : fn' = fn := Option.some.inj (hfn'.symm.trans hfn)
  subst e
  obtain ⟨⟨⟨ds, gs, before, hw, hc⟩, hx⟩, hz⟩ := hpre
  have hw' := DataW.Whole.of_heap (w' := w.forCall tape i) (by rfl) hw
  refine (contract (w.forCall tape i) w.heap.size i.args ds gs before hval hw' (hX _ _ _ (by rfl) hx) hsh).mono fun e W' ⟨v, he, hp⟩ => ?_
  subst he
  exact ChangeSpec.post_blind hp
end Go
namespace Go.PM.Lex
open Go.Proofs Go.Proofs.YtjmoaahgfjaafaaGreatDoor Go.ChangeShapes Go.WideShapes Go.ChangeAt Go.RowKit
theorem r_own : ownKnob Tryz.prog.godebug = none := by kernel_rfl
theorem r_star : "*" ++ "errors.errorString" = "*errors.errorString" := by decide
theorem r_row124 (u : TypeId) (h : Tryz.prog.typeName? 3 u = some "*errors.errorString") : u = 355 :=
  typeName_ptr_named (nm := "errors.errorString") (by rw [r_star]; kernel_rfl) (by kernel_rfl) (by decide) u (by rw [r_star]; exact h)
theorem r_iface {W : World} {n : String} {text : List UInt8} {g : Nat} (hg : Tryz.prog.globalNamed n = some g) (ht : (Tryz.prog.globals[g]?).map (·.type) = some 243)
    (h : laidMet Tryz.prog [(n, .iface "*errors.errorString" (.ptr (.agg [.lit (.string text)])))] W) : ∃ ev, W.cell? ⟨g, 0, none⟩ = some ev ∧ (ev = .nilIface ∨ ∃ te pe, ev = .iface te pe) := by
  obtain ⟨a1, s1, hv1, _⟩ := laid_sentinel h hg ht Tryz.underlying243 r_row124 Tryz.underlying355 Tryz.underlying357 rfl rfl Tryz.underlying9 (by kernel_rfl) (by kernel_rfl)
  refine ⟨.iface 355 (.pointer (some a1)), ?_, .inr ⟨_, _, rfl⟩⟩
  simpa using World.var?_cell hg hv1 0
theorem r_glob {W : World} (h : laidMetH Tryz.prog Rows.parseRowsRow.laid W) (hsh : W.ShapedOpen Tryz.prog) : GlobOK W 8 := by
  rw [MakeChecks.laidMetH_plain _ _ _ (by kernel_rfl)] at h
  have h1 := laidMet.filter (fun x => x.1 == "strconv.ErrSyntax") h
  have h2 := laidMet.filter (fun x => x.1 == "strconv.ErrRange") h
  exact ⟨by omega, Tryz.laysM143.s1_3 W hsh, r_iface (by kernel_rfl) (by kernel_rfl) h1, r_iface (by kernel_rfl) (by kernel_rfl) h2⟩
theorem r_kept {e e' : Env} {W W' : World} {σ' : St} {may : MemPlace → Prop} (h : Later e ⟨[], [], 0⟩ W e' σ' W') : W.keptBut W' may := by
  refine ⟨h.os, h.output, fun i hi => ?_⟩
  have := h.blocks i hi (fun j hj => by simp at hj) (fun t ht => by cases ht)
  rw [this]
  cases hh : W.heap[i]? with
  | none => rfl
  | some o => cases o <;> simp
def ePure : Env := ⟨fun _ => 0, fun _ => none, fun _ _ => False⟩
theorem r_start {W : World} (h : 8 ≤ W.heap.size) : SRel (GG W 8) ePure ⟨[], [], 0⟩ W where
  inj := fun i j hi => by simp at hi
  box := fun i x hx => by simp at hx
  low := fun i hi => by simp at hi
  tkn := fun t ht => by cases ht
  own := fun t ht => by cases ht
  dis := fun t t' ht => by cases ht
  xlt := fun b off hx => hx.elim
  xown := fun t ht => by cases ht
  glob := fun b hb => rfl
  big := h
/-- A law of one text: true. -/
noncomputable def spLaw1 : Spec := fun args σ K => match args, σ with
  | [.d (.str s)], ⟨[], [], 0⟩ => K (.ret (.d (.bool true))) ⟨[], [], 0⟩
  | _, _ => False
theorem r_call1 {g : FuncId} (hp : ∀ {W : World}, GlobOK W 8 → PCalls (GG W 8) g spLaw1) {W : World} (hg : GlobOK W 8) (s : ByteArray) :
    Calls Tryz.prog g #[.string s] W fun e W' => e = .returned (.bool true) ∧ ∀ may, W.keptBut W' may := by
  have hsz : 8 ≤ W.heap.size := by
    obtain ⟨ev, h1, _⟩ := hg.errRange
    have := World.block_lt_of_cell? W ⟨7, 0, none⟩ h1
    simp at this; omega
  have hc := (hp hg).calls [.d (.str s.data.toList)] ⟨[], [], 0⟩ (fun pe _ => pe = .ret (.d (.bool true))) rfl 0 ePure W #[.string s] (r_start hsz) ⟨rfl, fun i x u hx hu => by
    match i, hx, hu with
    | 0, hx, hu => cases hx; cases hu; exact .d _ _ (.str _)
    | i + 1, hx, hu => simp at hx⟩
  refine Calls.mono (callsIn_wide.1 hc) fun en W' ⟨pe, σ', e', hK, hE, hS, hL⟩ => ?_
  subst hK
  obtain ⟨v, rfl, hv⟩ := hE
  cases hv with
  | d _ _ hd =>
    cases hd
    exact ⟨rfl, fun may => r_kept hL⟩
end Go.PM.Lex
end

section
namespace Go.PM.Lex
open Go.Proofs Go.Proofs.YtjmoaahgfjaafaaGreatDoor
theorem and_tt {a b : Bool} (h1 : a = true) (h2 : b = true) : (a && b) = true := by rw [h1, h2]; rfl
theorem joined_of {P : Program} {f : FuncId} {fn : Func} {s : ChangeSpec} {c : OpenClaim}
    (p1 : laidOutB P = true) (p2 : mapsRowed P = true) (p3 : (P.stops == []) = true) (p4 : (P.stopKnobs == []) = true) (p5 : (c.plainKeys == P.plainKeys) = true) (p6 : P.stopsHeard = true) (p7 : P.mayEnter = true) (p8 : (c.lifted == P.liftsFinal) = true) (p9 : (P.make == some c.make) = true)
    (k1 : c.wf (OpenSpec.ofChange s) = true) (k2 : fn.params.all (P.readableRec ·) = true) (k3 : namedTie P c.named s.vars = true) (k4 : (c.stops == []) = true) (k5 : (c.knobs == []) = true)
    (k6 : (c.inPlace == P.inPlace f) = true) (k7 : (c.unfollowed == P.unfollowed f) = true) (k8 : (c.recurses == P.recurses f) = true) (k9 : (c.named == P.varsNamed f) = true)
    (k10 : (c.maps == (fn.params.toList ++ s.plain.varTypes P).any (P.mapsRec ·)) = true) (k11 : (c.ifaces == (fn.params.toList ++ s.plain.varTypes P).any (P.ifacesRec ·)) = true) (k12 : (c.mapsOut == P.mapsAmong fn.resultTypes.toList) = true)
    (k13 : (c.loops == (fn.params.toList ++ s.plain.varTypes P).any (P.loopsFrom ·)) = true) (k14 : (c.wideKeys == (fn.params.toList ++ s.plain.varTypes P ++ fn.resultTypes.toList).any (P.wideKeysFrom ·)) = true)
    (k15 : s.vars.all (P.varReadable ·) = true) (k16 : fn.resultTypes.all (fun t => P.readableRec t && decide (t < P.types.size)) = true) (k17 : (c.ifacesOut == fn.resultTypes.toList.any (P.ifacesRec ·)) = true) (k18 : (c.loopsOut == fn.resultTypes.toList.any (P.loopsFrom ·)) = true)
    (k19 : c.shortTexts.isNone = true) (k20 : (c.kinds == (if c.domain.isEmpty then [] else fn.params.toList.map fun t => match P.underlying t with | some (.int k) => some k | _ => none)) = true) (k21 : (c.pinned == c.pinnedBy) = true)
    (k22 : (c.veiled == (fn.params.toList ++ s.plain.varTypes P ++ fn.resultTypes.toList).any (P.veiledRec ·)) = true) (k23 : c.veiledFits P fn.params.toList (fn.params.toList ++ s.plain.varTypes P ++ fn.resultTypes.toList) = true) : joinedFacts P f fn s c = true := by
  unfold joinedFacts
  exact (and_tt (and_tt (and_tt (and_tt (and_tt (and_tt (and_tt (and_tt (and_tt (and_tt (and_tt (and_tt (and_tt (and_tt (and_tt (and_tt (and_tt (and_tt (and_tt (and_tt (and_tt (and_tt (and_tt (and_tt (and_tt (and_tt (and_tt (and_tt (and_tt (and_tt (and_tt k1 p1) p2) k2) k3) k4) p3) k5) p4) k6) k7) k8) k9) k10) k11) k12) k13) k14) k15) k16) k17) k18) p5) k19) p6) p7) p8) p9) k20) k21) k22) k23)
/-! ### The program's -/
theorem jp1 : laidOutB Tryz.checked.prog = true := by kernel_rfl
theorem jp2 : mapsRowed Tryz.checked.prog = true := by kernel_rfl
theorem jp3 : (Tryz.checked.prog.stops == []) = true := by kernel_rfl
theorem jp4 : (Tryz.checked.prog.stopKnobs == []) = true := by kernel_rfl
theorem jp5 : (Rows.parseRowsRow.plainKeys == Tryz.checked.prog.plainKeys) = true := by kernel_rfl
theorem jp6 : Tryz.checked.prog.stopsHeard = true := by kernel_rfl
theorem jp7 : Tryz.checked.prog.mayEnter = true := by kernel_rfl
theorem jp8 : (Rows.parseRowsRow.lifted == Tryz.checked.prog.liftsFinal) = true := by kernel_rfl
theorem jp9 : (Tryz.checked.prog.make == some Rows.parseRowsRow.make) = true := by kernel_rfl
theorem jp10 : Tryz.checked.prog.mainIs = some (Rows.parseRowsCard.stood.harness.1, Rows.parseRowsCard.stood.harness.2.toList) := by kernel_rfl
theorem jp11 : Rows.parseRowsCard.stood.looks = Tryz.checked.prog.looks [] := by kernel_rfl
end Go.PM.Lex
end
