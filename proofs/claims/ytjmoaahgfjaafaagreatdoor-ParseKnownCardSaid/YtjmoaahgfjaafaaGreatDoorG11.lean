/- A part of the proof: plain logic, contracts and laws over the given program. -/
import Derived.Test.YtjmoaahgfjaafaaGreatDoorG10
set_option linter.unusedVariables false
set_option linter.unusedSimpArgs false
set_option linter.all false
section
set_option maxRecDepth 100000
set_option maxHeartbeats 4000000
namespace Go.PM.Lex
open Go.Proofs
variable {w0 : World} {nG : Nat}
theorem ev_u : readTop 65536 16384 unitTop [100, 101, 99, 108, 32, 112, 40, 120, 58, 32, 110, 117, 109, 98, 101, 114, 44, 32, 121, 58, 32, 84, 41, 32, 111, 117, 116, 112, 117, 116, 32, 112, 40, 49, 44, 32, 95, 41, 46] = .ok (.mk [] [⟨[112], [⟨[120], [110, 117, 109, 98, 101, 114]⟩, ⟨[121], [84]⟩], false, true, false, 18⟩] [⟨[112], [(.mk 3 [] (1) [] 5), (.mk 2 [] (0) [] 3)], [], 7⟩] [] [] []) [⟨1, [100, 101, 99, 108], 0, 0, 4⟩, ⟨1, [112], 0, 5, 6⟩, ⟨4, [40], 0, 6, 7⟩, ⟨1, [120], 0, 7, 8⟩, ⟨4, [58], 0, 8, 9⟩, ⟨1, [110, 117, 109, 98, 101, 114], 0, 10, 16⟩, ⟨4, [44], 0, 16, 17⟩, ⟨1, [121], 0, 18, 19⟩, ⟨4, [58], 0, 19, 20⟩, ⟨1, [84], 0, 21, 22⟩, ⟨4, [41], 0, 22, 23⟩, ⟨1, [111, 117, 116, 112, 117, 116], 0, 24, 30⟩, ⟨1, [112], 0, 31, 32⟩, ⟨4, [40], 0, 32, 33⟩, ⟨2, [], 1, 33, 34⟩, ⟨4, [44], 0, 34, 35⟩, ⟨1, [95], 0, 36, 37⟩, ⟨4, [41], 0, 37, 38⟩, ⟨4, [46], 0, 38, 39⟩] := by kernel_rfl
theorem ev_v : readTop 65536 16384 unitTop [112, 40, 120, 41, 32, 58, 45, 32, 113, 40, 120, 44, 32, 122, 41, 44, 32, 33, 114, 40, 122, 41, 44, 32, 120, 32, 60, 32, 122, 32, 43, 32, 49, 44, 32, 110, 32, 61, 32, 99, 111, 117, 110, 116, 32, 58, 32, 123, 32, 115, 40, 120, 41, 32, 125, 44, 32, 109, 32, 61, 32, 109, 97, 120, 32, 122, 32, 42, 32, 50, 32, 58, 32, 123, 32, 113, 40, 120, 44, 32, 122, 41, 32, 125, 46] = .ok (.mk [] [] [⟨[112], [(.mk 1 [120] (0) [] 49)], [(.mk 1 [113] [(.mk 1 [120] (0) [] 44), (.mk 1 [122] (0) [] 42)] [] 46), (.mk 2 [114] [(.mk 1 [122] (0) [] 36)] [] 39), (.mk 5 [] [(.mk 1 [120] (0) [] 33), (.mk 10 [] (0) [(.mk 1 [122] (0) [] 31), (.mk 3 [] (1) [] 29)] 31)] [] 33), (.mk 9 [] [(.mk 1 [110] (0) [] 27)] [(.mk 1 [115] [(.mk 1 [120] (0) [] 20)] [] 22)] 27), (.mk 12 [] [(.mk 1 [109] (0) [] 16), (.mk 12 [] (0) [(.mk 1 [122] (0) [] 13), (.mk 3 [] (2) [] 11)] 13)] [(.mk 1 [113] [(.mk 1 [120] (0) [] 6), (.mk 1 [122] (0) [] 4)] [] 8)] 16)], 51⟩] [] [] []) [⟨1, [112], 0, 0, 1⟩, ⟨4, [40], 0, 1, 2⟩, ⟨1, [120], 0, 2, 3⟩, ⟨4, [41], 0, 3, 4⟩, ⟨4, [58, 45], 0, 5, 7⟩, ⟨1, [113], 0, 8, 9⟩, ⟨4, [40], 0, 9, 10⟩, ⟨1, [120], 0, 10, 11⟩, ⟨4, [44], 0, 11, 12⟩, ⟨1, [122], 0, 13, 14⟩, ⟨4, [41], 0, 14, 15⟩, ⟨4, [44], 0, 15, 16⟩, ⟨4, [33], 0, 17, 18⟩, ⟨1, [114], 0, 18, 19⟩, ⟨4, [40], 0, 19, 20⟩, ⟨1, [122], 0, 20, 21⟩, ⟨4, [41], 0, 21, 22⟩, ⟨4, [44], 0, 22, 23⟩, ⟨1, [120], 0, 24, 25⟩, ⟨4, [60], 0, 26, 27⟩, ⟨1, [122], 0, 28, 29⟩, ⟨4, [43], 0, 30, 31⟩, ⟨2, [], 1, 32, 33⟩, ⟨4, [44], 0, 33, 34⟩, ⟨1, [110], 0, 35, 36⟩, ⟨4, [61], 0, 37, 38⟩, ⟨1, [99, 111, 117, 110, 116], 0, 39, 44⟩, ⟨4, [58], 0, 45, 46⟩, ⟨4, [123], 0, 47, 48⟩, ⟨1, [115], 0, 49, 50⟩, ⟨4, [40], 0, 50, 51⟩, ⟨1, [120], 0, 51, 52⟩, ⟨4, [41], 0, 52, 53⟩, ⟨4, [125], 0, 54, 55⟩, ⟨4, [44], 0, 55, 56⟩, ⟨1, [109], 0, 57, 58⟩, ⟨4, [61], 0, 59, 60⟩, ⟨1, [109, 97, 120], 0, 61, 64⟩, ⟨1, [122], 0, 65, 66⟩, ⟨4, [42], 0, 67, 68⟩, ⟨2, [], 2, 69, 70⟩, ⟨4, [58], 0, 71, 72⟩, ⟨4, [123], 0, 73, 74⟩, ⟨1, [113], 0, 75, 76⟩, ⟨4, [40], 0, 76, 77⟩, ⟨1, [120], 0, 77, 78⟩, ⟨4, [44], 0, 78, 79⟩, ⟨1, [122], 0, 80, 81⟩, ⟨4, [41], 0, 81, 82⟩, ⟨4, [125], 0, 83, 84⟩, ⟨4, [46], 0, 84, 85⟩] := by kernel_rfl
theorem ev_w : readTop 65536 16384 unitTop [116, 121, 112, 101, 32, 84, 32, 61, 32, 65, 32, 123, 32, 108, 58, 32, 84, 44, 32, 114, 58, 32, 84, 32, 125, 32, 124, 32, 66, 32, 123, 125, 32, 116, 121, 112, 101, 32, 78, 32, 60, 58, 32, 110, 117, 109, 98, 101, 114, 32, 116, 121, 112, 101, 32, 82, 32, 61, 32, 91, 97, 58, 32, 78, 93, 32, 99, 111, 109, 112, 32, 67, 60, 75, 62, 32, 58, 32, 68, 60, 75, 62, 32, 123, 32, 112, 40, 36, 66, 41, 46, 32, 125, 32, 105, 110, 105, 116, 32, 105, 32, 61, 32, 67, 60, 110, 117, 109, 98, 101, 114, 62, 32, 111, 118, 101, 114, 114, 105, 100, 101, 32, 112] = .ok (.mk [⟨3, [84], [], [], [⟨[65], [⟨[108], [84]⟩, ⟨[114], [84]⟩]⟩, ⟨[66], []⟩], 55⟩, ⟨1, [78], [110, 117, 109, 98, 101, 114], [], [], 38⟩, ⟨2, [82], [], [⟨[97], [78]⟩], [], 34⟩] [] [] [(.mk [67] [[75]] [68] [[75]] (.mk [] [] [⟨[112], [(.mk 7 [66] (0) [] 14)], [], 16⟩] [] [] []) 26)] [⟨[105], [67], [[110, 117, 109, 98, 101, 114]], 8⟩] [⟨[112], 1⟩]) [⟨1, [116, 121, 112, 101], 0, 0, 4⟩, ⟨1, [84], 0, 5, 6⟩, ⟨4, [61], 0, 7, 8⟩, ⟨1, [65], 0, 9, 10⟩, ⟨4, [123], 0, 11, 12⟩, ⟨1, [108], 0, 13, 14⟩, ⟨4, [58], 0, 14, 15⟩, ⟨1, [84], 0, 16, 17⟩, ⟨4, [44], 0, 17, 18⟩, ⟨1, [114], 0, 19, 20⟩, ⟨4, [58], 0, 20, 21⟩, ⟨1, [84], 0, 22, 23⟩, ⟨4, [125], 0, 24, 25⟩, ⟨4, [124], 0, 26, 27⟩, ⟨1, [66], 0, 28, 29⟩, ⟨4, [123], 0, 30, 31⟩, ⟨4, [125], 0, 31, 32⟩, ⟨1, [116, 121, 112, 101], 0, 33, 37⟩, ⟨1, [78], 0, 38, 39⟩, ⟨4, [60, 58], 0, 40, 42⟩, ⟨1, [110, 117, 109, 98, 101, 114], 0, 43, 49⟩, ⟨1, [116, 121, 112, 101], 0, 50, 54⟩, ⟨1, [82], 0, 55, 56⟩, ⟨4, [61], 0, 57, 58⟩, ⟨4, [91], 0, 59, 60⟩, ⟨1, [97], 0, 60, 61⟩, ⟨4, [58], 0, 61, 62⟩, ⟨1, [78], 0, 63, 64⟩, ⟨4, [93], 0, 64, 65⟩, ⟨1, [99, 111, 109, 112], 0, 66, 70⟩, ⟨1, [67], 0, 71, 72⟩, ⟨4, [60], 0, 72, 73⟩, ⟨1, [75], 0, 73, 74⟩, ⟨4, [62], 0, 74, 75⟩, ⟨4, [58], 0, 76, 77⟩, ⟨1, [68], 0, 78, 79⟩, ⟨4, [60], 0, 79, 80⟩, ⟨1, [75], 0, 80, 81⟩, ⟨4, [62], 0, 81, 82⟩, ⟨4, [123], 0, 83, 84⟩, ⟨1, [112], 0, 85, 86⟩, ⟨4, [40], 0, 86, 87⟩, ⟨4, [36], 0, 87, 88⟩, ⟨1, [66], 0, 88, 89⟩, ⟨4, [41], 0, 89, 90⟩, ⟨4, [46], 0, 90, 91⟩, ⟨4, [125], 0, 92, 93⟩, ⟨1, [105, 110, 105, 116], 0, 94, 98⟩, ⟨1, [105], 0, 99, 100⟩, ⟨4, [61], 0, 101, 102⟩, ⟨1, [67], 0, 103, 104⟩, ⟨4, [60], 0, 104, 105⟩, ⟨1, [110, 117, 109, 98, 101, 114], 0, 105, 111⟩, ⟨4, [62], 0, 111, 112⟩, ⟨1, [111, 118, 101, 114, 114, 105, 100, 101], 0, 113, 121⟩, ⟨1, [112], 0, 122, 123⟩] := by kernel_rfl
theorem ev_x : readTop 65536 16384 (exprD 64) [97, 32, 43, 32, 98, 32, 42, 32, 99, 32, 115, 104, 108, 32, 45, 100, 32, 98, 97, 110, 100, 32, 51] = .ok (.mk 15 [] (0) [(.mk 18 [] (0) [(.mk 10 [] (0) [(.mk 1 [97] (0) [] 10), (.mk 12 [] (0) [(.mk 1 [98] (0) [] 8), (.mk 1 [99] (0) [] 6)] 8)] 10), (.mk 8 [] (0) [(.mk 1 [100] (0) [] 3)] 4)] 10), (.mk 3 [] (3) [] 1)] 10) [⟨1, [97], 0, 0, 1⟩, ⟨4, [43], 0, 2, 3⟩, ⟨1, [98], 0, 4, 5⟩, ⟨4, [42], 0, 6, 7⟩, ⟨1, [99], 0, 8, 9⟩, ⟨1, [115, 104, 108], 0, 10, 13⟩, ⟨4, [45], 0, 14, 15⟩, ⟨1, [100], 0, 15, 16⟩, ⟨1, [98, 97, 110, 100], 0, 17, 21⟩, ⟨2, [], 3, 22, 23⟩] := by kernel_rfl
theorem ev_l : readTop 1048576 1048576 factsTop [112, 40, 49, 41, 46, 32, 99, 46, 113, 40, 34, 97, 34, 44, 32, 91, 110, 105, 108, 93, 41, 46] = .ok [⟨[112], [(.mk 3 [] (1) [] 12)], [], 14⟩, ⟨[99, 46, 113], [(.mk 4 [97] (0) [] 7), (.mk 6 [] (0) [(.mk 5 [] (0) [] 4)] 5)], [], 9⟩] [⟨1, [112], 0, 0, 1⟩, ⟨4, [40], 0, 1, 2⟩, ⟨2, [], 1, 2, 3⟩, ⟨4, [41], 0, 3, 4⟩, ⟨4, [46], 0, 4, 5⟩, ⟨1, [99, 46, 113], 0, 6, 9⟩, ⟨4, [40], 0, 9, 10⟩, ⟨3, [97], 0, 10, 13⟩, ⟨4, [44], 0, 13, 14⟩, ⟨4, [91], 0, 15, 16⟩, ⟨1, [110, 105, 108], 0, 16, 19⟩, ⟨4, [93], 0, 19, 20⟩, ⟨4, [41], 0, 20, 21⟩, ⟨4, [46], 0, 21, 22⟩] := by kernel_rfl
theorem ev_k : readTop 1048576 1048576 factsTop [112, 40, 49, 41, 32, 58, 45, 32, 113, 40, 49, 41, 46] = .err 5 150 := by kernel_rfl
theorem ev_b0 : isErr 5 140 (readTop 65536 16384 unitTop [112, 40, 120, 41, 32, 59]) = true := by decide +kernel
theorem ev_b1 : isErr 3 150 (readTop 65536 16384 unitTop [112, 40, 120]) = true := by decide +kernel
theorem ev_b2 : isErr 4 150 (readTop 65536 16384 unitTop [112, 40, 120, 41, 44, 32, 113, 46]) = true := by decide +kernel
theorem ev_b3 : isErr 12 150 (readTop 65536 16384 unitTop [112, 40, 41, 32, 58, 45, 32, 99, 97, 116, 40, 120, 41, 32, 61, 32, 121, 46]) = true := by decide +kernel
theorem ev_b4 : isErr 8 150 (readTop 65536 16384 unitTop [112, 40, 41, 32, 58, 45, 32, 120, 46]) = true := by decide +kernel
theorem ev_b5 : isErr 11 150 (readTop 65536 16384 unitTop [112, 40, 41, 32, 58, 45, 32, 120, 32, 60, 32, 99, 111, 117, 110, 116, 32, 58, 32, 123, 32, 113, 40, 120, 41, 32, 125, 46]) = true := by decide +kernel
theorem ev_b6 : isErr 15 150 (readTop 65536 16384 unitTop [100, 101, 99, 108, 32, 112, 40, 41, 32, 105, 110, 112, 117, 116, 32, 105, 110, 112, 117, 116]) = true := by decide +kernel
theorem ev_b7 : isErr 10 150 (readTop 65536 16384 unitTop [116, 121, 112, 101, 32, 84, 32, 61, 32, 91]) = true := by decide +kernel
theorem ev_b8 : isErr 9 150 (readTop 65536 16384 unitTop [99, 111, 109, 112, 32, 67, 32, 123, 32]) = true := by decide +kernel
theorem ev_b9 : isErr 0 150 (readTop 65536 16384 unitTop [125]) = true := by decide +kernel
theorem ev_b10 : isErr 5 150 (readTop 65536 16384 unitTop [100, 101, 99, 108, 32, 110, 105, 108, 40, 41]) = true := by decide +kernel
theorem ev_b11 : isErr 0 150 (readTop 65536 16384 unitTop [95, 40, 120, 41, 46]) = true := by decide +kernel
theorem ev_b12 : isErr 2 150 (readTop 65536 16384 unitTop [112, 40, 99, 111, 117, 110, 116, 41, 46]) = true := by decide +kernel
theorem ev_b13 : isErr 4 150 (readTop 65536 16384 unitTop [112, 40, 49, 44, 41, 46]) = true := by decide +kernel
theorem ev_b14 : isErr 7 150 (readTop 65536 16384 unitTop [112, 40, 41, 32, 58, 45, 32, 46]) = true := by decide +kernel
theorem ev_r0 : isErr 65 151 (readTop 65536 16384 unitTop ([112, 40] ++ rep 64 [40] ++ [49])) = true := by decide +kernel
theorem ev_r1 : isErr 65 151 (readTop 65536 16384 unitTop ([112, 40] ++ rep 64 [45] ++ [49])) = true := by decide +kernel
theorem ev_r2 : isErr 583 151 (readTop 65536 16384 unitTop (rep 65 [99, 111, 109, 112, 32, 67, 32, 123, 32])) = true := by decide +kernel
theorem ev_r3 : isErr 26 3 (readTop 65536 16384 unitTop ([112, 40] ++ rep 12 [49, 44] ++ [49, 41, 46])) = true := by decide +kernel
theorem ev_r4 : isErr 135 3 (readTop 65536 16384 unitTop ([112, 40, 41, 32, 58, 45, 32] ++ rep 32 [113, 40, 41, 44] ++ [113, 40, 41, 46])) = true := by decide +kernel
theorem ev_r5 : isErr 79 3 (readTop 65536 16384 unitTop ([100, 101, 99, 108, 32, 112, 40] ++ rep 12 [120, 58, 32, 84, 44, 32] ++ [120])) = true := by decide +kernel
/-- One rule, with one expression. -/
def oneRule : Top Un → Bool
  | .ok (.mk _ _ [_] _ _ _) _ => true
  | _ => false
theorem ev_nest : oneRule (readTop 65536 16384 unitTop ([112, 40] ++ rep 63 [40] ++ [49] ++ rep 63 [41] ++ [41, 46])) = true := by decide +kernel
/-! ### Very long texts -/
theorem rep_sp (n : Nat) : rep n [32] = List.replicate n 32 := by
  induction n with
  | zero => rfl
  | succ n ih => rw [rep_add, ih, rep_one, List.replicate_succ']
theorem ev_long1 : isErr 0 3 (readTop 65536 16384 unitTop (rep 65536 [32] ++ [32])) = true := by
  rw [readTop, if_pos (by rw [List.length_append, rep_len]; decide)]; decide
theorem trim_sp (n : Nat) : Lib.trimLeftS (List.replicate n 32 ++ [125]) [32, 9, 13, 10] = [125] := by
  induction n with
  | zero => decide
  | succ n ih => rw [List.replicate_succ, List.cons_append, Lib.trimLeftS, List.dropWhile_cons, if_pos (by decide)]; exact ih
theorem blank_sp (n : Nat) : blankF (List.replicate n 32 ++ [125]) = (true, n) := by
  rw [blankF, blankGo]
  simp only [trim_sp]
  rw [if_neg (by decide), if_neg (by decide)]
  simp
theorem all_sp (n : Nat) : allF (List.replicate n 32 ++ [125]) 16384 = ([⟨4, [125], 0, n, n + 1⟩], (0, 0)) := by
  have hl : (List.replicate n (32 : UInt8) ++ [125]).length = n + 1 := by simp
  rw [allF, hl, allGo]
  rw [blank_sp]
  simp only [Bool.true_eq_false, if_false, Nat.zero_add]
  have hd : (List.replicate n (32 : UInt8) ++ [125]).drop n = [125] := List.drop_left' (by simp)
  rw [hd]
  rw [if_neg (by decide)]
  have h1 : nextF n [125] (decide ((0 : Int) < 16384)) = .tok ⟨4, [125], 0, n, n + 1⟩ := by
    unfold nextF
    have e1 : signF [125] = 1 := by decide
    have e2 : ¬ (signF [125] = 0 ∧ (pk [125]).1 ≠ 34 ∧ isLetter (pk [125]).1 = false ∧ isDigit (pk [125]).1 = false) := by decide
    simp only [e1] at e2 ⊢
    rw [if_neg e2]
    simp
  rw [h1]
  simp only
  rw [show n + 1 - n = 1 from by omega, show ([125] : Bs).drop 1 = [] from rfl]
  have h2 : ∀ f a m, allGo (f + 1) m a [] = ([], (0, 0)) := fun f a m => by
    have hb : blankF [] = (true, 0) := by decide
    rw [allGo, hb]; simp
  rw [h2]
theorem cut_sp : cut (rep 65536 [32]) 1 (rep 65536 [32]).length = List.replicate 65535 32 := by
  rw [cut, List.take_length, rep_sp, show (65536 : Nat) = 65535 + 1 from rfl, List.replicate_succ, List.drop_one, List.tail_cons]
theorem ev_long2 : isErr 65535 150 (readTop 65536 16384 unitTop (cut (rep 65536 [32]) 1 (rep 65536 [32]).length ++ [125])) = true := by
  rw [cut_sp, readTop, if_neg (by rw [List.length_append, List.length_replicate]; decide)]
  rw [show ((16384 : Nat) : Int) = 16384 from rfl, all_sp]
  decide +kernel
end Go.PM.Lex
end

section
set_option maxRecDepth 100000
namespace Go.PM.Lex
/-! ### Texts that are cut off -/
theorem dN_take {n len b0 b1 b2 b3 b1' b2' b3' : Nat} (h1 : 1 < n → b1' = b1) (h2 : 2 < n → b2' = b2) (h3 : 3 < n → b3' = b3) (hn : 1 ≤ n) (hd : (Lib.decodeN len b0 b1 b2 b3).2 ≤ n) :
    Lib.decodeN (min n len) b0 b1' b2' b3' = Lib.decodeN len b0 b1 b2 b3 := by
  rcases Lib.decodeN_shape len b0 b1 b2 b3 with ⟨c, e⟩ | ⟨c1, c2, c3, cv, e⟩ | ⟨c1, c2, c3, c4, cv, cs, e⟩ | ⟨c1, c2, c3, c4, c5, cv, cw, e⟩ | e
  · rw [e]; unfold Lib.decodeN; rw [if_pos c]
  · rw [e] at hd ⊢
    simp only at hd
    rw [h1 (by omega)]
    unfold Lib.decodeN
    rw [if_neg (by omega), if_pos ⟨c1, by omega, c3⟩, if_pos (by omega)]
  · rw [e] at hd ⊢
    simp only at hd
    rw [h1 (by omega), h2 (by omega)]
    unfold Lib.decodeN
    rw [if_neg (by omega), if_neg (by omega), if_pos ⟨c1, ⟨by omega, c3⟩, by omega, c4⟩, if_pos ⟨by omega, by omega⟩]
  · rw [e] at hd ⊢
    simp only at hd
    rw [h1 (by omega), h2 (by omega), h3 (by omega)]
    unfold Lib.decodeN
    rw [if_neg (by omega), if_neg (by omega), if_neg (by omega), if_pos ⟨c1, ⟨by omega, c3⟩, ⟨by omega, c4⟩, by omega, c5⟩, if_pos ⟨by omega, by omega⟩]
  · rw [e]
    rcases Lib.decodeN_shape (min n len) b0 b1' b2' b3' with ⟨c, e'⟩ | ⟨c1, c2, c3, cv, e'⟩ | ⟨c1, c2, c3, c4, cv, cs, e'⟩ | ⟨c1, c2, c3, c4, c5, cv, cw, e'⟩ | e'
    · unfold Lib.decodeN at e; rw [if_pos c] at e; rw [e', ← e]
    · rw [h1 (by omega)] at c3 cv
      unfold Lib.decodeN at e
      rw [if_neg (by omega), if_pos ⟨c1, by omega, c3⟩, if_pos (by omega)] at e
      simp at e
    · rw [h1 (by omega), h2 (by omega)] at *
      unfold Lib.decodeN at e
      rw [if_neg (by omega), if_neg (by omega), if_pos ⟨c1, ⟨by omega, c3⟩, by omega, c4⟩, if_pos ⟨by omega, by omega⟩] at e
      simp at e
    · rw [h1 (by omega), h2 (by omega), h3 (by omega)] at *
      unfold Lib.decodeN at e
      rw [if_neg (by omega), if_neg (by omega), if_neg (by omega), if_pos ⟨c1, ⟨by omega, c3⟩, ⟨by omega, c4⟩, by omega, c5⟩, if_pos ⟨by omega, by omega⟩] at e
      simp at e
    · exact e'
theorem getD_take (r : Bs) (n k : Nat) : (r.take n).getD k 0 = if k < n then r.getD k 0 else 0 := by
  simp only [List.getD_eq_getElem?_getD, List.getElem?_take]
  split <;> simp
theorem dec_take {r : Bs} {n : Nat} (hn : 1 ≤ n) (hd : (Lib.decodeL r).2 ≤ n) : Lib.decodeL (r.take n) = Lib.decodeL r := by
  rw [Lib.decodeL_N] at hd ⊢
  rw [Lib.decodeL_N, List.length_take, getD_take, getD_take, getD_take, getD_take, if_pos (by omega)]
  exact dN_take (fun h => by rw [if_pos h]) (fun h => by rw [if_pos h]) (fun h => by rw [if_pos h]) hn hd
theorem pk_take {r : Bs} {n : Nat} (h : (pk r).1 ≠ -1) (hn : (pk r).2 ≤ n) : pk (r.take n) = pk r := by
  obtain ⟨h1, h2, h3⟩ := pk_le r h
  unfold pk at h hn ⊢
  split at h
  · exact absurd rfl h
  · rename_i g
    rw [if_neg g] at hn ⊢
    simp only at hn
    have hr := dec_rng r
    have e := dec_take (r := r) (n := n) (by omega) hn
    rw [e, if_neg]
    simp only [not_or] at g ⊢
    refine ⟨fun h => ?_, g.2⟩
    have h5 := congrArg List.length h
    rw [List.length_take, List.length_nil] at h5
    have := List.length_pos_iff.2 h3
    omega
theorem nameGo_nil (f : Nat) : nameGo f [] = 0 := by
  cases f with
  | zero => rfl
  | succ f => exact nameGo_end (by simp [pk_nil]) (by simp [pk_nil]; decide) (by simp [pk_nil]; decide)
theorem letter_ne {c : Int} (h : isLetter c = true ∨ isDigit c = true) : c ≠ -1 := fun h1 => by rw [h1, isLetter_neg, isDigit_neg] at h; simp at h
/-- A name alone is that name. -/
theorem nameGo_take : ∀ (f : Nat) (r : Bs), r.length < f → ∀ f', nameGo f r < f' → nameGo f' (r.take (nameGo f r)) = nameGo f r
  | 0, r, h, _, _ => by omega
  | f + 1, r, h, f', hf => by
    have step : ∀ (hne : (pk r).1 ≠ -1), nameGo (f + 1) r = (pk r).2 + nameGo f (r.drop (pk r).2) → pk (r.take (nameGo (f + 1) r)) = pk r ∧ (r.take (nameGo (f + 1) r)).drop (pk r).2 = (r.drop (pk r).2).take (nameGo f (r.drop (pk r).2)) ∧
        ∀ g, f' = g + 1 → nameGo g ((r.drop (pk r).2).take (nameGo f (r.drop (pk r).2))) = nameGo f (r.drop (pk r).2) := fun hne e => by
      obtain ⟨h1, h2, h3⟩ := pk_le r hne
      refine ⟨pk_take hne (by omega), ?_, fun g hg => nameGo_take f _ (by rw [List.length_drop]; omega) g (by omega)⟩
      rw [List.drop_take, e]; congr 1; omega
    obtain ⟨g, rfl⟩ : ∃ g, f' = g + 1 := ⟨f' - 1, by omega⟩
    by_cases h1 : (pk r).1 = 46
    · by_cases h2 : isLetter (pk (r.drop 1)).1 = true
      · have e := nameGo_dot (f := f) h1 h2
        obtain ⟨s1, s2, s3⟩ := step (by omega) e
        have hlow := pk_low r (by omega) (by omega)
        have h2' : isLetter (pk ((r.take (nameGo (f + 1) r)).drop 1)).1 = true := by
          rw [hlow.2.2] at s2
          rw [s2]
          obtain ⟨f2, rfl⟩ : ∃ f2, f = f2 + 1 := ⟨f - 1, by omega⟩
          have h46 : ¬ (pk (r.drop 1)).1 = 46 := fun g => by rw [g] at h2; revert h2; decide
          have e2 := nameGo_on (f := f2) h46 (.inl h2)
          rw [pk_take (letter_ne (.inl h2)) (by rw [e2]; omega)]
          exact h2
        rw [nameGo_dot (f := g) (by rw [s1]; exact h1) h2', s1, s2, s3 g rfl, ← e]
      · have e := nameGo_dotend (f := f) h1 (by simpa using h2)
        rw [e]; exact nameGo_nil _
    · by_cases h2 : isLetter (pk r).1 = true ∨ isDigit (pk r).1 = true
      · have e := nameGo_on (f := f) h1 h2
        obtain ⟨s1, s2, s3⟩ := step (letter_ne h2) e
        rw [nameGo_on (f := g) (by rw [s1]; exact h1) (by rw [s1]; exact h2), s1, s2, s3 g rfl, ← e]
      · simp only [not_or, Bool.not_eq_true] at h2
        have e := nameGo_end (f := f) h1 h2.1 h2.2
        rw [e]; exact nameGo_nil _
theorem nameF_take (r : Bs) : nameF (r.take (nameF r)) = nameF r := by
  have := nameGo_le (r.length + 1) r
  refine nameGo_take (r.length + 1) r (by omega) _ ?_
  rw [List.length_take]; unfold nameF at *; omega
theorem textGo_take : ∀ (f : Nat) (r : Bs) (esc : Bool) (acc : Bs) (p : Nat) (t : Bs) (l : Nat), textGo f r esc acc p = .ok t l → r.length < f → ∀ f', l - p < f' → textGo f' (r.take (l - p)) esc acc p = .ok t l
  | 0, r, esc, acc, p, t, l, h, hf, _, _ => by omega
  | f + 1, r, esc, acc, p, t, l, h, hf, f', hf' => by
    have hlen := textGo_len _ _ _ _ _ _ _ h
    obtain ⟨g, rfl⟩ : ∃ g, f' = g + 1 := ⟨f' - 1, by omega⟩
    unfold textGo at h
    split at h
    · cases h
    · rename_i hne
      have hd := Lib.decodeL_le r hne
      have hr := dec_rng r
      have hne' : ¬ r.take (l - p) = [] := fun g => by
        have h5 := congrArg List.length g
        rw [List.length_take, List.length_nil] at h5
        have := List.length_pos_iff.2 hne
        omega
      have hdr : ∀ k, (r.take (l - p)).drop k = (r.drop k).take (l - (p + k)) := fun k => by rw [List.drop_take]; congr 1; omega
      unfold textGo
      rw [if_neg hne']
      split at h
      · rename_i he
        rw [if_pos he]
        split at h
        · cases h
        · rename_i b hb
          have h2 := textGo_len _ _ _ _ _ _ _ h
          have e := dec_take (r := r) (n := l - p) (by omega) (by omega)
          rw [e, hb]
          simp only
          rw [hdr]
          exact textGo_take f _ _ _ _ _ _ h (by rw [List.length_drop]; omega) g (by omega)
      · rename_i he
        rw [if_neg he]
        split at h
        · rename_i h34
          cases h
          have e1 : (Lib.decodeL r).2 = 1 := by
            rw [Lib.decodeL_N] at h34 ⊢
            rcases Lib.decodeN_shape r.length (r.getD 0 0).toNat (r.getD 1 0).toNat (r.getD 2 0).toNat (r.getD 3 0).toNat with ⟨c, e⟩ | ⟨c1, c2, c3, cv, e⟩ | ⟨c1, c2, c3, c4, cv, cs, e⟩ | ⟨c1, c2, c3, c4, c5, cv, cw, e⟩ | e
            all_goals (rw [e] at h34)
            · rw [e]
            all_goals (dsimp only at h34; omega)
          rw [dec_take (by omega) (by omega), if_pos h34]
        · rename_i h34
          have step : ∀ es ac, textGo f (r.drop (Lib.decodeL r).2) es ac (p + (Lib.decodeL r).2) = .ok t l → Lib.decodeL (r.take (l - p)) = Lib.decodeL r ∧ textGo g ((r.take (l - p)).drop (Lib.decodeL r).2) es ac (p + (Lib.decodeL r).2) = .ok t l := fun es ac h => by
            have h2 := textGo_len _ _ _ _ _ _ _ h
            refine ⟨dec_take (by omega) (by omega), ?_⟩
            rw [hdr]
            exact textGo_take f _ _ _ _ _ _ h (by rw [List.length_drop]; omega) g (by omega)
          split at h
          · rename_i h92
            obtain ⟨e, e2⟩ := step _ _ h
            rw [e, if_neg h34, if_pos h92]
            exact e2
          · rename_i h92
            split at h
            · cases h
            · rename_i h32
              obtain ⟨e, e2⟩ := step _ _ h
              have h2 := textGo_len _ _ _ _ _ _ _ h
              have hpk : pk (r.take (l - p)) = pk r := by
                refine pk_take (by omega) ?_
                unfold pk
                split
                · simp only; omega
                · simp only; omega
              rw [e, if_neg h34, if_neg h92, hpk, if_neg h32]
              exact e2
theorem textF_take {r t : Bs} {l : Nat} (h : textF r = .ok t l) : textF (r.take l) = .ok t l := by
  unfold textF at h ⊢
  have h2 := textGo_len _ _ _ _ _ _ _ h
  rw [List.length_drop] at h2
  have := textGo_take _ _ _ _ _ _ _ h (by rw [List.length_drop]; omega) ((r.take l).length + 1) (by rw [List.length_take]; omega)
  rwa [List.drop_take]
theorem hasPrefix_take {r p : Bs} {n : Nat} (h : Lib.hasPrefix (r.take n) p = true) : Lib.hasPrefix r p = true := by
  unfold Lib.hasPrefix at h ⊢
  rw [List.isPrefixOf_iff_prefix] at h ⊢
  exact h.trans (List.take_prefix n r)
theorem hasPrefix_long {r p : Bs} {n : Nat} (h : Lib.hasPrefix r p = true) (hn : p.length ≤ n) : Lib.hasPrefix (r.take n) p = true := by
  unfold Lib.hasPrefix at h ⊢
  rw [List.isPrefixOf_iff_prefix] at h ⊢
  rw [List.prefix_take_iff]
  exact ⟨h, hn⟩
theorem takeWhile_twice (p : UInt8 → Bool) : ∀ l : Bs, (l.takeWhile p).takeWhile p = l.takeWhile p
  | [] => rfl
  | x :: l => by
    by_cases h : p x = true
    · simp only [List.takeWhile_cons, h, if_true, takeWhile_twice p l]
    · simp [List.takeWhile_cons, h]
theorem number_take {r : Bs} {v : Nat} (h : numberF r = some v) : numberF (r.take (numLen r)) = some v ∧ numLen (r.take (numLen r)) = numLen r := by
  have hne : numDigits r ≠ [] := fun g => by rw [numberF, if_pos g] at h; cases h
  have hle := numLen_le r
  have hpos := List.length_pos_iff.2 hne
  have hx : isHex (r.take (numLen r)) = isHex r := by
    cases hh : isHex r with
    | true => exact hasPrefix_long hh (by unfold numLen; rw [hh]; simp)
    | false =>
      cases hh2 : isHex (r.take (numLen r)) with
      | false => rfl
      | true => exact absurd (hasPrefix_take hh2) (by unfold isHex at hh; rw [hh]; simp)
  have hd : numDigits (r.take (numLen r)) = numDigits r := by
    have hl : numLen r = (if isHex r = true then 2 else 0) + (numDigits r).length := rfl
    unfold numDigits at hl ⊢
    rw [hx, List.drop_take, hl, Nat.add_sub_cancel_left, ← takeWhile_take, takeWhile_twice]
  have hl : numLen (r.take (numLen r)) = numLen r := by
    have e : ∀ x y : Bs, isHex x = isHex y → numDigits x = numDigits y → numLen x = numLen y := fun x y h1 h2 => by unfold numLen; rw [h1, h2]
    exact e _ _ hx hd
  refine ⟨?_, hl⟩
  have hnil : (r.take (numLen r)).drop (numLen r) = [] := by apply List.drop_eq_nil_of_le; rw [List.length_take]; omega
  unfold numberF at h ⊢
  rw [hd, hl, hnil, hx]
  rw [if_neg hne] at h ⊢
  generalize (if isHex r = true then 18446744073709551616 else 9223372036854775808) = L at h ⊢
  generalize numV (if isHex r = true then 16 else 10) (numDigits r) = V at h ⊢
  split at h
  · cases h
  · rename_i g1
    rw [if_neg g1]
    split at h
    · cases h
    · rename_i g2
      simp only [not_or] at g2
      rw [if_neg]
      · exact h
      · simp only [not_or]
        exact ⟨by rw [pk_nil]; decide, by rw [pk_nil]; decide, g2.2.2⟩
theorem sign_zero_take {r : Bs} {n : Nat} (hn : 1 ≤ n) (h : signF r = 0) : signF (r.take n) = 0 := by
  unfold signF at h ⊢
  split at h
  · cases h
  · rename_i h1
    split at h
    · cases h
    · rename_i h2
      rw [if_neg, if_neg]
      · rw [getD_take, if_pos (by omega)]; exact h2
      · intro g
        apply h1
        rw [List.any_eq_true] at g ⊢
        obtain ⟨x, hx, hy⟩ := g
        exact ⟨x, hx, hasPrefix_take hy⟩
theorem sign_take {r : Bs} (h0 : 0 < r.length) (h : 0 < signF r) : signF (r.take (signF r)) = signF r := by
  have hle := sign_le r h0
  unfold signF at h ⊢
  split at h
  · rename_i h1
    rw [if_pos h1, if_pos]
    rw [List.any_eq_true] at h1 ⊢
    obtain ⟨x, hx, hy⟩ := h1
    refine ⟨x, hx, hasPrefix_long hy ?_⟩
    simp only [twos, List.mem_cons, List.mem_nil_iff, or_false] at hx
    rcases hx with rfl | rfl | rfl | rfl | rfl <;> simp
  · rename_i h1
    split at h
    · rename_i h2
      rw [if_neg h1, if_pos h2, if_neg, if_pos]
      · rw [getD_take, if_pos (by omega)]; exact h2
      · intro g
        apply h1
        rw [List.any_eq_true] at g ⊢
        obtain ⟨x, hx, hy⟩ := g
        exact ⟨x, hx, hasPrefix_take hy⟩
    · cases h
/-- A token's own bytes are that token. -/
theorem next_take {a : Nat} {r : Bs} {room : Bool} {t : Tok} (h0 : 0 < r.length) (h : nextF a r room = .tok t) : nextF 0 (r.take (t.fin - a)) true = .tok ⟨t.kind, t.text, t.n, 0, t.fin - a⟩ := by
  obtain ⟨f1, f2, f3⟩ := nextF_tok h0 h
  rw [nextF_eq] at h
  split at h
  · cases h
  · rename_i g0
    split at h
    · cases h
    · split at h
      · rename_i g1
        cases h
        simp only [Nat.add_sub_cancel_left] at *
        have e := sign_take h0 g1
        rw [nextF_eq, e, if_neg (fun g => by omega), if_neg (by simp), if_pos g1, List.take_take]
        simp
      · rename_i g1
        have hs0 : signF r = 0 := by omega
        have hs : signF (r.take (t.fin - a)) = 0 := sign_zero_take (by omega) hs0
        split at h
        · rename_i g2
          have hpk : pk (r.take (t.fin - a)) = pk r := pk_take (by omega) (by have := pk_low r (by omega) (by omega); omega)
          unfold textR at h
          split at h
          · cases h
          · rename_i t' l hx
            cases h
            simp only [Nat.add_sub_cancel_left] at *
            rw [nextF_eq, hs, hpk, if_neg (fun g => g.2.1 g2), if_neg (by simp), if_neg (by omega), if_pos g2, textR, textF_take hx]
            simp
        · rename_i g2
          split at h
          · rename_i g3
            have hpk : pk (r.take (t.fin - a)) = pk r := pk_take (letter_ne (.inr g3)) (by have := pk_low r (by rw [isDigit_iff] at g3; omega) (by rw [isDigit_iff] at g3; omega); omega)
            unfold numberR at h
            split at h
            · cases h
            · rename_i n hx
              cases h
              simp only [Nat.add_sub_cancel_left] at *
              obtain ⟨e1, e2⟩ := number_take hx
              rw [nextF_eq, hs, hpk, if_neg (fun g => by rw [g3] at g; simp at g), if_neg (by simp), if_neg (by omega), if_neg g2, if_pos g3, numberR, e1, e2]
              simp
          · rename_i g3
            have h4 : isLetter (pk r).1 = true := by
              cases hb : isLetter (pk r).1 with
              | true => rfl
              | false => exact absurd ⟨hs0, g2, hb, by simpa using g3⟩ g0
            cases h
            simp only [Nat.add_sub_cancel_left] at *
            have h46 : ¬ (pk r).1 = 46 := fun g => by rw [g] at h4; revert h4; decide
            have e46 : nameF r = (pk r).2 + nameGo r.length (r.drop (pk r).2) := nameGo_on h46 (.inl h4)
            have hpk : pk (r.take (nameF r)) = pk r := pk_take (letter_ne (.inl h4)) (by omega)
            rw [nextF_eq, hs, hpk, if_neg (fun g => by rw [h4] at g; simp at g), if_neg (by simp), if_neg (by omega), if_neg g2, if_neg g3, nameF_take, List.take_take]
            simp
end Go.PM.Lex
end

section
set_option maxRecDepth 100000
namespace Go.PM.Lex
abbrev ws : Bs := [32, 9, 13, 10]
theorem indexByte_take {c : UInt8} : ∀ (l : Bs) (i m : Nat), Lib.indexByte l c = i → i < m → Lib.indexByte (l.take m) c = i
  | [], i, m, h, _ => by simp [Lib.indexByte] at h
  | b :: l, i, m, h, hm => by
    obtain ⟨m, rfl⟩ : ∃ k, m = k + 1 := ⟨m - 1, by omega⟩
    rw [List.take_succ_cons]
    unfold Lib.indexByte at h ⊢
    split at h
    · rename_i hb; rw [if_pos hb]; exact h
    · rename_i hb
      rw [if_neg hb]
      split at h
      · omega
      · rename_i h1
        have hge := Lib.indexByte_ge l c
        have h1' : Lib.indexByte l c ≠ -1 := by simpa using h1
        have := indexByte_take (c := c) l (Lib.indexByte l c).toNat m (by omega) (by omega)
        rw [this]
        have e : ((Lib.indexByte l c).toNat : Int) = Lib.indexByte l c := by omega
        rw [e, if_neg h1]; exact h
theorem index_take {p : Bs} : ∀ (l : Bs) (i m : Nat), Lib.index l p = i → i + p.length ≤ m → Lib.index (l.take m) p = i
  | [], i, m, h, hm => by simpa using h
  | b :: l, i, 0, h, hm => by
    have : p = [] := List.eq_nil_of_length_eq_zero (by omega)
    subst this
    simp [Lib.index] at h ⊢; omega
  | b :: l, i, m + 1, h, hm => by
    rw [List.take_succ_cons]
    unfold Lib.index at h ⊢
    split at h
    · rename_i hb
      rw [if_pos]
      · exact h
      · rw [List.isPrefixOf_iff_prefix] at hb ⊢
        rw [← List.take_succ_cons, List.prefix_take_iff]
        exact ⟨hb, by omega⟩
    · rename_i hb
      rw [if_neg]
      · split at h
        · omega
        · rename_i h1
          have hge := Lib.index_ge l p
          have h1' : Lib.index l p ≠ -1 := by simpa using h1
          have := index_take (p := p) l (Lib.index l p).toNat m (by omega) (by omega)
          rw [this]
          have e : ((Lib.index l p).toNat : Int) = Lib.index l p := by omega
          rw [e, if_neg h1]; exact h
      · intro g
        apply hb
        rw [List.isPrefixOf_iff_prefix] at g ⊢
        rw [← List.take_succ_cons] at g
        exact g.trans (List.take_prefix _ _)
/-- A text is its blank bytes and the rest. -/
theorem trim_take (r : Bs) (m : Nat) : Lib.trimLeftS (r.take (r.length - (Lib.trimLeftS r ws).length + m)) ws = (Lib.trimLeftS r ws).take m := by
  induction r with
  | nil => simp [Lib.trimLeftS]
  | cons b r ih =>
    unfold Lib.trimLeftS at ih ⊢
    by_cases h : ws.contains b = true
    · have hl := (dropWhile_eq (ws.contains ·) r).2
      simp only [List.dropWhile_cons, h, if_true, List.length_cons]
      rw [show r.length + 1 - (r.dropWhile (ws.contains ·)).length + m = (r.length - (r.dropWhile (ws.contains ·)).length + m) + 1 by omega, List.take_succ_cons, List.dropWhile_cons, if_pos h]
      exact ih
    · simp only [List.dropWhile_cons, h, Bool.false_eq_true, if_false, List.length_cons]
      rw [Nat.sub_self, Nat.zero_add]
      cases m with
      | zero => simp
      | succ m => rw [List.take_succ_cons, List.dropWhile_cons, if_neg h]
theorem trim_twice (r : Bs) : Lib.trimLeftS (Lib.trimLeftS r ws) ws = Lib.trimLeftS r ws := by
  induction r with
  | nil => rfl
  | cons b r ih =>
    unfold Lib.trimLeftS at ih ⊢
    by_cases h : ws.contains b = true
    · simp only [List.dropWhile_cons, h, if_true]; exact ih
    · simp only [List.dropWhile_cons, h, Bool.false_eq_true, if_false]
theorem pre_nil {a b : UInt8} : Lib.hasPrefix [] [a, b] = false := rfl
theorem blankGo_nil (f : Nat) : blankGo (f + 1) [] = (true, 0) := by simp [blankGo, Lib.trimLeftS, pre_nil]
theorem blankGo_end {f : Nat} {r : Bs} (h1 : Lib.hasPrefix (Lib.trimLeftS r ws) [47, 47] = false) (h2 : Lib.hasPrefix (Lib.trimLeftS r ws) [47, 42] = false) : blankGo (f + 1) r = (true, r.length - (Lib.trimLeftS r ws).length) := by
  simp only [blankGo, h1, h2, Bool.false_eq_true, if_false]
theorem blankGo_line {f : Nat} {r : Bs} (h1 : Lib.hasPrefix (Lib.trimLeftS r ws) [47, 47] = true) (n : Nat) (hn : n = if Lib.indexByte (Lib.trimLeftS r ws) 10 < 0 then (Lib.trimLeftS r ws).length else (Lib.indexByte (Lib.trimLeftS r ws) 10).toNat) :
    blankGo (f + 1) r = ((blankGo f ((Lib.trimLeftS r ws).drop n)).1, r.length - (Lib.trimLeftS r ws).length + n + (blankGo f ((Lib.trimLeftS r ws).drop n)).2) := by
  subst hn
  simp only [blankGo, h1, if_true]
theorem blankGo_open {f : Nat} {r : Bs} (h1 : Lib.hasPrefix (Lib.trimLeftS r ws) [47, 47] = false) (h2 : Lib.hasPrefix (Lib.trimLeftS r ws) [47, 42] = true) (h3 : Lib.index ((Lib.trimLeftS r ws).drop 2) [42, 47] < 0) : blankGo (f + 1) r = (false, r.length - (Lib.trimLeftS r ws).length) := by
  simp only [blankGo, h1, h2, h3, if_true, Bool.false_eq_true, if_false]
theorem blankGo_rem {f : Nat} {r : Bs} (h1 : Lib.hasPrefix (Lib.trimLeftS r ws) [47, 47] = false) (h2 : Lib.hasPrefix (Lib.trimLeftS r ws) [47, 42] = true) (i : Nat) (h3 : Lib.index ((Lib.trimLeftS r ws).drop 2) [42, 47] = i) :
    blankGo (f + 1) r = ((blankGo f ((Lib.trimLeftS r ws).drop (i + 4))).1, r.length - (Lib.trimLeftS r ws).length + (i + 4) + (blankGo f ((Lib.trimLeftS r ws).drop (i + 4))).2) := by
  simp only [blankGo, h1, h2, h3, if_true, Bool.false_eq_true, if_false]
  rw [if_neg (by omega)]
  simp
theorem blankGo_nl {f : Nat} {r : Bs} {k : Nat} (h : blankGo (f + 1) (10 :: r) = (true, k)) : 1 ≤ k := by
  have hl := (dropWhile_eq (ws.contains ·) r).2
  have e : (10 :: r).length - (Lib.trimLeftS (10 :: r) ws).length ≥ 1 := by
    have : Lib.trimLeftS (10 :: r) ws = Lib.trimLeftS r ws := by
      unfold Lib.trimLeftS; rw [List.dropWhile_cons, if_pos (by decide)]
    rw [this]
    unfold Lib.trimLeftS
    simp only [List.length_cons]; omega
  cases h1 : Lib.hasPrefix (Lib.trimLeftS (10 :: r) ws) [47, 47] with
  | true => rw [blankGo_line h1 _ rfl] at h; have := (Prod.mk.inj h).2; omega
  | false =>
    cases h2 : Lib.hasPrefix (Lib.trimLeftS (10 :: r) ws) [47, 42] with
    | false => rw [blankGo_end h1 h2] at h; have := (Prod.mk.inj h).2; omega
    | true =>
      by_cases h3 : Lib.index ((Lib.trimLeftS (10 :: r) ws).drop 2) [42, 47] < 0
      · rw [blankGo_open h1 h2 h3] at h; have := (Prod.mk.inj h).1; simp at this
      · rw [blankGo_rem h1 h2 (Lib.index ((Lib.trimLeftS (10 :: r) ws).drop 2) [42, 47]).toNat (by omega)] at h; have := (Prod.mk.inj h).2; omega
theorem drop_trim (r : Bs) : r.drop (r.length - (Lib.trimLeftS r ws).length) = Lib.trimLeftS r ws := (dropWhile_eq (ws.contains ·) r).1.symm
theorem trim_le (r : Bs) : (Lib.trimLeftS r ws).length ≤ r.length := (dropWhile_eq (ws.contains ·) r).2
/-- What is blank is blank alone; behind it nothing is. -/
theorem blankGo_cut : ∀ (f : Nat) (r : Bs) (k : Nat), blankGo f r = (true, k) → r.length < f → (∀ f', k < f' → blankGo f' (r.take k) = (true, k)) ∧ (∀ f', (r.drop k).length < f' → blankGo f' (r.drop k) = (true, 0))
  | 0, r, k, h, hf => by omega
  | f + 1, r, k, h, hf => by
    have hle := trim_le r
    have hdt := drop_trim r
    have htt := trim_take r
    have h2t := trim_twice r
    cases h1 : Lib.hasPrefix (Lib.trimLeftS r ws) [47, 47] with
    | true =>
      have hl2 := (hasPrefix_two h1).1
      have hix := indexByte_lt 10 (Lib.trimLeftS r ws)
      have hge := Lib.indexByte_ge (Lib.trimLeftS r ws) 10
      have h22 := indexByte_two (c := 10) h1 (by decide) (by decide)
      obtain ⟨n, hn⟩ : ∃ n, n = if Lib.indexByte (Lib.trimLeftS r ws) 10 < 0 then (Lib.trimLeftS r ws).length else (Lib.indexByte (Lib.trimLeftS r ws) 10).toNat := ⟨_, rfl⟩
      have hn2 : 2 ≤ n ∧ n ≤ (Lib.trimLeftS r ws).length := by
        rw [hn]; split <;> omega
      rw [blankGo_line h1 n hn] at h
      generalize hR : Lib.trimLeftS r ws = R at *
      obtain ⟨e1, e2⟩ := Prod.mk.inj h
      obtain ⟨k', hk'⟩ : ∃ k', blankGo f (R.drop n) = (true, k') := ⟨(blankGo f (R.drop n)).2, Prod.ext e1 rfl⟩
      rw [hk'] at e2
      simp only at e2
      obtain ⟨i1, i2⟩ := blankGo_cut f (R.drop n) k' hk' (by rw [List.length_drop]; omega)
      have hkl : k' ≤ R.length - n := by have := blank_len f (R.drop n); rw [hk', List.length_drop] at this; exact this
      have hdk : r.drop k = (R.drop n).drop k' := by rw [List.drop_drop, ← hdt, List.drop_drop]; congr 1; omega
      refine ⟨fun f' hf' => ?_, fun f' hf' => ?_⟩
      · obtain ⟨g, rfl⟩ : ∃ g, f' = g + 1 := ⟨f' - 1, by omega⟩
        have ht : Lib.trimLeftS (r.take k) ws = R.take (n + k') := by rw [← htt (n + k')]; congr 2; omega
        have hp : Lib.hasPrefix (Lib.trimLeftS (r.take k) ws) [47, 47] = true := by rw [ht]; exact hasPrefix_long h1 (by simp; omega)
        have hd : (R.take (n + k')).drop n = (R.drop n).take k' := by rw [List.drop_take, Nat.add_sub_cancel_left]
        have hl : (R.take (n + k')).length = n + k' := by rw [List.length_take]; omega
        rw [blankGo_line hp n ?_, ht, hd, i1 g (by omega), List.length_take, hl]
        · refine Prod.ext rfl ?_
          simp only; omega
        · rw [ht]
          by_cases hneg : Lib.indexByte R 10 < 0
          · rw [if_pos hneg] at hn
            have : R.take (n + k') = R := List.take_of_length_le (by omega)
            rw [this, if_pos hneg]; exact hn
          · rw [if_neg hneg] at hn
            have hk1 : 1 ≤ k' := by
              have hnl : R.drop n = 10 :: R.drop (n + 1) := by
                have hlt : n < R.length := by omega
                have hg : R[n]'hlt = 10 := by
                  have : ∀ (l : Bs) (i : Nat) (hi : i < l.length), Lib.indexByte l 10 = i → l[i] = 10 := by
                    intro l
                    induction l with
                    | nil => intro i hi; simp at hi
                    | cons b l ih =>
                      intro i hi h
                      unfold Lib.indexByte at h
                      split at h
                      · rename_i hb
                        have : i = 0 := by omega
                        subst this
                        simpa using hb
                      · split at h
                        · omega
                        · rename_i g1 g2
                          have hge := Lib.indexByte_ge l 10
                          have hne1 : Lib.indexByte l 10 ≠ -1 := by simpa using g2
                          obtain ⟨j, rfl⟩ : ∃ j, i = j + 1 := ⟨i - 1, by omega⟩
                          simp only [List.getElem_cons_succ]
                          exact ih j (by simpa using hi) (by omega)
                  exact this R n hlt (by omega)
                rw [List.drop_eq_getElem_cons hlt, hg]
              rw [hnl] at hk'
              obtain ⟨f2, rfl⟩ : ∃ f2, f = f2 + 1 := ⟨f - 1, by omega⟩
              exact blankGo_nl hk'
            have := indexByte_take (c := 10) R n (n + k') (by omega) (by omega)
            rw [this, if_neg (by omega)]; simp
      · rw [hdk] at hf' ⊢
        exact i2 f' hf'
    | false =>
      cases h2 : Lib.hasPrefix (Lib.trimLeftS r ws) [47, 42] with
      | false =>
        rw [blankGo_end h1 h2] at h
        obtain ⟨-, e2⟩ := Prod.mk.inj h
        refine ⟨fun f' hf' => ?_, fun f' hf' => ?_⟩
        · obtain ⟨g, rfl⟩ : ∃ g, f' = g + 1 := ⟨f' - 1, by omega⟩
          have ht : Lib.trimLeftS (r.take k) ws = [] := by
            have := htt 0
            rw [Nat.add_zero, e2] at this
            rw [this]; simp
          rw [blankGo_end (by rw [ht]; rfl) (by rw [ht]; rfl), ht, List.length_take]
          refine Prod.ext rfl ?_
          simp only [List.length_nil]; omega
        · obtain ⟨g, rfl⟩ : ∃ g, f' = g + 1 := ⟨f' - 1, by omega⟩
          rw [← e2, hdt] at hf' ⊢
          rw [blankGo_end (by rw [h2t]; exact h1) (by rw [h2t]; exact h2), h2t, Nat.sub_self]
      | true =>
        by_cases h3 : Lib.index ((Lib.trimLeftS r ws).drop 2) [42, 47] < 0
        · rw [blankGo_open h1 h2 h3] at h; have := (Prod.mk.inj h).1; simp at this
        · have hl2 := (hasPrefix_two h2).1
          obtain ⟨i, hi⟩ : ∃ i : Nat, Lib.index ((Lib.trimLeftS r ws).drop 2) [42, 47] = i := ⟨(Lib.index ((Lib.trimLeftS r ws).drop 2) [42, 47]).toNat, by omega⟩
          have hil := index_le [42, 47] ((Lib.trimLeftS r ws).drop 2) (by omega)
          rw [hi, List.length_drop] at hil
          simp only [List.length_cons, List.length_nil] at hil
          rw [blankGo_rem h1 h2 i hi] at h
          generalize hR : Lib.trimLeftS r ws = R at *
          obtain ⟨e1, e2⟩ := Prod.mk.inj h
          obtain ⟨k', hk'⟩ : ∃ k', blankGo f (R.drop (i + 4)) = (true, k') := ⟨(blankGo f (R.drop (i + 4))).2, Prod.ext e1 rfl⟩
          rw [hk'] at e2
          simp only at e2
          obtain ⟨i1, i2⟩ := blankGo_cut f (R.drop (i + 4)) k' hk' (by rw [List.length_drop]; omega)
          have hkl : k' ≤ R.length - (i + 4) := by have := blank_len f (R.drop (i + 4)); rw [hk', List.length_drop] at this; exact this
          have hdk : r.drop k = (R.drop (i + 4)).drop k' := by rw [List.drop_drop, ← hdt, List.drop_drop]; congr 1; omega
          refine ⟨fun f' hf' => ?_, fun f' hf' => ?_⟩
          · obtain ⟨g, rfl⟩ : ∃ g, f' = g + 1 := ⟨f' - 1, by omega⟩
            have ht : Lib.trimLeftS (r.take k) ws = R.take (i + 4 + k') := by rw [← htt (i + 4 + k')]; congr 2; omega
            have hp : Lib.hasPrefix (Lib.trimLeftS (r.take k) ws) [47, 42] = true := by rw [ht]; exact hasPrefix_long h2 (by simp; omega)
            have hp1 : Lib.hasPrefix (Lib.trimLeftS (r.take k) ws) [47, 47] = false := by
              cases hh : Lib.hasPrefix (Lib.trimLeftS (r.take k) ws) [47, 47] with
              | false => rfl
              | true => rw [ht] at hh; rw [hasPrefix_take hh] at h1; cases h1
            have hd : (R.take (i + 4 + k')).drop (i + 4) = (R.drop (i + 4)).take k' := by rw [List.drop_take, Nat.add_sub_cancel_left]
            have hl : (R.take (i + 4 + k')).length = i + 4 + k' := by rw [List.length_take]; omega
            rw [blankGo_rem hp1 hp i ?_, ht, hd, i1 g (by omega), List.length_take, hl]
            · refine Prod.ext rfl ?_
              simp only; omega
            · rw [ht, List.drop_take]
              exact index_take _ i _ hi (by simp; omega)
          · rw [hdk] at hf' ⊢
            exact i2 f' hf'
theorem blank_cut {r : Bs} {k : Nat} (h : blankF r = (true, k)) : blankF (r.take k) = (true, k) ∧ blankF (r.drop k) = (true, 0) ∧ k ≤ r.length := by
  have hk := blank_len (r.length + 1) r
  have hk : k ≤ r.length := by have e : (blankGo (r.length + 1) r).2 = k := by unfold blankF at h; rw [h]
                               omega
  obtain ⟨h1, h2⟩ := blankGo_cut _ _ _ h (by omega)
  exact ⟨h1 _ (by rw [List.length_take]; omega), h2 _ (by omega), hk⟩
/-- Where nothing blank stands in front, none does in a part. -/
theorem blank_zero_take {r : Bs} {n : Nat} (hr : 0 < r.length) (hn : 1 ≤ n) (h : blankF r = (true, 0)) : blankF (r.take n) = (true, 0) := by
  unfold blankF at h ⊢
  have hle := trim_le r
  have hdt := drop_trim r
  -- no blank byte in front
  have ht0 : Lib.trimLeftS r ws = r ∧ Lib.hasPrefix r [47, 47] = false ∧ Lib.hasPrefix r [47, 42] = false := by
    cases h1 : Lib.hasPrefix (Lib.trimLeftS r ws) [47, 47] with
    | true =>
      have hl2 := (hasPrefix_two h1).1
      have h22 := indexByte_two (c := 10) h1 (by decide) (by decide)
      have hge := Lib.indexByte_ge (Lib.trimLeftS r ws) 10
      rw [blankGo_line h1 _ rfl] at h
      have := (Prod.mk.inj h).2
      split at this <;> omega
    | false =>
      cases h2 : Lib.hasPrefix (Lib.trimLeftS r ws) [47, 42] with
      | true =>
        by_cases h3 : Lib.index ((Lib.trimLeftS r ws).drop 2) [42, 47] < 0
        · rw [blankGo_open h1 h2 h3] at h; have := (Prod.mk.inj h).1; simp at this
        · rw [blankGo_rem h1 h2 (Lib.index ((Lib.trimLeftS r ws).drop 2) [42, 47]).toNat (by omega)] at h; have := (Prod.mk.inj h).2; omega
      | false =>
        rw [blankGo_end h1 h2] at h
        have e := (Prod.mk.inj h).2
        rw [e, List.drop_zero] at hdt
        rw [← hdt] at h1 h2
        exact ⟨hdt.symm, h1, h2⟩
  obtain ⟨e, h1, h2⟩ := ht0
  have et : Lib.trimLeftS (r.take n) ws = r.take n := by
    have := trim_take r n
    rw [e, Nat.sub_self, Nat.zero_add] at this
    exact this
  have np : ∀ p, Lib.hasPrefix r p = false → Lib.hasPrefix (r.take n) p = false := fun p hp => by
    cases hh : Lib.hasPrefix (r.take n) p with
    | false => rfl
    | true => rw [hasPrefix_take hh] at hp; cases hp
  rw [blankGo_end (by rw [et]; exact np _ h1) (by rw [et]; exact np _ h2), et, Nat.sub_self]
/-- The tokens stand one behind the other; each alone is itself; what lies between has none. -/
def Chain (s : Bs) (M : Int) : Nat → List Tok → Prop
  | a, [] => allF (s.drop a) M = ([], (0, 0))
  | a, t :: l => a ≤ t.at' ∧ t.at' < t.fin ∧ t.fin ≤ s.length ∧ allF (cut s a t.at') M = ([], (0, 0)) ∧ allF (cut s t.at' t.fin) M = ([⟨t.kind, t.text, t.n, 0, t.fin - t.at'⟩], (0, 0)) ∧ Chain s M t.fin l
theorem allF_blank {r : Bs} {M : Int} (h : blankF r = (true, r.length)) : allF r M = ([], (0, 0)) := by
  unfold allF allGo
  rw [h]
  simp
theorem blankF_nil : blankF [] = (true, 0) := blankGo_nil 0
theorem chain_of (s : Bs) (M : Int) (hM : 0 < M) : ∀ (f : Nat) (most : Int) (a : Nat) (l : List Tok) (p : Nat), allGo f most a (s.drop a) = (l, (p, 0)) → s.length < a + f → a ≤ s.length → Chain s M a l
  | 0, most, a, l, p, h, hf, ha => by omega
  | f + 1, most, a, l, p, h, hf, ha => by
    rw [allGo] at h
    split at h
    · have := congrArg (fun x => x.2.2) h; simp at this
    · rename_i hb
      obtain ⟨k, hk⟩ : ∃ k, blankF (s.drop a) = (true, k) := ⟨(blankF (s.drop a)).2, Prod.ext (by simpa using hb) rfl⟩
      obtain ⟨c1, c2, c3⟩ := blank_cut hk
      rw [List.length_drop] at c3
      rw [hk] at h
      simp only at h
      split at h
      · rename_i hnil
        have hl : l = [] := (congrArg (fun x => x.1) h).symm
        subst hl
        have hlen := congrArg List.length hnil
        rw [List.length_drop, List.length_drop, List.length_nil] at hlen
        show allF (s.drop a) M = ([], (0, 0))
        exact allF_blank (by rw [hk, List.length_drop]; congr 1; omega)
      · rename_i hnil
        rw [List.drop_drop] at h hnil c2
        have hpos := List.length_pos_iff.2 hnil
        split at h
        · rename_i q e hx
          have := nextF_bad hx
          have h0 : e = 0 := congrArg (fun x => x.2.2) h
          omega
        · rename_i t hx
          obtain ⟨t1, t2, t3⟩ := nextF_tok hpos hx
          rw [List.length_drop] at t3 hpos
          have hdr : (s.drop (a + k)).drop (t.fin - (a + k)) = s.drop t.fin := by rw [List.drop_drop]; congr 1; omega
          rw [hdr] at h
          have hl : l = t :: (allGo f (most - 1) t.fin (s.drop t.fin)).1 := (congrArg (fun x => x.1) h).symm
          have h2 : (allGo f (most - 1) t.fin (s.drop t.fin)).2 = (p, 0) := congrArg (fun x => x.2) h
          subst hl
          refine ⟨by omega, by omega, by omega, ?_, ?_, chain_of s M hM f (most - 1) t.fin _ p (Prod.ext rfl h2) (by omega) (by omega)⟩
          · rw [t1, cut_mid, Nat.add_sub_cancel_left]
            exact allF_blank (by rw [c1, List.length_take, List.length_drop]; congr 1; omega)
          · rw [t1, cut_mid]
            have hx2 := next_take (by rw [List.length_drop]; exact hpos) hx
            have hlen : ((s.drop (a + k)).take (t.fin - (a + k))).length = t.fin - (a + k) := by rw [List.length_take, List.length_drop]; omega
            have hb0 := blank_zero_take (n := t.fin - (a + k)) (by rw [List.length_drop]; exact hpos) (by omega) c2
            obtain ⟨g, hg⟩ : ∃ g, t.fin - (a + k) = g + 1 := ⟨t.fin - (a + k) - 1, by omega⟩
            unfold allF
            rw [hlen, allGo, hb0]
            simp only [Bool.true_eq_false, if_false, Nat.add_zero, List.drop_zero, Nat.sub_zero]
            rw [if_neg (fun g => by rw [g] at hlen; simp at hlen; omega), show decide (0 < M) = true by simpa using hM, hx2]
            simp only [Nat.sub_zero]
            rw [show ((s.drop (a + k)).take (t.fin - (a + k))).drop (t.fin - (a + k)) = [] from List.drop_eq_nil_of_le (by omega), hg, allGo, blankF_nil]
            simp
/-! ### Where it goes wrong -/
theorem blank_bad : ∀ (f : Nat) (r : Bs) (k : Nat), blankGo f r = (false, k) → r.length < f → k < r.length
  | 0, r, k, h, hf => by omega
  | f + 1, r, k, h, hf => by
    have hle := trim_le r
    cases h1 : Lib.hasPrefix (Lib.trimLeftS r ws) [47, 47] with
    | true =>
      have hl2 := (hasPrefix_two h1).1
      have hix := indexByte_lt 10 (Lib.trimLeftS r ws)
      have hge := Lib.indexByte_ge (Lib.trimLeftS r ws) 10
      have h22 := indexByte_two (c := 10) h1 (by decide) (by decide)
      obtain ⟨n, hn⟩ : ∃ n, n = if Lib.indexByte (Lib.trimLeftS r ws) 10 < 0 then (Lib.trimLeftS r ws).length else (Lib.indexByte (Lib.trimLeftS r ws) 10).toNat := ⟨_, rfl⟩
      have hn2 : 2 ≤ n ∧ n ≤ (Lib.trimLeftS r ws).length := by
        rw [hn]; split <;> omega
      rw [blankGo_line h1 n hn] at h
      obtain ⟨e1, e2⟩ := Prod.mk.inj h
      have h5 : (blankGo f ((Lib.trimLeftS r ws).drop n)).2 < ((Lib.trimLeftS r ws).drop n).length := blank_bad f _ _ (Prod.ext e1 rfl) (by rw [List.length_drop]; omega)
      rw [List.length_drop] at h5
      omega
    | false =>
      cases h2 : Lib.hasPrefix (Lib.trimLeftS r ws) [47, 42] with
      | false => rw [blankGo_end h1 h2] at h; have := (Prod.mk.inj h).1; simp at this
      | true =>
        have hl2 := (hasPrefix_two h2).1
        by_cases h3 : Lib.index ((Lib.trimLeftS r ws).drop 2) [42, 47] < 0
        · rw [blankGo_open h1 h2 h3] at h; have := (Prod.mk.inj h).2; omega
        · obtain ⟨i, hi⟩ : ∃ i : Nat, Lib.index ((Lib.trimLeftS r ws).drop 2) [42, 47] = i := ⟨(Lib.index ((Lib.trimLeftS r ws).drop 2) [42, 47]).toNat, by omega⟩
          rw [blankGo_rem h1 h2 i hi] at h
          obtain ⟨e1, e2⟩ := Prod.mk.inj h
          have h5 : (blankGo f ((Lib.trimLeftS r ws).drop (i + 4))).2 < ((Lib.trimLeftS r ws).drop (i + 4)).length := blank_bad f _ _ (Prod.ext e1 rfl) (by rw [List.length_drop]; omega)
          rw [List.length_drop] at h5
          omega
theorem textGo_err : ∀ (f : Nat) (r : Bs) (esc : Bool) (acc : Bs) (p q : Nat), textGo f r esc acc p = .err q → q = 0 ∨ q < p + r.length
  | 0, r, esc, acc, p, q, h => by simp [textGo] at h; omega
  | f + 1, r, esc, acc, p, q, h => by
    unfold textGo at h
    split at h
    · cases h; exact .inl rfl
    · rename_i hne
      have hl := List.length_pos_iff.2 hne
      have hd := Lib.decodeL_le r hne
      split at h
      · split at h
        · cases h; right; omega
        · rcases textGo_err f _ _ _ _ _ h with h | h
          · exact .inl h
          · rw [List.length_drop] at h; right; omega
      · split at h
        · cases h
        · split at h
          · rcases textGo_err f _ _ _ _ _ h with h | h
            · exact .inl h
            · rw [List.length_drop] at h; right; omega
          · split at h
            · cases h; right; omega
            · rcases textGo_err f _ _ _ _ _ h with h | h
              · exact .inl h
              · rw [List.length_drop] at h; right; omega
theorem nextF_place {a : Nat} {r : Bs} {room : Bool} {p e : Nat} (h0 : 0 < r.length) (h : nextF a r room = .bad p e) : p < a + r.length := by
  rw [nextF_eq] at h
  split at h
  · cases h; omega
  · split at h
    · cases h; omega
    · split at h
      · cases h
      · split at h
        · unfold textR at h
          split at h
          · rename_i q hx
            cases h
            have := textGo_err _ _ _ _ _ _ hx
            rw [List.length_drop] at this
            omega
          · cases h
        · split at h
          · unfold numberR at h
            split at h
            · cases h; omega
            · cases h
          · cases h
theorem all_place (s : Bs) : ∀ (f : Nat) (most : Int) (a : Nat) (l : List Tok) (p c : Nat), allGo f most a (s.drop a) = (l, (p, c)) → c ≠ 0 → a ≤ s.length → p < s.length
  | 0, most, a, l, p, c, h, hc, ha => by have : c = 0 := (congrArg (fun x => x.2.2) h).symm; omega
  | f + 1, most, a, l, p, c, h, hc, ha => by
    rw [allGo] at h
    split at h
    · rename_i hb
      have := blank_bad _ (s.drop a) (blankF (s.drop a)).2 (Prod.ext hb rfl) (by omega)
      rw [List.length_drop] at this
      have h2 : a + (blankF (s.drop a)).2 = p := congrArg (fun x => x.2.1) h
      omega
    · rename_i hb
      have hbl := blank_len ((s.drop a).length + 1) (s.drop a)
      have hbl : (blankF (s.drop a)).2 ≤ (s.drop a).length := hbl
      rw [List.length_drop] at hbl
      generalize (blankF (s.drop a)).2 = k at h hbl
      simp only at h
      split at h
      · have : c = 0 := (congrArg (fun x => x.2.2) h).symm
        omega
      · rename_i hnil
        rw [List.drop_drop] at h hnil
        have hpos := List.length_pos_iff.2 hnil
        split at h
        · rename_i q e hx
          have h1 := nextF_place hpos hx
          rw [List.length_drop] at h1 hpos
          have h2 : q = p := congrArg (fun x => x.2.1) h
          omega
        · rename_i t hx
          obtain ⟨t1, t2, t3⟩ := nextF_tok hpos hx
          rw [List.length_drop] at t3 hpos
          have hdr : (s.drop (a + k)).drop (t.fin - (a + k)) = s.drop t.fin := by rw [List.drop_drop]; congr 1; omega
          rw [hdr] at h
          have h2 : (allGo f (most - 1) t.fin (s.drop t.fin)).2 = (p, c) := congrArg (fun x => x.2) h
          exact all_place s f (most - 1) t.fin _ p c (Prod.ext rfl h2) hc (by omega)
theorem all_err {s : Bs} {M : Int} (h : (allF s M).2.2 ≠ 0) : (allF s M).2.1 < s.length := all_place s _ M 0 (allF s M).1 _ _ (by rw [List.drop_zero]; rfl) h (by omega)
theorem all_chain {s : Bs} {M : Int} (hM : 0 < M) (h : (allF s M).2.2 = 0) : Chain s M 0 (allF s M).1 := chain_of s M hM _ M 0 _ (allF s M).2.1 (by rw [List.drop_zero]; exact Prod.ext rfl (Prod.ext rfl h)) (by omega) (by omega)
end Go.PM.Lex
end

section
set_option maxRecDepth 100000
namespace Go.PM.Lex
/-! ### A token with a blank behind it -/
theorem dN_app {len len' b0 b1 b2 b3 b1' b2' b3' : Nat} (hl : len ≤ len') (h1 : 1 < len → b1' = b1) (h2 : 2 < len → b2' = b2) (h3 : 3 < len → b3' = b3) (hv : Lib.decodeN len b0 b1 b2 b3 ≠ (65533, 1)) :
    Lib.decodeN len' b0 b1' b2' b3' = Lib.decodeN len b0 b1 b2 b3 := by
  rcases Lib.decodeN_shape len b0 b1 b2 b3 with ⟨c, e⟩ | ⟨c1, c2, c3, cv, e⟩ | ⟨c1, c2, c3, c4, cv, cs, e⟩ | ⟨c1, c2, c3, c4, c5, cv, cw, e⟩ | e
  · rw [e]; unfold Lib.decodeN; rw [if_pos c]
  · rw [e, h1 (by omega)]
    unfold Lib.decodeN
    rw [if_neg (by omega), if_pos ⟨c1, by omega, c3⟩, if_pos (by omega)]
  · rw [e, h1 (by omega), h2 (by omega)]
    unfold Lib.decodeN
    rw [if_neg (by omega), if_neg (by omega), if_pos ⟨c1, ⟨by omega, c3⟩, by omega, c4⟩, if_pos ⟨by omega, by omega⟩]
  · rw [e, h1 (by omega), h2 (by omega), h3 (by omega)]
    unfold Lib.decodeN
    rw [if_neg (by omega), if_neg (by omega), if_neg (by omega), if_pos ⟨c1, ⟨by omega, c3⟩, ⟨by omega, c4⟩, by omega, c5⟩, if_pos ⟨by omega, by omega⟩]
  · exact absurd e hv
theorem getD_app (x y : Bs) (k : Nat) (h : k < x.length) : (x ++ y).getD k 0 = x.getD k 0 := by
  simp only [List.getD_eq_getElem?_getD]; rw [List.getElem?_append_left h]
theorem dec_app {x y : Bs} (hx : x ≠ []) (hv : Lib.decodeL x ≠ (65533, 1)) : Lib.decodeL (x ++ y) = Lib.decodeL x := by
  have hpos := List.length_pos_iff.2 hx
  rw [Lib.decodeL_N] at hv ⊢
  rw [Lib.decodeL_N, getD_app x y 0 hpos]
  exact dN_app (by rw [List.length_append]; omega) (fun h => by rw [getD_app x y 1 h]) (fun h => by rw [getD_app x y 2 h]) (fun h => by rw [getD_app x y 3 h]) hv
theorem pk_app {x y : Bs} (h : (pk x).1 ≠ -1) : pk (x ++ y) = pk x := by
  have hx := (pk_le x h).2.2
  unfold pk at h ⊢
  split at h
  · exact absurd rfl h
  · rename_i g
    rw [if_neg g]
    simp only [not_or] at g
    have e := dec_app (y := y) hx g.2
    rw [e, if_neg (by simp only [not_or]; exact ⟨by simp [hx], g.2⟩)]
theorem pk_sp (z : Bs) : pk (32 :: z) = (32, 1) := by
  have e : Lib.decodeL (32 :: z) = (32, 1) := by
    rw [Lib.decodeL_N]; unfold Lib.decodeN; rw [if_pos (by simp)]; simp
  unfold pk
  rw [e]; simp
theorem nameGo_sp (f : Nat) (z : Bs) : nameGo (f + 1) (32 :: z) = 0 := nameGo_end (by rw [pk_sp]; decide) (by rw [pk_sp]; decide) (by rw [pk_sp]; decide)
theorem nameGo_ext {z : Bs} : ∀ (f : Nat) (x : Bs), nameGo f x = x.length → ∀ f', x.length < f' → nameGo f' (x ++ 32 :: z) = x.length
  | 0, x, h, f', hf => by
    have hx : x = [] := List.eq_nil_of_length_eq_zero h.symm
    subst hx
    obtain ⟨g, rfl⟩ : ∃ g, f' = g + 1 := ⟨f' - 1, by omega⟩
    exact nameGo_sp g z
  | f + 1, x, h, f', hf => by
    obtain ⟨g, rfl⟩ : ∃ g, f' = g + 1 := ⟨f' - 1, by omega⟩
    by_cases hx : x = []
    · subst hx; exact nameGo_sp g z
    · have hpos := List.length_pos_iff.2 hx
      have step : ∀ (hne : (pk x).1 ≠ -1), nameGo (f + 1) x = (pk x).2 + nameGo f (x.drop (pk x).2) → pk (x ++ 32 :: z) = pk x ∧ (x ++ 32 :: z).drop (pk x).2 = x.drop (pk x).2 ++ 32 :: z ∧ (pk x).2 + nameGo g (x.drop (pk x).2 ++ 32 :: z) = x.length := fun hne e => by
        obtain ⟨h1, h2, h3⟩ := pk_le x hne
        refine ⟨pk_app hne, by rw [List.drop_append_of_le_length h2], ?_⟩
        have := nameGo_ext (z := z) f (x.drop (pk x).2) (by rw [List.length_drop]; omega) g (by rw [List.length_drop]; omega)
        rw [this, List.length_drop]; omega
      by_cases h1 : (pk x).1 = 46
      · by_cases h2 : isLetter (pk (x.drop 1)).1 = true
        · have e := nameGo_dot (f := f) h1 h2
          obtain ⟨s1, s2, s3⟩ := step (by omega) e
          have hlow := pk_low x (by omega) (by omega)
          rw [nameGo_dot (f := g) (by rw [s1]; exact h1) (by rw [hlow.2.2] at s2; rw [s2, pk_app (letter_ne (.inl h2))]; exact h2), s1, s2, s3]
        · have e := nameGo_dotend (f := f) h1 (by simpa using h2)
          omega
      · by_cases h2 : isLetter (pk x).1 = true ∨ isDigit (pk x).1 = true
        · have e := nameGo_on (f := f) h1 h2
          obtain ⟨s1, s2, s3⟩ := step (letter_ne h2) e
          rw [nameGo_on (f := g) (by rw [s1]; exact h1) (by rw [s1]; exact h2), s1, s2, s3]
        · simp only [not_or, Bool.not_eq_true] at h2
          have e := nameGo_end (f := f) h1 h2.1 h2.2
          omega
theorem textGo_ext {y : Bs} : ∀ (f : Nat) (x : Bs) (esc : Bool) (acc : Bs) (p : Nat) (t : Bs) (l : Nat), textGo f x esc acc p = .ok t l → ∀ f', x.length < f' → textGo f' (x ++ y) esc acc p = .ok t l
  | 0, x, esc, acc, p, t, l, h, f', hf => by simp [textGo] at h
  | f + 1, x, esc, acc, p, t, l, h, f', hf => by
    obtain ⟨g, rfl⟩ : ∃ g, f' = g + 1 := ⟨f' - 1, by omega⟩
    unfold textGo at h
    split at h
    · cases h
    · rename_i hne
      have hd := Lib.decodeL_le x hne
      have hr := dec_rng x
      have hne' : ¬ x ++ y = [] := by simp [hne]
      have hdr : (x ++ y).drop (Lib.decodeL x).2 = x.drop (Lib.decodeL x).2 ++ y := List.drop_append_of_le_length hd
      have low : (Lib.decodeL x).1 < 128 → Lib.decodeL (x ++ y) = Lib.decodeL x := fun h => dec_app hne (fun g => by rw [g] at h; simp at h)
      have rec' : ∀ es ac, textGo f (x.drop (Lib.decodeL x).2) es ac (p + (Lib.decodeL x).2) = .ok t l → textGo g ((x ++ y).drop (Lib.decodeL x).2) es ac (p + (Lib.decodeL x).2) = .ok t l := fun es ac h => by
        rw [hdr]; exact textGo_ext f _ _ _ _ _ _ h g (by rw [List.length_drop]; omega)
      unfold textGo
      rw [if_neg hne']
      split at h
      · rename_i he
        rw [if_pos he]
        split at h
        · cases h
        · rename_i b hb
          have hlow : (Lib.decodeL x).1 < 128 := by
            unfold escB at hb
            repeat' split at hb
            all_goals first | omega | cases hb
          rw [low hlow, hb]
          exact rec' _ _ h
      · rename_i he
        rw [if_neg he]
        split at h
        · rename_i h34
          rw [low (by omega), if_pos h34]; exact h
        · rename_i h34
          split at h
          · rename_i h92
            rw [low (by omega), if_neg h34, if_pos h92]
            exact rec' _ _ h
          · rename_i h92
            split at h
            · cases h
            · rename_i h32
              have hv : Lib.decodeL x ≠ (65533, 1) := fun g => by
                apply h32
                unfold pk; rw [if_pos (.inr g)]; decide
              have e : pk (x ++ y) = pk x := pk_app (by omega)
              rw [dec_app hne hv, if_neg h34, if_neg h92, e, if_neg h32]
              exact rec' _ _ h
theorem takeWhile_all_app (p : UInt8 → Bool) (z : Bs) (hz : p 32 = false) : ∀ l : Bs, (l.takeWhile p).length = l.length → (l ++ 32 :: z).takeWhile p = l
  | [], _ => by simp [List.takeWhile_cons, hz]
  | b :: l, h => by
    by_cases hb : p b = true
    · simp only [List.takeWhile_cons, hb, if_true, List.length_cons, List.cons_append] at h ⊢
      rw [takeWhile_all_app p z hz l (by omega)]
    · simp [List.takeWhile_cons, hb] at h
theorem hasPrefix_app {x y p : Bs} (h : Lib.hasPrefix x p = true) : Lib.hasPrefix (x ++ y) p = true := by
  unfold Lib.hasPrefix at h ⊢
  rw [List.isPrefixOf_iff_prefix] at h ⊢
  exact h.trans (List.prefix_append x y)
/-- Two bytes in front of a text with a blank behind it stand in the text. -/
theorem hasPrefix_sp {x z : Bs} {a b : UInt8} (hx : x ≠ []) (hb : b ≠ 32) (h : Lib.hasPrefix (x ++ 32 :: z) [a, b] = true) : Lib.hasPrefix x [a, b] = true := by
  match x, hx with
  | [c], _ =>
    simp only [Lib.hasPrefix, List.cons_append, List.nil_append, List.isPrefixOf, Bool.and_true, Bool.and_eq_true, beq_iff_eq] at h
    exact absurd h.2 hb
  | c :: d :: l, _ =>
    simpa [Lib.hasPrefix, List.isPrefixOf] using h
theorem number_ext {x z : Bs} {v : Nat} (h : numberF x = some v) (hl : numLen x = x.length) : numberF (x ++ 32 :: z) = some v ∧ numLen (x ++ 32 :: z) = x.length := by
  have hne : numDigits x ≠ [] := fun g => by rw [numberF, if_pos g] at h; cases h
  have hxne : x ≠ [] := fun g => by subst g; exact hne (by decide)
  have hx : isHex (x ++ 32 :: z) = isHex x := by
    cases hh : isHex x with
    | true => exact hasPrefix_app hh
    | false =>
      cases hh2 : isHex (x ++ 32 :: z) with
      | false => rfl
      | true => have := hasPrefix_sp hxne (by decide) hh2; unfold isHex at hh; rw [this] at hh; cases hh
  have h32 : ∀ hex, digB hex 32 = false := by decide
  have hk : (if isHex x = true then 2 else 0) ≤ x.length := by
    split
    · rename_i g; exact (hasPrefix_two g).1
    · omega
  have hd : numDigits (x ++ 32 :: z) = numDigits x := by
    have e : (numDigits x).length = (x.drop (if isHex x = true then 2 else 0)).length := by rw [List.length_drop]; unfold numLen at hl; omega
    unfold numDigits at e ⊢
    rw [hx, List.drop_append_of_le_length hk, takeWhile_all_app _ _ (h32 _) _ e]
    rw [takeWhile_take, e, List.take_length]
  have hl2 : numLen (x ++ 32 :: z) = x.length := by
    rw [← hl]; unfold numLen; rw [hx, hd]
  refine ⟨?_, hl2⟩
  have hnil : (x ++ 32 :: z).drop x.length = 32 :: z := by simp
  unfold numberF at h ⊢
  rw [hd, hl2, hnil, hx]
  rw [if_neg hne] at h ⊢
  generalize (if isHex x = true then 18446744073709551616 else 9223372036854775808) = L at h ⊢
  generalize numV (if isHex x = true then 16 else 10) (numDigits x) = V at h ⊢
  split at h
  · cases h
  · rename_i g1
    rw [if_neg g1]
    split at h
    · cases h
    · rename_i g2
      simp only [not_or] at g2
      rw [if_neg]
      · exact h
      · simp only [not_or]
        exact ⟨by rw [pk_sp]; decide, by rw [pk_sp]; decide, g2.2.2⟩
theorem twos_sp {x z : Bs} (hx : x ≠ []) (h : twos.any (Lib.hasPrefix (x ++ 32 :: z)) = true) : twos.any (Lib.hasPrefix x) = true := by
  simp only [twos, List.any_cons, List.any_nil, Bool.or_false, Bool.or_eq_true] at h ⊢
  rcases h with h | h | h | h | h
  · exact .inl (hasPrefix_sp hx (by decide) h)
  · exact .inr (.inl (hasPrefix_sp hx (by decide) h))
  · exact .inr (.inr (.inl (hasPrefix_sp hx (by decide) h)))
  · exact .inr (.inr (.inr (.inl (hasPrefix_sp hx (by decide) h))))
  · exact .inr (.inr (.inr (.inr (hasPrefix_sp hx (by decide) h))))
theorem sign_ext {x z : Bs} (hx : x ≠ []) : signF (x ++ 32 :: z) = signF x := by
  have hpos := List.length_pos_iff.2 hx
  unfold signF
  rw [getD_app x _ 0 hpos]
  cases h : twos.any (Lib.hasPrefix x) with
  | true =>
    have : twos.any (Lib.hasPrefix (x ++ 32 :: z)) = true := by
      rw [List.any_eq_true] at h ⊢
      obtain ⟨p, hp, hq⟩ := h
      exact ⟨p, hp, hasPrefix_app hq⟩
    rw [if_pos this, if_pos rfl]
  | false =>
    have : ¬ twos.any (Lib.hasPrefix (x ++ 32 :: z)) = true := fun g => by rw [twos_sp hx g] at h; cases h
    rw [if_neg this, if_neg (show ¬ (false = true) by simp)]
/-- A token alone, with a blank behind it, is that token. -/
theorem next_ext {x z : Bs} {a n : Nat} {k : Nat} {tx : Bs} {v : Int} (hx : x ≠ []) (h : nextF 0 x true = .tok ⟨k, tx, v, 0, x.length⟩) : nextF a (x ++ 32 :: z) true = .tok ⟨k, tx, v, a, a + x.length⟩ := by
  have hpos := List.length_pos_iff.2 hx
  rw [nextF_eq] at h ⊢
  rw [sign_ext hx]
  split at h
  · cases h
  · rename_i g0
    rw [if_neg (by simp)] at h
    split at h
    · rename_i g1
      simp only [NR.tok.injEq, Tok.mk.injEq] at h
      obtain ⟨e1, e2, e3, -, e4⟩ := h
      rw [if_neg (fun g => by omega), if_neg (by simp), if_pos g1, ← e1, ← e2, ← e3, ← e4, Nat.zero_add]
      rw [List.take_append_of_le_length (by omega)]
    · rename_i g1
      have hs : signF x = 0 := by omega
      split at h
      · rename_i g2
        have hpk : pk (x ++ 32 :: z) = pk x := pk_app (by omega)
        unfold textR at h
        split at h
        · cases h
        · rename_i t l ht
          simp only [NR.tok.injEq, Tok.mk.injEq] at h
          obtain ⟨e1, e2, e3, -, e4⟩ := h
          have ht' : textF (x ++ 32 :: z) = .ok t l := by
            unfold textF at ht ⊢
            rw [List.drop_append_of_le_length hpos]
            exact textGo_ext _ _ _ _ _ _ _ ht _ (by rw [List.length_drop, List.length_append]; omega)
          rw [hpk, if_neg (fun g => g.2.1 g2), if_neg (by simp), if_neg (by omega), if_pos g2, textR, ht', ← e1, ← e2, ← e3, ← e4, Nat.zero_add]
      · rename_i g2
        split at h
        · rename_i g3
          have hpk : pk (x ++ 32 :: z) = pk x := pk_app (letter_ne (.inr g3))
          unfold numberR at h
          split at h
          · cases h
          · rename_i n hn
            simp only [NR.tok.injEq, Tok.mk.injEq] at h
            obtain ⟨e1, e2, e3, -, e4⟩ := h
            obtain ⟨h1, h2⟩ := number_ext (z := z) hn (by omega)
            rw [hpk, if_neg (fun g => by rw [g3] at g; simp at g), if_neg (by simp), if_neg (by omega), if_neg g2, if_pos g3, numberR, h1, h2, ← e1, ← e2, ← e3]
        · rename_i g3
          have h4 : isLetter (pk x).1 = true := by
            cases hb : isLetter (pk x).1 with
            | true => rfl
            | false => exact absurd ⟨hs, g2, hb, by simpa using g3⟩ g0
          have hpk : pk (x ++ 32 :: z) = pk x := pk_app (letter_ne (.inl h4))
          simp only [NR.tok.injEq, Tok.mk.injEq] at h
          obtain ⟨e1, e2, e3, -, e4⟩ := h
          have hn : nameF (x ++ 32 :: z) = x.length := nameGo_ext (x.length + 1) x (by unfold nameF at e4; omega) _ (by rw [List.length_append]; omega)
          rw [hpk, if_neg (fun g => by rw [h4] at g; simp at g), if_neg (by simp), if_neg (by omega), if_neg g2, if_neg g3, hn, ← e1, ← e2, ← e3]
          rw [show nameF x = x.length by omega, List.take_append_of_le_length (Nat.le_refl _)]
end Go.PM.Lex
end

section
set_option maxRecDepth 100000
namespace Go.PM.Lex
/-- Nothing blank stands in front. -/
def Bare (y : Bs) : Prop := Lib.trimLeftS y ws = y ∧ Lib.hasPrefix y [47, 47] = false ∧ Lib.hasPrefix y [47, 42] = false
theorem bare_of {r : Bs} (h : blankF r = (true, 0)) : Bare r := by
  unfold blankF at h
  have hle := trim_le r
  have hdt := drop_trim r
  cases h1 : Lib.hasPrefix (Lib.trimLeftS r ws) [47, 47] with
  | true =>
    have hl2 := (hasPrefix_two h1).1
    have h22 := indexByte_two (c := 10) h1 (by decide) (by decide)
    have hge := Lib.indexByte_ge (Lib.trimLeftS r ws) 10
    rw [blankGo_line h1 _ rfl] at h
    have := (Prod.mk.inj h).2
    split at this <;> omega
  | false =>
    cases h2 : Lib.hasPrefix (Lib.trimLeftS r ws) [47, 42] with
    | true =>
      by_cases h3 : Lib.index ((Lib.trimLeftS r ws).drop 2) [42, 47] < 0
      · rw [blankGo_open h1 h2 h3] at h; have := (Prod.mk.inj h).1; simp at this
      · rw [blankGo_rem h1 h2 (Lib.index ((Lib.trimLeftS r ws).drop 2) [42, 47]).toNat (by omega)] at h; have := (Prod.mk.inj h).2; omega
    | false =>
      rw [blankGo_end h1 h2] at h
      have e := (Prod.mk.inj h).2
      rw [e, List.drop_zero] at hdt
      rw [← hdt] at h1 h2
      exact ⟨hdt.symm, h1, h2⟩
theorem bare_blank {y : Bs} (h : Bare y) (f : Nat) : blankGo (f + 1) y = (true, 0) := by
  obtain ⟨h1, h2, h3⟩ := h
  rw [blankGo_end (by rw [h1]; exact h2) (by rw [h1]; exact h3), h1, Nat.sub_self]
theorem bare_ext {r z : Bs} {n : Nat} (hr : 0 < r.length) (hn : 1 ≤ n) (h : Bare r) : Bare (r.take n ++ 32 :: z) := by
  obtain ⟨h1, h2, h3⟩ := h
  match r, hr with
  | b :: r, _ =>
    obtain ⟨n, rfl⟩ : ∃ k, n = k + 1 := ⟨n - 1, by omega⟩
    have hb : ws.contains b = false := by
      cases hb : ws.contains b with
      | false => rfl
      | true =>
        have := (dropWhile_eq (ws.contains ·) r).2
        unfold Lib.trimLeftS at h1
        simp only [List.dropWhile_cons, hb, if_true] at h1
        rw [h1] at this
        simp at this; omega
    rw [List.take_succ_cons, List.cons_append]
    refine ⟨by unfold Lib.trimLeftS; simp only [List.dropWhile_cons, hb, Bool.false_eq_true, if_false], ?_, ?_⟩
    · cases hh : Lib.hasPrefix (b :: (r.take n ++ 32 :: z)) [47, 47] with
      | false => rfl
      | true =>
        have h5 := hasPrefix_sp (a := 47) (b := 47) (x := b :: r.take n) (by simp) (by decide) (by rw [List.cons_append]; exact hh)
        rw [← List.take_succ_cons] at h5
        rw [hasPrefix_take h5] at h2; cases h2
    · cases hh : Lib.hasPrefix (b :: (r.take n ++ 32 :: z)) [47, 42] with
      | false => rfl
      | true =>
        have h5 := hasPrefix_sp (a := 47) (b := 42) (x := b :: r.take n) (by simp) (by decide) (by rw [List.cons_append]; exact hh)
        rw [← List.take_succ_cons] at h5
        rw [hasPrefix_take h5] at h3; cases h3
/-- A blank byte more. -/
theorem bl_ws {w : UInt8} (hw : ws.contains w = true) (f : Nat) (r : Bs) : blankGo (f + 1) (w :: r) = ((blankGo (f + 1) r).1, (blankGo (f + 1) r).2 + 1) := by
  have ht : Lib.trimLeftS (w :: r) ws = Lib.trimLeftS r ws := by unfold Lib.trimLeftS; rw [List.dropWhile_cons, if_pos hw]
  have hle := trim_le r
  cases h1 : Lib.hasPrefix (Lib.trimLeftS r ws) [47, 47] with
  | true =>
    rw [blankGo_line (r := w :: r) (by rw [ht]; exact h1) _ rfl, blankGo_line h1 _ rfl, ht]
    refine Prod.ext rfl ?_
    simp only [List.length_cons]; omega
  | false =>
    cases h2 : Lib.hasPrefix (Lib.trimLeftS r ws) [47, 42] with
    | false =>
      rw [blankGo_end (r := w :: r) (by rw [ht]; exact h1) (by rw [ht]; exact h2), blankGo_end h1 h2, ht]
      refine Prod.ext rfl ?_
      simp only [List.length_cons]; omega
    | true =>
      by_cases h3 : Lib.index ((Lib.trimLeftS r ws).drop 2) [42, 47] < 0
      · rw [blankGo_open (r := w :: r) (by rw [ht]; exact h1) (by rw [ht]; exact h2) (by rw [ht]; exact h3), blankGo_open h1 h2 h3, ht]
        refine Prod.ext rfl ?_
        simp only [List.length_cons]; omega
      · have hi : Lib.index ((Lib.trimLeftS r ws).drop 2) [42, 47] = ((Lib.index ((Lib.trimLeftS r ws).drop 2) [42, 47]).toNat : Nat) := by omega
        rw [blankGo_rem (r := w :: r) (by rw [ht]; exact h1) (by rw [ht]; exact h2) _ (by rw [ht]; exact hi), blankGo_rem h1 h2 _ hi, ht]
        refine Prod.ext rfl ?_
        simp only [List.length_cons]; omega
theorem bl_sl {y : Bs} : Lib.trimLeftS (47 :: y) ws = 47 :: y := by unfold Lib.trimLeftS; rw [List.dropWhile_cons, if_neg (by decide)]
/-- "// x" and a new line. -/
theorem bl_line (f : Nat) (y : Bs) : blankGo (f + 1) ([47, 47, 32, 120, 10] ++ y) = ((blankGo f (10 :: y)).1, 4 + (blankGo f (10 :: y)).2) := by
  have e : ([47, 47, 32, 120, 10] ++ y : Bs) = 47 :: ([47, 32, 120, 10] ++ y) := rfl
  rw [e, blankGo_line (by rw [bl_sl]; rfl) 4 ?_, bl_sl]
  · refine Prod.ext rfl ?_
    simp
  · rw [bl_sl]
    have : Lib.indexByte (47 :: ([47, 32, 120, 10] ++ y)) 10 = 4 := by
      simp [Lib.indexByte]
    rw [this]; rfl
theorem bl_rem1 (f : Nat) (y : Bs) : blankGo (f + 1) ([47, 42, 32, 34, 32, 42, 47] ++ y) = ((blankGo f y).1, 7 + (blankGo f y).2) := by
  have e : ([47, 42, 32, 34, 32, 42, 47] ++ y : Bs) = 47 :: ([42, 32, 34, 32, 42, 47] ++ y) := rfl
  rw [e, blankGo_rem (by rw [bl_sl]; rfl) (by rw [bl_sl]; rfl) 3 ?_, bl_sl]
  · refine Prod.ext rfl ?_
    simp
  · rw [bl_sl]
    simp [Lib.index, List.isPrefixOf]
theorem bl_rem2 (f : Nat) (y : Bs) : blankGo (f + 1) ([47, 42, 42, 47] ++ y) = ((blankGo f y).1, 4 + (blankGo f y).2) := by
  have e : ([47, 42, 42, 47] ++ y : Bs) = 47 :: ([42, 42, 47] ++ y) := rfl
  rw [e, blankGo_rem (by rw [bl_sl]; rfl) (by rw [bl_sl]; rfl) 0 ?_, bl_sl]
  · refine Prod.ext rfl ?_
    simp
  · rw [bl_sl]
    simp [Lib.index, List.isPrefixOf]
def blanks : List Bs := [[32], [10], [9], [13], [47, 47, 32, 120, 10], [47, 42, 32, 34, 32, 42, 47], [47, 42, 42, 47]]
theorem bl_any {b y : Bs} (hb : b ∈ blanks) (hy : Bare y) (f : Nat) : blankGo (f + 2) (b ++ y) = (true, b.length) := by
  have h0 := bare_blank hy
  simp only [blanks, List.mem_cons, List.mem_nil_iff, or_false] at hb
  rcases hb with rfl | rfl | rfl | rfl | rfl | rfl | rfl
  · rw [List.cons_append, List.nil_append, bl_ws (by decide), h0]; rfl
  · rw [List.cons_append, List.nil_append, bl_ws (by decide), h0]; rfl
  · rw [List.cons_append, List.nil_append, bl_ws (by decide), h0]; rfl
  · rw [List.cons_append, List.nil_append, bl_ws (by decide), h0]; rfl
  · rw [bl_line, bl_ws (by decide), h0]; rfl
  · rw [bl_rem1, h0]; rfl
  · rw [bl_rem2, h0]; rfl
/-- A blank, or none, ahead of it. -/
theorem bl_sp {sp b y : Bs} (hsp : sp = [] ∨ sp = [32]) (hb : b ∈ blanks) (hy : Bare y) : blankF (sp ++ (b ++ y)) = (true, sp.length + b.length) := by
  have hbl : 1 ≤ b.length := by
    simp only [blanks, List.mem_cons, List.mem_nil_iff, or_false] at hb
    rcases hb with rfl | rfl | rfl | rfl | rfl | rfl | rfl <;> simp
  unfold blankF
  rcases hsp with rfl | rfl
  · obtain ⟨f, hf⟩ : ∃ f, ([] ++ (b ++ y)).length + 1 = f + 2 := ⟨([] ++ (b ++ y)).length - 1, by simp; omega⟩
    rw [hf, List.nil_append, bl_any hb hy, List.length_nil, Nat.zero_add]
  · obtain ⟨f, hf⟩ : ∃ f, ([32] ++ (b ++ y)).length + 1 = f + 2 := ⟨([32] ++ (b ++ y)).length - 1, by simp⟩
    rw [hf, List.cons_append, List.nil_append, bl_ws (by decide), bl_any hb hy]
    refine Prod.ext rfl ?_
    simp only [List.length_cons, List.length_nil]; omega
theorem bl_end {sp : Bs} (hsp : sp = [] ∨ sp = [32]) : blankF sp = (true, sp.length) := by
  rcases hsp with rfl | rfl
  · exact blankF_nil
  · decide
/-- A token at its place. -/
def Placed (s : Bs) (t : Tok) : Prop := t.at' < t.fin ∧ t.fin ≤ s.length ∧ Bare (s.drop t.at') ∧ nextF t.at' (s.drop t.at') true = .tok t
theorem room_of {a : Nat} {r : Bs} {room : Bool} {t : Tok} (h : nextF a r room = .tok t) : room = true := by
  cases room with
  | true => rfl
  | false =>
    rw [nextF_eq] at h
    split at h
    · cases h
    · rw [if_pos rfl] at h; cases h
theorem placed_of (s : Bs) : ∀ (f : Nat) (most : Int) (a : Nat) (l : List Tok) (p : Nat × Nat), allGo f most a (s.drop a) = (l, p) → a ≤ s.length → ∀ t ∈ l, Placed s t
  | 0, most, a, l, p, h, ha => by
    have : l = [] := (congrArg (fun x => x.1) h).symm
    subst this
    intro t ht; cases ht
  | f + 1, most, a, l, p, h, ha => by
    rw [allGo] at h
    split at h
    · have : l = [] := (congrArg (fun x => x.1) h).symm
      subst this; intro t ht; cases ht
    · rename_i hb
      obtain ⟨k, hk⟩ : ∃ k, blankF (s.drop a) = (true, k) := ⟨(blankF (s.drop a)).2, Prod.ext (by simpa using hb) rfl⟩
      obtain ⟨c1, c2, c3⟩ := blank_cut hk
      rw [List.length_drop] at c3
      rw [hk] at h
      simp only at h
      split at h
      · have : l = [] := (congrArg (fun x => x.1) h).symm
        subst this; intro t ht; cases ht
      · rename_i hnil
        rw [List.drop_drop] at h hnil c2
        have hpos := List.length_pos_iff.2 hnil
        split at h
        · have : l = [] := (congrArg (fun x => x.1) h).symm
          subst this; intro t ht; cases ht
        · rename_i t hx
          obtain ⟨t1, t2, t3⟩ := nextF_tok hpos hx
          rw [List.length_drop] at t3 hpos
          have hdr : (s.drop (a + k)).drop (t.fin - (a + k)) = s.drop t.fin := by rw [List.drop_drop]; congr 1; omega
          rw [hdr] at h
          have hl : l = t :: (allGo f (most - 1) t.fin (s.drop t.fin)).1 := (congrArg (fun x => x.1) h).symm
          subst hl
          have hroom := room_of hx
          rw [hroom] at hx
          intro t' ht'
          rcases List.mem_cons.1 ht' with rfl | ht'
          · exact ⟨by omega, by omega, by rw [t1]; exact bare_of c2, by rw [t1]; exact hx⟩
          · exact placed_of s f (most - 1) t.fin _ _ rfl (by omega) t' ht'
/-- The text that the law makes: of each token its blank, its bytes, a blank. -/
def rend (s : Bs) : List (Bs × Tok) → Bs
  | [] => []
  | (b, t) :: l => b ++ (cut s t.at' t.fin ++ 32 :: rend s l)
def keyT (t : Tok) : Nat × Bs × Int := (t.kind, t.text, t.n)
theorem rend_all (s : Bs) : ∀ (l : List (Bs × Tok)), (∀ x ∈ l, x.1 ∈ blanks ∧ Placed s x.2) → ∀ (sp : Bs), (sp = [] ∨ sp = [32]) → ∀ (f : Nat) (most : Int) (a : Nat), (sp ++ rend s l).length < f → (l.length : Int) < most →
    ∃ l', allGo f most a (sp ++ rend s l) = (l', (0, 0)) ∧ l'.map keyT = l.map (fun x => keyT x.2)
  | [], _, sp, hsp, 0, most, a, hf, hm => by omega
  | [], _, sp, hsp, f + 1, most, a, hf, hm => by
    refine ⟨[], ?_, rfl⟩
    simp only [rend, List.append_nil] at hf ⊢
    rw [allGo, bl_end hsp]
    simp
  | (b, t) :: l, hl, sp, hsp, 0, most, a, hf, hm => by omega
  | (b, t) :: l, hl, sp, hsp, f + 1, most, a, hf, hm => by
    obtain ⟨hb, h1, h2, h3, h4⟩ := hl (b, t) (by simp)
    simp only at h1 h2 h3 h4 hb
    have hdl : (s.drop t.at').length = s.length - t.at' := List.length_drop
    have hx : cut s t.at' t.fin = (s.drop t.at').take (t.fin - t.at') := cut_mid
    have hxl : (cut s t.at' t.fin).length = t.fin - t.at' := by rw [hx, List.length_take, hdl]; omega
    have hne : cut s t.at' t.fin ≠ [] := fun g => by rw [g] at hxl; simp at hxl; omega
    have hbare : Bare (cut s t.at' t.fin ++ 32 :: rend s l) := by rw [hx]; exact bare_ext (by omega) (by omega) h3
    have hbl := bl_sp hsp hb hbare
    have hn := next_take (by omega) h4
    rw [← hx] at hn
    have hn2 : nextF (a + (sp.length + b.length)) (cut s t.at' t.fin ++ 32 :: rend s l) true = .tok ⟨t.kind, t.text, t.n, a + (sp.length + b.length), a + (sp.length + b.length) + (cut s t.at' t.fin).length⟩ := next_ext (n := 0) hne (by rw [hxl]; exact hn)
    simp only [rend, List.length_cons] at hf hm ⊢
    simp only [List.length_append, List.length_cons] at hf
    obtain ⟨l', e1, e2⟩ := rend_all s l (fun x hx => hl x (List.mem_cons_of_mem _ hx)) [32] (.inr rfl) f (most - 1) (a + (sp.length + b.length) + (cut s t.at' t.fin).length) (by simp only [List.length_append, List.length_cons, List.length_nil]; omega) (by omega)
    refine ⟨⟨t.kind, t.text, t.n, a + (sp.length + b.length), a + (sp.length + b.length) + (cut s t.at' t.fin).length⟩ :: l', ?_, by simp only [List.map_cons, e2]; rfl⟩
    have hdrop : (sp ++ (b ++ (cut s t.at' t.fin ++ 32 :: rend s l))).drop (sp.length + b.length) = cut s t.at' t.fin ++ 32 :: rend s l := by
      rw [← List.append_assoc, ← List.length_append, List.drop_left]
    rw [allGo, hbl]
    simp only [Bool.true_eq_false, if_false, hdrop]
    rw [if_neg (by simp), show decide (0 < most) = true by simp; omega, hn2]
    simp only
    rw [show a + (sp.length + b.length) + (cut s t.at' t.fin).length - (a + (sp.length + b.length)) = (cut s t.at' t.fin).length by omega, List.drop_left]
    have e1' : allGo f (most - 1) (a + (sp.length + b.length) + (cut s t.at' t.fin).length) (32 :: rend s l) = (l', (0, 0)) := e1
    rw [e1']
end Go.PM.Lex
end

section
set_option maxRecDepth 100000
set_option maxHeartbeats 4000000
namespace Go.PM.Lex
open Go.Proofs
variable {w0 : World} {nG : Nat}
/-! ### Texts that repeat a piece -/
theorem lex_step {f : Nat} {m : Int} {a k p e j : Nat} {kd : Nat} {bs x y z : Bs} (hm : 0 < m) (hb : blankF x = (true, k)) (hd : x.drop k = y) (hy : y ≠ []) (hp : a + k = p) (hn : nextF p y true = .tok ⟨kd, bs, 0, p, e⟩) (he : e - p = j) (hz : y.drop j = z) :
    allGo (f + 1) m a x = (⟨kd, bs, 0, p, e⟩ :: (allGo f (m - 1) e z).1, (allGo f (m - 1) e z).2) := by
  subst hp; subst he; subst hz; subst hd
  rw [allGo, hb]
  simp only [Bool.true_eq_false, if_false, if_neg hy, decide_eq_true hm, hn]
theorem blank_bare {x : Bs} (h : Bare x) : blankF x = (true, 0) := bare_blank h _
theorem blank_one {x : Bs} (h : Bare x) : blankF (32 :: x) = (true, 1) := by
  rw [blankF, List.length_cons, bl_ws (by decide), bare_blank h]
theorem nxP0 (a : Nat) (r : Bs) : nextF a (112 :: 40 :: 41 :: 46 :: r) true = .tok ⟨1, [112], 0, a, a + 1⟩ := by kernel_rfl
theorem nxP1 (a : Nat) (r : Bs) : nextF a (40 :: 41 :: 46 :: r) true = .tok ⟨4, [40], 0, a, a + 1⟩ := by kernel_rfl
theorem nxP2 (a : Nat) (r : Bs) : nextF a (41 :: 46 :: r) true = .tok ⟨4, [41], 0, a, a + 1⟩ := by kernel_rfl
theorem nxP3 (a : Nat) (r : Bs) : nextF a (46 :: r) true = .tok ⟨4, [46], 0, a, a + 1⟩ := by kernel_rfl
def tkP (a : Nat) : List Tok := [⟨1, [112], 0, a + 0, a + 1⟩, ⟨4, [40], 0, a + 1, a + 2⟩, ⟨4, [41], 0, a + 2, a + 3⟩, ⟨4, [46], 0, a + 3, a + 4⟩]
theorem lexP (f : Nat) (m : Int) (a : Nat) (r : Bs) (hm : 4 ≤ m) : allGo (f + 4) m a (112 :: 40 :: 41 :: 46 :: r) = (tkP a ++ (allGo f (m - 4) (a + 4) r).1, (allGo f (m - 4) (a + 4) r).2) := by
  have e0 : ∀ (f : Nat) (m : Int), 0 < m → allGo (f + 1) m (a + 0) (112 :: 40 :: 41 :: 46 :: r) = (⟨1, [112], 0, a + 0, a + 1⟩ :: (allGo f (m - 1) (a + 1) (40 :: 41 :: 46 :: r)).1, (allGo f (m - 1) (a + 1) (40 :: 41 :: 46 :: r)).2) := fun f m h => by
    exact lex_step h (blank_bare ⟨rfl, rfl, rfl⟩) (show List.drop 0 (112 :: 40 :: 41 :: 46 :: r) = 112 :: 40 :: 41 :: 46 :: r from rfl) (List.cons_ne_nil _ _) rfl (nxP0 _ _) (show a + 1 - (a + 0) = 1 from by omega) rfl
  have e1 : ∀ (f : Nat) (m : Int), 0 < m → allGo (f + 1) m (a + 1) (40 :: 41 :: 46 :: r) = (⟨4, [40], 0, a + 1, a + 2⟩ :: (allGo f (m - 1) (a + 2) (41 :: 46 :: r)).1, (allGo f (m - 1) (a + 2) (41 :: 46 :: r)).2) := fun f m h => by
    exact lex_step h (blank_bare ⟨rfl, rfl, rfl⟩) (show List.drop 0 (40 :: 41 :: 46 :: r) = 40 :: 41 :: 46 :: r from rfl) (List.cons_ne_nil _ _) rfl (nxP1 _ _) (show a + 2 - (a + 1) = 1 from by omega) rfl
  have e2 : ∀ (f : Nat) (m : Int), 0 < m → allGo (f + 1) m (a + 2) (41 :: 46 :: r) = (⟨4, [41], 0, a + 2, a + 3⟩ :: (allGo f (m - 1) (a + 3) (46 :: r)).1, (allGo f (m - 1) (a + 3) (46 :: r)).2) := fun f m h => by
    exact lex_step h (blank_bare ⟨rfl, rfl, rfl⟩) (show List.drop 0 (41 :: 46 :: r) = 41 :: 46 :: r from rfl) (List.cons_ne_nil _ _) rfl (nxP2 _ _) (show a + 3 - (a + 2) = 1 from by omega) rfl
  have e3 : ∀ (f : Nat) (m : Int), 0 < m → allGo (f + 1) m (a + 3) (46 :: r) = (⟨4, [46], 0, a + 3, a + 4⟩ :: (allGo f (m - 1) (a + 4) (r)).1, (allGo f (m - 1) (a + 4) (r)).2) := fun f m h => by
    exact lex_step h (blank_bare ⟨rfl, rfl, rfl⟩) (show List.drop 0 (46 :: r) = 46 :: r from rfl) (List.cons_ne_nil _ _) rfl (nxP3 _ _) (show a + 4 - (a + 3) = 1 from by omega) rfl
  have h0 := e0 (f + 3) m (by omega)
  have h1 := e1 (f + 2) (m - 1) (by omega)
  have h2 := e2 (f + 1) (m - 2) (by omega)
  have h3 := e3 (f + 0) (m - 3) (by omega)
  rw [show m - 1 - 1 = m - 2 from by omega] at h1
  rw [show m - 2 - 1 = m - 3 from by omega] at h2
  rw [show m - 3 - 1 = m - 4 from by omega] at h3
  simp only [Nat.add_zero] at h0
  rw [show f + 4 = f + 3 + 1 from rfl, h0]
  rw [show f + 3 = f + 2 + 1 from rfl, h1]
  rw [show f + 2 = f + 1 + 1 from rfl, h2]
  rw [show f + 1 = f + 0 + 1 from rfl, h3]
  rfl
theorem nxT00 (a : Nat) (r : Bs) : nextF a (116 :: 121 :: 112 :: 101 :: 32 :: 84 :: 32 :: 61 :: 32 :: 91 :: 93 :: r) true = .tok ⟨1, [116, 121, 112, 101], 0, a, a + 4⟩ := by kernel_rfl
theorem nxT01 (a : Nat) (r : Bs) : nextF a (84 :: 32 :: 61 :: 32 :: 91 :: 93 :: r) true = .tok ⟨1, [84], 0, a, a + 1⟩ := by kernel_rfl
theorem nxT02 (a : Nat) (r : Bs) : nextF a (61 :: 32 :: 91 :: 93 :: r) true = .tok ⟨4, [61], 0, a, a + 1⟩ := by kernel_rfl
theorem nxT03 (a : Nat) (r : Bs) : nextF a (91 :: 93 :: r) true = .tok ⟨4, [91], 0, a, a + 1⟩ := by kernel_rfl
theorem nxT04 (a : Nat) (r : Bs) : nextF a (93 :: r) true = .tok ⟨4, [93], 0, a, a + 1⟩ := by kernel_rfl
def tkT0 (a : Nat) : List Tok := [⟨1, [116, 121, 112, 101], 0, a + 0, a + 4⟩, ⟨1, [84], 0, a + 5, a + 6⟩, ⟨4, [61], 0, a + 7, a + 8⟩, ⟨4, [91], 0, a + 9, a + 10⟩, ⟨4, [93], 0, a + 10, a + 11⟩]
theorem lexT0 (f : Nat) (m : Int) (a : Nat) (r : Bs) (hm : 5 ≤ m) : allGo (f + 5) m a (116 :: 121 :: 112 :: 101 :: 32 :: 84 :: 32 :: 61 :: 32 :: 91 :: 93 :: r) = (tkT0 a ++ (allGo f (m - 5) (a + 11) r).1, (allGo f (m - 5) (a + 11) r).2) := by
  have e0 : ∀ (f : Nat) (m : Int), 0 < m → allGo (f + 1) m (a + 0) (116 :: 121 :: 112 :: 101 :: 32 :: 84 :: 32 :: 61 :: 32 :: 91 :: 93 :: r) = (⟨1, [116, 121, 112, 101], 0, a + 0, a + 4⟩ :: (allGo f (m - 1) (a + 4) (32 :: 84 :: 32 :: 61 :: 32 :: 91 :: 93 :: r)).1, (allGo f (m - 1) (a + 4) (32 :: 84 :: 32 :: 61 :: 32 :: 91 :: 93 :: r)).2) := fun f m h => by
    exact lex_step h (blank_bare ⟨rfl, rfl, rfl⟩) (show List.drop 0 (116 :: 121 :: 112 :: 101 :: 32 :: 84 :: 32 :: 61 :: 32 :: 91 :: 93 :: r) = 116 :: 121 :: 112 :: 101 :: 32 :: 84 :: 32 :: 61 :: 32 :: 91 :: 93 :: r from rfl) (List.cons_ne_nil _ _) rfl (nxT00 _ _) (show a + 4 - (a + 0) = 4 from by omega) rfl
  have e1 : ∀ (f : Nat) (m : Int), 0 < m → allGo (f + 1) m (a + 4) (32 :: 84 :: 32 :: 61 :: 32 :: 91 :: 93 :: r) = (⟨1, [84], 0, a + 5, a + 6⟩ :: (allGo f (m - 1) (a + 6) (32 :: 61 :: 32 :: 91 :: 93 :: r)).1, (allGo f (m - 1) (a + 6) (32 :: 61 :: 32 :: 91 :: 93 :: r)).2) := fun f m h => by
    exact lex_step h (blank_one ⟨rfl, rfl, rfl⟩) (show List.drop 1 (32 :: 84 :: 32 :: 61 :: 32 :: 91 :: 93 :: r) = 84 :: 32 :: 61 :: 32 :: 91 :: 93 :: r from rfl) (List.cons_ne_nil _ _) rfl (nxT01 _ _) (show a + 6 - (a + 5) = 1 from by omega) rfl
  have e2 : ∀ (f : Nat) (m : Int), 0 < m → allGo (f + 1) m (a + 6) (32 :: 61 :: 32 :: 91 :: 93 :: r) = (⟨4, [61], 0, a + 7, a + 8⟩ :: (allGo f (m - 1) (a + 8) (32 :: 91 :: 93 :: r)).1, (allGo f (m - 1) (a + 8) (32 :: 91 :: 93 :: r)).2) := fun f m h => by
    exact lex_step h (blank_one ⟨rfl, rfl, rfl⟩) (show List.drop 1 (32 :: 61 :: 32 :: 91 :: 93 :: r) = 61 :: 32 :: 91 :: 93 :: r from rfl) (List.cons_ne_nil _ _) rfl (nxT02 _ _) (show a + 8 - (a + 7) = 1 from by omega) rfl
  have e3 : ∀ (f : Nat) (m : Int), 0 < m → allGo (f + 1) m (a + 8) (32 :: 91 :: 93 :: r) = (⟨4, [91], 0, a + 9, a + 10⟩ :: (allGo f (m - 1) (a + 10) (93 :: r)).1, (allGo f (m - 1) (a + 10) (93 :: r)).2) := fun f m h => by
    exact lex_step h (blank_one ⟨rfl, rfl, rfl⟩) (show List.drop 1 (32 :: 91 :: 93 :: r) = 91 :: 93 :: r from rfl) (List.cons_ne_nil _ _) rfl (nxT03 _ _) (show a + 10 - (a + 9) = 1 from by omega) rfl
  have e4 : ∀ (f : Nat) (m : Int), 0 < m → allGo (f + 1) m (a + 10) (93 :: r) = (⟨4, [93], 0, a + 10, a + 11⟩ :: (allGo f (m - 1) (a + 11) (r)).1, (allGo f (m - 1) (a + 11) (r)).2) := fun f m h => by
    exact lex_step h (blank_bare ⟨rfl, rfl, rfl⟩) (show List.drop 0 (93 :: r) = 93 :: r from rfl) (List.cons_ne_nil _ _) rfl (nxT04 _ _) (show a + 11 - (a + 10) = 1 from by omega) rfl
  have h0 := e0 (f + 4) m (by omega)
  have h1 := e1 (f + 3) (m - 1) (by omega)
  have h2 := e2 (f + 2) (m - 2) (by omega)
  have h3 := e3 (f + 1) (m - 3) (by omega)
  have h4 := e4 (f + 0) (m - 4) (by omega)
  rw [show m - 1 - 1 = m - 2 from by omega] at h1
  rw [show m - 2 - 1 = m - 3 from by omega] at h2
  rw [show m - 3 - 1 = m - 4 from by omega] at h3
  rw [show m - 4 - 1 = m - 5 from by omega] at h4
  simp only [Nat.add_zero] at h0
  rw [show f + 5 = f + 4 + 1 from rfl, h0]
  rw [show f + 4 = f + 3 + 1 from rfl, h1]
  rw [show f + 3 = f + 2 + 1 from rfl, h2]
  rw [show f + 2 = f + 1 + 1 from rfl, h3]
  rw [show f + 1 = f + 0 + 1 from rfl, h4]
  rfl
theorem nxT0 (a : Nat) (r : Bs) : nextF a (116 :: 121 :: 112 :: 101 :: 32 :: 84 :: 32 :: 61 :: 32 :: 91 :: 93 :: r) true = .tok ⟨1, [116, 121, 112, 101], 0, a, a + 4⟩ := by kernel_rfl
theorem nxT1 (a : Nat) (r : Bs) : nextF a (84 :: 32 :: 61 :: 32 :: 91 :: 93 :: r) true = .tok ⟨1, [84], 0, a, a + 1⟩ := by kernel_rfl
theorem nxT2 (a : Nat) (r : Bs) : nextF a (61 :: 32 :: 91 :: 93 :: r) true = .tok ⟨4, [61], 0, a, a + 1⟩ := by kernel_rfl
theorem nxT3 (a : Nat) (r : Bs) : nextF a (91 :: 93 :: r) true = .tok ⟨4, [91], 0, a, a + 1⟩ := by kernel_rfl
theorem nxT4 (a : Nat) (r : Bs) : nextF a (93 :: r) true = .tok ⟨4, [93], 0, a, a + 1⟩ := by kernel_rfl
def tkT (a : Nat) : List Tok := [⟨1, [116, 121, 112, 101], 0, a + 1, a + 5⟩, ⟨1, [84], 0, a + 6, a + 7⟩, ⟨4, [61], 0, a + 8, a + 9⟩, ⟨4, [91], 0, a + 10, a + 11⟩, ⟨4, [93], 0, a + 11, a + 12⟩]
theorem lexT (f : Nat) (m : Int) (a : Nat) (r : Bs) (hm : 5 ≤ m) : allGo (f + 5) m a (32 :: 116 :: 121 :: 112 :: 101 :: 32 :: 84 :: 32 :: 61 :: 32 :: 91 :: 93 :: r) = (tkT a ++ (allGo f (m - 5) (a + 12) r).1, (allGo f (m - 5) (a + 12) r).2) := by
  have e0 : ∀ (f : Nat) (m : Int), 0 < m → allGo (f + 1) m (a + 0) (32 :: 116 :: 121 :: 112 :: 101 :: 32 :: 84 :: 32 :: 61 :: 32 :: 91 :: 93 :: r) = (⟨1, [116, 121, 112, 101], 0, a + 1, a + 5⟩ :: (allGo f (m - 1) (a + 5) (32 :: 84 :: 32 :: 61 :: 32 :: 91 :: 93 :: r)).1, (allGo f (m - 1) (a + 5) (32 :: 84 :: 32 :: 61 :: 32 :: 91 :: 93 :: r)).2) := fun f m h => by
    exact lex_step h (blank_one ⟨rfl, rfl, rfl⟩) (show List.drop 1 (32 :: 116 :: 121 :: 112 :: 101 :: 32 :: 84 :: 32 :: 61 :: 32 :: 91 :: 93 :: r) = 116 :: 121 :: 112 :: 101 :: 32 :: 84 :: 32 :: 61 :: 32 :: 91 :: 93 :: r from rfl) (List.cons_ne_nil _ _) rfl (nxT0 _ _) (show a + 5 - (a + 1) = 4 from by omega) rfl
  have e1 : ∀ (f : Nat) (m : Int), 0 < m → allGo (f + 1) m (a + 5) (32 :: 84 :: 32 :: 61 :: 32 :: 91 :: 93 :: r) = (⟨1, [84], 0, a + 6, a + 7⟩ :: (allGo f (m - 1) (a + 7) (32 :: 61 :: 32 :: 91 :: 93 :: r)).1, (allGo f (m - 1) (a + 7) (32 :: 61 :: 32 :: 91 :: 93 :: r)).2) := fun f m h => by
    exact lex_step h (blank_one ⟨rfl, rfl, rfl⟩) (show List.drop 1 (32 :: 84 :: 32 :: 61 :: 32 :: 91 :: 93 :: r) = 84 :: 32 :: 61 :: 32 :: 91 :: 93 :: r from rfl) (List.cons_ne_nil _ _) rfl (nxT1 _ _) (show a + 7 - (a + 6) = 1 from by omega) rfl
  have e2 : ∀ (f : Nat) (m : Int), 0 < m → allGo (f + 1) m (a + 7) (32 :: 61 :: 32 :: 91 :: 93 :: r) = (⟨4, [61], 0, a + 8, a + 9⟩ :: (allGo f (m - 1) (a + 9) (32 :: 91 :: 93 :: r)).1, (allGo f (m - 1) (a + 9) (32 :: 91 :: 93 :: r)).2) := fun f m h => by
    exact lex_step h (blank_one ⟨rfl, rfl, rfl⟩) (show List.drop 1 (32 :: 61 :: 32 :: 91 :: 93 :: r) = 61 :: 32 :: 91 :: 93 :: r from rfl) (List.cons_ne_nil _ _) rfl (nxT2 _ _) (show a + 9 - (a + 8) = 1 from by omega) rfl
  have e3 : ∀ (f : Nat) (m : Int), 0 < m → allGo (f + 1) m (a + 9) (32 :: 91 :: 93 :: r) = (⟨4, [91], 0, a + 10, a + 11⟩ :: (allGo f (m - 1) (a + 11) (93 :: r)).1, (allGo f (m - 1) (a + 11) (93 :: r)).2) := fun f m h => by
    exact lex_step h (blank_one ⟨rfl, rfl, rfl⟩) (show List.drop 1 (32 :: 91 :: 93 :: r) = 91 :: 93 :: r from rfl) (List.cons_ne_nil _ _) rfl (nxT3 _ _) (show a + 11 - (a + 10) = 1 from by omega) rfl
  have e4 : ∀ (f : Nat) (m : Int), 0 < m → allGo (f + 1) m (a + 11) (93 :: r) = (⟨4, [93], 0, a + 11, a + 12⟩ :: (allGo f (m - 1) (a + 12) (r)).1, (allGo f (m - 1) (a + 12) (r)).2) := fun f m h => by
    exact lex_step h (blank_bare ⟨rfl, rfl, rfl⟩) (show List.drop 0 (93 :: r) = 93 :: r from rfl) (List.cons_ne_nil _ _) rfl (nxT4 _ _) (show a + 12 - (a + 11) = 1 from by omega) rfl
  have h0 := e0 (f + 4) m (by omega)
  have h1 := e1 (f + 3) (m - 1) (by omega)
  have h2 := e2 (f + 2) (m - 2) (by omega)
  have h3 := e3 (f + 1) (m - 3) (by omega)
  have h4 := e4 (f + 0) (m - 4) (by omega)
  rw [show m - 1 - 1 = m - 2 from by omega] at h1
  rw [show m - 2 - 1 = m - 3 from by omega] at h2
  rw [show m - 3 - 1 = m - 4 from by omega] at h3
  rw [show m - 4 - 1 = m - 5 from by omega] at h4
  simp only [Nat.add_zero] at h0
  rw [show f + 5 = f + 4 + 1 from rfl, h0]
  rw [show f + 4 = f + 3 + 1 from rfl, h1]
  rw [show f + 3 = f + 2 + 1 from rfl, h2]
  rw [show f + 2 = f + 1 + 1 from rfl, h3]
  rw [show f + 1 = f + 0 + 1 from rfl, h4]
  rfl
def tksP : Nat → Nat → List Tok
  | 0, _ => []
  | n + 1, a => tkP a ++ tksP n (a + 4)
theorem lexsP : ∀ (n f : Nat) (m : Int) (a : Nat) (r : Bs), (4 * n : Nat) ≤ m → allGo (f + 4 * n) m a (rep n [112, 40, 41, 46] ++ r) = (tksP n a ++ (allGo f (m - (4 * n : Nat)) (a + 4 * n) r).1, (allGo f (m - (4 * n : Nat)) (a + 4 * n) r).2)
  | 0, f, m, a, r, h => by simp [rep, tksP]
  | n + 1, f, m, a, r, h => by
    have ih := lexsP n f (m - 4) (a + 4) r (by omega)
    have h1 := lexP (f + 4 * n) m a (rep n [112, 40, 41, 46] ++ r) (by omega)
    rw [show f + 4 * (n + 1) = f + 4 * n + 4 from by omega]
    have hr : rep (n + 1) [112, 40, 41, 46] ++ r = [112, 40, 41, 46] ++ (rep n [112, 40, 41, 46] ++ r) := by rw [show n + 1 = 1 + n from by omega, rep_add, rep_one, List.append_assoc]
    rw [hr]
    refine h1.trans ?_
    rw [ih, tksP, List.append_assoc, show m - 4 - (4 * n : Nat) = m - (4 * (n + 1) : Nat) from by omega, show a + 4 + 4 * n = a + 4 * (n + 1) from by omega]
theorem tksP_len : ∀ n a, (tksP n a).length = 4 * n
  | 0, a => rfl
  | n + 1, a => by rw [tksP, List.length_append, tksP_len]; simp [tkP]; omega
theorem tksP_add : ∀ n k a, tksP (n + k) a = tksP n a ++ tksP k (a + 4 * n)
  | 0, k, a => by simp [tksP]
  | n + 1, k, a => by rw [show n + 1 + k = n + k + 1 from by omega, tksP, tksP, tksP_add n k, List.append_assoc, show a + 4 + 4 * n = a + 4 * (n + 1) from by omega]
def rtP : Nat → Ts
  | 0 => []
  | n + 1 => [⟨1, [112], 0⟩, ⟨4, [40], 0⟩, ⟨4, [41], 0⟩, ⟨4, [46], 0⟩] ++ rtP n
theorem tksP_t0 : ∀ n a, (tksP n a).map Tok.t0 = rtP n
  | 0, a => rfl
  | n + 1, a => by rw [tksP, List.map_append, tksP_t0, rtP]; rfl
def tksT : Nat → Nat → List Tok
  | 0, _ => []
  | n + 1, a => tkT a ++ tksT n (a + 12)
theorem lexsT : ∀ (n f : Nat) (m : Int) (a : Nat) (r : Bs), (5 * n : Nat) ≤ m → allGo (f + 5 * n) m a (rep n [32, 116, 121, 112, 101, 32, 84, 32, 61, 32, 91, 93] ++ r) = (tksT n a ++ (allGo f (m - (5 * n : Nat)) (a + 12 * n) r).1, (allGo f (m - (5 * n : Nat)) (a + 12 * n) r).2)
  | 0, f, m, a, r, h => by simp [rep, tksT]
  | n + 1, f, m, a, r, h => by
    have ih := lexsT n f (m - 5) (a + 12) r (by omega)
    have h1 := lexT (f + 5 * n) m a (rep n [32, 116, 121, 112, 101, 32, 84, 32, 61, 32, 91, 93] ++ r) (by omega)
    rw [show f + 5 * (n + 1) = f + 5 * n + 5 from by omega]
    have hr : rep (n + 1) [32, 116, 121, 112, 101, 32, 84, 32, 61, 32, 91, 93] ++ r = [32, 116, 121, 112, 101, 32, 84, 32, 61, 32, 91, 93] ++ (rep n [32, 116, 121, 112, 101, 32, 84, 32, 61, 32, 91, 93] ++ r) := by rw [show n + 1 = 1 + n from by omega, rep_add, rep_one, List.append_assoc]
    rw [hr]
    refine h1.trans ?_
    rw [ih, tksT, List.append_assoc, show m - 5 - (5 * n : Nat) = m - (5 * (n + 1) : Nat) from by omega, show a + 12 + 12 * n = a + 12 * (n + 1) from by omega]
theorem tksT_len : ∀ n a, (tksT n a).length = 5 * n
  | 0, a => rfl
  | n + 1, a => by rw [tksT, List.length_append, tksT_len]; simp [tkT]; omega
theorem tksT_add : ∀ n k a, tksT (n + k) a = tksT n a ++ tksT k (a + 12 * n)
  | 0, k, a => by simp [tksT]
  | n + 1, k, a => by rw [show n + 1 + k = n + k + 1 from by omega, tksT, tksT, tksT_add n k, List.append_assoc, show a + 12 + 12 * n = a + 12 * (n + 1) from by omega]
def rtT : Nat → Ts
  | 0 => []
  | n + 1 => [⟨1, [116, 121, 112, 101], 0⟩, ⟨1, [84], 0⟩, ⟨4, [61], 0⟩, ⟨4, [91], 0⟩, ⟨4, [93], 0⟩] ++ rtT n
theorem tksT_t0 : ∀ n a, (tksT n a).map Tok.t0 = rtT n
  | 0, a => rfl
  | n + 1, a => by rw [tksT, List.map_append, tksT_t0, rtT]; rfl
theorem all_nil (f : Nat) (m : Int) (a : Nat) : allGo (f + 1) m a [] = ([], (0, 0)) := by
  have hb : blankF [] = (true, 0) := by decide
  rw [allGo, hb]; simp
theorem un_rule (d : Nat) (un : Ts → R Un) (f : Nat) (rules : List Ru) (r : Ts) : unitGo false 64 un (f + 1) (.mk [] [] rules [] [] []) (⟨1, [112], 0⟩ :: ⟨4, [40], 0⟩ :: ⟨4, [41], 0⟩ :: ⟨4, [46], 0⟩ :: r) =
    if rules.length = 1024 then .err (r.length + 4) 3 else unitGo false 64 un f (.mk [] [] (rules ++ [⟨[112], [], [], r.length + 4⟩]) [] [] []) r := by
  rw [unitGo_eq, if_neg (by simp), if_neg (by show ¬ (false = true); decide), if_neg (by show ¬ (false = true); decide), if_neg (by show ¬ (false = true); decide), if_neg (by show ¬ (false = true); decide), if_neg (by show ¬ (false = true); decide), if_pos (by show true = true; rfl)]
  rfl
theorem un_rules (un : Ts → R Un) : ∀ (n f : Nat) (rules : List Ru) (r : Ts), rules.length + n ≤ 1024 → ∃ rules', rules'.length = rules.length + n ∧ unitGo false 64 un (f + n) (.mk [] [] rules [] [] []) (rtP n ++ r) = unitGo false 64 un f (.mk [] [] rules' [] [] []) r
  | 0, f, rules, r, h => ⟨rules, rfl, rfl⟩
  | n + 1, f, rules, r, h => by
    obtain ⟨rules', h1, h2⟩ := un_rules un n f (rules ++ [⟨[112], [], [], (rtP n ++ r).length + 4⟩]) r (by simp; omega)
    refine ⟨rules', by rw [h1]; simp; omega, ?_⟩
    rw [← h2]
    have := un_rule 0 un (f + n) rules (rtP n ++ r)
    rw [if_neg (by omega)] at this
    exact this
theorem un_type (un : Ts → R Un) (f : Nat) (tys : List Ty) (r : Ts) : unitGo false 64 un (f + 1) (.mk tys [] [] [] [] []) (⟨1, [116, 121, 112, 101], 0⟩ :: ⟨1, [84], 0⟩ :: ⟨4, [61], 0⟩ :: ⟨4, [91], 0⟩ :: ⟨4, [93], 0⟩ :: r) =
    if tys.length = 256 then .err (r.length + 5) 3 else unitGo false 64 un f (.mk (tys ++ [⟨2, [84], [], [], [], r.length + 4⟩]) [] [] [] [] []) r := by
  rw [unitGo_eq, if_neg (by simp), if_pos (by show true = true; rfl)]
  rfl
theorem un_types (un : Ts → R Un) : ∀ (n f : Nat) (tys : List Ty) (r : Ts), tys.length + n ≤ 256 → ∃ tys', tys'.length = tys.length + n ∧ unitGo false 64 un (f + n) (.mk tys [] [] [] [] []) (rtT n ++ r) = unitGo false 64 un f (.mk tys' [] [] [] [] []) r
  | 0, f, tys, r, h => ⟨tys, rfl, rfl⟩
  | n + 1, f, tys, r, h => by
    obtain ⟨tys', h1, h2⟩ := un_types un n f (tys ++ [⟨2, [84], [], [], [], (rtT n ++ r).length + 4⟩]) r (by simp; omega)
    refine ⟨tys', by rw [h1]; simp; omega, ?_⟩
    rw [← h2]
    have := un_type un (f + n) tys (rtT n ++ r)
    rw [if_neg (by omega)] at this
    exact this
theorem un_typeL (un : Ts → R Un) (f : Nat) (tys : List Ty) (h : tys.length = 256) : unitGo false 64 un (f + 1) (.mk tys [] [] [] [] []) [⟨1, [116, 121, 112, 101], 0⟩] = .err 1 3 := by
  rw [unitGo_eq, if_neg (by simp), if_pos (by show true = true; rfl)]
  show (if tys.length = 256 then _ else _) = _
  rw [if_pos h]; rfl
theorem readTop_lim {α : Type} {P : Ts → R α} {L : List Tok} {s : Bs} {r e : Nat} (hs : s.length ≤ 65536) (ha : allF s ((16384 : Nat) : Int) = (L, (0, 0))) (hP : P (L.map Tok.t0) = .err r e) : readTop 65536 16384 P s = .err (placeOf L s.length r) e := by
  rw [readTop, if_neg (by omega), ha, if_neg (by simp)]
  show (match P (L.map Tok.t0) with | .ok v [] => _ | .ok v (_ :: ts) => _ | .err r e => _) = _
  rw [hP]
theorem rtP_add : ∀ n k, rtP (n + k) = rtP n ++ rtP k
  | 0, k => by simp [rtP]
  | n + 1, k => by rw [show n + 1 + k = n + k + 1 from by omega, rtP, rtP, rtP_add n k, List.append_assoc]
theorem rtP_len : ∀ n, (rtP n).length = 4 * n
  | 0 => rfl
  | n + 1 => by rw [rtP, List.length_append, rtP_len]; simp; omega
theorem rtT_len : ∀ n, (rtT n).length = 5 * n
  | 0 => rfl
  | n + 1 => by rw [rtT, List.length_append, rtT_len]; simp; omega
theorem allP (n : Nat) (h : 4 * n ≤ 16384) : allF (rep n [112, 40, 41, 46]) ((16384 : Nat) : Int) = (tksP n 0, (0, 0)) := by
  have h1 := lexsP n 1 ((16384 : Nat) : Int) 0 [] (by omega)
  rw [all_nil] at h1
  have hl : (rep n [112, 40, 41, 46]).length + 1 = 1 + 4 * n := by rw [rep_len]; simp; omega
  rw [allF, hl]
  rw [List.append_nil] at h1
  rw [h1]
  simp
theorem s0_unit (n : Nat) (h : n = 1024) : unitTop (rtP (n + 1)) = .err 4 3 := by
  obtain ⟨rules', h1, h2⟩ := un_rules (unitD 63) n (3 * n + 5) [] (rtP 1) (by simp; omega)
  rw [unitTop, unitF, rtP_len, show 4 * (n + 1) + 1 = (3 * n + 5) + n from by omega, rtP_add]
  refine h2.trans ?_
  have h3 := un_rule 0 (unitD 63) (3 * n + 4) rules' []
  rw [if_pos (by rw [h1]; simp; omega)] at h3
  exact h3
theorem s0_place (n : Nat) (en : Int) : placeOf (tksP (n + 1) 0) en 4 = ((4 * n : Nat) : Int) := by
  rw [placeOf, tksP_len, tksP_add, List.drop_left' (by rw [tksP_len]; omega)]
  simp [tksP, tkP]
theorem ev_s0g (n : Nat) (h : n = 1024) : readTop 65536 16384 unitTop (rep (n + 1) [112, 40, 41, 46]) = .err ((4 * n : Nat) : Int) 3 := by
  rw [readTop_lim (by rw [rep_len]; simp; omega) (allP (n + 1) (by omega)) (by rw [tksP_t0]; exact s0_unit n h), s0_place]
theorem ev_s0 : isErr 4096 3 (readTop 65536 16384 unitTop (rep 1024 [112, 40, 41, 46] ++ [112, 40, 41, 46])) = true := by
  have h := ev_s0g 1024 rfl
  rw [rep_add, rep_one] at h
  rw [show ([112, 40, 41, 46] : Bs) = [112, 40, 41, 46] from rfl, h]
  decide
theorem rep_turn (b : UInt8) (A : Bs) : ∀ n, rep (n + 1) (A ++ [b]) = A ++ (rep n (b :: A) ++ [b])
  | 0 => by simp [rep_one, rep]
  | n + 1 => by
    rw [show n + 1 + 1 = 1 + (n + 1) from by omega, rep_add, rep_one, rep_turn b A n, show n + 1 = 1 + n from by omega, rep_add 1 n, rep_one]
    simp
theorem tkE (f : Nat) (m : Int) (a : Nat) (hm : 1 ≤ m) : allGo (f + 2) m a [32, 116, 121, 112, 101] = ([⟨1, [116, 121, 112, 101], 0, a + 1, a + 5⟩], (0, 0)) := by
  have := lex_step (f := f + 1) (m := m) (a := a) (k := 1) (p := a + 1) (e := a + 5) (j := 4) (kd := 1) (bs := [116, 121, 112, 101]) (x := [32, 116, 121, 112, 101]) (y := [116, 121, 112, 101]) (z := []) (by omega) (blank_one ⟨rfl, rfl, rfl⟩) rfl (List.cons_ne_nil _ _) rfl (by kernel_rfl) (by omega) rfl
  rw [this, all_nil]
def tksS (n : Nat) : List Tok := tkT0 0 ++ (tksT n 11 ++ [⟨1, [116, 121, 112, 101], 0, 11 + 12 * n + 1, 11 + 12 * n + 5⟩])
theorem allW (n : Nat) (h : 5 * n + 6 ≤ 16384) : allF (rep (n + 1) ([116, 121, 112, 101, 32, 84, 32, 61, 32, 91, 93] ++ [32]) ++ [116, 121, 112, 101]) ((16384 : Nat) : Int) = (tksS n, (0, 0)) := by
  have h0 := lexT0 (7 * n + 12 + 5 * n) ((16384 : Nat) : Int) 0 (rep n [32, 116, 121, 112, 101, 32, 84, 32, 61, 32, 91, 93] ++ [32, 116, 121, 112, 101]) (by omega)
  have h1 := lexsT n (7 * n + 12) (((16384 : Nat) : Int) - 5) (0 + 11) [32, 116, 121, 112, 101] (by omega)
  rw [tkE (7 * n + 10) _ _ (by omega)] at h1
  rw [h1] at h0
  have hl : (rep (n + 1) ([116, 121, 112, 101, 32, 84, 32, 61, 32, 91, 93] ++ [32]) ++ [116, 121, 112, 101] : Bs).length + 1 = 7 * n + 12 + 5 * n + 5 := by rw [List.length_append, rep_len]; simp; omega
  rw [allF, hl, rep_turn]
  rw [List.append_assoc, List.append_assoc]
  exact h0
def rtS (n : Nat) : Ts := rtT (n + 1) ++ [⟨1, [116, 121, 112, 101], 0⟩]
theorem tksS_t0 (n : Nat) : (tksS n).map Tok.t0 = rtS n := by
  rw [tksS, List.map_append, List.map_append, tksT_t0, rtS, rtT, List.append_assoc]; rfl
theorem s1_unit (n : Nat) (h : n + 1 = 256) : unitTop (rtS n) = .err 1 3 := by
  obtain ⟨tys', h1, h2⟩ := un_types (unitD 63) (n + 1) (4 * n + 6) [] [⟨1, [116, 121, 112, 101], 0⟩] (by simp; omega)
  rw [unitTop, unitF, show (rtS n).length + 1 = (4 * n + 6) + (n + 1) from by rw [rtS, List.length_append, rtT_len]; simp; omega]
  refine h2.trans ?_
  exact un_typeL (unitD 63) (4 * n + 5) tys' (by rw [h1]; simp; omega)
theorem s1_place (n : Nat) (en : Int) : placeOf (tksS n) en 1 = ((11 + 12 * n + 1 : Nat) : Int) := by
  have hl : (tkT0 0 ++ tksT n 11).length = (tksS n).length - 1 := by simp [tksS]
  rw [placeOf, tksS, ← List.append_assoc]
  rw [tksS, ← List.append_assoc] at hl
  rw [List.drop_left' hl]
theorem ev_s1g (n : Nat) (h : n + 1 = 256) : readTop 65536 16384 unitTop (rep (n + 1) ([116, 121, 112, 101, 32, 84, 32, 61, 32, 91, 93] ++ [32]) ++ [116, 121, 112, 101]) = .err ((11 + 12 * n + 1 : Nat) : Int) 3 := by
  rw [readTop_lim (by rw [List.length_append, rep_len]; simp; omega) (allW n (by omega)) (by rw [tksS_t0]; exact s1_unit n h), s1_place]
theorem ev_s1 : isErr 3072 3 (readTop 65536 16384 unitTop (rep 256 [116, 121, 112, 101, 32, 84, 32, 61, 32, 91, 93, 32] ++ [116, 121, 112, 101])) = true := by
  have h := ev_s1g 255 rfl
  rw [show ([116, 121, 112, 101, 32, 84, 32, 61, 32, 91, 93, 32] : Bs) = [116, 121, 112, 101, 32, 84, 32, 61, 32, 91, 93] ++ [32] from rfl, show ([116, 121, 112, 101] : Bs) = [116, 121, 112, 101] from rfl, show 256 = 255 + 1 from rfl, h]
  decide
end Go.PM.Lex
end
