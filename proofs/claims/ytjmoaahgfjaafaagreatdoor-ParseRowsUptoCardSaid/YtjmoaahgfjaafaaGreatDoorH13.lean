/- A part of the proof: plain logic, contracts and laws over the given program. -/
import Derived.Test.YtjmoaahgfjaafaaGreatDoorRows
import Derived.Test.YtjmoaahgfjaafaaGreatDoorTie
import Derived.Test.YtjmoaahgfjaafaaGreatDoorCards
import Derived.ProofKit
import Derived.OpenShut
import Derived.LaidMore
import Derived.Lay
import Derived.LaidSub
import Derived.SevenTiedAt
import Derived.Stop.Joined
import Derived.Stop.LaidErr
import Derived.JoinedOf
import Derived.Test.YtjmoaahgfjaafaaGreatDoorH12
set_option linter.unusedVariables false
set_option linter.unusedSimpArgs false
set_option linter.all false
section
set_option maxRecDepth 100000
namespace Go.PM.Lex
open Go.Proofs
mutual
def mpE (f : Nat → Nat) : Ex → Ex
 | .mk op t n args a => .mk op t n (mpEs f args) (f a)
def mpEs (f : Nat → Nat) : List Ex → List Ex
 | [] => []
 | e :: l => mpE f e :: mpEs f l
end
mutual
def mpL (f : Nat → Nat) : Li → Li
 | .mk op rel args body a => .mk op rel (mpEs f args) (mpLs f body) (f a)
def mpLs (f : Nat → Nat) : List Li → List Li
 | [] => []
 | e :: l => mpL f e :: mpLs f l
end
def mpRu (f : Nat → Nat) (r : Ru) : Ru := ⟨r.head, mpEs f r.args, mpLs f r.body, f r.at'⟩
def mpTy (f : Nat → Nat) (t : Ty) : Ty := { t with at' := f t.at' }
def mpRe (f : Nat → Nat) (t : Re) : Re := { t with at' := f t.at' }
def mpIn (f : Nat → Nat) (t : Ini) : Ini := { t with at' := f t.at' }
def mpOv (f : Nat → Nat) (t : Ov) : Ov := { t with at' := f t.at' }
mutual
def mpUn (g : Nat → Nat) : Un → Un
 | .mk a b c d e f => .mk (a.map (mpTy g)) (b.map (mpRe g)) (c.map (mpRu g)) (mpCos g d) (e.map (mpIn g)) (f.map (mpOv g))
def mpCo (g : Nat → Nat) : Co → Co
 | .mk nm ps base tys u a => .mk nm ps base tys (mpUn g u) (g a)
def mpCos (g : Nat → Nat) : List Co → List Co
 | [] => []
 | e :: l => mpCo g e :: mpCos g l
end
variable (f : Nat → Nat) (pl : Pl)
mutual
theorem encE_mp : ∀ x : Ex, encE pl (mpE f x) = encE (fun n => pl (f n)) x
 | .mk op t n args a => by rw [mpE, encE, encE, encEs_mp args]
theorem encEs_mp : ∀ l : List Ex, encEs pl (mpEs f l) = encEs (fun n => pl (f n)) l
 | [] => rfl
 | e :: l => by rw [mpEs, encEs, encEs, encE_mp e, encEs_mp l]
end
mutual
theorem encL_mp : ∀ x : Li, encL pl (mpL f x) = encL (fun n => pl (f n)) x
 | .mk op t args body a => by rw [mpL, encL, encL, encEs_mp f pl args, encLs_mp body]
theorem encLs_mp : ∀ l : List Li, encLs pl (mpLs f l) = encLs (fun n => pl (f n)) l
 | [] => rfl
 | e :: l => by rw [mpLs, encLs, encLs, encL_mp e, encLs_mp l]
end
theorem encRu_mp (r : Ru) : encRu pl (mpRu f r) = encRu (fun n => pl (f n)) r := by simp only [encRu, mpRu, encEs_mp, encLs_mp]
theorem encRus_mp (l : List Ru) : (l.map (mpRu f)).map (encRu pl) = l.map (encRu fun n => pl (f n)) := by rw [List.map_map]; exact List.map_congr_left fun x _ => encRu_mp f pl x
theorem encTys_mp (l : List Ty) : (l.map (mpTy f)).map (encTy pl) = l.map (encTy fun n => pl (f n)) := by rw [List.map_map]; rfl
theorem encRes_mp (l : List Re) : (l.map (mpRe f)).map (encRe pl) = l.map (encRe fun n => pl (f n)) := by rw [List.map_map]; rfl
theorem encIns_mp (l : List Ini) : (l.map (mpIn f)).map (encIn pl) = l.map (encIn fun n => pl (f n)) := by rw [List.map_map]; rfl
theorem encOvs_mp (l : List Ov) : (l.map (mpOv f)).map (encOv pl) = l.map (encOv fun n => pl (f n)) := by rw [List.map_map]; rfl
mutual
theorem encUn_mp : ∀ x : Un, encUn pl (mpUn f x) = encUn (fun n => pl (f n)) x
 | .mk a b c d e g => by rw [mpUn, encUn, encUn, encTys_mp, encRes_mp, encRus_mp, encCos_mp d, encIns_mp, encOvs_mp]
theorem encCo_mp : ∀ x : Co, encCo pl (mpCo f x) = encCo (fun n => pl (f n)) x
 | .mk nm ps base tys u a => by rw [mpCo, encCo, encCo, encUn_mp u]
theorem encCos_mp : ∀ l : List Co, encCos pl (mpCos f l) = encCos (fun n => pl (f n)) l
 | [] => rfl
 | e :: l => by rw [mpCos, encCos, encCos, encCo_mp e, encCos_mp l]
end
mutual
theorem erE_mp : ∀ x : Ex, erE (mpE f x) = erE x
 | .mk op t n args a => by rw [mpE, erE, erE, erEs_mp args]
theorem erEs_mp : ∀ l : List Ex, erEs (mpEs f l) = erEs l
 | [] => rfl
 | e :: l => by rw [mpEs, erEs, erEs, erE_mp e, erEs_mp l]
end
mutual
theorem erL_mp : ∀ x : Li, erL (mpL f x) = erL x
 | .mk op t args body a => by rw [mpL, erL, erL, erEs_mp f args, erLs_mp body]
theorem erLs_mp : ∀ l : List Li, erLs (mpLs f l) = erLs l
 | [] => rfl
 | e :: l => by rw [mpLs, erLs, erLs, erL_mp e, erLs_mp l]
end
theorem erRu_mp (r : Ru) : erRu (mpRu f r) = erRu r := by simp only [erRu, mpRu, ← erEs_eq, ← erLs_eq, erEs_mp, erLs_mp]
theorem erRus_mp (l : List Ru) : (l.map (mpRu f)).map erRu = l.map erRu := by rw [List.map_map]; exact List.map_congr_left fun x _ => erRu_mp f x
theorem erTys_mp (l : List Ty) : (l.map (mpTy f)).map erTy = l.map erTy := by rw [List.map_map]; rfl
theorem erRes_mp (l : List Re) : (l.map (mpRe f)).map erRe = l.map erRe := by rw [List.map_map]; rfl
theorem erIns_mp (l : List Ini) : (l.map (mpIn f)).map erIn = l.map erIn := by rw [List.map_map]; rfl
theorem erOvs_mp (l : List Ov) : (l.map (mpOv f)).map erOv = l.map erOv := by rw [List.map_map]; rfl
mutual
theorem erUn_mp : ∀ x : Un, erUn (mpUn f x) = erUn x
 | .mk a b c d e g => by rw [mpUn, erUn, erUn, erTys_mp, erRes_mp, erRus_mp, erCos_mp d, erIns_mp, erOvs_mp]
theorem erCo_mp : ∀ x : Co, erCo (mpCo f x) = erCo x
 | .mk nm ps base tys u a => by rw [mpCo, erCo, erCo, erUn_mp u]
theorem erCos_mp : ∀ l : List Co, erCos (mpCos f l) = erCos l
 | [] => rfl
 | e :: l => by rw [mpCos, erCos, erCos, erCo_mp e, erCos_mp l]
end
def two0 (n : Nat) : Nat := 2 * n
def two1 (n : Nat) : Nat := 2 * n + 1
def plTwo (p q : Pl) : Pl := fun n => if n % 2 = 0 then p (n / 2) else q (n / 2)
theorem plTwo_0 (p q : Pl) : (fun n => plTwo p q (two0 n)) = p := by
 funext n; unfold plTwo two0; rw [if_pos (by omega), show 2 * n / 2 = n by omega]
theorem plTwo_1 (p q : Pl) : (fun n => plTwo p q (two1 n)) = q := by
 funext n; unfold plTwo two1; rw [if_neg (by omega), show (2 * n + 1) / 2 = n by omega]
theorem enc_both (p q : Pl) (u1 v1 : List Ty) (u2 v2 : List Re) (u3 v3 : List Ru) (u4 v4 : List Co) (u5 v5 : List Ini) (u6 v6 : List Ov) : ∃ pl x, encUn pl x = [.sl (u1.map (encTy p) ++ v1.map (encTy q)), .sl (u2.map (encRe p) ++ v2.map (encRe q)), .sl (u3.map (encRu p) ++ v3.map (encRu q)), .sl (encCos p u4 ++ encCos q v4), .sl (u5.map (encIn p) ++ v5.map (encIn q)), .sl (u6.map (encOv p) ++ v6.map (encOv q))] ∧ erUn x = erUn ((Un.mk u1 u2 u3 u4 u5 u6).app (.mk v1 v2 v3 v4 v5 v6)) := by
 have ha : ∀ (pl : Pl) (a b : List Co), encCos pl (a ++ b) = encCos pl a ++ encCos pl b := fun pl a b => by simp only [encCos_eq, List.map_append]
 have hb : ∀ (a b : List Co), erCos (a ++ b) = erCos a ++ erCos b := fun a b => by simp only [erCos_eq, List.map_append]
 refine ⟨plTwo p q, (mpUn two0 (.mk u1 u2 u3 u4 u5 u6)).app (mpUn two1 (.mk v1 v2 v3 v4 v5 v6)), ?_, ?_⟩
 ·simp only [mpUn, Un.app, encUn, List.map_append, ha, encTys_mp, encRes_mp, encRus_mp, encCos_mp, encIns_mp, encOvs_mp, plTwo_0, plTwo_1]
 ·simp only [mpUn, Un.app, erUn, List.map_append, hb, erTys_mp, erRes_mp, erRus_mp, erCos_mp, erIns_mp, erOvs_mp]
end Go.PM.Lex
end

section
set_option maxRecDepth 100000
set_option maxHeartbeats 4000000
namespace Go.PM.Lex
open Go.Proofs
variable {w0 : World} {nG : Nat}
noncomputable def spPar2 : Spec := fun args σ K => match args, σ with
 | [.d (.str s), .d (.str t)], ⟨[], [], 0⟩ => (s.length < 4294967281 ∧ t.length < 4294967281) ∧ K (.ret (.d (.bool true))) ⟨[], [], 0⟩
 | _, _ => False
theorem parRows_ok (ht : TblOK (GG w0 nG) tblParL) : PCalls (GG w0 nG) 3 spPar2 := by
 refine pcallsC tab_ok mixed (tbl := tblParL) ht Tryz.func3 rfl (by kernel_rfl) (by kernel_rfl) ?_
 intro args σ K h
 unfold spPar2 at h
 split at h
 ·rename_i s t
  obtain ⟨⟨hs, ht1⟩, h⟩ := h
  obtain ⟨x, hx⟩ : ∃ x, readTop 65536 16384 unitTop s = x := ⟨_, rfl⟩
  obtain ⟨y, hy⟩ : ∃ y, readTop 65536 16384 unitTop t = y := ⟨_, rfl⟩
  refine ⟨loopsOf [], unrOf [], tieOf [], tieOf [], tieOf [], cutOf [], 0, false, by simp, Nat.le_of_ble_eq_true rfl, ?_⟩
  conv => whnf
  refine ⟨hs, fun x' hx' => ?_⟩
  obtain rfl : x' = x := hx'.symm.trans hx
  cases x' with
  | err p0 e0 =>
   have he0 : e0 ≠ 0 := readTop_err unitTop_good hx
   conv => whnf
   refine ⟨ht1, fun y' hy' => ?_⟩
   obtain rfl : y' = y := hy'.symm.trans hy
   refine TopK_of ?_
   generalize plOf t.length y' = pl
   generalize atOf y' = q
   generalize eOf y' = e
   generalize uOf y' = u
   obtain ⟨u1, u2, u3, u4, u5, u6⟩ := u
   conv => whnf
   refine CondP.ndec (fun hc => ?_) (fun hc => ?_)
   case refine_2 => exact absurd (show e0 = 0 by have hc : ((e0 : Nat) : Int) = 0 := hc; omega) he0
   conv => whnf
   exact h
  | ok u L1 =>
   obtain ⟨u1, u2, u3, u4, u5, u6⟩ := u
   obtain ⟨pl1, hpl1⟩ : ∃ pl1, placeOf L1 s.length = pl1 := ⟨_, rfl⟩
   unfold TopK
   dsimp only
   rw [hpl1]
   conv => whnf
   refine ⟨ht1, fun y' hy' => ?_⟩
   obtain rfl : y' = y := hy'.symm.trans hy
   cases y' with
   | err p1 e1 =>
    have he1 : e1 ≠ 0 := readTop_err unitTop_good hy
    conv => whnf
    refine CondP.ndec (fun hc => ?_) (fun hc => ?_)
    case refine_2 => exact absurd (show e1 = 0 by have hc : ((e1 : Nat) : Int) = 0 := hc; omega) he1
    conv => whnf
    exact h
   | ok v L2 =>
    obtain ⟨v1, v2, v3, v4, v5, v6⟩ := v
    obtain ⟨pl2, hpl2⟩ : ∃ pl2, placeOf L2 t.length = pl2 := ⟨_, rfl⟩
    unfold TopK
    dsimp only
    rw [hpl2]
    conv => whnf
    refine Or.inl ⟨InR.i64 (by omega) (by omega), ?_⟩
    conv => whnf
    have hz1 := unit_small hx
    have hz2 := unit_small hy
    rw [szUn_mk] at hz1 hz2
    have g1 := szS_len szTy u1; have g2 := szS_len szRe u2; have g3 := szS_len szRu u3; have g4 := szS_len szCo u4; have g5 := szS_len szIn u5; have g6 := szS_len (sz0 (α := Ov)) u6
    have k1 := szS_len szTy v1; have k2 := szS_len szRe v2; have k3 := szS_len szRu v3; have k4 := szS_len szCo v4; have k5 := szS_len szIn v5; have k6 := szS_len (sz0 (α := Ov)) v6
    have m1 : ∀ (p : Pl) (l : List Ty), (l.map (encTy p)).length = l.length := fun p l => List.length_map ..
    have m2 : ∀ (p : Pl) (l : List Re), (l.map (encRe p)).length = l.length := fun p l => List.length_map ..
    have m3 : ∀ (p : Pl) (l : List Ru), (l.map (encRu p)).length = l.length := fun p l => List.length_map ..
    have m4 : ∀ (p : Pl) (l : List Co), (encCos p l).length = l.length := fun p l => by rw [encCos_eq, List.length_map]
    have m5 : ∀ (p : Pl) (l : List Ini), (l.map (encIn p)).length = l.length := fun p l => List.length_map ..
    have m6 : ∀ (p : Pl) (l : List Ov), (l.map (encOv p)).length = l.length := fun p l => List.length_map ..
    refine CondP.dec (fun c0 => ?_) (fun c0 => ?_)
    ·conv => whnf
     exact h
    have c0 : s.length + t.length ≤ 40000 := by have c0 : ¬ (40000 : Int) < (s.length : Int) + t.length := c0; omega
    conv => whnf
    refine Or.inl ⟨InR.i64 (by omega) (by rw [m1, m1]; omega), ?_⟩
    conv => whnf
    refine CondP.dec (fun c1 => ?_) (fun c1 => ?_)
    ·conv => whnf
     exact h
    have c1 : u1.length + v1.length ≤ 256 := by have c1 : ¬ (256 : Int) < ((u1.map (encTy pl1)).length : Int) + (v1.map (encTy pl2)).length := c1; rw [m1, m1] at c1; omega
    conv => whnf
    refine Or.inl ⟨InR.i64 (by omega) (by rw [m2, m2]; omega), ?_⟩
    conv => whnf
    refine CondP.dec (fun c2 => ?_) (fun c2 => ?_)
    ·conv => whnf
     exact h
    have c2 : u2.length + v2.length ≤ 256 := by have c2 : ¬ (256 : Int) < ((u2.map (encRe pl1)).length : Int) + (v2.map (encRe pl2)).length := c2; rw [m2, m2] at c2; omega
    conv => whnf
    refine Or.inl ⟨InR.i64 (by omega) (by rw [m3, m3]; omega), ?_⟩
    conv => whnf
    refine CondP.dec (fun c3 => ?_) (fun c3 => ?_)
    ·conv => whnf
     exact h
    have c3 : u3.length + v3.length ≤ 1024 := by have c3 : ¬ (1024 : Int) < ((u3.map (encRu pl1)).length : Int) + (v3.map (encRu pl2)).length := c3; rw [m3, m3] at c3; omega
    conv => whnf
    refine Or.inl ⟨InR.i64 (by omega) (by rw [m4, m4]; omega), ?_⟩
    conv => whnf
    refine CondP.dec (fun c4 => ?_) (fun c4 => ?_)
    ·conv => whnf
     exact h
    have c4 : u4.length + v4.length ≤ 64 := by have c4 : ¬ (64 : Int) < ((encCos pl1 u4).length : Int) + (encCos pl2 v4).length := c4; rw [m4, m4] at c4; omega
    conv => whnf
    refine Or.inl ⟨InR.i64 (by omega) (by rw [m5, m5]; omega), ?_⟩
    conv => whnf
    refine CondP.dec (fun c5 => ?_) (fun c5 => ?_)
    ·conv => whnf
     exact h
    have c5 : u5.length + v5.length ≤ 256 := by have c5 : ¬ (256 : Int) < ((u5.map (encIn pl1)).length : Int) + (v5.map (encIn pl2)).length := c5; rw [m5, m5] at c5; omega
    conv => whnf
    refine Or.inl ⟨InR.i64 (by omega) (by rw [m6, m6]; omega), ?_⟩
    conv => whnf
    refine CondP.dec (fun c6 => ?_) (fun c6 => ?_)
    ·conv => whnf
     exact h
    have c6 : u6.length + v6.length ≤ 256 := by have c6 : ¬ (256 : Int) < ((u6.map (encOv pl1)).length : Int) + (v6.map (encOv pl2)).length := c6; rw [m6, m6] at c6; omega
    obtain ⟨-, ⟨p1, k1'⟩, -⟩ := top_inv hx
    obtain ⟨-, ⟨p2, k2'⟩, -⟩ := top_inv hy
    conv => whnf
    refine ⟨hs, fun l' p' hz => ?_, fun l' p' c' hc' hz => ?_⟩
    case refine_2 =>
     rw [show allF s 16384 = _ from k1'] at hz
     exact absurd (by simpa using congrArg (fun x => x.2.2) hz.symm) hc'
    obtain ⟨rfl, rfl⟩ : L1 = l' ∧ p1 = p' := by have := k1'.symm.trans hz; simpa using this
    conv => whnf
    refine ⟨ht1, fun l' p' hz => ?_, fun l' p' c' hc' hz => ?_⟩
    case refine_2 =>
     rw [show allF t 16384 = _ from k2'] at hz
     exact absurd (by simpa using congrArg (fun x => x.2.2) hz.symm) hc'
    obtain ⟨rfl, rfl⟩ : L2 = l' ∧ p2 = p' := by have := k2'.symm.trans hz; simpa using this
    conv => whnf
    have n1 : L1.length ≤ 16384 := by have := allF_le s 16384; rw [k1'] at this; exact this
    have n2 : L2.length ≤ 16384 := by have := allF_le t 16384; rw [k2'] at this; exact this
    have n3 := toksR_len L1
    have n4 := toksR_len L2
    refine Or.inl ⟨InR.i64 (by omega) (by omega), ?_⟩
    conv => whnf
    refine CondP.dec (fun c7 => ?_) (fun c7 => ?_)
    ·conv => whnf
     exact h
    have c7 : L1.length + L2.length ≤ 16384 := by have c7 : ¬ (16384 : Int) < ((toksR L1).length : Int) + (toksR L2).length := c7; omega
    obtain ⟨w, L, hw1, hw3⟩ := rows_law hx hy (by omega) (show Un.room (.mk u1 u2 u3 u4 u5 u6) (.mk v1 v2 v3 v4 v5 v6) from ⟨c1, c2, c3, c4, c5, c6⟩) c7
    conv => whnf
    refine ⟨by show s.length + 1 < 2 ^ 62; omega, ?_⟩
    conv => whnf
    have hl : (s ++ [10]).length = s.length + 1 := by simp
    refine ⟨by show (s ++ [10]).length + t.length < 2 ^ 62; omega, ?_⟩
    conv => whnf
    refine ⟨by show (s ++ [10] ++ t).length < 4294967281; rw [List.length_append]; omega, fun x3 hx3 => ?_⟩
    rw [show s ++ 10 :: t = s ++ [10] ++ t by simp] at hw1
    obtain rfl := hx3.symm.trans hw1
    obtain ⟨w1, w2, w3, w4, w5, w6⟩ := w
    obtain ⟨pl3, hpl3⟩ : ∃ pl3, placeOf L (s ++ [10] ++ t).length = pl3 := ⟨_, rfl⟩
    unfold TopK
    dsimp only
    rw [show placeOf L _ = pl3 from hpl3]
    conv => whnf
    have r1 : ∀ (p : Pl) (l : List Ty), ∀ r ∈ l.map (encTy p), r.length = 6 := fun p l r hr => by obtain ⟨x, _, rfl⟩ := List.mem_map.1 hr; rfl
    have r2 : ∀ (p : Pl) (l : List Re), ∀ r ∈ l.map (encRe p), r.length = 6 := fun p l r hr => by obtain ⟨x, _, rfl⟩ := List.mem_map.1 hr; rfl
    have r3 : ∀ (p : Pl) (l : List Ru), ∀ r ∈ l.map (encRu p), r.length = 4 := fun p l r hr => by obtain ⟨x, _, rfl⟩ := List.mem_map.1 hr; rfl
    have r5 : ∀ (p : Pl) (l : List Ini), ∀ r ∈ l.map (encIn p), r.length = 4 := fun p l r hr => by obtain ⟨x, _, rfl⟩ := List.mem_map.1 hr; rfl
    have r6 : ∀ (p : Pl) (l : List Ov), ∀ r ∈ l.map (encOv p), r.length = 2 := fun p l r hr => by obtain ⟨x, _, rfl⟩ := List.mem_map.1 hr; rfl
    have r4 : ∀ (p : Pl) (l : List Co), ∀ r ∈ encCos p l, r.length = 11 := fun p l r hr => by rw [encCos_eq] at hr; obtain ⟨x, _, rfl⟩ := List.mem_map.1 hr; obtain ⟨_, _, _, _, ⟨_, _, _, _, _, _⟩, _⟩ := x; rfl
    have b1 : ∀ n : Nat, n ≤ 2000000 → ∀ k, k ≤ 1024 → n * k ≤ 2 ^ 47 := fun n hn k hk => Nat.le_trans (Nat.mul_le_mul hn hk) (by decide)
    refine ⟨fun r hr => r1 _ _ r hr, b1 _ (by rw [m1]; omega) _ (Nat.le_of_ble_eq_true rfl), by rw [m1]; omega, ?_⟩
    conv => whnf
    refine ⟨fun r hr => r1 _ _ r hr, b1 _ (by rw [m1, m1]; omega) _ (Nat.le_of_ble_eq_true rfl), by rw [m1, m1]; omega, ?_⟩
    conv => whnf
    refine ⟨fun r hr => r2 _ _ r hr, b1 _ (by rw [m2]; omega) _ (Nat.le_of_ble_eq_true rfl), by rw [m2]; omega, ?_⟩
    conv => whnf
    refine ⟨fun r hr => r2 _ _ r hr, b1 _ (by rw [m2, m2]; omega) _ (Nat.le_of_ble_eq_true rfl), by rw [m2, m2]; omega, ?_⟩
    conv => whnf
    refine ⟨fun r hr => r3 _ _ r hr, b1 _ (by rw [m3]; omega) _ (Nat.le_of_ble_eq_true rfl), by rw [m3]; omega, ?_⟩
    conv => whnf
    refine ⟨fun r hr => r3 _ _ r hr, b1 _ (by rw [m3, m3]; omega) _ (Nat.le_of_ble_eq_true rfl), by rw [m3, m3]; omega, ?_⟩
    conv => whnf
    refine ⟨fun r hr => r4 _ _ r hr, b1 _ (by rw [m4]; omega) _ (Nat.le_of_ble_eq_true rfl), by rw [m4]; omega, ?_⟩
    conv => whnf
    refine ⟨fun r hr => r4 _ _ r hr, b1 _ (by rw [m4, m4]; omega) _ (Nat.le_of_ble_eq_true rfl), by rw [m4, m4]; omega, ?_⟩
    conv => whnf
    refine ⟨fun r hr => r5 _ _ r hr, b1 _ (by rw [m5]; omega) _ (Nat.le_of_ble_eq_true rfl), by rw [m5]; omega, ?_⟩
    conv => whnf
    refine ⟨fun r hr => r5 _ _ r hr, b1 _ (by rw [m5, m5]; omega) _ (Nat.le_of_ble_eq_true rfl), by rw [m5, m5]; omega, ?_⟩
    conv => whnf
    refine ⟨fun r hr => r6 _ _ r hr, b1 _ (by rw [m6]; omega) _ (Nat.le_of_ble_eq_true rfl), by rw [m6]; omega, ?_⟩
    conv => whnf
    refine ⟨fun r hr => r6 _ _ r hr, b1 _ (by rw [m6, m6]; omega) _ (Nat.le_of_ble_eq_true rfl), by rw [m6, m6]; omega, ?_⟩
    conv => whnf
    obtain ⟨plb, xb, hb1, hb2⟩ := enc_both pl1 pl2 u1 v1 u2 v2 u3 v3 u4 v4 u5 v5 u6 v6
    refine ⟨pl3, .mk w1 w2 w3 w4 w5 w6, plb, xb, rfl, by rw [hb1]; rfl, ⟨rfl, by have := unit_small hx3; omega, by omega⟩, fun b hb => ?_⟩
    obtain rfl : b = true := hb.symm.trans (sameUn_of (hw3.trans hb2.symm))
    conv => whnf
    exact h
 ·exact h.elim
end Go.PM.Lex
end

section
set_option maxRecDepth 100000
namespace Go
variable {H : Type} {enc : TypeId × Value → H}
end Go
namespace Go.PM.Lex
open Go.Proofs Go.Proofs.YtjmoaahgfjaafaaGreatDoor Go.ChangeShapes Go.WideShapes Go.ChangeAt Go.RowKit
theorem r_own : ownKnob Tryz.prog.godebug = none := by kernel_rfl
theorem r_star : "*" ++ "errors.errorString" = "*errors.errorString" := by decide
theorem r_row124 (u : TypeId) (h : Tryz.prog.typeName? 3 u = some "*errors.errorString") : u = 355 :=
 typeName_ptr_named (nm := "errors.errorString") (by rw [r_star]; kernel_rfl) (by kernel_rfl) (by decide) u (by rw [r_star]; exact h)
theorem r_iface {W : World} {n : String} {text : List UInt8} {g : Nat} (hg : Tryz.prog.globalNamed n = some g) (ht : (Tryz.prog.globals[g]?).map (·.type) = some 243)
  (h : laidMet Tryz.prog [(n, .iface "*errors.errorString" (.ptr (.agg [.lit (.string text)])))] W) : ∃ ev, W.cell? ⟨g, 0, none⟩ = some ev ∧ (ev = .nilIface ∨ ∃ te pe, ev = .iface te pe) := by
 obtain ⟨a1, s1, hv1, _⟩ := laid_sentinel h hg ht Tryz.underlying243 r_row124 Tryz.underlying355 Tryz.underlying357 rfl rfl Tryz.underlying9 (by kernel_rfl) (by kernel_rfl)
 refine ⟨.iface 355 (.pointer (some a1)), ?_, .inr ⟨_, _, rfl⟩⟩
 simpa using World.var?_cell hg hv1 0
theorem r_glob {W : World} (h : laidMetH Tryz.prog Rows.parseRowsRow.laid W) (hsh : W.ShapedOpen Tryz.prog) : GlobOK W 8 := by
 rw [MakeChecks.laidMetH_plain _ _ _ (by kernel_rfl)] at h
 have h1 := laidMet.filter (fun x => x.1 == "strconv.ErrSyntax") h
 have h2 := laidMet.filter (fun x => x.1 == "strconv.ErrRange") h
 exact ⟨by omega, Tryz.laysM143.s1_3 W hsh, r_iface (by kernel_rfl) (by kernel_rfl) h1, r_iface (by kernel_rfl) (by kernel_rfl) h2⟩
theorem r_kept {e e' : Env} {W W' : World} {σ' : St} {may : MemPlace → Prop} (h : Later e ⟨[], [], 0⟩ W e' σ' W') : W.keptBut W' may := by
 refine ⟨h.os, h.output, fun i hi => ?_⟩
 have := h.blocks i hi (fun j hj => by simp at hj) (fun t ht => by cases ht)
 rw [this]
 cases hh : W.heap[i]? with
 | none => rfl
 | some o => cases o <;> simp
def ePure : Env := ⟨fun _ => 0, fun _ => none, fun _ _ => False⟩
theorem r_start {W : World} (h : 8 ≤ W.heap.size) : SRel (GG W 8) ePure ⟨[], [], 0⟩ W where
 inj := fun i j hi => by simp at hi
 box := fun i x hx => by simp at hx
 low := fun i hi => by simp at hi
 tkn := fun t ht => by cases ht
 own := fun t ht => by cases ht
 dis := fun t t' ht => by cases ht
 xlt := fun b off hx => hx.elim
 xown := fun t ht => by cases ht
 glob := fun b hb => rfl
 big := h
end Go.PM.Lex
end

section
namespace Go.PM.Lex
open Go.Proofs Go.Proofs.YtjmoaahgfjaafaaGreatDoor
theorem and_tt {a b : Bool} (h1 : a = true) (h2 : b = true) : (a && b) = true := by rw [h1, h2]; rfl
theorem joined_of {P : Program} {f : FuncId} {fn : Func} {s : ChangeSpec} {c : OpenClaim}
  (p1 : laidOutB P = true) (p2 : mapsRowed P = true) (p3 : (P.stops == []) = true) (p4 : (P.stopKnobs == []) = true) (p5 : (c.plainKeys == P.plainKeys) = true) (p6 : P.stopsHeard = true) (p7 : P.mayEnter = true) (p8 : (c.lifted == P.liftsFinal) = true) (p9 : (P.make == some c.make) = true)
  (k1 : c.wf (OpenSpec.ofChange s) = true) (k2 : fn.params.all (P.readableRec ·) = true) (k3 : namedTie P c.named s.vars = true) (k4 : (c.stops == []) = true) (k5 : (c.knobs == []) = true)
  (k6 : (c.inPlace == P.inPlace f) = true) (k7 : (c.unfollowed == P.unfollowed f) = true) (k8 : (c.recurses == P.recurses f) = true) (k9 : (c.named == P.varsNamed f) = true)
  (k10 : (c.maps == (fn.params.toList ++ s.plain.varTypes P).any (P.mapsRec ·)) = true) (k11 : (c.ifaces == (fn.params.toList ++ s.plain.varTypes P).any (P.ifacesRec ·)) = true) (k12 : (c.mapsOut == P.mapsAmong fn.resultTypes.toList) = true)
  (k13 : (c.loops == (fn.params.toList ++ s.plain.varTypes P).any (P.loopsFrom ·)) = true) (k14 : (c.wideKeys == (fn.params.toList ++ s.plain.varTypes P ++ fn.resultTypes.toList).any (P.wideKeysFrom ·)) = true)
  (k15 : s.vars.all (P.varReadable ·) = true) (k16 : fn.resultTypes.all (fun t => P.readableRec t && decide (t < P.types.size)) = true) (k17 : (c.ifacesOut == fn.resultTypes.toList.any (P.ifacesRec ·)) = true) (k18 : (c.loopsOut == fn.resultTypes.toList.any (P.loopsFrom ·)) = true)
  (k19 : c.shortTexts.isNone = true) (k20 : (c.kinds == (if c.domain.isEmpty then [] else fn.params.toList.map fun t => match P.underlying t with | some (.int k) => some k | _ => none)) = true) (k21 : (c.pinned == c.pinnedBy) = true)
  (k22 : (c.veiled == (fn.params.toList ++ s.plain.varTypes P ++ fn.resultTypes.toList).any (P.veiledRec ·)) = true) (k23 : c.veiledFits P fn.params.toList (fn.params.toList ++ s.plain.varTypes P ++ fn.resultTypes.toList) = true) : joinedFacts P f fn s c = true := by
 unfold joinedFacts
 exact (and_tt (and_tt (and_tt (and_tt (and_tt (and_tt (and_tt (and_tt (and_tt (and_tt (and_tt (and_tt (and_tt (and_tt (and_tt (and_tt (and_tt (and_tt (and_tt (and_tt (and_tt (and_tt (and_tt (and_tt (and_tt (and_tt (and_tt (and_tt (and_tt (and_tt (and_tt k1 p1) p2) k2) k3) k4) p3) k5) p4) k6) k7) k8) k9) k10) k11) k12) k13) k14) k15) k16) k17) k18) p5) k19) p6) p7) p8) p9) k20) k21) k22) k23)
theorem jp1 : laidOutB Tryz.checked.prog = true := by kernel_rfl
theorem jp2 : mapsRowed Tryz.checked.prog = true := by kernel_rfl
theorem jp3 : (Tryz.checked.prog.stops == []) = true := by kernel_rfl
theorem jp4 : (Tryz.checked.prog.stopKnobs == []) = true := by kernel_rfl
theorem jp5 : (Rows.parseRowsRow.plainKeys == Tryz.checked.prog.plainKeys) = true := by kernel_rfl
theorem jp6 : Tryz.checked.prog.stopsHeard = true := by kernel_rfl
theorem jp7 : Tryz.checked.prog.mayEnter = true := by kernel_rfl
theorem jp8 : (Rows.parseRowsRow.lifted == Tryz.checked.prog.liftsFinal) = true := by kernel_rfl
theorem jp9 : (Tryz.checked.prog.make == some Rows.parseRowsRow.make) = true := by kernel_rfl
theorem jp10 : Tryz.checked.prog.mainIs = some (Rows.parseRowsCard.stood.harness.1, Rows.parseRowsCard.stood.harness.2.toList) := by kernel_rfl
theorem jp11 : Rows.parseRowsCard.stood.looks = Tryz.checked.prog.looks [] := by kernel_rfl
end Go.PM.Lex
end
