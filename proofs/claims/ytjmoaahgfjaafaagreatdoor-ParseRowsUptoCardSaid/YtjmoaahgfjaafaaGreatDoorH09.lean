/- A part of the proof: plain logic, contracts and laws over the given program. -/
import Derived.Test.YtjmoaahgfjaafaaGreatDoorH08
set_option linter.unusedVariables false
set_option linter.unusedSimpArgs false
set_option linter.all false
section
set_option maxRecDepth 100000
set_option maxHeartbeats 4000000
namespace Go.PM.Lex
open Go.Proofs
variable {w0 : World} {nG : Nat}
theorem callGo_eq (ex : Ts → R Ex) (k : Nat) (l : List Ex) (ts : Ts) : callGo ex (k + 1) l ts = (if l = [] then .ok () ts else mustF [44] ts).bind fun _ ts => (ex ts).bind fun e ts => callGo ex k (l ++ [e]) ts := rfl
noncomputable def tblCall1 (d : Nat) : Tbl := [(93, spMust), (47, spExprB d)]
noncomputable def tblCallW (d : Nat) : Tbl := [(86, spIs), (93, spMust), (85, spFail), (322, spInU Tryz.f322 (unrOf [(1, 5)]) (tblCall1 d))]
noncomputable def tblCall (d : Nat) : Tbl := [(171, spIn Tryz.f171 (tblCallW d))]
theorem call_ok {d : Nat} (ht : TblOK (GG w0 nG) (tblCall d)) : PCalls (GG w0 nG) 294 (spCall d) := by
 refine pcalls tab_ok mixed (tbl := tblCall d) ht Tryz.func294 rfl (by kernel_rfl) (by kernel_rfl) ?_
 intro args σ K h
 unfold spCall rdSp at h
 split at h
 ·rename_i rest t rows a en dp
  obtain ⟨L, ts, rfl, ho, h⟩ := h
  split at h
  ·rename_i op n e at'
   obtain ⟨⟨hdp, rfl, rfl⟩, o, rfl, h⟩ := h
   have h := h _ rfl
   have h0 := ho.lo
   have h1 := ho.hi
   have h2 := ho.big
   refine ⟨loopsOf [], 1, false, by simp, Nat.le_of_ble_eq_true rfl, ?_⟩
   conv => whnf
   refine CondP.dec (fun hop => ?_) (fun hop => ?_)
   ·obtain rfl : o = 22 := by omega
    have har : arity 22 = 3 := rfl
    conv => whnf
    refine Or.inl ⟨InR.i64 (by decide) (by decide), ?_⟩
    conv => whnf
    refine Or.inl ⟨InR.i64 (by decide) (by decide), ?_⟩
    conv => whnf
    rw [har] at h
    refine ⟨_, fun _ _ h => h, Nat.le_of_ble_eq_true rfl, ?_⟩
    conv => whnf
    refine ⟨L, ts, rfl, ho, [[40]], rfl, by simp, fun b hw1 => ?_⟩
    cases b with
    | false =>
     rw [withinF, if_neg (by rw [hw1]; simp)] at h
     conv => whnf
     refine ⟨L, ts, rfl, ho, fun x hx => ?_⟩
     rw [mustF, if_neg (by rw [hw1]; simp)] at hx
     subst hx
     intro a9 d9
     conv => whnf
     exact h _ _
    | true =>
     rw [withinF, if_pos hw1] at h
     conv => whnf
     refine CondP.dec (fun hc => ?_) (fun hc => ?_)
     ·rw [if_pos (by omega)] at h
      conv => whnf
      refine ⟨L, ts, rfl, ho, ?_⟩
      conv => whnf
      exact h _ _
     ·rw [if_neg (by omega)] at h
      conv => whnf
      refine ⟨L, ts, rfl, ho, fun x hx => ?_⟩
      rw [mustF, if_pos hw1] at hx
      subst hx
      intro a1 hle1 ho1
      have hb1 := ho1.hi
      conv => whnf
      refine Or.inl ⟨InR.i64 (by omega) (by omega), ?_⟩
      conv => whnf
      refine ⟨_, fun _ _ h => h, Nat.le_of_ble_eq_true rfl, ?_⟩
      conv => whnf
      rw [callGo_eq] at h
      rw [if_pos rfl, R.bind_ok] at h
      refine ⟨L, ts.tail, rfl, ho1, ⟨by omega, by omega, by omega⟩, fun x hx10 => ?_⟩
      rcases x with ⟨v10, ts10⟩ | ⟨r10, e10⟩
      rotate_left
      ·rw [hx10, R.bind_err, R.bind_err] at h; intro a9 d9; (conv => whnf); exact h _ _
      rw [hx10, R.bind_ok] at h
      intro a10 hle10 ho10
      have hb10 := ho10.hi
      obtain ⟨v10a, v10b, v10c, v10d, v10e⟩ := v10
      conv => whnf
      refine ⟨rfl, rfl, Nat.le_of_ble_eq_true rfl, Nat.le_of_ble_eq_true rfl, ?_⟩
      conv => whnf
      repeat (refine ⟨rfl, ?_⟩; conv => whnf)
      refine Or.inl ⟨InR.i64 (by decide) (by decide), ?_⟩
      conv => whnf
      rw [callGo_eq] at h
      rw [if_neg (by simp)] at h
      refine ⟨L, ts10, rfl, ho10, fun x hx11 => ?_⟩
      rcases x with ⟨v11, ts11⟩ | ⟨r11, e11⟩
      rotate_left
      ·rw [hx11, R.bind_err, R.bind_err] at h; intro a9 d9; (conv => whnf); exact h _ _
      rw [hx11, R.bind_ok] at h
      intro a11 hle11 ho11
      have hb11 := ho11.hi
      conv => whnf
      refine ⟨L, ts11, rfl, ho11, ⟨by omega, by omega, by omega⟩, fun x hx12 => ?_⟩
      rcases x with ⟨v12, ts12⟩ | ⟨r12, e12⟩
      rotate_left
      ·rw [hx12, R.bind_err, R.bind_err] at h; intro a9 d9; (conv => whnf); exact h _ _
      rw [hx12, R.bind_ok] at h
      intro a12 hle12 ho12
      have hb12 := ho12.hi
      obtain ⟨v12a, v12b, v12c, v12d, v12e⟩ := v12
      conv => whnf
      refine ⟨rfl, rfl, Nat.le_of_ble_eq_true rfl, Nat.le_of_ble_eq_true rfl, ?_⟩
      conv => whnf
      repeat (refine ⟨rfl, ?_⟩; conv => whnf)
      refine Or.inl ⟨InR.i64 (by decide) (by decide), ?_⟩
      conv => whnf
      rw [callGo_eq] at h
      rw [if_neg (by simp)] at h
      refine ⟨L, ts12, rfl, ho12, fun x hx13 => ?_⟩
      rcases x with ⟨v13, ts13⟩ | ⟨r13, e13⟩
      rotate_left
      ·rw [hx13, R.bind_err, R.bind_err] at h; intro a9 d9; (conv => whnf); exact h _ _
      rw [hx13, R.bind_ok] at h
      intro a13 hle13 ho13
      have hb13 := ho13.hi
      conv => whnf
      refine ⟨L, ts13, rfl, ho13, ⟨by omega, by omega, by omega⟩, fun x hx14 => ?_⟩
      rcases x with ⟨v14, ts14⟩ | ⟨r14, e14⟩
      rotate_left
      ·rw [hx14, R.bind_err, R.bind_err] at h; intro a9 d9; (conv => whnf); exact h _ _
      rw [hx14, R.bind_ok] at h
      intro a14 hle14 ho14
      have hb14 := ho14.hi
      obtain ⟨v14a, v14b, v14c, v14d, v14e⟩ := v14
      conv => whnf
      refine ⟨rfl, rfl, Nat.le_of_ble_eq_true rfl, Nat.le_of_ble_eq_true rfl, ?_⟩
      conv => whnf
      repeat (refine ⟨rfl, ?_⟩; conv => whnf)
      refine Or.inl ⟨InR.i64 (by decide) (by decide), ?_⟩
      conv => whnf
      rw [callGo] at h
      rw [R.bind_ok] at h
      have hx99 : ts14 = ts14 := rfl
      have ho2 := ho14
      obtain ⟨ts2, hts2⟩ : ∃ t, t = ts14 := ⟨_, rfl⟩
      rw [← hts2] at h ho2
      rw [if_neg (by simp)] at h
      refine ⟨L, ts2, rfl, ho2, fun x hx3 => ?_⟩
      rcases x with ⟨v3, ts3⟩ | ⟨r3, e3⟩
      rotate_left
      ·rw [hx3, R.bind_err] at h; intro a9 d9; (conv => whnf); exact h _ _
      rw [hx3, R.bind_ok] at h
      intro a3 hle3 ho3
      have hb3 := ho3.hi
      conv => whnf
      refine Or.inl ⟨InR.i64 (by omega) (by omega), ?_⟩
      conv => whnf
      rw [Int.add_sub_cancel]
      exact h _ (by omega) ho3
   conv => whnf
   refine CondP.dec (fun hop2 => ?_) (fun hop2 => ?_)
   ·obtain rfl : o = 20 := by omega
    have har : arity 20 = 2 := rfl
    conv => whnf
    refine Or.inl ⟨InR.i64 (by decide) (by decide), ?_⟩
    conv => whnf
    rw [har] at h
    refine ⟨_, fun _ _ h => h, Nat.le_of_ble_eq_true rfl, ?_⟩
    conv => whnf
    refine ⟨L, ts, rfl, ho, [[40]], rfl, by simp, fun b hw1 => ?_⟩
    cases b with
    | false =>
     rw [withinF, if_neg (by rw [hw1]; simp)] at h
     conv => whnf
     refine ⟨L, ts, rfl, ho, fun x hx => ?_⟩
     rw [mustF, if_neg (by rw [hw1]; simp)] at hx
     subst hx
     intro a9 d9
     conv => whnf
     exact h _ _
    | true =>
     rw [withinF, if_pos hw1] at h
     conv => whnf
     refine CondP.dec (fun hc => ?_) (fun hc => ?_)
     ·rw [if_pos (by omega)] at h
      conv => whnf
      refine ⟨L, ts, rfl, ho, ?_⟩
      conv => whnf
      exact h _ _
     ·rw [if_neg (by omega)] at h
      conv => whnf
      refine ⟨L, ts, rfl, ho, fun x hx => ?_⟩
      rw [mustF, if_pos hw1] at hx
      subst hx
      intro a1 hle1 ho1
      have hb1 := ho1.hi
      conv => whnf
      refine Or.inl ⟨InR.i64 (by omega) (by omega), ?_⟩
      conv => whnf
      refine ⟨_, fun _ _ h => h, Nat.le_of_ble_eq_true rfl, ?_⟩
      conv => whnf
      rw [callGo_eq] at h
      rw [if_pos rfl, R.bind_ok] at h
      refine ⟨L, ts.tail, rfl, ho1, ⟨by omega, by omega, by omega⟩, fun x hx10 => ?_⟩
      rcases x with ⟨v10, ts10⟩ | ⟨r10, e10⟩
      rotate_left
      ·rw [hx10, R.bind_err, R.bind_err] at h; intro a9 d9; (conv => whnf); exact h _ _
      rw [hx10, R.bind_ok] at h
      intro a10 hle10 ho10
      have hb10 := ho10.hi
      obtain ⟨v10a, v10b, v10c, v10d, v10e⟩ := v10
      conv => whnf
      refine ⟨rfl, rfl, Nat.le_of_ble_eq_true rfl, Nat.le_of_ble_eq_true rfl, ?_⟩
      conv => whnf
      repeat (refine ⟨rfl, ?_⟩; conv => whnf)
      refine Or.inl ⟨InR.i64 (by decide) (by decide), ?_⟩
      conv => whnf
      rw [callGo_eq] at h
      rw [if_neg (by simp)] at h
      refine ⟨L, ts10, rfl, ho10, fun x hx11 => ?_⟩
      rcases x with ⟨v11, ts11⟩ | ⟨r11, e11⟩
      rotate_left
      ·rw [hx11, R.bind_err, R.bind_err] at h; intro a9 d9; (conv => whnf); exact h _ _
      rw [hx11, R.bind_ok] at h
      intro a11 hle11 ho11
      have hb11 := ho11.hi
      conv => whnf
      refine ⟨L, ts11, rfl, ho11, ⟨by omega, by omega, by omega⟩, fun x hx12 => ?_⟩
      rcases x with ⟨v12, ts12⟩ | ⟨r12, e12⟩
      rotate_left
      ·rw [hx12, R.bind_err, R.bind_err] at h; intro a9 d9; (conv => whnf); exact h _ _
      rw [hx12, R.bind_ok] at h
      intro a12 hle12 ho12
      have hb12 := ho12.hi
      obtain ⟨v12a, v12b, v12c, v12d, v12e⟩ := v12
      conv => whnf
      refine ⟨rfl, rfl, Nat.le_of_ble_eq_true rfl, Nat.le_of_ble_eq_true rfl, ?_⟩
      conv => whnf
      repeat (refine ⟨rfl, ?_⟩; conv => whnf)
      refine Or.inl ⟨InR.i64 (by decide) (by decide), ?_⟩
      conv => whnf
      rw [callGo] at h
      rw [R.bind_ok] at h
      have hx99 : ts12 = ts12 := rfl
      have ho2 := ho12
      obtain ⟨ts2, hts2⟩ : ∃ t, t = ts12 := ⟨_, rfl⟩
      rw [← hts2] at h ho2
      rw [if_neg (by simp)] at h
      refine ⟨L, ts2, rfl, ho2, fun x hx3 => ?_⟩
      rcases x with ⟨v3, ts3⟩ | ⟨r3, e3⟩
      rotate_left
      ·rw [hx3, R.bind_err] at h; intro a9 d9; (conv => whnf); exact h _ _
      rw [hx3, R.bind_ok] at h
      intro a3 hle3 ho3
      have hb3 := ho3.hi
      conv => whnf
      refine Or.inl ⟨InR.i64 (by omega) (by omega), ?_⟩
      conv => whnf
      rw [Int.add_sub_cancel]
      exact h _ (by omega) ho3
   have har : arity o = 1 := by rw [arity, if_neg (by omega), if_neg (by omega)]
   conv => whnf
   rw [har] at h
   refine ⟨_, fun _ _ h => h, Nat.le_of_ble_eq_true rfl, ?_⟩
   conv => whnf
   refine ⟨L, ts, rfl, ho, [[40]], rfl, by simp, fun b hw1 => ?_⟩
   cases b with
   | false =>
    rw [withinF, if_neg (by rw [hw1]; simp)] at h
    conv => whnf
    refine ⟨L, ts, rfl, ho, fun x hx => ?_⟩
    rw [mustF, if_neg (by rw [hw1]; simp)] at hx
    subst hx
    intro a9 d9
    conv => whnf
    exact h _ _
   | true =>
    rw [withinF, if_pos hw1] at h
    conv => whnf
    refine CondP.dec (fun hc => ?_) (fun hc => ?_)
    ·rw [if_pos (by omega)] at h
     conv => whnf
     refine ⟨L, ts, rfl, ho, ?_⟩
     conv => whnf
     exact h _ _
    ·rw [if_neg (by omega)] at h
     conv => whnf
     refine ⟨L, ts, rfl, ho, fun x hx => ?_⟩
     rw [mustF, if_pos hw1] at hx
     subst hx
     intro a1 hle1 ho1
     have hb1 := ho1.hi
     conv => whnf
     refine Or.inl ⟨InR.i64 (by omega) (by omega), ?_⟩
     conv => whnf
     refine ⟨_, fun _ _ h => h, Nat.le_of_ble_eq_true rfl, ?_⟩
     conv => whnf
     rw [callGo_eq] at h
     rw [if_pos rfl, R.bind_ok] at h
     refine ⟨L, ts.tail, rfl, ho1, ⟨by omega, by omega, by omega⟩, fun x hx10 => ?_⟩
     rcases x with ⟨v10, ts10⟩ | ⟨r10, e10⟩
     rotate_left
     ·rw [hx10, R.bind_err, R.bind_err] at h; intro a9 d9; (conv => whnf); exact h _ _
     rw [hx10, R.bind_ok] at h
     intro a10 hle10 ho10
     have hb10 := ho10.hi
     obtain ⟨v10a, v10b, v10c, v10d, v10e⟩ := v10
     conv => whnf
     refine ⟨rfl, rfl, Nat.le_of_ble_eq_true rfl, Nat.le_of_ble_eq_true rfl, ?_⟩
     conv => whnf
     repeat (refine ⟨rfl, ?_⟩; conv => whnf)
     refine Or.inl ⟨InR.i64 (by decide) (by decide), ?_⟩
     conv => whnf
     rw [callGo] at h
     rw [R.bind_ok] at h
     have hx99 : ts10 = ts10 := rfl
     have ho2 := ho10
     obtain ⟨ts2, hts2⟩ : ∃ t, t = ts10 := ⟨_, rfl⟩
     rw [← hts2] at h ho2
     rw [if_neg (by simp)] at h
     refine ⟨L, ts2, rfl, ho2, fun x hx3 => ?_⟩
     rcases x with ⟨v3, ts3⟩ | ⟨r3, e3⟩
     rotate_left
     ·rw [hx3, R.bind_err] at h; intro a9 d9; (conv => whnf); exact h _ _
     rw [hx3, R.bind_ok] at h
     intro a3 hle3 ho3
     have hb3 := ho3.hi
     conv => whnf
     refine Or.inl ⟨InR.i64 (by omega) (by omega), ?_⟩
     conv => whnf
     rw [Int.add_sub_cancel]
     exact h _ (by omega) ho3
  ·exact h.elim
 ·exact h.elim
end Go.PM.Lex
end

section
set_option maxRecDepth 100000
set_option maxHeartbeats 4000000
namespace Go.PM.Lex
open Go.Proofs
variable {w0 : World} {nG : Nat}
noncomputable def tblPrim1 (d : Nat) : Tbl := [(47, spExprB d)]
noncomputable def tblPrimW (d : Nat) : Tbl := [(86, spIs), (93, spMust), (85, spFail), (293, spIn Tryz.f293 (tblPrim1 d))]
noncomputable def tblPrim (d : Nat) : Tbl := [(184, spAsk startsF), (85, spFail), (166, spMore), (171, spIn Tryz.f171 (tblPrimW d)), (103, spArgs d), (92, spNameP), (86, spIs), (96, spFunctor), (294, spCall d)]
theorem primary_ok {d : Nat} (ht : TblOK (GG w0 nG) (tblPrim d)) : PCalls (GG w0 nG) 243 (spPrimary d) := by
 refine pcallsB tab_ok mixed (tbl := tblPrim d) ht Tryz.func243 rfl (by kernel_rfl) (by kernel_rfl) ?_
 intro args σ K h
 unfold spPrimary spRD rdSp at h
 split at h
 ·rename_i rest t rows a en dp
  obtain ⟨L, ts, rfl, ho, h⟩ := h
  split at h
  ·obtain ⟨hdp, h⟩ := h
   have h0 := ho.lo
   have h1 := ho.hi
   have h2 := ho.big
   refine ⟨loopsOf [], unrOf [], tieOf [], tieOf [], tieOf [294], 1, false, by simp, Nat.le_of_ble_eq_true rfl, ?_⟩
   have h := h _ rfl
   conv => whnf
   refine ⟨L, ts, rfl, ho, fun b hst => ?_⟩
   cases b with
   | false =>
    rw [primaryF, if_pos hst] at h
    conv => whnf
    refine ⟨L, ts, rfl, ho, ?_⟩
    conv => whnf
    exact h _ _
   | true =>
    rw [primaryF, if_neg (by rw [hst]; simp)] at h
    have hot := ho.tl (startsF_ne hst)
    have hbt := hot.hi
    conv => whnf
    refine ⟨L, ts, rfl, ho, fun fin => Or.inl ⟨rfl, ?_⟩⟩
    conv => whnf
    refine CondP.dec (fun hc => ?_) (fun hc => ?_)
    ·rw [if_pos (show (hd ts).kind = 2 by omega)] at h
     conv => whnf
     repeat (refine ⟨rfl, ?_⟩; conv => whnf)
     refine Or.inl ⟨InR.i64 (by omega) (by omega), ?_⟩
     conv => whnf
     exact h _ (by omega) hot
    rw [if_neg (show ¬ (hd ts).kind = 2 by omega)] at h
    conv => whnf
    refine CondP.dec (fun hc => ?_) (fun hc => ?_)
    ·rw [if_pos (show (hd ts).kind = 3 by omega)] at h
     conv => whnf
     repeat (refine ⟨rfl, ?_⟩; conv => whnf)
     refine Or.inl ⟨InR.i64 (by omega) (by omega), ?_⟩
     conv => whnf
     exact h _ (by omega) hot
    rw [if_neg (show ¬ (hd ts).kind = 3 by omega)] at h
    conv => whnf
    refine CondP.dec (fun hc => ?_) (fun hc => ?_)
    ·rw [if_pos (show (hd ts).text = [40] from hc)] at h
     conv => whnf
     refine ⟨_, fun _ _ h => h, Nat.le_of_ble_eq_true rfl, ?_⟩
     conv => whnf
     refine ⟨L, ts, rfl, ho, [[40]], rfl, by simp, fun b hw1 => ?_⟩
     cases b with
     | false =>
      rw [withinF, if_neg (by rw [hw1]; simp)] at h
      conv => whnf
      refine ⟨L, ts, rfl, ho, fun x hx => ?_⟩
      rw [mustF, if_neg (by rw [hw1]; simp)] at hx
      subst hx
      intro a9 d9
      conv => whnf
      exact h _ _
     | true =>
      rw [withinF, if_pos hw1] at h
      conv => whnf
      refine CondP.dec (fun hc => ?_) (fun hc => ?_)
      ·rw [if_pos (by omega)] at h
       conv => whnf
       refine ⟨L, ts, rfl, ho, ?_⟩
       conv => whnf
       exact h _ _
      ·rw [if_neg (by omega)] at h
       conv => whnf
       refine ⟨L, ts, rfl, ho, fun x hx => ?_⟩
       rw [mustF, if_pos hw1] at hx
       subst hx
       intro a1 hle1 ho1
       have hb1 := ho1.hi
       conv => whnf
       refine Or.inl ⟨InR.i64 (by omega) (by omega), ?_⟩
       conv => whnf
       refine ⟨_, fun _ _ h => h, Nat.le_of_ble_eq_true rfl, ?_⟩
       conv => whnf
       refine ⟨L, ts.tail, rfl, ho1, ⟨by omega, by omega, by omega⟩, fun x hx2 => ?_⟩
       rcases x with ⟨v2, ts2⟩ | ⟨r2, e2⟩
       rotate_left
       ·rw [hx2, R.bind_err] at h; intro a9 d9; (conv => whnf); exact h _ _
       rw [hx2, R.bind_ok] at h
       intro a2 hle2 ho2
       have hb2 := ho2.hi
       obtain ⟨v2a, v2b, v2c, v2d, v2e⟩ := v2
       conv => whnf
       rw [if_neg (by simp)] at h
       refine ⟨L, ts2, rfl, ho2, fun x hx3 => ?_⟩
       rcases x with ⟨v3, ts3⟩ | ⟨r3, e3⟩
       rotate_left
       ·rw [hx3, R.bind_err] at h; intro a9 d9; (conv => whnf); exact h _ _
       rw [hx3, R.bind_ok] at h
       intro a3 hle3 ho3
       have hb3 := ho3.hi
       conv => whnf
       refine Or.inl ⟨InR.i64 (by omega) (by omega), ?_⟩
       conv => whnf
       rw [Int.add_sub_cancel]
       exact h _ (by omega) ho3
    rw [if_neg (show ¬ (hd ts).text = [40] from hc)] at h
    conv => whnf
    refine CondP.dec (fun hc => ?_) (fun hc => ?_)
    ·rw [if_pos (show (hd ts).text = [91] from hc)] at h
     conv => whnf
     refine ⟨L, ts, rfl, ho, ⟨hdp, by simp⟩, fun x hx1 => ?_⟩
     rcases x with ⟨v1, ts1⟩ | ⟨r1, e1⟩
     rotate_left
     ·rw [hx1, R.bind_err] at h; intro a9 d9; (conv => whnf); exact h _ _
     rw [hx1, R.bind_ok] at h
     intro a1 hle1 ho1
     have hb1 := ho1.hi
     conv => whnf
     rw [← encEs_eq]
     exact h _ (by omega) ho1
    rw [if_neg (show ¬ (hd ts).text = [91] from hc)] at h
    conv => whnf
    refine CondP.dec (fun hc => ?_) (fun hc => ?_)
    ·rw [if_pos (show (hd ts).text = [36] from hc)] at h
     conv => whnf
     refine Or.inl ⟨InR.i64 (by omega) (by omega), ?_⟩
     conv => whnf
     refine ⟨L, ts.tail, rfl, hot, fun x hx1 => ?_⟩
     rcases x with ⟨v1, ts1⟩ | ⟨r1, e1⟩
     rotate_left
     ·rw [hx1, R.bind_err] at h; intro a9 d9; (conv => whnf); exact h _ _
     rw [hx1, R.bind_ok] at h
     intro a1 hle1 ho1
     have hb1 := ho1.hi
     conv => whnf
     refine ⟨L, ts1, rfl, ho1, [[40]], rfl, by simp, fun b hw2 => ?_⟩
     cases b with
     | false =>
      rw [if_neg (by rw [hw2]; simp)] at h
      conv => whnf
      exact h _ (by omega) ho1
     | true =>
      rw [if_pos hw2] at h
      conv => whnf
      refine ⟨L, ts1, rfl, ho1, ⟨hdp, by simp⟩, fun x hx3 => ?_⟩
      rcases x with ⟨v3, ts3⟩ | ⟨r3, e3⟩
      rotate_left
      ·rw [hx3, R.bind_err] at h; intro a9 d9; (conv => whnf); exact h _ _
      rw [hx3, R.bind_ok] at h
      intro a3 hle3 ho3
      have hb3 := ho3.hi
      conv => whnf
      rw [← encEs_eq]
      exact h _ (by omega) ho3
    rw [if_neg (show ¬ (hd ts).text = [36] from hc)] at h
    conv => whnf
    intro n hn
    conv => whnf
    refine CondP.ndec (fun hc => ?_) (fun hc => ?_)
    ·rw [if_pos (show functorF (hd ts).text ≠ 0 by omega)] at h
     conv => whnf
     refine Or.inl ⟨InR.i64 (by omega) (by omega), ?_⟩
     conv => whnf
     intro n2 hn2
     conv => whnf
     refine ⟨L, ts.tail, rfl, hot, ⟨hdp, rfl, rfl⟩, functorF (hd ts).text, hn2.symm, fun x hx1 => ?_⟩
     rcases x with ⟨v1, ts1⟩ | ⟨r1, e1⟩
     rotate_left
     ·rw [hx1, R.bind_err] at h; intro a9 d9; (conv => whnf); exact h _ _
     rw [hx1, R.bind_ok] at h
     intro a1 hle1 ho1
     have hb1 := ho1.hi
     conv => whnf
     rw [← hn2, ← encEs_eq]
     exact h _ (by omega) ho1
    rw [if_neg (show ¬ functorF (hd ts).text ≠ 0 by omega)] at h
    conv => whnf
    refine CondP.dec (fun hc => ?_) (fun hc => ?_)
    ·rw [if_pos (show (hd ts).text = [110, 105, 108] from hc)] at h
     conv => whnf
     refine Or.inl ⟨InR.i64 (by omega) (by omega), ?_⟩
     conv => whnf
     exact h _ (by omega) hot
    rw [if_neg (show ¬ (hd ts).text = [110, 105, 108] from hc)] at h
    conv => whnf
    refine CondP.dec (fun hc => ?_) (fun hc => ?_)
    ·rw [if_pos (show (hd ts).text = [95] from hc)] at h
     conv => whnf
     refine Or.inl ⟨InR.i64 (by omega) (by omega), ?_⟩
     conv => whnf
     exact h _ (by omega) hot
    rw [if_neg (show ¬ (hd ts).text = [95] from hc)] at h
    conv => whnf
    repeat (refine ⟨rfl, ?_⟩; conv => whnf)
    refine Or.inl ⟨InR.i64 (by omega) (by omega), ?_⟩
    conv => whnf
    exact h _ (by omega) hot
  ·exact h.elim
 ·exact h.elim
noncomputable def tblSign1 (d : Nat) : Tbl := [(180, spSignedB d)]
noncomputable def tblSignW (d : Nat) : Tbl := [(86, spIs), (93, spMust), (85, spFail), (242, spIn Tryz.f242 (tblSign1 d))]
noncomputable def tblPSign (d : Nat) : Tbl := [(91, spPlace), (86, spIs), (171, spIn Tryz.f171 (tblSignW d)), (243, spPrimary d)]
theorem signed_ok {d : Nat} (ht : TblOK (GG w0 nG) (tblPSign d)) : PCalls (GG w0 nG) 180 (spSigned d) := by
 refine pcallsN tab_ok mixed (tbl := tblPSign d) ht Tryz.func180 rfl (by kernel_rfl) (by kernel_rfl) ?_
 intro args σ K h
 unfold spSigned spRD rdSp at h
 split at h
 ·rename_i rest t rows a en dp
  obtain ⟨L, ts, rfl, ho, h⟩ := h
  split at h
  ·obtain ⟨hdp, h⟩ := h
   have h0 := ho.lo
   have h1 := ho.hi
   have h2 := ho.big
   refine ⟨loopsOf [], unrOf [(3, 4)], tieOf [], 1, false, by simp, Nat.le_of_ble_eq_true rfl, ?_⟩
   have h := h _ rfl
   rw [signedD_eq, signedF] at h
   conv => whnf
   refine ⟨L, ts, rfl, ho, ?_⟩
   conv => whnf
   refine ⟨by decide, by decide, ?_⟩
   conv => whnf
   refine ⟨L, ts, rfl, ho, [[45]], rfl, by simp, fun b hw8 => ?_⟩
   cases b with
   | true =>
    rw [if_pos hw8] at h
    conv => whnf
    refine ⟨_, fun _ _ h => h, Nat.le_of_ble_eq_true rfl, ?_⟩
    conv => whnf
    refine ⟨L, ts, rfl, ho, [[45]], rfl, by simp, fun b hw1 => ?_⟩
    cases b with
    | false =>
     rw [withinF, if_neg (by rw [hw1]; simp), R.bind_err] at h
     conv => whnf
     refine ⟨L, ts, rfl, ho, fun x hx => ?_⟩
     rw [mustF, if_neg (by rw [hw1]; simp)] at hx
     subst hx
     intro a9 d9
     conv => whnf
     exact h _ _
    | true =>
     rw [withinF, if_pos hw1] at h
     conv => whnf
     refine CondP.dec (fun hc => ?_) (fun hc => ?_)
     ·rw [if_pos (by omega), R.bind_err] at h
      conv => whnf
      refine ⟨L, ts, rfl, ho, ?_⟩
      conv => whnf
      exact h _ _
     ·rw [if_neg (by omega)] at h
      conv => whnf
      refine ⟨L, ts, rfl, ho, fun x hx => ?_⟩
      rw [mustF, if_pos hw1] at hx
      subst hx
      intro a1 hle1 ho1
      have hb1 := ho1.hi
      conv => whnf
      refine Or.inl ⟨InR.i64 (by omega) (by omega), ?_⟩
      conv => whnf
      refine ⟨_, fun _ _ h => h, Nat.le_of_ble_eq_true rfl, ?_⟩
      conv => whnf
      refine ⟨L, ts.tail, rfl, ho1, ⟨by omega, by omega, by omega⟩, fun x hx2 => ?_⟩
      rcases x with ⟨v2, ts2⟩ | ⟨r2, e2⟩
      rotate_left
      ·rw [hx2, R.bind_err] at h; intro a9 d9; (conv => whnf); exact h _ _
      rw [hx2, R.bind_ok] at h
      intro a2 hle2 ho2
      have hb2 := ho2.hi
      obtain ⟨v2a, v2b, v2c, v2d, v2e⟩ := v2
      conv => whnf
      repeat (refine ⟨rfl, ?_⟩; conv => whnf)
      rw [if_pos rfl, R.bind_ok] at h
      refine Or.inl ⟨InR.i64 (by omega) (by omega), ?_⟩
      conv => whnf
      rw [Int.add_sub_cancel]
      exact h _ (by omega) ho2
   | false =>
    rw [if_neg (by rw [hw8]; simp)] at h
    conv => whnf
    refine Or.inl ⟨InR.i64 (by decide) (by decide), ?_⟩
    conv => whnf
    refine ⟨by decide, by decide, ?_⟩
    conv => whnf
    refine ⟨L, ts, rfl, ho, [[126]], rfl, by simp, fun b hw9 => ?_⟩
    cases b with
    | true =>
     rw [if_pos hw9] at h
     conv => whnf
     refine ⟨_, fun _ _ h => h, Nat.le_of_ble_eq_true rfl, ?_⟩
     conv => whnf
     refine ⟨L, ts, rfl, ho, [[126]], rfl, by simp, fun b hw1 => ?_⟩
     cases b with
     | false =>
      rw [withinF, if_neg (by rw [hw1]; simp), R.bind_err] at h
      conv => whnf
      refine ⟨L, ts, rfl, ho, fun x hx => ?_⟩
      rw [mustF, if_neg (by rw [hw1]; simp)] at hx
      subst hx
      intro a9 d9
      conv => whnf
      exact h _ _
     | true =>
      rw [withinF, if_pos hw1] at h
      conv => whnf
      refine CondP.dec (fun hc => ?_) (fun hc => ?_)
      ·rw [if_pos (by omega), R.bind_err] at h
       conv => whnf
       refine ⟨L, ts, rfl, ho, ?_⟩
       conv => whnf
       exact h _ _
      ·rw [if_neg (by omega)] at h
       conv => whnf
       refine ⟨L, ts, rfl, ho, fun x hx => ?_⟩
       rw [mustF, if_pos hw1] at hx
       subst hx
       intro a1 hle1 ho1
       have hb1 := ho1.hi
       conv => whnf
       refine Or.inl ⟨InR.i64 (by omega) (by omega), ?_⟩
       conv => whnf
       refine ⟨_, fun _ _ h => h, Nat.le_of_ble_eq_true rfl, ?_⟩
       conv => whnf
       refine ⟨L, ts.tail, rfl, ho1, ⟨by omega, by omega, by omega⟩, fun x hx2 => ?_⟩
       rcases x with ⟨v2, ts2⟩ | ⟨r2, e2⟩
       rotate_left
       ·rw [hx2, R.bind_err] at h; intro a9 d9; (conv => whnf); exact h _ _
       rw [hx2, R.bind_ok] at h
       intro a2 hle2 ho2
       have hb2 := ho2.hi
       obtain ⟨v2a, v2b, v2c, v2d, v2e⟩ := v2
       conv => whnf
       repeat (refine ⟨rfl, ?_⟩; conv => whnf)
       rw [if_pos rfl, R.bind_ok] at h
       refine Or.inl ⟨InR.i64 (by omega) (by omega), ?_⟩
       conv => whnf
       rw [Int.add_sub_cancel]
       exact h _ (by omega) ho2
    | false =>
     rw [if_neg (by rw [hw9]; simp)] at h
     conv => whnf
     refine Or.inl ⟨InR.i64 (by decide) (by decide), ?_⟩
     conv => whnf
     rw [show lineK (signedB d) 6 1 = exprB d from (exprB_eq d).symm] at h
     refine ⟨L, ts, rfl, ho, hdp, fun x hx1 => ?_⟩
     rcases x with ⟨v1, ts1⟩ | ⟨r1, e1⟩
     rotate_left
     ·rw [hx1] at h; intro a9 d9; (conv => whnf); exact h _ _
     rw [hx1] at h
     intro a1 hle1 ho1
     have hb1 := ho1.hi
     obtain ⟨v1a, v1b, v1c, v1d, v1e⟩ := v1
     conv => whnf
     exact h _ (by omega) ho1
  ·exact h.elim
 ·exact h.elim
noncomputable def spLine (d j : Nat) : Spec := rdSp fun rest L en dp a ts K => match rest with
 | [.d (.int .i64 least)] => ((dp = 64 - (d : Int) ∧ 0 ≤ dp) ∧ 1 ≤ least ∧ least ≤ 6 ∧ 6 ≤ least + (j : Int)) ∧ ∀ x, lineK (signedD d) j least.toNat ts = x → RKk (fun (v : Ex) => aggD (encE (placeOf L en) v)) L en dp a x K
 | _ => False
theorem spLine_mono (d j : Nat) : SpecMono (spLine d j) := rdSp_mono fun rest L en dp a ts K K' hK h => by
 split at h
 ·exact ⟨h.1, fun x hx => RKk_mono hK (h.2 x hx)⟩
 ·exact h.elim
noncomputable def spLineB (d j : Nat) : Spec := rdSp fun rest L en dp a ts K => match rest with
 | [.d (.int .i64 least)] => ((dp = 64 - (d : Int) ∧ 0 ≤ dp) ∧ 0 < j ∧ 1 ≤ least ∧ least ≤ 6 ∧ 7 ≤ least + (j : Int)) ∧ ∀ x, lineK (signedD d) (j - 1) least.toNat ts = x → RKk (fun (v : Ex) => aggD (encE (placeOf L en) v)) L en dp a x K
 | _ => False
theorem spLineB_mono (d j : Nat) : SpecMono (spLineB d j) := rdSp_mono fun rest L en dp a ts K K' hK h => by
 split at h
 ·exact ⟨h.1, fun x hx => RKk_mono hK (h.2 x hx)⟩
 ·exact h.elim
theorem binF_le (ts : Ts) : (binF ts).1 ≤ 5 ∧ (binF ts).2 ≤ 255 := by
 unfold binF
 repeat' (first | (split; decide) | split)
 all_goals decide
theorem lineGo_eq (sub : Nat → Ts → R Ex) (least f : Nat) (e : Ex) (ts : Ts) : lineGo sub least (f + 1) e ts = if (binF ts).1 < least ∨ (binF ts).1 = 0 then .ok e ts
      else (sub ((binF ts).1 + 1) ts.tail).bind fun g ts' => lineGo sub least f (.mk (binF ts).2 [] 0 [e, g] e.at') ts' := rfl
theorem lineGo_top {sub : Nat → Ts → R Ex} {least f : Nat} {e : Ex} {ts : Ts} (h : 6 ≤ least) : lineGo sub least (f + 1) e ts = .ok e ts := by
 rw [lineGo_eq, if_pos]; have := (binF_le ts).1; omega
theorem binF_ne {ts : Ts} (h : (binF ts).1 ≠ 0) : ts ≠ [] := by rintro rfl; exact h rfl
theorem lineK_eq (sg : Ts → R Ex) (j least : Nat) (ts : Ts) (h : 6 ≤ least + j) : lineK sg j least ts = (sg ts).bind fun e ts => lineGo (lineK sg (j - 1)) least (ts.length + 1) e ts := by
 cases j with
 | zero =>
  rw [lineK]
  cases sg ts with
  | ok e ts => rw [R.bind_ok, lineGo_top (by omega)]
  | err r e => rfl
 | succ j => rfl
noncomputable def tblLine (d j : Nat) : Tbl := [(180, spSigned d), (181, spBin), (102, spLineB d j)]
theorem line_ok {d j : Nat} (ht : TblOK (GG w0 nG) (tblLine d j)) : PCalls (GG w0 nG) 102 (spLine d j) := by
 refine pcalls tab_ok mixed (tbl := tblLine d j) ht Tryz.func102 rfl (by kernel_rfl) (by kernel_rfl) ?_
 intro args σ K h
 unfold spLine rdSp at h
 split at h
 ·rename_i rest t rows a en dp
  obtain ⟨L, ts, rfl, ho, h⟩ := h
  split at h
  ·rename_i least
   obtain ⟨⟨hdp, hl1, hl2, hl3⟩, h⟩ := h
   have h0 := ho.lo
   have h1 := ho.hi
   have h2 := ho.big
   refine ⟨loopsOf [(2, ⟨[], [0, 1, 4, 5], fun vs σ => ∃ (u1 : Nat) (u2 : Bs) (u3 : Int) (u4 : List Ex) (u5 : Nat) (a' : Int) (ts' : Ts) (f : Nat), vs = [] ∧ σ = ⟨[.cells t [.d (.sl (toksR L)), .d (.int .i64 a'), .d (.int .i64 en), .d (.int .i64 dp)], .cells 49 [.d (.int .u8 0), .d (.str []), .d (.int .i64 0), .sl 0 49 [], .d (.int .i64 0)], .cells 49 [.d (.int .u8 u1), .d (.str u2), .d (.int .i64 u3), .d (.sl (encEs (placeOf L en) u4)), .d (.int .i64 (placeOf L en u5))]], [0], 1⟩ ∧ ROK L a' ts' ∧ a ≤ a' ∧ ts'.length < f ∧ RKk (fun (v : Ex) => aggD (encE (placeOf L en) v)) L en dp a (lineGo (lineK (signedD d) (j - 1)) least.toNat f (.mk u1 u2 u3 u4 u5) ts') (fun pe a' dp' => K pe ⟨[.cells t [.d (.sl (toksR L)), .d (.int .i64 a'), .d (.int .i64 en), .d (.int .i64 dp')]], [], 0⟩), fun _ σ => match σ with | ⟨.cells _ [_, .d (.int _ i), _, _] :: _, _, _⟩ => ((L.length : Int) - i).toNat | _ => 0⟩)], 1, false, by simp, Nat.le_of_ble_eq_true rfl, ?_⟩
   have h := h _ rfl
   rw [lineK_eq _ _ _ _ (by omega)] at h
   conv => whnf
   refine ⟨L, ts, rfl, ho, hdp, fun x hx1 => ?_⟩
   rcases x with ⟨v1, ts1⟩ | ⟨r1, e1⟩
   rotate_left
   ·rw [hx1, R.bind_err] at h; intro a9 d9; (conv => whnf); exact h _ _
   rw [hx1, R.bind_ok] at h
   intro a1 hle1 ho1
   have hb1 := ho1.hi
   obtain ⟨v1a, v1b, v1c, v1d, v1e⟩ := v1
   conv => whnf
   refine ⟨⟨v1a, v1b, v1c, v1d, v1e, a1, ts1, ts1.length + 1, rfl, rfl, ho1, by omega, by omega, h⟩, ?_⟩
   clear h hx1 ho1 hb1 hle1
   intro vs σ hI
   obtain ⟨u1, u2, u3, u4, u5, a', ts', f, rfl, rfl, ho', hle', hf, h⟩ := hI
   obtain ⟨f, rfl⟩ : ∃ g, f = g + 1 := ⟨f - 1, by omega⟩
   rw [lineGo_eq] at h
   have hhi' := ho'.hi
   have hlen' := ho'.len
   conv => whnf
   refine ⟨L, ts', rfl, ho', fun n op hn hop => ?_⟩
   conv => whnf
   have hbin := binF_le ts'
   refine CondP.dec (fun hc => ?_) (fun hc => ?_)
   ·rw [if_pos (by omega)] at h
    conv => whnf
    exact h _ (by omega) ho'
   conv => whnf
   refine CondP.dec (fun hc2 => ?_) (fun hc2 => ?_)
   ·rw [if_pos (by omega)] at h
    conv => whnf
    exact h _ (by omega) ho'
   rw [if_neg (by omega)] at h
   have ho2 := ho'.tl (binF_ne (by omega))
   have hb2 := ho2.hi
   have hlen2 := ho2.len
   conv => whnf
   refine Or.inl ⟨InR.i64 (by omega) (by omega), ?_⟩
   conv => whnf
   refine Or.inl ⟨InR.i64 (by omega) (by omega), ?_⟩
   conv => whnf
   refine ⟨L, ts'.tail, rfl, ho2, ⟨hdp, by omega, by omega, by omega, by omega⟩, fun x hx3 => ?_⟩
   rw [show (n + 1).toNat = (binF ts').1 + 1 by omega] at hx3
   rcases x with ⟨v3, ts3⟩ | ⟨r3, e3⟩
   rotate_left
   ·rw [hx3, R.bind_err] at h; intro a9 d9; (conv => whnf); exact h _ _
   rw [hx3, R.bind_ok] at h
   intro a3 hle3 ho3
   have hb3 := ho3.hi
   obtain ⟨v3a, v3b, v3c, v3d, v3e⟩ := v3
   conv => whnf
   have hlen3 := ho3.len
   obtain rfl : op = ((binF ts').2 : Int) := hop.symm
   refine ⟨⟨(binF ts').2, [], 0, [.mk u1 u2 u3 u4 u5, .mk v3a v3b v3c v3d v3e], u5, a3, ts3, f, rfl, rfl, ho3, by omega, by omega, h⟩, ?_⟩
   show ((L.length : Int) - a3).toNat < ((L.length : Int) - a').toNat
   omega
  ·exact h.elim
 ·exact h.elim
noncomputable def tblExpr (d : Nat) : Tbl := [(102, spLine d 6)]
theorem expr_ok {d : Nat} (ht : TblOK (GG w0 nG) (tblExpr d)) : PCalls (GG w0 nG) 47 (spExpr d) := by
 refine pcalls tab_ok mixed (tbl := tblExpr d) ht Tryz.func47 rfl (by kernel_rfl) (by kernel_rfl) ?_
 intro args σ K h
 unfold spExpr spRD rdSp at h
 split at h
 ·rename_i rest t rows a en dp
  obtain ⟨L, ts, rfl, ho, h⟩ := h
  split at h
  ·obtain ⟨hdp, h⟩ := h
   have h0 := ho.lo
   have h1 := ho.hi
   have h2 := ho.big
   refine ⟨loopsOf [], 1, false, by simp, Nat.le_of_ble_eq_true rfl, ?_⟩
   have h := h _ rfl
   conv => whnf
   refine ⟨L, ts, rfl, ho, ⟨hdp, by omega, by omega, by omega⟩, fun x hx1 => ?_⟩
   rw [exprD] at h
   change lineK (signedD d) 6 1 ts = x at hx1
   rcases x with ⟨v1, ts1⟩ | ⟨r1, e1⟩
   rotate_left
   ·rw [hx1] at h; intro a9 d9; (conv => whnf); exact h _ _
   rw [hx1] at h
   intro a1 hle1 ho1
   have hb1 := ho1.hi
   obtain ⟨v1a, v1b, v1c, v1d, v1e⟩ := v1
   conv => whnf
   exact h _ (by omega) ho1
  ·exact h.elim
 ·exact h.elim
end Go.PM.Lex
end

section
set_option maxRecDepth 100000
set_option maxHeartbeats 4000000
namespace Go.PM.Lex
open Go.Proofs
variable {w0 : World} {nG : Nat}
noncomputable abbrev spLit (d : Nat) : Spec := spRD (fun L en (v : Li) => aggD (encL (placeOf L en) v)) (litF d (bodyB d)) 0 d
noncomputable abbrev spBody (d : Nat) : Spec := spRD (fun L en (v : List Li) => .d (.sl (v.map (encL (placeOf L en))))) (bodyD d) 0 d
noncomputable abbrev spBodyB (d : Nat) : Spec := spRB (fun L en (v : List Li) => .d (.sl (v.map (encL (placeOf L en))))) (bodyB d) 0 d
theorem bodyD_eq (d : Nat) : bodyD d = manyF [44] 32 litStarts (litF d (bodyB d)) := by cases d <;> rfl
noncomputable def spRule (d : Nat) : Spec := rdSp fun rest L en dp a ts K => match rest with
 | [.d (.bool b)] => (dp = 64 - (d : Int) ∧ 0 ≤ dp) ∧ ∀ x, ruleF d b ts = x → RKk (fun (v : Ru) => aggD (encRu (placeOf L en) v)) L en dp (a + 1) x K
 | _ => False
theorem spRule_mono (d : Nat) : SpecMono (spRule d) := rdSp_mono fun rest L en dp a ts K K' hK h => by
 split at h
 ·exact ⟨h.1, fun x hx => RKk_mono hK (h.2 x hx)⟩
 ·exact h.elim
theorem idxW_lt {ts : Ts} : ∀ {ws : List Bs} {i k : Nat}, idxW ts i ws = some k → i ≤ k ∧ k < i + ws.length
 | [], i, k, h => by simp [idxW] at h
 | w :: ws, i, k, h => by
  rw [idxW] at h
  split at h
  ·cases h; simp
  ·have := idxW_lt h; simp only [List.length_cons]; omega
theorem litOp_none {ts : Ts} (h : idxW ts 0 relWords = none) : litOp ts = .err ts.length 150 := by rw [litOp, h]
theorem litOp_agg {ts : Ts} {j : Nat} (h : idxW ts 0 relWords = some 0) (h2 : idxW ts.tail 0 aggWords = some j) : litOp ts = .ok (9 + j) ts.tail.tail := by rw [litOp, h]; simp only [h2]
theorem litOp_eq {ts : Ts} (h : idxW ts 0 relWords = some 0) (h2 : idxW ts.tail 0 aggWords = none) : litOp ts = .ok 3 ts.tail := by rw [litOp, h]; simp only [h2]
theorem litOp_rel {ts : Ts} {k : Nat} (h : idxW ts 0 relWords = some (k + 1)) : litOp ts = .ok (3 + (k + 1)) ts.tail := by rw [litOp, h]; rfl
noncomputable def tblBody1 : Tbl := [(184, (spAsk startsF)), (86, spIs)]
theorem body1_ok (ht : TblOK (GG w0 nG) tblBody1) : PCalls (GG w0 nG) 186 (spAsk1 litStarts) := by
 refine pcalls tab_ok mixed (tbl := tblBody1) ht Tryz.func186 rfl (by kernel_rfl) (by kernel_rfl) ?_
 intro args σ K h
 unfold spAsk1 rdSp1 at h
 split at h
 ·rename_i rest t0 t rows a en dp
  obtain ⟨L, ts, rfl, ho, h⟩ := h
  split at h
  ·skip
   refine ⟨loopsOf [], 2, false, by simp, Nat.le_of_ble_eq_true rfl, ?_⟩
   conv => whnf
   refine ⟨L, ts, rfl, ho, fun b hb => ?_⟩
   cases b with
   | true =>
    conv => whnf
    exact h _ (by rw [litStarts, hb]; rfl)
   | false =>
    conv => whnf
    refine ⟨L, ts, rfl, ho, [[33]], rfl, by simp, fun b hw => ?_⟩
    conv => whnf
    exact h _ (by rw [litStarts, hb, hw]; rfl)
  ·exact h.elim
 ·exact h.elim
noncomputable def tblBody (d : Nat) : Tbl := [(185, spManyLi d)]
theorem body_ok {d : Nat} (ht : TblOK (GG w0 nG) (tblBody d)) : PCalls (GG w0 nG) 105 (spBody d) := by
 refine pcalls tab_ok mixed (tbl := tblBody d) ht Tryz.func105 rfl (by kernel_rfl) (by kernel_rfl) ?_
 intro args σ K h
 unfold spBody spRD rdSp at h
 split at h
 ·rename_i rest t rows a en dp
  obtain ⟨L, ts, rfl, ho, h⟩ := h
  split at h
  ·obtain ⟨hdp, h⟩ := h
   have h0 := ho.lo
   have h1 := ho.hi
   have h2 := ho.big
   refine ⟨loopsOf [], 1, false, by simp, Nat.le_of_ble_eq_true rfl, ?_⟩
   have h := h _ rfl
   rw [bodyD_eq] at h
   conv => whnf
   refine ⟨⟨rfl, rfl, rfl, rfl, hdp⟩, L, ts, rfl, ho, fun x hx1 => ?_⟩
   rcases x with ⟨v1, ts1⟩ | ⟨r1, e1⟩
   rotate_left
   ·rw [hx1] at h; intro a9 d9; (conv => whnf); exact h _ _
   rw [hx1] at h
   intro a1 hle1 ho1
   have hb1 := ho1.hi
   conv => whnf
   exact h _ (by omega) ho1
  ·exact h.elim
 ·exact h.elim
noncomputable def tblLit1 (d : Nat) : Tbl := [(105, spBodyB d)]
noncomputable def tblLitW (d : Nat) : Tbl := [(86, spIs), (93, spMust), (85, spFail), (247, spIn Tryz.f247 (tblLit1 d))]
noncomputable def tblLit (d : Nat) : Tbl := [(91, spPlace), (104, spTake), (166, spMore), (95, spAsk namedF), (92, spNameP), (103, spArgs d), (47, spExpr d), (244, spIdx), (85, spFail), (93, spMust), (171, spIn Tryz.f171 (tblLitW d))]
theorem lit_ok {d : Nat} (ht : TblOK (GG w0 nG) (tblLit d)) : PCalls (GG w0 nG) 187 (spLit d) := by
 refine pcallsB tab_ok mixed (tbl := tblLit d) ht Tryz.func187 rfl (by kernel_rfl) (by kernel_rfl) ?_
 intro args σ K h
 unfold spLit spRD rdSp at h
 split at h
 ·rename_i rest t rows a en dp
  obtain ⟨L, ts, rfl, ho, h⟩ := h
  split at h
  ·obtain ⟨hdp, h⟩ := h
   have h0 := ho.lo
   have h1 := ho.hi
   have h2 := ho.big
   refine ⟨loopsOf [], unrOf [], tieOf [], tieOf [50], tieOf [], 1, false, by simp, Nat.le_of_ble_eq_true rfl, ?_⟩
   have h := h _ rfl
   rw [litF] at h
   conv => whnf
   refine ⟨L, ts, rfl, ho, ?_⟩
   conv => whnf
   refine ⟨L, ts, rfl, ho, [[33]], rfl, by simp, fun hw1 ho1 => ?_, fun hw1 => ?_⟩
   ·rw [if_pos hw1] at h
    have hb1 := ho1.hi
    conv => whnf
    refine ⟨L, ts.tail, rfl, ho1, fun fin => Or.inr ⟨rfl, ?_⟩⟩
    conv => whnf
    rw [litAtom] at h
    refine ⟨L, ts.tail, rfl, ho1, fun x hx11 => ?_⟩
    rcases x with ⟨v11, ts11⟩ | ⟨r11, e11⟩
    rotate_left
    ·rw [hx11, R.bind_err] at h; intro a9 d9; (conv => whnf); exact h _ _
    rw [hx11, R.bind_ok] at h
    intro a11 hle11 ho11
    have hb11 := ho11.hi
    conv => whnf
    refine ⟨L, ts11, rfl, ho11, ⟨hdp, by simp⟩, fun x hx12 => ?_⟩
    rcases x with ⟨v12, ts12⟩ | ⟨r12, e12⟩
    rotate_left
    ·rw [hx12, R.bind_err] at h; intro a9 d9; (conv => whnf); exact h _ _
    rw [hx12, R.bind_ok] at h
    intro a12 hle12 ho12
    have hb12 := ho12.hi
    conv => whnf
    rw [← encEs_eq]
    exact h _ (by omega) ho12
   ·rw [if_neg (by rw [hw1]; simp)] at h
    conv => whnf
    refine ⟨L, ts, rfl, ho, fun fin => Or.inr ⟨rfl, ?_⟩⟩
    conv => whnf
    refine ⟨L, ts, rfl, ho, fun b hn => ?_⟩
    cases b with
    | false =>
     rw [if_neg (by rw [hn]; simp)] at h
     conv => whnf
     rw [litRel] at h
     refine ⟨L, ts, rfl, ho, hdp, fun x hx2 => ?_⟩
     rcases x with ⟨v2, ts2⟩ | ⟨r2, e2⟩
     rotate_left
     ·rw [hx2, R.bind_err] at h; intro a9 d9; (conv => whnf); exact h _ _
     rw [hx2, R.bind_ok] at h
     intro a2 hle2 ho2
     have hb2 := ho2.hi
     obtain ⟨v2a, v2b, v2c, v2d, v2e⟩ := v2
     conv => whnf
     refine ⟨L, ts2, relWords, rfl, ho2, Or.inl ⟨rfl, rfl⟩, rfl, rfl, fun j hj ho3 => ?_, fun hj => ?_⟩
     ·have hjl := idxW_lt hj
      have hjl2 : j < 6 := by simpa [relWords] using hjl.2
      have hb3 := ho3.hi
      clear hjl
      rcases j with _ | j
      ·conv => whnf
       refine Or.inl ⟨InR.u8 (by omega) (by omega), ?_⟩
       conv => whnf
       refine Or.inl ⟨InR.u8 (by omega) (by omega), ?_⟩
       conv => whnf
       refine ⟨L, ts2.tail, aggWords, rfl, ho3, Or.inr ⟨rfl, rfl⟩, rfl, rfl, fun m hm ho4 => ?_, fun hm => ?_⟩
       ·rw [litOp_agg hj hm, R.bind_ok] at h
        have hml := idxW_lt hm
        have hml2 : m < 4 := by simpa [aggWords] using hml.2
        have hb4 := ho4.hi
        clear hml
        rcases m with _ | m
        ·conv => whnf
         refine Or.inl ⟨InR.u8 (by omega) (by omega), ?_⟩
         conv => whnf
         refine Or.inl ⟨InR.u8 (by omega) (by omega), ?_⟩
         conv => whnf
         rw [if_pos rfl] at h
         rw [litEnd, if_pos (by omega)] at h
         refine ⟨L, ts2.tail.tail, rfl, ho4, fun x hx6 => ?_⟩
         rcases x with ⟨v6, ts6⟩ | ⟨r6, e6⟩
         rotate_left
         ·rw [hx6, R.bind_err] at h; intro a9 d9; (conv => whnf); exact h _ _
         rw [hx6, R.bind_ok] at h
         intro a6 hle6 ho6
         have hb6 := ho6.hi
         conv => whnf
         refine ⟨_, fun _ _ h => h, Nat.le_of_ble_eq_true rfl, ?_⟩
         conv => whnf
         refine ⟨L, ts6, rfl, ho6, [[123]], rfl, by simp, fun b hw7 => ?_⟩
         cases b with
         | false =>
          rw [withinF, if_neg (by rw [hw7]; simp), R.bind_err] at h
          conv => whnf
          refine ⟨L, ts6, rfl, ho6, fun x hx => ?_⟩
          rw [mustF, if_neg (by rw [hw7]; simp)] at hx
          subst hx
          intro a9 d9
          conv => whnf
          exact h _ _
         | true =>
          rw [withinF, if_pos hw7] at h
          conv => whnf
          refine CondP.dec (fun hc => ?_) (fun hc => ?_)
          ·rw [if_pos (by omega), R.bind_err] at h
           conv => whnf
           refine ⟨L, ts6, rfl, ho6, ?_⟩
           conv => whnf
           exact h _ _
          ·rw [if_neg (by omega)] at h
           conv => whnf
           refine ⟨L, ts6, rfl, ho6, fun x hx => ?_⟩
           rw [mustF, if_pos hw7] at hx
           subst hx
           intro a7 hle7 ho7
           have hb7 := ho7.hi
           conv => whnf
           refine Or.inl ⟨InR.i64 (by omega) (by omega), ?_⟩
           conv => whnf
           refine ⟨_, fun _ _ h => h, Nat.le_of_ble_eq_true rfl, ?_⟩
           conv => whnf
           refine ⟨L, ts6.tail, rfl, ho7, ⟨by omega, by omega, by omega⟩, fun x hx8 => ?_⟩
           rcases x with ⟨v8, ts8⟩ | ⟨r8, e8⟩
           rotate_left
           ·rw [hx8, R.bind_err] at h; intro a9 d9; (conv => whnf); exact h _ _
           rw [hx8, R.bind_ok] at h
           intro a8 hle8 ho8
           have hb8 := ho8.hi
           conv => whnf
           rw [if_neg (by simp)] at h
           refine ⟨L, ts8, rfl, ho8, fun x hx9 => ?_⟩
           rcases x with ⟨v9, ts9⟩ | ⟨r9, e9⟩
           rotate_left
           ·rw [hx9, R.bind_err, R.bind_err] at h; intro a9 d9; (conv => whnf); exact h _ _
           rw [hx9, R.bind_ok, R.bind_ok] at h
           intro a9 hle9 ho9
           have hb9 := ho9.hi
           conv => whnf
           refine Or.inl ⟨InR.i64 (by omega) (by omega), ?_⟩
           conv => whnf
           rw [Int.add_sub_cancel]
           rw [← encLs_eq]
           exact h _ (by omega) ho9
        conv => whnf
        refine Or.inl ⟨InR.u8 (by omega) (by omega), ?_⟩
        conv => whnf
        refine Or.inl ⟨InR.u8 (by omega) (by omega), ?_⟩
        conv => whnf
        refine CondP.ndec (fun _ => ?_) (fun g => absurd g (by omega))
        conv => whnf
        rw [if_neg (by omega)] at h
        refine ⟨L, ts2.tail.tail, rfl, ho4, hdp, fun x hx5 => ?_⟩
        rcases x with ⟨v5, ts5⟩ | ⟨r5, e5⟩
        rotate_left
        ·rw [hx5, R.bind_err] at h; intro a9 d9; (conv => whnf); exact h _ _
        rw [hx5, R.bind_ok] at h
        intro a5 hle5 ho5
        have hb5 := ho5.hi
        obtain ⟨v5a, v5b, v5c, v5d, v5e⟩ := v5
        conv => whnf
        refine ⟨rfl, rfl, Nat.le_of_ble_eq_true rfl, Nat.le_of_ble_eq_true rfl, ?_⟩
        conv => whnf
        repeat (refine ⟨rfl, ?_⟩; conv => whnf)
        refine CondP.dec (fun _ => ?_) (fun g => absurd g (by omega))
        conv => whnf
        rw [litEnd, if_pos (by omega)] at h
        refine ⟨L, ts5, rfl, ho5, fun x hx6 => ?_⟩
        rcases x with ⟨v6, ts6⟩ | ⟨r6, e6⟩
        rotate_left
        ·rw [hx6, R.bind_err] at h; intro a9 d9; (conv => whnf); exact h _ _
        rw [hx6, R.bind_ok] at h
        intro a6 hle6 ho6
        have hb6 := ho6.hi
        conv => whnf
        refine ⟨_, fun _ _ h => h, Nat.le_of_ble_eq_true rfl, ?_⟩
        conv => whnf
        refine ⟨L, ts6, rfl, ho6, [[123]], rfl, by simp, fun b hw7 => ?_⟩
        cases b with
        | false =>
         rw [withinF, if_neg (by rw [hw7]; simp), R.bind_err] at h
         conv => whnf
         refine ⟨L, ts6, rfl, ho6, fun x hx => ?_⟩
         rw [mustF, if_neg (by rw [hw7]; simp)] at hx
         subst hx
         intro a9 d9
         conv => whnf
         exact h _ _
        | true =>
         rw [withinF, if_pos hw7] at h
         conv => whnf
         refine CondP.dec (fun hc => ?_) (fun hc => ?_)
         ·rw [if_pos (by omega), R.bind_err] at h
          conv => whnf
          refine ⟨L, ts6, rfl, ho6, ?_⟩
          conv => whnf
          exact h _ _
         ·rw [if_neg (by omega)] at h
          conv => whnf
          refine ⟨L, ts6, rfl, ho6, fun x hx => ?_⟩
          rw [mustF, if_pos hw7] at hx
          subst hx
          intro a7 hle7 ho7
          have hb7 := ho7.hi
          conv => whnf
          refine Or.inl ⟨InR.i64 (by omega) (by omega), ?_⟩
          conv => whnf
          refine ⟨_, fun _ _ h => h, Nat.le_of_ble_eq_true rfl, ?_⟩
          conv => whnf
          refine ⟨L, ts6.tail, rfl, ho7, ⟨by omega, by omega, by omega⟩, fun x hx8 => ?_⟩
          rcases x with ⟨v8, ts8⟩ | ⟨r8, e8⟩
          rotate_left
          ·rw [hx8, R.bind_err] at h; intro a9 d9; (conv => whnf); exact h _ _
          rw [hx8, R.bind_ok] at h
          intro a8 hle8 ho8
          have hb8 := ho8.hi
          conv => whnf
          rw [if_neg (by simp)] at h
          refine ⟨L, ts8, rfl, ho8, fun x hx9 => ?_⟩
          rcases x with ⟨v9, ts9⟩ | ⟨r9, e9⟩
          rotate_left
          ·rw [hx9, R.bind_err, R.bind_err] at h; intro a9 d9; (conv => whnf); exact h _ _
          rw [hx9, R.bind_ok, R.bind_ok] at h
          intro a9 hle9 ho9
          have hb9 := ho9.hi
          conv => whnf
          refine Or.inl ⟨InR.i64 (by omega) (by omega), ?_⟩
          conv => whnf
          rw [Int.add_sub_cancel]
          rw [← encLs_eq]
          exact h _ (by omega) ho9
       rw [litOp_eq hj hm, R.bind_ok] at h
       conv => whnf
       rw [if_neg (by omega)] at h
       refine ⟨L, ts2.tail, rfl, ho3, hdp, fun x hx5 => ?_⟩
       rcases x with ⟨v5, ts5⟩ | ⟨r5, e5⟩
       rotate_left
       ·rw [hx5, R.bind_err] at h; intro a9 d9; (conv => whnf); exact h _ _
       rw [hx5, R.bind_ok] at h
       intro a5 hle5 ho5
       have hb5 := ho5.hi
       obtain ⟨v5a, v5b, v5c, v5d, v5e⟩ := v5
       conv => whnf
       refine ⟨rfl, rfl, Nat.le_of_ble_eq_true rfl, Nat.le_of_ble_eq_true rfl, ?_⟩
       conv => whnf
       repeat (refine ⟨rfl, ?_⟩; conv => whnf)
       rw [litEnd, if_neg (by omega)] at h
       exact h _ (by omega) ho5
      rw [litOp_rel hj, R.bind_ok] at h
      conv => whnf
      refine Or.inl ⟨InR.u8 (by omega) (by omega), ?_⟩
      conv => whnf
      refine Or.inl ⟨InR.u8 (by omega) (by omega), ?_⟩
      conv => whnf
      refine CondP.dec (fun g => absurd g (by omega)) (fun _ => ?_)
      conv => whnf
      refine CondP.ndec (fun _ => ?_) (fun g => absurd g (by omega))
      conv => whnf
      rw [if_neg (by omega)] at h
      refine ⟨L, ts2.tail, rfl, ho3, hdp, fun x hx5 => ?_⟩
      rcases x with ⟨v5, ts5⟩ | ⟨r5, e5⟩
      rotate_left
      ·rw [hx5, R.bind_err] at h; intro a9 d9; (conv => whnf); exact h _ _
      rw [hx5, R.bind_ok] at h
      intro a5 hle5 ho5
      have hb5 := ho5.hi
      obtain ⟨v5a, v5b, v5c, v5d, v5e⟩ := v5
      conv => whnf
      refine ⟨rfl, rfl, Nat.le_of_ble_eq_true rfl, Nat.le_of_ble_eq_true rfl, ?_⟩
      conv => whnf
      repeat (refine ⟨rfl, ?_⟩; conv => whnf)
      refine CondP.dec (fun g => absurd g (by omega)) (fun _ => ?_)
      conv => whnf
      rw [litEnd, if_neg (by omega)] at h
      exact h _ (by omega) ho5
     conv => whnf
     refine ⟨L, ts2, rfl, ho2, ?_⟩
     conv => whnf
     rw [litOp_none hj, R.bind_err] at h
     exact h _ _
    | true =>
     conv => whnf
     refine CondP.dec (fun hc => ?_) (fun hc => ?_)
     ·conv => whnf
      refine CondP.dec (fun hc2 => ?_) (fun hc2 => ?_)
      ·rw [if_pos ⟨hn, by omega, hc2⟩] at h
       conv => whnf
       rw [litAtom] at h
       refine ⟨L, ts, rfl, ho, fun x hx11 => ?_⟩
       rcases x with ⟨v11, ts11⟩ | ⟨r11, e11⟩
       rotate_left
       ·rw [hx11, R.bind_err] at h; intro a9 d9; (conv => whnf); exact h _ _
       rw [hx11, R.bind_ok] at h
       intro a11 hle11 ho11
       have hb11 := ho11.hi
       conv => whnf
       refine ⟨L, ts11, rfl, ho11, ⟨hdp, by simp⟩, fun x hx12 => ?_⟩
       rcases x with ⟨v12, ts12⟩ | ⟨r12, e12⟩
       rotate_left
       ·rw [hx12, R.bind_err] at h; intro a9 d9; (conv => whnf); exact h _ _
       rw [hx12, R.bind_ok] at h
       intro a12 hle12 ho12
       have hb12 := ho12.hi
       conv => whnf
       rw [← encEs_eq]
       exact h _ (by omega) ho12
      ·rw [if_neg (fun g => hc2 g.2.2)] at h
       conv => whnf
       rw [litRel] at h
       refine ⟨L, ts, rfl, ho, hdp, fun x hx2 => ?_⟩
       rcases x with ⟨v2, ts2⟩ | ⟨r2, e2⟩
       rotate_left
       ·rw [hx2, R.bind_err] at h; intro a9 d9; (conv => whnf); exact h _ _
       rw [hx2, R.bind_ok] at h
       intro a2 hle2 ho2
       have hb2 := ho2.hi
       obtain ⟨v2a, v2b, v2c, v2d, v2e⟩ := v2
       conv => whnf
       refine ⟨L, ts2, relWords, rfl, ho2, Or.inl ⟨rfl, rfl⟩, rfl, rfl, fun j hj ho3 => ?_, fun hj => ?_⟩
       ·have hjl := idxW_lt hj
        have hjl2 : j < 6 := by simpa [relWords] using hjl.2
        have hb3 := ho3.hi
        clear hjl
        rcases j with _ | j
        ·conv => whnf
         refine Or.inl ⟨InR.u8 (by omega) (by omega), ?_⟩
         conv => whnf
         refine Or.inl ⟨InR.u8 (by omega) (by omega), ?_⟩
         conv => whnf
         refine ⟨L, ts2.tail, aggWords, rfl, ho3, Or.inr ⟨rfl, rfl⟩, rfl, rfl, fun m hm ho4 => ?_, fun hm => ?_⟩
         ·rw [litOp_agg hj hm, R.bind_ok] at h
          have hml := idxW_lt hm
          have hml2 : m < 4 := by simpa [aggWords] using hml.2
          have hb4 := ho4.hi
          clear hml
          rcases m with _ | m
          ·conv => whnf
           refine Or.inl ⟨InR.u8 (by omega) (by omega), ?_⟩
           conv => whnf
           refine Or.inl ⟨InR.u8 (by omega) (by omega), ?_⟩
           conv => whnf
           rw [if_pos rfl] at h
           rw [litEnd, if_pos (by omega)] at h
           refine ⟨L, ts2.tail.tail, rfl, ho4, fun x hx6 => ?_⟩
           rcases x with ⟨v6, ts6⟩ | ⟨r6, e6⟩
           rotate_left
           ·rw [hx6, R.bind_err] at h; intro a9 d9; (conv => whnf); exact h _ _
           rw [hx6, R.bind_ok] at h
           intro a6 hle6 ho6
           have hb6 := ho6.hi
           conv => whnf
           refine ⟨_, fun _ _ h => h, Nat.le_of_ble_eq_true rfl, ?_⟩
           conv => whnf
           refine ⟨L, ts6, rfl, ho6, [[123]], rfl, by simp, fun b hw7 => ?_⟩
           cases b with
           | false =>
            rw [withinF, if_neg (by rw [hw7]; simp), R.bind_err] at h
            conv => whnf
            refine ⟨L, ts6, rfl, ho6, fun x hx => ?_⟩
            rw [mustF, if_neg (by rw [hw7]; simp)] at hx
            subst hx
            intro a9 d9
            conv => whnf
            exact h _ _
           | true =>
            rw [withinF, if_pos hw7] at h
            conv => whnf
            refine CondP.dec (fun hc => ?_) (fun hc => ?_)
            ·rw [if_pos (by omega), R.bind_err] at h
             conv => whnf
             refine ⟨L, ts6, rfl, ho6, ?_⟩
             conv => whnf
             exact h _ _
            ·rw [if_neg (by omega)] at h
             conv => whnf
             refine ⟨L, ts6, rfl, ho6, fun x hx => ?_⟩
             rw [mustF, if_pos hw7] at hx
             subst hx
             intro a7 hle7 ho7
             have hb7 := ho7.hi
             conv => whnf
             refine Or.inl ⟨InR.i64 (by omega) (by omega), ?_⟩
             conv => whnf
             refine ⟨_, fun _ _ h => h, Nat.le_of_ble_eq_true rfl, ?_⟩
             conv => whnf
             refine ⟨L, ts6.tail, rfl, ho7, ⟨by omega, by omega, by omega⟩, fun x hx8 => ?_⟩
             rcases x with ⟨v8, ts8⟩ | ⟨r8, e8⟩
             rotate_left
             ·rw [hx8, R.bind_err] at h; intro a9 d9; (conv => whnf); exact h _ _
             rw [hx8, R.bind_ok] at h
             intro a8 hle8 ho8
             have hb8 := ho8.hi
             conv => whnf
             rw [if_neg (by simp)] at h
             refine ⟨L, ts8, rfl, ho8, fun x hx9 => ?_⟩
             rcases x with ⟨v9, ts9⟩ | ⟨r9, e9⟩
             rotate_left
             ·rw [hx9, R.bind_err, R.bind_err] at h; intro a9 d9; (conv => whnf); exact h _ _
             rw [hx9, R.bind_ok, R.bind_ok] at h
             intro a9 hle9 ho9
             have hb9 := ho9.hi
             conv => whnf
             refine Or.inl ⟨InR.i64 (by omega) (by omega), ?_⟩
             conv => whnf
             rw [Int.add_sub_cancel]
             rw [← encLs_eq]
             exact h _ (by omega) ho9
          conv => whnf
          refine Or.inl ⟨InR.u8 (by omega) (by omega), ?_⟩
          conv => whnf
          refine Or.inl ⟨InR.u8 (by omega) (by omega), ?_⟩
          conv => whnf
          refine CondP.ndec (fun _ => ?_) (fun g => absurd g (by omega))
          conv => whnf
          rw [if_neg (by omega)] at h
          refine ⟨L, ts2.tail.tail, rfl, ho4, hdp, fun x hx5 => ?_⟩
          rcases x with ⟨v5, ts5⟩ | ⟨r5, e5⟩
          rotate_left
          ·rw [hx5, R.bind_err] at h; intro a9 d9; (conv => whnf); exact h _ _
          rw [hx5, R.bind_ok] at h
          intro a5 hle5 ho5
          have hb5 := ho5.hi
          obtain ⟨v5a, v5b, v5c, v5d, v5e⟩ := v5
          conv => whnf
          refine ⟨rfl, rfl, Nat.le_of_ble_eq_true rfl, Nat.le_of_ble_eq_true rfl, ?_⟩
          conv => whnf
          repeat (refine ⟨rfl, ?_⟩; conv => whnf)
          refine CondP.dec (fun _ => ?_) (fun g => absurd g (by omega))
          conv => whnf
          rw [litEnd, if_pos (by omega)] at h
          refine ⟨L, ts5, rfl, ho5, fun x hx6 => ?_⟩
          rcases x with ⟨v6, ts6⟩ | ⟨r6, e6⟩
          rotate_left
          ·rw [hx6, R.bind_err] at h; intro a9 d9; (conv => whnf); exact h _ _
          rw [hx6, R.bind_ok] at h
          intro a6 hle6 ho6
          have hb6 := ho6.hi
          conv => whnf
          refine ⟨_, fun _ _ h => h, Nat.le_of_ble_eq_true rfl, ?_⟩
          conv => whnf
          refine ⟨L, ts6, rfl, ho6, [[123]], rfl, by simp, fun b hw7 => ?_⟩
          cases b with
          | false =>
           rw [withinF, if_neg (by rw [hw7]; simp), R.bind_err] at h
           conv => whnf
           refine ⟨L, ts6, rfl, ho6, fun x hx => ?_⟩
           rw [mustF, if_neg (by rw [hw7]; simp)] at hx
           subst hx
           intro a9 d9
           conv => whnf
           exact h _ _
          | true =>
           rw [withinF, if_pos hw7] at h
           conv => whnf
           refine CondP.dec (fun hc => ?_) (fun hc => ?_)
           ·rw [if_pos (by omega), R.bind_err] at h
            conv => whnf
            refine ⟨L, ts6, rfl, ho6, ?_⟩
            conv => whnf
            exact h _ _
           ·rw [if_neg (by omega)] at h
            conv => whnf
            refine ⟨L, ts6, rfl, ho6, fun x hx => ?_⟩
            rw [mustF, if_pos hw7] at hx
            subst hx
            intro a7 hle7 ho7
            have hb7 := ho7.hi
            conv => whnf
            refine Or.inl ⟨InR.i64 (by omega) (by omega), ?_⟩
            conv => whnf
            refine ⟨_, fun _ _ h => h, Nat.le_of_ble_eq_true rfl, ?_⟩
            conv => whnf
            refine ⟨L, ts6.tail, rfl, ho7, ⟨by omega, by omega, by omega⟩, fun x hx8 => ?_⟩
            rcases x with ⟨v8, ts8⟩ | ⟨r8, e8⟩
            rotate_left
            ·rw [hx8, R.bind_err] at h; intro a9 d9; (conv => whnf); exact h _ _
            rw [hx8, R.bind_ok] at h
            intro a8 hle8 ho8
            have hb8 := ho8.hi
            conv => whnf
            rw [if_neg (by simp)] at h
            refine ⟨L, ts8, rfl, ho8, fun x hx9 => ?_⟩
            rcases x with ⟨v9, ts9⟩ | ⟨r9, e9⟩
            rotate_left
            ·rw [hx9, R.bind_err, R.bind_err] at h; intro a9 d9; (conv => whnf); exact h _ _
            rw [hx9, R.bind_ok, R.bind_ok] at h
            intro a9 hle9 ho9
            have hb9 := ho9.hi
            conv => whnf
            refine Or.inl ⟨InR.i64 (by omega) (by omega), ?_⟩
            conv => whnf
            rw [Int.add_sub_cancel]
            rw [← encLs_eq]
            exact h _ (by omega) ho9
         rw [litOp_eq hj hm, R.bind_ok] at h
         conv => whnf
         rw [if_neg (by omega)] at h
         refine ⟨L, ts2.tail, rfl, ho3, hdp, fun x hx5 => ?_⟩
         rcases x with ⟨v5, ts5⟩ | ⟨r5, e5⟩
         rotate_left
         ·rw [hx5, R.bind_err] at h; intro a9 d9; (conv => whnf); exact h _ _
         rw [hx5, R.bind_ok] at h
         intro a5 hle5 ho5
         have hb5 := ho5.hi
         obtain ⟨v5a, v5b, v5c, v5d, v5e⟩ := v5
         conv => whnf
         refine ⟨rfl, rfl, Nat.le_of_ble_eq_true rfl, Nat.le_of_ble_eq_true rfl, ?_⟩
         conv => whnf
         repeat (refine ⟨rfl, ?_⟩; conv => whnf)
         rw [litEnd, if_neg (by omega)] at h
         exact h _ (by omega) ho5
        rw [litOp_rel hj, R.bind_ok] at h
        conv => whnf
        refine Or.inl ⟨InR.u8 (by omega) (by omega), ?_⟩
        conv => whnf
        refine Or.inl ⟨InR.u8 (by omega) (by omega), ?_⟩
        conv => whnf
        refine CondP.dec (fun g => absurd g (by omega)) (fun _ => ?_)
        conv => whnf
        refine CondP.ndec (fun _ => ?_) (fun g => absurd g (by omega))
        conv => whnf
        rw [if_neg (by omega)] at h
        refine ⟨L, ts2.tail, rfl, ho3, hdp, fun x hx5 => ?_⟩
        rcases x with ⟨v5, ts5⟩ | ⟨r5, e5⟩
        rotate_left
        ·rw [hx5, R.bind_err] at h; intro a9 d9; (conv => whnf); exact h _ _
        rw [hx5, R.bind_ok] at h
        intro a5 hle5 ho5
        have hb5 := ho5.hi
        obtain ⟨v5a, v5b, v5c, v5d, v5e⟩ := v5
        conv => whnf
        refine ⟨rfl, rfl, Nat.le_of_ble_eq_true rfl, Nat.le_of_ble_eq_true rfl, ?_⟩
        conv => whnf
        repeat (refine ⟨rfl, ?_⟩; conv => whnf)
        refine CondP.dec (fun g => absurd g (by omega)) (fun _ => ?_)
        conv => whnf
        rw [litEnd, if_neg (by omega)] at h
        exact h _ (by omega) ho5
       conv => whnf
       refine ⟨L, ts2, rfl, ho2, ?_⟩
       conv => whnf
       rw [litOp_none hj, R.bind_err] at h
       exact h _ _
     ·rw [if_neg (fun g => hc (by have := g.2.1; omega))] at h
      conv => whnf
      rw [litRel] at h
      refine ⟨L, ts, rfl, ho, hdp, fun x hx2 => ?_⟩
      rcases x with ⟨v2, ts2⟩ | ⟨r2, e2⟩
      rotate_left
      ·rw [hx2, R.bind_err] at h; intro a9 d9; (conv => whnf); exact h _ _
      rw [hx2, R.bind_ok] at h
      intro a2 hle2 ho2
      have hb2 := ho2.hi
      obtain ⟨v2a, v2b, v2c, v2d, v2e⟩ := v2
      conv => whnf
      refine ⟨L, ts2, relWords, rfl, ho2, Or.inl ⟨rfl, rfl⟩, rfl, rfl, fun j hj ho3 => ?_, fun hj => ?_⟩
      ·have hjl := idxW_lt hj
       have hjl2 : j < 6 := by simpa [relWords] using hjl.2
       have hb3 := ho3.hi
       clear hjl
       rcases j with _ | j
       ·conv => whnf
        refine Or.inl ⟨InR.u8 (by omega) (by omega), ?_⟩
        conv => whnf
        refine Or.inl ⟨InR.u8 (by omega) (by omega), ?_⟩
        conv => whnf
        refine ⟨L, ts2.tail, aggWords, rfl, ho3, Or.inr ⟨rfl, rfl⟩, rfl, rfl, fun m hm ho4 => ?_, fun hm => ?_⟩
        ·rw [litOp_agg hj hm, R.bind_ok] at h
         have hml := idxW_lt hm
         have hml2 : m < 4 := by simpa [aggWords] using hml.2
         have hb4 := ho4.hi
         clear hml
         rcases m with _ | m
         ·conv => whnf
          refine Or.inl ⟨InR.u8 (by omega) (by omega), ?_⟩
          conv => whnf
          refine Or.inl ⟨InR.u8 (by omega) (by omega), ?_⟩
          conv => whnf
          rw [if_pos rfl] at h
          rw [litEnd, if_pos (by omega)] at h
          refine ⟨L, ts2.tail.tail, rfl, ho4, fun x hx6 => ?_⟩
          rcases x with ⟨v6, ts6⟩ | ⟨r6, e6⟩
          rotate_left
          ·rw [hx6, R.bind_err] at h; intro a9 d9; (conv => whnf); exact h _ _
          rw [hx6, R.bind_ok] at h
          intro a6 hle6 ho6
          have hb6 := ho6.hi
          conv => whnf
          refine ⟨_, fun _ _ h => h, Nat.le_of_ble_eq_true rfl, ?_⟩
          conv => whnf
          refine ⟨L, ts6, rfl, ho6, [[123]], rfl, by simp, fun b hw7 => ?_⟩
          cases b with
          | false =>
           rw [withinF, if_neg (by rw [hw7]; simp), R.bind_err] at h
           conv => whnf
           refine ⟨L, ts6, rfl, ho6, fun x hx => ?_⟩
           rw [mustF, if_neg (by rw [hw7]; simp)] at hx
           subst hx
           intro a9 d9
           conv => whnf
           exact h _ _
          | true =>
           rw [withinF, if_pos hw7] at h
           conv => whnf
           refine CondP.dec (fun hc => ?_) (fun hc => ?_)
           ·rw [if_pos (by omega), R.bind_err] at h
            conv => whnf
            refine ⟨L, ts6, rfl, ho6, ?_⟩
            conv => whnf
            exact h _ _
           ·rw [if_neg (by omega)] at h
            conv => whnf
            refine ⟨L, ts6, rfl, ho6, fun x hx => ?_⟩
            rw [mustF, if_pos hw7] at hx
            subst hx
            intro a7 hle7 ho7
            have hb7 := ho7.hi
            conv => whnf
            refine Or.inl ⟨InR.i64 (by omega) (by omega), ?_⟩
            conv => whnf
            refine ⟨_, fun _ _ h => h, Nat.le_of_ble_eq_true rfl, ?_⟩
            conv => whnf
            refine ⟨L, ts6.tail, rfl, ho7, ⟨by omega, by omega, by omega⟩, fun x hx8 => ?_⟩
            rcases x with ⟨v8, ts8⟩ | ⟨r8, e8⟩
            rotate_left
            ·rw [hx8, R.bind_err] at h; intro a9 d9; (conv => whnf); exact h _ _
            rw [hx8, R.bind_ok] at h
            intro a8 hle8 ho8
            have hb8 := ho8.hi
            conv => whnf
            rw [if_neg (by simp)] at h
            refine ⟨L, ts8, rfl, ho8, fun x hx9 => ?_⟩
            rcases x with ⟨v9, ts9⟩ | ⟨r9, e9⟩
            rotate_left
            ·rw [hx9, R.bind_err, R.bind_err] at h; intro a9 d9; (conv => whnf); exact h _ _
            rw [hx9, R.bind_ok, R.bind_ok] at h
            intro a9 hle9 ho9
            have hb9 := ho9.hi
            conv => whnf
            refine Or.inl ⟨InR.i64 (by omega) (by omega), ?_⟩
            conv => whnf
            rw [Int.add_sub_cancel]
            rw [← encLs_eq]
            exact h _ (by omega) ho9
         conv => whnf
         refine Or.inl ⟨InR.u8 (by omega) (by omega), ?_⟩
         conv => whnf
         refine Or.inl ⟨InR.u8 (by omega) (by omega), ?_⟩
         conv => whnf
         refine CondP.ndec (fun _ => ?_) (fun g => absurd g (by omega))
         conv => whnf
         rw [if_neg (by omega)] at h
         refine ⟨L, ts2.tail.tail, rfl, ho4, hdp, fun x hx5 => ?_⟩
         rcases x with ⟨v5, ts5⟩ | ⟨r5, e5⟩
         rotate_left
         ·rw [hx5, R.bind_err] at h; intro a9 d9; (conv => whnf); exact h _ _
         rw [hx5, R.bind_ok] at h
         intro a5 hle5 ho5
         have hb5 := ho5.hi
         obtain ⟨v5a, v5b, v5c, v5d, v5e⟩ := v5
         conv => whnf
         refine ⟨rfl, rfl, Nat.le_of_ble_eq_true rfl, Nat.le_of_ble_eq_true rfl, ?_⟩
         conv => whnf
         repeat (refine ⟨rfl, ?_⟩; conv => whnf)
         refine CondP.dec (fun _ => ?_) (fun g => absurd g (by omega))
         conv => whnf
         rw [litEnd, if_pos (by omega)] at h
         refine ⟨L, ts5, rfl, ho5, fun x hx6 => ?_⟩
         rcases x with ⟨v6, ts6⟩ | ⟨r6, e6⟩
         rotate_left
         ·rw [hx6, R.bind_err] at h; intro a9 d9; (conv => whnf); exact h _ _
         rw [hx6, R.bind_ok] at h
         intro a6 hle6 ho6
         have hb6 := ho6.hi
         conv => whnf
         refine ⟨_, fun _ _ h => h, Nat.le_of_ble_eq_true rfl, ?_⟩
         conv => whnf
         refine ⟨L, ts6, rfl, ho6, [[123]], rfl, by simp, fun b hw7 => ?_⟩
         cases b with
         | false =>
          rw [withinF, if_neg (by rw [hw7]; simp), R.bind_err] at h
          conv => whnf
          refine ⟨L, ts6, rfl, ho6, fun x hx => ?_⟩
          rw [mustF, if_neg (by rw [hw7]; simp)] at hx
          subst hx
          intro a9 d9
          conv => whnf
          exact h _ _
         | true =>
          rw [withinF, if_pos hw7] at h
          conv => whnf
          refine CondP.dec (fun hc => ?_) (fun hc => ?_)
          ·rw [if_pos (by omega), R.bind_err] at h
           conv => whnf
           refine ⟨L, ts6, rfl, ho6, ?_⟩
           conv => whnf
           exact h _ _
          ·rw [if_neg (by omega)] at h
           conv => whnf
           refine ⟨L, ts6, rfl, ho6, fun x hx => ?_⟩
           rw [mustF, if_pos hw7] at hx
           subst hx
           intro a7 hle7 ho7
           have hb7 := ho7.hi
           conv => whnf
           refine Or.inl ⟨InR.i64 (by omega) (by omega), ?_⟩
           conv => whnf
           refine ⟨_, fun _ _ h => h, Nat.le_of_ble_eq_true rfl, ?_⟩
           conv => whnf
           refine ⟨L, ts6.tail, rfl, ho7, ⟨by omega, by omega, by omega⟩, fun x hx8 => ?_⟩
           rcases x with ⟨v8, ts8⟩ | ⟨r8, e8⟩
           rotate_left
           ·rw [hx8, R.bind_err] at h; intro a9 d9; (conv => whnf); exact h _ _
           rw [hx8, R.bind_ok] at h
           intro a8 hle8 ho8
           have hb8 := ho8.hi
           conv => whnf
           rw [if_neg (by simp)] at h
           refine ⟨L, ts8, rfl, ho8, fun x hx9 => ?_⟩
           rcases x with ⟨v9, ts9⟩ | ⟨r9, e9⟩
           rotate_left
           ·rw [hx9, R.bind_err, R.bind_err] at h; intro a9 d9; (conv => whnf); exact h _ _
           rw [hx9, R.bind_ok, R.bind_ok] at h
           intro a9 hle9 ho9
           have hb9 := ho9.hi
           conv => whnf
           refine Or.inl ⟨InR.i64 (by omega) (by omega), ?_⟩
           conv => whnf
           rw [Int.add_sub_cancel]
           rw [← encLs_eq]
           exact h _ (by omega) ho9
        rw [litOp_eq hj hm, R.bind_ok] at h
        conv => whnf
        rw [if_neg (by omega)] at h
        refine ⟨L, ts2.tail, rfl, ho3, hdp, fun x hx5 => ?_⟩
        rcases x with ⟨v5, ts5⟩ | ⟨r5, e5⟩
        rotate_left
        ·rw [hx5, R.bind_err] at h; intro a9 d9; (conv => whnf); exact h _ _
        rw [hx5, R.bind_ok] at h
        intro a5 hle5 ho5
        have hb5 := ho5.hi
        obtain ⟨v5a, v5b, v5c, v5d, v5e⟩ := v5
        conv => whnf
        refine ⟨rfl, rfl, Nat.le_of_ble_eq_true rfl, Nat.le_of_ble_eq_true rfl, ?_⟩
        conv => whnf
        repeat (refine ⟨rfl, ?_⟩; conv => whnf)
        rw [litEnd, if_neg (by omega)] at h
        exact h _ (by omega) ho5
       rw [litOp_rel hj, R.bind_ok] at h
       conv => whnf
       refine Or.inl ⟨InR.u8 (by omega) (by omega), ?_⟩
       conv => whnf
       refine Or.inl ⟨InR.u8 (by omega) (by omega), ?_⟩
       conv => whnf
       refine CondP.dec (fun g => absurd g (by omega)) (fun _ => ?_)
       conv => whnf
       refine CondP.ndec (fun _ => ?_) (fun g => absurd g (by omega))
       conv => whnf
       rw [if_neg (by omega)] at h
       refine ⟨L, ts2.tail, rfl, ho3, hdp, fun x hx5 => ?_⟩
       rcases x with ⟨v5, ts5⟩ | ⟨r5, e5⟩
       rotate_left
       ·rw [hx5, R.bind_err] at h; intro a9 d9; (conv => whnf); exact h _ _
       rw [hx5, R.bind_ok] at h
       intro a5 hle5 ho5
       have hb5 := ho5.hi
       obtain ⟨v5a, v5b, v5c, v5d, v5e⟩ := v5
       conv => whnf
       refine ⟨rfl, rfl, Nat.le_of_ble_eq_true rfl, Nat.le_of_ble_eq_true rfl, ?_⟩
       conv => whnf
       repeat (refine ⟨rfl, ?_⟩; conv => whnf)
       refine CondP.dec (fun g => absurd g (by omega)) (fun _ => ?_)
       conv => whnf
       rw [litEnd, if_neg (by omega)] at h
       exact h _ (by omega) ho5
      conv => whnf
      refine ⟨L, ts2, rfl, ho2, ?_⟩
      conv => whnf
      rw [litOp_none hj, R.bind_err] at h
      exact h _ _
  ·exact h.elim
 ·exact h.elim
noncomputable def tblRule (d : Nat) : Tbl := [(91, spPlace), (92, spNameP), (103, spArgs d), (104, spTake), (105, spBody d), (93, spMust)]
theorem rule_ok {d : Nat} (ht : TblOK (GG w0 nG) (tblRule d)) : PCalls (GG w0 nG) 49 (spRule d) := by
 refine pcalls tab_ok mixed (tbl := tblRule d) ht Tryz.func49 rfl (by kernel_rfl) (by kernel_rfl) ?_
 intro args σ K h
 unfold spRule rdSp at h
 split at h
 ·rename_i rest t rows a en dp
  obtain ⟨L, ts, rfl, ho, h⟩ := h
  split at h
  ·rename_i bodies
   obtain ⟨hdp, h⟩ := h
   have h0 := ho.lo
   have h1 := ho.hi
   have h2 := ho.big
   refine ⟨loopsOf [], 1, false, by simp, Nat.le_of_ble_eq_true rfl, ?_⟩
   have h := h _ rfl
   rw [ruleF] at h
   conv => whnf
   refine ⟨L, ts, rfl, ho, ?_⟩
   conv => whnf
   refine ⟨L, ts, rfl, ho, fun x hx1 => ?_⟩
   rcases x with ⟨v1, ts1⟩ | ⟨r1, e1⟩
   rotate_left
   ·rw [hx1, R.bind_err] at h; intro a9 d9; (conv => whnf); exact h _ _
   rw [hx1, R.bind_ok] at h
   intro a1 hle1 ho1
   have hb1 := ho1.hi
   conv => whnf
   refine ⟨L, ts1, rfl, ho1, ⟨hdp, by simp⟩, fun x hx2 => ?_⟩
   have hdp2 := hdp
   rcases x with ⟨v2, ts2⟩ | ⟨r2, e2⟩
   rotate_left
   ·rw [hx2, R.bind_err] at h; intro a9 d9; (conv => whnf); exact h _ _
   rw [hx2, R.bind_ok] at h
   intro a2 hle2 ho2
   have hb2 := ho2.hi
   conv => whnf
   cases bodies with
   | false =>
    rw [if_neg (by simp)] at h
    conv => whnf
    refine ⟨L, ts2, rfl, ho2, fun x hx3 => ?_⟩
    rcases x with ⟨v3, ts3⟩ | ⟨r3, e3⟩
    rotate_left
    ·rw [hx3, R.bind_err] at h; intro a9 d9; (conv => whnf); exact h _ _
    rw [hx3, R.bind_ok] at h
    intro a3 hle3 ho3
    have hb3 := ho3.hi
    conv => whnf
    rw [← encEs_eq]
    exact h _ (by omega) ho3
   | true =>
    conv => whnf
    refine ⟨L, ts2, rfl, ho2, [[58, 45]], rfl, by simp, fun hw3 ho3 => ?_, fun hw3 => ?_⟩
    ·rw [if_pos ⟨rfl, hw3⟩] at h
     have hb3 := ho3.hi
     conv => whnf
     refine ⟨L, ts2.tail, rfl, ho3, hdp, fun x hx4 => ?_⟩
     rcases x with ⟨v4, ts4⟩ | ⟨r4, e4⟩
     rotate_left
     ·rw [hx4, R.bind_err] at h; intro a9 d9; (conv => whnf); exact h _ _
     rw [hx4, R.bind_ok] at h
     intro a4 hle4 ho4
     have hb4 := ho4.hi
     conv => whnf
     refine ⟨L, ts4, rfl, ho4, fun x hx5 => ?_⟩
     rcases x with ⟨v5, ts5⟩ | ⟨r5, e5⟩
     rotate_left
     ·rw [hx5, R.bind_err] at h; intro a9 d9; (conv => whnf); exact h _ _
     rw [hx5, R.bind_ok] at h
     intro a5 hle5 ho5
     have hb5 := ho5.hi
     conv => whnf
     rw [← encEs_eq, ← encLs_eq]
     exact h _ (by omega) ho5
    ·rw [if_neg (by rw [hw3]; simp)] at h
     conv => whnf
     refine ⟨L, ts2, rfl, ho2, fun x hx4 => ?_⟩
     rcases x with ⟨v4, ts4⟩ | ⟨r4, e4⟩
     rotate_left
     ·rw [hx4, R.bind_err] at h; intro a9 d9; (conv => whnf); exact h _ _
     rw [hx4, R.bind_ok] at h
     intro a4 hle4 ho4
     have hb4 := ho4.hi
     conv => whnf
     rw [← encEs_eq]
     exact h _ (by omega) ho4
  ·exact h.elim
 ·exact h.elim
end Go.PM.Lex
end

section
set_option maxRecDepth 100000
set_option maxHeartbeats 4000000
namespace Go.PM.Lex
open Go.Proofs
variable {w0 : World} {nG : Nat}
def unitB : Nat → Ts → R Un
 | 0 => fun _ => .err 0 150
 | d + 1 => unitD d
theorem unitD_eq (d : Nat) : unitD d = unitF true d (unitB d) := by cases d <;> rfl
def unitT (b : Bool) (d : Nat) (ts : Ts) : R Un := unitF b d (unitB d) ts
noncomputable def spUnit (d : Nat) : Spec := rdSp fun rest L en dp a ts K => match rest with
 | [.d (.bool b)] => (dp = 64 - (d : Int) ∧ 0 ≤ dp) ∧ ∀ x, unitT b d ts = x → RKk (fun (v : Un) => aggD (encUn (placeOf L en) v)) L en dp a x K
 | _ => False
theorem spUnit_mono (d : Nat) : SpecMono (spUnit d) := rdSp_mono fun rest L en dp a ts K K' hK h => by
 split at h
 ·exact ⟨h.1, fun x hx => RKk_mono hK (h.2 x hx)⟩
 ·exact h.elim
noncomputable def spUnitB (d : Nat) : Spec := rdSp fun rest L en dp a ts K => match rest with
 | [.d (.bool b)] => (0 < d ∧ dp = 65 - (d : Int) ∧ 0 ≤ dp ∧ b = true) ∧ ∀ x, unitB d ts = x → RKk (fun (v : Un) => aggD (encUn (placeOf L en) v)) L en dp a x K
 | _ => False
theorem spUnitB_mono (d : Nat) : SpecMono (spUnitB d) := rdSp_mono fun rest L en dp a ts K K' hK h => by
 split at h
 ·exact ⟨h.1, fun x hx => RKk_mono hK (h.2 x hx)⟩
 ·exact h.elim
noncomputable abbrev spComp (d : Nat) : Spec := spRD (fun L en (v : Co) => aggD (encCo (placeOf L en) v)) (compF d (unitB d)) 0 d
noncomputable def tblComp1 (d : Nat) : Tbl := [(39, spUnitB d)]
noncomputable def tblCompW (d : Nat) : Tbl := [(86, spIs), (93, spMust), (85, spFail), (172, spIn Tryz.f172 (tblComp1 d))]
noncomputable def tblComp (d : Nat) : Tbl := [(91, spPlace), (92, spNameP), (94, spNames), (104, spTake), (171, spIn Tryz.f171 (tblCompW d))]
theorem comp_ok {d : Nat} (ht : TblOK (GG w0 nG) (tblComp d)) : PCalls (GG w0 nG) 90 (spComp d) := by
 refine pcalls tab_ok mixed (tbl := tblComp d) ht Tryz.func90 rfl (by kernel_rfl) (by kernel_rfl) ?_
 intro args σ K h
 unfold spComp spRD rdSp at h
 split at h
 ·rename_i rest t rows a en dp
  obtain ⟨L, ts, rfl, ho, h⟩ := h
  split at h
  ·obtain ⟨hdp, h⟩ := h
   have h0 := ho.lo
   have h1 := ho.hi
   have h2 := ho.big
   refine ⟨loopsOf [], 1, false, by simp, Nat.le_of_ble_eq_true rfl, ?_⟩
   have h := h _ rfl
   rw [compF] at h
   conv => whnf
   refine ⟨L, ts, rfl, ho, ?_⟩
   conv => whnf
   refine ⟨L, ts, rfl, ho, fun x hx1 => ?_⟩
   rcases x with ⟨v1, ts1⟩ | ⟨r1, e1⟩
   rotate_left
   ·rw [hx1, R.bind_err] at h; intro a9 d9; (conv => whnf); exact h _ _
   rw [hx1, R.bind_ok] at h
   intro a1 hle1 ho1
   have hb1 := ho1.hi
   conv => whnf
   refine ⟨L, ts1, rfl, ho1, fun x hx2 => ?_⟩
   rcases x with ⟨v2, ts2⟩ | ⟨r2, e2⟩
   rotate_left
   ·rw [hx2, R.bind_err] at h; intro a9 d9; (conv => whnf); exact h _ _
   rw [hx2, R.bind_ok] at h
   intro a2 hle2 ho2
   have hb2 := ho2.hi
   conv => whnf
   refine ⟨L, ts2, rfl, ho2, [[58]], rfl, by simp, fun hw3 ho3 => ?_, fun hw3 => ?_⟩
   ·rw [if_pos hw3] at h
    have hb3 := ho3.hi
    conv => whnf
    refine ⟨L, ts2.tail, rfl, ho3, fun x hx4 => ?_⟩
    rcases x with ⟨v4, ts4⟩ | ⟨r4, e4⟩
    rotate_left
    ·rw [hx4, R.bind_err] at h; intro a9 d9; (conv => whnf); exact h _ _
    rw [hx4, R.bind_ok] at h
    intro a4 hle4 ho4
    have hb4 := ho4.hi
    conv => whnf
    refine ⟨L, ts4, rfl, ho4, fun x hx5 => ?_⟩
    rcases x with ⟨v5, ts5⟩ | ⟨r5, e5⟩
    rotate_left
    ·rw [hx5, R.bind_err] at h; intro a9 d9; (conv => whnf); exact h _ _
    rw [hx5, R.bind_ok] at h
    intro a5 hle5 ho5
    have hb5 := ho5.hi
    conv => whnf
    refine ⟨_, fun _ _ h => h, Nat.le_of_ble_eq_true rfl, ?_⟩
    conv => whnf
    refine ⟨L, ts5, rfl, ho5, [[123]], rfl, by simp, fun b hw7 => ?_⟩
    cases b with
    | false =>
     rw [withinF, if_neg (by rw [hw7]; simp), R.bind_err] at h
     conv => whnf
     refine ⟨L, ts5, rfl, ho5, fun x hx => ?_⟩
     rw [mustF, if_neg (by rw [hw7]; simp)] at hx
     subst hx
     intro a9 d9
     conv => whnf
     exact h _ _
    | true =>
     rw [withinF, if_pos hw7] at h
     conv => whnf
     refine CondP.dec (fun hc => ?_) (fun hc => ?_)
     ·rw [if_pos (by omega), R.bind_err] at h
      conv => whnf
      refine ⟨L, ts5, rfl, ho5, ?_⟩
      conv => whnf
      exact h _ _
     ·rw [if_neg (by omega)] at h
      conv => whnf
      refine ⟨L, ts5, rfl, ho5, fun x hx => ?_⟩
      rw [mustF, if_pos hw7] at hx
      subst hx
      intro a7 hle7 ho7
      have hb7 := ho7.hi
      conv => whnf
      refine Or.inl ⟨InR.i64 (by omega) (by omega), ?_⟩
      conv => whnf
      refine ⟨_, fun _ _ h => h, Nat.le_of_ble_eq_true rfl, ?_⟩
      conv => whnf
      refine ⟨L, ts5.tail, rfl, ho7, ⟨by omega, by omega, by omega, rfl⟩, fun x hx8 => ?_⟩
      rcases x with ⟨v8, ts8⟩ | ⟨r8, e8⟩
      rotate_left
      ·rw [hx8, R.bind_err] at h; intro a9 d9; (conv => whnf); exact h _ _
      rw [hx8, R.bind_ok] at h
      intro a8 hle8 ho8
      have hb8 := ho8.hi
      obtain ⟨v8a, v8b, v8c, v8d, v8e, v8f⟩ := v8
      conv => whnf
      rw [if_neg (by simp)] at h
      refine ⟨L, ts8, rfl, ho8, fun x hx9 => ?_⟩
      rcases x with ⟨v9, ts9⟩ | ⟨r9, e9⟩
      rotate_left
      ·rw [hx9, R.bind_err, R.bind_err] at h; intro a9 d9; (conv => whnf); exact h _ _
      rw [hx9, R.bind_ok, R.bind_ok] at h
      intro a9 hle9 ho9
      have hb9 := ho9.hi
      conv => whnf
      refine Or.inl ⟨InR.i64 (by omega) (by omega), ?_⟩
      conv => whnf
      rw [Int.add_sub_cancel]
      exact h _ (by omega) ho9
   ·rw [if_neg (by rw [hw3]; simp)] at h
    conv => whnf
    refine ⟨_, fun _ _ h => h, Nat.le_of_ble_eq_true rfl, ?_⟩
    conv => whnf
    refine ⟨L, ts2, rfl, ho2, [[123]], rfl, by simp, fun b hw7 => ?_⟩
    cases b with
    | false =>
     rw [withinF, if_neg (by rw [hw7]; simp), R.bind_err] at h
     conv => whnf
     refine ⟨L, ts2, rfl, ho2, fun x hx => ?_⟩
     rw [mustF, if_neg (by rw [hw7]; simp)] at hx
     subst hx
     intro a9 d9
     conv => whnf
     exact h _ _
    | true =>
     rw [withinF, if_pos hw7] at h
     conv => whnf
     refine CondP.dec (fun hc => ?_) (fun hc => ?_)
     ·rw [if_pos (by omega), R.bind_err] at h
      conv => whnf
      refine ⟨L, ts2, rfl, ho2, ?_⟩
      conv => whnf
      exact h _ _
     ·rw [if_neg (by omega)] at h
      conv => whnf
      refine ⟨L, ts2, rfl, ho2, fun x hx => ?_⟩
      rw [mustF, if_pos hw7] at hx
      subst hx
      intro a7 hle7 ho7
      have hb7 := ho7.hi
      conv => whnf
      refine Or.inl ⟨InR.i64 (by omega) (by omega), ?_⟩
      conv => whnf
      refine ⟨_, fun _ _ h => h, Nat.le_of_ble_eq_true rfl, ?_⟩
      conv => whnf
      refine ⟨L, ts2.tail, rfl, ho7, ⟨by omega, by omega, by omega, rfl⟩, fun x hx8 => ?_⟩
      rcases x with ⟨v8, ts8⟩ | ⟨r8, e8⟩
      rotate_left
      ·rw [hx8, R.bind_err] at h; intro a9 d9; (conv => whnf); exact h _ _
      rw [hx8, R.bind_ok] at h
      intro a8 hle8 ho8
      have hb8 := ho8.hi
      obtain ⟨v8a, v8b, v8c, v8d, v8e, v8f⟩ := v8
      conv => whnf
      rw [if_neg (by simp)] at h
      refine ⟨L, ts8, rfl, ho8, fun x hx9 => ?_⟩
      rcases x with ⟨v9, ts9⟩ | ⟨r9, e9⟩
      rotate_left
      ·rw [hx9, R.bind_err, R.bind_err] at h; intro a9 d9; (conv => whnf); exact h _ _
      rw [hx9, R.bind_ok, R.bind_ok] at h
      intro a9 hle9 ho9
      have hb9 := ho9.hi
      conv => whnf
      refine Or.inl ⟨InR.i64 (by omega) (by omega), ?_⟩
      conv => whnf
      rw [Int.add_sub_cancel]
      exact h _ (by omega) ho9
  ·exact h.elim
 ·exact h.elim
noncomputable def tblUnit (d : Nat) : Tbl := [(86, spIs), (87, spRoom), (88, spTyped), (89, spDecl), (90, spComp d), (91, spPlace), (92, spNameP), (93, spMust), (94, spNames), (95, spAsk namedF), (49, spRule d), (85, spFail)]
theorem unitGo_eq (inside : Bool) (d : Nat) (un : Ts → R Un) (f : Nat) (tys : List Ty) (rels : List Re) (rules : List Ru) (comps : List Co) (inits : List Ini) (overs : List Ov) (ts : Ts) : unitGo inside d un (f + 1) (.mk tys rels rules comps inits overs) ts =
  if ts = [] ∨ (inside = true ∧ isW ts [[125]] = true) then .ok (.mk tys rels rules comps inits overs) ts
  else if isW ts [[116, 121, 112, 101]] = true then (if tys.length = 256 then .err ts.length 3 else (typedF ts.tail).bind fun x ts => unitGo inside d un f (.mk (tys ++ [x]) rels rules comps inits overs) ts)
  else if isW ts [[100, 101, 99, 108]] = true then (if rels.length = 256 then .err ts.length 3 else (declF ts.tail).bind fun x ts => unitGo inside d un f (.mk tys (rels ++ [x]) rules comps inits overs) ts)
  else if isW ts [[99, 111, 109, 112]] = true then (if comps.length = 64 then .err ts.length 3 else (compF d un ts.tail).bind fun x ts => unitGo inside d un f (.mk tys rels rules (comps ++ [x]) inits overs) ts)
  else if isW ts [[105, 110, 105, 116]] = true then (if inits.length = 256 then .err ts.length 3 else (initF ts.tail).bind fun x ts => unitGo inside d un f (.mk tys rels rules comps (inits ++ [x]) overs) ts)
  else if isW ts [[111, 118, 101, 114, 114, 105, 100, 101]] = true then (if overs.length = 256 then .err ts.length 3 else (overF ts.tail).bind fun x ts => unitGo inside d un f (.mk tys rels rules comps inits (overs ++ [x])) ts)
  else if namedF ts = true then (if rules.length = 1024 then .err ts.length 3 else (ruleF d true ts).bind fun x ts => unitGo inside d un f (.mk tys rels (rules ++ [x]) comps inits overs) ts)
  else .err ts.length 150 := rfl
theorem unit_ok {d : Nat} (ht : TblOK (GG w0 nG) (tblUnit d)) : PCalls (GG w0 nG) 39 (spUnit d) := by
 refine pcalls tab_ok mixed (tbl := tblUnit d) ht Tryz.func39 rfl (by kernel_rfl) (by kernel_rfl) ?_
 intro args σ K h
 unfold spUnit rdSp at h
 split at h
 ·rename_i rest t rows a en dp
  obtain ⟨L, ts, rfl, ho, h⟩ := h
  split at h
  ·rename_i inside
   obtain ⟨hdp, h⟩ := h
   have h0 := ho.lo
   have h1 := ho.hi
   have h2 := ho.big
   refine ⟨loopsOf [(1, ⟨[], [0, 1, 4], fun vs σ => ∃ (tys : List Ty) (rels : List Re) (rules : List Ru) (comps : List Co) (inits : List Ini) (overs : List Ov) (a' : Int) (ts' : Ts) (f : Nat), vs = [] ∧ σ = ⟨[.cells t [.d (.sl (toksR L)), .d (.int .i64 a'), .d (.int .i64 en), .d (.int .i64 dp)], .cells 29 [.sl 0 57 (tys.map (encTy (placeOf L en))), .sl 1 44 (rels.map (encRe (placeOf L en))), .sl 2 52 (rules.map (encRu (placeOf L en))), .sl 3 62 (comps.map (encCo (placeOf L en))), .sl 4 64 (inits.map (encIn (placeOf L en))), .sl 5 87 (overs.map (encOv (placeOf L en)))]], [5, 4, 3, 2, 1, 0], 6⟩ ∧ ROK L a' ts' ∧ a ≤ a' ∧ ts'.length < f ∧ (tys.length ≤ 256 ∧ rels.length ≤ 256 ∧ rules.length ≤ 1024 ∧ comps.length ≤ 64 ∧ inits.length ≤ 256 ∧ overs.length ≤ 256) ∧ RKk (fun (v : Un) => aggD (encUn (placeOf L en) v)) L en dp a (unitGo inside d (unitB d) f (.mk tys rels rules comps inits overs) ts') (fun pe a' dp' => K pe ⟨[.cells t [.d (.sl (toksR L)), .d (.int .i64 a'), .d (.int .i64 en), .d (.int .i64 dp')]], [], 0⟩), fun _ σ => match σ with | ⟨.cells _ [_, .d (.int _ i), _, _] :: _, _, _⟩ => ((L.length : Int) - i).toNat | _ => 0⟩)], 1, false, by simp, Nat.le_of_ble_eq_true rfl, ?_⟩
   have h := h _ rfl
   rw [unitT, unitF] at h
   conv => whnf
   refine ⟨⟨[], [], [], [], [], [], a, ts, ts.length + 1, rfl, rfl, ho, by omega, by omega, by simp, h⟩, ?_⟩
   clear h
   intro vs σ hI
   obtain ⟨tys, rels, rules, comps, inits, overs, a', ts', f, rfl, rfl, ho', hle', hf, hlim, h⟩ := hI
   obtain ⟨f, rfl⟩ : ∃ g, f = g + 1 := ⟨f - 1, by omega⟩
   rw [unitGo_eq] at h
   have hhi' := ho'.hi
   have hlen' := ho'.len
   have hlo' := ho'.lo
   conv => whnf
   refine CondP.dec (fun hc => ?_) (fun hc => ?_)
   ·have hne : ts' ≠ [] := by rintro rfl; have hc : a' < ((toksR L).length : Int) := hc; rw [toksR_len] at hc; simp at hlen'; omega
    conv => whnf
    cases inside with
    | false =>
     rw [if_neg (by simp [hne])] at h
     conv => whnf
     repeat (refine ⟨rfl, ?_⟩; conv => whnf)
     refine ⟨L, ts', rfl, ho', [[116, 121, 112, 101]], rfl, by simp, fun b hw21 => ?_⟩
     cases b with
     | true =>
      rw [if_pos hw21] at h
      have ho2 := ho'.tl (isW_ne hw21)
      have hb2 := ho2.hi
      have hlen2 := ho2.len
      conv => whnf
      refine ⟨L, ts', rfl, ho', fun g => ?_, fun g => ?_⟩
      ·conv => whnf
       rw [if_pos (by rw [List.length_map] at g; omega)] at h
       exact h _ _
      have hne : ¬ tys.length = 256 := by rw [List.length_map] at g; omega
      rw [if_neg hne] at h
      conv => whnf
      refine ⟨L, ts'.tail, rfl, ho2, fun x hx3 => ?_⟩
      rcases x with ⟨v3, ts3⟩ | ⟨r3, e3⟩
      rotate_left
      ·rw [hx3, R.bind_err] at h; intro a9 d9; (conv => whnf); exact h _ _
      rw [hx3, R.bind_ok] at h
      intro a3 hle3 ho3
      have hb3 := ho3.hi
      obtain ⟨v3a, v3b, v3c, v3d, v3e, v3f⟩ := v3
      conv => whnf
      have hlen3 := ho3.len
      repeat (refine ⟨rfl, ?_⟩; conv => whnf)
      refine ⟨List.forall_mem_singleton.2 rfl, (show ((tys.map (encTy (placeOf L en))).length + 1) * 96 ≤ 2 ^ 47 by rw [List.length_map]; omega), (show (tys.map (encTy (placeOf L en))).length + 1 ≤ 2 ^ 47 by rw [List.length_map]; omega), ?_⟩
      conv => whnf
      repeat (refine ⟨rfl, ?_⟩; conv => whnf)
      refine ⟨⟨tys ++ [⟨v3a, v3b, v3c, v3d, v3e, v3f⟩], rels, rules, comps, inits, overs, a3, ts3, f, rfl, ?_, ho3, by omega, by omega, ?_, h⟩, ?_⟩
      ·rw [← map_snoc (encTy (placeOf L en)) tys]; rfl
      ·simp only [List.length_append, List.length_singleton]; omega
      show ((L.length : Int) - a3).toNat < ((L.length : Int) - a').toNat
      omega
     | false =>
      rw [if_neg (by rw [hw21]; simp)] at h
      conv => whnf
      refine ⟨L, ts', rfl, ho', [[100, 101, 99, 108]], rfl, by simp, fun b hw22 => ?_⟩
      cases b with
      | true =>
       rw [if_pos hw22] at h
       have ho2 := ho'.tl (isW_ne hw22)
       have hb2 := ho2.hi
       have hlen2 := ho2.len
       conv => whnf
       refine ⟨L, ts', rfl, ho', fun g => ?_, fun g => ?_⟩
       ·conv => whnf
        rw [if_pos (by rw [List.length_map] at g; omega)] at h
        exact h _ _
       have hne : ¬ rels.length = 256 := by rw [List.length_map] at g; omega
       rw [if_neg hne] at h
       conv => whnf
       refine ⟨L, ts'.tail, rfl, ho2, fun x hx3 => ?_⟩
       rcases x with ⟨v3, ts3⟩ | ⟨r3, e3⟩
       rotate_left
       ·rw [hx3, R.bind_err] at h; intro a9 d9; (conv => whnf); exact h _ _
       rw [hx3, R.bind_ok] at h
       intro a3 hle3 ho3
       have hb3 := ho3.hi
       obtain ⟨v3a, v3b, v3c, v3d, v3e, v3f⟩ := v3
       conv => whnf
       have hlen3 := ho3.len
       repeat (refine ⟨rfl, ?_⟩; conv => whnf)
       refine ⟨List.forall_mem_singleton.2 rfl, (show ((rels.map (encRe (placeOf L en))).length + 1) * 56 ≤ 2 ^ 47 by rw [List.length_map]; omega), (show (rels.map (encRe (placeOf L en))).length + 1 ≤ 2 ^ 47 by rw [List.length_map]; omega), ?_⟩
       conv => whnf
       repeat (refine ⟨rfl, ?_⟩; conv => whnf)
       refine ⟨⟨tys, rels ++ [⟨v3a, v3b, v3c, v3d, v3e, v3f⟩], rules, comps, inits, overs, a3, ts3, f, rfl, ?_, ho3, by omega, by omega, ?_, h⟩, ?_⟩
       ·rw [← map_snoc (encRe (placeOf L en)) rels]; rfl
       ·simp only [List.length_append, List.length_singleton]; omega
       show ((L.length : Int) - a3).toNat < ((L.length : Int) - a').toNat
       omega
      | false =>
       rw [if_neg (by rw [hw22]; simp)] at h
       conv => whnf
       refine ⟨L, ts', rfl, ho', [[99, 111, 109, 112]], rfl, by simp, fun b hw23 => ?_⟩
       cases b with
       | true =>
        rw [if_pos hw23] at h
        have ho2 := ho'.tl (isW_ne hw23)
        have hb2 := ho2.hi
        have hlen2 := ho2.len
        conv => whnf
        refine ⟨L, ts', rfl, ho', fun g => ?_, fun g => ?_⟩
        ·conv => whnf
         rw [if_pos (by rw [List.length_map] at g; omega)] at h
         exact h _ _
        have hne : ¬ comps.length = 64 := by rw [List.length_map] at g; omega
        rw [if_neg hne] at h
        conv => whnf
        refine ⟨L, ts'.tail, rfl, ho2, hdp, fun x hx3 => ?_⟩
        rcases x with ⟨v3, ts3⟩ | ⟨r3, e3⟩
        rotate_left
        ·rw [hx3, R.bind_err] at h; intro a9 d9; (conv => whnf); exact h _ _
        rw [hx3, R.bind_ok] at h
        intro a3 hle3 ho3
        have hb3 := ho3.hi
        obtain ⟨v3a, v3b, v3c, v3d, ⟨v3g, v3h, v3i, v3j, v3k, v3l⟩, v3f⟩ := v3
        conv => whnf
        have hlen3 := ho3.len
        repeat (refine ⟨rfl, ?_⟩; conv => whnf)
        refine ⟨List.forall_mem_singleton.2 rfl, (show ((comps.map (encCo (placeOf L en))).length + 1) * 232 ≤ 2 ^ 47 by rw [List.length_map]; omega), (show (comps.map (encCo (placeOf L en))).length + 1 ≤ 2 ^ 47 by rw [List.length_map]; omega), ?_⟩
        conv => whnf
        repeat (refine ⟨rfl, ?_⟩; conv => whnf)
        refine ⟨⟨tys, rels, rules, comps ++ [.mk v3a v3b v3c v3d (.mk v3g v3h v3i v3j v3k v3l) v3f], inits, overs, a3, ts3, f, rfl, ?_, ho3, by omega, by omega, ?_, h⟩, ?_⟩
        ·rw [← map_snoc (encCo (placeOf L en)) comps]; rfl
        ·simp only [List.length_append, List.length_singleton]; omega
        show ((L.length : Int) - a3).toNat < ((L.length : Int) - a').toNat
        omega
       | false =>
        rw [if_neg (by rw [hw23]; simp)] at h
        conv => whnf
        refine ⟨L, ts', rfl, ho', [[105, 110, 105, 116]], rfl, by simp, fun b hw24 => ?_⟩
        cases b with
        | true =>
         rw [if_pos hw24] at h
         have ho2 := ho'.tl (isW_ne hw24)
         have hb2 := ho2.hi
         have hlen2 := ho2.len
         conv => whnf
         refine ⟨L, ts', rfl, ho', fun g => ?_, fun g => ?_⟩
         ·conv => whnf
          rw [if_pos (by rw [List.length_map] at g; omega)] at h
          exact h _ _
         have hne : ¬ inits.length = 256 := by rw [List.length_map] at g; omega
         rw [if_neg hne] at h
         conv => whnf
         refine ⟨L, ts'.tail, rfl, ho2, ?_⟩
         conv => whnf
         rw [initF] at h
         refine ⟨L, ts'.tail, rfl, ho2, fun x hx3 => ?_⟩
         rcases x with ⟨v3, ts3⟩ | ⟨r3, e3⟩
         rotate_left
         ·rw [hx3, R.bind_err, R.bind_err] at h; intro a9 d9; (conv => whnf); exact h _ _
         rw [hx3, R.bind_ok] at h
         intro a3 hle3 ho3
         have hb3 := ho3.hi
         conv => whnf
         refine ⟨L, ts3, rfl, ho3, fun x hx4 => ?_⟩
         rcases x with ⟨v4, ts4⟩ | ⟨r4, e4⟩
         rotate_left
         ·rw [hx4, R.bind_err, R.bind_err] at h; intro a9 d9; (conv => whnf); exact h _ _
         rw [hx4, R.bind_ok] at h
         intro a4 hle4 ho4
         have hb4 := ho4.hi
         conv => whnf
         refine ⟨L, ts4, rfl, ho4, fun x hx5 => ?_⟩
         rcases x with ⟨v5, ts5⟩ | ⟨r5, e5⟩
         rotate_left
         ·rw [hx5, R.bind_err, R.bind_err] at h; intro a9 d9; (conv => whnf); exact h _ _
         rw [hx5, R.bind_ok] at h
         intro a5 hle5 ho5
         have hb5 := ho5.hi
         conv => whnf
         refine ⟨L, ts5, rfl, ho5, fun x hx6 => ?_⟩
         rcases x with ⟨v6, ts6⟩ | ⟨r6, e6⟩
         rotate_left
         ·rw [hx6, R.bind_err, R.bind_err] at h; intro a9 d9; (conv => whnf); exact h _ _
         rw [hx6, R.bind_ok] at h
         intro a6 hle6 ho6
         have hb6 := ho6.hi
         conv => whnf
         rw [R.bind_ok] at h
         have hlen6 := ho6.len
         refine ⟨List.forall_mem_singleton.2 rfl, (show ((inits.map (encIn (placeOf L en))).length + 1) * 64 ≤ 2 ^ 47 by rw [List.length_map]; omega), (show (inits.map (encIn (placeOf L en))).length + 1 ≤ 2 ^ 47 by rw [List.length_map]; omega), ?_⟩
         conv => whnf
         repeat (refine ⟨rfl, ?_⟩; conv => whnf)
         refine ⟨⟨tys, rels, rules, comps, inits ++ [⟨v3, v5, v6, ts'.tail.length⟩], overs, a6, ts6, f, rfl, ?_, ho6, by omega, by omega, ?_, h⟩, ?_⟩
         ·rw [← map_snoc (encIn (placeOf L en)) inits]; rfl
         ·simp only [List.length_append, List.length_singleton]; omega
         show ((L.length : Int) - a6).toNat < ((L.length : Int) - a').toNat
         omega
        | false =>
         rw [if_neg (by rw [hw24]; simp)] at h
         conv => whnf
         refine ⟨L, ts', rfl, ho', [[111, 118, 101, 114, 114, 105, 100, 101]], rfl, by simp, fun b hw25 => ?_⟩
         cases b with
         | true =>
          rw [if_pos hw25] at h
          have ho2 := ho'.tl (isW_ne hw25)
          have hb2 := ho2.hi
          have hlen2 := ho2.len
          conv => whnf
          refine ⟨L, ts', rfl, ho', fun g => ?_, fun g => ?_⟩
          ·conv => whnf
           rw [if_pos (by rw [List.length_map] at g; omega)] at h
           exact h _ _
          have hne : ¬ overs.length = 256 := by rw [List.length_map] at g; omega
          rw [if_neg hne] at h
          conv => whnf
          refine ⟨L, ts'.tail, rfl, ho2, ?_⟩
          conv => whnf
          rw [overF] at h
          refine ⟨L, ts'.tail, rfl, ho2, fun x hx3 => ?_⟩
          rcases x with ⟨v3, ts3⟩ | ⟨r3, e3⟩
          rotate_left
          ·rw [hx3, R.bind_err, R.bind_err] at h; intro a9 d9; (conv => whnf); exact h _ _
          rw [hx3, R.bind_ok, R.bind_ok] at h
          intro a3 hle3 ho3
          have hb3 := ho3.hi
          have hlen3 := ho3.len
          conv => whnf
          refine ⟨List.forall_mem_singleton.2 rfl, (show ((overs.map (encOv (placeOf L en))).length + 1) * 24 ≤ 2 ^ 47 by rw [List.length_map]; omega), (show (overs.map (encOv (placeOf L en))).length + 1 ≤ 2 ^ 47 by rw [List.length_map]; omega), ?_⟩
          conv => whnf
          repeat (refine ⟨rfl, ?_⟩; conv => whnf)
          refine ⟨⟨tys, rels, rules, comps, inits, overs ++ [⟨v3, ts'.tail.length⟩], a3, ts3, f, rfl, ?_, ho3, by omega, by omega, ?_, h⟩, ?_⟩
          ·rw [← map_snoc (encOv (placeOf L en)) overs]; rfl
          ·simp only [List.length_append, List.length_singleton]; omega
          show ((L.length : Int) - a3).toNat < ((L.length : Int) - a').toNat
          omega
         | false =>
          rw [if_neg (by rw [hw25]; simp)] at h
          conv => whnf
          refine ⟨L, ts', rfl, ho', fun b hn => ?_⟩
          cases b with
          | false =>
           rw [if_neg (by rw [hn]; simp)] at h
           conv => whnf
           refine ⟨L, ts', rfl, ho', ?_⟩
           conv => whnf
           exact h _ _
          | true =>
           rw [if_pos hn] at h
           conv => whnf
           refine ⟨L, ts', rfl, ho', fun g => ?_, fun g => ?_⟩
           ·conv => whnf
            rw [if_pos (by rw [List.length_map] at g; omega)] at h
            exact h _ _
           have hne : ¬ rules.length = 1024 := by rw [List.length_map] at g; omega
           rw [if_neg hne] at h
           conv => whnf
           refine Or.inl ⟨InR.i64 (by omega) (by omega), ?_⟩
           conv => whnf
           rw [show a' + 1 - 1 = a' by omega]
           refine ⟨L, ts', rfl, ho', hdp, fun x hx3 => ?_⟩
           rcases x with ⟨v3, ts3⟩ | ⟨r3, e3⟩
           rotate_left
           ·rw [hx3, R.bind_err] at h; intro a9 d9; (conv => whnf); exact h _ _
           rw [hx3, R.bind_ok] at h
           intro a3 hle3 ho3
           have hb3 := ho3.hi
           obtain ⟨v3a, v3b, v3c, v3d⟩ := v3
           conv => whnf
           have hlen3 := ho3.len
           repeat (refine ⟨rfl, ?_⟩; conv => whnf)
           refine ⟨List.forall_mem_singleton.2 rfl, (show ((rules.map (encRu (placeOf L en))).length + 1) * 72 ≤ 2 ^ 47 by rw [List.length_map]; omega), (show (rules.map (encRu (placeOf L en))).length + 1 ≤ 2 ^ 47 by rw [List.length_map]; omega), ?_⟩
           conv => whnf
           repeat (refine ⟨rfl, ?_⟩; conv => whnf)
           refine ⟨⟨tys, rels, rules ++ [⟨v3a, v3b, v3c, v3d⟩], comps, inits, overs, a3, ts3, f, rfl, ?_, ho3, by omega, by omega, ?_, h⟩, ?_⟩
           ·rw [← map_snoc (encRu (placeOf L en)) rules]; rfl
           ·simp only [List.length_append, List.length_singleton]; omega
           show ((L.length : Int) - a3).toNat < ((L.length : Int) - a').toNat
           omega
    | true =>
     conv => whnf
     refine ⟨L, ts', rfl, ho', [[125]], rfl, by simp, fun b hw => ?_⟩
     cases b with
     | true =>
      rw [if_pos (.inr ⟨rfl, hw⟩)] at h
      conv => whnf
      repeat (refine ⟨rfl, ?_⟩; conv => whnf)
      have h := h _ (by omega) ho'
      simp only [aggD, encUn, encCos_eq, List.map_cons, List.map_nil] at h
      exact h
     | false =>
      rw [if_neg (by simp [hne, hw])] at h
      conv => whnf
      repeat (refine ⟨rfl, ?_⟩; conv => whnf)
      refine ⟨L, ts', rfl, ho', [[116, 121, 112, 101]], rfl, by simp, fun b hw21 => ?_⟩
      cases b with
      | true =>
       rw [if_pos hw21] at h
       have ho2 := ho'.tl (isW_ne hw21)
       have hb2 := ho2.hi
       have hlen2 := ho2.len
       conv => whnf
       refine ⟨L, ts', rfl, ho', fun g => ?_, fun g => ?_⟩
       ·conv => whnf
        rw [if_pos (by rw [List.length_map] at g; omega)] at h
        exact h _ _
       have hne : ¬ tys.length = 256 := by rw [List.length_map] at g; omega
       rw [if_neg hne] at h
       conv => whnf
       refine ⟨L, ts'.tail, rfl, ho2, fun x hx3 => ?_⟩
       rcases x with ⟨v3, ts3⟩ | ⟨r3, e3⟩
       rotate_left
       ·rw [hx3, R.bind_err] at h; intro a9 d9; (conv => whnf); exact h _ _
       rw [hx3, R.bind_ok] at h
       intro a3 hle3 ho3
       have hb3 := ho3.hi
       obtain ⟨v3a, v3b, v3c, v3d, v3e, v3f⟩ := v3
       conv => whnf
       have hlen3 := ho3.len
       repeat (refine ⟨rfl, ?_⟩; conv => whnf)
       refine ⟨List.forall_mem_singleton.2 rfl, (show ((tys.map (encTy (placeOf L en))).length + 1) * 96 ≤ 2 ^ 47 by rw [List.length_map]; omega), (show (tys.map (encTy (placeOf L en))).length + 1 ≤ 2 ^ 47 by rw [List.length_map]; omega), ?_⟩
       conv => whnf
       repeat (refine ⟨rfl, ?_⟩; conv => whnf)
       refine ⟨⟨tys ++ [⟨v3a, v3b, v3c, v3d, v3e, v3f⟩], rels, rules, comps, inits, overs, a3, ts3, f, rfl, ?_, ho3, by omega, by omega, ?_, h⟩, ?_⟩
       ·rw [← map_snoc (encTy (placeOf L en)) tys]; rfl
       ·simp only [List.length_append, List.length_singleton]; omega
       show ((L.length : Int) - a3).toNat < ((L.length : Int) - a').toNat
       omega
      | false =>
       rw [if_neg (by rw [hw21]; simp)] at h
       conv => whnf
       refine ⟨L, ts', rfl, ho', [[100, 101, 99, 108]], rfl, by simp, fun b hw22 => ?_⟩
       cases b with
       | true =>
        rw [if_pos hw22] at h
        have ho2 := ho'.tl (isW_ne hw22)
        have hb2 := ho2.hi
        have hlen2 := ho2.len
        conv => whnf
        refine ⟨L, ts', rfl, ho', fun g => ?_, fun g => ?_⟩
        ·conv => whnf
         rw [if_pos (by rw [List.length_map] at g; omega)] at h
         exact h _ _
        have hne : ¬ rels.length = 256 := by rw [List.length_map] at g; omega
        rw [if_neg hne] at h
        conv => whnf
        refine ⟨L, ts'.tail, rfl, ho2, fun x hx3 => ?_⟩
        rcases x with ⟨v3, ts3⟩ | ⟨r3, e3⟩
        rotate_left
        ·rw [hx3, R.bind_err] at h; intro a9 d9; (conv => whnf); exact h _ _
        rw [hx3, R.bind_ok] at h
        intro a3 hle3 ho3
        have hb3 := ho3.hi
        obtain ⟨v3a, v3b, v3c, v3d, v3e, v3f⟩ := v3
        conv => whnf
        have hlen3 := ho3.len
        repeat (refine ⟨rfl, ?_⟩; conv => whnf)
        refine ⟨List.forall_mem_singleton.2 rfl, (show ((rels.map (encRe (placeOf L en))).length + 1) * 56 ≤ 2 ^ 47 by rw [List.length_map]; omega), (show (rels.map (encRe (placeOf L en))).length + 1 ≤ 2 ^ 47 by rw [List.length_map]; omega), ?_⟩
        conv => whnf
        repeat (refine ⟨rfl, ?_⟩; conv => whnf)
        refine ⟨⟨tys, rels ++ [⟨v3a, v3b, v3c, v3d, v3e, v3f⟩], rules, comps, inits, overs, a3, ts3, f, rfl, ?_, ho3, by omega, by omega, ?_, h⟩, ?_⟩
        ·rw [← map_snoc (encRe (placeOf L en)) rels]; rfl
        ·simp only [List.length_append, List.length_singleton]; omega
        show ((L.length : Int) - a3).toNat < ((L.length : Int) - a').toNat
        omega
       | false =>
        rw [if_neg (by rw [hw22]; simp)] at h
        conv => whnf
        refine ⟨L, ts', rfl, ho', [[99, 111, 109, 112]], rfl, by simp, fun b hw23 => ?_⟩
        cases b with
        | true =>
         rw [if_pos hw23] at h
         have ho2 := ho'.tl (isW_ne hw23)
         have hb2 := ho2.hi
         have hlen2 := ho2.len
         conv => whnf
         refine ⟨L, ts', rfl, ho', fun g => ?_, fun g => ?_⟩
         ·conv => whnf
          rw [if_pos (by rw [List.length_map] at g; omega)] at h
          exact h _ _
         have hne : ¬ comps.length = 64 := by rw [List.length_map] at g; omega
         rw [if_neg hne] at h
         conv => whnf
         refine ⟨L, ts'.tail, rfl, ho2, hdp, fun x hx3 => ?_⟩
         rcases x with ⟨v3, ts3⟩ | ⟨r3, e3⟩
         rotate_left
         ·rw [hx3, R.bind_err] at h; intro a9 d9; (conv => whnf); exact h _ _
         rw [hx3, R.bind_ok] at h
         intro a3 hle3 ho3
         have hb3 := ho3.hi
         obtain ⟨v3a, v3b, v3c, v3d, ⟨v3g, v3h, v3i, v3j, v3k, v3l⟩, v3f⟩ := v3
         conv => whnf
         have hlen3 := ho3.len
         repeat (refine ⟨rfl, ?_⟩; conv => whnf)
         refine ⟨List.forall_mem_singleton.2 rfl, (show ((comps.map (encCo (placeOf L en))).length + 1) * 232 ≤ 2 ^ 47 by rw [List.length_map]; omega), (show (comps.map (encCo (placeOf L en))).length + 1 ≤ 2 ^ 47 by rw [List.length_map]; omega), ?_⟩
         conv => whnf
         repeat (refine ⟨rfl, ?_⟩; conv => whnf)
         refine ⟨⟨tys, rels, rules, comps ++ [.mk v3a v3b v3c v3d (.mk v3g v3h v3i v3j v3k v3l) v3f], inits, overs, a3, ts3, f, rfl, ?_, ho3, by omega, by omega, ?_, h⟩, ?_⟩
         ·rw [← map_snoc (encCo (placeOf L en)) comps]; rfl
         ·simp only [List.length_append, List.length_singleton]; omega
         show ((L.length : Int) - a3).toNat < ((L.length : Int) - a').toNat
         omega
        | false =>
         rw [if_neg (by rw [hw23]; simp)] at h
         conv => whnf
         refine ⟨L, ts', rfl, ho', [[105, 110, 105, 116]], rfl, by simp, fun b hw24 => ?_⟩
         cases b with
         | true =>
          rw [if_pos hw24] at h
          have ho2 := ho'.tl (isW_ne hw24)
          have hb2 := ho2.hi
          have hlen2 := ho2.len
          conv => whnf
          refine ⟨L, ts', rfl, ho', fun g => ?_, fun g => ?_⟩
          ·conv => whnf
           rw [if_pos (by rw [List.length_map] at g; omega)] at h
           exact h _ _
          have hne : ¬ inits.length = 256 := by rw [List.length_map] at g; omega
          rw [if_neg hne] at h
          conv => whnf
          refine ⟨L, ts'.tail, rfl, ho2, ?_⟩
          conv => whnf
          rw [initF] at h
          refine ⟨L, ts'.tail, rfl, ho2, fun x hx3 => ?_⟩
          rcases x with ⟨v3, ts3⟩ | ⟨r3, e3⟩
          rotate_left
          ·rw [hx3, R.bind_err, R.bind_err] at h; intro a9 d9; (conv => whnf); exact h _ _
          rw [hx3, R.bind_ok] at h
          intro a3 hle3 ho3
          have hb3 := ho3.hi
          conv => whnf
          refine ⟨L, ts3, rfl, ho3, fun x hx4 => ?_⟩
          rcases x with ⟨v4, ts4⟩ | ⟨r4, e4⟩
          rotate_left
          ·rw [hx4, R.bind_err, R.bind_err] at h; intro a9 d9; (conv => whnf); exact h _ _
          rw [hx4, R.bind_ok] at h
          intro a4 hle4 ho4
          have hb4 := ho4.hi
          conv => whnf
          refine ⟨L, ts4, rfl, ho4, fun x hx5 => ?_⟩
          rcases x with ⟨v5, ts5⟩ | ⟨r5, e5⟩
          rotate_left
          ·rw [hx5, R.bind_err, R.bind_err] at h; intro a9 d9; (conv => whnf); exact h _ _
          rw [hx5, R.bind_ok] at h
          intro a5 hle5 ho5
          have hb5 := ho5.hi
          conv => whnf
          refine ⟨L, ts5, rfl, ho5, fun x hx6 => ?_⟩
          rcases x with ⟨v6, ts6⟩ | ⟨r6, e6⟩
          rotate_left
          ·rw [hx6, R.bind_err, R.bind_err] at h; intro a9 d9; (conv => whnf); exact h _ _
          rw [hx6, R.bind_ok] at h
          intro a6 hle6 ho6
          have hb6 := ho6.hi
          conv => whnf
          rw [R.bind_ok] at h
          have hlen6 := ho6.len
          refine ⟨List.forall_mem_singleton.2 rfl, (show ((inits.map (encIn (placeOf L en))).length + 1) * 64 ≤ 2 ^ 47 by rw [List.length_map]; omega), (show (inits.map (encIn (placeOf L en))).length + 1 ≤ 2 ^ 47 by rw [List.length_map]; omega), ?_⟩
          conv => whnf
          repeat (refine ⟨rfl, ?_⟩; conv => whnf)
          refine ⟨⟨tys, rels, rules, comps, inits ++ [⟨v3, v5, v6, ts'.tail.length⟩], overs, a6, ts6, f, rfl, ?_, ho6, by omega, by omega, ?_, h⟩, ?_⟩
          ·rw [← map_snoc (encIn (placeOf L en)) inits]; rfl
          ·simp only [List.length_append, List.length_singleton]; omega
          show ((L.length : Int) - a6).toNat < ((L.length : Int) - a').toNat
          omega
         | false =>
          rw [if_neg (by rw [hw24]; simp)] at h
          conv => whnf
          refine ⟨L, ts', rfl, ho', [[111, 118, 101, 114, 114, 105, 100, 101]], rfl, by simp, fun b hw25 => ?_⟩
          cases b with
          | true =>
           rw [if_pos hw25] at h
           have ho2 := ho'.tl (isW_ne hw25)
           have hb2 := ho2.hi
           have hlen2 := ho2.len
           conv => whnf
           refine ⟨L, ts', rfl, ho', fun g => ?_, fun g => ?_⟩
           ·conv => whnf
            rw [if_pos (by rw [List.length_map] at g; omega)] at h
            exact h _ _
           have hne : ¬ overs.length = 256 := by rw [List.length_map] at g; omega
           rw [if_neg hne] at h
           conv => whnf
           refine ⟨L, ts'.tail, rfl, ho2, ?_⟩
           conv => whnf
           rw [overF] at h
           refine ⟨L, ts'.tail, rfl, ho2, fun x hx3 => ?_⟩
           rcases x with ⟨v3, ts3⟩ | ⟨r3, e3⟩
           rotate_left
           ·rw [hx3, R.bind_err, R.bind_err] at h; intro a9 d9; (conv => whnf); exact h _ _
           rw [hx3, R.bind_ok, R.bind_ok] at h
           intro a3 hle3 ho3
           have hb3 := ho3.hi
           have hlen3 := ho3.len
           conv => whnf
           refine ⟨List.forall_mem_singleton.2 rfl, (show ((overs.map (encOv (placeOf L en))).length + 1) * 24 ≤ 2 ^ 47 by rw [List.length_map]; omega), (show (overs.map (encOv (placeOf L en))).length + 1 ≤ 2 ^ 47 by rw [List.length_map]; omega), ?_⟩
           conv => whnf
           repeat (refine ⟨rfl, ?_⟩; conv => whnf)
           refine ⟨⟨tys, rels, rules, comps, inits, overs ++ [⟨v3, ts'.tail.length⟩], a3, ts3, f, rfl, ?_, ho3, by omega, by omega, ?_, h⟩, ?_⟩
           ·rw [← map_snoc (encOv (placeOf L en)) overs]; rfl
           ·simp only [List.length_append, List.length_singleton]; omega
           show ((L.length : Int) - a3).toNat < ((L.length : Int) - a').toNat
           omega
          | false =>
           rw [if_neg (by rw [hw25]; simp)] at h
           conv => whnf
           refine ⟨L, ts', rfl, ho', fun b hn => ?_⟩
           cases b with
           | false =>
            rw [if_neg (by rw [hn]; simp)] at h
            conv => whnf
            refine ⟨L, ts', rfl, ho', ?_⟩
            conv => whnf
            exact h _ _
           | true =>
            rw [if_pos hn] at h
            conv => whnf
            refine ⟨L, ts', rfl, ho', fun g => ?_, fun g => ?_⟩
            ·conv => whnf
             rw [if_pos (by rw [List.length_map] at g; omega)] at h
             exact h _ _
            have hne : ¬ rules.length = 1024 := by rw [List.length_map] at g; omega
            rw [if_neg hne] at h
            conv => whnf
            refine Or.inl ⟨InR.i64 (by omega) (by omega), ?_⟩
            conv => whnf
            rw [show a' + 1 - 1 = a' by omega]
            refine ⟨L, ts', rfl, ho', hdp, fun x hx3 => ?_⟩
            rcases x with ⟨v3, ts3⟩ | ⟨r3, e3⟩
            rotate_left
            ·rw [hx3, R.bind_err] at h; intro a9 d9; (conv => whnf); exact h _ _
            rw [hx3, R.bind_ok] at h
            intro a3 hle3 ho3
            have hb3 := ho3.hi
            obtain ⟨v3a, v3b, v3c, v3d⟩ := v3
            conv => whnf
            have hlen3 := ho3.len
            repeat (refine ⟨rfl, ?_⟩; conv => whnf)
            refine ⟨List.forall_mem_singleton.2 rfl, (show ((rules.map (encRu (placeOf L en))).length + 1) * 72 ≤ 2 ^ 47 by rw [List.length_map]; omega), (show (rules.map (encRu (placeOf L en))).length + 1 ≤ 2 ^ 47 by rw [List.length_map]; omega), ?_⟩
            conv => whnf
            repeat (refine ⟨rfl, ?_⟩; conv => whnf)
            refine ⟨⟨tys, rels, rules ++ [⟨v3a, v3b, v3c, v3d⟩], comps, inits, overs, a3, ts3, f, rfl, ?_, ho3, by omega, by omega, ?_, h⟩, ?_⟩
            ·rw [← map_snoc (encRu (placeOf L en)) rules]; rfl
            ·simp only [List.length_append, List.length_singleton]; omega
            show ((L.length : Int) - a3).toNat < ((L.length : Int) - a').toNat
            omega
   have hnil : ts' = [] := by have hc : ¬ a' < ((toksR L).length : Int) := hc; rw [toksR_len] at hc; exact List.eq_nil_of_length_eq_zero (by omega)
   rw [if_pos (.inl hnil)] at h
   conv => whnf
   have h := h _ (by omega) ho'
   simp only [aggD, encUn, encCos_eq, List.map_cons, List.map_nil] at h
   exact h
  ·exact h.elim
 ·exact h.elim
end Go.PM.Lex
end
