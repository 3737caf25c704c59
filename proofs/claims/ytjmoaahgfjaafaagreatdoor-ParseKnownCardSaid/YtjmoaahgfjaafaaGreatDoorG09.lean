/- A part of the proof: plain logic, contracts and laws over the given program. -/
import Derived.Test.YtjmoaahgfjaafaaGreatDoorG08
set_option linter.unusedVariables false
set_option linter.unusedSimpArgs false
set_option linter.all false
section
set_option maxRecDepth 100000
set_option maxHeartbeats 4000000
namespace Go.PM.Lex
open Go.Proofs
variable {w0 : World} {nG : Nat}
/-- A function walked in place: its contract is its own precondition. -/
noncomputable def spIn (fn : Func) (tb : Tbl) : Spec := fun args σ K => ∃ K0 : PEnd → St → Prop, (∀ e σ, K0 e σ → K e σ) ∧ args.length ≤ fn.ntmps ∧ WF (ctx Tab0 tb (loopsOf [])) fn σ.bx.length false args σ K0
theorem spIn_mono (fn : Func) (tb : Tbl) : SpecMono (spIn fn tb) := fun args σ K K' hK ⟨K0, h1, h2⟩ => ⟨K0, fun e σ h => hK _ _ (h1 e σ h), h2⟩
noncomputable def spInU (fn : Func) (unr : Nat → Nat) (tb : Tbl) : Spec := fun args σ K => ∃ K0 : PEnd → St → Prop, (∀ e σ, K0 e σ → K e σ) ∧ args.length ≤ fn.ntmps ∧ WF (ctxU Tab0 tb noIter (loopsOf []) unr (tieOf [])) fn σ.bx.length false args σ K0
theorem spInU_mono (fn : Func) (unr : Nat → Nat) (tb : Tbl) : SpecMono (spInU fn unr tb) := fun args σ K K' hK ⟨K0, h1, h2⟩ => ⟨K0, fun e σ h => hK _ _ (h1 e σ h), h2⟩
theorem _root_.Go.PM.PCalls.closed {G : GE} {g : FuncId} {sp : Spec} (h : PCalls G g sp) : PCalls G g (fun args σ K => ∃ K0 : PEnd → St → Prop, (∀ e σ, K0 e σ → K e σ) ∧ sp args σ K0) := ⟨h.enters, fun args σ K ⟨K0, hK, hs⟩ n e w vs hS ha =>
  (h.calls args σ K0 hs n e w vs hS ha).mono fun en w' ⟨pe, σ', e', hk, hr⟩ => ⟨pe, σ', e', hK _ _ hk, hr⟩⟩
theorem in_ok {g : FuncId} {fn : Func} {c : Code} {tb : Tbl} (ht : TblOK (GG w0 nG) tb) (hf : (GG w0 nG).P.funcs[g]? = some fn) (hb : fn.body = some c) (hname : (fn.name == "runtime.NumGoroutine") = false) (hok : codeOK fn.ntmps c = true) : PCalls (GG w0 nG) g (spIn fn tb) := by
  have h : PCalls (GG w0 nG) g (fun args σ K => args.length ≤ fn.ntmps ∧ WF (ctx Tab0 tb (loopsOf [])) fn σ.bx.length false args σ K) := by
    refine pcalls tab_ok mixed ht hf hb hname hok ?_
    intro args σ K h
    exact ⟨loopsOf [], σ.bx.length, false, Nat.le_refl _, h.1, h.2⟩
  exact h.closed
theorem inU_ok {g : FuncId} {fn : Func} {c : Code} {unr : Nat → Nat} {tb : Tbl} (ht : TblOK (GG w0 nG) tb) (hf : (GG w0 nG).P.funcs[g]? = some fn) (hb : fn.body = some c) (hname : (fn.name == "runtime.NumGoroutine") = false) (hok : codeOK fn.ntmps c = true) : PCalls (GG w0 nG) g (spInU fn unr tb) := by
  have h : PCalls (GG w0 nG) g (fun args σ K => args.length ≤ fn.ntmps ∧ WF (ctxU Tab0 tb noIter (loopsOf []) unr (tieOf [])) fn σ.bx.length false args σ K) := by
    refine pcallsN tab_ok mixed ht hf hb hname hok ?_
    intro args σ K h
    exact ⟨loopsOf [], unr, tieOf [], σ.bx.length, false, Nat.le_refl _, h.1, h.2⟩
  exact h.closed
/-- A reader that lies one deeper; there may be none. -/
noncomputable def spRB {α : Type} (enc : List Tok → Int → α → PV) (P : Ts → R α) (lo : Int) (d : Nat) : Spec := rdSp fun rest L en dp a ts K => match rest with
  | [] => (0 < d ∧ dp = 65 - (d : Int) ∧ 0 ≤ dp) ∧ ∀ x, P ts = x → RKk (enc L en) L en dp (a + lo) x K
  | _ => False
theorem spRB_mono {α : Type} (enc : List Tok → Int → α → PV) (P : Ts → R α) (lo : Int) (d : Nat) : SpecMono (spRB enc P lo d) := rdSp_mono fun rest L en dp a ts K K' hK h => by
  split at h
  · exact ⟨h.1, fun x hx => RKk_mono hK (h.2 x hx)⟩
  · exact h.elim
theorem spRB_zero {α : Type} {enc : List Tok → Int → α → PV} {P : Ts → R α} {lo : Int} {g : FuncId} (h : Enters (GG w0 nG).P g) : PCalls (GG w0 nG) g (spRB enc P lo 0) := ⟨h, fun args σ K hs => by
  exfalso
  unfold spRB rdSp at hs
  split at hs
  · obtain ⟨L, ts, _, _, hs⟩ := hs
    split at hs
    · have := hs.1.1; omega
    · exact hs
  · exact hs⟩
theorem _root_.Go.PM.PCalls.weaken1 {G : GE} {g : FuncId} {sp sp' : Spec} (h : PCalls G g sp) (hw : ∀ args σ K, sp' args σ K → sp args σ K) : PCalls G g sp' := ⟨h.enters, fun args σ K hs => h.calls args σ K (hw _ _ _ hs)⟩
theorem spRB_succ {α : Type} {enc : List Tok → Int → α → PV} {P : Ts → R α} {lo : Int} {d : Nat} {g : FuncId} (h : PCalls (GG w0 nG) g (spRD enc P lo d)) : PCalls (GG w0 nG) g (spRB enc P lo (d + 1)) := h.weaken1 fun args σ K hs => by
  unfold spRB rdSp at hs
  unfold spRD rdSp
  split at hs
  · obtain ⟨L, ts, h1, h2, hs⟩ := hs
    refine ⟨L, ts, h1, h2, ?_⟩
    split at hs
    · exact ⟨by have := hs.1.2; omega, hs.2⟩
    · exact hs.elim
  · exact hs
/-! #### slices.IndexFunc over words, with 'take' -/
noncomputable def spTake1 : Spec := fun args σ K => match args, σ with
  | [.d (.str w), .ptr 0 0], ⟨[.cells t0 [.ptr 1 0], .cells t [.d (.sl rows), .d (.int .i64 a), .d (.int .i64 en), .d (.int .i64 dp)]], [], 0⟩ => ∃ L ts, rows = toksR L ∧ ROK L a ts ∧
      (isW ts [w] = true → ROK L (a + 1) ts.tail → K (.ret (.d (.bool true))) ⟨[.cells t0 [.ptr 1 0], .cells t [.d (.sl (toksR L)), .d (.int .i64 (a + 1)), .d (.int .i64 en), .d (.int .i64 dp)]], [], 0⟩) ∧
      (isW ts [w] = false → K (.ret (.d (.bool false))) ⟨[.cells t0 [.ptr 1 0], .cells t [.d (.sl (toksR L)), .d (.int .i64 a), .d (.int .i64 en), .d (.int .i64 dp)]], [], 0⟩)
  | _, _ => False
theorem spTake1_mono : SpecMono spTake1 := fun args σ K K' hK h => by
  unfold spTake1 at h ⊢
  split at h
  · obtain ⟨L, ts, h1, h2, h3, h4⟩ := h
    exact ⟨L, ts, h1, h2, fun g1 g2 => hK _ _ (h3 g1 g2), fun g => hK _ _ (h4 g)⟩
  · exact h.elim
noncomputable def tblTake1 : Tbl := [(104, spTake)]
theorem take1a_ok (ht : TblOK (GG w0 nG) tblTake1) : PCalls (GG w0 nG) 245 spTake1 := by
  refine pcalls tab_ok mixed (tbl := tblTake1) ht Tryz.func245 rfl (by kernel_rfl) (by kernel_rfl) ?_
  intro args σ K h
  unfold spTake1 at h
  split at h
  · rename_i w t0 t rows a en dp
    obtain ⟨L, ts, rfl, ho, h1, h2⟩ := h
    refine ⟨loopsOf [], 2, false, by simp, Nat.le_of_ble_eq_true rfl, ?_⟩
    conv => whnf
    refine ⟨L, ts, rfl, ho, [w], rfl, by simp, fun hw ho2 => ?_, fun hw => ?_⟩
    · conv => whnf
      exact h1 hw ho2
    · conv => whnf
      exact h2 hw
  · exact h.elim
theorem take1b_ok (ht : TblOK (GG w0 nG) tblTake1) : PCalls (GG w0 nG) 246 spTake1 := by
  refine pcalls tab_ok mixed (tbl := tblTake1) ht Tryz.func246 rfl (by kernel_rfl) (by kernel_rfl) ?_
  intro args σ K h
  unfold spTake1 at h
  split at h
  · rename_i w t0 t rows a en dp
    obtain ⟨L, ts, rfl, ho, h1, h2⟩ := h
    refine ⟨loopsOf [], 2, false, by simp, Nat.le_of_ble_eq_true rfl, ?_⟩
    conv => whnf
    refine ⟨L, ts, rfl, ho, [w], rfl, by simp, fun hw ho2 => ?_, fun hw => ?_⟩
    · conv => whnf
      exact h1 hw ho2
    · conv => whnf
      exact h2 hw
  · exact h.elim
/-- The first of some words. -/
noncomputable def spIdx : Spec := fun args σ K => match args, σ with
  | [.asl 0 0 n, .func g [] [.ptr 1 0]], ⟨[.cells tA cs, .cells t0 [.ptr 2 0], .cells t [.d (.sl rows), .d (.int .i64 a), .d (.int .i64 en), .d (.int .i64 dp)]], [], 0⟩ => ∃ L ts ws, rows = toksR L ∧ ROK L a ts ∧
      ((ws = relWords ∧ g = 245) ∨ (ws = aggWords ∧ g = 246)) ∧ n = ws.length ∧ cs = ws.map (fun w => PV.d (.str w)) ∧
      (∀ k : Nat, idxW ts 0 ws = some k → ROK L (a + 1) ts.tail → K (.ret (.d (.int .i64 k))) ⟨[.cells tA cs, .cells t0 [.ptr 2 0], .cells t [.d (.sl (toksR L)), .d (.int .i64 (a + 1)), .d (.int .i64 en), .d (.int .i64 dp)]], [], 0⟩) ∧
      (idxW ts 0 ws = none → K (.ret (.d (.int .i64 (-1)))) ⟨[.cells tA cs, .cells t0 [.ptr 2 0], .cells t [.d (.sl (toksR L)), .d (.int .i64 a), .d (.int .i64 en), .d (.int .i64 dp)]], [], 0⟩)
  | _, _ => False
theorem spIdx_mono : SpecMono spIdx := fun args σ K K' hK h => by
  unfold spIdx at h ⊢
  split at h
  · obtain ⟨L, ts, ws, h1, h2, h3, h4, h5, h6, h7⟩ := h
    exact ⟨L, ts, ws, h1, h2, h3, h4, h5, fun k g1 g2 => hK _ _ (h6 k g1 g2), fun g => hK _ _ (h7 g)⟩
  · exact h.elim
noncomputable def tblIdx : Tbl := [(245, spTake1), (246, spTake1)]
theorem idx_ok (ht : TblOK (GG w0 nG) tblIdx) : PCalls (GG w0 nG) 244 spIdx := by
  refine pcallsN tab_ok mixed (tbl := tblIdx) ht Tryz.func244 rfl (by kernel_rfl) (by kernel_rfl) ?_
  intro args σ K h
  unfold spIdx at h
  split at h
  · rename_i n g tA cs t0 t rows a en dp
    obtain ⟨L, ts, ws, rfl, ho, hws, rfl, rfl, h1, h2⟩ := h
    refine ⟨loopsOf [], unrOf [(2, 8)], tieOf [], 3, false, by simp, Nat.le_of_ble_eq_true rfl, ?_⟩
    rcases hws with ⟨rfl, rfl⟩ | ⟨rfl, rfl⟩
    · conv => whnf
      refine ⟨by decide, by decide, ?_⟩
      conv => whnf
      refine ⟨L, ts, rfl, ho, fun hw0 ho2 => ?_, fun hw0 => ?_⟩
      · conv => whnf
        exact h1 0 (by simp [idxW, relWords, *]) ho2
      conv => whnf
      refine Or.inl ⟨InR.i64 (by omega) (by omega), ?_⟩
      conv => whnf
      refine ⟨by decide, by decide, ?_⟩
      conv => whnf
      refine ⟨L, ts, rfl, ho, fun hw1 ho2 => ?_, fun hw1 => ?_⟩
      · conv => whnf
        exact h1 1 (by simp [idxW, relWords, *]) ho2
      conv => whnf
      refine Or.inl ⟨InR.i64 (by omega) (by omega), ?_⟩
      conv => whnf
      refine ⟨by decide, by decide, ?_⟩
      conv => whnf
      refine ⟨L, ts, rfl, ho, fun hw2 ho2 => ?_, fun hw2 => ?_⟩
      · conv => whnf
        exact h1 2 (by simp [idxW, relWords, *]) ho2
      conv => whnf
      refine Or.inl ⟨InR.i64 (by omega) (by omega), ?_⟩
      conv => whnf
      refine ⟨by decide, by decide, ?_⟩
      conv => whnf
      refine ⟨L, ts, rfl, ho, fun hw3 ho2 => ?_, fun hw3 => ?_⟩
      · conv => whnf
        exact h1 3 (by simp [idxW, relWords, *]) ho2
      conv => whnf
      refine Or.inl ⟨InR.i64 (by omega) (by omega), ?_⟩
      conv => whnf
      refine ⟨by decide, by decide, ?_⟩
      conv => whnf
      refine ⟨L, ts, rfl, ho, fun hw4 ho2 => ?_, fun hw4 => ?_⟩
      · conv => whnf
        exact h1 4 (by simp [idxW, relWords, *]) ho2
      conv => whnf
      refine Or.inl ⟨InR.i64 (by omega) (by omega), ?_⟩
      conv => whnf
      refine ⟨by decide, by decide, ?_⟩
      conv => whnf
      refine ⟨L, ts, rfl, ho, fun hw5 ho2 => ?_, fun hw5 => ?_⟩
      · conv => whnf
        exact h1 5 (by simp [idxW, relWords, *]) ho2
      conv => whnf
      refine Or.inl ⟨InR.i64 (by omega) (by omega), ?_⟩
      conv => whnf
      exact h2 (by simp [idxW, relWords, *])
    · conv => whnf
      refine ⟨by decide, by decide, ?_⟩
      conv => whnf
      refine ⟨L, ts, rfl, ho, fun hw0 ho2 => ?_, fun hw0 => ?_⟩
      · conv => whnf
        exact h1 0 (by simp [idxW, aggWords, *]) ho2
      conv => whnf
      refine Or.inl ⟨InR.i64 (by omega) (by omega), ?_⟩
      conv => whnf
      refine ⟨by decide, by decide, ?_⟩
      conv => whnf
      refine ⟨L, ts, rfl, ho, fun hw1 ho2 => ?_, fun hw1 => ?_⟩
      · conv => whnf
        exact h1 1 (by simp [idxW, aggWords, *]) ho2
      conv => whnf
      refine Or.inl ⟨InR.i64 (by omega) (by omega), ?_⟩
      conv => whnf
      refine ⟨by decide, by decide, ?_⟩
      conv => whnf
      refine ⟨L, ts, rfl, ho, fun hw2 ho2 => ?_, fun hw2 => ?_⟩
      · conv => whnf
        exact h1 2 (by simp [idxW, aggWords, *]) ho2
      conv => whnf
      refine Or.inl ⟨InR.i64 (by omega) (by omega), ?_⟩
      conv => whnf
      refine ⟨by decide, by decide, ?_⟩
      conv => whnf
      refine ⟨L, ts, rfl, ho, fun hw3 ho2 => ?_, fun hw3 => ?_⟩
      · conv => whnf
        exact h1 3 (by simp [idxW, aggWords, *]) ho2
      conv => whnf
      refine Or.inl ⟨InR.i64 (by omega) (by omega), ?_⟩
      conv => whnf
      exact h2 (by simp [idxW, aggWords, *])
  · exact h.elim
end Go.PM.Lex
end

section
set_option maxRecDepth 100000
set_option maxHeartbeats 4000000
namespace Go.PM.Lex
open Go.Proofs
variable {w0 : World} {nG : Nat}
def signedB : Nat → Ts → R Ex
  | 0 => fun _ => .err 0 150
  | d + 1 => signedD d
theorem exprB_eq (d : Nat) : exprB d = fun ts => lineK (signedB d) 6 1 ts := by cases d <;> rfl
theorem signedD_eq (d : Nat) (ts : Ts) : signedD d ts = signedF d (signedB d) ts := by cases d <;> rfl
theorem startsF_ne {ts : Ts} (h : startsF ts = true) : ts ≠ [] := by rintro rfl; simp [startsF, hd] at h
noncomputable abbrev spExprB (d : Nat) : Spec := spRB (fun L en (v : Ex) => aggD (encE (placeOf L en) v)) (exprB d) 0 d
noncomputable abbrev spSignedB (d : Nat) : Spec := spRB (fun L en (v : Ex) => aggD (encE (placeOf L en) v)) (signedB d) 0 d
noncomputable abbrev spExpr (d : Nat) : Spec := spRD (fun L en (v : Ex) => aggD (encE (placeOf L en) v)) (exprD d) 0 d
noncomputable abbrev spSigned (d : Nat) : Spec := spRD (fun L en (v : Ex) => aggD (encE (placeOf L en) v)) (signedD d) 0 d
noncomputable abbrev spPrimary (d : Nat) : Spec := spRD (fun L en (v : Ex) => aggD (encE (placeOf L en) v)) (primaryF d (exprB d)) 0 d
noncomputable def spArgs (d : Nat) : Spec := rdSp fun rest L en dp a ts K => match rest with
  | [.d (.str fr), .d (.str to)] => ((dp = 64 - (d : Int) ∧ 0 ≤ dp) ∧ to ≠ []) ∧ ∀ x, argsF d (exprB d) fr to ts = x → RKk (fun (l : List Ex) => .d (.sl (l.map (encE (placeOf L en))))) L en dp a x K
  | _ => False
theorem spArgs_mono (d : Nat) : SpecMono (spArgs d) := rdSp_mono fun rest L en dp a ts K K' hK h => by
  split at h
  · exact ⟨h.1, fun x hx => RKk_mono hK (h.2 x hx)⟩
  · exact h.elim
noncomputable def spCall (d : Nat) : Spec := rdSp fun rest L en dp a ts K => match rest with
  | [.agg [.d (.int .u8 op), .d (.str []), .d (.int .i64 n), .nils e, .d (.int .i64 at')]] => ((dp = 64 - (d : Int) ∧ 0 ≤ dp) ∧ n = 0 ∧ e = 49) ∧ ∃ o : Nat, op = (o : Int) ∧ ∀ x, withinF d [40] [41] (callGo (exprB d) (arity o) []) ts = x →
      RKk (fun (l : List Ex) => .agg [.d (.int .u8 op), .d (.str []), .d (.int .i64 0), .d (.sl (l.map (encE (placeOf L en)))), .d (.int .i64 at')]) L en dp a x K
  | _ => False
theorem spCall_mono (d : Nat) : SpecMono (spCall d) := rdSp_mono fun rest L en dp a ts K K' hK h => by
  split at h
  · obtain ⟨h0, o, h1, h2⟩ := h
    exact ⟨h0, o, h1, fun x hx => RKk_mono hK (h2 x hx)⟩
  · exact h.elim
/-- Expressions, one deeper. -/
noncomputable def spManyExB (d : Nat) : Spec := fun args σ K => match args, σ with
  | [.ptr 0 0, .d (.str sg), .d (.int .i64 m), .func g1 [.ptr 0 0] [], .func g2 [.ptr 0 0] []], ⟨[.cells t [.d (.sl rows), .d (.int .i64 a), .d (.int .i64 en), .d (.int .i64 dp)]], [], 0⟩ =>
      (sg = [44] ∧ m = 12 ∧ g1 = 184 ∧ g2 = 47 ∧ 0 < d ∧ dp = 65 - (d : Int) ∧ 0 ≤ dp) ∧ ∃ L ts, rows = toksR L ∧ ROK L a ts ∧ ∀ x, manyF [44] 12 startsF (exprB d) ts = x →
        RKk (fun (l : List Ex) => .d (.sl (l.map (encE (placeOf L en))))) L en dp a x fun pe a' dp' => K pe ⟨[.cells t [.d (.sl (toksR L)), .d (.int .i64 a'), .d (.int .i64 en), .d (.int .i64 dp')]], [], 0⟩
  | _, _ => False
theorem spManyExB_mono (d : Nat) : SpecMono (spManyExB d) := fun args σ K K' hK h => by
  unfold spManyExB at h ⊢
  split at h
  · obtain ⟨h0, L, ts, h1, h2, h3⟩ := h
    exact ⟨h0, L, ts, h1, h2, fun x hx => RKk_mono (fun _ _ _ hk => hK _ _ hk) (h3 x hx)⟩
  · exact h.elim
noncomputable def tblArgs1 (d : Nat) : Tbl := [(86, spIs), (183, spManyExB d)]
noncomputable def tblArgsW (d : Nat) : Tbl := [(86, spIs), (93, spMust), (85, spFail), (182, spIn Tryz.f182 (tblArgs1 d))]
noncomputable def tblArgs (d : Nat) : Tbl := [(171, spIn Tryz.f171 (tblArgsW d))]
theorem args_ok {d : Nat} (ht : TblOK (GG w0 nG) (tblArgs d)) : PCalls (GG w0 nG) 103 (spArgs d) := by
  refine pcalls tab_ok mixed (tbl := tblArgs d) ht Tryz.func103 rfl (by kernel_rfl) (by kernel_rfl) ?_
  intro args σ K h
  unfold spArgs rdSp at h
  split at h
  · rename_i rest t rows a en dp
    obtain ⟨L, ts, rfl, ho, h⟩ := h
    split at h
    · rename_i fr to
      obtain ⟨⟨hdp, hto⟩, h⟩ := h
      have h0 := ho.lo
      have h1 := ho.hi
      have h2 := ho.big
      refine ⟨loopsOf [], 1, false, by simp, Nat.le_of_ble_eq_true rfl, ?_⟩
      have h := h _ rfl
      unfold argsF at h
      conv => whnf
      refine ⟨_, fun _ _ h => h, Nat.le_of_ble_eq_true rfl, ?_⟩
      conv => whnf
      refine ⟨L, ts, rfl, ho, [fr], rfl, by simp, fun b hw1 => ?_⟩
      cases b with
      | false =>
        rw [withinF, if_neg (by rw [hw1]; simp)] at h
        conv => whnf
        refine ⟨L, ts, rfl, ho, fun x hx => ?_⟩
        rw [mustF, if_neg (by rw [hw1]; simp)] at hx
        subst hx
        intro a9 d9
        conv => whnf
        exact h _ _
      | true =>
        rw [withinF, if_pos hw1] at h
        conv => whnf
        refine CondP.dec (fun hc => ?_) (fun hc => ?_)
        · rw [if_pos (by omega)] at h
          conv => whnf
          refine ⟨L, ts, rfl, ho, ?_⟩
          conv => whnf
          exact h _ _
        · rw [if_neg (by omega)] at h
          conv => whnf
          refine ⟨L, ts, rfl, ho, fun x hx => ?_⟩
          rw [mustF, if_pos hw1] at hx
          subst hx
          intro a1 hle1 ho1
          have hb1 := ho1.hi
          conv => whnf
          refine Or.inl ⟨InR.i64 (by omega) (by omega), ?_⟩
          conv => whnf
          refine ⟨_, fun _ _ h => h, Nat.le_of_ble_eq_true rfl, ?_⟩
          conv => whnf
          refine ⟨L, ts.tail, rfl, ho1, [to], rfl, by simp, fun b hw4 => ?_⟩
          have hgo : ∀ (x : R (List Ex)), (if isW ts.tail [to] = true then R.ok [] ts.tail else manyF [44] 12 startsF (exprB d) ts.tail) = x → True := fun _ _ => trivial
          cases b with
          | true =>
            rw [if_pos hw4, R.bind_ok] at h
            conv => whnf
            have ho2 := ho1
            refine CondP.ndec (fun _ => ?_) (fun g => absurd g hto)
            conv => whnf
            rw [if_neg hto] at h
            refine ⟨L, ts.tail, rfl, ho1, fun x hx3 => ?_⟩
            rcases x with ⟨v3, ts3⟩ | ⟨r3, e3⟩
            rotate_left
            · rw [hx3, R.bind_err] at h; intro a9 d9; (conv => whnf); exact h _ _
            rw [hx3, R.bind_ok] at h
            intro a3 hle3 ho3
            have hb3 := ho3.hi
            conv => whnf
            refine Or.inl ⟨InR.i64 (by omega) (by omega), ?_⟩
            conv => whnf
            rw [Int.add_sub_cancel]
            exact h _ (by omega) ho3
          | false =>
            rw [if_neg (by rw [hw4]; simp)] at h
            conv => whnf
            refine ⟨⟨rfl, rfl, rfl, rfl, by omega, by omega, by omega⟩, L, ts.tail, rfl, ho1, fun x hx2 => ?_⟩
            rcases x with ⟨v2, ts2⟩ | ⟨r2, e2⟩
            rotate_left
            · rw [hx2, R.bind_err] at h; intro a9 d9; (conv => whnf); exact h _ _
            rw [hx2, R.bind_ok] at h
            intro a2 hle2 ho2
            have hb2 := ho2.hi
            conv => whnf
            refine CondP.ndec (fun _ => ?_) (fun g => absurd g hto)
            conv => whnf
            rw [if_neg hto] at h
            refine ⟨L, ts2, rfl, ho2, fun x hx3 => ?_⟩
            rcases x with ⟨v3, ts3⟩ | ⟨r3, e3⟩
            rotate_left
            · rw [hx3, R.bind_err] at h; intro a9 d9; (conv => whnf); exact h _ _
            rw [hx3, R.bind_ok] at h
            intro a3 hle3 ho3
            have hb3 := ho3.hi
            conv => whnf
            refine Or.inl ⟨InR.i64 (by omega) (by omega), ?_⟩
            conv => whnf
            rw [Int.add_sub_cancel]
            exact h _ (by omega) ho3
    · exact h.elim
  · exact h.elim
end Go.PM.Lex
end

section
set_option maxRecDepth 100000
set_option maxHeartbeats 4000000
namespace Go.PM.Lex
open Go.Proofs
variable {w0 : World} {nG : Nat}
theorem callGo_eq (ex : Ts → R Ex) (k : Nat) (l : List Ex) (ts : Ts) : callGo ex (k + 1) l ts = (if l = [] then .ok () ts else mustF [44] ts).bind fun _ ts => (ex ts).bind fun e ts => callGo ex k (l ++ [e]) ts := rfl
noncomputable def tblCall1 (d : Nat) : Tbl := [(93, spMust), (47, spExprB d)]
noncomputable def tblCallW (d : Nat) : Tbl := [(86, spIs), (93, spMust), (85, spFail), (322, spInU Tryz.f322 (unrOf [(1, 5)]) (tblCall1 d))]
noncomputable def tblCall (d : Nat) : Tbl := [(171, spIn Tryz.f171 (tblCallW d))]
theorem call_ok {d : Nat} (ht : TblOK (GG w0 nG) (tblCall d)) : PCalls (GG w0 nG) 294 (spCall d) := by
  refine pcalls tab_ok mixed (tbl := tblCall d) ht Tryz.func294 rfl (by kernel_rfl) (by kernel_rfl) ?_
  intro args σ K h
  unfold spCall rdSp at h
  split at h
  · rename_i rest t rows a en dp
    obtain ⟨L, ts, rfl, ho, h⟩ := h
    split at h
    · rename_i op n e at'
      obtain ⟨⟨hdp, rfl, rfl⟩, o, rfl, h⟩ := h
      have h := h _ rfl
      have h0 := ho.lo
      have h1 := ho.hi
      have h2 := ho.big
      refine ⟨loopsOf [], 1, false, by simp, Nat.le_of_ble_eq_true rfl, ?_⟩
      conv => whnf
      refine CondP.dec (fun hop => ?_) (fun hop => ?_)
      · obtain rfl : o = 22 := by omega
        have har : arity 22 = 3 := rfl
        conv => whnf
        refine Or.inl ⟨InR.i64 (by decide) (by decide), ?_⟩
        conv => whnf
        refine Or.inl ⟨InR.i64 (by decide) (by decide), ?_⟩
        conv => whnf
        rw [har] at h
        refine ⟨_, fun _ _ h => h, Nat.le_of_ble_eq_true rfl, ?_⟩
        conv => whnf
        refine ⟨L, ts, rfl, ho, [[40]], rfl, by simp, fun b hw1 => ?_⟩
        cases b with
        | false =>
          rw [withinF, if_neg (by rw [hw1]; simp)] at h
          conv => whnf
          refine ⟨L, ts, rfl, ho, fun x hx => ?_⟩
          rw [mustF, if_neg (by rw [hw1]; simp)] at hx
          subst hx
          intro a9 d9
          conv => whnf
          exact h _ _
        | true =>
          rw [withinF, if_pos hw1] at h
          conv => whnf
          refine CondP.dec (fun hc => ?_) (fun hc => ?_)
          · rw [if_pos (by omega)] at h
            conv => whnf
            refine ⟨L, ts, rfl, ho, ?_⟩
            conv => whnf
            exact h _ _
          · rw [if_neg (by omega)] at h
            conv => whnf
            refine ⟨L, ts, rfl, ho, fun x hx => ?_⟩
            rw [mustF, if_pos hw1] at hx
            subst hx
            intro a1 hle1 ho1
            have hb1 := ho1.hi
            conv => whnf
            refine Or.inl ⟨InR.i64 (by omega) (by omega), ?_⟩
            conv => whnf
            refine ⟨_, fun _ _ h => h, Nat.le_of_ble_eq_true rfl, ?_⟩
            conv => whnf
            rw [callGo_eq] at h
            rw [if_pos rfl, R.bind_ok] at h
            refine ⟨L, ts.tail, rfl, ho1, ⟨by omega, by omega, by omega⟩, fun x hx10 => ?_⟩
            rcases x with ⟨v10, ts10⟩ | ⟨r10, e10⟩
            rotate_left
            · rw [hx10, R.bind_err, R.bind_err] at h; intro a9 d9; (conv => whnf); exact h _ _
            rw [hx10, R.bind_ok] at h
            intro a10 hle10 ho10
            have hb10 := ho10.hi
            obtain ⟨v10a, v10b, v10c, v10d, v10e⟩ := v10
            conv => whnf
            refine ⟨rfl, rfl, Nat.le_of_ble_eq_true rfl, Nat.le_of_ble_eq_true rfl, ?_⟩
            conv => whnf
            repeat (refine ⟨rfl, ?_⟩; conv => whnf)
            refine Or.inl ⟨InR.i64 (by decide) (by decide), ?_⟩
            conv => whnf
            rw [callGo_eq] at h
            rw [if_neg (by simp)] at h
            refine ⟨L, ts10, rfl, ho10, fun x hx11 => ?_⟩
            rcases x with ⟨v11, ts11⟩ | ⟨r11, e11⟩
            rotate_left
            · rw [hx11, R.bind_err, R.bind_err] at h; intro a9 d9; (conv => whnf); exact h _ _
            rw [hx11, R.bind_ok] at h
            intro a11 hle11 ho11
            have hb11 := ho11.hi
            conv => whnf
            refine ⟨L, ts11, rfl, ho11, ⟨by omega, by omega, by omega⟩, fun x hx12 => ?_⟩
            rcases x with ⟨v12, ts12⟩ | ⟨r12, e12⟩
            rotate_left
            · rw [hx12, R.bind_err, R.bind_err] at h; intro a9 d9; (conv => whnf); exact h _ _
            rw [hx12, R.bind_ok] at h
            intro a12 hle12 ho12
            have hb12 := ho12.hi
            obtain ⟨v12a, v12b, v12c, v12d, v12e⟩ := v12
            conv => whnf
            refine ⟨rfl, rfl, Nat.le_of_ble_eq_true rfl, Nat.le_of_ble_eq_true rfl, ?_⟩
            conv => whnf
            repeat (refine ⟨rfl, ?_⟩; conv => whnf)
            refine Or.inl ⟨InR.i64 (by decide) (by decide), ?_⟩
            conv => whnf
            rw [callGo_eq] at h
            rw [if_neg (by simp)] at h
            refine ⟨L, ts12, rfl, ho12, fun x hx13 => ?_⟩
            rcases x with ⟨v13, ts13⟩ | ⟨r13, e13⟩
            rotate_left
            · rw [hx13, R.bind_err, R.bind_err] at h; intro a9 d9; (conv => whnf); exact h _ _
            rw [hx13, R.bind_ok] at h
            intro a13 hle13 ho13
            have hb13 := ho13.hi
            conv => whnf
            refine ⟨L, ts13, rfl, ho13, ⟨by omega, by omega, by omega⟩, fun x hx14 => ?_⟩
            rcases x with ⟨v14, ts14⟩ | ⟨r14, e14⟩
            rotate_left
            · rw [hx14, R.bind_err, R.bind_err] at h; intro a9 d9; (conv => whnf); exact h _ _
            rw [hx14, R.bind_ok] at h
            intro a14 hle14 ho14
            have hb14 := ho14.hi
            obtain ⟨v14a, v14b, v14c, v14d, v14e⟩ := v14
            conv => whnf
            refine ⟨rfl, rfl, Nat.le_of_ble_eq_true rfl, Nat.le_of_ble_eq_true rfl, ?_⟩
            conv => whnf
            repeat (refine ⟨rfl, ?_⟩; conv => whnf)
            refine Or.inl ⟨InR.i64 (by decide) (by decide), ?_⟩
            conv => whnf
            rw [callGo] at h
            rw [R.bind_ok] at h
            have hx99 : ts14 = ts14 := rfl
            have ho2 := ho14
            obtain ⟨ts2, hts2⟩ : ∃ t, t = ts14 := ⟨_, rfl⟩
            rw [← hts2] at h ho2
            rw [if_neg (by simp)] at h
            refine ⟨L, ts2, rfl, ho2, fun x hx3 => ?_⟩
            rcases x with ⟨v3, ts3⟩ | ⟨r3, e3⟩
            rotate_left
            · rw [hx3, R.bind_err] at h; intro a9 d9; (conv => whnf); exact h _ _
            rw [hx3, R.bind_ok] at h
            intro a3 hle3 ho3
            have hb3 := ho3.hi
            conv => whnf
            refine Or.inl ⟨InR.i64 (by omega) (by omega), ?_⟩
            conv => whnf
            rw [Int.add_sub_cancel]
            exact h _ (by omega) ho3
      conv => whnf
      refine CondP.dec (fun hop2 => ?_) (fun hop2 => ?_)
      · obtain rfl : o = 20 := by omega
        have har : arity 20 = 2 := rfl
        conv => whnf
        refine Or.inl ⟨InR.i64 (by decide) (by decide), ?_⟩
        conv => whnf
        rw [har] at h
        refine ⟨_, fun _ _ h => h, Nat.le_of_ble_eq_true rfl, ?_⟩
        conv => whnf
        refine ⟨L, ts, rfl, ho, [[40]], rfl, by simp, fun b hw1 => ?_⟩
        cases b with
        | false =>
          rw [withinF, if_neg (by rw [hw1]; simp)] at h
          conv => whnf
          refine ⟨L, ts, rfl, ho, fun x hx => ?_⟩
          rw [mustF, if_neg (by rw [hw1]; simp)] at hx
          subst hx
          intro a9 d9
          conv => whnf
          exact h _ _
        | true =>
          rw [withinF, if_pos hw1] at h
          conv => whnf
          refine CondP.dec (fun hc => ?_) (fun hc => ?_)
          · rw [if_pos (by omega)] at h
            conv => whnf
            refine ⟨L, ts, rfl, ho, ?_⟩
            conv => whnf
            exact h _ _
          · rw [if_neg (by omega)] at h
            conv => whnf
            refine ⟨L, ts, rfl, ho, fun x hx => ?_⟩
            rw [mustF, if_pos hw1] at hx
            subst hx
            intro a1 hle1 ho1
            have hb1 := ho1.hi
            conv => whnf
            refine Or.inl ⟨InR.i64 (by omega) (by omega), ?_⟩
            conv => whnf
            refine ⟨_, fun _ _ h => h, Nat.le_of_ble_eq_true rfl, ?_⟩
            conv => whnf
            rw [callGo_eq] at h
            rw [if_pos rfl, R.bind_ok] at h
            refine ⟨L, ts.tail, rfl, ho1, ⟨by omega, by omega, by omega⟩, fun x hx10 => ?_⟩
            rcases x with ⟨v10, ts10⟩ | ⟨r10, e10⟩
            rotate_left
            · rw [hx10, R.bind_err, R.bind_err] at h; intro a9 d9; (conv => whnf); exact h _ _
            rw [hx10, R.bind_ok] at h
            intro a10 hle10 ho10
            have hb10 := ho10.hi
            obtain ⟨v10a, v10b, v10c, v10d, v10e⟩ := v10
            conv => whnf
            refine ⟨rfl, rfl, Nat.le_of_ble_eq_true rfl, Nat.le_of_ble_eq_true rfl, ?_⟩
            conv => whnf
            repeat (refine ⟨rfl, ?_⟩; conv => whnf)
            refine Or.inl ⟨InR.i64 (by decide) (by decide), ?_⟩
            conv => whnf
            rw [callGo_eq] at h
            rw [if_neg (by simp)] at h
            refine ⟨L, ts10, rfl, ho10, fun x hx11 => ?_⟩
            rcases x with ⟨v11, ts11⟩ | ⟨r11, e11⟩
            rotate_left
            · rw [hx11, R.bind_err, R.bind_err] at h; intro a9 d9; (conv => whnf); exact h _ _
            rw [hx11, R.bind_ok] at h
            intro a11 hle11 ho11
            have hb11 := ho11.hi
            conv => whnf
            refine ⟨L, ts11, rfl, ho11, ⟨by omega, by omega, by omega⟩, fun x hx12 => ?_⟩
            rcases x with ⟨v12, ts12⟩ | ⟨r12, e12⟩
            rotate_left
            · rw [hx12, R.bind_err, R.bind_err] at h; intro a9 d9; (conv => whnf); exact h _ _
            rw [hx12, R.bind_ok] at h
            intro a12 hle12 ho12
            have hb12 := ho12.hi
            obtain ⟨v12a, v12b, v12c, v12d, v12e⟩ := v12
            conv => whnf
            refine ⟨rfl, rfl, Nat.le_of_ble_eq_true rfl, Nat.le_of_ble_eq_true rfl, ?_⟩
            conv => whnf
            repeat (refine ⟨rfl, ?_⟩; conv => whnf)
            refine Or.inl ⟨InR.i64 (by decide) (by decide), ?_⟩
            conv => whnf
            rw [callGo] at h
            rw [R.bind_ok] at h
            have hx99 : ts12 = ts12 := rfl
            have ho2 := ho12
            obtain ⟨ts2, hts2⟩ : ∃ t, t = ts12 := ⟨_, rfl⟩
            rw [← hts2] at h ho2
            rw [if_neg (by simp)] at h
            refine ⟨L, ts2, rfl, ho2, fun x hx3 => ?_⟩
            rcases x with ⟨v3, ts3⟩ | ⟨r3, e3⟩
            rotate_left
            · rw [hx3, R.bind_err] at h; intro a9 d9; (conv => whnf); exact h _ _
            rw [hx3, R.bind_ok] at h
            intro a3 hle3 ho3
            have hb3 := ho3.hi
            conv => whnf
            refine Or.inl ⟨InR.i64 (by omega) (by omega), ?_⟩
            conv => whnf
            rw [Int.add_sub_cancel]
            exact h _ (by omega) ho3
      have har : arity o = 1 := by rw [arity, if_neg (by omega), if_neg (by omega)]
      conv => whnf
      rw [har] at h
      refine ⟨_, fun _ _ h => h, Nat.le_of_ble_eq_true rfl, ?_⟩
      conv => whnf
      refine ⟨L, ts, rfl, ho, [[40]], rfl, by simp, fun b hw1 => ?_⟩
      cases b with
      | false =>
        rw [withinF, if_neg (by rw [hw1]; simp)] at h
        conv => whnf
        refine ⟨L, ts, rfl, ho, fun x hx => ?_⟩
        rw [mustF, if_neg (by rw [hw1]; simp)] at hx
        subst hx
        intro a9 d9
        conv => whnf
        exact h _ _
      | true =>
        rw [withinF, if_pos hw1] at h
        conv => whnf
        refine CondP.dec (fun hc => ?_) (fun hc => ?_)
        · rw [if_pos (by omega)] at h
          conv => whnf
          refine ⟨L, ts, rfl, ho, ?_⟩
          conv => whnf
          exact h _ _
        · rw [if_neg (by omega)] at h
          conv => whnf
          refine ⟨L, ts, rfl, ho, fun x hx => ?_⟩
          rw [mustF, if_pos hw1] at hx
          subst hx
          intro a1 hle1 ho1
          have hb1 := ho1.hi
          conv => whnf
          refine Or.inl ⟨InR.i64 (by omega) (by omega), ?_⟩
          conv => whnf
          refine ⟨_, fun _ _ h => h, Nat.le_of_ble_eq_true rfl, ?_⟩
          conv => whnf
          rw [callGo_eq] at h
          rw [if_pos rfl, R.bind_ok] at h
          refine ⟨L, ts.tail, rfl, ho1, ⟨by omega, by omega, by omega⟩, fun x hx10 => ?_⟩
          rcases x with ⟨v10, ts10⟩ | ⟨r10, e10⟩
          rotate_left
          · rw [hx10, R.bind_err, R.bind_err] at h; intro a9 d9; (conv => whnf); exact h _ _
          rw [hx10, R.bind_ok] at h
          intro a10 hle10 ho10
          have hb10 := ho10.hi
          obtain ⟨v10a, v10b, v10c, v10d, v10e⟩ := v10
          conv => whnf
          refine ⟨rfl, rfl, Nat.le_of_ble_eq_true rfl, Nat.le_of_ble_eq_true rfl, ?_⟩
          conv => whnf
          repeat (refine ⟨rfl, ?_⟩; conv => whnf)
          refine Or.inl ⟨InR.i64 (by decide) (by decide), ?_⟩
          conv => whnf
          rw [callGo] at h
          rw [R.bind_ok] at h
          have hx99 : ts10 = ts10 := rfl
          have ho2 := ho10
          obtain ⟨ts2, hts2⟩ : ∃ t, t = ts10 := ⟨_, rfl⟩
          rw [← hts2] at h ho2
          rw [if_neg (by simp)] at h
          refine ⟨L, ts2, rfl, ho2, fun x hx3 => ?_⟩
          rcases x with ⟨v3, ts3⟩ | ⟨r3, e3⟩
          rotate_left
          · rw [hx3, R.bind_err] at h; intro a9 d9; (conv => whnf); exact h _ _
          rw [hx3, R.bind_ok] at h
          intro a3 hle3 ho3
          have hb3 := ho3.hi
          conv => whnf
          refine Or.inl ⟨InR.i64 (by omega) (by omega), ?_⟩
          conv => whnf
          rw [Int.add_sub_cancel]
          exact h _ (by omega) ho3
    · exact h.elim
  · exact h.elim
end Go.PM.Lex
end

section
set_option maxRecDepth 100000
set_option maxHeartbeats 4000000
namespace Go.PM.Lex
open Go.Proofs
variable {w0 : World} {nG : Nat}
noncomputable def tblPrim1 (d : Nat) : Tbl := [(47, spExprB d)]
noncomputable def tblPrimW (d : Nat) : Tbl := [(86, spIs), (93, spMust), (85, spFail), (293, spIn Tryz.f293 (tblPrim1 d))]
noncomputable def tblPrim (d : Nat) : Tbl := [(184, spAsk startsF), (85, spFail), (166, spMore), (171, spIn Tryz.f171 (tblPrimW d)), (103, spArgs d), (92, spNameP), (86, spIs), (96, spFunctor), (294, spCall d)]
theorem primary_ok {d : Nat} (ht : TblOK (GG w0 nG) (tblPrim d)) : PCalls (GG w0 nG) 243 (spPrimary d) := by
  refine pcallsB tab_ok mixed (tbl := tblPrim d) ht Tryz.func243 rfl (by kernel_rfl) (by kernel_rfl) ?_
  intro args σ K h
  unfold spPrimary spRD rdSp at h
  split at h
  · rename_i rest t rows a en dp
    obtain ⟨L, ts, rfl, ho, h⟩ := h
    split at h
    · obtain ⟨hdp, h⟩ := h
      have h0 := ho.lo
      have h1 := ho.hi
      have h2 := ho.big
      refine ⟨loopsOf [], unrOf [], tieOf [], tieOf [], tieOf [294], 1, false, by simp, Nat.le_of_ble_eq_true rfl, ?_⟩
      have h := h _ rfl
      conv => whnf
      refine ⟨L, ts, rfl, ho, fun b hst => ?_⟩
      cases b with
      | false =>
        rw [primaryF, if_pos hst] at h
        conv => whnf
        refine ⟨L, ts, rfl, ho, ?_⟩
        conv => whnf
        exact h _ _
      | true =>
        rw [primaryF, if_neg (by rw [hst]; simp)] at h
        have hot := ho.tl (startsF_ne hst)
        have hbt := hot.hi
        conv => whnf
        refine ⟨L, ts, rfl, ho, fun fin => Or.inl ⟨rfl, ?_⟩⟩
        conv => whnf
        refine CondP.dec (fun hc => ?_) (fun hc => ?_)
        · rw [if_pos (show (hd ts).kind = 2 by omega)] at h
          conv => whnf
          repeat (refine ⟨rfl, ?_⟩; conv => whnf)
          refine Or.inl ⟨InR.i64 (by omega) (by omega), ?_⟩
          conv => whnf
          exact h _ (by omega) hot
        rw [if_neg (show ¬ (hd ts).kind = 2 by omega)] at h
        conv => whnf
        refine CondP.dec (fun hc => ?_) (fun hc => ?_)
        · rw [if_pos (show (hd ts).kind = 3 by omega)] at h
          conv => whnf
          repeat (refine ⟨rfl, ?_⟩; conv => whnf)
          refine Or.inl ⟨InR.i64 (by omega) (by omega), ?_⟩
          conv => whnf
          exact h _ (by omega) hot
        rw [if_neg (show ¬ (hd ts).kind = 3 by omega)] at h
        conv => whnf
        refine CondP.dec (fun hc => ?_) (fun hc => ?_)
        · rw [if_pos (show (hd ts).text = [40] from hc)] at h
          conv => whnf
          refine ⟨_, fun _ _ h => h, Nat.le_of_ble_eq_true rfl, ?_⟩
          conv => whnf
          refine ⟨L, ts, rfl, ho, [[40]], rfl, by simp, fun b hw1 => ?_⟩
          cases b with
          | false =>
            rw [withinF, if_neg (by rw [hw1]; simp)] at h
            conv => whnf
            refine ⟨L, ts, rfl, ho, fun x hx => ?_⟩
            rw [mustF, if_neg (by rw [hw1]; simp)] at hx
            subst hx
            intro a9 d9
            conv => whnf
            exact h _ _
          | true =>
            rw [withinF, if_pos hw1] at h
            conv => whnf
            refine CondP.dec (fun hc => ?_) (fun hc => ?_)
            · rw [if_pos (by omega)] at h
              conv => whnf
              refine ⟨L, ts, rfl, ho, ?_⟩
              conv => whnf
              exact h _ _
            · rw [if_neg (by omega)] at h
              conv => whnf
              refine ⟨L, ts, rfl, ho, fun x hx => ?_⟩
              rw [mustF, if_pos hw1] at hx
              subst hx
              intro a1 hle1 ho1
              have hb1 := ho1.hi
              conv => whnf
              refine Or.inl ⟨InR.i64 (by omega) (by omega), ?_⟩
              conv => whnf
              refine ⟨_, fun _ _ h => h, Nat.le_of_ble_eq_true rfl, ?_⟩
              conv => whnf
              refine ⟨L, ts.tail, rfl, ho1, ⟨by omega, by omega, by omega⟩, fun x hx2 => ?_⟩
              rcases x with ⟨v2, ts2⟩ | ⟨r2, e2⟩
              rotate_left
              · rw [hx2, R.bind_err] at h; intro a9 d9; (conv => whnf); exact h _ _
              rw [hx2, R.bind_ok] at h
              intro a2 hle2 ho2
              have hb2 := ho2.hi
              obtain ⟨v2a, v2b, v2c, v2d, v2e⟩ := v2
              conv => whnf
              rw [if_neg (by simp)] at h
              refine ⟨L, ts2, rfl, ho2, fun x hx3 => ?_⟩
              rcases x with ⟨v3, ts3⟩ | ⟨r3, e3⟩
              rotate_left
              · rw [hx3, R.bind_err] at h; intro a9 d9; (conv => whnf); exact h _ _
              rw [hx3, R.bind_ok] at h
              intro a3 hle3 ho3
              have hb3 := ho3.hi
              conv => whnf
              refine Or.inl ⟨InR.i64 (by omega) (by omega), ?_⟩
              conv => whnf
              rw [Int.add_sub_cancel]
              exact h _ (by omega) ho3
        rw [if_neg (show ¬ (hd ts).text = [40] from hc)] at h
        conv => whnf
        refine CondP.dec (fun hc => ?_) (fun hc => ?_)
        · rw [if_pos (show (hd ts).text = [91] from hc)] at h
          conv => whnf
          refine ⟨L, ts, rfl, ho, ⟨hdp, by simp⟩, fun x hx1 => ?_⟩
          rcases x with ⟨v1, ts1⟩ | ⟨r1, e1⟩
          rotate_left
          · rw [hx1, R.bind_err] at h; intro a9 d9; (conv => whnf); exact h _ _
          rw [hx1, R.bind_ok] at h
          intro a1 hle1 ho1
          have hb1 := ho1.hi
          conv => whnf
          rw [← encEs_eq]
          exact h _ (by omega) ho1
        rw [if_neg (show ¬ (hd ts).text = [91] from hc)] at h
        conv => whnf
        refine CondP.dec (fun hc => ?_) (fun hc => ?_)
        · rw [if_pos (show (hd ts).text = [36] from hc)] at h
          conv => whnf
          refine Or.inl ⟨InR.i64 (by omega) (by omega), ?_⟩
          conv => whnf
          refine ⟨L, ts.tail, rfl, hot, fun x hx1 => ?_⟩
          rcases x with ⟨v1, ts1⟩ | ⟨r1, e1⟩
          rotate_left
          · rw [hx1, R.bind_err] at h; intro a9 d9; (conv => whnf); exact h _ _
          rw [hx1, R.bind_ok] at h
          intro a1 hle1 ho1
          have hb1 := ho1.hi
          conv => whnf
          refine ⟨L, ts1, rfl, ho1, [[40]], rfl, by simp, fun b hw2 => ?_⟩
          cases b with
          | false =>
            rw [if_neg (by rw [hw2]; simp)] at h
            conv => whnf
            exact h _ (by omega) ho1
          | true =>
            rw [if_pos hw2] at h
            conv => whnf
            refine ⟨L, ts1, rfl, ho1, ⟨hdp, by simp⟩, fun x hx3 => ?_⟩
            rcases x with ⟨v3, ts3⟩ | ⟨r3, e3⟩
            rotate_left
            · rw [hx3, R.bind_err] at h; intro a9 d9; (conv => whnf); exact h _ _
            rw [hx3, R.bind_ok] at h
            intro a3 hle3 ho3
            have hb3 := ho3.hi
            conv => whnf
            rw [← encEs_eq]
            exact h _ (by omega) ho3
        rw [if_neg (show ¬ (hd ts).text = [36] from hc)] at h
        conv => whnf
        intro n hn
        conv => whnf
        refine CondP.ndec (fun hc => ?_) (fun hc => ?_)
        · rw [if_pos (show functorF (hd ts).text ≠ 0 by omega)] at h
          conv => whnf
          refine Or.inl ⟨InR.i64 (by omega) (by omega), ?_⟩
          conv => whnf
          intro n2 hn2
          conv => whnf
          refine ⟨L, ts.tail, rfl, hot, ⟨hdp, rfl, rfl⟩, functorF (hd ts).text, hn2.symm, fun x hx1 => ?_⟩
          rcases x with ⟨v1, ts1⟩ | ⟨r1, e1⟩
          rotate_left
          · rw [hx1, R.bind_err] at h; intro a9 d9; (conv => whnf); exact h _ _
          rw [hx1, R.bind_ok] at h
          intro a1 hle1 ho1
          have hb1 := ho1.hi
          conv => whnf
          rw [← hn2, ← encEs_eq]
          exact h _ (by omega) ho1
        rw [if_neg (show ¬ functorF (hd ts).text ≠ 0 by omega)] at h
        conv => whnf
        refine CondP.dec (fun hc => ?_) (fun hc => ?_)
        · rw [if_pos (show (hd ts).text = [110, 105, 108] from hc)] at h
          conv => whnf
          refine Or.inl ⟨InR.i64 (by omega) (by omega), ?_⟩
          conv => whnf
          exact h _ (by omega) hot
        rw [if_neg (show ¬ (hd ts).text = [110, 105, 108] from hc)] at h
        conv => whnf
        refine CondP.dec (fun hc => ?_) (fun hc => ?_)
        · rw [if_pos (show (hd ts).text = [95] from hc)] at h
          conv => whnf
          refine Or.inl ⟨InR.i64 (by omega) (by omega), ?_⟩
          conv => whnf
          exact h _ (by omega) hot
        rw [if_neg (show ¬ (hd ts).text = [95] from hc)] at h
        conv => whnf
        repeat (refine ⟨rfl, ?_⟩; conv => whnf)
        refine Or.inl ⟨InR.i64 (by omega) (by omega), ?_⟩
        conv => whnf
        exact h _ (by omega) hot
    · exact h.elim
  · exact h.elim
noncomputable def tblSign1 (d : Nat) : Tbl := [(180, spSignedB d)]
noncomputable def tblSignW (d : Nat) : Tbl := [(86, spIs), (93, spMust), (85, spFail), (242, spIn Tryz.f242 (tblSign1 d))]
noncomputable def tblPSign (d : Nat) : Tbl := [(91, spPlace), (86, spIs), (171, spIn Tryz.f171 (tblSignW d)), (243, spPrimary d)]
theorem signed_ok {d : Nat} (ht : TblOK (GG w0 nG) (tblPSign d)) : PCalls (GG w0 nG) 180 (spSigned d) := by
  refine pcallsN tab_ok mixed (tbl := tblPSign d) ht Tryz.func180 rfl (by kernel_rfl) (by kernel_rfl) ?_
  intro args σ K h
  unfold spSigned spRD rdSp at h
  split at h
  · rename_i rest t rows a en dp
    obtain ⟨L, ts, rfl, ho, h⟩ := h
    split at h
    · obtain ⟨hdp, h⟩ := h
      have h0 := ho.lo
      have h1 := ho.hi
      have h2 := ho.big
      refine ⟨loopsOf [], unrOf [(3, 4)], tieOf [], 1, false, by simp, Nat.le_of_ble_eq_true rfl, ?_⟩
      have h := h _ rfl
      rw [signedD_eq, signedF] at h
      conv => whnf
      refine ⟨L, ts, rfl, ho, ?_⟩
      conv => whnf
      refine ⟨by decide, by decide, ?_⟩
      conv => whnf
      refine ⟨L, ts, rfl, ho, [[45]], rfl, by simp, fun b hw8 => ?_⟩
      cases b with
      | true =>
        rw [if_pos hw8] at h
        conv => whnf
        refine ⟨_, fun _ _ h => h, Nat.le_of_ble_eq_true rfl, ?_⟩
        conv => whnf
        refine ⟨L, ts, rfl, ho, [[45]], rfl, by simp, fun b hw1 => ?_⟩
        cases b with
        | false =>
          rw [withinF, if_neg (by rw [hw1]; simp), R.bind_err] at h
          conv => whnf
          refine ⟨L, ts, rfl, ho, fun x hx => ?_⟩
          rw [mustF, if_neg (by rw [hw1]; simp)] at hx
          subst hx
          intro a9 d9
          conv => whnf
          exact h _ _
        | true =>
          rw [withinF, if_pos hw1] at h
          conv => whnf
          refine CondP.dec (fun hc => ?_) (fun hc => ?_)
          · rw [if_pos (by omega), R.bind_err] at h
            conv => whnf
            refine ⟨L, ts, rfl, ho, ?_⟩
            conv => whnf
            exact h _ _
          · rw [if_neg (by omega)] at h
            conv => whnf
            refine ⟨L, ts, rfl, ho, fun x hx => ?_⟩
            rw [mustF, if_pos hw1] at hx
            subst hx
            intro a1 hle1 ho1
            have hb1 := ho1.hi
            conv => whnf
            refine Or.inl ⟨InR.i64 (by omega) (by omega), ?_⟩
            conv => whnf
            refine ⟨_, fun _ _ h => h, Nat.le_of_ble_eq_true rfl, ?_⟩
            conv => whnf
            refine ⟨L, ts.tail, rfl, ho1, ⟨by omega, by omega, by omega⟩, fun x hx2 => ?_⟩
            rcases x with ⟨v2, ts2⟩ | ⟨r2, e2⟩
            rotate_left
            · rw [hx2, R.bind_err] at h; intro a9 d9; (conv => whnf); exact h _ _
            rw [hx2, R.bind_ok] at h
            intro a2 hle2 ho2
            have hb2 := ho2.hi
            obtain ⟨v2a, v2b, v2c, v2d, v2e⟩ := v2
            conv => whnf
            repeat (refine ⟨rfl, ?_⟩; conv => whnf)
            rw [if_pos rfl, R.bind_ok] at h
            refine Or.inl ⟨InR.i64 (by omega) (by omega), ?_⟩
            conv => whnf
            rw [Int.add_sub_cancel]
            exact h _ (by omega) ho2
      | false =>
        rw [if_neg (by rw [hw8]; simp)] at h
        conv => whnf
        refine Or.inl ⟨InR.i64 (by decide) (by decide), ?_⟩
        conv => whnf
        refine ⟨by decide, by decide, ?_⟩
        conv => whnf
        refine ⟨L, ts, rfl, ho, [[126]], rfl, by simp, fun b hw9 => ?_⟩
        cases b with
        | true =>
          rw [if_pos hw9] at h
          conv => whnf
          refine ⟨_, fun _ _ h => h, Nat.le_of_ble_eq_true rfl, ?_⟩
          conv => whnf
          refine ⟨L, ts, rfl, ho, [[126]], rfl, by simp, fun b hw1 => ?_⟩
          cases b with
          | false =>
            rw [withinF, if_neg (by rw [hw1]; simp), R.bind_err] at h
            conv => whnf
            refine ⟨L, ts, rfl, ho, fun x hx => ?_⟩
            rw [mustF, if_neg (by rw [hw1]; simp)] at hx
            subst hx
            intro a9 d9
            conv => whnf
            exact h _ _
          | true =>
            rw [withinF, if_pos hw1] at h
            conv => whnf
            refine CondP.dec (fun hc => ?_) (fun hc => ?_)
            · rw [if_pos (by omega), R.bind_err] at h
              conv => whnf
              refine ⟨L, ts, rfl, ho, ?_⟩
              conv => whnf
              exact h _ _
            · rw [if_neg (by omega)] at h
              conv => whnf
              refine ⟨L, ts, rfl, ho, fun x hx => ?_⟩
              rw [mustF, if_pos hw1] at hx
              subst hx
              intro a1 hle1 ho1
              have hb1 := ho1.hi
              conv => whnf
              refine Or.inl ⟨InR.i64 (by omega) (by omega), ?_⟩
              conv => whnf
              refine ⟨_, fun _ _ h => h, Nat.le_of_ble_eq_true rfl, ?_⟩
              conv => whnf
              refine ⟨L, ts.tail, rfl, ho1, ⟨by omega, by omega, by omega⟩, fun x hx2 => ?_⟩
              rcases x with ⟨v2, ts2⟩ | ⟨r2, e2⟩
              rotate_left
              · rw [hx2, R.bind_err] at h; intro a9 d9; (conv => whnf); exact h _ _
              rw [hx2, R.bind_ok] at h
              intro a2 hle2 ho2
              have hb2 := ho2.hi
              obtain ⟨v2a, v2b, v2c, v2d, v2e⟩ := v2
              conv => whnf
              repeat (refine ⟨rfl, ?_⟩; conv => whnf)
              rw [if_pos rfl, R.bind_ok] at h
              refine Or.inl ⟨InR.i64 (by omega) (by omega), ?_⟩
              conv => whnf
              rw [Int.add_sub_cancel]
              exact h _ (by omega) ho2
        | false =>
          rw [if_neg (by rw [hw9]; simp)] at h
          conv => whnf
          refine Or.inl ⟨InR.i64 (by decide) (by decide), ?_⟩
          conv => whnf
          rw [show lineK (signedB d) 6 1 = exprB d from (exprB_eq d).symm] at h
          refine ⟨L, ts, rfl, ho, hdp, fun x hx1 => ?_⟩
          rcases x with ⟨v1, ts1⟩ | ⟨r1, e1⟩
          rotate_left
          · rw [hx1] at h; intro a9 d9; (conv => whnf); exact h _ _
          rw [hx1] at h
          intro a1 hle1 ho1
          have hb1 := ho1.hi
          obtain ⟨v1a, v1b, v1c, v1d, v1e⟩ := v1
          conv => whnf
          exact h _ (by omega) ho1
    · exact h.elim
  · exact h.elim
/-- A line and what is nearer; so many lines lie below. -/
noncomputable def spLine (d j : Nat) : Spec := rdSp fun rest L en dp a ts K => match rest with
  | [.d (.int .i64 least)] => ((dp = 64 - (d : Int) ∧ 0 ≤ dp) ∧ 1 ≤ least ∧ least ≤ 6 ∧ 6 ≤ least + (j : Int)) ∧ ∀ x, lineK (signedD d) j least.toNat ts = x → RKk (fun (v : Ex) => aggD (encE (placeOf L en) v)) L en dp a x K
  | _ => False
theorem spLine_mono (d j : Nat) : SpecMono (spLine d j) := rdSp_mono fun rest L en dp a ts K K' hK h => by
  split at h
  · exact ⟨h.1, fun x hx => RKk_mono hK (h.2 x hx)⟩
  · exact h.elim
/-- Lines below; there may be none. -/
noncomputable def spLineB (d j : Nat) : Spec := rdSp fun rest L en dp a ts K => match rest with
  | [.d (.int .i64 least)] => ((dp = 64 - (d : Int) ∧ 0 ≤ dp) ∧ 0 < j ∧ 1 ≤ least ∧ least ≤ 6 ∧ 7 ≤ least + (j : Int)) ∧ ∀ x, lineK (signedD d) (j - 1) least.toNat ts = x → RKk (fun (v : Ex) => aggD (encE (placeOf L en) v)) L en dp a x K
  | _ => False
theorem spLineB_mono (d j : Nat) : SpecMono (spLineB d j) := rdSp_mono fun rest L en dp a ts K K' hK h => by
  split at h
  · exact ⟨h.1, fun x hx => RKk_mono hK (h.2 x hx)⟩
  · exact h.elim
theorem binF_le (ts : Ts) : (binF ts).1 ≤ 5 ∧ (binF ts).2 ≤ 255 := by
  unfold binF
  repeat' (first | (split; decide) | split)
  all_goals decide
theorem lineGo_eq (sub : Nat → Ts → R Ex) (least f : Nat) (e : Ex) (ts : Ts) : lineGo sub least (f + 1) e ts = if (binF ts).1 < least ∨ (binF ts).1 = 0 then .ok e ts
      else (sub ((binF ts).1 + 1) ts.tail).bind fun g ts' => lineGo sub least f (.mk (binF ts).2 [] 0 [e, g] e.at') ts' := rfl
theorem lineGo_top {sub : Nat → Ts → R Ex} {least f : Nat} {e : Ex} {ts : Ts} (h : 6 ≤ least) : lineGo sub least (f + 1) e ts = .ok e ts := by
  rw [lineGo_eq, if_pos]; have := (binF_le ts).1; omega
theorem binF_ne {ts : Ts} (h : (binF ts).1 ≠ 0) : ts ≠ [] := by rintro rfl; exact h rfl
theorem lineK_eq (sg : Ts → R Ex) (j least : Nat) (ts : Ts) (h : 6 ≤ least + j) : lineK sg j least ts = (sg ts).bind fun e ts => lineGo (lineK sg (j - 1)) least (ts.length + 1) e ts := by
  cases j with
  | zero =>
    rw [lineK]
    cases sg ts with
    | ok e ts => rw [R.bind_ok, lineGo_top (by omega)]
    | err r e => rfl
  | succ j => rfl
noncomputable def tblLine (d j : Nat) : Tbl := [(180, spSigned d), (181, spBin), (102, spLineB d j)]
theorem line_ok {d j : Nat} (ht : TblOK (GG w0 nG) (tblLine d j)) : PCalls (GG w0 nG) 102 (spLine d j) := by
  refine pcalls tab_ok mixed (tbl := tblLine d j) ht Tryz.func102 rfl (by kernel_rfl) (by kernel_rfl) ?_
  intro args σ K h
  unfold spLine rdSp at h
  split at h
  · rename_i rest t rows a en dp
    obtain ⟨L, ts, rfl, ho, h⟩ := h
    split at h
    · rename_i least
      obtain ⟨⟨hdp, hl1, hl2, hl3⟩, h⟩ := h
      have h0 := ho.lo
      have h1 := ho.hi
      have h2 := ho.big
      refine ⟨loopsOf [(2, ⟨[], [0, 1, 4, 5], fun vs σ => ∃ (u1 : Nat) (u2 : Bs) (u3 : Int) (u4 : List Ex) (u5 : Nat) (a' : Int) (ts' : Ts) (f : Nat), vs = [] ∧ σ = ⟨[.cells t [.d (.sl (toksR L)), .d (.int .i64 a'), .d (.int .i64 en), .d (.int .i64 dp)], .cells 49 [.d (.int .u8 0), .d (.str []), .d (.int .i64 0), .sl 0 49 [], .d (.int .i64 0)], .cells 49 [.d (.int .u8 u1), .d (.str u2), .d (.int .i64 u3), .d (.sl (encEs (placeOf L en) u4)), .d (.int .i64 (placeOf L en u5))]], [0], 1⟩ ∧ ROK L a' ts' ∧ a ≤ a' ∧ ts'.length < f ∧ RKk (fun (v : Ex) => aggD (encE (placeOf L en) v)) L en dp a (lineGo (lineK (signedD d) (j - 1)) least.toNat f (.mk u1 u2 u3 u4 u5) ts') (fun pe a' dp' => K pe ⟨[.cells t [.d (.sl (toksR L)), .d (.int .i64 a'), .d (.int .i64 en), .d (.int .i64 dp')]], [], 0⟩), fun _ σ => match σ with | ⟨.cells _ [_, .d (.int _ i), _, _] :: _, _, _⟩ => ((L.length : Int) - i).toNat | _ => 0⟩)], 1, false, by simp, Nat.le_of_ble_eq_true rfl, ?_⟩
      have h := h _ rfl
      rw [lineK_eq _ _ _ _ (by omega)] at h
      conv => whnf
      refine ⟨L, ts, rfl, ho, hdp, fun x hx1 => ?_⟩
      rcases x with ⟨v1, ts1⟩ | ⟨r1, e1⟩
      rotate_left
      · rw [hx1, R.bind_err] at h; intro a9 d9; (conv => whnf); exact h _ _
      rw [hx1, R.bind_ok] at h
      intro a1 hle1 ho1
      have hb1 := ho1.hi
      obtain ⟨v1a, v1b, v1c, v1d, v1e⟩ := v1
      conv => whnf
      refine ⟨⟨v1a, v1b, v1c, v1d, v1e, a1, ts1, ts1.length + 1, rfl, rfl, ho1, by omega, by omega, h⟩, ?_⟩
      clear h hx1 ho1 hb1 hle1
      intro vs σ hI
      obtain ⟨u1, u2, u3, u4, u5, a', ts', f, rfl, rfl, ho', hle', hf, h⟩ := hI
      obtain ⟨f, rfl⟩ : ∃ g, f = g + 1 := ⟨f - 1, by omega⟩
      rw [lineGo_eq] at h
      have hhi' := ho'.hi
      have hlen' := ho'.len
      conv => whnf
      refine ⟨L, ts', rfl, ho', fun n op hn hop => ?_⟩
      conv => whnf
      have hbin := binF_le ts'
      refine CondP.dec (fun hc => ?_) (fun hc => ?_)
      · rw [if_pos (by omega)] at h
        conv => whnf
        exact h _ (by omega) ho'
      conv => whnf
      refine CondP.dec (fun hc2 => ?_) (fun hc2 => ?_)
      · rw [if_pos (by omega)] at h
        conv => whnf
        exact h _ (by omega) ho'
      rw [if_neg (by omega)] at h
      have ho2 := ho'.tl (binF_ne (by omega))
      have hb2 := ho2.hi
      have hlen2 := ho2.len
      conv => whnf
      refine Or.inl ⟨InR.i64 (by omega) (by omega), ?_⟩
      conv => whnf
      refine Or.inl ⟨InR.i64 (by omega) (by omega), ?_⟩
      conv => whnf
      refine ⟨L, ts'.tail, rfl, ho2, ⟨hdp, by omega, by omega, by omega, by omega⟩, fun x hx3 => ?_⟩
      rw [show (n + 1).toNat = (binF ts').1 + 1 by omega] at hx3
      rcases x with ⟨v3, ts3⟩ | ⟨r3, e3⟩
      rotate_left
      · rw [hx3, R.bind_err] at h; intro a9 d9; (conv => whnf); exact h _ _
      rw [hx3, R.bind_ok] at h
      intro a3 hle3 ho3
      have hb3 := ho3.hi
      obtain ⟨v3a, v3b, v3c, v3d, v3e⟩ := v3
      conv => whnf
      have hlen3 := ho3.len
      obtain rfl : op = ((binF ts').2 : Int) := hop.symm
      refine ⟨⟨(binF ts').2, [], 0, [.mk u1 u2 u3 u4 u5, .mk v3a v3b v3c v3d v3e], u5, a3, ts3, f, rfl, rfl, ho3, by omega, by omega, h⟩, ?_⟩
      show ((L.length : Int) - a3).toNat < ((L.length : Int) - a').toNat
      omega
    · exact h.elim
  · exact h.elim
noncomputable def tblExpr (d : Nat) : Tbl := [(102, spLine d 6)]
theorem expr_ok {d : Nat} (ht : TblOK (GG w0 nG) (tblExpr d)) : PCalls (GG w0 nG) 47 (spExpr d) := by
  refine pcalls tab_ok mixed (tbl := tblExpr d) ht Tryz.func47 rfl (by kernel_rfl) (by kernel_rfl) ?_
  intro args σ K h
  unfold spExpr spRD rdSp at h
  split at h
  · rename_i rest t rows a en dp
    obtain ⟨L, ts, rfl, ho, h⟩ := h
    split at h
    · obtain ⟨hdp, h⟩ := h
      have h0 := ho.lo
      have h1 := ho.hi
      have h2 := ho.big
      refine ⟨loopsOf [], 1, false, by simp, Nat.le_of_ble_eq_true rfl, ?_⟩
      have h := h _ rfl
      conv => whnf
      refine ⟨L, ts, rfl, ho, ⟨hdp, by omega, by omega, by omega⟩, fun x hx1 => ?_⟩
      rw [exprD] at h
      change lineK (signedD d) 6 1 ts = x at hx1
      rcases x with ⟨v1, ts1⟩ | ⟨r1, e1⟩
      rotate_left
      · rw [hx1] at h; intro a9 d9; (conv => whnf); exact h _ _
      rw [hx1] at h
      intro a1 hle1 ho1
      have hb1 := ho1.hi
      obtain ⟨v1a, v1b, v1c, v1d, v1e⟩ := v1
      conv => whnf
      exact h _ (by omega) ho1
    · exact h.elim
  · exact h.elim
end Go.PM.Lex
end

section
set_option maxRecDepth 100000
set_option maxHeartbeats 4000000
namespace Go.PM.Lex
open Go.Proofs
variable {w0 : World} {nG : Nat}
noncomputable abbrev spLit (d : Nat) : Spec := spRD (fun L en (v : Li) => aggD (encL (placeOf L en) v)) (litF d (bodyB d)) 0 d
noncomputable abbrev spBody (d : Nat) : Spec := spRD (fun L en (v : List Li) => .d (.sl (v.map (encL (placeOf L en))))) (bodyD d) 0 d
noncomputable abbrev spBodyB (d : Nat) : Spec := spRB (fun L en (v : List Li) => .d (.sl (v.map (encL (placeOf L en))))) (bodyB d) 0 d
theorem bodyD_eq (d : Nat) : bodyD d = manyF [44] 32 litStarts (litF d (bodyB d)) := by cases d <;> rfl
noncomputable def spRule (d : Nat) : Spec := rdSp fun rest L en dp a ts K => match rest with
  | [.d (.bool b)] => (dp = 64 - (d : Int) ∧ 0 ≤ dp) ∧ ∀ x, ruleF d b ts = x → RKk (fun (v : Ru) => aggD (encRu (placeOf L en) v)) L en dp (a + 1) x K
  | _ => False
theorem spRule_mono (d : Nat) : SpecMono (spRule d) := rdSp_mono fun rest L en dp a ts K K' hK h => by
  split at h
  · exact ⟨h.1, fun x hx => RKk_mono hK (h.2 x hx)⟩
  · exact h.elim
theorem idxW_lt {ts : Ts} : ∀ {ws : List Bs} {i k : Nat}, idxW ts i ws = some k → i ≤ k ∧ k < i + ws.length
  | [], i, k, h => by simp [idxW] at h
  | w :: ws, i, k, h => by
    rw [idxW] at h
    split at h
    · cases h; simp
    · have := idxW_lt h; simp only [List.length_cons]; omega
theorem litOp_none {ts : Ts} (h : idxW ts 0 relWords = none) : litOp ts = .err ts.length 150 := by rw [litOp, h]
theorem litOp_agg {ts : Ts} {j : Nat} (h : idxW ts 0 relWords = some 0) (h2 : idxW ts.tail 0 aggWords = some j) : litOp ts = .ok (9 + j) ts.tail.tail := by rw [litOp, h]; simp only [h2]
theorem litOp_eq {ts : Ts} (h : idxW ts 0 relWords = some 0) (h2 : idxW ts.tail 0 aggWords = none) : litOp ts = .ok 3 ts.tail := by rw [litOp, h]; simp only [h2]
theorem litOp_rel {ts : Ts} {k : Nat} (h : idxW ts 0 relWords = some (k + 1)) : litOp ts = .ok (3 + (k + 1)) ts.tail := by rw [litOp, h]; rfl
noncomputable def tblBody1 : Tbl := [(184, (spAsk startsF)), (86, spIs)]
theorem body1_ok (ht : TblOK (GG w0 nG) tblBody1) : PCalls (GG w0 nG) 186 (spAsk1 litStarts) := by
  refine pcalls tab_ok mixed (tbl := tblBody1) ht Tryz.func186 rfl (by kernel_rfl) (by kernel_rfl) ?_
  intro args σ K h
  unfold spAsk1 rdSp1 at h
  split at h
  · rename_i rest t0 t rows a en dp
    obtain ⟨L, ts, rfl, ho, h⟩ := h
    split at h
    · skip
      refine ⟨loopsOf [], 2, false, by simp, Nat.le_of_ble_eq_true rfl, ?_⟩
      conv => whnf
      refine ⟨L, ts, rfl, ho, fun b hb => ?_⟩
      cases b with
      | true =>
        conv => whnf
        exact h _ (by rw [litStarts, hb]; rfl)
      | false =>
        conv => whnf
        refine ⟨L, ts, rfl, ho, [[33]], rfl, by simp, fun b hw => ?_⟩
        conv => whnf
        exact h _ (by rw [litStarts, hb, hw]; rfl)
    · exact h.elim
  · exact h.elim
noncomputable def tblBody (d : Nat) : Tbl := [(185, spManyLi d)]
theorem body_ok {d : Nat} (ht : TblOK (GG w0 nG) (tblBody d)) : PCalls (GG w0 nG) 105 (spBody d) := by
  refine pcalls tab_ok mixed (tbl := tblBody d) ht Tryz.func105 rfl (by kernel_rfl) (by kernel_rfl) ?_
  intro args σ K h
  unfold spBody spRD rdSp at h
  split at h
  · rename_i rest t rows a en dp
    obtain ⟨L, ts, rfl, ho, h⟩ := h
    split at h
    · obtain ⟨hdp, h⟩ := h
      have h0 := ho.lo
      have h1 := ho.hi
      have h2 := ho.big
      refine ⟨loopsOf [], 1, false, by simp, Nat.le_of_ble_eq_true rfl, ?_⟩
      have h := h _ rfl
      rw [bodyD_eq] at h
      conv => whnf
      refine ⟨⟨rfl, rfl, rfl, rfl, hdp⟩, L, ts, rfl, ho, fun x hx1 => ?_⟩
      rcases x with ⟨v1, ts1⟩ | ⟨r1, e1⟩
      rotate_left
      · rw [hx1] at h; intro a9 d9; (conv => whnf); exact h _ _
      rw [hx1] at h
      intro a1 hle1 ho1
      have hb1 := ho1.hi
      conv => whnf
      exact h _ (by omega) ho1
    · exact h.elim
  · exact h.elim
noncomputable def tblLit1 (d : Nat) : Tbl := [(105, spBodyB d)]
noncomputable def tblLitW (d : Nat) : Tbl := [(86, spIs), (93, spMust), (85, spFail), (247, spIn Tryz.f247 (tblLit1 d))]
noncomputable def tblLit (d : Nat) : Tbl := [(91, spPlace), (104, spTake), (166, spMore), (95, spAsk namedF), (92, spNameP), (103, spArgs d), (47, spExpr d), (244, spIdx), (85, spFail), (93, spMust), (171, spIn Tryz.f171 (tblLitW d))]
theorem lit_ok {d : Nat} (ht : TblOK (GG w0 nG) (tblLit d)) : PCalls (GG w0 nG) 187 (spLit d) := by
  refine pcallsB tab_ok mixed (tbl := tblLit d) ht Tryz.func187 rfl (by kernel_rfl) (by kernel_rfl) ?_
  intro args σ K h
  unfold spLit spRD rdSp at h
  split at h
  · rename_i rest t rows a en dp
    obtain ⟨L, ts, rfl, ho, h⟩ := h
    split at h
    · obtain ⟨hdp, h⟩ := h
      have h0 := ho.lo
      have h1 := ho.hi
      have h2 := ho.big
      refine ⟨loopsOf [], unrOf [], tieOf [], tieOf [50], tieOf [], 1, false, by simp, Nat.le_of_ble_eq_true rfl, ?_⟩
      have h := h _ rfl
      rw [litF] at h
      conv => whnf
      refine ⟨L, ts, rfl, ho, ?_⟩
      conv => whnf
      refine ⟨L, ts, rfl, ho, [[33]], rfl, by simp, fun hw1 ho1 => ?_, fun hw1 => ?_⟩
      · rw [if_pos hw1] at h
        have hb1 := ho1.hi
        conv => whnf
        refine ⟨L, ts.tail, rfl, ho1, fun fin => Or.inr ⟨rfl, ?_⟩⟩
        conv => whnf
        rw [litAtom] at h
        refine ⟨L, ts.tail, rfl, ho1, fun x hx11 => ?_⟩
        rcases x with ⟨v11, ts11⟩ | ⟨r11, e11⟩
        rotate_left
        · rw [hx11, R.bind_err] at h; intro a9 d9; (conv => whnf); exact h _ _
        rw [hx11, R.bind_ok] at h
        intro a11 hle11 ho11
        have hb11 := ho11.hi
        conv => whnf
        refine ⟨L, ts11, rfl, ho11, ⟨hdp, by simp⟩, fun x hx12 => ?_⟩
        rcases x with ⟨v12, ts12⟩ | ⟨r12, e12⟩
        rotate_left
        · rw [hx12, R.bind_err] at h; intro a9 d9; (conv => whnf); exact h _ _
        rw [hx12, R.bind_ok] at h
        intro a12 hle12 ho12
        have hb12 := ho12.hi
        conv => whnf
        rw [← encEs_eq]
        exact h _ (by omega) ho12
      · rw [if_neg (by rw [hw1]; simp)] at h
        conv => whnf
        refine ⟨L, ts, rfl, ho, fun fin => Or.inr ⟨rfl, ?_⟩⟩
        conv => whnf
        refine ⟨L, ts, rfl, ho, fun b hn => ?_⟩
        cases b with
        | false =>
          rw [if_neg (by rw [hn]; simp)] at h
          conv => whnf
          rw [litRel] at h
          refine ⟨L, ts, rfl, ho, hdp, fun x hx2 => ?_⟩
          rcases x with ⟨v2, ts2⟩ | ⟨r2, e2⟩
          rotate_left
          · rw [hx2, R.bind_err] at h; intro a9 d9; (conv => whnf); exact h _ _
          rw [hx2, R.bind_ok] at h
          intro a2 hle2 ho2
          have hb2 := ho2.hi
          obtain ⟨v2a, v2b, v2c, v2d, v2e⟩ := v2
          conv => whnf
          refine ⟨L, ts2, relWords, rfl, ho2, Or.inl ⟨rfl, rfl⟩, rfl, rfl, fun j hj ho3 => ?_, fun hj => ?_⟩
          · have hjl := idxW_lt hj
            have hjl2 : j < 6 := by simpa [relWords] using hjl.2
            have hb3 := ho3.hi
            clear hjl
            rcases j with _ | j
            · conv => whnf
              refine Or.inl ⟨InR.u8 (by omega) (by omega), ?_⟩
              conv => whnf
              refine Or.inl ⟨InR.u8 (by omega) (by omega), ?_⟩
              conv => whnf
              refine ⟨L, ts2.tail, aggWords, rfl, ho3, Or.inr ⟨rfl, rfl⟩, rfl, rfl, fun m hm ho4 => ?_, fun hm => ?_⟩
              · rw [litOp_agg hj hm, R.bind_ok] at h
                have hml := idxW_lt hm
                have hml2 : m < 4 := by simpa [aggWords] using hml.2
                have hb4 := ho4.hi
                clear hml
                rcases m with _ | m
                · conv => whnf
                  refine Or.inl ⟨InR.u8 (by omega) (by omega), ?_⟩
                  conv => whnf
                  refine Or.inl ⟨InR.u8 (by omega) (by omega), ?_⟩
                  conv => whnf
                  rw [if_pos rfl] at h
                  rw [litEnd, if_pos (by omega)] at h
                  refine ⟨L, ts2.tail.tail, rfl, ho4, fun x hx6 => ?_⟩
                  rcases x with ⟨v6, ts6⟩ | ⟨r6, e6⟩
                  rotate_left
                  · rw [hx6, R.bind_err] at h; intro a9 d9; (conv => whnf); exact h _ _
                  rw [hx6, R.bind_ok] at h
                  intro a6 hle6 ho6
                  have hb6 := ho6.hi
                  conv => whnf
                  refine ⟨_, fun _ _ h => h, Nat.le_of_ble_eq_true rfl, ?_⟩
                  conv => whnf
                  refine ⟨L, ts6, rfl, ho6, [[123]], rfl, by simp, fun b hw7 => ?_⟩
                  cases b with
                  | false =>
                    rw [withinF, if_neg (by rw [hw7]; simp), R.bind_err] at h
                    conv => whnf
                    refine ⟨L, ts6, rfl, ho6, fun x hx => ?_⟩
                    rw [mustF, if_neg (by rw [hw7]; simp)] at hx
                    subst hx
                    intro a9 d9
                    conv => whnf
                    exact h _ _
                  | true =>
                    rw [withinF, if_pos hw7] at h
                    conv => whnf
                    refine CondP.dec (fun hc => ?_) (fun hc => ?_)
                    · rw [if_pos (by omega), R.bind_err] at h
                      conv => whnf
                      refine ⟨L, ts6, rfl, ho6, ?_⟩
                      conv => whnf
                      exact h _ _
                    · rw [if_neg (by omega)] at h
                      conv => whnf
                      refine ⟨L, ts6, rfl, ho6, fun x hx => ?_⟩
                      rw [mustF, if_pos hw7] at hx
                      subst hx
                      intro a7 hle7 ho7
                      have hb7 := ho7.hi
                      conv => whnf
                      refine Or.inl ⟨InR.i64 (by omega) (by omega), ?_⟩
                      conv => whnf
                      refine ⟨_, fun _ _ h => h, Nat.le_of_ble_eq_true rfl, ?_⟩
                      conv => whnf
                      refine ⟨L, ts6.tail, rfl, ho7, ⟨by omega, by omega, by omega⟩, fun x hx8 => ?_⟩
                      rcases x with ⟨v8, ts8⟩ | ⟨r8, e8⟩
                      rotate_left
                      · rw [hx8, R.bind_err] at h; intro a9 d9; (conv => whnf); exact h _ _
                      rw [hx8, R.bind_ok] at h
                      intro a8 hle8 ho8
                      have hb8 := ho8.hi
                      conv => whnf
                      rw [if_neg (by simp)] at h
                      refine ⟨L, ts8, rfl, ho8, fun x hx9 => ?_⟩
                      rcases x with ⟨v9, ts9⟩ | ⟨r9, e9⟩
                      rotate_left
                      · rw [hx9, R.bind_err, R.bind_err] at h; intro a9 d9; (conv => whnf); exact h _ _
                      rw [hx9, R.bind_ok, R.bind_ok] at h
                      intro a9 hle9 ho9
                      have hb9 := ho9.hi
                      conv => whnf
                      refine Or.inl ⟨InR.i64 (by omega) (by omega), ?_⟩
                      conv => whnf
                      rw [Int.add_sub_cancel]
                      rw [← encLs_eq]
                      exact h _ (by omega) ho9
                conv => whnf
                refine Or.inl ⟨InR.u8 (by omega) (by omega), ?_⟩
                conv => whnf
                refine Or.inl ⟨InR.u8 (by omega) (by omega), ?_⟩
                conv => whnf
                refine CondP.ndec (fun _ => ?_) (fun g => absurd g (by omega))
                conv => whnf
                rw [if_neg (by omega)] at h
                refine ⟨L, ts2.tail.tail, rfl, ho4, hdp, fun x hx5 => ?_⟩
                rcases x with ⟨v5, ts5⟩ | ⟨r5, e5⟩
                rotate_left
                · rw [hx5, R.bind_err] at h; intro a9 d9; (conv => whnf); exact h _ _
                rw [hx5, R.bind_ok] at h
                intro a5 hle5 ho5
                have hb5 := ho5.hi
                obtain ⟨v5a, v5b, v5c, v5d, v5e⟩ := v5
                conv => whnf
                refine ⟨rfl, rfl, Nat.le_of_ble_eq_true rfl, Nat.le_of_ble_eq_true rfl, ?_⟩
                conv => whnf
                repeat (refine ⟨rfl, ?_⟩; conv => whnf)
                refine CondP.dec (fun _ => ?_) (fun g => absurd g (by omega))
                conv => whnf
                rw [litEnd, if_pos (by omega)] at h
                refine ⟨L, ts5, rfl, ho5, fun x hx6 => ?_⟩
                rcases x with ⟨v6, ts6⟩ | ⟨r6, e6⟩
                rotate_left
                · rw [hx6, R.bind_err] at h; intro a9 d9; (conv => whnf); exact h _ _
                rw [hx6, R.bind_ok] at h
                intro a6 hle6 ho6
                have hb6 := ho6.hi
                conv => whnf
                refine ⟨_, fun _ _ h => h, Nat.le_of_ble_eq_true rfl, ?_⟩
                conv => whnf
                refine ⟨L, ts6, rfl, ho6, [[123]], rfl, by simp, fun b hw7 => ?_⟩
                cases b with
                | false =>
                  rw [withinF, if_neg (by rw [hw7]; simp), R.bind_err] at h
                  conv => whnf
                  refine ⟨L, ts6, rfl, ho6, fun x hx => ?_⟩
                  rw [mustF, if_neg (by rw [hw7]; simp)] at hx
                  subst hx
                  intro a9 d9
                  conv => whnf
                  exact h _ _
                | true =>
                  rw [withinF, if_pos hw7] at h
                  conv => whnf
                  refine CondP.dec (fun hc => ?_) (fun hc => ?_)
                  · rw [if_pos (by omega), R.bind_err] at h
                    conv => whnf
                    refine ⟨L, ts6, rfl, ho6, ?_⟩
                    conv => whnf
                    exact h _ _
                  · rw [if_neg (by omega)] at h
                    conv => whnf
                    refine ⟨L, ts6, rfl, ho6, fun x hx => ?_⟩
                    rw [mustF, if_pos hw7] at hx
                    subst hx
                    intro a7 hle7 ho7
                    have hb7 := ho7.hi
                    conv => whnf
                    refine Or.inl ⟨InR.i64 (by omega) (by omega), ?_⟩
                    conv => whnf
                    refine ⟨_, fun _ _ h => h, Nat.le_of_ble_eq_true rfl, ?_⟩
                    conv => whnf
                    refine ⟨L, ts6.tail, rfl, ho7, ⟨by omega, by omega, by omega⟩, fun x hx8 => ?_⟩
                    rcases x with ⟨v8, ts8⟩ | ⟨r8, e8⟩
                    rotate_left
                    · rw [hx8, R.bind_err] at h; intro a9 d9; (conv => whnf); exact h _ _
                    rw [hx8, R.bind_ok] at h
                    intro a8 hle8 ho8
                    have hb8 := ho8.hi
                    conv => whnf
                    rw [if_neg (by simp)] at h
                    refine ⟨L, ts8, rfl, ho8, fun x hx9 => ?_⟩
                    rcases x with ⟨v9, ts9⟩ | ⟨r9, e9⟩
                    rotate_left
                    · rw [hx9, R.bind_err, R.bind_err] at h; intro a9 d9; (conv => whnf); exact h _ _
                    rw [hx9, R.bind_ok, R.bind_ok] at h
                    intro a9 hle9 ho9
                    have hb9 := ho9.hi
                    conv => whnf
                    refine Or.inl ⟨InR.i64 (by omega) (by omega), ?_⟩
                    conv => whnf
                    rw [Int.add_sub_cancel]
                    rw [← encLs_eq]
                    exact h _ (by omega) ho9
              rw [litOp_eq hj hm, R.bind_ok] at h
              conv => whnf
              rw [if_neg (by omega)] at h
              refine ⟨L, ts2.tail, rfl, ho3, hdp, fun x hx5 => ?_⟩
              rcases x with ⟨v5, ts5⟩ | ⟨r5, e5⟩
              rotate_left
              · rw [hx5, R.bind_err] at h; intro a9 d9; (conv => whnf); exact h _ _
              rw [hx5, R.bind_ok] at h
              intro a5 hle5 ho5
              have hb5 := ho5.hi
              obtain ⟨v5a, v5b, v5c, v5d, v5e⟩ := v5
              conv => whnf
              refine ⟨rfl, rfl, Nat.le_of_ble_eq_true rfl, Nat.le_of_ble_eq_true rfl, ?_⟩
              conv => whnf
              repeat (refine ⟨rfl, ?_⟩; conv => whnf)
              rw [litEnd, if_neg (by omega)] at h
              exact h _ (by omega) ho5
            rw [litOp_rel hj, R.bind_ok] at h
            conv => whnf
            refine Or.inl ⟨InR.u8 (by omega) (by omega), ?_⟩
            conv => whnf
            refine Or.inl ⟨InR.u8 (by omega) (by omega), ?_⟩
            conv => whnf
            refine CondP.dec (fun g => absurd g (by omega)) (fun _ => ?_)
            conv => whnf
            refine CondP.ndec (fun _ => ?_) (fun g => absurd g (by omega))
            conv => whnf
            rw [if_neg (by omega)] at h
            refine ⟨L, ts2.tail, rfl, ho3, hdp, fun x hx5 => ?_⟩
            rcases x with ⟨v5, ts5⟩ | ⟨r5, e5⟩
            rotate_left
            · rw [hx5, R.bind_err] at h; intro a9 d9; (conv => whnf); exact h _ _
            rw [hx5, R.bind_ok] at h
            intro a5 hle5 ho5
            have hb5 := ho5.hi
            obtain ⟨v5a, v5b, v5c, v5d, v5e⟩ := v5
            conv => whnf
            refine ⟨rfl, rfl, Nat.le_of_ble_eq_true rfl, Nat.le_of_ble_eq_true rfl, ?_⟩
            conv => whnf
            repeat (refine ⟨rfl, ?_⟩; conv => whnf)
            refine CondP.dec (fun g => absurd g (by omega)) (fun _ => ?_)
            conv => whnf
            rw [litEnd, if_neg (by omega)] at h
            exact h _ (by omega) ho5
          conv => whnf
          refine ⟨L, ts2, rfl, ho2, ?_⟩
          conv => whnf
          rw [litOp_none hj, R.bind_err] at h
          exact h _ _
        | true =>
          conv => whnf
          refine CondP.dec (fun hc => ?_) (fun hc => ?_)
          · conv => whnf
            refine CondP.dec (fun hc2 => ?_) (fun hc2 => ?_)
            · rw [if_pos ⟨hn, by omega, hc2⟩] at h
              conv => whnf
              rw [litAtom] at h
              refine ⟨L, ts, rfl, ho, fun x hx11 => ?_⟩
              rcases x with ⟨v11, ts11⟩ | ⟨r11, e11⟩
              rotate_left
              · rw [hx11, R.bind_err] at h; intro a9 d9; (conv => whnf); exact h _ _
              rw [hx11, R.bind_ok] at h
              intro a11 hle11 ho11
              have hb11 := ho11.hi
              conv => whnf
              refine ⟨L, ts11, rfl, ho11, ⟨hdp, by simp⟩, fun x hx12 => ?_⟩
              rcases x with ⟨v12, ts12⟩ | ⟨r12, e12⟩
              rotate_left
              · rw [hx12, R.bind_err] at h; intro a9 d9; (conv => whnf); exact h _ _
              rw [hx12, R.bind_ok] at h
              intro a12 hle12 ho12
              have hb12 := ho12.hi
              conv => whnf
              rw [← encEs_eq]
              exact h _ (by omega) ho12
            · rw [if_neg (fun g => hc2 g.2.2)] at h
              conv => whnf
              rw [litRel] at h
              refine ⟨L, ts, rfl, ho, hdp, fun x hx2 => ?_⟩
              rcases x with ⟨v2, ts2⟩ | ⟨r2, e2⟩
              rotate_left
              · rw [hx2, R.bind_err] at h; intro a9 d9; (conv => whnf); exact h _ _
              rw [hx2, R.bind_ok] at h
              intro a2 hle2 ho2
              have hb2 := ho2.hi
              obtain ⟨v2a, v2b, v2c, v2d, v2e⟩ := v2
              conv => whnf
              refine ⟨L, ts2, relWords, rfl, ho2, Or.inl ⟨rfl, rfl⟩, rfl, rfl, fun j hj ho3 => ?_, fun hj => ?_⟩
              · have hjl := idxW_lt hj
                have hjl2 : j < 6 := by simpa [relWords] using hjl.2
                have hb3 := ho3.hi
                clear hjl
                rcases j with _ | j
                · conv => whnf
                  refine Or.inl ⟨InR.u8 (by omega) (by omega), ?_⟩
                  conv => whnf
                  refine Or.inl ⟨InR.u8 (by omega) (by omega), ?_⟩
                  conv => whnf
                  refine ⟨L, ts2.tail, aggWords, rfl, ho3, Or.inr ⟨rfl, rfl⟩, rfl, rfl, fun m hm ho4 => ?_, fun hm => ?_⟩
                  · rw [litOp_agg hj hm, R.bind_ok] at h
                    have hml := idxW_lt hm
                    have hml2 : m < 4 := by simpa [aggWords] using hml.2
                    have hb4 := ho4.hi
                    clear hml
                    rcases m with _ | m
                    · conv => whnf
                      refine Or.inl ⟨InR.u8 (by omega) (by omega), ?_⟩
                      conv => whnf
                      refine Or.inl ⟨InR.u8 (by omega) (by omega), ?_⟩
                      conv => whnf
                      rw [if_pos rfl] at h
                      rw [litEnd, if_pos (by omega)] at h
                      refine ⟨L, ts2.tail.tail, rfl, ho4, fun x hx6 => ?_⟩
                      rcases x with ⟨v6, ts6⟩ | ⟨r6, e6⟩
                      rotate_left
                      · rw [hx6, R.bind_err] at h; intro a9 d9; (conv => whnf); exact h _ _
                      rw [hx6, R.bind_ok] at h
                      intro a6 hle6 ho6
                      have hb6 := ho6.hi
                      conv => whnf
                      refine ⟨_, fun _ _ h => h, Nat.le_of_ble_eq_true rfl, ?_⟩
                      conv => whnf
                      refine ⟨L, ts6, rfl, ho6, [[123]], rfl, by simp, fun b hw7 => ?_⟩
                      cases b with
                      | false =>
                        rw [withinF, if_neg (by rw [hw7]; simp), R.bind_err] at h
                        conv => whnf
                        refine ⟨L, ts6, rfl, ho6, fun x hx => ?_⟩
                        rw [mustF, if_neg (by rw [hw7]; simp)] at hx
                        subst hx
                        intro a9 d9
                        conv => whnf
                        exact h _ _
                      | true =>
                        rw [withinF, if_pos hw7] at h
                        conv => whnf
                        refine CondP.dec (fun hc => ?_) (fun hc => ?_)
                        · rw [if_pos (by omega), R.bind_err] at h
                          conv => whnf
                          refine ⟨L, ts6, rfl, ho6, ?_⟩
                          conv => whnf
                          exact h _ _
                        · rw [if_neg (by omega)] at h
                          conv => whnf
                          refine ⟨L, ts6, rfl, ho6, fun x hx => ?_⟩
                          rw [mustF, if_pos hw7] at hx
                          subst hx
                          intro a7 hle7 ho7
                          have hb7 := ho7.hi
                          conv => whnf
                          refine Or.inl ⟨InR.i64 (by omega) (by omega), ?_⟩
                          conv => whnf
                          refine ⟨_, fun _ _ h => h, Nat.le_of_ble_eq_true rfl, ?_⟩
                          conv => whnf
                          refine ⟨L, ts6.tail, rfl, ho7, ⟨by omega, by omega, by omega⟩, fun x hx8 => ?_⟩
                          rcases x with ⟨v8, ts8⟩ | ⟨r8, e8⟩
                          rotate_left
                          · rw [hx8, R.bind_err] at h; intro a9 d9; (conv => whnf); exact h _ _
                          rw [hx8, R.bind_ok] at h
                          intro a8 hle8 ho8
                          have hb8 := ho8.hi
                          conv => whnf
                          rw [if_neg (by simp)] at h
                          refine ⟨L, ts8, rfl, ho8, fun x hx9 => ?_⟩
                          rcases x with ⟨v9, ts9⟩ | ⟨r9, e9⟩
                          rotate_left
                          · rw [hx9, R.bind_err, R.bind_err] at h; intro a9 d9; (conv => whnf); exact h _ _
                          rw [hx9, R.bind_ok, R.bind_ok] at h
                          intro a9 hle9 ho9
                          have hb9 := ho9.hi
                          conv => whnf
                          refine Or.inl ⟨InR.i64 (by omega) (by omega), ?_⟩
                          conv => whnf
                          rw [Int.add_sub_cancel]
                          rw [← encLs_eq]
                          exact h _ (by omega) ho9
                    conv => whnf
                    refine Or.inl ⟨InR.u8 (by omega) (by omega), ?_⟩
                    conv => whnf
                    refine Or.inl ⟨InR.u8 (by omega) (by omega), ?_⟩
                    conv => whnf
                    refine CondP.ndec (fun _ => ?_) (fun g => absurd g (by omega))
                    conv => whnf
                    rw [if_neg (by omega)] at h
                    refine ⟨L, ts2.tail.tail, rfl, ho4, hdp, fun x hx5 => ?_⟩
                    rcases x with ⟨v5, ts5⟩ | ⟨r5, e5⟩
                    rotate_left
                    · rw [hx5, R.bind_err] at h; intro a9 d9; (conv => whnf); exact h _ _
                    rw [hx5, R.bind_ok] at h
                    intro a5 hle5 ho5
                    have hb5 := ho5.hi
                    obtain ⟨v5a, v5b, v5c, v5d, v5e⟩ := v5
                    conv => whnf
                    refine ⟨rfl, rfl, Nat.le_of_ble_eq_true rfl, Nat.le_of_ble_eq_true rfl, ?_⟩
                    conv => whnf
                    repeat (refine ⟨rfl, ?_⟩; conv => whnf)
                    refine CondP.dec (fun _ => ?_) (fun g => absurd g (by omega))
                    conv => whnf
                    rw [litEnd, if_pos (by omega)] at h
                    refine ⟨L, ts5, rfl, ho5, fun x hx6 => ?_⟩
                    rcases x with ⟨v6, ts6⟩ | ⟨r6, e6⟩
                    rotate_left
                    · rw [hx6, R.bind_err] at h; intro a9 d9; (conv => whnf); exact h _ _
                    rw [hx6, R.bind_ok] at h
                    intro a6 hle6 ho6
                    have hb6 := ho6.hi
                    conv => whnf
                    refine ⟨_, fun _ _ h => h, Nat.le_of_ble_eq_true rfl, ?_⟩
                    conv => whnf
                    refine ⟨L, ts6, rfl, ho6, [[123]], rfl, by simp, fun b hw7 => ?_⟩
                    cases b with
                    | false =>
                      rw [withinF, if_neg (by rw [hw7]; simp), R.bind_err] at h
                      conv => whnf
                      refine ⟨L, ts6, rfl, ho6, fun x hx => ?_⟩
                      rw [mustF, if_neg (by rw [hw7]; simp)] at hx
                      subst hx
                      intro a9 d9
                      conv => whnf
                      exact h _ _
                    | true =>
                      rw [withinF, if_pos hw7] at h
                      conv => whnf
                      refine CondP.dec (fun hc => ?_) (fun hc => ?_)
                      · rw [if_pos (by omega), R.bind_err] at h
                        conv => whnf
                        refine ⟨L, ts6, rfl, ho6, ?_⟩
                        conv => whnf
                        exact h _ _
                      · rw [if_neg (by omega)] at h
                        conv => whnf
                        refine ⟨L, ts6, rfl, ho6, fun x hx => ?_⟩
                        rw [mustF, if_pos hw7] at hx
                        subst hx
                        intro a7 hle7 ho7
                        have hb7 := ho7.hi
                        conv => whnf
                        refine Or.inl ⟨InR.i64 (by omega) (by omega), ?_⟩
                        conv => whnf
                        refine ⟨_, fun _ _ h => h, Nat.le_of_ble_eq_true rfl, ?_⟩
                        conv => whnf
                        refine ⟨L, ts6.tail, rfl, ho7, ⟨by omega, by omega, by omega⟩, fun x hx8 => ?_⟩
                        rcases x with ⟨v8, ts8⟩ | ⟨r8, e8⟩
                        rotate_left
                        · rw [hx8, R.bind_err] at h; intro a9 d9; (conv => whnf); exact h _ _
                        rw [hx8, R.bind_ok] at h
                        intro a8 hle8 ho8
                        have hb8 := ho8.hi
                        conv => whnf
                        rw [if_neg (by simp)] at h
                        refine ⟨L, ts8, rfl, ho8, fun x hx9 => ?_⟩
                        rcases x with ⟨v9, ts9⟩ | ⟨r9, e9⟩
                        rotate_left
                        · rw [hx9, R.bind_err, R.bind_err] at h; intro a9 d9; (conv => whnf); exact h _ _
                        rw [hx9, R.bind_ok, R.bind_ok] at h
                        intro a9 hle9 ho9
                        have hb9 := ho9.hi
                        conv => whnf
                        refine Or.inl ⟨InR.i64 (by omega) (by omega), ?_⟩
                        conv => whnf
                        rw [Int.add_sub_cancel]
                        rw [← encLs_eq]
                        exact h _ (by omega) ho9
                  rw [litOp_eq hj hm, R.bind_ok] at h
                  conv => whnf
                  rw [if_neg (by omega)] at h
                  refine ⟨L, ts2.tail, rfl, ho3, hdp, fun x hx5 => ?_⟩
                  rcases x with ⟨v5, ts5⟩ | ⟨r5, e5⟩
                  rotate_left
                  · rw [hx5, R.bind_err] at h; intro a9 d9; (conv => whnf); exact h _ _
                  rw [hx5, R.bind_ok] at h
                  intro a5 hle5 ho5
                  have hb5 := ho5.hi
                  obtain ⟨v5a, v5b, v5c, v5d, v5e⟩ := v5
                  conv => whnf
                  refine ⟨rfl, rfl, Nat.le_of_ble_eq_true rfl, Nat.le_of_ble_eq_true rfl, ?_⟩
                  conv => whnf
                  repeat (refine ⟨rfl, ?_⟩; conv => whnf)
                  rw [litEnd, if_neg (by omega)] at h
                  exact h _ (by omega) ho5
                rw [litOp_rel hj, R.bind_ok] at h
                conv => whnf
                refine Or.inl ⟨InR.u8 (by omega) (by omega), ?_⟩
                conv => whnf
                refine Or.inl ⟨InR.u8 (by omega) (by omega), ?_⟩
                conv => whnf
                refine CondP.dec (fun g => absurd g (by omega)) (fun _ => ?_)
                conv => whnf
                refine CondP.ndec (fun _ => ?_) (fun g => absurd g (by omega))
                conv => whnf
                rw [if_neg (by omega)] at h
                refine ⟨L, ts2.tail, rfl, ho3, hdp, fun x hx5 => ?_⟩
                rcases x with ⟨v5, ts5⟩ | ⟨r5, e5⟩
                rotate_left
                · rw [hx5, R.bind_err] at h; intro a9 d9; (conv => whnf); exact h _ _
                rw [hx5, R.bind_ok] at h
                intro a5 hle5 ho5
                have hb5 := ho5.hi
                obtain ⟨v5a, v5b, v5c, v5d, v5e⟩ := v5
                conv => whnf
                refine ⟨rfl, rfl, Nat.le_of_ble_eq_true rfl, Nat.le_of_ble_eq_true rfl, ?_⟩
                conv => whnf
                repeat (refine ⟨rfl, ?_⟩; conv => whnf)
                refine CondP.dec (fun g => absurd g (by omega)) (fun _ => ?_)
                conv => whnf
                rw [litEnd, if_neg (by omega)] at h
                exact h _ (by omega) ho5
              conv => whnf
              refine ⟨L, ts2, rfl, ho2, ?_⟩
              conv => whnf
              rw [litOp_none hj, R.bind_err] at h
              exact h _ _
          · rw [if_neg (fun g => hc (by have := g.2.1; omega))] at h
            conv => whnf
            rw [litRel] at h
            refine ⟨L, ts, rfl, ho, hdp, fun x hx2 => ?_⟩
            rcases x with ⟨v2, ts2⟩ | ⟨r2, e2⟩
            rotate_left
            · rw [hx2, R.bind_err] at h; intro a9 d9; (conv => whnf); exact h _ _
            rw [hx2, R.bind_ok] at h
            intro a2 hle2 ho2
            have hb2 := ho2.hi
            obtain ⟨v2a, v2b, v2c, v2d, v2e⟩ := v2
            conv => whnf
            refine ⟨L, ts2, relWords, rfl, ho2, Or.inl ⟨rfl, rfl⟩, rfl, rfl, fun j hj ho3 => ?_, fun hj => ?_⟩
            · have hjl := idxW_lt hj
              have hjl2 : j < 6 := by simpa [relWords] using hjl.2
              have hb3 := ho3.hi
              clear hjl
              rcases j with _ | j
              · conv => whnf
                refine Or.inl ⟨InR.u8 (by omega) (by omega), ?_⟩
                conv => whnf
                refine Or.inl ⟨InR.u8 (by omega) (by omega), ?_⟩
                conv => whnf
                refine ⟨L, ts2.tail, aggWords, rfl, ho3, Or.inr ⟨rfl, rfl⟩, rfl, rfl, fun m hm ho4 => ?_, fun hm => ?_⟩
                · rw [litOp_agg hj hm, R.bind_ok] at h
                  have hml := idxW_lt hm
                  have hml2 : m < 4 := by simpa [aggWords] using hml.2
                  have hb4 := ho4.hi
                  clear hml
                  rcases m with _ | m
                  · conv => whnf
                    refine Or.inl ⟨InR.u8 (by omega) (by omega), ?_⟩
                    conv => whnf
                    refine Or.inl ⟨InR.u8 (by omega) (by omega), ?_⟩
                    conv => whnf
                    rw [if_pos rfl] at h
                    rw [litEnd, if_pos (by omega)] at h
                    refine ⟨L, ts2.tail.tail, rfl, ho4, fun x hx6 => ?_⟩
                    rcases x with ⟨v6, ts6⟩ | ⟨r6, e6⟩
                    rotate_left
                    · rw [hx6, R.bind_err] at h; intro a9 d9; (conv => whnf); exact h _ _
                    rw [hx6, R.bind_ok] at h
                    intro a6 hle6 ho6
                    have hb6 := ho6.hi
                    conv => whnf
                    refine ⟨_, fun _ _ h => h, Nat.le_of_ble_eq_true rfl, ?_⟩
                    conv => whnf
                    refine ⟨L, ts6, rfl, ho6, [[123]], rfl, by simp, fun b hw7 => ?_⟩
                    cases b with
                    | false =>
                      rw [withinF, if_neg (by rw [hw7]; simp), R.bind_err] at h
                      conv => whnf
                      refine ⟨L, ts6, rfl, ho6, fun x hx => ?_⟩
                      rw [mustF, if_neg (by rw [hw7]; simp)] at hx
                      subst hx
                      intro a9 d9
                      conv => whnf
                      exact h _ _
                    | true =>
                      rw [withinF, if_pos hw7] at h
                      conv => whnf
                      refine CondP.dec (fun hc => ?_) (fun hc => ?_)
                      · rw [if_pos (by omega), R.bind_err] at h
                        conv => whnf
                        refine ⟨L, ts6, rfl, ho6, ?_⟩
                        conv => whnf
                        exact h _ _
                      · rw [if_neg (by omega)] at h
                        conv => whnf
                        refine ⟨L, ts6, rfl, ho6, fun x hx => ?_⟩
                        rw [mustF, if_pos hw7] at hx
                        subst hx
                        intro a7 hle7 ho7
                        have hb7 := ho7.hi
                        conv => whnf
                        refine Or.inl ⟨InR.i64 (by omega) (by omega), ?_⟩
                        conv => whnf
                        refine ⟨_, fun _ _ h => h, Nat.le_of_ble_eq_true rfl, ?_⟩
                        conv => whnf
                        refine ⟨L, ts6.tail, rfl, ho7, ⟨by omega, by omega, by omega⟩, fun x hx8 => ?_⟩
                        rcases x with ⟨v8, ts8⟩ | ⟨r8, e8⟩
                        rotate_left
                        · rw [hx8, R.bind_err] at h; intro a9 d9; (conv => whnf); exact h _ _
                        rw [hx8, R.bind_ok] at h
                        intro a8 hle8 ho8
                        have hb8 := ho8.hi
                        conv => whnf
                        rw [if_neg (by simp)] at h
                        refine ⟨L, ts8, rfl, ho8, fun x hx9 => ?_⟩
                        rcases x with ⟨v9, ts9⟩ | ⟨r9, e9⟩
                        rotate_left
                        · rw [hx9, R.bind_err, R.bind_err] at h; intro a9 d9; (conv => whnf); exact h _ _
                        rw [hx9, R.bind_ok, R.bind_ok] at h
                        intro a9 hle9 ho9
                        have hb9 := ho9.hi
                        conv => whnf
                        refine Or.inl ⟨InR.i64 (by omega) (by omega), ?_⟩
                        conv => whnf
                        rw [Int.add_sub_cancel]
                        rw [← encLs_eq]
                        exact h _ (by omega) ho9
                  conv => whnf
                  refine Or.inl ⟨InR.u8 (by omega) (by omega), ?_⟩
                  conv => whnf
                  refine Or.inl ⟨InR.u8 (by omega) (by omega), ?_⟩
                  conv => whnf
                  refine CondP.ndec (fun _ => ?_) (fun g => absurd g (by omega))
                  conv => whnf
                  rw [if_neg (by omega)] at h
                  refine ⟨L, ts2.tail.tail, rfl, ho4, hdp, fun x hx5 => ?_⟩
                  rcases x with ⟨v5, ts5⟩ | ⟨r5, e5⟩
                  rotate_left
                  · rw [hx5, R.bind_err] at h; intro a9 d9; (conv => whnf); exact h _ _
                  rw [hx5, R.bind_ok] at h
                  intro a5 hle5 ho5
                  have hb5 := ho5.hi
                  obtain ⟨v5a, v5b, v5c, v5d, v5e⟩ := v5
                  conv => whnf
                  refine ⟨rfl, rfl, Nat.le_of_ble_eq_true rfl, Nat.le_of_ble_eq_true rfl, ?_⟩
                  conv => whnf
                  repeat (refine ⟨rfl, ?_⟩; conv => whnf)
                  refine CondP.dec (fun _ => ?_) (fun g => absurd g (by omega))
                  conv => whnf
                  rw [litEnd, if_pos (by omega)] at h
                  refine ⟨L, ts5, rfl, ho5, fun x hx6 => ?_⟩
                  rcases x with ⟨v6, ts6⟩ | ⟨r6, e6⟩
                  rotate_left
                  · rw [hx6, R.bind_err] at h; intro a9 d9; (conv => whnf); exact h _ _
                  rw [hx6, R.bind_ok] at h
                  intro a6 hle6 ho6
                  have hb6 := ho6.hi
                  conv => whnf
                  refine ⟨_, fun _ _ h => h, Nat.le_of_ble_eq_true rfl, ?_⟩
                  conv => whnf
                  refine ⟨L, ts6, rfl, ho6, [[123]], rfl, by simp, fun b hw7 => ?_⟩
                  cases b with
                  | false =>
                    rw [withinF, if_neg (by rw [hw7]; simp), R.bind_err] at h
                    conv => whnf
                    refine ⟨L, ts6, rfl, ho6, fun x hx => ?_⟩
                    rw [mustF, if_neg (by rw [hw7]; simp)] at hx
                    subst hx
                    intro a9 d9
                    conv => whnf
                    exact h _ _
                  | true =>
                    rw [withinF, if_pos hw7] at h
                    conv => whnf
                    refine CondP.dec (fun hc => ?_) (fun hc => ?_)
                    · rw [if_pos (by omega), R.bind_err] at h
                      conv => whnf
                      refine ⟨L, ts6, rfl, ho6, ?_⟩
                      conv => whnf
                      exact h _ _
                    · rw [if_neg (by omega)] at h
                      conv => whnf
                      refine ⟨L, ts6, rfl, ho6, fun x hx => ?_⟩
                      rw [mustF, if_pos hw7] at hx
                      subst hx
                      intro a7 hle7 ho7
                      have hb7 := ho7.hi
                      conv => whnf
                      refine Or.inl ⟨InR.i64 (by omega) (by omega), ?_⟩
                      conv => whnf
                      refine ⟨_, fun _ _ h => h, Nat.le_of_ble_eq_true rfl, ?_⟩
                      conv => whnf
                      refine ⟨L, ts6.tail, rfl, ho7, ⟨by omega, by omega, by omega⟩, fun x hx8 => ?_⟩
                      rcases x with ⟨v8, ts8⟩ | ⟨r8, e8⟩
                      rotate_left
                      · rw [hx8, R.bind_err] at h; intro a9 d9; (conv => whnf); exact h _ _
                      rw [hx8, R.bind_ok] at h
                      intro a8 hle8 ho8
                      have hb8 := ho8.hi
                      conv => whnf
                      rw [if_neg (by simp)] at h
                      refine ⟨L, ts8, rfl, ho8, fun x hx9 => ?_⟩
                      rcases x with ⟨v9, ts9⟩ | ⟨r9, e9⟩
                      rotate_left
                      · rw [hx9, R.bind_err, R.bind_err] at h; intro a9 d9; (conv => whnf); exact h _ _
                      rw [hx9, R.bind_ok, R.bind_ok] at h
                      intro a9 hle9 ho9
                      have hb9 := ho9.hi
                      conv => whnf
                      refine Or.inl ⟨InR.i64 (by omega) (by omega), ?_⟩
                      conv => whnf
                      rw [Int.add_sub_cancel]
                      rw [← encLs_eq]
                      exact h _ (by omega) ho9
                rw [litOp_eq hj hm, R.bind_ok] at h
                conv => whnf
                rw [if_neg (by omega)] at h
                refine ⟨L, ts2.tail, rfl, ho3, hdp, fun x hx5 => ?_⟩
                rcases x with ⟨v5, ts5⟩ | ⟨r5, e5⟩
                rotate_left
                · rw [hx5, R.bind_err] at h; intro a9 d9; (conv => whnf); exact h _ _
                rw [hx5, R.bind_ok] at h
                intro a5 hle5 ho5
                have hb5 := ho5.hi
                obtain ⟨v5a, v5b, v5c, v5d, v5e⟩ := v5
                conv => whnf
                refine ⟨rfl, rfl, Nat.le_of_ble_eq_true rfl, Nat.le_of_ble_eq_true rfl, ?_⟩
                conv => whnf
                repeat (refine ⟨rfl, ?_⟩; conv => whnf)
                rw [litEnd, if_neg (by omega)] at h
                exact h _ (by omega) ho5
              rw [litOp_rel hj, R.bind_ok] at h
              conv => whnf
              refine Or.inl ⟨InR.u8 (by omega) (by omega), ?_⟩
              conv => whnf
              refine Or.inl ⟨InR.u8 (by omega) (by omega), ?_⟩
              conv => whnf
              refine CondP.dec (fun g => absurd g (by omega)) (fun _ => ?_)
              conv => whnf
              refine CondP.ndec (fun _ => ?_) (fun g => absurd g (by omega))
              conv => whnf
              rw [if_neg (by omega)] at h
              refine ⟨L, ts2.tail, rfl, ho3, hdp, fun x hx5 => ?_⟩
              rcases x with ⟨v5, ts5⟩ | ⟨r5, e5⟩
              rotate_left
              · rw [hx5, R.bind_err] at h; intro a9 d9; (conv => whnf); exact h _ _
              rw [hx5, R.bind_ok] at h
              intro a5 hle5 ho5
              have hb5 := ho5.hi
              obtain ⟨v5a, v5b, v5c, v5d, v5e⟩ := v5
              conv => whnf
              refine ⟨rfl, rfl, Nat.le_of_ble_eq_true rfl, Nat.le_of_ble_eq_true rfl, ?_⟩
              conv => whnf
              repeat (refine ⟨rfl, ?_⟩; conv => whnf)
              refine CondP.dec (fun g => absurd g (by omega)) (fun _ => ?_)
              conv => whnf
              rw [litEnd, if_neg (by omega)] at h
              exact h _ (by omega) ho5
            conv => whnf
            refine ⟨L, ts2, rfl, ho2, ?_⟩
            conv => whnf
            rw [litOp_none hj, R.bind_err] at h
            exact h _ _
    · exact h.elim
  · exact h.elim
noncomputable def tblRule (d : Nat) : Tbl := [(91, spPlace), (92, spNameP), (103, spArgs d), (104, spTake), (105, spBody d), (93, spMust)]
theorem rule_ok {d : Nat} (ht : TblOK (GG w0 nG) (tblRule d)) : PCalls (GG w0 nG) 49 (spRule d) := by
  refine pcalls tab_ok mixed (tbl := tblRule d) ht Tryz.func49 rfl (by kernel_rfl) (by kernel_rfl) ?_
  intro args σ K h
  unfold spRule rdSp at h
  split at h
  · rename_i rest t rows a en dp
    obtain ⟨L, ts, rfl, ho, h⟩ := h
    split at h
    · rename_i bodies
      obtain ⟨hdp, h⟩ := h
      have h0 := ho.lo
      have h1 := ho.hi
      have h2 := ho.big
      refine ⟨loopsOf [], 1, false, by simp, Nat.le_of_ble_eq_true rfl, ?_⟩
      have h := h _ rfl
      rw [ruleF] at h
      conv => whnf
      refine ⟨L, ts, rfl, ho, ?_⟩
      conv => whnf
      refine ⟨L, ts, rfl, ho, fun x hx1 => ?_⟩
      rcases x with ⟨v1, ts1⟩ | ⟨r1, e1⟩
      rotate_left
      · rw [hx1, R.bind_err] at h; intro a9 d9; (conv => whnf); exact h _ _
      rw [hx1, R.bind_ok] at h
      intro a1 hle1 ho1
      have hb1 := ho1.hi
      conv => whnf
      refine ⟨L, ts1, rfl, ho1, ⟨hdp, by simp⟩, fun x hx2 => ?_⟩
      have hdp2 := hdp
      rcases x with ⟨v2, ts2⟩ | ⟨r2, e2⟩
      rotate_left
      · rw [hx2, R.bind_err] at h; intro a9 d9; (conv => whnf); exact h _ _
      rw [hx2, R.bind_ok] at h
      intro a2 hle2 ho2
      have hb2 := ho2.hi
      conv => whnf
      cases bodies with
      | false =>
        rw [if_neg (by simp)] at h
        conv => whnf
        refine ⟨L, ts2, rfl, ho2, fun x hx3 => ?_⟩
        rcases x with ⟨v3, ts3⟩ | ⟨r3, e3⟩
        rotate_left
        · rw [hx3, R.bind_err] at h; intro a9 d9; (conv => whnf); exact h _ _
        rw [hx3, R.bind_ok] at h
        intro a3 hle3 ho3
        have hb3 := ho3.hi
        conv => whnf
        rw [← encEs_eq]
        exact h _ (by omega) ho3
      | true =>
        conv => whnf
        refine ⟨L, ts2, rfl, ho2, [[58, 45]], rfl, by simp, fun hw3 ho3 => ?_, fun hw3 => ?_⟩
        · rw [if_pos ⟨rfl, hw3⟩] at h
          have hb3 := ho3.hi
          conv => whnf
          refine ⟨L, ts2.tail, rfl, ho3, hdp, fun x hx4 => ?_⟩
          rcases x with ⟨v4, ts4⟩ | ⟨r4, e4⟩
          rotate_left
          · rw [hx4, R.bind_err] at h; intro a9 d9; (conv => whnf); exact h _ _
          rw [hx4, R.bind_ok] at h
          intro a4 hle4 ho4
          have hb4 := ho4.hi
          conv => whnf
          refine ⟨L, ts4, rfl, ho4, fun x hx5 => ?_⟩
          rcases x with ⟨v5, ts5⟩ | ⟨r5, e5⟩
          rotate_left
          · rw [hx5, R.bind_err] at h; intro a9 d9; (conv => whnf); exact h _ _
          rw [hx5, R.bind_ok] at h
          intro a5 hle5 ho5
          have hb5 := ho5.hi
          conv => whnf
          rw [← encEs_eq, ← encLs_eq]
          exact h _ (by omega) ho5
        · rw [if_neg (by rw [hw3]; simp)] at h
          conv => whnf
          refine ⟨L, ts2, rfl, ho2, fun x hx4 => ?_⟩
          rcases x with ⟨v4, ts4⟩ | ⟨r4, e4⟩
          rotate_left
          · rw [hx4, R.bind_err] at h; intro a9 d9; (conv => whnf); exact h _ _
          rw [hx4, R.bind_ok] at h
          intro a4 hle4 ho4
          have hb4 := ho4.hi
          conv => whnf
          rw [← encEs_eq]
          exact h _ (by omega) ho4
    · exact h.elim
  · exact h.elim
end Go.PM.Lex
end
