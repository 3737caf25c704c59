/- A part of the proof: plain logic, contracts and laws over the given program. -/
import Derived.Test.YtjmoaahgfjaafaaGreatDoorG09
set_option linter.unusedVariables false
set_option linter.unusedSimpArgs false
set_option linter.all false
section
set_option maxRecDepth 100000
set_option maxHeartbeats 4000000
namespace Go.PM.Lex
open Go.Proofs
variable {w0 : World} {nG : Nat}
theorem cPlace : PCalls (GG w0 nG) 91 spPlace := place_ok ⟨⟨more_ok, spMore_mono⟩, trivial⟩
theorem cIs : PCalls (GG w0 nG) 86 spIs := is_ok ⟨⟨more_ok, spMore_mono⟩, ⟨contains_ok, spContains_mono⟩, trivial⟩
theorem cNamed : PCalls (GG w0 nG) 95 (spAsk namedF) := named_ok ⟨⟨more_ok, spMore_mono⟩, ⟨kept_ok, spKept_mono⟩, trivial⟩
theorem cFail : PCalls (GG w0 nG) 85 spFail := fail_ok ⟨⟨cPlace, spPlace_mono⟩, trivial⟩
theorem cTake : PCalls (GG w0 nG) 104 spTake := take_ok ⟨⟨cIs, spIs_mono⟩, trivial⟩
theorem cMust : PCalls (GG w0 nG) 93 spMust := must_ok ⟨⟨cTake, spTake_mono⟩, ⟨cFail, spFail_mono⟩, trivial⟩
theorem cRoom : PCalls (GG w0 nG) 87 spRoom := room_ok ⟨⟨cFail, spFail_mono⟩, trivial⟩
theorem cPName : PCalls (GG w0 nG) 92 spNameP := pname_ok ⟨⟨cNamed, spAsk_mono _⟩, ⟨cFail, spFail_mono⟩, trivial⟩
theorem cStarts : PCalls (GG w0 nG) 184 (spAsk startsF) := starts_ok ⟨⟨more_ok, spMore_mono⟩, ⟨cIs, spIs_mono⟩, ⟨kept_ok, spKept_mono⟩, ⟨functor_ok, spFunctor_mono⟩, trivial⟩
theorem cBinary : PCalls (GG w0 nG) 181 spBin := binary_ok ⟨⟨more_ok, spMore_mono⟩, trivial⟩
theorem cField1 : PCalls (GG w0 nG) 239 spField1 := field1_ok ⟨⟨cPName, spR_mono _ _ _⟩, ⟨cMust, spMust_mono⟩, trivial⟩
theorem cFields : PCalls (GG w0 nG) 168 spFields := fields_ok ⟨⟨cIs, spIs_mono⟩, ⟨manyField_ok ⟨⟨cNamed, spAsk_mono _⟩, ⟨cFail, spFail_mono⟩, ⟨cField1, spR1_mono _ _ _⟩, ⟨cTake, spTake_mono⟩, trivial⟩, spManyField_mono⟩, trivial⟩
theorem cNames : PCalls (GG w0 nG) 94 spNames := names_ok ⟨⟨cTake, spTake_mono⟩, ⟨manyStr_ok ⟨⟨cNamed, spAsk_mono _⟩, ⟨cFail, spFail_mono⟩, ⟨cPName, spR_mono _ _ _⟩, ⟨cTake, spTake_mono⟩, trivial⟩, spManyStr_mono⟩, ⟨cMust, spMust_mono⟩, trivial⟩
theorem cCase1 : PCalls (GG w0 nG) 170 spCase1 := case1_ok ⟨⟨cPName, spR_mono _ _ _⟩, ⟨cMust, spMust_mono⟩, ⟨cFields, spFields_mono⟩, trivial⟩
theorem cTyped : PCalls (GG w0 nG) 88 spTyped := typed_ok ⟨⟨cPlace, spPlace_mono⟩, ⟨cPName, spR_mono _ _ _⟩, ⟨cTake, spTake_mono⟩, ⟨cMust, spMust_mono⟩, ⟨cFields, spFields_mono⟩, ⟨manyCase_ok ⟨⟨cNamed, spAsk_mono _⟩, ⟨cFail, spFail_mono⟩, ⟨cCase1, spR1_mono _ _ _⟩, ⟨cTake, spTake_mono⟩, trivial⟩, spManyCase_mono⟩, trivial⟩
theorem cDecl : PCalls (GG w0 nG) 89 spDecl := decl_ok ⟨⟨cPlace, spPlace_mono⟩, ⟨cPName, spR_mono _ _ _⟩, ⟨cTake, spTake_mono⟩, ⟨cMust, spMust_mono⟩, ⟨cFields, spFields_mono⟩, trivial⟩
theorem cIdx : PCalls (GG w0 nG) 244 spIdx := idx_ok ⟨⟨take1a_ok ⟨⟨cTake, spTake_mono⟩, trivial⟩, spTake1_mono⟩, ⟨take1b_ok ⟨⟨cTake, spTake_mono⟩, trivial⟩, spTake1_mono⟩, trivial⟩
theorem manyExB_zero (h : Enters (GG w0 nG).P 183) : PCalls (GG w0 nG) 183 (spManyExB 0) := ⟨h, fun args σ K hs => by
 exfalso
 unfold spManyExB at hs
 split at hs
 ·exact absurd hs.1.2.2.2.2.1 (by omega)
 ·exact hs⟩
theorem manyExB_succ {d : Nat} (h : PCalls (GG w0 nG) 183 (spManyEx d)) : PCalls (GG w0 nG) 183 (spManyExB (d + 1)) := h.weaken1 fun args σ K hs => by
 unfold spManyExB at hs
 unfold spManyEx
 split at hs
 ·obtain ⟨⟨h1, h2, h3, h4, h5, h6, h7⟩, hs⟩ := hs
  exact ⟨⟨h1, h2, h3, h4, by omega, h7⟩, hs⟩
 ·exact hs.elim
theorem lineB_zero (d : Nat) (h : Enters (GG w0 nG).P 102) : PCalls (GG w0 nG) 102 (spLineB d 0) := ⟨h, fun args σ K hs => by
 exfalso
 unfold spLineB rdSp at hs
 split at hs
 ·obtain ⟨L, ts, _, _, hs⟩ := hs
  split at hs
  ·exact absurd hs.1.2.1 (by omega)
  ·exact hs
 ·exact hs⟩
theorem lineB_succ {d j : Nat} (h : PCalls (GG w0 nG) 102 (spLine d j)) : PCalls (GG w0 nG) 102 (spLineB d (j + 1)) := h.weaken1 fun args σ K hs => by
 unfold spLineB rdSp at hs
 unfold spLine rdSp
 split at hs
 ·obtain ⟨L, ts, h1, h2, hs⟩ := hs
  refine ⟨L, ts, h1, h2, ?_⟩
  split at hs
  ·exact ⟨⟨hs.1.1, hs.1.2.2.1, hs.1.2.2.2.1, by have := hs.1.2.2.2.2; omega⟩, hs.2⟩
  ·exact hs.elim
 ·exact hs
structure Deep (w0 : World) (nG d : Nat) : Prop where
 sg : PCalls (GG w0 nG) 180 (spSignedB d)
 ex : PCalls (GG w0 nG) 47 (spExprB d)
 many : PCalls (GG w0 nG) 183 (spManyExB d)
theorem cArgs_of {d : Nat} (D : Deep w0 nG d) : PCalls (GG w0 nG) 103 (spArgs d) := args_ok ⟨⟨(in_ok (tb := tblArgsW d) ⟨⟨cIs, spIs_mono⟩, ⟨cMust, spMust_mono⟩, ⟨cFail, spFail_mono⟩, ⟨(in_ok (tb := tblArgs1 d) ⟨⟨cIs, spIs_mono⟩, ⟨D.many, spManyExB_mono d⟩, trivial⟩ Tryz.func182 rfl (by kernel_rfl) (by kernel_rfl)), spIn_mono _ _⟩, trivial⟩ Tryz.func171 rfl (by kernel_rfl) (by kernel_rfl)), spIn_mono _ _⟩, trivial⟩
theorem cCall_of {d : Nat} (D : Deep w0 nG d) : PCalls (GG w0 nG) 294 (spCall d) := call_ok ⟨⟨(in_ok (tb := tblCallW d) ⟨⟨cIs, spIs_mono⟩, ⟨cMust, spMust_mono⟩, ⟨cFail, spFail_mono⟩, ⟨(inU_ok (tb := tblCall1 d) ⟨⟨cMust, spMust_mono⟩, ⟨D.ex, spRB_mono _ _ _ _⟩, trivial⟩ Tryz.func322 rfl (by kernel_rfl) (by kernel_rfl)), spInU_mono _ _ _⟩, trivial⟩ Tryz.func171 rfl (by kernel_rfl) (by kernel_rfl)), spIn_mono _ _⟩, trivial⟩
theorem cPrimary_of {d : Nat} (D : Deep w0 nG d) : PCalls (GG w0 nG) 243 (spPrimary d) := primary_ok ⟨⟨cStarts, spAsk_mono _⟩, ⟨cFail, spFail_mono⟩, ⟨more_ok, spMore_mono⟩, ⟨(in_ok (tb := tblPrimW d) ⟨⟨cIs, spIs_mono⟩, ⟨cMust, spMust_mono⟩, ⟨cFail, spFail_mono⟩, ⟨(in_ok (tb := tblPrim1 d) ⟨⟨D.ex, spRB_mono _ _ _ _⟩, trivial⟩ Tryz.func293 rfl (by kernel_rfl) (by kernel_rfl)), spIn_mono _ _⟩, trivial⟩ Tryz.func171 rfl (by kernel_rfl) (by kernel_rfl)), spIn_mono _ _⟩, ⟨cArgs_of D, spArgs_mono d⟩, ⟨cPName, spR_mono _ _ _⟩, ⟨cIs, spIs_mono⟩, ⟨functor_ok, spFunctor_mono⟩, ⟨cCall_of D, spCall_mono d⟩, trivial⟩
theorem cSigned_of {d : Nat} (D : Deep w0 nG d) : PCalls (GG w0 nG) 180 (spSigned d) := signed_ok ⟨⟨cPlace, spPlace_mono⟩, ⟨cIs, spIs_mono⟩, ⟨(in_ok (tb := tblSignW d) ⟨⟨cIs, spIs_mono⟩, ⟨cMust, spMust_mono⟩, ⟨cFail, spFail_mono⟩, ⟨(in_ok (tb := tblSign1 d) ⟨⟨D.sg, spRB_mono _ _ _ _⟩, trivial⟩ Tryz.func242 rfl (by kernel_rfl) (by kernel_rfl)), spIn_mono _ _⟩, trivial⟩ Tryz.func171 rfl (by kernel_rfl) (by kernel_rfl)), spIn_mono _ _⟩, ⟨cPrimary_of D, spRD_mono _ _ _ _⟩, trivial⟩
theorem cLine_of {d : Nat} (D : Deep w0 nG d) : ∀ j, PCalls (GG w0 nG) 102 (spLine d j)
 | 0 => line_ok ⟨⟨cSigned_of D, spRD_mono _ _ _ _⟩, ⟨cBinary, spBin_mono⟩, ⟨lineB_zero d (enters_of Tryz.func102 (by kernel_rfl) rfl), spLineB_mono d 0⟩, trivial⟩
 | j + 1 => line_ok ⟨⟨cSigned_of D, spRD_mono _ _ _ _⟩, ⟨cBinary, spBin_mono⟩, ⟨lineB_succ (cLine_of D j), spLineB_mono d (j + 1)⟩, trivial⟩
theorem cExpr_of {d : Nat} (D : Deep w0 nG d) : PCalls (GG w0 nG) 47 (spExpr d) := expr_ok ⟨⟨cLine_of D 6, spLine_mono d 6⟩, trivial⟩
theorem manyEx_of {d : Nat} (h : PCalls (GG w0 nG) 47 (spExpr d)) : PCalls (GG w0 nG) 183 (spManyEx d) := manyEx_ok d ⟨⟨cStarts, spAsk_mono _⟩, ⟨cFail, spFail_mono⟩, ⟨h, spRD_mono _ _ _ _⟩, ⟨cTake, spTake_mono⟩, trivial⟩
theorem deep : ∀ d, Deep w0 nG d
 | 0 => ⟨spRB_zero (enters_of Tryz.func180 (by kernel_rfl) rfl), spRB_zero (enters_of Tryz.func47 (by kernel_rfl) rfl), manyExB_zero (enters_of Tryz.func183 (by kernel_rfl) rfl)⟩
 | d + 1 => ⟨spRB_succ (cSigned_of (deep d)), spRB_succ (cExpr_of (deep d)), manyExB_succ (manyEx_of (cExpr_of (deep d)))⟩
theorem cArgs (d : Nat) : PCalls (GG w0 nG) 103 (spArgs d) := cArgs_of (deep d)
theorem cExpr (d : Nat) : PCalls (GG w0 nG) 47 (spExpr d) := cExpr_of (deep d)
theorem cBody1 : PCalls (GG w0 nG) 186 (spAsk1 litStarts) := body1_ok ⟨⟨cStarts, spAsk_mono _⟩, ⟨cIs, spIs_mono⟩, trivial⟩
theorem cLit_of {d : Nat} (h : PCalls (GG w0 nG) 105 (spBodyB d)) : PCalls (GG w0 nG) 187 (spLit d) := lit_ok ⟨⟨cPlace, spPlace_mono⟩, ⟨cTake, spTake_mono⟩, ⟨more_ok, spMore_mono⟩, ⟨cNamed, spAsk_mono _⟩, ⟨cPName, spR_mono _ _ _⟩, ⟨cArgs d, spArgs_mono d⟩, ⟨cExpr d, spRD_mono _ _ _ _⟩, ⟨cIdx, spIdx_mono⟩, ⟨cFail, spFail_mono⟩, ⟨cMust, spMust_mono⟩, ⟨(in_ok (tb := tblLitW d) ⟨⟨cIs, spIs_mono⟩, ⟨cMust, spMust_mono⟩, ⟨cFail, spFail_mono⟩, ⟨(in_ok (tb := tblLit1 d) ⟨⟨h, spRB_mono _ _ _ _⟩, trivial⟩ Tryz.func247 rfl (by kernel_rfl) (by kernel_rfl)), spIn_mono _ _⟩, trivial⟩ Tryz.func171 rfl (by kernel_rfl) (by kernel_rfl)), spIn_mono _ _⟩, trivial⟩
theorem cBody_of {d : Nat} (h : PCalls (GG w0 nG) 105 (spBodyB d)) : PCalls (GG w0 nG) 105 (spBody d) := body_ok ⟨⟨manyLi_ok d ⟨⟨cBody1, spAsk1_mono _⟩, ⟨cFail, spFail_mono⟩, ⟨cLit_of h, spRD_mono _ _ _ _⟩, ⟨cTake, spTake_mono⟩, trivial⟩, spManyLi_mono d⟩, trivial⟩
theorem cBodyB : ∀ d, PCalls (GG w0 nG) 105 (spBodyB d)
 | 0 => spRB_zero (enters_of Tryz.func105 (by kernel_rfl) rfl)
 | d + 1 => spRB_succ (cBody_of (cBodyB d))
theorem cBody (d : Nat) : PCalls (GG w0 nG) 105 (spBody d) := cBody_of (cBodyB d)
theorem cRule (d : Nat) : PCalls (GG w0 nG) 49 (spRule d) := rule_ok ⟨⟨cPlace, spPlace_mono⟩, ⟨cPName, spR_mono _ _ _⟩, ⟨cArgs d, spArgs_mono d⟩, ⟨cTake, spTake_mono⟩, ⟨cBody d, spRD_mono _ _ _ _⟩, ⟨cMust, spMust_mono⟩, trivial⟩
theorem unitB_zero (h : Enters (GG w0 nG).P 39) : PCalls (GG w0 nG) 39 (spUnitB 0) := ⟨h, fun args σ K hs => by
 exfalso
 unfold spUnitB rdSp at hs
 split at hs
 ·obtain ⟨L, ts, _, _, hs⟩ := hs
  split at hs
  ·exact absurd hs.1.1 (by omega)
  ·exact hs
 ·exact hs⟩
theorem unitB_succ {d : Nat} (h : PCalls (GG w0 nG) 39 (spUnit d)) : PCalls (GG w0 nG) 39 (spUnitB (d + 1)) := h.weaken1 fun args σ K hs => by
 unfold spUnitB rdSp at hs
 unfold spUnit rdSp
 split at hs
 ·obtain ⟨L, ts, h1, h2, hs⟩ := hs
  refine ⟨L, ts, h1, h2, ?_⟩
  split at hs
  ·obtain ⟨⟨g1, g2, g3, rfl⟩, hs⟩ := hs
   refine ⟨by omega, ?_⟩
   rw [unitB, unitD_eq] at hs
   exact hs
  ·exact hs.elim
 ·exact hs
theorem cComp_of {d : Nat} (h : PCalls (GG w0 nG) 39 (spUnitB d)) : PCalls (GG w0 nG) 90 (spComp d) := comp_ok ⟨⟨cPlace, spPlace_mono⟩, ⟨cPName, spR_mono _ _ _⟩, ⟨cNames, spR_mono _ _ _⟩, ⟨cTake, spTake_mono⟩, ⟨(in_ok (tb := tblCompW d) ⟨⟨cIs, spIs_mono⟩, ⟨cMust, spMust_mono⟩, ⟨cFail, spFail_mono⟩, ⟨(in_ok (tb := tblComp1 d) ⟨⟨h, spUnitB_mono d⟩, trivial⟩ Tryz.func172 rfl (by kernel_rfl) (by kernel_rfl)), spIn_mono _ _⟩, trivial⟩ Tryz.func171 rfl (by kernel_rfl) (by kernel_rfl)), spIn_mono _ _⟩, trivial⟩
theorem cUnit_of {d : Nat} (h : PCalls (GG w0 nG) 39 (spUnitB d)) : PCalls (GG w0 nG) 39 (spUnit d) := unit_ok ⟨⟨cIs, spIs_mono⟩, ⟨cRoom, spRoom_mono⟩, ⟨cTyped, spR_mono _ _ _⟩, ⟨cDecl, spR_mono _ _ _⟩, ⟨cComp_of h, spRD_mono _ _ _ _⟩, ⟨cPlace, spPlace_mono⟩, ⟨cPName, spR_mono _ _ _⟩, ⟨cMust, spMust_mono⟩, ⟨cNames, spR_mono _ _ _⟩, ⟨cNamed, spAsk_mono _⟩, ⟨cRule d, spRule_mono d⟩, ⟨cFail, spFail_mono⟩, trivial⟩
theorem cUnitB : ∀ d, PCalls (GG w0 nG) 39 (spUnitB d)
 | 0 => unitB_zero (enters_of Tryz.func39 (by kernel_rfl) rfl)
 | d + 1 => unitB_succ (cUnit_of (cUnitB d))
theorem cUnit (d : Nat) : PCalls (GG w0 nG) 39 (spUnit d) := cUnit_of (cUnitB d)
end Go.PM.Lex
end

section
set_option maxRecDepth 100000
set_option maxHeartbeats 4000000
namespace Go.PM.Lex
open Go.Proofs
def R.good {α : Type} (x : R α) : Prop := match x with | .ok _ _ => True | .err _ e => e ≠ 0
theorem R.good_bind {α β : Type} {x : R α} {f : α → Ts → R β} (h : x.good) (hf : ∀ a ts, (f a ts).good) : (x.bind f).good := by
 cases x with
 | ok a ts => exact hf a ts
 | err r e => exact h
theorem R.good_ok {α : Type} (a : α) (ts : Ts) : (R.ok a ts : R α).good := trivial
theorem R.good_ite {α : Type} {c : Prop} [Decidable c] {x y : R α} (h1 : x.good) (h2 : y.good) : (if c then x else y).good := by split; exact h1; exact h2
theorem R.good_err {α : Type} {r e : Nat} (h : e ≠ 0) : (R.err r e : R α).good := h
theorem must_good (w : Bs) (ts : Ts) : (mustF w ts).good := R.good_ite trivial (R.good_err (by decide))
theorem nameP_good (ts : Ts) : (nameP ts).good := R.good_ite trivial (R.good_err (by decide))
theorem within_good {α : Type} {d : Nat} {fr to : Bs} {read : Ts → R α} (h : ∀ ts, (read ts).good) (ts : Ts) : (withinF d fr to read ts).good :=
 R.good_ite (R.good_ite (R.good_err (by decide)) (R.good_bind (h _) fun _ _ => R.good_ite trivial (R.good_bind (must_good _ _) fun _ _ => trivial))) (R.good_err (by decide))
theorem manyGo_good {α : Type} {sign : Bs} {most : Nat} {st : Ts → Bool} {one : Ts → R α} (h : ∀ ts, (one ts).good) : ∀ f l ts, (manyGo sign most st one f l ts).good
 | 0, _, _ => R.good_err (by decide)
 | f + 1, l, ts => R.good_ite (R.good_err (by decide)) (R.good_bind (h _) fun _ _ => R.good_ite (manyGo_good h f _ _) trivial)
theorem many_good {α : Type} {sign : Bs} {most : Nat} {st : Ts → Bool} {one : Ts → R α} (h : ∀ ts, (one ts).good) (ts : Ts) : (manyF sign most st one ts).good := manyGo_good h _ _ _
theorem field_good (ts : Ts) : (fieldF ts).good := R.good_bind (nameP_good _) fun _ _ => R.good_bind (must_good _ _) fun _ _ => R.good_bind (nameP_good _) fun _ _ => trivial
theorem fields_good (w : Bs) (ts : Ts) : (fieldsF w ts).good := R.good_ite trivial (many_good field_good _)
theorem names_good (ts : Ts) : (namesF ts).good := R.good_ite (R.good_bind (many_good nameP_good _) fun _ _ => R.good_bind (must_good _ _) fun _ _ => trivial) trivial
theorem case_good (ts : Ts) : (caseF ts).good := R.good_bind (nameP_good _) fun _ _ => R.good_bind (must_good _ _) fun _ _ => R.good_bind (fields_good _ _) fun _ _ => R.good_bind (must_good _ _) fun _ _ => trivial
theorem typed_good (ts : Ts) : (typedF ts).good := R.good_bind (nameP_good _) fun _ _ => R.good_ite (R.good_bind (nameP_good _) fun _ _ => trivial) (R.good_bind (must_good _ _) fun _ _ =>
 R.good_ite (R.good_bind (fields_good _ _) fun _ _ => R.good_bind (must_good _ _) fun _ _ => trivial) (R.good_bind (many_good case_good _) fun _ _ => trivial))
theorem decl_good (ts : Ts) : (declF ts).good := R.good_bind (nameP_good _) fun _ _ => R.good_bind (must_good _ _) fun _ _ => R.good_bind (fields_good _ _) fun _ _ => R.good_bind (must_good _ _) fun _ _ => trivial
theorem args_good {d : Nat} {ex : Ts → R Ex} (h : ∀ ts, (ex ts).good) (fr to : Bs) (ts : Ts) : (argsF d ex fr to ts).good := by
 unfold argsF
 exact within_good (fun ts => R.good_ite (R.good_ok _ _) (many_good h _)) ts
theorem callGo_good {ex : Ts → R Ex} (h : ∀ ts, (ex ts).good) : ∀ k l ts, (callGo ex k l ts).good
 | 0, _, _ => trivial
 | k + 1, l, ts => R.good_bind (R.good_ite trivial (must_good _ _)) fun _ _ => R.good_bind (h _) fun _ _ => callGo_good h k _ _
theorem primary_good {d : Nat} {ex : Ts → R Ex} (h : ∀ ts, (ex ts).good) (ts : Ts) : (primaryF d ex ts).good :=
 R.good_ite (R.good_err (by decide)) <| R.good_ite trivial <| R.good_ite trivial <| R.good_ite (within_good h _) <| R.good_ite (R.good_bind (args_good h _ _ _) fun _ _ => trivial) <|
 R.good_ite (R.good_bind (nameP_good _) fun _ _ => R.good_ite (R.good_bind (args_good h _ _ _) fun _ _ => trivial) trivial) <|
 R.good_ite (R.good_bind (within_good (callGo_good h _ _) _) fun _ _ => trivial) <| R.good_ite trivial <| R.good_ite trivial trivial
theorem lineGo_good {sub : Nat → Ts → R Ex} (h : ∀ n ts, (sub n ts).good) (least : Nat) : ∀ f e ts, (lineGo sub least f e ts).good
 | 0, _, _ => R.good_err (by decide)
 | f + 1, e, ts => R.good_ite trivial (R.good_bind (h _ _) fun _ _ => lineGo_good h least f _ _)
theorem lineK_good {sg : Ts → R Ex} (h : ∀ ts, (sg ts).good) : ∀ k least ts, (lineK sg k least ts).good
 | 0, _, _ => h _
 | k + 1, least, ts => R.good_bind (h _) fun _ _ => lineGo_good (fun n ts => lineK_good h k n ts) _ _ _ _
theorem signedF_good {d : Nat} {sg : Ts → R Ex} (h : ∀ ts, (sg ts).good) (ts : Ts) : (signedF d sg ts).good :=
 R.good_ite (R.good_bind (within_good h _) fun _ _ => trivial) <| R.good_ite (R.good_bind (within_good h _) fun _ _ => trivial) (primary_good (fun ts => lineK_good h _ _ _) _)
theorem signed_good : ∀ d ts, (signedD d ts).good
 | 0, ts => signedF_good (fun _ => (R.good_err (by decide))) ts
 | d + 1, ts => signedF_good (signed_good d) ts
theorem expr_good (d : Nat) (ts : Ts) : (exprD d ts).good := lineK_good (signed_good d) _ _ _
theorem exprB_good : ∀ d ts, (exprB d ts).good
 | 0, _ => (R.good_err (by decide))
 | d + 1, ts => expr_good d ts
theorem litOp_good (ts : Ts) : (litOp ts).good := by
 unfold litOp
 split
 ·exact R.good_err (by decide)
 ·split <;> trivial
 ·trivial
theorem litAtom_good (d op a : Nat) (ts : Ts) : (litAtom d op a ts).good := R.good_bind (nameP_good _) fun _ _ => R.good_bind (args_good (exprB_good d) _ _ _) fun _ _ => trivial
theorem litEnd_good {d : Nat} {bd : Ts → R (List Li)} (h : ∀ ts, (bd ts).good) (a op : Nat) (l : List Ex) (ts : Ts) : (litEnd d bd a op l ts).good :=
 R.good_ite (R.good_bind (must_good _ _) fun _ _ => R.good_bind (within_good h _) fun _ _ => trivial) trivial
theorem lit_good {d : Nat} {bd : Ts → R (List Li)} (h : ∀ ts, (bd ts).good) (ts : Ts) : (litF d bd ts).good :=
 R.good_ite (litAtom_good _ _ _ _) <| R.good_ite (litAtom_good _ _ _ _) <| R.good_bind (expr_good _ _) fun _ _ => R.good_bind (litOp_good _) fun _ _ => R.good_ite (litEnd_good h _ _ _ _) (R.good_bind (expr_good _ _) fun _ _ => litEnd_good h _ _ _ _)
theorem body_good : ∀ d ts, (bodyD d ts).good
 | 0, ts => many_good (lit_good fun _ => (R.good_err (by decide))) ts
 | d + 1, ts => many_good (lit_good (body_good d)) ts
theorem rule_good (d : Nat) (b : Bool) (ts : Ts) : (ruleF d b ts).good := R.good_bind (nameP_good _) fun _ _ => R.good_bind (args_good (exprB_good d) _ _ _) fun _ _ =>
 R.good_ite (R.good_bind (body_good _ _) fun _ _ => R.good_bind (must_good _ _) fun _ _ => trivial) (R.good_bind (must_good _ _) fun _ _ => trivial)
theorem comp_good {d : Nat} {un : Ts → R Un} (h : ∀ ts, (un ts).good) (ts : Ts) : (compF d un ts).good := R.good_bind (nameP_good _) fun _ _ => R.good_bind (names_good _) fun _ _ =>
 R.good_ite (R.good_bind (nameP_good _) fun _ _ => R.good_bind (names_good _) fun _ _ => R.good_bind (within_good h _) fun _ _ => trivial) (R.good_bind (within_good h _) fun _ _ => trivial)
theorem init_good (ts : Ts) : (initF ts).good := R.good_bind (nameP_good _) fun _ _ => R.good_bind (must_good _ _) fun _ _ => R.good_bind (nameP_good _) fun _ _ => R.good_bind (names_good _) fun _ _ => trivial
theorem over_good (ts : Ts) : (overF ts).good := R.good_bind (nameP_good _) fun _ _ => trivial
theorem unitGo_good {b : Bool} {d : Nat} {un : Ts → R Un} (h : ∀ ts, (un ts).good) : ∀ f u ts, (unitGo b d un f u ts).good
 | 0, _, _ => R.good_err (by decide)
 | f + 1, .mk tys rels rules comps inits overs, ts => by
  rw [unitGo_eq]
  exact R.good_ite trivial <| R.good_ite (R.good_ite (R.good_err (by decide)) (R.good_bind (typed_good _) fun _ _ => unitGo_good h f _ _)) <| R.good_ite (R.good_ite (R.good_err (by decide)) (R.good_bind (decl_good _) fun _ _ => unitGo_good h f _ _)) <|
   R.good_ite (R.good_ite (R.good_err (by decide)) (R.good_bind (comp_good h _) fun _ _ => unitGo_good h f _ _)) <| R.good_ite (R.good_ite (R.good_err (by decide)) (R.good_bind (init_good _) fun _ _ => unitGo_good h f _ _)) <|
   R.good_ite (R.good_ite (R.good_err (by decide)) (R.good_bind (over_good _) fun _ _ => unitGo_good h f _ _)) <| R.good_ite (R.good_ite (R.good_err (by decide)) (R.good_bind (rule_good _ _ _) fun _ _ => unitGo_good h f _ _)) (R.good_err (by decide))
theorem unitD_good : ∀ d ts, (unitD d ts).good
 | 0, ts => unitGo_good (fun _ => (R.good_err (by decide))) _ _ _
 | d + 1, ts => unitGo_good (unitD_good d) _ _ _
theorem unitTop_good (ts : Ts) : (unitTop ts).good := unitGo_good (unitD_good 63) _ _ _
theorem nextF_room {a : Nat} {r : Bs} {room : Bool} {t : Tok} (h : nextF a r room = .tok t) : room = true := by
 cases room with
 | true => rfl
 | false =>
  unfold nextF at h
  simp only at h
  split at h
  ·cases h
  ·simp at h
theorem allGo_le : ∀ (f : Nat) (m : Int) (a : Nat) (r : Bs), (allGo f m a r).1.length ≤ m.toNat
 | 0, m, a, r => by simp [allGo]
 | f + 1, m, a, r => by
  unfold allGo
  split
  ·simp
  ·simp only
   split
   ·simp
   ·split
    ·simp
    ·rename_i t ht
     have hr := nextF_room ht
     rw [decide_eq_true_eq] at hr
     have := allGo_le f (m - 1) t.fin ((r.drop (blankF r).2).drop (t.fin - (a + (blankF r).2)))
     simp only [List.length_cons]
     omega
theorem allF_le (s : Bs) (m : Int) : (allF s m).1.length ≤ m.toNat := allGo_le _ _ _ _
inductive Top (α : Type) where
 | ok (v : α) (L : List Tok) | err (p : Int) (e : Nat)
def readTop {α : Type} (bytes most : Nat) (P : Ts → R α) (s : Bs) : Top α :=
 if bytes < s.length then .err 0 3
 else if (allF s most).2.2 ≠ 0 then .err (allF s most).2.1 (allF s most).2.2
 else match P ((allF s most).1.map Tok.t0) with
  | .ok v [] => .ok v (allF s most).1
  | .ok v (_ :: ts) => .err (placeOf (allF s most).1 s.length (ts.length + 1)) 150
  | .err r e => .err (placeOf (allF s most).1 s.length r) e
theorem readTop_err {α : Type} {bytes most : Nat} {P : Ts → R α} (hP : ∀ ts, (P ts).good) {s : Bs} {p : Int} {e : Nat} (h : readTop bytes most P s = .err p e) : e ≠ 0 := by
 unfold readTop at h
 split at h
 ·cases h; decide
 ·split at h
  ·rename_i hn; cases h; exact hn
  ·split at h
   ·cases h
   ·cases h; decide
   ·rename_i r e' he
    cases h
    have := hP ((allF s most).1.map Tok.t0)
    rw [he] at this; exact this
end Go.PM.Lex
end

section
set_option maxRecDepth 100000
set_option maxHeartbeats 4000000
namespace Go.PM.Lex
open Go.Proofs
variable {w0 : World} {nG : Nat}
noncomputable def spTokQ : Spec := fun args σ K => match args, σ with
 | [.d (.str s), .d (.int .i64 m)], ⟨[], [], 0⟩ => s.length < 4294967281 ∧
   ∀ l p c, allF s m = (l, (p, c)) → (c = 0 → K (.ret (.tuple [.d (.sl (toksR l)), .d (.int .i64 p), .d (.int .i64 0)])) ⟨[], [], 0⟩) ∧
    (c ≠ 0 → K (.ret (.tuple [.d (.sl []), .d (.int .i64 p), .d (.int .i64 c)])) ⟨[], [], 0⟩)
 | _, _ => False
theorem spTokQ_mono : SpecMono spTokQ := fun args σ K K' hK h => by
 unfold spTokQ at h ⊢
 split at h
 ·exact ⟨h.1, fun l p c hx => ⟨fun g => hK _ _ ((h.2 l p c hx).1 g), fun g => hK _ _ ((h.2 l p c hx).2 g)⟩⟩
 ·exact h.elim
theorem tokQ_of (h : PCalls (GG w0 nG) 83 spTokens) : PCalls (GG w0 nG) 83 spTokQ := h.weaken1 fun args σ K hs => by
 unfold spTokQ at hs
 unfold spTokens
 split at hs
 ·rename_i s m
  obtain ⟨h1, hs⟩ := hs
  refine ⟨h1, ?_⟩
  have hs := hs (allF s m).1 (allF s m).2.1 (allF s m).2.2 rfl
  by_cases hc : (allF s m).2.2 = 0
  ·rw [if_pos hc, hc]; exact hs.1 hc
  ·rw [if_neg hc]; exact hs.2 hc
 ·exact hs.elim
noncomputable def recOf : Nat × Nat × Code := match recB (bodyOf Tryz.f84) with | some x => x | none => (0, 0, .skip)
noncomputable def spDefR : List PV → St → (St → Prop) → Prop := fun args σ K => args.length ≤ Tryz.f84.ntmps ∧ W (ctx Tab0 [] (loopsOf [])) recOf.2.2 (recQ Tab0 Tryz.f84 σ.bx.length K) (fset (fset (argF 0 args) recOf.1 (.d .nili)) recOf.2.1 (.d .nili)) σ
noncomputable def spDefP : PV → List PV → St → (St → Prop) → Prop := fun pv args σ K => args.length ≤ Tryz.f84.ntmps ∧ W (ctx Tab0 [] (loopsOf [])) recOf.2.2 (recQ Tab0 Tryz.f84 σ.bx.length K) (fset (fset (argF 0 args) recOf.1 pv) recOf.2.1 pv) σ
theorem def_ok : PDef (GG w0 nG) 84 spDefR spDefP :=
 pdef_of (a := recOf.1) (b := recOf.2.1) (rest := recOf.2.2) tab_ok mixed (tbl := []) trivial Tryz.func84 rfl (by kernel_rfl) rfl (by kernel_rfl) (fun args σ K h => ⟨loopsOf [], σ.bx.length, Nat.le_refl _, h.1, h.2⟩) (fun pv args σ K h => ⟨loopsOf [], σ.bx.length, Nat.le_refl _, h.1, h.2⟩)
def WhK {α : Type} (tU : TypeId) (enc : List Tok → Int → α → List PV) (bad : List PV → Prop) (n : Int) (x : Top α) (K : PEnd → St → Prop) : Prop := match x with
 | .ok v L => K (.ret (.tuple [.d (.int .i64 0), .d (.int .i64 0)])) ⟨[.cells tU (enc L n v)], [], 0⟩
 | .err p e => ∀ cs, bad cs → K (.ret (.tuple [.d (.int .i64 p), .d (.int .i64 e)])) ⟨[.cells tU cs], [], 0⟩
theorem WhK_mono {α : Type} {tU : TypeId} {enc : List Tok → Int → α → List PV} {bad : List PV → Prop} {n : Int} {x : Top α} {K K' : PEnd → St → Prop} (hK : ∀ e σ, K e σ → K' e σ) (h : WhK tU enc bad n x K) : WhK tU enc bad n x K' := by
 cases x with
 | ok v L => exact hK _ _ h
 | err p e => exact fun cs hb => hK _ _ (h cs hb)
theorem ROK_start {l : List Tok} (h : l.length ≤ 1048576) : ROK l 0 (l.map Tok.t0) := ⟨by omega, by omega, h, by simp [tz]⟩
def badU (cs : List PV) : Prop := ∃ a b c d e f : List (List D), cs = [.d (.sl a), .d (.sl b), .d (.sl c), .d (.sl d), .d (.sl e), .d (.sl f)]
noncomputable def tblUnit1 : Tbl := [(39, spUnit 64)]
noncomputable def spWhU : Spec := fun args σ K => match args, σ with
 | [.d (.str s), .d (.int .i64 by'), .d (.int .i64 most), .func g [] [.ptr 0 0]], ⟨[.cells tU c0], tk, n⟩ => (g = 38 ∧ by' = 65536 ∧ most = 16384 ∧ c0 = [.sl 0 57 [], .sl 1 44 [], .sl 2 52 [], .sl 3 62 [], .sl 4 64 [], .sl 5 87 []] ∧ tk = [5, 4, 3, 2, 1, 0] ∧ n = 6) ∧ s.length < 4294967281 ∧
   ∀ x, readTop 65536 16384 unitTop s = x → WhK tU (fun L n (v : Un) => (encUn (placeOf L n) v).map .d) badU s.length x K
 | _, _ => False
theorem spWhU_mono : SpecMono spWhU := fun args σ K K' hK h => by
 unfold spWhU at h ⊢
 split at h
 ·exact ⟨h.1, h.2.1, fun x hx => WhK_mono hK (h.2.2 x hx)⟩
 ·exact h.elim
noncomputable def tblWhU : Tbl := [(83, spTokQ), (38, spIn Tryz.f38 tblUnit1), (85, spFail)]
theorem wholeU_ok (ht : TblOK (GG w0 nG) tblWhU) : PCalls (GG w0 nG) 37 spWhU := by
 refine pcallsD tab_ok mixed (tbl := tblWhU) ht Tryz.func37 rfl (by kernel_rfl) (by kernel_rfl) def_ok ?_
 intro args σ K h
 unfold spWhU at h
 split at h
 ·obtain ⟨⟨rfl, rfl, rfl, rfl, rfl, rfl⟩, hs, h⟩ := h
  rename_i s tU
  have h := h _ rfl
  refine ⟨loopsOf [], unrOf [], tieOf [], 1, false, by simp, Nat.le_of_ble_eq_true rfl, ?_⟩
  unfold readTop at h
  conv => whnf
  refine CondP.dec (fun hc => ?_) (fun hc => ?_)
  ·rw [if_pos (by omega)] at h
   conv => whnf
   exact h _ ⟨_, _, _, _, _, _, rfl⟩
  rw [if_neg (by omega)] at h
  conv => whnf
  refine ⟨hs, fun l p c hx => ?_⟩
  have hlen := allF_le s 16384
  rw [show ((16384 : Nat) : Int) = 16384 from rfl, hx] at h
  rw [hx] at hlen
  refine ⟨fun h0 => ?_, fun h0 => ?_⟩
  ·subst h0
   rw [if_neg (by simp)] at h
   simp only at h hlen
   have ho := ROK_start (l := l) (by simp at hlen; omega)
   clear hx hlen
   generalize hts : l.map Tok.t0 = ts at h ho
   conv => whnf
   refine ⟨_, fun _ _ h => h, Nat.le_of_ble_eq_true rfl, ?_⟩
   conv => whnf
   refine ⟨l, ts, rfl, ho, by omega, fun x hx => ?_⟩
   rw [show unitTop ts = unitT false 64 ts from rfl, hx] at h
   rcases x with ⟨⟨v1, v2, v3, v4, v5, v6⟩, ts2⟩ | ⟨r, e⟩
   rotate_left
   ·intro a9 d9; (conv => whnf); refine ⟨Nat.le_of_ble_eq_true rfl, ?_⟩; (conv => whnf); (repeat (refine ⟨rfl, ?_⟩; conv => whnf)); exact h _ ⟨_, _, _, _, _, _, rfl⟩
   intro a2 hle2 ho2
   conv => whnf
   have hl2 := ho2.len
   (repeat (refine ⟨rfl, ?_⟩; conv => whnf))
   refine CondP.dec (fun hc3 => ?_) (fun hc3 => ?_)
   ·have hc3 : a2 < l.length := by have hc3 : a2 < ((toksR l).length : Int) := hc3; rw [toksR_len] at hc3; exact hc3
    cases ts2 with
    | nil => simp at hl2; omega
    | cons t0 ts3 =>
     conv => whnf
     refine ⟨l, _, rfl, ho2, ?_⟩
     conv => whnf
     refine ⟨Nat.le_of_ble_eq_true rfl, ?_⟩
     conv => whnf
     (repeat (refine ⟨rfl, ?_⟩; conv => whnf))
     exact h _ ⟨_, _, _, _, _, _, rfl⟩
   have hc3 : ¬ a2 < l.length := by have hc3 : ¬ a2 < ((toksR l).length : Int) := hc3; rw [toksR_len] at hc3; exact hc3
   obtain rfl : ts2 = [] := List.eq_nil_of_length_eq_zero (by omega)
   conv => whnf
   refine ⟨Nat.le_of_ble_eq_true rfl, ?_⟩
   conv => whnf
   exact h
  rw [if_pos h0] at h
  conv => whnf
  refine CondP.ndec (fun hc2 => ?_) (fun hc2 => absurd (show c = 0 by omega) h0)
  conv => whnf
  (repeat (refine ⟨rfl, ?_⟩; conv => whnf))
  exact h _ ⟨_, _, _, _, _, _, rfl⟩
 ·exact h.elim
end Go.PM.Lex
end

section
set_option maxRecDepth 100000
set_option maxHeartbeats 4000000
namespace Go.PM.Lex
open Go.Proofs
variable {w0 : World} {nG : Nat}
def TopK {α : Type} (enc : List Tok → α → PV) (zero : PV) (x : Top α) (K : PEnd → St → Prop) : Prop := match x with
 | .ok v L => K (.ret (.tuple [enc L v, .d (.int .i64 0), .d (.int .i64 0)])) ⟨[], [], 0⟩
 | .err p e => K (.ret (.tuple [zero, .d (.int .i64 p), .d (.int .i64 e)])) ⟨[], [], 0⟩
theorem TopK_mono {α : Type} {enc : List Tok → α → PV} {zero : PV} {x : Top α} {K K' : PEnd → St → Prop} (hK : ∀ e σ, K e σ → K' e σ) (h : TopK enc zero x K) : TopK enc zero x K' := by
 cases x <;> exact hK _ _ h
noncomputable def spTopU : Spec := fun args σ K => match args, σ with
 | [.d (.str s)], ⟨[], [], 0⟩ => s.length < 4294967281 ∧ ∀ x, readTop 65536 16384 unitTop s = x → TopK (fun L (v : Un) => aggD (encUn (placeOf L s.length) v)) (aggD (encUn (fun _ => 0) .nil)) x K
 | _, _ => False
theorem spTopU_mono : SpecMono spTopU := fun args σ K K' hK h => by
 unfold spTopU at h ⊢
 split at h
 ·exact ⟨h.1, fun x hx => TopK_mono hK (h.2 x hx)⟩
 ·exact h.elim
noncomputable def tblTopU : Tbl := [(37, spWhU)]
theorem topU_ok (ht : TblOK (GG w0 nG) tblTopU) : PCalls (GG w0 nG) 14 spTopU := by
 refine pcalls tab_ok mixed (tbl := tblTopU) ht Tryz.func14 rfl (by kernel_rfl) (by kernel_rfl) ?_
 intro args σ K h
 unfold spTopU at h
 split at h
 ·rename_i s
  obtain ⟨hs, h⟩ := h
  refine ⟨loopsOf [], 0, false, by simp, Nat.le_of_ble_eq_true rfl, ?_⟩
  conv => whnf
  refine ⟨⟨rfl, rfl, rfl, rfl, rfl, rfl⟩, hs, fun x hx => ?_⟩
  have h := h x hx
  cases x with
  | ok v L =>
   obtain ⟨v1, v2, v3, v4, v5, v6⟩ := v
   conv => whnf
   exact h
  | err p e =>
   have he := readTop_err unitTop_good hx
   intro cs hcs
   obtain ⟨b1, b2, b3, b4, b5, b6, rfl⟩ := hcs
   conv => whnf
   refine CondP.ndec (fun hc => ?_) (fun hc => absurd (show e = 0 by omega) he)
   conv => whnf
   exact h
 ·exact h.elim
theorem cWhole_tok (hg : GlobOK w0 nG) : PCalls (GG w0 nG) 83 spTokQ := tokQ_of (cTokens hg)
theorem cTopU (hg : GlobOK w0 nG) : PCalls (GG w0 nG) 14 spTopU := topU_ok ⟨⟨wholeU_ok ⟨⟨cWhole_tok hg, spTokQ_mono⟩, ⟨in_ok (tb := tblUnit1) ⟨⟨cUnit 64, spUnit_mono 64⟩, trivial⟩ Tryz.func38 rfl (by kernel_rfl) (by kernel_rfl), spIn_mono _ _⟩, ⟨cFail, spFail_mono⟩, trivial⟩, spWhU_mono⟩, trivial⟩
end Go.PM.Lex
end

section
set_option maxRecDepth 100000
set_option maxHeartbeats 4000000
namespace Go.PM.Lex
open Go.Proofs
variable {w0 : World} {nG : Nat}
mutual
def sameE : Ex → Ex → Bool
 | .mk o1 t1 n1 l1 _, .mk o2 t2 n2 l2 _ => decide (o1 = o2) && (decide (t1 = t2) && (decide (n1 = n2) && sameEs l1 l2))
def sameEs : List Ex → List Ex → Bool
 | [], [] => true
 | x :: l, y :: m => sameE x y && sameEs l m
 | _, _ => false
end
mutual
def szE : Ex → Nat
 | .mk _ _ _ l _ => 1 + szEs l
def szEs : List Ex → Nat
 | [] => 0
 | x :: l => 1 + szE x + szEs l
end
theorem szEs_len : ∀ (l : List Ex), l.length ≤ szEs l
 | [] => Nat.le_refl _
 | x :: l => by have := szEs_len l; simp only [List.length_cons, szEs]; omega
theorem szEs_get : ∀ (l : List Ex) (i : Nat) (h : i < l.length), szE l[i] < szEs l
 | x :: l, 0, h => by simp only [List.getElem_cons_zero, szEs]; omega
 | x :: l, i + 1, h => by have := szEs_get l i (by simpa using h); simp only [List.getElem_cons_succ, szEs]; omega
theorem sameEs_ne : ∀ (l m : List Ex), l.length ≠ m.length → sameEs l m = false
 | [], [], h => absurd rfl h
 | [], _ :: _, _ => by simp [sameEs]
 | _ :: _, [], _ => by simp [sameEs]
 | x :: l, y :: m, h => by simp [sameEs, sameEs_ne l m (by simpa using h)]
theorem sameEs_drop {l m : List Ex} {i : Nat} (h1 : i < l.length) (h2 : i < m.length) : sameEs (l.drop i) (m.drop i) = (sameE l[i] m[i] && sameEs (l.drop (i + 1)) (m.drop (i + 1))) := by
 rw [List.drop_eq_getElem_cons h1, List.drop_eq_getElem_cons h2, sameEs]
noncomputable def spSameE (n : Nat) : Spec := fun args σ K => match args, σ with
 | [.agg c1, .agg c2, .d (.bool at')], ⟨[], [], 0⟩ => ∃ pl1 e1 pl2 e2, c1 = (encE pl1 e1).map .d ∧ c2 = (encE pl2 e2).map .d ∧ (at' = false ∧ szE e1 ≤ n ∧ n ≤ 1099511627776) ∧ ∀ b, sameE e1 e2 = b → K (.ret (.d (.bool b))) ⟨[], [], 0⟩
 | _, _ => False
theorem spSameE_mono (n : Nat) : SpecMono (spSameE n) := fun args σ K K' hK h => by
 unfold spSameE at h ⊢
 split at h
 ·obtain ⟨p1, e1, p2, e2, h1, h2, h3, h4⟩ := h
  exact ⟨p1, e1, p2, e2, h1, h2, h3, fun b hb => hK _ _ (h4 b hb)⟩
 ·exact h.elim
noncomputable def spSameEs (n : Nat) : Spec := fun args σ K => match args, σ with
 | [.d (.sl r1), .d (.sl r2), .d (.bool at')], ⟨[], [], 0⟩ => ∃ pl1 l1 pl2 l2, r1 = encEs pl1 l1 ∧ r2 = encEs pl2 l2 ∧ (at' = false ∧ szEs l1 ≤ n ∧ n ≤ 1099511627776) ∧ ∀ b, sameEs l1 l2 = b → K (.ret (.d (.bool b))) ⟨[], [], 0⟩
 | _, _ => False
theorem spSameEs_mono (n : Nat) : SpecMono (spSameEs n) := fun args σ K K' hK h => by
 unfold spSameEs at h ⊢
 split at h
 ·obtain ⟨p1, e1, p2, e2, h1, h2, h3, h4⟩ := h
  exact ⟨p1, e1, p2, e2, h1, h2, h3, fun b hb => hK _ _ (h4 b hb)⟩
 ·exact h.elim
noncomputable def spSameEB (n : Nat) : Spec := fun args σ K => 0 < n ∧ spSameE (n - 1) args σ K
theorem spSameEB_mono (n : Nat) : SpecMono (spSameEB n) := fun args σ K K' hK h => ⟨h.1, spSameE_mono _ _ _ _ _ hK h.2⟩
noncomputable def spSameEsB (n : Nat) : Spec := fun args σ K => 0 < n ∧ spSameEs (n - 1) args σ K
theorem spSameEsB_mono (n : Nat) : SpecMono (spSameEsB n) := fun args σ K K' hK h => ⟨h.1, spSameEs_mono _ _ _ _ _ hK h.2⟩
noncomputable def tblSameE (n : Nat) : Tbl := [(54, spSameEsB n)]
theorem sameE_ok {n : Nat} (ht : TblOK (GG w0 nG) (tblSameE n)) : PCalls (GG w0 nG) 25 (spSameE n) := by
 refine pcalls tab_ok mixed (tbl := tblSameE n) ht Tryz.func25 rfl (by kernel_rfl) (by kernel_rfl) ?_
 intro args σ K h
 unfold spSameE at h
 split at h
 ·obtain ⟨p1, ⟨a1, a2, a3, a4, a5⟩, p2, ⟨b1, b2, b3, b4, b5⟩, rfl, rfl, ⟨rfl, hz, hn⟩, h⟩ := h
  have h := h _ rfl
  rw [sameE] at h
  rw [szE] at hz
  refine ⟨loopsOf [], 0, false, by simp, Nat.le_of_ble_eq_true rfl, ?_⟩
  conv => whnf
  refine CondP.dec (fun h1 => ?_) (fun h1 => ?_)
  ·rw [decide_eq_true (show a1 = b1 by omega), Bool.true_and] at h
   conv => whnf
   refine CondP.dec (fun h2 => ?_) (fun h2 => ?_)
   ·rw [decide_eq_true h2, Bool.true_and] at h
    conv => whnf
    refine CondP.dec (fun h3 => ?_) (fun h3 => ?_)
    ·rw [decide_eq_true h3, Bool.true_and] at h
     conv => whnf
     refine ⟨by omega, p1, a4, p2, b4, rfl, rfl, ⟨rfl, by omega, by omega⟩, fun b hb => ?_⟩
     rw [hb] at h
     conv => whnf
     exact h
    ·rw [decide_eq_false h3, Bool.false_and] at h
     conv => whnf
     exact h
   ·rw [decide_eq_false h2, Bool.false_and] at h
    conv => whnf
    exact h
  ·rw [decide_eq_false (show ¬ a1 = b1 by omega), Bool.false_and] at h
   conv => whnf
   exact h
 ·exact h.elim
noncomputable def tblSameEs (n : Nat) : Tbl := [(25, spSameEB n)]
theorem sameEs_ok {n : Nat} (ht : TblOK (GG w0 nG) (tblSameEs n)) : PCalls (GG w0 nG) 54 (spSameEs n) := by
 refine pcalls tab_ok mixed (tbl := tblSameEs n) ht Tryz.func54 rfl (by kernel_rfl) (by kernel_rfl) ?_
 intro args σ K h
 unfold spSameEs at h
 split at h
 ·obtain ⟨p1, l1, p2, l2, rfl, rfl, ⟨rfl, hz, hn⟩, h⟩ := h
  have h := h _ rfl
  have hlen1 : (encEs p1 l1).length = l1.length := by rw [encEs_eq, List.length_map]
  have hlen2 : (encEs p2 l2).length = l2.length := by rw [encEs_eq, List.length_map]
  have hsz := szEs_len l1
  refine ⟨loopsOf [(4, ⟨[7], [0, 1, 2], fun vs σ => ∃ i : Nat, vs = [.d (.int .i64 i)] ∧ σ = ⟨[], [], 0⟩ ∧ i ≤ l1.length ∧ sameEs l1 l2 = sameEs (l1.drop i) (l2.drop i), fun vs _ => match vs with | [.d (.int _ i)] => ((l1.length : Int) - i).toNat | _ => 0⟩)], 0, false, by simp, Nat.le_of_ble_eq_true rfl, ?_⟩
  conv => whnf
  refine CondP.ndec (fun hc => ?_) (fun hc => ?_)
  ·have hc : l1.length ≠ l2.length := fun g => hc (by show ((encEs p1 l1).length : Int) = (encEs p2 l2).length; rw [hlen1, hlen2, g])
   rw [sameEs_ne _ _ hc] at h
   conv => whnf
   exact h
  ·have hc : l1.length = l2.length := by have hc : ((encEs p1 l1).length : Int) = (encEs p2 l2).length := hc; rw [hlen1, hlen2] at hc; omega
   conv => whnf
   refine ⟨⟨0, rfl, rfl, by omega, rfl⟩, ?_⟩
   intro vs σ hI
   obtain ⟨i, rfl, rfl, hi, hs⟩ := hI
   conv => whnf
   refine CondP.dec (fun hi2 => ?_) (fun hi2 => ?_)
   ·have hi2 : i < l1.length := by have hi2 : (i : Int) < (encEs p1 l1).length := hi2; rw [hlen1] at hi2; omega
    have hi3 : i < l2.length := by omega
    have hg := szEs_get l1 i hi2
    rw [sameEs_drop hi2 hi3] at hs
    obtain ⟨eA, hA⟩ : ∃ e, l1[i] = e := ⟨_, rfl⟩
    obtain ⟨eB, hB⟩ : ∃ e, l2[i] = e := ⟨_, rfl⟩
    obtain ⟨a1, a2, a3, a4, a5⟩ := eA
    obtain ⟨b1, b2, b3, b4, b5⟩ := eB
    rw [hA, hB] at hs
    rw [hA] at hg
    conv => whnf
    refine ⟨encE p1 (.mk a1 a2 a3 a4 a5), by omega, by rw [encEs_eq]; simp [hi2, hA], ?_⟩
    conv => whnf
    refine ⟨encE p2 (.mk b1 b2 b3 b4 b5), by omega, by rw [encEs_eq]; simp [hi3, hB], ?_⟩
    conv => whnf
    refine ⟨by omega, p1, .mk a1 a2 a3 a4 a5, p2, .mk b1 b2 b3 b4 b5, rfl, rfl, ⟨rfl, by omega, by omega⟩, fun b hb => ?_⟩
    rw [hb] at hs
    cases b with
    | true =>
     rw [Bool.true_and] at hs
     conv => whnf
     (repeat (refine ⟨rfl, ?_⟩; conv => whnf))
     refine Or.inl ⟨InR.i64 (by omega) (by omega), ?_⟩
     conv => whnf
     refine ⟨⟨i + 1, rfl, rfl, by omega, hs⟩, ?_⟩
     show ((l1.length : Int) - ((i : Int) + 1)).toNat < ((l1.length : Int) - (i : Int)).toNat
     omega
    | false =>
     rw [hs, Bool.false_and] at h
     conv => whnf
     (repeat (refine ⟨rfl, ?_⟩; conv => whnf))
     exact h
   ·have hi2 : l1.length ≤ i := by have hi2 : ¬ (i : Int) < (encEs p1 l1).length := hi2; rw [hlen1] at hi2; omega
    rw [List.drop_eq_nil_of_le hi2, List.drop_eq_nil_of_le (by omega)] at hs
    rw [hs] at h
    conv => whnf
    exact h
 ·exact h.elim
theorem cSame : ∀ n, PCalls (GG w0 nG) 25 (spSameE n) ∧ PCalls (GG w0 nG) 54 (spSameEs n)
 | 0 => ⟨sameE_ok ⟨⟨⟨enters_of Tryz.func54 (by kernel_rfl) rfl, fun args σ K hs => absurd hs.1 (by omega)⟩, spSameEsB_mono 0⟩, trivial⟩, sameEs_ok ⟨⟨⟨enters_of Tryz.func25 (by kernel_rfl) rfl, fun args σ K hs => absurd hs.1 (by omega)⟩, spSameEB_mono 0⟩, trivial⟩⟩
 | n + 1 => ⟨sameE_ok ⟨⟨(cSame n).2.weaken1 fun args σ K hs => hs.2, spSameEsB_mono _⟩, trivial⟩, sameEs_ok ⟨⟨(cSame n).1.weaken1 fun args σ K hs => hs.2, spSameEB_mono _⟩, trivial⟩⟩
noncomputable def spTrue15 : Spec := fun args σ K => match args, σ with
 | [], ⟨[], [], 0⟩ => K (.ret (.d (.bool true))) ⟨[], [], 0⟩
 | _, _ => False
theorem spTrue15_mono : SpecMono spTrue15 := fun args σ K K' hK h => by
 unfold spTrue15 at h ⊢
 split at h
 ·exact hK _ _ h
 ·exact h.elim
def worksB : Bs := [112, 40, 120, 41, 32, 58, 45, 32, 113, 40, 120, 44, 32, 49, 41, 44, 32, 120, 32, 60, 32, 50, 46]
def Li.op : Li → Nat | .mk o _ _ _ _ => o
def chkWorks : Top Un → Bool
 | .ok (.mk _ _ [⟨h, _, [_, l], _⟩] _ _ _) _ => decide (h = [112]) && decide (l.op = 5)
 | _ => false
theorem works_chk : chkWorks (readTop 65536 16384 unitTop worksB) = true := by decide +kernel
noncomputable def tblWorks15 : Tbl := [(14, spTopU), (40, spKept)]
theorem works15_ok (ht : TblOK (GG w0 nG) tblWorks15) : PCalls (GG w0 nG) 15 spTrue15 := by
 refine pcalls tab_ok mixed (tbl := tblWorks15) ht Tryz.func15 rfl (by kernel_rfl) (by kernel_rfl) ?_
 intro args σ K h
 unfold spTrue15 at h
 split at h
 ·refine ⟨loopsOf [], 0, false, by simp, Nat.le_of_ble_eq_true rfl, ?_⟩
  conv => whnf
  refine ⟨by decide, fun x hx => ?_⟩
  have hw := works_chk
  rw [show readTop 65536 16384 unitTop worksB = x from hx] at hw
  unfold chkWorks at hw
  split at hw
  ·rename_i t1 t2 hd1 ar l1 l2 p1 c1 i1 o1 LL
   rw [Bool.and_eq_true, decide_eq_true_eq, decide_eq_true_eq] at hw
   obtain ⟨rfl, hop⟩ := hw
   obtain ⟨a1, a2, a3, a4, a5⟩ := l1
   obtain ⟨b1, b2, b3, b4, b5⟩ := l2
   obtain rfl : b1 = 5 := hop
   conv => whnf
   refine ⟨_, by decide, rfl, ?_⟩
   conv => whnf
   refine ⟨_, by decide, rfl, ?_⟩
   conv => whnf
   refine ⟨_, by decide, rfl, ?_⟩
   conv => whnf
   refine ⟨_, by decide, rfl, ?_⟩
   conv => whnf
   intro b hb
   obtain rfl : b = true := hb.symm.trans (by decide)
   conv => whnf
   intro b hb
   obtain rfl : b = false := hb.symm.trans (by decide)
   conv => whnf
   exact h
  ·cases hw
 ·exact h.elim
end Go.PM.Lex
end

section
namespace Go.PM.Lex
mutual
def erE : Ex → Ex
 | .mk op t n args _ => .mk op t n (erEs args) 0
def erEs : List Ex → List Ex
 | [] => []
 | e :: l => erE e :: erEs l
end
theorem erEs_eq (l : List Ex) : erEs l = l.map erE := by induction l with | nil => rfl | cons x l ih => simp [erEs, ih]
mutual
def erL : Li → Li
 | .mk op rel args body _ => .mk op rel (erEs args) (erLs body) 0
def erLs : List Li → List Li
 | [] => []
 | e :: l => erL e :: erLs l
end
theorem erLs_eq (l : List Li) : erLs l = l.map erL := by induction l with | nil => rfl | cons x l ih => simp [erLs, ih]
def erRu (r : Ru) : Ru := ⟨r.head, r.args.map erE, r.body.map erL, 0⟩
def erTy (t : Ty) : Ty := { t with at' := 0 }
def erRe (t : Re) : Re := { t with at' := 0 }
def erIn (t : Ini) : Ini := { t with at' := 0 }
def erOv (t : Ov) : Ov := { t with at' := 0 }
mutual
def erUn : Un → Un
 | .mk a b c d e f => .mk (a.map erTy) (b.map erRe) (c.map erRu) (erCos d) (e.map erIn) (f.map erOv)
def erCo : Co → Co
 | .mk nm ps base tys u _ => .mk nm ps base tys (erUn u) 0
def erCos : List Co → List Co
 | [] => []
 | e :: l => erCo e :: erCos l
end
theorem erCos_eq (l : List Co) : erCos l = l.map erCo := by induction l with | nil => rfl | cons x l ih => simp [erCos, ih]
def Stb {α : Type} (er : α → α) (m : Ts) (x y : R α) : Prop := ∀ v ts, x = .ok v ts → ∃ v', er v' = er v ∧ y = .ok v' (ts ++ m)
section
variable {α β : Type} {er : α → α} {er2 : β → β} {m : Ts}
theorem Stb.ok {v v' : α} {ts : Ts} (h : er v' = er v) : Stb er m (.ok v ts) (.ok v' (ts ++ m)) := fun w rest e => by cases e; exact ⟨v', h, rfl⟩
theorem Stb.ok' {v v' : α} {ts ts' : Ts} (h : er v' = er v) (e : ts' = ts ++ m) : Stb er m (.ok v ts) (.ok v' ts') := e ▸ Stb.ok h
theorem Stb.err {r e : Nat} {y : R α} : Stb er m (.err r e) y := fun w rest e => by cases e
theorem Stb.bind {x y : R α} {f g : α → Ts → R β} (h : Stb er m x y) (hf : ∀ v v' ts, er v' = er v → Stb er2 m (f v ts) (g v' (ts ++ m))) : Stb er2 m (x.bind f) (y.bind g) := fun w rest e => by
 cases x with
 | ok v ts =>
  obtain ⟨v', h1, rfl⟩ := h v ts rfl
  exact hf v v' ts h1 w rest e
 | err r e' => cases e
theorem Stb.binds {x y : R α} {f g : α → Ts → R β} (h : Stb id m x y) (hf : ∀ v ts, Stb er2 m (f v ts) (g v (ts ++ m))) : Stb er2 m (x.bind f) (y.bind g) := Stb.bind h fun v v' ts e => by cases (show v' = v from e); exact hf v ts
end
variable {m : Ts}
theorem isW_nil (ws : List Bs) : isW [] ws = false := by simp [isW, hd]
theorem isW_pos {ts : Ts} {ws : List Bs} (h : isW ts ws = true) : ∃ t l, ts = t :: l := by
 cases ts with
 | nil => rw [isW_nil] at h; cases h
 | cons t l => exact ⟨t, l, rfl⟩
theorem bin_pos {ts : Ts} (h : (binF ts).1 ≠ 0) : ∃ t l, ts = t :: l := by
 cases ts with
 | nil => exact absurd rfl h
 | cons t l => exact ⟨t, l, rfl⟩
def Un.le : Un → Un → Prop
 | .mk a1 a2 a3 a4 a5 a6, .mk b1 b2 b3 b4 b5 b6 => a1.length ≤ b1.length ∧ a2.length ≤ b2.length ∧ a3.length ≤ b3.length ∧ a4.length ≤ b4.length ∧ a5.length ≤ b5.length ∧ a6.length ≤ b6.length
theorem Un.le_refl : ∀ u : Un, Un.le u u | .mk .. => ⟨Nat.le_refl _, Nat.le_refl _, Nat.le_refl _, Nat.le_refl _, Nat.le_refl _, Nat.le_refl _⟩
theorem Un.le_trans : ∀ {u v w : Un}, Un.le u v → Un.le v w → Un.le u w
 | .mk .., .mk .., .mk .., ⟨h1, h2, h3, h4, h5, h6⟩, ⟨k1, k2, k3, k4, k5, k6⟩ => ⟨by omega, by omega, by omega, by omega, by omega, by omega⟩
def Un.room : Un → Un → Prop
 | .mk a1 a2 a3 a4 a5 a6, .mk b1 b2 b3 b4 b5 b6 => a1.length + b1.length ≤ 256 ∧ a2.length + b2.length ≤ 256 ∧ a3.length + b3.length ≤ 1024 ∧ a4.length + b4.length ≤ 64 ∧ a5.length + b5.length ≤ 256 ∧ a6.length + b6.length ≤ 256
theorem R.bind_of {α β : Type} {x : R α} {f : α → Ts → R β} {v : β} {ts : Ts} (h : x.bind f = .ok v ts) : ∃ a ts1, x = .ok a ts1 ∧ f a ts1 = .ok v ts := by
 cases x with
 | ok a ts1 => exact ⟨a, ts1, rfl, h⟩
 | err r e => cases h
end Go.PM.Lex
end

section
set_option maxRecDepth 100000
set_option maxHeartbeats 4000000
namespace Go.PM.Lex
open Go.Proofs
variable {w0 : World} {nG : Nat}
def allS {α : Type} (f : α → α → Bool) : List α → List α → Bool
 | [], [] => true
 | x :: l, y :: m => f x y && allS f l m
 | _, _ => false
theorem allS_ne {α : Type} (f : α → α → Bool) : ∀ (l m : List α), l.length ≠ m.length → allS f l m = false
 | [], [], h => absurd rfl h
 | [], _ :: _, _ => rfl
 | _ :: _, [], _ => rfl
 | x :: l, y :: m, h => by rw [allS, allS_ne f l m (by simpa using h), Bool.and_false]
theorem allS_drop {α : Type} (f : α → α → Bool) {l m : List α} {i : Nat} (h1 : i < l.length) (h2 : i < m.length) : allS f (l.drop i) (m.drop i) = (f l[i] m[i] && allS f (l.drop (i + 1)) (m.drop (i + 1))) := by
 rw [List.drop_eq_getElem_cons h1, List.drop_eq_getElem_cons h2, allS]
theorem allS_end {α : Type} (f : α → α → Bool) {l m : List α} {i : Nat} (h1 : l.length ≤ i) (h2 : m.length ≤ i) : allS f (l.drop i) (m.drop i) = true := by
 rw [List.drop_eq_nil_of_le h1, List.drop_eq_nil_of_le h2]; rfl
def szS {α : Type} (f : α → Nat) : List α → Nat
 | [] => 0
 | x :: l => 1 + f x + szS f l
theorem szS_len {α : Type} (f : α → Nat) : ∀ (l : List α), l.length ≤ szS f l
 | [] => Nat.le_refl _
 | x :: l => by have := szS_len f l; simp only [List.length_cons, szS]; omega
theorem szS_get {α : Type} (f : α → Nat) : ∀ (l : List α) (i : Nat) (h : i < l.length), f l[i] < szS f l
 | x :: l, 0, h => by simp only [List.getElem_cons_zero, szS]; omega
 | x :: l, i + 1, h => by have := szS_get f l i (by simpa using h); simp only [List.getElem_cons_succ, szS]; omega
theorem sameEs_eq : ∀ (l m : List Ex), sameEs l m = allS sameE l m
 | [], [] => rfl
 | [], _ :: _ => by rw [sameEs, allS] <;> simp
 | _ :: _, [] => by rw [sameEs, allS] <;> simp
 | x :: l, y :: m => by rw [sameEs, allS, sameEs_eq l m]
theorem szEs_eq : ∀ (l : List Ex), szEs l = szS szE l
 | [] => rfl
 | x :: l => by rw [szEs, szS, szEs_eq l]
def eqB (a b : Bs) : Bool := decide (a = b)
mutual
def sameL : Li → Li → Bool
 | .mk o1 r1 a1 b1 _, .mk o2 r2 a2 b2 _ => decide ((o1 : Int) = o2) && (decide (r1 = r2) && (allS sameE a1 a2 && sameLs b1 b2))
def sameLs : List Li → List Li → Bool
 | [], [] => true
 | x :: l, y :: m => sameL x y && sameLs l m
 | _, _ => false
end
theorem sameLs_eq : ∀ (l m : List Li), sameLs l m = allS sameL l m
 | [], [] => by rw [sameLs, allS]
 | [], _ :: _ => by rw [sameLs, allS] <;> simp
 | _ :: _, [] => by rw [sameLs, allS] <;> simp
 | x :: l, y :: m => by rw [sameLs, allS, sameLs_eq l m]
mutual
def szL : Li → Nat
 | .mk _ _ a b _ => 1 + szS szE a + szLs b
def szLs : List Li → Nat
 | [] => 0
 | x :: l => 1 + szL x + szLs l
end
theorem szLs_eq : ∀ (l : List Li), szLs l = szS szL l
 | [] => by rw [szLs, szS]
 | x :: l => by rw [szLs, szS, szLs_eq l]
def sameFi (f g : Fi) : Bool := decide (f.name = g.name) && (decide (f.typ = g.typ) && true)
def sameRu (r s : Ru) : Bool := decide (r.head = s.head) && (allS sameE r.args s.args && allS sameL r.body s.body)
def szRu (r : Ru) : Nat := 1 + szS szE r.args + szS szL r.body
def sz0 {α : Type} (_ : α) : Nat := 0
def sameCa (c d : Ca) : Bool := decide (c.name = d.name) && allS sameFi c.fields d.fields
def szCa (c : Ca) : Nat := 1 + szS sz0 c.fields
def sameTy (a b : Ty) : Bool := decide ((a.kind : Int) = b.kind) && (decide (a.name = b.name) && (decide (a.base = b.base) && (allS sameFi a.fields b.fields && allS sameCa a.cases b.cases)))
def szTy (a : Ty) : Nat := 1 + szS sz0 a.fields + szS szCa a.cases
def sameRe (a b : Re) : Bool := decide (a.name = b.name) && (decide (a.inn = b.inn) && (decide (a.out = b.out) && (decide (a.inl = b.inl) && allS sameFi a.fields b.fields)))
def szRe (a : Re) : Nat := 1 + szS sz0 a.fields
def sameIn (a b : Ini) : Bool := decide (a.name = b.name) && (decide (a.comp = b.comp) && allS eqB a.types b.types)
def szIn (a : Ini) : Nat := 1 + szS sz0 a.types
def sameOv (a b : Ov) : Bool := decide (a.rel = b.rel)
mutual
def sameUn : Un → Un → Bool
 | .mk a1 a2 a3 a4 a5 a6, .mk b1 b2 b3 b4 b5 b6 => allS sameTy a1 b1 && (allS sameRe a2 b2 && (allS sameRu a3 b3 && (sameCos a4 b4 && (allS sameIn a5 b5 && allS sameOv a6 b6))))
def sameCo : Co → Co → Bool
 | .mk n1 p1 b1 t1 u1 _, .mk n2 p2 b2 t2 u2 _ => decide (n1 = n2) && (decide (b1 = b2) && (allS eqB p1 p2 && (allS eqB t1 t2 && sameUn u1 u2)))
def sameCos : List Co → List Co → Bool
 | [], [] => true
 | x :: l, y :: m => sameCo x y && sameCos l m
 | _, _ => false
end
theorem sameCos_eq : ∀ (l m : List Co), sameCos l m = allS sameCo l m
 | [], [] => by rw [sameCos, allS]
 | [], _ :: _ => by rw [sameCos, allS] <;> simp
 | _ :: _, [] => by rw [sameCos, allS] <;> simp
 | x :: l, y :: m => by rw [sameCos, allS, sameCos_eq l m]
mutual
def szUn : Un → Nat
 | .mk a1 a2 a3 a4 a5 a6 => 1 + szS szTy a1 + szS szRe a2 + szS szRu a3 + szCos a4 + szS szIn a5 + szS sz0 a6
def szCo : Co → Nat
 | .mk _ p _ t u _ => 1 + szS sz0 p + szS sz0 t + szUn u
def szCos : List Co → Nat
 | [] => 0
 | x :: l => 1 + szCo x + szCos l
end
theorem szCos_eq : ∀ (l : List Co), szCos l = szS szCo l
 | [] => by rw [szCos, szS]
 | x :: l => by rw [szCos, szS, szCos_eq l]
noncomputable def spLS {α : Type} (enc : Pl → α → List D) (f : α → α → Bool) (sz : α → Nat) (n : Nat) : Spec := fun args σ K => match args, σ with
 | [.d (.sl r1), .d (.sl r2), .d (.bool at')], ⟨[], [], 0⟩ => ∃ pl1 l1 pl2 l2, r1 = l1.map (enc pl1) ∧ r2 = l2.map (enc pl2) ∧ (at' = false ∧ szS sz l1 ≤ n ∧ n ≤ 1099511627776) ∧ ∀ b, allS f l1 l2 = b → K (.ret (.d (.bool b))) ⟨[], [], 0⟩
 | _, _ => False
theorem spLS_mono {α : Type} (enc : Pl → α → List D) (f : α → α → Bool) (sz : α → Nat) (n : Nat) : SpecMono (spLS enc f sz n) := fun args σ K K' hK h => by
 unfold spLS at h ⊢
 split at h
 ·obtain ⟨p1, l1, p2, l2, h1, h2, h3, h4⟩ := h
  exact ⟨p1, l1, p2, l2, h1, h2, h3, fun b hb => hK _ _ (h4 b hb)⟩
 ·exact h.elim
noncomputable def spL2 {α : Type} (enc : α → List D) (f : α → α → Bool) (n : Nat) : Spec := fun args σ K => match args, σ with
 | [.d (.sl r1), .d (.sl r2)], ⟨[], [], 0⟩ => ∃ l1 l2, r1 = l1.map enc ∧ r2 = l2.map enc ∧ (szS (sz0 (α := α)) l1 ≤ n ∧ n ≤ 1099511627776) ∧ ∀ b, allS f l1 l2 = b → K (.ret (.d (.bool b))) ⟨[], [], 0⟩
 | _, _ => False
theorem spL2_mono {α : Type} (enc : α → List D) (f : α → α → Bool) (n : Nat) : SpecMono (spL2 enc f n) := fun args σ K K' hK h => by
 unfold spL2 at h ⊢
 split at h
 ·obtain ⟨l1, l2, h1, h2, h3, h4⟩ := h
  exact ⟨l1, l2, h1, h2, h3, fun b hb => hK _ _ (h4 b hb)⟩
 ·exact h.elim
def spB (sp : Nat → Spec) (n : Nat) : Spec := fun args σ K => 0 < n ∧ sp (n - 1) args σ K
theorem spB_mono {sp : Nat → Spec} (h : ∀ n, SpecMono (sp n)) (n : Nat) : SpecMono (spB sp n) := fun args σ K K' hK g => ⟨g.1, h _ _ _ _ _ hK g.2⟩
theorem pcalls_none {g : FuncId} {sp : Nat → Spec} (h : Enters (GG w0 nG).P g) : PCalls (GG w0 nG) g (spB sp 0) := ⟨h, fun args σ K hs => absurd hs.1 (by omega)⟩
theorem pcalls_less {g : FuncId} {sp : Nat → Spec} {n : Nat} (h : PCalls (GG w0 nG) g (sp n)) : PCalls (GG w0 nG) g (spB sp (n + 1)) := h.weaken1 fun args σ K hs => hs.2
theorem cSameEs (n : Nat) : PCalls (GG w0 nG) 54 (spLS encE sameE szE n) := (cSame n).2.weaken1 fun args σ K hs => by
 unfold spLS at hs
 unfold spSameEs
 split at hs
 ·obtain ⟨p1, l1, p2, l2, rfl, rfl, ⟨h1, h2, h3⟩, h4⟩ := hs
  exact ⟨p1, l1, p2, l2, (encEs_eq _ _).symm, (encEs_eq _ _).symm, ⟨h1, by rw [szEs_eq]; exact h2, h3⟩, fun b hb => h4 b (by rw [← sameEs_eq]; exact hb)⟩
 ·exact hs.elim
theorem kFields_ok {n : Nat}  : PCalls (GG w0 nG) 100 (spL2 encFi sameFi n) := by
 refine pcalls tab_ok mixed (tbl := []) trivial Tryz.func100 rfl (by kernel_rfl) (by kernel_rfl) ?_
 intro args σ K h
 unfold spL2 at h
 split at h
 ·obtain ⟨l1, l2, rfl, rfl, ⟨hz, hn⟩, h⟩ := h
  have h := h _ rfl
  have hlen1 : (l1.map encFi).length = l1.length := List.length_map ..
  have hlen2 : (l2.map encFi).length = l2.length := List.length_map ..
  have hsz := szS_len sz0 l1
  refine ⟨loopsOf [(4, ⟨[5], [0, 1], fun vs σ => ∃ i : Nat, vs = [.d (.int .i64 i)] ∧ σ = ⟨[], [], 0⟩ ∧ i ≤ l1.length ∧ allS sameFi l1 l2 = allS sameFi (l1.drop i) (l2.drop i), fun vs _ => match vs with | [.d (.int _ i)] => ((l1.length : Int) - i).toNat | _ => 0⟩)], 0, false, by simp, Nat.le_of_ble_eq_true rfl, ?_⟩
  conv => whnf
  refine CondP.ndec (fun hc => ?_) (fun hc => ?_)
  ·have hc : l1.length ≠ l2.length := fun g => hc (by show ((l1.map encFi).length : Int) = (l2.map encFi).length; rw [hlen1, hlen2, g])
   rw [allS_ne _ _ _ hc] at h
   conv => whnf
   exact h
  have hc : l1.length = l2.length := by have hc : ((l1.map encFi).length : Int) = (l2.map encFi).length := hc; rw [hlen1, hlen2] at hc; omega
  conv => whnf
  refine ⟨⟨0, rfl, rfl, by omega, rfl⟩, ?_⟩
  intro vs σ hI
  obtain ⟨i, rfl, rfl, hi, hs⟩ := hI
  conv => whnf
  refine CondP.dec (fun hi2 => ?_) (fun hi2 => ?_)
  rotate_left
  ·have hi2 : l1.length ≤ i := by have hi2 : ¬ (i : Int) < (l1.map encFi).length := hi2; rw [hlen1] at hi2; omega
   rw [allS_end _ hi2 (by omega)] at hs
   rw [hs] at h
   conv => whnf
   exact h
  have hi2 : i < l1.length := by have hi2 : (i : Int) < (l1.map encFi).length := hi2; rw [hlen1] at hi2; omega
  have hi3 : i < l2.length := by omega
  have hg := szS_get sz0 l1 i hi2
  rw [allS_drop _ hi2 hi3] at hs
  obtain ⟨eA, hA⟩ : ∃ e, l1[i] = e := ⟨_, rfl⟩
  obtain ⟨eB, hB⟩ : ∃ e, l2[i] = e := ⟨_, rfl⟩
  obtain ⟨a1, a2⟩ := eA
  obtain ⟨b1, b2⟩ := eB
  have hr1 : (l1.map encFi)[((i : Nat) : Int).toNat]? = some (encFi (⟨a1, a2⟩ : Fi)) := by simp [hi2, hA]
  have hr2 : (l2.map encFi)[((i : Nat) : Int).toNat]? = some (encFi (⟨b1, b2⟩ : Fi)) := by simp [hi3, hB]
  rw [hA, hB] at hs
  have hneg : sameFi (⟨a1, a2⟩ : Fi) (⟨b1, b2⟩ : Fi) = false → K (.ret (.d (.bool false))) ⟨[], [], 0⟩ := fun he => by rw [hs, he, Bool.false_and] at h; exact h
  conv => whnf
  (repeat (first | (refine ⟨_, by omega, hr1, ?_⟩; conv => whnf) | (refine ⟨_, by omega, hr2, ?_⟩; conv => whnf)))
  refine CondP.intro (fun hc1 => ?_) (fun hc1 => ?_)
  ·(conv => whnf); exact hneg ((Bool.not_eq_true' _).mp hc1)
  conv => whnf
  have he : sameFi (⟨a1, a2⟩ : Fi) (⟨b1, b2⟩ : Fi) = true := (Bool.not_eq_false' _).mp hc1
  rw [he, Bool.true_and] at hs
  refine Or.inl ⟨InR.i64 (by omega) (by omega), ?_⟩
  conv => whnf
  refine ⟨⟨i + 1, rfl, rfl, by omega, hs⟩, ?_⟩
  show ((l1.length : Int) - ((i : Int) + 1)).toNat < ((l1.length : Int) - (i : Int)).toNat
  omega
 ·exact h.elim
theorem kTexts_ok {n : Nat}  : PCalls (GG w0 nG) 45 (spL2 encBs eqB n) := by
 refine pcalls tab_ok mixed (tbl := []) trivial Tryz.func45 rfl (by kernel_rfl) (by kernel_rfl) ?_
 intro args σ K h
 unfold spL2 at h
 split at h
 ·obtain ⟨l1, l2, rfl, rfl, ⟨hz, hn⟩, h⟩ := h
  have h := h _ rfl
  have hlen1 : (l1.map encBs).length = l1.length := List.length_map ..
  have hlen2 : (l2.map encBs).length = l2.length := List.length_map ..
  have hsz := szS_len sz0 l1
  refine ⟨loopsOf [(4, ⟨[5], [0, 1], fun vs σ => ∃ i : Nat, vs = [.d (.int .i64 i)] ∧ σ = ⟨[], [], 0⟩ ∧ i ≤ l1.length ∧ allS eqB l1 l2 = allS eqB (l1.drop i) (l2.drop i), fun vs _ => match vs with | [.d (.int _ i)] => ((l1.length : Int) - i).toNat | _ => 0⟩)], 0, false, by simp, Nat.le_of_ble_eq_true rfl, ?_⟩
  conv => whnf
  refine CondP.ndec (fun hc => ?_) (fun hc => ?_)
  ·have hc : l1.length ≠ l2.length := fun g => hc (by show ((l1.map encBs).length : Int) = (l2.map encBs).length; rw [hlen1, hlen2, g])
   rw [allS_ne _ _ _ hc] at h
   conv => whnf
   exact h
  have hc : l1.length = l2.length := by have hc : ((l1.map encBs).length : Int) = (l2.map encBs).length := hc; rw [hlen1, hlen2] at hc; omega
  conv => whnf
  refine ⟨⟨0, rfl, rfl, by omega, rfl⟩, ?_⟩
  intro vs σ hI
  obtain ⟨i, rfl, rfl, hi, hs⟩ := hI
  conv => whnf
  refine CondP.dec (fun hi2 => ?_) (fun hi2 => ?_)
  rotate_left
  ·have hi2 : l1.length ≤ i := by have hi2 : ¬ (i : Int) < (l1.map encBs).length := hi2; rw [hlen1] at hi2; omega
   rw [allS_end _ hi2 (by omega)] at hs
   rw [hs] at h
   conv => whnf
   exact h
  have hi2 : i < l1.length := by have hi2 : (i : Int) < (l1.map encBs).length := hi2; rw [hlen1] at hi2; omega
  have hi3 : i < l2.length := by omega
  have hg := szS_get sz0 l1 i hi2
  rw [allS_drop _ hi2 hi3] at hs
  have hr1 : (l1.map encBs)[((i : Nat) : Int).toNat]? = some (encBs l1[i]) := by simp [hi2]
  have hr2 : (l2.map encBs)[((i : Nat) : Int).toNat]? = some (encBs l2[i]) := by simp [hi3]
  obtain ⟨eA, hA⟩ : ∃ e, l1[i] = e := ⟨_, rfl⟩
  obtain ⟨eB, hB⟩ : ∃ e, l2[i] = e := ⟨_, rfl⟩
  rw [hA] at hr1
  rw [hB] at hr2
  rw [hA, hB] at hs
  have hneg : eqB eA eB = false → K (.ret (.d (.bool false))) ⟨[], [], 0⟩ := fun he => by rw [hs, he, Bool.false_and] at h; exact h
  conv => whnf
  (repeat (first | (refine ⟨_, by omega, hr1, ?_⟩; conv => whnf) | (refine ⟨_, by omega, hr2, ?_⟩; conv => whnf)))
  refine CondP.ndec (fun hc1 => ?_) (fun hc1 => ?_)
  ·(conv => whnf); exact hneg (by simp [eqB, hc1])
  (try dsimp only at hc1)
  conv => whnf
  have he : eqB eA eB = true := by simp [eqB, hc1]
  rw [he, Bool.true_and] at hs
  refine Or.inl ⟨InR.i64 (by omega) (by omega), ?_⟩
  conv => whnf
  refine ⟨⟨i + 1, rfl, rfl, by omega, hs⟩, ?_⟩
  show ((l1.length : Int) - ((i : Int) + 1)).toNat < ((l1.length : Int) - (i : Int)).toNat
  omega
 ·exact h.elim
noncomputable def tblkLits (n : Nat) : Tbl := [(54, spLS encE sameE szE n), (101, spB (spLS encL sameL szL) n)]
theorem kLits_ok {n : Nat} (ht : TblOK (GG w0 nG) (tblkLits n)) : PCalls (GG w0 nG) 101 (spLS encL sameL szL n) := by
 refine pcalls tab_ok mixed (tbl := (tblkLits n)) ht Tryz.func101 rfl (by kernel_rfl) (by kernel_rfl) ?_
 intro args σ K h
 unfold spLS at h
 split at h
 ·obtain ⟨p1, l1, p2, l2, rfl, rfl, ⟨rfl, hz, hn⟩, h⟩ := h
  have h := h _ rfl
  have hlen1 : (l1.map (encL p1)).length = l1.length := List.length_map ..
  have hlen2 : (l2.map (encL p2)).length = l2.length := List.length_map ..
  have hsz := szS_len szL l1
  refine ⟨loopsOf [(4, ⟨[7], [0, 1, 2], fun vs σ => ∃ i : Nat, vs = [.d (.int .i64 i)] ∧ σ = ⟨[], [], 0⟩ ∧ i ≤ l1.length ∧ allS sameL l1 l2 = allS sameL (l1.drop i) (l2.drop i), fun vs _ => match vs with | [.d (.int _ i)] => ((l1.length : Int) - i).toNat | _ => 0⟩)], 0, false, by simp, Nat.le_of_ble_eq_true rfl, ?_⟩
  conv => whnf
  refine CondP.ndec (fun hc => ?_) (fun hc => ?_)
  ·have hc : l1.length ≠ l2.length := fun g => hc (by show ((l1.map (encL p1)).length : Int) = (l2.map (encL p2)).length; rw [hlen1, hlen2, g])
   rw [allS_ne _ _ _ hc] at h
   conv => whnf
   exact h
  have hc : l1.length = l2.length := by have hc : ((l1.map (encL p1)).length : Int) = (l2.map (encL p2)).length := hc; rw [hlen1, hlen2] at hc; omega
  conv => whnf
  refine ⟨⟨0, rfl, rfl, by omega, rfl⟩, ?_⟩
  intro vs σ hI
  obtain ⟨i, rfl, rfl, hi, hs⟩ := hI
  conv => whnf
  refine CondP.dec (fun hi2 => ?_) (fun hi2 => ?_)
  rotate_left
  ·have hi2 : l1.length ≤ i := by have hi2 : ¬ (i : Int) < (l1.map (encL p1)).length := hi2; rw [hlen1] at hi2; omega
   rw [allS_end _ hi2 (by omega)] at hs
   rw [hs] at h
   conv => whnf
   exact h
  have hi2 : i < l1.length := by have hi2 : (i : Int) < (l1.map (encL p1)).length := hi2; rw [hlen1] at hi2; omega
  have hi3 : i < l2.length := by omega
  have hg := szS_get szL l1 i hi2
  rw [allS_drop _ hi2 hi3] at hs
  obtain ⟨eA, hA⟩ : ∃ e, l1[i] = e := ⟨_, rfl⟩
  obtain ⟨eB, hB⟩ : ∃ e, l2[i] = e := ⟨_, rfl⟩
  obtain ⟨a1, a2, a3, a4, a5⟩ := eA
  obtain ⟨b1, b2, b3, b4, b5⟩ := eB
  have hr1 : (l1.map (encL p1))[((i : Nat) : Int).toNat]? = some ((encL p1) (.mk a1 a2 a3 a4 a5)) := by simp [hi2, hA]
  have hr2 : (l2.map (encL p2))[((i : Nat) : Int).toNat]? = some ((encL p2) (.mk b1 b2 b3 b4 b5)) := by simp [hi3, hB]
  rw [hA, hB] at hs
  rw [hA] at hg
  simp only [szL, szLs_eq] at hg
  have hneg : sameL (.mk a1 a2 a3 a4 a5) (.mk b1 b2 b3 b4 b5) = false → K (.ret (.d (.bool false))) ⟨[], [], 0⟩ := fun he => by rw [hs, he, Bool.false_and] at h; exact h
  conv => whnf
  (repeat (first | (refine ⟨_, by omega, hr1, ?_⟩; conv => whnf) | (refine ⟨_, by omega, hr2, ?_⟩; conv => whnf)))
  refine CondP.ndec (fun hc1 => ?_) (fun hc1 => ?_)
  ·(conv => whnf); exact hneg (by simp [sameL, sameLs_eq, hc1])
  (try dsimp only at hc1)
  conv => whnf
  (repeat (first | (refine ⟨_, by omega, hr1, ?_⟩; conv => whnf) | (refine ⟨_, by omega, hr2, ?_⟩; conv => whnf)))
  refine CondP.ndec (fun hc2 => ?_) (fun hc2 => ?_)
  ·(conv => whnf); exact hneg (by simp [sameL, sameLs_eq, hc2])
  (try dsimp only at hc2)
  conv => whnf
  (repeat (first | (refine ⟨_, by omega, hr1, ?_⟩; conv => whnf) | (refine ⟨_, by omega, hr2, ?_⟩; conv => whnf)))
  refine ⟨p1, a3, p2, b3, encEs_eq _ _, encEs_eq _ _, ⟨rfl, by omega, by omega⟩, fun b_3 hb3 => ?_⟩
  cases b_3 with
  | false =>
   conv => whnf
   (repeat (refine ⟨rfl, ?_⟩; conv => whnf))
   exact hneg (by simp [sameL, sameLs_eq, hb3])
  | true =>
   conv => whnf
   (repeat (refine ⟨rfl, ?_⟩; conv => whnf))
   (repeat (first | (refine ⟨_, by omega, hr1, ?_⟩; conv => whnf) | (refine ⟨_, by omega, hr2, ?_⟩; conv => whnf)))
   refine ⟨by omega, p1, a4, p2, b4, encLs_eq _ _, encLs_eq _ _, ⟨rfl, by omega, by omega⟩, fun b_4 hb4 => ?_⟩
   cases b_4 with
   | false =>
    conv => whnf
    (repeat (refine ⟨rfl, ?_⟩; conv => whnf))
    exact hneg (by simp [sameL, sameLs_eq, hb4])
   | true =>
    conv => whnf
    (repeat (refine ⟨rfl, ?_⟩; conv => whnf))
    have he : sameL (.mk a1 a2 a3 a4 a5) (.mk b1 b2 b3 b4 b5) = true := by simp [sameL, sameLs_eq, hc1, hc2, hb3, hb4]
    rw [he, Bool.true_and] at hs
    refine Or.inl ⟨InR.i64 (by omega) (by omega), ?_⟩
    conv => whnf
    refine ⟨⟨i + 1, rfl, rfl, by omega, hs⟩, ?_⟩
    show ((l1.length : Int) - ((i : Int) + 1)).toNat < ((l1.length : Int) - (i : Int)).toNat
    omega
 ·exact h.elim
theorem cLits : ∀ n, PCalls (GG w0 nG) 101 (spLS encL sameL szL n)
 | 0 => kLits_ok ⟨⟨cSameEs 0, spLS_mono _ _ _ _⟩, ⟨pcalls_none (enters_of Tryz.func101 (by kernel_rfl) rfl), spB_mono (fun n => spLS_mono _ _ _ n) _⟩, trivial⟩
 | n + 1 => kLits_ok ⟨⟨cSameEs _, spLS_mono _ _ _ _⟩, ⟨pcalls_less (sp := fun n => spLS encL sameL szL n) (cLits n), spB_mono (fun n => spLS_mono _ _ _ n) _⟩, trivial⟩
noncomputable def tblkRules (n : Nat) : Tbl := [(54, spLS encE sameE szE n), (101, spLS encL sameL szL n)]
theorem kRules_ok {n : Nat} (ht : TblOK (GG w0 nG) (tblkRules n)) : PCalls (GG w0 nG) 44 (spLS encRu sameRu szRu n) := by
 refine pcalls tab_ok mixed (tbl := (tblkRules n)) ht Tryz.func44 rfl (by kernel_rfl) (by kernel_rfl) ?_
 intro args σ K h
 unfold spLS at h
 split at h
 ·obtain ⟨p1, l1, p2, l2, rfl, rfl, ⟨rfl, hz, hn⟩, h⟩ := h
  have h := h _ rfl
  have hlen1 : (l1.map (encRu p1)).length = l1.length := List.length_map ..
  have hlen2 : (l2.map (encRu p2)).length = l2.length := List.length_map ..
  have hsz := szS_len szRu l1
  refine ⟨loopsOf [(4, ⟨[7], [0, 1, 2], fun vs σ => ∃ i : Nat, vs = [.d (.int .i64 i)] ∧ σ = ⟨[], [], 0⟩ ∧ i ≤ l1.length ∧ allS sameRu l1 l2 = allS sameRu (l1.drop i) (l2.drop i), fun vs _ => match vs with | [.d (.int _ i)] => ((l1.length : Int) - i).toNat | _ => 0⟩)], 0, false, by simp, Nat.le_of_ble_eq_true rfl, ?_⟩
  conv => whnf
  refine CondP.ndec (fun hc => ?_) (fun hc => ?_)
  ·have hc : l1.length ≠ l2.length := fun g => hc (by show ((l1.map (encRu p1)).length : Int) = (l2.map (encRu p2)).length; rw [hlen1, hlen2, g])
   rw [allS_ne _ _ _ hc] at h
   conv => whnf
   exact h
  have hc : l1.length = l2.length := by have hc : ((l1.map (encRu p1)).length : Int) = (l2.map (encRu p2)).length := hc; rw [hlen1, hlen2] at hc; omega
  conv => whnf
  refine ⟨⟨0, rfl, rfl, by omega, rfl⟩, ?_⟩
  intro vs σ hI
  obtain ⟨i, rfl, rfl, hi, hs⟩ := hI
  conv => whnf
  refine CondP.dec (fun hi2 => ?_) (fun hi2 => ?_)
  rotate_left
  ·have hi2 : l1.length ≤ i := by have hi2 : ¬ (i : Int) < (l1.map (encRu p1)).length := hi2; rw [hlen1] at hi2; omega
   rw [allS_end _ hi2 (by omega)] at hs
   rw [hs] at h
   conv => whnf
   exact h
  have hi2 : i < l1.length := by have hi2 : (i : Int) < (l1.map (encRu p1)).length := hi2; rw [hlen1] at hi2; omega
  have hi3 : i < l2.length := by omega
  have hg := szS_get szRu l1 i hi2
  rw [allS_drop _ hi2 hi3] at hs
  obtain ⟨eA, hA⟩ : ∃ e, l1[i] = e := ⟨_, rfl⟩
  obtain ⟨eB, hB⟩ : ∃ e, l2[i] = e := ⟨_, rfl⟩
  obtain ⟨a1, a2, a3, a4⟩ := eA
  obtain ⟨b1, b2, b3, b4⟩ := eB
  have hr1 : (l1.map (encRu p1))[((i : Nat) : Int).toNat]? = some ((encRu p1) (⟨a1, a2, a3, a4⟩ : Ru)) := by simp [hi2, hA]
  have hr2 : (l2.map (encRu p2))[((i : Nat) : Int).toNat]? = some ((encRu p2) (⟨b1, b2, b3, b4⟩ : Ru)) := by simp [hi3, hB]
  rw [hA, hB] at hs
  rw [hA] at hg
  simp only [szRu] at hg
  have hneg : sameRu (⟨a1, a2, a3, a4⟩ : Ru) (⟨b1, b2, b3, b4⟩ : Ru) = false → K (.ret (.d (.bool false))) ⟨[], [], 0⟩ := fun he => by rw [hs, he, Bool.false_and] at h; exact h
  conv => whnf
  (repeat (first | (refine ⟨_, by omega, hr1, ?_⟩; conv => whnf) | (refine ⟨_, by omega, hr2, ?_⟩; conv => whnf)))
  refine CondP.ndec (fun hc1 => ?_) (fun hc1 => ?_)
  ·(conv => whnf); exact hneg (by simp [sameRu, hc1])
  (try dsimp only at hc1)
  conv => whnf
  (repeat (first | (refine ⟨_, by omega, hr1, ?_⟩; conv => whnf) | (refine ⟨_, by omega, hr2, ?_⟩; conv => whnf)))
  refine ⟨p1, a2, p2, b2, encEs_eq _ _, encEs_eq _ _, ⟨rfl, by omega, by omega⟩, fun b_2 hb2 => ?_⟩
  cases b_2 with
  | false =>
   conv => whnf
   (repeat (refine ⟨rfl, ?_⟩; conv => whnf))
   exact hneg (by simp [sameRu, hb2])
  | true =>
   conv => whnf
   (repeat (refine ⟨rfl, ?_⟩; conv => whnf))
   (repeat (first | (refine ⟨_, by omega, hr1, ?_⟩; conv => whnf) | (refine ⟨_, by omega, hr2, ?_⟩; conv => whnf)))
   refine ⟨p1, a3, p2, b3, encLs_eq _ _, encLs_eq _ _, ⟨rfl, by omega, by omega⟩, fun b_3 hb3 => ?_⟩
   cases b_3 with
   | false =>
    conv => whnf
    (repeat (refine ⟨rfl, ?_⟩; conv => whnf))
    exact hneg (by simp [sameRu, hb3])
   | true =>
    conv => whnf
    (repeat (refine ⟨rfl, ?_⟩; conv => whnf))
    have he : sameRu (⟨a1, a2, a3, a4⟩ : Ru) (⟨b1, b2, b3, b4⟩ : Ru) = true := by simp [sameRu, hc1, hb2, hb3]
    rw [he, Bool.true_and] at hs
    refine Or.inl ⟨InR.i64 (by omega) (by omega), ?_⟩
    conv => whnf
    refine ⟨⟨i + 1, rfl, rfl, by omega, hs⟩, ?_⟩
    show ((l1.length : Int) - ((i : Int) + 1)).toNat < ((l1.length : Int) - (i : Int)).toNat
    omega
 ·exact h.elim
end Go.PM.Lex
end

section
set_option maxRecDepth 100000
namespace Go.PM.Lex
theorem dN_take {n len b0 b1 b2 b3 b1' b2' b3' : Nat} (h1 : 1 < n → b1' = b1) (h2 : 2 < n → b2' = b2) (h3 : 3 < n → b3' = b3) (hn : 1 ≤ n) (hd : (Lib.decodeN len b0 b1 b2 b3).2 ≤ n) :
  Lib.decodeN (min n len) b0 b1' b2' b3' = Lib.decodeN len b0 b1 b2 b3 := by
 rcases Lib.decodeN_shape len b0 b1 b2 b3 with ⟨c, e⟩ | ⟨c1, c2, c3, cv, e⟩ | ⟨c1, c2, c3, c4, cv, cs, e⟩ | ⟨c1, c2, c3, c4, c5, cv, cw, e⟩ | e
 ·rw [e]; unfold Lib.decodeN; rw [if_pos c]
 ·rw [e] at hd ⊢
  simp only at hd
  rw [h1 (by omega)]
  unfold Lib.decodeN
  rw [if_neg (by omega), if_pos ⟨c1, by omega, c3⟩, if_pos (by omega)]
 ·rw [e] at hd ⊢
  simp only at hd
  rw [h1 (by omega), h2 (by omega)]
  unfold Lib.decodeN
  rw [if_neg (by omega), if_neg (by omega), if_pos ⟨c1, ⟨by omega, c3⟩, by omega, c4⟩, if_pos ⟨by omega, by omega⟩]
 ·rw [e] at hd ⊢
  simp only at hd
  rw [h1 (by omega), h2 (by omega), h3 (by omega)]
  unfold Lib.decodeN
  rw [if_neg (by omega), if_neg (by omega), if_neg (by omega), if_pos ⟨c1, ⟨by omega, c3⟩, ⟨by omega, c4⟩, by omega, c5⟩, if_pos ⟨by omega, by omega⟩]
 ·rw [e]
  rcases Lib.decodeN_shape (min n len) b0 b1' b2' b3' with ⟨c, e'⟩ | ⟨c1, c2, c3, cv, e'⟩ | ⟨c1, c2, c3, c4, cv, cs, e'⟩ | ⟨c1, c2, c3, c4, c5, cv, cw, e'⟩ | e'
  ·unfold Lib.decodeN at e; rw [if_pos c] at e; rw [e', ← e]
  ·rw [h1 (by omega)] at c3 cv
   unfold Lib.decodeN at e
   rw [if_neg (by omega), if_pos ⟨c1, by omega, c3⟩, if_pos (by omega)] at e
   simp at e
  ·rw [h1 (by omega), h2 (by omega)] at *
   unfold Lib.decodeN at e
   rw [if_neg (by omega), if_neg (by omega), if_pos ⟨c1, ⟨by omega, c3⟩, by omega, c4⟩, if_pos ⟨by omega, by omega⟩] at e
   simp at e
  ·rw [h1 (by omega), h2 (by omega), h3 (by omega)] at *
   unfold Lib.decodeN at e
   rw [if_neg (by omega), if_neg (by omega), if_neg (by omega), if_pos ⟨c1, ⟨by omega, c3⟩, ⟨by omega, c4⟩, by omega, c5⟩, if_pos ⟨by omega, by omega⟩] at e
   simp at e
  ·exact e'
theorem getD_take (r : Bs) (n k : Nat) : (r.take n).getD k 0 = if k < n then r.getD k 0 else 0 := by
 simp only [List.getD_eq_getElem?_getD, List.getElem?_take]
 split <;> simp
theorem dec_take {r : Bs} {n : Nat} (hn : 1 ≤ n) (hd : (Lib.decodeL r).2 ≤ n) : Lib.decodeL (r.take n) = Lib.decodeL r := by
 rw [Lib.decodeL_N] at hd ⊢
 rw [Lib.decodeL_N, List.length_take, getD_take, getD_take, getD_take, getD_take, if_pos (by omega)]
 exact dN_take (fun h => by rw [if_pos h]) (fun h => by rw [if_pos h]) (fun h => by rw [if_pos h]) hn hd
theorem pk_take {r : Bs} {n : Nat} (h : (pk r).1 ≠ -1) (hn : (pk r).2 ≤ n) : pk (r.take n) = pk r := by
 obtain ⟨h1, h2, h3⟩ := pk_le r h
 unfold pk at h hn ⊢
 split at h
 ·exact absurd rfl h
 ·rename_i g
  rw [if_neg g] at hn ⊢
  simp only at hn
  have hr := dec_rng r
  have e := dec_take (r := r) (n := n) (by omega) hn
  rw [e, if_neg]
  simp only [not_or] at g ⊢
  refine ⟨fun h => ?_, g.2⟩
  have h5 := congrArg List.length h
  rw [List.length_take, List.length_nil] at h5
  have := List.length_pos_iff.2 h3
  omega
theorem nameGo_nil (f : Nat) : nameGo f [] = 0 := by
 cases f with
 | zero => rfl
 | succ f => exact nameGo_end (by simp [pk_nil]) (by simp [pk_nil]; decide) (by simp [pk_nil]; decide)
theorem letter_ne {c : Int} (h : isLetter c = true ∨ isDigit c = true) : c ≠ -1 := fun h1 => by rw [h1, isLetter_neg, isDigit_neg] at h; simp at h
theorem nameGo_take : ∀ (f : Nat) (r : Bs), r.length < f → ∀ f', nameGo f r < f' → nameGo f' (r.take (nameGo f r)) = nameGo f r
 | 0, r, h, _, _ => by omega
 | f + 1, r, h, f', hf => by
  have step : ∀ (hne : (pk r).1 ≠ -1), nameGo (f + 1) r = (pk r).2 + nameGo f (r.drop (pk r).2) → pk (r.take (nameGo (f + 1) r)) = pk r ∧ (r.take (nameGo (f + 1) r)).drop (pk r).2 = (r.drop (pk r).2).take (nameGo f (r.drop (pk r).2)) ∧
    ∀ g, f' = g + 1 → nameGo g ((r.drop (pk r).2).take (nameGo f (r.drop (pk r).2))) = nameGo f (r.drop (pk r).2) := fun hne e => by
   obtain ⟨h1, h2, h3⟩ := pk_le r hne
   refine ⟨pk_take hne (by omega), ?_, fun g hg => nameGo_take f _ (by rw [List.length_drop]; omega) g (by omega)⟩
   rw [List.drop_take, e]; congr 1; omega
  obtain ⟨g, rfl⟩ : ∃ g, f' = g + 1 := ⟨f' - 1, by omega⟩
  by_cases h1 : (pk r).1 = 46
  ·by_cases h2 : isLetter (pk (r.drop 1)).1 = true
   ·have e := nameGo_dot (f := f) h1 h2
    obtain ⟨s1, s2, s3⟩ := step (by omega) e
    have hlow := pk_low r (by omega) (by omega)
    have h2' : isLetter (pk ((r.take (nameGo (f + 1) r)).drop 1)).1 = true := by
     rw [hlow.2.2] at s2
     rw [s2]
     obtain ⟨f2, rfl⟩ : ∃ f2, f = f2 + 1 := ⟨f - 1, by omega⟩
     have h46 : ¬ (pk (r.drop 1)).1 = 46 := fun g => by rw [g] at h2; revert h2; decide
     have e2 := nameGo_on (f := f2) h46 (.inl h2)
     rw [pk_take (letter_ne (.inl h2)) (by rw [e2]; omega)]
     exact h2
    rw [nameGo_dot (f := g) (by rw [s1]; exact h1) h2', s1, s2, s3 g rfl, ← e]
   ·have e := nameGo_dotend (f := f) h1 (by simpa using h2)
    rw [e]; exact nameGo_nil _
  ·by_cases h2 : isLetter (pk r).1 = true ∨ isDigit (pk r).1 = true
   ·have e := nameGo_on (f := f) h1 h2
    obtain ⟨s1, s2, s3⟩ := step (letter_ne h2) e
    rw [nameGo_on (f := g) (by rw [s1]; exact h1) (by rw [s1]; exact h2), s1, s2, s3 g rfl, ← e]
   ·simp only [not_or, Bool.not_eq_true] at h2
    have e := nameGo_end (f := f) h1 h2.1 h2.2
    rw [e]; exact nameGo_nil _
theorem nameF_take (r : Bs) : nameF (r.take (nameF r)) = nameF r := by
 have := nameGo_le (r.length + 1) r
 refine nameGo_take (r.length + 1) r (by omega) _ ?_
 rw [List.length_take]; unfold nameF at *; omega
theorem textGo_take : ∀ (f : Nat) (r : Bs) (esc : Bool) (acc : Bs) (p : Nat) (t : Bs) (l : Nat), textGo f r esc acc p = .ok t l → r.length < f → ∀ f', l - p < f' → textGo f' (r.take (l - p)) esc acc p = .ok t l
 | 0, r, esc, acc, p, t, l, h, hf, _, _ => by omega
 | f + 1, r, esc, acc, p, t, l, h, hf, f', hf' => by
  have hlen := textGo_len _ _ _ _ _ _ _ h
  obtain ⟨g, rfl⟩ : ∃ g, f' = g + 1 := ⟨f' - 1, by omega⟩
  unfold textGo at h
  split at h
  ·cases h
  ·rename_i hne
   have hd := Lib.decodeL_le r hne
   have hr := dec_rng r
   have hne' : ¬ r.take (l - p) = [] := fun g => by
    have h5 := congrArg List.length g
    rw [List.length_take, List.length_nil] at h5
    have := List.length_pos_iff.2 hne
    omega
   have hdr : ∀ k, (r.take (l - p)).drop k = (r.drop k).take (l - (p + k)) := fun k => by rw [List.drop_take]; congr 1; omega
   unfold textGo
   rw [if_neg hne']
   split at h
   ·rename_i he
    rw [if_pos he]
    split at h
    ·cases h
    ·rename_i b hb
     have h2 := textGo_len _ _ _ _ _ _ _ h
     have e := dec_take (r := r) (n := l - p) (by omega) (by omega)
     rw [e, hb]
     simp only
     rw [hdr]
     exact textGo_take f _ _ _ _ _ _ h (by rw [List.length_drop]; omega) g (by omega)
   ·rename_i he
    rw [if_neg he]
    split at h
    ·rename_i h34
     cases h
     have e1 : (Lib.decodeL r).2 = 1 := by
      rw [Lib.decodeL_N] at h34 ⊢
      rcases Lib.decodeN_shape r.length (r.getD 0 0).toNat (r.getD 1 0).toNat (r.getD 2 0).toNat (r.getD 3 0).toNat with ⟨c, e⟩ | ⟨c1, c2, c3, cv, e⟩ | ⟨c1, c2, c3, c4, cv, cs, e⟩ | ⟨c1, c2, c3, c4, c5, cv, cw, e⟩ | e
      all_goals (rw [e] at h34)
      ·rw [e]
      all_goals (dsimp only at h34; omega)
     rw [dec_take (by omega) (by omega), if_pos h34]
    ·rename_i h34
     have step : ∀ es ac, textGo f (r.drop (Lib.decodeL r).2) es ac (p + (Lib.decodeL r).2) = .ok t l → Lib.decodeL (r.take (l - p)) = Lib.decodeL r ∧ textGo g ((r.take (l - p)).drop (Lib.decodeL r).2) es ac (p + (Lib.decodeL r).2) = .ok t l := fun es ac h => by
      have h2 := textGo_len _ _ _ _ _ _ _ h
      refine ⟨dec_take (by omega) (by omega), ?_⟩
      rw [hdr]
      exact textGo_take f _ _ _ _ _ _ h (by rw [List.length_drop]; omega) g (by omega)
     split at h
     ·rename_i h92
      obtain ⟨e, e2⟩ := step _ _ h
      rw [e, if_neg h34, if_pos h92]
      exact e2
     ·rename_i h92
      split at h
      ·cases h
      ·rename_i h32
       obtain ⟨e, e2⟩ := step _ _ h
       have h2 := textGo_len _ _ _ _ _ _ _ h
       have hpk : pk (r.take (l - p)) = pk r := by
        refine pk_take (by omega) ?_
        unfold pk
        split
        ·simp only; omega
        ·simp only; omega
       rw [e, if_neg h34, if_neg h92, hpk, if_neg h32]
       exact e2
theorem textF_take {r t : Bs} {l : Nat} (h : textF r = .ok t l) : textF (r.take l) = .ok t l := by
 unfold textF at h ⊢
 have h2 := textGo_len _ _ _ _ _ _ _ h
 rw [List.length_drop] at h2
 have := textGo_take _ _ _ _ _ _ _ h (by rw [List.length_drop]; omega) ((r.take l).length + 1) (by rw [List.length_take]; omega)
 rwa [List.drop_take]
theorem hasPrefix_take {r p : Bs} {n : Nat} (h : Lib.hasPrefix (r.take n) p = true) : Lib.hasPrefix r p = true := by
 unfold Lib.hasPrefix at h ⊢
 rw [List.isPrefixOf_iff_prefix] at h ⊢
 exact h.trans (List.take_prefix n r)
theorem hasPrefix_long {r p : Bs} {n : Nat} (h : Lib.hasPrefix r p = true) (hn : p.length ≤ n) : Lib.hasPrefix (r.take n) p = true := by
 unfold Lib.hasPrefix at h ⊢
 rw [List.isPrefixOf_iff_prefix] at h ⊢
 rw [List.prefix_take_iff]
 exact ⟨h, hn⟩
theorem takeWhile_twice (p : UInt8 → Bool) : ∀ l : Bs, (l.takeWhile p).takeWhile p = l.takeWhile p
 | [] => rfl
 | x :: l => by
  by_cases h : p x = true
  ·simp only [List.takeWhile_cons, h, if_true, takeWhile_twice p l]
  ·simp [List.takeWhile_cons, h]
theorem number_take {r : Bs} {v : Nat} (h : numberF r = some v) : numberF (r.take (numLen r)) = some v ∧ numLen (r.take (numLen r)) = numLen r := by
 have hne : numDigits r ≠ [] := fun g => by rw [numberF, if_pos g] at h; cases h
 have hle := numLen_le r
 have hpos := List.length_pos_iff.2 hne
 have hx : isHex (r.take (numLen r)) = isHex r := by
  cases hh : isHex r with
  | true => exact hasPrefix_long hh (by unfold numLen; rw [hh]; simp)
  | false =>
   cases hh2 : isHex (r.take (numLen r)) with
   | false => rfl
   | true => exact absurd (hasPrefix_take hh2) (by unfold isHex at hh; rw [hh]; simp)
 have hd : numDigits (r.take (numLen r)) = numDigits r := by
  have hl : numLen r = (if isHex r = true then 2 else 0) + (numDigits r).length := rfl
  unfold numDigits at hl ⊢
  rw [hx, List.drop_take, hl, Nat.add_sub_cancel_left, ← takeWhile_take, takeWhile_twice]
 have hl : numLen (r.take (numLen r)) = numLen r := by
  have e : ∀ x y : Bs, isHex x = isHex y → numDigits x = numDigits y → numLen x = numLen y := fun x y h1 h2 => by unfold numLen; rw [h1, h2]
  exact e _ _ hx hd
 refine ⟨?_, hl⟩
 have hnil : (r.take (numLen r)).drop (numLen r) = [] := by apply List.drop_eq_nil_of_le; rw [List.length_take]; omega
 unfold numberF at h ⊢
 rw [hd, hl, hnil, hx]
 rw [if_neg hne] at h ⊢
 generalize (if isHex r = true then 18446744073709551616 else 9223372036854775808) = L at h ⊢
 generalize numV (if isHex r = true then 16 else 10) (numDigits r) = V at h ⊢
 split at h
 ·cases h
 ·rename_i g1
  rw [if_neg g1]
  split at h
  ·cases h
  ·rename_i g2
   simp only [not_or] at g2
   rw [if_neg]
   ·exact h
   ·simp only [not_or]
    exact ⟨by rw [pk_nil]; decide, by rw [pk_nil]; decide, g2.2.2⟩
theorem sign_zero_take {r : Bs} {n : Nat} (hn : 1 ≤ n) (h : signF r = 0) : signF (r.take n) = 0 := by
 unfold signF at h ⊢
 split at h
 ·cases h
 ·rename_i h1
  split at h
  ·cases h
  ·rename_i h2
   rw [if_neg, if_neg]
   ·rw [getD_take, if_pos (by omega)]; exact h2
   ·intro g
    apply h1
    rw [List.any_eq_true] at g ⊢
    obtain ⟨x, hx, hy⟩ := g
    exact ⟨x, hx, hasPrefix_take hy⟩
theorem sign_take {r : Bs} (h0 : 0 < r.length) (h : 0 < signF r) : signF (r.take (signF r)) = signF r := by
 have hle := sign_le r h0
 unfold signF at h ⊢
 split at h
 ·rename_i h1
  rw [if_pos h1, if_pos]
  rw [List.any_eq_true] at h1 ⊢
  obtain ⟨x, hx, hy⟩ := h1
  refine ⟨x, hx, hasPrefix_long hy ?_⟩
  simp only [twos, List.mem_cons, List.mem_nil_iff, or_false] at hx
  rcases hx with rfl | rfl | rfl | rfl | rfl <;> simp
 ·rename_i h1
  split at h
  ·rename_i h2
   rw [if_neg h1, if_pos h2, if_neg, if_pos]
   ·rw [getD_take, if_pos (by omega)]; exact h2
   ·intro g
    apply h1
    rw [List.any_eq_true] at g ⊢
    obtain ⟨x, hx, hy⟩ := g
    exact ⟨x, hx, hasPrefix_take hy⟩
  ·cases h
theorem next_take {a : Nat} {r : Bs} {room : Bool} {t : Tok} (h0 : 0 < r.length) (h : nextF a r room = .tok t) : nextF 0 (r.take (t.fin - a)) true = .tok ⟨t.kind, t.text, t.n, 0, t.fin - a⟩ := by
 obtain ⟨f1, f2, f3⟩ := nextF_tok h0 h
 rw [nextF_eq] at h
 split at h
 ·cases h
 ·rename_i g0
  split at h
  ·cases h
  ·split at h
   ·rename_i g1
    cases h
    simp only [Nat.add_sub_cancel_left] at *
    have e := sign_take h0 g1
    rw [nextF_eq, e, if_neg (fun g => by omega), if_neg (by simp), if_pos g1, List.take_take]
    simp
   ·rename_i g1
    have hs0 : signF r = 0 := by omega
    have hs : signF (r.take (t.fin - a)) = 0 := sign_zero_take (by omega) hs0
    split at h
    ·rename_i g2
     have hpk : pk (r.take (t.fin - a)) = pk r := pk_take (by omega) (by have := pk_low r (by omega) (by omega); omega)
     unfold textR at h
     split at h
     ·cases h
     ·rename_i t' l hx
      cases h
      simp only [Nat.add_sub_cancel_left] at *
      rw [nextF_eq, hs, hpk, if_neg (fun g => g.2.1 g2), if_neg (by simp), if_neg (by omega), if_pos g2, textR, textF_take hx]
      simp
    ·rename_i g2
     split at h
     ·rename_i g3
      have hpk : pk (r.take (t.fin - a)) = pk r := pk_take (letter_ne (.inr g3)) (by have := pk_low r (by rw [isDigit_iff] at g3; omega) (by rw [isDigit_iff] at g3; omega); omega)
      unfold numberR at h
      split at h
      ·cases h
      ·rename_i n hx
       cases h
       simp only [Nat.add_sub_cancel_left] at *
       obtain ⟨e1, e2⟩ := number_take hx
       rw [nextF_eq, hs, hpk, if_neg (fun g => by rw [g3] at g; simp at g), if_neg (by simp), if_neg (by omega), if_neg g2, if_pos g3, numberR, e1, e2]
       simp
     ·rename_i g3
      have h4 : isLetter (pk r).1 = true := by
       cases hb : isLetter (pk r).1 with
       | true => rfl
       | false => exact absurd ⟨hs0, g2, hb, by simpa using g3⟩ g0
      cases h
      simp only [Nat.add_sub_cancel_left] at *
      have h46 : ¬ (pk r).1 = 46 := fun g => by rw [g] at h4; revert h4; decide
      have e46 : nameF r = (pk r).2 + nameGo r.length (r.drop (pk r).2) := nameGo_on h46 (.inl h4)
      have hpk : pk (r.take (nameF r)) = pk r := pk_take (letter_ne (.inl h4)) (by omega)
      rw [nextF_eq, hs, hpk, if_neg (fun g => by rw [h4] at g; simp at g), if_neg (by simp), if_neg (by omega), if_neg g2, if_neg g3, nameF_take, List.take_take]
      simp
end Go.PM.Lex
end

section
set_option maxRecDepth 100000
namespace Go.PM.Lex
abbrev ws : Bs := [32, 9, 13, 10]
theorem indexByte_take {c : UInt8} : ∀ (l : Bs) (i m : Nat), Lib.indexByte l c = i → i < m → Lib.indexByte (l.take m) c = i
 | [], i, m, h, _ => by simp [Lib.indexByte] at h
 | b :: l, i, m, h, hm => by
  obtain ⟨m, rfl⟩ : ∃ k, m = k + 1 := ⟨m - 1, by omega⟩
  rw [List.take_succ_cons]
  unfold Lib.indexByte at h ⊢
  split at h
  ·rename_i hb; rw [if_pos hb]; exact h
  ·rename_i hb
   rw [if_neg hb]
   split at h
   ·omega
   ·rename_i h1
    have hge := Lib.indexByte_ge l c
    have h1' : Lib.indexByte l c ≠ -1 := by simpa using h1
    have := indexByte_take (c := c) l (Lib.indexByte l c).toNat m (by omega) (by omega)
    rw [this]
    have e : ((Lib.indexByte l c).toNat : Int) = Lib.indexByte l c := by omega
    rw [e, if_neg h1]; exact h
theorem index_take {p : Bs} : ∀ (l : Bs) (i m : Nat), Lib.index l p = i → i + p.length ≤ m → Lib.index (l.take m) p = i
 | [], i, m, h, hm => by simpa using h
 | b :: l, i, 0, h, hm => by
  have : p = [] := List.eq_nil_of_length_eq_zero (by omega)
  subst this
  simp [Lib.index] at h ⊢; omega
 | b :: l, i, m + 1, h, hm => by
  rw [List.take_succ_cons]
  unfold Lib.index at h ⊢
  split at h
  ·rename_i hb
   rw [if_pos]
   ·exact h
   ·rw [List.isPrefixOf_iff_prefix] at hb ⊢
    rw [← List.take_succ_cons, List.prefix_take_iff]
    exact ⟨hb, by omega⟩
  ·rename_i hb
   rw [if_neg]
   ·split at h
    ·omega
    ·rename_i h1
     have hge := Lib.index_ge l p
     have h1' : Lib.index l p ≠ -1 := by simpa using h1
     have := index_take (p := p) l (Lib.index l p).toNat m (by omega) (by omega)
     rw [this]
     have e : ((Lib.index l p).toNat : Int) = Lib.index l p := by omega
     rw [e, if_neg h1]; exact h
   ·intro g
    apply hb
    rw [List.isPrefixOf_iff_prefix] at g ⊢
    rw [← List.take_succ_cons] at g
    exact g.trans (List.take_prefix _ _)
theorem trim_take (r : Bs) (m : Nat) : Lib.trimLeftS (r.take (r.length - (Lib.trimLeftS r ws).length + m)) ws = (Lib.trimLeftS r ws).take m := by
 induction r with
 | nil => simp [Lib.trimLeftS]
 | cons b r ih =>
  unfold Lib.trimLeftS at ih ⊢
  by_cases h : ws.contains b = true
  ·have hl := (dropWhile_eq (ws.contains ·) r).2
   simp only [List.dropWhile_cons, h, if_true, List.length_cons]
   rw [show r.length + 1 - (r.dropWhile (ws.contains ·)).length + m = (r.length - (r.dropWhile (ws.contains ·)).length + m) + 1 by omega, List.take_succ_cons, List.dropWhile_cons, if_pos h]
   exact ih
  ·simp only [List.dropWhile_cons, h, Bool.false_eq_true, if_false, List.length_cons]
   rw [Nat.sub_self, Nat.zero_add]
   cases m with
   | zero => simp
   | succ m => rw [List.take_succ_cons, List.dropWhile_cons, if_neg h]
theorem trim_twice (r : Bs) : Lib.trimLeftS (Lib.trimLeftS r ws) ws = Lib.trimLeftS r ws := by
 induction r with
 | nil => rfl
 | cons b r ih =>
  unfold Lib.trimLeftS at ih ⊢
  by_cases h : ws.contains b = true
  ·simp only [List.dropWhile_cons, h, if_true]; exact ih
  ·simp only [List.dropWhile_cons, h, Bool.false_eq_true, if_false]
theorem pre_nil {a b : UInt8} : Lib.hasPrefix [] [a, b] = false := rfl
theorem blankGo_nil (f : Nat) : blankGo (f + 1) [] = (true, 0) := by simp [blankGo, Lib.trimLeftS, pre_nil]
theorem blankGo_end {f : Nat} {r : Bs} (h1 : Lib.hasPrefix (Lib.trimLeftS r ws) [47, 47] = false) (h2 : Lib.hasPrefix (Lib.trimLeftS r ws) [47, 42] = false) : blankGo (f + 1) r = (true, r.length - (Lib.trimLeftS r ws).length) := by
 simp only [blankGo, h1, h2, Bool.false_eq_true, if_false]
theorem blankGo_line {f : Nat} {r : Bs} (h1 : Lib.hasPrefix (Lib.trimLeftS r ws) [47, 47] = true) (n : Nat) (hn : n = if Lib.indexByte (Lib.trimLeftS r ws) 10 < 0 then (Lib.trimLeftS r ws).length else (Lib.indexByte (Lib.trimLeftS r ws) 10).toNat) :
  blankGo (f + 1) r = ((blankGo f ((Lib.trimLeftS r ws).drop n)).1, r.length - (Lib.trimLeftS r ws).length + n + (blankGo f ((Lib.trimLeftS r ws).drop n)).2) := by
 subst hn
 simp only [blankGo, h1, if_true]
theorem blankGo_open {f : Nat} {r : Bs} (h1 : Lib.hasPrefix (Lib.trimLeftS r ws) [47, 47] = false) (h2 : Lib.hasPrefix (Lib.trimLeftS r ws) [47, 42] = true) (h3 : Lib.index ((Lib.trimLeftS r ws).drop 2) [42, 47] < 0) : blankGo (f + 1) r = (false, r.length - (Lib.trimLeftS r ws).length) := by
 simp only [blankGo, h1, h2, h3, if_true, Bool.false_eq_true, if_false]
theorem blankGo_rem {f : Nat} {r : Bs} (h1 : Lib.hasPrefix (Lib.trimLeftS r ws) [47, 47] = false) (h2 : Lib.hasPrefix (Lib.trimLeftS r ws) [47, 42] = true) (i : Nat) (h3 : Lib.index ((Lib.trimLeftS r ws).drop 2) [42, 47] = i) :
  blankGo (f + 1) r = ((blankGo f ((Lib.trimLeftS r ws).drop (i + 4))).1, r.length - (Lib.trimLeftS r ws).length + (i + 4) + (blankGo f ((Lib.trimLeftS r ws).drop (i + 4))).2) := by
 simp only [blankGo, h1, h2, h3, if_true, Bool.false_eq_true, if_false]
 rw [if_neg (by omega)]
 simp
theorem blankGo_nl {f : Nat} {r : Bs} {k : Nat} (h : blankGo (f + 1) (10 :: r) = (true, k)) : 1 ≤ k := by
 have hl := (dropWhile_eq (ws.contains ·) r).2
 have e : (10 :: r).length - (Lib.trimLeftS (10 :: r) ws).length ≥ 1 := by
  have : Lib.trimLeftS (10 :: r) ws = Lib.trimLeftS r ws := by
   unfold Lib.trimLeftS; rw [List.dropWhile_cons, if_pos (by decide)]
  rw [this]
  unfold Lib.trimLeftS
  simp only [List.length_cons]; omega
 cases h1 : Lib.hasPrefix (Lib.trimLeftS (10 :: r) ws) [47, 47] with
 | true => rw [blankGo_line h1 _ rfl] at h; have := (Prod.mk.inj h).2; omega
 | false =>
  cases h2 : Lib.hasPrefix (Lib.trimLeftS (10 :: r) ws) [47, 42] with
  | false => rw [blankGo_end h1 h2] at h; have := (Prod.mk.inj h).2; omega
  | true =>
   by_cases h3 : Lib.index ((Lib.trimLeftS (10 :: r) ws).drop 2) [42, 47] < 0
   ·rw [blankGo_open h1 h2 h3] at h; have := (Prod.mk.inj h).1; simp at this
   ·rw [blankGo_rem h1 h2 (Lib.index ((Lib.trimLeftS (10 :: r) ws).drop 2) [42, 47]).toNat (by omega)] at h; have := (Prod.mk.inj h).2; omega
theorem drop_trim (r : Bs) : r.drop (r.length - (Lib.trimLeftS r ws).length) = Lib.trimLeftS r ws := (dropWhile_eq (ws.contains ·) r).1.symm
theorem trim_le (r : Bs) : (Lib.trimLeftS r ws).length ≤ r.length := (dropWhile_eq (ws.contains ·) r).2
theorem blankGo_cut : ∀ (f : Nat) (r : Bs) (k : Nat), blankGo f r = (true, k) → r.length < f → (∀ f', k < f' → blankGo f' (r.take k) = (true, k)) ∧ (∀ f', (r.drop k).length < f' → blankGo f' (r.drop k) = (true, 0))
 | 0, r, k, h, hf => by omega
 | f + 1, r, k, h, hf => by
  have hle := trim_le r
  have hdt := drop_trim r
  have htt := trim_take r
  have h2t := trim_twice r
  cases h1 : Lib.hasPrefix (Lib.trimLeftS r ws) [47, 47] with
  | true =>
   have hl2 := (hasPrefix_two h1).1
   have hix := indexByte_lt 10 (Lib.trimLeftS r ws)
   have hge := Lib.indexByte_ge (Lib.trimLeftS r ws) 10
   have h22 := indexByte_two (c := 10) h1 (by decide) (by decide)
   obtain ⟨n, hn⟩ : ∃ n, n = if Lib.indexByte (Lib.trimLeftS r ws) 10 < 0 then (Lib.trimLeftS r ws).length else (Lib.indexByte (Lib.trimLeftS r ws) 10).toNat := ⟨_, rfl⟩
   have hn2 : 2 ≤ n ∧ n ≤ (Lib.trimLeftS r ws).length := by
    rw [hn]; split <;> omega
   rw [blankGo_line h1 n hn] at h
   generalize hR : Lib.trimLeftS r ws = R at *
   obtain ⟨e1, e2⟩ := Prod.mk.inj h
   obtain ⟨k', hk'⟩ : ∃ k', blankGo f (R.drop n) = (true, k') := ⟨(blankGo f (R.drop n)).2, Prod.ext e1 rfl⟩
   rw [hk'] at e2
   simp only at e2
   obtain ⟨i1, i2⟩ := blankGo_cut f (R.drop n) k' hk' (by rw [List.length_drop]; omega)
   have hkl : k' ≤ R.length - n := by have := blank_len f (R.drop n); rw [hk', List.length_drop] at this; exact this
   have hdk : r.drop k = (R.drop n).drop k' := by rw [List.drop_drop, ← hdt, List.drop_drop]; congr 1; omega
   refine ⟨fun f' hf' => ?_, fun f' hf' => ?_⟩
   ·obtain ⟨g, rfl⟩ : ∃ g, f' = g + 1 := ⟨f' - 1, by omega⟩
    have ht : Lib.trimLeftS (r.take k) ws = R.take (n + k') := by rw [← htt (n + k')]; congr 2; omega
    have hp : Lib.hasPrefix (Lib.trimLeftS (r.take k) ws) [47, 47] = true := by rw [ht]; exact hasPrefix_long h1 (by simp; omega)
    have hd : (R.take (n + k')).drop n = (R.drop n).take k' := by rw [List.drop_take, Nat.add_sub_cancel_left]
    have hl : (R.take (n + k')).length = n + k' := by rw [List.length_take]; omega
    rw [blankGo_line hp n ?_, ht, hd, i1 g (by omega), List.length_take, hl]
    ·refine Prod.ext rfl ?_
     simp only; omega
    ·rw [ht]
     by_cases hneg : Lib.indexByte R 10 < 0
     ·rw [if_pos hneg] at hn
      have : R.take (n + k') = R := List.take_of_length_le (by omega)
      rw [this, if_pos hneg]; exact hn
     ·rw [if_neg hneg] at hn
      have hk1 : 1 ≤ k' := by
       have hnl : R.drop n = 10 :: R.drop (n + 1) := by
        have hlt : n < R.length := by omega
        have hg : R[n]'hlt = 10 := by
         have : ∀ (l : Bs) (i : Nat) (hi : i < l.length), Lib.indexByte l 10 = i → l[i] = 10 := by
          intro l
          induction l with
          | nil => intro i hi; simp at hi
          | cons b l ih =>
           intro i hi h
           unfold Lib.indexByte at h
           split at h
           ·rename_i hb
            have : i = 0 := by omega
            subst this
            simpa using hb
           ·split at h
            ·omega
            ·rename_i g1 g2
             have hge := Lib.indexByte_ge l 10
             have hne1 : Lib.indexByte l 10 ≠ -1 := by simpa using g2
             obtain ⟨j, rfl⟩ : ∃ j, i = j + 1 := ⟨i - 1, by omega⟩
             simp only [List.getElem_cons_succ]
             exact ih j (by simpa using hi) (by omega)
         exact this R n hlt (by omega)
        rw [List.drop_eq_getElem_cons hlt, hg]
       rw [hnl] at hk'
       obtain ⟨f2, rfl⟩ : ∃ f2, f = f2 + 1 := ⟨f - 1, by omega⟩
       exact blankGo_nl hk'
      have := indexByte_take (c := 10) R n (n + k') (by omega) (by omega)
      rw [this, if_neg (by omega)]; simp
   ·rw [hdk] at hf' ⊢
    exact i2 f' hf'
  | false =>
   cases h2 : Lib.hasPrefix (Lib.trimLeftS r ws) [47, 42] with
   | false =>
    rw [blankGo_end h1 h2] at h
    obtain ⟨-, e2⟩ := Prod.mk.inj h
    refine ⟨fun f' hf' => ?_, fun f' hf' => ?_⟩
    ·obtain ⟨g, rfl⟩ : ∃ g, f' = g + 1 := ⟨f' - 1, by omega⟩
     have ht : Lib.trimLeftS (r.take k) ws = [] := by
      have := htt 0
      rw [Nat.add_zero, e2] at this
      rw [this]; simp
     rw [blankGo_end (by rw [ht]; rfl) (by rw [ht]; rfl), ht, List.length_take]
     refine Prod.ext rfl ?_
     simp only [List.length_nil]; omega
    ·obtain ⟨g, rfl⟩ : ∃ g, f' = g + 1 := ⟨f' - 1, by omega⟩
     rw [← e2, hdt] at hf' ⊢
     rw [blankGo_end (by rw [h2t]; exact h1) (by rw [h2t]; exact h2), h2t, Nat.sub_self]
   | true =>
    by_cases h3 : Lib.index ((Lib.trimLeftS r ws).drop 2) [42, 47] < 0
    ·rw [blankGo_open h1 h2 h3] at h; have := (Prod.mk.inj h).1; simp at this
    ·have hl2 := (hasPrefix_two h2).1
     obtain ⟨i, hi⟩ : ∃ i : Nat, Lib.index ((Lib.trimLeftS r ws).drop 2) [42, 47] = i := ⟨(Lib.index ((Lib.trimLeftS r ws).drop 2) [42, 47]).toNat, by omega⟩
     have hil := index_le [42, 47] ((Lib.trimLeftS r ws).drop 2) (by omega)
     rw [hi, List.length_drop] at hil
     simp only [List.length_cons, List.length_nil] at hil
     rw [blankGo_rem h1 h2 i hi] at h
     generalize hR : Lib.trimLeftS r ws = R at *
     obtain ⟨e1, e2⟩ := Prod.mk.inj h
     obtain ⟨k', hk'⟩ : ∃ k', blankGo f (R.drop (i + 4)) = (true, k') := ⟨(blankGo f (R.drop (i + 4))).2, Prod.ext e1 rfl⟩
     rw [hk'] at e2
     simp only at e2
     obtain ⟨i1, i2⟩ := blankGo_cut f (R.drop (i + 4)) k' hk' (by rw [List.length_drop]; omega)
     have hkl : k' ≤ R.length - (i + 4) := by have := blank_len f (R.drop (i + 4)); rw [hk', List.length_drop] at this; exact this
     have hdk : r.drop k = (R.drop (i + 4)).drop k' := by rw [List.drop_drop, ← hdt, List.drop_drop]; congr 1; omega
     refine ⟨fun f' hf' => ?_, fun f' hf' => ?_⟩
     ·obtain ⟨g, rfl⟩ : ∃ g, f' = g + 1 := ⟨f' - 1, by omega⟩
      have ht : Lib.trimLeftS (r.take k) ws = R.take (i + 4 + k') := by rw [← htt (i + 4 + k')]; congr 2; omega
      have hp : Lib.hasPrefix (Lib.trimLeftS (r.take k) ws) [47, 42] = true := by rw [ht]; exact hasPrefix_long h2 (by simp; omega)
      have hp1 : Lib.hasPrefix (Lib.trimLeftS (r.take k) ws) [47, 47] = false := by
       cases hh : Lib.hasPrefix (Lib.trimLeftS (r.take k) ws) [47, 47] with
       | false => rfl
       | true => rw [ht] at hh; rw [hasPrefix_take hh] at h1; cases h1
      have hd : (R.take (i + 4 + k')).drop (i + 4) = (R.drop (i + 4)).take k' := by rw [List.drop_take, Nat.add_sub_cancel_left]
      have hl : (R.take (i + 4 + k')).length = i + 4 + k' := by rw [List.length_take]; omega
      rw [blankGo_rem hp1 hp i ?_, ht, hd, i1 g (by omega), List.length_take, hl]
      ·refine Prod.ext rfl ?_
       simp only; omega
      ·rw [ht, List.drop_take]
       exact index_take _ i _ hi (by simp; omega)
     ·rw [hdk] at hf' ⊢
      exact i2 f' hf'
theorem blank_cut {r : Bs} {k : Nat} (h : blankF r = (true, k)) : blankF (r.take k) = (true, k) ∧ blankF (r.drop k) = (true, 0) ∧ k ≤ r.length := by
 have hk := blank_len (r.length + 1) r
 have hk : k ≤ r.length := by have e : (blankGo (r.length + 1) r).2 = k := by unfold blankF at h; rw [h]
                              omega
 obtain ⟨h1, h2⟩ := blankGo_cut _ _ _ h (by omega)
 exact ⟨h1 _ (by rw [List.length_take]; omega), h2 _ (by omega), hk⟩
theorem blank_zero_take {r : Bs} {n : Nat} (hr : 0 < r.length) (hn : 1 ≤ n) (h : blankF r = (true, 0)) : blankF (r.take n) = (true, 0) := by
 unfold blankF at h ⊢
 have hle := trim_le r
 have hdt := drop_trim r
 have ht0 : Lib.trimLeftS r ws = r ∧ Lib.hasPrefix r [47, 47] = false ∧ Lib.hasPrefix r [47, 42] = false := by
  cases h1 : Lib.hasPrefix (Lib.trimLeftS r ws) [47, 47] with
  | true =>
   have hl2 := (hasPrefix_two h1).1
   have h22 := indexByte_two (c := 10) h1 (by decide) (by decide)
   have hge := Lib.indexByte_ge (Lib.trimLeftS r ws) 10
   rw [blankGo_line h1 _ rfl] at h
   have := (Prod.mk.inj h).2
   split at this <;> omega
  | false =>
   cases h2 : Lib.hasPrefix (Lib.trimLeftS r ws) [47, 42] with
   | true =>
    by_cases h3 : Lib.index ((Lib.trimLeftS r ws).drop 2) [42, 47] < 0
    ·rw [blankGo_open h1 h2 h3] at h; have := (Prod.mk.inj h).1; simp at this
    ·rw [blankGo_rem h1 h2 (Lib.index ((Lib.trimLeftS r ws).drop 2) [42, 47]).toNat (by omega)] at h; have := (Prod.mk.inj h).2; omega
   | false =>
    rw [blankGo_end h1 h2] at h
    have e := (Prod.mk.inj h).2
    rw [e, List.drop_zero] at hdt
    rw [← hdt] at h1 h2
    exact ⟨hdt.symm, h1, h2⟩
 obtain ⟨e, h1, h2⟩ := ht0
 have et : Lib.trimLeftS (r.take n) ws = r.take n := by
  have := trim_take r n
  rw [e, Nat.sub_self, Nat.zero_add] at this
  exact this
 have np : ∀ p, Lib.hasPrefix r p = false → Lib.hasPrefix (r.take n) p = false := fun p hp => by
  cases hh : Lib.hasPrefix (r.take n) p with
  | false => rfl
  | true => rw [hasPrefix_take hh] at hp; cases hp
 rw [blankGo_end (by rw [et]; exact np _ h1) (by rw [et]; exact np _ h2), et, Nat.sub_self]
def Chain (s : Bs) (M : Int) : Nat → List Tok → Prop
 | a, [] => allF (s.drop a) M = ([], (0, 0))
 | a, t :: l => a ≤ t.at' ∧ t.at' < t.fin ∧ t.fin ≤ s.length ∧ allF (cut s a t.at') M = ([], (0, 0)) ∧ allF (cut s t.at' t.fin) M = ([⟨t.kind, t.text, t.n, 0, t.fin - t.at'⟩], (0, 0)) ∧ Chain s M t.fin l
theorem allF_blank {r : Bs} {M : Int} (h : blankF r = (true, r.length)) : allF r M = ([], (0, 0)) := by
 unfold allF allGo
 rw [h]
 simp
theorem blankF_nil : blankF [] = (true, 0) := blankGo_nil 0
theorem chain_of (s : Bs) (M : Int) (hM : 0 < M) : ∀ (f : Nat) (most : Int) (a : Nat) (l : List Tok) (p : Nat), allGo f most a (s.drop a) = (l, (p, 0)) → s.length < a + f → a ≤ s.length → Chain s M a l
 | 0, most, a, l, p, h, hf, ha => by omega
 | f + 1, most, a, l, p, h, hf, ha => by
  rw [allGo] at h
  split at h
  ·have := congrArg (fun x => x.2.2) h; simp at this
  ·rename_i hb
   obtain ⟨k, hk⟩ : ∃ k, blankF (s.drop a) = (true, k) := ⟨(blankF (s.drop a)).2, Prod.ext (by simpa using hb) rfl⟩
   obtain ⟨c1, c2, c3⟩ := blank_cut hk
   rw [List.length_drop] at c3
   rw [hk] at h
   simp only at h
   split at h
   ·rename_i hnil
    have hl : l = [] := (congrArg (fun x => x.1) h).symm
    subst hl
    have hlen := congrArg List.length hnil
    rw [List.length_drop, List.length_drop, List.length_nil] at hlen
    show allF (s.drop a) M = ([], (0, 0))
    exact allF_blank (by rw [hk, List.length_drop]; congr 1; omega)
   ·rename_i hnil
    rw [List.drop_drop] at h hnil c2
    have hpos := List.length_pos_iff.2 hnil
    split at h
    ·rename_i q e hx
     have := nextF_bad hx
     have h0 : e = 0 := congrArg (fun x => x.2.2) h
     omega
    ·rename_i t hx
     obtain ⟨t1, t2, t3⟩ := nextF_tok hpos hx
     rw [List.length_drop] at t3 hpos
     have hdr : (s.drop (a + k)).drop (t.fin - (a + k)) = s.drop t.fin := by rw [List.drop_drop]; congr 1; omega
     rw [hdr] at h
     have hl : l = t :: (allGo f (most - 1) t.fin (s.drop t.fin)).1 := (congrArg (fun x => x.1) h).symm
     have h2 : (allGo f (most - 1) t.fin (s.drop t.fin)).2 = (p, 0) := congrArg (fun x => x.2) h
     subst hl
     refine ⟨by omega, by omega, by omega, ?_, ?_, chain_of s M hM f (most - 1) t.fin _ p (Prod.ext rfl h2) (by omega) (by omega)⟩
     ·rw [t1, cut_mid, Nat.add_sub_cancel_left]
      exact allF_blank (by rw [c1, List.length_take, List.length_drop]; congr 1; omega)
     ·rw [t1, cut_mid]
      have hx2 := next_take (by rw [List.length_drop]; exact hpos) hx
      have hlen : ((s.drop (a + k)).take (t.fin - (a + k))).length = t.fin - (a + k) := by rw [List.length_take, List.length_drop]; omega
      have hb0 := blank_zero_take (n := t.fin - (a + k)) (by rw [List.length_drop]; exact hpos) (by omega) c2
      obtain ⟨g, hg⟩ : ∃ g, t.fin - (a + k) = g + 1 := ⟨t.fin - (a + k) - 1, by omega⟩
      unfold allF
      rw [hlen, allGo, hb0]
      simp only [Bool.true_eq_false, if_false, Nat.add_zero, List.drop_zero, Nat.sub_zero]
      rw [if_neg (fun g => by rw [g] at hlen; simp at hlen; omega), show decide (0 < M) = true by simpa using hM, hx2]
      simp only [Nat.sub_zero]
      rw [show ((s.drop (a + k)).take (t.fin - (a + k))).drop (t.fin - (a + k)) = [] from List.drop_eq_nil_of_le (by omega), hg, allGo, blankF_nil]
      simp
theorem all_chain {s : Bs} {M : Int} (hM : 0 < M) (h : (allF s M).2.2 = 0) : Chain s M 0 (allF s M).1 := chain_of s M hM _ M 0 _ (allF s M).2.1 (by rw [List.drop_zero]; exact Prod.ext rfl (Prod.ext rfl h)) (by omega) (by omega)
end Go.PM.Lex
end

section
set_option maxRecDepth 100000
namespace Go.PM.Lex
theorem dN_app {len len' b0 b1 b2 b3 b1' b2' b3' : Nat} (hl : len ≤ len') (h1 : 1 < len → b1' = b1) (h2 : 2 < len → b2' = b2) (h3 : 3 < len → b3' = b3) (hv : Lib.decodeN len b0 b1 b2 b3 ≠ (65533, 1)) :
  Lib.decodeN len' b0 b1' b2' b3' = Lib.decodeN len b0 b1 b2 b3 := by
 rcases Lib.decodeN_shape len b0 b1 b2 b3 with ⟨c, e⟩ | ⟨c1, c2, c3, cv, e⟩ | ⟨c1, c2, c3, c4, cv, cs, e⟩ | ⟨c1, c2, c3, c4, c5, cv, cw, e⟩ | e
 ·rw [e]; unfold Lib.decodeN; rw [if_pos c]
 ·rw [e, h1 (by omega)]
  unfold Lib.decodeN
  rw [if_neg (by omega), if_pos ⟨c1, by omega, c3⟩, if_pos (by omega)]
 ·rw [e, h1 (by omega), h2 (by omega)]
  unfold Lib.decodeN
  rw [if_neg (by omega), if_neg (by omega), if_pos ⟨c1, ⟨by omega, c3⟩, by omega, c4⟩, if_pos ⟨by omega, by omega⟩]
 ·rw [e, h1 (by omega), h2 (by omega), h3 (by omega)]
  unfold Lib.decodeN
  rw [if_neg (by omega), if_neg (by omega), if_neg (by omega), if_pos ⟨c1, ⟨by omega, c3⟩, ⟨by omega, c4⟩, by omega, c5⟩, if_pos ⟨by omega, by omega⟩]
 ·exact absurd e hv
theorem getD_app (x y : Bs) (k : Nat) (h : k < x.length) : (x ++ y).getD k 0 = x.getD k 0 := by
 simp only [List.getD_eq_getElem?_getD]; rw [List.getElem?_append_left h]
theorem dec_app {x y : Bs} (hx : x ≠ []) (hv : Lib.decodeL x ≠ (65533, 1)) : Lib.decodeL (x ++ y) = Lib.decodeL x := by
 have hpos := List.length_pos_iff.2 hx
 rw [Lib.decodeL_N] at hv ⊢
 rw [Lib.decodeL_N, getD_app x y 0 hpos]
 exact dN_app (by rw [List.length_append]; omega) (fun h => by rw [getD_app x y 1 h]) (fun h => by rw [getD_app x y 2 h]) (fun h => by rw [getD_app x y 3 h]) hv
theorem pk_app {x y : Bs} (h : (pk x).1 ≠ -1) : pk (x ++ y) = pk x := by
 have hx := (pk_le x h).2.2
 unfold pk at h ⊢
 split at h
 ·exact absurd rfl h
 ·rename_i g
  rw [if_neg g]
  simp only [not_or] at g
  have e := dec_app (y := y) hx g.2
  rw [e, if_neg (by simp only [not_or]; exact ⟨by simp [hx], g.2⟩)]
theorem pk_sp (z : Bs) : pk (32 :: z) = (32, 1) := by
 have e : Lib.decodeL (32 :: z) = (32, 1) := by
  rw [Lib.decodeL_N]; unfold Lib.decodeN; rw [if_pos (by simp)]; simp
 unfold pk
 rw [e]; simp
theorem nameGo_sp (f : Nat) (z : Bs) : nameGo (f + 1) (32 :: z) = 0 := nameGo_end (by rw [pk_sp]; decide) (by rw [pk_sp]; decide) (by rw [pk_sp]; decide)
theorem nameGo_ext {z : Bs} : ∀ (f : Nat) (x : Bs), nameGo f x = x.length → ∀ f', x.length < f' → nameGo f' (x ++ 32 :: z) = x.length
 | 0, x, h, f', hf => by
  have hx : x = [] := List.eq_nil_of_length_eq_zero h.symm
  subst hx
  obtain ⟨g, rfl⟩ : ∃ g, f' = g + 1 := ⟨f' - 1, by omega⟩
  exact nameGo_sp g z
 | f + 1, x, h, f', hf => by
  obtain ⟨g, rfl⟩ : ∃ g, f' = g + 1 := ⟨f' - 1, by omega⟩
  by_cases hx : x = []
  ·subst hx; exact nameGo_sp g z
  ·have hpos := List.length_pos_iff.2 hx
   have step : ∀ (hne : (pk x).1 ≠ -1), nameGo (f + 1) x = (pk x).2 + nameGo f (x.drop (pk x).2) → pk (x ++ 32 :: z) = pk x ∧ (x ++ 32 :: z).drop (pk x).2 = x.drop (pk x).2 ++ 32 :: z ∧ (pk x).2 + nameGo g (x.drop (pk x).2 ++ 32 :: z) = x.length := fun hne e => by
    obtain ⟨h1, h2, h3⟩ := pk_le x hne
    refine ⟨pk_app hne, by rw [List.drop_append_of_le_length h2], ?_⟩
    have := nameGo_ext (z := z) f (x.drop (pk x).2) (by rw [List.length_drop]; omega) g (by rw [List.length_drop]; omega)
    rw [this, List.length_drop]; omega
   by_cases h1 : (pk x).1 = 46
   ·by_cases h2 : isLetter (pk (x.drop 1)).1 = true
    ·have e := nameGo_dot (f := f) h1 h2
     obtain ⟨s1, s2, s3⟩ := step (by omega) e
     have hlow := pk_low x (by omega) (by omega)
     rw [nameGo_dot (f := g) (by rw [s1]; exact h1) (by rw [hlow.2.2] at s2; rw [s2, pk_app (letter_ne (.inl h2))]; exact h2), s1, s2, s3]
    ·have e := nameGo_dotend (f := f) h1 (by simpa using h2)
     omega
   ·by_cases h2 : isLetter (pk x).1 = true ∨ isDigit (pk x).1 = true
    ·have e := nameGo_on (f := f) h1 h2
     obtain ⟨s1, s2, s3⟩ := step (letter_ne h2) e
     rw [nameGo_on (f := g) (by rw [s1]; exact h1) (by rw [s1]; exact h2), s1, s2, s3]
    ·simp only [not_or, Bool.not_eq_true] at h2
     have e := nameGo_end (f := f) h1 h2.1 h2.2
     omega
theorem textGo_ext {y : Bs} : ∀ (f : Nat) (x : Bs) (esc : Bool) (acc : Bs) (p : Nat) (t : Bs) (l : Nat), textGo f x esc acc p = .ok t l → ∀ f', x.length < f' → textGo f' (x ++ y) esc acc p = .ok t l
 | 0, x, esc, acc, p, t, l, h, f', hf => by simp [textGo] at h
 | f + 1, x, esc, acc, p, t, l, h, f', hf => by
  obtain ⟨g, rfl⟩ : ∃ g, f' = g + 1 := ⟨f' - 1, by omega⟩
  unfold textGo at h
  split at h
  ·cases h
  ·rename_i hne
   have hd := Lib.decodeL_le x hne
   have hr := dec_rng x
   have hne' : ¬ x ++ y = [] := by simp [hne]
   have hdr : (x ++ y).drop (Lib.decodeL x).2 = x.drop (Lib.decodeL x).2 ++ y := List.drop_append_of_le_length hd
   have low : (Lib.decodeL x).1 < 128 → Lib.decodeL (x ++ y) = Lib.decodeL x := fun h => dec_app hne (fun g => by rw [g] at h; simp at h)
   have rec' : ∀ es ac, textGo f (x.drop (Lib.decodeL x).2) es ac (p + (Lib.decodeL x).2) = .ok t l → textGo g ((x ++ y).drop (Lib.decodeL x).2) es ac (p + (Lib.decodeL x).2) = .ok t l := fun es ac h => by
    rw [hdr]; exact textGo_ext f _ _ _ _ _ _ h g (by rw [List.length_drop]; omega)
   unfold textGo
   rw [if_neg hne']
   split at h
   ·rename_i he
    rw [if_pos he]
    split at h
    ·cases h
    ·rename_i b hb
     have hlow : (Lib.decodeL x).1 < 128 := by
      unfold escB at hb
      repeat' split at hb
      all_goals first | omega | cases hb
     rw [low hlow, hb]
     exact rec' _ _ h
   ·rename_i he
    rw [if_neg he]
    split at h
    ·rename_i h34
     rw [low (by omega), if_pos h34]; exact h
    ·rename_i h34
     split at h
     ·rename_i h92
      rw [low (by omega), if_neg h34, if_pos h92]
      exact rec' _ _ h
     ·rename_i h92
      split at h
      ·cases h
      ·rename_i h32
       have hv : Lib.decodeL x ≠ (65533, 1) := fun g => by
        apply h32
        unfold pk; rw [if_pos (.inr g)]; decide
       have e : pk (x ++ y) = pk x := pk_app (by omega)
       rw [dec_app hne hv, if_neg h34, if_neg h92, e, if_neg h32]
       exact rec' _ _ h
theorem takeWhile_all_app (p : UInt8 → Bool) (z : Bs) (hz : p 32 = false) : ∀ l : Bs, (l.takeWhile p).length = l.length → (l ++ 32 :: z).takeWhile p = l
 | [], _ => by simp [List.takeWhile_cons, hz]
 | b :: l, h => by
  by_cases hb : p b = true
  ·simp only [List.takeWhile_cons, hb, if_true, List.length_cons, List.cons_append] at h ⊢
   rw [takeWhile_all_app p z hz l (by omega)]
  ·simp [List.takeWhile_cons, hb] at h
theorem hasPrefix_app {x y p : Bs} (h : Lib.hasPrefix x p = true) : Lib.hasPrefix (x ++ y) p = true := by
 unfold Lib.hasPrefix at h ⊢
 rw [List.isPrefixOf_iff_prefix] at h ⊢
 exact h.trans (List.prefix_append x y)
theorem hasPrefix_sp {x z : Bs} {a b : UInt8} (hx : x ≠ []) (hb : b ≠ 32) (h : Lib.hasPrefix (x ++ 32 :: z) [a, b] = true) : Lib.hasPrefix x [a, b] = true := by
 match x, hx with
 | [c], _ =>
  simp only [Lib.hasPrefix, List.cons_append, List.nil_append, List.isPrefixOf, Bool.and_true, Bool.and_eq_true, beq_iff_eq] at h
  exact absurd h.2 hb
 | c :: d :: l, _ =>
  simpa [Lib.hasPrefix, List.isPrefixOf] using h
theorem number_ext {x z : Bs} {v : Nat} (h : numberF x = some v) (hl : numLen x = x.length) : numberF (x ++ 32 :: z) = some v ∧ numLen (x ++ 32 :: z) = x.length := by
 have hne : numDigits x ≠ [] := fun g => by rw [numberF, if_pos g] at h; cases h
 have hxne : x ≠ [] := fun g => by subst g; exact hne (by decide)
 have hx : isHex (x ++ 32 :: z) = isHex x := by
  cases hh : isHex x with
  | true => exact hasPrefix_app hh
  | false =>
   cases hh2 : isHex (x ++ 32 :: z) with
   | false => rfl
   | true => have := hasPrefix_sp hxne (by decide) hh2; unfold isHex at hh; rw [this] at hh; cases hh
 have h32 : ∀ hex, digB hex 32 = false := by decide
 have hk : (if isHex x = true then 2 else 0) ≤ x.length := by
  split
  ·rename_i g; exact (hasPrefix_two g).1
  ·omega
 have hd : numDigits (x ++ 32 :: z) = numDigits x := by
  have e : (numDigits x).length = (x.drop (if isHex x = true then 2 else 0)).length := by rw [List.length_drop]; unfold numLen at hl; omega
  unfold numDigits at e ⊢
  rw [hx, List.drop_append_of_le_length hk, takeWhile_all_app _ _ (h32 _) _ e]
  rw [takeWhile_take, e, List.take_length]
 have hl2 : numLen (x ++ 32 :: z) = x.length := by
  rw [← hl]; unfold numLen; rw [hx, hd]
 refine ⟨?_, hl2⟩
 have hnil : (x ++ 32 :: z).drop x.length = 32 :: z := by simp
 unfold numberF at h ⊢
 rw [hd, hl2, hnil, hx]
 rw [if_neg hne] at h ⊢
 generalize (if isHex x = true then 18446744073709551616 else 9223372036854775808) = L at h ⊢
 generalize numV (if isHex x = true then 16 else 10) (numDigits x) = V at h ⊢
 split at h
 ·cases h
 ·rename_i g1
  rw [if_neg g1]
  split at h
  ·cases h
  ·rename_i g2
   simp only [not_or] at g2
   rw [if_neg]
   ·exact h
   ·simp only [not_or]
    exact ⟨by rw [pk_sp]; decide, by rw [pk_sp]; decide, g2.2.2⟩
theorem twos_sp {x z : Bs} (hx : x ≠ []) (h : twos.any (Lib.hasPrefix (x ++ 32 :: z)) = true) : twos.any (Lib.hasPrefix x) = true := by
 simp only [twos, List.any_cons, List.any_nil, Bool.or_false, Bool.or_eq_true] at h ⊢
 rcases h with h | h | h | h | h
 ·exact .inl (hasPrefix_sp hx (by decide) h)
 ·exact .inr (.inl (hasPrefix_sp hx (by decide) h))
 ·exact .inr (.inr (.inl (hasPrefix_sp hx (by decide) h)))
 ·exact .inr (.inr (.inr (.inl (hasPrefix_sp hx (by decide) h))))
 ·exact .inr (.inr (.inr (.inr (hasPrefix_sp hx (by decide) h))))
theorem sign_ext {x z : Bs} (hx : x ≠ []) : signF (x ++ 32 :: z) = signF x := by
 have hpos := List.length_pos_iff.2 hx
 unfold signF
 rw [getD_app x _ 0 hpos]
 cases h : twos.any (Lib.hasPrefix x) with
 | true =>
  have : twos.any (Lib.hasPrefix (x ++ 32 :: z)) = true := by
   rw [List.any_eq_true] at h ⊢
   obtain ⟨p, hp, hq⟩ := h
   exact ⟨p, hp, hasPrefix_app hq⟩
  rw [if_pos this, if_pos rfl]
 | false =>
  have : ¬ twos.any (Lib.hasPrefix (x ++ 32 :: z)) = true := fun g => by rw [twos_sp hx g] at h; cases h
  rw [if_neg this, if_neg (show ¬ (false = true) by simp)]
theorem next_ext {x z : Bs} {a n : Nat} {k : Nat} {tx : Bs} {v : Int} (hx : x ≠ []) (h : nextF 0 x true = .tok ⟨k, tx, v, 0, x.length⟩) : nextF a (x ++ 32 :: z) true = .tok ⟨k, tx, v, a, a + x.length⟩ := by
 have hpos := List.length_pos_iff.2 hx
 rw [nextF_eq] at h ⊢
 rw [sign_ext hx]
 split at h
 ·cases h
 ·rename_i g0
  rw [if_neg (by simp)] at h
  split at h
  ·rename_i g1
   simp only [NR.tok.injEq, Tok.mk.injEq] at h
   obtain ⟨e1, e2, e3, -, e4⟩ := h
   rw [if_neg (fun g => by omega), if_neg (by simp), if_pos g1, ← e1, ← e2, ← e3, ← e4, Nat.zero_add]
   rw [List.take_append_of_le_length (by omega)]
  ·rename_i g1
   have hs : signF x = 0 := by omega
   split at h
   ·rename_i g2
    have hpk : pk (x ++ 32 :: z) = pk x := pk_app (by omega)
    unfold textR at h
    split at h
    ·cases h
    ·rename_i t l ht
     simp only [NR.tok.injEq, Tok.mk.injEq] at h
     obtain ⟨e1, e2, e3, -, e4⟩ := h
     have ht' : textF (x ++ 32 :: z) = .ok t l := by
      unfold textF at ht ⊢
      rw [List.drop_append_of_le_length hpos]
      exact textGo_ext _ _ _ _ _ _ _ ht _ (by rw [List.length_drop, List.length_append]; omega)
     rw [hpk, if_neg (fun g => g.2.1 g2), if_neg (by simp), if_neg (by omega), if_pos g2, textR, ht', ← e1, ← e2, ← e3, ← e4, Nat.zero_add]
   ·rename_i g2
    split at h
    ·rename_i g3
     have hpk : pk (x ++ 32 :: z) = pk x := pk_app (letter_ne (.inr g3))
     unfold numberR at h
     split at h
     ·cases h
     ·rename_i n hn
      simp only [NR.tok.injEq, Tok.mk.injEq] at h
      obtain ⟨e1, e2, e3, -, e4⟩ := h
      obtain ⟨h1, h2⟩ := number_ext (z := z) hn (by omega)
      rw [hpk, if_neg (fun g => by rw [g3] at g; simp at g), if_neg (by simp), if_neg (by omega), if_neg g2, if_pos g3, numberR, h1, h2, ← e1, ← e2, ← e3]
    ·rename_i g3
     have h4 : isLetter (pk x).1 = true := by
      cases hb : isLetter (pk x).1 with
      | true => rfl
      | false => exact absurd ⟨hs, g2, hb, by simpa using g3⟩ g0
     have hpk : pk (x ++ 32 :: z) = pk x := pk_app (letter_ne (.inl h4))
     simp only [NR.tok.injEq, Tok.mk.injEq] at h
     obtain ⟨e1, e2, e3, -, e4⟩ := h
     have hn : nameF (x ++ 32 :: z) = x.length := nameGo_ext (x.length + 1) x (by unfold nameF at e4; omega) _ (by rw [List.length_append]; omega)
     rw [hpk, if_neg (fun g => by rw [h4] at g; simp at g), if_neg (by simp), if_neg (by omega), if_neg g2, if_neg g3, hn, ← e1, ← e2, ← e3]
     rw [show nameF x = x.length by omega, List.take_append_of_le_length (Nat.le_refl _)]
end Go.PM.Lex
end
