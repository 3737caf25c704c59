/- A part of the proof: plain logic, contracts and laws over the given program. -/
import Derived.Test.YtjmoaahgfjaafaaGreatDoorH09
set_option linter.unusedVariables false
set_option linter.unusedSimpArgs false
set_option linter.all false
section
set_option maxRecDepth 100000
set_option maxHeartbeats 4000000
namespace Go.PM.Lex
open Go.Proofs
variable {w0 : World} {nG : Nat}
theorem cPlace : PCalls (GG w0 nG) 91 spPlace := place_ok ⟨⟨more_ok, spMore_mono⟩, trivial⟩
theorem cIs : PCalls (GG w0 nG) 86 spIs := is_ok ⟨⟨more_ok, spMore_mono⟩, ⟨contains_ok, spContains_mono⟩, trivial⟩
theorem cNamed : PCalls (GG w0 nG) 95 (spAsk namedF) := named_ok ⟨⟨more_ok, spMore_mono⟩, ⟨kept_ok, spKept_mono⟩, trivial⟩
theorem cFail : PCalls (GG w0 nG) 85 spFail := fail_ok ⟨⟨cPlace, spPlace_mono⟩, trivial⟩
theorem cTake : PCalls (GG w0 nG) 104 spTake := take_ok ⟨⟨cIs, spIs_mono⟩, trivial⟩
theorem cMust : PCalls (GG w0 nG) 93 spMust := must_ok ⟨⟨cTake, spTake_mono⟩, ⟨cFail, spFail_mono⟩, trivial⟩
theorem cRoom : PCalls (GG w0 nG) 87 spRoom := room_ok ⟨⟨cFail, spFail_mono⟩, trivial⟩
theorem cPName : PCalls (GG w0 nG) 92 spNameP := pname_ok ⟨⟨cNamed, spAsk_mono _⟩, ⟨cFail, spFail_mono⟩, trivial⟩
theorem cStarts : PCalls (GG w0 nG) 184 (spAsk startsF) := starts_ok ⟨⟨more_ok, spMore_mono⟩, ⟨cIs, spIs_mono⟩, ⟨kept_ok, spKept_mono⟩, ⟨functor_ok, spFunctor_mono⟩, trivial⟩
theorem cBinary : PCalls (GG w0 nG) 181 spBin := binary_ok ⟨⟨more_ok, spMore_mono⟩, trivial⟩
theorem cField1 : PCalls (GG w0 nG) 239 spField1 := field1_ok ⟨⟨cPName, spR_mono _ _ _⟩, ⟨cMust, spMust_mono⟩, trivial⟩
theorem cFields : PCalls (GG w0 nG) 168 spFields := fields_ok ⟨⟨cIs, spIs_mono⟩, ⟨manyField_ok ⟨⟨cNamed, spAsk_mono _⟩, ⟨cFail, spFail_mono⟩, ⟨cField1, spR1_mono _ _ _⟩, ⟨cTake, spTake_mono⟩, trivial⟩, spManyField_mono⟩, trivial⟩
theorem cNames : PCalls (GG w0 nG) 94 spNames := names_ok ⟨⟨cTake, spTake_mono⟩, ⟨manyStr_ok ⟨⟨cNamed, spAsk_mono _⟩, ⟨cFail, spFail_mono⟩, ⟨cPName, spR_mono _ _ _⟩, ⟨cTake, spTake_mono⟩, trivial⟩, spManyStr_mono⟩, ⟨cMust, spMust_mono⟩, trivial⟩
theorem cCase1 : PCalls (GG w0 nG) 170 spCase1 := case1_ok ⟨⟨cPName, spR_mono _ _ _⟩, ⟨cMust, spMust_mono⟩, ⟨cFields, spFields_mono⟩, trivial⟩
theorem cTyped : PCalls (GG w0 nG) 88 spTyped := typed_ok ⟨⟨cPlace, spPlace_mono⟩, ⟨cPName, spR_mono _ _ _⟩, ⟨cTake, spTake_mono⟩, ⟨cMust, spMust_mono⟩, ⟨cFields, spFields_mono⟩, ⟨manyCase_ok ⟨⟨cNamed, spAsk_mono _⟩, ⟨cFail, spFail_mono⟩, ⟨cCase1, spR1_mono _ _ _⟩, ⟨cTake, spTake_mono⟩, trivial⟩, spManyCase_mono⟩, trivial⟩
theorem cDecl : PCalls (GG w0 nG) 89 spDecl := decl_ok ⟨⟨cPlace, spPlace_mono⟩, ⟨cPName, spR_mono _ _ _⟩, ⟨cTake, spTake_mono⟩, ⟨cMust, spMust_mono⟩, ⟨cFields, spFields_mono⟩, trivial⟩
theorem cIdx : PCalls (GG w0 nG) 244 spIdx := idx_ok ⟨⟨take1a_ok ⟨⟨cTake, spTake_mono⟩, trivial⟩, spTake1_mono⟩, ⟨take1b_ok ⟨⟨cTake, spTake_mono⟩, trivial⟩, spTake1_mono⟩, trivial⟩
theorem manyExB_zero (h : Enters (GG w0 nG).P 183) : PCalls (GG w0 nG) 183 (spManyExB 0) := ⟨h, fun args σ K hs => by
 exfalso
 unfold spManyExB at hs
 split at hs
 ·exact absurd hs.1.2.2.2.2.1 (by omega)
 ·exact hs⟩
theorem manyExB_succ {d : Nat} (h : PCalls (GG w0 nG) 183 (spManyEx d)) : PCalls (GG w0 nG) 183 (spManyExB (d + 1)) := h.weaken1 fun args σ K hs => by
 unfold spManyExB at hs
 unfold spManyEx
 split at hs
 ·obtain ⟨⟨h1, h2, h3, h4, h5, h6, h7⟩, hs⟩ := hs
  exact ⟨⟨h1, h2, h3, h4, by omega, h7⟩, hs⟩
 ·exact hs.elim
theorem lineB_zero (d : Nat) (h : Enters (GG w0 nG).P 102) : PCalls (GG w0 nG) 102 (spLineB d 0) := ⟨h, fun args σ K hs => by
 exfalso
 unfold spLineB rdSp at hs
 split at hs
 ·obtain ⟨L, ts, _, _, hs⟩ := hs
  split at hs
  ·exact absurd hs.1.2.1 (by omega)
  ·exact hs
 ·exact hs⟩
theorem lineB_succ {d j : Nat} (h : PCalls (GG w0 nG) 102 (spLine d j)) : PCalls (GG w0 nG) 102 (spLineB d (j + 1)) := h.weaken1 fun args σ K hs => by
 unfold spLineB rdSp at hs
 unfold spLine rdSp
 split at hs
 ·obtain ⟨L, ts, h1, h2, hs⟩ := hs
  refine ⟨L, ts, h1, h2, ?_⟩
  split at hs
  ·exact ⟨⟨hs.1.1, hs.1.2.2.1, hs.1.2.2.2.1, by have := hs.1.2.2.2.2; omega⟩, hs.2⟩
  ·exact hs.elim
 ·exact hs
structure Deep (w0 : World) (nG d : Nat) : Prop where
 sg : PCalls (GG w0 nG) 180 (spSignedB d)
 ex : PCalls (GG w0 nG) 47 (spExprB d)
 many : PCalls (GG w0 nG) 183 (spManyExB d)
theorem cArgs_of {d : Nat} (D : Deep w0 nG d) : PCalls (GG w0 nG) 103 (spArgs d) := args_ok ⟨⟨(in_ok (tb := tblArgsW d) ⟨⟨cIs, spIs_mono⟩, ⟨cMust, spMust_mono⟩, ⟨cFail, spFail_mono⟩, ⟨(in_ok (tb := tblArgs1 d) ⟨⟨cIs, spIs_mono⟩, ⟨D.many, spManyExB_mono d⟩, trivial⟩ Tryz.func182 rfl (by kernel_rfl) (by kernel_rfl)), spIn_mono _ _⟩, trivial⟩ Tryz.func171 rfl (by kernel_rfl) (by kernel_rfl)), spIn_mono _ _⟩, trivial⟩
theorem cCall_of {d : Nat} (D : Deep w0 nG d) : PCalls (GG w0 nG) 294 (spCall d) := call_ok ⟨⟨(in_ok (tb := tblCallW d) ⟨⟨cIs, spIs_mono⟩, ⟨cMust, spMust_mono⟩, ⟨cFail, spFail_mono⟩, ⟨(inU_ok (tb := tblCall1 d) ⟨⟨cMust, spMust_mono⟩, ⟨D.ex, spRB_mono _ _ _ _⟩, trivial⟩ Tryz.func322 rfl (by kernel_rfl) (by kernel_rfl)), spInU_mono _ _ _⟩, trivial⟩ Tryz.func171 rfl (by kernel_rfl) (by kernel_rfl)), spIn_mono _ _⟩, trivial⟩
theorem cPrimary_of {d : Nat} (D : Deep w0 nG d) : PCalls (GG w0 nG) 243 (spPrimary d) := primary_ok ⟨⟨cStarts, spAsk_mono _⟩, ⟨cFail, spFail_mono⟩, ⟨more_ok, spMore_mono⟩, ⟨(in_ok (tb := tblPrimW d) ⟨⟨cIs, spIs_mono⟩, ⟨cMust, spMust_mono⟩, ⟨cFail, spFail_mono⟩, ⟨(in_ok (tb := tblPrim1 d) ⟨⟨D.ex, spRB_mono _ _ _ _⟩, trivial⟩ Tryz.func293 rfl (by kernel_rfl) (by kernel_rfl)), spIn_mono _ _⟩, trivial⟩ Tryz.func171 rfl (by kernel_rfl) (by kernel_rfl)), spIn_mono _ _⟩, ⟨cArgs_of D, spArgs_mono d⟩, ⟨cPName, spR_mono _ _ _⟩, ⟨cIs, spIs_mono⟩, ⟨functor_ok, spFunctor_mono⟩, ⟨cCall_of D, spCall_mono d⟩, trivial⟩
theorem cSigned_of {d : Nat} (D : Deep w0 nG d) : PCalls (GG w0 nG) 180 (spSigned d) := signed_ok ⟨⟨cPlace, spPlace_mono⟩, ⟨cIs, spIs_mono⟩, ⟨(in_ok (tb := tblSignW d) ⟨⟨cIs, spIs_mono⟩, ⟨cMust, spMust_mono⟩, ⟨cFail, spFail_mono⟩, ⟨(in_ok (tb := tblSign1 d) ⟨⟨D.sg, spRB_mono _ _ _ _⟩, trivial⟩ Tryz.func242 rfl (by kernel_rfl) (by kernel_rfl)), spIn_mono _ _⟩, trivial⟩ Tryz.func171 rfl (by kernel_rfl) (by kernel_rfl)), spIn_mono _ _⟩, ⟨cPrimary_of D, spRD_mono _ _ _ _⟩, trivial⟩
theorem cLine_of {d : Nat} (D : Deep w0 nG d) : ∀ j, PCalls (GG w0 nG) 102 (spLine d j)
 | 0 => line_ok ⟨⟨cSigned_of D, spRD_mono _ _ _ _⟩, ⟨cBinary, spBin_mono⟩, ⟨lineB_zero d (enters_of Tryz.func102 (by kernel_rfl) rfl), spLineB_mono d 0⟩, trivial⟩
 | j + 1 => line_ok ⟨⟨cSigned_of D, spRD_mono _ _ _ _⟩, ⟨cBinary, spBin_mono⟩, ⟨lineB_succ (cLine_of D j), spLineB_mono d (j + 1)⟩, trivial⟩
theorem cExpr_of {d : Nat} (D : Deep w0 nG d) : PCalls (GG w0 nG) 47 (spExpr d) := expr_ok ⟨⟨cLine_of D 6, spLine_mono d 6⟩, trivial⟩
theorem manyEx_of {d : Nat} (h : PCalls (GG w0 nG) 47 (spExpr d)) : PCalls (GG w0 nG) 183 (spManyEx d) := manyEx_ok d ⟨⟨cStarts, spAsk_mono _⟩, ⟨cFail, spFail_mono⟩, ⟨h, spRD_mono _ _ _ _⟩, ⟨cTake, spTake_mono⟩, trivial⟩
theorem deep : ∀ d, Deep w0 nG d
 | 0 => ⟨spRB_zero (enters_of Tryz.func180 (by kernel_rfl) rfl), spRB_zero (enters_of Tryz.func47 (by kernel_rfl) rfl), manyExB_zero (enters_of Tryz.func183 (by kernel_rfl) rfl)⟩
 | d + 1 => ⟨spRB_succ (cSigned_of (deep d)), spRB_succ (cExpr_of (deep d)), manyExB_succ (manyEx_of (cExpr_of (deep d)))⟩
theorem cArgs (d : Nat) : PCalls (GG w0 nG) 103 (spArgs d) := cArgs_of (deep d)
theorem cExpr (d : Nat) : PCalls (GG w0 nG) 47 (spExpr d) := cExpr_of (deep d)
theorem cBody1 : PCalls (GG w0 nG) 186 (spAsk1 litStarts) := body1_ok ⟨⟨cStarts, spAsk_mono _⟩, ⟨cIs, spIs_mono⟩, trivial⟩
theorem cLit_of {d : Nat} (h : PCalls (GG w0 nG) 105 (spBodyB d)) : PCalls (GG w0 nG) 187 (spLit d) := lit_ok ⟨⟨cPlace, spPlace_mono⟩, ⟨cTake, spTake_mono⟩, ⟨more_ok, spMore_mono⟩, ⟨cNamed, spAsk_mono _⟩, ⟨cPName, spR_mono _ _ _⟩, ⟨cArgs d, spArgs_mono d⟩, ⟨cExpr d, spRD_mono _ _ _ _⟩, ⟨cIdx, spIdx_mono⟩, ⟨cFail, spFail_mono⟩, ⟨cMust, spMust_mono⟩, ⟨(in_ok (tb := tblLitW d) ⟨⟨cIs, spIs_mono⟩, ⟨cMust, spMust_mono⟩, ⟨cFail, spFail_mono⟩, ⟨(in_ok (tb := tblLit1 d) ⟨⟨h, spRB_mono _ _ _ _⟩, trivial⟩ Tryz.func247 rfl (by kernel_rfl) (by kernel_rfl)), spIn_mono _ _⟩, trivial⟩ Tryz.func171 rfl (by kernel_rfl) (by kernel_rfl)), spIn_mono _ _⟩, trivial⟩
theorem cBody_of {d : Nat} (h : PCalls (GG w0 nG) 105 (spBodyB d)) : PCalls (GG w0 nG) 105 (spBody d) := body_ok ⟨⟨manyLi_ok d ⟨⟨cBody1, spAsk1_mono _⟩, ⟨cFail, spFail_mono⟩, ⟨cLit_of h, spRD_mono _ _ _ _⟩, ⟨cTake, spTake_mono⟩, trivial⟩, spManyLi_mono d⟩, trivial⟩
theorem cBodyB : ∀ d, PCalls (GG w0 nG) 105 (spBodyB d)
 | 0 => spRB_zero (enters_of Tryz.func105 (by kernel_rfl) rfl)
 | d + 1 => spRB_succ (cBody_of (cBodyB d))
theorem cBody (d : Nat) : PCalls (GG w0 nG) 105 (spBody d) := cBody_of (cBodyB d)
theorem cRule (d : Nat) : PCalls (GG w0 nG) 49 (spRule d) := rule_ok ⟨⟨cPlace, spPlace_mono⟩, ⟨cPName, spR_mono _ _ _⟩, ⟨cArgs d, spArgs_mono d⟩, ⟨cTake, spTake_mono⟩, ⟨cBody d, spRD_mono _ _ _ _⟩, ⟨cMust, spMust_mono⟩, trivial⟩
theorem unitB_zero (h : Enters (GG w0 nG).P 39) : PCalls (GG w0 nG) 39 (spUnitB 0) := ⟨h, fun args σ K hs => by
 exfalso
 unfold spUnitB rdSp at hs
 split at hs
 ·obtain ⟨L, ts, _, _, hs⟩ := hs
  split at hs
  ·exact absurd hs.1.1 (by omega)
  ·exact hs
 ·exact hs⟩
theorem unitB_succ {d : Nat} (h : PCalls (GG w0 nG) 39 (spUnit d)) : PCalls (GG w0 nG) 39 (spUnitB (d + 1)) := h.weaken1 fun args σ K hs => by
 unfold spUnitB rdSp at hs
 unfold spUnit rdSp
 split at hs
 ·obtain ⟨L, ts, h1, h2, hs⟩ := hs
  refine ⟨L, ts, h1, h2, ?_⟩
  split at hs
  ·obtain ⟨⟨g1, g2, g3, rfl⟩, hs⟩ := hs
   refine ⟨by omega, ?_⟩
   rw [unitB, unitD_eq] at hs
   exact hs
  ·exact hs.elim
 ·exact hs
theorem cComp_of {d : Nat} (h : PCalls (GG w0 nG) 39 (spUnitB d)) : PCalls (GG w0 nG) 90 (spComp d) := comp_ok ⟨⟨cPlace, spPlace_mono⟩, ⟨cPName, spR_mono _ _ _⟩, ⟨cNames, spR_mono _ _ _⟩, ⟨cTake, spTake_mono⟩, ⟨(in_ok (tb := tblCompW d) ⟨⟨cIs, spIs_mono⟩, ⟨cMust, spMust_mono⟩, ⟨cFail, spFail_mono⟩, ⟨(in_ok (tb := tblComp1 d) ⟨⟨h, spUnitB_mono d⟩, trivial⟩ Tryz.func172 rfl (by kernel_rfl) (by kernel_rfl)), spIn_mono _ _⟩, trivial⟩ Tryz.func171 rfl (by kernel_rfl) (by kernel_rfl)), spIn_mono _ _⟩, trivial⟩
theorem cUnit_of {d : Nat} (h : PCalls (GG w0 nG) 39 (spUnitB d)) : PCalls (GG w0 nG) 39 (spUnit d) := unit_ok ⟨⟨cIs, spIs_mono⟩, ⟨cRoom, spRoom_mono⟩, ⟨cTyped, spR_mono _ _ _⟩, ⟨cDecl, spR_mono _ _ _⟩, ⟨cComp_of h, spRD_mono _ _ _ _⟩, ⟨cPlace, spPlace_mono⟩, ⟨cPName, spR_mono _ _ _⟩, ⟨cMust, spMust_mono⟩, ⟨cNames, spR_mono _ _ _⟩, ⟨cNamed, spAsk_mono _⟩, ⟨cRule d, spRule_mono d⟩, ⟨cFail, spFail_mono⟩, trivial⟩
theorem cUnitB : ∀ d, PCalls (GG w0 nG) 39 (spUnitB d)
 | 0 => unitB_zero (enters_of Tryz.func39 (by kernel_rfl) rfl)
 | d + 1 => unitB_succ (cUnit_of (cUnitB d))
theorem cUnit (d : Nat) : PCalls (GG w0 nG) 39 (spUnit d) := cUnit_of (cUnitB d)
end Go.PM.Lex
end

section
set_option maxRecDepth 100000
set_option maxHeartbeats 4000000
namespace Go.PM.Lex
open Go.Proofs
def R.good {α : Type} (x : R α) : Prop := match x with | .ok _ _ => True | .err _ e => e ≠ 0
theorem R.good_bind {α β : Type} {x : R α} {f : α → Ts → R β} (h : x.good) (hf : ∀ a ts, (f a ts).good) : (x.bind f).good := by
 cases x with
 | ok a ts => exact hf a ts
 | err r e => exact h
theorem R.good_ok {α : Type} (a : α) (ts : Ts) : (R.ok a ts : R α).good := trivial
theorem R.good_ite {α : Type} {c : Prop} [Decidable c] {x y : R α} (h1 : x.good) (h2 : y.good) : (if c then x else y).good := by split; exact h1; exact h2
theorem R.good_err {α : Type} {r e : Nat} (h : e ≠ 0) : (R.err r e : R α).good := h
theorem must_good (w : Bs) (ts : Ts) : (mustF w ts).good := R.good_ite trivial (R.good_err (by decide))
theorem nameP_good (ts : Ts) : (nameP ts).good := R.good_ite trivial (R.good_err (by decide))
theorem within_good {α : Type} {d : Nat} {fr to : Bs} {read : Ts → R α} (h : ∀ ts, (read ts).good) (ts : Ts) : (withinF d fr to read ts).good :=
 R.good_ite (R.good_ite (R.good_err (by decide)) (R.good_bind (h _) fun _ _ => R.good_ite trivial (R.good_bind (must_good _ _) fun _ _ => trivial))) (R.good_err (by decide))
theorem manyGo_good {α : Type} {sign : Bs} {most : Nat} {st : Ts → Bool} {one : Ts → R α} (h : ∀ ts, (one ts).good) : ∀ f l ts, (manyGo sign most st one f l ts).good
 | 0, _, _ => R.good_err (by decide)
 | f + 1, l, ts => R.good_ite (R.good_err (by decide)) (R.good_bind (h _) fun _ _ => R.good_ite (manyGo_good h f _ _) trivial)
theorem many_good {α : Type} {sign : Bs} {most : Nat} {st : Ts → Bool} {one : Ts → R α} (h : ∀ ts, (one ts).good) (ts : Ts) : (manyF sign most st one ts).good := manyGo_good h _ _ _
theorem field_good (ts : Ts) : (fieldF ts).good := R.good_bind (nameP_good _) fun _ _ => R.good_bind (must_good _ _) fun _ _ => R.good_bind (nameP_good _) fun _ _ => trivial
theorem fields_good (w : Bs) (ts : Ts) : (fieldsF w ts).good := R.good_ite trivial (many_good field_good _)
theorem names_good (ts : Ts) : (namesF ts).good := R.good_ite (R.good_bind (many_good nameP_good _) fun _ _ => R.good_bind (must_good _ _) fun _ _ => trivial) trivial
theorem case_good (ts : Ts) : (caseF ts).good := R.good_bind (nameP_good _) fun _ _ => R.good_bind (must_good _ _) fun _ _ => R.good_bind (fields_good _ _) fun _ _ => R.good_bind (must_good _ _) fun _ _ => trivial
theorem typed_good (ts : Ts) : (typedF ts).good := R.good_bind (nameP_good _) fun _ _ => R.good_ite (R.good_bind (nameP_good _) fun _ _ => trivial) (R.good_bind (must_good _ _) fun _ _ =>
 R.good_ite (R.good_bind (fields_good _ _) fun _ _ => R.good_bind (must_good _ _) fun _ _ => trivial) (R.good_bind (many_good case_good _) fun _ _ => trivial))
theorem decl_good (ts : Ts) : (declF ts).good := R.good_bind (nameP_good _) fun _ _ => R.good_bind (must_good _ _) fun _ _ => R.good_bind (fields_good _ _) fun _ _ => R.good_bind (must_good _ _) fun _ _ => trivial
theorem args_good {d : Nat} {ex : Ts → R Ex} (h : ∀ ts, (ex ts).good) (fr to : Bs) (ts : Ts) : (argsF d ex fr to ts).good := by
 unfold argsF
 exact within_good (fun ts => R.good_ite (R.good_ok _ _) (many_good h _)) ts
theorem callGo_good {ex : Ts → R Ex} (h : ∀ ts, (ex ts).good) : ∀ k l ts, (callGo ex k l ts).good
 | 0, _, _ => trivial
 | k + 1, l, ts => R.good_bind (R.good_ite trivial (must_good _ _)) fun _ _ => R.good_bind (h _) fun _ _ => callGo_good h k _ _
theorem primary_good {d : Nat} {ex : Ts → R Ex} (h : ∀ ts, (ex ts).good) (ts : Ts) : (primaryF d ex ts).good :=
 R.good_ite (R.good_err (by decide)) <| R.good_ite trivial <| R.good_ite trivial <| R.good_ite (within_good h _) <| R.good_ite (R.good_bind (args_good h _ _ _) fun _ _ => trivial) <|
 R.good_ite (R.good_bind (nameP_good _) fun _ _ => R.good_ite (R.good_bind (args_good h _ _ _) fun _ _ => trivial) trivial) <|
 R.good_ite (R.good_bind (within_good (callGo_good h _ _) _) fun _ _ => trivial) <| R.good_ite trivial <| R.good_ite trivial trivial
theorem lineGo_good {sub : Nat → Ts → R Ex} (h : ∀ n ts, (sub n ts).good) (least : Nat) : ∀ f e ts, (lineGo sub least f e ts).good
 | 0, _, _ => R.good_err (by decide)
 | f + 1, e, ts => R.good_ite trivial (R.good_bind (h _ _) fun _ _ => lineGo_good h least f _ _)
theorem lineK_good {sg : Ts → R Ex} (h : ∀ ts, (sg ts).good) : ∀ k least ts, (lineK sg k least ts).good
 | 0, _, _ => h _
 | k + 1, least, ts => R.good_bind (h _) fun _ _ => lineGo_good (fun n ts => lineK_good h k n ts) _ _ _ _
theorem signedF_good {d : Nat} {sg : Ts → R Ex} (h : ∀ ts, (sg ts).good) (ts : Ts) : (signedF d sg ts).good :=
 R.good_ite (R.good_bind (within_good h _) fun _ _ => trivial) <| R.good_ite (R.good_bind (within_good h _) fun _ _ => trivial) (primary_good (fun ts => lineK_good h _ _ _) _)
theorem signed_good : ∀ d ts, (signedD d ts).good
 | 0, ts => signedF_good (fun _ => (R.good_err (by decide))) ts
 | d + 1, ts => signedF_good (signed_good d) ts
theorem expr_good (d : Nat) (ts : Ts) : (exprD d ts).good := lineK_good (signed_good d) _ _ _
theorem exprB_good : ∀ d ts, (exprB d ts).good
 | 0, _ => (R.good_err (by decide))
 | d + 1, ts => expr_good d ts
theorem litOp_good (ts : Ts) : (litOp ts).good := by
 unfold litOp
 split
 ·exact R.good_err (by decide)
 ·split <;> trivial
 ·trivial
theorem litAtom_good (d op a : Nat) (ts : Ts) : (litAtom d op a ts).good := R.good_bind (nameP_good _) fun _ _ => R.good_bind (args_good (exprB_good d) _ _ _) fun _ _ => trivial
theorem litEnd_good {d : Nat} {bd : Ts → R (List Li)} (h : ∀ ts, (bd ts).good) (a op : Nat) (l : List Ex) (ts : Ts) : (litEnd d bd a op l ts).good :=
 R.good_ite (R.good_bind (must_good _ _) fun _ _ => R.good_bind (within_good h _) fun _ _ => trivial) trivial
theorem lit_good {d : Nat} {bd : Ts → R (List Li)} (h : ∀ ts, (bd ts).good) (ts : Ts) : (litF d bd ts).good :=
 R.good_ite (litAtom_good _ _ _ _) <| R.good_ite (litAtom_good _ _ _ _) <| R.good_bind (expr_good _ _) fun _ _ => R.good_bind (litOp_good _) fun _ _ => R.good_ite (litEnd_good h _ _ _ _) (R.good_bind (expr_good _ _) fun _ _ => litEnd_good h _ _ _ _)
theorem body_good : ∀ d ts, (bodyD d ts).good
 | 0, ts => many_good (lit_good fun _ => (R.good_err (by decide))) ts
 | d + 1, ts => many_good (lit_good (body_good d)) ts
theorem rule_good (d : Nat) (b : Bool) (ts : Ts) : (ruleF d b ts).good := R.good_bind (nameP_good _) fun _ _ => R.good_bind (args_good (exprB_good d) _ _ _) fun _ _ =>
 R.good_ite (R.good_bind (body_good _ _) fun _ _ => R.good_bind (must_good _ _) fun _ _ => trivial) (R.good_bind (must_good _ _) fun _ _ => trivial)
theorem comp_good {d : Nat} {un : Ts → R Un} (h : ∀ ts, (un ts).good) (ts : Ts) : (compF d un ts).good := R.good_bind (nameP_good _) fun _ _ => R.good_bind (names_good _) fun _ _ =>
 R.good_ite (R.good_bind (nameP_good _) fun _ _ => R.good_bind (names_good _) fun _ _ => R.good_bind (within_good h _) fun _ _ => trivial) (R.good_bind (within_good h _) fun _ _ => trivial)
theorem init_good (ts : Ts) : (initF ts).good := R.good_bind (nameP_good _) fun _ _ => R.good_bind (must_good _ _) fun _ _ => R.good_bind (nameP_good _) fun _ _ => R.good_bind (names_good _) fun _ _ => trivial
theorem over_good (ts : Ts) : (overF ts).good := R.good_bind (nameP_good _) fun _ _ => trivial
theorem unitGo_good {b : Bool} {d : Nat} {un : Ts → R Un} (h : ∀ ts, (un ts).good) : ∀ f u ts, (unitGo b d un f u ts).good
 | 0, _, _ => R.good_err (by decide)
 | f + 1, .mk tys rels rules comps inits overs, ts => by
  rw [unitGo_eq]
  exact R.good_ite trivial <| R.good_ite (R.good_ite (R.good_err (by decide)) (R.good_bind (typed_good _) fun _ _ => unitGo_good h f _ _)) <| R.good_ite (R.good_ite (R.good_err (by decide)) (R.good_bind (decl_good _) fun _ _ => unitGo_good h f _ _)) <|
   R.good_ite (R.good_ite (R.good_err (by decide)) (R.good_bind (comp_good h _) fun _ _ => unitGo_good h f _ _)) <| R.good_ite (R.good_ite (R.good_err (by decide)) (R.good_bind (init_good _) fun _ _ => unitGo_good h f _ _)) <|
   R.good_ite (R.good_ite (R.good_err (by decide)) (R.good_bind (over_good _) fun _ _ => unitGo_good h f _ _)) <| R.good_ite (R.good_ite (R.good_err (by decide)) (R.good_bind (rule_good _ _ _) fun _ _ => unitGo_good h f _ _)) (R.good_err (by decide))
theorem unitD_good : ∀ d ts, (unitD d ts).good
 | 0, ts => unitGo_good (fun _ => (R.good_err (by decide))) _ _ _
 | d + 1, ts => unitGo_good (unitD_good d) _ _ _
theorem unitTop_good (ts : Ts) : (unitTop ts).good := unitGo_good (unitD_good 63) _ _ _
theorem nextF_room {a : Nat} {r : Bs} {room : Bool} {t : Tok} (h : nextF a r room = .tok t) : room = true := by
 cases room with
 | true => rfl
 | false =>
  unfold nextF at h
  simp only at h
  split at h
  ·cases h
  ·simp at h
theorem allGo_le : ∀ (f : Nat) (m : Int) (a : Nat) (r : Bs), (allGo f m a r).1.length ≤ m.toNat
 | 0, m, a, r => by simp [allGo]
 | f + 1, m, a, r => by
  unfold allGo
  split
  ·simp
  ·simp only
   split
   ·simp
   ·split
    ·simp
    ·rename_i t ht
     have hr := nextF_room ht
     rw [decide_eq_true_eq] at hr
     have := allGo_le f (m - 1) t.fin ((r.drop (blankF r).2).drop (t.fin - (a + (blankF r).2)))
     simp only [List.length_cons]
     omega
theorem allF_le (s : Bs) (m : Int) : (allF s m).1.length ≤ m.toNat := allGo_le _ _ _ _
inductive Top (α : Type) where
 | ok (v : α) (L : List Tok) | err (p : Int) (e : Nat)
def readTop {α : Type} (bytes most : Nat) (P : Ts → R α) (s : Bs) : Top α :=
 if bytes < s.length then .err 0 3
 else if (allF s most).2.2 ≠ 0 then .err (allF s most).2.1 (allF s most).2.2
 else match P ((allF s most).1.map Tok.t0) with
  | .ok v [] => .ok v (allF s most).1
  | .ok v (_ :: ts) => .err (placeOf (allF s most).1 s.length (ts.length + 1)) 150
  | .err r e => .err (placeOf (allF s most).1 s.length r) e
theorem readTop_err {α : Type} {bytes most : Nat} {P : Ts → R α} (hP : ∀ ts, (P ts).good) {s : Bs} {p : Int} {e : Nat} (h : readTop bytes most P s = .err p e) : e ≠ 0 := by
 unfold readTop at h
 split at h
 ·cases h; decide
 ·split at h
  ·rename_i hn; cases h; exact hn
  ·split at h
   ·cases h
   ·cases h; decide
   ·rename_i r e' he
    cases h
    have := hP ((allF s most).1.map Tok.t0)
    rw [he] at this; exact this
end Go.PM.Lex
end

section
set_option maxRecDepth 100000
set_option maxHeartbeats 4000000
namespace Go.PM.Lex
open Go.Proofs
variable {w0 : World} {nG : Nat}
noncomputable def spTokQ : Spec := fun args σ K => match args, σ with
 | [.d (.str s), .d (.int .i64 m)], ⟨[], [], 0⟩ => s.length < 4294967281 ∧
   ∀ l p c, allF s m = (l, (p, c)) → (c = 0 → K (.ret (.tuple [.d (.sl (toksR l)), .d (.int .i64 p), .d (.int .i64 0)])) ⟨[], [], 0⟩) ∧
    (c ≠ 0 → K (.ret (.tuple [.d (.sl []), .d (.int .i64 p), .d (.int .i64 c)])) ⟨[], [], 0⟩)
 | _, _ => False
theorem spTokQ_mono : SpecMono spTokQ := fun args σ K K' hK h => by
 unfold spTokQ at h ⊢
 split at h
 ·exact ⟨h.1, fun l p c hx => ⟨fun g => hK _ _ ((h.2 l p c hx).1 g), fun g => hK _ _ ((h.2 l p c hx).2 g)⟩⟩
 ·exact h.elim
theorem tokQ_of (h : PCalls (GG w0 nG) 83 spTokens) : PCalls (GG w0 nG) 83 spTokQ := h.weaken1 fun args σ K hs => by
 unfold spTokQ at hs
 unfold spTokens
 split at hs
 ·rename_i s m
  obtain ⟨h1, hs⟩ := hs
  refine ⟨h1, ?_⟩
  have hs := hs (allF s m).1 (allF s m).2.1 (allF s m).2.2 rfl
  by_cases hc : (allF s m).2.2 = 0
  ·rw [if_pos hc, hc]; exact hs.1 hc
  ·rw [if_neg hc]; exact hs.2 hc
 ·exact hs.elim
noncomputable def recOf : Nat × Nat × Code := match recB (bodyOf Tryz.f84) with | some x => x | none => (0, 0, .skip)
noncomputable def spDefR : List PV → St → (St → Prop) → Prop := fun args σ K => args.length ≤ Tryz.f84.ntmps ∧ W (ctx Tab0 [] (loopsOf [])) recOf.2.2 (recQ Tab0 Tryz.f84 σ.bx.length K) (fset (fset (argF 0 args) recOf.1 (.d .nili)) recOf.2.1 (.d .nili)) σ
noncomputable def spDefP : PV → List PV → St → (St → Prop) → Prop := fun pv args σ K => args.length ≤ Tryz.f84.ntmps ∧ W (ctx Tab0 [] (loopsOf [])) recOf.2.2 (recQ Tab0 Tryz.f84 σ.bx.length K) (fset (fset (argF 0 args) recOf.1 pv) recOf.2.1 pv) σ
theorem def_ok : PDef (GG w0 nG) 84 spDefR spDefP :=
 pdef_of (a := recOf.1) (b := recOf.2.1) (rest := recOf.2.2) tab_ok mixed (tbl := []) trivial Tryz.func84 rfl (by kernel_rfl) rfl (by kernel_rfl) (fun args σ K h => ⟨loopsOf [], σ.bx.length, Nat.le_refl _, h.1, h.2⟩) (fun pv args σ K h => ⟨loopsOf [], σ.bx.length, Nat.le_refl _, h.1, h.2⟩)
def WhK {α : Type} (tU : TypeId) (enc : List Tok → Int → α → List PV) (bad : List PV → Prop) (n : Int) (x : Top α) (K : PEnd → St → Prop) : Prop := match x with
 | .ok v L => K (.ret (.tuple [.d (.int .i64 0), .d (.int .i64 0)])) ⟨[.cells tU (enc L n v)], [], 0⟩
 | .err p e => ∀ cs, bad cs → K (.ret (.tuple [.d (.int .i64 p), .d (.int .i64 e)])) ⟨[.cells tU cs], [], 0⟩
theorem WhK_mono {α : Type} {tU : TypeId} {enc : List Tok → Int → α → List PV} {bad : List PV → Prop} {n : Int} {x : Top α} {K K' : PEnd → St → Prop} (hK : ∀ e σ, K e σ → K' e σ) (h : WhK tU enc bad n x K) : WhK tU enc bad n x K' := by
 cases x with
 | ok v L => exact hK _ _ h
 | err p e => exact fun cs hb => hK _ _ (h cs hb)
theorem ROK_start {l : List Tok} (h : l.length ≤ 1048576) : ROK l 0 (l.map Tok.t0) := ⟨by omega, by omega, h, by simp [tz]⟩
def badU (cs : List PV) : Prop := ∃ a b c d e f : List (List D), cs = [.d (.sl a), .d (.sl b), .d (.sl c), .d (.sl d), .d (.sl e), .d (.sl f)]
noncomputable def tblUnit1 : Tbl := [(39, spUnit 64)]
noncomputable def spWhU : Spec := fun args σ K => match args, σ with
 | [.d (.str s), .d (.int .i64 by'), .d (.int .i64 most), .func g [] [.ptr 0 0]], ⟨[.cells tU c0], tk, n⟩ => (g = 38 ∧ by' = 65536 ∧ most = 16384 ∧ c0 = [.sl 0 57 [], .sl 1 44 [], .sl 2 52 [], .sl 3 62 [], .sl 4 64 [], .sl 5 87 []] ∧ tk = [5, 4, 3, 2, 1, 0] ∧ n = 6) ∧ s.length < 4294967281 ∧
   ∀ x, readTop 65536 16384 unitTop s = x → WhK tU (fun L n (v : Un) => (encUn (placeOf L n) v).map .d) badU s.length x K
 | _, _ => False
theorem spWhU_mono : SpecMono spWhU := fun args σ K K' hK h => by
 unfold spWhU at h ⊢
 split at h
 ·exact ⟨h.1, h.2.1, fun x hx => WhK_mono hK (h.2.2 x hx)⟩
 ·exact h.elim
noncomputable def tblWhU : Tbl := [(83, spTokQ), (38, spIn Tryz.f38 tblUnit1), (85, spFail)]
theorem wholeU_ok (ht : TblOK (GG w0 nG) tblWhU) : PCalls (GG w0 nG) 37 spWhU := by
 refine pcallsD tab_ok mixed (tbl := tblWhU) ht Tryz.func37 rfl (by kernel_rfl) (by kernel_rfl) def_ok ?_
 intro args σ K h
 unfold spWhU at h
 split at h
 ·obtain ⟨⟨rfl, rfl, rfl, rfl, rfl, rfl⟩, hs, h⟩ := h
  rename_i s tU
  have h := h _ rfl
  refine ⟨loopsOf [], unrOf [], tieOf [], 1, false, by simp, Nat.le_of_ble_eq_true rfl, ?_⟩
  unfold readTop at h
  conv => whnf
  refine CondP.dec (fun hc => ?_) (fun hc => ?_)
  ·rw [if_pos (by omega)] at h
   conv => whnf
   exact h _ ⟨_, _, _, _, _, _, rfl⟩
  rw [if_neg (by omega)] at h
  conv => whnf
  refine ⟨hs, fun l p c hx => ?_⟩
  have hlen := allF_le s 16384
  rw [show ((16384 : Nat) : Int) = 16384 from rfl, hx] at h
  rw [hx] at hlen
  refine ⟨fun h0 => ?_, fun h0 => ?_⟩
  ·subst h0
   rw [if_neg (by simp)] at h
   simp only at h hlen
   have ho := ROK_start (l := l) (by simp at hlen; omega)
   clear hx hlen
   generalize hts : l.map Tok.t0 = ts at h ho
   conv => whnf
   refine ⟨_, fun _ _ h => h, Nat.le_of_ble_eq_true rfl, ?_⟩
   conv => whnf
   refine ⟨l, ts, rfl, ho, by omega, fun x hx => ?_⟩
   rw [show unitTop ts = unitT false 64 ts from rfl, hx] at h
   rcases x with ⟨⟨v1, v2, v3, v4, v5, v6⟩, ts2⟩ | ⟨r, e⟩
   rotate_left
   ·intro a9 d9; (conv => whnf); refine ⟨Nat.le_of_ble_eq_true rfl, ?_⟩; (conv => whnf); (repeat (refine ⟨rfl, ?_⟩; conv => whnf)); exact h _ ⟨_, _, _, _, _, _, rfl⟩
   intro a2 hle2 ho2
   conv => whnf
   have hl2 := ho2.len
   (repeat (refine ⟨rfl, ?_⟩; conv => whnf))
   refine CondP.dec (fun hc3 => ?_) (fun hc3 => ?_)
   ·have hc3 : a2 < l.length := by have hc3 : a2 < ((toksR l).length : Int) := hc3; rw [toksR_len] at hc3; exact hc3
    cases ts2 with
    | nil => simp at hl2; omega
    | cons t0 ts3 =>
     conv => whnf
     refine ⟨l, _, rfl, ho2, ?_⟩
     conv => whnf
     refine ⟨Nat.le_of_ble_eq_true rfl, ?_⟩
     conv => whnf
     (repeat (refine ⟨rfl, ?_⟩; conv => whnf))
     exact h _ ⟨_, _, _, _, _, _, rfl⟩
   have hc3 : ¬ a2 < l.length := by have hc3 : ¬ a2 < ((toksR l).length : Int) := hc3; rw [toksR_len] at hc3; exact hc3
   obtain rfl : ts2 = [] := List.eq_nil_of_length_eq_zero (by omega)
   conv => whnf
   refine ⟨Nat.le_of_ble_eq_true rfl, ?_⟩
   conv => whnf
   exact h
  rw [if_pos h0] at h
  conv => whnf
  refine CondP.ndec (fun hc2 => ?_) (fun hc2 => absurd (show c = 0 by omega) h0)
  conv => whnf
  (repeat (refine ⟨rfl, ?_⟩; conv => whnf))
  exact h _ ⟨_, _, _, _, _, _, rfl⟩
 ·exact h.elim
end Go.PM.Lex
end

section
set_option maxRecDepth 100000
set_option maxHeartbeats 4000000
namespace Go.PM.Lex
open Go.Proofs
variable {w0 : World} {nG : Nat}
def TopK {α : Type} (enc : List Tok → α → PV) (zero : PV) (x : Top α) (K : PEnd → St → Prop) : Prop := match x with
 | .ok v L => K (.ret (.tuple [enc L v, .d (.int .i64 0), .d (.int .i64 0)])) ⟨[], [], 0⟩
 | .err p e => K (.ret (.tuple [zero, .d (.int .i64 p), .d (.int .i64 e)])) ⟨[], [], 0⟩
theorem TopK_mono {α : Type} {enc : List Tok → α → PV} {zero : PV} {x : Top α} {K K' : PEnd → St → Prop} (hK : ∀ e σ, K e σ → K' e σ) (h : TopK enc zero x K) : TopK enc zero x K' := by
 cases x <;> exact hK _ _ h
noncomputable def spTopU : Spec := fun args σ K => match args, σ with
 | [.d (.str s)], ⟨[], [], 0⟩ => s.length < 4294967281 ∧ ∀ x, readTop 65536 16384 unitTop s = x → TopK (fun L (v : Un) => aggD (encUn (placeOf L s.length) v)) (aggD (encUn (fun _ => 0) .nil)) x K
 | _, _ => False
theorem spTopU_mono : SpecMono spTopU := fun args σ K K' hK h => by
 unfold spTopU at h ⊢
 split at h
 ·exact ⟨h.1, fun x hx => TopK_mono hK (h.2 x hx)⟩
 ·exact h.elim
noncomputable def tblTopU : Tbl := [(37, spWhU)]
theorem topU_ok (ht : TblOK (GG w0 nG) tblTopU) : PCalls (GG w0 nG) 14 spTopU := by
 refine pcalls tab_ok mixed (tbl := tblTopU) ht Tryz.func14 rfl (by kernel_rfl) (by kernel_rfl) ?_
 intro args σ K h
 unfold spTopU at h
 split at h
 ·rename_i s
  obtain ⟨hs, h⟩ := h
  refine ⟨loopsOf [], 0, false, by simp, Nat.le_of_ble_eq_true rfl, ?_⟩
  conv => whnf
  refine ⟨⟨rfl, rfl, rfl, rfl, rfl, rfl⟩, hs, fun x hx => ?_⟩
  have h := h x hx
  cases x with
  | ok v L =>
   obtain ⟨v1, v2, v3, v4, v5, v6⟩ := v
   conv => whnf
   exact h
  | err p e =>
   have he := readTop_err unitTop_good hx
   intro cs hcs
   obtain ⟨b1, b2, b3, b4, b5, b6, rfl⟩ := hcs
   conv => whnf
   refine CondP.ndec (fun hc => ?_) (fun hc => absurd (show e = 0 by omega) he)
   conv => whnf
   exact h
 ·exact h.elim
theorem cWhole_tok (hg : GlobOK w0 nG) : PCalls (GG w0 nG) 83 spTokQ := tokQ_of (cTokens hg)
theorem cTopU (hg : GlobOK w0 nG) : PCalls (GG w0 nG) 14 spTopU := topU_ok ⟨⟨wholeU_ok ⟨⟨cWhole_tok hg, spTokQ_mono⟩, ⟨in_ok (tb := tblUnit1) ⟨⟨cUnit 64, spUnit_mono 64⟩, trivial⟩ Tryz.func38 rfl (by kernel_rfl) (by kernel_rfl), spIn_mono _ _⟩, ⟨cFail, spFail_mono⟩, trivial⟩, spWhU_mono⟩, trivial⟩
end Go.PM.Lex
end

section
set_option maxRecDepth 100000
set_option maxHeartbeats 4000000
namespace Go.PM.Lex
open Go.Proofs
variable {w0 : World} {nG : Nat}
mutual
def sameE : Ex → Ex → Bool
 | .mk o1 t1 n1 l1 _, .mk o2 t2 n2 l2 _ => decide (o1 = o2) && (decide (t1 = t2) && (decide (n1 = n2) && sameEs l1 l2))
def sameEs : List Ex → List Ex → Bool
 | [], [] => true
 | x :: l, y :: m => sameE x y && sameEs l m
 | _, _ => false
end
mutual
def szE : Ex → Nat
 | .mk _ _ _ l _ => 1 + szEs l
def szEs : List Ex → Nat
 | [] => 0
 | x :: l => 1 + szE x + szEs l
end
theorem szEs_len : ∀ (l : List Ex), l.length ≤ szEs l
 | [] => Nat.le_refl _
 | x :: l => by have := szEs_len l; simp only [List.length_cons, szEs]; omega
theorem szEs_get : ∀ (l : List Ex) (i : Nat) (h : i < l.length), szE l[i] < szEs l
 | x :: l, 0, h => by simp only [List.getElem_cons_zero, szEs]; omega
 | x :: l, i + 1, h => by have := szEs_get l i (by simpa using h); simp only [List.getElem_cons_succ, szEs]; omega
theorem sameEs_ne : ∀ (l m : List Ex), l.length ≠ m.length → sameEs l m = false
 | [], [], h => absurd rfl h
 | [], _ :: _, _ => by simp [sameEs]
 | _ :: _, [], _ => by simp [sameEs]
 | x :: l, y :: m, h => by simp [sameEs, sameEs_ne l m (by simpa using h)]
theorem sameEs_drop {l m : List Ex} {i : Nat} (h1 : i < l.length) (h2 : i < m.length) : sameEs (l.drop i) (m.drop i) = (sameE l[i] m[i] && sameEs (l.drop (i + 1)) (m.drop (i + 1))) := by
 rw [List.drop_eq_getElem_cons h1, List.drop_eq_getElem_cons h2, sameEs]
noncomputable def spSameE (n : Nat) : Spec := fun args σ K => match args, σ with
 | [.agg c1, .agg c2, .d (.bool at')], ⟨[], [], 0⟩ => ∃ pl1 e1 pl2 e2, c1 = (encE pl1 e1).map .d ∧ c2 = (encE pl2 e2).map .d ∧ (at' = false ∧ szE e1 ≤ n ∧ n ≤ 1099511627776) ∧ ∀ b, sameE e1 e2 = b → K (.ret (.d (.bool b))) ⟨[], [], 0⟩
 | _, _ => False
theorem spSameE_mono (n : Nat) : SpecMono (spSameE n) := fun args σ K K' hK h => by
 unfold spSameE at h ⊢
 split at h
 ·obtain ⟨p1, e1, p2, e2, h1, h2, h3, h4⟩ := h
  exact ⟨p1, e1, p2, e2, h1, h2, h3, fun b hb => hK _ _ (h4 b hb)⟩
 ·exact h.elim
noncomputable def spSameEs (n : Nat) : Spec := fun args σ K => match args, σ with
 | [.d (.sl r1), .d (.sl r2), .d (.bool at')], ⟨[], [], 0⟩ => ∃ pl1 l1 pl2 l2, r1 = encEs pl1 l1 ∧ r2 = encEs pl2 l2 ∧ (at' = false ∧ szEs l1 ≤ n ∧ n ≤ 1099511627776) ∧ ∀ b, sameEs l1 l2 = b → K (.ret (.d (.bool b))) ⟨[], [], 0⟩
 | _, _ => False
theorem spSameEs_mono (n : Nat) : SpecMono (spSameEs n) := fun args σ K K' hK h => by
 unfold spSameEs at h ⊢
 split at h
 ·obtain ⟨p1, e1, p2, e2, h1, h2, h3, h4⟩ := h
  exact ⟨p1, e1, p2, e2, h1, h2, h3, fun b hb => hK _ _ (h4 b hb)⟩
 ·exact h.elim
noncomputable def spSameEB (n : Nat) : Spec := fun args σ K => 0 < n ∧ spSameE (n - 1) args σ K
theorem spSameEB_mono (n : Nat) : SpecMono (spSameEB n) := fun args σ K K' hK h => ⟨h.1, spSameE_mono _ _ _ _ _ hK h.2⟩
noncomputable def spSameEsB (n : Nat) : Spec := fun args σ K => 0 < n ∧ spSameEs (n - 1) args σ K
theorem spSameEsB_mono (n : Nat) : SpecMono (spSameEsB n) := fun args σ K K' hK h => ⟨h.1, spSameEs_mono _ _ _ _ _ hK h.2⟩
noncomputable def tblSameE (n : Nat) : Tbl := [(54, spSameEsB n)]
theorem sameE_ok {n : Nat} (ht : TblOK (GG w0 nG) (tblSameE n)) : PCalls (GG w0 nG) 25 (spSameE n) := by
 refine pcalls tab_ok mixed (tbl := tblSameE n) ht Tryz.func25 rfl (by kernel_rfl) (by kernel_rfl) ?_
 intro args σ K h
 unfold spSameE at h
 split at h
 ·obtain ⟨p1, ⟨a1, a2, a3, a4, a5⟩, p2, ⟨b1, b2, b3, b4, b5⟩, rfl, rfl, ⟨rfl, hz, hn⟩, h⟩ := h
  have h := h _ rfl
  rw [sameE] at h
  rw [szE] at hz
  refine ⟨loopsOf [], 0, false, by simp, Nat.le_of_ble_eq_true rfl, ?_⟩
  conv => whnf
  refine CondP.dec (fun h1 => ?_) (fun h1 => ?_)
  ·rw [decide_eq_true (show a1 = b1 by omega), Bool.true_and] at h
   conv => whnf
   refine CondP.dec (fun h2 => ?_) (fun h2 => ?_)
   ·rw [decide_eq_true h2, Bool.true_and] at h
    conv => whnf
    refine CondP.dec (fun h3 => ?_) (fun h3 => ?_)
    ·rw [decide_eq_true h3, Bool.true_and] at h
     conv => whnf
     refine ⟨by omega, p1, a4, p2, b4, rfl, rfl, ⟨rfl, by omega, by omega⟩, fun b hb => ?_⟩
     rw [hb] at h
     conv => whnf
     exact h
    ·rw [decide_eq_false h3, Bool.false_and] at h
     conv => whnf
     exact h
   ·rw [decide_eq_false h2, Bool.false_and] at h
    conv => whnf
    exact h
  ·rw [decide_eq_false (show ¬ a1 = b1 by omega), Bool.false_and] at h
   conv => whnf
   exact h
 ·exact h.elim
noncomputable def tblSameEs (n : Nat) : Tbl := [(25, spSameEB n)]
theorem sameEs_ok {n : Nat} (ht : TblOK (GG w0 nG) (tblSameEs n)) : PCalls (GG w0 nG) 54 (spSameEs n) := by
 refine pcalls tab_ok mixed (tbl := tblSameEs n) ht Tryz.func54 rfl (by kernel_rfl) (by kernel_rfl) ?_
 intro args σ K h
 unfold spSameEs at h
 split at h
 ·obtain ⟨p1, l1, p2, l2, rfl, rfl, ⟨rfl, hz, hn⟩, h⟩ := h
  have h := h _ rfl
  have hlen1 : (encEs p1 l1).length = l1.length := by rw [encEs_eq, List.length_map]
  have hlen2 : (encEs p2 l2).length = l2.length := by rw [encEs_eq, List.length_map]
  have hsz := szEs_len l1
  refine ⟨loopsOf [(4, ⟨[7], [0, 1, 2], fun vs σ => ∃ i : Nat, vs = [.d (.int .i64 i)] ∧ σ = ⟨[], [], 0⟩ ∧ i ≤ l1.length ∧ sameEs l1 l2 = sameEs (l1.drop i) (l2.drop i), fun vs _ => match vs with | [.d (.int _ i)] => ((l1.length : Int) - i).toNat | _ => 0⟩)], 0, false, by simp, Nat.le_of_ble_eq_true rfl, ?_⟩
  conv => whnf
  refine CondP.ndec (fun hc => ?_) (fun hc => ?_)
  ·have hc : l1.length ≠ l2.length := fun g => hc (by show ((encEs p1 l1).length : Int) = (encEs p2 l2).length; rw [hlen1, hlen2, g])
   rw [sameEs_ne _ _ hc] at h
   conv => whnf
   exact h
  ·have hc : l1.length = l2.length := by have hc : ((encEs p1 l1).length : Int) = (encEs p2 l2).length := hc; rw [hlen1, hlen2] at hc; omega
   conv => whnf
   refine ⟨⟨0, rfl, rfl, by omega, rfl⟩, ?_⟩
   intro vs σ hI
   obtain ⟨i, rfl, rfl, hi, hs⟩ := hI
   conv => whnf
   refine CondP.dec (fun hi2 => ?_) (fun hi2 => ?_)
   ·have hi2 : i < l1.length := by have hi2 : (i : Int) < (encEs p1 l1).length := hi2; rw [hlen1] at hi2; omega
    have hi3 : i < l2.length := by omega
    have hg := szEs_get l1 i hi2
    rw [sameEs_drop hi2 hi3] at hs
    obtain ⟨eA, hA⟩ : ∃ e, l1[i] = e := ⟨_, rfl⟩
    obtain ⟨eB, hB⟩ : ∃ e, l2[i] = e := ⟨_, rfl⟩
    obtain ⟨a1, a2, a3, a4, a5⟩ := eA
    obtain ⟨b1, b2, b3, b4, b5⟩ := eB
    rw [hA, hB] at hs
    rw [hA] at hg
    conv => whnf
    refine ⟨encE p1 (.mk a1 a2 a3 a4 a5), by omega, by rw [encEs_eq]; simp [hi2, hA], ?_⟩
    conv => whnf
    refine ⟨encE p2 (.mk b1 b2 b3 b4 b5), by omega, by rw [encEs_eq]; simp [hi3, hB], ?_⟩
    conv => whnf
    refine ⟨by omega, p1, .mk a1 a2 a3 a4 a5, p2, .mk b1 b2 b3 b4 b5, rfl, rfl, ⟨rfl, by omega, by omega⟩, fun b hb => ?_⟩
    rw [hb] at hs
    cases b with
    | true =>
     rw [Bool.true_and] at hs
     conv => whnf
     (repeat (refine ⟨rfl, ?_⟩; conv => whnf))
     refine Or.inl ⟨InR.i64 (by omega) (by omega), ?_⟩
     conv => whnf
     refine ⟨⟨i + 1, rfl, rfl, by omega, hs⟩, ?_⟩
     show ((l1.length : Int) - ((i : Int) + 1)).toNat < ((l1.length : Int) - (i : Int)).toNat
     omega
    | false =>
     rw [hs, Bool.false_and] at h
     conv => whnf
     (repeat (refine ⟨rfl, ?_⟩; conv => whnf))
     exact h
   ·have hi2 : l1.length ≤ i := by have hi2 : ¬ (i : Int) < (encEs p1 l1).length := hi2; rw [hlen1] at hi2; omega
    rw [List.drop_eq_nil_of_le hi2, List.drop_eq_nil_of_le (by omega)] at hs
    rw [hs] at h
    conv => whnf
    exact h
 ·exact h.elim
theorem cSame : ∀ n, PCalls (GG w0 nG) 25 (spSameE n) ∧ PCalls (GG w0 nG) 54 (spSameEs n)
 | 0 => ⟨sameE_ok ⟨⟨⟨enters_of Tryz.func54 (by kernel_rfl) rfl, fun args σ K hs => absurd hs.1 (by omega)⟩, spSameEsB_mono 0⟩, trivial⟩, sameEs_ok ⟨⟨⟨enters_of Tryz.func25 (by kernel_rfl) rfl, fun args σ K hs => absurd hs.1 (by omega)⟩, spSameEB_mono 0⟩, trivial⟩⟩
 | n + 1 => ⟨sameE_ok ⟨⟨(cSame n).2.weaken1 fun args σ K hs => hs.2, spSameEsB_mono _⟩, trivial⟩, sameEs_ok ⟨⟨(cSame n).1.weaken1 fun args σ K hs => hs.2, spSameEB_mono _⟩, trivial⟩⟩
noncomputable def spTrue15 : Spec := fun args σ K => match args, σ with
 | [], ⟨[], [], 0⟩ => K (.ret (.d (.bool true))) ⟨[], [], 0⟩
 | _, _ => False
theorem spTrue15_mono : SpecMono spTrue15 := fun args σ K K' hK h => by
 unfold spTrue15 at h ⊢
 split at h
 ·exact hK _ _ h
 ·exact h.elim
def worksB : Bs := [112, 40, 120, 41, 32, 58, 45, 32, 113, 40, 120, 44, 32, 49, 41, 44, 32, 120, 32, 60, 32, 50, 46]
def Li.op : Li → Nat | .mk o _ _ _ _ => o
def chkWorks : Top Un → Bool
 | .ok (.mk _ _ [⟨h, _, [_, l], _⟩] _ _ _) _ => decide (h = [112]) && decide (l.op = 5)
 | _ => false
theorem works_chk : chkWorks (readTop 65536 16384 unitTop worksB) = true := by decide +kernel
noncomputable def tblWorks15 : Tbl := [(14, spTopU), (40, spKept)]
theorem works15_ok (ht : TblOK (GG w0 nG) tblWorks15) : PCalls (GG w0 nG) 15 spTrue15 := by
 refine pcalls tab_ok mixed (tbl := tblWorks15) ht Tryz.func15 rfl (by kernel_rfl) (by kernel_rfl) ?_
 intro args σ K h
 unfold spTrue15 at h
 split at h
 ·refine ⟨loopsOf [], 0, false, by simp, Nat.le_of_ble_eq_true rfl, ?_⟩
  conv => whnf
  refine ⟨by decide, fun x hx => ?_⟩
  have hw := works_chk
  rw [show readTop 65536 16384 unitTop worksB = x from hx] at hw
  unfold chkWorks at hw
  split at hw
  ·rename_i t1 t2 hd1 ar l1 l2 p1 c1 i1 o1 LL
   rw [Bool.and_eq_true, decide_eq_true_eq, decide_eq_true_eq] at hw
   obtain ⟨rfl, hop⟩ := hw
   obtain ⟨a1, a2, a3, a4, a5⟩ := l1
   obtain ⟨b1, b2, b3, b4, b5⟩ := l2
   obtain rfl : b1 = 5 := hop
   conv => whnf
   refine ⟨_, by decide, rfl, ?_⟩
   conv => whnf
   refine ⟨_, by decide, rfl, ?_⟩
   conv => whnf
   refine ⟨_, by decide, rfl, ?_⟩
   conv => whnf
   refine ⟨_, by decide, rfl, ?_⟩
   conv => whnf
   intro b hb
   obtain rfl : b = true := hb.symm.trans (by decide)
   conv => whnf
   intro b hb
   obtain rfl : b = false := hb.symm.trans (by decide)
   conv => whnf
   exact h
  ·cases hw
 ·exact h.elim
end Go.PM.Lex
end

section
namespace Go.PM.Lex
mutual
def erE : Ex → Ex
 | .mk op t n args _ => .mk op t n (erEs args) 0
def erEs : List Ex → List Ex
 | [] => []
 | e :: l => erE e :: erEs l
end
theorem erEs_eq (l : List Ex) : erEs l = l.map erE := by induction l with | nil => rfl | cons x l ih => simp [erEs, ih]
mutual
def erL : Li → Li
 | .mk op rel args body _ => .mk op rel (erEs args) (erLs body) 0
def erLs : List Li → List Li
 | [] => []
 | e :: l => erL e :: erLs l
end
theorem erLs_eq (l : List Li) : erLs l = l.map erL := by induction l with | nil => rfl | cons x l ih => simp [erLs, ih]
def erRu (r : Ru) : Ru := ⟨r.head, r.args.map erE, r.body.map erL, 0⟩
def erTy (t : Ty) : Ty := { t with at' := 0 }
def erRe (t : Re) : Re := { t with at' := 0 }
def erIn (t : Ini) : Ini := { t with at' := 0 }
def erOv (t : Ov) : Ov := { t with at' := 0 }
mutual
def erUn : Un → Un
 | .mk a b c d e f => .mk (a.map erTy) (b.map erRe) (c.map erRu) (erCos d) (e.map erIn) (f.map erOv)
def erCo : Co → Co
 | .mk nm ps base tys u _ => .mk nm ps base tys (erUn u) 0
def erCos : List Co → List Co
 | [] => []
 | e :: l => erCo e :: erCos l
end
theorem erCos_eq (l : List Co) : erCos l = l.map erCo := by induction l with | nil => rfl | cons x l ih => simp [erCos, ih]
def badW : List Bs := [[44], [124], [60], [40], [105, 110, 112, 117, 116], [111, 117, 116, 112, 117, 116], [105, 110, 108, 105, 110, 101], [99, 111, 117, 110, 116], [115, 117, 109], [109, 105, 110], [109, 97, 120], [98, 111, 114], [98, 120, 111, 114], [98, 97, 110, 100], [115, 104, 108], [115, 104, 114], [43], [45], [42], [47], [37]]
def Good (m : Ts) : Prop := ∀ w ∈ badW, isW m [w] = false
def Stb {α : Type} (er : α → α) (m : Ts) (x y : R α) : Prop := ∀ v ts, x = .ok v ts → ∃ v', er v' = er v ∧ y = .ok v' (ts ++ m)
def Stw {α : Type} (er : α → α) (m : Ts) (x y : R α) : Prop := ∀ v t ts, x = .ok v (t :: ts) → ∃ v', er v' = er v ∧ y = .ok v' ((t :: ts) ++ m)
abbrev StbP {α : Type} (er : α → α) (m : Ts) (P : Ts → R α) : Prop := ∀ ts, Stb er m (P ts) (P (ts ++ m))
section
variable {α β : Type} {er : α → α} {er2 : β → β} {m : Ts}
theorem Stb.weak {x y : R α} (h : Stb er m x y) : Stw er m x y := fun v t ts e => h v (t :: ts) e
theorem Stb.ok {v v' : α} {ts : Ts} (h : er v' = er v) : Stb er m (.ok v ts) (.ok v' (ts ++ m)) := fun w rest e => by cases e; exact ⟨v', h, rfl⟩
theorem Stb.ok' {v v' : α} {ts ts' : Ts} (h : er v' = er v) (e : ts' = ts ++ m) : Stb er m (.ok v ts) (.ok v' ts') := e ▸ Stb.ok h
theorem Stb.err {r e : Nat} {y : R α} : Stb er m (.err r e) y := fun w rest e => by cases e
theorem Stb.of_err {x y : R α} {r e : Nat} (h : x = .err r e) : Stb er m x y := h ▸ Stb.err
theorem Stb.bind {x y : R α} {f g : α → Ts → R β} (h : Stb er m x y) (hf : ∀ v v' ts, er v' = er v → Stb er2 m (f v ts) (g v' (ts ++ m))) : Stb er2 m (x.bind f) (y.bind g) := fun w rest e => by
 cases x with
 | ok v ts =>
  obtain ⟨v', h1, rfl⟩ := h v ts rfl
  exact hf v v' ts h1 w rest e
 | err r e' => cases e
theorem Stb.binds {x y : R α} {f g : α → Ts → R β} (h : Stb id m x y) (hf : ∀ v ts, Stb er2 m (f v ts) (g v (ts ++ m))) : Stb er2 m (x.bind f) (y.bind g) := Stb.bind h fun v v' ts e => by cases (show v' = v from e); exact hf v ts
end
variable {m : Ts}
theorem isW_cons {t : T0} {ts : Ts} {ws : List Bs} : isW (t :: ts ++ m) ws = isW (t :: ts) ws := rfl
theorem isW_nil (ws : List Bs) : isW [] ws = false := by simp [isW, hd]
theorem isW_good (hm : Good m) {w : Bs} (hw : w ∈ badW) (ts : Ts) : isW (ts ++ m) [w] = isW ts [w] := by
 cases ts with
 | nil => rw [isW_nil, List.nil_append, hm w hw]
 | cons t ts => rfl
theorem isW_pos {ts : Ts} {ws : List Bs} (h : isW ts ws = true) : ∃ t l, ts = t :: l := by
 cases ts with
 | nil => rw [isW_nil] at h; cases h
 | cons t l => exact ⟨t, l, rfl⟩
theorem must_stb (w : Bs) : StbP (id : Unit → Unit) m (mustF w) := fun ts => by
 unfold mustF
 by_cases h : isW ts [w] = true
 ·obtain ⟨t, l, rfl⟩ := isW_pos h
  rw [if_pos h, isW_cons, if_pos h]; exact Stb.ok rfl
 ·rw [if_neg h]; exact Stb.err
theorem name_stb : StbP id m nameP := fun ts => by
 unfold nameP
 cases ts with
 | nil => rw [if_neg (by decide)]; exact Stb.err
 | cons t l =>
  rw [show namedF (t :: l ++ m) = namedF (t :: l) from rfl]
  by_cases h : namedF (t :: l) = true
  ·rw [if_pos h, if_pos h]; exact Stb.ok rfl
  ·rw [if_neg h]; exact Stb.err
theorem within_stw {α : Type} {er : α → α} {d : Nat} {fr to : Bs} {read read' : Ts → R α} (hto : to ≠ []) (h : ∀ ts, Stw er m (read ts) (read' (ts ++ m))) (ts : Ts) : Stb er m (withinF d fr to read ts) (withinF d fr to read' (ts ++ m)) := by
 unfold withinF
 by_cases h1 : isW ts [fr] = true
 ·obtain ⟨t, l, rfl⟩ := isW_pos h1
  rw [if_pos h1, isW_cons, if_pos h1]
  by_cases hd : d = 0
  ·rw [if_pos hd]; exact Stb.err
  ·rw [if_neg hd, if_neg hd]
   intro v rest e
   have hl := h l
   rw [show (t :: l).tail = l from rfl] at e
   rw [show (t :: l ++ m).tail = l ++ m from rfl]
   cases hx : read l with
   | err r e' => rw [hx] at e; cases e
   | ok x ts1 =>
    rw [hx] at e hl
    rw [R.bind_ok, if_neg hto] at e
    cases ts1 with
    | nil => unfold mustF at e; rw [if_neg (by rw [isW_nil]; simp)] at e; cases e
    | cons t1 l1 =>
     obtain ⟨x', g1, g2⟩ := hl x t1 l1 rfl
     rw [g2, R.bind_ok, if_neg hto]
     exact (Stb.bind (er2 := er) (must_stb to (t1 :: l1)) (f := fun _ ts => .ok x ts) (g := fun _ ts => .ok x' ts) (fun _ _ ts _ => Stb.ok g1)) v rest e
 ·rw [if_neg h1]; exact Stb.err
theorem within_stb {α : Type} {er : α → α} {d : Nat} {fr : Bs} {read : Ts → R α} (h : StbP er m read) : StbP er m (withinF d fr [] read) := fun ts => by
 unfold withinF
 by_cases h1 : isW ts [fr] = true
 ·obtain ⟨t, l, rfl⟩ := isW_pos h1
  rw [if_pos h1, isW_cons, if_pos h1]
  by_cases hd : d = 0
  ·rw [if_pos hd]; exact Stb.err
  ·rw [if_neg hd, if_neg hd]
   refine Stb.bind (h l) fun v v' ts e => ?_
   rw [if_pos rfl, if_pos rfl]; exact Stb.ok e
 ·rw [if_neg h1]; exact Stb.err
theorem manyGo_stb {α : Type} {er : α → α} (hm : Good m) {sign : Bs} (hs : sign ∈ badW) {most : Nat} {starts : Ts → Bool} {one : Ts → R α} (h : StbP er m one) (hst : ∀ t ts, starts (t :: ts ++ m) = starts (t :: ts)) (hnil : ∃ r e, one [] = .err r e) :
  ∀ (f f' : Nat) (l l' : List α) (ts : Ts), f ≤ f' → l'.map er = l.map er → Stb (List.map er) m (manyGo sign most starts one f l ts) (manyGo sign most starts one f' l' (ts ++ m))
 | 0, f', l, l', ts, hf, hl => Stb.err
 | f + 1, 0, l, l', ts, hf, hl => by omega
 | f + 1, f' + 1, l, l', ts, hf, hl => by
  have hlen : l'.length = l.length := by simpa using congrArg List.length hl
  rw [manyGo, manyGo]
  cases ts with
  | nil =>
   obtain ⟨r, e, hr⟩ := hnil
   by_cases hc : starts [] = true ∧ l.length = most
   ·rw [if_pos hc]; exact Stb.err
   ·rw [if_neg hc, hr]; exact Stb.err
  | cons t ts =>
   rw [hst]
   by_cases hc : starts (t :: ts) = true ∧ l.length = most
   ·rw [if_pos hc]; exact Stb.err
   ·rw [if_neg hc, if_neg (by rw [hlen]; exact hc)]
    refine Stb.bind (h _) fun v v' ts1 e => ?_
    rw [isW_good hm hs]
    have hl2 : (l' ++ [v']).map er = (l ++ [v]).map er := by simp [hl, e]
    by_cases hw : isW ts1 [sign] = true
    ·obtain ⟨t1, l1, rfl⟩ := isW_pos hw
     rw [if_pos hw, if_pos hw]
     exact manyGo_stb hm hs h hst hnil f f' _ _ l1 (by omega) hl2
    ·rw [if_neg hw, if_neg hw]; exact Stb.ok hl2
theorem many_stb {α : Type} {er : α → α} (hm : Good m) {sign : Bs} (hs : sign ∈ badW) {most : Nat} {starts : Ts → Bool} {one : Ts → R α} (h : StbP er m one) (hst : ∀ t ts, starts (t :: ts ++ m) = starts (t :: ts)) (hnil : ∃ r e, one [] = .err r e) :
  StbP (List.map er) m (manyF sign most starts one) := fun ts => manyGo_stb hm hs h hst hnil _ _ [] [] ts (by rw [List.length_append]; omega) rfl
theorem many_nil {α : Type} {sign : Bs} {most : Nat} {starts : Ts → Bool} {one : Ts → R α} (hs : starts [] = false) (hnil : ∃ r e, one [] = .err r e) : ∃ r e, manyF sign most starts one [] = .err r e := by
 obtain ⟨r, e, h⟩ := hnil
 exact ⟨r, e, by simp [manyF, manyGo, hs, h]⟩
theorem name_nil : ∃ r e, nameP [] = .err r e := ⟨0, 150, rfl⟩
theorem field_stb : StbP id m fieldF := fun ts => Stb.binds (name_stb ts) fun a ts => Stb.binds (must_stb _ ts) fun _ ts => Stb.binds (name_stb ts) fun b ts => Stb.ok rfl
theorem field_nil : ∃ r e, fieldF [] = .err r e := ⟨0, 150, rfl⟩
theorem Stb.idl {α : Type} {x y : R (List α)} (h : Stb (List.map id) m x y) : Stb id m x y := fun v ts e => by
 obtain ⟨v', h1, h2⟩ := h v ts e
 exact ⟨v', by simpa using h1, h2⟩
theorem fields_stb (hm : Good m) (fin : Bs) : StbP id m (fieldsF fin) := fun ts => by
 unfold fieldsF
 cases ts with
 | nil =>
  rw [if_neg (by rw [isW_nil]; simp)]
  obtain ⟨r, e, h⟩ := many_nil (sign := [44]) (most := 12) (starts := namedF) rfl field_nil
  exact Stb.of_err h
 | cons t ts =>
  rw [isW_cons]
  by_cases h : isW (t :: ts) [fin] = true
  ·rw [if_pos h, if_pos h]; exact Stb.ok rfl
  ·rw [if_neg h, if_neg h]
   exact (many_stb hm (by decide) field_stb (fun _ _ => rfl) field_nil _).idl
theorem names_stb (hm : Good m) : StbP id m namesF := fun ts => by
 unfold namesF
 rw [isW_good hm (by decide)]
 by_cases h : isW ts [[60]] = true
 ·obtain ⟨t, l, rfl⟩ := isW_pos h
  rw [if_pos h, if_pos h]
  exact Stb.binds (many_stb hm (by decide) name_stb (fun _ _ => rfl) name_nil l).idl fun l ts => Stb.binds (must_stb _ ts) fun _ ts => Stb.ok rfl
 ·rw [if_neg h, if_neg h]; exact Stb.ok rfl
theorem case_stb (hm : Good m) : StbP id m caseF := fun ts => Stb.binds (name_stb ts) fun a ts => Stb.binds (must_stb _ ts) fun _ ts => Stb.binds (fields_stb hm _ ts) fun l ts => Stb.binds (must_stb _ ts) fun _ ts => Stb.ok rfl
theorem case_nil : ∃ r e, caseF [] = .err r e := ⟨0, 150, rfl⟩
theorem Stb.ite {α : Type} {er : α → α} {ts : Ts} {w : Bs} {x x' y y' : R α} (hnil : ts = [] → ∃ r e, y = .err r e) (h1 : isW ts [w] = true → Stb er m x x') (h2 : Stb er m y y') :
  Stb er m (if isW ts [w] = true then x else y) (if isW (ts ++ m) [w] = true then x' else y') := by
 cases ts with
 | nil =>
  rw [if_neg (by rw [isW_nil]; simp)]
  obtain ⟨r, e, h⟩ := hnil rfl
  exact Stb.of_err h
 | cons t ts =>
  rw [isW_cons]
  by_cases h : isW (t :: ts) [w] = true
  ·rw [if_pos h, if_pos h]; exact h1 h
  ·rw [if_neg h, if_neg h]; exact h2
theorem tail_app {ts : Ts} {ws : List Bs} (h : isW ts ws = true) : (ts ++ m).tail = ts.tail ++ m := by obtain ⟨t, l, rfl⟩ := isW_pos h; rfl
theorem must_nil {α : Type} (w : Bs) (f : Unit → Ts → R α) : ∃ r e, (mustF w []).bind f = .err r e := ⟨0, 150, by rw [show mustF w [] = .err 0 150 from by unfold mustF; rw [if_neg (by rw [isW_nil]; simp)]; rfl]; rfl⟩
theorem typed_stb (hm : Good m) : StbP erTy m typedF := fun t0 => Stb.binds (name_stb t0) fun nm ts => by
 refine Stb.ite (fun h => by subst h; exact must_nil _ _) (fun h => ?_) ?_
 ·rw [tail_app h]
  exact Stb.binds (name_stb _) fun b ts => Stb.ok rfl
 ·refine Stb.binds (must_stb _ ts) fun _ ts => ?_
  refine Stb.ite (fun h => ?_) (fun h => ?_) ?_
  ·subst h
   obtain ⟨r, e, h⟩ := many_nil (sign := [124]) (most := 64) (starts := namedF) rfl case_nil
   exact ⟨r, e, by rw [h]; rfl⟩
  ·rw [tail_app h]
   exact Stb.binds (fields_stb hm _ _) fun l ts => Stb.binds (must_stb _ ts) fun _ ts => Stb.ok rfl
  ·exact Stb.binds (many_stb hm (by decide) (case_stb hm) (fun _ _ => rfl) case_nil ts).idl fun l ts => Stb.ok rfl
theorem flags_app (hm : Good m) : ∀ (f : Nat) (i o n : Bool) (ts : Ts), flagsGo f i o n (ts ++ m) = ((flagsGo f i o n ts).1, (flagsGo f i o n ts).2 ++ m)
 | 0, i, o, n, ts => rfl
 | f + 1, i, o, n, ts => by
  rw [flagsGo, flagsGo, isW_good hm (by decide), isW_good hm (by decide), isW_good hm (by decide)]
  by_cases h1 : i = false ∧ isW ts [[105, 110, 112, 117, 116]] = true
  ·rw [if_pos h1, if_pos h1, tail_app h1.2, flags_app hm f]
  ·rw [if_neg h1, if_neg h1]
   by_cases h2 : o = false ∧ isW ts [[111, 117, 116, 112, 117, 116]] = true
   ·rw [if_pos h2, if_pos h2, tail_app h2.2, flags_app hm f]
   ·rw [if_neg h2, if_neg h2]
    by_cases h3 : n = false ∧ isW ts [[105, 110, 108, 105, 110, 101]] = true
    ·rw [if_pos h3, if_pos h3, tail_app h3.2, flags_app hm f]
    ·rw [if_neg h3, if_neg h3]
theorem decl_stb (hm : Good m) : StbP erRe m declF := fun t0 => Stb.binds (name_stb t0) fun nm ts => Stb.binds (must_stb _ ts) fun _ ts => Stb.binds (fields_stb hm _ ts) fun l ts => Stb.binds (must_stb _ ts) fun _ ts => by
 rw [flags_app hm]; exact Stb.ok rfl
theorem starts_nil : startsF [] = false := rfl
theorem args_stb (hm : Good m) {d : Nat} {ex : Ts → R Ex} (h : StbP erE m ex) (hnil : ∃ r e, ex [] = .err r e) (fr to : Bs) (hto : to ≠ []) : StbP (List.map erE) m (argsF d ex fr to) := fun ts => by
 unfold argsF
 refine within_stw hto (fun ts => Stb.weak ?_) ts
 refine Stb.ite (fun h => by subst h; exact many_nil rfl hnil) (fun h => Stb.ok rfl) ?_
 exact many_stb hm (by decide) h (fun _ _ => rfl) hnil ts
theorem call_stb {ex : Ts → R Ex} (h : StbP erE m ex) : ∀ (k : Nat) (l l' : List Ex) (ts : Ts), l'.map erE = l.map erE → Stb (List.map erE) m (callGo ex k l ts) (callGo ex k l' (ts ++ m))
 | 0, l, l', ts, hl => Stb.ok hl
 | k + 1, l, l', ts, hl => by
  have hlen : l'.length = l.length := by simpa using congrArg List.length hl
  have h0 : l' = [] ↔ l = [] := by rw [← List.length_eq_zero_iff, ← List.length_eq_zero_iff, hlen]
  rw [callGo, callGo]
  refine Stb.binds (α := Unit) ?_ fun _ ts => Stb.bind (h ts) fun v v' ts e => call_stb h k _ _ ts (by simp [hl, e])
  by_cases hc : l = []
  ·rw [if_pos hc, if_pos (h0.2 hc)]; exact Stb.ok rfl
  ·rw [if_neg hc, if_neg (fun g => hc (h0.1 g))]; exact must_stb _ ts
theorem primary_stb (hm : Good m) {d : Nat} {ex : Ts → R Ex} (h : StbP erE m ex) (hnil : ∃ r e, ex [] = .err r e) : StbP erE m (primaryF d ex) := fun ts => by
 cases ts with
 | nil => exact Stb.of_err (r := 0) (e := 150) (by unfold primaryF; rw [if_pos starts_nil]; rfl)
 | cons t ts =>
  unfold primaryF
  rw [show startsF (t :: ts ++ m) = startsF (t :: ts) from rfl, show hd (t :: ts ++ m) = t from rfl, show hd (t :: ts) = t from rfl, show (t :: ts ++ m).tail = ts ++ m from rfl, show (t :: ts).tail = ts from rfl]
  by_cases c0 : startsF (t :: ts) = false
  ·rw [if_pos c0]; exact Stb.err
  rw [if_neg c0, if_neg c0]
  by_cases c1 : t.kind = 2
  ·rw [if_pos c1, if_pos c1]; exact Stb.ok rfl
  rw [if_neg c1, if_neg c1]
  by_cases c2 : t.kind = 3
  ·rw [if_pos c2, if_pos c2]; exact Stb.ok rfl
  rw [if_neg c2, if_neg c2]
  by_cases c3 : t.text = [40]
  ·rw [if_pos c3, if_pos c3]; exact within_stw (by simp) (fun ts => (h ts).weak) (t :: ts)
  rw [if_neg c3, if_neg c3]
  by_cases c4 : t.text = [91]
  ·rw [if_pos c4, if_pos c4]
   exact Stb.bind (args_stb hm h hnil _ _ (by simp) (t :: ts)) fun v v' ts e => Stb.ok (by simp only [erE, erEs_eq, e])
  rw [if_neg c4, if_neg c4]
  by_cases c5 : t.text = [36]
  ·rw [if_pos c5, if_pos c5]
   refine Stb.binds (name_stb ts) fun nm ts => ?_
   rw [isW_good hm (by decide)]
   by_cases c6 : isW ts [[40]] = true
   ·rw [if_pos c6, if_pos c6]
    exact Stb.bind (args_stb hm h hnil _ _ (by simp) ts) fun v v' ts e => Stb.ok (by simp only [erE, erEs_eq, e])
   ·rw [if_neg c6, if_neg c6]; exact Stb.ok rfl
  rw [if_neg c5, if_neg c5]
  by_cases c6 : functorF t.text ≠ 0
  ·rw [if_pos c6, if_pos c6]
   exact Stb.bind (within_stw (by simp) (fun ts => (call_stb h _ [] [] ts rfl).weak) ts) fun v v' ts e => Stb.ok (by simp only [erE, erEs_eq, e])
  rw [if_neg c6, if_neg c6]
  by_cases c7 : t.text = [110, 105, 108]
  ·rw [if_pos c7, if_pos c7]; exact Stb.ok rfl
  rw [if_neg c7, if_neg c7]
  by_cases c8 : t.text = [95]
  ·rw [if_pos c8, if_pos c8]; exact Stb.ok rfl
  rw [if_neg c8, if_neg c8]; exact Stb.ok rfl
theorem bin_good (hm : Good m) : binF m = (0, 0) := by
 unfold binF
 by_cases hk : (hd m).kind ≠ 1 ∧ (hd m).kind ≠ 4
 ·rw [if_pos hk]
 ·rw [if_neg hk]
  have key : ∀ w ∈ badW, (hd m).text ≠ w := fun w hw e => by
   have := hm w hw
   unfold isW at this
   rw [Bool.and_eq_false_iff] at this
   rcases this with h | h
   ·simp only [Bool.or_eq_false_iff, decide_eq_false_iff_not] at h; exact hk h
   ·rw [e] at h; simp at h
  rw [if_neg (key _ (by decide)), if_neg (key _ (by decide)), if_neg (key _ (by decide)), if_neg (key _ (by decide)), if_neg (key _ (by decide)), if_neg (key _ (by decide)), if_neg (key _ (by decide)), if_neg (key _ (by decide)), if_neg (key _ (by decide)), if_neg (key _ (by decide))]
theorem bin_app (hm : Good m) (ts : Ts) : binF (ts ++ m) = binF ts := by
 cases ts with
 | nil => rw [List.nil_append, bin_good hm]; rfl
 | cons t ts => rfl
theorem bin_pos {ts : Ts} (h : (binF ts).1 ≠ 0) : ∃ t l, ts = t :: l := by
 cases ts with
 | nil => exact absurd rfl h
 | cons t l => exact ⟨t, l, rfl⟩
theorem lineGo_stb (hm : Good m) {sub : Nat → Ts → R Ex} (h : ∀ k, StbP erE m (sub k)) (least : Nat) : ∀ (f f' : Nat) (e e' : Ex) (ts : Ts), f ≤ f' → erE e' = erE e → Stb erE m (lineGo sub least f e ts) (lineGo sub least f' e' (ts ++ m))
 | 0, f', e, e', ts, hf, he => Stb.err
 | f + 1, 0, e, e', ts, hf, he => by omega
 | f + 1, f' + 1, e, e', ts, hf, he => by
  rw [lineGo, lineGo, bin_app hm]
  by_cases hc : (binF ts).1 < least ∨ (binF ts).1 = 0
  ·rw [if_pos hc, if_pos hc]; exact Stb.ok he
  ·rw [if_neg hc, if_neg hc]
   obtain ⟨t, l, rfl⟩ := bin_pos (fun g => hc (.inr g))
   exact Stb.bind (h _ l) fun v v' ts e1 => lineGo_stb hm h least f f' _ _ ts (by omega) (by simp only [erE, erEs, e1, he])
theorem lineK_stb (hm : Good m) {sg : Ts → R Ex} (h : StbP erE m sg) : ∀ (k least : Nat), StbP erE m (lineK sg k least)
 | 0, least => h
 | k + 1, least => fun ts => Stb.bind (h ts) fun v v' ts e => lineGo_stb hm (lineK_stb hm h k) least _ _ _ _ ts (by rw [List.length_append]; omega) e
theorem lineK_nil {sg : Ts → R Ex} (h : ∃ r e, sg [] = .err r e) : ∀ (k least : Nat), ∃ r e, lineK sg k least [] = .err r e
 | 0, least => h
 | k + 1, least => by obtain ⟨r, e, h⟩ := h; exact ⟨r, e, by rw [lineK, h]; rfl⟩
theorem signed_nil (d : Nat) (sg : Ts → R Ex) : ∃ r e, signedF d sg [] = .err r e := ⟨0, 150, by unfold signedF; rw [if_neg (by rw [isW_nil]; simp), if_neg (by rw [isW_nil]; simp)]; unfold primaryF; rw [if_pos starts_nil]; rfl⟩
theorem signed_stb (hm : Good m) {d : Nat} {sg : Ts → R Ex} (h : StbP erE m sg) (hnil : ∃ r e, sg [] = .err r e) : StbP erE m (signedF d sg) := fun ts => by
 cases ts with
 | nil => obtain ⟨r, e, h⟩ := signed_nil d sg; exact Stb.of_err h
 | cons t ts =>
  unfold signedF
  rw [isW_cons, isW_cons]
  by_cases c1 : isW (t :: ts) [[45]] = true
  ·rw [if_pos c1, if_pos c1]
   exact Stb.bind (within_stb h (t :: ts)) fun v v' ts e => Stb.ok (by simp only [erE, erEs, e])
  rw [if_neg c1, if_neg c1]
  by_cases c2 : isW (t :: ts) [[126]] = true
  ·rw [if_pos c2, if_pos c2]
   exact Stb.bind (within_stb h (t :: ts)) fun v v' ts e => Stb.ok (by simp only [erE, erEs, e])
  rw [if_neg c2, if_neg c2]
  exact primary_stb hm (lineK_stb hm h 6 1) (lineK_nil hnil 6 1) (t :: ts)
theorem signedD_nil : ∀ d, ∃ r e, signedD d [] = .err r e
 | 0 => signed_nil _ _
 | d + 1 => signed_nil _ _
theorem signedD_stb (hm : Good m) : ∀ d, StbP erE m (signedD d)
 | 0 => signed_stb hm (fun ts => Stb.err) ⟨0, 150, rfl⟩
 | d + 1 => signed_stb hm (signedD_stb hm d) (signedD_nil d)
theorem expr_stb (hm : Good m) (d : Nat) : StbP erE m (exprD d) := lineK_stb hm (signedD_stb hm d) 6 1
theorem expr_nil (d : Nat) : ∃ r e, exprD d [] = .err r e := lineK_nil (signedD_nil d) 6 1
theorem exprB_stb (hm : Good m) : ∀ d, StbP erE m (exprB d)
 | 0 => fun ts => Stb.err
 | d + 1 => expr_stb hm d
theorem exprB_nil : ∀ d, ∃ r e, exprB d [] = .err r e
 | 0 => ⟨0, 150, rfl⟩
 | d + 1 => expr_nil d
theorem idxW_cons {t : T0} {ts : Ts} : ∀ (ws : List Bs) (i : Nat), idxW (t :: ts ++ m) i ws = idxW (t :: ts) i ws
 | [], i => rfl
 | w :: ws, i => by rw [idxW, idxW, idxW_cons ws, isW_cons]
theorem idxW_nil : ∀ (ws : List Bs) (i : Nat), idxW [] i ws = none
 | [], i => rfl
 | w :: ws, i => by rw [idxW, if_neg (by rw [isW_nil]; simp), idxW_nil ws]
theorem idxW_good (hm : Good m) : ∀ (ws : List Bs) (i : Nat), (∀ w ∈ ws, w ∈ badW) → idxW m i ws = none
 | [], i, _ => rfl
 | w :: ws, i, h => by rw [idxW, if_neg (by rw [hm w (h w (by simp))]; simp), idxW_good hm ws _ fun x hx => h x (List.mem_cons_of_mem _ hx)]
theorem litOp_stb (hm : Good m) : StbP id m litOp := fun ts => by
 cases ts with
 | nil => exact Stb.of_err (r := 0) (e := 150) (by unfold litOp; rw [idxW_nil]; rfl)
 | cons t ts =>
  have ha : idxW (ts ++ m) 0 aggWords = idxW ts 0 aggWords := by
   cases ts with
   | nil => rw [List.nil_append, idxW_nil, idxW_good hm _ _ (by decide)]
   | cons t ts => exact idxW_cons _ _
  unfold litOp
  rw [idxW_cons, show (t :: ts ++ m).tail = ts ++ m from rfl, show (t :: ts).tail = ts from rfl, ha]
  cases h : idxW (t :: ts) 0 relWords with
  | none => exact Stb.err
  | some k =>
   cases k with
   | zero =>
    simp only
    cases h2 : idxW ts 0 aggWords with
    | none => exact Stb.ok rfl
    | some j =>
     cases ts with
     | nil => rw [idxW_nil] at h2; cases h2
     | cons t ts => exact Stb.ok rfl
   | succ k => exact Stb.ok rfl
theorem litAtom_stb (hm : Good m) (d op a a' : Nat) (ts : Ts) : Stb erL m (litAtom d op a ts) (litAtom d op a' (ts ++ m)) :=
 Stb.binds (name_stb ts) fun nm ts => Stb.bind (args_stb hm (exprB_stb hm d) (exprB_nil d) _ _ (by simp) ts) fun v v' ts e => Stb.ok (by simp only [erL, erEs_eq, erLs, e])
theorem litEnd_stb (hm : Good m) {d : Nat} {bd : Ts → R (List Li)} (h : StbP (List.map erL) m bd) (a a' op : Nat) {l l' : List Ex} (hl : l'.map erE = l.map erE) (ts : Ts) : Stb erL m (litEnd d bd a op l ts) (litEnd d bd a' op l' (ts ++ m)) := by
 unfold litEnd
 by_cases hc : 9 ≤ op
 ·rw [if_pos hc, if_pos hc]
  exact Stb.binds (must_stb _ ts) fun _ ts => Stb.bind (within_stw (by simp) (fun ts => (h ts).weak) ts) fun v v' ts e => Stb.ok (by simp only [erL, erEs_eq, erLs_eq, e, hl])
 ·rw [if_neg hc, if_neg hc]; exact Stb.ok (by simp only [erL, erEs_eq, erLs_eq, hl])
theorem litRel_stb (hm : Good m) {d : Nat} {bd : Ts → R (List Li)} (h : StbP (List.map erL) m bd) : StbP erL m (litRel d bd) := fun t0 => by
 refine Stb.bind (expr_stb hm d t0) fun v v' ts e => Stb.binds (litOp_stb hm ts) fun op ts => ?_
 by_cases hc : op = 9
 ·rw [if_pos hc, if_pos hc]; exact litEnd_stb hm h _ _ _ (by simp [e]) ts
 ·rw [if_neg hc, if_neg hc]
  exact Stb.bind (expr_stb hm d ts) fun g g' ts e2 => litEnd_stb hm h _ _ _ (by simp [e, e2]) ts
theorem good_open (hm : Good m) : ¬ ((hd m).kind = 4 ∧ (hd m).text = [40]) := fun h => by
 have := hm [40] (by decide)
 unfold isW at this
 rw [h.1, h.2] at this
 simp at this
theorem lit_nil (d : Nat) (bd : Ts → R (List Li)) : ∃ r e, litF d bd [] = .err r e := by
 obtain ⟨r, e, h⟩ := expr_nil d
 exact ⟨r, e, by unfold litF; rw [if_neg (by rw [isW_nil]; simp), if_neg (by simp [namedF, hd])]; unfold litRel; rw [h]; rfl⟩
theorem lit_stb (hm : Good m) {d : Nat} {bd : Ts → R (List Li)} (h : StbP (List.map erL) m bd) : StbP erL m (litF d bd) := fun t0 => by
 cases t0 with
 | nil => obtain ⟨r, e, h⟩ := lit_nil d bd; exact Stb.of_err h
 | cons t ts =>
  unfold litF
  rw [isW_cons, show namedF (t :: ts ++ m) = namedF (t :: ts) from rfl, show (t :: ts ++ m).tail = ts ++ m from rfl, show (t :: ts).tail = ts from rfl]
  by_cases c1 : isW (t :: ts) [[33]] = true
  ·rw [if_pos c1, if_pos c1]; exact litAtom_stb hm _ _ _ _ ts
  rw [if_neg c1, if_neg c1]
  have hh : (namedF (t :: ts) = true ∧ (hd (ts ++ m)).kind = 4 ∧ (hd (ts ++ m)).text = [40]) ↔ (namedF (t :: ts) = true ∧ (hd ts).kind = 4 ∧ (hd ts).text = [40]) := by
   cases ts with
   | nil =>
    constructor
    ·intro g; exact absurd g.2 (good_open hm)
    ·intro g; exact absurd g.2.1 (by simp [hd])
   | cons t2 ts => exact Iff.rfl
  by_cases c2 : namedF (t :: ts) = true ∧ (hd ts).kind = 4 ∧ (hd ts).text = [40]
  ·rw [if_pos c2, if_pos (hh.2 c2)]; exact litAtom_stb hm _ _ _ _ (t :: ts)
  ·rw [if_neg c2, if_neg (fun g => c2 (hh.1 g))]; exact litRel_stb hm h (t :: ts)
theorem body_stb (hm : Good m) : ∀ d, StbP (List.map erL) m (bodyD d)
 | 0 => many_stb hm (by decide) (lit_stb hm fun ts => Stb.err) (fun _ _ => rfl) (lit_nil _ _)
 | d + 1 => many_stb hm (by decide) (lit_stb hm (body_stb hm d)) (fun _ _ => rfl) (lit_nil _ _)
theorem rule_stb (hm : Good m) (d : Nat) (bodies : Bool) : StbP erRu m (ruleF d bodies) := fun t0 => Stb.binds (name_stb t0) fun nm ts => Stb.bind (args_stb hm (exprB_stb hm d) (exprB_nil d) _ _ (by simp) ts) fun v v' ts e => by
 cases ts with
 | nil =>
  rw [if_neg (fun g => by have := g.2; rw [isW_nil] at this; cases this)]
  obtain ⟨r, e', h⟩ := must_nil [46] (fun _ ts => R.ok (⟨nm, v, [], t0.length⟩ : Ru) ts)
  exact Stb.of_err h
 | cons t ts =>
  rw [isW_cons]
  by_cases hc : bodies = true ∧ isW (t :: ts) [[58, 45]] = true
  ·rw [if_pos hc, if_pos hc]
   exact Stb.bind (body_stb hm d ts) fun b b' ts e2 => Stb.binds (must_stb _ ts) fun _ ts => Stb.ok (by simp only [erRu, e, e2])
  ·rw [if_neg hc, if_neg hc]
   exact Stb.binds (must_stb _ (t :: ts)) fun _ ts => Stb.ok (by simp only [erRu, e])
theorem within_nil {α : Type} {d : Nat} {fr to : Bs} {read : Ts → R α} : withinF d fr to read [] = .err 0 150 := by unfold withinF; rw [if_neg (by rw [isW_nil]; simp)]; rfl
theorem comp_stb (hm : Good m) {d : Nat} {un : Ts → R Un} (h : ∀ ts, Stw erUn m (un ts) (un (ts ++ m))) : StbP erCo m (compF d un) := fun t0 => Stb.binds (name_stb t0) fun nm ts => Stb.binds (names_stb hm ts) fun ps ts => by
 refine Stb.ite (fun g => by subst g; exact ⟨0, 150, by rw [within_nil]; rfl⟩) (fun g => ?_) ?_
 ·rw [tail_app g]
  exact Stb.binds (name_stb _) fun b ts => Stb.binds (names_stb hm ts) fun tys ts => Stb.bind (within_stw (by simp) h ts) fun u u' ts e => Stb.ok (by simp only [erCo, e])
 ·exact Stb.bind (within_stw (by simp) h ts) fun u u' ts e => Stb.ok (by simp only [erCo, e])
theorem init_stb (hm : Good m) : StbP erIn m initF := fun t0 => Stb.binds (name_stb t0) fun nm ts => Stb.binds (must_stb _ ts) fun _ ts => Stb.binds (name_stb ts) fun c ts => Stb.binds (names_stb hm ts) fun tys ts => Stb.ok rfl
theorem over_stb : StbP erOv m overF := fun t0 => Stb.binds (name_stb t0) fun nm ts => Stb.ok rfl
def itemGo (inside : Bool) (d : Nat) (un : Ts → R Un) (u : Un) (ts : Ts) : R Un := match u with
 | .mk tys rels rules comps inits overs =>
  if isW ts [[116, 121, 112, 101]] = true then (if tys.length = 256 then .err ts.length 3 else (typedF ts.tail).bind fun x ts => .ok (.mk (tys ++ [x]) rels rules comps inits overs) ts)
  else if isW ts [[100, 101, 99, 108]] = true then (if rels.length = 256 then .err ts.length 3 else (declF ts.tail).bind fun x ts => .ok (.mk tys (rels ++ [x]) rules comps inits overs) ts)
  else if isW ts [[99, 111, 109, 112]] = true then (if comps.length = 64 then .err ts.length 3 else (compF d un ts.tail).bind fun x ts => .ok (.mk tys rels rules (comps ++ [x]) inits overs) ts)
  else if isW ts [[105, 110, 105, 116]] = true then (if inits.length = 256 then .err ts.length 3 else (initF ts.tail).bind fun x ts => .ok (.mk tys rels rules comps (inits ++ [x]) overs) ts)
  else if isW ts [[111, 118, 101, 114, 114, 105, 100, 101]] = true then (if overs.length = 256 then .err ts.length 3 else (overF ts.tail).bind fun x ts => .ok (.mk tys rels rules comps inits (overs ++ [x])) ts)
  else if namedF ts = true then (if rules.length = 1024 then .err ts.length 3 else (ruleF d true ts).bind fun x ts => .ok (.mk tys rels (rules ++ [x]) comps inits overs) ts)
  else .err ts.length 150
theorem R.bind_assoc {α β γ : Type} (x : R α) (f : α → Ts → R β) (g : β → Ts → R γ) : (x.bind f).bind g = x.bind fun v ts => (f v ts).bind g := by cases x <;> rfl
theorem R.bind_ite {α β : Type} {c : Prop} [Decidable c] (x y : R α) (f : α → Ts → R β) : (if c then x else y).bind f = if c then x.bind f else y.bind f := by split <;> rfl
theorem unitGo_item (inside : Bool) (d : Nat) (un : Ts → R Un) (f : Nat) (u : Un) (ts : Ts) : unitGo inside d un (f + 1) u ts = if ts = [] ∨ (inside = true ∧ isW ts [[125]] = true) then .ok u ts else (itemGo inside d un u ts).bind fun u ts => unitGo inside d un f u ts := by
 obtain ⟨tys, rels, rules, comps, inits, overs⟩ := u
 rw [unitGo, itemGo]
 simp only [R.bind_ite, R.bind_assoc, R.bind_ok, R.bind_err]
theorem item_stb (hm : Good m) {inside : Bool} {d : Nat} {un : Ts → R Un} (h : ∀ ts, Stw erUn m (un ts) (un (ts ++ m))) {u u' : Un} (hu : erUn u' = erUn u) (t : T0) (ts : Ts) : Stb erUn m (itemGo inside d un u (t :: ts)) (itemGo inside d un u' (t :: ts ++ m)) := by
 obtain ⟨a1, a2, a3, a4, a5, a6⟩ := u
 obtain ⟨b1, b2, b3, b4, b5, b6⟩ := u'
 simp only [erUn, erCos_eq, Un.mk.injEq] at hu
 obtain ⟨e1, e2, e3, e4, e5, e6⟩ := hu
 have l1 : b1.length = a1.length := by simpa using congrArg List.length e1
 have l2 : b2.length = a2.length := by simpa using congrArg List.length e2
 have l3 : b3.length = a3.length := by simpa using congrArg List.length e3
 have l4 : b4.length = a4.length := by simpa using congrArg List.length e4
 have l5 : b5.length = a5.length := by simpa using congrArg List.length e5
 have l6 : b6.length = a6.length := by simpa using congrArg List.length e6
 rw [itemGo, itemGo]
 simp only [isW_cons, show namedF (t :: ts ++ m) = namedF (t :: ts) from rfl, l1, l2, l3, l4, l5, l6]
 rw [show (t :: ts ++ m).tail = ts ++ m from rfl, show (t :: ts).tail = ts from rfl]
 by_cases c1 : isW (t :: ts) [[116, 121, 112, 101]] = true
 ·rw [if_pos c1, if_pos c1]
  by_cases k : a1.length = 256
  ·rw [if_pos k]; exact Stb.err
  ·rw [if_neg k, if_neg k]; exact Stb.bind (typed_stb hm ts) fun v v' ts e => Stb.ok (by simp [erUn, erCos_eq, e1, e2, e3, e4, e5, e6, e])
 rw [if_neg c1, if_neg c1]
 by_cases c2 : isW (t :: ts) [[100, 101, 99, 108]] = true
 ·rw [if_pos c2, if_pos c2]
  by_cases k : a2.length = 256
  ·rw [if_pos k]; exact Stb.err
  ·rw [if_neg k, if_neg k]; exact Stb.bind (decl_stb hm ts) fun v v' ts e => Stb.ok (by simp [erUn, erCos_eq, e1, e2, e3, e4, e5, e6, e])
 rw [if_neg c2, if_neg c2]
 by_cases c3 : isW (t :: ts) [[99, 111, 109, 112]] = true
 ·rw [if_pos c3, if_pos c3]
  by_cases k : a4.length = 64
  ·rw [if_pos k]; exact Stb.err
  ·rw [if_neg k, if_neg k]; exact Stb.bind (comp_stb hm h ts) fun v v' ts e => Stb.ok (by simp [erUn, erCos_eq, e1, e2, e3, e4, e5, e6, e])
 rw [if_neg c3, if_neg c3]
 by_cases c4 : isW (t :: ts) [[105, 110, 105, 116]] = true
 ·rw [if_pos c4, if_pos c4]
  by_cases k : a5.length = 256
  ·rw [if_pos k]; exact Stb.err
  ·rw [if_neg k, if_neg k]; exact Stb.bind (init_stb hm ts) fun v v' ts e => Stb.ok (by simp [erUn, erCos_eq, e1, e2, e3, e4, e5, e6, e])
 rw [if_neg c4, if_neg c4]
 by_cases c5 : isW (t :: ts) [[111, 118, 101, 114, 114, 105, 100, 101]] = true
 ·rw [if_pos c5, if_pos c5]
  by_cases k : a6.length = 256
  ·rw [if_pos k]; exact Stb.err
  ·rw [if_neg k, if_neg k]; exact Stb.bind (over_stb ts) fun v v' ts e => Stb.ok (by simp [erUn, erCos_eq, e1, e2, e3, e4, e5, e6, e])
 rw [if_neg c5, if_neg c5]
 by_cases c6 : namedF (t :: ts) = true
 ·rw [if_pos c6, if_pos c6]
  by_cases k : a3.length = 1024
  ·rw [if_pos k]; exact Stb.err
  ·rw [if_neg k, if_neg k]; exact Stb.bind (rule_stb hm d true (t :: ts)) fun v v' ts e => Stb.ok (by simp [erUn, erCos_eq, e1, e2, e3, e4, e5, e6, e])
 rw [if_neg c6]; exact Stb.err
theorem unitGo_stw (hm : Good m) {inside : Bool} {d : Nat} {un : Ts → R Un} (h : ∀ ts, Stw erUn m (un ts) (un (ts ++ m))) : ∀ (f f' : Nat) (u u' : Un) (ts : Ts), f ≤ f' → erUn u' = erUn u → Stw erUn m (unitGo inside d un f u ts) (unitGo inside d un f' u' (ts ++ m))
 | 0, f', u, u', ts, hf, hu => by
  intro v t rest e
  obtain ⟨a1, a2, a3, a4, a5, a6⟩ := u
  cases e
 | f + 1, 0, u, u', ts, hf, hu => by omega
 | f + 1, f' + 1, u, u', ts, hf, hu => by
  intro v t rest e
  rw [unitGo_item] at e
  cases ts with
  | nil => rw [if_pos (.inl rfl)] at e; cases e
  | cons t1 ts =>
   rw [unitGo_item, isW_cons]
   by_cases hc : inside = true ∧ isW (t1 :: ts) [[125]] = true
   ·rw [if_pos (.inr hc)] at e
    rw [if_pos (.inr hc)]
    cases e
    exact ⟨u', hu, rfl⟩
   ·rw [if_neg (by simp [hc])] at e
    rw [if_neg (by simp [hc])]
    have hi := item_stb (inside := inside) (d := d) hm h hu t1 ts
    cases hx : itemGo inside d un u (t1 :: ts) with
    | err r e' => rw [hx] at e; cases e
    | ok w ts1 =>
     rw [hx, R.bind_ok] at e
     obtain ⟨w', g1, g2⟩ := hi w ts1 hx
     rw [g2, R.bind_ok]
     exact unitGo_stw hm h f f' w w' ts1 (by omega) g1 v t rest e
theorem unitD_stw (hm : Good m) : ∀ d ts, Stw erUn m (unitD d ts) (unitD d (ts ++ m))
 | 0, ts => unitGo_stw hm (fun ts v t rest e => by cases e) _ _ _ _ ts (by rw [List.length_append]; omega) rfl
 | d + 1, ts => unitGo_stw hm (unitD_stw hm d) _ _ _ _ ts (by rw [List.length_append]; omega) rfl
theorem unitGo_more (hm : Good m) {d : Nat} {un : Ts → R Un} (h : ∀ ts, Stw erUn m (un ts) (un (ts ++ m))) : ∀ (f f' : Nat) (u u' v : Un) (ts : Ts), f ≤ f' → erUn u' = erUn u → unitGo false d un f u ts = .ok v [] → ∃ f'' v', f' + 1 ≤ f'' + f ∧ erUn v' = erUn v ∧ unitGo false d un f' u' (ts ++ m) = unitGo false d un f'' v' m
 | 0, f', u, u', v, ts, hf, hu, e => by obtain ⟨a1, a2, a3, a4, a5, a6⟩ := u; cases e
 | f + 1, 0, u, u', v, ts, hf, hu, e => by omega
 | f + 1, f' + 1, u, u', v, ts, hf, hu, e => by
  rw [unitGo_item] at e
  cases ts with
  | nil =>
   rw [if_pos (.inl rfl)] at e
   cases e
   exact ⟨f' + 1, u', by omega, hu, rfl⟩
  | cons t1 ts =>
   rw [unitGo_item, if_neg (by simp)]
   rw [if_neg (by simp)] at e
   have hi := item_stb (inside := false) (d := d) hm h hu t1 ts
   cases hx : itemGo false d un u (t1 :: ts) with
   | err r e' => rw [hx] at e; cases e
   | ok w ts1 =>
    rw [hx, R.bind_ok] at e
    obtain ⟨w', g1, g2⟩ := hi w ts1 hx
    rw [g2, R.bind_ok]
    obtain ⟨f'', v', k1, k2, k3⟩ := unitGo_more hm h f f' w w' v ts1 (by omega) g1 e
    exact ⟨f'', v', by omega, k2, k3⟩
def Un.app : Un → Un → Un
 | .mk a1 a2 a3 a4 a5 a6, .mk b1 b2 b3 b4 b5 b6 => .mk (a1 ++ b1) (a2 ++ b2) (a3 ++ b3) (a4 ++ b4) (a5 ++ b5) (a6 ++ b6)
def Un.le : Un → Un → Prop
 | .mk a1 a2 a3 a4 a5 a6, .mk b1 b2 b3 b4 b5 b6 => a1.length ≤ b1.length ∧ a2.length ≤ b2.length ∧ a3.length ≤ b3.length ∧ a4.length ≤ b4.length ∧ a5.length ≤ b5.length ∧ a6.length ≤ b6.length
theorem Un.le_refl : ∀ u : Un, Un.le u u | .mk .. => ⟨Nat.le_refl _, Nat.le_refl _, Nat.le_refl _, Nat.le_refl _, Nat.le_refl _, Nat.le_refl _⟩
theorem Un.le_trans : ∀ {u v w : Un}, Un.le u v → Un.le v w → Un.le u w
 | .mk .., .mk .., .mk .., ⟨h1, h2, h3, h4, h5, h6⟩, ⟨k1, k2, k3, k4, k5, k6⟩ => ⟨by omega, by omega, by omega, by omega, by omega, by omega⟩
def Un.room : Un → Un → Prop
 | .mk a1 a2 a3 a4 a5 a6, .mk b1 b2 b3 b4 b5 b6 => a1.length + b1.length ≤ 256 ∧ a2.length + b2.length ≤ 256 ∧ a3.length + b3.length ≤ 1024 ∧ a4.length + b4.length ≤ 64 ∧ a5.length + b5.length ≤ 256 ∧ a6.length + b6.length ≤ 256
theorem R.bind_of {α β : Type} {x : R α} {f : α → Ts → R β} {v : β} {ts : Ts} (h : x.bind f = .ok v ts) : ∃ a ts1, x = .ok a ts1 ∧ f a ts1 = .ok v ts := by
 cases x with
 | ok a ts1 => exact ⟨a, ts1, rfl, h⟩
 | err r e => cases h
theorem item_le {inside : Bool} {d : Nat} {un : Ts → R Un} {u v : Un} {ts ts1 : Ts} (h : itemGo inside d un u ts = .ok v ts1) : Un.le u v := by
 obtain ⟨a1, a2, a3, a4, a5, a6⟩ := u
 rw [itemGo] at h
 repeat' split at h
 all_goals first
  | (cases h; done)
  | (obtain ⟨x, ts2, _, h⟩ := R.bind_of h; cases h; simp [Un.le])
theorem unitGo_le {inside : Bool} {d : Nat} {un : Ts → R Un} : ∀ (f : Nat) (u v : Un) (ts ts1 : Ts), unitGo inside d un f u ts = .ok v ts1 → Un.le u v
 | 0, u, v, ts, ts1, h => by obtain ⟨a1, a2, a3, a4, a5, a6⟩ := u; cases h
 | f + 1, u, v, ts, ts1, h => by
  rw [unitGo_item] at h
  split at h
  ·cases h; exact Un.le_refl _
  ·obtain ⟨w, ts2, h1, h2⟩ := R.bind_of h
   exact Un.le_trans (item_le h1) (unitGo_le f _ _ _ _ h2)
theorem item_app {inside : Bool} {d : Nat} {un : Ts → R Un} (a u v : Un) (ts ts1 : Ts) (hr : Un.room a v) (h : itemGo inside d un u ts = .ok v ts1) : itemGo inside d un (a.app u) ts = .ok (a.app v) ts1 := by
 obtain ⟨a1, a2, a3, a4, a5, a6⟩ := a
 obtain ⟨b1, b2, b3, b4, b5, b6⟩ := u
 simp only [Un.app]
 rw [itemGo] at h ⊢
 by_cases c1 : isW ts [[116, 121, 112, 101]] = true
 ·rw [if_pos c1] at h ⊢
  by_cases k : b1.length = 256
  ·rw [if_pos k] at h; cases h
  ·rw [if_neg k] at h
   obtain ⟨x, ts2, h1, h2⟩ := R.bind_of h
   cases h2
   simp only [Un.room, List.length_append, List.length_cons, List.length_nil] at hr
   rw [if_neg (by rw [List.length_append]; omega), h1, R.bind_ok]; simp [Un.app]
 rw [if_neg c1] at h ⊢
 by_cases c2 : isW ts [[100, 101, 99, 108]] = true
 ·rw [if_pos c2] at h ⊢
  by_cases k : b2.length = 256
  ·rw [if_pos k] at h; cases h
  ·rw [if_neg k] at h
   obtain ⟨x, ts2, h1, h2⟩ := R.bind_of h
   cases h2
   simp only [Un.room, List.length_append, List.length_cons, List.length_nil] at hr
   rw [if_neg (by rw [List.length_append]; omega), h1, R.bind_ok]; simp [Un.app]
 rw [if_neg c2] at h ⊢
 by_cases c3 : isW ts [[99, 111, 109, 112]] = true
 ·rw [if_pos c3] at h ⊢
  by_cases k : b4.length = 64
  ·rw [if_pos k] at h; cases h
  ·rw [if_neg k] at h
   obtain ⟨x, ts2, h1, h2⟩ := R.bind_of h
   cases h2
   simp only [Un.room, List.length_append, List.length_cons, List.length_nil] at hr
   rw [if_neg (by rw [List.length_append]; omega), h1, R.bind_ok]; simp [Un.app]
 rw [if_neg c3] at h ⊢
 by_cases c4 : isW ts [[105, 110, 105, 116]] = true
 ·rw [if_pos c4] at h ⊢
  by_cases k : b5.length = 256
  ·rw [if_pos k] at h; cases h
  ·rw [if_neg k] at h
   obtain ⟨x, ts2, h1, h2⟩ := R.bind_of h
   cases h2
   simp only [Un.room, List.length_append, List.length_cons, List.length_nil] at hr
   rw [if_neg (by rw [List.length_append]; omega), h1, R.bind_ok]; simp [Un.app]
 rw [if_neg c4] at h ⊢
 by_cases c5 : isW ts [[111, 118, 101, 114, 114, 105, 100, 101]] = true
 ·rw [if_pos c5] at h ⊢
  by_cases k : b6.length = 256
  ·rw [if_pos k] at h; cases h
  ·rw [if_neg k] at h
   obtain ⟨x, ts2, h1, h2⟩ := R.bind_of h
   cases h2
   simp only [Un.room, List.length_append, List.length_cons, List.length_nil] at hr
   rw [if_neg (by rw [List.length_append]; omega), h1, R.bind_ok]; simp [Un.app]
 rw [if_neg c5] at h ⊢
 by_cases c6 : namedF ts = true
 ·rw [if_pos c6] at h ⊢
  by_cases k : b3.length = 1024
  ·rw [if_pos k] at h; cases h
  ·rw [if_neg k] at h
   obtain ⟨x, ts2, h1, h2⟩ := R.bind_of h
   cases h2
   simp only [Un.room, List.length_append, List.length_cons, List.length_nil] at hr
   rw [if_neg (by rw [List.length_append]; omega), h1, R.bind_ok]; simp [Un.app]
 rw [if_neg c6] at h; cases h
theorem Un.room_le {a v w : Un} (h : Un.le v w) (hr : Un.room a w) : Un.room a v := by
 obtain ⟨a1, a2, a3, a4, a5, a6⟩ := a
 obtain ⟨b1, b2, b3, b4, b5, b6⟩ := v
 obtain ⟨c1, c2, c3, c4, c5, c6⟩ := w
 simp only [Un.le, Un.room] at *
 omega
theorem unitGo_app {d : Nat} {un : Ts → R Un} (a : Un) : ∀ (f f' : Nat) (u v : Un) (ts ts1 : Ts), f ≤ f' → Un.room a v → unitGo false d un f u ts = .ok v ts1 → unitGo false d un f' (a.app u) ts = .ok (a.app v) ts1
 | 0, f', u, v, ts, ts1, hf, hr, h => by obtain ⟨a1, a2, a3, a4, a5, a6⟩ := u; cases h
 | f + 1, 0, u, v, ts, ts1, hf, hr, h => by omega
 | f + 1, f' + 1, u, v, ts, ts1, hf, hr, h => by
  rw [unitGo_item] at h ⊢
  by_cases hc : ts = [] ∨ (false = true ∧ isW ts [[125]] = true)
  ·rw [if_pos hc] at h ⊢; cases h; rfl
  ·rw [if_neg hc] at h ⊢
   obtain ⟨w, ts2, h1, h2⟩ := R.bind_of h
   rw [item_app a u w ts ts2 (Un.room_le (unitGo_le f _ _ _ _ h2) hr) h1, R.bind_ok]
   exact unitGo_app a f f' w v ts2 ts1 (by omega) hr h2
theorem Un.app_nil : ∀ a : Un, a.app .nil = a | .mk .. => by simp [Un.app, Un.nil]
theorem erUn_app (a b : Un) : erUn (a.app b) = (erUn a).app (erUn b) := by
 obtain ⟨a1, a2, a3, a4, a5, a6⟩ := a
 obtain ⟨b1, b2, b3, b4, b5, b6⟩ := b
 simp [Un.app, erUn, erCos_eq]
theorem room_er {a b v : Un} (h : erUn a = erUn b) (hr : Un.room b v) : Un.room a v := by
 obtain ⟨a1, a2, a3, a4, a5, a6⟩ := a
 obtain ⟨b1, b2, b3, b4, b5, b6⟩ := b
 obtain ⟨c1, c2, c3, c4, c5, c6⟩ := v
 simp only [erUn, erCos_eq, Un.mk.injEq] at h
 obtain ⟨e1, e2, e3, e4, e5, e6⟩ := h
 have l1 : a1.length = b1.length := by simpa using congrArg List.length e1
 have l2 : a2.length = b2.length := by simpa using congrArg List.length e2
 have l3 : a3.length = b3.length := by simpa using congrArg List.length e3
 have l4 : a4.length = b4.length := by simpa using congrArg List.length e4
 have l5 : a5.length = b5.length := by simpa using congrArg List.length e5
 have l6 : a6.length = b6.length := by simpa using congrArg List.length e6
 simp only [Un.room] at hr ⊢
 omega
theorem unitTop_rows {ts m : Ts} {u v : Un} (hm : Good m) (h1 : unitTop ts = .ok u []) (h2 : unitTop m = .ok v []) (hr : Un.room u v) : ∃ w, unitTop (ts ++ m) = .ok w [] ∧ erUn w = erUn (u.app v) := by
 unfold unitTop unitF at h1 h2 ⊢
 obtain ⟨f'', v', k1, k2, k3⟩ := unitGo_more hm (unitD_stw hm 63) _ ((ts ++ m).length + 1) .nil .nil u ts (by rw [List.length_append]; omega) rfl h1
 rw [List.length_append] at k1
 refine ⟨v'.app v, ?_, ?_⟩
 ·rw [k3]
  have := unitGo_app v' _ f'' .nil v m [] (by omega) (room_er k2 hr) h2
  rwa [Un.app_nil] at this
 ·rw [erUn_app, erUn_app, k2]
end Go.PM.Lex
end

section
set_option maxRecDepth 100000
set_option maxHeartbeats 4000000
namespace Go.PM.Lex
open Go.Proofs
variable {w0 : World} {nG : Nat}
def allS {α : Type} (f : α → α → Bool) : List α → List α → Bool
 | [], [] => true
 | x :: l, y :: m => f x y && allS f l m
 | _, _ => false
theorem allS_ne {α : Type} (f : α → α → Bool) : ∀ (l m : List α), l.length ≠ m.length → allS f l m = false
 | [], [], h => absurd rfl h
 | [], _ :: _, _ => rfl
 | _ :: _, [], _ => rfl
 | x :: l, y :: m, h => by rw [allS, allS_ne f l m (by simpa using h), Bool.and_false]
theorem allS_drop {α : Type} (f : α → α → Bool) {l m : List α} {i : Nat} (h1 : i < l.length) (h2 : i < m.length) : allS f (l.drop i) (m.drop i) = (f l[i] m[i] && allS f (l.drop (i + 1)) (m.drop (i + 1))) := by
 rw [List.drop_eq_getElem_cons h1, List.drop_eq_getElem_cons h2, allS]
theorem allS_end {α : Type} (f : α → α → Bool) {l m : List α} {i : Nat} (h1 : l.length ≤ i) (h2 : m.length ≤ i) : allS f (l.drop i) (m.drop i) = true := by
 rw [List.drop_eq_nil_of_le h1, List.drop_eq_nil_of_le h2]; rfl
def szS {α : Type} (f : α → Nat) : List α → Nat
 | [] => 0
 | x :: l => 1 + f x + szS f l
theorem szS_len {α : Type} (f : α → Nat) : ∀ (l : List α), l.length ≤ szS f l
 | [] => Nat.le_refl _
 | x :: l => by have := szS_len f l; simp only [List.length_cons, szS]; omega
theorem szS_get {α : Type} (f : α → Nat) : ∀ (l : List α) (i : Nat) (h : i < l.length), f l[i] < szS f l
 | x :: l, 0, h => by simp only [List.getElem_cons_zero, szS]; omega
 | x :: l, i + 1, h => by have := szS_get f l i (by simpa using h); simp only [List.getElem_cons_succ, szS]; omega
theorem sameEs_eq : ∀ (l m : List Ex), sameEs l m = allS sameE l m
 | [], [] => rfl
 | [], _ :: _ => by rw [sameEs, allS] <;> simp
 | _ :: _, [] => by rw [sameEs, allS] <;> simp
 | x :: l, y :: m => by rw [sameEs, allS, sameEs_eq l m]
theorem szEs_eq : ∀ (l : List Ex), szEs l = szS szE l
 | [] => rfl
 | x :: l => by rw [szEs, szS, szEs_eq l]
def eqB (a b : Bs) : Bool := decide (a = b)
mutual
def sameL : Li → Li → Bool
 | .mk o1 r1 a1 b1 _, .mk o2 r2 a2 b2 _ => decide ((o1 : Int) = o2) && (decide (r1 = r2) && (allS sameE a1 a2 && sameLs b1 b2))
def sameLs : List Li → List Li → Bool
 | [], [] => true
 | x :: l, y :: m => sameL x y && sameLs l m
 | _, _ => false
end
theorem sameLs_eq : ∀ (l m : List Li), sameLs l m = allS sameL l m
 | [], [] => by rw [sameLs, allS]
 | [], _ :: _ => by rw [sameLs, allS] <;> simp
 | _ :: _, [] => by rw [sameLs, allS] <;> simp
 | x :: l, y :: m => by rw [sameLs, allS, sameLs_eq l m]
mutual
def szL : Li → Nat
 | .mk _ _ a b _ => 1 + szS szE a + szLs b
def szLs : List Li → Nat
 | [] => 0
 | x :: l => 1 + szL x + szLs l
end
theorem szLs_eq : ∀ (l : List Li), szLs l = szS szL l
 | [] => by rw [szLs, szS]
 | x :: l => by rw [szLs, szS, szLs_eq l]
def sameFi (f g : Fi) : Bool := decide (f.name = g.name) && (decide (f.typ = g.typ) && true)
def sameRu (r s : Ru) : Bool := decide (r.head = s.head) && (allS sameE r.args s.args && allS sameL r.body s.body)
def szRu (r : Ru) : Nat := 1 + szS szE r.args + szS szL r.body
def sz0 {α : Type} (_ : α) : Nat := 0
def sameCa (c d : Ca) : Bool := decide (c.name = d.name) && allS sameFi c.fields d.fields
def szCa (c : Ca) : Nat := 1 + szS sz0 c.fields
def sameTy (a b : Ty) : Bool := decide ((a.kind : Int) = b.kind) && (decide (a.name = b.name) && (decide (a.base = b.base) && (allS sameFi a.fields b.fields && allS sameCa a.cases b.cases)))
def szTy (a : Ty) : Nat := 1 + szS sz0 a.fields + szS szCa a.cases
def sameRe (a b : Re) : Bool := decide (a.name = b.name) && (decide (a.inn = b.inn) && (decide (a.out = b.out) && (decide (a.inl = b.inl) && allS sameFi a.fields b.fields)))
def szRe (a : Re) : Nat := 1 + szS sz0 a.fields
def sameIn (a b : Ini) : Bool := decide (a.name = b.name) && (decide (a.comp = b.comp) && allS eqB a.types b.types)
def szIn (a : Ini) : Nat := 1 + szS sz0 a.types
def sameOv (a b : Ov) : Bool := decide (a.rel = b.rel)
mutual
def sameUn : Un → Un → Bool
 | .mk a1 a2 a3 a4 a5 a6, .mk b1 b2 b3 b4 b5 b6 => allS sameTy a1 b1 && (allS sameRe a2 b2 && (allS sameRu a3 b3 && (sameCos a4 b4 && (allS sameIn a5 b5 && allS sameOv a6 b6))))
def sameCo : Co → Co → Bool
 | .mk n1 p1 b1 t1 u1 _, .mk n2 p2 b2 t2 u2 _ => decide (n1 = n2) && (decide (b1 = b2) && (allS eqB p1 p2 && (allS eqB t1 t2 && sameUn u1 u2)))
def sameCos : List Co → List Co → Bool
 | [], [] => true
 | x :: l, y :: m => sameCo x y && sameCos l m
 | _, _ => false
end
theorem sameCos_eq : ∀ (l m : List Co), sameCos l m = allS sameCo l m
 | [], [] => by rw [sameCos, allS]
 | [], _ :: _ => by rw [sameCos, allS] <;> simp
 | _ :: _, [] => by rw [sameCos, allS] <;> simp
 | x :: l, y :: m => by rw [sameCos, allS, sameCos_eq l m]
mutual
def szUn : Un → Nat
 | .mk a1 a2 a3 a4 a5 a6 => 1 + szS szTy a1 + szS szRe a2 + szS szRu a3 + szCos a4 + szS szIn a5 + szS sz0 a6
def szCo : Co → Nat
 | .mk _ p _ t u _ => 1 + szS sz0 p + szS sz0 t + szUn u
def szCos : List Co → Nat
 | [] => 0
 | x :: l => 1 + szCo x + szCos l
end
theorem szCos_eq : ∀ (l : List Co), szCos l = szS szCo l
 | [] => by rw [szCos, szS]
 | x :: l => by rw [szCos, szS, szCos_eq l]
noncomputable def spLS {α : Type} (enc : Pl → α → List D) (f : α → α → Bool) (sz : α → Nat) (n : Nat) : Spec := fun args σ K => match args, σ with
 | [.d (.sl r1), .d (.sl r2), .d (.bool at')], ⟨[], [], 0⟩ => ∃ pl1 l1 pl2 l2, r1 = l1.map (enc pl1) ∧ r2 = l2.map (enc pl2) ∧ (at' = false ∧ szS sz l1 ≤ n ∧ n ≤ 1099511627776) ∧ ∀ b, allS f l1 l2 = b → K (.ret (.d (.bool b))) ⟨[], [], 0⟩
 | _, _ => False
theorem spLS_mono {α : Type} (enc : Pl → α → List D) (f : α → α → Bool) (sz : α → Nat) (n : Nat) : SpecMono (spLS enc f sz n) := fun args σ K K' hK h => by
 unfold spLS at h ⊢
 split at h
 ·obtain ⟨p1, l1, p2, l2, h1, h2, h3, h4⟩ := h
  exact ⟨p1, l1, p2, l2, h1, h2, h3, fun b hb => hK _ _ (h4 b hb)⟩
 ·exact h.elim
noncomputable def spL2 {α : Type} (enc : α → List D) (f : α → α → Bool) (n : Nat) : Spec := fun args σ K => match args, σ with
 | [.d (.sl r1), .d (.sl r2)], ⟨[], [], 0⟩ => ∃ l1 l2, r1 = l1.map enc ∧ r2 = l2.map enc ∧ (szS (sz0 (α := α)) l1 ≤ n ∧ n ≤ 1099511627776) ∧ ∀ b, allS f l1 l2 = b → K (.ret (.d (.bool b))) ⟨[], [], 0⟩
 | _, _ => False
theorem spL2_mono {α : Type} (enc : α → List D) (f : α → α → Bool) (n : Nat) : SpecMono (spL2 enc f n) := fun args σ K K' hK h => by
 unfold spL2 at h ⊢
 split at h
 ·obtain ⟨l1, l2, h1, h2, h3, h4⟩ := h
  exact ⟨l1, l2, h1, h2, h3, fun b hb => hK _ _ (h4 b hb)⟩
 ·exact h.elim
def spB (sp : Nat → Spec) (n : Nat) : Spec := fun args σ K => 0 < n ∧ sp (n - 1) args σ K
theorem spB_mono {sp : Nat → Spec} (h : ∀ n, SpecMono (sp n)) (n : Nat) : SpecMono (spB sp n) := fun args σ K K' hK g => ⟨g.1, h _ _ _ _ _ hK g.2⟩
theorem pcalls_none {g : FuncId} {sp : Nat → Spec} (h : Enters (GG w0 nG).P g) : PCalls (GG w0 nG) g (spB sp 0) := ⟨h, fun args σ K hs => absurd hs.1 (by omega)⟩
theorem pcalls_less {g : FuncId} {sp : Nat → Spec} {n : Nat} (h : PCalls (GG w0 nG) g (sp n)) : PCalls (GG w0 nG) g (spB sp (n + 1)) := h.weaken1 fun args σ K hs => hs.2
theorem cSameEs (n : Nat) : PCalls (GG w0 nG) 54 (spLS encE sameE szE n) := (cSame n).2.weaken1 fun args σ K hs => by
 unfold spLS at hs
 unfold spSameEs
 split at hs
 ·obtain ⟨p1, l1, p2, l2, rfl, rfl, ⟨h1, h2, h3⟩, h4⟩ := hs
  exact ⟨p1, l1, p2, l2, (encEs_eq _ _).symm, (encEs_eq _ _).symm, ⟨h1, by rw [szEs_eq]; exact h2, h3⟩, fun b hb => h4 b (by rw [← sameEs_eq]; exact hb)⟩
 ·exact hs.elim
theorem kFields_ok {n : Nat}  : PCalls (GG w0 nG) 100 (spL2 encFi sameFi n) := by
 refine pcalls tab_ok mixed (tbl := []) trivial Tryz.func100 rfl (by kernel_rfl) (by kernel_rfl) ?_
 intro args σ K h
 unfold spL2 at h
 split at h
 ·obtain ⟨l1, l2, rfl, rfl, ⟨hz, hn⟩, h⟩ := h
  have h := h _ rfl
  have hlen1 : (l1.map encFi).length = l1.length := List.length_map ..
  have hlen2 : (l2.map encFi).length = l2.length := List.length_map ..
  have hsz := szS_len sz0 l1
  refine ⟨loopsOf [(4, ⟨[5], [0, 1], fun vs σ => ∃ i : Nat, vs = [.d (.int .i64 i)] ∧ σ = ⟨[], [], 0⟩ ∧ i ≤ l1.length ∧ allS sameFi l1 l2 = allS sameFi (l1.drop i) (l2.drop i), fun vs _ => match vs with | [.d (.int _ i)] => ((l1.length : Int) - i).toNat | _ => 0⟩)], 0, false, by simp, Nat.le_of_ble_eq_true rfl, ?_⟩
  conv => whnf
  refine CondP.ndec (fun hc => ?_) (fun hc => ?_)
  ·have hc : l1.length ≠ l2.length := fun g => hc (by show ((l1.map encFi).length : Int) = (l2.map encFi).length; rw [hlen1, hlen2, g])
   rw [allS_ne _ _ _ hc] at h
   conv => whnf
   exact h
  have hc : l1.length = l2.length := by have hc : ((l1.map encFi).length : Int) = (l2.map encFi).length := hc; rw [hlen1, hlen2] at hc; omega
  conv => whnf
  refine ⟨⟨0, rfl, rfl, by omega, rfl⟩, ?_⟩
  intro vs σ hI
  obtain ⟨i, rfl, rfl, hi, hs⟩ := hI
  conv => whnf
  refine CondP.dec (fun hi2 => ?_) (fun hi2 => ?_)
  rotate_left
  ·have hi2 : l1.length ≤ i := by have hi2 : ¬ (i : Int) < (l1.map encFi).length := hi2; rw [hlen1] at hi2; omega
   rw [allS_end _ hi2 (by omega)] at hs
   rw [hs] at h
   conv => whnf
   exact h
  have hi2 : i < l1.length := by have hi2 : (i : Int) < (l1.map encFi).length := hi2; rw [hlen1] at hi2; omega
  have hi3 : i < l2.length := by omega
  have hg := szS_get sz0 l1 i hi2
  rw [allS_drop _ hi2 hi3] at hs
  obtain ⟨eA, hA⟩ : ∃ e, l1[i] = e := ⟨_, rfl⟩
  obtain ⟨eB, hB⟩ : ∃ e, l2[i] = e := ⟨_, rfl⟩
  obtain ⟨a1, a2⟩ := eA
  obtain ⟨b1, b2⟩ := eB
  have hr1 : (l1.map encFi)[((i : Nat) : Int).toNat]? = some (encFi (⟨a1, a2⟩ : Fi)) := by simp [hi2, hA]
  have hr2 : (l2.map encFi)[((i : Nat) : Int).toNat]? = some (encFi (⟨b1, b2⟩ : Fi)) := by simp [hi3, hB]
  rw [hA, hB] at hs
  have hneg : sameFi (⟨a1, a2⟩ : Fi) (⟨b1, b2⟩ : Fi) = false → K (.ret (.d (.bool false))) ⟨[], [], 0⟩ := fun he => by rw [hs, he, Bool.false_and] at h; exact h
  conv => whnf
  (repeat (first | (refine ⟨_, by omega, hr1, ?_⟩; conv => whnf) | (refine ⟨_, by omega, hr2, ?_⟩; conv => whnf)))
  refine CondP.intro (fun hc1 => ?_) (fun hc1 => ?_)
  ·(conv => whnf); exact hneg ((Bool.not_eq_true' _).mp hc1)
  conv => whnf
  have he : sameFi (⟨a1, a2⟩ : Fi) (⟨b1, b2⟩ : Fi) = true := (Bool.not_eq_false' _).mp hc1
  rw [he, Bool.true_and] at hs
  refine Or.inl ⟨InR.i64 (by omega) (by omega), ?_⟩
  conv => whnf
  refine ⟨⟨i + 1, rfl, rfl, by omega, hs⟩, ?_⟩
  show ((l1.length : Int) - ((i : Int) + 1)).toNat < ((l1.length : Int) - (i : Int)).toNat
  omega
 ·exact h.elim
theorem kTexts_ok {n : Nat}  : PCalls (GG w0 nG) 45 (spL2 encBs eqB n) := by
 refine pcalls tab_ok mixed (tbl := []) trivial Tryz.func45 rfl (by kernel_rfl) (by kernel_rfl) ?_
 intro args σ K h
 unfold spL2 at h
 split at h
 ·obtain ⟨l1, l2, rfl, rfl, ⟨hz, hn⟩, h⟩ := h
  have h := h _ rfl
  have hlen1 : (l1.map encBs).length = l1.length := List.length_map ..
  have hlen2 : (l2.map encBs).length = l2.length := List.length_map ..
  have hsz := szS_len sz0 l1
  refine ⟨loopsOf [(4, ⟨[5], [0, 1], fun vs σ => ∃ i : Nat, vs = [.d (.int .i64 i)] ∧ σ = ⟨[], [], 0⟩ ∧ i ≤ l1.length ∧ allS eqB l1 l2 = allS eqB (l1.drop i) (l2.drop i), fun vs _ => match vs with | [.d (.int _ i)] => ((l1.length : Int) - i).toNat | _ => 0⟩)], 0, false, by simp, Nat.le_of_ble_eq_true rfl, ?_⟩
  conv => whnf
  refine CondP.ndec (fun hc => ?_) (fun hc => ?_)
  ·have hc : l1.length ≠ l2.length := fun g => hc (by show ((l1.map encBs).length : Int) = (l2.map encBs).length; rw [hlen1, hlen2, g])
   rw [allS_ne _ _ _ hc] at h
   conv => whnf
   exact h
  have hc : l1.length = l2.length := by have hc : ((l1.map encBs).length : Int) = (l2.map encBs).length := hc; rw [hlen1, hlen2] at hc; omega
  conv => whnf
  refine ⟨⟨0, rfl, rfl, by omega, rfl⟩, ?_⟩
  intro vs σ hI
  obtain ⟨i, rfl, rfl, hi, hs⟩ := hI
  conv => whnf
  refine CondP.dec (fun hi2 => ?_) (fun hi2 => ?_)
  rotate_left
  ·have hi2 : l1.length ≤ i := by have hi2 : ¬ (i : Int) < (l1.map encBs).length := hi2; rw [hlen1] at hi2; omega
   rw [allS_end _ hi2 (by omega)] at hs
   rw [hs] at h
   conv => whnf
   exact h
  have hi2 : i < l1.length := by have hi2 : (i : Int) < (l1.map encBs).length := hi2; rw [hlen1] at hi2; omega
  have hi3 : i < l2.length := by omega
  have hg := szS_get sz0 l1 i hi2
  rw [allS_drop _ hi2 hi3] at hs
  have hr1 : (l1.map encBs)[((i : Nat) : Int).toNat]? = some (encBs l1[i]) := by simp [hi2]
  have hr2 : (l2.map encBs)[((i : Nat) : Int).toNat]? = some (encBs l2[i]) := by simp [hi3]
  obtain ⟨eA, hA⟩ : ∃ e, l1[i] = e := ⟨_, rfl⟩
  obtain ⟨eB, hB⟩ : ∃ e, l2[i] = e := ⟨_, rfl⟩
  rw [hA] at hr1
  rw [hB] at hr2
  rw [hA, hB] at hs
  have hneg : eqB eA eB = false → K (.ret (.d (.bool false))) ⟨[], [], 0⟩ := fun he => by rw [hs, he, Bool.false_and] at h; exact h
  conv => whnf
  (repeat (first | (refine ⟨_, by omega, hr1, ?_⟩; conv => whnf) | (refine ⟨_, by omega, hr2, ?_⟩; conv => whnf)))
  refine CondP.ndec (fun hc1 => ?_) (fun hc1 => ?_)
  ·(conv => whnf); exact hneg (by simp [eqB, hc1])
  (try dsimp only at hc1)
  conv => whnf
  have he : eqB eA eB = true := by simp [eqB, hc1]
  rw [he, Bool.true_and] at hs
  refine Or.inl ⟨InR.i64 (by omega) (by omega), ?_⟩
  conv => whnf
  refine ⟨⟨i + 1, rfl, rfl, by omega, hs⟩, ?_⟩
  show ((l1.length : Int) - ((i : Int) + 1)).toNat < ((l1.length : Int) - (i : Int)).toNat
  omega
 ·exact h.elim
noncomputable def tblkLits (n : Nat) : Tbl := [(54, spLS encE sameE szE n), (101, spB (spLS encL sameL szL) n)]
theorem kLits_ok {n : Nat} (ht : TblOK (GG w0 nG) (tblkLits n)) : PCalls (GG w0 nG) 101 (spLS encL sameL szL n) := by
 refine pcalls tab_ok mixed (tbl := (tblkLits n)) ht Tryz.func101 rfl (by kernel_rfl) (by kernel_rfl) ?_
 intro args σ K h
 unfold spLS at h
 split at h
 ·obtain ⟨p1, l1, p2, l2, rfl, rfl, ⟨rfl, hz, hn⟩, h⟩ := h
  have h := h _ rfl
  have hlen1 : (l1.map (encL p1)).length = l1.length := List.length_map ..
  have hlen2 : (l2.map (encL p2)).length = l2.length := List.length_map ..
  have hsz := szS_len szL l1
  refine ⟨loopsOf [(4, ⟨[7], [0, 1, 2], fun vs σ => ∃ i : Nat, vs = [.d (.int .i64 i)] ∧ σ = ⟨[], [], 0⟩ ∧ i ≤ l1.length ∧ allS sameL l1 l2 = allS sameL (l1.drop i) (l2.drop i), fun vs _ => match vs with | [.d (.int _ i)] => ((l1.length : Int) - i).toNat | _ => 0⟩)], 0, false, by simp, Nat.le_of_ble_eq_true rfl, ?_⟩
  conv => whnf
  refine CondP.ndec (fun hc => ?_) (fun hc => ?_)
  ·have hc : l1.length ≠ l2.length := fun g => hc (by show ((l1.map (encL p1)).length : Int) = (l2.map (encL p2)).length; rw [hlen1, hlen2, g])
   rw [allS_ne _ _ _ hc] at h
   conv => whnf
   exact h
  have hc : l1.length = l2.length := by have hc : ((l1.map (encL p1)).length : Int) = (l2.map (encL p2)).length := hc; rw [hlen1, hlen2] at hc; omega
  conv => whnf
  refine ⟨⟨0, rfl, rfl, by omega, rfl⟩, ?_⟩
  intro vs σ hI
  obtain ⟨i, rfl, rfl, hi, hs⟩ := hI
  conv => whnf
  refine CondP.dec (fun hi2 => ?_) (fun hi2 => ?_)
  rotate_left
  ·have hi2 : l1.length ≤ i := by have hi2 : ¬ (i : Int) < (l1.map (encL p1)).length := hi2; rw [hlen1] at hi2; omega
   rw [allS_end _ hi2 (by omega)] at hs
   rw [hs] at h
   conv => whnf
   exact h
  have hi2 : i < l1.length := by have hi2 : (i : Int) < (l1.map (encL p1)).length := hi2; rw [hlen1] at hi2; omega
  have hi3 : i < l2.length := by omega
  have hg := szS_get szL l1 i hi2
  rw [allS_drop _ hi2 hi3] at hs
  obtain ⟨eA, hA⟩ : ∃ e, l1[i] = e := ⟨_, rfl⟩
  obtain ⟨eB, hB⟩ : ∃ e, l2[i] = e := ⟨_, rfl⟩
  obtain ⟨a1, a2, a3, a4, a5⟩ := eA
  obtain ⟨b1, b2, b3, b4, b5⟩ := eB
  have hr1 : (l1.map (encL p1))[((i : Nat) : Int).toNat]? = some ((encL p1) (.mk a1 a2 a3 a4 a5)) := by simp [hi2, hA]
  have hr2 : (l2.map (encL p2))[((i : Nat) : Int).toNat]? = some ((encL p2) (.mk b1 b2 b3 b4 b5)) := by simp [hi3, hB]
  rw [hA, hB] at hs
  rw [hA] at hg
  simp only [szL, szLs_eq] at hg
  have hneg : sameL (.mk a1 a2 a3 a4 a5) (.mk b1 b2 b3 b4 b5) = false → K (.ret (.d (.bool false))) ⟨[], [], 0⟩ := fun he => by rw [hs, he, Bool.false_and] at h; exact h
  conv => whnf
  (repeat (first | (refine ⟨_, by omega, hr1, ?_⟩; conv => whnf) | (refine ⟨_, by omega, hr2, ?_⟩; conv => whnf)))
  refine CondP.ndec (fun hc1 => ?_) (fun hc1 => ?_)
  ·(conv => whnf); exact hneg (by simp [sameL, sameLs_eq, hc1])
  (try dsimp only at hc1)
  conv => whnf
  (repeat (first | (refine ⟨_, by omega, hr1, ?_⟩; conv => whnf) | (refine ⟨_, by omega, hr2, ?_⟩; conv => whnf)))
  refine CondP.ndec (fun hc2 => ?_) (fun hc2 => ?_)
  ·(conv => whnf); exact hneg (by simp [sameL, sameLs_eq, hc2])
  (try dsimp only at hc2)
  conv => whnf
  (repeat (first | (refine ⟨_, by omega, hr1, ?_⟩; conv => whnf) | (refine ⟨_, by omega, hr2, ?_⟩; conv => whnf)))
  refine ⟨p1, a3, p2, b3, encEs_eq _ _, encEs_eq _ _, ⟨rfl, by omega, by omega⟩, fun b_3 hb3 => ?_⟩
  cases b_3 with
  | false =>
   conv => whnf
   (repeat (refine ⟨rfl, ?_⟩; conv => whnf))
   exact hneg (by simp [sameL, sameLs_eq, hb3])
  | true =>
   conv => whnf
   (repeat (refine ⟨rfl, ?_⟩; conv => whnf))
   (repeat (first | (refine ⟨_, by omega, hr1, ?_⟩; conv => whnf) | (refine ⟨_, by omega, hr2, ?_⟩; conv => whnf)))
   refine ⟨by omega, p1, a4, p2, b4, encLs_eq _ _, encLs_eq _ _, ⟨rfl, by omega, by omega⟩, fun b_4 hb4 => ?_⟩
   cases b_4 with
   | false =>
    conv => whnf
    (repeat (refine ⟨rfl, ?_⟩; conv => whnf))
    exact hneg (by simp [sameL, sameLs_eq, hb4])
   | true =>
    conv => whnf
    (repeat (refine ⟨rfl, ?_⟩; conv => whnf))
    have he : sameL (.mk a1 a2 a3 a4 a5) (.mk b1 b2 b3 b4 b5) = true := by simp [sameL, sameLs_eq, hc1, hc2, hb3, hb4]
    rw [he, Bool.true_and] at hs
    refine Or.inl ⟨InR.i64 (by omega) (by omega), ?_⟩
    conv => whnf
    refine ⟨⟨i + 1, rfl, rfl, by omega, hs⟩, ?_⟩
    show ((l1.length : Int) - ((i : Int) + 1)).toNat < ((l1.length : Int) - (i : Int)).toNat
    omega
 ·exact h.elim
theorem cLits : ∀ n, PCalls (GG w0 nG) 101 (spLS encL sameL szL n)
 | 0 => kLits_ok ⟨⟨cSameEs 0, spLS_mono _ _ _ _⟩, ⟨pcalls_none (enters_of Tryz.func101 (by kernel_rfl) rfl), spB_mono (fun n => spLS_mono _ _ _ n) _⟩, trivial⟩
 | n + 1 => kLits_ok ⟨⟨cSameEs _, spLS_mono _ _ _ _⟩, ⟨pcalls_less (sp := fun n => spLS encL sameL szL n) (cLits n), spB_mono (fun n => spLS_mono _ _ _ n) _⟩, trivial⟩
noncomputable def tblkRules (n : Nat) : Tbl := [(54, spLS encE sameE szE n), (101, spLS encL sameL szL n)]
theorem kRules_ok {n : Nat} (ht : TblOK (GG w0 nG) (tblkRules n)) : PCalls (GG w0 nG) 44 (spLS encRu sameRu szRu n) := by
 refine pcalls tab_ok mixed (tbl := (tblkRules n)) ht Tryz.func44 rfl (by kernel_rfl) (by kernel_rfl) ?_
 intro args σ K h
 unfold spLS at h
 split at h
 ·obtain ⟨p1, l1, p2, l2, rfl, rfl, ⟨rfl, hz, hn⟩, h⟩ := h
  have h := h _ rfl
  have hlen1 : (l1.map (encRu p1)).length = l1.length := List.length_map ..
  have hlen2 : (l2.map (encRu p2)).length = l2.length := List.length_map ..
  have hsz := szS_len szRu l1
  refine ⟨loopsOf [(4, ⟨[7], [0, 1, 2], fun vs σ => ∃ i : Nat, vs = [.d (.int .i64 i)] ∧ σ = ⟨[], [], 0⟩ ∧ i ≤ l1.length ∧ allS sameRu l1 l2 = allS sameRu (l1.drop i) (l2.drop i), fun vs _ => match vs with | [.d (.int _ i)] => ((l1.length : Int) - i).toNat | _ => 0⟩)], 0, false, by simp, Nat.le_of_ble_eq_true rfl, ?_⟩
  conv => whnf
  refine CondP.ndec (fun hc => ?_) (fun hc => ?_)
  ·have hc : l1.length ≠ l2.length := fun g => hc (by show ((l1.map (encRu p1)).length : Int) = (l2.map (encRu p2)).length; rw [hlen1, hlen2, g])
   rw [allS_ne _ _ _ hc] at h
   conv => whnf
   exact h
  have hc : l1.length = l2.length := by have hc : ((l1.map (encRu p1)).length : Int) = (l2.map (encRu p2)).length := hc; rw [hlen1, hlen2] at hc; omega
  conv => whnf
  refine ⟨⟨0, rfl, rfl, by omega, rfl⟩, ?_⟩
  intro vs σ hI
  obtain ⟨i, rfl, rfl, hi, hs⟩ := hI
  conv => whnf
  refine CondP.dec (fun hi2 => ?_) (fun hi2 => ?_)
  rotate_left
  ·have hi2 : l1.length ≤ i := by have hi2 : ¬ (i : Int) < (l1.map (encRu p1)).length := hi2; rw [hlen1] at hi2; omega
   rw [allS_end _ hi2 (by omega)] at hs
   rw [hs] at h
   conv => whnf
   exact h
  have hi2 : i < l1.length := by have hi2 : (i : Int) < (l1.map (encRu p1)).length := hi2; rw [hlen1] at hi2; omega
  have hi3 : i < l2.length := by omega
  have hg := szS_get szRu l1 i hi2
  rw [allS_drop _ hi2 hi3] at hs
  obtain ⟨eA, hA⟩ : ∃ e, l1[i] = e := ⟨_, rfl⟩
  obtain ⟨eB, hB⟩ : ∃ e, l2[i] = e := ⟨_, rfl⟩
  obtain ⟨a1, a2, a3, a4⟩ := eA
  obtain ⟨b1, b2, b3, b4⟩ := eB
  have hr1 : (l1.map (encRu p1))[((i : Nat) : Int).toNat]? = some ((encRu p1) (⟨a1, a2, a3, a4⟩ : Ru)) := by simp [hi2, hA]
  have hr2 : (l2.map (encRu p2))[((i : Nat) : Int).toNat]? = some ((encRu p2) (⟨b1, b2, b3, b4⟩ : Ru)) := by simp [hi3, hB]
  rw [hA, hB] at hs
  rw [hA] at hg
  simp only [szRu] at hg
  have hneg : sameRu (⟨a1, a2, a3, a4⟩ : Ru) (⟨b1, b2, b3, b4⟩ : Ru) = false → K (.ret (.d (.bool false))) ⟨[], [], 0⟩ := fun he => by rw [hs, he, Bool.false_and] at h; exact h
  conv => whnf
  (repeat (first | (refine ⟨_, by omega, hr1, ?_⟩; conv => whnf) | (refine ⟨_, by omega, hr2, ?_⟩; conv => whnf)))
  refine CondP.ndec (fun hc1 => ?_) (fun hc1 => ?_)
  ·(conv => whnf); exact hneg (by simp [sameRu, hc1])
  (try dsimp only at hc1)
  conv => whnf
  (repeat (first | (refine ⟨_, by omega, hr1, ?_⟩; conv => whnf) | (refine ⟨_, by omega, hr2, ?_⟩; conv => whnf)))
  refine ⟨p1, a2, p2, b2, encEs_eq _ _, encEs_eq _ _, ⟨rfl, by omega, by omega⟩, fun b_2 hb2 => ?_⟩
  cases b_2 with
  | false =>
   conv => whnf
   (repeat (refine ⟨rfl, ?_⟩; conv => whnf))
   exact hneg (by simp [sameRu, hb2])
  | true =>
   conv => whnf
   (repeat (refine ⟨rfl, ?_⟩; conv => whnf))
   (repeat (first | (refine ⟨_, by omega, hr1, ?_⟩; conv => whnf) | (refine ⟨_, by omega, hr2, ?_⟩; conv => whnf)))
   refine ⟨p1, a3, p2, b3, encLs_eq _ _, encLs_eq _ _, ⟨rfl, by omega, by omega⟩, fun b_3 hb3 => ?_⟩
   cases b_3 with
   | false =>
    conv => whnf
    (repeat (refine ⟨rfl, ?_⟩; conv => whnf))
    exact hneg (by simp [sameRu, hb3])
   | true =>
    conv => whnf
    (repeat (refine ⟨rfl, ?_⟩; conv => whnf))
    have he : sameRu (⟨a1, a2, a3, a4⟩ : Ru) (⟨b1, b2, b3, b4⟩ : Ru) = true := by simp [sameRu, hc1, hb2, hb3]
    rw [he, Bool.true_and] at hs
    refine Or.inl ⟨InR.i64 (by omega) (by omega), ?_⟩
    conv => whnf
    refine ⟨⟨i + 1, rfl, rfl, by omega, hs⟩, ?_⟩
    show ((l1.length : Int) - ((i : Int) + 1)).toNat < ((l1.length : Int) - (i : Int)).toNat
    omega
 ·exact h.elim
end Go.PM.Lex
end

section
set_option maxRecDepth 100000
namespace Go.PM.Lex
theorem dN_take {n len b0 b1 b2 b3 b1' b2' b3' : Nat} (h1 : 1 < n → b1' = b1) (h2 : 2 < n → b2' = b2) (h3 : 3 < n → b3' = b3) (hn : 1 ≤ n) (hd : (Lib.decodeN len b0 b1 b2 b3).2 ≤ n) :
  Lib.decodeN (min n len) b0 b1' b2' b3' = Lib.decodeN len b0 b1 b2 b3 := by
 rcases Lib.decodeN_shape len b0 b1 b2 b3 with ⟨c, e⟩ | ⟨c1, c2, c3, cv, e⟩ | ⟨c1, c2, c3, c4, cv, cs, e⟩ | ⟨c1, c2, c3, c4, c5, cv, cw, e⟩ | e
 ·rw [e]; unfold Lib.decodeN; rw [if_pos c]
 ·rw [e] at hd ⊢
  simp only at hd
  rw [h1 (by omega)]
  unfold Lib.decodeN
  rw [if_neg (by omega), if_pos ⟨c1, by omega, c3⟩, if_pos (by omega)]
 ·rw [e] at hd ⊢
  simp only at hd
  rw [h1 (by omega), h2 (by omega)]
  unfold Lib.decodeN
  rw [if_neg (by omega), if_neg (by omega), if_pos ⟨c1, ⟨by omega, c3⟩, by omega, c4⟩, if_pos ⟨by omega, by omega⟩]
 ·rw [e] at hd ⊢
  simp only at hd
  rw [h1 (by omega), h2 (by omega), h3 (by omega)]
  unfold Lib.decodeN
  rw [if_neg (by omega), if_neg (by omega), if_neg (by omega), if_pos ⟨c1, ⟨by omega, c3⟩, ⟨by omega, c4⟩, by omega, c5⟩, if_pos ⟨by omega, by omega⟩]
 ·rw [e]
  rcases Lib.decodeN_shape (min n len) b0 b1' b2' b3' with ⟨c, e'⟩ | ⟨c1, c2, c3, cv, e'⟩ | ⟨c1, c2, c3, c4, cv, cs, e'⟩ | ⟨c1, c2, c3, c4, c5, cv, cw, e'⟩ | e'
  ·unfold Lib.decodeN at e; rw [if_pos c] at e; rw [e', ← e]
  ·rw [h1 (by omega)] at c3 cv
   unfold Lib.decodeN at e
   rw [if_neg (by omega), if_pos ⟨c1, by omega, c3⟩, if_pos (by omega)] at e
   simp at e
  ·rw [h1 (by omega), h2 (by omega)] at *
   unfold Lib.decodeN at e
   rw [if_neg (by omega), if_neg (by omega), if_pos ⟨c1, ⟨by omega, c3⟩, by omega, c4⟩, if_pos ⟨by omega, by omega⟩] at e
   simp at e
  ·rw [h1 (by omega), h2 (by omega), h3 (by omega)] at *
   unfold Lib.decodeN at e
   rw [if_neg (by omega), if_neg (by omega), if_neg (by omega), if_pos ⟨c1, ⟨by omega, c3⟩, ⟨by omega, c4⟩, by omega, c5⟩, if_pos ⟨by omega, by omega⟩] at e
   simp at e
  ·exact e'
theorem getD_take (r : Bs) (n k : Nat) : (r.take n).getD k 0 = if k < n then r.getD k 0 else 0 := by
 simp only [List.getD_eq_getElem?_getD, List.getElem?_take]
 split <;> simp
theorem dec_take {r : Bs} {n : Nat} (hn : 1 ≤ n) (hd : (Lib.decodeL r).2 ≤ n) : Lib.decodeL (r.take n) = Lib.decodeL r := by
 rw [Lib.decodeL_N] at hd ⊢
 rw [Lib.decodeL_N, List.length_take, getD_take, getD_take, getD_take, getD_take, if_pos (by omega)]
 exact dN_take (fun h => by rw [if_pos h]) (fun h => by rw [if_pos h]) (fun h => by rw [if_pos h]) hn hd
theorem nameGo_nil (f : Nat) : nameGo f [] = 0 := by
 cases f with
 | zero => rfl
 | succ f => exact nameGo_end (by simp [pk_nil]) (by simp [pk_nil]; decide) (by simp [pk_nil]; decide)
theorem letter_ne {c : Int} (h : isLetter c = true ∨ isDigit c = true) : c ≠ -1 := fun h1 => by rw [h1, isLetter_neg, isDigit_neg] at h; simp at h
theorem hasPrefix_take {r p : Bs} {n : Nat} (h : Lib.hasPrefix (r.take n) p = true) : Lib.hasPrefix r p = true := by
 unfold Lib.hasPrefix at h ⊢
 rw [List.isPrefixOf_iff_prefix] at h ⊢
 exact h.trans (List.take_prefix n r)
theorem hasPrefix_long {r p : Bs} {n : Nat} (h : Lib.hasPrefix r p = true) (hn : p.length ≤ n) : Lib.hasPrefix (r.take n) p = true := by
 unfold Lib.hasPrefix at h ⊢
 rw [List.isPrefixOf_iff_prefix] at h ⊢
 rw [List.prefix_take_iff]
 exact ⟨h, hn⟩
end Go.PM.Lex
end
