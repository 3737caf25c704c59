/- A part of the proof: plain logic, contracts and laws over the given program. -/
import Derived.Test.YtjmoaahgfjaafaaGreatDoorG09
set_option linter.unusedVariables false
set_option linter.unusedSimpArgs false
set_option linter.all false
section
set_option maxRecDepth 100000
set_option maxHeartbeats 4000000
namespace Go.PM.Lex
open Go.Proofs
variable {w0 : World} {nG : Nat}
def unitB : Nat → Ts → R Un
  | 0 => fun _ => .err 0 150
  | d + 1 => unitD d
theorem unitD_eq (d : Nat) : unitD d = unitF true d (unitB d) := by cases d <;> rfl
/-- A unit: inside a component, or the whole text. -/
def unitT (b : Bool) (d : Nat) (ts : Ts) : R Un := unitF b d (unitB d) ts
noncomputable def spUnit (d : Nat) : Spec := rdSp fun rest L en dp a ts K => match rest with
  | [.d (.bool b)] => (dp = 64 - (d : Int) ∧ 0 ≤ dp) ∧ ∀ x, unitT b d ts = x → RKk (fun (v : Un) => aggD (encUn (placeOf L en) v)) L en dp a x K
  | _ => False
theorem spUnit_mono (d : Nat) : SpecMono (spUnit d) := rdSp_mono fun rest L en dp a ts K K' hK h => by
  split at h
  · exact ⟨h.1, fun x hx => RKk_mono hK (h.2 x hx)⟩
  · exact h.elim
/-- A component's unit, one deeper. -/
noncomputable def spUnitB (d : Nat) : Spec := rdSp fun rest L en dp a ts K => match rest with
  | [.d (.bool b)] => (0 < d ∧ dp = 65 - (d : Int) ∧ 0 ≤ dp ∧ b = true) ∧ ∀ x, unitB d ts = x → RKk (fun (v : Un) => aggD (encUn (placeOf L en) v)) L en dp a x K
  | _ => False
theorem spUnitB_mono (d : Nat) : SpecMono (spUnitB d) := rdSp_mono fun rest L en dp a ts K K' hK h => by
  split at h
  · exact ⟨h.1, fun x hx => RKk_mono hK (h.2 x hx)⟩
  · exact h.elim
noncomputable abbrev spComp (d : Nat) : Spec := spRD (fun L en (v : Co) => aggD (encCo (placeOf L en) v)) (compF d (unitB d)) 0 d
noncomputable def tblComp1 (d : Nat) : Tbl := [(39, spUnitB d)]
noncomputable def tblCompW (d : Nat) : Tbl := [(86, spIs), (93, spMust), (85, spFail), (172, spIn Tryz.f172 (tblComp1 d))]
noncomputable def tblComp (d : Nat) : Tbl := [(91, spPlace), (92, spNameP), (94, spNames), (104, spTake), (171, spIn Tryz.f171 (tblCompW d))]
theorem comp_ok {d : Nat} (ht : TblOK (GG w0 nG) (tblComp d)) : PCalls (GG w0 nG) 90 (spComp d) := by
  refine pcalls tab_ok mixed (tbl := tblComp d) ht Tryz.func90 rfl (by kernel_rfl) (by kernel_rfl) ?_
  intro args σ K h
  unfold spComp spRD rdSp at h
  split at h
  · rename_i rest t rows a en dp
    obtain ⟨L, ts, rfl, ho, h⟩ := h
    split at h
    · obtain ⟨hdp, h⟩ := h
      have h0 := ho.lo
      have h1 := ho.hi
      have h2 := ho.big
      refine ⟨loopsOf [], 1, false, by simp, Nat.le_of_ble_eq_true rfl, ?_⟩
      have h := h _ rfl
      rw [compF] at h
      conv => whnf
      refine ⟨L, ts, rfl, ho, ?_⟩
      conv => whnf
      refine ⟨L, ts, rfl, ho, fun x hx1 => ?_⟩
      rcases x with ⟨v1, ts1⟩ | ⟨r1, e1⟩
      rotate_left
      · rw [hx1, R.bind_err] at h; intro a9 d9; (conv => whnf); exact h _ _
      rw [hx1, R.bind_ok] at h
      intro a1 hle1 ho1
      have hb1 := ho1.hi
      conv => whnf
      refine ⟨L, ts1, rfl, ho1, fun x hx2 => ?_⟩
      rcases x with ⟨v2, ts2⟩ | ⟨r2, e2⟩
      rotate_left
      · rw [hx2, R.bind_err] at h; intro a9 d9; (conv => whnf); exact h _ _
      rw [hx2, R.bind_ok] at h
      intro a2 hle2 ho2
      have hb2 := ho2.hi
      conv => whnf
      refine ⟨L, ts2, rfl, ho2, [[58]], rfl, by simp, fun hw3 ho3 => ?_, fun hw3 => ?_⟩
      · rw [if_pos hw3] at h
        have hb3 := ho3.hi
        conv => whnf
        refine ⟨L, ts2.tail, rfl, ho3, fun x hx4 => ?_⟩
        rcases x with ⟨v4, ts4⟩ | ⟨r4, e4⟩
        rotate_left
        · rw [hx4, R.bind_err] at h; intro a9 d9; (conv => whnf); exact h _ _
        rw [hx4, R.bind_ok] at h
        intro a4 hle4 ho4
        have hb4 := ho4.hi
        conv => whnf
        refine ⟨L, ts4, rfl, ho4, fun x hx5 => ?_⟩
        rcases x with ⟨v5, ts5⟩ | ⟨r5, e5⟩
        rotate_left
        · rw [hx5, R.bind_err] at h; intro a9 d9; (conv => whnf); exact h _ _
        rw [hx5, R.bind_ok] at h
        intro a5 hle5 ho5
        have hb5 := ho5.hi
        conv => whnf
        refine ⟨_, fun _ _ h => h, Nat.le_of_ble_eq_true rfl, ?_⟩
        conv => whnf
        refine ⟨L, ts5, rfl, ho5, [[123]], rfl, by simp, fun b hw7 => ?_⟩
        cases b with
        | false =>
          rw [withinF, if_neg (by rw [hw7]; simp), R.bind_err] at h
          conv => whnf
          refine ⟨L, ts5, rfl, ho5, fun x hx => ?_⟩
          rw [mustF, if_neg (by rw [hw7]; simp)] at hx
          subst hx
          intro a9 d9
          conv => whnf
          exact h _ _
        | true =>
          rw [withinF, if_pos hw7] at h
          conv => whnf
          refine CondP.dec (fun hc => ?_) (fun hc => ?_)
          · rw [if_pos (by omega), R.bind_err] at h
            conv => whnf
            refine ⟨L, ts5, rfl, ho5, ?_⟩
            conv => whnf
            exact h _ _
          · rw [if_neg (by omega)] at h
            conv => whnf
            refine ⟨L, ts5, rfl, ho5, fun x hx => ?_⟩
            rw [mustF, if_pos hw7] at hx
            subst hx
            intro a7 hle7 ho7
            have hb7 := ho7.hi
            conv => whnf
            refine Or.inl ⟨InR.i64 (by omega) (by omega), ?_⟩
            conv => whnf
            refine ⟨_, fun _ _ h => h, Nat.le_of_ble_eq_true rfl, ?_⟩
            conv => whnf
            refine ⟨L, ts5.tail, rfl, ho7, ⟨by omega, by omega, by omega, rfl⟩, fun x hx8 => ?_⟩
            rcases x with ⟨v8, ts8⟩ | ⟨r8, e8⟩
            rotate_left
            · rw [hx8, R.bind_err] at h; intro a9 d9; (conv => whnf); exact h _ _
            rw [hx8, R.bind_ok] at h
            intro a8 hle8 ho8
            have hb8 := ho8.hi
            obtain ⟨v8a, v8b, v8c, v8d, v8e, v8f⟩ := v8
            conv => whnf
            rw [if_neg (by simp)] at h
            refine ⟨L, ts8, rfl, ho8, fun x hx9 => ?_⟩
            rcases x with ⟨v9, ts9⟩ | ⟨r9, e9⟩
            rotate_left
            · rw [hx9, R.bind_err, R.bind_err] at h; intro a9 d9; (conv => whnf); exact h _ _
            rw [hx9, R.bind_ok, R.bind_ok] at h
            intro a9 hle9 ho9
            have hb9 := ho9.hi
            conv => whnf
            refine Or.inl ⟨InR.i64 (by omega) (by omega), ?_⟩
            conv => whnf
            rw [Int.add_sub_cancel]
            exact h _ (by omega) ho9
      · rw [if_neg (by rw [hw3]; simp)] at h
        conv => whnf
        refine ⟨_, fun _ _ h => h, Nat.le_of_ble_eq_true rfl, ?_⟩
        conv => whnf
        refine ⟨L, ts2, rfl, ho2, [[123]], rfl, by simp, fun b hw7 => ?_⟩
        cases b with
        | false =>
          rw [withinF, if_neg (by rw [hw7]; simp), R.bind_err] at h
          conv => whnf
          refine ⟨L, ts2, rfl, ho2, fun x hx => ?_⟩
          rw [mustF, if_neg (by rw [hw7]; simp)] at hx
          subst hx
          intro a9 d9
          conv => whnf
          exact h _ _
        | true =>
          rw [withinF, if_pos hw7] at h
          conv => whnf
          refine CondP.dec (fun hc => ?_) (fun hc => ?_)
          · rw [if_pos (by omega), R.bind_err] at h
            conv => whnf
            refine ⟨L, ts2, rfl, ho2, ?_⟩
            conv => whnf
            exact h _ _
          · rw [if_neg (by omega)] at h
            conv => whnf
            refine ⟨L, ts2, rfl, ho2, fun x hx => ?_⟩
            rw [mustF, if_pos hw7] at hx
            subst hx
            intro a7 hle7 ho7
            have hb7 := ho7.hi
            conv => whnf
            refine Or.inl ⟨InR.i64 (by omega) (by omega), ?_⟩
            conv => whnf
            refine ⟨_, fun _ _ h => h, Nat.le_of_ble_eq_true rfl, ?_⟩
            conv => whnf
            refine ⟨L, ts2.tail, rfl, ho7, ⟨by omega, by omega, by omega, rfl⟩, fun x hx8 => ?_⟩
            rcases x with ⟨v8, ts8⟩ | ⟨r8, e8⟩
            rotate_left
            · rw [hx8, R.bind_err] at h; intro a9 d9; (conv => whnf); exact h _ _
            rw [hx8, R.bind_ok] at h
            intro a8 hle8 ho8
            have hb8 := ho8.hi
            obtain ⟨v8a, v8b, v8c, v8d, v8e, v8f⟩ := v8
            conv => whnf
            rw [if_neg (by simp)] at h
            refine ⟨L, ts8, rfl, ho8, fun x hx9 => ?_⟩
            rcases x with ⟨v9, ts9⟩ | ⟨r9, e9⟩
            rotate_left
            · rw [hx9, R.bind_err, R.bind_err] at h; intro a9 d9; (conv => whnf); exact h _ _
            rw [hx9, R.bind_ok, R.bind_ok] at h
            intro a9 hle9 ho9
            have hb9 := ho9.hi
            conv => whnf
            refine Or.inl ⟨InR.i64 (by omega) (by omega), ?_⟩
            conv => whnf
            rw [Int.add_sub_cancel]
            exact h _ (by omega) ho9
    · exact h.elim
  · exact h.elim
noncomputable def tblUnit (d : Nat) : Tbl := [(86, spIs), (87, spRoom), (88, spTyped), (89, spDecl), (90, spComp d), (91, spPlace), (92, spNameP), (93, spMust), (94, spNames), (95, spAsk namedF), (49, spRule d), (85, spFail)]
theorem unitGo_eq (inside : Bool) (d : Nat) (un : Ts → R Un) (f : Nat) (tys : List Ty) (rels : List Re) (rules : List Ru) (comps : List Co) (inits : List Ini) (overs : List Ov) (ts : Ts) : unitGo inside d un (f + 1) (.mk tys rels rules comps inits overs) ts =
    if ts = [] ∨ (inside = true ∧ isW ts [[125]] = true) then .ok (.mk tys rels rules comps inits overs) ts
    else if isW ts [[116, 121, 112, 101]] = true then (if tys.length = 256 then .err ts.length 3 else (typedF ts.tail).bind fun x ts => unitGo inside d un f (.mk (tys ++ [x]) rels rules comps inits overs) ts)
    else if isW ts [[100, 101, 99, 108]] = true then (if rels.length = 256 then .err ts.length 3 else (declF ts.tail).bind fun x ts => unitGo inside d un f (.mk tys (rels ++ [x]) rules comps inits overs) ts)
    else if isW ts [[99, 111, 109, 112]] = true then (if comps.length = 64 then .err ts.length 3 else (compF d un ts.tail).bind fun x ts => unitGo inside d un f (.mk tys rels rules (comps ++ [x]) inits overs) ts)
    else if isW ts [[105, 110, 105, 116]] = true then (if inits.length = 256 then .err ts.length 3 else (initF ts.tail).bind fun x ts => unitGo inside d un f (.mk tys rels rules comps (inits ++ [x]) overs) ts)
    else if isW ts [[111, 118, 101, 114, 114, 105, 100, 101]] = true then (if overs.length = 256 then .err ts.length 3 else (overF ts.tail).bind fun x ts => unitGo inside d un f (.mk tys rels rules comps inits (overs ++ [x])) ts)
    else if namedF ts = true then (if rules.length = 1024 then .err ts.length 3 else (ruleF d true ts).bind fun x ts => unitGo inside d un f (.mk tys rels (rules ++ [x]) comps inits overs) ts)
    else .err ts.length 150 := rfl
theorem unit_ok {d : Nat} (ht : TblOK (GG w0 nG) (tblUnit d)) : PCalls (GG w0 nG) 39 (spUnit d) := by
  refine pcalls tab_ok mixed (tbl := tblUnit d) ht Tryz.func39 rfl (by kernel_rfl) (by kernel_rfl) ?_
  intro args σ K h
  unfold spUnit rdSp at h
  split at h
  · rename_i rest t rows a en dp
    obtain ⟨L, ts, rfl, ho, h⟩ := h
    split at h
    · rename_i inside
      obtain ⟨hdp, h⟩ := h
      have h0 := ho.lo
      have h1 := ho.hi
      have h2 := ho.big
      refine ⟨loopsOf [(1, ⟨[], [0, 1, 4], fun vs σ => ∃ (tys : List Ty) (rels : List Re) (rules : List Ru) (comps : List Co) (inits : List Ini) (overs : List Ov) (a' : Int) (ts' : Ts) (f : Nat), vs = [] ∧ σ = ⟨[.cells t [.d (.sl (toksR L)), .d (.int .i64 a'), .d (.int .i64 en), .d (.int .i64 dp)], .cells 29 [.sl 0 57 (tys.map (encTy (placeOf L en))), .sl 1 44 (rels.map (encRe (placeOf L en))), .sl 2 52 (rules.map (encRu (placeOf L en))), .sl 3 62 (comps.map (encCo (placeOf L en))), .sl 4 64 (inits.map (encIn (placeOf L en))), .sl 5 87 (overs.map (encOv (placeOf L en)))]], [5, 4, 3, 2, 1, 0], 6⟩ ∧ ROK L a' ts' ∧ a ≤ a' ∧ ts'.length < f ∧ (tys.length ≤ 256 ∧ rels.length ≤ 256 ∧ rules.length ≤ 1024 ∧ comps.length ≤ 64 ∧ inits.length ≤ 256 ∧ overs.length ≤ 256) ∧ RKk (fun (v : Un) => aggD (encUn (placeOf L en) v)) L en dp a (unitGo inside d (unitB d) f (.mk tys rels rules comps inits overs) ts') (fun pe a' dp' => K pe ⟨[.cells t [.d (.sl (toksR L)), .d (.int .i64 a'), .d (.int .i64 en), .d (.int .i64 dp')]], [], 0⟩), fun _ σ => match σ with | ⟨.cells _ [_, .d (.int _ i), _, _] :: _, _, _⟩ => ((L.length : Int) - i).toNat | _ => 0⟩)], 1, false, by simp, Nat.le_of_ble_eq_true rfl, ?_⟩
      have h := h _ rfl
      rw [unitT, unitF] at h
      conv => whnf
      refine ⟨⟨[], [], [], [], [], [], a, ts, ts.length + 1, rfl, rfl, ho, by omega, by omega, by simp, h⟩, ?_⟩
      clear h
      intro vs σ hI
      obtain ⟨tys, rels, rules, comps, inits, overs, a', ts', f, rfl, rfl, ho', hle', hf, hlim, h⟩ := hI
      obtain ⟨f, rfl⟩ : ∃ g, f = g + 1 := ⟨f - 1, by omega⟩
      rw [unitGo_eq] at h
      have hhi' := ho'.hi
      have hlen' := ho'.len
      have hlo' := ho'.lo
      conv => whnf
      refine CondP.dec (fun hc => ?_) (fun hc => ?_)
      · have hne : ts' ≠ [] := by rintro rfl; have hc : a' < ((toksR L).length : Int) := hc; rw [toksR_len] at hc; simp at hlen'; omega
        conv => whnf
        cases inside with
        | false =>
          rw [if_neg (by simp [hne])] at h
          conv => whnf
          repeat (refine ⟨rfl, ?_⟩; conv => whnf)
          refine ⟨L, ts', rfl, ho', [[116, 121, 112, 101]], rfl, by simp, fun b hw21 => ?_⟩
          cases b with
          | true =>
            rw [if_pos hw21] at h
            have ho2 := ho'.tl (isW_ne hw21)
            have hb2 := ho2.hi
            have hlen2 := ho2.len
            conv => whnf
            refine ⟨L, ts', rfl, ho', fun g => ?_, fun g => ?_⟩
            · conv => whnf
              rw [if_pos (by rw [List.length_map] at g; omega)] at h
              exact h _ _
            have hne : ¬ tys.length = 256 := by rw [List.length_map] at g; omega
            rw [if_neg hne] at h
            conv => whnf
            refine ⟨L, ts'.tail, rfl, ho2, fun x hx3 => ?_⟩
            rcases x with ⟨v3, ts3⟩ | ⟨r3, e3⟩
            rotate_left
            · rw [hx3, R.bind_err] at h; intro a9 d9; (conv => whnf); exact h _ _
            rw [hx3, R.bind_ok] at h
            intro a3 hle3 ho3
            have hb3 := ho3.hi
            obtain ⟨v3a, v3b, v3c, v3d, v3e, v3f⟩ := v3
            conv => whnf
            have hlen3 := ho3.len
            repeat (refine ⟨rfl, ?_⟩; conv => whnf)
            refine ⟨List.forall_mem_singleton.2 rfl, (show ((tys.map (encTy (placeOf L en))).length + 1) * 96 ≤ 2 ^ 47 by rw [List.length_map]; omega), (show (tys.map (encTy (placeOf L en))).length + 1 ≤ 2 ^ 47 by rw [List.length_map]; omega), ?_⟩
            conv => whnf
            repeat (refine ⟨rfl, ?_⟩; conv => whnf)
            refine ⟨⟨tys ++ [⟨v3a, v3b, v3c, v3d, v3e, v3f⟩], rels, rules, comps, inits, overs, a3, ts3, f, rfl, ?_, ho3, by omega, by omega, ?_, h⟩, ?_⟩
            · rw [← map_snoc (encTy (placeOf L en)) tys]; rfl
            · simp only [List.length_append, List.length_singleton]; omega
            show ((L.length : Int) - a3).toNat < ((L.length : Int) - a').toNat
            omega
          | false =>
            rw [if_neg (by rw [hw21]; simp)] at h
            conv => whnf
            refine ⟨L, ts', rfl, ho', [[100, 101, 99, 108]], rfl, by simp, fun b hw22 => ?_⟩
            cases b with
            | true =>
              rw [if_pos hw22] at h
              have ho2 := ho'.tl (isW_ne hw22)
              have hb2 := ho2.hi
              have hlen2 := ho2.len
              conv => whnf
              refine ⟨L, ts', rfl, ho', fun g => ?_, fun g => ?_⟩
              · conv => whnf
                rw [if_pos (by rw [List.length_map] at g; omega)] at h
                exact h _ _
              have hne : ¬ rels.length = 256 := by rw [List.length_map] at g; omega
              rw [if_neg hne] at h
              conv => whnf
              refine ⟨L, ts'.tail, rfl, ho2, fun x hx3 => ?_⟩
              rcases x with ⟨v3, ts3⟩ | ⟨r3, e3⟩
              rotate_left
              · rw [hx3, R.bind_err] at h; intro a9 d9; (conv => whnf); exact h _ _
              rw [hx3, R.bind_ok] at h
              intro a3 hle3 ho3
              have hb3 := ho3.hi
              obtain ⟨v3a, v3b, v3c, v3d, v3e, v3f⟩ := v3
              conv => whnf
              have hlen3 := ho3.len
              repeat (refine ⟨rfl, ?_⟩; conv => whnf)
              refine ⟨List.forall_mem_singleton.2 rfl, (show ((rels.map (encRe (placeOf L en))).length + 1) * 56 ≤ 2 ^ 47 by rw [List.length_map]; omega), (show (rels.map (encRe (placeOf L en))).length + 1 ≤ 2 ^ 47 by rw [List.length_map]; omega), ?_⟩
              conv => whnf
              repeat (refine ⟨rfl, ?_⟩; conv => whnf)
              refine ⟨⟨tys, rels ++ [⟨v3a, v3b, v3c, v3d, v3e, v3f⟩], rules, comps, inits, overs, a3, ts3, f, rfl, ?_, ho3, by omega, by omega, ?_, h⟩, ?_⟩
              · rw [← map_snoc (encRe (placeOf L en)) rels]; rfl
              · simp only [List.length_append, List.length_singleton]; omega
              show ((L.length : Int) - a3).toNat < ((L.length : Int) - a').toNat
              omega
            | false =>
              rw [if_neg (by rw [hw22]; simp)] at h
              conv => whnf
              refine ⟨L, ts', rfl, ho', [[99, 111, 109, 112]], rfl, by simp, fun b hw23 => ?_⟩
              cases b with
              | true =>
                rw [if_pos hw23] at h
                have ho2 := ho'.tl (isW_ne hw23)
                have hb2 := ho2.hi
                have hlen2 := ho2.len
                conv => whnf
                refine ⟨L, ts', rfl, ho', fun g => ?_, fun g => ?_⟩
                · conv => whnf
                  rw [if_pos (by rw [List.length_map] at g; omega)] at h
                  exact h _ _
                have hne : ¬ comps.length = 64 := by rw [List.length_map] at g; omega
                rw [if_neg hne] at h
                conv => whnf
                refine ⟨L, ts'.tail, rfl, ho2, hdp, fun x hx3 => ?_⟩
                rcases x with ⟨v3, ts3⟩ | ⟨r3, e3⟩
                rotate_left
                · rw [hx3, R.bind_err] at h; intro a9 d9; (conv => whnf); exact h _ _
                rw [hx3, R.bind_ok] at h
                intro a3 hle3 ho3
                have hb3 := ho3.hi
                obtain ⟨v3a, v3b, v3c, v3d, ⟨v3g, v3h, v3i, v3j, v3k, v3l⟩, v3f⟩ := v3
                conv => whnf
                have hlen3 := ho3.len
                repeat (refine ⟨rfl, ?_⟩; conv => whnf)
                refine ⟨List.forall_mem_singleton.2 rfl, (show ((comps.map (encCo (placeOf L en))).length + 1) * 232 ≤ 2 ^ 47 by rw [List.length_map]; omega), (show (comps.map (encCo (placeOf L en))).length + 1 ≤ 2 ^ 47 by rw [List.length_map]; omega), ?_⟩
                conv => whnf
                repeat (refine ⟨rfl, ?_⟩; conv => whnf)
                refine ⟨⟨tys, rels, rules, comps ++ [.mk v3a v3b v3c v3d (.mk v3g v3h v3i v3j v3k v3l) v3f], inits, overs, a3, ts3, f, rfl, ?_, ho3, by omega, by omega, ?_, h⟩, ?_⟩
                · rw [← map_snoc (encCo (placeOf L en)) comps]; rfl
                · simp only [List.length_append, List.length_singleton]; omega
                show ((L.length : Int) - a3).toNat < ((L.length : Int) - a').toNat
                omega
              | false =>
                rw [if_neg (by rw [hw23]; simp)] at h
                conv => whnf
                refine ⟨L, ts', rfl, ho', [[105, 110, 105, 116]], rfl, by simp, fun b hw24 => ?_⟩
                cases b with
                | true =>
                  rw [if_pos hw24] at h
                  have ho2 := ho'.tl (isW_ne hw24)
                  have hb2 := ho2.hi
                  have hlen2 := ho2.len
                  conv => whnf
                  refine ⟨L, ts', rfl, ho', fun g => ?_, fun g => ?_⟩
                  · conv => whnf
                    rw [if_pos (by rw [List.length_map] at g; omega)] at h
                    exact h _ _
                  have hne : ¬ inits.length = 256 := by rw [List.length_map] at g; omega
                  rw [if_neg hne] at h
                  conv => whnf
                  refine ⟨L, ts'.tail, rfl, ho2, ?_⟩
                  conv => whnf
                  rw [initF] at h
                  refine ⟨L, ts'.tail, rfl, ho2, fun x hx3 => ?_⟩
                  rcases x with ⟨v3, ts3⟩ | ⟨r3, e3⟩
                  rotate_left
                  · rw [hx3, R.bind_err, R.bind_err] at h; intro a9 d9; (conv => whnf); exact h _ _
                  rw [hx3, R.bind_ok] at h
                  intro a3 hle3 ho3
                  have hb3 := ho3.hi
                  conv => whnf
                  refine ⟨L, ts3, rfl, ho3, fun x hx4 => ?_⟩
                  rcases x with ⟨v4, ts4⟩ | ⟨r4, e4⟩
                  rotate_left
                  · rw [hx4, R.bind_err, R.bind_err] at h; intro a9 d9; (conv => whnf); exact h _ _
                  rw [hx4, R.bind_ok] at h
                  intro a4 hle4 ho4
                  have hb4 := ho4.hi
                  conv => whnf
                  refine ⟨L, ts4, rfl, ho4, fun x hx5 => ?_⟩
                  rcases x with ⟨v5, ts5⟩ | ⟨r5, e5⟩
                  rotate_left
                  · rw [hx5, R.bind_err, R.bind_err] at h; intro a9 d9; (conv => whnf); exact h _ _
                  rw [hx5, R.bind_ok] at h
                  intro a5 hle5 ho5
                  have hb5 := ho5.hi
                  conv => whnf
                  refine ⟨L, ts5, rfl, ho5, fun x hx6 => ?_⟩
                  rcases x with ⟨v6, ts6⟩ | ⟨r6, e6⟩
                  rotate_left
                  · rw [hx6, R.bind_err, R.bind_err] at h; intro a9 d9; (conv => whnf); exact h _ _
                  rw [hx6, R.bind_ok] at h
                  intro a6 hle6 ho6
                  have hb6 := ho6.hi
                  conv => whnf
                  rw [R.bind_ok] at h
                  have hlen6 := ho6.len
                  refine ⟨List.forall_mem_singleton.2 rfl, (show ((inits.map (encIn (placeOf L en))).length + 1) * 64 ≤ 2 ^ 47 by rw [List.length_map]; omega), (show (inits.map (encIn (placeOf L en))).length + 1 ≤ 2 ^ 47 by rw [List.length_map]; omega), ?_⟩
                  conv => whnf
                  repeat (refine ⟨rfl, ?_⟩; conv => whnf)
                  refine ⟨⟨tys, rels, rules, comps, inits ++ [⟨v3, v5, v6, ts'.tail.length⟩], overs, a6, ts6, f, rfl, ?_, ho6, by omega, by omega, ?_, h⟩, ?_⟩
                  · rw [← map_snoc (encIn (placeOf L en)) inits]; rfl
                  · simp only [List.length_append, List.length_singleton]; omega
                  show ((L.length : Int) - a6).toNat < ((L.length : Int) - a').toNat
                  omega
                | false =>
                  rw [if_neg (by rw [hw24]; simp)] at h
                  conv => whnf
                  refine ⟨L, ts', rfl, ho', [[111, 118, 101, 114, 114, 105, 100, 101]], rfl, by simp, fun b hw25 => ?_⟩
                  cases b with
                  | true =>
                    rw [if_pos hw25] at h
                    have ho2 := ho'.tl (isW_ne hw25)
                    have hb2 := ho2.hi
                    have hlen2 := ho2.len
                    conv => whnf
                    refine ⟨L, ts', rfl, ho', fun g => ?_, fun g => ?_⟩
                    · conv => whnf
                      rw [if_pos (by rw [List.length_map] at g; omega)] at h
                      exact h _ _
                    have hne : ¬ overs.length = 256 := by rw [List.length_map] at g; omega
                    rw [if_neg hne] at h
                    conv => whnf
                    refine ⟨L, ts'.tail, rfl, ho2, ?_⟩
                    conv => whnf
                    rw [overF] at h
                    refine ⟨L, ts'.tail, rfl, ho2, fun x hx3 => ?_⟩
                    rcases x with ⟨v3, ts3⟩ | ⟨r3, e3⟩
                    rotate_left
                    · rw [hx3, R.bind_err, R.bind_err] at h; intro a9 d9; (conv => whnf); exact h _ _
                    rw [hx3, R.bind_ok, R.bind_ok] at h
                    intro a3 hle3 ho3
                    have hb3 := ho3.hi
                    have hlen3 := ho3.len
                    conv => whnf
                    refine ⟨List.forall_mem_singleton.2 rfl, (show ((overs.map (encOv (placeOf L en))).length + 1) * 24 ≤ 2 ^ 47 by rw [List.length_map]; omega), (show (overs.map (encOv (placeOf L en))).length + 1 ≤ 2 ^ 47 by rw [List.length_map]; omega), ?_⟩
                    conv => whnf
                    repeat (refine ⟨rfl, ?_⟩; conv => whnf)
                    refine ⟨⟨tys, rels, rules, comps, inits, overs ++ [⟨v3, ts'.tail.length⟩], a3, ts3, f, rfl, ?_, ho3, by omega, by omega, ?_, h⟩, ?_⟩
                    · rw [← map_snoc (encOv (placeOf L en)) overs]; rfl
                    · simp only [List.length_append, List.length_singleton]; omega
                    show ((L.length : Int) - a3).toNat < ((L.length : Int) - a').toNat
                    omega
                  | false =>
                    rw [if_neg (by rw [hw25]; simp)] at h
                    conv => whnf
                    refine ⟨L, ts', rfl, ho', fun b hn => ?_⟩
                    cases b with
                    | false =>
                      rw [if_neg (by rw [hn]; simp)] at h
                      conv => whnf
                      refine ⟨L, ts', rfl, ho', ?_⟩
                      conv => whnf
                      exact h _ _
                    | true =>
                      rw [if_pos hn] at h
                      conv => whnf
                      refine ⟨L, ts', rfl, ho', fun g => ?_, fun g => ?_⟩
                      · conv => whnf
                        rw [if_pos (by rw [List.length_map] at g; omega)] at h
                        exact h _ _
                      have hne : ¬ rules.length = 1024 := by rw [List.length_map] at g; omega
                      rw [if_neg hne] at h
                      conv => whnf
                      refine Or.inl ⟨InR.i64 (by omega) (by omega), ?_⟩
                      conv => whnf
                      rw [show a' + 1 - 1 = a' by omega]
                      refine ⟨L, ts', rfl, ho', hdp, fun x hx3 => ?_⟩
                      rcases x with ⟨v3, ts3⟩ | ⟨r3, e3⟩
                      rotate_left
                      · rw [hx3, R.bind_err] at h; intro a9 d9; (conv => whnf); exact h _ _
                      rw [hx3, R.bind_ok] at h
                      intro a3 hle3 ho3
                      have hb3 := ho3.hi
                      obtain ⟨v3a, v3b, v3c, v3d⟩ := v3
                      conv => whnf
                      have hlen3 := ho3.len
                      repeat (refine ⟨rfl, ?_⟩; conv => whnf)
                      refine ⟨List.forall_mem_singleton.2 rfl, (show ((rules.map (encRu (placeOf L en))).length + 1) * 72 ≤ 2 ^ 47 by rw [List.length_map]; omega), (show (rules.map (encRu (placeOf L en))).length + 1 ≤ 2 ^ 47 by rw [List.length_map]; omega), ?_⟩
                      conv => whnf
                      repeat (refine ⟨rfl, ?_⟩; conv => whnf)
                      refine ⟨⟨tys, rels, rules ++ [⟨v3a, v3b, v3c, v3d⟩], comps, inits, overs, a3, ts3, f, rfl, ?_, ho3, by omega, by omega, ?_, h⟩, ?_⟩
                      · rw [← map_snoc (encRu (placeOf L en)) rules]; rfl
                      · simp only [List.length_append, List.length_singleton]; omega
                      show ((L.length : Int) - a3).toNat < ((L.length : Int) - a').toNat
                      omega
        | true =>
          conv => whnf
          refine ⟨L, ts', rfl, ho', [[125]], rfl, by simp, fun b hw => ?_⟩
          cases b with
          | true =>
            rw [if_pos (.inr ⟨rfl, hw⟩)] at h
            conv => whnf
            repeat (refine ⟨rfl, ?_⟩; conv => whnf)
            have h := h _ (by omega) ho'
            simp only [aggD, encUn, encCos_eq, List.map_cons, List.map_nil] at h
            exact h
          | false =>
            rw [if_neg (by simp [hne, hw])] at h
            conv => whnf
            repeat (refine ⟨rfl, ?_⟩; conv => whnf)
            refine ⟨L, ts', rfl, ho', [[116, 121, 112, 101]], rfl, by simp, fun b hw21 => ?_⟩
            cases b with
            | true =>
              rw [if_pos hw21] at h
              have ho2 := ho'.tl (isW_ne hw21)
              have hb2 := ho2.hi
              have hlen2 := ho2.len
              conv => whnf
              refine ⟨L, ts', rfl, ho', fun g => ?_, fun g => ?_⟩
              · conv => whnf
                rw [if_pos (by rw [List.length_map] at g; omega)] at h
                exact h _ _
              have hne : ¬ tys.length = 256 := by rw [List.length_map] at g; omega
              rw [if_neg hne] at h
              conv => whnf
              refine ⟨L, ts'.tail, rfl, ho2, fun x hx3 => ?_⟩
              rcases x with ⟨v3, ts3⟩ | ⟨r3, e3⟩
              rotate_left
              · rw [hx3, R.bind_err] at h; intro a9 d9; (conv => whnf); exact h _ _
              rw [hx3, R.bind_ok] at h
              intro a3 hle3 ho3
              have hb3 := ho3.hi
              obtain ⟨v3a, v3b, v3c, v3d, v3e, v3f⟩ := v3
              conv => whnf
              have hlen3 := ho3.len
              repeat (refine ⟨rfl, ?_⟩; conv => whnf)
              refine ⟨List.forall_mem_singleton.2 rfl, (show ((tys.map (encTy (placeOf L en))).length + 1) * 96 ≤ 2 ^ 47 by rw [List.length_map]; omega), (show (tys.map (encTy (placeOf L en))).length + 1 ≤ 2 ^ 47 by rw [List.length_map]; omega), ?_⟩
              conv => whnf
              repeat (refine ⟨rfl, ?_⟩; conv => whnf)
              refine ⟨⟨tys ++ [⟨v3a, v3b, v3c, v3d, v3e, v3f⟩], rels, rules, comps, inits, overs, a3, ts3, f, rfl, ?_, ho3, by omega, by omega, ?_, h⟩, ?_⟩
              · rw [← map_snoc (encTy (placeOf L en)) tys]; rfl
              · simp only [List.length_append, List.length_singleton]; omega
              show ((L.length : Int) - a3).toNat < ((L.length : Int) - a').toNat
              omega
            | false =>
              rw [if_neg (by rw [hw21]; simp)] at h
              conv => whnf
              refine ⟨L, ts', rfl, ho', [[100, 101, 99, 108]], rfl, by simp, fun b hw22 => ?_⟩
              cases b with
              | true =>
                rw [if_pos hw22] at h
                have ho2 := ho'.tl (isW_ne hw22)
                have hb2 := ho2.hi
                have hlen2 := ho2.len
                conv => whnf
                refine ⟨L, ts', rfl, ho', fun g => ?_, fun g => ?_⟩
                · conv => whnf
                  rw [if_pos (by rw [List.length_map] at g; omega)] at h
                  exact h _ _
                have hne : ¬ rels.length = 256 := by rw [List.length_map] at g; omega
                rw [if_neg hne] at h
                conv => whnf
                refine ⟨L, ts'.tail, rfl, ho2, fun x hx3 => ?_⟩
                rcases x with ⟨v3, ts3⟩ | ⟨r3, e3⟩
                rotate_left
                · rw [hx3, R.bind_err] at h; intro a9 d9; (conv => whnf); exact h _ _
                rw [hx3, R.bind_ok] at h
                intro a3 hle3 ho3
                have hb3 := ho3.hi
                obtain ⟨v3a, v3b, v3c, v3d, v3e, v3f⟩ := v3
                conv => whnf
                have hlen3 := ho3.len
                repeat (refine ⟨rfl, ?_⟩; conv => whnf)
                refine ⟨List.forall_mem_singleton.2 rfl, (show ((rels.map (encRe (placeOf L en))).length + 1) * 56 ≤ 2 ^ 47 by rw [List.length_map]; omega), (show (rels.map (encRe (placeOf L en))).length + 1 ≤ 2 ^ 47 by rw [List.length_map]; omega), ?_⟩
                conv => whnf
                repeat (refine ⟨rfl, ?_⟩; conv => whnf)
                refine ⟨⟨tys, rels ++ [⟨v3a, v3b, v3c, v3d, v3e, v3f⟩], rules, comps, inits, overs, a3, ts3, f, rfl, ?_, ho3, by omega, by omega, ?_, h⟩, ?_⟩
                · rw [← map_snoc (encRe (placeOf L en)) rels]; rfl
                · simp only [List.length_append, List.length_singleton]; omega
                show ((L.length : Int) - a3).toNat < ((L.length : Int) - a').toNat
                omega
              | false =>
                rw [if_neg (by rw [hw22]; simp)] at h
                conv => whnf
                refine ⟨L, ts', rfl, ho', [[99, 111, 109, 112]], rfl, by simp, fun b hw23 => ?_⟩
                cases b with
                | true =>
                  rw [if_pos hw23] at h
                  have ho2 := ho'.tl (isW_ne hw23)
                  have hb2 := ho2.hi
                  have hlen2 := ho2.len
                  conv => whnf
                  refine ⟨L, ts', rfl, ho', fun g => ?_, fun g => ?_⟩
                  · conv => whnf
                    rw [if_pos (by rw [List.length_map] at g; omega)] at h
                    exact h _ _
                  have hne : ¬ comps.length = 64 := by rw [List.length_map] at g; omega
                  rw [if_neg hne] at h
                  conv => whnf
                  refine ⟨L, ts'.tail, rfl, ho2, hdp, fun x hx3 => ?_⟩
                  rcases x with ⟨v3, ts3⟩ | ⟨r3, e3⟩
                  rotate_left
                  · rw [hx3, R.bind_err] at h; intro a9 d9; (conv => whnf); exact h _ _
                  rw [hx3, R.bind_ok] at h
                  intro a3 hle3 ho3
                  have hb3 := ho3.hi
                  obtain ⟨v3a, v3b, v3c, v3d, ⟨v3g, v3h, v3i, v3j, v3k, v3l⟩, v3f⟩ := v3
                  conv => whnf
                  have hlen3 := ho3.len
                  repeat (refine ⟨rfl, ?_⟩; conv => whnf)
                  refine ⟨List.forall_mem_singleton.2 rfl, (show ((comps.map (encCo (placeOf L en))).length + 1) * 232 ≤ 2 ^ 47 by rw [List.length_map]; omega), (show (comps.map (encCo (placeOf L en))).length + 1 ≤ 2 ^ 47 by rw [List.length_map]; omega), ?_⟩
                  conv => whnf
                  repeat (refine ⟨rfl, ?_⟩; conv => whnf)
                  refine ⟨⟨tys, rels, rules, comps ++ [.mk v3a v3b v3c v3d (.mk v3g v3h v3i v3j v3k v3l) v3f], inits, overs, a3, ts3, f, rfl, ?_, ho3, by omega, by omega, ?_, h⟩, ?_⟩
                  · rw [← map_snoc (encCo (placeOf L en)) comps]; rfl
                  · simp only [List.length_append, List.length_singleton]; omega
                  show ((L.length : Int) - a3).toNat < ((L.length : Int) - a').toNat
                  omega
                | false =>
                  rw [if_neg (by rw [hw23]; simp)] at h
                  conv => whnf
                  refine ⟨L, ts', rfl, ho', [[105, 110, 105, 116]], rfl, by simp, fun b hw24 => ?_⟩
                  cases b with
                  | true =>
                    rw [if_pos hw24] at h
                    have ho2 := ho'.tl (isW_ne hw24)
                    have hb2 := ho2.hi
                    have hlen2 := ho2.len
                    conv => whnf
                    refine ⟨L, ts', rfl, ho', fun g => ?_, fun g => ?_⟩
                    · conv => whnf
                      rw [if_pos (by rw [List.length_map] at g; omega)] at h
                      exact h _ _
                    have hne : ¬ inits.length = 256 := by rw [List.length_map] at g; omega
                    rw [if_neg hne] at h
                    conv => whnf
                    refine ⟨L, ts'.tail, rfl, ho2, ?_⟩
                    conv => whnf
                    rw [initF] at h
                    refine ⟨L, ts'.tail, rfl, ho2, fun x hx3 => ?_⟩
                    rcases x with ⟨v3, ts3⟩ | ⟨r3, e3⟩
                    rotate_left
                    · rw [hx3, R.bind_err, R.bind_err] at h; intro a9 d9; (conv => whnf); exact h _ _
                    rw [hx3, R.bind_ok] at h
                    intro a3 hle3 ho3
                    have hb3 := ho3.hi
                    conv => whnf
                    refine ⟨L, ts3, rfl, ho3, fun x hx4 => ?_⟩
                    rcases x with ⟨v4, ts4⟩ | ⟨r4, e4⟩
                    rotate_left
                    · rw [hx4, R.bind_err, R.bind_err] at h; intro a9 d9; (conv => whnf); exact h _ _
                    rw [hx4, R.bind_ok] at h
                    intro a4 hle4 ho4
                    have hb4 := ho4.hi
                    conv => whnf
                    refine ⟨L, ts4, rfl, ho4, fun x hx5 => ?_⟩
                    rcases x with ⟨v5, ts5⟩ | ⟨r5, e5⟩
                    rotate_left
                    · rw [hx5, R.bind_err, R.bind_err] at h; intro a9 d9; (conv => whnf); exact h _ _
                    rw [hx5, R.bind_ok] at h
                    intro a5 hle5 ho5
                    have hb5 := ho5.hi
                    conv => whnf
                    refine ⟨L, ts5, rfl, ho5, fun x hx6 => ?_⟩
                    rcases x with ⟨v6, ts6⟩ | ⟨r6, e6⟩
                    rotate_left
                    · rw [hx6, R.bind_err, R.bind_err] at h; intro a9 d9; (conv => whnf); exact h _ _
                    rw [hx6, R.bind_ok] at h
                    intro a6 hle6 ho6
                    have hb6 := ho6.hi
                    conv => whnf
                    rw [R.bind_ok] at h
                    have hlen6 := ho6.len
                    refine ⟨List.forall_mem_singleton.2 rfl, (show ((inits.map (encIn (placeOf L en))).length + 1) * 64 ≤ 2 ^ 47 by rw [List.length_map]; omega), (show (inits.map (encIn (placeOf L en))).length + 1 ≤ 2 ^ 47 by rw [List.length_map]; omega), ?_⟩
                    conv => whnf
                    repeat (refine ⟨rfl, ?_⟩; conv => whnf)
                    refine ⟨⟨tys, rels, rules, comps, inits ++ [⟨v3, v5, v6, ts'.tail.length⟩], overs, a6, ts6, f, rfl, ?_, ho6, by omega, by omega, ?_, h⟩, ?_⟩
                    · rw [← map_snoc (encIn (placeOf L en)) inits]; rfl
                    · simp only [List.length_append, List.length_singleton]; omega
                    show ((L.length : Int) - a6).toNat < ((L.length : Int) - a').toNat
                    omega
                  | false =>
                    rw [if_neg (by rw [hw24]; simp)] at h
                    conv => whnf
                    refine ⟨L, ts', rfl, ho', [[111, 118, 101, 114, 114, 105, 100, 101]], rfl, by simp, fun b hw25 => ?_⟩
                    cases b with
                    | true =>
                      rw [if_pos hw25] at h
                      have ho2 := ho'.tl (isW_ne hw25)
                      have hb2 := ho2.hi
                      have hlen2 := ho2.len
                      conv => whnf
                      refine ⟨L, ts', rfl, ho', fun g => ?_, fun g => ?_⟩
                      · conv => whnf
                        rw [if_pos (by rw [List.length_map] at g; omega)] at h
                        exact h _ _
                      have hne : ¬ overs.length = 256 := by rw [List.length_map] at g; omega
                      rw [if_neg hne] at h
                      conv => whnf
                      refine ⟨L, ts'.tail, rfl, ho2, ?_⟩
                      conv => whnf
                      rw [overF] at h
                      refine ⟨L, ts'.tail, rfl, ho2, fun x hx3 => ?_⟩
                      rcases x with ⟨v3, ts3⟩ | ⟨r3, e3⟩
                      rotate_left
                      · rw [hx3, R.bind_err, R.bind_err] at h; intro a9 d9; (conv => whnf); exact h _ _
                      rw [hx3, R.bind_ok, R.bind_ok] at h
                      intro a3 hle3 ho3
                      have hb3 := ho3.hi
                      have hlen3 := ho3.len
                      conv => whnf
                      refine ⟨List.forall_mem_singleton.2 rfl, (show ((overs.map (encOv (placeOf L en))).length + 1) * 24 ≤ 2 ^ 47 by rw [List.length_map]; omega), (show (overs.map (encOv (placeOf L en))).length + 1 ≤ 2 ^ 47 by rw [List.length_map]; omega), ?_⟩
                      conv => whnf
                      repeat (refine ⟨rfl, ?_⟩; conv => whnf)
                      refine ⟨⟨tys, rels, rules, comps, inits, overs ++ [⟨v3, ts'.tail.length⟩], a3, ts3, f, rfl, ?_, ho3, by omega, by omega, ?_, h⟩, ?_⟩
                      · rw [← map_snoc (encOv (placeOf L en)) overs]; rfl
                      · simp only [List.length_append, List.length_singleton]; omega
                      show ((L.length : Int) - a3).toNat < ((L.length : Int) - a').toNat
                      omega
                    | false =>
                      rw [if_neg (by rw [hw25]; simp)] at h
                      conv => whnf
                      refine ⟨L, ts', rfl, ho', fun b hn => ?_⟩
                      cases b with
                      | false =>
                        rw [if_neg (by rw [hn]; simp)] at h
                        conv => whnf
                        refine ⟨L, ts', rfl, ho', ?_⟩
                        conv => whnf
                        exact h _ _
                      | true =>
                        rw [if_pos hn] at h
                        conv => whnf
                        refine ⟨L, ts', rfl, ho', fun g => ?_, fun g => ?_⟩
                        · conv => whnf
                          rw [if_pos (by rw [List.length_map] at g; omega)] at h
                          exact h _ _
                        have hne : ¬ rules.length = 1024 := by rw [List.length_map] at g; omega
                        rw [if_neg hne] at h
                        conv => whnf
                        refine Or.inl ⟨InR.i64 (by omega) (by omega), ?_⟩
                        conv => whnf
                        rw [show a' + 1 - 1 = a' by omega]
                        refine ⟨L, ts', rfl, ho', hdp, fun x hx3 => ?_⟩
                        rcases x with ⟨v3, ts3⟩ | ⟨r3, e3⟩
                        rotate_left
                        · rw [hx3, R.bind_err] at h; intro a9 d9; (conv => whnf); exact h _ _
                        rw [hx3, R.bind_ok] at h
                        intro a3 hle3 ho3
                        have hb3 := ho3.hi
                        obtain ⟨v3a, v3b, v3c, v3d⟩ := v3
                        conv => whnf
                        have hlen3 := ho3.len
                        repeat (refine ⟨rfl, ?_⟩; conv => whnf)
                        refine ⟨List.forall_mem_singleton.2 rfl, (show ((rules.map (encRu (placeOf L en))).length + 1) * 72 ≤ 2 ^ 47 by rw [List.length_map]; omega), (show (rules.map (encRu (placeOf L en))).length + 1 ≤ 2 ^ 47 by rw [List.length_map]; omega), ?_⟩
                        conv => whnf
                        repeat (refine ⟨rfl, ?_⟩; conv => whnf)
                        refine ⟨⟨tys, rels, rules ++ [⟨v3a, v3b, v3c, v3d⟩], comps, inits, overs, a3, ts3, f, rfl, ?_, ho3, by omega, by omega, ?_, h⟩, ?_⟩
                        · rw [← map_snoc (encRu (placeOf L en)) rules]; rfl
                        · simp only [List.length_append, List.length_singleton]; omega
                        show ((L.length : Int) - a3).toNat < ((L.length : Int) - a').toNat
                        omega
      have hnil : ts' = [] := by have hc : ¬ a' < ((toksR L).length : Int) := hc; rw [toksR_len] at hc; exact List.eq_nil_of_length_eq_zero (by omega)
      rw [if_pos (.inl hnil)] at h
      conv => whnf
      have h := h _ (by omega) ho'
      simp only [aggD, encUn, encCos_eq, List.map_cons, List.map_nil] at h
      exact h
    · exact h.elim
  · exact h.elim
end Go.PM.Lex
end

section
set_option maxRecDepth 100000
set_option maxHeartbeats 4000000
namespace Go.PM.Lex
open Go.Proofs
variable {w0 : World} {nG : Nat}
/-! ### The small readers, put together -/
theorem cContains : PCalls (GG w0 nG) 167 spContains := contains_ok
theorem cPlace : PCalls (GG w0 nG) 91 spPlace := place_ok ⟨⟨more_ok, spMore_mono⟩, trivial⟩
theorem cIs : PCalls (GG w0 nG) 86 spIs := is_ok ⟨⟨more_ok, spMore_mono⟩, ⟨contains_ok, spContains_mono⟩, trivial⟩
theorem cNamed : PCalls (GG w0 nG) 95 (spAsk namedF) := named_ok ⟨⟨more_ok, spMore_mono⟩, ⟨kept_ok, spKept_mono⟩, trivial⟩
theorem cFail : PCalls (GG w0 nG) 85 spFail := fail_ok ⟨⟨cPlace, spPlace_mono⟩, trivial⟩
theorem cTake : PCalls (GG w0 nG) 104 spTake := take_ok ⟨⟨cIs, spIs_mono⟩, trivial⟩
theorem cMust : PCalls (GG w0 nG) 93 spMust := must_ok ⟨⟨cTake, spTake_mono⟩, ⟨cFail, spFail_mono⟩, trivial⟩
theorem cRoom : PCalls (GG w0 nG) 87 spRoom := room_ok ⟨⟨cFail, spFail_mono⟩, trivial⟩
theorem cPName : PCalls (GG w0 nG) 92 spNameP := pname_ok ⟨⟨cNamed, spAsk_mono _⟩, ⟨cFail, spFail_mono⟩, trivial⟩
theorem cStarts : PCalls (GG w0 nG) 184 (spAsk startsF) := starts_ok ⟨⟨more_ok, spMore_mono⟩, ⟨cIs, spIs_mono⟩, ⟨kept_ok, spKept_mono⟩, ⟨functor_ok, spFunctor_mono⟩, trivial⟩
theorem cBinary : PCalls (GG w0 nG) 181 spBin := binary_ok ⟨⟨more_ok, spMore_mono⟩, trivial⟩
theorem cField1 : PCalls (GG w0 nG) 239 spField1 := field1_ok ⟨⟨cPName, spR_mono _ _ _⟩, ⟨cMust, spMust_mono⟩, trivial⟩
theorem cFields : PCalls (GG w0 nG) 168 spFields := fields_ok ⟨⟨cIs, spIs_mono⟩, ⟨manyField_ok ⟨⟨cNamed, spAsk_mono _⟩, ⟨cFail, spFail_mono⟩, ⟨cField1, spR1_mono _ _ _⟩, ⟨cTake, spTake_mono⟩, trivial⟩, spManyField_mono⟩, trivial⟩
theorem cNames : PCalls (GG w0 nG) 94 spNames := names_ok ⟨⟨cTake, spTake_mono⟩, ⟨manyStr_ok ⟨⟨cNamed, spAsk_mono _⟩, ⟨cFail, spFail_mono⟩, ⟨cPName, spR_mono _ _ _⟩, ⟨cTake, spTake_mono⟩, trivial⟩, spManyStr_mono⟩, ⟨cMust, spMust_mono⟩, trivial⟩
theorem cCase1 : PCalls (GG w0 nG) 170 spCase1 := case1_ok ⟨⟨cPName, spR_mono _ _ _⟩, ⟨cMust, spMust_mono⟩, ⟨cFields, spFields_mono⟩, trivial⟩
theorem cTyped : PCalls (GG w0 nG) 88 spTyped := typed_ok ⟨⟨cPlace, spPlace_mono⟩, ⟨cPName, spR_mono _ _ _⟩, ⟨cTake, spTake_mono⟩, ⟨cMust, spMust_mono⟩, ⟨cFields, spFields_mono⟩, ⟨manyCase_ok ⟨⟨cNamed, spAsk_mono _⟩, ⟨cFail, spFail_mono⟩, ⟨cCase1, spR1_mono _ _ _⟩, ⟨cTake, spTake_mono⟩, trivial⟩, spManyCase_mono⟩, trivial⟩
theorem cDecl : PCalls (GG w0 nG) 89 spDecl := decl_ok ⟨⟨cPlace, spPlace_mono⟩, ⟨cPName, spR_mono _ _ _⟩, ⟨cTake, spTake_mono⟩, ⟨cMust, spMust_mono⟩, ⟨cFields, spFields_mono⟩, trivial⟩
theorem cIdx : PCalls (GG w0 nG) 244 spIdx := idx_ok ⟨⟨take1a_ok ⟨⟨cTake, spTake_mono⟩, trivial⟩, spTake1_mono⟩, ⟨take1b_ok ⟨⟨cTake, spTake_mono⟩, trivial⟩, spTake1_mono⟩, trivial⟩
/-! ### Expressions, by how deep they may nest -/
theorem manyExB_zero (h : Enters (GG w0 nG).P 183) : PCalls (GG w0 nG) 183 (spManyExB 0) := ⟨h, fun args σ K hs => by
  exfalso
  unfold spManyExB at hs
  split at hs
  · exact absurd hs.1.2.2.2.2.1 (by omega)
  · exact hs⟩
theorem manyExB_succ {d : Nat} (h : PCalls (GG w0 nG) 183 (spManyEx d)) : PCalls (GG w0 nG) 183 (spManyExB (d + 1)) := h.weaken1 fun args σ K hs => by
  unfold spManyExB at hs
  unfold spManyEx
  split at hs
  · obtain ⟨⟨h1, h2, h3, h4, h5, h6, h7⟩, hs⟩ := hs
    exact ⟨⟨h1, h2, h3, h4, by omega, h7⟩, hs⟩
  · exact hs.elim
theorem lineB_zero (d : Nat) (h : Enters (GG w0 nG).P 102) : PCalls (GG w0 nG) 102 (spLineB d 0) := ⟨h, fun args σ K hs => by
  exfalso
  unfold spLineB rdSp at hs
  split at hs
  · obtain ⟨L, ts, _, _, hs⟩ := hs
    split at hs
    · exact absurd hs.1.2.1 (by omega)
    · exact hs
  · exact hs⟩
theorem lineB_succ {d j : Nat} (h : PCalls (GG w0 nG) 102 (spLine d j)) : PCalls (GG w0 nG) 102 (spLineB d (j + 1)) := h.weaken1 fun args σ K hs => by
  unfold spLineB rdSp at hs
  unfold spLine rdSp
  split at hs
  · obtain ⟨L, ts, h1, h2, hs⟩ := hs
    refine ⟨L, ts, h1, h2, ?_⟩
    split at hs
    · exact ⟨⟨hs.1.1, hs.1.2.2.1, hs.1.2.2.2.1, by have := hs.1.2.2.2.2; omega⟩, hs.2⟩
    · exact hs.elim
  · exact hs
/-- What lies one deeper. -/
structure Deep (w0 : World) (nG d : Nat) : Prop where
  sg : PCalls (GG w0 nG) 180 (spSignedB d)
  ex : PCalls (GG w0 nG) 47 (spExprB d)
  many : PCalls (GG w0 nG) 183 (spManyExB d)
theorem cArgs_of {d : Nat} (D : Deep w0 nG d) : PCalls (GG w0 nG) 103 (spArgs d) := args_ok ⟨⟨(in_ok (tb := tblArgsW d) ⟨⟨cIs, spIs_mono⟩, ⟨cMust, spMust_mono⟩, ⟨cFail, spFail_mono⟩, ⟨(in_ok (tb := tblArgs1 d) ⟨⟨cIs, spIs_mono⟩, ⟨D.many, spManyExB_mono d⟩, trivial⟩ Tryz.func182 rfl (by kernel_rfl) (by kernel_rfl)), spIn_mono _ _⟩, trivial⟩ Tryz.func171 rfl (by kernel_rfl) (by kernel_rfl)), spIn_mono _ _⟩, trivial⟩
theorem cCall_of {d : Nat} (D : Deep w0 nG d) : PCalls (GG w0 nG) 294 (spCall d) := call_ok ⟨⟨(in_ok (tb := tblCallW d) ⟨⟨cIs, spIs_mono⟩, ⟨cMust, spMust_mono⟩, ⟨cFail, spFail_mono⟩, ⟨(inU_ok (tb := tblCall1 d) ⟨⟨cMust, spMust_mono⟩, ⟨D.ex, spRB_mono _ _ _ _⟩, trivial⟩ Tryz.func322 rfl (by kernel_rfl) (by kernel_rfl)), spInU_mono _ _ _⟩, trivial⟩ Tryz.func171 rfl (by kernel_rfl) (by kernel_rfl)), spIn_mono _ _⟩, trivial⟩
theorem cPrimary_of {d : Nat} (D : Deep w0 nG d) : PCalls (GG w0 nG) 243 (spPrimary d) := primary_ok ⟨⟨cStarts, spAsk_mono _⟩, ⟨cFail, spFail_mono⟩, ⟨more_ok, spMore_mono⟩, ⟨(in_ok (tb := tblPrimW d) ⟨⟨cIs, spIs_mono⟩, ⟨cMust, spMust_mono⟩, ⟨cFail, spFail_mono⟩, ⟨(in_ok (tb := tblPrim1 d) ⟨⟨D.ex, spRB_mono _ _ _ _⟩, trivial⟩ Tryz.func293 rfl (by kernel_rfl) (by kernel_rfl)), spIn_mono _ _⟩, trivial⟩ Tryz.func171 rfl (by kernel_rfl) (by kernel_rfl)), spIn_mono _ _⟩, ⟨cArgs_of D, spArgs_mono d⟩, ⟨cPName, spR_mono _ _ _⟩, ⟨cIs, spIs_mono⟩, ⟨functor_ok, spFunctor_mono⟩, ⟨cCall_of D, spCall_mono d⟩, trivial⟩
theorem cSigned_of {d : Nat} (D : Deep w0 nG d) : PCalls (GG w0 nG) 180 (spSigned d) := signed_ok ⟨⟨cPlace, spPlace_mono⟩, ⟨cIs, spIs_mono⟩, ⟨(in_ok (tb := tblSignW d) ⟨⟨cIs, spIs_mono⟩, ⟨cMust, spMust_mono⟩, ⟨cFail, spFail_mono⟩, ⟨(in_ok (tb := tblSign1 d) ⟨⟨D.sg, spRB_mono _ _ _ _⟩, trivial⟩ Tryz.func242 rfl (by kernel_rfl) (by kernel_rfl)), spIn_mono _ _⟩, trivial⟩ Tryz.func171 rfl (by kernel_rfl) (by kernel_rfl)), spIn_mono _ _⟩, ⟨cPrimary_of D, spRD_mono _ _ _ _⟩, trivial⟩
theorem cLine_of {d : Nat} (D : Deep w0 nG d) : ∀ j, PCalls (GG w0 nG) 102 (spLine d j)
  | 0 => line_ok ⟨⟨cSigned_of D, spRD_mono _ _ _ _⟩, ⟨cBinary, spBin_mono⟩, ⟨lineB_zero d (enters_of Tryz.func102 (by kernel_rfl) rfl), spLineB_mono d 0⟩, trivial⟩
  | j + 1 => line_ok ⟨⟨cSigned_of D, spRD_mono _ _ _ _⟩, ⟨cBinary, spBin_mono⟩, ⟨lineB_succ (cLine_of D j), spLineB_mono d (j + 1)⟩, trivial⟩
theorem cExpr_of {d : Nat} (D : Deep w0 nG d) : PCalls (GG w0 nG) 47 (spExpr d) := expr_ok ⟨⟨cLine_of D 6, spLine_mono d 6⟩, trivial⟩
theorem manyEx_of {d : Nat} (h : PCalls (GG w0 nG) 47 (spExpr d)) : PCalls (GG w0 nG) 183 (spManyEx d) := manyEx_ok d ⟨⟨cStarts, spAsk_mono _⟩, ⟨cFail, spFail_mono⟩, ⟨h, spRD_mono _ _ _ _⟩, ⟨cTake, spTake_mono⟩, trivial⟩
theorem deep : ∀ d, Deep w0 nG d
  | 0 => ⟨spRB_zero (enters_of Tryz.func180 (by kernel_rfl) rfl), spRB_zero (enters_of Tryz.func47 (by kernel_rfl) rfl), manyExB_zero (enters_of Tryz.func183 (by kernel_rfl) rfl)⟩
  | d + 1 => ⟨spRB_succ (cSigned_of (deep d)), spRB_succ (cExpr_of (deep d)), manyExB_succ (manyEx_of (cExpr_of (deep d)))⟩
theorem cArgs (d : Nat) : PCalls (GG w0 nG) 103 (spArgs d) := cArgs_of (deep d)
theorem cExpr (d : Nat) : PCalls (GG w0 nG) 47 (spExpr d) := cExpr_of (deep d)
/-! ### Bodies -/
theorem cBody1 : PCalls (GG w0 nG) 186 (spAsk1 litStarts) := body1_ok ⟨⟨cStarts, spAsk_mono _⟩, ⟨cIs, spIs_mono⟩, trivial⟩
theorem cLit_of {d : Nat} (h : PCalls (GG w0 nG) 105 (spBodyB d)) : PCalls (GG w0 nG) 187 (spLit d) := lit_ok ⟨⟨cPlace, spPlace_mono⟩, ⟨cTake, spTake_mono⟩, ⟨more_ok, spMore_mono⟩, ⟨cNamed, spAsk_mono _⟩, ⟨cPName, spR_mono _ _ _⟩, ⟨cArgs d, spArgs_mono d⟩, ⟨cExpr d, spRD_mono _ _ _ _⟩, ⟨cIdx, spIdx_mono⟩, ⟨cFail, spFail_mono⟩, ⟨cMust, spMust_mono⟩, ⟨(in_ok (tb := tblLitW d) ⟨⟨cIs, spIs_mono⟩, ⟨cMust, spMust_mono⟩, ⟨cFail, spFail_mono⟩, ⟨(in_ok (tb := tblLit1 d) ⟨⟨h, spRB_mono _ _ _ _⟩, trivial⟩ Tryz.func247 rfl (by kernel_rfl) (by kernel_rfl)), spIn_mono _ _⟩, trivial⟩ Tryz.func171 rfl (by kernel_rfl) (by kernel_rfl)), spIn_mono _ _⟩, trivial⟩
theorem cBody_of {d : Nat} (h : PCalls (GG w0 nG) 105 (spBodyB d)) : PCalls (GG w0 nG) 105 (spBody d) := body_ok ⟨⟨manyLi_ok d ⟨⟨cBody1, spAsk1_mono _⟩, ⟨cFail, spFail_mono⟩, ⟨cLit_of h, spRD_mono _ _ _ _⟩, ⟨cTake, spTake_mono⟩, trivial⟩, spManyLi_mono d⟩, trivial⟩
theorem cBodyB : ∀ d, PCalls (GG w0 nG) 105 (spBodyB d)
  | 0 => spRB_zero (enters_of Tryz.func105 (by kernel_rfl) rfl)
  | d + 1 => spRB_succ (cBody_of (cBodyB d))
theorem cBody (d : Nat) : PCalls (GG w0 nG) 105 (spBody d) := cBody_of (cBodyB d)
theorem cRule (d : Nat) : PCalls (GG w0 nG) 49 (spRule d) := rule_ok ⟨⟨cPlace, spPlace_mono⟩, ⟨cPName, spR_mono _ _ _⟩, ⟨cArgs d, spArgs_mono d⟩, ⟨cTake, spTake_mono⟩, ⟨cBody d, spRD_mono _ _ _ _⟩, ⟨cMust, spMust_mono⟩, trivial⟩
/-! ### Units -/
theorem unitB_zero (h : Enters (GG w0 nG).P 39) : PCalls (GG w0 nG) 39 (spUnitB 0) := ⟨h, fun args σ K hs => by
  exfalso
  unfold spUnitB rdSp at hs
  split at hs
  · obtain ⟨L, ts, _, _, hs⟩ := hs
    split at hs
    · exact absurd hs.1.1 (by omega)
    · exact hs
  · exact hs⟩
theorem unitB_succ {d : Nat} (h : PCalls (GG w0 nG) 39 (spUnit d)) : PCalls (GG w0 nG) 39 (spUnitB (d + 1)) := h.weaken1 fun args σ K hs => by
  unfold spUnitB rdSp at hs
  unfold spUnit rdSp
  split at hs
  · obtain ⟨L, ts, h1, h2, hs⟩ := hs
    refine ⟨L, ts, h1, h2, ?_⟩
    split at hs
    · obtain ⟨⟨g1, g2, g3, rfl⟩, hs⟩ := hs
      refine ⟨by omega, ?_⟩
      rw [unitB, unitD_eq] at hs
      exact hs
    · exact hs.elim
  · exact hs
theorem cComp_of {d : Nat} (h : PCalls (GG w0 nG) 39 (spUnitB d)) : PCalls (GG w0 nG) 90 (spComp d) := comp_ok ⟨⟨cPlace, spPlace_mono⟩, ⟨cPName, spR_mono _ _ _⟩, ⟨cNames, spR_mono _ _ _⟩, ⟨cTake, spTake_mono⟩, ⟨(in_ok (tb := tblCompW d) ⟨⟨cIs, spIs_mono⟩, ⟨cMust, spMust_mono⟩, ⟨cFail, spFail_mono⟩, ⟨(in_ok (tb := tblComp1 d) ⟨⟨h, spUnitB_mono d⟩, trivial⟩ Tryz.func172 rfl (by kernel_rfl) (by kernel_rfl)), spIn_mono _ _⟩, trivial⟩ Tryz.func171 rfl (by kernel_rfl) (by kernel_rfl)), spIn_mono _ _⟩, trivial⟩
theorem cUnit_of {d : Nat} (h : PCalls (GG w0 nG) 39 (spUnitB d)) : PCalls (GG w0 nG) 39 (spUnit d) := unit_ok ⟨⟨cIs, spIs_mono⟩, ⟨cRoom, spRoom_mono⟩, ⟨cTyped, spR_mono _ _ _⟩, ⟨cDecl, spR_mono _ _ _⟩, ⟨cComp_of h, spRD_mono _ _ _ _⟩, ⟨cPlace, spPlace_mono⟩, ⟨cPName, spR_mono _ _ _⟩, ⟨cMust, spMust_mono⟩, ⟨cNames, spR_mono _ _ _⟩, ⟨cNamed, spAsk_mono _⟩, ⟨cRule d, spRule_mono d⟩, ⟨cFail, spFail_mono⟩, trivial⟩
theorem cUnitB : ∀ d, PCalls (GG w0 nG) 39 (spUnitB d)
  | 0 => unitB_zero (enters_of Tryz.func39 (by kernel_rfl) rfl)
  | d + 1 => unitB_succ (cUnit_of (cUnitB d))
theorem cUnit (d : Nat) : PCalls (GG w0 nG) 39 (spUnit d) := cUnit_of (cUnitB d)
end Go.PM.Lex
end

section
set_option maxRecDepth 100000
set_option maxHeartbeats 4000000
namespace Go.PM.Lex
open Go.Proofs
/-! ### What a reader gives up with is an error -/
def R.good {α : Type} (x : R α) : Prop := match x with | .ok _ _ => True | .err _ e => e ≠ 0
theorem R.good_bind {α β : Type} {x : R α} {f : α → Ts → R β} (h : x.good) (hf : ∀ a ts, (f a ts).good) : (x.bind f).good := by
  cases x with
  | ok a ts => exact hf a ts
  | err r e => exact h
theorem R.good_ok {α : Type} (a : α) (ts : Ts) : (R.ok a ts : R α).good := trivial
theorem R.good_ite {α : Type} {c : Prop} [Decidable c] {x y : R α} (h1 : x.good) (h2 : y.good) : (if c then x else y).good := by split; exact h1; exact h2
theorem R.good_err {α : Type} {r e : Nat} (h : e ≠ 0) : (R.err r e : R α).good := h
theorem must_good (w : Bs) (ts : Ts) : (mustF w ts).good := R.good_ite trivial (R.good_err (by decide))
theorem nameP_good (ts : Ts) : (nameP ts).good := R.good_ite trivial (R.good_err (by decide))
theorem within_good {α : Type} {d : Nat} {fr to : Bs} {read : Ts → R α} (h : ∀ ts, (read ts).good) (ts : Ts) : (withinF d fr to read ts).good :=
  R.good_ite (R.good_ite (R.good_err (by decide)) (R.good_bind (h _) fun _ _ => R.good_ite trivial (R.good_bind (must_good _ _) fun _ _ => trivial))) (R.good_err (by decide))
theorem manyGo_good {α : Type} {sign : Bs} {most : Nat} {st : Ts → Bool} {one : Ts → R α} (h : ∀ ts, (one ts).good) : ∀ f l ts, (manyGo sign most st one f l ts).good
  | 0, _, _ => R.good_err (by decide)
  | f + 1, l, ts => R.good_ite (R.good_err (by decide)) (R.good_bind (h _) fun _ _ => R.good_ite (manyGo_good h f _ _) trivial)
theorem many_good {α : Type} {sign : Bs} {most : Nat} {st : Ts → Bool} {one : Ts → R α} (h : ∀ ts, (one ts).good) (ts : Ts) : (manyF sign most st one ts).good := manyGo_good h _ _ _
theorem field_good (ts : Ts) : (fieldF ts).good := R.good_bind (nameP_good _) fun _ _ => R.good_bind (must_good _ _) fun _ _ => R.good_bind (nameP_good _) fun _ _ => trivial
theorem fields_good (w : Bs) (ts : Ts) : (fieldsF w ts).good := R.good_ite trivial (many_good field_good _)
theorem names_good (ts : Ts) : (namesF ts).good := R.good_ite (R.good_bind (many_good nameP_good _) fun _ _ => R.good_bind (must_good _ _) fun _ _ => trivial) trivial
theorem case_good (ts : Ts) : (caseF ts).good := R.good_bind (nameP_good _) fun _ _ => R.good_bind (must_good _ _) fun _ _ => R.good_bind (fields_good _ _) fun _ _ => R.good_bind (must_good _ _) fun _ _ => trivial
theorem typed_good (ts : Ts) : (typedF ts).good := R.good_bind (nameP_good _) fun _ _ => R.good_ite (R.good_bind (nameP_good _) fun _ _ => trivial) (R.good_bind (must_good _ _) fun _ _ =>
  R.good_ite (R.good_bind (fields_good _ _) fun _ _ => R.good_bind (must_good _ _) fun _ _ => trivial) (R.good_bind (many_good case_good _) fun _ _ => trivial))
theorem decl_good (ts : Ts) : (declF ts).good := R.good_bind (nameP_good _) fun _ _ => R.good_bind (must_good _ _) fun _ _ => R.good_bind (fields_good _ _) fun _ _ => R.good_bind (must_good _ _) fun _ _ => trivial
theorem args_good {d : Nat} {ex : Ts → R Ex} (h : ∀ ts, (ex ts).good) (fr to : Bs) (ts : Ts) : (argsF d ex fr to ts).good := by
  unfold argsF
  exact within_good (fun ts => R.good_ite (R.good_ok _ _) (many_good h _)) ts
theorem callGo_good {ex : Ts → R Ex} (h : ∀ ts, (ex ts).good) : ∀ k l ts, (callGo ex k l ts).good
  | 0, _, _ => trivial
  | k + 1, l, ts => R.good_bind (R.good_ite trivial (must_good _ _)) fun _ _ => R.good_bind (h _) fun _ _ => callGo_good h k _ _
theorem primary_good {d : Nat} {ex : Ts → R Ex} (h : ∀ ts, (ex ts).good) (ts : Ts) : (primaryF d ex ts).good :=
  R.good_ite (R.good_err (by decide)) <| R.good_ite trivial <| R.good_ite trivial <| R.good_ite (within_good h _) <| R.good_ite (R.good_bind (args_good h _ _ _) fun _ _ => trivial) <|
  R.good_ite (R.good_bind (nameP_good _) fun _ _ => R.good_ite (R.good_bind (args_good h _ _ _) fun _ _ => trivial) trivial) <|
  R.good_ite (R.good_bind (within_good (callGo_good h _ _) _) fun _ _ => trivial) <| R.good_ite trivial <| R.good_ite trivial trivial
theorem lineGo_good {sub : Nat → Ts → R Ex} (h : ∀ n ts, (sub n ts).good) (least : Nat) : ∀ f e ts, (lineGo sub least f e ts).good
  | 0, _, _ => R.good_err (by decide)
  | f + 1, e, ts => R.good_ite trivial (R.good_bind (h _ _) fun _ _ => lineGo_good h least f _ _)
theorem lineK_good {sg : Ts → R Ex} (h : ∀ ts, (sg ts).good) : ∀ k least ts, (lineK sg k least ts).good
  | 0, _, _ => h _
  | k + 1, least, ts => R.good_bind (h _) fun _ _ => lineGo_good (fun n ts => lineK_good h k n ts) _ _ _ _
theorem signedF_good {d : Nat} {sg : Ts → R Ex} (h : ∀ ts, (sg ts).good) (ts : Ts) : (signedF d sg ts).good :=
  R.good_ite (R.good_bind (within_good h _) fun _ _ => trivial) <| R.good_ite (R.good_bind (within_good h _) fun _ _ => trivial) (primary_good (fun ts => lineK_good h _ _ _) _)
theorem signed_good : ∀ d ts, (signedD d ts).good
  | 0, ts => signedF_good (fun _ => (R.good_err (by decide))) ts
  | d + 1, ts => signedF_good (signed_good d) ts
theorem expr_good (d : Nat) (ts : Ts) : (exprD d ts).good := lineK_good (signed_good d) _ _ _
theorem exprB_good : ∀ d ts, (exprB d ts).good
  | 0, _ => (R.good_err (by decide))
  | d + 1, ts => expr_good d ts
theorem litOp_good (ts : Ts) : (litOp ts).good := by
  unfold litOp
  split
  · exact R.good_err (by decide)
  · split <;> trivial
  · trivial
theorem litAtom_good (d op a : Nat) (ts : Ts) : (litAtom d op a ts).good := R.good_bind (nameP_good _) fun _ _ => R.good_bind (args_good (exprB_good d) _ _ _) fun _ _ => trivial
theorem litEnd_good {d : Nat} {bd : Ts → R (List Li)} (h : ∀ ts, (bd ts).good) (a op : Nat) (l : List Ex) (ts : Ts) : (litEnd d bd a op l ts).good :=
  R.good_ite (R.good_bind (must_good _ _) fun _ _ => R.good_bind (within_good h _) fun _ _ => trivial) trivial
theorem lit_good {d : Nat} {bd : Ts → R (List Li)} (h : ∀ ts, (bd ts).good) (ts : Ts) : (litF d bd ts).good :=
  R.good_ite (litAtom_good _ _ _ _) <| R.good_ite (litAtom_good _ _ _ _) <| R.good_bind (expr_good _ _) fun _ _ => R.good_bind (litOp_good _) fun _ _ => R.good_ite (litEnd_good h _ _ _ _) (R.good_bind (expr_good _ _) fun _ _ => litEnd_good h _ _ _ _)
theorem body_good : ∀ d ts, (bodyD d ts).good
  | 0, ts => many_good (lit_good fun _ => (R.good_err (by decide))) ts
  | d + 1, ts => many_good (lit_good (body_good d)) ts
theorem rule_good (d : Nat) (b : Bool) (ts : Ts) : (ruleF d b ts).good := R.good_bind (nameP_good _) fun _ _ => R.good_bind (args_good (exprB_good d) _ _ _) fun _ _ =>
  R.good_ite (R.good_bind (body_good _ _) fun _ _ => R.good_bind (must_good _ _) fun _ _ => trivial) (R.good_bind (must_good _ _) fun _ _ => trivial)
theorem comp_good {d : Nat} {un : Ts → R Un} (h : ∀ ts, (un ts).good) (ts : Ts) : (compF d un ts).good := R.good_bind (nameP_good _) fun _ _ => R.good_bind (names_good _) fun _ _ =>
  R.good_ite (R.good_bind (nameP_good _) fun _ _ => R.good_bind (names_good _) fun _ _ => R.good_bind (within_good h _) fun _ _ => trivial) (R.good_bind (within_good h _) fun _ _ => trivial)
theorem init_good (ts : Ts) : (initF ts).good := R.good_bind (nameP_good _) fun _ _ => R.good_bind (must_good _ _) fun _ _ => R.good_bind (nameP_good _) fun _ _ => R.good_bind (names_good _) fun _ _ => trivial
theorem over_good (ts : Ts) : (overF ts).good := R.good_bind (nameP_good _) fun _ _ => trivial
theorem unitGo_good {b : Bool} {d : Nat} {un : Ts → R Un} (h : ∀ ts, (un ts).good) : ∀ f u ts, (unitGo b d un f u ts).good
  | 0, _, _ => R.good_err (by decide)
  | f + 1, .mk tys rels rules comps inits overs, ts => by
    rw [unitGo_eq]
    exact R.good_ite trivial <| R.good_ite (R.good_ite (R.good_err (by decide)) (R.good_bind (typed_good _) fun _ _ => unitGo_good h f _ _)) <| R.good_ite (R.good_ite (R.good_err (by decide)) (R.good_bind (decl_good _) fun _ _ => unitGo_good h f _ _)) <|
      R.good_ite (R.good_ite (R.good_err (by decide)) (R.good_bind (comp_good h _) fun _ _ => unitGo_good h f _ _)) <| R.good_ite (R.good_ite (R.good_err (by decide)) (R.good_bind (init_good _) fun _ _ => unitGo_good h f _ _)) <|
      R.good_ite (R.good_ite (R.good_err (by decide)) (R.good_bind (over_good _) fun _ _ => unitGo_good h f _ _)) <| R.good_ite (R.good_ite (R.good_err (by decide)) (R.good_bind (rule_good _ _ _) fun _ _ => unitGo_good h f _ _)) (R.good_err (by decide))
theorem unitD_good : ∀ d ts, (unitD d ts).good
  | 0, ts => unitGo_good (fun _ => (R.good_err (by decide))) _ _ _
  | d + 1, ts => unitGo_good (unitD_good d) _ _ _
theorem unitTop_good (ts : Ts) : (unitTop ts).good := unitGo_good (unitD_good 63) _ _ _
theorem factsGo_good : ∀ f l ts, (factsGo f l ts).good
  | 0, _, _ => R.good_err (by decide)
  | f + 1, l, ts => R.good_ite trivial (R.good_bind (rule_good _ _ _) fun _ _ => factsGo_good f _ _)
theorem factsTop_good (ts : Ts) : (factsTop ts).good := factsGo_good _ _ _
/-! ### Whole texts -/
theorem nextF_room {a : Nat} {r : Bs} {room : Bool} {t : Tok} (h : nextF a r room = .tok t) : room = true := by
  cases room with
  | true => rfl
  | false =>
    unfold nextF at h
    simp only at h
    split at h
    · cases h
    · simp at h
theorem allGo_le : ∀ (f : Nat) (m : Int) (a : Nat) (r : Bs), (allGo f m a r).1.length ≤ m.toNat
  | 0, m, a, r => by simp [allGo]
  | f + 1, m, a, r => by
    unfold allGo
    split
    · simp
    · simp only
      split
      · simp
      · split
        · simp
        · rename_i t ht
          have hr := nextF_room ht
          rw [decide_eq_true_eq] at hr
          have := allGo_le f (m - 1) t.fin ((r.drop (blankF r).2).drop (t.fin - (a + (blankF r).2)))
          simp only [List.length_cons]
          omega
theorem allF_le (s : Bs) (m : Int) : (allF s m).1.length ≤ m.toNat := allGo_le _ _ _ _
/-- What a whole text is read as: a value (and its tokens), or an error and its place. -/
inductive Top (α : Type) where
  | ok (v : α) (L : List Tok) | err (p : Int) (e : Nat)
def readTop {α : Type} (bytes most : Nat) (P : Ts → R α) (s : Bs) : Top α :=
  if bytes < s.length then .err 0 3
  else if (allF s most).2.2 ≠ 0 then .err (allF s most).2.1 (allF s most).2.2
  else match P ((allF s most).1.map Tok.t0) with
    | .ok v [] => .ok v (allF s most).1
    | .ok v (_ :: ts) => .err (placeOf (allF s most).1 s.length (ts.length + 1)) 150
    | .err r e => .err (placeOf (allF s most).1 s.length r) e
theorem readTop_err {α : Type} {bytes most : Nat} {P : Ts → R α} (hP : ∀ ts, (P ts).good) {s : Bs} {p : Int} {e : Nat} (h : readTop bytes most P s = .err p e) : e ≠ 0 := by
  unfold readTop at h
  split at h
  · cases h; decide
  · split at h
    · rename_i hn; cases h; exact hn
    · split at h
      · cases h
      · cases h; decide
      · rename_i r e' he
        cases h
        have := hP ((allF s most).1.map Tok.t0)
        rw [he] at this; exact this
end Go.PM.Lex
end

section
set_option maxRecDepth 100000
set_option maxHeartbeats 4000000
namespace Go.PM.Lex
open Go.Proofs
variable {w0 : World} {nG : Nat}
/-- fathom/lex.Tokens, told by what it comes to. -/
noncomputable def spTokQ : Spec := fun args σ K => match args, σ with
  | [.d (.str s), .d (.int .i64 m)], ⟨[], [], 0⟩ => s.length < 4294967281 ∧
      ∀ l p c, allF s m = (l, (p, c)) → (c = 0 → K (.ret (.tuple [.d (.sl (toksR l)), .d (.int .i64 p), .d (.int .i64 0)])) ⟨[], [], 0⟩) ∧
        (c ≠ 0 → K (.ret (.tuple [.d (.sl []), .d (.int .i64 p), .d (.int .i64 c)])) ⟨[], [], 0⟩)
  | _, _ => False
theorem spTokQ_mono : SpecMono spTokQ := fun args σ K K' hK h => by
  unfold spTokQ at h ⊢
  split at h
  · exact ⟨h.1, fun l p c hx => ⟨fun g => hK _ _ ((h.2 l p c hx).1 g), fun g => hK _ _ ((h.2 l p c hx).2 g)⟩⟩
  · exact h.elim
theorem tokQ_of (h : PCalls (GG w0 nG) 83 spTokens) : PCalls (GG w0 nG) 83 spTokQ := h.weaken1 fun args σ K hs => by
  unfold spTokQ at hs
  unfold spTokens
  split at hs
  · rename_i s m
    obtain ⟨h1, hs⟩ := hs
    refine ⟨h1, ?_⟩
    have hs := hs (allF s m).1 (allF s m).2.1 (allF s m).2.2 rfl
    by_cases hc : (allF s m).2.2 = 0
    · rw [if_pos hc, hc]; exact hs.1 hc
    · rw [if_neg hc]; exact hs.2 hc
  · exact hs.elim
/-! ### The deferred function -/
noncomputable def recOf : Nat × Nat × Code := match recB (bodyOf Tryz.f84) with | some x => x | none => (0, 0, .skip)
noncomputable def spDefR : List PV → St → (St → Prop) → Prop := fun args σ K => args.length ≤ Tryz.f84.ntmps ∧ W (ctx Tab0 [] (loopsOf [])) recOf.2.2 (recQ Tab0 Tryz.f84 σ.bx.length K) (fset (fset (argF 0 args) recOf.1 (.d .nili)) recOf.2.1 (.d .nili)) σ
noncomputable def spDefP : PV → List PV → St → (St → Prop) → Prop := fun pv args σ K => args.length ≤ Tryz.f84.ntmps ∧ W (ctx Tab0 [] (loopsOf [])) recOf.2.2 (recQ Tab0 Tryz.f84 σ.bx.length K) (fset (fset (argF 0 args) recOf.1 pv) recOf.2.1 pv) σ
theorem def_ok : PDef (GG w0 nG) 84 spDefR spDefP :=
  pdef_of (a := recOf.1) (b := recOf.2.1) (rest := recOf.2.2) tab_ok mixed (tbl := []) trivial Tryz.func84 rfl (by kernel_rfl) rfl (by kernel_rfl) (fun args σ K h => ⟨loopsOf [], σ.bx.length, Nat.le_refl _, h.1, h.2⟩) (fun pv args σ K h => ⟨loopsOf [], σ.bx.length, Nat.le_refl _, h.1, h.2⟩)
/-- What 'whole' leaves: the value in the box that its reader fills. -/
def WhK {α : Type} (tU : TypeId) (enc : List Tok → Int → α → List PV) (bad : List PV → Prop) (n : Int) (x : Top α) (K : PEnd → St → Prop) : Prop := match x with
  | .ok v L => K (.ret (.tuple [.d (.int .i64 0), .d (.int .i64 0)])) ⟨[.cells tU (enc L n v)], [], 0⟩
  | .err p e => ∀ cs, bad cs → K (.ret (.tuple [.d (.int .i64 p), .d (.int .i64 e)])) ⟨[.cells tU cs], [], 0⟩
theorem WhK_mono {α : Type} {tU : TypeId} {enc : List Tok → Int → α → List PV} {bad : List PV → Prop} {n : Int} {x : Top α} {K K' : PEnd → St → Prop} (hK : ∀ e σ, K e σ → K' e σ) (h : WhK tU enc bad n x K) : WhK tU enc bad n x K' := by
  cases x with
  | ok v L => exact hK _ _ h
  | err p e => exact fun cs hb => hK _ _ (h cs hb)
theorem ROK_start {l : List Tok} (h : l.length ≤ 1048576) : ROK l 0 (l.map Tok.t0) := ⟨by omega, by omega, h, by simp [tz]⟩
def badU (cs : List PV) : Prop := ∃ a b c d e f : List (List D), cs = [.d (.sl a), .d (.sl b), .d (.sl c), .d (.sl d), .d (.sl e), .d (.sl f)]
def badE (cs : List PV) : Prop := ∃ (a : Int) (b : Bs) (c : Int) (d : List (List D)) (e : Int), cs = [.d (.int .u8 a), .d (.str b), .d (.int .i64 c), .d (.sl d), .d (.int .i64 e)]
noncomputable def tblUnit1 : Tbl := [(39, spUnit 64)]
noncomputable def tblExpr1 : Tbl := [(47, spExpr 64)]
noncomputable def spWhU : Spec := fun args σ K => match args, σ with
  | [.d (.str s), .d (.int .i64 by'), .d (.int .i64 most), .func g [] [.ptr 0 0]], ⟨[.cells tU c0], tk, n⟩ => (g = 38 ∧ by' = 65536 ∧ most = 16384 ∧ c0 = [.sl 0 57 [], .sl 1 44 [], .sl 2 52 [], .sl 3 62 [], .sl 4 64 [], .sl 5 87 []] ∧ tk = [5, 4, 3, 2, 1, 0] ∧ n = 6) ∧ s.length < 4294967281 ∧
      ∀ x, readTop 65536 16384 unitTop s = x → WhK tU (fun L n (v : Un) => (encUn (placeOf L n) v).map .d) badU s.length x K
  | _, _ => False
theorem spWhU_mono : SpecMono spWhU := fun args σ K K' hK h => by
  unfold spWhU at h ⊢
  split at h
  · exact ⟨h.1, h.2.1, fun x hx => WhK_mono hK (h.2.2 x hx)⟩
  · exact h.elim
noncomputable def tblWhU : Tbl := [(83, spTokQ), (38, spIn Tryz.f38 tblUnit1), (85, spFail)]
theorem wholeU_ok (ht : TblOK (GG w0 nG) tblWhU) : PCalls (GG w0 nG) 37 spWhU := by
  refine pcallsD tab_ok mixed (tbl := tblWhU) ht Tryz.func37 rfl (by kernel_rfl) (by kernel_rfl) def_ok ?_
  intro args σ K h
  unfold spWhU at h
  split at h
  · obtain ⟨⟨rfl, rfl, rfl, rfl, rfl, rfl⟩, hs, h⟩ := h
    rename_i s tU
    have h := h _ rfl
    refine ⟨loopsOf [], unrOf [], tieOf [], 1, false, by simp, Nat.le_of_ble_eq_true rfl, ?_⟩
    unfold readTop at h
    conv => whnf
    refine CondP.dec (fun hc => ?_) (fun hc => ?_)
    · rw [if_pos (by omega)] at h
      conv => whnf
      exact h _ ⟨_, _, _, _, _, _, rfl⟩
    rw [if_neg (by omega)] at h
    conv => whnf
    refine ⟨hs, fun l p c hx => ?_⟩
    have hlen := allF_le s 16384
    rw [show ((16384 : Nat) : Int) = 16384 from rfl, hx] at h
    rw [hx] at hlen
    refine ⟨fun h0 => ?_, fun h0 => ?_⟩
    · subst h0
      rw [if_neg (by simp)] at h
      simp only at h hlen
      have ho := ROK_start (l := l) (by simp at hlen; omega)
      clear hx hlen
      generalize hts : l.map Tok.t0 = ts at h ho
      conv => whnf
      refine ⟨_, fun _ _ h => h, Nat.le_of_ble_eq_true rfl, ?_⟩
      conv => whnf
      refine ⟨l, ts, rfl, ho, by omega, fun x hx => ?_⟩
      rw [show unitTop ts = unitT false 64 ts from rfl, hx] at h
      rcases x with ⟨⟨v1, v2, v3, v4, v5, v6⟩, ts2⟩ | ⟨r, e⟩
      rotate_left
      · intro a9 d9; (conv => whnf); refine ⟨Nat.le_of_ble_eq_true rfl, ?_⟩; (conv => whnf); (repeat (refine ⟨rfl, ?_⟩; conv => whnf)); exact h _ ⟨_, _, _, _, _, _, rfl⟩
      intro a2 hle2 ho2
      conv => whnf
      have hl2 := ho2.len
      (repeat (refine ⟨rfl, ?_⟩; conv => whnf))
      refine CondP.dec (fun hc3 => ?_) (fun hc3 => ?_)
      · have hc3 : a2 < l.length := by have hc3 : a2 < ((toksR l).length : Int) := hc3; rw [toksR_len] at hc3; exact hc3
        cases ts2 with
        | nil => simp at hl2; omega
        | cons t0 ts3 =>
          conv => whnf
          refine ⟨l, _, rfl, ho2, ?_⟩
          conv => whnf
          refine ⟨Nat.le_of_ble_eq_true rfl, ?_⟩
          conv => whnf
          (repeat (refine ⟨rfl, ?_⟩; conv => whnf))
          exact h _ ⟨_, _, _, _, _, _, rfl⟩
      have hc3 : ¬ a2 < l.length := by have hc3 : ¬ a2 < ((toksR l).length : Int) := hc3; rw [toksR_len] at hc3; exact hc3
      obtain rfl : ts2 = [] := List.eq_nil_of_length_eq_zero (by omega)
      conv => whnf
      refine ⟨Nat.le_of_ble_eq_true rfl, ?_⟩
      conv => whnf
      exact h
    rw [if_pos h0] at h
    conv => whnf
    refine CondP.ndec (fun hc2 => ?_) (fun hc2 => absurd (show c = 0 by omega) h0)
    conv => whnf
    (repeat (refine ⟨rfl, ?_⟩; conv => whnf))
    exact h _ ⟨_, _, _, _, _, _, rfl⟩
  · exact h.elim
noncomputable def spWhE : Spec := fun args σ K => match args, σ with
  | [.d (.str s), .d (.int .i64 by'), .d (.int .i64 most), .func g [] [.ptr 0 0]], ⟨[.cells tU c0], tk, n⟩ => (g = 46 ∧ by' = 65536 ∧ most = 16384 ∧ c0 = [.d (.int .u8 0), .d (.str []), .d (.int .i64 0), .sl 0 49 [], .d (.int .i64 0)] ∧ tk = [0] ∧ n = 1) ∧ s.length < 4294967281 ∧
      ∀ x, readTop 65536 16384 (exprD 64) s = x → WhK tU (fun L n (v : Ex) => (encE (placeOf L n) v).map .d) badE s.length x K
  | _, _ => False
theorem spWhE_mono : SpecMono spWhE := fun args σ K K' hK h => by
  unfold spWhE at h ⊢
  split at h
  · exact ⟨h.1, h.2.1, fun x hx => WhK_mono hK (h.2.2 x hx)⟩
  · exact h.elim
noncomputable def tblWhE : Tbl := [(83, spTokQ), (46, spIn Tryz.f46 tblExpr1), (85, spFail)]
theorem wholeE_ok (ht : TblOK (GG w0 nG) tblWhE) : PCalls (GG w0 nG) 37 spWhE := by
  refine pcallsD tab_ok mixed (tbl := tblWhE) ht Tryz.func37 rfl (by kernel_rfl) (by kernel_rfl) def_ok ?_
  intro args σ K h
  unfold spWhE at h
  split at h
  · obtain ⟨⟨rfl, rfl, rfl, rfl, rfl, rfl⟩, hs, h⟩ := h
    rename_i s tU
    have h := h _ rfl
    refine ⟨loopsOf [], unrOf [], tieOf [], 1, false, by simp, Nat.le_of_ble_eq_true rfl, ?_⟩
    unfold readTop at h
    conv => whnf
    refine CondP.dec (fun hc => ?_) (fun hc => ?_)
    · rw [if_pos (by omega)] at h
      conv => whnf
      exact h _ ⟨_, _, _, _, _, rfl⟩
    rw [if_neg (by omega)] at h
    conv => whnf
    refine ⟨hs, fun l p c hx => ?_⟩
    have hlen := allF_le s 16384
    rw [show ((16384 : Nat) : Int) = 16384 from rfl, hx] at h
    rw [hx] at hlen
    refine ⟨fun h0 => ?_, fun h0 => ?_⟩
    · subst h0
      rw [if_neg (by simp)] at h
      simp only at h hlen
      have ho := ROK_start (l := l) (by simp at hlen; omega)
      clear hx hlen
      generalize hts : l.map Tok.t0 = ts at h ho
      conv => whnf
      refine ⟨_, fun _ _ h => h, Nat.le_of_ble_eq_true rfl, ?_⟩
      conv => whnf
      refine ⟨l, ts, rfl, ho, by omega, fun x hx => ?_⟩
      rw [hx] at h
      rcases x with ⟨⟨v1, v2, v3, v4, v5⟩, ts2⟩ | ⟨r, e⟩
      rotate_left
      · intro a9 d9; (conv => whnf); refine ⟨Nat.le_of_ble_eq_true rfl, ?_⟩; (conv => whnf); (repeat (refine ⟨rfl, ?_⟩; conv => whnf)); exact h _ ⟨_, _, _, _, _, rfl⟩
      intro a2 hle2 ho2
      conv => whnf
      have hl2 := ho2.len
      (repeat (refine ⟨rfl, ?_⟩; conv => whnf))
      refine CondP.dec (fun hc3 => ?_) (fun hc3 => ?_)
      · have hc3 : a2 < l.length := by have hc3 : a2 < ((toksR l).length : Int) := hc3; rw [toksR_len] at hc3; exact hc3
        cases ts2 with
        | nil => simp at hl2; omega
        | cons t0 ts3 =>
          conv => whnf
          refine ⟨l, _, rfl, ho2, ?_⟩
          conv => whnf
          refine ⟨Nat.le_of_ble_eq_true rfl, ?_⟩
          conv => whnf
          (repeat (refine ⟨rfl, ?_⟩; conv => whnf))
          exact h _ ⟨_, _, _, _, _, rfl⟩
      have hc3 : ¬ a2 < l.length := by have hc3 : ¬ a2 < ((toksR l).length : Int) := hc3; rw [toksR_len] at hc3; exact hc3
      obtain rfl : ts2 = [] := List.eq_nil_of_length_eq_zero (by omega)
      conv => whnf
      refine ⟨Nat.le_of_ble_eq_true rfl, ?_⟩
      conv => whnf
      exact h
    rw [if_pos h0] at h
    conv => whnf
    refine CondP.ndec (fun hc2 => ?_) (fun hc2 => absurd (show c = 0 by omega) h0)
    conv => whnf
    (repeat (refine ⟨rfl, ?_⟩; conv => whnf))
    exact h _ ⟨_, _, _, _, _, rfl⟩
  · exact h.elim
end Go.PM.Lex
end

section
set_option maxRecDepth 100000
set_option maxHeartbeats 4000000
namespace Go.PM.Lex
open Go.Proofs
variable {w0 : World} {nG : Nat}
/-! ### Facts: rules one behind the other -/
theorem factsGo_eq (f : Nat) (l : List Ru) (ts : Ts) : factsGo (f + 1) l ts = if ts = [] then .ok l ts else (ruleF 64 false ts).bind fun x ts => factsGo f (l ++ [x]) ts := rfl
noncomputable def spFacts1 : Spec := fun args σ K => match args, σ with
  | [.ptr 0 0, .ptr 1 0], ⟨[.cells t [.d (.sl rows), .d (.int .i64 a), .d (.int .i64 en), .d (.int .i64 dp)], .cells t1 [.sl 0 e []]], [0], 1⟩ => (e = 52 ∧ dp = 0) ∧ ∃ L ts, rows = toksR L ∧ ROK L a ts ∧ ∀ x, factsTop ts = x → match x with
      | .ok v ts' => ∀ a', ROK L a' ts' → K (.ret (.tuple [])) ⟨[.cells t [.d (.sl (toksR L)), .d (.int .i64 a'), .d (.int .i64 en), .d (.int .i64 0)], .cells t1 [.d (.sl (v.map (encRu (placeOf L en))))]], [], 0⟩
      | .err r e => ∀ a' dp' rows', K (.panic (flt L en r e)) ⟨[.cells t [.d (.sl (toksR L)), .d (.int .i64 a'), .d (.int .i64 en), .d (.int .i64 dp')], .cells t1 [.d (.sl rows')]], [], 0⟩
  | _, _ => False
theorem spFacts1_mono : SpecMono spFacts1 := fun args σ K K' hK h => by
  unfold spFacts1 at h ⊢
  split at h
  · obtain ⟨h0, L, ts, h1, h2, h3⟩ := h
    refine ⟨h0, L, ts, h1, h2, fun x hx => ?_⟩
    have h3 := h3 x hx
    cases x with
    | ok v ts' => exact fun a' g => hK _ _ (h3 a' g)
    | err r e => exact fun a' d rows' => hK _ _ (h3 a' d rows')
  · exact h.elim
noncomputable def tblFacts1 : Tbl := [(49, spRule 64)]
theorem facts1_ok (ht : TblOK (GG w0 nG) tblFacts1) : PCalls (GG w0 nG) 48 spFacts1 := by
  refine pcalls tab_ok mixed (tbl := tblFacts1) ht Tryz.func48 rfl (by kernel_rfl) (by kernel_rfl) ?_
  intro args σ K h
  unfold spFacts1 at h
  split at h
  · rename_i t rows a en dp t1 e
    obtain ⟨⟨rfl, rfl⟩, L, ts, rfl, ho, h⟩ := h
    have h := h _ rfl
    have hbig := ho.big
    refine ⟨loopsOf [(0, ⟨[], [0, 1], fun vs σ => ∃ (l : List Ru) (a' : Int) (ts' : Ts) (f : Nat), vs = [] ∧ σ = ⟨[.cells t [.d (.sl (toksR L)), .d (.int .i64 a'), .d (.int .i64 en), .d (.int .i64 0)], .cells t1 [.sl 0 52 (l.map (encRu (placeOf L en)))]], [0], 1⟩ ∧ ROK L a' ts' ∧ (l.length : Int) ≤ a' ∧ ts'.length < f ∧ factsTop ts = factsGo f l ts',
      fun _ σ => match σ with | ⟨.cells _ [_, .d (.int _ i), _, _] :: _, _, _⟩ => ((L.length : Int) - i).toNat | _ => 0⟩)], 2, false, by simp, Nat.le_of_ble_eq_true rfl, ?_⟩
    have h00 := ho.lo
    conv => whnf
    refine ⟨⟨[], a, ts, ts.length + 1, rfl, rfl, ho, by simp; omega, by omega, rfl⟩, ?_⟩
    intro vs σ hI
    obtain ⟨l, a', ts', f, rfl, rfl, ho', hla, hf, hm⟩ := hI
    obtain ⟨f, rfl⟩ : ∃ g, f = g + 1 := ⟨f - 1, by omega⟩
    rw [factsGo_eq] at hm
    rw [hm] at h
    have hhi' := ho'.hi
    have hlen' := ho'.len
    have hlo' := ho'.lo
    conv => whnf
    refine CondP.dec (fun hc => ?_) (fun hc => ?_)
    · have hne : ts' ≠ [] := by rintro rfl; have hc : a' < ((toksR L).length : Int) := hc; rw [toksR_len] at hc; simp at hlen'; omega
      rw [if_neg hne] at h hm
      conv => whnf
      (repeat (refine ⟨rfl, ?_⟩; conv => whnf))
      refine ⟨L, ts', rfl, ho', ⟨by omega, by omega⟩, fun x hx => ?_⟩
      rw [hx] at h hm
      rcases x with ⟨⟨v1, v2, v3, v4⟩, ts2⟩ | ⟨r, e⟩
      rotate_left
      · intro a9 d9
        (conv => whnf)
        exact h _ _ _
      rw [R.bind_ok] at h hm
      intro a2 hle2 ho2
      have hb2 := ho2.hi
      have hlen2 := ho2.len
      conv => whnf
      (repeat (refine ⟨rfl, ?_⟩; conv => whnf))
      refine ⟨List.forall_mem_singleton.2 rfl, (show ((l.map (encRu (placeOf L en))).length + 1) * 72 ≤ 2 ^ 47 by rw [List.length_map]; omega), (show (l.map (encRu (placeOf L en))).length + 1 ≤ 2 ^ 47 by rw [List.length_map]; omega), ?_⟩
      conv => whnf
      (repeat (refine ⟨rfl, ?_⟩; conv => whnf))
      refine ⟨⟨l ++ [⟨v1, v2, v3, v4⟩], a2, ts2, f, rfl, ?_, ho2, by simp only [List.length_append, List.length_singleton]; omega, by omega, hm⟩, ?_⟩
      · rw [← map_snoc (encRu (placeOf L en)) l]; rfl
      show ((L.length : Int) - a2).toNat < ((L.length : Int) - a').toNat
      omega
    · have hnil : ts' = [] := by have hc : ¬ a' < ((toksR L).length : Int) := hc; rw [toksR_len] at hc; exact List.eq_nil_of_length_eq_zero (by omega)
      rw [if_pos hnil] at h
      conv => whnf
      (repeat (refine ⟨rfl, ?_⟩; conv => whnf))
      exact h _ ho'
  · exact h.elim
def badF (cs : List PV) : Prop := ∃ a : List (List D), cs = [.d (.sl a)]
noncomputable def spWhF : Spec := fun args σ K => match args, σ with
  | [.d (.str s), .d (.int .i64 by'), .d (.int .i64 most), .func g [] [.ptr 0 0]], ⟨[.cells tU c0], tk, n⟩ => (g = 48 ∧ by' = 1048576 ∧ most = 1048576 ∧ c0 = [.sl 0 52 []] ∧ tk = [0] ∧ n = 1) ∧ s.length < 4294967281 ∧
      ∀ x, readTop 1048576 1048576 factsTop s = x → WhK tU (fun L n (v : List Ru) => [.d (.sl (v.map (encRu (placeOf L n))))]) badF s.length x K
  | _, _ => False
theorem spWhF_mono : SpecMono spWhF := fun args σ K K' hK h => by
  unfold spWhF at h ⊢
  split at h
  · exact ⟨h.1, h.2.1, fun x hx => WhK_mono hK (h.2.2 x hx)⟩
  · exact h.elim
noncomputable def tblWhF : Tbl := [(83, spTokQ), (48, spFacts1), (85, spFail)]
theorem wholeF_ok (ht : TblOK (GG w0 nG) tblWhF) : PCalls (GG w0 nG) 37 spWhF := by
  refine pcallsD tab_ok mixed (tbl := tblWhF) ht Tryz.func37 rfl (by kernel_rfl) (by kernel_rfl) def_ok ?_
  intro args σ K h
  unfold spWhF at h
  split at h
  · obtain ⟨⟨rfl, rfl, rfl, rfl, rfl, rfl⟩, hs, h⟩ := h
    rename_i s tU
    have h := h _ rfl
    refine ⟨loopsOf [], unrOf [], tieOf [], 1, false, by simp, Nat.le_of_ble_eq_true rfl, ?_⟩
    unfold readTop at h
    conv => whnf
    refine CondP.dec (fun hc => ?_) (fun hc => ?_)
    · rw [if_pos (by omega)] at h
      conv => whnf
      exact h _ ⟨_, rfl⟩
    rw [if_neg (by omega)] at h
    conv => whnf
    refine ⟨hs, fun l p c hx => ?_⟩
    have hlen := allF_le s 1048576
    rw [show ((1048576 : Nat) : Int) = 1048576 from rfl, hx] at h
    rw [hx] at hlen
    refine ⟨fun h0 => ?_, fun h0 => ?_⟩
    · subst h0
      rw [if_neg (by simp)] at h
      simp only at h hlen
      have ho := ROK_start (l := l) (by simp at hlen; omega)
      clear hx hlen
      generalize hts : l.map Tok.t0 = ts at h ho
      conv => whnf
      refine ⟨⟨rfl, rfl⟩, l, ts, rfl, ho, fun x hx => ?_⟩
      rw [hx] at h
      rcases x with ⟨v, ts2⟩ | ⟨r, e⟩
      rotate_left
      · intro a9 d9 rows9; (conv => whnf); refine ⟨Nat.le_of_ble_eq_true rfl, ?_⟩; (conv => whnf); (repeat (refine ⟨rfl, ?_⟩; conv => whnf)); exact h _ ⟨_, rfl⟩
      intro a2 ho2
      conv => whnf
      have hl2 := ho2.len
      (repeat (refine ⟨rfl, ?_⟩; conv => whnf))
      refine CondP.dec (fun hc3 => ?_) (fun hc3 => ?_)
      · have hc3 : a2 < l.length := by have hc3 : a2 < ((toksR l).length : Int) := hc3; rw [toksR_len] at hc3; exact hc3
        cases ts2 with
        | nil => simp at hl2; omega
        | cons t0 ts3 =>
          conv => whnf
          refine ⟨l, _, rfl, ho2, ?_⟩
          conv => whnf
          refine ⟨Nat.le_of_ble_eq_true rfl, ?_⟩
          conv => whnf
          (repeat (refine ⟨rfl, ?_⟩; conv => whnf))
          exact h _ ⟨_, rfl⟩
      have hc3 : ¬ a2 < l.length := by have hc3 : ¬ a2 < ((toksR l).length : Int) := hc3; rw [toksR_len] at hc3; exact hc3
      obtain rfl : ts2 = [] := List.eq_nil_of_length_eq_zero (by omega)
      conv => whnf
      refine ⟨Nat.le_of_ble_eq_true rfl, ?_⟩
      conv => whnf
      exact h
    rw [if_pos h0] at h
    conv => whnf
    refine CondP.ndec (fun hc2 => ?_) (fun hc2 => absurd (show c = 0 by omega) h0)
    conv => whnf
    (repeat (refine ⟨rfl, ?_⟩; conv => whnf))
    exact h _ ⟨_, rfl⟩
  · exact h.elim
/-! ### Unit, Expr, Facts -/
def TopK {α : Type} (enc : List Tok → α → PV) (zero : PV) (x : Top α) (K : PEnd → St → Prop) : Prop := match x with
  | .ok v L => K (.ret (.tuple [enc L v, .d (.int .i64 0), .d (.int .i64 0)])) ⟨[], [], 0⟩
  | .err p e => K (.ret (.tuple [zero, .d (.int .i64 p), .d (.int .i64 e)])) ⟨[], [], 0⟩
theorem TopK_mono {α : Type} {enc : List Tok → α → PV} {zero : PV} {x : Top α} {K K' : PEnd → St → Prop} (hK : ∀ e σ, K e σ → K' e σ) (h : TopK enc zero x K) : TopK enc zero x K' := by
  cases x <;> exact hK _ _ h
noncomputable def spTopU : Spec := fun args σ K => match args, σ with
  | [.d (.str s)], ⟨[], [], 0⟩ => s.length < 4294967281 ∧ ∀ x, readTop 65536 16384 unitTop s = x → TopK (fun L (v : Un) => aggD (encUn (placeOf L s.length) v)) (aggD (encUn (fun _ => 0) .nil)) x K
  | _, _ => False
theorem spTopU_mono : SpecMono spTopU := fun args σ K K' hK h => by
  unfold spTopU at h ⊢
  split at h
  · exact ⟨h.1, fun x hx => TopK_mono hK (h.2 x hx)⟩
  · exact h.elim
noncomputable def tblTopU : Tbl := [(37, spWhU)]
theorem topU_ok (ht : TblOK (GG w0 nG) tblTopU) : PCalls (GG w0 nG) 14 spTopU := by
  refine pcalls tab_ok mixed (tbl := tblTopU) ht Tryz.func14 rfl (by kernel_rfl) (by kernel_rfl) ?_
  intro args σ K h
  unfold spTopU at h
  split at h
  · rename_i s
    obtain ⟨hs, h⟩ := h
    refine ⟨loopsOf [], 0, false, by simp, Nat.le_of_ble_eq_true rfl, ?_⟩
    conv => whnf
    refine ⟨⟨rfl, rfl, rfl, rfl, rfl, rfl⟩, hs, fun x hx => ?_⟩
    have h := h x hx
    cases x with
    | ok v L =>
      obtain ⟨v1, v2, v3, v4, v5, v6⟩ := v
      conv => whnf
      exact h
    | err p e =>
      have he := readTop_err unitTop_good hx
      intro cs hcs
      obtain ⟨b1, b2, b3, b4, b5, b6, rfl⟩ := hcs
      conv => whnf
      refine CondP.ndec (fun hc => ?_) (fun hc => absurd (show e = 0 by omega) he)
      conv => whnf
      exact h
  · exact h.elim
noncomputable def spTopE : Spec := fun args σ K => match args, σ with
  | [.d (.str s)], ⟨[], [], 0⟩ => s.length < 4294967281 ∧ ∀ x, readTop 65536 16384 (exprD 64) s = x → TopK (fun L (v : Ex) => aggD (encE (placeOf L s.length) v)) (aggD [.int .u8 0, .str [], .int .i64 0, .sl [], .int .i64 0]) x K
  | _, _ => False
theorem spTopE_mono : SpecMono spTopE := fun args σ K K' hK h => by
  unfold spTopE at h ⊢
  split at h
  · exact ⟨h.1, fun x hx => TopK_mono hK (h.2 x hx)⟩
  · exact h.elim
noncomputable def tblTopE : Tbl := [(37, spWhE)]
theorem topE_ok (ht : TblOK (GG w0 nG) tblTopE) : PCalls (GG w0 nG) 18 spTopE := by
  refine pcalls tab_ok mixed (tbl := tblTopE) ht Tryz.func18 rfl (by kernel_rfl) (by kernel_rfl) ?_
  intro args σ K h
  unfold spTopE at h
  split at h
  · rename_i s
    obtain ⟨hs, h⟩ := h
    refine ⟨loopsOf [], 0, false, by simp, Nat.le_of_ble_eq_true rfl, ?_⟩
    conv => whnf
    refine ⟨⟨rfl, rfl, rfl, rfl, rfl, rfl⟩, hs, fun x hx => ?_⟩
    have h := h x hx
    cases x with
    | ok v L =>
      obtain ⟨v1, v2, v3, v4, v5⟩ := v
      conv => whnf
      exact h
    | err p e =>
      have he := readTop_err (expr_good 64) hx
      intro cs hcs
      obtain ⟨b1, b2, b3, b4, b5, rfl⟩ := hcs
      conv => whnf
      refine CondP.ndec (fun hc => ?_) (fun hc => absurd (show e = 0 by omega) he)
      conv => whnf
      exact h
  · exact h.elim
noncomputable def spTopF : Spec := fun args σ K => match args, σ with
  | [.d (.str s)], ⟨[], [], 0⟩ => s.length < 4294967281 ∧ ∀ x, readTop 1048576 1048576 factsTop s = x → TopK (fun L (v : List Ru) => .d (.sl (v.map (encRu (placeOf L s.length))))) (.d (.sl [])) x K
  | _, _ => False
theorem spTopF_mono : SpecMono spTopF := fun args σ K K' hK h => by
  unfold spTopF at h ⊢
  split at h
  · exact ⟨h.1, fun x hx => TopK_mono hK (h.2 x hx)⟩
  · exact h.elim
noncomputable def tblTopF : Tbl := [(37, spWhF)]
theorem topF_ok (ht : TblOK (GG w0 nG) tblTopF) : PCalls (GG w0 nG) 21 spTopF := by
  refine pcalls tab_ok mixed (tbl := tblTopF) ht Tryz.func21 rfl (by kernel_rfl) (by kernel_rfl) ?_
  intro args σ K h
  unfold spTopF at h
  split at h
  · rename_i s
    obtain ⟨hs, h⟩ := h
    refine ⟨loopsOf [], 0, false, by simp, Nat.le_of_ble_eq_true rfl, ?_⟩
    conv => whnf
    refine ⟨⟨rfl, rfl, rfl, rfl, rfl, rfl⟩, hs, fun x hx => ?_⟩
    have h := h x hx
    cases x with
    | ok v L =>
      skip
      conv => whnf
      exact h
    | err p e =>
      have he := readTop_err factsTop_good hx
      intro cs hcs
      obtain ⟨b1, rfl⟩ := hcs
      conv => whnf
      refine CondP.ndec (fun hc => ?_) (fun hc => absurd (show e = 0 by omega) he)
      conv => whnf
      exact h
  · exact h.elim
theorem cWhole_tok (hg : GlobOK w0 nG) : PCalls (GG w0 nG) 83 spTokQ := tokQ_of (cTokens hg)
theorem cTopU (hg : GlobOK w0 nG) : PCalls (GG w0 nG) 14 spTopU := topU_ok ⟨⟨wholeU_ok ⟨⟨cWhole_tok hg, spTokQ_mono⟩, ⟨in_ok (tb := tblUnit1) ⟨⟨cUnit 64, spUnit_mono 64⟩, trivial⟩ Tryz.func38 rfl (by kernel_rfl) (by kernel_rfl), spIn_mono _ _⟩, ⟨cFail, spFail_mono⟩, trivial⟩, spWhU_mono⟩, trivial⟩
theorem cTopE (hg : GlobOK w0 nG) : PCalls (GG w0 nG) 18 spTopE := topE_ok ⟨⟨wholeE_ok ⟨⟨cWhole_tok hg, spTokQ_mono⟩, ⟨in_ok (tb := tblExpr1) ⟨⟨cExpr 64, spRD_mono _ _ _ _⟩, trivial⟩ Tryz.func46 rfl (by kernel_rfl) (by kernel_rfl), spIn_mono _ _⟩, ⟨cFail, spFail_mono⟩, trivial⟩, spWhE_mono⟩, trivial⟩
theorem cTopF (hg : GlobOK w0 nG) : PCalls (GG w0 nG) 21 spTopF := topF_ok ⟨⟨wholeF_ok ⟨⟨cWhole_tok hg, spTokQ_mono⟩, ⟨facts1_ok ⟨⟨cRule 64, spRule_mono 64⟩, trivial⟩, spFacts1_mono⟩, ⟨cFail, spFail_mono⟩, trivial⟩, spWhF_mono⟩, trivial⟩
end Go.PM.Lex
end

section
set_option maxRecDepth 100000
set_option maxHeartbeats 4000000
namespace Go.PM.Lex
open Go.Proofs
variable {w0 : World} {nG : Nat}
/-! ### Trees held against each other, but for places -/
mutual
def sameE : Ex → Ex → Bool
  | .mk o1 t1 n1 l1 _, .mk o2 t2 n2 l2 _ => decide (o1 = o2) && (decide (t1 = t2) && (decide (n1 = n2) && sameEs l1 l2))
def sameEs : List Ex → List Ex → Bool
  | [], [] => true
  | x :: l, y :: m => sameE x y && sameEs l m
  | _, _ => false
end
mutual
def szE : Ex → Nat
  | .mk _ _ _ l _ => 1 + szEs l
def szEs : List Ex → Nat
  | [] => 0
  | x :: l => 1 + szE x + szEs l
end
theorem szEs_len : ∀ (l : List Ex), l.length ≤ szEs l
  | [] => Nat.le_refl _
  | x :: l => by have := szEs_len l; simp only [List.length_cons, szEs]; omega
theorem szEs_get : ∀ (l : List Ex) (i : Nat) (h : i < l.length), szE l[i] < szEs l
  | x :: l, 0, h => by simp only [List.getElem_cons_zero, szEs]; omega
  | x :: l, i + 1, h => by have := szEs_get l i (by simpa using h); simp only [List.getElem_cons_succ, szEs]; omega
theorem sameEs_ne : ∀ (l m : List Ex), l.length ≠ m.length → sameEs l m = false
  | [], [], h => absurd rfl h
  | [], _ :: _, _ => by simp [sameEs]
  | _ :: _, [], _ => by simp [sameEs]
  | x :: l, y :: m, h => by simp [sameEs, sameEs_ne l m (by simpa using h)]
theorem sameEs_drop {l m : List Ex} {i : Nat} (h1 : i < l.length) (h2 : i < m.length) : sameEs (l.drop i) (m.drop i) = (sameE l[i] m[i] && sameEs (l.drop (i + 1)) (m.drop (i + 1))) := by
  rw [List.drop_eq_getElem_cons h1, List.drop_eq_getElem_cons h2, sameEs]
noncomputable def spSameE (n : Nat) : Spec := fun args σ K => match args, σ with
  | [.agg c1, .agg c2, .d (.bool at')], ⟨[], [], 0⟩ => ∃ pl1 e1 pl2 e2, c1 = (encE pl1 e1).map .d ∧ c2 = (encE pl2 e2).map .d ∧ (at' = false ∧ szE e1 ≤ n ∧ n ≤ 1099511627776) ∧ ∀ b, sameE e1 e2 = b → K (.ret (.d (.bool b))) ⟨[], [], 0⟩
  | _, _ => False
theorem spSameE_mono (n : Nat) : SpecMono (spSameE n) := fun args σ K K' hK h => by
  unfold spSameE at h ⊢
  split at h
  · obtain ⟨p1, e1, p2, e2, h1, h2, h3, h4⟩ := h
    exact ⟨p1, e1, p2, e2, h1, h2, h3, fun b hb => hK _ _ (h4 b hb)⟩
  · exact h.elim
noncomputable def spSameEs (n : Nat) : Spec := fun args σ K => match args, σ with
  | [.d (.sl r1), .d (.sl r2), .d (.bool at')], ⟨[], [], 0⟩ => ∃ pl1 l1 pl2 l2, r1 = encEs pl1 l1 ∧ r2 = encEs pl2 l2 ∧ (at' = false ∧ szEs l1 ≤ n ∧ n ≤ 1099511627776) ∧ ∀ b, sameEs l1 l2 = b → K (.ret (.d (.bool b))) ⟨[], [], 0⟩
  | _, _ => False
theorem spSameEs_mono (n : Nat) : SpecMono (spSameEs n) := fun args σ K K' hK h => by
  unfold spSameEs at h ⊢
  split at h
  · obtain ⟨p1, e1, p2, e2, h1, h2, h3, h4⟩ := h
    exact ⟨p1, e1, p2, e2, h1, h2, h3, fun b hb => hK _ _ (h4 b hb)⟩
  · exact h.elim
/-- Likewise, of fewer than so many parts. -/
noncomputable def spSameEB (n : Nat) : Spec := fun args σ K => 0 < n ∧ spSameE (n - 1) args σ K
theorem spSameEB_mono (n : Nat) : SpecMono (spSameEB n) := fun args σ K K' hK h => ⟨h.1, spSameE_mono _ _ _ _ _ hK h.2⟩
noncomputable def spSameEsB (n : Nat) : Spec := fun args σ K => 0 < n ∧ spSameEs (n - 1) args σ K
theorem spSameEsB_mono (n : Nat) : SpecMono (spSameEsB n) := fun args σ K K' hK h => ⟨h.1, spSameEs_mono _ _ _ _ _ hK h.2⟩
noncomputable def tblSameE (n : Nat) : Tbl := [(54, spSameEsB n)]
theorem sameE_ok {n : Nat} (ht : TblOK (GG w0 nG) (tblSameE n)) : PCalls (GG w0 nG) 25 (spSameE n) := by
  refine pcalls tab_ok mixed (tbl := tblSameE n) ht Tryz.func25 rfl (by kernel_rfl) (by kernel_rfl) ?_
  intro args σ K h
  unfold spSameE at h
  split at h
  · obtain ⟨p1, ⟨a1, a2, a3, a4, a5⟩, p2, ⟨b1, b2, b3, b4, b5⟩, rfl, rfl, ⟨rfl, hz, hn⟩, h⟩ := h
    have h := h _ rfl
    rw [sameE] at h
    rw [szE] at hz
    refine ⟨loopsOf [], 0, false, by simp, Nat.le_of_ble_eq_true rfl, ?_⟩
    conv => whnf
    refine CondP.dec (fun h1 => ?_) (fun h1 => ?_)
    · rw [decide_eq_true (show a1 = b1 by omega), Bool.true_and] at h
      conv => whnf
      refine CondP.dec (fun h2 => ?_) (fun h2 => ?_)
      · rw [decide_eq_true h2, Bool.true_and] at h
        conv => whnf
        refine CondP.dec (fun h3 => ?_) (fun h3 => ?_)
        · rw [decide_eq_true h3, Bool.true_and] at h
          conv => whnf
          refine ⟨by omega, p1, a4, p2, b4, rfl, rfl, ⟨rfl, by omega, by omega⟩, fun b hb => ?_⟩
          rw [hb] at h
          conv => whnf
          exact h
        · rw [decide_eq_false h3, Bool.false_and] at h
          conv => whnf
          exact h
      · rw [decide_eq_false h2, Bool.false_and] at h
        conv => whnf
        exact h
    · rw [decide_eq_false (show ¬ a1 = b1 by omega), Bool.false_and] at h
      conv => whnf
      exact h
  · exact h.elim
noncomputable def tblSameEs (n : Nat) : Tbl := [(25, spSameEB n)]
theorem sameEs_ok {n : Nat} (ht : TblOK (GG w0 nG) (tblSameEs n)) : PCalls (GG w0 nG) 54 (spSameEs n) := by
  refine pcalls tab_ok mixed (tbl := tblSameEs n) ht Tryz.func54 rfl (by kernel_rfl) (by kernel_rfl) ?_
  intro args σ K h
  unfold spSameEs at h
  split at h
  · obtain ⟨p1, l1, p2, l2, rfl, rfl, ⟨rfl, hz, hn⟩, h⟩ := h
    have h := h _ rfl
    have hlen1 : (encEs p1 l1).length = l1.length := by rw [encEs_eq, List.length_map]
    have hlen2 : (encEs p2 l2).length = l2.length := by rw [encEs_eq, List.length_map]
    have hsz := szEs_len l1
    refine ⟨loopsOf [(4, ⟨[7], [0, 1, 2], fun vs σ => ∃ i : Nat, vs = [.d (.int .i64 i)] ∧ σ = ⟨[], [], 0⟩ ∧ i ≤ l1.length ∧ sameEs l1 l2 = sameEs (l1.drop i) (l2.drop i), fun vs _ => match vs with | [.d (.int _ i)] => ((l1.length : Int) - i).toNat | _ => 0⟩)], 0, false, by simp, Nat.le_of_ble_eq_true rfl, ?_⟩
    conv => whnf
    refine CondP.ndec (fun hc => ?_) (fun hc => ?_)
    · have hc : l1.length ≠ l2.length := fun g => hc (by show ((encEs p1 l1).length : Int) = (encEs p2 l2).length; rw [hlen1, hlen2, g])
      rw [sameEs_ne _ _ hc] at h
      conv => whnf
      exact h
    · have hc : l1.length = l2.length := by have hc : ((encEs p1 l1).length : Int) = (encEs p2 l2).length := hc; rw [hlen1, hlen2] at hc; omega
      conv => whnf
      refine ⟨⟨0, rfl, rfl, by omega, rfl⟩, ?_⟩
      intro vs σ hI
      obtain ⟨i, rfl, rfl, hi, hs⟩ := hI
      conv => whnf
      refine CondP.dec (fun hi2 => ?_) (fun hi2 => ?_)
      · have hi2 : i < l1.length := by have hi2 : (i : Int) < (encEs p1 l1).length := hi2; rw [hlen1] at hi2; omega
        have hi3 : i < l2.length := by omega
        have hg := szEs_get l1 i hi2
        rw [sameEs_drop hi2 hi3] at hs
        obtain ⟨eA, hA⟩ : ∃ e, l1[i] = e := ⟨_, rfl⟩
        obtain ⟨eB, hB⟩ : ∃ e, l2[i] = e := ⟨_, rfl⟩
        obtain ⟨a1, a2, a3, a4, a5⟩ := eA
        obtain ⟨b1, b2, b3, b4, b5⟩ := eB
        rw [hA, hB] at hs
        rw [hA] at hg
        conv => whnf
        refine ⟨encE p1 (.mk a1 a2 a3 a4 a5), by omega, by rw [encEs_eq]; simp [hi2, hA], ?_⟩
        conv => whnf
        refine ⟨encE p2 (.mk b1 b2 b3 b4 b5), by omega, by rw [encEs_eq]; simp [hi3, hB], ?_⟩
        conv => whnf
        refine ⟨by omega, p1, .mk a1 a2 a3 a4 a5, p2, .mk b1 b2 b3 b4 b5, rfl, rfl, ⟨rfl, by omega, by omega⟩, fun b hb => ?_⟩
        rw [hb] at hs
        cases b with
        | true =>
          rw [Bool.true_and] at hs
          conv => whnf
          (repeat (refine ⟨rfl, ?_⟩; conv => whnf))
          refine Or.inl ⟨InR.i64 (by omega) (by omega), ?_⟩
          conv => whnf
          refine ⟨⟨i + 1, rfl, rfl, by omega, hs⟩, ?_⟩
          show ((l1.length : Int) - ((i : Int) + 1)).toNat < ((l1.length : Int) - (i : Int)).toNat
          omega
        | false =>
          rw [hs, Bool.false_and] at h
          conv => whnf
          (repeat (refine ⟨rfl, ?_⟩; conv => whnf))
          exact h
      · have hi2 : l1.length ≤ i := by have hi2 : ¬ (i : Int) < (encEs p1 l1).length := hi2; rw [hlen1] at hi2; omega
        rw [List.drop_eq_nil_of_le hi2, List.drop_eq_nil_of_le (by omega)] at hs
        rw [hs] at h
        conv => whnf
        exact h
  · exact h.elim
theorem cSame : ∀ n, PCalls (GG w0 nG) 25 (spSameE n) ∧ PCalls (GG w0 nG) 54 (spSameEs n)
  | 0 => ⟨sameE_ok ⟨⟨⟨enters_of Tryz.func54 (by kernel_rfl) rfl, fun args σ K hs => absurd hs.1 (by omega)⟩, spSameEsB_mono 0⟩, trivial⟩, sameEs_ok ⟨⟨⟨enters_of Tryz.func25 (by kernel_rfl) rfl, fun args σ K hs => absurd hs.1 (by omega)⟩, spSameEB_mono 0⟩, trivial⟩⟩
  | n + 1 => ⟨sameE_ok ⟨⟨(cSame n).2.weaken1 fun args σ K hs => hs.2, spSameEsB_mono _⟩, trivial⟩, sameEs_ok ⟨⟨(cSame n).1.weaken1 fun args σ K hs => hs.2, spSameEB_mono _⟩, trivial⟩⟩
/-! ### works -/
noncomputable def spTrue15 : Spec := fun args σ K => match args, σ with
  | [], ⟨[], [], 0⟩ => K (.ret (.d (.bool true))) ⟨[], [], 0⟩
  | _, _ => False
theorem spTrue15_mono : SpecMono spTrue15 := fun args σ K K' hK h => by
  unfold spTrue15 at h ⊢
  split at h
  · exact hK _ _ h
  · exact h.elim
def worksB : Bs := [112, 40, 120, 41, 32, 58, 45, 32, 113, 40, 120, 44, 32, 49, 41, 44, 32, 120, 32, 60, 32, 50, 46]
def Li.op : Li → Nat | .mk o _ _ _ _ => o
def chkWorks : Top Un → Bool
  | .ok (.mk _ _ [⟨h, _, [_, l], _⟩] _ _ _) _ => decide (h = [112]) && decide (l.op = 5)
  | _ => false
theorem works_chk : chkWorks (readTop 65536 16384 unitTop worksB) = true := by decide +kernel
noncomputable def tblWorks15 : Tbl := [(14, spTopU), (40, spKept)]
theorem works15_ok (ht : TblOK (GG w0 nG) tblWorks15) : PCalls (GG w0 nG) 15 spTrue15 := by
  refine pcalls tab_ok mixed (tbl := tblWorks15) ht Tryz.func15 rfl (by kernel_rfl) (by kernel_rfl) ?_
  intro args σ K h
  unfold spTrue15 at h
  split at h
  · refine ⟨loopsOf [], 0, false, by simp, Nat.le_of_ble_eq_true rfl, ?_⟩
    conv => whnf
    refine ⟨by decide, fun x hx => ?_⟩
    have hw := works_chk
    rw [show readTop 65536 16384 unitTop worksB = x from hx] at hw
    unfold chkWorks at hw
    split at hw
    · rename_i t1 t2 hd1 ar l1 l2 p1 c1 i1 o1 LL
      rw [Bool.and_eq_true, decide_eq_true_eq, decide_eq_true_eq] at hw
      obtain ⟨rfl, hop⟩ := hw
      obtain ⟨a1, a2, a3, a4, a5⟩ := l1
      obtain ⟨b1, b2, b3, b4, b5⟩ := l2
      obtain rfl : b1 = 5 := hop
      conv => whnf
      refine ⟨_, by decide, rfl, ?_⟩
      conv => whnf
      refine ⟨_, by decide, rfl, ?_⟩
      conv => whnf
      refine ⟨_, by decide, rfl, ?_⟩
      conv => whnf
      refine ⟨_, by decide, rfl, ?_⟩
      conv => whnf
      intro b hb
      obtain rfl : b = true := hb.symm.trans (by decide)
      conv => whnf
      intro b hb
      obtain rfl : b = false := hb.symm.trans (by decide)
      conv => whnf
      exact h
    · cases hw
  · exact h.elim
end Go.PM.Lex
end

section
set_option maxRecDepth 100000
set_option maxHeartbeats 4000000
namespace Go.PM.Lex
open Go.Proofs
variable {w0 : World} {nG : Nat}
def rep (n : Nat) (s : Bs) : Bs := (List.replicate n s).flatten
theorem rep_add (a b : Nat) (s : Bs) : rep (a + b) s = rep a s ++ rep b s := by rw [rep, ← List.replicate_append_replicate, List.flatten_append]; rfl
theorem rep_one (s : Bs) : rep 1 s = s := by simp [rep]
theorem rep_len (n : Nat) (s : Bs) : (rep n s).length = n * s.length := by simp [rep]
theorem rep_half (m : Nat) (s : Bs) : rep m s = if m % 2 = 1 then rep (m / 2) s ++ rep (m / 2) s ++ s else rep (m / 2) s ++ rep (m / 2) s := by
  split
  · rename_i h; rw [← rep_add]; conv => lhs; rw [show m = m / 2 + m / 2 + 1 by omega, rep_add, rep_one]
  · rename_i h; rw [← rep_add]; conv => lhs; rw [show m = m / 2 + m / 2 by omega]
noncomputable def spTimes (k : Nat) : Spec := fun args σ K => match args, σ with
  | [.d (.str s), .d (.int .i64 n)], ⟨[], [], 0⟩ => ∃ m : Nat, n = m ∧ m ≤ k ∧ m ≤ 1048576 ∧ s.length ≤ 1000 ∧ K (.ret (.d (.str (rep m s)))) ⟨[], [], 0⟩
  | _, _ => False
theorem spTimes_mono (k : Nat) : SpecMono (spTimes k) := fun args σ K K' hK h => by
  unfold spTimes at h ⊢
  split at h
  · obtain ⟨m, h1, h2, h3, h4, h5⟩ := h; exact ⟨m, h1, h2, h3, h4, hK _ _ h5⟩
  · exact h.elim
noncomputable def spTimesB (k : Nat) : Spec := fun args σ K => 0 < k ∧ spTimes (k - 1) args σ K
theorem spTimesB_mono (k : Nat) : SpecMono (spTimesB k) := fun args σ K K' hK h => ⟨h.1, spTimes_mono _ _ _ _ _ hK h.2⟩
noncomputable def tblTimes (k : Nat) : Tbl := [(20, spTimesB k)]
theorem times_ok {k : Nat} (ht : TblOK (GG w0 nG) (tblTimes k)) : PCalls (GG w0 nG) 20 (spTimes k) := by
  refine pcalls tab_ok mixed (tbl := tblTimes k) ht Tryz.func20 rfl (by kernel_rfl) (by kernel_rfl) ?_
  intro args σ K h
  unfold spTimes at h
  split at h
  · rename_i s n
    obtain ⟨m, rfl, h1, h2, h3, h⟩ := h
    refine ⟨loopsOf [], 0, false, by simp, Nat.le_of_ble_eq_true rfl, ?_⟩
    conv => whnf
    refine CondP.dec (fun hc => ?_) (fun hc => ?_)
    · obtain rfl : m = 0 := by omega
      conv => whnf
      exact h
    · conv => whnf
      refine ⟨by decide, Or.inl ⟨InR.i64 (show -9223372036854775808 ≤ ((m / 2 : Nat) : Int) by omega) (show ((m / 2 : Nat) : Int) ≤ 9223372036854775807 by omega), ?_⟩⟩
      conv => whnf
      have hl : (rep (m / 2) s).length ≤ 1048576 * 1000 := by rw [rep_len]; exact Nat.mul_le_mul (by omega) h3
      refine ⟨by omega, m / 2, rfl, by omega, by omega, h3, ?_⟩
      rw [rep_half m s] at h
      conv => whnf
      refine ⟨by decide, ?_⟩
      conv => whnf
      refine CondP.dec (fun hc2 => ?_) (fun hc2 => ?_)
      · have hc2 : m % 2 = 1 := by have hc2 : ((m % 2 : Nat) : Int) = 1 := hc2; omega
        rw [if_pos hc2] at h
        conv => whnf
        refine ⟨by omega, ?_⟩
        conv => whnf
        refine ⟨by rw [List.length_append]; omega, ?_⟩
        conv => whnf
        exact h
      · have hc2 : ¬ m % 2 = 1 := by have hc2 : ¬ ((m % 2 : Nat) : Int) = 1 := hc2; omega
        rw [if_neg hc2] at h
        conv => whnf
        refine ⟨by omega, ?_⟩
        conv => whnf
        exact h
  · exact h.elim
theorem cTimes : ∀ k, PCalls (GG w0 nG) 20 (spTimes k)
  | 0 => times_ok ⟨⟨⟨enters_of Tryz.func20 (by kernel_rfl) rfl, fun args σ K hs => absurd hs.1 (by omega)⟩, spTimesB_mono 0⟩, trivial⟩
  | k + 1 => times_ok ⟨⟨(cTimes k).weaken1 fun args σ K hs => hs.2, spTimesB_mono _⟩, trivial⟩
/-! ### wrong -/
def isErr {α : Type} (p : Int) (e : Nat) (x : Top α) : Bool := match x with
  | .err q c => decide (q = p) && decide (c = e)
  | .ok _ _ => false
theorem isErr_eq {α : Type} {p : Int} {e : Nat} {x : Top α} (h : isErr p e x = true) : x = .err p e := by
  cases x with
  | ok v L => cases h
  | err q c => simp only [isErr, Bool.and_eq_true, decide_eq_true_eq] at h; rw [h.1, h.2]
noncomputable def spWrong : Spec := fun args σ K => match args, σ with
  | [.d (.str s), .d (.int .i64 p), .d (.int .i64 e)], ⟨[], [], 0⟩ => ∃ c : Nat, s.length < 4294967281 ∧ e = c ∧ isErr p c (readTop 65536 16384 unitTop s) = true ∧ K (.ret (.d (.bool true))) ⟨[], [], 0⟩
  | _, _ => False
theorem spWrong_mono : SpecMono spWrong := fun args σ K K' hK h => by
  unfold spWrong at h ⊢
  split at h
  · obtain ⟨c, h1, h2, h3, h4⟩ := h; exact ⟨c, h1, h2, h3, hK _ _ h4⟩
  · exact h.elim
noncomputable def tblWrong : Tbl := [(14, spTopU)]
theorem wrong_ok (ht : TblOK (GG w0 nG) tblWrong) : PCalls (GG w0 nG) 19 spWrong := by
  refine pcalls tab_ok mixed (tbl := tblWrong) ht Tryz.func19 rfl (by kernel_rfl) (by kernel_rfl) ?_
  intro args σ K h
  unfold spWrong at h
  split at h
  · rename_i s p e
    obtain ⟨c, h1, rfl, h3, h⟩ := h
    refine ⟨loopsOf [], 0, false, by simp, Nat.le_of_ble_eq_true rfl, ?_⟩
    conv => whnf
    refine ⟨h1, fun x hx => ?_⟩
    obtain rfl : x = .err p c := hx.symm.trans (isErr_eq h3)
    conv => whnf
    refine CondP.dec (fun _ => ?_) (fun g => ?_)
    rotate_left
    · exact absurd rfl g
    conv => whnf
    rw [show decide ((c : Int) = (c : Int)) = true from decide_eq_true rfl]
    exact h
  · exact h.elim
end Go.PM.Lex
end
