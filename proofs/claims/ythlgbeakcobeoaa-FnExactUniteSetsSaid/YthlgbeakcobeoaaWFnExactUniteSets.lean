/- The given statement FnExactUniteSetsSaid, out of its walk (LExactUniteSets). Written by fin.py. No conditions. -/
import Derived.Test.YthlgbeakcobeoaaInit
import Derived.Test.YthlgbeakcobeoaaV4
import Derived.Test.YthlgbeakcobeoaaV6
import Derived.Test.YthlgbeakcobeoaaV8
import Derived.Test.YthlgbeakcobeoaaV10
set_option linter.unusedVariables false
set_option linter.unusedSimpArgs false
/- The law FnExactFindRoot: its walk. Conditions: those of the theorem. -/
namespace Go.Proofs.Ythlgbeakcobeoaa
open Go
theorem sself2 (s : SS) : decide (s = s) = true := decide_eq_true rfl
theorem bnes2 (p : Bool) : (p != p) = false := by cases p <;> rfl
theorem iself2 (s : Int) : decide (s ≠ s) = false := decide_eq_false fun h => h rfl
set_option linter.unusedVariables false set_option linter.unusedSimpArgs false attribute [local irreducible] Tok.own Tok.blk RL Rd eptr WP WPL PE WPD WPO Op1 OpE Tri Again Mid Exit.then Exit.inBlock bodyPost RP Code.wp wpList isOwn OneM One
attribute [local irreducible] SV EL
set_option maxHeartbeats 8000000

theorem l_ExactFindRoot (w : World) (vP vZ vS : Value) (ps zs : List Int) (ss : List E) (x : Int) (hP : RL w vP ps) (hZ : RL w vZ zs) (hS : RL w vS ss) (hlp : ps.length ≤ 9223372036854775807) (hlz : zs.length ≤ 9223372036854775807) (hls : ss.length ≤ 9223372036854775807) :
    Tri Try.prog 8 [.agg #[vP, vZ, vS], .int .i64 x] w [] fun r T => r = .bool true := by
  obtain ⟨s, hs1, hs2, hs3⟩ : ∃ s : SS, s.P = ps ∧ s.Z = zs ∧ s.S = ss := ⟨⟨ps, zs, ss⟩, rfl, rfl, rfl⟩
  subst hs1 hs2 hs3
  refine Tri.intro (hf := Try.func8) (hb := rfl) (hn := Try.ntmps8) (Nat.le_of_ble_eq_true rfl) ?_
  try refine go ⟨?_⟩
  refine WPL.eff (OpE.box rfl) rfl rfl ?_; rintro _ _ ⟨b, rfl, rfl⟩
  try refine go ⟨?_⟩
  refine WPL.eff (OpE.call lO (fun w hw => h_szSets _ vP vZ vS s.P s.Z s.S 1048576 (Rd.at rD hw) (Rd.at rD hw) (Rd.at rD hw) hlp hlz hls (by omega) (by omega))) rfl rfl ?_
  rintro r _ ⟨T, ⟨rfl, hr⟩, rfl⟩
  rcases hr with ⟨hsz, rfl⟩ | rfl
  case inr =>
    repeat' (first | refine go ⟨?_⟩ | (refine isCond ?_; refine WP.condD rfl (fun hc => ?_) (fun hc => ?_)) | (refine isGuard ?_; refine WPL.splitD rfl rfl (fun hc => ?_) (fun hc => ?_)))
    refine PE.ret1 (T := []) (T' := []) rfl rV ?_ sT
    rfl
  try refine go ⟨?_⟩
  rw [decide_eq_false (show ¬ ((1048576 : Int) - s.P.length - s.Z.length - s.S.length < 0) by omega)]
  try refine go ⟨?_⟩
  refine WPL.eff (OpE.call lO (fun w hw => h_toSets _ vP vZ vS s.P s.Z s.S (Rd.at rD hw) (Rd.at rD hw) (Rd.at rD hw) (by omega) (by omega) (by omega))) rfl rfl ?_
  rintro _ _ ⟨T, ⟨a1, a2, a3, rfl, rfl⟩, rfl⟩
  try refine go ⟨?_⟩
  refine WPL.eff (OpE.call lO (fun w hw => s_FindRoot _ a1 a2 a3 s x (Rd.at rD hw) (Rd.at rD hw) (Rd.at rD hw) (by omega) (by omega) (by omega))) rfl rfl ?_
  rintro _ _ ⟨T, ⟨rfl, rfl⟩, rfl⟩
  try refine go ⟨?_⟩
  refine WPL.eff (OpE.call lO (fun w hw => h_toSets _ vP vZ vS s.P s.Z s.S (Rd.at rD hw) (Rd.at rD hw) (Rd.at rD hw) (by omega) (by omega) (by omega))) rfl rfl ?_
  rintro _ _ ⟨T, ⟨c1, c2, c3, rfl, rfl⟩, rfl⟩
  try refine go ⟨?_⟩
  refine WPL.eff OpE.alloc rfl rfl ?_; rintro _ _ ⟨b7, rfl, rfl⟩
  try refine go ⟨?_⟩
  refine WPL.eff (OpE.call lO (fun w hw => c_FindRoot _ c1 c2 c3 s x (Rd.at rD hw) (Rd.at rD hw) (Rd.at rD hw) (by omega) (by omega) (by omega))) rfl rfl ?_
  rintro _ _ ⟨T, ⟨rfl, rfl⟩, rfl⟩
  try refine go ⟨?_⟩
  rw [iself2]
  try refine go ⟨?_⟩
  rw [bnes2]
  try refine go ⟨?_⟩
  refine WP.draw [Tok.blk b7 [c1, c2, c3], Tok.own c1 s.P, Tok.own c2 s.Z, Tok.own c3 s.S, Tok.blk b [vP, vZ, vS]] mixed ?_
  refine WPD.take 0 rfl (by first | exact (Op1.load rfl mM (by rfl)) | exact (Op1.loadI rfl rD lT) | exact (Op1.loadAll rfl mM (by rfl)) | exact (Op1.loadE rfl rD lT (by rfl)) | exact (Op1.loadEAgg rfl rD lT (by rfl))) rfl rfl sT kR kR kR xQP ?_
  refine WPD.take 1 rfl (by first | exact (Op1.load rfl mM (by rfl)) | exact (Op1.loadI rfl rD lT) | exact (Op1.loadAll rfl mM (by rfl)) | exact (Op1.loadE rfl rD lT (by rfl)) | exact (Op1.loadEAgg rfl rD lT (by rfl))) rfl rfl sT kR kR kR xQP ?_
  refine WPD.eff 2 kR rfl (OpE.call lO (fun w hw => h_toSets _ vP vZ vS s.P s.Z s.S (Rd.at rD hw) (Rd.at rD hw) (Rd.at rD hw) (by omega) (by omega) (by omega))) rfl rfl ?_
  rintro r _ ⟨T, ⟨e1, e2, e3, rfl, rfl⟩, rfl⟩
  refine ⟨sT, ?_⟩
  refine WPD.eff 3 kR rfl (OpE.call lO (fun w hw => h_eqSets _ c1 c2 c3 e1 e2 e3 s s (Rd.at rD hw) (Rd.at rD hw) (Rd.at rD hw) (Rd.at rD hw) (Rd.at rD hw) (Rd.at rD hw) (by omega) (by omega) (by omega) (by omega) (by omega) (by omega))) rfl rfl ?_
  rintro r _ ⟨T, ⟨rfl, rfl⟩, rfl⟩
  rw [sself2]
  refine ⟨sT, ?_⟩
  refine WPD.eff 4 kR rfl (OpE.ofPure (by first | exact (Op1.notD rfl) | exact (Op1.not rfl))) rfl rfl ?_
  rintro _ _ ⟨rfl, rfl⟩
  refine ⟨sT, ?_⟩
  refine WPD.done kR ?_
  try refine go ⟨?_⟩
  refine PE.ret1 (T := []) (T' := []) rfl rV ?_ sT
  rfl
end Go.Proofs.Ythlgbeakcobeoaa
/- The law FnExactUniteSets: its walk. Conditions: those of the theorem. -/
namespace Go.Proofs.Ythlgbeakcobeoaa
open Go
set_option linter.unusedVariables false set_option linter.unusedSimpArgs false attribute [local irreducible] Tok.own Tok.blk RL Rd eptr WP WPL PE WPD WPO Op1 OpE Tri Again Mid Exit.then Exit.inBlock bodyPost RP Code.wp wpList isOwn OneM One
attribute [local irreducible] SV EL UNok
set_option maxHeartbeats 8000000

theorem l_ExactUniteSets (w : World) (vP vZ vS : Value) (ps zs : List Int) (ss : List E) (x y : Int) (hP : RL w vP ps) (hZ : RL w vZ zs) (hS : RL w vS ss) (hlp : ps.length ≤ 9223372036854775807) (hlz : zs.length ≤ 9223372036854775807) (hls : ss.length ≤ 9223372036854775807) :
    Tri Try.prog 17 [.agg #[vP, vZ, vS], .int .i64 x, .int .i64 y] w [] fun r T => r = .bool true := by
  obtain ⟨s, hs1, hs2, hs3⟩ : ∃ s : SS, s.P = ps ∧ s.Z = zs ∧ s.S = ss := ⟨⟨ps, zs, ss⟩, rfl, rfl, rfl⟩
  subst hs1 hs2 hs3
  obtain ⟨L, hLe⟩ : ∃ L, L = uniR s x y := ⟨_, rfl⟩
  have hLl : L.P.length ≤ 16 ∧ L.Z.length ≤ 16 ∧ L.S.length ≤ 100 := by rw [hLe]; exact uniR_short s x y
  refine Tri.intro (hf := Try.func17) (hb := rfl) (hn := Try.ntmps17) (Nat.le_of_ble_eq_true rfl) ?_
  try refine go ⟨?_⟩
  refine WPL.eff (OpE.box rfl) rfl rfl ?_; rintro _ _ ⟨b, rfl, rfl⟩
  try refine go ⟨?_⟩
  refine WPL.eff (OpE.call lO (fun w hw => h_szSets _ vP vZ vS s.P s.Z s.S 1048576 (Rd.at rD hw) (Rd.at rD hw) (Rd.at rD hw) hlp hlz hls (by omega) (by omega))) rfl rfl ?_
  rintro r _ ⟨T, ⟨rfl, hr⟩, rfl⟩
  rcases hr with ⟨hsz, rfl⟩ | rfl
  case inr =>
    repeat' (first | refine go ⟨?_⟩ | (refine isCond ?_; refine WP.condD rfl (fun hc => ?_) (fun hc => ?_)) | (refine isGuard ?_; refine WPL.splitD rfl rfl (fun hc => ?_) (fun hc => ?_)))
    refine PE.ret1 (T := []) (T' := []) rfl rV ?_ sT
    rfl
  try refine go ⟨?_⟩
  rw [decide_eq_false (show ¬ ((1048576 : Int) - s.P.length - s.Z.length - s.S.length < 0) by omega)]
  try refine go ⟨?_⟩
  refine WPL.eff (OpE.call lO (fun w hw => h_toSets _ vP vZ vS s.P s.Z s.S (Rd.at rD hw) (Rd.at rD hw) (Rd.at rD hw) (by omega) (by omega) (by omega))) rfl rfl ?_
  rintro _ _ ⟨T, ⟨a1, a2, a3, rfl, rfl⟩, rfl⟩
  try refine go ⟨?_⟩
  refine WPL.eff (OpE.call lO (fun w hw => s_UniteSets _ a1 a2 a3 s x y (Rd.at rD hw) (Rd.at rD hw) (Rd.at rD hw) (by omega) (by omega) (by omega))) rfl rfl ?_
  rintro _ _ ⟨T, ⟨w1, w2, w3, rfl, rfl⟩, rfl⟩
  rw [← hLe]
  try refine go ⟨?_⟩
  refine WPL.eff OpE.alloc rfl rfl ?_; rintro _ _ ⟨b6, rfl, rfl⟩
  try refine go ⟨?_⟩
  refine WPL.eff (OpE.call lO (fun w hw => h_toSets _ vP vZ vS s.P s.Z s.S (Rd.at rD hw) (Rd.at rD hw) (Rd.at rD hw) (by omega) (by omega) (by omega))) rfl rfl ?_
  rintro _ _ ⟨T, ⟨c1, c2, c3, rfl, rfl⟩, rfl⟩
  try refine go ⟨?_⟩
  refine WPL.eff OpE.alloc rfl rfl ?_; rintro _ _ ⟨b7, rfl, rfl⟩
  try refine go ⟨?_⟩
  refine WPL.eff (OpE.call lO (fun w hw => c_UniteSets _ c1 c2 c3 s x y (Rd.at rD hw) (Rd.at rD hw) (Rd.at rD hw) (by omega) (by omega) (by omega))) rfl rfl ?_
  rintro _ _ ⟨T, ⟨g1, g2, g3, rfl, rfl⟩, rfl⟩
  rw [← hLe]
  try refine go ⟨?_⟩
  refine WPL.eff OpE.alloc rfl rfl ?_; rintro _ _ ⟨b9, rfl, rfl⟩
  try refine go ⟨?_⟩
  refine WPL.eff (OpE.call lO (fun w hw => h_eqSets _ g1 g2 g3 w1 w2 w3 L L (Rd.at rD hw) (Rd.at rD hw) (Rd.at rD hw) (Rd.at rD hw) (Rd.at rD hw) (Rd.at rD hw) (by omega) (by omega) (by omega) (by omega) (by omega) (by omega))) rfl rfl ?_
  rintro _ _ ⟨T, ⟨rfl, rfl⟩, rfl⟩
  rw [sself2]
  try refine go ⟨?_⟩
  rw [bnes2]
  try refine go ⟨?_⟩
  refine WP.draw [Tok.blk b7 [c1, c2, c3], Tok.own c1 s.P, Tok.own c2 s.Z, Tok.own c3 s.S, Tok.blk b [vP, vZ, vS]] mixed ?_
  refine WPD.take 0 rfl (by first | exact (Op1.load rfl mM (by rfl)) | exact (Op1.loadI rfl rD lT) | exact (Op1.loadAll rfl mM (by rfl)) | exact (Op1.loadE rfl rD lT (by rfl)) | exact (Op1.loadEAgg rfl rD lT (by rfl))) rfl rfl sT kR kR kR xQP ?_
  refine WPD.take 1 rfl (by first | exact (Op1.load rfl mM (by rfl)) | exact (Op1.loadI rfl rD lT) | exact (Op1.loadAll rfl mM (by rfl)) | exact (Op1.loadE rfl rD lT (by rfl)) | exact (Op1.loadEAgg rfl rD lT (by rfl))) rfl rfl sT kR kR kR xQP ?_
  refine WPD.eff 2 kR rfl (OpE.call lO (fun w hw => h_toSets _ vP vZ vS s.P s.Z s.S (Rd.at rD hw) (Rd.at rD hw) (Rd.at rD hw) (by omega) (by omega) (by omega))) rfl rfl ?_
  rintro r _ ⟨T, ⟨e1, e2, e3, rfl, rfl⟩, rfl⟩
  refine ⟨sT, ?_⟩
  refine WPD.eff 3 kR rfl (OpE.call lO (fun w hw => h_eqSets _ c1 c2 c3 e1 e2 e3 s s (Rd.at rD hw) (Rd.at rD hw) (Rd.at rD hw) (Rd.at rD hw) (Rd.at rD hw) (Rd.at rD hw) (by omega) (by omega) (by omega) (by omega) (by omega) (by omega))) rfl rfl ?_
  rintro r _ ⟨T, ⟨rfl, rfl⟩, rfl⟩
  rw [sself2]
  refine ⟨sT, ?_⟩
  refine WPD.eff 4 kR rfl (OpE.ofPure (by first | exact (Op1.notD rfl) | exact (Op1.not rfl))) rfl rfl ?_
  rintro _ _ ⟨rfl, rfl⟩
  refine ⟨sT, ?_⟩
  refine WPD.done kR ?_
  try refine go ⟨?_⟩
  refine WPL.eff (OpE.callT (T := [Tok.own c1 s.P, Tok.own c2 s.Z, Tok.own c3 s.S]) lO pM2 (fun w hw => h_markSets _ c1 c2 c3 s.P s.Z s.S 1 (by omega) (by omega) (by omega))) rfl rfl ?_
  rintro _ _ ⟨T, ⟨rfl, rfl⟩, rfl⟩
  try refine go ⟨?_⟩
  rw [decide_eq_false (show ¬ (1 + (s.P.length : Int) + s.Z.length + 2 * s.S.length < 0) by omega)]
  try refine go ⟨?_⟩
  refine WPL.eff (OpE.call lO (fun w hw => h_eqSets _ g1 g2 g3 w1 w2 w3 L L (Rd.at rD hw) (Rd.at rD hw) (Rd.at rD hw) (Rd.at rD hw) (Rd.at rD hw) (Rd.at rD hw) (by omega) (by omega) (by omega) (by omega) (by omega) (by omega))) rfl rfl ?_
  rintro _ _ ⟨T, ⟨rfl, rfl⟩, rfl⟩
  rw [sself2]
  try refine go ⟨?_⟩
  rw [bnes2]
  try refine go ⟨?_⟩
  refine WPL.eff (OpE.callT (T := [Tok.own g1 L.P, Tok.own g2 L.Z, Tok.own g3 L.S]) lO pM2 (fun w hw => h_markSets _ g1 g2 g3 L.P L.Z L.S 1 (by omega) (by omega) (by omega))) rfl rfl ?_
  rintro _ _ ⟨T, ⟨rfl, rfl⟩, rfl⟩
  have hH := fun w' (h1 : RL w' g1 (marks 1 L.P.length)) (h2 : RL w' g2 (marks (1 + L.P.length) L.Z.length)) (h3 : RL w' g3 (emarks (1 + L.P.length + L.Z.length) L.S.length)) => h_heldSets w' g1 g2 g3 _ _ _ 1 h1 h2 h3 (by omega) (by omega) (by omega)
  try refine go ⟨?_⟩
  refine WPL.eff (OpE.call lO (fun w hw => hH _ (Rd.at rD hw) (Rd.at rD hw) (Rd.at rD hw))) rfl rfl ?_
  rintro _ _ ⟨T, ⟨rfl, rfl⟩, rfl⟩
  try refine go ⟨?_⟩
  rw [decide_eq_false (show ¬ (1 + (L.P.length : Int) + L.Z.length + 2 * L.S.length < 0) by omega)]
  try refine go ⟨?_⟩
  rw [iself2]
  try refine go ⟨?_⟩
  refine WPL.eff (OpE.call lO (fun w hw => h_toSets _ vP vZ vS s.P s.Z s.S (Rd.at rD hw) (Rd.at rD hw) (Rd.at rD hw) (by omega) (by omega) (by omega))) rfl rfl ?_
  rintro _ _ ⟨T, ⟨f1, f2, f3, rfl, rfl⟩, rfl⟩
  try refine go ⟨?_⟩
  refine WPL.eff (OpE.call lO (fun w hw => c_UniteSets _ f1 f2 f3 s x y (Rd.at rD hw) (Rd.at rD hw) (Rd.at rD hw) (by omega) (by omega) (by omega))) rfl rfl ?_
  rintro _ _ ⟨T, ⟨k1, k2, k3, rfl, rfl⟩, rfl⟩
  rw [← hLe]
  try refine go ⟨?_⟩
  refine WPL.eff OpE.alloc rfl rfl ?_; rintro _ _ ⟨b15, rfl, rfl⟩
  try refine go ⟨?_⟩
  refine WPL.eff (OpE.call lO (fun w hw => h_eqSets _ k1 k2 k3 w1 w2 w3 L L (Rd.at rD hw) (Rd.at rD hw) (Rd.at rD hw) (Rd.at rD hw) (Rd.at rD hw) (Rd.at rD hw) (by omega) (by omega) (by omega) (by omega) (by omega) (by omega))) rfl rfl ?_
  rintro _ _ ⟨T, ⟨rfl, rfl⟩, rfl⟩
  rw [sself2]
  try refine go ⟨?_⟩
  rw [bnes2]
  try refine go ⟨?_⟩
  refine WPL.eff (OpE.call lO (fun w hw => hH _ (Rd.at rD hw) (Rd.at rD hw) (Rd.at rD hw))) rfl rfl ?_
  rintro _ _ ⟨T, ⟨rfl, rfl⟩, rfl⟩
  try refine go ⟨?_⟩
  rw [decide_eq_false (show ¬ (1 + (L.P.length : Int) + L.Z.length + 2 * L.S.length < 0) by omega)]
  try refine go ⟨?_⟩
  rw [iself2]
  try refine go ⟨?_⟩
  refine PE.ret1 (T := []) (T' := []) rfl rV ?_ sT
  rfl
end Go.Proofs.Ythlgbeakcobeoaa
/- The given statement FnExactUniteSetsSaid, out of its walk (LExactUniteSets). Written by fin.py. No conditions. -/
namespace Go.Proofs.Ythlgbeakcobeoaa.ZfnExactUniteSets
open Go Go.ChangeShapes Go.WideShapes Go.ChangeAt Go.RowKit Go.Joins
theorem own : ownKnob Try.prog.godebug = none := by kernel_rfl
theorem laidOut : laidOutB Try.prog = true := by kernel_rfl
theorem cells3 : Try.prog.cellsOf 3 = 1 := by kernel_rfl
theorem cells61 : Try.prog.cellsOf 61 = 3 := by kernel_rfl
theorem cells125 : Try.prog.cellsOf 125 = 2 := by kernel_rfl
theorem ct61 : Try.prog.cellTypes Try.prog.depth 61 = some [26, 26, 59] := by kernel_rfl
set_option maxRecDepth 100000 in
theorem lifted (os : Os) (started : os.Started) (H : Type) (enc : TypeId × Value → H) :
    ReturnsInHanded {} Try.checked os 17 .any (Rows.fnExactUniteSetsSpec.pre6 enc Try.prog Try.f17 Rows.fnExactUniteSetsRow.domain false) (Rows.fnExactUniteSetsSpec.post enc Try.prog Try.f17 false true false false) := by
  refine returnsInHanded_of_change (C := Try.checked) own started (by kernel_rfl) Try.func17
    (ChangeSpec.witness6 (enc := enc) (C := Try.checked) false ⟨#[], #[.agg #[.slice none 0 0, .slice none 0 0, .slice none 0 0], .int .i64 0, .int .i64 0], []⟩ 8 (by kernel_rfl) (by kernel_rfl) (by kernel_rfl) (by kernel_rfl)) ?_
  intro W base args ds gs before hval0 hW hcnd _
  have hval : ∀ (j : Nat) t v, Try.f17.params[j]? = some t → args[j]? = some v → Value.okWide Try.prog W .any base t v := hval0
  have hW' := hW
  obtain ⟨p, q, hA0, hV, rfl, hfz, hnd⟩ := hW
  have hA : DataW.TrodAll enc Try.prog W 0 (fun _ => true) true Try.f17.params.toList args.toList ds p := hA0
  rw [Try.params17] at hA hval
  obtain ⟨v0, vs0, d0, ds0, p0, q0, hargs, rfl, rfl, h0, r0⟩ := trodAll_cons hA
  obtain ⟨v1, vs1, d1, ds1, p1, q1, rfl, rfl, rfl, h1, r1⟩ := trodAll_cons r0
  obtain ⟨v2, vs2, d2, ds2, p2, q2, rfl, rfl, rfl, h2, r2⟩ := trodAll_cons r1
  obtain ⟨rfl, rfl, rfl⟩ := trodAll_nil r2
  obtain rfl : args = #[v0, v1, v2] := by cases args; simp_all
  obtain ⟨rfl, rfl⟩ := trodVars_none hV
  have k0 := h0
  have lt0 : ∀ x ∈ p0, x.block < W.heap.size := by obtain ⟨m, hm⟩ := k0; exact DataW.trod_lt m _ _ _ hm
  have hv0 := hval 0 61 v0 rfl rfl
  obtain ⟨c00, c01, c02, y00, y01, y02, m0, rfl, rfl, rfl, hy00, hy01, hy02⟩ := open_agg3 Try.underlying61 (by kernel_rfl) cells61 hv0 h0
  have hc0 : Cell.okWide Try.prog W .any base 26 c00 ∧ Cell.okWide Try.prog W .any base 26 c01 ∧ Cell.okWide Try.prog W .any base 59 c02 := by
    simp only [Value.okWide, Try.underlying61] at hv0
    obtain ⟨cs, e, _, ts, hts, _, hcs⟩ := hv0
    rw [ct61] at hts; cases hts; cases e
    obtain ⟨u0, e0, g0⟩ := hcs 0 c00 rfl
    obtain ⟨u1, e1, g1⟩ := hcs 1 c01 rfl
    obtain ⟨u2, e2, g2⟩ := hcs 2 c02 rfl
    cases e0; cases e1; cases e2; exact ⟨g0, g1, g2⟩
  have k0' := k0
  obtain ⟨xs00, rl00, ll00⟩ := rl_ints Try.underlying26 Try.underlying3 cells3 hc0.1 hy00
  obtain ⟨xs01, rl01, ll01⟩ := rl_ints Try.underlying26 Try.underlying3 cells3 hc0.2.1 hy01
  obtain ⟨xs02, rl02, ll02⟩ := rl_edges Try.underlying59 Try.underlying125 (by kernel_rfl) (by kernel_rfl) Try.underlying3 Try.underlying3 (by kernel_rfl) (by kernel_rfl) cells125 hc0.2.2 hy02
  have k1 := h1
  have lt1 : ∀ x ∈ p1, x.block < W.heap.size := by obtain ⟨m, hm⟩ := k1; exact DataW.trod_lt m _ _ _ hm
  obtain ⟨a1, rfl, rfl, rfl, w1⟩ := open_int Try.underlying3 (hval 1 3 v1 rfl rfl) h1
  have k2 := h2
  have lt2 : ∀ x ∈ p2, x.block < W.heap.size := by obtain ⟨m, hm⟩ := k2; exact DataW.trod_lt m _ _ _ hm
  obtain ⟨a2, rfl, rfl, rfl, w2⟩ := open_int Try.underlying3 (hval 2 3 v2 rfl rfl) h2
  clear hA0 hval0
  refine (Tri.holds0 (v := .bool true) (l_ExactUniteSets W c00 c01 c02 xs00 xs01 xs02 a1 a2 rl00 rl01 rl02 ll00 ll01 ll02) (fun _ _ h => h)).mono fun e W' ⟨he, bel⟩ => ?_
  subst he
  exact ⟨_, rfl, _, _, _, [], _, [], hW', trodAll_mk1 (shut_bool Try.underlying4 _), (trodAll_cons_mk (Below.trod laidOut (by kernel_rfl) (of_decide_eq_true (by kernel_rfl)) k0 bel lt0) (trodAll_cons_mk (shut_int Try.underlying3 w1) (trodAll_cons_mk (shut_int Try.underlying3 w2) trodAll_mk0))), rfl, bel.frame _, fun h => by cases h⟩
theorem over : Rows.fnExactUniteSetsRow.holds Try.pinned (OpenSpec.ofChange Rows.fnExactUniteSetsSpec) :=
  OpenClaim.holds_of_wide 17 Try.f17 rfl rfl rfl rfl rfl rfl rfl ⟨rfl, rfl, rfl, rfl, rfl⟩ rfl rfl rfl rfl rfl (by kernel_rfl) Try.func17 (by unfold joinedFacts; rw [initMay, initLift, initMake]; kernel_rfl)
    (of_decide_eq_true (by kernel_rfl)) (by unfold Func.isWrapper; first | (rw [if_pos (by decide +kernel)]; kernel_rfl) | (rw [if_neg (by decide +kernel)]; exact ⟨rfl, rfl⟩))
    (fun os started H enc _ => lifted os started H enc)
/-- The statement. -/
theorem proved : Rows.FnExactUniteSetsSaid := over
end Go.Proofs.Ythlgbeakcobeoaa.ZfnExactUniteSets
