/- The given statement FnExactLeveledConnectedSaid, out of its walk (LExactLeveledConnected). Written by fin.py. No conditions. -/
import Derived.Test.YtfigegmgopnfhaaInit
import Derived.Test.YtfigegmgopnfhaaV4
import Derived.Test.YtfigegmgopnfhaaV16
import Derived.Test.YtfigegmgopnfhaaV18
import Derived.Test.YtfigegmgopnfhaaV19
set_option linter.unusedVariables false
set_option linter.unusedSimpArgs false
/- The law FnExactLeveledConnected: its walk. Conditions: those of the theorem. -/
namespace Go.Proofs.Ytfigegmgopnfhaa
open Go
theorem bselfL (d : Bool) : (d != d) = false := by cases d <;> rfl
theorem lvself (l : LV) : decide (l = l) = true := decide_eq_true rfl
set_option linter.unusedVariables false set_option linter.unusedSimpArgs false attribute [local irreducible] Tok.own Tok.blk RL Rd eptr WP WPL PE WPD WPO Op1 OpE Tri Again Mid Exit.then Exit.inBlock bodyPost RP Code.wp wpList isOwn OneM One
attribute [local irreducible] LVok LCN
set_option maxHeartbeats 8000000

theorem l_ExactLeveledConnected (w : World) (n : Int) (vE vL vT : Value) (es : List E) (lv : List Int) (tr : List Bool) (x y : Int) (hE : RL w vE es) (hL : RL w vL lv) (hT : RL w vT tr) (l1 : es.length ≤ 9223372036854775807) (l2 : lv.length ≤ 9223372036854775807) (l3 : tr.length ≤ 9223372036854775807) :
    Tri Try.prog 15 [.agg #[.int .i64 n, vE, vL, vT], .int .i64 x, .int .i64 y] w [] fun r T => r = .bool true := by
  obtain ⟨l, e0, e1, e2, e3⟩ : ∃ l : LV, l.n = n ∧ l.es = es ∧ l.lv = lv ∧ l.tr = tr := ⟨⟨n, es, lv, tr⟩, rfl, rfl, rfl, rfl⟩
  subst e0 e1 e2 e3
  refine Tri.intro (hf := Try.func15) (hb := rfl) (hn := Try.ntmps15) (Nat.le_of_ble_eq_true rfl) ?_
  try refine go ⟨?_⟩
  refine WPL.eff (OpE.box rfl) rfl rfl ?_; rintro _ _ ⟨b, rfl, rfl⟩
  try refine go ⟨?_⟩
  refine WPL.eff (OpE.call lO (fun w hw => h_szLev _ l vE vL vT 1048576 (Rd.at rD hw) (Rd.at rD hw) (Rd.at rD hw) l1 l2 l3 (by omega) (by omega))) rfl rfl ?_
  rintro r _ ⟨T, ⟨rfl, hr⟩, rfl⟩
  rcases hr with ⟨hsz, rfl⟩ | rfl
  case inr =>
    repeat' (first | refine go ⟨?_⟩ | (refine isCond ?_; refine WP.condD rfl (fun hc => ?_) (fun hc => ?_)) | (refine isGuard ?_; refine WPL.splitD rfl rfl (fun hc => ?_) (fun hc => ?_)))
    refine PE.ret1 (T := []) (T' := []) rfl rV ?_ sT
    rfl
  try refine go ⟨?_⟩
  rw [decide_eq_false (show ¬ ((1048576 : Int) - l.es.length - l.lv.length - l.tr.length < 0) by omega)]
  try refine go ⟨?_⟩
  refine WPL.eff (OpE.call lO (fun w hw => h_toLev _ l vE vL vT (Rd.at rD hw) (Rd.at rD hw) (Rd.at rD hw) (by omega) (by omega) (by omega))) rfl rfl ?_
  rintro _ _ ⟨T, ⟨a1, a2, a3, rfl, rfl⟩, rfl⟩
  try refine go ⟨?_⟩
  refine WPL.eff (OpE.call lO (fun w hw => s_LeveledConnected _ l a1 a2 a3 x y (Rd.at rD hw) (Rd.at rD hw) (Rd.at rD hw) (by omega) (by omega) (by omega))) rfl rfl ?_
  rintro _ _ ⟨T, ⟨rfl, rfl⟩, rfl⟩
  try refine go ⟨?_⟩
  refine WPL.eff (OpE.call lO (fun w hw => h_toLev _ l vE vL vT (Rd.at rD hw) (Rd.at rD hw) (Rd.at rD hw) (by omega) (by omega) (by omega))) rfl rfl ?_
  rintro _ _ ⟨T, ⟨c1, c2, c3, rfl, rfl⟩, rfl⟩
  try refine go ⟨?_⟩
  refine WPL.eff OpE.alloc rfl rfl ?_; rintro _ _ ⟨b9, rfl, rfl⟩
  try refine go ⟨?_⟩
  refine WPL.eff (OpE.call lO (fun w hw => c_LeveledConnected _ l c1 c2 c3 x y (Rd.at rD hw) (Rd.at rD hw) (Rd.at rD hw) (by omega) (by omega) (by omega))) rfl rfl ?_
  rintro _ _ ⟨T, ⟨rfl, rfl⟩, rfl⟩
  try refine go ⟨?_⟩
  rw [bselfL]
  try refine go ⟨?_⟩
  refine WP.draw [Tok.blk b9 [.int .i64 l.n, c1, c2, c3], Tok.own c1 l.es, Tok.own c2 l.lv, Tok.own c3 l.tr, Tok.blk b [.int .i64 l.n, vE, vL, vT]] mixed ?_
  refine WPD.take 0 rfl (by first | exact (Op1.load rfl mM (by rfl)) | exact (Op1.loadI rfl rD lT) | exact (Op1.loadAll rfl mM (by rfl)) | exact (Op1.loadE rfl rD lT (by rfl)) | exact (Op1.loadEAgg rfl rD lT (by rfl))) rfl rfl sT kR kR kR xQP ?_
  refine WPD.take 1 rfl (by first | exact (Op1.load rfl mM (by rfl)) | exact (Op1.loadI rfl rD lT) | exact (Op1.loadAll rfl mM (by rfl)) | exact (Op1.loadE rfl rD lT (by rfl)) | exact (Op1.loadEAgg rfl rD lT (by rfl))) rfl rfl sT kR kR kR xQP ?_
  refine WPD.eff 2 kR rfl (OpE.call lO (fun w hw => h_toLev _ l vE vL vT (Rd.at rD hw) (Rd.at rD hw) (Rd.at rD hw) (by omega) (by omega) (by omega))) rfl rfl ?_
  rintro r _ ⟨T, ⟨d1, d2, d3, rfl, rfl⟩, rfl⟩
  refine ⟨sT, ?_⟩
  refine WPD.eff 3 kR rfl (OpE.call lO (fun w hw => h_eqLev _ l l c1 c2 c3 d1 d2 d3 (Rd.at rD hw) (Rd.at rD hw) (Rd.at rD hw) (Rd.at rD hw) (Rd.at rD hw) (Rd.at rD hw) (by omega) (by omega) (by omega) (by omega) (by omega) (by omega))) rfl rfl ?_
  rintro r _ ⟨T, ⟨rfl, rfl⟩, rfl⟩
  rw [lvself]
  refine ⟨sT, ?_⟩
  refine WPD.take 4 rfl (Op1.not rfl) rfl rfl sT kR kR kR xQP ?_
  refine WPD.done kR ?_
  try refine go ⟨?_⟩
  refine PE.ret1 (T := []) (T' := []) rfl rV ?_ sT
  rfl
end Go.Proofs.Ytfigegmgopnfhaa
/- The given statement FnExactLeveledConnectedSaid, out of its walk (LExactLeveledConnected). Written by fin.py. No conditions. -/
namespace Go.Proofs.Ytfigegmgopnfhaa.ZfnExactLeveledConnected
open Go Go.ChangeShapes Go.WideShapes Go.ChangeAt Go.RowKit Go.Joins
theorem own : ownKnob Try.prog.godebug = none := by kernel_rfl
theorem laidOut : laidOutB Try.prog = true := by kernel_rfl
theorem cells3 : Try.prog.cellsOf 3 = 1 := by kernel_rfl
theorem cells4 : Try.prog.cellsOf 4 = 1 := by kernel_rfl
theorem cells70 : Try.prog.cellsOf 70 = 4 := by kernel_rfl
theorem cells99 : Try.prog.cellsOf 99 = 2 := by kernel_rfl
theorem ct70 : Try.prog.cellTypes Try.prog.depth 70 = some [3, 65, 68, 26] := by kernel_rfl
set_option maxRecDepth 100000 in
theorem lifted (os : Os) (started : os.Started) (H : Type) (enc : TypeId × Value → H) :
    ReturnsInHanded {} Try.checked os 15 .any (Rows.fnExactLeveledConnectedSpec.pre6 enc Try.prog Try.f15 Rows.fnExactLeveledConnectedRow.domain false) (Rows.fnExactLeveledConnectedSpec.post enc Try.prog Try.f15 false true false false) := by
  refine returnsInHanded_of_change (C := Try.checked) own started (by kernel_rfl) Try.func15
    (ChangeSpec.witness6 (enc := enc) (C := Try.checked) false ⟨#[], #[.agg #[.int .i64 0, .slice none 0 0, .slice none 0 0, .slice none 0 0], .int .i64 0, .int .i64 0], []⟩ 8 (by kernel_rfl) (by kernel_rfl) (by kernel_rfl) (by kernel_rfl)) ?_
  intro W base args ds gs before hval0 hW hcnd _
  have hval : ∀ (j : Nat) t v, Try.f15.params[j]? = some t → args[j]? = some v → Value.okWide Try.prog W .any base t v := hval0
  have hW' := hW
  obtain ⟨p, q, hA0, hV, rfl, hfz, hnd⟩ := hW
  have hA : DataW.TrodAll enc Try.prog W 0 (fun _ => true) true Try.f15.params.toList args.toList ds p := hA0
  rw [Try.params15] at hA hval
  obtain ⟨v0, vs0, d0, ds0, p0, q0, hargs, rfl, rfl, h0, r0⟩ := trodAll_cons hA
  obtain ⟨v1, vs1, d1, ds1, p1, q1, rfl, rfl, rfl, h1, r1⟩ := trodAll_cons r0
  obtain ⟨v2, vs2, d2, ds2, p2, q2, rfl, rfl, rfl, h2, r2⟩ := trodAll_cons r1
  obtain ⟨rfl, rfl, rfl⟩ := trodAll_nil r2
  obtain rfl : args = #[v0, v1, v2] := by cases args; simp_all
  obtain ⟨rfl, rfl⟩ := trodVars_none hV
  have k0 := h0
  have lt0 : ∀ x ∈ p0, x.block < W.heap.size := by obtain ⟨m, hm⟩ := k0; exact DataW.trod_lt m _ _ _ hm
  have hv0 := hval 0 70 v0 rfl rfl
  obtain ⟨c00, c01, c02, c03, y00, y01, y02, y03, n0, m0, rfl, hy00, hy01, hy02, hy03⟩ := open_lev Try.underlying70 Try.underlying67 (by kernel_rfl) (by kernel_rfl) (by kernel_rfl) (by kernel_rfl) (by kernel_rfl) (by kernel_rfl) (by kernel_rfl) (by kernel_rfl) (by kernel_rfl) (by kernel_rfl) cells70 hv0 h0
  have hc0 : Cell.okWide Try.prog W .any base 3 c00 ∧ Cell.okWide Try.prog W .any base 65 c01 ∧ Cell.okWide Try.prog W .any base 68 c02 ∧ Cell.okWide Try.prog W .any base 26 c03 := by
    simp only [Value.okWide, Try.underlying70] at hv0
    obtain ⟨cs, e, _, ts, hts, _, hcs⟩ := hv0
    rw [ct70] at hts; cases hts; cases e
    obtain ⟨u0, e0, g0⟩ := hcs 0 c00 rfl
    obtain ⟨u1, e1, g1⟩ := hcs 1 c01 rfl
    obtain ⟨u2, e2, g2⟩ := hcs 2 c02 rfl
    obtain ⟨u3, e3, g3⟩ := hcs 3 c03 rfl
    cases e0; cases e1; cases e2; cases e3; exact ⟨g0, g1, g2, g3⟩
  obtain ⟨a00, ea00, _, _⟩ := DataW.trod_int Try.underlying3 hy00
  obtain rfl : c00 = .int .i64 a00 := by simpa using ea00
  obtain ⟨xs01, rl01, ll01⟩ := rl_edges Try.underlying65 Try.underlying99 (by kernel_rfl) (by kernel_rfl) Try.underlying3 Try.underlying3 (by kernel_rfl) (by kernel_rfl) cells99 hc0.2.1 hy01
  obtain ⟨xs02, rl02, ll02⟩ := rl_ints Try.underlying68 Try.underlying3 cells3 hc0.2.2.1 hy02
  obtain ⟨xs03, rl03, ll03⟩ := rl_bools Try.underlying26 Try.underlying4 cells4 hc0.2.2.2 hy03
  have k1 := h1
  have lt1 : ∀ x ∈ p1, x.block < W.heap.size := by obtain ⟨m, hm⟩ := k1; exact DataW.trod_lt m _ _ _ hm
  obtain ⟨a1, rfl, rfl, rfl, w1⟩ := open_int Try.underlying3 (hval 1 3 v1 rfl rfl) h1
  have k2 := h2
  have lt2 : ∀ x ∈ p2, x.block < W.heap.size := by obtain ⟨m, hm⟩ := k2; exact DataW.trod_lt m _ _ _ hm
  obtain ⟨a2, rfl, rfl, rfl, w2⟩ := open_int Try.underlying3 (hval 2 3 v2 rfl rfl) h2
  clear hA0 hval0
  refine (Tri.holds0 (v := .bool true) (l_ExactLeveledConnected W a00 c01 c02 c03 xs01 xs02 xs03 a1 a2 rl01 rl02 rl03 ll01 ll02 ll03) (fun _ _ h => h)).mono fun e W' ⟨he, bel⟩ => ?_
  subst he
  exact ⟨_, rfl, _, _, _, [], _, [], hW', trodAll_mk1 (shut_bool Try.underlying4 _), (trodAll_cons_mk (Below.trod laidOut (by kernel_rfl) (of_decide_eq_true (by kernel_rfl)) k0 bel lt0) (trodAll_cons_mk (shut_int Try.underlying3 w1) (trodAll_cons_mk (shut_int Try.underlying3 w2) trodAll_mk0))), rfl, bel.frame _, fun h => by cases h⟩
theorem over : Rows.fnExactLeveledConnectedRow.holds Try.pinned (OpenSpec.ofChange Rows.fnExactLeveledConnectedSpec) :=
  OpenClaim.holds_of_wide 15 Try.f15 rfl rfl rfl rfl rfl rfl rfl ⟨rfl, rfl, rfl, rfl, rfl⟩ rfl rfl rfl rfl rfl (by kernel_rfl) Try.func15 (by unfold joinedFacts; rw [initMay, initLift, initMake]; kernel_rfl)
    (of_decide_eq_true (by kernel_rfl)) (by unfold Func.isWrapper; first | (rw [if_pos (by decide +kernel)]; kernel_rfl) | (rw [if_neg (by decide +kernel)]; exact ⟨rfl, rfl⟩))
    (fun os started H enc _ => lifted os started H enc)
/-- The statement. -/
theorem proved : Rows.FnExactLeveledConnectedSaid := over
end Go.Proofs.Ytfigegmgopnfhaa.ZfnExactLeveledConnected
