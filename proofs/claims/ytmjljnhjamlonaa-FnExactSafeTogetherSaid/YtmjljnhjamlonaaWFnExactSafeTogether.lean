/- The given statement FnExactSafeTogetherSaid, out of its walk (LExactSafeTogether). Written by fin.py. No conditions. -/
import Derived.Test.YtmjljnhjamlonaaInit
import Derived.Test.YtmjljnhjamlonaaV3
import Derived.Test.YtmjljnhjamlonaaV4
import Derived.Test.YtmjljnhjamlonaaV9
set_option linter.unusedVariables false
set_option linter.unusedSimpArgs false
/- The law FnExactSafeTogether: its walk. Conditions: those of the theorem. -/
namespace Go.Proofs.Ytmjljnhjamlonaa
open Go
theorem gself (n : Int) (l : List E) : decide (n = n ∧ l = l) = true := decide_eq_true ⟨rfl, rfl⟩
theorem bself (d : Bool) : (d != d) = false := by cases d <;> rfl
set_option linter.unusedVariables false set_option linter.unusedSimpArgs false attribute [local irreducible] Tok.own Tok.blk RL Rd eptr WP WPL PE WPD WPO Op1 OpE Tri Again Mid Exit.then Exit.inBlock bodyPost RP Code.wp wpList isOwn OneM One
attribute [local irreducible] CN STg
set_option maxHeartbeats 8000000

theorem l_ExactSafeTogether (w : World) (n : Int) (v : Value) (xs : List E) (x y : Int) (h : RL w v xs) (hl : xs.length ≤ 9223372036854775807) :
    Tri Try.prog 6 [.agg #[.int .i64 n, v], .int .i64 x, .int .i64 y] w [] fun r T => r = .bool true := by
  refine Tri.intro (hf := Try.func6) (hb := rfl) (hn := Try.ntmps6) (Nat.le_of_ble_eq_true rfl) ?_
  try refine go ⟨?_⟩
  refine WPL.eff (OpE.box rfl) rfl rfl ?_; rintro _ _ ⟨b, rfl, rfl⟩
  try refine go ⟨?_⟩
  refine WPL.eff (OpE.call lO (fun w hw => h_szG _ n v xs 1048576 (Rd.at rD hw) hl (by omega) (by omega))) rfl rfl ?_
  rintro r _ ⟨T, ⟨rfl, hr⟩, rfl⟩
  rcases hr with ⟨hsz, rfl⟩ | ⟨hsz, rfl⟩
  case inr =>
    repeat' (first | refine go ⟨?_⟩ | (refine isCond ?_; refine WP.condD rfl (fun hc => ?_) (fun hc => ?_)) | (refine isGuard ?_; refine WPL.splitD rfl rfl (fun hc => ?_) (fun hc => ?_)))
    refine PE.ret1 (T := []) (T' := []) rfl rV ?_ sT
    rfl
  have hl2 : xs.length ≤ 1048576 := by omega
  try refine go ⟨?_⟩
  refine WP.condD rfl (fun hc => ?_) (fun hc => ?_)
  · exfalso; omega
  try refine go ⟨?_⟩
  refine WPL.eff (OpE.call lO (fun w hw => h_toG _ n v xs (Rd.at rD hw) hl2)) rfl rfl ?_
  rintro _ _ ⟨T, ⟨u, rfl, rfl⟩, rfl⟩
  try refine go ⟨?_⟩
  refine WPL.eff (OpE.call lO (fun w hw => s_SafeTogether _ n u xs x y (Rd.at rD hw) (by omega))) rfl rfl ?_
  rintro _ _ ⟨T, ⟨rfl, rfl⟩, rfl⟩
  try refine go ⟨?_⟩
  refine WPL.eff (OpE.call lO (fun w hw => h_toG _ n v xs (Rd.at rD hw) hl2)) rfl rfl ?_
  rintro _ _ ⟨T, ⟨u2, rfl, rfl⟩, rfl⟩
  try refine go ⟨?_⟩
  refine WPL.eff OpE.alloc rfl rfl ?_; rintro _ _ ⟨b9, rfl, rfl⟩
  try refine go ⟨?_⟩
  refine WPL.eff (OpE.call lO (fun w hw => c_SafeTogether _ n u2 xs x y (Rd.at rD hw) (by omega))) rfl rfl ?_
  rintro _ _ ⟨T, ⟨rfl, rfl⟩, rfl⟩
  try refine go ⟨?_⟩
  rw [bself]
  try refine go ⟨?_⟩
  refine WP.draw [Tok.blk b9 [.int .i64 n, u2], Tok.own u2 xs, Tok.blk b [.int .i64 n, v]] mixed ?_
  refine WPD.take 0 rfl (by first | exact (Op1.load rfl mM (by rfl)) | exact (Op1.loadI rfl rD lT) | exact (Op1.loadAll rfl mM (by rfl)) | exact (Op1.loadE rfl rD lT (by rfl)) | exact (Op1.loadEAgg rfl rD lT (by rfl))) rfl rfl sT kR kR kR xQP ?_
  refine WPD.take 1 rfl (by first | exact (Op1.load rfl mM (by rfl)) | exact (Op1.loadI rfl rD lT) | exact (Op1.loadAll rfl mM (by rfl)) | exact (Op1.loadE rfl rD lT (by rfl)) | exact (Op1.loadEAgg rfl rD lT (by rfl))) rfl rfl sT kR kR kR xQP ?_
  refine WPD.eff 2 kR rfl (OpE.call lO (fun w hw => h_toG _ n v xs (Rd.at rD hw) hl2)) rfl rfl ?_
  rintro r _ ⟨T, ⟨u3, rfl, rfl⟩, rfl⟩
  refine ⟨sT, ?_⟩
  refine WPD.eff 3 kR rfl (OpE.call lO (fun w hw => h_eqG _ n n u2 u3 xs xs (Rd.at rD hw) (Rd.at rD hw) hl2 hl2)) rfl rfl ?_
  rintro r _ ⟨T, ⟨rfl, rfl⟩, rfl⟩
  rw [gself]
  refine ⟨sT, ?_⟩
  refine WPD.eff 4 kR rfl (OpE.ofPure (by first | exact (Op1.notD rfl) | exact (Op1.not rfl))) rfl rfl ?_
  rintro _ _ ⟨rfl, rfl⟩
  refine ⟨sT, ?_⟩
  refine WPD.done kR ?_
  try refine go ⟨?_⟩
  refine PE.ret1 (T := []) (T' := []) rfl rV ?_ sT
  rfl
end Go.Proofs.Ytmjljnhjamlonaa
/- The given statement FnExactSafeTogetherSaid, out of its walk (LExactSafeTogether). Written by fin.py. No conditions. -/
namespace Go.Proofs.Ytmjljnhjamlonaa.ZfnExactSafeTogether
open Go Go.ChangeShapes Go.WideShapes Go.ChangeAt Go.RowKit Go.Joins
theorem own : ownKnob Try.prog.godebug = none := by kernel_rfl
theorem laidOut : laidOutB Try.prog = true := by kernel_rfl
theorem cells44 : Try.prog.cellsOf 44 = 2 := by kernel_rfl
theorem cells104 : Try.prog.cellsOf 104 = 2 := by kernel_rfl
theorem ct44 : Try.prog.cellTypes Try.prog.depth 44 = some [3, 42] := by kernel_rfl
set_option maxRecDepth 100000 in
theorem lifted (os : Os) (started : os.Started) (H : Type) (enc : TypeId × Value → H) :
    ReturnsInHanded {} Try.checked os 6 .any (Rows.fnExactSafeTogetherSpec.pre6 enc Try.prog Try.f6 Rows.fnExactSafeTogetherRow.domain false) (Rows.fnExactSafeTogetherSpec.post enc Try.prog Try.f6 false true false false) := by
  refine returnsInHanded_of_change (C := Try.checked) own started (by kernel_rfl) Try.func6
    (ChangeSpec.witness6 (enc := enc) (C := Try.checked) false ⟨#[], #[.agg #[.int .i64 0, .slice none 0 0], .int .i64 0, .int .i64 0], []⟩ 8 (by kernel_rfl) (by kernel_rfl) (by kernel_rfl) (by kernel_rfl)) ?_
  intro W base args ds gs before hval0 hW hcnd _
  have hval : ∀ (j : Nat) t v, Try.f6.params[j]? = some t → args[j]? = some v → Value.okWide Try.prog W .any base t v := hval0
  have hW' := hW
  obtain ⟨p, q, hA0, hV, rfl, hfz, hnd⟩ := hW
  have hA : DataW.TrodAll enc Try.prog W 0 (fun _ => true) true Try.f6.params.toList args.toList ds p := hA0
  rw [Try.params6] at hA hval
  obtain ⟨v0, vs0, d0, ds0, p0, q0, hargs, rfl, rfl, h0, r0⟩ := trodAll_cons hA
  obtain ⟨v1, vs1, d1, ds1, p1, q1, rfl, rfl, rfl, h1, r1⟩ := trodAll_cons r0
  obtain ⟨v2, vs2, d2, ds2, p2, q2, rfl, rfl, rfl, h2, r2⟩ := trodAll_cons r1
  obtain ⟨rfl, rfl, rfl⟩ := trodAll_nil r2
  obtain rfl : args = #[v0, v1, v2] := by cases args; simp_all
  obtain ⟨rfl, rfl⟩ := trodVars_none hV
  have k0 := h0
  have lt0 : ∀ x ∈ p0, x.block < W.heap.size := by obtain ⟨m, hm⟩ := k0; exact DataW.trod_lt m _ _ _ hm
  have hv0 := hval 0 44 v0 rfl rfl
  obtain ⟨c00, c01, y00, y01, m0, rfl, rfl, rfl, hy00, hy01⟩ := open_agg2 Try.underlying44 (by kernel_rfl) cells44 hv0 h0
  have hc0 : Cell.okWide Try.prog W .any base 3 c00 ∧ Cell.okWide Try.prog W .any base 42 c01 := by
    simp only [Value.okWide, Try.underlying44] at hv0
    obtain ⟨cs, e, _, ts, hts, _, hcs⟩ := hv0
    rw [ct44] at hts; cases hts; cases e
    obtain ⟨u0, e0, g0⟩ := hcs 0 c00 rfl
    obtain ⟨u1, e1, g1⟩ := hcs 1 c01 rfl
    cases e0; cases e1; exact ⟨g0, g1⟩
  have k0' := k0
  obtain ⟨a00, ea00, _, _⟩ := DataW.trod_int Try.underlying3 hy00
  obtain rfl : c00 = .int .i64 a00 := by simpa using ea00
  obtain ⟨xs01, rl01, ll01⟩ := rl_edges Try.underlying42 Try.underlying104 (by kernel_rfl) (by kernel_rfl) Try.underlying3 Try.underlying3 (by kernel_rfl) (by kernel_rfl) cells104 hc0.2 hy01
  have k1 := h1
  have lt1 : ∀ x ∈ p1, x.block < W.heap.size := by obtain ⟨m, hm⟩ := k1; exact DataW.trod_lt m _ _ _ hm
  obtain ⟨a1, rfl, rfl, rfl, w1⟩ := open_int Try.underlying3 (hval 1 3 v1 rfl rfl) h1
  have k2 := h2
  have lt2 : ∀ x ∈ p2, x.block < W.heap.size := by obtain ⟨m, hm⟩ := k2; exact DataW.trod_lt m _ _ _ hm
  obtain ⟨a2, rfl, rfl, rfl, w2⟩ := open_int Try.underlying3 (hval 2 3 v2 rfl rfl) h2
  clear hA0 hval0
  refine (Tri.holds0 (v := .bool true) (l_ExactSafeTogether W a00 c01 xs01 a1 a2 rl01 ll01) (fun _ _ h => h)).mono fun e W' ⟨he, bel⟩ => ?_
  subst he
  exact ⟨_, rfl, _, _, _, [], _, [], hW', trodAll_mk1 (shut_bool Try.underlying4 _), (trodAll_cons_mk (Below.trod laidOut (by kernel_rfl) (of_decide_eq_true (by kernel_rfl)) k0 bel lt0) (trodAll_cons_mk (shut_int Try.underlying3 w1) (trodAll_cons_mk (shut_int Try.underlying3 w2) trodAll_mk0))), rfl, bel.frame _, fun h => by cases h⟩
theorem over : Rows.fnExactSafeTogetherRow.holds Try.pinned (OpenSpec.ofChange Rows.fnExactSafeTogetherSpec) :=
  OpenClaim.holds_of_wide 6 Try.f6 rfl rfl rfl rfl rfl rfl rfl ⟨rfl, rfl, rfl, rfl, rfl⟩ rfl rfl rfl rfl rfl (by kernel_rfl) Try.func6 (by unfold joinedFacts; rw [initMay, initLift, initMake]; kernel_rfl)
    (of_decide_eq_true (by kernel_rfl)) (by unfold Func.isWrapper; first | (rw [if_pos (by decide +kernel)]; kernel_rfl) | (rw [if_neg (by decide +kernel)]; exact ⟨rfl, rfl⟩))
    (fun os started H enc _ => lifted os started H enc)
/-- The statement. -/
theorem proved : Rows.FnExactSafeTogetherSaid := over
end Go.Proofs.Ytmjljnhjamlonaa.ZfnExactSafeTogether
