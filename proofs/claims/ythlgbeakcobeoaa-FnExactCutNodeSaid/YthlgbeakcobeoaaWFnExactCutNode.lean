/- The given statement FnExactCutNodeSaid, out of its walk (LExactCutNode). Written by fin.py. No conditions. -/
import Derived.Test.YthlgbeakcobeoaaInit
import Derived.Test.YthlgbeakcobeoaaV4
namespace Go.Proofs.Ythlgbeakcobeoaa.ZfnExactCutNode
open Go Go.ChangeShapes Go.WideShapes Go.ChangeAt Go.RowKit Go.Joins
theorem own : ownKnob Try.prog.godebug = none := by kernel_rfl
theorem laidOut : laidOutB Try.prog = true := by kernel_rfl
theorem cells24 : Try.prog.cellsOf 24 = 2 := by kernel_rfl
theorem cells116 : Try.prog.cellsOf 116 = 2 := by kernel_rfl
theorem ct24 : Try.prog.cellTypes Try.prog.depth 24 = some [3, 22] := by kernel_rfl
set_option maxRecDepth 100000 in
theorem lifted (os : Os) (started : os.Started) (H : Type) (enc : TypeId × Value → H) :
    ReturnsInHanded {} Try.checked os 6 .any (Rows.fnExactCutNodeSpec.pre6 enc Try.prog Try.f6 Rows.fnExactCutNodeRow.domain false) (Rows.fnExactCutNodeSpec.post enc Try.prog Try.f6 false true false false) := by
  refine returnsInHanded_of_change (C := Try.checked) own started (by kernel_rfl) Try.func6
    (ChangeSpec.witness6 (enc := enc) (C := Try.checked) false ⟨#[], #[.agg #[.int .i64 0, .slice none 0 0], .int .i64 0], []⟩ 8 (by kernel_rfl) (by kernel_rfl) (by kernel_rfl) (by kernel_rfl)) ?_
  intro W base args ds gs before hval0 hW hcnd _
  have hval : ∀ (j : Nat) t v, Try.f6.params[j]? = some t → args[j]? = some v → Value.okWide Try.prog W .any base t v := hval0
  have hW' := hW
  obtain ⟨p, q, hA0, hV, rfl, hfz, hnd⟩ := hW
  have hA : DataW.TrodAll enc Try.prog W 0 (fun _ => true) true Try.f6.params.toList args.toList ds p := hA0
  rw [Try.params6] at hA hval
  obtain ⟨v0, vs0, d0, ds0, p0, q0, hargs, rfl, rfl, h0, r0⟩ := trodAll_cons hA
  obtain ⟨v1, vs1, d1, ds1, p1, q1, rfl, rfl, rfl, h1, r1⟩ := trodAll_cons r0
  obtain ⟨rfl, rfl, rfl⟩ := trodAll_nil r1
  obtain rfl : args = #[v0, v1] := by cases args; simp_all
  obtain ⟨rfl, rfl⟩ := trodVars_none hV
  have k0 := h0
  have lt0 : ∀ x ∈ p0, x.block < W.heap.size := by obtain ⟨m, hm⟩ := k0; exact DataW.trod_lt m _ _ _ hm
  have hv0 := hval 0 24 v0 rfl rfl
  obtain ⟨c00, c01, y00, y01, m0, rfl, rfl, rfl, hy00, hy01⟩ := open_agg2 Try.underlying24 (by kernel_rfl) cells24 hv0 h0
  have hc0 : Cell.okWide Try.prog W .any base 3 c00 ∧ Cell.okWide Try.prog W .any base 22 c01 := by
    simp only [Value.okWide, Try.underlying24] at hv0
    obtain ⟨cs, e, _, ts, hts, _, hcs⟩ := hv0
    rw [ct24] at hts; cases hts; cases e
    obtain ⟨u0, e0, g0⟩ := hcs 0 c00 rfl
    obtain ⟨u1, e1, g1⟩ := hcs 1 c01 rfl
    cases e0; cases e1; exact ⟨g0, g1⟩
  have k0' := k0
  obtain ⟨a00, ea00, _, _⟩ := DataW.trod_int Try.underlying3 hy00
  obtain rfl : c00 = .int .i64 a00 := by simpa using ea00
  obtain ⟨xs01, rl01, ll01⟩ := rl_edges Try.underlying22 Try.underlying116 (by kernel_rfl) (by kernel_rfl) Try.underlying3 Try.underlying3 (by kernel_rfl) (by kernel_rfl) cells116 hc0.2 hy01
  have k1 := h1
  have lt1 : ∀ x ∈ p1, x.block < W.heap.size := by obtain ⟨m, hm⟩ := k1; exact DataW.trod_lt m _ _ _ hm
  obtain ⟨a1, rfl, rfl, rfl, w1⟩ := open_int Try.underlying3 (hval 1 3 v1 rfl rfl) h1
  clear hA0 hval0
  refine (Tri.holds0 (v := .bool true) (l_ExactCutNode W a00 c01 xs01 a1 rl01 ll01) (fun _ _ h => h)).mono fun e W' ⟨he, bel⟩ => ?_
  subst he
  exact ⟨_, rfl, _, _, _, [], _, [], hW', trodAll_mk1 (shut_bool Try.underlying4 _), (trodAll_cons_mk (Below.trod laidOut (by kernel_rfl) (of_decide_eq_true (by kernel_rfl)) k0 bel lt0) (trodAll_cons_mk (shut_int Try.underlying3 w1) trodAll_mk0)), rfl, bel.frame _, fun h => by cases h⟩
theorem over : Rows.fnExactCutNodeRow.holds Try.pinned (OpenSpec.ofChange Rows.fnExactCutNodeSpec) :=
  OpenClaim.holds_of_wide 6 Try.f6 rfl rfl rfl rfl rfl rfl rfl ⟨rfl, rfl, rfl, rfl, rfl⟩ rfl rfl rfl rfl rfl (by kernel_rfl) Try.func6 (by unfold joinedFacts; rw [initMay, initLift, initMake]; kernel_rfl)
    (of_decide_eq_true (by kernel_rfl)) (by unfold Func.isWrapper; first | (rw [if_pos (by decide +kernel)]; kernel_rfl) | (rw [if_neg (by decide +kernel)]; exact ⟨rfl, rfl⟩))
    (fun os started H enc _ => lifted os started H enc)
/-- The statement. -/
theorem proved : Rows.FnExactCutNodeSaid := over
end Go.Proofs.Ythlgbeakcobeoaa.ZfnExactCutNode
