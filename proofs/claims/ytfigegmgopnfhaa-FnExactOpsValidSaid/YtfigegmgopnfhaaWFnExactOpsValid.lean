/- The given statement FnExactOpsValidSaid, out of its walk (LExactOpsValid). Written by fin.py. No conditions. -/
import Derived.Test.YtfigegmgopnfhaaInit
import Derived.Test.YtfigegmgopnfhaaV4
import Derived.Test.YtfigegmgopnfhaaV13
import Derived.Test.YtfigegmgopnfhaaV18
set_option linter.unusedVariables false
set_option linter.unusedSimpArgs false
/- The law FnExactOpsValid: its walk. Conditions: those of the theorem. -/
namespace Go.Proofs.Ytfigegmgopnfhaa
open Go
theorem bselfO (d : Bool) : (d != d) = false := by cases d <;> rfl
theorem deq_Op (l : List Oper1) : decide (l = l) = true := decide_eq_true rfl
set_option linter.unusedVariables false set_option linter.unusedSimpArgs false attribute [local irreducible] Tok.own Tok.blk RL Rd eptr WP WPL PE WPD WPO Op1 OpE Tri Again Mid Exit.then Exit.inBlock bodyPost RP Code.wp wpList isOwn OneM One
attribute [local irreducible] OV
set_option maxHeartbeats 8000000

theorem l_ExactOpsValid (w : World) (n : Int) (v : Value) (xs : List Oper1) (h : RL w v xs) (hl : xs.length ≤ 9223372036854775807) :
    Tri Try.prog 4 [.int .i64 n, v] w [] fun r T => r = .bool true := by
  refine Tri.intro (hf := Try.func4) (hb := rfl) (hn := Try.ntmps4) (Nat.le_of_ble_eq_true rfl) ?_
  try refine go ⟨?_⟩
  refine WPL.eff (OpE.call lO (fun w hw => h_szOS _ v xs 1048576 (Rd.at rD hw) hl (by omega) (by omega))) rfl rfl ?_
  rintro r _ ⟨T, ⟨rfl, hr⟩, rfl⟩
  rcases hr with ⟨hsz, rfl⟩ | ⟨hsz, rfl⟩
  case inr =>
    repeat' (first | refine go ⟨?_⟩ | (refine isCond ?_; refine WP.condD rfl (fun hc => ?_) (fun hc => ?_)) | (refine isGuard ?_; refine WPL.splitD rfl rfl (fun hc => ?_) (fun hc => ?_)))
    refine PE.ret1 (T := []) (T' := []) rfl rV ?_ sT
    rfl
  have hl2 : xs.length ≤ 1048576 := by omega
  try refine go ⟨?_⟩
  refine WP.condD rfl (fun hc => ?_) (fun hc => ?_)
  · exfalso; omega
  try refine go ⟨?_⟩
  refine WPL.eff (OpE.call lO (fun w hw => h_toOS _ v xs (Rd.at rD hw) hl2)) rfl rfl ?_
  rintro u1 _ ⟨T, rfl, rfl⟩
  try refine go ⟨?_⟩
  refine WPL.eff (OpE.call lO (fun w hw => s_OpsValid _ n u1 xs (Rd.at rD hw) (by omega))) rfl rfl ?_
  rintro _ _ ⟨T, ⟨rfl, rfl⟩, rfl⟩
  try refine go ⟨?_⟩
  refine WPL.eff (OpE.call lO (fun w hw => h_toOS _ v xs (Rd.at rD hw) hl2)) rfl rfl ?_
  rintro u2 _ ⟨T, rfl, rfl⟩
  try refine go ⟨?_⟩
  refine WPL.eff (OpE.call lO (fun w hw => c_OpsValid _ n u2 xs (Rd.at rD hw) (by omega))) rfl rfl ?_
  rintro _ _ ⟨T, ⟨rfl, rfl⟩, rfl⟩
  try refine go ⟨?_⟩
  rw [bselfO]
  try refine go ⟨?_⟩
  refine WPL.eff (OpE.call lO (fun w hw => h_toOS _ v xs (Rd.at rD hw) hl2)) rfl rfl ?_
  rintro u3 _ ⟨T, rfl, rfl⟩
  try refine go ⟨?_⟩
  refine WPL.eff (OpE.call lO (fun w hw => h_eqOS _ u2 u3 xs xs (Rd.at rD hw) (Rd.at rD hw) hl2 hl2)) rfl rfl ?_
  rintro _ _ ⟨T, ⟨rfl, rfl⟩, rfl⟩
  rw [deq_Op]
  try refine go ⟨?_⟩
  refine PE.ret1 (T := []) (T' := []) rfl rV ?_ sT
  rfl
end Go.Proofs.Ytfigegmgopnfhaa
/- The given statement FnExactOpsValidSaid, out of its walk (LExactOpsValid). Written by fin.py. No conditions. -/
namespace Go.Proofs.Ytfigegmgopnfhaa.ZfnExactOpsValid
open Go Go.ChangeShapes Go.WideShapes Go.ChangeAt Go.RowKit Go.Joins
theorem own : ownKnob Try.prog.godebug = none := by kernel_rfl
theorem laidOut : laidOutB Try.prog = true := by kernel_rfl
theorem cells101 : Try.prog.cellsOf 101 = 3 := by kernel_rfl
set_option maxRecDepth 100000 in
theorem lifted (os : Os) (started : os.Started) (H : Type) (enc : TypeId × Value → H) :
    ReturnsInHanded {} Try.checked os 4 .any (Rows.fnExactOpsValidSpec.pre6 enc Try.prog Try.f4 Rows.fnExactOpsValidRow.domain false) (Rows.fnExactOpsValidSpec.post enc Try.prog Try.f4 false true false false) := by
  refine returnsInHanded_of_change (C := Try.checked) own started (by kernel_rfl) Try.func4
    (ChangeSpec.witness6 (enc := enc) (C := Try.checked) false ⟨#[], #[.int .i64 0, .slice none 0 0], []⟩ 8 (by kernel_rfl) (by kernel_rfl) (by kernel_rfl) (by kernel_rfl)) ?_
  intro W base args ds gs before hval0 hW hcnd _
  have hval : ∀ (j : Nat) t v, Try.f4.params[j]? = some t → args[j]? = some v → Value.okWide Try.prog W .any base t v := hval0
  have hW' := hW
  obtain ⟨p, q, hA0, hV, rfl, hfz, hnd⟩ := hW
  have hA : DataW.TrodAll enc Try.prog W 0 (fun _ => true) true Try.f4.params.toList args.toList ds p := hA0
  rw [Try.params4] at hA hval
  obtain ⟨v0, vs0, d0, ds0, p0, q0, hargs, rfl, rfl, h0, r0⟩ := trodAll_cons hA
  obtain ⟨v1, vs1, d1, ds1, p1, q1, rfl, rfl, rfl, h1, r1⟩ := trodAll_cons r0
  obtain ⟨rfl, rfl, rfl⟩ := trodAll_nil r1
  obtain rfl : args = #[v0, v1] := by cases args; simp_all
  obtain ⟨rfl, rfl⟩ := trodVars_none hV
  have k0 := h0
  have lt0 : ∀ x ∈ p0, x.block < W.heap.size := by obtain ⟨m, hm⟩ := k0; exact DataW.trod_lt m _ _ _ hm
  obtain ⟨a0, rfl, rfl, rfl, w0⟩ := open_int Try.underlying3 (hval 0 3 v0 rfl rfl) h0
  have k1 := h1
  have lt1 : ∀ x ∈ p1, x.block < W.heap.size := by obtain ⟨m, hm⟩ := k1; exact DataW.trod_lt m _ _ _ hm
  obtain ⟨xs1, rl1, ll1⟩ : ∃ xs : List Oper1, RL W v1 xs ∧ xs.length ≤ 9223372036854775807 := by
    have hv := hval 1 34 v1 rfl rfl
    simp only [Value.okWide, Try.underlying34] at hv
    obtain ⟨a, l, c, rfl⟩ := okWide_slice Try.underlying34 (hval 1 34 v1 rfl rfl)
    obtain ⟨m, hm⟩ := k1
    exact rl_ops Try.underlying34 Try.underlying101 Try.underlying99 (by kernel_rfl) (by kernel_rfl) (by kernel_rfl) (by kernel_rfl) Try.underlying3 Try.underlying3 Try.underlying3 (by kernel_rfl) (by kernel_rfl) (by kernel_rfl) (by kernel_rfl) cells101 hv (by simpa [Value.cells] using hm)
  clear hA0 hval0
  refine (Tri.holds0 (v := .bool true) (l_ExactOpsValid W a0 v1 xs1 rl1 ll1) (fun _ _ h => h)).mono fun e W' ⟨he, bel⟩ => ?_
  subst he
  exact ⟨_, rfl, _, _, _, [], _, [], hW', trodAll_mk1 (shut_bool Try.underlying4 _), (trodAll_cons_mk (shut_int Try.underlying3 w0) (trodAll_cons_mk (Below.trod laidOut (by kernel_rfl) (of_decide_eq_true (by kernel_rfl)) k1 bel lt1) trodAll_mk0)), rfl, bel.frame _, fun h => by cases h⟩
theorem over : Rows.fnExactOpsValidRow.holds Try.pinned (OpenSpec.ofChange Rows.fnExactOpsValidSpec) :=
  OpenClaim.holds_of_wide 4 Try.f4 rfl rfl rfl rfl rfl rfl rfl ⟨rfl, rfl, rfl, rfl, rfl⟩ rfl rfl rfl rfl rfl (by kernel_rfl) Try.func4 (by unfold joinedFacts; rw [initMay, initLift, initMake]; kernel_rfl)
    (of_decide_eq_true (by kernel_rfl)) (by unfold Func.isWrapper; first | (rw [if_pos (by decide +kernel)]; kernel_rfl) | (rw [if_neg (by decide +kernel)]; exact ⟨rfl, rfl⟩))
    (fun os started H enc _ => lifted os started H enc)
/-- The statement. -/
theorem proved : Rows.FnExactOpsValidSaid := over
end Go.Proofs.Ytfigegmgopnfhaa.ZfnExactOpsValid
