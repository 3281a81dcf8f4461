/- The given statement FnFindRootSaid, out of its walk (LFindRoot). Written by fin.py. No conditions. -/
import Derived.Test.YthlgbeakcobeoaaInit
import Derived.Test.YthlgbeakcobeoaaV4
import Derived.Test.YthlgbeakcobeoaaV8
set_option linter.unusedVariables false
set_option linter.unusedSimpArgs false
/- The law FnFindRoot: its walk. Conditions: those of the theorem. -/
namespace Go.Proofs.Ythlgbeakcobeoaa
open Go
set_option linter.unusedVariables false set_option linter.unusedSimpArgs false attribute [local irreducible] Tok.own Tok.blk RL Rd eptr WP WPL PE WPD WPO Op1 OpE Tri Again Mid Exit.then Exit.inBlock bodyPost RP Code.wp wpList isOwn OneM One
attribute [local irreducible] SV
set_option maxHeartbeats 8000000

theorem l_FindRoot (w : World) (v : Value) (bs : List UInt8) (h : RL w v bs) (hl : bs.length ≤ 9223372036854775807) :
    Tri Try.prog 10 [v] w [] fun r T => r = .bool true := by
  refine Tri.intro (hf := Try.func10) (hb := rfl) (hn := Try.ntmps10) (Nat.le_of_ble_eq_true rfl) ?_
  repeat' (first | exact absurd rfl hc | refine go ⟨?_⟩ | (refine isCond ?_; refine WP.condD rfl (fun hc => ?_) (fun hc => ?_)) | (refine isGuard ?_; refine WPL.splitD rfl rfl (fun hc => ?_) (fun hc => ?_)))
  · refine PE.ret1 (T := []) (T' := []) rfl rV ?_ sT
    rfl
  refine WPL.eff (OpE.call lO (fun w hw => g_DFindRoot _ v bs (Rd.at rD hw) hl)) rfl rfl ?_
  rintro r _ ⟨T, ⟨a1, a2, a3, s, x, rfl, rfl, sh⟩, rfl⟩
  have sh1 := sh.1
  have sh2 := sh.2.1
  have sh3 := sh.2.2
  try refine go ⟨?_⟩
  refine WPL.eff OpE.alloc rfl rfl ?_; rintro _ _ ⟨b3, rfl, rfl⟩
  try refine go ⟨?_⟩
  refine WPL.eff (OpE.call lO (fun w hw => c_FindRoot _ a1 a2 a3 s x (Rd.at rD hw) (Rd.at rD hw) (Rd.at rD hw) (by omega) (by omega) (by omega))) rfl rfl ?_
  rintro r _ ⟨T, ⟨rfl, rfl⟩, rfl⟩
  try refine go ⟨?_⟩
  refine WPL.eff (OpE.call lO (fun w hw => s_FindRoot _ a1 a2 a3 s x (Rd.at rD hw) (Rd.at rD hw) (Rd.at rD hw) (by omega) (by omega) (by omega))) rfl rfl ?_
  rintro r _ ⟨T, ⟨rfl, rfl⟩, rfl⟩
  by_cases he : EL s x
  case neg =>
    rw [decide_eq_false he, if_neg he]
    try refine go ⟨?_⟩
    refine PE.ret1 (T := []) (T' := []) rfl rV ?_ sT
    rfl
  rw [decide_eq_true he, if_pos he]
  obtain ⟨e1, e2, e3, e4⟩ := EL_root he
  have hlz := he.sv.inv.lz
  obtain ⟨R, hR⟩ : ∃ R, R = (lb s).getD x.toNat 0 := ⟨_, rfl⟩
  rw [← hR] at e1 e2 e3 e4 ⊢
  have hR1 := e1.nd.1
  have hR2 := e1.nd.2
  have hml := mem_len s x
  have hmm : R ∈ mem s x := mem_mem.2 ⟨e1.nd, by rw [e2, hR]⟩
  try refine go ⟨?_⟩
  rw [iself']
  try refine go ⟨?_⟩
  refine WPL.eff (OpE.call lO (fun w hw => c_FindRoot _ a1 a2 a3 s R (Rd.at rD hw) (Rd.at rD hw) (Rd.at rD hw) (by omega) (by omega) (by omega))) rfl rfl ?_
  rintro r _ ⟨T, ⟨rfl, rfl⟩, rfl⟩
  rw [decide_eq_true e1, if_pos e1, e2]
  try refine go ⟨?_⟩
  refine WPL.eff (OpE.call lO (fun w hw => c_MembersOf _ a1 a2 a3 s x (Rd.at rD hw) (Rd.at rD hw) (Rd.at rD hw) (by omega) (by omega) (by omega))) rfl rfl ?_
  rintro r _ ⟨T, ⟨u, rfl, rfl⟩, rfl⟩
  rw [decide_eq_true he, if_pos he]
  try refine go ⟨?_⟩
  rw [iself]
  try refine go ⟨?_⟩
  rw [e4, iself]
  try refine go ⟨?_⟩
  refine WPL.eff (OpE.call lO (fun w hw => y_In _ u R (mem s x) (Rd.at rD hw) (by omega))) rfl rfl ?_
  rintro r _ ⟨T, ⟨rfl, rfl⟩, rfl⟩
  rw [decide_eq_true hmm]
  try refine go ⟨?_⟩
  rw [e3, iself]
  refine PE.ret1 (T := []) (T' := []) rfl rV ?_ sT
  rfl
end Go.Proofs.Ythlgbeakcobeoaa
/- The given statement FnFindRootSaid, out of its walk (LFindRoot). Written by fin.py. No conditions. -/
namespace Go.Proofs.Ythlgbeakcobeoaa.ZfnFindRoot
open Go Go.ChangeShapes Go.WideShapes Go.ChangeAt Go.RowKit Go.Joins
theorem own : ownKnob Try.prog.godebug = none := by kernel_rfl
theorem laidOut : laidOutB Try.prog = true := by kernel_rfl
theorem cells5 : Try.prog.cellsOf 5 = 1 := by kernel_rfl
set_option maxRecDepth 100000 in
theorem lifted (os : Os) (started : os.Started) (H : Type) (enc : TypeId × Value → H) :
    ReturnsInHanded {} Try.checked os 10 .any (Rows.fnFindRootSpec.pre6 enc Try.prog Try.f10 Rows.fnFindRootRow.domain false) (Rows.fnFindRootSpec.post enc Try.prog Try.f10 false true false false) := by
  refine returnsInHanded_of_change (C := Try.checked) own started (by kernel_rfl) Try.func10
    (ChangeSpec.witness6 (enc := enc) (C := Try.checked) false ⟨#[], #[.slice none 0 0], []⟩ 8 (by kernel_rfl) (by kernel_rfl) (by kernel_rfl) (by kernel_rfl)) ?_
  intro W base args ds gs before hval0 hW hcnd _
  have hval : ∀ (j : Nat) t v, Try.f10.params[j]? = some t → args[j]? = some v → Value.okWide Try.prog W .any base t v := hval0
  have hW' := hW
  obtain ⟨p, q, hA0, hV, rfl, hfz, hnd⟩ := hW
  have hA : DataW.TrodAll enc Try.prog W 0 (fun _ => true) true Try.f10.params.toList args.toList ds p := hA0
  rw [Try.params10] at hA hval
  obtain ⟨v0, vs0, d0, ds0, p0, q0, hargs, rfl, rfl, h0, r0⟩ := trodAll_cons hA
  obtain ⟨rfl, rfl, rfl⟩ := trodAll_nil r0
  obtain rfl : args = #[v0] := by cases args; simp_all
  obtain ⟨rfl, rfl⟩ := trodVars_none hV
  have k0 := h0
  have lt0 : ∀ x ∈ p0, x.block < W.heap.size := by obtain ⟨m, hm⟩ := k0; exact DataW.trod_lt m _ _ _ hm
  obtain ⟨xs0, rl0, ll0⟩ : ∃ xs : List UInt8, RL W v0 xs ∧ xs.length ≤ 9223372036854775807 := by
    have hv := hval 0 46 v0 rfl rfl
    simp only [Value.okWide, Try.underlying46] at hv
    obtain ⟨a, l, c, rfl⟩ := okWide_slice Try.underlying46 (hval 0 46 v0 rfl rfl)
    obtain ⟨m, hm⟩ := k0
    exact rl_bytes Try.underlying46 Try.underlying5 cells5 hv (by simpa [Value.cells] using hm)
  clear hA0 hval0
  refine (Tri.holds0 (v := .bool true) (l_FindRoot W v0 xs0 rl0 ll0) (fun _ _ h => h)).mono fun e W' ⟨he, bel⟩ => ?_
  subst he
  exact ⟨_, rfl, _, _, _, [], _, [], hW', trodAll_mk1 (shut_bool Try.underlying4 _), (trodAll_cons_mk (Below.trod laidOut (by kernel_rfl) (of_decide_eq_true (by kernel_rfl)) k0 bel lt0) trodAll_mk0), rfl, bel.frame _, fun h => by cases h⟩
theorem over : Rows.fnFindRootRow.holds Try.pinned (OpenSpec.ofChange Rows.fnFindRootSpec) :=
  OpenClaim.holds_of_wide 10 Try.f10 rfl rfl rfl rfl rfl rfl rfl ⟨rfl, rfl, rfl, rfl, rfl⟩ rfl rfl rfl rfl rfl (by kernel_rfl) Try.func10 (by unfold joinedFacts; rw [initMay, initLift, initMake]; kernel_rfl)
    (of_decide_eq_true (by kernel_rfl)) (by unfold Func.isWrapper; first | (rw [if_pos (by decide +kernel)]; kernel_rfl) | (rw [if_neg (by decide +kernel)]; exact ⟨rfl, rfl⟩))
    (fun os started H enc _ => lifted os started H enc)
/-- The statement. -/
theorem proved : Rows.FnFindRootSaid := over
end Go.Proofs.Ythlgbeakcobeoaa.ZfnFindRoot
