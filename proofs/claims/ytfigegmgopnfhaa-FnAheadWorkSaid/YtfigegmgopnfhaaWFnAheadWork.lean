/- The given statement FnAheadWorkSaid, out of its walk (LAheadWork). Written by fin.py. No conditions. -/
import Derived.Test.YtfigegmgopnfhaaInit
import Derived.Test.YtfigegmgopnfhaaV2
import Derived.Test.YtfigegmgopnfhaaV4
import Derived.Test.YtfigegmgopnfhaaV9
import Derived.Test.YtfigegmgopnfhaaV14
set_option linter.unusedVariables false
set_option linter.unusedSimpArgs false
/- The law FnOpsValid: its walk. Conditions: those of the theorem. -/
namespace Go.Proofs.Ytfigegmgopnfhaa
open Go
theorem bselfV (d : Bool) : (d != d) = false := by cases d <;> rfl
theorem deq_Bool (d : Bool) : decide (d = d) = true := decide_eq_true rfl
theorem beq_Bool (d : Bool) : (d == d) = true := by cases d <;> rfl
theorem runA_take {n : Int} {ops : List Oper1} (h : OV n ops) {k : Nat} (hk : k ≤ ops.length) : (runA n (ops.take k)).length ≤ (runA n ops).length ∧ runA n (ops.take k) = (runA n ops).take (runA n (ops.take k)).length := by
  have e1 : runA n (ops.take k) = ans n ops k := by
    unfold runA
    rw [if_pos (h.take k), List.length_take, Nat.min_eq_left hk, ans_take n ops k k (Nat.le_refl _) hk]
  have e2 : runA n ops = ans n ops ops.length := if_pos h
  have hp := ans_prefix n ops k ops.length hk
  rw [e1, e2]
  exact ⟨hp.length_le, List.prefix_iff_eq_take.1 hp⟩
set_option linter.unusedVariables false set_option linter.unusedSimpArgs false attribute [local irreducible] Tok.own Tok.blk RL Rd eptr WP WPL PE WPD WPO Op1 OpE Tri Again Mid Exit.then Exit.inBlock bodyPost RP Code.wp wpList isOwn OneM One
attribute [local irreducible] OV runA
set_option maxHeartbeats 8000000

theorem l_OpsValid (w : World) (v : Value) (bs : List UInt8) (h : RL w v bs) (hl : bs.length ≤ 9223372036854775807) :
    Tri Try.prog 5 [v] w [] fun r T => r = .bool true := by
  refine Tri.intro (hf := Try.func5) (hb := rfl) (hn := Try.ntmps5) (Nat.le_of_ble_eq_true rfl) ?_
  repeat' (first | exact absurd rfl hc | refine go ⟨?_⟩ | (refine isCond ?_; refine WP.condD rfl (fun hc => ?_) (fun hc => ?_)) | (refine isGuard ?_; refine WPL.splitD rfl rfl (fun hc => ?_) (fun hc => ?_)))
  · refine PE.ret1 (T := []) (T' := []) rfl rV ?_ sT
    rfl
  refine WPL.eff (OpE.call lO (fun w hw => g_D8OpsValid _ v bs (Rd.at rD hw) hl)) rfl rfl ?_
  rintro r _ ⟨T, ⟨vl, n, ops, rfl, rfl, hle⟩, rfl⟩
  have hal := runA_le n ops
  try refine go ⟨?_⟩
  refine WPL.eff (OpE.call lO (fun w hw => c_OpsValid _ n vl ops (Rd.at rD hw) (by omega))) rfl rfl ?_
  rintro _ _ ⟨T, ⟨rfl, rfl⟩, rfl⟩
  try refine go ⟨?_⟩
  refine WPL.eff (OpE.call lO (fun w hw => s_OpsValid _ n vl ops (Rd.at rD hw) (by omega))) rfl rfl ?_
  rintro _ _ ⟨T, ⟨rfl, rfl⟩, rfl⟩
  try refine go ⟨?_⟩
  rw [bselfV]
  try refine go ⟨?_⟩
  refine WP.condD rfl (fun hv => ?_) (fun hv => ?_)
  · try refine go ⟨?_⟩
    refine WPL.eff (OpE.call lO (fun w hw => s_OpsValid _ n vl ops (Rd.at rD hw) (by omega))) rfl rfl ?_
    rintro _ _ ⟨T, ⟨rfl, rfl⟩, rfl⟩
    try refine go ⟨?_⟩
    refine PE.ret1 (T := []) (T' := []) rfl rV ?_ sT
    rw [decide_eq_false hv]; rfl
  have hv : OV n ops := Decidable.not_not.1 hv
  try refine go ⟨?_⟩
  refine WPL.eff (OpE.call lO (fun w hw => c_AnswersOf _ n vl ops (Rd.at rD hw) (by omega))) rfl rfl ?_
  rintro _ _ ⟨T, ⟨va, rfl, rfl⟩, rfl⟩
  try refine go ⟨?_⟩
  refine WP.loop (σ := Nat) (fun k => [(3, .int .i64 n), (4, vl), (6, va), (8, .int .i64 k)]) (fun _ => [Tok.own va (runA n ops), Tok.own vl ops]) (fun k => k ≤ ops.length + 1) (fun k => ops.length + 1 - k) 0 (Nat.zero_le _) sE sT2 ?_
  rintro k hk
  try refine go ⟨?_⟩
  refine WP.condD rfl (fun hc => ?_) (fun hc => ?_)
  · have hk' : (k : Int).toNat ≤ ops.length := by omega
    have hvt := hv.take (k : Int).toNat
    obtain ⟨hB1, hB2⟩ := runA_take hv hk'
    have hbl := runA_le n (ops.take (k : Int).toNat)
    have htl : (ops.take (k : Int).toNat).length ≤ 1099511627776 := by rw [List.length_take]; omega
    try refine go ⟨?_⟩
    refine WPL.eff (OpE.call lO (fun w hw => c_AnswersOf _ n (slcV vl (k : Int).toNat) (ops.take (k : Int).toNat) (RL.take (Rd.at rD hw) hk') htl)) rfl rfl ?_
    rintro _ _ ⟨T, ⟨vb, rfl, rfl⟩, rfl⟩
    rw [decide_eq_true hvt]
    try refine go ⟨?_⟩
    refine WPL.eff (OpE.call lO (fun w hw => c_OpsValid _ n (slcV vl (k : Int).toNat) (ops.take (k : Int).toNat) (RL.take (Rd.at rD hw) hk') htl)) rfl rfl ?_
    rintro _ _ ⟨T, ⟨rfl, rfl⟩, rfl⟩
    rw [decide_eq_true hvt]
    try refine go ⟨?_⟩
    rw [decide_eq_false (show ¬ ((runA n (ops.take (k : Int).toNat)).length : Int) > ((runA n ops).length : Int) by omega)]
    have hb' : ((runA n (ops.take (k : Int).toNat)).length : Int).toNat ≤ (runA n ops).length := by omega
    have hq : runA n (ops.take (k : Int).toNat) = (runA n ops).take ((runA n (ops.take (k : Int).toNat)).length : Int).toNat := by rw [Int.toNat_natCast]; exact hB2
    generalize runA n (ops.take (k : Int).toNat) = B at *
    try refine go ⟨?_⟩
    refine WPL.eff (OpE.call lO (fun w hw => y_Bools _ vb (slcV va (B.length : Int).toNat) B ((runA n ops).take (B.length : Int).toNat) (Rd.at rD hw) (RL.take (Rd.at rD hw) hb') (by omega) (by rw [List.length_take]; omega))) rfl rfl ?_
    rintro _ _ ⟨T, ⟨rfl, rfl⟩, rfl⟩
    rw [decide_eq_true hq]
    try refine go ⟨?_⟩
    refine PE.again (k + 1) ?_ ?_ sE sT2
    · (try dsimp only); omega
    · (try dsimp only); omega
  · try refine go ⟨?_⟩
    refine PE.ret1 (T := []) (T' := []) rfl rV ?_ sT
    rfl
end Go.Proofs.Ytfigegmgopnfhaa
/- The law FnAheadWork: its walk. Conditions: those of the theorem. -/
namespace Go.Proofs.Ytfigegmgopnfhaa
open Go
theorem deq_LBA (l : List Bool) : decide (l = l) = true := decide_eq_true rfl
theorem ine_selfA (a : Int) : decide (a ≠ a) = false := decide_eq_false fun h => h rfl
theorem wrkR_le {n : Int} {ops : List Oper1} (h : OV n ops) : (livR n ops).length ≤ wrkR n ops ∧ wrkR n ops ≤ 12 * (livR n ops).length := by
  have e1 : wrkR n ops = wrk ops := if_pos h
  have e2 : livR n ops = livs ops := if_pos h
  rw [e1, e2]; exact wrk_le h
set_option linter.unusedVariables false set_option linter.unusedSimpArgs false attribute [local irreducible] Tok.own Tok.blk RL Rd eptr WP WPL PE WPD WPO Op1 OpE Tri Again Mid Exit.then Exit.inBlock bodyPost RP Code.wp wpList isOwn OneM One
attribute [local irreducible] OV runA wrkR livR
set_option maxHeartbeats 8000000

theorem l_AheadWork (w : World) (v : Value) (bs : List UInt8) (h : RL w v bs) (hl : bs.length ≤ 9223372036854775807) :
    Tri Try.prog 3 [v] w [] fun r T => r = .bool true := by
  refine Tri.intro (hf := Try.func3) (hb := rfl) (hn := Try.ntmps3) (Nat.le_of_ble_eq_true rfl) ?_
  repeat' (first | exact absurd rfl hc | refine go ⟨?_⟩ | (refine isCond ?_; refine WP.condD rfl (fun hc => ?_) (fun hc => ?_)) | (refine isGuard ?_; refine WPL.splitD rfl rfl (fun hc => ?_) (fun hc => ?_)))
  · refine PE.ret1 (T := []) (T' := []) rfl rV ?_ sT
    rfl
  refine WPL.eff (OpE.call lO (fun w hw => g_D8AnswersAhead _ v bs (Rd.at rD hw) hl)) rfl rfl ?_
  rintro r _ ⟨T, ⟨vl, n, ops, rfl, rfl, hle⟩, rfl⟩
  have hal := runA_le n ops
  try refine go ⟨?_⟩
  refine WPL.eff (OpE.call lO (fun w hw => c_AnswersAhead _ n vl ops (Rd.at rD hw) (by omega))) rfl rfl ?_
  rintro _ _ ⟨T, ⟨va, rfl, rfl⟩, rfl⟩
  try refine go ⟨?_⟩
  refine WPL.eff (OpE.call lO (fun w hw => s_AnswersAhead _ n vl ops (Rd.at rD hw) (by omega))) rfl rfl ?_
  rintro _ _ ⟨T, ⟨vw, rfl, rfl⟩, rfl⟩
  try refine go ⟨?_⟩
  by_cases hv : OV n ops
  case neg =>
    rw [decide_eq_false hv]
    refine WPL.eff (OpE.call lO (fun w hw => y_Bools _ va vw (runA n ops) (runA n ops) (Rd.at rD hw) (Rd.at rD hw) (by omega) (by omega))) rfl rfl ?_
    rintro _ _ ⟨T, ⟨rfl, rfl⟩, rfl⟩
    rw [deq_LBA]
    try refine go ⟨?_⟩
    rw [ine_selfA]
    try refine go ⟨?_⟩
    refine WPL.eff (OpE.call lO (fun w hw => y_Bools _ va vw (runA n ops) (runA n ops) (Rd.at rD hw) (Rd.at rD hw) (by omega) (by omega))) rfl rfl ?_
    rintro _ _ ⟨T, ⟨rfl, rfl⟩, rfl⟩
    rw [deq_LBA]
    try refine go ⟨?_⟩
    rw [decide_eq_true (show (wrkR n ops : Int) = (wrkR n ops : Int) from rfl)]
    try refine go ⟨?_⟩
    refine PE.ret1 (T := []) (T' := []) rfl rV ?_ sT
    rfl
  rw [decide_eq_true hv]
  refine WPL.eff (OpE.call lO (fun w hw => y_Bools _ va vw (runA n ops) (runA n ops) (Rd.at rD hw) (Rd.at rD hw) (by omega) (by omega))) rfl rfl ?_
  rintro _ _ ⟨T, ⟨rfl, rfl⟩, rfl⟩
  rw [deq_LBA]
  try refine go ⟨?_⟩
  rw [ine_selfA]
  obtain ⟨q1, q2⟩ := wrkR_le hv
  have q3 := livR_le n ops
  try refine go ⟨?_⟩
  refine WPL.eff (OpE.call lO (fun w hw => c_LivesOf _ n vl ops (Rd.at rD hw) (by omega))) rfl rfl ?_
  rintro _ _ ⟨T, ⟨vV, rfl, rfl⟩, rfl⟩
  rw [decide_eq_true hv]
  try refine go ⟨?_⟩
  rw [decide_eq_true (show (wrkR n ops : Int) ≥ ((livR n ops).length : Int) by omega)]
  try refine go ⟨?_⟩
  rw [decide_eq_true (show (wrkR n ops : Int) ≤ 12 * ((livR n ops).length : Int) by omega)]
  try refine go ⟨?_⟩
  refine PE.ret1 (T := []) (T' := []) rfl rV ?_ sT
  rfl
end Go.Proofs.Ytfigegmgopnfhaa
/- The given statement FnAheadWorkSaid, out of its walk (LAheadWork). Written by fin.py. No conditions. -/
namespace Go.Proofs.Ytfigegmgopnfhaa.ZfnAheadWork
open Go Go.ChangeShapes Go.WideShapes Go.ChangeAt Go.RowKit Go.Joins
theorem own : ownKnob Try.prog.godebug = none := by kernel_rfl
theorem laidOut : laidOutB Try.prog = true := by kernel_rfl
theorem cells5 : Try.prog.cellsOf 5 = 1 := by kernel_rfl
set_option maxRecDepth 100000 in
theorem lifted (os : Os) (started : os.Started) (H : Type) (enc : TypeId × Value → H) :
    ReturnsInHanded {} Try.checked os 3 .any (Rows.fnAheadWorkSpec.pre6 enc Try.prog Try.f3 Rows.fnAheadWorkRow.domain false) (Rows.fnAheadWorkSpec.post enc Try.prog Try.f3 false true false false) := by
  refine returnsInHanded_of_change (C := Try.checked) own started (by kernel_rfl) Try.func3
    (ChangeSpec.witness6 (enc := enc) (C := Try.checked) false ⟨#[], #[.slice none 0 0], []⟩ 8 (by kernel_rfl) (by kernel_rfl) (by kernel_rfl) (by kernel_rfl)) ?_
  intro W base args ds gs before hval0 hW hcnd _
  have hval : ∀ (j : Nat) t v, Try.f3.params[j]? = some t → args[j]? = some v → Value.okWide Try.prog W .any base t v := hval0
  have hW' := hW
  obtain ⟨p, q, hA0, hV, rfl, hfz, hnd⟩ := hW
  have hA : DataW.TrodAll enc Try.prog W 0 (fun _ => true) true Try.f3.params.toList args.toList ds p := hA0
  rw [Try.params3] at hA hval
  obtain ⟨v0, vs0, d0, ds0, p0, q0, hargs, rfl, rfl, h0, r0⟩ := trodAll_cons hA
  obtain ⟨rfl, rfl, rfl⟩ := trodAll_nil r0
  obtain rfl : args = #[v0] := by cases args; simp_all
  obtain ⟨rfl, rfl⟩ := trodVars_none hV
  have k0 := h0
  have lt0 : ∀ x ∈ p0, x.block < W.heap.size := by obtain ⟨m, hm⟩ := k0; exact DataW.trod_lt m _ _ _ hm
  obtain ⟨xs0, rl0, ll0⟩ : ∃ xs : List UInt8, RL W v0 xs ∧ xs.length ≤ 9223372036854775807 := by
    have hv := hval 0 22 v0 rfl rfl
    simp only [Value.okWide, Try.underlying22] at hv
    obtain ⟨a, l, c, rfl⟩ := okWide_slice Try.underlying22 (hval 0 22 v0 rfl rfl)
    obtain ⟨m, hm⟩ := k0
    exact rl_bytes Try.underlying22 Try.underlying5 cells5 hv (by simpa [Value.cells] using hm)
  clear hA0 hval0
  refine (Tri.holds0 (v := .bool true) (l_AheadWork W v0 xs0 rl0 ll0) (fun _ _ h => h)).mono fun e W' ⟨he, bel⟩ => ?_
  subst he
  exact ⟨_, rfl, _, _, _, [], _, [], hW', trodAll_mk1 (shut_bool Try.underlying4 _), (trodAll_cons_mk (Below.trod laidOut (by kernel_rfl) (of_decide_eq_true (by kernel_rfl)) k0 bel lt0) trodAll_mk0), rfl, bel.frame _, fun h => by cases h⟩
theorem over : Rows.fnAheadWorkRow.holds Try.pinned (OpenSpec.ofChange Rows.fnAheadWorkSpec) :=
  OpenClaim.holds_of_wide 3 Try.f3 rfl rfl rfl rfl rfl rfl rfl ⟨rfl, rfl, rfl, rfl, rfl⟩ rfl rfl rfl rfl rfl (by kernel_rfl) Try.func3 (by unfold joinedFacts; rw [initMay, initLift, initMake]; kernel_rfl)
    (of_decide_eq_true (by kernel_rfl)) (by unfold Func.isWrapper; first | (rw [if_pos (by decide +kernel)]; kernel_rfl) | (rw [if_neg (by decide +kernel)]; exact ⟨rfl, rfl⟩))
    (fun os started H enc _ => lifted os started H enc)
/-- The statement. -/
theorem proved : Rows.FnAheadWorkSaid := over
end Go.Proofs.Ytfigegmgopnfhaa.ZfnAheadWork
