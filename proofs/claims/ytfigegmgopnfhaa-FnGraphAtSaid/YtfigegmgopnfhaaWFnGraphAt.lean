/- The given statement FnGraphAtSaid, out of its walk (LGraphAt). Written by fin.py. No conditions. -/
import Derived.Test.YtfigegmgopnfhaaInit
import Derived.Test.YtfigegmgopnfhaaV1
import Derived.Test.YtfigegmgopnfhaaV2
import Derived.Test.YtfigegmgopnfhaaV4
import Derived.Test.YtfigegmgopnfhaaV9
set_option linter.unusedVariables false
set_option linter.unusedSimpArgs false
/- The law FnOpsValid: its walk. Conditions: those of the theorem. -/
namespace Go.Proofs.Ytfigegmgopnfhaa
open Go
theorem bselfV (d : Bool) : (d != d) = false := by cases d <;> rfl
theorem deq_Bool (d : Bool) : decide (d = d) = true := decide_eq_true rfl
theorem beq_Bool (d : Bool) : (d == d) = true := by cases d <;> rfl
theorem runA_take {n : Int} {ops : List Oper1} (h : OV n ops) {k : Nat} (hk : k ≤ ops.length) : (runA n (ops.take k)).length ≤ (runA n ops).length ∧ runA n (ops.take k) = (runA n ops).take (runA n (ops.take k)).length := by
  have e1 : runA n (ops.take k) = ans n ops k := by
    unfold runA
    rw [if_pos (h.take k), List.length_take, Nat.min_eq_left hk, ans_take n ops k k (Nat.le_refl _) hk]
  have e2 : runA n ops = ans n ops ops.length := if_pos h
  have hp := ans_prefix n ops k ops.length hk
  rw [e1, e2]
  exact ⟨hp.length_le, List.prefix_iff_eq_take.1 hp⟩
set_option linter.unusedVariables false set_option linter.unusedSimpArgs false attribute [local irreducible] Tok.own Tok.blk RL Rd eptr WP WPL PE WPD WPO Op1 OpE Tri Again Mid Exit.then Exit.inBlock bodyPost RP Code.wp wpList isOwn OneM One
attribute [local irreducible] OV runA
set_option maxHeartbeats 8000000

theorem l_OpsValid (w : World) (v : Value) (bs : List UInt8) (h : RL w v bs) (hl : bs.length ≤ 9223372036854775807) :
    Tri Try.prog 5 [v] w [] fun r T => r = .bool true := by
  refine Tri.intro (hf := Try.func5) (hb := rfl) (hn := Try.ntmps5) (Nat.le_of_ble_eq_true rfl) ?_
  repeat' (first | exact absurd rfl hc | refine go ⟨?_⟩ | (refine isCond ?_; refine WP.condD rfl (fun hc => ?_) (fun hc => ?_)) | (refine isGuard ?_; refine WPL.splitD rfl rfl (fun hc => ?_) (fun hc => ?_)))
  · refine PE.ret1 (T := []) (T' := []) rfl rV ?_ sT
    rfl
  refine WPL.eff (OpE.call lO (fun w hw => g_D8OpsValid _ v bs (Rd.at rD hw) hl)) rfl rfl ?_
  rintro r _ ⟨T, ⟨vl, n, ops, rfl, rfl, hle⟩, rfl⟩
  have hal := runA_le n ops
  try refine go ⟨?_⟩
  refine WPL.eff (OpE.call lO (fun w hw => c_OpsValid _ n vl ops (Rd.at rD hw) (by omega))) rfl rfl ?_
  rintro _ _ ⟨T, ⟨rfl, rfl⟩, rfl⟩
  try refine go ⟨?_⟩
  refine WPL.eff (OpE.call lO (fun w hw => s_OpsValid _ n vl ops (Rd.at rD hw) (by omega))) rfl rfl ?_
  rintro _ _ ⟨T, ⟨rfl, rfl⟩, rfl⟩
  try refine go ⟨?_⟩
  rw [bselfV]
  try refine go ⟨?_⟩
  refine WP.condD rfl (fun hv => ?_) (fun hv => ?_)
  · try refine go ⟨?_⟩
    refine WPL.eff (OpE.call lO (fun w hw => s_OpsValid _ n vl ops (Rd.at rD hw) (by omega))) rfl rfl ?_
    rintro _ _ ⟨T, ⟨rfl, rfl⟩, rfl⟩
    try refine go ⟨?_⟩
    refine PE.ret1 (T := []) (T' := []) rfl rV ?_ sT
    rw [decide_eq_false hv]; rfl
  have hv : OV n ops := Decidable.not_not.1 hv
  try refine go ⟨?_⟩
  refine WPL.eff (OpE.call lO (fun w hw => c_AnswersOf _ n vl ops (Rd.at rD hw) (by omega))) rfl rfl ?_
  rintro _ _ ⟨T, ⟨va, rfl, rfl⟩, rfl⟩
  try refine go ⟨?_⟩
  refine WP.loop (σ := Nat) (fun k => [(3, .int .i64 n), (4, vl), (6, va), (8, .int .i64 k)]) (fun _ => [Tok.own va (runA n ops), Tok.own vl ops]) (fun k => k ≤ ops.length + 1) (fun k => ops.length + 1 - k) 0 (Nat.zero_le _) sE sT2 ?_
  rintro k hk
  try refine go ⟨?_⟩
  refine WP.condD rfl (fun hc => ?_) (fun hc => ?_)
  · have hk' : (k : Int).toNat ≤ ops.length := by omega
    have hvt := hv.take (k : Int).toNat
    obtain ⟨hB1, hB2⟩ := runA_take hv hk'
    have hbl := runA_le n (ops.take (k : Int).toNat)
    have htl : (ops.take (k : Int).toNat).length ≤ 1099511627776 := by rw [List.length_take]; omega
    try refine go ⟨?_⟩
    refine WPL.eff (OpE.call lO (fun w hw => c_AnswersOf _ n (slcV vl (k : Int).toNat) (ops.take (k : Int).toNat) (RL.take (Rd.at rD hw) hk') htl)) rfl rfl ?_
    rintro _ _ ⟨T, ⟨vb, rfl, rfl⟩, rfl⟩
    rw [decide_eq_true hvt]
    try refine go ⟨?_⟩
    refine WPL.eff (OpE.call lO (fun w hw => c_OpsValid _ n (slcV vl (k : Int).toNat) (ops.take (k : Int).toNat) (RL.take (Rd.at rD hw) hk') htl)) rfl rfl ?_
    rintro _ _ ⟨T, ⟨rfl, rfl⟩, rfl⟩
    rw [decide_eq_true hvt]
    try refine go ⟨?_⟩
    rw [decide_eq_false (show ¬ ((runA n (ops.take (k : Int).toNat)).length : Int) > ((runA n ops).length : Int) by omega)]
    have hb' : ((runA n (ops.take (k : Int).toNat)).length : Int).toNat ≤ (runA n ops).length := by omega
    have hq : runA n (ops.take (k : Int).toNat) = (runA n ops).take ((runA n (ops.take (k : Int).toNat)).length : Int).toNat := by rw [Int.toNat_natCast]; exact hB2
    generalize runA n (ops.take (k : Int).toNat) = B at *
    try refine go ⟨?_⟩
    refine WPL.eff (OpE.call lO (fun w hw => y_Bools _ vb (slcV va (B.length : Int).toNat) B ((runA n ops).take (B.length : Int).toNat) (Rd.at rD hw) (RL.take (Rd.at rD hw) hb') (by omega) (by rw [List.length_take]; omega))) rfl rfl ?_
    rintro _ _ ⟨T, ⟨rfl, rfl⟩, rfl⟩
    rw [decide_eq_true hq]
    try refine go ⟨?_⟩
    refine PE.again (k + 1) ?_ ?_ sE sT2
    · (try dsimp only); omega
    · (try dsimp only); omega
  · try refine go ⟨?_⟩
    refine PE.ret1 (T := []) (T' := []) rfl rV ?_ sT
    rfl
end Go.Proofs.Ytfigegmgopnfhaa
/- The law FnOpsAsk: its walk. Conditions: those of the theorem. -/
namespace Go.Proofs.Ytfigegmgopnfhaa
open Go
theorem deq_G (n : Int) (l : List E) : decide (n = n ∧ l = l) = true := decide_eq_true ⟨rfl, rfl⟩
theorem noAsk_succ {ops : List Oper1} {k : Nat} (hk : k < ops.length) (h : (ops.getD k oD).K ≠ 3) : noAsk (ops.take (k + 1)) = noAsk (ops.take k) ++ [ops.getD k oD] := by
  unfold noAsk
  rw [take_succD oD hk, List.filter_append, filt1_yes (p := fun o : Oper1 => decide (o.K ≠ 3)) (decide_eq_true h)]
theorem noAsk_skip {ops : List Oper1} {k : Nat} (hk : k < ops.length) (h : ¬ (ops.getD k oD).K ≠ 3) : noAsk (ops.take (k + 1)) = noAsk (ops.take k) := by
  unfold noAsk
  rw [take_succD oD hk, List.filter_append, filt1_no (p := fun o : Oper1 => decide (o.K ≠ 3)) (decide_eq_false h), List.append_nil]
theorem noAsk_OV {n : Int} {ops : List Oper1} (h : OV n ops) : OV n (noAsk ops) ∧ gAt n (noAsk ops) = gAt n ops := by
  have hr := noAsk_run ops _ h.run
  have hle := noAsk_le ops
  have := h.le
  refine ⟨⟨h.n1, h.n2, by omega, by rw [hr]; rfl⟩, ?_⟩
  show (opRun n (noAsk ops)).getD [] = _
  rw [hr]; rfl
theorem atAll {n : Int} {ops : List Oper1} (h : OV n ops) : atOk n ops ops.length ∧ atN n ops ops.length = n ∧ atG n ops ops.length = gAt n ops := by
  have hat : atOk n ops ops.length := by unfold atOk; exact ⟨h, by omega, by omega⟩
  exact ⟨hat, if_pos hat, by unfold atG; rw [if_pos hat, Int.toNat_natCast, List.take_length]⟩
set_option linter.unusedVariables false set_option linter.unusedSimpArgs false attribute [local irreducible] Tok.own Tok.blk RL Rd eptr WP WPL PE WPD WPO Op1 OpE Tri Again Mid Exit.then Exit.inBlock bodyPost RP Code.wp wpList isOwn OneM One
attribute [local irreducible] OV gAt atOk atN atG noAsk
set_option maxHeartbeats 8000000

theorem l_OpsAsk (w : World) (v : Value) (bs : List UInt8) (h : RL w v bs) (hl : bs.length ≤ 9223372036854775807) :
    Tri Try.prog 6 [v] w [] fun r T => r = .bool true := by
  refine Tri.intro (hf := Try.func6) (hb := rfl) (hn := Try.ntmps6) (Nat.le_of_ble_eq_true rfl) ?_
  repeat' (first | exact absurd rfl hc | refine go ⟨?_⟩ | (refine isCond ?_; refine WP.condD rfl (fun hc => ?_) (fun hc => ?_)) | (refine isGuard ?_; refine WPL.splitD rfl rfl (fun hc => ?_) (fun hc => ?_)))
  · refine PE.ret1 (T := []) (T' := []) rfl rV ?_ sT
    rfl
  refine WPL.eff (OpE.call lO (fun w hw => g_D8OpsValid _ v bs (Rd.at rD hw) hl)) rfl rfl ?_
  rintro r _ ⟨T, ⟨vl, n, ops, rfl, rfl, hle⟩, rfl⟩
  try refine go ⟨?_⟩
  refine WPL.eff (OpE.call lO (fun w hw => c_OpsValid _ n vl ops (Rd.at rD hw) (by omega))) rfl rfl ?_
  rintro _ _ ⟨T, ⟨rfl, rfl⟩, rfl⟩
  try refine go ⟨?_⟩
  refine WPL.eff (OpE.call lO (fun w hw => s_OpsValid _ n vl ops (Rd.at rD hw) (by omega))) rfl rfl ?_
  rintro _ _ ⟨T, ⟨rfl, rfl⟩, rfl⟩
  by_cases hv : OV n ops
  case neg =>
    rw [decide_eq_false hv]
    try refine go ⟨?_⟩
    refine WPL.eff (OpE.call lO (fun w hw => s_OpsValid _ n vl ops (Rd.at rD hw) (by omega))) rfl rfl ?_
    rintro _ _ ⟨T, ⟨rfl, rfl⟩, rfl⟩
    rw [decide_eq_false hv]
    try refine go ⟨?_⟩
    refine PE.ret1 (T := []) (T' := []) rfl rV ?_ sT
    rfl
  rw [decide_eq_true hv]
  try refine go ⟨?_⟩
  refine WPL.eff (OpE.buildSlice ([] : List Oper1) pA rfl (by decide)) rfl rfl ?_; rintro s0 _ rfl
  try refine go ⟨?_⟩
  have h0 : noAsk (ops.take 0) = [] := by unfold noAsk; rfl
  have hnl := fun k => Nat.le_trans (noAsk_le (ops.take k)) (by rw [List.length_take]; exact Nat.min_le_right _ _ : (ops.take k).length ≤ ops.length)
  refine WP.loop (σ := Nat × Value) (fun q => [(3, .int .i64 n), (4, vl), (6, q.2), (7, .int .i64 q.1)]) (fun q => [Tok.own q.2 (noAsk (ops.take q.1)), Tok.own vl ops]) (fun q => q.1 ≤ ops.length) (fun q => ops.length - q.1) (0, s0) (Nat.zero_le _) sE (by rw [h0]; exact sT2) ?_
  rintro ⟨k, u⟩ hk
  dsimp only at hk ⊢
  have hkl := hnl k
  try refine go ⟨?_⟩
  refine WP.condD rfl (fun hc => ?_) (fun hc => ?_)
  · have hk' : k < ops.length := by omega
    try refine go ⟨?_⟩
    refine WP.condD rfl (fun h1 => ?_) (fun h1 => ?_)
    · have h1 : (ops.getD k oD).K ≠ 3 := h1
      have hs := noAsk_succ hk' h1
      try refine go ⟨?_⟩
      refine WPL.eff (OpE.buildSlice [ops.getD k oD] pA rfl (by decide)) rfl rfl ?_; rintro s1 _ rfl
      try refine go ⟨?_⟩
      refine WPL.eff (OpE.append rfl rfl pM rD lN) rfl rfl ?_; rintro u1 _ rfl
      rw [← hs]
      try refine go ⟨?_⟩
      refine PE.again (k + 1, u1) ?_ ?_ sE sT2
      · (try dsimp only); omega
      · (try dsimp only); omega
    · have h1 : ¬ (ops.getD k oD).K ≠ 3 := h1
      rw [← noAsk_skip hk' h1]
      try refine go ⟨?_⟩
      refine PE.again (k + 1, u) ?_ ?_ sE sT2
      · (try dsimp only); omega
      · (try dsimp only); omega
  · have hkn : k = ops.length := by omega
    subst hkn
    rw [List.take_length] at *
    obtain ⟨hv2, hg2⟩ := noAsk_OV hv
    obtain ⟨a1, a2, a3⟩ := atAll hv
    obtain ⟨b1, b2, b3⟩ := atAll hv2
    rw [hg2] at b3
    have hgl := hv.gv.2.2.1
    try refine go ⟨?_⟩
    refine WPL.eff (OpE.call lO (fun w hw => c_GraphAt _ n vl ops ops.length (Rd.at rD hw) (by omega))) rfl rfl ?_
    rintro _ _ ⟨T, ⟨vg, rfl, rfl⟩, rfl⟩
    rw [a2, a3, decide_eq_true a1]
    try refine go ⟨?_⟩
    refine WPL.eff OpE.alloc rfl rfl ?_; rintro _ _ ⟨b8, rfl, rfl⟩
    try refine go ⟨?_⟩
    refine WPL.eff (OpE.call lO (fun w hw => c_GraphAt _ n u (noAsk ops) (noAsk ops).length (Rd.at rD hw) (by omega))) rfl rfl ?_
    rintro _ _ ⟨T, ⟨vh, rfl, rfl⟩, rfl⟩
    rw [b2, b3, decide_eq_true b1]
    try refine go ⟨?_⟩
    refine WPL.eff OpE.alloc rfl rfl ?_; rintro _ _ ⟨b10, rfl, rfl⟩
    try refine go ⟨?_⟩
    refine WPL.eff (OpE.call lO (fun w hw => c_OpsValid _ n u (noAsk ops) (Rd.at rD hw) (by omega))) rfl rfl ?_
    rintro _ _ ⟨T, ⟨rfl, rfl⟩, rfl⟩
    rw [decide_eq_true hv2]
    try refine go ⟨?_⟩
    refine WPL.eff (OpE.call lO (fun w hw => c_GraphSame _ n n vg vh (gAt n ops) (gAt n ops) (Rd.at rD hw) (Rd.at rD hw) (by omega) (by omega))) rfl rfl ?_
    rintro _ _ ⟨T, ⟨rfl, rfl⟩, rfl⟩
    rw [deq_G]
    try refine go ⟨?_⟩
    refine PE.ret1 (T := []) (T' := []) rfl rV ?_ sT
    rfl
end Go.Proofs.Ytfigegmgopnfhaa
/- The law FnGraphAt: its walk. Conditions: those of the theorem. -/
namespace Go.Proofs.Ytfigegmgopnfhaa
open Go
theorem atYes {n : Int} {ops : List Oper1} {k : Int} (h : atOk n ops k) : atN n ops k = n ∧ atG n ops k = gAt n (ops.take k.toNat) := ⟨if_pos h, if_pos h⟩
set_option linter.unusedVariables false set_option linter.unusedSimpArgs false attribute [local irreducible] Tok.own Tok.blk RL Rd eptr WP WPL PE WPD WPO Op1 OpE Tri Again Mid Exit.then Exit.inBlock bodyPost RP Code.wp wpList isOwn OneM One
attribute [local irreducible] OV gAt atOk atN atG opDo putOk HE
set_option maxHeartbeats 8000000

theorem l_GraphAt (w : World) (v : Value) (bs : List UInt8) (h : RL w v bs) (hl : bs.length ≤ 9223372036854775807) :
    Tri Try.prog 7 [v] w [] fun r T => r = .bool true := by
  refine Tri.intro (hf := Try.func7) (hb := rfl) (hn := Try.ntmps7) (Nat.le_of_ble_eq_true rfl) ?_
  repeat' (first | exact absurd rfl hc | refine go ⟨?_⟩ | (refine isCond ?_; refine WP.condD rfl (fun hc => ?_) (fun hc => ?_)) | (refine isGuard ?_; refine WPL.splitD rfl rfl (fun hc => ?_) (fun hc => ?_)))
  · refine PE.ret1 (T := []) (T' := []) rfl rV ?_ sT
    rfl
  refine WPL.eff (OpE.call lO (fun w hw => g_D8GraphAt _ v bs (Rd.at rD hw) hl)) rfl rfl ?_
  rintro r _ ⟨T, ⟨vl, n, k, ops, rfl, rfl, hle, hk0, hk1⟩, rfl⟩
  have hal := atG_le n ops k
  try refine go ⟨?_⟩
  refine WPL.eff (OpE.call lO (fun w hw => c_GraphAt _ n vl ops k (Rd.at rD hw) (by omega))) rfl rfl ?_
  rintro _ _ ⟨T, ⟨vg, rfl, rfl⟩, rfl⟩
  try refine go ⟨?_⟩
  refine WPL.eff OpE.alloc rfl rfl ?_; rintro _ _ ⟨b6, rfl, rfl⟩
  try refine go ⟨?_⟩
  refine WPL.eff (OpE.call lO (fun w hw => s_GraphAt _ n vl ops k (Rd.at rD hw) (by omega))) rfl rfl ?_
  rintro _ _ ⟨T, ⟨vw, rfl, rfl⟩, rfl⟩
  try refine go ⟨?_⟩
  refine WPL.eff OpE.alloc rfl rfl ?_; rintro _ _ ⟨b8, rfl, rfl⟩
  by_cases hat : atOk n ops k
  case neg =>
    rw [decide_eq_false hat]
    try refine go ⟨?_⟩
    refine WPL.eff (OpE.call lO (fun w hw => c_GraphSame _ (atN n ops k) (atN n ops k) vg vw (atG n ops k) (atG n ops k) (Rd.at rD hw) (Rd.at rD hw) (by omega) (by omega))) rfl rfl ?_
    rintro _ _ ⟨T, ⟨rfl, rfl⟩, rfl⟩
    rw [deq_G]
    try refine go ⟨?_⟩
    refine WPL.eff (OpE.call lO (fun w hw => c_GraphSame _ (atN n ops k) (atN n ops k) vg vw (atG n ops k) (atG n ops k) (Rd.at rD hw) (Rd.at rD hw) (by omega) (by omega))) rfl rfl ?_
    rintro _ _ ⟨T, ⟨rfl, rfl⟩, rfl⟩
    rw [deq_G]
    try refine go ⟨?_⟩
    refine PE.ret1 (T := []) (T' := []) rfl rV ?_ sT
    rfl
  rw [decide_eq_true hat]
  try refine go ⟨?_⟩
  refine WPL.eff (OpE.call lO (fun w hw => c_GraphSame _ (atN n ops k) (atN n ops k) vg vw (atG n ops k) (atG n ops k) (Rd.at rD hw) (Rd.at rD hw) (by omega) (by omega))) rfl rfl ?_
  rintro _ _ ⟨T, ⟨rfl, rfl⟩, rfl⟩
  rw [deq_G]
  try refine go ⟨?_⟩
  obtain ⟨e1, e2⟩ := atYes hat
  have hat' : OV n ops ∧ 0 ≤ k ∧ k ≤ ops.length := by unfold atOk at hat; exact hat
  obtain ⟨hv, h0, h1⟩ := hat'
  by_cases hz : k = 0
  · subst hz
    have e3 : atG n ops 0 = [] := by rw [e2]; exact gAt_nil n
    rw [e3] at *
    try refine go ⟨?_⟩
    refine WPL.eff (OpE.call lO (fun w hw => c_GraphSame _ (atN n ops 0) (atN n ops 0) vg vw ([] : List E) ([] : List E) (Rd.at rD hw) (Rd.at rD hw) (by decide) (by decide))) rfl rfl ?_
    rintro _ _ ⟨T, ⟨rfl, rfl⟩, rfl⟩
    rw [deq_G]
    try refine go ⟨?_⟩
    refine PE.ret1 (T := []) (T' := []) rfl rV ?_ sT
    rfl
  obtain ⟨m, rfl⟩ : ∃ m : Nat, k = ((m + 1 : Nat) : Int) := ⟨(k - 1).toNat, by omega⟩
  rw [decide_eq_false hz]
  have hm : m < ops.length := by omega
  have em : ((m + 1 : Nat) : Int) - 1 = (m : Int) := by omega
  have hatm : atOk n ops m := by unfold atOk; exact ⟨hv, by omega, by omega⟩
  obtain ⟨f1, f2⟩ := atYes hatm
  rw [Int.toNat_natCast] at e2 f2
  obtain ⟨hok, hdo⟩ := hv.step hm
  have hgl := (hv.at m).2.2.1
  rw [e1, e2] at *
  have hgl2 := (hv.at (m + 1)).2.2.1
  try refine go ⟨?_⟩
  rw [em]
  try refine go ⟨?_⟩
  refine WPL.eff (OpE.call lO (fun w hw => c_GraphAt _ n vl ops m (Rd.at rD hw) (by omega))) rfl rfl ?_
  rintro _ _ ⟨T, ⟨vh, rfl, rfl⟩, rfl⟩
  rw [f1, f2, decide_eq_true hatm]
  try refine go ⟨?_⟩
  refine WPL.eff OpE.alloc rfl rfl ?_; rintro _ _ ⟨b10, rfl, rfl⟩
  try refine go ⟨?_⟩
  rw [show (((m + 1 : Nat) : Int) - 1).toNat = m by omega]
  refine WPL.eff OpE.alloc rfl rfl ?_; rintro _ _ ⟨b12, rfl, rfl⟩
  try refine go ⟨?_⟩
  refine WP.condD rfl (fun c1 => ?_) (fun c1 => ?_)
  · have c1 : (ops.getD m oD).K = 1 := c1
    have hput : putOk n (gAt n (ops.take m)) (oE (ops.getD m oD)) := by
      rcases hok with ⟨_, h⟩ | ⟨h, _⟩ | ⟨h, _⟩
      · exact h
      · omega
      · omega
    have hd : insE (gAt n (ops.take m)) (oE (ops.getD m oD)) = gAt n (ops.take (m + 1)) := by rw [hdo]; unfold opDo; rw [if_pos c1]
    try refine go ⟨?_⟩
    refine WPL.pure (Op1.loadAgg (us := [.int .i64 (ops.getD m oD).A, .int .i64 (ops.getD m oD).B]) rfl mM rfl rfl) rfl rfl ?_
    try refine go ⟨?_⟩
    refine WPL.eff (OpE.call lO (fun w hw => c_PutEdge _ n vh (gAt n (ops.take m)) (oE (ops.getD m oD)) (Rd.at rD hw) (by omega))) rfl rfl ?_
    rintro _ _ ⟨T, hr, rfl⟩
    rcases hr with ⟨_, u, rfl, rfl⟩ | ⟨hno, _⟩
    case inr => exact absurd hput hno
    rw [hd]
    try refine go ⟨?_⟩
    refine WPL.eff OpE.alloc rfl rfl ?_; rintro _ _ ⟨b13, rfl, rfl⟩
    try refine go ⟨?_⟩
    refine WPL.eff (OpE.call lO (fun w hw => c_GraphSame _ n n u vg (gAt n (ops.take (m + 1))) (gAt n (ops.take (m + 1))) (Rd.at rD hw) (Rd.at rD hw) (by omega) (by omega))) rfl rfl ?_
    rintro _ _ ⟨T, ⟨rfl, rfl⟩, rfl⟩
    rw [deq_G]
    try refine go ⟨?_⟩
    refine PE.ret1 (T := []) (T' := []) rfl rV ?_ sT
    rfl
  have c1' : (ops.getD m oD).K ≠ 1 := c1
  try refine go ⟨?_⟩
  refine WP.condD rfl (fun c2 => ?_) (fun c2 => ?_)
  · have c2 : (ops.getD m oD).K = 2 := c2
    have hhe : HE n (gAt n (ops.take m)) (oE (ops.getD m oD)) := by
      rcases hok with ⟨h, _⟩ | ⟨_, h⟩ | ⟨h, _⟩
      · omega
      · exact h
      · omega
    have hd : rem (gAt n (ops.take m)) (oE (ops.getD m oD)) = gAt n (ops.take (m + 1)) := by rw [hdo]; unfold opDo; rw [if_neg c1', if_pos c2]
    try refine go ⟨?_⟩
    refine WPL.pure (Op1.loadAgg (us := [.int .i64 (ops.getD m oD).A, .int .i64 (ops.getD m oD).B]) rfl mM rfl rfl) rfl rfl ?_
    try refine go ⟨?_⟩
    refine WPL.eff (OpE.call lO (fun w hw => c_CutEdge _ n vh (gAt n (ops.take m)) (oE (ops.getD m oD)) (Rd.at rD hw) (by omega))) rfl rfl ?_
    rintro _ _ ⟨T, hr, rfl⟩
    rcases hr with ⟨_, u, rfl, rfl⟩ | ⟨hno, _⟩
    case inr => exact absurd hhe hno
    rw [hd]
    try refine go ⟨?_⟩
    refine WPL.eff OpE.alloc rfl rfl ?_; rintro _ _ ⟨b15, rfl, rfl⟩
    try refine go ⟨?_⟩
    refine WPL.eff (OpE.call lO (fun w hw => c_GraphSame _ n n u vg (gAt n (ops.take (m + 1))) (gAt n (ops.take (m + 1))) (Rd.at rD hw) (Rd.at rD hw) (by omega) (by omega))) rfl rfl ?_
    rintro _ _ ⟨T, ⟨rfl, rfl⟩, rfl⟩
    rw [deq_G]
    try refine go ⟨?_⟩
    refine PE.ret1 (T := []) (T' := []) rfl rV ?_ sT
    rfl
  have c2' : (ops.getD m oD).K ≠ 2 := c2
  have hd : gAt n (ops.take m) = gAt n (ops.take (m + 1)) := by rw [hdo]; unfold opDo; rw [if_neg c1', if_neg c2']
  rw [hd]
  try refine go ⟨?_⟩
  refine WPL.eff (OpE.call lO (fun w hw => c_GraphSame _ n n vh vg (gAt n (ops.take (m + 1))) (gAt n (ops.take (m + 1))) (Rd.at rD hw) (Rd.at rD hw) (by omega) (by omega))) rfl rfl ?_
  rintro _ _ ⟨T, ⟨rfl, rfl⟩, rfl⟩
  rw [deq_G]
  try refine go ⟨?_⟩
  refine PE.ret1 (T := []) (T' := []) rfl rV ?_ sT
  rfl
end Go.Proofs.Ytfigegmgopnfhaa
/- The given statement FnGraphAtSaid, out of its walk (LGraphAt). Written by fin.py. No conditions. -/
namespace Go.Proofs.Ytfigegmgopnfhaa.ZfnGraphAt
open Go Go.ChangeShapes Go.WideShapes Go.ChangeAt Go.RowKit Go.Joins
theorem own : ownKnob Try.prog.godebug = none := by kernel_rfl
theorem laidOut : laidOutB Try.prog = true := by kernel_rfl
theorem cells5 : Try.prog.cellsOf 5 = 1 := by kernel_rfl
set_option maxRecDepth 100000 in
theorem lifted (os : Os) (started : os.Started) (H : Type) (enc : TypeId × Value → H) :
    ReturnsInHanded {} Try.checked os 7 .any (Rows.fnGraphAtSpec.pre6 enc Try.prog Try.f7 Rows.fnGraphAtRow.domain false) (Rows.fnGraphAtSpec.post enc Try.prog Try.f7 false true false false) := by
  refine returnsInHanded_of_change (C := Try.checked) own started (by kernel_rfl) Try.func7
    (ChangeSpec.witness6 (enc := enc) (C := Try.checked) false ⟨#[], #[.slice none 0 0], []⟩ 8 (by kernel_rfl) (by kernel_rfl) (by kernel_rfl) (by kernel_rfl)) ?_
  intro W base args ds gs before hval0 hW hcnd _
  have hval : ∀ (j : Nat) t v, Try.f7.params[j]? = some t → args[j]? = some v → Value.okWide Try.prog W .any base t v := hval0
  have hW' := hW
  obtain ⟨p, q, hA0, hV, rfl, hfz, hnd⟩ := hW
  have hA : DataW.TrodAll enc Try.prog W 0 (fun _ => true) true Try.f7.params.toList args.toList ds p := hA0
  rw [Try.params7] at hA hval
  obtain ⟨v0, vs0, d0, ds0, p0, q0, hargs, rfl, rfl, h0, r0⟩ := trodAll_cons hA
  obtain ⟨rfl, rfl, rfl⟩ := trodAll_nil r0
  obtain rfl : args = #[v0] := by cases args; simp_all
  obtain ⟨rfl, rfl⟩ := trodVars_none hV
  have k0 := h0
  have lt0 : ∀ x ∈ p0, x.block < W.heap.size := by obtain ⟨m, hm⟩ := k0; exact DataW.trod_lt m _ _ _ hm
  obtain ⟨xs0, rl0, ll0⟩ : ∃ xs : List UInt8, RL W v0 xs ∧ xs.length ≤ 9223372036854775807 := by
    have hv := hval 0 22 v0 rfl rfl
    simp only [Value.okWide, Try.underlying22] at hv
    obtain ⟨a, l, c, rfl⟩ := okWide_slice Try.underlying22 (hval 0 22 v0 rfl rfl)
    obtain ⟨m, hm⟩ := k0
    exact rl_bytes Try.underlying22 Try.underlying5 cells5 hv (by simpa [Value.cells] using hm)
  clear hA0 hval0
  refine (Tri.holds0 (v := .bool true) (l_GraphAt W v0 xs0 rl0 ll0) (fun _ _ h => h)).mono fun e W' ⟨he, bel⟩ => ?_
  subst he
  exact ⟨_, rfl, _, _, _, [], _, [], hW', trodAll_mk1 (shut_bool Try.underlying4 _), (trodAll_cons_mk (Below.trod laidOut (by kernel_rfl) (of_decide_eq_true (by kernel_rfl)) k0 bel lt0) trodAll_mk0), rfl, bel.frame _, fun h => by cases h⟩
theorem over : Rows.fnGraphAtRow.holds Try.pinned (OpenSpec.ofChange Rows.fnGraphAtSpec) :=
  OpenClaim.holds_of_wide 7 Try.f7 rfl rfl rfl rfl rfl rfl rfl ⟨rfl, rfl, rfl, rfl, rfl⟩ rfl rfl rfl rfl rfl (by kernel_rfl) Try.func7 (by unfold joinedFacts; rw [initMay, initLift, initMake]; kernel_rfl)
    (of_decide_eq_true (by kernel_rfl)) (by unfold Func.isWrapper; first | (rw [if_pos (by decide +kernel)]; kernel_rfl) | (rw [if_neg (by decide +kernel)]; exact ⟨rfl, rfl⟩))
    (fun os started H enc _ => lifted os started H enc)
/-- The statement. -/
theorem proved : Rows.FnGraphAtSaid := over
end Go.Proofs.Ytfigegmgopnfhaa.ZfnGraphAt
