/- The given statement FnExactGraphAtSaid, out of its walk (LExactGraphAt). Written by fin.py. No conditions. -/
import Derived.Test.YtfigegmgopnfhaaInit
import Derived.Test.YtfigegmgopnfhaaV1
import Derived.Test.YtfigegmgopnfhaaV2
import Derived.Test.YtfigegmgopnfhaaV4
import Derived.Test.YtfigegmgopnfhaaV8
import Derived.Test.YtfigegmgopnfhaaV9
import Derived.Test.YtfigegmgopnfhaaV10
import Derived.Test.YtfigegmgopnfhaaV11
set_option linter.unusedVariables false
set_option linter.unusedSimpArgs false
/- The law FnOpsValid: its walk. Conditions: those of the theorem. -/
namespace Go.Proofs.Ytfigegmgopnfhaa
open Go
theorem bselfV (d : Bool) : (d != d) = false := by cases d <;> rfl
theorem deq_Bool (d : Bool) : decide (d = d) = true := decide_eq_true rfl
theorem beq_Bool (d : Bool) : (d == d) = true := by cases d <;> rfl
theorem runA_take {n : Int} {ops : List Oper1} (h : OV n ops) {k : Nat} (hk : k ≤ ops.length) : (runA n (ops.take k)).length ≤ (runA n ops).length ∧ runA n (ops.take k) = (runA n ops).take (runA n (ops.take k)).length := by
  have e1 : runA n (ops.take k) = ans n ops k := by
    unfold runA
    rw [if_pos (h.take k), List.length_take, Nat.min_eq_left hk, ans_take n ops k k (Nat.le_refl _) hk]
  have e2 : runA n ops = ans n ops ops.length := if_pos h
  have hp := ans_prefix n ops k ops.length hk
  rw [e1, e2]
  exact ⟨hp.length_le, List.prefix_iff_eq_take.1 hp⟩
set_option linter.unusedVariables false set_option linter.unusedSimpArgs false attribute [local irreducible] Tok.own Tok.blk RL Rd eptr WP WPL PE WPD WPO Op1 OpE Tri Again Mid Exit.then Exit.inBlock bodyPost RP Code.wp wpList isOwn OneM One
attribute [local irreducible] OV runA
set_option maxHeartbeats 8000000

theorem l_OpsValid (w : World) (v : Value) (bs : List UInt8) (h : RL w v bs) (hl : bs.length ≤ 9223372036854775807) :
    Tri Try.prog 5 [v] w [] fun r T => r = .bool true := by
  refine Tri.intro (hf := Try.func5) (hb := rfl) (hn := Try.ntmps5) (Nat.le_of_ble_eq_true rfl) ?_
  repeat' (first | exact absurd rfl hc | refine go ⟨?_⟩ | (refine isCond ?_; refine WP.condD rfl (fun hc => ?_) (fun hc => ?_)) | (refine isGuard ?_; refine WPL.splitD rfl rfl (fun hc => ?_) (fun hc => ?_)))
  · refine PE.ret1 (T := []) (T' := []) rfl rV ?_ sT
    rfl
  refine WPL.eff (OpE.call lO (fun w hw => g_D8OpsValid _ v bs (Rd.at rD hw) hl)) rfl rfl ?_
  rintro r _ ⟨T, ⟨vl, n, ops, rfl, rfl, hle⟩, rfl⟩
  have hal := runA_le n ops
  try refine go ⟨?_⟩
  refine WPL.eff (OpE.call lO (fun w hw => c_OpsValid _ n vl ops (Rd.at rD hw) (by omega))) rfl rfl ?_
  rintro _ _ ⟨T, ⟨rfl, rfl⟩, rfl⟩
  try refine go ⟨?_⟩
  refine WPL.eff (OpE.call lO (fun w hw => s_OpsValid _ n vl ops (Rd.at rD hw) (by omega))) rfl rfl ?_
  rintro _ _ ⟨T, ⟨rfl, rfl⟩, rfl⟩
  try refine go ⟨?_⟩
  rw [bselfV]
  try refine go ⟨?_⟩
  refine WP.condD rfl (fun hv => ?_) (fun hv => ?_)
  · try refine go ⟨?_⟩
    refine WPL.eff (OpE.call lO (fun w hw => s_OpsValid _ n vl ops (Rd.at rD hw) (by omega))) rfl rfl ?_
    rintro _ _ ⟨T, ⟨rfl, rfl⟩, rfl⟩
    try refine go ⟨?_⟩
    refine PE.ret1 (T := []) (T' := []) rfl rV ?_ sT
    rw [decide_eq_false hv]; rfl
  have hv : OV n ops := Decidable.not_not.1 hv
  try refine go ⟨?_⟩
  refine WPL.eff (OpE.call lO (fun w hw => c_AnswersOf _ n vl ops (Rd.at rD hw) (by omega))) rfl rfl ?_
  rintro _ _ ⟨T, ⟨va, rfl, rfl⟩, rfl⟩
  try refine go ⟨?_⟩
  refine WP.loop (σ := Nat) (fun k => [(3, .int .i64 n), (4, vl), (6, va), (8, .int .i64 k)]) (fun _ => [Tok.own va (runA n ops), Tok.own vl ops]) (fun k => k ≤ ops.length + 1) (fun k => ops.length + 1 - k) 0 (Nat.zero_le _) sE sT2 ?_
  rintro k hk
  try refine go ⟨?_⟩
  refine WP.condD rfl (fun hc => ?_) (fun hc => ?_)
  · have hk' : (k : Int).toNat ≤ ops.length := by omega
    have hvt := hv.take (k : Int).toNat
    obtain ⟨hB1, hB2⟩ := runA_take hv hk'
    have hbl := runA_le n (ops.take (k : Int).toNat)
    have htl : (ops.take (k : Int).toNat).length ≤ 1099511627776 := by rw [List.length_take]; omega
    try refine go ⟨?_⟩
    refine WPL.eff (OpE.call lO (fun w hw => c_AnswersOf _ n (slcV vl (k : Int).toNat) (ops.take (k : Int).toNat) (RL.take (Rd.at rD hw) hk') htl)) rfl rfl ?_
    rintro _ _ ⟨T, ⟨vb, rfl, rfl⟩, rfl⟩
    rw [decide_eq_true hvt]
    try refine go ⟨?_⟩
    refine WPL.eff (OpE.call lO (fun w hw => c_OpsValid _ n (slcV vl (k : Int).toNat) (ops.take (k : Int).toNat) (RL.take (Rd.at rD hw) hk') htl)) rfl rfl ?_
    rintro _ _ ⟨T, ⟨rfl, rfl⟩, rfl⟩
    rw [decide_eq_true hvt]
    try refine go ⟨?_⟩
    rw [decide_eq_false (show ¬ ((runA n (ops.take (k : Int).toNat)).length : Int) > ((runA n ops).length : Int) by omega)]
    have hb' : ((runA n (ops.take (k : Int).toNat)).length : Int).toNat ≤ (runA n ops).length := by omega
    have hq : runA n (ops.take (k : Int).toNat) = (runA n ops).take ((runA n (ops.take (k : Int).toNat)).length : Int).toNat := by rw [Int.toNat_natCast]; exact hB2
    generalize runA n (ops.take (k : Int).toNat) = B at *
    try refine go ⟨?_⟩
    refine WPL.eff (OpE.call lO (fun w hw => y_Bools _ vb (slcV va (B.length : Int).toNat) B ((runA n ops).take (B.length : Int).toNat) (Rd.at rD hw) (RL.take (Rd.at rD hw) hb') (by omega) (by rw [List.length_take]; omega))) rfl rfl ?_
    rintro _ _ ⟨T, ⟨rfl, rfl⟩, rfl⟩
    rw [decide_eq_true hq]
    try refine go ⟨?_⟩
    refine PE.again (k + 1) ?_ ?_ sE sT2
    · (try dsimp only); omega
    · (try dsimp only); omega
  · try refine go ⟨?_⟩
    refine PE.ret1 (T := []) (T' := []) rfl rV ?_ sT
    rfl
end Go.Proofs.Ytfigegmgopnfhaa
/- The law FnAnswersOf: its walk. Conditions: those of the theorem. -/
namespace Go.Proofs.Ytfigegmgopnfhaa
open Go
theorem deq_LB (l : List Bool) : decide (l = l) = true := decide_eq_true rfl
theorem ans_ask {n : Int} {ops : List Oper1} {k : Nat} (h : (ops.getD k oD).K = 3) : ans n ops (k + 1) = ans n ops k ++ [decide (cn n (gAt n (ops.take k)) (ops.getD k oD).A (ops.getD k oD).B)] := by
  show (if _ then _ else _) = _
  rw [if_pos h]
theorem ans_no {n : Int} {ops : List Oper1} {k : Nat} (h : (ops.getD k oD).K ≠ 3) : ans n ops (k + 1) = ans n ops k := by
  show (if _ then _ else _) = _
  rw [if_neg h]
theorem ans_get {n : Int} {ops : List Oper1} {k : Nat} (hk : k < ops.length) (h : (ops.getD k oD).K = 3) : (ans n ops k).length < (ans n ops ops.length).length ∧ (ans n ops ops.length).getD (ans n ops k).length false = decide (cn n (gAt n (ops.take k)) (ops.getD k oD).A (ops.getD k oD).B) := by
  obtain ⟨t, ht⟩ := ans_prefix n ops (k + 1) ops.length hk
  rw [← ht, ans_ask h]
  constructor
  · simp only [List.length_append, List.length_singleton]; omega
  · rw [List.getD_eq_getElem?_getD, List.append_assoc, List.getElem?_append_right (Nat.le_refl _), Nat.sub_self]; rfl
theorem runA_ans {n : Int} {ops : List Oper1} (h : OV n ops) : runA n ops = ans n ops ops.length := if_pos h
theorem ask_ok {n : Int} {ops : List Oper1} (h : OV n ops) {k : Nat} (hk : k < ops.length) (h3 : (ops.getD k oD).K = 3) : GN n (gAt n (ops.take k)) (ops.getD k oD).A ∧ GN n (gAt n (ops.take k)) (ops.getD k oD).B := by
  rcases (h.step hk).1 with ⟨h5, _⟩ | ⟨h5, _⟩ | ⟨_, _, h5⟩
  · omega
  · omega
  · exact h5
set_option linter.unusedVariables false set_option linter.unusedSimpArgs false attribute [local irreducible] Tok.own Tok.blk RL Rd eptr WP WPL PE WPD WPO Op1 OpE Tri Again Mid Exit.then Exit.inBlock bodyPost RP Code.wp wpList isOwn OneM One
attribute [local irreducible] OV runA ans gAt atOk CN
set_option maxHeartbeats 8000000

theorem l_AnswersOf (w : World) (v : Value) (bs : List UInt8) (h : RL w v bs) (hl : bs.length ≤ 9223372036854775807) :
    Tri Try.prog 10 [v] w [] fun r T => r = .bool true := by
  refine Tri.intro (hf := Try.func10) (hb := rfl) (hn := Try.ntmps10) (Nat.le_of_ble_eq_true rfl) ?_
  repeat' (first | exact absurd rfl hc | refine go ⟨?_⟩ | (refine isCond ?_; refine WP.condD rfl (fun hc => ?_) (fun hc => ?_)) | (refine isGuard ?_; refine WPL.splitD rfl rfl (fun hc => ?_) (fun hc => ?_)))
  · refine PE.ret1 (T := []) (T' := []) rfl rV ?_ sT
    rfl
  refine WPL.eff (OpE.call lO (fun w hw => g_D8AnswersOf _ v bs (Rd.at rD hw) hl)) rfl rfl ?_
  rintro r _ ⟨T, ⟨vl, n, ops, rfl, rfl, hle⟩, rfl⟩
  have hal := runA_le n ops
  try refine go ⟨?_⟩
  refine WPL.eff (OpE.call lO (fun w hw => c_AnswersOf _ n vl ops (Rd.at rD hw) (by omega))) rfl rfl ?_
  rintro _ _ ⟨T, ⟨va, rfl, rfl⟩, rfl⟩
  try refine go ⟨?_⟩
  refine WPL.eff (OpE.call lO (fun w hw => s_AnswersOf _ n vl ops (Rd.at rD hw) (by omega))) rfl rfl ?_
  rintro _ _ ⟨T, ⟨vw, rfl, rfl⟩, rfl⟩
  try refine go ⟨?_⟩
  by_cases hv : OV n ops
  case neg =>
    rw [decide_eq_false hv]
    refine WPL.eff (OpE.call lO (fun w hw => y_Bools _ va vw (runA n ops) (runA n ops) (Rd.at rD hw) (Rd.at rD hw) (by omega) (by omega))) rfl rfl ?_
    rintro _ _ ⟨T, ⟨rfl, rfl⟩, rfl⟩
    rw [deq_LB]
    try refine go ⟨?_⟩
    refine WPL.eff (OpE.call lO (fun w hw => y_Bools _ va vw (runA n ops) (runA n ops) (Rd.at rD hw) (Rd.at rD hw) (by omega) (by omega))) rfl rfl ?_
    rintro _ _ ⟨T, ⟨rfl, rfl⟩, rfl⟩
    rw [deq_LB]
    try refine go ⟨?_⟩
    refine PE.ret1 (T := []) (T' := []) rfl rV ?_ sT
    rfl
  rw [decide_eq_true hv]
  refine WPL.eff (OpE.call lO (fun w hw => y_Bools _ va vw (runA n ops) (runA n ops) (Rd.at rD hw) (Rd.at rD hw) (by omega) (by omega))) rfl rfl ?_
  rintro _ _ ⟨T, ⟨rfl, rfl⟩, rfl⟩
  rw [deq_LB]
  try refine go ⟨?_⟩
  have hra := runA_ans hv
  refine WP.loop (σ := Nat) (fun k => [(3, .int .i64 n), (4, vl), (5, va), (9, .int .i64 (ans n ops k).length), (10, .int .i64 k)]) (fun _ => [Tok.own va (runA n ops), Tok.own vl ops]) (fun k => k ≤ ops.length) (fun k => ops.length - k) 0 (Nat.zero_le _) ?_ sT2 ?_
  · rw [show (ans n ops 0).length = 0 from by unfold ans; rfl]; exact sE
  rintro k hk
  have hnl := ans_len n ops k
  try refine go ⟨?_⟩
  refine WP.condD rfl (fun hc => ?_) (fun hc => ?_)
  · have hk' : k < ops.length := by omega
    try refine go ⟨?_⟩
    refine WP.condD rfl (fun h1 => ?_) (fun h1 => ?_)
    · have h1 : (ops.getD k oD).K = 3 := h1
      have hat : atOk n ops k := by unfold atOk; exact ⟨hv, by omega, by omega⟩
      have eN : atN n ops k = n := if_pos hat
      have eG : atG n ops k = gAt n (ops.take k) := by unfold atG; rw [if_pos hat, Int.toNat_natCast]
      obtain ⟨q1, q2⟩ := ans_get (n := n) hk' h1
      rw [← hra] at q1 q2
      have hgl := (hv.at k).2.2.1
      have hok := ask_ok hv hk' h1
      have hans : decide (CN n (gAt n (ops.take k)) (ops.getD k oD).A (ops.getD k oD).B) = (runA n ops).getD (ans n ops k).length false := by
        rw [q2, decide_eq_decide]
        unfold CN
        exact ⟨fun h => h.2.2.2, fun h => ⟨hok.1.1, hok.1.2, hok.2.2, h⟩⟩
      have hsucc : ((ans n ops k).length : Int) + 1 = ((ans n ops (k + 1)).length : Int) := by rw [ans_ask h1, List.length_append, List.length_singleton]; omega
      try refine go ⟨?_⟩
      refine WPL.eff (OpE.call lO (fun w hw => c_GraphAt _ n vl ops k (Rd.at rD hw) (by omega))) rfl rfl ?_
      rintro _ _ ⟨T, ⟨vg, rfl, rfl⟩, rfl⟩
      rw [eN, eG, decide_eq_true hat]
      try refine go ⟨?_⟩
      refine WPL.eff OpE.alloc rfl rfl ?_; rintro _ _ ⟨b11, rfl, rfl⟩
      try refine go ⟨?_⟩
      refine WP.draw [Tok.blk b11 [.int .i64 n, vg], Tok.own vg (gAt n (ops.take k)), Tok.own va (runA n ops), Tok.own vl ops] mixed ?_
      refine WPD.take 0 rfl (Op1.move rfl) rfl rfl sT kR kR kR xQP ?_
      refine WPD.take 1 rfl (Op1.move rfl) rfl rfl sT kR kR kR xQP ?_
      refine WPD.take 2 rfl (Op1.len rfl rD) rfl rfl sT kR kR kR xQP ?_
      refine WPD.take 3 rfl (Op1.geI rfl rfl) rfl rfl sT kR kR kR xQP ?_
      rw [decide_eq_false (show ¬ ((ans n ops k).length : Int) ≥ ((runA n ops).length : Int) by omega)]
      refine WPD.take 4 rfl (Op1.move rfl) rfl rfl sT kR kR kR xQP ?_
      refine WPD.take 5 rfl (Op1.move rfl) rfl rfl sT kR kR kR xQP ?_
      refine WPD.take 6 rfl (Op1.move rfl) rfl rfl sT kR kR kR xQP ?_
      refine WPD.take 9 rfl (by first | exact (Op1.load rfl mM (by rfl)) | exact (Op1.loadI rfl rD lT) | exact (Op1.loadAll rfl mM (by rfl)) | exact (Op1.loadE rfl rD lT (by rfl)) | exact (Op1.loadEAgg rfl rD lT (by rfl))) rfl rfl sT kR kR kR xQP ?_
      refine WPD.take 10 rfl (Op1.move rfl) rfl rfl sT kR kR kR xQP ?_
      refine WPD.take 11 rfl (Op1.move rfl) rfl rfl sT kR kR kR xQP ?_
      refine WPD.take 16 rfl (Op1.move rfl) rfl rfl sT kR kR kR xQP ?_
      refine WPD.take 17 rfl (Op1.move rfl) rfl rfl sT kR kR kR xQP ?_
      refine WPD.take 7 rfl (by first | exact (Op1.indexAddr rfl rfl rD lT) | exact (Op1.indexAddrZ rfl rfl rD lT)) rfl rfl sT kR kR kR xQP ?_
      refine WPD.take 12 rfl (by first | exact (Op1.indexAddr rfl rfl rD lT) | exact (Op1.indexAddrZ rfl rfl rD lT)) rfl rfl sT kR kR kR xQP ?_
      refine WPD.take 18 rfl (by first | exact (Op1.indexAddr rfl rfl rD lT) | exact (Op1.indexAddrZ rfl rfl rD lT)) rfl rfl sT kR kR kR xQP ?_
      refine WPD.take 8 rfl (Op1.loadBl rfl rD lT) rfl rfl sT kR kR kR xQP ?_
      refine WPD.take 13 rfl (by first | exact (Op1.fieldAddr rfl) | exact (Op1.fieldAddrE rfl rD lT)) rfl rfl sT kR kR kR xQP ?_
      refine WPD.take 19 rfl (by first | exact (Op1.fieldAddr rfl) | exact (Op1.fieldAddrE rfl rD lT)) rfl rfl sT kR kR kR xQP ?_
      refine WPD.take 14 rfl (by first | exact (Op1.fieldAddr rfl) | exact (Op1.fieldAddrE rfl rD lT)) rfl rfl sT kR kR kR xQP ?_
      refine WPD.take 20 rfl (by first | exact (Op1.fieldAddr rfl) | exact (Op1.fieldAddrE rfl rD lT)) rfl rfl sT kR kR kR xQP ?_
      refine WPD.take 15 rfl (by first | exact (Op1.load rfl mM (by rfl)) | exact (Op1.loadI rfl rD lT) | exact (Op1.loadAll rfl mM (by rfl)) | exact (Op1.loadE rfl rD lT (by rfl)) | exact (Op1.loadEAgg rfl rD lT (by rfl))) rfl rfl sT kR kR kR xQP ?_
      refine WPD.take 21 rfl (by first | exact (Op1.load rfl mM (by rfl)) | exact (Op1.loadI rfl rD lT) | exact (Op1.loadAll rfl mM (by rfl)) | exact (Op1.loadE rfl rD lT (by rfl)) | exact (Op1.loadEAgg rfl rD lT (by rfl))) rfl rfl sT kR kR kR xQP ?_
      refine WPD.eff 22 kR rfl (OpE.call lO (fun w hw => c_Connected _ n vg (gAt n (ops.take k)) (ops.getD k oD).A (ops.getD k oD).B (Rd.at rD hw) (by omega))) rfl rfl ?_
      rintro r _ ⟨T, ⟨rfl, rfl⟩, rfl⟩
      rw [hans]
      refine ⟨sT, ?_⟩
      refine WPD.take 23 rfl (Op1.neB rfl rfl) rfl rfl sT kR kR kR xQP ?_
      rw [bselfV]
      refine WPD.take 24 rfl (by first | exact (Op1.pickT rfl rfl) | exact (Op1.pickF rfl rfl)) rfl rfl sT kR kR kR xQP ?_
      refine WPD.done kR ?_
      try refine go ⟨?_⟩
      rw [hsucc]
      refine PE.again (k + 1) ?_ ?_ sE sT2
      · (try dsimp only); omega
      · (try dsimp only); omega
    · have h1 : (ops.getD k oD).K ≠ 3 := h1
      try refine go ⟨?_⟩
      rw [← ans_no (n := n) h1]
      refine PE.again (k + 1) ?_ ?_ sE sT2
      · (try dsimp only); omega
      · (try dsimp only); omega
  · have hkn : k = ops.length := by omega
    subst hkn
    try refine go ⟨?_⟩
    refine PE.ret1 (T := []) (T' := []) rfl rV ?_ sT
    rw [decide_eq_true (show ((ans n ops ops.length).length : Int) = ((runA n ops).length : Int) by rw [hra])]
end Go.Proofs.Ytfigegmgopnfhaa
/- The law FnExactOpsValid: its walk. Conditions: those of the theorem. -/
namespace Go.Proofs.Ytfigegmgopnfhaa
open Go
theorem bselfO (d : Bool) : (d != d) = false := by cases d <;> rfl
theorem deq_Op (l : List Oper1) : decide (l = l) = true := decide_eq_true rfl
set_option linter.unusedVariables false set_option linter.unusedSimpArgs false attribute [local irreducible] Tok.own Tok.blk RL Rd eptr WP WPL PE WPD WPO Op1 OpE Tri Again Mid Exit.then Exit.inBlock bodyPost RP Code.wp wpList isOwn OneM One
attribute [local irreducible] OV
set_option maxHeartbeats 8000000

theorem l_ExactOpsValid (w : World) (n : Int) (v : Value) (xs : List Oper1) (h : RL w v xs) (hl : xs.length ≤ 9223372036854775807) :
    Tri Try.prog 4 [.int .i64 n, v] w [] fun r T => r = .bool true := by
  refine Tri.intro (hf := Try.func4) (hb := rfl) (hn := Try.ntmps4) (Nat.le_of_ble_eq_true rfl) ?_
  try refine go ⟨?_⟩
  refine WPL.eff (OpE.call lO (fun w hw => h_szOS _ v xs 1048576 (Rd.at rD hw) hl (by omega) (by omega))) rfl rfl ?_
  rintro r _ ⟨T, ⟨rfl, hr⟩, rfl⟩
  rcases hr with ⟨hsz, rfl⟩ | ⟨hsz, rfl⟩
  case inr =>
    repeat' (first | refine go ⟨?_⟩ | (refine isCond ?_; refine WP.condD rfl (fun hc => ?_) (fun hc => ?_)) | (refine isGuard ?_; refine WPL.splitD rfl rfl (fun hc => ?_) (fun hc => ?_)))
    refine PE.ret1 (T := []) (T' := []) rfl rV ?_ sT
    rfl
  have hl2 : xs.length ≤ 1048576 := by omega
  try refine go ⟨?_⟩
  refine WP.condD rfl (fun hc => ?_) (fun hc => ?_)
  · exfalso; omega
  try refine go ⟨?_⟩
  refine WPL.eff (OpE.call lO (fun w hw => h_toOS _ v xs (Rd.at rD hw) hl2)) rfl rfl ?_
  rintro u1 _ ⟨T, rfl, rfl⟩
  try refine go ⟨?_⟩
  refine WPL.eff (OpE.call lO (fun w hw => s_OpsValid _ n u1 xs (Rd.at rD hw) (by omega))) rfl rfl ?_
  rintro _ _ ⟨T, ⟨rfl, rfl⟩, rfl⟩
  try refine go ⟨?_⟩
  refine WPL.eff (OpE.call lO (fun w hw => h_toOS _ v xs (Rd.at rD hw) hl2)) rfl rfl ?_
  rintro u2 _ ⟨T, rfl, rfl⟩
  try refine go ⟨?_⟩
  refine WPL.eff (OpE.call lO (fun w hw => c_OpsValid _ n u2 xs (Rd.at rD hw) (by omega))) rfl rfl ?_
  rintro _ _ ⟨T, ⟨rfl, rfl⟩, rfl⟩
  try refine go ⟨?_⟩
  rw [bselfO]
  try refine go ⟨?_⟩
  refine WPL.eff (OpE.call lO (fun w hw => h_toOS _ v xs (Rd.at rD hw) hl2)) rfl rfl ?_
  rintro u3 _ ⟨T, rfl, rfl⟩
  try refine go ⟨?_⟩
  refine WPL.eff (OpE.call lO (fun w hw => h_eqOS _ u2 u3 xs xs (Rd.at rD hw) (Rd.at rD hw) hl2 hl2)) rfl rfl ?_
  rintro _ _ ⟨T, ⟨rfl, rfl⟩, rfl⟩
  rw [deq_Op]
  try refine go ⟨?_⟩
  refine PE.ret1 (T := []) (T' := []) rfl rV ?_ sT
  rfl
end Go.Proofs.Ytfigegmgopnfhaa
/- The law FnExactAnswersOf: its walk. Conditions: those of the theorem. -/
namespace Go.Proofs.Ytfigegmgopnfhaa
open Go
theorem ine_self (a : Int) : decide (a ≠ a) = false := decide_eq_false fun h => h rfl
set_option linter.unusedVariables false set_option linter.unusedSimpArgs false attribute [local irreducible] Tok.own Tok.blk RL Rd eptr WP WPL PE WPD WPO Op1 OpE Tri Again Mid Exit.then Exit.inBlock bodyPost RP Code.wp wpList isOwn OneM One
attribute [local irreducible] OV runA
set_option maxHeartbeats 8000000

theorem l_ExactAnswersOf (w : World) (n : Int) (v : Value) (xs : List Oper1) (h : RL w v xs) (hl : xs.length ≤ 9223372036854775807) :
    Tri Try.prog 12 [.int .i64 n, v] w [] fun r T => r = .bool true := by
  obtain ⟨L, hLe⟩ : ∃ L, L = runA n xs := ⟨_, rfl⟩
  have hal : L.length ≤ 64 := by rw [hLe]; exact runA_le n xs
  obtain ⟨d, hde⟩ : ∃ d, d = decide (OV n xs) := ⟨_, rfl⟩
  refine Tri.intro (hf := Try.func12) (hb := rfl) (hn := Try.ntmps12) (Nat.le_of_ble_eq_true rfl) ?_
  try refine go ⟨?_⟩
  refine WPL.eff (OpE.call lO (fun w hw => h_szOS _ v xs 1048576 (Rd.at rD hw) hl (by omega) (by omega))) rfl rfl ?_
  rintro r _ ⟨T, ⟨rfl, hr⟩, rfl⟩
  rcases hr with ⟨hsz, rfl⟩ | ⟨hsz, rfl⟩
  case inr =>
    repeat' (first | refine go ⟨?_⟩ | (refine isCond ?_; refine WP.condD rfl (fun hc => ?_) (fun hc => ?_)) | (refine isGuard ?_; refine WPL.splitD rfl rfl (fun hc => ?_) (fun hc => ?_)))
    refine PE.ret1 (T := []) (T' := []) rfl rV ?_ sT
    rfl
  have hl2 : xs.length ≤ 1048576 := by omega
  try refine go ⟨?_⟩
  refine WP.condD rfl (fun hc => ?_) (fun hc => ?_)
  · exfalso; omega
  try refine go ⟨?_⟩
  refine WPL.eff (OpE.call lO (fun w hw => h_toOS _ v xs (Rd.at rD hw) hl2)) rfl rfl ?_
  rintro u1 _ ⟨T, rfl, rfl⟩
  try refine go ⟨?_⟩
  refine WPL.eff (OpE.call lO (fun w hw => s_AnswersOf _ n u1 xs (Rd.at rD hw) (by omega))) rfl rfl ?_
  rintro _ _ ⟨T, ⟨w0, rfl, rfl⟩, rfl⟩
  rw [← hLe, ← hde]
  try refine go ⟨?_⟩
  refine WPL.eff (OpE.call lO (fun w hw => h_toOS _ v xs (Rd.at rD hw) hl2)) rfl rfl ?_
  rintro u2 _ ⟨T, rfl, rfl⟩
  try refine go ⟨?_⟩
  refine WPL.eff (OpE.call lO (fun w hw => c_AnswersOf _ n u2 xs (Rd.at rD hw) (by omega))) rfl rfl ?_
  rintro _ _ ⟨T, ⟨g0, rfl, rfl⟩, rfl⟩
  rw [← hLe, ← hde]
  try refine go ⟨?_⟩
  refine WPL.eff (OpE.call lO (fun w hw => h_eqB _ g0 w0 L L (Rd.at rD hw) (Rd.at rD hw) (by omega) (by omega))) rfl rfl ?_
  rintro _ _ ⟨T, ⟨rfl, rfl⟩, rfl⟩
  rw [deq_LB]
  try refine go ⟨?_⟩
  rw [bselfV]
  try refine go ⟨?_⟩
  refine WPL.eff (OpE.call lO (fun w hw => h_toOS _ v xs (Rd.at rD hw) hl2)) rfl rfl ?_
  rintro u3 _ ⟨T, rfl, rfl⟩
  try refine go ⟨?_⟩
  refine WPL.eff (OpE.call lO (fun w hw => h_eqOS _ u2 u3 xs xs (Rd.at rD hw) (Rd.at rD hw) hl2 hl2)) rfl rfl ?_
  rintro _ _ ⟨T, ⟨rfl, rfl⟩, rfl⟩
  rw [deq_Op]
  try refine go ⟨?_⟩
  refine WPL.eff (OpE.callT (T := [Tok.own u2 xs]) lO pM2 (fun w hw => h_markOS _ u2 xs 1 hl2 (by omega) (by omega))) rfl rfl ?_
  rintro _ _ ⟨T, ⟨ys, rfl, rfl⟩, rfl⟩
  try refine go ⟨?_⟩
  rw [decide_eq_false (show ¬ (1 + 3 * (xs.length : Int) < 0) by omega)]
  try refine go ⟨?_⟩
  refine WPL.eff (OpE.call lO (fun w hw => h_eqB _ g0 w0 L L (Rd.at rD hw) (Rd.at rD hw) (by omega) (by omega))) rfl rfl ?_
  rintro _ _ ⟨T, ⟨rfl, rfl⟩, rfl⟩
  rw [deq_LB]
  try refine go ⟨?_⟩
  rw [bselfV]
  try refine go ⟨?_⟩
  refine WPL.eff (OpE.callT (T := [Tok.own g0 L]) lO pM2 (fun w hw => h_mrkB _ g0 L 1 (by omega) (by omega) (by omega))) rfl rfl ?_
  rintro _ _ ⟨T, ⟨rfl, rfl⟩, rfl⟩
  have hH := fun w' (h1 : RL w' g0 (bmarks 1 L.length)) => h_heldB w' g0 1 _ h1 (by omega) (by omega) (by omega)
  try refine go ⟨?_⟩
  refine WPL.eff (OpE.call lO (fun w hw => hH _ (Rd.at rD hw))) rfl rfl ?_
  rintro _ _ ⟨T, ⟨rfl, rfl⟩, rfl⟩
  try refine go ⟨?_⟩
  rw [decide_eq_false (show ¬ (1 + (L.length : Int) < 0) by omega)]
  try refine go ⟨?_⟩
  rw [ine_self]
  try refine go ⟨?_⟩
  refine WPL.eff (OpE.call lO (fun w hw => h_toOS _ v xs (Rd.at rD hw) hl2)) rfl rfl ?_
  rintro u5 _ ⟨T, rfl, rfl⟩
  try refine go ⟨?_⟩
  refine WPL.eff (OpE.call lO (fun w hw => c_AnswersOf _ n u5 xs (Rd.at rD hw) (by omega))) rfl rfl ?_
  rintro _ _ ⟨T, ⟨k0, rfl, rfl⟩, rfl⟩
  rw [← hLe, ← hde]
  try refine go ⟨?_⟩
  refine WPL.eff (OpE.call lO (fun w hw => h_eqB _ k0 w0 L L (Rd.at rD hw) (Rd.at rD hw) (by omega) (by omega))) rfl rfl ?_
  rintro _ _ ⟨T, ⟨rfl, rfl⟩, rfl⟩
  rw [deq_LB]
  try refine go ⟨?_⟩
  rw [bselfV]
  try refine go ⟨?_⟩
  refine WPL.eff (OpE.call lO (fun w hw => hH _ (Rd.at rD hw))) rfl rfl ?_
  rintro _ _ ⟨T, ⟨rfl, rfl⟩, rfl⟩
  try refine go ⟨?_⟩
  rw [decide_eq_false (show ¬ (1 + (L.length : Int) < 0) by omega)]
  try refine go ⟨?_⟩
  rw [ine_self]
  try refine go ⟨?_⟩
  refine PE.ret1 (T := []) (T' := []) rfl rV ?_ sT
  rfl
end Go.Proofs.Ytfigegmgopnfhaa
/- The law FnExactGraphAt: its walk. Conditions: those of the theorem. -/
namespace Go.Proofs.Ytfigegmgopnfhaa
open Go
theorem gself1 (n : Int) (l : List E) : decide (n = n ∧ l = l) = true := decide_eq_true ⟨rfl, rfl⟩
set_option linter.unusedVariables false set_option linter.unusedSimpArgs false attribute [local irreducible] Tok.own Tok.blk RL Rd eptr WP WPL PE WPD WPO Op1 OpE Tri Again Mid Exit.then Exit.inBlock bodyPost RP Code.wp wpList isOwn OneM One
attribute [local irreducible] OV atOk atN atG
set_option maxHeartbeats 8000000

theorem l_ExactGraphAt (w : World) (n : Int) (v : Value) (xs : List Oper1) (x : Int) (h : RL w v xs) (hl : xs.length ≤ 9223372036854775807) :
    Tri Try.prog 13 [.int .i64 n, v, .int .i64 x] w [] fun r T => r = .bool true := by
  obtain ⟨L, hLe⟩ : ∃ L, L = atG n xs x := ⟨_, rfl⟩
  have hal : L.length ≤ 40 := by rw [hLe]; exact atG_le n xs x
  obtain ⟨N0, hNe⟩ : ∃ N0, N0 = atN n xs x := ⟨_, rfl⟩
  obtain ⟨d, hde⟩ : ∃ d, d = decide (atOk n xs x) := ⟨_, rfl⟩
  refine Tri.intro (hf := Try.func13) (hb := rfl) (hn := Try.ntmps13) (Nat.le_of_ble_eq_true rfl) ?_
  try refine go ⟨?_⟩
  refine WPL.eff (OpE.call lO (fun w hw => h_szOS _ v xs 1048576 (Rd.at rD hw) hl (by omega) (by omega))) rfl rfl ?_
  rintro r _ ⟨T, ⟨rfl, hr⟩, rfl⟩
  rcases hr with ⟨hsz, rfl⟩ | ⟨hsz, rfl⟩
  case inr =>
    repeat' (first | refine go ⟨?_⟩ | (refine isCond ?_; refine WP.condD rfl (fun hc => ?_) (fun hc => ?_)) | (refine isGuard ?_; refine WPL.splitD rfl rfl (fun hc => ?_) (fun hc => ?_)))
    refine PE.ret1 (T := []) (T' := []) rfl rV ?_ sT
    rfl
  have hl2 : xs.length ≤ 1048576 := by omega
  try refine go ⟨?_⟩
  refine WP.condD rfl (fun hc => ?_) (fun hc => ?_)
  · exfalso; omega
  try refine go ⟨?_⟩
  refine WPL.eff (OpE.call lO (fun w hw => h_toOS _ v xs (Rd.at rD hw) hl2)) rfl rfl ?_
  rintro u1 _ ⟨T, rfl, rfl⟩
  try refine go ⟨?_⟩
  refine WPL.eff (OpE.call lO (fun w hw => s_GraphAt _ n u1 xs x (Rd.at rD hw) (by omega))) rfl rfl ?_
  rintro _ _ ⟨T, ⟨w0, rfl, rfl⟩, rfl⟩
  rw [← hLe, ← hNe, ← hde]
  try refine go ⟨?_⟩
  refine WPL.eff OpE.alloc rfl rfl ?_; rintro _ _ ⟨ba, rfl, rfl⟩
  try refine go ⟨?_⟩
  refine WPL.eff (OpE.call lO (fun w hw => h_toOS _ v xs (Rd.at rD hw) hl2)) rfl rfl ?_
  rintro u2 _ ⟨T, rfl, rfl⟩
  try refine go ⟨?_⟩
  refine WPL.eff (OpE.call lO (fun w hw => c_GraphAt _ n u2 xs x (Rd.at rD hw) (by omega))) rfl rfl ?_
  rintro _ _ ⟨T, ⟨g0, rfl, rfl⟩, rfl⟩
  rw [← hLe, ← hNe, ← hde]
  try refine go ⟨?_⟩
  refine WPL.eff OpE.alloc rfl rfl ?_; rintro _ _ ⟨ba, rfl, rfl⟩
  try refine go ⟨?_⟩
  refine WPL.eff (OpE.call lO (fun w hw => h_eqG _ N0 N0 g0 w0 L L (Rd.at rD hw) (Rd.at rD hw) (by omega) (by omega))) rfl rfl ?_
  rintro _ _ ⟨T, ⟨rfl, rfl⟩, rfl⟩
  rw [gself1]
  try refine go ⟨?_⟩
  rw [bselfV]
  try refine go ⟨?_⟩
  refine WPL.eff (OpE.call lO (fun w hw => h_toOS _ v xs (Rd.at rD hw) hl2)) rfl rfl ?_
  rintro u3 _ ⟨T, rfl, rfl⟩
  try refine go ⟨?_⟩
  refine WPL.eff (OpE.call lO (fun w hw => h_eqOS _ u2 u3 xs xs (Rd.at rD hw) (Rd.at rD hw) hl2 hl2)) rfl rfl ?_
  rintro _ _ ⟨T, ⟨rfl, rfl⟩, rfl⟩
  rw [deq_Op]
  try refine go ⟨?_⟩
  refine WPL.eff (OpE.callT (T := [Tok.own u2 xs]) lO pM2 (fun w hw => h_markOS _ u2 xs 1 hl2 (by omega) (by omega))) rfl rfl ?_
  rintro _ _ ⟨T, ⟨ys, rfl, rfl⟩, rfl⟩
  try refine go ⟨?_⟩
  rw [decide_eq_false (show ¬ (1 + 3 * (xs.length : Int) < 0) by omega)]
  try refine go ⟨?_⟩
  refine WPL.eff (OpE.call lO (fun w hw => h_eqG _ N0 N0 g0 w0 L L (Rd.at rD hw) (Rd.at rD hw) (by omega) (by omega))) rfl rfl ?_
  rintro _ _ ⟨T, ⟨rfl, rfl⟩, rfl⟩
  rw [gself1]
  try refine go ⟨?_⟩
  rw [bselfV]
  try refine go ⟨?_⟩
  refine WPL.eff (OpE.callT (T := [Tok.own g0 L]) lO pM2 (fun w hw => h_mrkG _ N0 g0 L 1 (by omega) (by omega) (by omega))) rfl rfl ?_
  rintro _ _ ⟨T, ⟨rfl, rfl⟩, rfl⟩
  have hH := fun w' (h1 : RL w' g0 (emarks 1 L.length)) => h_heldG w' N0 g0 1 _ h1 (by omega) (by omega) (by omega)
  try refine go ⟨?_⟩
  refine WPL.eff (OpE.call lO (fun w hw => hH _ (Rd.at rD hw))) rfl rfl ?_
  rintro _ _ ⟨T, ⟨rfl, rfl⟩, rfl⟩
  try refine go ⟨?_⟩
  rw [decide_eq_false (show ¬ (1 + 2 * (L.length : Int) < 0) by omega)]
  try refine go ⟨?_⟩
  rw [ine_self]
  try refine go ⟨?_⟩
  refine WPL.eff (OpE.call lO (fun w hw => h_toOS _ v xs (Rd.at rD hw) hl2)) rfl rfl ?_
  rintro u5 _ ⟨T, rfl, rfl⟩
  try refine go ⟨?_⟩
  refine WPL.eff (OpE.call lO (fun w hw => c_GraphAt _ n u5 xs x (Rd.at rD hw) (by omega))) rfl rfl ?_
  rintro _ _ ⟨T, ⟨k0, rfl, rfl⟩, rfl⟩
  rw [← hLe, ← hNe, ← hde]
  try refine go ⟨?_⟩
  refine WPL.eff OpE.alloc rfl rfl ?_; rintro _ _ ⟨ba, rfl, rfl⟩
  try refine go ⟨?_⟩
  refine WPL.eff (OpE.call lO (fun w hw => h_eqG _ N0 N0 k0 w0 L L (Rd.at rD hw) (Rd.at rD hw) (by omega) (by omega))) rfl rfl ?_
  rintro _ _ ⟨T, ⟨rfl, rfl⟩, rfl⟩
  rw [gself1]
  try refine go ⟨?_⟩
  rw [bselfV]
  try refine go ⟨?_⟩
  refine WPL.eff (OpE.call lO (fun w hw => hH _ (Rd.at rD hw))) rfl rfl ?_
  rintro _ _ ⟨T, ⟨rfl, rfl⟩, rfl⟩
  try refine go ⟨?_⟩
  rw [decide_eq_false (show ¬ (1 + 2 * (L.length : Int) < 0) by omega)]
  try refine go ⟨?_⟩
  rw [ine_self]
  try refine go ⟨?_⟩
  refine PE.ret1 (T := []) (T' := []) rfl rV ?_ sT
  rfl
end Go.Proofs.Ytfigegmgopnfhaa
/- The given statement FnExactGraphAtSaid, out of its walk (LExactGraphAt). Written by fin.py. No conditions. -/
namespace Go.Proofs.Ytfigegmgopnfhaa.ZfnExactGraphAt
open Go Go.ChangeShapes Go.WideShapes Go.ChangeAt Go.RowKit Go.Joins
theorem own : ownKnob Try.prog.godebug = none := by kernel_rfl
theorem laidOut : laidOutB Try.prog = true := by kernel_rfl
theorem cells101 : Try.prog.cellsOf 101 = 3 := by kernel_rfl
set_option maxRecDepth 100000 in
theorem lifted (os : Os) (started : os.Started) (H : Type) (enc : TypeId × Value → H) :
    ReturnsInHanded {} Try.checked os 13 .any (Rows.fnExactGraphAtSpec.pre6 enc Try.prog Try.f13 Rows.fnExactGraphAtRow.domain false) (Rows.fnExactGraphAtSpec.post enc Try.prog Try.f13 false true false false) := by
  refine returnsInHanded_of_change (C := Try.checked) own started (by kernel_rfl) Try.func13
    (ChangeSpec.witness6 (enc := enc) (C := Try.checked) false ⟨#[], #[.int .i64 0, .slice none 0 0, .int .i64 0], []⟩ 8 (by kernel_rfl) (by kernel_rfl) (by kernel_rfl) (by kernel_rfl)) ?_
  intro W base args ds gs before hval0 hW hcnd _
  have hval : ∀ (j : Nat) t v, Try.f13.params[j]? = some t → args[j]? = some v → Value.okWide Try.prog W .any base t v := hval0
  have hW' := hW
  obtain ⟨p, q, hA0, hV, rfl, hfz, hnd⟩ := hW
  have hA : DataW.TrodAll enc Try.prog W 0 (fun _ => true) true Try.f13.params.toList args.toList ds p := hA0
  rw [Try.params13] at hA hval
  obtain ⟨v0, vs0, d0, ds0, p0, q0, hargs, rfl, rfl, h0, r0⟩ := trodAll_cons hA
  obtain ⟨v1, vs1, d1, ds1, p1, q1, rfl, rfl, rfl, h1, r1⟩ := trodAll_cons r0
  obtain ⟨v2, vs2, d2, ds2, p2, q2, rfl, rfl, rfl, h2, r2⟩ := trodAll_cons r1
  obtain ⟨rfl, rfl, rfl⟩ := trodAll_nil r2
  obtain rfl : args = #[v0, v1, v2] := by cases args; simp_all
  obtain ⟨rfl, rfl⟩ := trodVars_none hV
  have k0 := h0
  have lt0 : ∀ x ∈ p0, x.block < W.heap.size := by obtain ⟨m, hm⟩ := k0; exact DataW.trod_lt m _ _ _ hm
  obtain ⟨a0, rfl, rfl, rfl, w0⟩ := open_int Try.underlying3 (hval 0 3 v0 rfl rfl) h0
  have k1 := h1
  have lt1 : ∀ x ∈ p1, x.block < W.heap.size := by obtain ⟨m, hm⟩ := k1; exact DataW.trod_lt m _ _ _ hm
  obtain ⟨xs1, rl1, ll1⟩ : ∃ xs : List Oper1, RL W v1 xs ∧ xs.length ≤ 9223372036854775807 := by
    have hv := hval 1 34 v1 rfl rfl
    simp only [Value.okWide, Try.underlying34] at hv
    obtain ⟨a, l, c, rfl⟩ := okWide_slice Try.underlying34 (hval 1 34 v1 rfl rfl)
    obtain ⟨m, hm⟩ := k1
    exact rl_ops Try.underlying34 Try.underlying101 Try.underlying99 (by kernel_rfl) (by kernel_rfl) (by kernel_rfl) (by kernel_rfl) Try.underlying3 Try.underlying3 Try.underlying3 (by kernel_rfl) (by kernel_rfl) (by kernel_rfl) (by kernel_rfl) cells101 hv (by simpa [Value.cells] using hm)
  have k2 := h2
  have lt2 : ∀ x ∈ p2, x.block < W.heap.size := by obtain ⟨m, hm⟩ := k2; exact DataW.trod_lt m _ _ _ hm
  obtain ⟨a2, rfl, rfl, rfl, w2⟩ := open_int Try.underlying3 (hval 2 3 v2 rfl rfl) h2
  clear hA0 hval0
  refine (Tri.holds0 (v := .bool true) (l_ExactGraphAt W a0 v1 xs1 a2 rl1 ll1) (fun _ _ h => h)).mono fun e W' ⟨he, bel⟩ => ?_
  subst he
  exact ⟨_, rfl, _, _, _, [], _, [], hW', trodAll_mk1 (shut_bool Try.underlying4 _), (trodAll_cons_mk (shut_int Try.underlying3 w0) (trodAll_cons_mk (Below.trod laidOut (by kernel_rfl) (of_decide_eq_true (by kernel_rfl)) k1 bel lt1) (trodAll_cons_mk (shut_int Try.underlying3 w2) trodAll_mk0))), rfl, bel.frame _, fun h => by cases h⟩
theorem over : Rows.fnExactGraphAtRow.holds Try.pinned (OpenSpec.ofChange Rows.fnExactGraphAtSpec) :=
  OpenClaim.holds_of_wide 13 Try.f13 rfl rfl rfl rfl rfl rfl rfl ⟨rfl, rfl, rfl, rfl, rfl⟩ rfl rfl rfl rfl rfl (by kernel_rfl) Try.func13 (by unfold joinedFacts; rw [initMay, initLift, initMake]; kernel_rfl)
    (of_decide_eq_true (by kernel_rfl)) (by unfold Func.isWrapper; first | (rw [if_pos (by decide +kernel)]; kernel_rfl) | (rw [if_neg (by decide +kernel)]; exact ⟨rfl, rfl⟩))
    (fun os started H enc _ => lifted os started H enc)
/-- The statement. -/
theorem proved : Rows.FnExactGraphAtSaid := over
end Go.Proofs.Ytfigegmgopnfhaa.ZfnExactGraphAt
