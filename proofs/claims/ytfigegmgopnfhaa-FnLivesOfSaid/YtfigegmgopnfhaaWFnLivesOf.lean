/- The given statement FnLivesOfSaid, out of its walk (LLivesOf). Written by fin.py. No conditions. -/
import Derived.Test.YtfigegmgopnfhaaInit
import Derived.Test.YtfigegmgopnfhaaV2
import Derived.Test.YtfigegmgopnfhaaV4
import Derived.Test.YtfigegmgopnfhaaV8
import Derived.Test.YtfigegmgopnfhaaV9
set_option linter.unusedVariables false
set_option linter.unusedSimpArgs false
/- The law FnOpsValid: its walk. Conditions: those of the theorem. -/
namespace Go.Proofs.Ytfigegmgopnfhaa
open Go
theorem bselfV (d : Bool) : (d != d) = false := by cases d <;> rfl
theorem deq_Bool (d : Bool) : decide (d = d) = true := decide_eq_true rfl
theorem beq_Bool (d : Bool) : (d == d) = true := by cases d <;> rfl
theorem runA_take {n : Int} {ops : List Oper1} (h : OV n ops) {k : Nat} (hk : k ≤ ops.length) : (runA n (ops.take k)).length ≤ (runA n ops).length ∧ runA n (ops.take k) = (runA n ops).take (runA n (ops.take k)).length := by
  have e1 : runA n (ops.take k) = ans n ops k := by
    unfold runA
    rw [if_pos (h.take k), List.length_take, Nat.min_eq_left hk, ans_take n ops k k (Nat.le_refl _) hk]
  have e2 : runA n ops = ans n ops ops.length := if_pos h
  have hp := ans_prefix n ops k ops.length hk
  rw [e1, e2]
  exact ⟨hp.length_le, List.prefix_iff_eq_take.1 hp⟩
set_option linter.unusedVariables false set_option linter.unusedSimpArgs false attribute [local irreducible] Tok.own Tok.blk RL Rd eptr WP WPL PE WPD WPO Op1 OpE Tri Again Mid Exit.then Exit.inBlock bodyPost RP Code.wp wpList isOwn OneM One
attribute [local irreducible] OV runA
set_option maxHeartbeats 8000000

theorem l_OpsValid (w : World) (v : Value) (bs : List UInt8) (h : RL w v bs) (hl : bs.length ≤ 9223372036854775807) :
    Tri Try.prog 5 [v] w [] fun r T => r = .bool true := by
  refine Tri.intro (hf := Try.func5) (hb := rfl) (hn := Try.ntmps5) (Nat.le_of_ble_eq_true rfl) ?_
  repeat' (first | exact absurd rfl hc | refine go ⟨?_⟩ | (refine isCond ?_; refine WP.condD rfl (fun hc => ?_) (fun hc => ?_)) | (refine isGuard ?_; refine WPL.splitD rfl rfl (fun hc => ?_) (fun hc => ?_)))
  · refine PE.ret1 (T := []) (T' := []) rfl rV ?_ sT
    rfl
  refine WPL.eff (OpE.call lO (fun w hw => g_D8OpsValid _ v bs (Rd.at rD hw) hl)) rfl rfl ?_
  rintro r _ ⟨T, ⟨vl, n, ops, rfl, rfl, hle⟩, rfl⟩
  have hal := runA_le n ops
  try refine go ⟨?_⟩
  refine WPL.eff (OpE.call lO (fun w hw => c_OpsValid _ n vl ops (Rd.at rD hw) (by omega))) rfl rfl ?_
  rintro _ _ ⟨T, ⟨rfl, rfl⟩, rfl⟩
  try refine go ⟨?_⟩
  refine WPL.eff (OpE.call lO (fun w hw => s_OpsValid _ n vl ops (Rd.at rD hw) (by omega))) rfl rfl ?_
  rintro _ _ ⟨T, ⟨rfl, rfl⟩, rfl⟩
  try refine go ⟨?_⟩
  rw [bselfV]
  try refine go ⟨?_⟩
  refine WP.condD rfl (fun hv => ?_) (fun hv => ?_)
  · try refine go ⟨?_⟩
    refine WPL.eff (OpE.call lO (fun w hw => s_OpsValid _ n vl ops (Rd.at rD hw) (by omega))) rfl rfl ?_
    rintro _ _ ⟨T, ⟨rfl, rfl⟩, rfl⟩
    try refine go ⟨?_⟩
    refine PE.ret1 (T := []) (T' := []) rfl rV ?_ sT
    rw [decide_eq_false hv]; rfl
  have hv : OV n ops := Decidable.not_not.1 hv
  try refine go ⟨?_⟩
  refine WPL.eff (OpE.call lO (fun w hw => c_AnswersOf _ n vl ops (Rd.at rD hw) (by omega))) rfl rfl ?_
  rintro _ _ ⟨T, ⟨va, rfl, rfl⟩, rfl⟩
  try refine go ⟨?_⟩
  refine WP.loop (σ := Nat) (fun k => [(3, .int .i64 n), (4, vl), (6, va), (8, .int .i64 k)]) (fun _ => [Tok.own va (runA n ops), Tok.own vl ops]) (fun k => k ≤ ops.length + 1) (fun k => ops.length + 1 - k) 0 (Nat.zero_le _) sE sT2 ?_
  rintro k hk
  try refine go ⟨?_⟩
  refine WP.condD rfl (fun hc => ?_) (fun hc => ?_)
  · have hk' : (k : Int).toNat ≤ ops.length := by omega
    have hvt := hv.take (k : Int).toNat
    obtain ⟨hB1, hB2⟩ := runA_take hv hk'
    have hbl := runA_le n (ops.take (k : Int).toNat)
    have htl : (ops.take (k : Int).toNat).length ≤ 1099511627776 := by rw [List.length_take]; omega
    try refine go ⟨?_⟩
    refine WPL.eff (OpE.call lO (fun w hw => c_AnswersOf _ n (slcV vl (k : Int).toNat) (ops.take (k : Int).toNat) (RL.take (Rd.at rD hw) hk') htl)) rfl rfl ?_
    rintro _ _ ⟨T, ⟨vb, rfl, rfl⟩, rfl⟩
    rw [decide_eq_true hvt]
    try refine go ⟨?_⟩
    refine WPL.eff (OpE.call lO (fun w hw => c_OpsValid _ n (slcV vl (k : Int).toNat) (ops.take (k : Int).toNat) (RL.take (Rd.at rD hw) hk') htl)) rfl rfl ?_
    rintro _ _ ⟨T, ⟨rfl, rfl⟩, rfl⟩
    rw [decide_eq_true hvt]
    try refine go ⟨?_⟩
    rw [decide_eq_false (show ¬ ((runA n (ops.take (k : Int).toNat)).length : Int) > ((runA n ops).length : Int) by omega)]
    have hb' : ((runA n (ops.take (k : Int).toNat)).length : Int).toNat ≤ (runA n ops).length := by omega
    have hq : runA n (ops.take (k : Int).toNat) = (runA n ops).take ((runA n (ops.take (k : Int).toNat)).length : Int).toNat := by rw [Int.toNat_natCast]; exact hB2
    generalize runA n (ops.take (k : Int).toNat) = B at *
    try refine go ⟨?_⟩
    refine WPL.eff (OpE.call lO (fun w hw => y_Bools _ vb (slcV va (B.length : Int).toNat) B ((runA n ops).take (B.length : Int).toNat) (Rd.at rD hw) (RL.take (Rd.at rD hw) hb') (by omega) (by rw [List.length_take]; omega))) rfl rfl ?_
    rintro _ _ ⟨T, ⟨rfl, rfl⟩, rfl⟩
    rw [decide_eq_true hq]
    try refine go ⟨?_⟩
    refine PE.again (k + 1) ?_ ?_ sE sT2
    · (try dsimp only); omega
    · (try dsimp only); omega
  · try refine go ⟨?_⟩
    refine PE.ret1 (T := []) (T' := []) rfl rV ?_ sT
    rfl
end Go.Proofs.Ytfigegmgopnfhaa
/- The law FnLivesEnd: its walk. Conditions: those of the theorem. -/
namespace Go.Proofs.Ytfigegmgopnfhaa
open Go
theorem deq_LL (l : List Lif) : decide (l = l) = true := decide_eq_true rfl
/-- The operation of a life. -/
def pAt (ops : List Oper1) (i : Nat) : Nat := (puts ops ops.length).getD i 0
theorem livs_len (ops : List Oper1) : (livs ops).length = (puts ops ops.length).length := by unfold livs; rw [List.length_map]
theorem livs_get {ops : List Oper1} {i : Nat} (hi : i < (livs ops).length) : (livs ops).getD i ⟨0, 0, 0, 0⟩ = lifeAt ops (pAt ops i) ∧ pAt ops i < ops.length ∧ (ops.getD (pAt ops i) oD).K = 1 := by
  have hi' : i < (puts ops ops.length).length := by rwa [livs_len] at hi
  have e : pAt ops i = (puts ops ops.length)[i] := by
    unfold pAt; rw [List.getD_eq_getElem?_getD, List.getElem?_eq_getElem hi']; rfl
  have hm : pAt ops i ∈ puts ops ops.length := by rw [e]; exact List.getElem_mem _
  obtain ⟨h1, h2⟩ := mem_puts.1 hm
  refine ⟨?_, h1, h2⟩
  unfold livs
  rw [List.getD_eq_getElem?_getD, List.getElem?_map, List.getElem?_eq_getElem hi', e]; rfl
theorem pAt_lt {ops : List Oper1} {k i : Nat} (hk : k < i) (hi : i < (livs ops).length) : pAt ops k < pAt ops i := by
  have hi' : i < (puts ops ops.length).length := by rwa [livs_len] at hi
  have hs : (puts ops ops.length).Pairwise (· < ·) := by
    unfold puts
    exact List.Pairwise.filter _ List.pairwise_lt_range
  have := List.pairwise_iff_getElem.1 hs k i (by omega) hi' hk
  unfold pAt
  rw [List.getD_eq_getElem?_getD, List.getElem?_eq_getElem (by omega), List.getD_eq_getElem?_getD, List.getElem?_eq_getElem hi']
  exact this
theorem livR_of {n : Int} {ops : List Oper1} (h : OV n ops) : livR n ops = livs ops := if_pos h
theorem pAt_cut {ops : List Oper1} {p : Nat} (hp : p < ops.length) (h : toOf ops p < ops.length) : (ops.getD (toOf ops p) oD).K = 2 := (cutsB_iff.1 ((toOf_spec hp).2.2.2 h)).1
set_option linter.unusedVariables false set_option linter.unusedSimpArgs false attribute [local irreducible] Tok.own Tok.blk RL Rd eptr WP WPL PE WPD WPO Op1 OpE Tri Again Mid Exit.then Exit.inBlock bodyPost RP Code.wp wpList isOwn OneM One
attribute [local irreducible] OV livs livR pAt toOf
set_option maxHeartbeats 8000000

theorem l_LivesEnd (w : World) (v : Value) (bs : List UInt8) (h : RL w v bs) (hl : bs.length ≤ 9223372036854775807) :
    Tri Try.prog 8 [v] w [] fun r T => r = .bool true := by
  refine Tri.intro (hf := Try.func8) (hb := rfl) (hn := Try.ntmps8) (Nat.le_of_ble_eq_true rfl) ?_
  repeat' (first | exact absurd rfl hc | refine go ⟨?_⟩ | (refine isCond ?_; refine WP.condD rfl (fun hc => ?_) (fun hc => ?_)) | (refine isGuard ?_; refine WPL.splitD rfl rfl (fun hc => ?_) (fun hc => ?_)))
  · refine PE.ret1 (T := []) (T' := []) rfl rV ?_ sT
    rfl
  refine WPL.eff (OpE.call lO (fun w hw => g_D8LivesOf _ v bs (Rd.at rD hw) hl)) rfl rfl ?_
  rintro r _ ⟨T, ⟨vl, n, ops, rfl, rfl, hle⟩, rfl⟩
  have hal := livR_le n ops
  try refine go ⟨?_⟩
  refine WPL.eff (OpE.call lO (fun w hw => c_LivesOf _ n vl ops (Rd.at rD hw) (by omega))) rfl rfl ?_
  rintro _ _ ⟨T, ⟨va, rfl, rfl⟩, rfl⟩
  try refine go ⟨?_⟩
  refine WPL.eff (OpE.call lO (fun w hw => s_LivesOf _ n vl ops (Rd.at rD hw) (by omega))) rfl rfl ?_
  rintro _ _ ⟨T, ⟨vw, rfl, rfl⟩, rfl⟩
  try refine go ⟨?_⟩
  by_cases hv : OV n ops
  case neg =>
    rw [decide_eq_false hv]
    refine WPL.eff (OpE.call lO (fun w hw => y_Lives _ va vw (livR n ops) (livR n ops) (Rd.at rD hw) (Rd.at rD hw) (by omega) (by omega))) rfl rfl ?_
    rintro _ _ ⟨T, ⟨rfl, rfl⟩, rfl⟩
    rw [deq_LL]
    try refine go ⟨?_⟩
    refine WPL.eff (OpE.call lO (fun w hw => y_Lives _ va vw (livR n ops) (livR n ops) (Rd.at rD hw) (Rd.at rD hw) (by omega) (by omega))) rfl rfl ?_
    rintro _ _ ⟨T, ⟨rfl, rfl⟩, rfl⟩
    rw [deq_LL]
    try refine go ⟨?_⟩
    refine PE.ret1 (T := []) (T' := []) rfl rV ?_ sT
    rfl
  rw [decide_eq_true hv]
  refine WPL.eff (OpE.call lO (fun w hw => y_Lives _ va vw (livR n ops) (livR n ops) (Rd.at rD hw) (Rd.at rD hw) (by omega) (by omega))) rfl rfl ?_
  rintro _ _ ⟨T, ⟨rfl, rfl⟩, rfl⟩
  rw [deq_LL]
  rw [livR_of hv] at *
  try refine go ⟨?_⟩
  refine WP.loop (σ := Nat) (fun i => [(3, .int .i64 n), (4, vl), (5, va), (9, .int .i64 i)]) (fun _ => [Tok.own va (livs ops), Tok.own vl ops]) (fun i => i ≤ (livs ops).length) (fun i => (livs ops).length - i) 0 (Nat.zero_le _) sE sT2 ?_
  rintro i hi
  try refine go ⟨?_⟩
  refine WP.condD rfl (fun hc => ?_) (fun hc => ?_)
  · have hi' : i < (livs ops).length := by omega
    obtain ⟨hL, hp, hK⟩ := livs_get hi'
    have hplt := fun k (hk : k < i) => pAt_lt hk hi'
    generalize pAt ops i = p at *
    have hF : ((livs ops).getD i ⟨0, 0, 0, 0⟩).F = (p : Int) := by rw [hL]; rfl
    have hT : ((livs ops).getD i ⟨0, 0, 0, 0⟩).T = ((toOf ops p : Nat) : Int) := by rw [hL]; rfl
    have hFT := (toOf_spec hp).1
    have hcut := pAt_cut hp
    try refine go ⟨?_⟩
    refine WP.draw [Tok.own va (livs ops), Tok.own vl ops] mixed ?_
    refine WPD.take 0 rfl (Op1.move rfl) rfl rfl sT kR kR kR xQP ?_
    refine WPD.take 1 rfl (Op1.move rfl) rfl rfl sT kR kR kR xQP ?_
    refine WPD.take 5 rfl (Op1.move rfl) rfl rfl sT kR kR kR xQP ?_
    refine WPD.take 6 rfl (Op1.move rfl) rfl rfl sT kR kR kR xQP ?_
    refine WPD.take 2 rfl (by first | exact (Op1.indexAddr rfl rfl rD lT) | exact (Op1.indexAddrZ rfl rfl rD lT)) rfl rfl sT kR kR kR xQP ?_
    refine WPD.take 7 rfl (by first | exact (Op1.indexAddr rfl rfl rD lT) | exact (Op1.indexAddrZ rfl rfl rD lT)) rfl rfl sT kR kR kR xQP ?_
    refine WPD.take 3 rfl (by first | exact (Op1.fieldAddr rfl) | exact (Op1.fieldAddrE rfl rD lT)) rfl rfl sT kR kR kR xQP ?_
    refine WPD.take 8 rfl (by first | exact (Op1.fieldAddr rfl) | exact (Op1.fieldAddrE rfl rD lT)) rfl rfl sT kR kR kR xQP ?_
    refine WPD.take 4 rfl (Op1.loadLT rfl rD lT) rfl rfl sT kR kR kR xQP ?_
    rw [hT]
    refine WPD.take 9 rfl (Op1.loadLF rfl rD lT) rfl rfl sT kR kR kR xQP ?_
    rw [hF]
    refine WPD.take 10 rfl (Op1.leI rfl rfl) rfl rfl sT kR kR kR xQP ?_
    rw [decide_eq_false (show ¬ (((toOf ops p : Nat) : Int) ≤ (p : Int)) by omega)]
    refine WPD.take 11 rfl (Op1.move rfl) rfl rfl sT kR kR kR xQP ?_
    refine WPD.take 12 rfl (Op1.move rfl) rfl rfl sT kR kR kR xQP ?_
    refine WPD.take 13 rfl (Op1.move rfl) rfl rfl sT kR kR kR xQP ?_
    refine WPD.take 14 rfl (Op1.move rfl) rfl rfl sT kR kR kR xQP ?_
    refine WPD.take 15 rfl (by first | exact (Op1.indexAddr rfl rfl rD lT) | exact (Op1.indexAddrZ rfl rfl rD lT)) rfl rfl sT kR kR kR xQP ?_
    refine WPD.take 16 rfl (by first | exact (Op1.fieldAddr rfl) | exact (Op1.fieldAddrE rfl rD lT)) rfl rfl sT kR kR kR xQP ?_
    refine WPD.take 17 rfl (Op1.loadLF rfl rD lT) rfl rfl sT kR kR kR xQP ?_
    rw [hF]
    refine WPD.take 18 rfl (by first | exact (Op1.indexAddr rfl rfl rD lT) | exact (Op1.indexAddrZ rfl rfl rD lT)) rfl rfl sT kR kR kR xQP ?_
    refine WPD.take 19 rfl (by first | exact (Op1.fieldAddr rfl) | exact (Op1.fieldAddrE rfl rD lT)) rfl rfl sT kR kR kR xQP ?_
    refine WPD.take 20 rfl (Op1.loadOK rfl rD lT) rfl rfl sT kR kR kR xQP ?_
    refine WPD.take 21 rfl (Op1.neI rfl rfl) rfl rfl sT kR kR kR xQP ?_
    rw [decide_eq_false (show ¬ ((ops.getD p ⟨0, 0, 0⟩).K ≠ 1) from fun h => h hK)]
    refine WPD.take 22 rfl (by first | exact (Op1.pickT rfl rfl) | exact (Op1.pickF rfl rfl)) rfl rfl sT kR kR kR xQP ?_
    refine WPD.take 23 rfl (Op1.move rfl) rfl rfl sT kR kR kR xQP ?_
    refine WPD.take 24 rfl (Op1.move rfl) rfl rfl sT kR kR kR xQP ?_
    refine WPD.take 25 rfl (Op1.move rfl) rfl rfl sT kR kR kR xQP ?_
    refine WPD.take 29 rfl (Op1.move rfl) rfl rfl sT kR kR kR xQP ?_
    refine WPD.take 26 rfl (by first | exact (Op1.indexAddr rfl rfl rD lT) | exact (Op1.indexAddrZ rfl rfl rD lT)) rfl rfl sT kR kR kR xQP ?_
    refine WPD.take 30 rfl (Op1.len rfl rD) rfl rfl sT kR kR kR xQP ?_
    refine WPD.take 27 rfl (by first | exact (Op1.fieldAddr rfl) | exact (Op1.fieldAddrE rfl rD lT)) rfl rfl sT kR kR kR xQP ?_
    refine WPD.take 28 rfl (Op1.loadLT rfl rD lT) rfl rfl sT kR kR kR xQP ?_
    rw [hT]
    refine WPD.take 31 rfl (Op1.ltI rfl rfl) rfl rfl sT kR kR kR xQP ?_
    refine WPD.take 32 rfl (Op1.move rfl) rfl rfl sT kR kR kR xQP ?_
    first | refine WPD.splitD 90 rfl (fun h90 => ?t1) (fun h90 => ?f1) | refine WPD.split 90 rfl (fun h90 => ?t1) (fun h90 => ?f1)
    case' t1 =>
      refine WPD.take 33 rfl (Op1.move rfl) rfl rfl sT kR kR kR xQP ?_
      refine WPD.take 34 rfl (Op1.move rfl) rfl rfl sT kR kR kR xQP ?_
      refine WPD.take 35 rfl (Op1.move rfl) rfl rfl sT kR kR kR xQP ?_
      refine WPD.take 36 rfl (by first | exact (Op1.indexAddr rfl rfl rD lT) | exact (Op1.indexAddrZ rfl rfl rD lT)) rfl rfl sT kR kR kR xQP ?_
      refine WPD.take 37 rfl (by first | exact (Op1.fieldAddr rfl) | exact (Op1.fieldAddrE rfl rD lT)) rfl rfl sT kR kR kR xQP ?_
      refine WPD.take 38 rfl (Op1.loadLT rfl rD lT) rfl rfl sT kR kR kR xQP ?_
      rw [hT]
      refine WPD.take 39 rfl (by first | exact (Op1.indexAddr rfl rfl rD lT) | exact (Op1.indexAddrZ rfl rfl rD lT)) rfl rfl sT kR kR kR xQP ?_
      refine WPD.take 40 rfl (by first | exact (Op1.fieldAddr rfl) | exact (Op1.fieldAddrE rfl rD lT)) rfl rfl sT kR kR kR xQP ?_
      refine WPD.take 41 rfl (Op1.loadOK rfl rD lT) rfl rfl sT kR kR kR xQP ?_
      refine WPD.take 42 rfl (Op1.neI rfl rfl) rfl rfl sT kR kR kR xQP ?_
      rw [decide_eq_false (show ¬ ((ops.getD (toOf ops p) ⟨0, 0, 0⟩).K ≠ 2) from fun h => h (hcut (by omega)))]
      refine WPD.take 43 rfl (by first | exact (Op1.pickT rfl rfl) | exact (Op1.pickF rfl rfl)) rfl rfl sT kR kR kR xQP ?_
      refine WPD.take 44 rfl (by first | exact (Op1.pickT rfl rfl) | exact (Op1.pickF rfl rfl)) rfl rfl sT kR kR kR xQP ?_
      refine WPD.done kR ?_
    case' f1 =>
      refine WPD.skip 33 rfl rfl rfl sT kR kR kR xQP ?_
      refine WPD.skip 34 rfl rfl rfl sT kR kR kR xQP ?_
      refine WPD.skip 35 rfl rfl rfl sT kR kR kR xQP ?_
      refine WPD.skip 36 rfl rfl rfl sT kR kR kR xQP ?_
      refine WPD.skip 37 rfl rfl rfl sT kR kR kR xQP ?_
      refine WPD.skip 38 rfl rfl rfl sT kR kR kR xQP ?_
      refine WPD.skip 39 rfl rfl rfl sT kR kR kR xQP ?_
      refine WPD.skip 40 rfl rfl rfl sT kR kR kR xQP ?_
      refine WPD.skip 41 rfl rfl rfl sT kR kR kR xQP ?_
      refine WPD.skip 42 rfl rfl rfl sT kR kR kR xQP ?_
      refine WPD.take 43 rfl (by first | exact (Op1.pickT rfl rfl) | exact (Op1.pickF rfl rfl)) rfl rfl sT kR kR kR xQP ?_
      refine WPD.take 44 rfl (by first | exact (Op1.pickT rfl rfl) | exact (Op1.pickF rfl rfl)) rfl rfl sT kR kR kR xQP ?_
      refine WPD.done kR ?_
    all_goals (
      try refine go ⟨?_⟩
      refine WP.loop (σ := Nat) (fun k => [(3, .int .i64 n), (4, vl), (5, va), (9, .int .i64 i), (10, .int .i64 k)]) (fun _ => [Tok.own va (livs ops), Tok.own vl ops]) (fun k => k ≤ i) (fun k => i - k) 0 (Nat.zero_le _) sE sT2 ?_
      rintro k hk)
    · try refine go ⟨?_⟩
      refine WP.condD rfl (fun hd => ?_) (fun hd => ?_)
      · have hki : k < i := by omega
        obtain ⟨hLk, hpk, hKk⟩ := livs_get (show k < (livs ops).length by omega)
        have hpp := hplt k hki
        generalize pAt ops k = q at *
        have hTk : ((livs ops).getD k ⟨0, 0, 0, 0⟩).T = ((toOf ops q : Nat) : Int) := by rw [hLk]; rfl
        try refine go ⟨?_⟩
        refine WP.draw [Tok.own va (livs ops), Tok.own vl ops] mixed ?_
        refine WPD.take 0 rfl (Op1.move rfl) rfl rfl sT kR kR kR xQP ?_
        refine WPD.take 1 rfl (Op1.move rfl) rfl rfl sT kR kR kR xQP ?_
        refine WPD.take 5 rfl (Op1.move rfl) rfl rfl sT kR kR kR xQP ?_
        refine WPD.take 6 rfl (Op1.move rfl) rfl rfl sT kR kR kR xQP ?_
        refine WPD.take 2 rfl (by first | exact (Op1.indexAddr rfl rfl rD lT) | exact (Op1.indexAddrZ rfl rfl rD lT)) rfl rfl sT kR kR kR xQP ?_
        refine WPD.take 7 rfl (by first | exact (Op1.indexAddr rfl rfl rD lT) | exact (Op1.indexAddrZ rfl rfl rD lT)) rfl rfl sT kR kR kR xQP ?_
        refine WPD.take 3 rfl (by first | exact (Op1.fieldAddr rfl) | exact (Op1.fieldAddrE rfl rD lT)) rfl rfl sT kR kR kR xQP ?_
        refine WPD.take 8 rfl (by first | exact (Op1.fieldAddr rfl) | exact (Op1.fieldAddrE rfl rD lT)) rfl rfl sT kR kR kR xQP ?_
        refine WPD.take 4 rfl (Op1.loadLE rfl rD lT) rfl rfl sT kR kR kR xQP ?_
        refine WPD.take 9 rfl (Op1.loadLE rfl rD lT) rfl rfl sT kR kR kR xQP ?_
        refine WPD.take 10 rfl (by first | exact (Op1.eqI rfl rfl) | exact (Op1.eqB rfl rfl) | exact (Op1.eqE rfl rfl) | exact (Op1.eqNil rfl rD)) rfl rfl sT kR kR kR xQP ?_
        refine WPD.take 11 rfl (Op1.move rfl) rfl rfl sT kR kR kR xQP ?_
        first | refine WPD.splitD 119 rfl (fun h119 => ?t2) (fun h119 => ?f2) | refine WPD.split 119 rfl (fun h119 => ?t2) (fun h119 => ?f2)
        case' t2 =>
          refine WPD.take 12 rfl (Op1.move rfl) rfl rfl sT kR kR kR xQP ?_
          refine WPD.take 13 rfl (Op1.move rfl) rfl rfl sT kR kR kR xQP ?_
          refine WPD.take 17 rfl (Op1.move rfl) rfl rfl sT kR kR kR xQP ?_
          refine WPD.take 18 rfl (Op1.move rfl) rfl rfl sT kR kR kR xQP ?_
          refine WPD.take 14 rfl (by first | exact (Op1.indexAddr rfl rfl rD lT) | exact (Op1.indexAddrZ rfl rfl rD lT)) rfl rfl sT kR kR kR xQP ?_
          refine WPD.take 19 rfl (by first | exact (Op1.indexAddr rfl rfl rD lT) | exact (Op1.indexAddrZ rfl rfl rD lT)) rfl rfl sT kR kR kR xQP ?_
          refine WPD.take 15 rfl (by first | exact (Op1.fieldAddr rfl) | exact (Op1.fieldAddrE rfl rD lT)) rfl rfl sT kR kR kR xQP ?_
          refine WPD.take 20 rfl (by first | exact (Op1.fieldAddr rfl) | exact (Op1.fieldAddrE rfl rD lT)) rfl rfl sT kR kR kR xQP ?_
          refine WPD.take 16 rfl (Op1.loadLT rfl rD lT) rfl rfl sT kR kR kR xQP ?_
          rw [hTk]
          refine WPD.take 21 rfl (Op1.loadLF rfl rD lT) rfl rfl sT kR kR kR xQP ?_
          rw [hF]
          refine WPD.take 22 rfl (Op1.geI rfl rfl) rfl rfl sT kR kR kR xQP ?_
          rw [decide_eq_false (show ¬ (((toOf ops q : Nat) : Int) ≥ (p : Int)) by have h := h119; rw [hLk, hL] at h; have := lives_apart hv hp hpp hKk hK h; omega)]
          refine WPD.take 23 rfl (by first | exact (Op1.pickT rfl rfl) | exact (Op1.pickF rfl rfl)) rfl rfl sT kR kR kR xQP ?_
          refine WPD.done kR ?_
        case' f2 =>
          refine WPD.skip 12 rfl rfl rfl sT kR kR kR xQP ?_
          refine WPD.skip 13 rfl rfl rfl sT kR kR kR xQP ?_
          refine WPD.skip 17 rfl rfl rfl sT kR kR kR xQP ?_
          refine WPD.skip 18 rfl rfl rfl sT kR kR kR xQP ?_
          refine WPD.skip 14 rfl rfl rfl sT kR kR kR xQP ?_
          refine WPD.skip 19 rfl rfl rfl sT kR kR kR xQP ?_
          refine WPD.skip 15 rfl rfl rfl sT kR kR kR xQP ?_
          refine WPD.skip 20 rfl rfl rfl sT kR kR kR xQP ?_
          refine WPD.skip 16 rfl rfl rfl sT kR kR kR xQP ?_
          refine WPD.skip 21 rfl rfl rfl sT kR kR kR xQP ?_
          refine WPD.skip 22 rfl rfl rfl sT kR kR kR xQP ?_
          refine WPD.take 23 rfl (by first | exact (Op1.pickT rfl rfl) | exact (Op1.pickF rfl rfl)) rfl rfl sT kR kR kR xQP ?_
          refine WPD.done kR ?_
        all_goals (
          try refine go ⟨?_⟩
          refine PE.again (k + 1) ?_ ?_ sE sT2
          · (try dsimp only); omega
          · (try dsimp only); omega)
      · try refine go ⟨?_⟩
        refine PE.again (i + 1) ?_ ?_ sE sT2
        · (try dsimp only); omega
        · (try dsimp only); omega
    · try refine go ⟨?_⟩
      refine WP.condD rfl (fun hd => ?_) (fun hd => ?_)
      · have hki : k < i := by omega
        obtain ⟨hLk, hpk, hKk⟩ := livs_get (show k < (livs ops).length by omega)
        have hpp := hplt k hki
        generalize pAt ops k = q at *
        have hTk : ((livs ops).getD k ⟨0, 0, 0, 0⟩).T = ((toOf ops q : Nat) : Int) := by rw [hLk]; rfl
        try refine go ⟨?_⟩
        refine WP.draw [Tok.own va (livs ops), Tok.own vl ops] mixed ?_
        refine WPD.take 0 rfl (Op1.move rfl) rfl rfl sT kR kR kR xQP ?_
        refine WPD.take 1 rfl (Op1.move rfl) rfl rfl sT kR kR kR xQP ?_
        refine WPD.take 5 rfl (Op1.move rfl) rfl rfl sT kR kR kR xQP ?_
        refine WPD.take 6 rfl (Op1.move rfl) rfl rfl sT kR kR kR xQP ?_
        refine WPD.take 2 rfl (by first | exact (Op1.indexAddr rfl rfl rD lT) | exact (Op1.indexAddrZ rfl rfl rD lT)) rfl rfl sT kR kR kR xQP ?_
        refine WPD.take 7 rfl (by first | exact (Op1.indexAddr rfl rfl rD lT) | exact (Op1.indexAddrZ rfl rfl rD lT)) rfl rfl sT kR kR kR xQP ?_
        refine WPD.take 3 rfl (by first | exact (Op1.fieldAddr rfl) | exact (Op1.fieldAddrE rfl rD lT)) rfl rfl sT kR kR kR xQP ?_
        refine WPD.take 8 rfl (by first | exact (Op1.fieldAddr rfl) | exact (Op1.fieldAddrE rfl rD lT)) rfl rfl sT kR kR kR xQP ?_
        refine WPD.take 4 rfl (Op1.loadLE rfl rD lT) rfl rfl sT kR kR kR xQP ?_
        refine WPD.take 9 rfl (Op1.loadLE rfl rD lT) rfl rfl sT kR kR kR xQP ?_
        refine WPD.take 10 rfl (by first | exact (Op1.eqI rfl rfl) | exact (Op1.eqB rfl rfl) | exact (Op1.eqE rfl rfl) | exact (Op1.eqNil rfl rD)) rfl rfl sT kR kR kR xQP ?_
        refine WPD.take 11 rfl (Op1.move rfl) rfl rfl sT kR kR kR xQP ?_
        first | refine WPD.splitD 119 rfl (fun h119 => ?t3) (fun h119 => ?f3) | refine WPD.split 119 rfl (fun h119 => ?t3) (fun h119 => ?f3)
        case' t3 =>
          refine WPD.take 12 rfl (Op1.move rfl) rfl rfl sT kR kR kR xQP ?_
          refine WPD.take 13 rfl (Op1.move rfl) rfl rfl sT kR kR kR xQP ?_
          refine WPD.take 17 rfl (Op1.move rfl) rfl rfl sT kR kR kR xQP ?_
          refine WPD.take 18 rfl (Op1.move rfl) rfl rfl sT kR kR kR xQP ?_
          refine WPD.take 14 rfl (by first | exact (Op1.indexAddr rfl rfl rD lT) | exact (Op1.indexAddrZ rfl rfl rD lT)) rfl rfl sT kR kR kR xQP ?_
          refine WPD.take 19 rfl (by first | exact (Op1.indexAddr rfl rfl rD lT) | exact (Op1.indexAddrZ rfl rfl rD lT)) rfl rfl sT kR kR kR xQP ?_
          refine WPD.take 15 rfl (by first | exact (Op1.fieldAddr rfl) | exact (Op1.fieldAddrE rfl rD lT)) rfl rfl sT kR kR kR xQP ?_
          refine WPD.take 20 rfl (by first | exact (Op1.fieldAddr rfl) | exact (Op1.fieldAddrE rfl rD lT)) rfl rfl sT kR kR kR xQP ?_
          refine WPD.take 16 rfl (Op1.loadLT rfl rD lT) rfl rfl sT kR kR kR xQP ?_
          rw [hTk]
          refine WPD.take 21 rfl (Op1.loadLF rfl rD lT) rfl rfl sT kR kR kR xQP ?_
          rw [hF]
          refine WPD.take 22 rfl (Op1.geI rfl rfl) rfl rfl sT kR kR kR xQP ?_
          rw [decide_eq_false (show ¬ (((toOf ops q : Nat) : Int) ≥ (p : Int)) by have h := h119; rw [hLk, hL] at h; have := lives_apart hv hp hpp hKk hK h; omega)]
          refine WPD.take 23 rfl (by first | exact (Op1.pickT rfl rfl) | exact (Op1.pickF rfl rfl)) rfl rfl sT kR kR kR xQP ?_
          refine WPD.done kR ?_
        case' f3 =>
          refine WPD.skip 12 rfl rfl rfl sT kR kR kR xQP ?_
          refine WPD.skip 13 rfl rfl rfl sT kR kR kR xQP ?_
          refine WPD.skip 17 rfl rfl rfl sT kR kR kR xQP ?_
          refine WPD.skip 18 rfl rfl rfl sT kR kR kR xQP ?_
          refine WPD.skip 14 rfl rfl rfl sT kR kR kR xQP ?_
          refine WPD.skip 19 rfl rfl rfl sT kR kR kR xQP ?_
          refine WPD.skip 15 rfl rfl rfl sT kR kR kR xQP ?_
          refine WPD.skip 20 rfl rfl rfl sT kR kR kR xQP ?_
          refine WPD.skip 16 rfl rfl rfl sT kR kR kR xQP ?_
          refine WPD.skip 21 rfl rfl rfl sT kR kR kR xQP ?_
          refine WPD.skip 22 rfl rfl rfl sT kR kR kR xQP ?_
          refine WPD.take 23 rfl (by first | exact (Op1.pickT rfl rfl) | exact (Op1.pickF rfl rfl)) rfl rfl sT kR kR kR xQP ?_
          refine WPD.done kR ?_
        all_goals (
          try refine go ⟨?_⟩
          refine PE.again (k + 1) ?_ ?_ sE sT2
          · (try dsimp only); omega
          · (try dsimp only); omega)
      · try refine go ⟨?_⟩
        refine PE.again (i + 1) ?_ ?_ sE sT2
        · (try dsimp only); omega
        · (try dsimp only); omega
  · try refine go ⟨?_⟩
    refine PE.ret1 (T := []) (T' := []) rfl rV ?_ sT
    rfl
end Go.Proofs.Ytfigegmgopnfhaa
/- The law FnLivesOf: its walk. Conditions: those of the theorem. -/
namespace Go.Proofs.Ytfigegmgopnfhaa
open Go
/-- The lives so far that reach over the place k. -/
def cntL (ops : List Oper1) (k i : Nat) : Nat := (((puts ops ops.length).take i).filter fun j => decide (j < k ∧ k ≤ toOf ops j)).length
theorem cntL_zero (ops : List Oper1) (k : Nat) : cntL ops k 0 = 0 := rfl
theorem cntL_succ {ops : List Oper1} {k i : Nat} (hi : i < (livs ops).length) : cntL ops k (i + 1) = if pAt ops i < k ∧ k ≤ toOf ops (pAt ops i) then cntL ops k i + 1 else cntL ops k i := by
  have hi' : i < (puts ops ops.length).length := by rwa [livs_len] at hi
  unfold cntL
  rw [take_succD (d := 0) hi', List.filter_append, List.length_append]
  unfold pAt
  split
  · rename_i h
    rw [List.filter_cons, if_pos (decide_eq_true h)]; simp
  · rename_i h
    rw [List.filter_cons, if_neg (by simpa using h)]; simp
theorem cntL_all {n : Int} {ops : List Oper1} (h : OV n ops) {k : Nat} (hk : k ≤ ops.length) : cntL ops k (livs ops).length = (gAt n (ops.take k)).length := by
  rw [← alive_count h hk, alive_eq hk, livs_len]
  unfold cntL
  rw [List.take_length]
theorem cntL_le (ops : List Oper1) (k i : Nat) : cntL ops k i ≤ ops.length := by
  unfold cntL
  refine Nat.le_trans (List.length_filter_le _ _) ?_
  rw [List.length_take]
  have := puts_le ops ops.length
  omega
set_option linter.unusedVariables false set_option linter.unusedSimpArgs false attribute [local irreducible] Tok.own Tok.blk RL Rd eptr WP WPL PE WPD WPO Op1 OpE Tri Again Mid Exit.then Exit.inBlock bodyPost RP Code.wp wpList isOwn OneM One
attribute [local irreducible] OV livs livR pAt toOf gAt atOk cntL HE
set_option maxHeartbeats 8000000

theorem l_LivesOf (w : World) (v : Value) (bs : List UInt8) (h : RL w v bs) (hl : bs.length ≤ 9223372036854775807) :
    Tri Try.prog 9 [v] w [] fun r T => r = .bool true := by
  refine Tri.intro (hf := Try.func9) (hb := rfl) (hn := Try.ntmps9) (Nat.le_of_ble_eq_true rfl) ?_
  repeat' (first | exact absurd rfl hc | refine go ⟨?_⟩ | (refine isCond ?_; refine WP.condD rfl (fun hc => ?_) (fun hc => ?_)) | (refine isGuard ?_; refine WPL.splitD rfl rfl (fun hc => ?_) (fun hc => ?_)))
  · refine PE.ret1 (T := []) (T' := []) rfl rV ?_ sT
    rfl
  refine WPL.eff (OpE.call lO (fun w hw => g_D8LivesOf _ v bs (Rd.at rD hw) hl)) rfl rfl ?_
  rintro r _ ⟨T, ⟨vl, n, ops, rfl, rfl, hle⟩, rfl⟩
  have hal := livR_le n ops
  try refine go ⟨?_⟩
  refine WPL.eff (OpE.call lO (fun w hw => c_LivesOf _ n vl ops (Rd.at rD hw) (by omega))) rfl rfl ?_
  rintro _ _ ⟨T, ⟨va, rfl, rfl⟩, rfl⟩
  try refine go ⟨?_⟩
  refine WPL.eff (OpE.call lO (fun w hw => s_LivesOf _ n vl ops (Rd.at rD hw) (by omega))) rfl rfl ?_
  rintro _ _ ⟨T, ⟨vw, rfl, rfl⟩, rfl⟩
  try refine go ⟨?_⟩
  by_cases hv : OV n ops
  case neg =>
    rw [decide_eq_false hv]
    refine WPL.eff (OpE.call lO (fun w hw => y_Lives _ va vw (livR n ops) (livR n ops) (Rd.at rD hw) (Rd.at rD hw) (by omega) (by omega))) rfl rfl ?_
    rintro _ _ ⟨T, ⟨rfl, rfl⟩, rfl⟩
    rw [deq_LL]
    try refine go ⟨?_⟩
    refine WPL.eff (OpE.call lO (fun w hw => y_Lives _ va vw (livR n ops) (livR n ops) (Rd.at rD hw) (Rd.at rD hw) (by omega) (by omega))) rfl rfl ?_
    rintro _ _ ⟨T, ⟨rfl, rfl⟩, rfl⟩
    rw [deq_LL]
    try refine go ⟨?_⟩
    refine PE.ret1 (T := []) (T' := []) rfl rV ?_ sT
    rfl
  rw [decide_eq_true hv]
  refine WPL.eff (OpE.call lO (fun w hw => y_Lives _ va vw (livR n ops) (livR n ops) (Rd.at rD hw) (Rd.at rD hw) (by omega) (by omega))) rfl rfl ?_
  rintro _ _ ⟨T, ⟨rfl, rfl⟩, rfl⟩
  rw [deq_LL]
  rw [livR_of hv] at *
  try refine go ⟨?_⟩
  refine WP.loop (σ := Nat) (fun k => [(3, .int .i64 n), (4, vl), (5, va), (9, .int .i64 k)]) (fun _ => [Tok.own va (livs ops), Tok.own vl ops]) (fun k => k ≤ ops.length + 1) (fun k => ops.length + 1 - k) 0 (Nat.zero_le _) sE sT2 ?_
  rintro k hk
  try refine go ⟨?_⟩
  refine WP.condD rfl (fun hc => ?_) (fun hc => ?_)
  · have hk' : k ≤ ops.length := by omega
    have hat : atOk n ops k := by unfold atOk; exact ⟨hv, by omega, by omega⟩
    have eN : atN n ops k = n := if_pos hat
    have eG : atG n ops k = gAt n (ops.take k) := by unfold atG; rw [if_pos hat, Int.toNat_natCast]
    have hgv := hv.at k
    have hgl := hgv.2.2.1
    have hall := cntL_all hv hk'
    have hcl := cntL_le ops k
    try refine go ⟨?_⟩
    refine WPL.eff (OpE.call lO (fun w hw => c_GraphAt _ n vl ops k (Rd.at rD hw) (by omega))) rfl rfl ?_
    rintro _ _ ⟨T, ⟨vg, rfl, rfl⟩, rfl⟩
    rw [eN, eG, decide_eq_true hat]
    try refine go ⟨?_⟩
    refine WPL.eff OpE.alloc rfl rfl ?_; rintro _ _ ⟨b10, rfl, rfl⟩
    try refine go ⟨?_⟩
    refine WP.loop (σ := Nat) (fun i => [(3, .int .i64 n), (4, vl), (5, va), (9, .int .i64 k), (10, ptrV b10), (12, .int .i64 (cntL ops k i)), (13, .int .i64 i)]) (fun _ => [Tok.blk b10 [.int .i64 n, vg], Tok.own vg (gAt n (ops.take k)), Tok.own va (livs ops), Tok.own vl ops]) (fun i => i ≤ (livs ops).length) (fun i => (livs ops).length - i) 0 (Nat.zero_le _) ?_ sT2 ?_
    · rw [show cntL ops k 0 = 0 from cntL_zero ops k]; exact sE
    rintro i hi
    try refine go ⟨?_⟩
    refine WP.condD rfl (fun hd => ?_) (fun hd => ?_)
    · have hi' : i < (livs ops).length := by omega
      obtain ⟨hL, hp, hK⟩ := livs_get hi'
      have hcs := cntL_succ (k := k) hi'
      have hci := hcl i
      have hci1 := hcl (i + 1)
      generalize pAt ops i = p at *
      have hF : ((livs ops).getD i ⟨0, 0, 0, 0⟩).F = (p : Int) := by rw [hL]; rfl
      have hT : ((livs ops).getD i ⟨0, 0, 0, 0⟩).T = ((toOf ops p : Nat) : Int) := by rw [hL]; rfl
      try refine go ⟨?_⟩
      refine WPL.splitD rfl rfl (fun c1 => ?_) (fun c1 => ?_)
      · have c1 : ((livs ops).getD i ⟨0, 0, 0, 0⟩).F < (k : Int) := c1
        rw [hF] at c1
        try refine go ⟨?_⟩
        refine WP.condD rfl (fun c2 => ?_) (fun c2 => ?_)
        · have c2 : (k : Int) ≤ ((livs ops).getD i ⟨0, 0, 0, 0⟩).T := c2
          rw [hT] at c2
          rw [if_pos ⟨by omega, by omega⟩] at hcs
          have hE : HE n (gAt n (ops.take k)) ⟨((livs ops).getD i ⟨0, 0, 0, 0⟩).A, ((livs ops).getD i ⟨0, 0, 0, 0⟩).B⟩ := by
            unfold HE
            refine ⟨hgv, ?_⟩
            rw [hL]
            exact alive_mem hv hk' (by omega) hK (by omega)
          have hs : ((cntL ops k i : Nat) : Int) + 1 = ((cntL ops k (i + 1) : Nat) : Int) := by omega
          try refine go ⟨?_⟩
          rw [hs]
          refine WP.draw [Tok.blk b10 [.int .i64 n, vg], Tok.own vg (gAt n (ops.take k)), Tok.own va (livs ops), Tok.own vl ops] mixed ?_
          refine WPD.take 0 rfl (by first | exact (Op1.load rfl mM (by rfl)) | exact (Op1.loadI rfl rD lT) | exact (Op1.loadAll rfl mM (by rfl)) | exact (Op1.loadE rfl rD lT (by rfl)) | exact (Op1.loadEAgg rfl rD lT (by rfl))) rfl rfl sT kR kR kR xQP ?_
          refine WPD.take 1 rfl (Op1.move rfl) rfl rfl sT kR kR kR xQP ?_
          refine WPD.take 2 rfl (Op1.move rfl) rfl rfl sT kR kR kR xQP ?_
          refine WPD.take 3 rfl (by first | exact (Op1.indexAddr rfl rfl rD lT) | exact (Op1.indexAddrZ rfl rfl rD lT)) rfl rfl sT kR kR kR xQP ?_
          refine WPD.take 4 rfl (by first | exact (Op1.fieldAddr rfl) | exact (Op1.fieldAddrE rfl rD lT)) rfl rfl sT kR kR kR xQP ?_
          refine WPD.take 5 rfl (Op1.loadLE rfl rD lT) rfl rfl sT kR kR kR xQP ?_
          refine WPD.eff 6 kR rfl (OpE.call lO (fun w hw => c_HasEdge _ n vg (gAt n (ops.take k)) ⟨((livs ops).getD i ⟨0, 0, 0, 0⟩).A, ((livs ops).getD i ⟨0, 0, 0, 0⟩).B⟩ (Rd.at rD hw) (by omega))) rfl rfl ?_
          rintro r _ ⟨T, ⟨rfl, rfl⟩, rfl⟩
          rw [decide_eq_true hE]
          refine ⟨sT, ?_⟩
          refine WPD.take 7 rfl (Op1.not rfl) rfl rfl sT kR kR kR xQP ?_
          refine WPD.done kR ?_
          try refine go ⟨?_⟩
          refine PE.again (i + 1) ?_ ?_ sE sT2
          · (try dsimp only); omega
          · (try dsimp only); omega
        · have c2 : ¬ (k : Int) ≤ ((livs ops).getD i ⟨0, 0, 0, 0⟩).T := c2
          rw [hT] at c2
          rw [if_neg (by omega)] at hcs
          rw [← hcs]
          try refine go ⟨?_⟩
          refine PE.again (i + 1) ?_ ?_ sE sT2
          · (try dsimp only); omega
          · (try dsimp only); omega
      · have c1 : ¬ ((livs ops).getD i ⟨0, 0, 0, 0⟩).F < (k : Int) := c1
        rw [hF] at c1
        rw [if_neg (by omega)] at hcs
        rw [← hcs]
        try refine go ⟨?_⟩
        refine PE.again (i + 1) ?_ ?_ sE sT2
        · (try dsimp only); omega
        · (try dsimp only); omega
    · have hin : i = (livs ops).length := by omega
      subst hin
      rw [hall]
      try refine go ⟨?_⟩
      rw [decide_eq_false (show ¬ (((gAt n (ops.take k)).length : Int) ≠ ((gAt n (ops.take k)).length : Int)) from fun h => h rfl)]
      try refine go ⟨?_⟩
      refine PE.again (k + 1) ?_ ?_ sE sT2
      · (try dsimp only); omega
      · (try dsimp only); omega
  · try refine go ⟨?_⟩
    refine PE.ret1 (T := []) (T' := []) rfl rV ?_ sT
    rfl
end Go.Proofs.Ytfigegmgopnfhaa
/- The given statement FnLivesOfSaid, out of its walk (LLivesOf). Written by fin.py. No conditions. -/
namespace Go.Proofs.Ytfigegmgopnfhaa.ZfnLivesOf
open Go Go.ChangeShapes Go.WideShapes Go.ChangeAt Go.RowKit Go.Joins
theorem own : ownKnob Try.prog.godebug = none := by kernel_rfl
theorem laidOut : laidOutB Try.prog = true := by kernel_rfl
theorem cells5 : Try.prog.cellsOf 5 = 1 := by kernel_rfl
set_option maxRecDepth 100000 in
theorem lifted (os : Os) (started : os.Started) (H : Type) (enc : TypeId × Value → H) :
    ReturnsInHanded {} Try.checked os 9 .any (Rows.fnLivesOfSpec.pre6 enc Try.prog Try.f9 Rows.fnLivesOfRow.domain false) (Rows.fnLivesOfSpec.post enc Try.prog Try.f9 false true false false) := by
  refine returnsInHanded_of_change (C := Try.checked) own started (by kernel_rfl) Try.func9
    (ChangeSpec.witness6 (enc := enc) (C := Try.checked) false ⟨#[], #[.slice none 0 0], []⟩ 8 (by kernel_rfl) (by kernel_rfl) (by kernel_rfl) (by kernel_rfl)) ?_
  intro W base args ds gs before hval0 hW hcnd _
  have hval : ∀ (j : Nat) t v, Try.f9.params[j]? = some t → args[j]? = some v → Value.okWide Try.prog W .any base t v := hval0
  have hW' := hW
  obtain ⟨p, q, hA0, hV, rfl, hfz, hnd⟩ := hW
  have hA : DataW.TrodAll enc Try.prog W 0 (fun _ => true) true Try.f9.params.toList args.toList ds p := hA0
  rw [Try.params9] at hA hval
  obtain ⟨v0, vs0, d0, ds0, p0, q0, hargs, rfl, rfl, h0, r0⟩ := trodAll_cons hA
  obtain ⟨rfl, rfl, rfl⟩ := trodAll_nil r0
  obtain rfl : args = #[v0] := by cases args; simp_all
  obtain ⟨rfl, rfl⟩ := trodVars_none hV
  have k0 := h0
  have lt0 : ∀ x ∈ p0, x.block < W.heap.size := by obtain ⟨m, hm⟩ := k0; exact DataW.trod_lt m _ _ _ hm
  obtain ⟨xs0, rl0, ll0⟩ : ∃ xs : List UInt8, RL W v0 xs ∧ xs.length ≤ 9223372036854775807 := by
    have hv := hval 0 22 v0 rfl rfl
    simp only [Value.okWide, Try.underlying22] at hv
    obtain ⟨a, l, c, rfl⟩ := okWide_slice Try.underlying22 (hval 0 22 v0 rfl rfl)
    obtain ⟨m, hm⟩ := k0
    exact rl_bytes Try.underlying22 Try.underlying5 cells5 hv (by simpa [Value.cells] using hm)
  clear hA0 hval0
  refine (Tri.holds0 (v := .bool true) (l_LivesOf W v0 xs0 rl0 ll0) (fun _ _ h => h)).mono fun e W' ⟨he, bel⟩ => ?_
  subst he
  exact ⟨_, rfl, _, _, _, [], _, [], hW', trodAll_mk1 (shut_bool Try.underlying4 _), (trodAll_cons_mk (Below.trod laidOut (by kernel_rfl) (of_decide_eq_true (by kernel_rfl)) k0 bel lt0) trodAll_mk0), rfl, bel.frame _, fun h => by cases h⟩
theorem over : Rows.fnLivesOfRow.holds Try.pinned (OpenSpec.ofChange Rows.fnLivesOfSpec) :=
  OpenClaim.holds_of_wide 9 Try.f9 rfl rfl rfl rfl rfl rfl rfl ⟨rfl, rfl, rfl, rfl, rfl⟩ rfl rfl rfl rfl rfl (by kernel_rfl) Try.func9 (by unfold joinedFacts; rw [initMay, initLift, initMake]; kernel_rfl)
    (of_decide_eq_true (by kernel_rfl)) (by unfold Func.isWrapper; first | (rw [if_pos (by decide +kernel)]; kernel_rfl) | (rw [if_neg (by decide +kernel)]; exact ⟨rfl, rfl⟩))
    (fun os started H enc _ => lifted os started H enc)
/-- The statement. -/
theorem proved : Rows.FnLivesOfSaid := over
end Go.Proofs.Ytfigegmgopnfhaa.ZfnLivesOf
