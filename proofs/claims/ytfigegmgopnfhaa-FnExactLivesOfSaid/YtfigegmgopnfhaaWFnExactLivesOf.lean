/- The given statement FnExactLivesOfSaid, out of its walk (LExactLivesOf). Written by fin.py. No conditions. -/
import Derived.Test.YtfigegmgopnfhaaInit
import Derived.Test.YtfigegmgopnfhaaV1
import Derived.Test.YtfigegmgopnfhaaV2
import Derived.Test.YtfigegmgopnfhaaV4
import Derived.Test.YtfigegmgopnfhaaV8
import Derived.Test.YtfigegmgopnfhaaV9
import Derived.Test.YtfigegmgopnfhaaV10
import Derived.Test.YtfigegmgopnfhaaV11
set_option linter.unusedVariables false
set_option linter.unusedSimpArgs false
/- The law FnOpsValid: its walk. Conditions: those of the theorem. -/
namespace Go.Proofs.Ytfigegmgopnfhaa
open Go
theorem bselfV (d : Bool) : (d != d) = false := by cases d <;> rfl
theorem deq_Bool (d : Bool) : decide (d = d) = true := decide_eq_true rfl
theorem beq_Bool (d : Bool) : (d == d) = true := by cases d <;> rfl
theorem runA_take {n : Int} {ops : List Oper1} (h : OV n ops) {k : Nat} (hk : k ≤ ops.length) : (runA n (ops.take k)).length ≤ (runA n ops).length ∧ runA n (ops.take k) = (runA n ops).take (runA n (ops.take k)).length := by
  have e1 : runA n (ops.take k) = ans n ops k := by
    unfold runA
    rw [if_pos (h.take k), List.length_take, Nat.min_eq_left hk, ans_take n ops k k (Nat.le_refl _) hk]
  have e2 : runA n ops = ans n ops ops.length := if_pos h
  have hp := ans_prefix n ops k ops.length hk
  rw [e1, e2]
  exact ⟨hp.length_le, List.prefix_iff_eq_take.1 hp⟩
set_option linter.unusedVariables false set_option linter.unusedSimpArgs false attribute [local irreducible] Tok.own Tok.blk RL Rd eptr WP WPL PE WPD WPO Op1 OpE Tri Again Mid Exit.then Exit.inBlock bodyPost RP Code.wp wpList isOwn OneM One
attribute [local irreducible] OV runA
set_option maxHeartbeats 8000000

theorem l_OpsValid (w : World) (v : Value) (bs : List UInt8) (h : RL w v bs) (hl : bs.length ≤ 9223372036854775807) :
    Tri Try.prog 5 [v] w [] fun r T => r = .bool true := by
  refine Tri.intro (hf := Try.func5) (hb := rfl) (hn := Try.ntmps5) (Nat.le_of_ble_eq_true rfl) ?_
  repeat' (first | exact absurd rfl hc | refine go ⟨?_⟩ | (refine isCond ?_; refine WP.condD rfl (fun hc => ?_) (fun hc => ?_)) | (refine isGuard ?_; refine WPL.splitD rfl rfl (fun hc => ?_) (fun hc => ?_)))
  · refine PE.ret1 (T := []) (T' := []) rfl rV ?_ sT
    rfl
  refine WPL.eff (OpE.call lO (fun w hw => g_D8OpsValid _ v bs (Rd.at rD hw) hl)) rfl rfl ?_
  rintro r _ ⟨T, ⟨vl, n, ops, rfl, rfl, hle⟩, rfl⟩
  have hal := runA_le n ops
  try refine go ⟨?_⟩
  refine WPL.eff (OpE.call lO (fun w hw => c_OpsValid _ n vl ops (Rd.at rD hw) (by omega))) rfl rfl ?_
  rintro _ _ ⟨T, ⟨rfl, rfl⟩, rfl⟩
  try refine go ⟨?_⟩
  refine WPL.eff (OpE.call lO (fun w hw => s_OpsValid _ n vl ops (Rd.at rD hw) (by omega))) rfl rfl ?_
  rintro _ _ ⟨T, ⟨rfl, rfl⟩, rfl⟩
  try refine go ⟨?_⟩
  rw [bselfV]
  try refine go ⟨?_⟩
  refine WP.condD rfl (fun hv => ?_) (fun hv => ?_)
  · try refine go ⟨?_⟩
    refine WPL.eff (OpE.call lO (fun w hw => s_OpsValid _ n vl ops (Rd.at rD hw) (by omega))) rfl rfl ?_
    rintro _ _ ⟨T, ⟨rfl, rfl⟩, rfl⟩
    try refine go ⟨?_⟩
    refine PE.ret1 (T := []) (T' := []) rfl rV ?_ sT
    rw [decide_eq_false hv]; rfl
  have hv : OV n ops := Decidable.not_not.1 hv
  try refine go ⟨?_⟩
  refine WPL.eff (OpE.call lO (fun w hw => c_AnswersOf _ n vl ops (Rd.at rD hw) (by omega))) rfl rfl ?_
  rintro _ _ ⟨T, ⟨va, rfl, rfl⟩, rfl⟩
  try refine go ⟨?_⟩
  refine WP.loop (σ := Nat) (fun k => [(3, .int .i64 n), (4, vl), (6, va), (8, .int .i64 k)]) (fun _ => [Tok.own va (runA n ops), Tok.own vl ops]) (fun k => k ≤ ops.length + 1) (fun k => ops.length + 1 - k) 0 (Nat.zero_le _) sE sT2 ?_
  rintro k hk
  try refine go ⟨?_⟩
  refine WP.condD rfl (fun hc => ?_) (fun hc => ?_)
  · have hk' : (k : Int).toNat ≤ ops.length := by omega
    have hvt := hv.take (k : Int).toNat
    obtain ⟨hB1, hB2⟩ := runA_take hv hk'
    have hbl := runA_le n (ops.take (k : Int).toNat)
    have htl : (ops.take (k : Int).toNat).length ≤ 1099511627776 := by rw [List.length_take]; omega
    try refine go ⟨?_⟩
    refine WPL.eff (OpE.call lO (fun w hw => c_AnswersOf _ n (slcV vl (k : Int).toNat) (ops.take (k : Int).toNat) (RL.take (Rd.at rD hw) hk') htl)) rfl rfl ?_
    rintro _ _ ⟨T, ⟨vb, rfl, rfl⟩, rfl⟩
    rw [decide_eq_true hvt]
    try refine go ⟨?_⟩
    refine WPL.eff (OpE.call lO (fun w hw => c_OpsValid _ n (slcV vl (k : Int).toNat) (ops.take (k : Int).toNat) (RL.take (Rd.at rD hw) hk') htl)) rfl rfl ?_
    rintro _ _ ⟨T, ⟨rfl, rfl⟩, rfl⟩
    rw [decide_eq_true hvt]
    try refine go ⟨?_⟩
    rw [decide_eq_false (show ¬ ((runA n (ops.take (k : Int).toNat)).length : Int) > ((runA n ops).length : Int) by omega)]
    have hb' : ((runA n (ops.take (k : Int).toNat)).length : Int).toNat ≤ (runA n ops).length := by omega
    have hq : runA n (ops.take (k : Int).toNat) = (runA n ops).take ((runA n (ops.take (k : Int).toNat)).length : Int).toNat := by rw [Int.toNat_natCast]; exact hB2
    generalize runA n (ops.take (k : Int).toNat) = B at *
    try refine go ⟨?_⟩
    refine WPL.eff (OpE.call lO (fun w hw => y_Bools _ vb (slcV va (B.length : Int).toNat) B ((runA n ops).take (B.length : Int).toNat) (Rd.at rD hw) (RL.take (Rd.at rD hw) hb') (by omega) (by rw [List.length_take]; omega))) rfl rfl ?_
    rintro _ _ ⟨T, ⟨rfl, rfl⟩, rfl⟩
    rw [decide_eq_true hq]
    try refine go ⟨?_⟩
    refine PE.again (k + 1) ?_ ?_ sE sT2
    · (try dsimp only); omega
    · (try dsimp only); omega
  · try refine go ⟨?_⟩
    refine PE.ret1 (T := []) (T' := []) rfl rV ?_ sT
    rfl
end Go.Proofs.Ytfigegmgopnfhaa
/- The law FnLivesEnd: its walk. Conditions: those of the theorem. -/
namespace Go.Proofs.Ytfigegmgopnfhaa
open Go
theorem deq_LL (l : List Lif) : decide (l = l) = true := decide_eq_true rfl
/-- The operation of a life. -/
def pAt (ops : List Oper1) (i : Nat) : Nat := (puts ops ops.length).getD i 0
theorem livs_len (ops : List Oper1) : (livs ops).length = (puts ops ops.length).length := by unfold livs; rw [List.length_map]
theorem livs_get {ops : List Oper1} {i : Nat} (hi : i < (livs ops).length) : (livs ops).getD i ⟨0, 0, 0, 0⟩ = lifeAt ops (pAt ops i) ∧ pAt ops i < ops.length ∧ (ops.getD (pAt ops i) oD).K = 1 := by
  have hi' : i < (puts ops ops.length).length := by rwa [livs_len] at hi
  have e : pAt ops i = (puts ops ops.length)[i] := by
    unfold pAt; rw [List.getD_eq_getElem?_getD, List.getElem?_eq_getElem hi']; rfl
  have hm : pAt ops i ∈ puts ops ops.length := by rw [e]; exact List.getElem_mem _
  obtain ⟨h1, h2⟩ := mem_puts.1 hm
  refine ⟨?_, h1, h2⟩
  unfold livs
  rw [List.getD_eq_getElem?_getD, List.getElem?_map, List.getElem?_eq_getElem hi', e]; rfl
theorem pAt_lt {ops : List Oper1} {k i : Nat} (hk : k < i) (hi : i < (livs ops).length) : pAt ops k < pAt ops i := by
  have hi' : i < (puts ops ops.length).length := by rwa [livs_len] at hi
  have hs : (puts ops ops.length).Pairwise (· < ·) := by
    unfold puts
    exact List.Pairwise.filter _ List.pairwise_lt_range
  have := List.pairwise_iff_getElem.1 hs k i (by omega) hi' hk
  unfold pAt
  rw [List.getD_eq_getElem?_getD, List.getElem?_eq_getElem (by omega), List.getD_eq_getElem?_getD, List.getElem?_eq_getElem hi']
  exact this
theorem livR_of {n : Int} {ops : List Oper1} (h : OV n ops) : livR n ops = livs ops := if_pos h
theorem pAt_cut {ops : List Oper1} {p : Nat} (hp : p < ops.length) (h : toOf ops p < ops.length) : (ops.getD (toOf ops p) oD).K = 2 := (cutsB_iff.1 ((toOf_spec hp).2.2.2 h)).1
set_option linter.unusedVariables false set_option linter.unusedSimpArgs false attribute [local irreducible] Tok.own Tok.blk RL Rd eptr WP WPL PE WPD WPO Op1 OpE Tri Again Mid Exit.then Exit.inBlock bodyPost RP Code.wp wpList isOwn OneM One
attribute [local irreducible] OV livs livR pAt toOf
set_option maxHeartbeats 8000000

theorem l_LivesEnd (w : World) (v : Value) (bs : List UInt8) (h : RL w v bs) (hl : bs.length ≤ 9223372036854775807) :
    Tri Try.prog 8 [v] w [] fun r T => r = .bool true := by
  refine Tri.intro (hf := Try.func8) (hb := rfl) (hn := Try.ntmps8) (Nat.le_of_ble_eq_true rfl) ?_
  repeat' (first | exact absurd rfl hc | refine go ⟨?_⟩ | (refine isCond ?_; refine WP.condD rfl (fun hc => ?_) (fun hc => ?_)) | (refine isGuard ?_; refine WPL.splitD rfl rfl (fun hc => ?_) (fun hc => ?_)))
  · refine PE.ret1 (T := []) (T' := []) rfl rV ?_ sT
    rfl
  refine WPL.eff (OpE.call lO (fun w hw => g_D8LivesOf _ v bs (Rd.at rD hw) hl)) rfl rfl ?_
  rintro r _ ⟨T, ⟨vl, n, ops, rfl, rfl, hle⟩, rfl⟩
  have hal := livR_le n ops
  try refine go ⟨?_⟩
  refine WPL.eff (OpE.call lO (fun w hw => c_LivesOf _ n vl ops (Rd.at rD hw) (by omega))) rfl rfl ?_
  rintro _ _ ⟨T, ⟨va, rfl, rfl⟩, rfl⟩
  try refine go ⟨?_⟩
  refine WPL.eff (OpE.call lO (fun w hw => s_LivesOf _ n vl ops (Rd.at rD hw) (by omega))) rfl rfl ?_
  rintro _ _ ⟨T, ⟨vw, rfl, rfl⟩, rfl⟩
  try refine go ⟨?_⟩
  by_cases hv : OV n ops
  case neg =>
    rw [decide_eq_false hv]
    refine WPL.eff (OpE.call lO (fun w hw => y_Lives _ va vw (livR n ops) (livR n ops) (Rd.at rD hw) (Rd.at rD hw) (by omega) (by omega))) rfl rfl ?_
    rintro _ _ ⟨T, ⟨rfl, rfl⟩, rfl⟩
    rw [deq_LL]
    try refine go ⟨?_⟩
    refine WPL.eff (OpE.call lO (fun w hw => y_Lives _ va vw (livR n ops) (livR n ops) (Rd.at rD hw) (Rd.at rD hw) (by omega) (by omega))) rfl rfl ?_
    rintro _ _ ⟨T, ⟨rfl, rfl⟩, rfl⟩
    rw [deq_LL]
    try refine go ⟨?_⟩
    refine PE.ret1 (T := []) (T' := []) rfl rV ?_ sT
    rfl
  rw [decide_eq_true hv]
  refine WPL.eff (OpE.call lO (fun w hw => y_Lives _ va vw (livR n ops) (livR n ops) (Rd.at rD hw) (Rd.at rD hw) (by omega) (by omega))) rfl rfl ?_
  rintro _ _ ⟨T, ⟨rfl, rfl⟩, rfl⟩
  rw [deq_LL]
  rw [livR_of hv] at *
  try refine go ⟨?_⟩
  refine WP.loop (σ := Nat) (fun i => [(3, .int .i64 n), (4, vl), (5, va), (9, .int .i64 i)]) (fun _ => [Tok.own va (livs ops), Tok.own vl ops]) (fun i => i ≤ (livs ops).length) (fun i => (livs ops).length - i) 0 (Nat.zero_le _) sE sT2 ?_
  rintro i hi
  try refine go ⟨?_⟩
  refine WP.condD rfl (fun hc => ?_) (fun hc => ?_)
  · have hi' : i < (livs ops).length := by omega
    obtain ⟨hL, hp, hK⟩ := livs_get hi'
    have hplt := fun k (hk : k < i) => pAt_lt hk hi'
    generalize pAt ops i = p at *
    have hF : ((livs ops).getD i ⟨0, 0, 0, 0⟩).F = (p : Int) := by rw [hL]; rfl
    have hT : ((livs ops).getD i ⟨0, 0, 0, 0⟩).T = ((toOf ops p : Nat) : Int) := by rw [hL]; rfl
    have hFT := (toOf_spec hp).1
    have hcut := pAt_cut hp
    try refine go ⟨?_⟩
    refine WP.draw [Tok.own va (livs ops), Tok.own vl ops] mixed ?_
    refine WPD.take 0 rfl (Op1.move rfl) rfl rfl sT kR kR kR xQP ?_
    refine WPD.take 1 rfl (Op1.move rfl) rfl rfl sT kR kR kR xQP ?_
    refine WPD.take 5 rfl (Op1.move rfl) rfl rfl sT kR kR kR xQP ?_
    refine WPD.take 6 rfl (Op1.move rfl) rfl rfl sT kR kR kR xQP ?_
    refine WPD.take 2 rfl (by first | exact (Op1.indexAddr rfl rfl rD lT) | exact (Op1.indexAddrZ rfl rfl rD lT)) rfl rfl sT kR kR kR xQP ?_
    refine WPD.take 7 rfl (by first | exact (Op1.indexAddr rfl rfl rD lT) | exact (Op1.indexAddrZ rfl rfl rD lT)) rfl rfl sT kR kR kR xQP ?_
    refine WPD.take 3 rfl (by first | exact (Op1.fieldAddr rfl) | exact (Op1.fieldAddrE rfl rD lT)) rfl rfl sT kR kR kR xQP ?_
    refine WPD.take 8 rfl (by first | exact (Op1.fieldAddr rfl) | exact (Op1.fieldAddrE rfl rD lT)) rfl rfl sT kR kR kR xQP ?_
    refine WPD.take 4 rfl (Op1.loadLT rfl rD lT) rfl rfl sT kR kR kR xQP ?_
    rw [hT]
    refine WPD.take 9 rfl (Op1.loadLF rfl rD lT) rfl rfl sT kR kR kR xQP ?_
    rw [hF]
    refine WPD.take 10 rfl (Op1.leI rfl rfl) rfl rfl sT kR kR kR xQP ?_
    rw [decide_eq_false (show ¬ (((toOf ops p : Nat) : Int) ≤ (p : Int)) by omega)]
    refine WPD.take 11 rfl (Op1.move rfl) rfl rfl sT kR kR kR xQP ?_
    refine WPD.take 12 rfl (Op1.move rfl) rfl rfl sT kR kR kR xQP ?_
    refine WPD.take 13 rfl (Op1.move rfl) rfl rfl sT kR kR kR xQP ?_
    refine WPD.take 14 rfl (Op1.move rfl) rfl rfl sT kR kR kR xQP ?_
    refine WPD.take 15 rfl (by first | exact (Op1.indexAddr rfl rfl rD lT) | exact (Op1.indexAddrZ rfl rfl rD lT)) rfl rfl sT kR kR kR xQP ?_
    refine WPD.take 16 rfl (by first | exact (Op1.fieldAddr rfl) | exact (Op1.fieldAddrE rfl rD lT)) rfl rfl sT kR kR kR xQP ?_
    refine WPD.take 17 rfl (Op1.loadLF rfl rD lT) rfl rfl sT kR kR kR xQP ?_
    rw [hF]
    refine WPD.take 18 rfl (by first | exact (Op1.indexAddr rfl rfl rD lT) | exact (Op1.indexAddrZ rfl rfl rD lT)) rfl rfl sT kR kR kR xQP ?_
    refine WPD.take 19 rfl (by first | exact (Op1.fieldAddr rfl) | exact (Op1.fieldAddrE rfl rD lT)) rfl rfl sT kR kR kR xQP ?_
    refine WPD.take 20 rfl (Op1.loadOK rfl rD lT) rfl rfl sT kR kR kR xQP ?_
    refine WPD.take 21 rfl (Op1.neI rfl rfl) rfl rfl sT kR kR kR xQP ?_
    rw [decide_eq_false (show ¬ ((ops.getD p ⟨0, 0, 0⟩).K ≠ 1) from fun h => h hK)]
    refine WPD.take 22 rfl (by first | exact (Op1.pickT rfl rfl) | exact (Op1.pickF rfl rfl)) rfl rfl sT kR kR kR xQP ?_
    refine WPD.take 23 rfl (Op1.move rfl) rfl rfl sT kR kR kR xQP ?_
    refine WPD.take 24 rfl (Op1.move rfl) rfl rfl sT kR kR kR xQP ?_
    refine WPD.take 25 rfl (Op1.move rfl) rfl rfl sT kR kR kR xQP ?_
    refine WPD.take 29 rfl (Op1.move rfl) rfl rfl sT kR kR kR xQP ?_
    refine WPD.take 26 rfl (by first | exact (Op1.indexAddr rfl rfl rD lT) | exact (Op1.indexAddrZ rfl rfl rD lT)) rfl rfl sT kR kR kR xQP ?_
    refine WPD.take 30 rfl (Op1.len rfl rD) rfl rfl sT kR kR kR xQP ?_
    refine WPD.take 27 rfl (by first | exact (Op1.fieldAddr rfl) | exact (Op1.fieldAddrE rfl rD lT)) rfl rfl sT kR kR kR xQP ?_
    refine WPD.take 28 rfl (Op1.loadLT rfl rD lT) rfl rfl sT kR kR kR xQP ?_
    rw [hT]
    refine WPD.take 31 rfl (Op1.ltI rfl rfl) rfl rfl sT kR kR kR xQP ?_
    refine WPD.take 32 rfl (Op1.move rfl) rfl rfl sT kR kR kR xQP ?_
    first | refine WPD.splitD 90 rfl (fun h90 => ?t1) (fun h90 => ?f1) | refine WPD.split 90 rfl (fun h90 => ?t1) (fun h90 => ?f1)
    case' t1 =>
      refine WPD.take 33 rfl (Op1.move rfl) rfl rfl sT kR kR kR xQP ?_
      refine WPD.take 34 rfl (Op1.move rfl) rfl rfl sT kR kR kR xQP ?_
      refine WPD.take 35 rfl (Op1.move rfl) rfl rfl sT kR kR kR xQP ?_
      refine WPD.take 36 rfl (by first | exact (Op1.indexAddr rfl rfl rD lT) | exact (Op1.indexAddrZ rfl rfl rD lT)) rfl rfl sT kR kR kR xQP ?_
      refine WPD.take 37 rfl (by first | exact (Op1.fieldAddr rfl) | exact (Op1.fieldAddrE rfl rD lT)) rfl rfl sT kR kR kR xQP ?_
      refine WPD.take 38 rfl (Op1.loadLT rfl rD lT) rfl rfl sT kR kR kR xQP ?_
      rw [hT]
      refine WPD.take 39 rfl (by first | exact (Op1.indexAddr rfl rfl rD lT) | exact (Op1.indexAddrZ rfl rfl rD lT)) rfl rfl sT kR kR kR xQP ?_
      refine WPD.take 40 rfl (by first | exact (Op1.fieldAddr rfl) | exact (Op1.fieldAddrE rfl rD lT)) rfl rfl sT kR kR kR xQP ?_
      refine WPD.take 41 rfl (Op1.loadOK rfl rD lT) rfl rfl sT kR kR kR xQP ?_
      refine WPD.take 42 rfl (Op1.neI rfl rfl) rfl rfl sT kR kR kR xQP ?_
      rw [decide_eq_false (show ¬ ((ops.getD (toOf ops p) ⟨0, 0, 0⟩).K ≠ 2) from fun h => h (hcut (by omega)))]
      refine WPD.take 43 rfl (by first | exact (Op1.pickT rfl rfl) | exact (Op1.pickF rfl rfl)) rfl rfl sT kR kR kR xQP ?_
      refine WPD.take 44 rfl (by first | exact (Op1.pickT rfl rfl) | exact (Op1.pickF rfl rfl)) rfl rfl sT kR kR kR xQP ?_
      refine WPD.done kR ?_
    case' f1 =>
      refine WPD.skip 33 rfl rfl rfl sT kR kR kR xQP ?_
      refine WPD.skip 34 rfl rfl rfl sT kR kR kR xQP ?_
      refine WPD.skip 35 rfl rfl rfl sT kR kR kR xQP ?_
      refine WPD.skip 36 rfl rfl rfl sT kR kR kR xQP ?_
      refine WPD.skip 37 rfl rfl rfl sT kR kR kR xQP ?_
      refine WPD.skip 38 rfl rfl rfl sT kR kR kR xQP ?_
      refine WPD.skip 39 rfl rfl rfl sT kR kR kR xQP ?_
      refine WPD.skip 40 rfl rfl rfl sT kR kR kR xQP ?_
      refine WPD.skip 41 rfl rfl rfl sT kR kR kR xQP ?_
      refine WPD.skip 42 rfl rfl rfl sT kR kR kR xQP ?_
      refine WPD.take 43 rfl (by first | exact (Op1.pickT rfl rfl) | exact (Op1.pickF rfl rfl)) rfl rfl sT kR kR kR xQP ?_
      refine WPD.take 44 rfl (by first | exact (Op1.pickT rfl rfl) | exact (Op1.pickF rfl rfl)) rfl rfl sT kR kR kR xQP ?_
      refine WPD.done kR ?_
    all_goals (
      try refine go ⟨?_⟩
      refine WP.loop (σ := Nat) (fun k => [(3, .int .i64 n), (4, vl), (5, va), (9, .int .i64 i), (10, .int .i64 k)]) (fun _ => [Tok.own va (livs ops), Tok.own vl ops]) (fun k => k ≤ i) (fun k => i - k) 0 (Nat.zero_le _) sE sT2 ?_
      rintro k hk)
    · try refine go ⟨?_⟩
      refine WP.condD rfl (fun hd => ?_) (fun hd => ?_)
      · have hki : k < i := by omega
        obtain ⟨hLk, hpk, hKk⟩ := livs_get (show k < (livs ops).length by omega)
        have hpp := hplt k hki
        generalize pAt ops k = q at *
        have hTk : ((livs ops).getD k ⟨0, 0, 0, 0⟩).T = ((toOf ops q : Nat) : Int) := by rw [hLk]; rfl
        try refine go ⟨?_⟩
        refine WP.draw [Tok.own va (livs ops), Tok.own vl ops] mixed ?_
        refine WPD.take 0 rfl (Op1.move rfl) rfl rfl sT kR kR kR xQP ?_
        refine WPD.take 1 rfl (Op1.move rfl) rfl rfl sT kR kR kR xQP ?_
        refine WPD.take 5 rfl (Op1.move rfl) rfl rfl sT kR kR kR xQP ?_
        refine WPD.take 6 rfl (Op1.move rfl) rfl rfl sT kR kR kR xQP ?_
        refine WPD.take 2 rfl (by first | exact (Op1.indexAddr rfl rfl rD lT) | exact (Op1.indexAddrZ rfl rfl rD lT)) rfl rfl sT kR kR kR xQP ?_
        refine WPD.take 7 rfl (by first | exact (Op1.indexAddr rfl rfl rD lT) | exact (Op1.indexAddrZ rfl rfl rD lT)) rfl rfl sT kR kR kR xQP ?_
        refine WPD.take 3 rfl (by first | exact (Op1.fieldAddr rfl) | exact (Op1.fieldAddrE rfl rD lT)) rfl rfl sT kR kR kR xQP ?_
        refine WPD.take 8 rfl (by first | exact (Op1.fieldAddr rfl) | exact (Op1.fieldAddrE rfl rD lT)) rfl rfl sT kR kR kR xQP ?_
        refine WPD.take 4 rfl (Op1.loadLE rfl rD lT) rfl rfl sT kR kR kR xQP ?_
        refine WPD.take 9 rfl (Op1.loadLE rfl rD lT) rfl rfl sT kR kR kR xQP ?_
        refine WPD.take 10 rfl (by first | exact (Op1.eqI rfl rfl) | exact (Op1.eqB rfl rfl) | exact (Op1.eqE rfl rfl) | exact (Op1.eqNil rfl rD)) rfl rfl sT kR kR kR xQP ?_
        refine WPD.take 11 rfl (Op1.move rfl) rfl rfl sT kR kR kR xQP ?_
        first | refine WPD.splitD 119 rfl (fun h119 => ?t2) (fun h119 => ?f2) | refine WPD.split 119 rfl (fun h119 => ?t2) (fun h119 => ?f2)
        case' t2 =>
          refine WPD.take 12 rfl (Op1.move rfl) rfl rfl sT kR kR kR xQP ?_
          refine WPD.take 13 rfl (Op1.move rfl) rfl rfl sT kR kR kR xQP ?_
          refine WPD.take 17 rfl (Op1.move rfl) rfl rfl sT kR kR kR xQP ?_
          refine WPD.take 18 rfl (Op1.move rfl) rfl rfl sT kR kR kR xQP ?_
          refine WPD.take 14 rfl (by first | exact (Op1.indexAddr rfl rfl rD lT) | exact (Op1.indexAddrZ rfl rfl rD lT)) rfl rfl sT kR kR kR xQP ?_
          refine WPD.take 19 rfl (by first | exact (Op1.indexAddr rfl rfl rD lT) | exact (Op1.indexAddrZ rfl rfl rD lT)) rfl rfl sT kR kR kR xQP ?_
          refine WPD.take 15 rfl (by first | exact (Op1.fieldAddr rfl) | exact (Op1.fieldAddrE rfl rD lT)) rfl rfl sT kR kR kR xQP ?_
          refine WPD.take 20 rfl (by first | exact (Op1.fieldAddr rfl) | exact (Op1.fieldAddrE rfl rD lT)) rfl rfl sT kR kR kR xQP ?_
          refine WPD.take 16 rfl (Op1.loadLT rfl rD lT) rfl rfl sT kR kR kR xQP ?_
          rw [hTk]
          refine WPD.take 21 rfl (Op1.loadLF rfl rD lT) rfl rfl sT kR kR kR xQP ?_
          rw [hF]
          refine WPD.take 22 rfl (Op1.geI rfl rfl) rfl rfl sT kR kR kR xQP ?_
          rw [decide_eq_false (show ¬ (((toOf ops q : Nat) : Int) ≥ (p : Int)) by have h := h119; rw [hLk, hL] at h; have := lives_apart hv hp hpp hKk hK h; omega)]
          refine WPD.take 23 rfl (by first | exact (Op1.pickT rfl rfl) | exact (Op1.pickF rfl rfl)) rfl rfl sT kR kR kR xQP ?_
          refine WPD.done kR ?_
        case' f2 =>
          refine WPD.skip 12 rfl rfl rfl sT kR kR kR xQP ?_
          refine WPD.skip 13 rfl rfl rfl sT kR kR kR xQP ?_
          refine WPD.skip 17 rfl rfl rfl sT kR kR kR xQP ?_
          refine WPD.skip 18 rfl rfl rfl sT kR kR kR xQP ?_
          refine WPD.skip 14 rfl rfl rfl sT kR kR kR xQP ?_
          refine WPD.skip 19 rfl rfl rfl sT kR kR kR xQP ?_
          refine WPD.skip 15 rfl rfl rfl sT kR kR kR xQP ?_
          refine WPD.skip 20 rfl rfl rfl sT kR kR kR xQP ?_
          refine WPD.skip 16 rfl rfl rfl sT kR kR kR xQP ?_
          refine WPD.skip 21 rfl rfl rfl sT kR kR kR xQP ?_
          refine WPD.skip 22 rfl rfl rfl sT kR kR kR xQP ?_
          refine WPD.take 23 rfl (by first | exact (Op1.pickT rfl rfl) | exact (Op1.pickF rfl rfl)) rfl rfl sT kR kR kR xQP ?_
          refine WPD.done kR ?_
        all_goals (
          try refine go ⟨?_⟩
          refine PE.again (k + 1) ?_ ?_ sE sT2
          · (try dsimp only); omega
          · (try dsimp only); omega)
      · try refine go ⟨?_⟩
        refine PE.again (i + 1) ?_ ?_ sE sT2
        · (try dsimp only); omega
        · (try dsimp only); omega
    · try refine go ⟨?_⟩
      refine WP.condD rfl (fun hd => ?_) (fun hd => ?_)
      · have hki : k < i := by omega
        obtain ⟨hLk, hpk, hKk⟩ := livs_get (show k < (livs ops).length by omega)
        have hpp := hplt k hki
        generalize pAt ops k = q at *
        have hTk : ((livs ops).getD k ⟨0, 0, 0, 0⟩).T = ((toOf ops q : Nat) : Int) := by rw [hLk]; rfl
        try refine go ⟨?_⟩
        refine WP.draw [Tok.own va (livs ops), Tok.own vl ops] mixed ?_
        refine WPD.take 0 rfl (Op1.move rfl) rfl rfl sT kR kR kR xQP ?_
        refine WPD.take 1 rfl (Op1.move rfl) rfl rfl sT kR kR kR xQP ?_
        refine WPD.take 5 rfl (Op1.move rfl) rfl rfl sT kR kR kR xQP ?_
        refine WPD.take 6 rfl (Op1.move rfl) rfl rfl sT kR kR kR xQP ?_
        refine WPD.take 2 rfl (by first | exact (Op1.indexAddr rfl rfl rD lT) | exact (Op1.indexAddrZ rfl rfl rD lT)) rfl rfl sT kR kR kR xQP ?_
        refine WPD.take 7 rfl (by first | exact (Op1.indexAddr rfl rfl rD lT) | exact (Op1.indexAddrZ rfl rfl rD lT)) rfl rfl sT kR kR kR xQP ?_
        refine WPD.take 3 rfl (by first | exact (Op1.fieldAddr rfl) | exact (Op1.fieldAddrE rfl rD lT)) rfl rfl sT kR kR kR xQP ?_
        refine WPD.take 8 rfl (by first | exact (Op1.fieldAddr rfl) | exact (Op1.fieldAddrE rfl rD lT)) rfl rfl sT kR kR kR xQP ?_
        refine WPD.take 4 rfl (Op1.loadLE rfl rD lT) rfl rfl sT kR kR kR xQP ?_
        refine WPD.take 9 rfl (Op1.loadLE rfl rD lT) rfl rfl sT kR kR kR xQP ?_
        refine WPD.take 10 rfl (by first | exact (Op1.eqI rfl rfl) | exact (Op1.eqB rfl rfl) | exact (Op1.eqE rfl rfl) | exact (Op1.eqNil rfl rD)) rfl rfl sT kR kR kR xQP ?_
        refine WPD.take 11 rfl (Op1.move rfl) rfl rfl sT kR kR kR xQP ?_
        first | refine WPD.splitD 119 rfl (fun h119 => ?t3) (fun h119 => ?f3) | refine WPD.split 119 rfl (fun h119 => ?t3) (fun h119 => ?f3)
        case' t3 =>
          refine WPD.take 12 rfl (Op1.move rfl) rfl rfl sT kR kR kR xQP ?_
          refine WPD.take 13 rfl (Op1.move rfl) rfl rfl sT kR kR kR xQP ?_
          refine WPD.take 17 rfl (Op1.move rfl) rfl rfl sT kR kR kR xQP ?_
          refine WPD.take 18 rfl (Op1.move rfl) rfl rfl sT kR kR kR xQP ?_
          refine WPD.take 14 rfl (by first | exact (Op1.indexAddr rfl rfl rD lT) | exact (Op1.indexAddrZ rfl rfl rD lT)) rfl rfl sT kR kR kR xQP ?_
          refine WPD.take 19 rfl (by first | exact (Op1.indexAddr rfl rfl rD lT) | exact (Op1.indexAddrZ rfl rfl rD lT)) rfl rfl sT kR kR kR xQP ?_
          refine WPD.take 15 rfl (by first | exact (Op1.fieldAddr rfl) | exact (Op1.fieldAddrE rfl rD lT)) rfl rfl sT kR kR kR xQP ?_
          refine WPD.take 20 rfl (by first | exact (Op1.fieldAddr rfl) | exact (Op1.fieldAddrE rfl rD lT)) rfl rfl sT kR kR kR xQP ?_
          refine WPD.take 16 rfl (Op1.loadLT rfl rD lT) rfl rfl sT kR kR kR xQP ?_
          rw [hTk]
          refine WPD.take 21 rfl (Op1.loadLF rfl rD lT) rfl rfl sT kR kR kR xQP ?_
          rw [hF]
          refine WPD.take 22 rfl (Op1.geI rfl rfl) rfl rfl sT kR kR kR xQP ?_
          rw [decide_eq_false (show ¬ (((toOf ops q : Nat) : Int) ≥ (p : Int)) by have h := h119; rw [hLk, hL] at h; have := lives_apart hv hp hpp hKk hK h; omega)]
          refine WPD.take 23 rfl (by first | exact (Op1.pickT rfl rfl) | exact (Op1.pickF rfl rfl)) rfl rfl sT kR kR kR xQP ?_
          refine WPD.done kR ?_
        case' f3 =>
          refine WPD.skip 12 rfl rfl rfl sT kR kR kR xQP ?_
          refine WPD.skip 13 rfl rfl rfl sT kR kR kR xQP ?_
          refine WPD.skip 17 rfl rfl rfl sT kR kR kR xQP ?_
          refine WPD.skip 18 rfl rfl rfl sT kR kR kR xQP ?_
          refine WPD.skip 14 rfl rfl rfl sT kR kR kR xQP ?_
          refine WPD.skip 19 rfl rfl rfl sT kR kR kR xQP ?_
          refine WPD.skip 15 rfl rfl rfl sT kR kR kR xQP ?_
          refine WPD.skip 20 rfl rfl rfl sT kR kR kR xQP ?_
          refine WPD.skip 16 rfl rfl rfl sT kR kR kR xQP ?_
          refine WPD.skip 21 rfl rfl rfl sT kR kR kR xQP ?_
          refine WPD.skip 22 rfl rfl rfl sT kR kR kR xQP ?_
          refine WPD.take 23 rfl (by first | exact (Op1.pickT rfl rfl) | exact (Op1.pickF rfl rfl)) rfl rfl sT kR kR kR xQP ?_
          refine WPD.done kR ?_
        all_goals (
          try refine go ⟨?_⟩
          refine PE.again (k + 1) ?_ ?_ sE sT2
          · (try dsimp only); omega
          · (try dsimp only); omega)
      · try refine go ⟨?_⟩
        refine PE.again (i + 1) ?_ ?_ sE sT2
        · (try dsimp only); omega
        · (try dsimp only); omega
  · try refine go ⟨?_⟩
    refine PE.ret1 (T := []) (T' := []) rfl rV ?_ sT
    rfl
end Go.Proofs.Ytfigegmgopnfhaa
/- The law FnLivesOf: its walk. Conditions: those of the theorem. -/
namespace Go.Proofs.Ytfigegmgopnfhaa
open Go
/-- The lives so far that reach over the place k. -/
def cntL (ops : List Oper1) (k i : Nat) : Nat := (((puts ops ops.length).take i).filter fun j => decide (j < k ∧ k ≤ toOf ops j)).length
theorem cntL_zero (ops : List Oper1) (k : Nat) : cntL ops k 0 = 0 := rfl
theorem cntL_succ {ops : List Oper1} {k i : Nat} (hi : i < (livs ops).length) : cntL ops k (i + 1) = if pAt ops i < k ∧ k ≤ toOf ops (pAt ops i) then cntL ops k i + 1 else cntL ops k i := by
  have hi' : i < (puts ops ops.length).length := by rwa [livs_len] at hi
  unfold cntL
  rw [take_succD (d := 0) hi', List.filter_append, List.length_append]
  unfold pAt
  split
  · rename_i h
    rw [List.filter_cons, if_pos (decide_eq_true h)]; simp
  · rename_i h
    rw [List.filter_cons, if_neg (by simpa using h)]; simp
theorem cntL_all {n : Int} {ops : List Oper1} (h : OV n ops) {k : Nat} (hk : k ≤ ops.length) : cntL ops k (livs ops).length = (gAt n (ops.take k)).length := by
  rw [← alive_count h hk, alive_eq hk, livs_len]
  unfold cntL
  rw [List.take_length]
theorem cntL_le (ops : List Oper1) (k i : Nat) : cntL ops k i ≤ ops.length := by
  unfold cntL
  refine Nat.le_trans (List.length_filter_le _ _) ?_
  rw [List.length_take]
  have := puts_le ops ops.length
  omega
set_option linter.unusedVariables false set_option linter.unusedSimpArgs false attribute [local irreducible] Tok.own Tok.blk RL Rd eptr WP WPL PE WPD WPO Op1 OpE Tri Again Mid Exit.then Exit.inBlock bodyPost RP Code.wp wpList isOwn OneM One
attribute [local irreducible] OV livs livR pAt toOf gAt atOk cntL HE
set_option maxHeartbeats 8000000

theorem l_LivesOf (w : World) (v : Value) (bs : List UInt8) (h : RL w v bs) (hl : bs.length ≤ 9223372036854775807) :
    Tri Try.prog 9 [v] w [] fun r T => r = .bool true := by
  refine Tri.intro (hf := Try.func9) (hb := rfl) (hn := Try.ntmps9) (Nat.le_of_ble_eq_true rfl) ?_
  repeat' (first | exact absurd rfl hc | refine go ⟨?_⟩ | (refine isCond ?_; refine WP.condD rfl (fun hc => ?_) (fun hc => ?_)) | (refine isGuard ?_; refine WPL.splitD rfl rfl (fun hc => ?_) (fun hc => ?_)))
  · refine PE.ret1 (T := []) (T' := []) rfl rV ?_ sT
    rfl
  refine WPL.eff (OpE.call lO (fun w hw => g_D8LivesOf _ v bs (Rd.at rD hw) hl)) rfl rfl ?_
  rintro r _ ⟨T, ⟨vl, n, ops, rfl, rfl, hle⟩, rfl⟩
  have hal := livR_le n ops
  try refine go ⟨?_⟩
  refine WPL.eff (OpE.call lO (fun w hw => c_LivesOf _ n vl ops (Rd.at rD hw) (by omega))) rfl rfl ?_
  rintro _ _ ⟨T, ⟨va, rfl, rfl⟩, rfl⟩
  try refine go ⟨?_⟩
  refine WPL.eff (OpE.call lO (fun w hw => s_LivesOf _ n vl ops (Rd.at rD hw) (by omega))) rfl rfl ?_
  rintro _ _ ⟨T, ⟨vw, rfl, rfl⟩, rfl⟩
  try refine go ⟨?_⟩
  by_cases hv : OV n ops
  case neg =>
    rw [decide_eq_false hv]
    refine WPL.eff (OpE.call lO (fun w hw => y_Lives _ va vw (livR n ops) (livR n ops) (Rd.at rD hw) (Rd.at rD hw) (by omega) (by omega))) rfl rfl ?_
    rintro _ _ ⟨T, ⟨rfl, rfl⟩, rfl⟩
    rw [deq_LL]
    try refine go ⟨?_⟩
    refine WPL.eff (OpE.call lO (fun w hw => y_Lives _ va vw (livR n ops) (livR n ops) (Rd.at rD hw) (Rd.at rD hw) (by omega) (by omega))) rfl rfl ?_
    rintro _ _ ⟨T, ⟨rfl, rfl⟩, rfl⟩
    rw [deq_LL]
    try refine go ⟨?_⟩
    refine PE.ret1 (T := []) (T' := []) rfl rV ?_ sT
    rfl
  rw [decide_eq_true hv]
  refine WPL.eff (OpE.call lO (fun w hw => y_Lives _ va vw (livR n ops) (livR n ops) (Rd.at rD hw) (Rd.at rD hw) (by omega) (by omega))) rfl rfl ?_
  rintro _ _ ⟨T, ⟨rfl, rfl⟩, rfl⟩
  rw [deq_LL]
  rw [livR_of hv] at *
  try refine go ⟨?_⟩
  refine WP.loop (σ := Nat) (fun k => [(3, .int .i64 n), (4, vl), (5, va), (9, .int .i64 k)]) (fun _ => [Tok.own va (livs ops), Tok.own vl ops]) (fun k => k ≤ ops.length + 1) (fun k => ops.length + 1 - k) 0 (Nat.zero_le _) sE sT2 ?_
  rintro k hk
  try refine go ⟨?_⟩
  refine WP.condD rfl (fun hc => ?_) (fun hc => ?_)
  · have hk' : k ≤ ops.length := by omega
    have hat : atOk n ops k := by unfold atOk; exact ⟨hv, by omega, by omega⟩
    have eN : atN n ops k = n := if_pos hat
    have eG : atG n ops k = gAt n (ops.take k) := by unfold atG; rw [if_pos hat, Int.toNat_natCast]
    have hgv := hv.at k
    have hgl := hgv.2.2.1
    have hall := cntL_all hv hk'
    have hcl := cntL_le ops k
    try refine go ⟨?_⟩
    refine WPL.eff (OpE.call lO (fun w hw => c_GraphAt _ n vl ops k (Rd.at rD hw) (by omega))) rfl rfl ?_
    rintro _ _ ⟨T, ⟨vg, rfl, rfl⟩, rfl⟩
    rw [eN, eG, decide_eq_true hat]
    try refine go ⟨?_⟩
    refine WPL.eff OpE.alloc rfl rfl ?_; rintro _ _ ⟨b10, rfl, rfl⟩
    try refine go ⟨?_⟩
    refine WP.loop (σ := Nat) (fun i => [(3, .int .i64 n), (4, vl), (5, va), (9, .int .i64 k), (10, ptrV b10), (12, .int .i64 (cntL ops k i)), (13, .int .i64 i)]) (fun _ => [Tok.blk b10 [.int .i64 n, vg], Tok.own vg (gAt n (ops.take k)), Tok.own va (livs ops), Tok.own vl ops]) (fun i => i ≤ (livs ops).length) (fun i => (livs ops).length - i) 0 (Nat.zero_le _) ?_ sT2 ?_
    · rw [show cntL ops k 0 = 0 from cntL_zero ops k]; exact sE
    rintro i hi
    try refine go ⟨?_⟩
    refine WP.condD rfl (fun hd => ?_) (fun hd => ?_)
    · have hi' : i < (livs ops).length := by omega
      obtain ⟨hL, hp, hK⟩ := livs_get hi'
      have hcs := cntL_succ (k := k) hi'
      have hci := hcl i
      have hci1 := hcl (i + 1)
      generalize pAt ops i = p at *
      have hF : ((livs ops).getD i ⟨0, 0, 0, 0⟩).F = (p : Int) := by rw [hL]; rfl
      have hT : ((livs ops).getD i ⟨0, 0, 0, 0⟩).T = ((toOf ops p : Nat) : Int) := by rw [hL]; rfl
      try refine go ⟨?_⟩
      refine WPL.splitD rfl rfl (fun c1 => ?_) (fun c1 => ?_)
      · have c1 : ((livs ops).getD i ⟨0, 0, 0, 0⟩).F < (k : Int) := c1
        rw [hF] at c1
        try refine go ⟨?_⟩
        refine WP.condD rfl (fun c2 => ?_) (fun c2 => ?_)
        · have c2 : (k : Int) ≤ ((livs ops).getD i ⟨0, 0, 0, 0⟩).T := c2
          rw [hT] at c2
          rw [if_pos ⟨by omega, by omega⟩] at hcs
          have hE : HE n (gAt n (ops.take k)) ⟨((livs ops).getD i ⟨0, 0, 0, 0⟩).A, ((livs ops).getD i ⟨0, 0, 0, 0⟩).B⟩ := by
            unfold HE
            refine ⟨hgv, ?_⟩
            rw [hL]
            exact alive_mem hv hk' (by omega) hK (by omega)
          have hs : ((cntL ops k i : Nat) : Int) + 1 = ((cntL ops k (i + 1) : Nat) : Int) := by omega
          try refine go ⟨?_⟩
          rw [hs]
          refine WP.draw [Tok.blk b10 [.int .i64 n, vg], Tok.own vg (gAt n (ops.take k)), Tok.own va (livs ops), Tok.own vl ops] mixed ?_
          refine WPD.take 0 rfl (by first | exact (Op1.load rfl mM (by rfl)) | exact (Op1.loadI rfl rD lT) | exact (Op1.loadAll rfl mM (by rfl)) | exact (Op1.loadE rfl rD lT (by rfl)) | exact (Op1.loadEAgg rfl rD lT (by rfl))) rfl rfl sT kR kR kR xQP ?_
          refine WPD.take 1 rfl (Op1.move rfl) rfl rfl sT kR kR kR xQP ?_
          refine WPD.take 2 rfl (Op1.move rfl) rfl rfl sT kR kR kR xQP ?_
          refine WPD.take 3 rfl (by first | exact (Op1.indexAddr rfl rfl rD lT) | exact (Op1.indexAddrZ rfl rfl rD lT)) rfl rfl sT kR kR kR xQP ?_
          refine WPD.take 4 rfl (by first | exact (Op1.fieldAddr rfl) | exact (Op1.fieldAddrE rfl rD lT)) rfl rfl sT kR kR kR xQP ?_
          refine WPD.take 5 rfl (Op1.loadLE rfl rD lT) rfl rfl sT kR kR kR xQP ?_
          refine WPD.eff 6 kR rfl (OpE.call lO (fun w hw => c_HasEdge _ n vg (gAt n (ops.take k)) ⟨((livs ops).getD i ⟨0, 0, 0, 0⟩).A, ((livs ops).getD i ⟨0, 0, 0, 0⟩).B⟩ (Rd.at rD hw) (by omega))) rfl rfl ?_
          rintro r _ ⟨T, ⟨rfl, rfl⟩, rfl⟩
          rw [decide_eq_true hE]
          refine ⟨sT, ?_⟩
          refine WPD.take 7 rfl (Op1.not rfl) rfl rfl sT kR kR kR xQP ?_
          refine WPD.done kR ?_
          try refine go ⟨?_⟩
          refine PE.again (i + 1) ?_ ?_ sE sT2
          · (try dsimp only); omega
          · (try dsimp only); omega
        · have c2 : ¬ (k : Int) ≤ ((livs ops).getD i ⟨0, 0, 0, 0⟩).T := c2
          rw [hT] at c2
          rw [if_neg (by omega)] at hcs
          rw [← hcs]
          try refine go ⟨?_⟩
          refine PE.again (i + 1) ?_ ?_ sE sT2
          · (try dsimp only); omega
          · (try dsimp only); omega
      · have c1 : ¬ ((livs ops).getD i ⟨0, 0, 0, 0⟩).F < (k : Int) := c1
        rw [hF] at c1
        rw [if_neg (by omega)] at hcs
        rw [← hcs]
        try refine go ⟨?_⟩
        refine PE.again (i + 1) ?_ ?_ sE sT2
        · (try dsimp only); omega
        · (try dsimp only); omega
    · have hin : i = (livs ops).length := by omega
      subst hin
      rw [hall]
      try refine go ⟨?_⟩
      rw [decide_eq_false (show ¬ (((gAt n (ops.take k)).length : Int) ≠ ((gAt n (ops.take k)).length : Int)) from fun h => h rfl)]
      try refine go ⟨?_⟩
      refine PE.again (k + 1) ?_ ?_ sE sT2
      · (try dsimp only); omega
      · (try dsimp only); omega
  · try refine go ⟨?_⟩
    refine PE.ret1 (T := []) (T' := []) rfl rV ?_ sT
    rfl
end Go.Proofs.Ytfigegmgopnfhaa
/- The law FnAnswersOf: its walk. Conditions: those of the theorem. -/
namespace Go.Proofs.Ytfigegmgopnfhaa
open Go
theorem deq_LB (l : List Bool) : decide (l = l) = true := decide_eq_true rfl
theorem ans_ask {n : Int} {ops : List Oper1} {k : Nat} (h : (ops.getD k oD).K = 3) : ans n ops (k + 1) = ans n ops k ++ [decide (cn n (gAt n (ops.take k)) (ops.getD k oD).A (ops.getD k oD).B)] := by
  show (if _ then _ else _) = _
  rw [if_pos h]
theorem ans_no {n : Int} {ops : List Oper1} {k : Nat} (h : (ops.getD k oD).K ≠ 3) : ans n ops (k + 1) = ans n ops k := by
  show (if _ then _ else _) = _
  rw [if_neg h]
theorem ans_get {n : Int} {ops : List Oper1} {k : Nat} (hk : k < ops.length) (h : (ops.getD k oD).K = 3) : (ans n ops k).length < (ans n ops ops.length).length ∧ (ans n ops ops.length).getD (ans n ops k).length false = decide (cn n (gAt n (ops.take k)) (ops.getD k oD).A (ops.getD k oD).B) := by
  obtain ⟨t, ht⟩ := ans_prefix n ops (k + 1) ops.length hk
  rw [← ht, ans_ask h]
  constructor
  · simp only [List.length_append, List.length_singleton]; omega
  · rw [List.getD_eq_getElem?_getD, List.append_assoc, List.getElem?_append_right (Nat.le_refl _), Nat.sub_self]; rfl
theorem runA_ans {n : Int} {ops : List Oper1} (h : OV n ops) : runA n ops = ans n ops ops.length := if_pos h
theorem ask_ok {n : Int} {ops : List Oper1} (h : OV n ops) {k : Nat} (hk : k < ops.length) (h3 : (ops.getD k oD).K = 3) : GN n (gAt n (ops.take k)) (ops.getD k oD).A ∧ GN n (gAt n (ops.take k)) (ops.getD k oD).B := by
  rcases (h.step hk).1 with ⟨h5, _⟩ | ⟨h5, _⟩ | ⟨_, _, h5⟩
  · omega
  · omega
  · exact h5
set_option linter.unusedVariables false set_option linter.unusedSimpArgs false attribute [local irreducible] Tok.own Tok.blk RL Rd eptr WP WPL PE WPD WPO Op1 OpE Tri Again Mid Exit.then Exit.inBlock bodyPost RP Code.wp wpList isOwn OneM One
attribute [local irreducible] OV runA ans gAt atOk CN
set_option maxHeartbeats 8000000

theorem l_AnswersOf (w : World) (v : Value) (bs : List UInt8) (h : RL w v bs) (hl : bs.length ≤ 9223372036854775807) :
    Tri Try.prog 10 [v] w [] fun r T => r = .bool true := by
  refine Tri.intro (hf := Try.func10) (hb := rfl) (hn := Try.ntmps10) (Nat.le_of_ble_eq_true rfl) ?_
  repeat' (first | exact absurd rfl hc | refine go ⟨?_⟩ | (refine isCond ?_; refine WP.condD rfl (fun hc => ?_) (fun hc => ?_)) | (refine isGuard ?_; refine WPL.splitD rfl rfl (fun hc => ?_) (fun hc => ?_)))
  · refine PE.ret1 (T := []) (T' := []) rfl rV ?_ sT
    rfl
  refine WPL.eff (OpE.call lO (fun w hw => g_D8AnswersOf _ v bs (Rd.at rD hw) hl)) rfl rfl ?_
  rintro r _ ⟨T, ⟨vl, n, ops, rfl, rfl, hle⟩, rfl⟩
  have hal := runA_le n ops
  try refine go ⟨?_⟩
  refine WPL.eff (OpE.call lO (fun w hw => c_AnswersOf _ n vl ops (Rd.at rD hw) (by omega))) rfl rfl ?_
  rintro _ _ ⟨T, ⟨va, rfl, rfl⟩, rfl⟩
  try refine go ⟨?_⟩
  refine WPL.eff (OpE.call lO (fun w hw => s_AnswersOf _ n vl ops (Rd.at rD hw) (by omega))) rfl rfl ?_
  rintro _ _ ⟨T, ⟨vw, rfl, rfl⟩, rfl⟩
  try refine go ⟨?_⟩
  by_cases hv : OV n ops
  case neg =>
    rw [decide_eq_false hv]
    refine WPL.eff (OpE.call lO (fun w hw => y_Bools _ va vw (runA n ops) (runA n ops) (Rd.at rD hw) (Rd.at rD hw) (by omega) (by omega))) rfl rfl ?_
    rintro _ _ ⟨T, ⟨rfl, rfl⟩, rfl⟩
    rw [deq_LB]
    try refine go ⟨?_⟩
    refine WPL.eff (OpE.call lO (fun w hw => y_Bools _ va vw (runA n ops) (runA n ops) (Rd.at rD hw) (Rd.at rD hw) (by omega) (by omega))) rfl rfl ?_
    rintro _ _ ⟨T, ⟨rfl, rfl⟩, rfl⟩
    rw [deq_LB]
    try refine go ⟨?_⟩
    refine PE.ret1 (T := []) (T' := []) rfl rV ?_ sT
    rfl
  rw [decide_eq_true hv]
  refine WPL.eff (OpE.call lO (fun w hw => y_Bools _ va vw (runA n ops) (runA n ops) (Rd.at rD hw) (Rd.at rD hw) (by omega) (by omega))) rfl rfl ?_
  rintro _ _ ⟨T, ⟨rfl, rfl⟩, rfl⟩
  rw [deq_LB]
  try refine go ⟨?_⟩
  have hra := runA_ans hv
  refine WP.loop (σ := Nat) (fun k => [(3, .int .i64 n), (4, vl), (5, va), (9, .int .i64 (ans n ops k).length), (10, .int .i64 k)]) (fun _ => [Tok.own va (runA n ops), Tok.own vl ops]) (fun k => k ≤ ops.length) (fun k => ops.length - k) 0 (Nat.zero_le _) ?_ sT2 ?_
  · rw [show (ans n ops 0).length = 0 from by unfold ans; rfl]; exact sE
  rintro k hk
  have hnl := ans_len n ops k
  try refine go ⟨?_⟩
  refine WP.condD rfl (fun hc => ?_) (fun hc => ?_)
  · have hk' : k < ops.length := by omega
    try refine go ⟨?_⟩
    refine WP.condD rfl (fun h1 => ?_) (fun h1 => ?_)
    · have h1 : (ops.getD k oD).K = 3 := h1
      have hat : atOk n ops k := by unfold atOk; exact ⟨hv, by omega, by omega⟩
      have eN : atN n ops k = n := if_pos hat
      have eG : atG n ops k = gAt n (ops.take k) := by unfold atG; rw [if_pos hat, Int.toNat_natCast]
      obtain ⟨q1, q2⟩ := ans_get (n := n) hk' h1
      rw [← hra] at q1 q2
      have hgl := (hv.at k).2.2.1
      have hok := ask_ok hv hk' h1
      have hans : decide (CN n (gAt n (ops.take k)) (ops.getD k oD).A (ops.getD k oD).B) = (runA n ops).getD (ans n ops k).length false := by
        rw [q2, decide_eq_decide]
        unfold CN
        exact ⟨fun h => h.2.2.2, fun h => ⟨hok.1.1, hok.1.2, hok.2.2, h⟩⟩
      have hsucc : ((ans n ops k).length : Int) + 1 = ((ans n ops (k + 1)).length : Int) := by rw [ans_ask h1, List.length_append, List.length_singleton]; omega
      try refine go ⟨?_⟩
      refine WPL.eff (OpE.call lO (fun w hw => c_GraphAt _ n vl ops k (Rd.at rD hw) (by omega))) rfl rfl ?_
      rintro _ _ ⟨T, ⟨vg, rfl, rfl⟩, rfl⟩
      rw [eN, eG, decide_eq_true hat]
      try refine go ⟨?_⟩
      refine WPL.eff OpE.alloc rfl rfl ?_; rintro _ _ ⟨b11, rfl, rfl⟩
      try refine go ⟨?_⟩
      refine WP.draw [Tok.blk b11 [.int .i64 n, vg], Tok.own vg (gAt n (ops.take k)), Tok.own va (runA n ops), Tok.own vl ops] mixed ?_
      refine WPD.take 0 rfl (Op1.move rfl) rfl rfl sT kR kR kR xQP ?_
      refine WPD.take 1 rfl (Op1.move rfl) rfl rfl sT kR kR kR xQP ?_
      refine WPD.take 2 rfl (Op1.len rfl rD) rfl rfl sT kR kR kR xQP ?_
      refine WPD.take 3 rfl (Op1.geI rfl rfl) rfl rfl sT kR kR kR xQP ?_
      rw [decide_eq_false (show ¬ ((ans n ops k).length : Int) ≥ ((runA n ops).length : Int) by omega)]
      refine WPD.take 4 rfl (Op1.move rfl) rfl rfl sT kR kR kR xQP ?_
      refine WPD.take 5 rfl (Op1.move rfl) rfl rfl sT kR kR kR xQP ?_
      refine WPD.take 6 rfl (Op1.move rfl) rfl rfl sT kR kR kR xQP ?_
      refine WPD.take 9 rfl (by first | exact (Op1.load rfl mM (by rfl)) | exact (Op1.loadI rfl rD lT) | exact (Op1.loadAll rfl mM (by rfl)) | exact (Op1.loadE rfl rD lT (by rfl)) | exact (Op1.loadEAgg rfl rD lT (by rfl))) rfl rfl sT kR kR kR xQP ?_
      refine WPD.take 10 rfl (Op1.move rfl) rfl rfl sT kR kR kR xQP ?_
      refine WPD.take 11 rfl (Op1.move rfl) rfl rfl sT kR kR kR xQP ?_
      refine WPD.take 16 rfl (Op1.move rfl) rfl rfl sT kR kR kR xQP ?_
      refine WPD.take 17 rfl (Op1.move rfl) rfl rfl sT kR kR kR xQP ?_
      refine WPD.take 7 rfl (by first | exact (Op1.indexAddr rfl rfl rD lT) | exact (Op1.indexAddrZ rfl rfl rD lT)) rfl rfl sT kR kR kR xQP ?_
      refine WPD.take 12 rfl (by first | exact (Op1.indexAddr rfl rfl rD lT) | exact (Op1.indexAddrZ rfl rfl rD lT)) rfl rfl sT kR kR kR xQP ?_
      refine WPD.take 18 rfl (by first | exact (Op1.indexAddr rfl rfl rD lT) | exact (Op1.indexAddrZ rfl rfl rD lT)) rfl rfl sT kR kR kR xQP ?_
      refine WPD.take 8 rfl (Op1.loadBl rfl rD lT) rfl rfl sT kR kR kR xQP ?_
      refine WPD.take 13 rfl (by first | exact (Op1.fieldAddr rfl) | exact (Op1.fieldAddrE rfl rD lT)) rfl rfl sT kR kR kR xQP ?_
      refine WPD.take 19 rfl (by first | exact (Op1.fieldAddr rfl) | exact (Op1.fieldAddrE rfl rD lT)) rfl rfl sT kR kR kR xQP ?_
      refine WPD.take 14 rfl (by first | exact (Op1.fieldAddr rfl) | exact (Op1.fieldAddrE rfl rD lT)) rfl rfl sT kR kR kR xQP ?_
      refine WPD.take 20 rfl (by first | exact (Op1.fieldAddr rfl) | exact (Op1.fieldAddrE rfl rD lT)) rfl rfl sT kR kR kR xQP ?_
      refine WPD.take 15 rfl (by first | exact (Op1.load rfl mM (by rfl)) | exact (Op1.loadI rfl rD lT) | exact (Op1.loadAll rfl mM (by rfl)) | exact (Op1.loadE rfl rD lT (by rfl)) | exact (Op1.loadEAgg rfl rD lT (by rfl))) rfl rfl sT kR kR kR xQP ?_
      refine WPD.take 21 rfl (by first | exact (Op1.load rfl mM (by rfl)) | exact (Op1.loadI rfl rD lT) | exact (Op1.loadAll rfl mM (by rfl)) | exact (Op1.loadE rfl rD lT (by rfl)) | exact (Op1.loadEAgg rfl rD lT (by rfl))) rfl rfl sT kR kR kR xQP ?_
      refine WPD.eff 22 kR rfl (OpE.call lO (fun w hw => c_Connected _ n vg (gAt n (ops.take k)) (ops.getD k oD).A (ops.getD k oD).B (Rd.at rD hw) (by omega))) rfl rfl ?_
      rintro r _ ⟨T, ⟨rfl, rfl⟩, rfl⟩
      rw [hans]
      refine ⟨sT, ?_⟩
      refine WPD.take 23 rfl (Op1.neB rfl rfl) rfl rfl sT kR kR kR xQP ?_
      rw [bselfV]
      refine WPD.take 24 rfl (by first | exact (Op1.pickT rfl rfl) | exact (Op1.pickF rfl rfl)) rfl rfl sT kR kR kR xQP ?_
      refine WPD.done kR ?_
      try refine go ⟨?_⟩
      rw [hsucc]
      refine PE.again (k + 1) ?_ ?_ sE sT2
      · (try dsimp only); omega
      · (try dsimp only); omega
    · have h1 : (ops.getD k oD).K ≠ 3 := h1
      try refine go ⟨?_⟩
      rw [← ans_no (n := n) h1]
      refine PE.again (k + 1) ?_ ?_ sE sT2
      · (try dsimp only); omega
      · (try dsimp only); omega
  · have hkn : k = ops.length := by omega
    subst hkn
    try refine go ⟨?_⟩
    refine PE.ret1 (T := []) (T' := []) rfl rV ?_ sT
    rw [decide_eq_true (show ((ans n ops ops.length).length : Int) = ((runA n ops).length : Int) by rw [hra])]
end Go.Proofs.Ytfigegmgopnfhaa
/- The law FnExactOpsValid: its walk. Conditions: those of the theorem. -/
namespace Go.Proofs.Ytfigegmgopnfhaa
open Go
theorem bselfO (d : Bool) : (d != d) = false := by cases d <;> rfl
theorem deq_Op (l : List Oper1) : decide (l = l) = true := decide_eq_true rfl
set_option linter.unusedVariables false set_option linter.unusedSimpArgs false attribute [local irreducible] Tok.own Tok.blk RL Rd eptr WP WPL PE WPD WPO Op1 OpE Tri Again Mid Exit.then Exit.inBlock bodyPost RP Code.wp wpList isOwn OneM One
attribute [local irreducible] OV
set_option maxHeartbeats 8000000

theorem l_ExactOpsValid (w : World) (n : Int) (v : Value) (xs : List Oper1) (h : RL w v xs) (hl : xs.length ≤ 9223372036854775807) :
    Tri Try.prog 4 [.int .i64 n, v] w [] fun r T => r = .bool true := by
  refine Tri.intro (hf := Try.func4) (hb := rfl) (hn := Try.ntmps4) (Nat.le_of_ble_eq_true rfl) ?_
  try refine go ⟨?_⟩
  refine WPL.eff (OpE.call lO (fun w hw => h_szOS _ v xs 1048576 (Rd.at rD hw) hl (by omega) (by omega))) rfl rfl ?_
  rintro r _ ⟨T, ⟨rfl, hr⟩, rfl⟩
  rcases hr with ⟨hsz, rfl⟩ | ⟨hsz, rfl⟩
  case inr =>
    repeat' (first | refine go ⟨?_⟩ | (refine isCond ?_; refine WP.condD rfl (fun hc => ?_) (fun hc => ?_)) | (refine isGuard ?_; refine WPL.splitD rfl rfl (fun hc => ?_) (fun hc => ?_)))
    refine PE.ret1 (T := []) (T' := []) rfl rV ?_ sT
    rfl
  have hl2 : xs.length ≤ 1048576 := by omega
  try refine go ⟨?_⟩
  refine WP.condD rfl (fun hc => ?_) (fun hc => ?_)
  · exfalso; omega
  try refine go ⟨?_⟩
  refine WPL.eff (OpE.call lO (fun w hw => h_toOS _ v xs (Rd.at rD hw) hl2)) rfl rfl ?_
  rintro u1 _ ⟨T, rfl, rfl⟩
  try refine go ⟨?_⟩
  refine WPL.eff (OpE.call lO (fun w hw => s_OpsValid _ n u1 xs (Rd.at rD hw) (by omega))) rfl rfl ?_
  rintro _ _ ⟨T, ⟨rfl, rfl⟩, rfl⟩
  try refine go ⟨?_⟩
  refine WPL.eff (OpE.call lO (fun w hw => h_toOS _ v xs (Rd.at rD hw) hl2)) rfl rfl ?_
  rintro u2 _ ⟨T, rfl, rfl⟩
  try refine go ⟨?_⟩
  refine WPL.eff (OpE.call lO (fun w hw => c_OpsValid _ n u2 xs (Rd.at rD hw) (by omega))) rfl rfl ?_
  rintro _ _ ⟨T, ⟨rfl, rfl⟩, rfl⟩
  try refine go ⟨?_⟩
  rw [bselfO]
  try refine go ⟨?_⟩
  refine WPL.eff (OpE.call lO (fun w hw => h_toOS _ v xs (Rd.at rD hw) hl2)) rfl rfl ?_
  rintro u3 _ ⟨T, rfl, rfl⟩
  try refine go ⟨?_⟩
  refine WPL.eff (OpE.call lO (fun w hw => h_eqOS _ u2 u3 xs xs (Rd.at rD hw) (Rd.at rD hw) hl2 hl2)) rfl rfl ?_
  rintro _ _ ⟨T, ⟨rfl, rfl⟩, rfl⟩
  rw [deq_Op]
  try refine go ⟨?_⟩
  refine PE.ret1 (T := []) (T' := []) rfl rV ?_ sT
  rfl
end Go.Proofs.Ytfigegmgopnfhaa
/- The law FnExactAnswersOf: its walk. Conditions: those of the theorem. -/
namespace Go.Proofs.Ytfigegmgopnfhaa
open Go
theorem ine_self (a : Int) : decide (a ≠ a) = false := decide_eq_false fun h => h rfl
set_option linter.unusedVariables false set_option linter.unusedSimpArgs false attribute [local irreducible] Tok.own Tok.blk RL Rd eptr WP WPL PE WPD WPO Op1 OpE Tri Again Mid Exit.then Exit.inBlock bodyPost RP Code.wp wpList isOwn OneM One
attribute [local irreducible] OV runA
set_option maxHeartbeats 8000000

theorem l_ExactAnswersOf (w : World) (n : Int) (v : Value) (xs : List Oper1) (h : RL w v xs) (hl : xs.length ≤ 9223372036854775807) :
    Tri Try.prog 12 [.int .i64 n, v] w [] fun r T => r = .bool true := by
  obtain ⟨L, hLe⟩ : ∃ L, L = runA n xs := ⟨_, rfl⟩
  have hal : L.length ≤ 64 := by rw [hLe]; exact runA_le n xs
  obtain ⟨d, hde⟩ : ∃ d, d = decide (OV n xs) := ⟨_, rfl⟩
  refine Tri.intro (hf := Try.func12) (hb := rfl) (hn := Try.ntmps12) (Nat.le_of_ble_eq_true rfl) ?_
  try refine go ⟨?_⟩
  refine WPL.eff (OpE.call lO (fun w hw => h_szOS _ v xs 1048576 (Rd.at rD hw) hl (by omega) (by omega))) rfl rfl ?_
  rintro r _ ⟨T, ⟨rfl, hr⟩, rfl⟩
  rcases hr with ⟨hsz, rfl⟩ | ⟨hsz, rfl⟩
  case inr =>
    repeat' (first | refine go ⟨?_⟩ | (refine isCond ?_; refine WP.condD rfl (fun hc => ?_) (fun hc => ?_)) | (refine isGuard ?_; refine WPL.splitD rfl rfl (fun hc => ?_) (fun hc => ?_)))
    refine PE.ret1 (T := []) (T' := []) rfl rV ?_ sT
    rfl
  have hl2 : xs.length ≤ 1048576 := by omega
  try refine go ⟨?_⟩
  refine WP.condD rfl (fun hc => ?_) (fun hc => ?_)
  · exfalso; omega
  try refine go ⟨?_⟩
  refine WPL.eff (OpE.call lO (fun w hw => h_toOS _ v xs (Rd.at rD hw) hl2)) rfl rfl ?_
  rintro u1 _ ⟨T, rfl, rfl⟩
  try refine go ⟨?_⟩
  refine WPL.eff (OpE.call lO (fun w hw => s_AnswersOf _ n u1 xs (Rd.at rD hw) (by omega))) rfl rfl ?_
  rintro _ _ ⟨T, ⟨w0, rfl, rfl⟩, rfl⟩
  rw [← hLe, ← hde]
  try refine go ⟨?_⟩
  refine WPL.eff (OpE.call lO (fun w hw => h_toOS _ v xs (Rd.at rD hw) hl2)) rfl rfl ?_
  rintro u2 _ ⟨T, rfl, rfl⟩
  try refine go ⟨?_⟩
  refine WPL.eff (OpE.call lO (fun w hw => c_AnswersOf _ n u2 xs (Rd.at rD hw) (by omega))) rfl rfl ?_
  rintro _ _ ⟨T, ⟨g0, rfl, rfl⟩, rfl⟩
  rw [← hLe, ← hde]
  try refine go ⟨?_⟩
  refine WPL.eff (OpE.call lO (fun w hw => h_eqB _ g0 w0 L L (Rd.at rD hw) (Rd.at rD hw) (by omega) (by omega))) rfl rfl ?_
  rintro _ _ ⟨T, ⟨rfl, rfl⟩, rfl⟩
  rw [deq_LB]
  try refine go ⟨?_⟩
  rw [bselfV]
  try refine go ⟨?_⟩
  refine WPL.eff (OpE.call lO (fun w hw => h_toOS _ v xs (Rd.at rD hw) hl2)) rfl rfl ?_
  rintro u3 _ ⟨T, rfl, rfl⟩
  try refine go ⟨?_⟩
  refine WPL.eff (OpE.call lO (fun w hw => h_eqOS _ u2 u3 xs xs (Rd.at rD hw) (Rd.at rD hw) hl2 hl2)) rfl rfl ?_
  rintro _ _ ⟨T, ⟨rfl, rfl⟩, rfl⟩
  rw [deq_Op]
  try refine go ⟨?_⟩
  refine WPL.eff (OpE.callT (T := [Tok.own u2 xs]) lO pM2 (fun w hw => h_markOS _ u2 xs 1 hl2 (by omega) (by omega))) rfl rfl ?_
  rintro _ _ ⟨T, ⟨ys, rfl, rfl⟩, rfl⟩
  try refine go ⟨?_⟩
  rw [decide_eq_false (show ¬ (1 + 3 * (xs.length : Int) < 0) by omega)]
  try refine go ⟨?_⟩
  refine WPL.eff (OpE.call lO (fun w hw => h_eqB _ g0 w0 L L (Rd.at rD hw) (Rd.at rD hw) (by omega) (by omega))) rfl rfl ?_
  rintro _ _ ⟨T, ⟨rfl, rfl⟩, rfl⟩
  rw [deq_LB]
  try refine go ⟨?_⟩
  rw [bselfV]
  try refine go ⟨?_⟩
  refine WPL.eff (OpE.callT (T := [Tok.own g0 L]) lO pM2 (fun w hw => h_mrkB _ g0 L 1 (by omega) (by omega) (by omega))) rfl rfl ?_
  rintro _ _ ⟨T, ⟨rfl, rfl⟩, rfl⟩
  have hH := fun w' (h1 : RL w' g0 (bmarks 1 L.length)) => h_heldB w' g0 1 _ h1 (by omega) (by omega) (by omega)
  try refine go ⟨?_⟩
  refine WPL.eff (OpE.call lO (fun w hw => hH _ (Rd.at rD hw))) rfl rfl ?_
  rintro _ _ ⟨T, ⟨rfl, rfl⟩, rfl⟩
  try refine go ⟨?_⟩
  rw [decide_eq_false (show ¬ (1 + (L.length : Int) < 0) by omega)]
  try refine go ⟨?_⟩
  rw [ine_self]
  try refine go ⟨?_⟩
  refine WPL.eff (OpE.call lO (fun w hw => h_toOS _ v xs (Rd.at rD hw) hl2)) rfl rfl ?_
  rintro u5 _ ⟨T, rfl, rfl⟩
  try refine go ⟨?_⟩
  refine WPL.eff (OpE.call lO (fun w hw => c_AnswersOf _ n u5 xs (Rd.at rD hw) (by omega))) rfl rfl ?_
  rintro _ _ ⟨T, ⟨k0, rfl, rfl⟩, rfl⟩
  rw [← hLe, ← hde]
  try refine go ⟨?_⟩
  refine WPL.eff (OpE.call lO (fun w hw => h_eqB _ k0 w0 L L (Rd.at rD hw) (Rd.at rD hw) (by omega) (by omega))) rfl rfl ?_
  rintro _ _ ⟨T, ⟨rfl, rfl⟩, rfl⟩
  rw [deq_LB]
  try refine go ⟨?_⟩
  rw [bselfV]
  try refine go ⟨?_⟩
  refine WPL.eff (OpE.call lO (fun w hw => hH _ (Rd.at rD hw))) rfl rfl ?_
  rintro _ _ ⟨T, ⟨rfl, rfl⟩, rfl⟩
  try refine go ⟨?_⟩
  rw [decide_eq_false (show ¬ (1 + (L.length : Int) < 0) by omega)]
  try refine go ⟨?_⟩
  rw [ine_self]
  try refine go ⟨?_⟩
  refine PE.ret1 (T := []) (T' := []) rfl rV ?_ sT
  rfl
end Go.Proofs.Ytfigegmgopnfhaa
/- The law FnExactLivesOf: its walk. Conditions: those of the theorem. -/
namespace Go.Proofs.Ytfigegmgopnfhaa
open Go
set_option linter.unusedVariables false set_option linter.unusedSimpArgs false attribute [local irreducible] Tok.own Tok.blk RL Rd eptr WP WPL PE WPD WPO Op1 OpE Tri Again Mid Exit.then Exit.inBlock bodyPost RP Code.wp wpList isOwn OneM One
attribute [local irreducible] OV livR
set_option maxHeartbeats 8000000

theorem l_ExactLivesOf (w : World) (n : Int) (v : Value) (xs : List Oper1) (h : RL w v xs) (hl : xs.length ≤ 9223372036854775807) :
    Tri Try.prog 14 [.int .i64 n, v] w [] fun r T => r = .bool true := by
  obtain ⟨L, hLe⟩ : ∃ L, L = livR n xs := ⟨_, rfl⟩
  have hal : L.length ≤ 64 := by rw [hLe]; exact livR_le n xs
  obtain ⟨d, hde⟩ : ∃ d, d = decide (OV n xs) := ⟨_, rfl⟩
  refine Tri.intro (hf := Try.func14) (hb := rfl) (hn := Try.ntmps14) (Nat.le_of_ble_eq_true rfl) ?_
  try refine go ⟨?_⟩
  refine WPL.eff (OpE.call lO (fun w hw => h_szOS _ v xs 1048576 (Rd.at rD hw) hl (by omega) (by omega))) rfl rfl ?_
  rintro r _ ⟨T, ⟨rfl, hr⟩, rfl⟩
  rcases hr with ⟨hsz, rfl⟩ | ⟨hsz, rfl⟩
  case inr =>
    repeat' (first | refine go ⟨?_⟩ | (refine isCond ?_; refine WP.condD rfl (fun hc => ?_) (fun hc => ?_)) | (refine isGuard ?_; refine WPL.splitD rfl rfl (fun hc => ?_) (fun hc => ?_)))
    refine PE.ret1 (T := []) (T' := []) rfl rV ?_ sT
    rfl
  have hl2 : xs.length ≤ 1048576 := by omega
  try refine go ⟨?_⟩
  refine WP.condD rfl (fun hc => ?_) (fun hc => ?_)
  · exfalso; omega
  try refine go ⟨?_⟩
  refine WPL.eff (OpE.call lO (fun w hw => h_toOS _ v xs (Rd.at rD hw) hl2)) rfl rfl ?_
  rintro u1 _ ⟨T, rfl, rfl⟩
  try refine go ⟨?_⟩
  refine WPL.eff (OpE.call lO (fun w hw => s_LivesOf _ n u1 xs (Rd.at rD hw) (by omega))) rfl rfl ?_
  rintro _ _ ⟨T, ⟨w0, rfl, rfl⟩, rfl⟩
  rw [← hLe, ← hde]
  try refine go ⟨?_⟩
  refine WPL.eff (OpE.call lO (fun w hw => h_toOS _ v xs (Rd.at rD hw) hl2)) rfl rfl ?_
  rintro u2 _ ⟨T, rfl, rfl⟩
  try refine go ⟨?_⟩
  refine WPL.eff (OpE.call lO (fun w hw => c_LivesOf _ n u2 xs (Rd.at rD hw) (by omega))) rfl rfl ?_
  rintro _ _ ⟨T, ⟨g0, rfl, rfl⟩, rfl⟩
  rw [← hLe, ← hde]
  try refine go ⟨?_⟩
  refine WPL.eff (OpE.call lO (fun w hw => h_eqLS _ g0 w0 L L (Rd.at rD hw) (Rd.at rD hw) (by omega) (by omega))) rfl rfl ?_
  rintro _ _ ⟨T, ⟨rfl, rfl⟩, rfl⟩
  rw [deq_LL]
  try refine go ⟨?_⟩
  rw [bselfV]
  try refine go ⟨?_⟩
  refine WPL.eff (OpE.call lO (fun w hw => h_toOS _ v xs (Rd.at rD hw) hl2)) rfl rfl ?_
  rintro u3 _ ⟨T, rfl, rfl⟩
  try refine go ⟨?_⟩
  refine WPL.eff (OpE.call lO (fun w hw => h_eqOS _ u2 u3 xs xs (Rd.at rD hw) (Rd.at rD hw) hl2 hl2)) rfl rfl ?_
  rintro _ _ ⟨T, ⟨rfl, rfl⟩, rfl⟩
  rw [deq_Op]
  try refine go ⟨?_⟩
  refine WPL.eff (OpE.callT (T := [Tok.own u2 xs]) lO pM2 (fun w hw => h_markOS _ u2 xs 1 hl2 (by omega) (by omega))) rfl rfl ?_
  rintro _ _ ⟨T, ⟨ys, rfl, rfl⟩, rfl⟩
  try refine go ⟨?_⟩
  rw [decide_eq_false (show ¬ (1 + 3 * (xs.length : Int) < 0) by omega)]
  try refine go ⟨?_⟩
  refine WPL.eff (OpE.call lO (fun w hw => h_eqLS _ g0 w0 L L (Rd.at rD hw) (Rd.at rD hw) (by omega) (by omega))) rfl rfl ?_
  rintro _ _ ⟨T, ⟨rfl, rfl⟩, rfl⟩
  rw [deq_LL]
  try refine go ⟨?_⟩
  rw [bselfV]
  try refine go ⟨?_⟩
  refine WPL.eff (OpE.callT (T := [Tok.own g0 L]) lO pM2 (fun w hw => h_mrkL _ g0 L 1 (by omega) (by omega) (by omega))) rfl rfl ?_
  rintro _ _ ⟨T, ⟨rfl, rfl⟩, rfl⟩
  have hH := fun w' (h1 : RL w' g0 (lmarks 1 L.length)) => h_heldL w' g0 1 _ h1 (by omega) (by omega) (by omega)
  try refine go ⟨?_⟩
  refine WPL.eff (OpE.call lO (fun w hw => hH _ (Rd.at rD hw))) rfl rfl ?_
  rintro _ _ ⟨T, ⟨rfl, rfl⟩, rfl⟩
  try refine go ⟨?_⟩
  rw [decide_eq_false (show ¬ (1 + 4 * (L.length : Int) < 0) by omega)]
  try refine go ⟨?_⟩
  rw [ine_self]
  try refine go ⟨?_⟩
  refine WPL.eff (OpE.call lO (fun w hw => h_toOS _ v xs (Rd.at rD hw) hl2)) rfl rfl ?_
  rintro u5 _ ⟨T, rfl, rfl⟩
  try refine go ⟨?_⟩
  refine WPL.eff (OpE.call lO (fun w hw => c_LivesOf _ n u5 xs (Rd.at rD hw) (by omega))) rfl rfl ?_
  rintro _ _ ⟨T, ⟨k0, rfl, rfl⟩, rfl⟩
  rw [← hLe, ← hde]
  try refine go ⟨?_⟩
  refine WPL.eff (OpE.call lO (fun w hw => h_eqLS _ k0 w0 L L (Rd.at rD hw) (Rd.at rD hw) (by omega) (by omega))) rfl rfl ?_
  rintro _ _ ⟨T, ⟨rfl, rfl⟩, rfl⟩
  rw [deq_LL]
  try refine go ⟨?_⟩
  rw [bselfV]
  try refine go ⟨?_⟩
  refine WPL.eff (OpE.call lO (fun w hw => hH _ (Rd.at rD hw))) rfl rfl ?_
  rintro _ _ ⟨T, ⟨rfl, rfl⟩, rfl⟩
  try refine go ⟨?_⟩
  rw [decide_eq_false (show ¬ (1 + 4 * (L.length : Int) < 0) by omega)]
  try refine go ⟨?_⟩
  rw [ine_self]
  try refine go ⟨?_⟩
  refine PE.ret1 (T := []) (T' := []) rfl rV ?_ sT
  rfl
end Go.Proofs.Ytfigegmgopnfhaa
/- The given statement FnExactLivesOfSaid, out of its walk (LExactLivesOf). Written by fin.py. No conditions. -/
namespace Go.Proofs.Ytfigegmgopnfhaa.ZfnExactLivesOf
open Go Go.ChangeShapes Go.WideShapes Go.ChangeAt Go.RowKit Go.Joins
theorem own : ownKnob Try.prog.godebug = none := by kernel_rfl
theorem laidOut : laidOutB Try.prog = true := by kernel_rfl
theorem cells101 : Try.prog.cellsOf 101 = 3 := by kernel_rfl
set_option maxRecDepth 100000 in
theorem lifted (os : Os) (started : os.Started) (H : Type) (enc : TypeId × Value → H) :
    ReturnsInHanded {} Try.checked os 14 .any (Rows.fnExactLivesOfSpec.pre6 enc Try.prog Try.f14 Rows.fnExactLivesOfRow.domain false) (Rows.fnExactLivesOfSpec.post enc Try.prog Try.f14 false true false false) := by
  refine returnsInHanded_of_change (C := Try.checked) own started (by kernel_rfl) Try.func14
    (ChangeSpec.witness6 (enc := enc) (C := Try.checked) false ⟨#[], #[.int .i64 0, .slice none 0 0], []⟩ 8 (by kernel_rfl) (by kernel_rfl) (by kernel_rfl) (by kernel_rfl)) ?_
  intro W base args ds gs before hval0 hW hcnd _
  have hval : ∀ (j : Nat) t v, Try.f14.params[j]? = some t → args[j]? = some v → Value.okWide Try.prog W .any base t v := hval0
  have hW' := hW
  obtain ⟨p, q, hA0, hV, rfl, hfz, hnd⟩ := hW
  have hA : DataW.TrodAll enc Try.prog W 0 (fun _ => true) true Try.f14.params.toList args.toList ds p := hA0
  rw [Try.params14] at hA hval
  obtain ⟨v0, vs0, d0, ds0, p0, q0, hargs, rfl, rfl, h0, r0⟩ := trodAll_cons hA
  obtain ⟨v1, vs1, d1, ds1, p1, q1, rfl, rfl, rfl, h1, r1⟩ := trodAll_cons r0
  obtain ⟨rfl, rfl, rfl⟩ := trodAll_nil r1
  obtain rfl : args = #[v0, v1] := by cases args; simp_all
  obtain ⟨rfl, rfl⟩ := trodVars_none hV
  have k0 := h0
  have lt0 : ∀ x ∈ p0, x.block < W.heap.size := by obtain ⟨m, hm⟩ := k0; exact DataW.trod_lt m _ _ _ hm
  obtain ⟨a0, rfl, rfl, rfl, w0⟩ := open_int Try.underlying3 (hval 0 3 v0 rfl rfl) h0
  have k1 := h1
  have lt1 : ∀ x ∈ p1, x.block < W.heap.size := by obtain ⟨m, hm⟩ := k1; exact DataW.trod_lt m _ _ _ hm
  obtain ⟨xs1, rl1, ll1⟩ : ∃ xs : List Oper1, RL W v1 xs ∧ xs.length ≤ 9223372036854775807 := by
    have hv := hval 1 34 v1 rfl rfl
    simp only [Value.okWide, Try.underlying34] at hv
    obtain ⟨a, l, c, rfl⟩ := okWide_slice Try.underlying34 (hval 1 34 v1 rfl rfl)
    obtain ⟨m, hm⟩ := k1
    exact rl_ops Try.underlying34 Try.underlying101 Try.underlying99 (by kernel_rfl) (by kernel_rfl) (by kernel_rfl) (by kernel_rfl) Try.underlying3 Try.underlying3 Try.underlying3 (by kernel_rfl) (by kernel_rfl) (by kernel_rfl) (by kernel_rfl) cells101 hv (by simpa [Value.cells] using hm)
  clear hA0 hval0
  refine (Tri.holds0 (v := .bool true) (l_ExactLivesOf W a0 v1 xs1 rl1 ll1) (fun _ _ h => h)).mono fun e W' ⟨he, bel⟩ => ?_
  subst he
  exact ⟨_, rfl, _, _, _, [], _, [], hW', trodAll_mk1 (shut_bool Try.underlying4 _), (trodAll_cons_mk (shut_int Try.underlying3 w0) (trodAll_cons_mk (Below.trod laidOut (by kernel_rfl) (of_decide_eq_true (by kernel_rfl)) k1 bel lt1) trodAll_mk0)), rfl, bel.frame _, fun h => by cases h⟩
theorem over : Rows.fnExactLivesOfRow.holds Try.pinned (OpenSpec.ofChange Rows.fnExactLivesOfSpec) :=
  OpenClaim.holds_of_wide 14 Try.f14 rfl rfl rfl rfl rfl rfl rfl ⟨rfl, rfl, rfl, rfl, rfl⟩ rfl rfl rfl rfl rfl (by kernel_rfl) Try.func14 (by unfold joinedFacts; rw [initMay, initLift, initMake]; kernel_rfl)
    (of_decide_eq_true (by kernel_rfl)) (by unfold Func.isWrapper; first | (rw [if_pos (by decide +kernel)]; kernel_rfl) | (rw [if_neg (by decide +kernel)]; exact ⟨rfl, rfl⟩))
    (fun os started H enc _ => lifted os started H enc)
/-- The statement. -/
theorem proved : Rows.FnExactLivesOfSaid := over
end Go.Proofs.Ytfigegmgopnfhaa.ZfnExactLivesOf
