/- The law FnSafeParts: its walk. Conditions: those of the theorem. -/
import Derived.Test.YtocifflamgnhaaaLPartsOf
import Derived.Test.YtocifflamgnhaaaLSafeTogether
namespace Go.Proofs.Ytocifflamgnhaaa
open Go
theorem bne_same (d : Bool) : (d != d) = false := by cases d <;> rfl
theorem safe_lab {n : Int} {es : List E} (hg : GV n es) {k j : Nat} (hk : Nd n k) (hj : Nd n j) : (labs n (bare n es)).getD k 0 = (labs n (bare n es)).getD j 0 ↔ CN n es k j ∧ btw n es k j = [] := by
  rw [← STg_iff]
  exact ⟨fun h => ⟨hg, hk, hj, h⟩, fun h => h.2.2.2⟩
set_option linter.unusedVariables false set_option linter.unusedSimpArgs false attribute [local irreducible] Tok.own Tok.blk RL Rd eptr WP WPL PE WPD WPO Op1 OpE Tri Again Mid Exit.then Exit.inBlock bodyPost RP Code.wp wpList isOwn OneM One
attribute [local irreducible] CN
set_option maxHeartbeats 8000000

theorem l_SafeParts (w : World) (v : Value) (bs : List UInt8) (h : RL w v bs) (hl : bs.length ≤ 9223372036854775807) :
    Tri Try.prog 12 [v] w [] fun r T => r = .bool true := by
  refine Tri.intro (hf := Try.func12) (hb := rfl) (hn := Try.ntmps12) (Nat.le_of_ble_eq_true rfl) ?_
  repeat' (first | exact absurd rfl hc | refine go ⟨?_⟩ | (refine isCond ?_; refine WP.condD rfl (fun hc => ?_) (fun hc => ?_)) | (refine isGuard ?_; refine WPL.splitD rfl rfl (fun hc => ?_) (fun hc => ?_)))
  · refine PE.ret1 (T := []) (T' := []) rfl rV ?_ sT
    rfl
  refine WPL.eff (OpE.call lO (fun w hw => g_SafeParts _ v bs (Rd.at rD hw) hl)) rfl rfl ?_
  rintro r _ ⟨T, ⟨u, n, es, rfl, rfl, hle⟩, rfl⟩
  try refine go ⟨?_⟩
  refine WPL.eff OpE.alloc rfl rfl ?_; rintro _ _ ⟨bt, rfl, rfl⟩
  try refine go ⟨?_⟩
  refine WPL.eff (OpE.call lO (fun w hw => u_SafeParts _ n u es (Rd.at rD hw) (by omega))) rfl rfl ?_
  rintro r _ ⟨T, rfl, rfl⟩
  try refine go ⟨?_⟩
  refine WPL.eff (OpE.call lO (fun w hw => v_SafeParts _ n u es (Rd.at rD hw) (by omega))) rfl rfl ?_
  rintro r2 _ ⟨T, rfl, rfl⟩
  by_cases hg : GV n es
  case neg =>
    rw [if_neg hg]
    try refine go ⟨?_⟩
    refine WPL.eff (OpE.call lO (fun w hw => y_Ints _ r r2 [] [] (Rd.at rD hw) (Rd.at rD hw) (by decide) (by decide))) rfl rfl ?_
    rintro _ _ ⟨T, ⟨rfl, rfl⟩, rfl⟩
    rw [deq_int]
    repeat' (first | exact absurd rfl hc | refine go ⟨?_⟩ | (refine isCond ?_; refine WP.condD rfl (fun hc => ?_) (fun hc => ?_)) | (refine isGuard ?_; refine WPL.splitD rfl rfl (fun hc => ?_) (fun hc => ?_)))
    refine WPL.eff (OpE.call lO (fun w hw => c_GraphValid _ n u es (Rd.at rD hw) (by omega))) rfl rfl ?_
    rintro _ _ ⟨T, ⟨rfl, rfl⟩, rfl⟩
    rw [decide_eq_false hg]
    repeat' (first | exact absurd rfl hc | refine go ⟨?_⟩ | (refine isCond ?_; refine WP.condD rfl (fun hc => ?_) (fun hc => ?_)) | (refine isGuard ?_; refine WPL.splitD rfl rfl (fun hc => ?_) (fun hc => ?_)))
    refine WPL.eff (OpE.call lO (fun w hw => v_SafeParts _ n u es (Rd.at rD hw) (by omega))) rfl rfl ?_
    rintro r3 _ ⟨T, rfl, rfl⟩
    rw [if_neg hg]
    try refine go ⟨?_⟩
    refine WPL.eff (OpE.call lO (fun w hw => y_Ints _ r r3 [] [] (Rd.at rD hw) (Rd.at rD hw) (by decide) (by decide))) rfl rfl ?_
    rintro _ _ ⟨T, ⟨rfl, rfl⟩, rfl⟩
    rw [deq_int]
    repeat' (first | exact absurd rfl hc | refine go ⟨?_⟩ | (refine isCond ?_; refine WP.condD rfl (fun hc => ?_) (fun hc => ?_)) | (refine isGuard ?_; refine WPL.splitD rfl rfl (fun hc => ?_) (fun hc => ?_)))
    refine PE.ret1 (T := []) (T' := []) rfl rV ?_ sT
    rfl
  have hll := labs_length n (bare n es)
  have hn1 := hg.ne.n1
  have hn2 := hg.ne.n2
  rw [if_pos hg]
  try refine go ⟨?_⟩
  refine WPL.eff (OpE.call lO (fun w hw => y_Ints _ r r2 (labs n (bare n es)) (labs n (bare n es)) (Rd.at rD hw) (Rd.at rD hw) (by omega) (by omega))) rfl rfl ?_
  rintro _ _ ⟨T, ⟨rfl, rfl⟩, rfl⟩
  rw [deq_int]
  repeat' (first | exact absurd rfl hc | refine go ⟨?_⟩ | (refine isCond ?_; refine WP.condD rfl (fun hc => ?_) (fun hc => ?_)) | (refine isGuard ?_; refine WPL.splitD rfl rfl (fun hc => ?_) (fun hc => ?_)))
  refine WPL.eff (OpE.call lO (fun w hw => c_GraphValid _ n u es (Rd.at rD hw) (by omega))) rfl rfl ?_
  rintro _ _ ⟨T, ⟨rfl, rfl⟩, rfl⟩
  rw [decide_eq_true hg]
  repeat' (first | exact absurd rfl hc | refine go ⟨?_⟩ | (refine isCond ?_; refine WP.condD rfl (fun hc => ?_) (fun hc => ?_)) | (refine isGuard ?_; refine WPL.splitD rfl rfl (fun hc => ?_) (fun hc => ?_)))
  refine WP.loop (σ := Nat) (fun k => [(3, ptrV bt), (4, r), (5, .int .i64 k)]) (fun _ => [Tok.own r (labs n (bare n es)), Tok.blk bt [.int .i64 n, u], Tok.own u es]) (fun k => k ≤ n.toNat) (fun k => n.toNat - k) 0 (Nat.zero_le _) sE sT2 ?_
  rintro k hk
  try refine go ⟨?_⟩
  refine WP.condD rfl (fun hc => ?_) (fun hc => ?_)
  · have hk' : k < n.toNat := by omega
    try refine go ⟨?_⟩
    refine WP.loop (σ := Nat) (fun j => [(3, ptrV bt), (4, r), (5, .int .i64 k), (6, .int .i64 j)]) (fun _ => [Tok.own r (labs n (bare n es)), Tok.blk bt [.int .i64 n, u], Tok.own u es]) (fun j => j ≤ k) (fun j => k - j) 0 (Nat.zero_le _) sE sT2 ?_
    rintro j hj
    try refine go ⟨?_⟩
    refine WP.condD rfl (fun hc2 => ?_) (fun hc2 => ?_)
    · have hj' : j < k := by omega
      have hsl := safe_lab hg (k := k) (j := j) ⟨by omega, by omega⟩ ⟨by omega, by omega⟩
      have hbl : (btw n es k j).length ≤ es.length := List.length_filter_le _ _
      try refine go ⟨?_⟩
      refine WPL.eff (OpE.call lO (fun w hw => u_BridgesBetween _ n u es k j (Rd.at rD hw) (by omega))) rfl rfl ?_
      rintro _ _ ⟨T, ⟨q, rfl, rfl⟩, rfl⟩
      by_cases hb : CN n es k j
      · rw [if_pos hb, decide_eq_true hb]
        have e1 : decide (((btw n es k j).length : Int) = 0) = decide ((labs n (bare n es)).getD k 0 = (labs n (bare n es)).getD j 0) := by
          rw [decide_eq_decide, hsl]
          exact ⟨fun h => ⟨hb, List.eq_nil_of_length_eq_zero (by omega)⟩, fun h => by rw [h.2]; rfl⟩
        try refine go ⟨?_⟩
        refine WP.draw [Tok.own r (labs n (bare n es)), Tok.own q (btw n es k j)] mixed ?_
        refine WPD.take 0 rfl (Op1.move rfl) rfl rfl sT kR kR kR xQP ?_
        refine WPD.take 6 rfl (Op1.move rfl) rfl rfl sT kR kR kR xQP ?_
        refine WPD.take 7 rfl (Op1.move rfl) rfl rfl sT kR kR kR xQP ?_
        refine WPD.take 10 rfl (Op1.move rfl) rfl rfl sT kR kR kR xQP ?_
        refine WPD.take 11 rfl (Op1.move rfl) rfl rfl sT kR kR kR xQP ?_
        refine WPD.take 1 rfl (Op1.move rfl) rfl rfl sT kR kR kR xQP ?_
        refine WPD.take 8 rfl (by first | exact (Op1.indexAddr rfl rfl rD lT) | exact (Op1.indexAddrZ rfl rfl rD lT)) rfl rfl sT kR kR kR xQP ?_
        refine WPD.take 12 rfl (by first | exact (Op1.indexAddr rfl rfl rD lT) | exact (Op1.indexAddrZ rfl rfl rD lT)) rfl rfl sT kR kR kR xQP ?_
        refine WPD.take 9 rfl (by first | exact (Op1.load rfl mM (by rfl)) | exact (Op1.loadI rfl rD lT) | exact (Op1.loadAll rfl mM (by rfl)) | exact (Op1.loadE rfl rD lT (by rfl)) | exact (Op1.loadEAgg rfl rD lT (by rfl))) rfl rfl sT kR kR kR xQP ?_
        refine WPD.take 13 rfl (by first | exact (Op1.load rfl mM (by rfl)) | exact (Op1.loadI rfl rD lT) | exact (Op1.loadAll rfl mM (by rfl)) | exact (Op1.loadE rfl rD lT (by rfl)) | exact (Op1.loadEAgg rfl rD lT (by rfl))) rfl rfl sT kR kR kR xQP ?_
        refine WPD.take 14 rfl (by first | exact (Op1.eqI rfl rfl) | exact (Op1.eqB rfl rfl) | exact (Op1.eqE rfl rfl) | exact (Op1.eqNil rfl rD)) rfl rfl sT kR kR kR xQP ?_
        first | refine WPD.splitD 54 rfl (fun h54 => ?t1) (fun h54 => ?f1) | refine WPD.split 54 rfl (fun h54 => ?t1) (fun h54 => ?f1)
        case' t1 =>
          refine WPD.take 2 rfl (Op1.move rfl) rfl rfl sT kR kR kR xQP ?_
          refine WPD.take 3 rfl (Op1.len rfl rD) rfl rfl sT kR kR kR xQP ?_
          refine WPD.take 4 rfl (by first | exact (Op1.eqI rfl rfl) | exact (Op1.eqB rfl rfl) | exact (Op1.eqE rfl rfl) | exact (Op1.eqNil rfl rD)) rfl rfl sT kR kR kR xQP ?_
          refine WPD.take 5 rfl (by first | exact (Op1.pickT rfl rfl) | exact (Op1.pickF rfl rfl)) rfl rfl sT kR kR kR xQP ?_
          refine WPD.take 15 rfl (by first | exact (Op1.neI rfl rfl) | exact (Op1.neB rfl rfl) | exact (Op1.neE rfl rfl)) rfl rfl sT kR kR kR xQP ?_
          refine WPD.done kR ?_
        case' f1 =>
          refine WPD.skip 2 rfl rfl rfl sT kR kR kR xQP ?_
          refine WPD.skip 3 rfl rfl rfl sT kR kR kR xQP ?_
          refine WPD.skip 4 rfl rfl rfl sT kR kR kR xQP ?_
          refine WPD.take 5 rfl (by first | exact (Op1.pickT rfl rfl) | exact (Op1.pickF rfl rfl)) rfl rfl sT kR kR kR xQP ?_
          refine WPD.take 15 rfl (by first | exact (Op1.neI rfl rfl) | exact (Op1.neB rfl rfl) | exact (Op1.neE rfl rfl)) rfl rfl sT kR kR kR xQP ?_
          refine WPD.done kR ?_
        all_goals first
          | exact absurd ‹true = false› (by decide)
          | (rw [e1, bne_same]
             try refine go ⟨?_⟩
             refine PE.again (j + 1) ?_ ?_ sE sT2
             · (try dsimp only); omega
             · (try dsimp only); omega)
      · rw [if_neg hb, decide_eq_false hb]
        have e1 : decide ((labs n (bare n es)).getD k 0 = (labs n (bare n es)).getD j 0) = false := decide_eq_false fun h => hb (hsl.1 h).1
        try refine go ⟨?_⟩
        refine WP.draw [Tok.own r (labs n (bare n es)), Tok.own q ([] : List E)] mixed ?_
        refine WPD.take 0 rfl (Op1.move rfl) rfl rfl sT kR kR kR xQP ?_
        refine WPD.take 6 rfl (Op1.move rfl) rfl rfl sT kR kR kR xQP ?_
        refine WPD.take 7 rfl (Op1.move rfl) rfl rfl sT kR kR kR xQP ?_
        refine WPD.take 10 rfl (Op1.move rfl) rfl rfl sT kR kR kR xQP ?_
        refine WPD.take 11 rfl (Op1.move rfl) rfl rfl sT kR kR kR xQP ?_
        refine WPD.take 1 rfl (Op1.move rfl) rfl rfl sT kR kR kR xQP ?_
        refine WPD.take 8 rfl (by first | exact (Op1.indexAddr rfl rfl rD lT) | exact (Op1.indexAddrZ rfl rfl rD lT)) rfl rfl sT kR kR kR xQP ?_
        refine WPD.take 12 rfl (by first | exact (Op1.indexAddr rfl rfl rD lT) | exact (Op1.indexAddrZ rfl rfl rD lT)) rfl rfl sT kR kR kR xQP ?_
        refine WPD.take 9 rfl (by first | exact (Op1.load rfl mM (by rfl)) | exact (Op1.loadI rfl rD lT) | exact (Op1.loadAll rfl mM (by rfl)) | exact (Op1.loadE rfl rD lT (by rfl)) | exact (Op1.loadEAgg rfl rD lT (by rfl))) rfl rfl sT kR kR kR xQP ?_
        refine WPD.take 13 rfl (by first | exact (Op1.load rfl mM (by rfl)) | exact (Op1.loadI rfl rD lT) | exact (Op1.loadAll rfl mM (by rfl)) | exact (Op1.loadE rfl rD lT (by rfl)) | exact (Op1.loadEAgg rfl rD lT (by rfl))) rfl rfl sT kR kR kR xQP ?_
        refine WPD.take 14 rfl (by first | exact (Op1.eqI rfl rfl) | exact (Op1.eqB rfl rfl) | exact (Op1.eqE rfl rfl) | exact (Op1.eqNil rfl rD)) rfl rfl sT kR kR kR xQP ?_
        first | refine WPD.splitD 54 rfl (fun h54 => ?t2) (fun h54 => ?f2) | refine WPD.split 54 rfl (fun h54 => ?t2) (fun h54 => ?f2)
        case' t2 =>
          refine WPD.take 2 rfl (Op1.move rfl) rfl rfl sT kR kR kR xQP ?_
          refine WPD.take 3 rfl (Op1.len rfl rD) rfl rfl sT kR kR kR xQP ?_
          refine WPD.take 4 rfl (by first | exact (Op1.eqI rfl rfl) | exact (Op1.eqB rfl rfl) | exact (Op1.eqE rfl rfl) | exact (Op1.eqNil rfl rD)) rfl rfl sT kR kR kR xQP ?_
          refine WPD.take 5 rfl (by first | exact (Op1.pickT rfl rfl) | exact (Op1.pickF rfl rfl)) rfl rfl sT kR kR kR xQP ?_
          refine WPD.take 15 rfl (by first | exact (Op1.neI rfl rfl) | exact (Op1.neB rfl rfl) | exact (Op1.neE rfl rfl)) rfl rfl sT kR kR kR xQP ?_
          refine WPD.done kR ?_
        case' f2 =>
          refine WPD.skip 2 rfl rfl rfl sT kR kR kR xQP ?_
          refine WPD.skip 3 rfl rfl rfl sT kR kR kR xQP ?_
          refine WPD.skip 4 rfl rfl rfl sT kR kR kR xQP ?_
          refine WPD.take 5 rfl (by first | exact (Op1.pickT rfl rfl) | exact (Op1.pickF rfl rfl)) rfl rfl sT kR kR kR xQP ?_
          refine WPD.take 15 rfl (by first | exact (Op1.neI rfl rfl) | exact (Op1.neB rfl rfl) | exact (Op1.neE rfl rfl)) rfl rfl sT kR kR kR xQP ?_
          refine WPD.done kR ?_
        all_goals first
          | exact absurd ‹false = true› (by decide)
          | (rw [e1]
             try refine go ⟨?_⟩
             refine PE.again (j + 1) ?_ ?_ sE sT2
             · (try dsimp only); omega
             · (try dsimp only); omega)
    try refine go ⟨?_⟩
    refine PE.again (k + 1) ?_ ?_ sE sT2
    · (try dsimp only); omega
    · (try dsimp only); omega
  try refine go ⟨?_⟩
  refine PE.ret1 (T := []) (T' := []) rfl rV ?_ sT
  exact congrArg Value.bool (decide_eq_true (by omega))
end Go.Proofs.Ytocifflamgnhaaa
