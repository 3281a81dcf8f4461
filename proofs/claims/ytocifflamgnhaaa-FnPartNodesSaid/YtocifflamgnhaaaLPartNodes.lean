/- The law FnPartNodes: its walk. Conditions: those of the theorem. -/
import Derived.Test.YtocifflamgnhaaaLPartsOf
namespace Go.Proofs.Ytocifflamgnhaaa
open Go
theorem pns_len (n : Int) (es : List E) (x : Int) : (pns n es x).length ≤ n.toNat := by
  have := List.length_filter_le (fun k => decide (lab n es k = lab n es x)) (iota n.toNat)
  rw [iota_length] at this; exact this
set_option linter.unusedVariables false set_option linter.unusedSimpArgs false attribute [local irreducible] Tok.own Tok.blk RL Rd eptr WP WPL PE WPD WPO Op1 OpE Tri Again Mid Exit.then Exit.inBlock bodyPost RP Code.wp wpList isOwn OneM One
attribute [local irreducible] CN
set_option maxHeartbeats 8000000

theorem l_PartNodes (w : World) (v : Value) (bs : List UInt8) (h : RL w v bs) (hl : bs.length ≤ 9223372036854775807) :
    Tri Try.prog 7 [v] w [] fun r T => r = .bool true := by
  refine Tri.intro (hf := Try.func7) (hb := rfl) (hn := Try.ntmps7) (Nat.le_of_ble_eq_true rfl) ?_
  repeat' (first | exact absurd rfl hc | refine go ⟨?_⟩ | (refine isCond ?_; refine WP.condD rfl (fun hc => ?_) (fun hc => ?_)) | (refine isGuard ?_; refine WPL.splitD rfl rfl (fun hc => ?_) (fun hc => ?_)))
  · refine PE.ret1 (T := []) (T' := []) rfl rV ?_ sT
    rfl
  refine WPL.eff (OpE.call lO (fun w hw => g_PartNodes _ v bs (Rd.at rD hw) hl)) rfl rfl ?_
  rintro r _ ⟨T, ⟨u, n, es, x, rfl, rfl, hle, _⟩, rfl⟩
  try refine go ⟨?_⟩
  refine WPL.eff OpE.alloc rfl rfl ?_; rintro _ _ ⟨bt, rfl, rfl⟩
  try refine go ⟨?_⟩
  refine WPL.eff (OpE.call lO (fun w hw => u_PartNodes _ n u es x (Rd.at rD hw) (by omega))) rfl rfl ?_
  rintro r _ ⟨T, rfl, rfl⟩
  try refine go ⟨?_⟩
  refine WPL.eff (OpE.call lO (fun w hw => v_PartNodes _ n u es x (Rd.at rD hw) (by omega))) rfl rfl ?_
  rintro r2 _ ⟨T, rfl, rfl⟩
  by_cases hgn : GN n es x
  case neg =>
    rw [if_neg hgn]
    try refine go ⟨?_⟩
    refine WPL.eff (OpE.call lO (fun w hw => y_Ints _ r r2 [] [] (Rd.at rD hw) (Rd.at rD hw) (by decide) (by decide))) rfl rfl ?_
    rintro _ _ ⟨T, ⟨rfl, rfl⟩, rfl⟩
    rw [deq_int]
    repeat' (first | exact absurd rfl hc | refine go ⟨?_⟩ | (refine isCond ?_; refine WP.condD rfl (fun hc => ?_) (fun hc => ?_)) | (refine isGuard ?_; refine WPL.splitD rfl rfl (fun hc => ?_) (fun hc => ?_)))
    refine WPL.eff (OpE.call lO (fun w hw => c_GraphValid _ n u es (Rd.at rD hw) (by omega))) rfl rfl ?_
    rintro _ _ ⟨T, ⟨rfl, rfl⟩, rfl⟩
    by_cases hg : GV n es
    · rw [decide_eq_true hg]
      try refine go ⟨?_⟩
      by_cases hx0 : x < 0
      · rw [decide_eq_true hx0]
        try refine go ⟨?_⟩
        refine WPL.eff (OpE.call lO (fun w hw => v_PartNodes _ n u es x (Rd.at rD hw) (by omega))) rfl rfl ?_
        rintro r3 _ ⟨T, rfl, rfl⟩
        rw [if_neg hgn]
        try refine go ⟨?_⟩
        refine WPL.eff (OpE.call lO (fun w hw => y_Ints _ r r3 [] [] (Rd.at rD hw) (Rd.at rD hw) (by decide) (by decide))) rfl rfl ?_
        rintro _ _ ⟨T, ⟨rfl, rfl⟩, rfl⟩
        rw [deq_int]
        try refine go ⟨?_⟩
        refine PE.ret1 (T := []) (T' := []) rfl rV ?_ sT
        rfl
      · rw [decide_eq_false hx0]
        try refine go ⟨?_⟩
        rw [decide_eq_true (show x ≥ n from Classical.byContradiction fun h => hgn ⟨hg, by omega, by omega⟩)]
        try refine go ⟨?_⟩
        refine WPL.eff (OpE.call lO (fun w hw => v_PartNodes _ n u es x (Rd.at rD hw) (by omega))) rfl rfl ?_
        rintro r3 _ ⟨T, rfl, rfl⟩
        rw [if_neg hgn]
        try refine go ⟨?_⟩
        refine WPL.eff (OpE.call lO (fun w hw => y_Ints _ r r3 [] [] (Rd.at rD hw) (Rd.at rD hw) (by decide) (by decide))) rfl rfl ?_
        rintro _ _ ⟨T, ⟨rfl, rfl⟩, rfl⟩
        rw [deq_int]
        try refine go ⟨?_⟩
        refine PE.ret1 (T := []) (T' := []) rfl rV ?_ sT
        rfl
    · rw [decide_eq_false hg]
      try refine go ⟨?_⟩
      refine WPL.eff (OpE.call lO (fun w hw => v_PartNodes _ n u es x (Rd.at rD hw) (by omega))) rfl rfl ?_
      rintro r3 _ ⟨T, rfl, rfl⟩
      rw [if_neg hgn]
      try refine go ⟨?_⟩
      refine WPL.eff (OpE.call lO (fun w hw => y_Ints _ r r3 [] [] (Rd.at rD hw) (Rd.at rD hw) (by decide) (by decide))) rfl rfl ?_
      rintro _ _ ⟨T, ⟨rfl, rfl⟩, rfl⟩
      rw [deq_int]
      try refine go ⟨?_⟩
      refine PE.ret1 (T := []) (T' := []) rfl rV ?_ sT
      rfl
  obtain ⟨hg, hx1, hx2⟩ := id hgn
  have hll := pns_len n es x
  have hn1 := hg.ne.n1
  have hn2 := hg.ne.n2
  rw [if_pos hgn]
  try refine go ⟨?_⟩
  refine WPL.eff (OpE.call lO (fun w hw => y_Ints _ r r2 (pns n es x) (pns n es x) (Rd.at rD hw) (Rd.at rD hw) (by omega) (by omega))) rfl rfl ?_
  rintro _ _ ⟨T, ⟨rfl, rfl⟩, rfl⟩
  rw [deq_int]
  repeat' (first | exact absurd rfl hc | refine go ⟨?_⟩ | (refine isCond ?_; refine WP.condD rfl (fun hc => ?_) (fun hc => ?_)) | (refine isGuard ?_; refine WPL.splitD rfl rfl (fun hc => ?_) (fun hc => ?_)))
  refine WPL.eff (OpE.call lO (fun w hw => c_GraphValid _ n u es (Rd.at rD hw) (by omega))) rfl rfl ?_
  rintro _ _ ⟨T, ⟨rfl, rfl⟩, rfl⟩
  rw [decide_eq_true hg]
  try refine go ⟨?_⟩
  rw [decide_eq_false (show ¬ x < 0 by omega)]
  try refine go ⟨?_⟩
  rw [decide_eq_false (show ¬ x ≥ n by omega)]
  repeat' (first | exact absurd rfl hc | refine go ⟨?_⟩ | (refine isCond ?_; refine WP.condD rfl (fun hc => ?_) (fun hc => ?_)) | (refine isGuard ?_; refine WPL.splitD rfl rfl (fun hc => ?_) (fun hc => ?_)))
  refine WP.loop (σ := Nat) (fun k => [(3, ptrV bt), (4, .int .i64 x), (5, r), (6, .int .i64 k)]) (fun _ => [Tok.own r (pns n es x), Tok.blk bt [.int .i64 n, u], Tok.own u es]) (fun k => k ≤ n.toNat) (fun k => n.toNat - k) 0 (Nat.zero_le _) sE sT2 ?_
  rintro k hk
  try refine go ⟨?_⟩
  refine WP.condD rfl (fun hc => ?_) (fun hc => ?_)
  · have hk' : k < n.toNat := by omega
    have hgk : GN n es k := ⟨hg, by omega, by omega⟩
    try refine go ⟨?_⟩
    refine WPL.eff (OpE.call lO (fun w hw => u_PartNodes _ n u es k (Rd.at rD hw) (by omega))) rfl rfl ?_
    rintro p _ ⟨T, rfl, rfl⟩
    rw [if_pos hgk]
    have hpu := pns_len n es k
    have q1 : (k : Int) ∈ pns n es x ↔ lab n es k = lab n es x := (mem_pns (by omega)).trans ⟨fun h => h.2, fun h => ⟨hgk.2, h⟩⟩
    have q2 : pns n es k = pns n es x ↔ lab n es k = lab n es x := pns_eq_iff hgk.2 hgn.2
    have q3 : CN n es x k ↔ lab n es k = lab n es x := by
      unfold CN cn
      exact ⟨fun h => h.2.2.2.symm, fun h => ⟨hg, hgn.2, hgk.2, h.symm⟩⟩
    have e2 : decide (pns n es k = pns n es x) = decide ((k : Int) ∈ pns n es x) := by rw [decide_eq_decide]; exact q2.trans q1.symm
    have e3 : decide (CN n es x k) = decide ((k : Int) ∈ pns n es x) := by rw [decide_eq_decide]; exact q3.trans q1.symm
    try refine go ⟨?_⟩
    cases hd : decide ((k : Int) ∈ pns n es x)
    · rw [hd] at e2 e3
      refine WP.draw [Tok.own p (pns n es k), Tok.own r (pns n es x), Tok.blk bt [.int .i64 n, u], Tok.own u es] mixed ?_
      refine WPD.take 0 rfl (Op1.move rfl) rfl rfl sT kR kR kR xQP ?_
      refine WPD.take 1 rfl (Op1.move rfl) rfl rfl sT kR kR kR xQP ?_
      refine WPD.take 3 rfl (Op1.move rfl) rfl rfl sT kR kR kR xQP ?_
      refine WPD.take 4 rfl (Op1.move rfl) rfl rfl sT kR kR kR xQP ?_
      refine WPD.eff 2 kR rfl (OpE.call lO (fun w hw => y_In _ r k (pns n es x) (Rd.at rD hw) (by omega))) rfl rfl ?_
      rintro r _ ⟨T, ⟨rfl, rfl⟩, rfl⟩
      rw [hd]
      refine ⟨sT, ?_⟩
      refine WPD.eff 5 kR rfl (OpE.call lO (fun w hw => y_Ints _ p r (pns n es k) (pns n es x) (Rd.at rD hw) (Rd.at rD hw) (by omega) (by omega))) rfl rfl ?_
      rintro r _ ⟨T, ⟨rfl, rfl⟩, rfl⟩
      rw [e2]
      refine ⟨sT, ?_⟩
      refine WPD.take 6 rfl (by first | exact (Op1.neI rfl rfl) | exact (Op1.neB rfl rfl) | exact (Op1.neE rfl rfl)) rfl rfl sT kR kR kR xQP ?_
      refine WPD.take 7 rfl (Op1.move rfl) rfl rfl sT kR kR kR xQP ?_
      first | refine WPD.splitD 66 rfl (fun h66 => ?t1) (fun h66 => ?f1) | refine WPD.split 66 rfl (fun h66 => ?t1) (fun h66 => ?f1)
      case' t1 =>
        refine WPD.skip 8 rfl rfl rfl sT kR kR kR xQP ?_
        refine WPD.skip 9 rfl rfl rfl sT kR kR kR xQP ?_
        refine WPD.skip 11 rfl rfl rfl sT kR kR kR xQP ?_
        refine WPD.skip 12 rfl rfl rfl sT kR kR kR xQP ?_
        refine WPD.skip 13 rfl rfl rfl sT kR kR kR xQP ?_
        refine WPD.skip 10 rfl rfl rfl sT kR kR kR xQP ?_
        refine WPD.skip 14 rfl rfl rfl sT kR kR kR xQP ?_
        refine WPD.skip 15 rfl rfl rfl sT kR kR kR xQP ?_
        refine WPD.eff 16 kR rfl (OpE.ofPure (by first | exact (Op1.pickT rfl rfl) | exact (Op1.pickF rfl rfl))) rfl rfl ?_
        rintro _ _ ⟨rfl, rfl⟩
        refine ⟨sT, ?_⟩
        refine WPD.done kR ?_
      case' f1 =>
        refine WPD.take 8 rfl (Op1.move rfl) rfl rfl sT kR kR kR xQP ?_
        refine WPD.take 9 rfl (Op1.move rfl) rfl rfl sT kR kR kR xQP ?_
        refine WPD.take 11 rfl (by first | exact (Op1.load rfl mM (by rfl)) | exact (Op1.loadI rfl rD lT) | exact (Op1.loadAll rfl mM (by rfl)) | exact (Op1.loadE rfl rD lT (by rfl)) | exact (Op1.loadEAgg rfl rD lT (by rfl))) rfl rfl sT kR kR kR xQP ?_
        refine WPD.take 12 rfl (Op1.move rfl) rfl rfl sT kR kR kR xQP ?_
        refine WPD.take 13 rfl (Op1.move rfl) rfl rfl sT kR kR kR xQP ?_
        refine WPD.eff 10 kR rfl (OpE.call lO (fun w hw => y_In _ r k (pns n es x) (Rd.at rD hw) (by omega))) rfl rfl ?_
        rintro r _ ⟨T, ⟨rfl, rfl⟩, rfl⟩
        rw [hd]
        refine ⟨sT, ?_⟩
        refine WPD.eff 14 kR rfl (OpE.call lO (fun w hw => c_Connected _ n u es x k (Rd.at rD hw) (by omega))) rfl rfl ?_
        rintro r _ ⟨T, ⟨rfl, rfl⟩, rfl⟩
        rw [e3]
        refine ⟨sT, ?_⟩
        refine WPD.eff 15 kR rfl (OpE.ofPure (by first | exact (Op1.neI rfl rfl) | exact (Op1.neB rfl rfl) | exact (Op1.neE rfl rfl))) rfl rfl ?_
        rintro _ _ ⟨rfl, rfl⟩
        refine ⟨sT, ?_⟩
        refine WPD.eff 16 kR rfl (OpE.ofPure (by first | exact (Op1.pickT rfl rfl) | exact (Op1.pickF rfl rfl))) rfl rfl ?_
        rintro _ _ ⟨rfl, rfl⟩
        refine ⟨sT, ?_⟩
        refine WPD.done kR ?_
      · repeat' (first | exact absurd rfl hc | refine go ⟨?_⟩ | (refine isCond ?_; refine WP.condD rfl (fun hc => ?_) (fun hc => ?_)) | (refine isGuard ?_; refine WPL.splitD rfl rfl (fun hc => ?_) (fun hc => ?_)))
        refine PE.again (k + 1) ?_ ?_ sE sT2
        · (try dsimp only); omega
        · (try dsimp only); omega
      · exact absurd ‹_› (by decide)
    · rw [hd] at e2 e3
      refine WP.draw [Tok.own p (pns n es k), Tok.own r (pns n es x), Tok.blk bt [.int .i64 n, u], Tok.own u es] mixed ?_
      refine WPD.take 0 rfl (Op1.move rfl) rfl rfl sT kR kR kR xQP ?_
      refine WPD.take 1 rfl (Op1.move rfl) rfl rfl sT kR kR kR xQP ?_
      refine WPD.take 3 rfl (Op1.move rfl) rfl rfl sT kR kR kR xQP ?_
      refine WPD.take 4 rfl (Op1.move rfl) rfl rfl sT kR kR kR xQP ?_
      refine WPD.eff 2 kR rfl (OpE.call lO (fun w hw => y_In _ r k (pns n es x) (Rd.at rD hw) (by omega))) rfl rfl ?_
      rintro r _ ⟨T, ⟨rfl, rfl⟩, rfl⟩
      rw [hd]
      refine ⟨sT, ?_⟩
      refine WPD.eff 5 kR rfl (OpE.call lO (fun w hw => y_Ints _ p r (pns n es k) (pns n es x) (Rd.at rD hw) (Rd.at rD hw) (by omega) (by omega))) rfl rfl ?_
      rintro r _ ⟨T, ⟨rfl, rfl⟩, rfl⟩
      rw [e2]
      refine ⟨sT, ?_⟩
      refine WPD.take 6 rfl (by first | exact (Op1.neI rfl rfl) | exact (Op1.neB rfl rfl) | exact (Op1.neE rfl rfl)) rfl rfl sT kR kR kR xQP ?_
      refine WPD.take 7 rfl (Op1.move rfl) rfl rfl sT kR kR kR xQP ?_
      first | refine WPD.splitD 66 rfl (fun h66 => ?t2) (fun h66 => ?f2) | refine WPD.split 66 rfl (fun h66 => ?t2) (fun h66 => ?f2)
      case' t2 =>
        refine WPD.skip 8 rfl rfl rfl sT kR kR kR xQP ?_
        refine WPD.skip 9 rfl rfl rfl sT kR kR kR xQP ?_
        refine WPD.skip 11 rfl rfl rfl sT kR kR kR xQP ?_
        refine WPD.skip 12 rfl rfl rfl sT kR kR kR xQP ?_
        refine WPD.skip 13 rfl rfl rfl sT kR kR kR xQP ?_
        refine WPD.skip 10 rfl rfl rfl sT kR kR kR xQP ?_
        refine WPD.skip 14 rfl rfl rfl sT kR kR kR xQP ?_
        refine WPD.skip 15 rfl rfl rfl sT kR kR kR xQP ?_
        refine WPD.eff 16 kR rfl (OpE.ofPure (by first | exact (Op1.pickT rfl rfl) | exact (Op1.pickF rfl rfl))) rfl rfl ?_
        rintro _ _ ⟨rfl, rfl⟩
        refine ⟨sT, ?_⟩
        refine WPD.done kR ?_
      case' f2 =>
        refine WPD.take 8 rfl (Op1.move rfl) rfl rfl sT kR kR kR xQP ?_
        refine WPD.take 9 rfl (Op1.move rfl) rfl rfl sT kR kR kR xQP ?_
        refine WPD.take 11 rfl (by first | exact (Op1.load rfl mM (by rfl)) | exact (Op1.loadI rfl rD lT) | exact (Op1.loadAll rfl mM (by rfl)) | exact (Op1.loadE rfl rD lT (by rfl)) | exact (Op1.loadEAgg rfl rD lT (by rfl))) rfl rfl sT kR kR kR xQP ?_
        refine WPD.take 12 rfl (Op1.move rfl) rfl rfl sT kR kR kR xQP ?_
        refine WPD.take 13 rfl (Op1.move rfl) rfl rfl sT kR kR kR xQP ?_
        refine WPD.eff 10 kR rfl (OpE.call lO (fun w hw => y_In _ r k (pns n es x) (Rd.at rD hw) (by omega))) rfl rfl ?_
        rintro r _ ⟨T, ⟨rfl, rfl⟩, rfl⟩
        rw [hd]
        refine ⟨sT, ?_⟩
        refine WPD.eff 14 kR rfl (OpE.call lO (fun w hw => c_Connected _ n u es x k (Rd.at rD hw) (by omega))) rfl rfl ?_
        rintro r _ ⟨T, ⟨rfl, rfl⟩, rfl⟩
        rw [e3]
        refine ⟨sT, ?_⟩
        refine WPD.eff 15 kR rfl (OpE.ofPure (by first | exact (Op1.neI rfl rfl) | exact (Op1.neB rfl rfl) | exact (Op1.neE rfl rfl))) rfl rfl ?_
        rintro _ _ ⟨rfl, rfl⟩
        refine ⟨sT, ?_⟩
        refine WPD.eff 16 kR rfl (OpE.ofPure (by first | exact (Op1.pickT rfl rfl) | exact (Op1.pickF rfl rfl))) rfl rfl ?_
        rintro _ _ ⟨rfl, rfl⟩
        refine ⟨sT, ?_⟩
        refine WPD.done kR ?_
      · repeat' (first | exact absurd rfl hc | refine go ⟨?_⟩ | (refine isCond ?_; refine WP.condD rfl (fun hc => ?_) (fun hc => ?_)) | (refine isGuard ?_; refine WPL.splitD rfl rfl (fun hc => ?_) (fun hc => ?_)))
        refine PE.again (k + 1) ?_ ?_ sE sT2
        · (try dsimp only); omega
        · (try dsimp only); omega
      · exact absurd ‹_› (by decide)
  have hmem : x ∈ pns n es x := (mem_pns (by omega)).2 ⟨hgn.2, rfl⟩
  try refine go ⟨?_⟩
  refine WPL.eff (OpE.call lO (fun w hw => y_In _ r x (pns n es x) (Rd.at rD hw) (by omega))) rfl rfl ?_
  rintro _ _ ⟨T, ⟨rfl, rfl⟩, rfl⟩
  rw [decide_eq_true hmem]
  repeat' (first | exact absurd rfl hc | refine go ⟨?_⟩ | (refine isCond ?_; refine WP.condD rfl (fun hc => ?_) (fun hc => ?_)) | (refine isGuard ?_; refine WPL.splitD rfl rfl (fun hc => ?_) (fun hc => ?_)))
  refine PE.ret1 (T := []) (T' := []) rfl rV ?_ sT
  rfl
end Go.Proofs.Ytocifflamgnhaaa
