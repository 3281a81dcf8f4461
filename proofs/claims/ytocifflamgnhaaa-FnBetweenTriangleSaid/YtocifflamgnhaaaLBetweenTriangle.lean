/- The law FnBetweenTriangle: its walk. Conditions: those of the theorem. -/
import Derived.Test.YtocifflamgnhaaaLCutBetween
namespace Go.Proofs.Ytocifflamgnhaaa
open Go
theorem btw_len (n : Int) (es : List E) (x y : Int) : (btw n es x y).length ≤ es.length := List.length_filter_le _ _
theorem CN_nd {n : Int} {es : List E} {x y : Int} (h : CN n es x y) : GV n es ∧ Nd n x ∧ Nd n y ∧ Conn es x y := ⟨h.1, h.2.1, h.2.2.1, (cn_iff h.1.okE h.2.1 h.2.2.1).1 h.2.2.2⟩
theorem CN_of {n : Int} {es : List E} {x y : Int} (hg : GV n es) (hx : Nd n x) (hy : Nd n y) (h : Conn es x y) : CN n es x y := ⟨hg, hx, hy, (cn_iff hg.okE hx hy).2 h⟩
theorem CN_tri {n : Int} {es : List E} {x y z : Int} (h : CN n es x y) (hz : Nd n z) : CN n es x z ↔ CN n es z y := by
  obtain ⟨hg, hx, hy, hc⟩ := CN_nd h
  exact ⟨fun k => CN_of hg hz hy ((CN_nd k).2.2.2.symm.trans hc), fun k => CN_of hg hx hz (hc.trans (CN_nd k).2.2.2.symm)⟩
theorem btw_tri {n : Int} {es : List E} {x y z : Int} (h : CN n es x y) (h1 : CN n es x z) (h2 : CN n es z y) {e : E} (he : e ∈ btw n es x y) : decide (e ∈ btw n es z y) = !decide (e ∈ btw n es x z) := by
  obtain ⟨hg, hx, hy, hc⟩ := CN_nd h
  obtain ⟨_, _, hz, c1⟩ := CN_nd h1
  obtain ⟨_, _, _, c2⟩ := CN_nd h2
  have m0 := (mem_btw hg.okE hx hy).1 he
  have m1 := mem_btw hg.okE hx hz (e := e)
  have m2 := mem_btw hg.okE hz hy (e := e)
  have ht := conn_tri m0.1 c1 c2 m0.2
  by_cases hb : Conn (rem es e) x z
  · rw [decide_eq_false fun k => (m1.1 k).2 hb, decide_eq_true (m2.2 ⟨m0.1, ht.1 hb⟩)]; rfl
  · rw [decide_eq_true (m1.2 ⟨m0.1, hb⟩), decide_eq_false fun k => hb (ht.2 (m2.1 k).2)]; rfl
set_option linter.unusedVariables false set_option linter.unusedSimpArgs false attribute [local irreducible] Tok.own Tok.blk RL Rd eptr WP WPL PE WPD WPO Op1 OpE Tri Again Mid Exit.then Exit.inBlock bodyPost RP Code.wp wpList isOwn OneM One
attribute [local irreducible] CN
set_option maxHeartbeats 8000000

theorem l_BetweenTriangle (w : World) (v v2 : Value) (bs bs2 : List UInt8) (h : RL w v bs) (hl : bs.length ≤ 9223372036854775807) (h2 : RL w v2 bs2) (hl2 : bs2.length ≤ 9223372036854775807) :
    Tri Try.prog 13 [v, v2] w [] fun r T => r = .bool true := by
  refine Tri.intro (hf := Try.func13) (hb := rfl) (hn := Try.ntmps13) (Nat.le_of_ble_eq_true rfl) ?_
  repeat' (first | exact absurd rfl hc | refine go ⟨?_⟩ | (refine isCond ?_; refine WP.condD rfl (fun hc => ?_) (fun hc => ?_)) | (refine isGuard ?_; refine WPL.splitD rfl rfl (fun hc => ?_) (fun hc => ?_)))
  · refine PE.ret1 (T := []) (T' := []) rfl rV ?_ sT
    rfl
  · refine PE.ret1 (T := []) (T' := []) rfl rV ?_ sT
    rfl
  refine WPL.eff (OpE.call lO (fun w hw => g_BridgesBetween _ v bs (Rd.at rD hw) hl)) rfl rfl ?_
  rintro r _ ⟨T, ⟨u, n, es, x, y, rfl, rfl, hle⟩, rfl⟩
  try refine go ⟨?_⟩
  refine WPL.eff OpE.alloc rfl rfl ?_; rintro _ _ ⟨bt, rfl, rfl⟩
  try refine go ⟨?_⟩
  refine WPL.eff (OpE.call lO (fun w hw => u_BridgesBetween _ n u es x y (Rd.at rD hw) (by omega))) rfl rfl ?_
  rintro _ _ ⟨T, ⟨q, rfl, rfl⟩, rfl⟩
  try refine go ⟨?_⟩
  refine WPL.eff (OpE.call lO (fun w hw => v_BridgesBetween _ n u es x y (Rd.at rD hw) (by omega))) rfl rfl ?_
  rintro _ _ ⟨T, ⟨q2, rfl, rfl⟩, rfl⟩
  by_cases hc : CN n es x y
  case neg =>
    rw [if_neg hc, decide_eq_false hc]
    try refine go ⟨?_⟩
    refine WPL.eff (OpE.call lO (fun w hw => y_Edges _ q q2 [] [] (Rd.at rD hw) (Rd.at rD hw) (by decide) (by decide))) rfl rfl ?_
    rintro _ _ ⟨T, ⟨rfl, rfl⟩, rfl⟩
    rw [deq_E]
    try refine go ⟨?_⟩
    refine WPL.eff (OpE.call lO (fun w hw => y_Edges _ q q2 [] [] (Rd.at rD hw) (Rd.at rD hw) (by decide) (by decide))) rfl rfl ?_
    rintro _ _ ⟨T, ⟨rfl, rfl⟩, rfl⟩
    rw [deq_E]
    try refine go ⟨?_⟩
    refine PE.ret1 (T := []) (T' := []) rfl rV ?_ sT
    rfl
  obtain ⟨hg, hx, hy, hcc⟩ := CN_nd hc
  have hn1 := (GV_iff.1 hg).1
  have hn2 := hg.ne.n2
  have hcl := btw_len n es x y
  have hxy := hc
  rw [if_pos hc, decide_eq_true hc]
  try refine go ⟨?_⟩
  refine WPL.eff (OpE.call lO (fun w hw => y_Edges _ q q2 (btw n es x y) (btw n es x y) (Rd.at rD hw) (Rd.at rD hw) (by omega) (by omega))) rfl rfl ?_
  rintro _ _ ⟨T, ⟨rfl, rfl⟩, rfl⟩
  rw [deq_E]
  try refine go ⟨?_⟩
  refine WPL.eff (OpE.call lO (fun w hw => u_BridgesBetween _ n u es y x (Rd.at rD hw) (by omega))) rfl rfl ?_
  rintro _ _ ⟨T, ⟨q3, rfl, rfl⟩, rfl⟩
  rw [if_pos (CN_symm hc), decide_eq_true (CN_symm hc), btw_symm n es y x]
  have hz0 := Int.emod_nonneg (bs2.length : Int) (b := n) (by omega)
  have hz1 := Int.emod_lt_of_pos (bs2.length : Int) (b := n) (by omega)
  try refine go ⟨?_⟩
  generalize (bs2.length : Int) % n = z at *
  have hz : Nd n z := ⟨hz0, hz1⟩
  have ht := CN_tri hc hz
  have l1 := btw_len n es x z
  have l2 := btw_len n es z y
  refine WPL.eff (OpE.call lO (fun w hw => u_BridgesBetween _ n u es x z (Rd.at rD hw) (by omega))) rfl rfl ?_
  rintro _ _ ⟨T, ⟨qa, rfl, rfl⟩, rfl⟩
  try refine go ⟨?_⟩
  refine WPL.eff (OpE.call lO (fun w hw => u_BridgesBetween _ n u es z y (Rd.at rD hw) (by omega))) rfl rfl ?_
  rintro _ _ ⟨T, ⟨qb, rfl, rfl⟩, rfl⟩
  by_cases hp : CN n es x z
  case neg =>
    rw [if_neg hp, if_neg fun k => hp (ht.2 k), decide_eq_false hp, decide_eq_false fun k => hp (ht.2 k)]
    try refine go ⟨?_⟩
    refine WP.loop (σ := Nat) (fun k => [(8, q), (12, q3), (13, .bool true), (15, qa), (16, .bool false), (17, qb), (18, .bool false), (19, .int .i64 k)]) (fun _ => [Tok.own q (btw n es x y), Tok.own q3 (btw n es x y)]) (fun k => k ≤ (btw n es x y).length) (fun k => (btw n es x y).length - k) 0 (Nat.zero_le _) sE sT2 ?_
    rintro k hk
    repeat' (first | exact absurd rfl hc | refine go ⟨?_⟩ | (refine isCond ?_; refine WP.condD rfl (fun hc => ?_) (fun hc => ?_)) | (refine isGuard ?_; refine WPL.splitD rfl rfl (fun hc => ?_) (fun hc => ?_)))
    all_goals (
      refine WPL.eff (OpE.call lO (fun w hw => y_Edges _ q3 q (btw n es x y) (btw n es x y) (Rd.at rD hw) (Rd.at rD hw) (by omega) (by omega))) rfl rfl ?_
      rintro _ _ ⟨T, ⟨rfl, rfl⟩, rfl⟩
      rw [deq_E]
      try refine go ⟨?_⟩
      refine PE.ret1 (T := []) (T' := []) rfl rV ?_ sT
      rfl)
  rw [if_pos hp, if_pos (ht.1 hp), decide_eq_true hp, decide_eq_true (ht.1 hp)]
  try refine go ⟨?_⟩
  refine WP.loop (σ := Nat) (fun k => [(8, q), (12, q3), (13, .bool true), (15, qa), (16, .bool true), (17, qb), (18, .bool true), (19, .int .i64 k)]) (fun _ => [Tok.own q (btw n es x y), Tok.own q3 (btw n es x y), Tok.own qa (btw n es x z), Tok.own qb (btw n es z y)]) (fun k => k ≤ (btw n es x y).length) (fun k => (btw n es x y).length - k) 0 (Nat.zero_le _) sE sT2 ?_
  rintro k hk
  repeat' (first | exact absurd rfl hc | refine go ⟨?_⟩ | (refine isCond ?_; refine WP.condD rfl (fun hc => ?_) (fun hc => ?_)) | (refine isGuard ?_; refine WPL.splitD rfl rfl (fun hc => ?_) (fun hc => ?_)))
  · have hk' : k < (btw n es x y).length := by omega
    have hm := getD_memI (d := (Enc.d : E)) hk'
    have hb := btw_tri hxy hp (ht.1 hp) hm
    refine WP.draw [Tok.own q (btw n es x y), Tok.own qa (btw n es x z), Tok.own qb (btw n es z y)] mixed ?_
    refine WPD.take 0 rfl (Op1.move rfl) rfl rfl sT kR kR kR xQP ?_
    refine WPD.take 1 rfl (Op1.move rfl) rfl rfl sT kR kR kR xQP ?_
    refine WPD.take 2 rfl (Op1.move rfl) rfl rfl sT kR kR kR xQP ?_
    refine WPD.take 6 rfl (Op1.move rfl) rfl rfl sT kR kR kR xQP ?_
    refine WPD.take 7 rfl (Op1.move rfl) rfl rfl sT kR kR kR xQP ?_
    refine WPD.take 8 rfl (Op1.move rfl) rfl rfl sT kR kR kR xQP ?_
    refine WPD.take 3 rfl (by first | exact (Op1.indexAddr rfl rfl rD lT) | exact (Op1.indexAddrZ rfl rfl rD lT)) rfl rfl sT kR kR kR xQP ?_
    refine WPD.take 9 rfl (by first | exact (Op1.indexAddr rfl rfl rD lT) | exact (Op1.indexAddrZ rfl rfl rD lT)) rfl rfl sT kR kR kR xQP ?_
    refine WPD.take 4 rfl (by first | exact (Op1.load rfl mM (by rfl)) | exact (Op1.loadI rfl rD lT) | exact (Op1.loadAll rfl mM (by rfl)) | exact (Op1.loadE rfl rD lT (by rfl)) | exact (Op1.loadEAgg rfl rD lT (by rfl))) rfl rfl sT kR kR kR xQP ?_
    refine WPD.take 10 rfl (by first | exact (Op1.load rfl mM (by rfl)) | exact (Op1.loadI rfl rD lT) | exact (Op1.loadAll rfl mM (by rfl)) | exact (Op1.loadE rfl rD lT (by rfl)) | exact (Op1.loadEAgg rfl rD lT (by rfl))) rfl rfl sT kR kR kR xQP ?_
    refine WPD.eff 5 kR rfl (OpE.call lO (fun w hw => y_Has _ qa ((btw n es x y).getD k (Enc.d : E)) (btw n es x z) (Rd.at rD hw) (by omega))) rfl rfl ?_
    rintro r _ ⟨T, ⟨rfl, rfl⟩, rfl⟩
    refine ⟨sT, ?_⟩
    refine WPD.eff 11 kR rfl (OpE.call lO (fun w hw => y_Has _ qb ((btw n es x y).getD k (Enc.d : E)) (btw n es z y) (Rd.at rD hw) (by omega))) rfl rfl ?_
    rintro r _ ⟨T, ⟨rfl, rfl⟩, rfl⟩
    rw [hb]
    refine ⟨sT, ?_⟩
    refine WPD.eff 12 kR rfl (OpE.ofPure (by first | exact (Op1.eqI rfl rfl) | exact (Op1.eqB rfl rfl) | exact (Op1.eqE rfl rfl) | exact (Op1.eqNil rfl rD))) rfl rfl ?_
    rintro _ _ ⟨rfl, rfl⟩
    refine ⟨sT, ?_⟩
    refine WPD.done kR ?_
    rw [beq_not]
    try refine go ⟨?_⟩
    refine PE.again (k + 1) ?_ ?_ sE sT2
    · (try dsimp only); omega
    · (try dsimp only); omega
  refine WPL.eff (OpE.call lO (fun w hw => y_Edges _ q3 q (btw n es x y) (btw n es x y) (Rd.at rD hw) (Rd.at rD hw) (by omega) (by omega))) rfl rfl ?_
  rintro _ _ ⟨T, ⟨rfl, rfl⟩, rfl⟩
  rw [deq_E]
  try refine go ⟨?_⟩
  refine PE.ret1 (T := []) (T' := []) rfl rV ?_ sT
  rfl
end Go.Proofs.Ytocifflamgnhaaa
