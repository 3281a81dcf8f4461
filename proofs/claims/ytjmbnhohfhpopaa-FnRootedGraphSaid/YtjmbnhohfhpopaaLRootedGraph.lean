/- The law FnRootedGraph: its walk. Conditions: those of the theorem. -/
import Derived.Test.YtjmbnhohfhpopaaDrw2
import Derived.Test.YtjmbnhohfhpopaaSpc0
import Derived.Test.YtjmbnhohfhpopaaGm4
namespace Go.Proofs.Ytjmbnhohfhpopaa
open Go
set_option linter.unusedVariables false set_option linter.unusedSimpArgs false attribute [local irreducible] Tok.own Tok.blk RL Rd eptr WP WPL PE WPD WPO Op1 OpE Tri Again Mid Exit.then Exit.inBlock bodyPost RP Code.wp wpList isOwn OneM One
attribute [local irreducible] rootV gE forestL insE
set_option maxHeartbeats 8000000

theorem d_RootedValid (w : World) (v : Value) (bs : List UInt8) (h : RL w v bs) (hl : bs.length ≤ 9223372036854775807) :
    Tri Try.prog 41 [v] w [] drawnR := by
  refine Tri.intro (hf := Try.func41) (hb := rfl) (hn := Try.ntmps41) (Nat.le_of_ble_eq_true rfl) ?_
  try refine go ⟨?_⟩
  refine WPL.eff OpE.alloc rfl rfl ?_; rintro _ _ ⟨br, rfl, rfl⟩
  try refine go ⟨?_⟩
  refine WPL.eff (OpE.call lO (fun w hw => d_Draw _ v bs (Rd.at rD hw) hl)) rfl rfl ?_
  rintro r _ ⟨T, ⟨uP, uW, ps, ws, rfl, rfl, h1, h2, h3⟩, rfl⟩
  try refine go ⟨?_⟩
  refine PE.ret1 (T := []) (T' := [Tok.own uP ps, Tok.own uW ws]) rfl rV ?_ sT
  exact ⟨uP, uW, ps, ws, rfl, rfl, h1, h2, h3⟩

theorem l_RootedGraph (w : World) (v : Value) (bs : List UInt8) (h : RL w v bs) (hl : bs.length ≤ 9223372036854775807) :
    Tri Try.prog 14 [v] w [] fun r T => r = .bool true := by
  refine Tri.intro (hf := Try.func14) (hb := rfl) (hn := Try.ntmps14) (Nat.le_of_ble_eq_true rfl) ?_
  repeat' (first | exact absurd rfl hc | refine go ⟨?_⟩ | (refine isCond ?_; refine WP.condD rfl (fun hc => ?_) (fun hc => ?_)) | (refine isGuard ?_; refine WPL.splitD rfl rfl (fun hc => ?_) (fun hc => ?_)))
  · refine PE.ret1 (T := []) (T' := []) rfl rV ?_ sT
    rfl
  refine WPL.eff (OpE.call lO (fun w hw => d_RootedValid _ v bs (Rd.at rD hw) hl)) rfl rfl ?_
  rintro r _ ⟨T, ⟨uP, uW, ps, ws, rfl, rfl, h1, h2, h3⟩, rfl⟩
  try refine go ⟨?_⟩
  refine WPL.eff OpE.alloc rfl rfl ?_; rintro _ _ ⟨br, rfl, rfl⟩
  try refine go ⟨?_⟩
  refine WPL.eff (OpE.call lO (fun w hw => c_RootedValid _ uP uW ps ws (Rd.at rD hw) (Rd.at rD hw) (by omega) (by omega))) rfl rfl ?_
  rintro r _ ⟨T, ⟨rfl, rfl⟩, rfl⟩
  try refine go ⟨?_⟩
  refine WPL.eff (OpE.call lO (fun w hw => s_RootedValid _ uP uW ps ws (Rd.at rD hw) (Rd.at rD hw) (by omega) (by omega))) rfl rfl ?_
  rintro r _ ⟨T, ⟨rfl, rfl⟩, rfl⟩
  by_cases hv : RV ps ws
  case neg =>
    rw [decide_eq_false hv]
    try refine go ⟨?_⟩
    refine WPL.eff (OpE.call lO (fun w hw => s_RootedValid _ uP uW ps ws (Rd.at rD hw) (Rd.at rD hw) (by omega) (by omega))) rfl rfl ?_
    rintro r _ ⟨T, ⟨rfl, rfl⟩, rfl⟩
    rw [decide_eq_false hv]
    try refine go ⟨?_⟩
    refine PE.ret1 (T := []) (T' := []) rfl rV ?_ sT
    rfl
  rw [decide_eq_true hv]
  try refine go ⟨?_⟩
  have hn16 := hv.2.1
  refine WPL.eff OpE.alloc rfl rfl ?_; rintro _ _ ⟨bg, rfl, rfl⟩
  try refine go ⟨?_⟩
  refine WP.nilTok E ?_
  refine WP.loop (σ := Nat × Value) (fun s => [(3, .pointer (some ⟨br, 0, none⟩)), (5, .pointer (some ⟨bg, 0, none⟩)), (6, .int .i64 s.1)])
    (fun s => [Tok.own s.2 (gE ps s.1), Tok.blk bg [.int .i64 ps.length, s.2], Tok.blk br [uP, uW], Tok.own uP ps, Tok.own uW ws]) (fun s => s.1 ≤ ps.length) (fun s => ps.length - s.1) (0, .slice none 0 0) (Nat.zero_le _) sE ?_ ?_
  · have e0 : gE ps 0 = [] := by unfold gE; rfl
    dsimp only
    rw [e0]
    exact sT
  · rintro ⟨k, vg⟩ hk
    dsimp only at hk ⊢
    have hgv := gE_valid hv k hk
    have hgl := gE_length ps k
    repeat' (first | exact absurd rfl hc | refine go ⟨?_⟩ | (refine isCond ?_; refine WP.condD rfl (fun hc => ?_) (fun hc => ?_)) | (refine isGuard ?_; refine WPL.splitD rfl rfl (fun hc => ?_) (fun hc => ?_)))
    · have hk' : k < ps.length := by omega
      have hp : 0 ≤ ps.getD k 0 := hc
      have hstep : gE ps (k + 1) = insE (gE ps k) (mkE k (ps.getD k 0)) := by
        have : gE ps (k + 1) = if 0 ≤ ps.getD k 0 then insE (gE ps k) (mkE k (ps.getD k 0)) else gE ps k := by
          delta gE; rfl
        rw [this, if_pos hp]
      refine WPL.eff (OpE.call lO (fun w hw => c_EdgeOf _ (k : Int) (ps.getD k 0))) rfl rfl ?_
      rintro r _ ⟨T, ⟨rfl, hr⟩, rfl⟩
      rcases hr with ⟨_, rfl⟩ | ⟨hno, _⟩
      case inr => exact absurd (edOk_par hv hk' hp) hno
      try refine go ⟨?_⟩
      refine WPL.eff OpE.alloc rfl rfl ?_; rintro _ _ ⟨be, rfl, rfl⟩
      try refine go ⟨?_⟩
      refine WPL.eff (OpE.call lO (fun w hw => c_PutEdge _ ps.length vg (gE ps k) (mkE k (ps.getD k 0)) (Rd.at rD hw) (by omega))) rfl rfl ?_
      rintro r _ ⟨T, hr, rfl⟩
      rcases hr with ⟨_, vn, rfl, rfl⟩ | ⟨hno, _⟩
      case inr => exact absurd (gE_put hv hk' hp) hno
      try refine go ⟨?_⟩
      refine WPL.eff OpE.alloc rfl rfl ?_; rintro _ _ ⟨bn, rfl, rfl⟩
      try refine go ⟨?_⟩
      rw [← hstep]
      refine PE.again (k + 1, vn) ?_ ?_ sE sT
      · dsimp only; omega
      · dsimp only; omega
    · have hstep : gE ps (k + 1) = gE ps k := by
        have : gE ps (k + 1) = if 0 ≤ ps.getD k 0 then insE (gE ps k) (mkE k (ps.getD k 0)) else gE ps k := by
          delta gE; rfl
        rw [this, if_neg hc]
      rw [← hstep]
      refine PE.again (k + 1, vg) ?_ ?_ sE sT
      · dsimp only; omega
      · dsimp only; omega
    · have hkn : k = ps.length := by omega
      subst hkn
      refine WP.loop (σ := Nat) (fun s => [(3, .pointer (some ⟨br, 0, none⟩)), (5, .pointer (some ⟨bg, 0, none⟩)), (11, .int .i64 s)])
        (fun s => [Tok.own vg (gE ps ps.length), Tok.blk bg [.int .i64 ps.length, vg], Tok.blk br [uP, uW], Tok.own uP ps, Tok.own uW ws]) (fun s => s ≤ ps.length) (fun s => ps.length - s) 0 (Nat.zero_le _) sE sT ?_
      intro j hj
      try refine go ⟨?_⟩
      refine WP.condD rfl (fun hjc => ?_) (fun hjc => ?_)
      · have hj' : j < ps.length := by omega
        obtain ⟨hcn, hrn⟩ := gE_root hv _ (j : Int) rfl (hv.nv hj')
        try refine go ⟨?_⟩
        refine WPL.eff (OpE.call lO (fun w hw => c_RootOf _ uP uW ps ws (j : Int) (Rd.at rD hw) (Rd.at rD hw) (by omega) (by omega))) rfl rfl ?_
        rintro r _ ⟨T, ⟨rfl, hr⟩, rfl⟩
        rcases hr with ⟨_, rfl⟩ | ⟨hno, _⟩
        case inr => exact absurd (hv.nv hj') hno
        try refine go ⟨?_⟩
        refine WPL.eff (OpE.call lO (fun w hw => c_Connected _ ps.length vg (gE ps ps.length) (j : Int) (rootV ps j) (Rd.at rD hw) (by omega))) rfl rfl ?_
        rintro r _ ⟨T, ⟨rfl, rfl⟩, rfl⟩
        have hx1 : Nd ps.length (j : Int) := ⟨by omega, by omega⟩
        have hx2 : Nd ps.length (rootV ps (j : Int)) := hrn.2
        have hCN : CN ps.length (gE ps ps.length) (j : Int) (rootV ps j) := ⟨hgv, hx1, hx2, (lab_iff hgv.okE hx1 hx2).2 hcn⟩
        rw [decide_eq_true hCN]
        try refine go ⟨?_⟩
        refine PE.again (j + 1) ?_ ?_ sE sT
        · omega
        · omega
      · have hff := gE_forest hv
        have hfl : (forestL ps.length (gE ps ps.length)).length = (gE ps ps.length).length := by rw [hff]
        try refine go ⟨?_⟩
        refine WP.draw [Tok.own vg (gE ps ps.length), Tok.blk bg [.int .i64 ps.length, vg]] mixed ?_
        refine WPD.take 0 rfl (by first | exact (Op1.load rfl mM (by rfl)) | exact (Op1.loadI rfl rD lT) | exact (Op1.loadAll rfl mM (by rfl)) | exact (Op1.loadE rfl rD lT (by rfl)) | exact (Op1.loadEAgg rfl rD lT (by rfl))) rfl rfl sT kR kR kR xQP ?_
        refine WPD.take 3 rfl (by first | exact (Op1.fieldAddr rfl) | exact (Op1.fieldAddrE rfl rD lT)) rfl rfl sT kR kR kR xQP ?_
        refine WPD.take 4 rfl (by first | exact (Op1.load rfl mM (by rfl)) | exact (Op1.loadI rfl rD lT) | exact (Op1.loadAll rfl mM (by rfl)) | exact (Op1.loadE rfl rD lT (by rfl)) | exact (Op1.loadEAgg rfl rD lT (by rfl))) rfl rfl sT kR kR kR xQP ?_
        refine WPD.take 5 rfl (Op1.len rfl rD) rfl rfl sT kR kR kR xQP ?_
        refine WPD.eff 1 kR rfl (OpE.call lO (fun w hw => c_ForestOf _ ps.length vg (gE ps ps.length) (Rd.at rD hw) (by omega))) rfl rfl ?_
        rintro f _ ⟨T, hf, rfl⟩
        have hf' : T = [Tok.own f (forestL ps.length (gE ps ps.length))] := by rcases hf with ⟨_, h⟩ | ⟨h, _⟩; exact h; exact absurd hgv h
        subst hf'
        refine ⟨sT, ?_⟩
        refine WPD.eff 2 kR rfl (OpE.ofPure (Op1.len rfl rD)) rfl rfl ?_
        rintro _ _ ⟨rfl, rfl⟩
        refine ⟨sT, ?_⟩
        refine WPD.take 6 rfl (by first | exact (Op1.eqI rfl rfl) | exact (Op1.eqB rfl rfl) | exact (Op1.eqE rfl rfl) | exact (Op1.eqNil rfl rD)) rfl rfl sT kR kR kR xQP ?_
        refine WPD.take 7 rfl (Op1.assign rfl) rfl rfl sT kR kR kR xQP ?_
        refine WPD.done kR ?_
        try refine go ⟨?_⟩
        refine PE.ret1 (T := []) (T' := []) rfl rV ?_ sT
        rw [decide_eq_true (by omega)]
end Go.Proofs.Ytjmbnhohfhpopaa
