/- The second program's drawn cases of graphs. Conditions: those of each contract. -/
import Derived.Test.YtocifflamgnhaaaDrwH
namespace Go.Proofs.Ytocifflamgnhaaa
open Go
set_option linter.unusedVariables false set_option linter.unusedSimpArgs false attribute [local irreducible] Tok.own Tok.blk RL Rd eptr WP WPL PE WPD WPO Op1 OpE Tri Again Mid Exit.then Exit.inBlock bodyPost RP Code.wp wpList isOwn OneM One
set_option maxHeartbeats 8000000

theorem g_GraphValid (w : World) (v : Value) (bs : List UInt8) (h : RL w v bs) (hl : bs.length ≤ 9223372036854775807) :
    Tri Try.prog 87 [v] w [] dG := by
  refine Tri.intro (hf := Try.func87) (hb := rfl) (hn := Try.ntmps87) (Nat.le_of_ble_eq_true rfl) ?_
  try refine go ⟨?_⟩
  refine WPL.eff OpE.alloc rfl rfl ?_; rintro _ _ ⟨br, rfl, rfl⟩
  try refine go ⟨?_⟩
  refine WPL.eff (OpE.call lO (fun w hw => d_Open _ v bs (Rd.at rD hw) hl)) rfl rfl ?_
  rintro r _ ⟨T, ⟨rb, rfl, rfl⟩, rfl⟩
  have hcv := h.cvOf
  have hl2 := bsOf_le bs
  generalize cvOf v bs = cv at *
  generalize bsOf bs = bs' at *
  try refine go ⟨?_⟩
  refine WPL.eff (OpE.callT (T := [Tok.blk rb [cv, .int .i64 0]]) lO pM2 (fun w hw => g_Draw _ rb cv bs' (Rd.at rD hw) (hw.ne mM hcv) hl2)) rfl rfl ?_
  rintro r _ ⟨T, ⟨v1, n1, p1, es1, rfl, rfl, q1, q2, q3, q4, q5⟩, rfl⟩
  try refine go ⟨?_⟩
  refine WPL.eff (OpE.callT (T := [Tok.blk rb [cv, .int .i64 p1]]) lO pM2 (fun w hw => g_Wrong _ rb cv bs' p1 n1 v1 es1 (Rd.at rD hw) (hw.ne mM hcv) (Rd.at rD hw) (hw.own_ne pM mM) hl2 (by omega) (by omega))) rfl rfl ?_
  rintro r _ ⟨T, ⟨v2, n2, p2, es2, rfl, rfl, r1, r2, r3, r4⟩, rfl⟩
  try refine go ⟨?_⟩
  refine WPL.eff (OpE.callT (T := [Tok.blk rb [cv, .int .i64 p2]]) lO pM2 (fun w hw => g_Wrong _ rb cv bs' p2 n2 v2 es2 (Rd.at rD hw) (hw.ne mM hcv) (Rd.at rD hw) (hw.own_ne pM mM) hl2 (by omega) (by omega))) rfl rfl ?_
  rintro r _ ⟨T, ⟨v3, n3, p3, es3, rfl, rfl, s1, s2, s3, s4⟩, rfl⟩
  try refine go ⟨?_⟩
  refine WPL.eff (OpE.callT (T := [Tok.blk rb [cv, .int .i64 p3]]) lO pM2 (fun w hw => g_Wrong _ rb cv bs' p3 n3 v3 es3 (Rd.at rD hw) (hw.ne mM hcv) (Rd.at rD hw) (hw.own_ne pM mM) hl2 (by omega) (by omega))) rfl rfl ?_
  rintro r _ ⟨T, ⟨v4, n4, p4, es4, rfl, rfl, t1, t2, t3, t4⟩, rfl⟩
  try refine go ⟨?_⟩
  refine PE.ret1 (T := []) (T' := [Tok.own v4 es4]) rfl rV ?_ sT2
  exact ⟨v4, n4, es4, rfl, rfl, by omega⟩

theorem g_Node (w : World) (v : Value) (bs : List UInt8) (h : RL w v bs) (hl : bs.length ≤ 9223372036854775807) :
    Tri Try.prog 89 [v] w [] dGx := by
  refine Tri.intro (hf := Try.func89) (hb := rfl) (hn := Try.ntmps89) (Nat.le_of_ble_eq_true rfl) ?_
  try refine go ⟨?_⟩
  refine WPL.eff OpE.alloc rfl rfl ?_; rintro _ _ ⟨br, rfl, rfl⟩
  try refine go ⟨?_⟩
  refine WPL.eff (OpE.call lO (fun w hw => d_Open _ v bs (Rd.at rD hw) hl)) rfl rfl ?_
  rintro r _ ⟨T, ⟨rb, rfl, rfl⟩, rfl⟩
  have hcv := h.cvOf
  have hl2 := bsOf_le bs
  generalize cvOf v bs = cv at *
  generalize bsOf bs = bs' at *
  try refine go ⟨?_⟩
  refine WPL.eff (OpE.callT (T := [Tok.blk rb [cv, .int .i64 0]]) lO pM2 (fun w hw => g_Draw _ rb cv bs' (Rd.at rD hw) (hw.ne mM hcv) hl2)) rfl rfl ?_
  rintro r _ ⟨T, ⟨v1, n1, p1, es1, rfl, rfl, q1, q2, q3, q4, q5⟩, rfl⟩
  try refine go ⟨?_⟩
  refine WPL.eff OpE.alloc rfl rfl ?_; rintro _ _ ⟨bo, rfl, rfl⟩
  try refine go ⟨?_⟩
  refine WPL.eff (OpE.callT (T := [Tok.blk rb [cv, .int .i64 p1]]) lO pM2 (fun w hw => d_pick _ rb cv bs' p1 n1 (Rd.at rD hw) (hw.ne mM hcv) hl2 (by omega) (by omega))) rfl rfl ?_
  rintro r _ ⟨T, ⟨rfl, k, rfl, _, _⟩, rfl⟩
  try refine go ⟨?_⟩
  refine WPL.eff (OpE.callT (T := [Tok.blk rb [cv, .int .i64 (p1 + 1)]]) lO pM2 (fun w hw => d_pick _ rb cv bs' (p1 + 1) 20 (Rd.at rD hw) (hw.ne mM hcv) hl2 (by omega) (by omega))) rfl rfl ?_
  rintro r _ ⟨T, ⟨rfl, k2, rfl, _, _⟩, rfl⟩
  repeat' (first | exact absurd rfl hc | refine go ⟨?_⟩ | (refine isCond ?_; refine WP.condD rfl (fun hc => ?_) (fun hc => ?_)) | (refine isGuard ?_; refine WPL.splitD rfl rfl (fun hc => ?_) (fun hc => ?_)))
  · refine WPL.eff (OpE.buildSlice [-1, 16] pA rfl (by decide)) rfl rfl ?_; rintro s _ rfl
    try refine go ⟨?_⟩
    refine WPL.eff (OpE.callT (T := [Tok.blk rb [cv, .int .i64 (p1 + 1 + 1)]]) lO pM2 (fun w hw => d_num _ rb cv s bs' [-1, 16] (p1 + 1 + 1) (Rd.at rD hw) (hw.ne mM hcv) (Rd.at rD hw) (hw.own_ne pM mM) hl2 (by omega) (by decide))) rfl rfl ?_
    rintro r _ ⟨T, ⟨rfl, z, rfl, _⟩, rfl⟩
    try refine go ⟨?_⟩
    refine WPL.eff (OpE.callT (T := [Tok.blk rb [cv, .int .i64 (p1 + 1 + 1 + 1)]]) lO pM2 (fun w hw => g_Wrong _ rb cv bs' (p1 + 1 + 1 + 1) n1 v1 es1 (Rd.at rD hw) (hw.ne mM hcv) (Rd.at rD hw) (hw.own_ne pM mM) hl2 (by omega) (by omega))) rfl rfl ?_
    rintro r _ ⟨T, ⟨v2, n2, p2, es2, rfl, rfl, r1, r2, r3, r4⟩, rfl⟩
    try refine go ⟨?_⟩
    refine PE.ret2 (T := []) (T' := [Tok.own v2 es2]) rfl rV ?_ sT2
    exact ⟨v2, n2, es2, z, rfl, rfl, by omega, by omega⟩
  · refine WPL.eff (OpE.callT (T := [Tok.blk rb [cv, .int .i64 (p1 + 1 + 1)]]) lO pM2 (fun w hw => g_Wrong _ rb cv bs' (p1 + 1 + 1) n1 v1 es1 (Rd.at rD hw) (hw.ne mM hcv) (Rd.at rD hw) (hw.own_ne pM mM) hl2 (by omega) (by omega))) rfl rfl ?_
    rintro r _ ⟨T, ⟨v2, n2, p2, es2, rfl, rfl, r1, r2, r3, r4⟩, rfl⟩
    try refine go ⟨?_⟩
    refine PE.ret2 (T := []) (T' := [Tok.own v2 es2]) rfl rV ?_ sT2
    exact ⟨v2, n2, es2, k, rfl, rfl, by omega, by omega⟩

theorem g_Two (w : World) (v : Value) (bs : List UInt8) (h : RL w v bs) (hl : bs.length ≤ 9223372036854775807) :
    Tri Try.prog 75 [v] w [] dGxy := by
  refine Tri.intro (hf := Try.func75) (hb := rfl) (hn := Try.ntmps75) (Nat.le_of_ble_eq_true rfl) ?_
  try refine go ⟨?_⟩
  refine WPL.eff OpE.alloc rfl rfl ?_; rintro _ _ ⟨br, rfl, rfl⟩
  try refine go ⟨?_⟩
  refine WPL.eff (OpE.call lO (fun w hw => g_Node _ v bs (Rd.at rD hw) hl)) rfl rfl ?_
  rintro r _ ⟨T, ⟨v1, n1, es1, x, rfl, rfl, q1, q2⟩, rfl⟩
  try refine go ⟨?_⟩
  refine WPL.eff OpE.alloc rfl rfl ?_; rintro _ _ ⟨bo, rfl, rfl⟩
  try refine go ⟨?_⟩
  refine WPL.eff (OpE.call lO (fun w hw => d_Open _ v bs (Rd.at rD hw) hl)) rfl rfl ?_
  rintro r _ ⟨T, ⟨rb, rfl, rfl⟩, rfl⟩
  have hcv := h.cvOf
  have hl2 := bsOf_le bs
  generalize cvOf v bs = cv at *
  generalize bsOf bs = bs' at *
  try refine go ⟨?_⟩
  refine WPL.eff (OpE.buildSlice [0, 1, 2, 3, 5, 16, -1] pA rfl (by decide)) rfl rfl ?_; rintro s _ rfl
  try refine go ⟨?_⟩
  refine WPL.eff (OpE.callT (T := [Tok.blk rb [cv, .int .i64 0]]) lO pM2 (fun w hw => d_num _ rb cv s bs' [0, 1, 2, 3, 5, 16, -1] 0 (Rd.at rD hw) (hw.ne mM hcv) (Rd.at rD hw) (hw.own_ne pM mM) hl2 (by omega) (by decide))) rfl rfl ?_
  rintro r _ ⟨T, ⟨rfl, y, rfl, _⟩, rfl⟩
  repeat' (first | exact absurd rfl hc | refine go ⟨?_⟩ | (refine isCond ?_; refine WP.condD rfl (fun hc => ?_) (fun hc => ?_)) | (refine isGuard ?_; refine WPL.splitD rfl rfl (fun hc => ?_) (fun hc => ?_)))
  · refine WPL.eff (OpE.callT (T := [Tok.blk rb [cv, .int .i64 (0 + 1)]]) lO pM2 (fun w hw => d_pick _ rb cv bs' (0 + 1) 8 (Rd.at rD hw) (hw.ne mM hcv) hl2 (by omega) (by omega))) rfl rfl ?_
    rintro r _ ⟨T, ⟨rfl, k2, rfl, _, _⟩, rfl⟩
    repeat' (first | exact absurd rfl hc | refine go ⟨?_⟩ | (refine isCond ?_; refine WP.condD rfl (fun hc => ?_) (fun hc => ?_)) | (refine isGuard ?_; refine WPL.splitD rfl rfl (fun hc => ?_) (fun hc => ?_)))
    · refine WPL.eff (OpE.callT (T := [Tok.blk rb [cv, .int .i64 (0 + 1 + 1)]]) lO pM2 (fun w hw => d_pick _ rb cv bs' (0 + 1 + 1) n1 (Rd.at rD hw) (hw.ne mM hcv) hl2 (by omega) (by omega))) rfl rfl ?_
      rintro r _ ⟨T, ⟨rfl, k3, rfl, _, _⟩, rfl⟩
      try refine go ⟨?_⟩
      refine PE.ret3 (T := []) (T' := [Tok.own v1 es1]) rfl rV ?_ sT2
      exact ⟨v1, n1, es1, x, k3, rfl, rfl, by omega⟩
    · refine PE.ret3 (T := []) (T' := [Tok.own v1 es1]) rfl rV ?_ sT2
      exact ⟨v1, n1, es1, x, y, rfl, rfl, by omega⟩
  · refine PE.ret3 (T := []) (T' := [Tok.own v1 es1]) rfl rV ?_ sT2
    exact ⟨v1, n1, es1, x, y, rfl, rfl, by omega⟩

theorem g_Case (w : World) (v : Value) (bs : List UInt8) (h : RL w v bs) (hl : bs.length ≤ 9223372036854775807) :
    Tri Try.prog 102 [v] w [] dGe := by
  refine Tri.intro (hf := Try.func102) (hb := rfl) (hn := Try.ntmps102) (Nat.le_of_ble_eq_true rfl) ?_
  try refine go ⟨?_⟩
  refine WPL.eff OpE.alloc rfl rfl ?_; rintro _ _ ⟨br, rfl, rfl⟩
  try refine go ⟨?_⟩
  refine WPL.eff OpE.alloc rfl rfl ?_; rintro _ _ ⟨br2, rfl, rfl⟩
  try refine go ⟨?_⟩
  refine WPL.eff (OpE.call lO (fun w hw => d_Open _ v bs (Rd.at rD hw) hl)) rfl rfl ?_
  rintro r _ ⟨T, ⟨rb, rfl, rfl⟩, rfl⟩
  have hcv := h.cvOf
  have hl2 := bsOf_le bs
  generalize cvOf v bs = cv at *
  generalize bsOf bs = bs' at *
  try refine go ⟨?_⟩
  refine WPL.eff (OpE.callT (T := [Tok.blk rb [cv, .int .i64 0]]) lO pM2 (fun w hw => g_Draw _ rb cv bs' (Rd.at rD hw) (hw.ne mM hcv) hl2)) rfl rfl ?_
  rintro r _ ⟨T, ⟨v1, n1, p1, es1, rfl, rfl, q1, q2, q3, q4, q5⟩, rfl⟩
  try refine go ⟨?_⟩
  refine WPL.eff OpE.alloc rfl rfl ?_; rintro _ _ ⟨bo, rfl, rfl⟩
  repeat' (first | exact absurd rfl hc | refine go ⟨?_⟩ | (refine isCond ?_; refine WP.condD rfl (fun hc => ?_) (fun hc => ?_)) | (refine isGuard ?_; refine WPL.splitD rfl rfl (fun hc => ?_) (fun hc => ?_)))
  · refine WPL.eff (OpE.callT (T := [Tok.blk rb [cv, .int .i64 p1]]) lO pM2 (fun w hw => d_pick _ rb cv bs' p1 2 (Rd.at rD hw) (hw.ne mM hcv) hl2 (by omega) (by omega))) rfl rfl ?_
    rintro r _ ⟨T, ⟨rfl, k, rfl, _, _⟩, rfl⟩
    repeat' (first | exact absurd rfl hc | refine go ⟨?_⟩ | (refine isCond ?_; refine WP.condD rfl (fun hc => ?_) (fun hc => ?_)) | (refine isGuard ?_; refine WPL.splitD rfl rfl (fun hc => ?_) (fun hc => ?_)))
    · refine WP.draw [Tok.blk bo [.int .i64 n1, v1], Tok.own v1 es1] mixed ?_
      refine WPD.take 0 rfl (Op1.move rfl) rfl rfl sT kR kR kR xQP ?_
      refine WPD.take 1 rfl (by first | exact (Op1.load rfl mM (by rfl)) | exact (Op1.loadI rfl rD lT) | exact (Op1.loadAll rfl mM (by rfl)) | exact (Op1.loadE rfl rD lT (by rfl)) | exact (Op1.loadEAgg rfl rD lT (by rfl))) rfl rfl sT kR kR kR xQP ?_
      refine WPD.take 3 rfl (by first | exact (Op1.fieldAddr rfl) | exact (Op1.fieldAddrE rfl rD lT)) rfl rfl sT kR kR kR xQP ?_
      refine WPD.take 5 rfl (Op1.move rfl) rfl rfl sT kR kR kR xQP ?_
      refine WPD.take 6 rfl (by first | exact (Op1.fieldAddr rfl) | exact (Op1.fieldAddrE rfl rD lT)) rfl rfl sT kR kR kR xQP ?_
      refine WPD.take 4 rfl (by first | exact (Op1.load rfl mM (by rfl)) | exact (Op1.loadI rfl rD lT) | exact (Op1.loadAll rfl mM (by rfl)) | exact (Op1.loadE rfl rD lT (by rfl)) | exact (Op1.loadEAgg rfl rD lT (by rfl))) rfl rfl sT kR kR kR xQP ?_
      refine WPD.take 7 rfl (by first | exact (Op1.load rfl mM (by rfl)) | exact (Op1.loadI rfl rD lT) | exact (Op1.loadAll rfl mM (by rfl)) | exact (Op1.loadE rfl rD lT (by rfl)) | exact (Op1.loadEAgg rfl rD lT (by rfl))) rfl rfl sT kR kR kR xQP ?_
      refine WPD.take 8 rfl (Op1.len rfl rD) rfl rfl sT kR kR kR xQP ?_
      refine WPD.eff 2 kR rfl (OpE.callT (T := [Tok.blk rb [cv, .int .i64 (p1 + 1)]]) lO pM2 (fun w hw => g_Wrong _ rb cv bs' (p1 + 1) n1 v1 es1 (Rd.at rD hw) (hw.ne mM hcv) (Rd.at rD hw) (hw.own_ne pM mM) hl2 (by omega) (by omega))) rfl rfl ?_
      rintro r _ ⟨T, ⟨v2, n2, p2, es2, rfl, rfl, r1, r2, r3, r4⟩, rfl⟩
      refine ⟨sT, ?_⟩
      refine WPD.eff 9 kR rfl (OpE.callT (T := [Tok.blk rb [cv, .int .i64 p2]]) lO pM2 (fun w hw => d_pick _ rb cv bs' p2 es1.length (Rd.at rD hw) (hw.ne mM hcv) hl2 (by omega) (by omega))) rfl rfl ?_
      rintro r _ ⟨T, ⟨rfl, i, rfl, i0, i1⟩, rfl⟩
      have i2 := i1 (by omega)
      refine ⟨sT, ?_⟩
      refine WPD.take 10 rfl (by first | exact (Op1.indexAddr rfl rfl rD lT) | exact (Op1.indexAddrZ rfl rfl rD lT)) rfl rfl sT kR kR kR xQP ?_
      refine WPD.take 11 rfl (by first | exact (Op1.load rfl mM (by rfl)) | exact (Op1.loadI rfl rD lT) | exact (Op1.loadAll rfl mM (by rfl)) | exact (Op1.loadE rfl rD lT (by rfl)) | exact (Op1.loadEAgg rfl rD lT (by rfl))) rfl rfl sT kR kR kR xQP ?_
      refine WPD.eff0 12 kR rfl (OpE.storeAll rfl rfl pM (by rfl) (by rfl) oN) rfl ?_
      rintro _ _ rfl
      refine ⟨sT, ?_⟩
      refine WPD.eff0 13 kR rfl (OpE.storeAll rfl rfl pM (by rfl) (by rfl) oN) rfl ?_
      rintro _ _ rfl
      refine ⟨sT, ?_⟩
      refine WPD.done kR ?_
      all_goals (
        try refine go ⟨?_⟩
        refine PE.ret2 (T := []) (T' := [Tok.own v2 es2]) rfl rV ?_ sT2
        exact ⟨v2, n2, es2, es1.getD i.toNat eD, rfl, rfl, by omega⟩)
    · refine WPL.eff (OpE.callT (T := [Tok.blk rb [cv, .int .i64 (p1 + 1)]]) lO pM2 (fun w hw => d_pick _ rb cv bs' (p1 + 1) 16 (Rd.at rD hw) (hw.ne mM hcv) hl2 (by omega) (by omega))) rfl rfl ?_
      rintro r _ ⟨T, ⟨rfl, k2, rfl, _, _⟩, rfl⟩
      repeat' (first | exact absurd rfl hc | refine go ⟨?_⟩ | (refine isCond ?_; refine WP.condD rfl (fun hc => ?_) (fun hc => ?_)) | (refine isGuard ?_; refine WPL.splitD rfl rfl (fun hc => ?_) (fun hc => ?_)))
      · refine WP.draw [Tok.blk bo [.int .i64 n1, v1]] mixed ?_
        refine WPD.take 0 rfl (by first | exact (Op1.load rfl mM (by rfl)) | exact (Op1.loadI rfl rD lT) | exact (Op1.loadAll rfl mM (by rfl)) | exact (Op1.loadE rfl rD lT (by rfl)) | exact (Op1.loadEAgg rfl rD lT (by rfl))) rfl rfl sT kR kR kR xQP ?_
        refine WPD.take 1 rfl (Op1.move rfl) rfl rfl sT kR kR kR xQP ?_
        refine WPD.take 4 rfl (Op1.move rfl) rfl rfl sT kR kR kR xQP ?_
        refine WPD.two 2 5 kR ?e10_2 ?e10_5
        case' e10_2 =>
          refine WPO.eff rfl (OpE.buildSlice (([1, -1, 3] : List Int)) pA rfl (by decide)) rfl rfl ?_
          rintro s _ rfl
          refine ⟨sT, ?_⟩
          refine WPD.two 3 5 kR ?e11_3 ?e11_5
          case' e11_3 =>
            refine WPO.eff rfl (OpE.callT (T := [Tok.blk rb [cv, .int .i64 (p1 + 1 + 1)]]) lO pM2 (fun w hw => d_num _ rb cv s bs' [1, -1, 3] (p1 + 1 + 1) (Rd.at rD hw) (hw.ne mM hcv) (Rd.at rD hw) (hw.own_ne pM mM) hl2 (by omega) (by decide))) rfl rfl ?_
            rintro r _ ⟨T, ⟨rfl, z, rfl, _⟩, rfl⟩
            refine ⟨sT, ?_⟩
            refine WPD.eff 5 kR rfl (OpE.buildSlice (([0, 16, 1] : List Int)) pA rfl (by decide)) rfl rfl ?_
            rintro s2 _ rfl
            refine ⟨sT, ?_⟩
            refine WPD.eff 6 kR rfl (OpE.callT (T := [Tok.blk rb [cv, .int .i64 (p1 + 1 + 1 + 1)]]) lO pM2 (fun w hw => d_num _ rb cv s2 bs' [0, 16, 1] (p1 + 1 + 1 + 1) (Rd.at rD hw) (hw.ne mM hcv) (Rd.at rD hw) (hw.own_ne pM mM) hl2 (by omega) (by decide))) rfl rfl ?_
            rintro r _ ⟨T, ⟨rfl, z2, rfl, _⟩, rfl⟩
            refine ⟨sT, ?_⟩
            refine WPD.take 7 rfl (Op1.build xBP (by rfl)) rfl rfl sT kR kR kR xQP ?_
            refine WPD.eff0 8 kR rfl (OpE.storeAll rfl rfl pM (by rfl) (by rfl) oN) rfl ?_
            rintro _ _ rfl
            refine ⟨sT, ?_⟩
            refine WPD.eff0 9 kR rfl (OpE.storeAll rfl rfl pM (by rfl) (by rfl) oN) rfl ?_
            rintro _ _ rfl
            refine ⟨sT, ?_⟩
            refine WPD.done kR ?_
          case' e11_5 =>
            refine WPO.eff rfl (OpE.buildSlice (([0, 16, 1] : List Int)) pA rfl (by decide)) rfl rfl ?_
            rintro s2 _ rfl
            refine ⟨sT, ?_⟩
            refine WPD.eff 3 kR rfl (OpE.callT (T := [Tok.blk rb [cv, .int .i64 (p1 + 1 + 1)]]) lO pM2 (fun w hw => d_num _ rb cv s bs' [1, -1, 3] (p1 + 1 + 1) (Rd.at rD hw) (hw.ne mM hcv) (Rd.at rD hw) (hw.own_ne pM mM) hl2 (by omega) (by decide))) rfl rfl ?_
            rintro r _ ⟨T, ⟨rfl, z, rfl, _⟩, rfl⟩
            refine ⟨sT, ?_⟩
            refine WPD.eff 6 kR rfl (OpE.callT (T := [Tok.blk rb [cv, .int .i64 (p1 + 1 + 1 + 1)]]) lO pM2 (fun w hw => d_num _ rb cv s2 bs' [0, 16, 1] (p1 + 1 + 1 + 1) (Rd.at rD hw) (hw.ne mM hcv) (Rd.at rD hw) (hw.own_ne pM mM) hl2 (by omega) (by decide))) rfl rfl ?_
            rintro r _ ⟨T, ⟨rfl, z2, rfl, _⟩, rfl⟩
            refine ⟨sT, ?_⟩
            refine WPD.take 7 rfl (Op1.build xBP (by rfl)) rfl rfl sT kR kR kR xQP ?_
            refine WPD.eff0 8 kR rfl (OpE.storeAll rfl rfl pM (by rfl) (by rfl) oN) rfl ?_
            rintro _ _ rfl
            refine ⟨sT, ?_⟩
            refine WPD.eff0 9 kR rfl (OpE.storeAll rfl rfl pM (by rfl) (by rfl) oN) rfl ?_
            rintro _ _ rfl
            refine ⟨sT, ?_⟩
            refine WPD.done kR ?_
        case' e10_5 =>
          refine WPO.eff rfl (OpE.buildSlice (([0, 16, 1] : List Int)) pA rfl (by decide)) rfl rfl ?_
          rintro s2 _ rfl
          refine ⟨sT, ?_⟩
          refine WPD.eff 2 kR rfl (OpE.buildSlice (([1, -1, 3] : List Int)) pA rfl (by decide)) rfl rfl ?_
          rintro s _ rfl
          refine ⟨sT, ?_⟩
          refine WPD.eff 3 kR rfl (OpE.callT (T := [Tok.blk rb [cv, .int .i64 (p1 + 1 + 1)]]) lO pM2 (fun w hw => d_num _ rb cv s bs' [1, -1, 3] (p1 + 1 + 1) (Rd.at rD hw) (hw.ne mM hcv) (Rd.at rD hw) (hw.own_ne pM mM) hl2 (by omega) (by decide))) rfl rfl ?_
          rintro r _ ⟨T, ⟨rfl, z, rfl, _⟩, rfl⟩
          refine ⟨sT, ?_⟩
          refine WPD.eff 6 kR rfl (OpE.callT (T := [Tok.blk rb [cv, .int .i64 (p1 + 1 + 1 + 1)]]) lO pM2 (fun w hw => d_num _ rb cv s2 bs' [0, 16, 1] (p1 + 1 + 1 + 1) (Rd.at rD hw) (hw.ne mM hcv) (Rd.at rD hw) (hw.own_ne pM mM) hl2 (by omega) (by decide))) rfl rfl ?_
          rintro r _ ⟨T, ⟨rfl, z2, rfl, _⟩, rfl⟩
          refine ⟨sT, ?_⟩
          refine WPD.take 7 rfl (Op1.build xBP (by rfl)) rfl rfl sT kR kR kR xQP ?_
          refine WPD.eff0 8 kR rfl (OpE.storeAll rfl rfl pM (by rfl) (by rfl) oN) rfl ?_
          rintro _ _ rfl
          refine ⟨sT, ?_⟩
          refine WPD.eff0 9 kR rfl (OpE.storeAll rfl rfl pM (by rfl) (by rfl) oN) rfl ?_
          rintro _ _ rfl
          refine ⟨sT, ?_⟩
          refine WPD.done kR ?_
        all_goals (
          try refine go ⟨?_⟩
          refine PE.ret2 (T := []) (T' := [Tok.own v1 es1]) rfl rV ?_ sT2
          exact ⟨v1, n1, es1, ⟨z, z2⟩, rfl, rfl, by omega⟩)
      · refine WPL.eff (OpE.callT (T := [Tok.blk rb [cv, .int .i64 (p1 + 1 + 1)]]) lO pM2 (fun w hw => d_pick _ rb cv bs' (p1 + 1 + 1) n1 (Rd.at rD hw) (hw.ne mM hcv) hl2 (by omega) (by omega))) rfl rfl ?_
        rintro r _ ⟨T, ⟨rfl, x, rfl, _, _⟩, rfl⟩
        try refine go ⟨?_⟩
        refine WPL.eff (OpE.callT (T := [Tok.blk rb [cv, .int .i64 (p1 + 1 + 1 + 1)]]) lO pM2 (fun w hw => d_pick _ rb cv bs' (p1 + 1 + 1 + 1) n1 (Rd.at rD hw) (hw.ne mM hcv) hl2 (by omega) (by omega))) rfl rfl ?_
        rintro r _ ⟨T, ⟨rfl, y, rfl, _, _⟩, rfl⟩
        try refine go ⟨?_⟩
        refine WPL.eff (OpE.callT (T := [Tok.blk rb [cv, .int .i64 (p1 + 1 + 1 + 1 + 1)]]) lO pM2 (fun w hw => g_Wrong _ rb cv bs' (p1 + 1 + 1 + 1 + 1) n1 v1 es1 (Rd.at rD hw) (hw.ne mM hcv) (Rd.at rD hw) (hw.own_ne pM mM) hl2 (by omega) (by omega))) rfl rfl ?_
        rintro r _ ⟨T, ⟨v2, n2, p2, es2, rfl, rfl, r1, r2, r3, r4⟩, rfl⟩
        try refine go ⟨?_⟩
        refine WPL.eff (OpE.call lO (fun w hw => g_Edge _ x y)) rfl rfl ?_
        rintro r _ ⟨T, ⟨rfl, e, rfl⟩, rfl⟩
        try refine go ⟨?_⟩
        refine PE.ret2 (T := []) (T' := [Tok.own v2 es2]) rfl rV ?_ sT2
        exact ⟨v2, n2, es2, e, rfl, rfl, by omega⟩
  · refine WPL.eff (OpE.callT (T := [Tok.blk rb [cv, .int .i64 (p1)]]) lO pM2 (fun w hw => d_pick _ rb cv bs' (p1) 16 (Rd.at rD hw) (hw.ne mM hcv) hl2 (by omega) (by omega))) rfl rfl ?_
    rintro r _ ⟨T, ⟨rfl, k2, rfl, _, _⟩, rfl⟩
    repeat' (first | exact absurd rfl hc | refine go ⟨?_⟩ | (refine isCond ?_; refine WP.condD rfl (fun hc => ?_) (fun hc => ?_)) | (refine isGuard ?_; refine WPL.splitD rfl rfl (fun hc => ?_) (fun hc => ?_)))
    · refine WP.draw [Tok.blk bo [.int .i64 n1, v1]] mixed ?_
      refine WPD.take 0 rfl (by first | exact (Op1.load rfl mM (by rfl)) | exact (Op1.loadI rfl rD lT) | exact (Op1.loadAll rfl mM (by rfl)) | exact (Op1.loadE rfl rD lT (by rfl)) | exact (Op1.loadEAgg rfl rD lT (by rfl))) rfl rfl sT kR kR kR xQP ?_
      refine WPD.take 1 rfl (Op1.move rfl) rfl rfl sT kR kR kR xQP ?_
      refine WPD.take 4 rfl (Op1.move rfl) rfl rfl sT kR kR kR xQP ?_
      refine WPD.two 2 5 kR ?e12_2 ?e12_5
      case' e12_2 =>
        refine WPO.eff rfl (OpE.buildSlice (([1, -1, 3] : List Int)) pA rfl (by decide)) rfl rfl ?_
        rintro s _ rfl
        refine ⟨sT, ?_⟩
        refine WPD.two 3 5 kR ?e13_3 ?e13_5
        case' e13_3 =>
          refine WPO.eff rfl (OpE.callT (T := [Tok.blk rb [cv, .int .i64 (p1 + 1)]]) lO pM2 (fun w hw => d_num _ rb cv s bs' [1, -1, 3] (p1 + 1) (Rd.at rD hw) (hw.ne mM hcv) (Rd.at rD hw) (hw.own_ne pM mM) hl2 (by omega) (by decide))) rfl rfl ?_
          rintro r _ ⟨T, ⟨rfl, z, rfl, _⟩, rfl⟩
          refine ⟨sT, ?_⟩
          refine WPD.eff 5 kR rfl (OpE.buildSlice (([0, 16, 1] : List Int)) pA rfl (by decide)) rfl rfl ?_
          rintro s2 _ rfl
          refine ⟨sT, ?_⟩
          refine WPD.eff 6 kR rfl (OpE.callT (T := [Tok.blk rb [cv, .int .i64 (p1 + 1 + 1)]]) lO pM2 (fun w hw => d_num _ rb cv s2 bs' [0, 16, 1] (p1 + 1 + 1) (Rd.at rD hw) (hw.ne mM hcv) (Rd.at rD hw) (hw.own_ne pM mM) hl2 (by omega) (by decide))) rfl rfl ?_
          rintro r _ ⟨T, ⟨rfl, z2, rfl, _⟩, rfl⟩
          refine ⟨sT, ?_⟩
          refine WPD.take 7 rfl (Op1.build xBP (by rfl)) rfl rfl sT kR kR kR xQP ?_
          refine WPD.eff0 8 kR rfl (OpE.storeAll rfl rfl pM (by rfl) (by rfl) oN) rfl ?_
          rintro _ _ rfl
          refine ⟨sT, ?_⟩
          refine WPD.eff0 9 kR rfl (OpE.storeAll rfl rfl pM (by rfl) (by rfl) oN) rfl ?_
          rintro _ _ rfl
          refine ⟨sT, ?_⟩
          refine WPD.done kR ?_
        case' e13_5 =>
          refine WPO.eff rfl (OpE.buildSlice (([0, 16, 1] : List Int)) pA rfl (by decide)) rfl rfl ?_
          rintro s2 _ rfl
          refine ⟨sT, ?_⟩
          refine WPD.eff 3 kR rfl (OpE.callT (T := [Tok.blk rb [cv, .int .i64 (p1 + 1)]]) lO pM2 (fun w hw => d_num _ rb cv s bs' [1, -1, 3] (p1 + 1) (Rd.at rD hw) (hw.ne mM hcv) (Rd.at rD hw) (hw.own_ne pM mM) hl2 (by omega) (by decide))) rfl rfl ?_
          rintro r _ ⟨T, ⟨rfl, z, rfl, _⟩, rfl⟩
          refine ⟨sT, ?_⟩
          refine WPD.eff 6 kR rfl (OpE.callT (T := [Tok.blk rb [cv, .int .i64 (p1 + 1 + 1)]]) lO pM2 (fun w hw => d_num _ rb cv s2 bs' [0, 16, 1] (p1 + 1 + 1) (Rd.at rD hw) (hw.ne mM hcv) (Rd.at rD hw) (hw.own_ne pM mM) hl2 (by omega) (by decide))) rfl rfl ?_
          rintro r _ ⟨T, ⟨rfl, z2, rfl, _⟩, rfl⟩
          refine ⟨sT, ?_⟩
          refine WPD.take 7 rfl (Op1.build xBP (by rfl)) rfl rfl sT kR kR kR xQP ?_
          refine WPD.eff0 8 kR rfl (OpE.storeAll rfl rfl pM (by rfl) (by rfl) oN) rfl ?_
          rintro _ _ rfl
          refine ⟨sT, ?_⟩
          refine WPD.eff0 9 kR rfl (OpE.storeAll rfl rfl pM (by rfl) (by rfl) oN) rfl ?_
          rintro _ _ rfl
          refine ⟨sT, ?_⟩
          refine WPD.done kR ?_
      case' e12_5 =>
        refine WPO.eff rfl (OpE.buildSlice (([0, 16, 1] : List Int)) pA rfl (by decide)) rfl rfl ?_
        rintro s2 _ rfl
        refine ⟨sT, ?_⟩
        refine WPD.eff 2 kR rfl (OpE.buildSlice (([1, -1, 3] : List Int)) pA rfl (by decide)) rfl rfl ?_
        rintro s _ rfl
        refine ⟨sT, ?_⟩
        refine WPD.eff 3 kR rfl (OpE.callT (T := [Tok.blk rb [cv, .int .i64 (p1 + 1)]]) lO pM2 (fun w hw => d_num _ rb cv s bs' [1, -1, 3] (p1 + 1) (Rd.at rD hw) (hw.ne mM hcv) (Rd.at rD hw) (hw.own_ne pM mM) hl2 (by omega) (by decide))) rfl rfl ?_
        rintro r _ ⟨T, ⟨rfl, z, rfl, _⟩, rfl⟩
        refine ⟨sT, ?_⟩
        refine WPD.eff 6 kR rfl (OpE.callT (T := [Tok.blk rb [cv, .int .i64 (p1 + 1 + 1)]]) lO pM2 (fun w hw => d_num _ rb cv s2 bs' [0, 16, 1] (p1 + 1 + 1) (Rd.at rD hw) (hw.ne mM hcv) (Rd.at rD hw) (hw.own_ne pM mM) hl2 (by omega) (by decide))) rfl rfl ?_
        rintro r _ ⟨T, ⟨rfl, z2, rfl, _⟩, rfl⟩
        refine ⟨sT, ?_⟩
        refine WPD.take 7 rfl (Op1.build xBP (by rfl)) rfl rfl sT kR kR kR xQP ?_
        refine WPD.eff0 8 kR rfl (OpE.storeAll rfl rfl pM (by rfl) (by rfl) oN) rfl ?_
        rintro _ _ rfl
        refine ⟨sT, ?_⟩
        refine WPD.eff0 9 kR rfl (OpE.storeAll rfl rfl pM (by rfl) (by rfl) oN) rfl ?_
        rintro _ _ rfl
        refine ⟨sT, ?_⟩
        refine WPD.done kR ?_
      all_goals (
        try refine go ⟨?_⟩
        refine PE.ret2 (T := []) (T' := [Tok.own v1 es1]) rfl rV ?_ sT2
        exact ⟨v1, n1, es1, ⟨z, z2⟩, rfl, rfl, by omega⟩)
    · refine WPL.eff (OpE.callT (T := [Tok.blk rb [cv, .int .i64 (p1 + 1)]]) lO pM2 (fun w hw => d_pick _ rb cv bs' (p1 + 1) n1 (Rd.at rD hw) (hw.ne mM hcv) hl2 (by omega) (by omega))) rfl rfl ?_
      rintro r _ ⟨T, ⟨rfl, x, rfl, _, _⟩, rfl⟩
      try refine go ⟨?_⟩
      refine WPL.eff (OpE.callT (T := [Tok.blk rb [cv, .int .i64 (p1 + 1 + 1)]]) lO pM2 (fun w hw => d_pick _ rb cv bs' (p1 + 1 + 1) n1 (Rd.at rD hw) (hw.ne mM hcv) hl2 (by omega) (by omega))) rfl rfl ?_
      rintro r _ ⟨T, ⟨rfl, y, rfl, _, _⟩, rfl⟩
      try refine go ⟨?_⟩
      refine WPL.eff (OpE.callT (T := [Tok.blk rb [cv, .int .i64 (p1 + 1 + 1 + 1)]]) lO pM2 (fun w hw => g_Wrong _ rb cv bs' (p1 + 1 + 1 + 1) n1 v1 es1 (Rd.at rD hw) (hw.ne mM hcv) (Rd.at rD hw) (hw.own_ne pM mM) hl2 (by omega) (by omega))) rfl rfl ?_
      rintro r _ ⟨T, ⟨v2, n2, p2, es2, rfl, rfl, r1, r2, r3, r4⟩, rfl⟩
      try refine go ⟨?_⟩
      refine WPL.eff (OpE.call lO (fun w hw => g_Edge _ x y)) rfl rfl ?_
      rintro r _ ⟨T, ⟨rfl, e, rfl⟩, rfl⟩
      try refine go ⟨?_⟩
      refine PE.ret2 (T := []) (T' := [Tok.own v2 es2]) rfl rV ?_ sT2
      exact ⟨v2, n2, es2, e, rfl, rfl, by omega⟩

theorem g_PartsOf (w : World) (v : Value) (bs : List UInt8) (h : RL w v bs) (hl : bs.length ≤ 9223372036854775807) :
    Tri Try.prog 35 [v] w [] dG := by
  refine Tri.intro (hf := Try.func35) (hb := rfl) (hn := Try.ntmps35) (Nat.le_of_ble_eq_true rfl) ?_
  try refine go ⟨?_⟩
  refine WPL.eff OpE.alloc rfl rfl ?_; rintro _ _ ⟨br, rfl, rfl⟩
  try refine go ⟨?_⟩
  refine WPL.eff (OpE.call lO (fun w hw => g_GraphValid _ v bs (Rd.at rD hw) hl)) rfl rfl ?_
  rintro r _ ⟨T, ⟨v1, n1, es1, rfl, rfl, q1⟩, rfl⟩
  try refine go ⟨?_⟩
  refine PE.ret1 (T := []) (T' := [Tok.own v1 es1]) rfl rV ?_ sT
  exact ⟨v1, n1, es1, rfl, rfl, q1⟩

theorem g_ForestOf (w : World) (v : Value) (bs : List UInt8) (h : RL w v bs) (hl : bs.length ≤ 9223372036854775807) :
    Tri Try.prog 51 [v] w [] dG := by
  refine Tri.intro (hf := Try.func51) (hb := rfl) (hn := Try.ntmps51) (Nat.le_of_ble_eq_true rfl) ?_
  try refine go ⟨?_⟩
  refine WPL.eff OpE.alloc rfl rfl ?_; rintro _ _ ⟨br, rfl, rfl⟩
  try refine go ⟨?_⟩
  refine WPL.eff (OpE.call lO (fun w hw => g_GraphValid _ v bs (Rd.at rD hw) hl)) rfl rfl ?_
  rintro r _ ⟨T, ⟨v1, n1, es1, rfl, rfl, q1⟩, rfl⟩
  try refine go ⟨?_⟩
  refine PE.ret1 (T := []) (T' := [Tok.own v1 es1]) rfl rV ?_ sT
  exact ⟨v1, n1, es1, rfl, rfl, q1⟩

theorem g_SafeParts (w : World) (v : Value) (bs : List UInt8) (h : RL w v bs) (hl : bs.length ≤ 9223372036854775807) :
    Tri Try.prog 56 [v] w [] dG := by
  refine Tri.intro (hf := Try.func56) (hb := rfl) (hn := Try.ntmps56) (Nat.le_of_ble_eq_true rfl) ?_
  try refine go ⟨?_⟩
  refine WPL.eff OpE.alloc rfl rfl ?_; rintro _ _ ⟨br, rfl, rfl⟩
  try refine go ⟨?_⟩
  refine WPL.eff (OpE.call lO (fun w hw => g_GraphValid _ v bs (Rd.at rD hw) hl)) rfl rfl ?_
  rintro r _ ⟨T, ⟨v1, n1, es1, rfl, rfl, q1⟩, rfl⟩
  try refine go ⟨?_⟩
  refine PE.ret1 (T := []) (T' := [Tok.own v1 es1]) rfl rV ?_ sT
  exact ⟨v1, n1, es1, rfl, rfl, q1⟩

theorem g_PartCount (w : World) (v : Value) (bs : List UInt8) (h : RL w v bs) (hl : bs.length ≤ 9223372036854775807) :
    Tri Try.prog 63 [v] w [] dG := by
  refine Tri.intro (hf := Try.func63) (hb := rfl) (hn := Try.ntmps63) (Nat.le_of_ble_eq_true rfl) ?_
  try refine go ⟨?_⟩
  refine WPL.eff OpE.alloc rfl rfl ?_; rintro _ _ ⟨br, rfl, rfl⟩
  try refine go ⟨?_⟩
  refine WPL.eff (OpE.call lO (fun w hw => g_GraphValid _ v bs (Rd.at rD hw) hl)) rfl rfl ?_
  rintro r _ ⟨T, ⟨v1, n1, es1, rfl, rfl, q1⟩, rfl⟩
  try refine go ⟨?_⟩
  refine PE.ret1 (T := []) (T' := [Tok.own v1 es1]) rfl rV ?_ sT
  exact ⟨v1, n1, es1, rfl, rfl, q1⟩

theorem g_PartNodes (w : World) (v : Value) (bs : List UInt8) (h : RL w v bs) (hl : bs.length ≤ 9223372036854775807) :
    Tri Try.prog 41 [v] w [] dGx := by
  refine Tri.intro (hf := Try.func41) (hb := rfl) (hn := Try.ntmps41) (Nat.le_of_ble_eq_true rfl) ?_
  try refine go ⟨?_⟩
  refine WPL.eff OpE.alloc rfl rfl ?_; rintro _ _ ⟨br, rfl, rfl⟩
  try refine go ⟨?_⟩
  refine WPL.eff (OpE.call lO (fun w hw => g_Node _ v bs (Rd.at rD hw) hl)) rfl rfl ?_
  rintro r _ ⟨T, ⟨v1, n1, es1, x, rfl, rfl, q1, q2⟩, rfl⟩
  try refine go ⟨?_⟩
  refine PE.ret2 (T := []) (T' := [Tok.own v1 es1]) rfl rV ?_ sT
  exact ⟨v1, n1, es1, x, rfl, rfl, q1, q2⟩

theorem g_Connected (w : World) (v : Value) (bs : List UInt8) (h : RL w v bs) (hl : bs.length ≤ 9223372036854775807) :
    Tri Try.prog 20 [v] w [] dGxy := by
  refine Tri.intro (hf := Try.func20) (hb := rfl) (hn := Try.ntmps20) (Nat.le_of_ble_eq_true rfl) ?_
  try refine go ⟨?_⟩
  refine WPL.eff OpE.alloc rfl rfl ?_; rintro _ _ ⟨br, rfl, rfl⟩
  try refine go ⟨?_⟩
  refine WPL.eff (OpE.call lO (fun w hw => g_Two _ v bs (Rd.at rD hw) hl)) rfl rfl ?_
  rintro r _ ⟨T, ⟨v1, n1, es1, x, y, rfl, rfl, q1⟩, rfl⟩
  try refine go ⟨?_⟩
  refine PE.ret3 (T := []) (T' := [Tok.own v1 es1]) rfl rV ?_ sT
  exact ⟨v1, n1, es1, x, y, rfl, rfl, q1⟩

theorem g_BridgesBetween (w : World) (v : Value) (bs : List UInt8) (h : RL w v bs) (hl : bs.length ≤ 9223372036854775807) :
    Tri Try.prog 59 [v] w [] dGxy := by
  refine Tri.intro (hf := Try.func59) (hb := rfl) (hn := Try.ntmps59) (Nat.le_of_ble_eq_true rfl) ?_
  try refine go ⟨?_⟩
  refine WPL.eff OpE.alloc rfl rfl ?_; rintro _ _ ⟨br, rfl, rfl⟩
  try refine go ⟨?_⟩
  refine WPL.eff (OpE.call lO (fun w hw => g_Two _ v bs (Rd.at rD hw) hl)) rfl rfl ?_
  rintro r _ ⟨T, ⟨v1, n1, es1, x, y, rfl, rfl, q1⟩, rfl⟩
  try refine go ⟨?_⟩
  refine PE.ret3 (T := []) (T' := [Tok.own v1 es1]) rfl rV ?_ sT
  exact ⟨v1, n1, es1, x, y, rfl, rfl, q1⟩

theorem g_SafeTogether (w : World) (v : Value) (bs : List UInt8) (h : RL w v bs) (hl : bs.length ≤ 9223372036854775807) :
    Tri Try.prog 61 [v] w [] dGxy := by
  refine Tri.intro (hf := Try.func61) (hb := rfl) (hn := Try.ntmps61) (Nat.le_of_ble_eq_true rfl) ?_
  try refine go ⟨?_⟩
  refine WPL.eff OpE.alloc rfl rfl ?_; rintro _ _ ⟨br, rfl, rfl⟩
  try refine go ⟨?_⟩
  refine WPL.eff (OpE.call lO (fun w hw => g_Two _ v bs (Rd.at rD hw) hl)) rfl rfl ?_
  rintro r _ ⟨T, ⟨v1, n1, es1, x, y, rfl, rfl, q1⟩, rfl⟩
  try refine go ⟨?_⟩
  refine PE.ret3 (T := []) (T' := [Tok.own v1 es1]) rfl rV ?_ sT
  exact ⟨v1, n1, es1, x, y, rfl, rfl, q1⟩

theorem g_CutNodesBetween (w : World) (v : Value) (bs : List UInt8) (h : RL w v bs) (hl : bs.length ≤ 9223372036854775807) :
    Tri Try.prog 62 [v] w [] dGxy := by
  refine Tri.intro (hf := Try.func62) (hb := rfl) (hn := Try.ntmps62) (Nat.le_of_ble_eq_true rfl) ?_
  try refine go ⟨?_⟩
  refine WPL.eff OpE.alloc rfl rfl ?_; rintro _ _ ⟨br, rfl, rfl⟩
  try refine go ⟨?_⟩
  refine WPL.eff (OpE.call lO (fun w hw => g_Two _ v bs (Rd.at rD hw) hl)) rfl rfl ?_
  rintro r _ ⟨T, ⟨v1, n1, es1, x, y, rfl, rfl, q1⟩, rfl⟩
  try refine go ⟨?_⟩
  refine PE.ret3 (T := []) (T' := [Tok.own v1 es1]) rfl rV ?_ sT
  exact ⟨v1, n1, es1, x, y, rfl, rfl, q1⟩

theorem g_PutEdge (w : World) (v : Value) (bs : List UInt8) (h : RL w v bs) (hl : bs.length ≤ 9223372036854775807) :
    Tri Try.prog 66 [v] w [] dGe := by
  refine Tri.intro (hf := Try.func66) (hb := rfl) (hn := Try.ntmps66) (Nat.le_of_ble_eq_true rfl) ?_
  try refine go ⟨?_⟩
  refine WPL.eff OpE.alloc rfl rfl ?_; rintro _ _ ⟨br, rfl, rfl⟩
  try refine go ⟨?_⟩
  refine WPL.eff OpE.alloc rfl rfl ?_; rintro _ _ ⟨br2, rfl, rfl⟩
  try refine go ⟨?_⟩
  refine WPL.eff (OpE.call lO (fun w hw => g_Case _ v bs (Rd.at rD hw) hl)) rfl rfl ?_
  rintro r _ ⟨T, ⟨v1, n1, es1, e, rfl, rfl, q1⟩, rfl⟩
  try refine go ⟨?_⟩
  refine PE.ret2 (T := []) (T' := [Tok.own v1 es1]) rfl rV ?_ sT
  exact ⟨v1, n1, es1, e, rfl, rfl, q1⟩

theorem g_LostBy (w : World) (v : Value) (bs : List UInt8) (h : RL w v bs) (hl : bs.length ≤ 9223372036854775807) :
    Tri Try.prog 71 [v] w [] dGe := by
  refine Tri.intro (hf := Try.func71) (hb := rfl) (hn := Try.ntmps71) (Nat.le_of_ble_eq_true rfl) ?_
  try refine go ⟨?_⟩
  refine WPL.eff OpE.alloc rfl rfl ?_; rintro _ _ ⟨br, rfl, rfl⟩
  try refine go ⟨?_⟩
  refine WPL.eff OpE.alloc rfl rfl ?_; rintro _ _ ⟨br2, rfl, rfl⟩
  try refine go ⟨?_⟩
  refine WPL.eff (OpE.call lO (fun w hw => g_Case _ v bs (Rd.at rD hw) hl)) rfl rfl ?_
  rintro r _ ⟨T, ⟨v1, n1, es1, e, rfl, rfl, q1⟩, rfl⟩
  try refine go ⟨?_⟩
  refine PE.ret2 (T := []) (T' := [Tok.own v1 es1]) rfl rV ?_ sT
  exact ⟨v1, n1, es1, e, rfl, rfl, q1⟩
end Go.Proofs.Ytocifflamgnhaaa
