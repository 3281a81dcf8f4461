/- The second program's drawn arguments for LinkRoot and TurnRoot. Conditions: those of each contract. -/
import Derived.Test.YtjmbnhohfhpopaaDrw2
namespace Go.Proofs.Ytjmbnhohfhpopaa
open Go
set_option linter.unusedVariables false set_option linter.unusedSimpArgs false attribute [local irreducible] Tok.own Tok.blk RL Rd eptr WP WPL PE WPD WPO Op1 OpE Tri Again Mid Exit.then Exit.inBlock bodyPost RP Code.wp wpList isOwn OneM One
set_option maxHeartbeats 8000000

theorem d_TurnRoot (w : World) (v : Value) (bs : List UInt8) (h : RL w v bs) (hl : bs.length ≤ 9223372036854775807) :
    Tri Try.prog 39 [v] w [] (drawnRI 1) := by
  refine Tri.intro (hf := Try.func39) (hb := rfl) (hn := Try.ntmps39) (Nat.le_of_ble_eq_true rfl) ?_
  try refine go ⟨?_⟩
  refine WPL.eff OpE.alloc rfl rfl ?_; rintro _ _ ⟨br, rfl, rfl⟩
  try refine go ⟨?_⟩
  refine WPL.eff (OpE.call lO (fun w hw => d_RootOf _ v bs (Rd.at rD hw) hl)) rfl rfl ?_
  rintro r _ ⟨T, hd, rfl⟩
  obtain ⟨uP, uW, ps, ws, x, rfl, rfl, h1, h2⟩ := hd.one
  try refine go ⟨?_⟩
  refine PE.ret2 (T := []) (T' := [Tok.own uP ps, Tok.own uW ws]) rfl rV ?_ sT
  exact ⟨uP, uW, ps, ws, [x], rfl, rfl, rfl, h1, h2⟩

theorem drawnRI.three {r : Value} {T : List Tok} (h : drawnRI 3 r T) : ∃ uP uW, ∃ ps ws : List Int, ∃ x y z : Int, r = .tuple #[.agg #[uP, uW], .int .i64 x, .int .i64 y, .int .i64 z] ∧ T = [Tok.own uP ps, Tok.own uW ws] ∧ ps.length ≤ 10 ∧ ws.length ≤ 10 := by
  obtain ⟨uP, uW, ps, ws, xs, hx, rfl, rfl, h1, h2⟩ := h
  match xs, hx with
  | [x, y, z], _ => exact ⟨uP, uW, ps, ws, x, y, z, rfl, rfl, h1, h2⟩

theorem d_LinkRoot (w : World) (v : Value) (bs : List UInt8) (h : RL w v bs) (hl : bs.length ≤ 9223372036854775807) :
    Tri Try.prog 37 [v] w [] (drawnRI 3) := by
  refine Tri.intro (hf := Try.func37) (hb := rfl) (hn := Try.ntmps37) (Nat.le_of_ble_eq_true rfl) ?_
  try refine go ⟨?_⟩
  refine WPL.eff OpE.alloc rfl rfl ?_; rintro _ _ ⟨br, rfl, rfl⟩
  try refine go ⟨?_⟩
  refine WPL.eff (OpE.call lO (fun w hw => d_Two _ v bs (Rd.at rD hw) hl)) rfl rfl ?_
  rintro r _ ⟨T, hd, rfl⟩
  obtain ⟨uP, uW, ps, ws, x, y, rfl, rfl, h1, h2⟩ := hd.two
  try refine go ⟨?_⟩
  refine WPL.eff OpE.alloc rfl rfl ?_; rintro _ _ ⟨bt, rfl, rfl⟩
  try refine go ⟨?_⟩
  refine WPL.eff (OpE.call lO (fun w hw => d_Open _ v bs (Rd.at rD hw) hl)) rfl rfl ?_
  rintro r _ ⟨T, ⟨rb, rfl, rfl⟩, rfl⟩
  have hcv := h.cvOf
  have hl2 := bsOf_le bs
  generalize cvOf v bs = cv at *
  generalize bsOf bs = bs' at *
  try refine go ⟨?_⟩
  refine WP.loop (σ := Int × Nat × Nat) (fun s => [(2, .pointer (some ⟨br, 0, none⟩)), (6, .pointer (some ⟨bt, 0, none⟩)), (7, .int .i64 s.1), (8, .int .i64 y), (9, .pointer (some ⟨rb, 0, none⟩)), (10, .int .i64 ((s.2.2 + 1 : Nat) : Int))])
    (fun s => [Tok.blk rb [cv, .int .i64 s.2.1], Tok.blk bt [uP, uW], Tok.own uP ps, Tok.own uW ws, Tok.blk br [.slice none 0 0, .slice none 0 0]]) (fun s => s.2.1 ≤ s.2.2 ∧ s.2.2 ≤ 10) (fun s => 11 - s.2.2) (x, 0, 0) ⟨Nat.zero_le _, Nat.zero_le _⟩ sE sT ?_
  rintro ⟨x', q, i⟩ ⟨hq, hi⟩
  dsimp only at hq hi ⊢
  repeat' (first | exact absurd rfl hc | refine go ⟨?_⟩ | (refine isCond ?_; refine WP.condD rfl (fun hc => ?_) (fun hc => ?_)) | (refine isGuard ?_; refine WPL.splitD rfl rfl (fun hc => ?_) (fun hc => ?_)))
  · refine WPL.eff (OpE.callT (T := [Tok.blk rb [cv, .int .i64 q]]) lO pM (fun w hw => d_pick _ rb cv bs' q 2 (Rd.at rD hw) (hw.ne mM hcv) hl2 (by omega) (by omega))) rfl rfl ?_
    rintro r _ ⟨T, ⟨rfl, k, rfl, k0, k1⟩, rfl⟩
    repeat' (first | exact absurd rfl hc | refine go ⟨?_⟩ | (refine isCond ?_; refine WP.condD rfl (fun hc => ?_) (fun hc => ?_)) | (refine isGuard ?_; refine WPL.splitD rfl rfl (fun hc => ?_) (fun hc => ?_)))
    · refine PE.again (((i + 1 : Nat) : Int), q + 1, i + 1) ?_ ?_ sE sT
      · dsimp only; omega
      · dsimp only; omega
    · refine PE.again (x', q + 1, i + 1) ?_ ?_ sE sT
      · dsimp only; omega
      · dsimp only; omega
    · refine WP.draw [Tok.blk bt [uP, uW]] mixed ?_
      refine WPD.take 0 rfl oP rfl rfl sT kR kR kR xQP ?_
      refine WPD.take 1 rfl oP rfl rfl sT kR kR kR xQP ?_
      refine WPD.take 2 rfl oP rfl rfl sT kR kR kR xQP ?_
      refine WPD.take 3 rfl oP rfl rfl sT kR kR kR xQP ?_
      refine WPD.eff 4 kR rfl (OpE.buildSlice [1, 7, 0, 999, 1000] pA rfl (by decide)) rfl rfl ?_; rintro sd _ rfl; refine ⟨sT, ?_⟩
      refine WPD.eff 5 kR rfl (OpE.callT (T := [Tok.blk rb [cv, .int .i64 ((q : Int) + 1)]]) lO pM (fun w hw => d_num _ rb cv sd bs' [1, 7, 0, 999, 1000] ((q : Int) + 1) (Rd.at rD hw) (hw.ne mM hcv) (Rd.at rD hw) (hw.own_ne pM mM) hl2 (by omega) (by decide))) rfl rfl ?_
      rintro r _ ⟨T, ⟨rfl, z, rfl, hz⟩, rfl⟩
      refine ⟨sT, ?_⟩
      refine WPD.eff0 6 kR rfl (OpE.storeAll rfl rfl pM (by rfl) (by rfl) oN) rfl ?_; rintro _ _ rfl; refine ⟨sT, ?_⟩
      refine WPD.take 7 rfl oP rfl rfl sT kR kR kR xQP ?_
      refine WPD.take 8 rfl oP rfl rfl sT kR kR kR xQP ?_
      refine WPD.take 9 rfl oP rfl rfl sT kR kR kR xQP ?_
      refine WPD.done kR ?_
      try refine go ⟨?_⟩
      refine PE.ret4 (T := []) (T' := [Tok.own uP ps, Tok.own uW ws]) rfl rV ?_ sT
      exact ⟨uP, uW, ps, ws, [x', y, z], rfl, rfl, rfl, h1, h2⟩
  · refine WP.draw [Tok.blk bt [uP, uW]] mixed ?_
    refine WPD.take 0 rfl oP rfl rfl sT kR kR kR xQP ?_
    refine WPD.take 1 rfl oP rfl rfl sT kR kR kR xQP ?_
    refine WPD.take 2 rfl oP rfl rfl sT kR kR kR xQP ?_
    refine WPD.take 3 rfl oP rfl rfl sT kR kR kR xQP ?_
    refine WPD.eff 4 kR rfl (OpE.buildSlice [1, 7, 0, 999, 1000] pA rfl (by decide)) rfl rfl ?_; rintro sd _ rfl; refine ⟨sT, ?_⟩
    refine WPD.eff 5 kR rfl (OpE.callT (T := [Tok.blk rb [cv, .int .i64 ((q : Int))]]) lO pM (fun w hw => d_num _ rb cv sd bs' [1, 7, 0, 999, 1000] ((q : Int)) (Rd.at rD hw) (hw.ne mM hcv) (Rd.at rD hw) (hw.own_ne pM mM) hl2 (by omega) (by decide))) rfl rfl ?_
    rintro r _ ⟨T, ⟨rfl, z, rfl, hz⟩, rfl⟩
    refine ⟨sT, ?_⟩
    refine WPD.eff0 6 kR rfl (OpE.storeAll rfl rfl pM (by rfl) (by rfl) oN) rfl ?_; rintro _ _ rfl; refine ⟨sT, ?_⟩
    refine WPD.take 7 rfl oP rfl rfl sT kR kR kR xQP ?_
    refine WPD.take 8 rfl oP rfl rfl sT kR kR kR xQP ?_
    refine WPD.take 9 rfl oP rfl rfl sT kR kR kR xQP ?_
    refine WPD.done kR ?_
    try refine go ⟨?_⟩
    refine PE.ret4 (T := []) (T' := [Tok.own uP ps, Tok.own uW ws]) rfl rV ?_ sT
    exact ⟨uP, uW, ps, ws, [x', y, z], rfl, rfl, rfl, h1, h2⟩
end Go.Proofs.Ytjmbnhohfhpopaa
