/- The second program's drawn arguments for rooted trees. Conditions: those of each contract. -/
import Derived.Test.YtjmbnhohfhpopaaDrw1
namespace Go.Proofs.Ytjmbnhohfhpopaa
open Go
set_option linter.unusedVariables false set_option linter.unusedSimpArgs false attribute [local irreducible] Tok.own Tok.blk RL Rd eptr WP WPL PE WPD WPO Op1 OpE Tri Again Mid Exit.then Exit.inBlock bodyPost RP Code.wp wpList isOwn OneM One
set_option maxHeartbeats 8000000

/-- Drawn rooted trees in new memory, and drawn numbers. -/
def drawnRI (n : Nat) (r : Value) (T : List Tok) : Prop := ∃ uP uW, ∃ ps ws : List Int, ∃ xs : List Int, xs.length = n ∧ r = .tuple (#[.agg #[uP, uW]] ++ (xs.map fun x => Value.int .i64 x).toArray) ∧ T = [Tok.own uP ps, Tok.own uW ws] ∧ ps.length ≤ 10 ∧ ws.length ≤ 10

theorem d_Two (w : World) (v : Value) (bs : List UInt8) (h : RL w v bs) (hl : bs.length ≤ 9223372036854775807) :
    Tri Try.prog 47 [v] w [] (drawnRI 2) := by
  refine Tri.intro (hf := Try.func47) (hb := rfl) (hn := Try.ntmps47) (Nat.le_of_ble_eq_true rfl) ?_
  try refine go ⟨?_⟩
  refine WPL.eff OpE.alloc rfl rfl ?_; rintro _ _ ⟨br, rfl, rfl⟩
  try refine go ⟨?_⟩
  refine WPL.eff (OpE.call lO (fun w hw => d_Draw _ v bs (Rd.at rD hw) hl)) rfl rfl ?_
  rintro r _ ⟨T, ⟨uP, uW, ps, ws, rfl, rfl, hp0, hp1, hw1⟩, rfl⟩
  try refine go ⟨?_⟩
  refine WPL.eff OpE.alloc rfl rfl ?_; rintro _ _ ⟨bt, rfl, rfl⟩
  try refine go ⟨?_⟩
  refine WPL.eff (OpE.call lO (fun w hw => d_Open _ v bs (Rd.at rD hw) hl)) rfl rfl ?_
  rintro r _ ⟨T, ⟨rb, rfl, rfl⟩, rfl⟩
  have hcv := h.cvOf
  have hl2 := bsOf_le bs
  generalize cvOf v bs = cv at *
  generalize bsOf bs = bs' at *
  try refine go ⟨?_⟩
  refine WPL.eff (OpE.callT (T := [Tok.blk rb [cv, .int .i64 0]]) lO pM (fun w hw => d_pick _ rb cv bs' 0 20 (Rd.at rD hw) (hw.ne mM hcv) hl2 (by omega) (by omega))) rfl rfl ?_
  rintro r _ ⟨T, ⟨rfl, k, rfl, k0, k1⟩, rfl⟩
  repeat' (first | exact absurd rfl hc | refine go ⟨?_⟩ | (refine isCond ?_; refine WP.condD rfl (fun hc => ?_) (fun hc => ?_)) | (refine isGuard ?_; refine WPL.splitD rfl rfl (fun hc => ?_) (fun hc => ?_)))
  · refine WP.draw [Tok.blk bt [uP, uW]] mixed ?_
    refine WPD.take 0 rfl oP rfl rfl sT kR kR kR xQP ?_
    refine WPD.take 1 rfl oP rfl rfl sT kR kR kR xQP ?_
    refine WPD.eff 2 kR rfl (OpE.buildSlice [-1, 16] pA rfl (by decide)) rfl rfl ?_; rintro sd _ rfl; refine ⟨sT, ?_⟩
    refine WPD.eff 3 kR rfl (OpE.callT (T := [Tok.blk rb [cv, .int .i64 (0 + 1)]]) lO pM (fun w hw => d_num _ rb cv sd bs' [-1, 16] (0 + 1) (Rd.at rD hw) (hw.ne mM hcv) (Rd.at rD hw) (hw.own_ne pM mM) hl2 (by omega) (by decide))) rfl rfl ?_
    rintro r _ ⟨T, ⟨rfl, k6, rfl, k7⟩, rfl⟩
    refine ⟨sT, ?_⟩
    refine WPD.eff0 4 kR rfl (OpE.storeAll rfl rfl pM (by rfl) (by rfl) oN) rfl ?_; rintro _ _ rfl; refine ⟨sT, ?_⟩
    refine WPD.take 5 rfl oP rfl rfl sT kR kR kR xQP ?_
    refine WPD.take 6 rfl oP rfl rfl sT kR kR kR xQP ?_
    refine WPD.done kR ?_
    try refine go ⟨?_⟩
    refine PE.ret3 (T := []) (T' := [Tok.own uP ps, Tok.own uW ws]) rfl rV ?_ sT
    exact ⟨uP, uW, ps, ws, [k6, 0], rfl, rfl, rfl, hp1, hw1⟩
  · refine WP.draw [Tok.blk bt [uP, uW]] mixed ?_
    refine WPD.take 0 rfl oP rfl rfl sT kR kR kR xQP ?_
    refine WPD.take 1 rfl oP rfl rfl sT kR kR kR xQP ?_
    refine WPD.take 2 rfl oP rfl rfl sT kR kR kR xQP ?_
    refine WPD.take 4 rfl oP rfl rfl sT kR kR kR xQP ?_
    refine WPD.take 5 rfl oP rfl rfl sT kR kR kR xQP ?_
    refine WPD.eff 3 kR rfl (OpE.callT (T := [Tok.blk rb [cv, .int .i64 (0 + 1)]]) lO pM (fun w hw => d_pick _ rb cv bs' (0 + 1) ps.length (Rd.at rD hw) (hw.ne mM hcv) hl2 (by omega) (by omega))) rfl rfl ?_
    rintro r _ ⟨T, ⟨rfl, k6, rfl, k7, k8⟩, rfl⟩
    refine ⟨sT, ?_⟩
    refine WPD.eff 6 kR rfl (OpE.callT (T := [Tok.blk rb [cv, .int .i64 (0 + 1 + 1)]]) lO pM (fun w hw => d_pick _ rb cv bs' (0 + 1 + 1) ps.length (Rd.at rD hw) (hw.ne mM hcv) hl2 (by omega) (by omega))) rfl rfl ?_
    rintro r _ ⟨T, ⟨rfl, j6, rfl, j7, j8⟩, rfl⟩
    refine ⟨sT, ?_⟩
    refine WPD.eff0 7 kR rfl (OpE.storeAll rfl rfl pM (by rfl) (by rfl) oN) rfl ?_; rintro _ _ rfl; refine ⟨sT, ?_⟩
    refine WPD.take 8 rfl oP rfl rfl sT kR kR kR xQP ?_
    refine WPD.take 9 rfl oP rfl rfl sT kR kR kR xQP ?_
    refine WPD.done kR ?_
    try refine go ⟨?_⟩
    refine PE.ret3 (T := []) (T' := [Tok.own uP ps, Tok.own uW ws]) rfl rV ?_ sT
    exact ⟨uP, uW, ps, ws, [k6, j6], rfl, rfl, rfl, hp1, hw1⟩

theorem drawnRI.two {r : Value} {T : List Tok} (h : drawnRI 2 r T) : ∃ uP uW, ∃ ps ws : List Int, ∃ x y : Int, r = .tuple #[.agg #[uP, uW], .int .i64 x, .int .i64 y] ∧ T = [Tok.own uP ps, Tok.own uW ws] ∧ ps.length ≤ 10 ∧ ws.length ≤ 10 := by
  obtain ⟨uP, uW, ps, ws, xs, hx, rfl, rfl, h1, h2⟩ := h
  match xs, hx with
  | [x, y], _ => exact ⟨uP, uW, ps, ws, x, y, rfl, rfl, h1, h2⟩
theorem drawnRI.one {r : Value} {T : List Tok} (h : drawnRI 1 r T) : ∃ uP uW, ∃ ps ws : List Int, ∃ x : Int, r = .tuple #[.agg #[uP, uW], .int .i64 x] ∧ T = [Tok.own uP ps, Tok.own uW ws] ∧ ps.length ≤ 10 ∧ ws.length ≤ 10 := by
  obtain ⟨uP, uW, ps, ws, xs, hx, rfl, rfl, h1, h2⟩ := h
  match xs, hx with
  | [x], _ => exact ⟨uP, uW, ps, ws, x, rfl, rfl, h1, h2⟩

theorem d_MeetOf (w : World) (v : Value) (bs : List UInt8) (h : RL w v bs) (hl : bs.length ≤ 9223372036854775807) :
    Tri Try.prog 15 [v] w [] (drawnRI 2) := by
  refine Tri.intro (hf := Try.func15) (hb := rfl) (hn := Try.ntmps15) (Nat.le_of_ble_eq_true rfl) ?_
  try refine go ⟨?_⟩
  refine WPL.eff OpE.alloc rfl rfl ?_; rintro _ _ ⟨br, rfl, rfl⟩
  try refine go ⟨?_⟩
  refine WPL.eff (OpE.call lO (fun w hw => d_Two _ v bs (Rd.at rD hw) hl)) rfl rfl ?_
  rintro r _ ⟨T, hd, rfl⟩
  obtain ⟨uP, uW, ps, ws, x, y, rfl, rfl, h1, h2⟩ := hd.two
  try refine go ⟨?_⟩
  refine PE.ret3 (T := []) (T' := [Tok.own uP ps, Tok.own uW ws]) rfl rV ?_ sT
  exact ⟨uP, uW, ps, ws, [x, y], rfl, rfl, rfl, h1, h2⟩

theorem d_WeightBetween (w : World) (v : Value) (bs : List UInt8) (h : RL w v bs) (hl : bs.length ≤ 9223372036854775807) :
    Tri Try.prog 38 [v] w [] (drawnRI 2) := by
  refine Tri.intro (hf := Try.func38) (hb := rfl) (hn := Try.ntmps38) (Nat.le_of_ble_eq_true rfl) ?_
  try refine go ⟨?_⟩
  refine WPL.eff OpE.alloc rfl rfl ?_; rintro _ _ ⟨br, rfl, rfl⟩
  try refine go ⟨?_⟩
  refine WPL.eff (OpE.call lO (fun w hw => d_Two _ v bs (Rd.at rD hw) hl)) rfl rfl ?_
  rintro r _ ⟨T, hd, rfl⟩
  obtain ⟨uP, uW, ps, ws, x, y, rfl, rfl, h1, h2⟩ := hd.two
  try refine go ⟨?_⟩
  refine PE.ret3 (T := []) (T' := [Tok.own uP ps, Tok.own uW ws]) rfl rV ?_ sT
  exact ⟨uP, uW, ps, ws, [x, y], rfl, rfl, rfl, h1, h2⟩

theorem d_RootOf (w : World) (v : Value) (bs : List UInt8) (h : RL w v bs) (hl : bs.length ≤ 9223372036854775807) :
    Tri Try.prog 54 [v] w [] (drawnRI 1) := by
  refine Tri.intro (hf := Try.func54) (hb := rfl) (hn := Try.ntmps54) (Nat.le_of_ble_eq_true rfl) ?_
  try refine go ⟨?_⟩
  refine WPL.eff OpE.alloc rfl rfl ?_; rintro _ _ ⟨br, rfl, rfl⟩
  try refine go ⟨?_⟩
  refine WPL.eff (OpE.call lO (fun w hw => d_Two _ v bs (Rd.at rD hw) hl)) rfl rfl ?_
  rintro r _ ⟨T, hd, rfl⟩
  obtain ⟨uP, uW, ps, ws, x, y, rfl, rfl, h1, h2⟩ := hd.two
  try refine go ⟨?_⟩
  refine WPL.eff OpE.alloc rfl rfl ?_; rintro _ _ ⟨bt, rfl, rfl⟩
  try refine go ⟨?_⟩
  refine PE.ret2 (T := []) (T' := [Tok.own uP ps, Tok.own uW ws]) rfl rV ?_ sT
  exact ⟨uP, uW, ps, ws, [x], rfl, rfl, rfl, h1, h2⟩

theorem d_CutParent (w : World) (v : Value) (bs : List UInt8) (h : RL w v bs) (hl : bs.length ≤ 9223372036854775807) :
    Tri Try.prog 19 [v] w [] (drawnRI 1) := by
  refine Tri.intro (hf := Try.func19) (hb := rfl) (hn := Try.ntmps19) (Nat.le_of_ble_eq_true rfl) ?_
  try refine go ⟨?_⟩
  refine WPL.eff OpE.alloc rfl rfl ?_; rintro _ _ ⟨br, rfl, rfl⟩
  try refine go ⟨?_⟩
  refine WPL.eff (OpE.call lO (fun w hw => d_RootOf _ v bs (Rd.at rD hw) hl)) rfl rfl ?_
  rintro r _ ⟨T, hd, rfl⟩
  obtain ⟨uP, uW, ps, ws, x, rfl, rfl, h1, h2⟩ := hd.one
  try refine go ⟨?_⟩
  refine PE.ret2 (T := []) (T' := [Tok.own uP ps, Tok.own uW ws]) rfl rV ?_ sT
  exact ⟨uP, uW, ps, ws, [x], rfl, rfl, rfl, h1, h2⟩
end Go.Proofs.Ytjmbnhohfhpopaa
