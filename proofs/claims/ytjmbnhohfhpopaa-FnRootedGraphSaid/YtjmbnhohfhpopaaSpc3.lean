/- Rooted trees: the walks of the second program's CutParent, LinkRoot, TurnRoot. Conditions: those of each contract. -/
import Derived.Test.YtjmbnhohfhpopaaSpc0
import Derived.Test.YtjmbnhohfhpopaaMath1
namespace Go.Proofs.Ytjmbnhohfhpopaa
open Go
set_option linter.unusedVariables false set_option linter.unusedSimpArgs false attribute [local irreducible] Tok.own Tok.blk RL Rd eptr WP WPL PE WPD WPO Op1 OpE Tri Again Mid Exit.then Exit.inBlock bodyPost RP Code.wp wpList isOwn OneM One
set_option maxHeartbeats 8000000

theorem s_CutParent (w : World) (vP vW : Value) (ps ws : List Int) (x : Int) (hP : RL w vP ps) (hW : RL w vW ws) (hlp : ps.length ≤ 1099511627776) (hlw : ws.length ≤ 1099511627776) :
    Tri Try.prog 21 [.agg #[vP, vW], .int .i64 x] w [] fun r T => (cutOk ps ws x ∧ yesR (ps.set x.toNat (-1)) (ws.set x.toNat 0) r T) ∨ (¬ cutOk ps ws x ∧ noR r T) := by
  refine Tri.intro (hf := Try.func21) (hb := rfl) (hn := Try.ntmps21) (Nat.le_of_ble_eq_true rfl) ?_
  try refine go ⟨?_⟩
  refine WPL.eff (OpE.box rfl) rfl rfl ?_; rintro _ _ ⟨b, rfl, rfl⟩
  refine WPL.eff OpE.alloc rfl rfl ?_; rintro _ _ ⟨br, rfl, rfl⟩
  try refine go ⟨?_⟩
  refine WPL.eff (OpE.call lO (fun w hw => s_Node _ vP vW ps ws x (Rd.at rD hw) (Rd.at rD hw) hlp hlw)) rfl rfl ?_
  rintro r _ ⟨T, ⟨rfl, rfl⟩, rfl⟩
  by_cases hx : NV ps ws x
  case neg =>
    rw [decide_eq_false hx]
    repeat' (first | exact absurd rfl hc | refine go ⟨?_⟩ | (refine isCond ?_; refine WP.condD rfl (fun hc => ?_) (fun hc => ?_)) | (refine isGuard ?_; refine WPL.splitD rfl rfl (fun hc => ?_) (fun hc => ?_)))
    refine PE.ret2 (T := []) (T' := []) rfl rV ?_ sT
    exact .inr ⟨fun h => hx h.1, rfl, rfl⟩
  have hx0 := hx.2.1
  have hx1 := hx.2.2
  have hw1 : ws.length = ps.length := hx.1.2.2.1
  have hl16 : ps.length ≤ 16 := hx.1.2.1
  have hin := (hx.1.allN x.toNat (by omega)).1
  rw [decide_eq_true hx]
  repeat' (first | exact absurd rfl hc | refine go ⟨?_⟩ | (refine isCond ?_; refine WP.condD rfl (fun hc => ?_) (fun hc => ?_)) | (refine isGuard ?_; refine WPL.splitD rfl rfl (fun hc => ?_) (fun hc => ?_)))
  · refine PE.ret2 (T := []) (T' := []) rfl rV ?_ sT
    exact .inr ⟨fun h => h.2 (by omega), rfl, rfl⟩
  · refine WPL.eff (OpE.call lO (fun w hw => s_Copy _ vP vW ps ws (Rd.at rD hw) (Rd.at rD hw) (by omega) (by omega))) rfl rfl ?_
    rintro r _ ⟨T, ⟨uP, uW, rfl, rfl⟩, rfl⟩
    repeat' (first | exact absurd rfl hc | refine go ⟨?_⟩ | (refine isCond ?_; refine WP.condD rfl (fun hc => ?_) (fun hc => ?_)) | (refine isGuard ?_; refine WPL.splitD rfl rfl (fun hc => ?_) (fun hc => ?_)))
    refine WPL.eff OpE.alloc rfl rfl ?_; rintro _ _ ⟨bo, rfl, rfl⟩
    repeat' (first | exact absurd rfl hc | refine go ⟨?_⟩ | (refine isCond ?_; refine WP.condD rfl (fun hc => ?_) (fun hc => ?_)) | (refine isGuard ?_; refine WPL.splitD rfl rfl (fun hc => ?_) (fun hc => ?_)))
    refine WPL.eff0 (OpE.store1 ((-1 : Int)) rfl rfl pM (by omega) rfl) rfl ?_; rintro _ _ rfl
    repeat' (first | exact absurd rfl hc | refine go ⟨?_⟩ | (refine isCond ?_; refine WP.condD rfl (fun hc => ?_) (fun hc => ?_)) | (refine isGuard ?_; refine WPL.splitD rfl rfl (fun hc => ?_) (fun hc => ?_)))
    refine WPL.eff0 (OpE.store1 ((0 : Int)) rfl rfl pM (by omega) rfl) rfl ?_; rintro _ _ rfl
    repeat' (first | exact absurd rfl hc | refine go ⟨?_⟩ | (refine isCond ?_; refine WP.condD rfl (fun hc => ?_) (fun hc => ?_)) | (refine isGuard ?_; refine WPL.splitD rfl rfl (fun hc => ?_) (fun hc => ?_)))
    refine PE.ret2 (T := []) (T' := [Tok.own uP (ps.set x.toNat (-1)), Tok.own uW (ws.set x.toNat 0)]) rfl rV ?_ sT
    exact .inl ⟨⟨hx, by omega⟩, uP, uW, rfl, rfl⟩

theorem s_LinkRoot (w : World) (vP vW : Value) (ps ws : List Int) (x y q : Int) (hP : RL w vP ps) (hW : RL w vW ws) (hlp : ps.length ≤ 1099511627776) (hlw : ws.length ≤ 1099511627776) :
    Tri Try.prog 33 [.agg #[vP, vW], .int .i64 x, .int .i64 y, .int .i64 q] w [] fun r T => (linkOk ps ws x y q ∧ yesR (ps.set x.toNat y) (ws.set x.toNat q) r T) ∨ (¬ linkOk ps ws x y q ∧ noR r T) := by
  refine Tri.intro (hf := Try.func33) (hb := rfl) (hn := Try.ntmps33) (Nat.le_of_ble_eq_true rfl) ?_
  try refine go ⟨?_⟩
  refine WPL.eff (OpE.box rfl) rfl rfl ?_; rintro _ _ ⟨b, rfl, rfl⟩
  refine WPL.eff OpE.alloc rfl rfl ?_; rintro _ _ ⟨br, rfl, rfl⟩
  try refine go ⟨?_⟩
  refine WPL.eff (OpE.call lO (fun w hw => s_Node _ vP vW ps ws x (Rd.at rD hw) (Rd.at rD hw) hlp hlw)) rfl rfl ?_
  rintro r _ ⟨T, ⟨rfl, rfl⟩, rfl⟩
  by_cases hx : NV ps ws x
  case neg =>
    rw [decide_eq_false hx]
    repeat' (first | exact absurd rfl hc | refine go ⟨?_⟩ | (refine isCond ?_; refine WP.condD rfl (fun hc => ?_) (fun hc => ?_)) | (refine isGuard ?_; refine WPL.splitD rfl rfl (fun hc => ?_) (fun hc => ?_)))
    refine PE.ret2 (T := []) (T' := []) rfl rV ?_ sT
    exact .inr ⟨fun h => hx h.1, rfl, rfl⟩
  have hx0 := hx.2.1
  have hx1 := hx.2.2
  have hw1 : ws.length = ps.length := hx.1.2.2.1
  have hl16 : ps.length ≤ 16 := hx.1.2.1
  have hin := (hx.1.allN x.toNat (by omega)).1
  rw [decide_eq_true hx]
  repeat' (first | exact absurd rfl hc | refine go ⟨?_⟩ | (refine isCond ?_; refine WP.condD rfl (fun hc => ?_) (fun hc => ?_)) | (refine isGuard ?_; refine WPL.splitD rfl rfl (fun hc => ?_) (fun hc => ?_)))
  refine WPL.eff (OpE.call lO (fun w hw => s_Node _ vP vW ps ws y (Rd.at rD hw) (Rd.at rD hw) hlp hlw)) rfl rfl ?_
  rintro r _ ⟨T, ⟨rfl, rfl⟩, rfl⟩
  by_cases hy : NV ps ws y
  case neg =>
    rw [decide_eq_false hy]
    repeat' (first | exact absurd rfl hc | refine go ⟨?_⟩ | (refine isCond ?_; refine WP.condD rfl (fun hc => ?_) (fun hc => ?_)) | (refine isGuard ?_; refine WPL.splitD rfl rfl (fun hc => ?_) (fun hc => ?_)))
    refine PE.ret2 (T := []) (T' := []) rfl rV ?_ sT
    exact .inr ⟨fun h => hy h.2.1, rfl, rfl⟩
  rw [decide_eq_true hy]
  repeat' (first | exact absurd rfl hc | refine go ⟨?_⟩ | (refine isCond ?_; refine WP.condD rfl (fun hc => ?_) (fun hc => ?_)) | (refine isGuard ?_; refine WPL.splitD rfl rfl (fun hc => ?_) (fun hc => ?_)))
  · refine PE.ret2 (T := []) (T' := []) rfl rV ?_ sT
    exact .inr ⟨fun h => by have := h.2.2.1; omega, rfl, rfl⟩
  have hr : ps.getD x.toNat 0 = -1 := by omega
  have hri := root_iff hx hy hr
  have huy := up_length ps ps.length y
  refine WPL.eff (OpE.call lO (fun w hw => s_Up _ vP vW ps y (Rd.at rD hw) hW.one (by omega) hx.1.allN hy.inN hy.ends)) rfl rfl ?_
  rintro u _ ⟨T, rfl, rfl⟩
  repeat' (first | exact absurd rfl hc | refine go ⟨?_⟩ | (refine isCond ?_; refine WP.condD rfl (fun hc => ?_) (fun hc => ?_)) | (refine isGuard ?_; refine WPL.splitD rfl rfl (fun hc => ?_) (fun hc => ?_)))
  refine WPL.eff (OpE.call lO (fun w hw => s_In _ u x (up ps ps.length y) (Rd.at rD hw) (by omega))) rfl rfl ?_
  rintro r _ ⟨T, ⟨rfl, rfl⟩, rfl⟩
  by_cases hm : x ∈ up ps ps.length y
  · rw [decide_eq_true hm]
    repeat' (first | exact absurd rfl hc | refine go ⟨?_⟩ | (refine isCond ?_; refine WP.condD rfl (fun hc => ?_) (fun hc => ?_)) | (refine isGuard ?_; refine WPL.splitD rfl rfl (fun hc => ?_) (fun hc => ?_)))
    refine PE.ret2 (T := []) (T' := []) rfl rV ?_ sT
    exact .inr ⟨fun h => h.2.2.2.1 (hri.1 hm), rfl, rfl⟩
  rw [decide_eq_false hm]
  repeat' (first | exact absurd rfl hc | refine go ⟨?_⟩ | (refine isCond ?_; refine WP.condD rfl (fun hc => ?_) (fun hc => ?_)) | (refine isGuard ?_; refine WPL.splitD rfl rfl (fun hc => ?_) (fun hc => ?_)))
  · refine PE.ret2 (T := []) (T' := []) rfl rV ?_ sT
    exact .inr ⟨fun h => by unfold linkOk at h; omega, rfl, rfl⟩
  · refine PE.ret2 (T := []) (T' := []) rfl rV ?_ sT
    exact .inr ⟨fun h => by unfold linkOk at h; omega, rfl, rfl⟩
  · refine WPL.eff (OpE.call lO (fun w hw => s_Copy _ vP vW ps ws (Rd.at rD hw) (Rd.at rD hw) (by omega) (by omega))) rfl rfl ?_
    rintro r _ ⟨T, ⟨uP, uW, rfl, rfl⟩, rfl⟩
    repeat' (first | exact absurd rfl hc | refine go ⟨?_⟩ | (refine isCond ?_; refine WP.condD rfl (fun hc => ?_) (fun hc => ?_)) | (refine isGuard ?_; refine WPL.splitD rfl rfl (fun hc => ?_) (fun hc => ?_)))
    refine WPL.eff OpE.alloc rfl rfl ?_; rintro _ _ ⟨bo, rfl, rfl⟩
    repeat' (first | exact absurd rfl hc | refine go ⟨?_⟩ | (refine isCond ?_; refine WP.condD rfl (fun hc => ?_) (fun hc => ?_)) | (refine isGuard ?_; refine WPL.splitD rfl rfl (fun hc => ?_) (fun hc => ?_)))
    refine WPL.eff0 (OpE.store1 (y) rfl rfl pM (by omega) rfl) rfl ?_; rintro _ _ rfl
    repeat' (first | exact absurd rfl hc | refine go ⟨?_⟩ | (refine isCond ?_; refine WP.condD rfl (fun hc => ?_) (fun hc => ?_)) | (refine isGuard ?_; refine WPL.splitD rfl rfl (fun hc => ?_) (fun hc => ?_)))
    refine WPL.eff0 (OpE.store1 (q) rfl rfl pM (by omega) rfl) rfl ?_; rintro _ _ rfl
    repeat' (first | exact absurd rfl hc | refine go ⟨?_⟩ | (refine isCond ?_; refine WP.condD rfl (fun hc => ?_) (fun hc => ?_)) | (refine isGuard ?_; refine WPL.splitD rfl rfl (fun hc => ?_) (fun hc => ?_)))
    refine PE.ret2 (T := []) (T' := [Tok.own uP (ps.set x.toNat y), Tok.own uW (ws.set x.toNat q)]) rfl rV ?_ sT
    exact .inl ⟨⟨hx, hy, hr, fun e => hm (hri.2 e), by omega, by omega⟩, uP, uW, rfl, rfl⟩

theorem s_TurnRoot (w : World) (vP vW : Value) (ps ws : List Int) (x : Int) (hP : RL w vP ps) (hW : RL w vW ws) (hlp : ps.length ≤ 1099511627776) (hlw : ws.length ≤ 1099511627776) :
    Tri Try.prog 27 [.agg #[vP, vW], .int .i64 x] w [] fun r T =>
      (NV ps ws x ∧ yesR (turnP ps (up ps ps.length x) ((up ps ps.length x).length - 1)) (turnW ws (up ps ps.length x) ((up ps ps.length x).length - 1)) r T) ∨ (¬ NV ps ws x ∧ noR r T) := by
  refine Tri.intro (hf := Try.func27) (hb := rfl) (hn := Try.ntmps27) (Nat.le_of_ble_eq_true rfl) ?_
  try refine go ⟨?_⟩
  refine WPL.eff (OpE.box rfl) rfl rfl ?_; rintro _ _ ⟨b, rfl, rfl⟩
  refine WPL.eff OpE.alloc rfl rfl ?_; rintro _ _ ⟨br, rfl, rfl⟩
  try refine go ⟨?_⟩
  refine WPL.eff (OpE.call lO (fun w hw => s_Node _ vP vW ps ws x (Rd.at rD hw) (Rd.at rD hw) hlp hlw)) rfl rfl ?_
  rintro r _ ⟨T, ⟨rfl, rfl⟩, rfl⟩
  by_cases hx : NV ps ws x
  case neg =>
    rw [decide_eq_false hx]
    repeat' (first | exact absurd rfl hc | refine go ⟨?_⟩ | (refine isCond ?_; refine WP.condD rfl (fun hc => ?_) (fun hc => ?_)) | (refine isGuard ?_; refine WPL.splitD rfl rfl (fun hc => ?_) (fun hc => ?_)))
    refine PE.ret2 (T := []) (T' := []) rfl rV ?_ sT
    exact .inr ⟨hx, rfl, rfl⟩
  have hx0 := hx.2.1
  have hx1 := hx.2.2
  have hl : ps.length ≤ 1000000 := by have := hx.1.2.1; omega
  have hw1 : ws.length = ps.length := hx.1.2.2.1
  have hl16 : ps.length ≤ 16 := hx.1.2.1
  have hpos := hx.up_pos
  have hle := up_length ps ps.length x
  have hnode := up_node hx.1.allN ps.length x hx.inN
  have hnd := up_nodup hx.ends
  rw [decide_eq_true hx]
  repeat' (first | exact absurd rfl hc | refine go ⟨?_⟩ | (refine isCond ?_; refine WP.condD rfl (fun hc => ?_) (fun hc => ?_)) | (refine isGuard ?_; refine WPL.splitD rfl rfl (fun hc => ?_) (fun hc => ?_)))
  refine WPL.eff (OpE.call lO (fun w hw => s_Copy _ vP vW ps ws (Rd.at rD hw) (Rd.at rD hw) (by omega) (by omega))) rfl rfl ?_
  rintro r _ ⟨T, ⟨uP, uW, rfl, rfl⟩, rfl⟩
  repeat' (first | exact absurd rfl hc | refine go ⟨?_⟩ | (refine isCond ?_; refine WP.condD rfl (fun hc => ?_) (fun hc => ?_)) | (refine isGuard ?_; refine WPL.splitD rfl rfl (fun hc => ?_) (fun hc => ?_)))
  refine WPL.eff OpE.alloc rfl rfl ?_; rintro _ _ ⟨bo, rfl, rfl⟩
  repeat' (first | exact absurd rfl hc | refine go ⟨?_⟩ | (refine isCond ?_; refine WP.condD rfl (fun hc => ?_) (fun hc => ?_)) | (refine isGuard ?_; refine WPL.splitD rfl rfl (fun hc => ?_) (fun hc => ?_)))
  refine WPL.eff (OpE.call lO (fun w hw => s_Up _ vP vW ps x (Rd.at rD hw) hW.one hl hx.1.allN hx.inN hx.ends)) rfl rfl ?_
  rintro u _ ⟨T, rfl, rfl⟩
  have hhead := hx.up_head
  generalize hul : up ps ps.length x = ul at *
  have eP := turnP_eq (ps := ps) hnd (fun a ha => (hnode a ha).1) (ul.length - 1) (by omega)
  have eW := turnW_eq (ws := ws) hnd (fun a ha => (hnode a ha).1) (ul.length - 1) (by omega)
  rw [hhead] at eP eW
  repeat' (first | exact absurd rfl hc | refine go ⟨?_⟩ | (refine isCond ?_; refine WP.condD rfl (fun hc => ?_) (fun hc => ?_)) | (refine isGuard ?_; refine WPL.splitD rfl rfl (fun hc => ?_) (fun hc => ?_)))
  refine WP.loop (σ := Nat) (fun k => [(1, .int .i64 x), (2, .pointer (some ⟨b, 0, none⟩)), (4, .pointer (some ⟨br, 0, none⟩)), (6, .pointer (some ⟨bo, 0, none⟩)), (7, u), (8, .int .i64 ((k + 1 : Nat) : Int))])
    (fun k => [Tok.blk bo [uP, uW], Tok.own uP (turnP' ps ul k), Tok.own uW (turnW' ws ul k), Tok.own u ul, Tok.blk br [.slice none 0 0, .slice none 0 0], Tok.blk b [vP, vW]])
    (fun k => k < ul.length) (fun k => ul.length - k) 0 hpos sE sT ?_
  intro k hk
  try refine go ⟨?_⟩
  refine WP.condD rfl (fun hc => ?_) (fun hc => ?_)
  · have e1 : (((k + 1 : Nat) : Int) - 1).toNat = k := by omega
    have n1 := hnode _ (getD_mem (l := ul) (i := k + 1) (by omega))
    have n2 := hnode _ (getD_mem (l := ul) (i := k) (by omega))
    have n3 : 0 ≤ ul.getD (((k + 1 : Nat) : Int) - 1).toNat 0 ∧ ul.getD (((k + 1 : Nat) : Int) - 1).toNat 0 < ps.length := by rw [e1]; exact n2
    have t1 := turnP'_length ps ul k
    have t2 := turnW'_length ws ul k
    try refine go ⟨?_⟩
    refine WP.draw [Tok.own u ul, Tok.blk bo [uP, uW], Tok.blk b [vP, vW]] mixed ?_
    refine WPD.take 0 rfl oP rfl rfl sT kR kR kR xQP ?_
    refine WPD.take 1 rfl oP rfl rfl sT kR kR kR xQP ?_
    refine WPD.take 2 rfl oP rfl rfl sT kR kR kR xQP ?_
    refine WPD.take 3 rfl oP rfl rfl sT kR kR kR xQP ?_
    refine WPD.take 4 rfl oP rfl rfl sT kR kR kR xQP ?_
    refine WPD.take 5 rfl oP rfl rfl sT kR kR kR xQP ?_
    refine WPD.take 6 rfl oP rfl rfl sT kR kR kR xQP ?_
    refine WPD.take 7 rfl oP rfl rfl sT kR kR kR xQP ?_
    refine WPD.take 8 rfl oP rfl rfl sT kR kR kR xQP ?_
    refine WPD.take 9 rfl oP rfl rfl sT kR kR kR xQP ?_
    refine WPD.take 10 rfl oP rfl rfl sT kR kR kR xQP ?_
    refine WPD.eff 11 kR rfl (OpE.ofPure oP) rfl rfl ?_; rintro _ _ ⟨rfl, rfl⟩; refine ⟨sT, ?_⟩
    refine WPD.eff0 12 kR rfl (OpE.store1 (_) rfl rfl pM (by omega) rfl) rfl ?_; rintro _ _ rfl; refine ⟨sT, ?_⟩
    refine WPD.done kR ?_
    try refine go ⟨?_⟩
    refine WP.draw [Tok.own u ul, Tok.blk bo [uP, uW], Tok.blk b [vP, vW]] mixed ?_
    refine WPD.take 0 rfl oP rfl rfl sT kR kR kR xQP ?_
    refine WPD.take 1 rfl oP rfl rfl sT kR kR kR xQP ?_
    refine WPD.take 2 rfl oP rfl rfl sT kR kR kR xQP ?_
    refine WPD.take 3 rfl oP rfl rfl sT kR kR kR xQP ?_
    refine WPD.take 4 rfl oP rfl rfl sT kR kR kR xQP ?_
    refine WPD.take 5 rfl oP rfl rfl sT kR kR kR xQP ?_
    refine WPD.take 6 rfl oP rfl rfl sT kR kR kR xQP ?_
    refine WPD.take 7 rfl oP rfl rfl sT kR kR kR xQP ?_
    refine WPD.take 8 rfl oP rfl rfl sT kR kR kR xQP ?_
    refine WPD.take 9 rfl oP rfl rfl sT kR kR kR xQP ?_
    refine WPD.take 10 rfl oP rfl rfl sT kR kR kR xQP ?_
    refine WPD.take 11 rfl oP rfl rfl sT kR kR kR xQP ?_
    refine WPD.take 12 rfl oP rfl rfl sT kR kR kR xQP ?_
    refine WPD.take 13 rfl oP rfl rfl sT kR kR kR xQP ?_
    refine WPD.take 14 rfl oP rfl rfl sT kR kR kR xQP ?_
    refine WPD.eff 15 kR rfl (OpE.ofPure oP) rfl rfl ?_; rintro _ _ ⟨rfl, rfl⟩; refine ⟨sT, ?_⟩
    refine WPD.eff0 16 kR rfl (OpE.store1 (_) rfl rfl pM (by omega) rfl) rfl ?_; rintro _ _ rfl; refine ⟨sT, ?_⟩
    refine WPD.done kR ?_
    try refine go ⟨?_⟩
    rw [e1]
    refine PE.again (k + 1) ?_ ?_ sE sT
    · omega
    · omega
  · have hk1 : k = ul.length - 1 := by omega
    subst hk1
    have t1 := turnP'_length ps ul (ul.length - 1)
    have t2 := turnW'_length ws ul (ul.length - 1)
    try refine go ⟨?_⟩
    refine WPL.eff0 (OpE.store1 ((-1 : Int)) rfl rfl pM (by omega) rfl) rfl ?_; rintro _ _ rfl
    try refine go ⟨?_⟩
    refine WPL.eff0 (OpE.store1 ((0 : Int)) rfl rfl pM (by omega) rfl) rfl ?_; rintro _ _ rfl
    try refine go ⟨?_⟩
    rw [eP, eW]
    refine PE.ret2 (T := []) (T' := [Tok.own uP (turnP ps ul (ul.length - 1)), Tok.own uW (turnW ws ul (ul.length - 1))]) rfl rV ?_ sT
    exact .inl ⟨hx, uP, uW, rfl, rfl⟩
end Go.Proofs.Ytjmbnhohfhpopaa
