/- Rooted trees: the walks of CutParent, LinkRoot, TurnRoot. Conditions: those of each contract. -/
import Derived.Test.YtjmbnhohfhpopaaRoot3
namespace Go.Proofs.Ytjmbnhohfhpopaa
open Go
set_option linter.unusedVariables false set_option linter.unusedSimpArgs false attribute [local irreducible] Tok.own Tok.blk RL Rd eptr WP WPL PE WPD WPO Op1 OpE Tri Again Mid Exit.then Exit.inBlock bodyPost RP Code.wp wpList isOwn OneM One
set_option maxHeartbeats 8000000

def nilR : Value := .agg #[.slice none 0 0, .slice none 0 0]

def cutOk (ps ws : List Int) (x : Int) : Prop := NV ps ws x ∧ ps.getD x.toNat 0 ≠ -1

/-- A rooted tree in new memory, and true. -/
def yesR (ps ws : List Int) (r : Value) (T : List Tok) : Prop := ∃ uP uW, r = .tuple #[.agg #[uP, uW], .bool true] ∧ T = [Tok.own uP ps, Tok.own uW ws]
def noR (r : Value) (T : List Tok) : Prop := r = .tuple #[nilR, .bool false] ∧ T = []

theorem c_CutParent (w : World) (vP vW : Value) (ps ws : List Int) (x : Int) (hP : RL w vP ps) (hW : RL w vW ws) (hlp : ps.length ≤ 1099511627776) (hlw : ws.length ≤ 1099511627776) :
    Tri Try.prog 20 [.agg #[vP, vW], .int .i64 x] w [] fun r T => (cutOk ps ws x ∧ yesR (ps.set x.toNat (-1)) (ws.set x.toNat 0) r T) ∨ (¬ cutOk ps ws x ∧ noR r T) := by
  refine Tri.intro (hf := Try.func20) (hb := rfl) (hn := Try.ntmps20) (Nat.le_of_ble_eq_true rfl) ?_
  try refine go ⟨?_⟩
  refine WPL.eff (OpE.box rfl) rfl rfl ?_; rintro _ _ ⟨b, rfl, rfl⟩
  refine WPL.eff OpE.alloc rfl rfl ?_; rintro _ _ ⟨br, rfl, rfl⟩
  try refine go ⟨?_⟩
  refine WPL.eff (OpE.call lO (fun w hw => c_hasNode _ vP vW ps ws x (Rd.at rD hw) (Rd.at rD hw) hlp hlw)) rfl rfl ?_
  rintro r _ ⟨T, ⟨rfl, rfl⟩, rfl⟩
  by_cases hx : NV ps ws x
  · have hx0 := hx.2.1
    have hx1 := hx.2.2
    repeat' (first | refine go ⟨?_⟩ | (refine isCond ?_; refine WP.condD rfl (fun hc => ?_) (fun hc => ?_)) | (refine isGuard ?_; refine WPL.splitD rfl rfl (fun hc => ?_) (fun hc => ?_)))
    · exact absurd hx hc
    · refine PE.ret2 (T := []) (T' := []) rfl rV ?_ sT
      exact .inr ⟨fun h => h.2 hc, rfl, rfl⟩
    · have hw1 : ws.length = ps.length := hx.1.2.2.1
      have hl16 : ps.length ≤ 16 := hx.1.2.1
      refine WPL.eff (OpE.call lO (fun w hw => c_with _ vP vW ps ws x (-1) 0 (Rd.at rD hw) (Rd.at rD hw) (by omega) (by omega) (by omega) (by omega) (by omega))) rfl rfl ?_
      rintro r _ ⟨T, ⟨uP, uW, rfl, rfl⟩, rfl⟩
      repeat' (first | refine go ⟨?_⟩ | (refine isCond ?_; refine WP.condD rfl (fun hc => ?_) (fun hc => ?_)) | (refine isGuard ?_; refine WPL.splitD rfl rfl (fun hc => ?_) (fun hc => ?_)))
      refine PE.ret2 (T := []) (T' := [Tok.own uP (ps.set x.toNat (-1)), Tok.own uW (ws.set x.toNat 0)]) rfl rV ?_ sT
      exact .inl ⟨⟨hx, hc⟩, uP, uW, rfl, rfl⟩
  · repeat' (first | refine go ⟨?_⟩ | (refine isCond ?_; refine WP.condD rfl (fun hc => ?_) (fun hc => ?_)) | (refine isGuard ?_; refine WPL.splitD rfl rfl (fun hc => ?_) (fun hc => ?_)))
    · refine PE.ret2 (T := []) (T' := []) rfl rV ?_ sT
      exact .inr ⟨fun h => hx h.1, rfl, rfl⟩
    all_goals exact absurd (Decidable.not_not.1 ‹_›) hx

def linkOk (ps ws : List Int) (x y q : Int) : Prop := NV ps ws x ∧ NV ps ws y ∧ ps.getD x.toNat 0 = -1 ∧ rootV ps y ≠ x ∧ 0 ≤ q ∧ q ≤ 999

theorem c_LinkRoot (w : World) (vP vW : Value) (ps ws : List Int) (x y q : Int) (hP : RL w vP ps) (hW : RL w vW ws) (hlp : ps.length ≤ 1099511627776) (hlw : ws.length ≤ 1099511627776) :
    Tri Try.prog 34 [.agg #[vP, vW], .int .i64 x, .int .i64 y, .int .i64 q] w [] fun r T => (linkOk ps ws x y q ∧ yesR (ps.set x.toNat y) (ws.set x.toNat q) r T) ∨ (¬ linkOk ps ws x y q ∧ noR r T) := by
  refine Tri.intro (hf := Try.func34) (hb := rfl) (hn := Try.ntmps34) (Nat.le_of_ble_eq_true rfl) ?_
  try refine go ⟨?_⟩
  refine WPL.eff (OpE.box rfl) rfl rfl ?_; rintro _ _ ⟨b, rfl, rfl⟩
  refine WPL.eff OpE.alloc rfl rfl ?_; rintro _ _ ⟨br, rfl, rfl⟩
  try refine go ⟨?_⟩
  refine WPL.eff (OpE.call lO (fun w hw => c_hasNode _ vP vW ps ws x (Rd.at rD hw) (Rd.at rD hw) hlp hlw)) rfl rfl ?_
  rintro r _ ⟨T, ⟨rfl, rfl⟩, rfl⟩
  by_cases hx : NV ps ws x
  · have hx0 := hx.2.1
    have hx1 := hx.2.2
    repeat' (first | refine go ⟨?_⟩ | (refine isCond ?_; refine WP.condD rfl (fun hc => ?_) (fun hc => ?_)) | (refine isGuard ?_; refine WPL.splitD rfl rfl (fun hc => ?_) (fun hc => ?_)))
    · exact absurd hx hc
    refine WPL.eff (OpE.call lO (fun w hw => c_hasNode _ vP vW ps ws y (Rd.at rD hw) (Rd.at rD hw) hlp hlw)) rfl rfl ?_
    rintro r _ ⟨T, ⟨rfl, rfl⟩, rfl⟩
    repeat' (first | refine go ⟨?_⟩ | (refine isCond ?_; refine WP.condD rfl (fun hc => ?_) (fun hc => ?_)) | (refine isGuard ?_; refine WPL.splitD rfl rfl (fun hc => ?_) (fun hc => ?_)))
    · refine PE.ret2 (T := []) (T' := []) rfl rV ?_ sT
      exact .inr ⟨fun h => hc h.2.1, rfl, rfl⟩
    · refine PE.ret2 (T := []) (T' := []) rfl rV ?_ sT
      exact .inr ⟨fun h => hc h.2.2.1, rfl, rfl⟩
    · have hy' : NV ps ws y := Decidable.not_not.1 ‹¬¬NV ps ws y›
      have hp1 := Decidable.not_not.1 hc
      refine WPL.eff (OpE.call lO (fun w hw => c_root _ vP vW ps ws y (Rd.at rD hw) (Rd.at rD hw) hy')) rfl rfl ?_
      rintro r _ ⟨T, ⟨rfl, rfl⟩, rfl⟩
      repeat' (first | refine go ⟨?_⟩ | (refine isCond ?_; refine WP.condD rfl (fun hc => ?_) (fun hc => ?_)) | (refine isGuard ?_; refine WPL.splitD rfl rfl (fun hc => ?_) (fun hc => ?_)))
      iterate 3 (refine PE.ret2 (T := []) (T' := []) rfl rV ?_ sT; exact .inr ⟨fun h => by unfold linkOk at h; omega, rfl, rfl⟩)
      have hw1 : ws.length = ps.length := hx.1.2.2.1
      have hl16 : ps.length ≤ 16 := hx.1.2.1
      refine WPL.eff (OpE.call lO (fun w hw => c_with _ vP vW ps ws x y q (Rd.at rD hw) (Rd.at rD hw) (by omega) (by omega) (by omega) (by omega) (by omega))) rfl rfl ?_
      rintro r _ ⟨T, ⟨uP, uW, rfl, rfl⟩, rfl⟩
      repeat' (first | refine go ⟨?_⟩ | (refine isCond ?_; refine WP.condD rfl (fun hc => ?_) (fun hc => ?_)) | (refine isGuard ?_; refine WPL.splitD rfl rfl (fun hc => ?_) (fun hc => ?_)))
      refine PE.ret2 (T := []) (T' := [Tok.own uP (ps.set x.toNat y), Tok.own uW (ws.set x.toNat q)]) rfl rV ?_ sT
      exact .inl ⟨⟨hx, hy', hp1, by omega, by omega, by omega⟩, uP, uW, rfl, rfl⟩
  · repeat' (first | refine go ⟨?_⟩ | (refine isCond ?_; refine WP.condD rfl (fun hc => ?_) (fun hc => ?_)) | (refine isGuard ?_; refine WPL.splitD rfl rfl (fun hc => ?_) (fun hc => ?_)))
    · refine PE.ret2 (T := []) (T' := []) rfl rV ?_ sT
      exact .inr ⟨fun h => hx h.1, rfl, rfl⟩
    all_goals exact absurd (Decidable.not_not.1 ‹_›) hx

/-! ### Turning -/
/-- The parents behind k steps of a turn along the list l. -/
def turnP (ps l : List Int) : Nat → List Int
  | 0 => ps.set (l.getD 0 0).toNat (-1)
  | k + 1 => (turnP ps l k).set (l.getD (k + 1) 0).toNat (l.getD k 0)
/-- The weights behind k steps of a turn along the list l. -/
def turnW (ws l : List Int) : Nat → List Int
  | 0 => ws.set (l.getD 0 0).toNat 0
  | k + 1 => (turnW ws l k).set (l.getD (k + 1) 0).toNat (ws.getD (l.getD k 0).toNat 0)
theorem turnP_length (ps l : List Int) : ∀ k, (turnP ps l k).length = ps.length
  | 0 => by simp [turnP]
  | k + 1 => by simp [turnP, turnP_length ps l k]
theorem turnW_length (ws l : List Int) : ∀ k, (turnW ws l k).length = ws.length
  | 0 => by simp [turnW]
  | k + 1 => by simp [turnW, turnW_length ws l k]

theorem up_node {ps : List Int} (hN : allN ps) : ∀ (k : Nat) (x : Int), inN ps x → ∀ y ∈ up ps k x, 0 ≤ y ∧ y < ps.length
  | 0, _, _, y, h => by simp [up] at h
  | k + 1, x, hx, y, h => by
    unfold up at h
    by_cases h1 : x = -1
    · rw [if_pos h1] at h; cases h
    · rw [if_neg h1] at h
      rcases List.mem_cons.1 h with rfl | h
      · have := hx.1; have := hx.2; omega
      · exact up_node hN k _ (hN.step hx h1) y h
theorem getD_mem {l : List Int} {i : Nat} (h : i < l.length) : l.getD i 0 ∈ l := by
  rw [List.getD_eq_getElem?_getD, List.getElem?_eq_getElem h]; exact List.getElem_mem h
theorem NV.up_head {ps ws : List Int} {x : Int} (h : NV ps ws x) : (up ps ps.length x).getD 0 0 = x := by
  have h1 : 1 ≤ ps.length := h.1.1
  have h3 : x ≠ -1 := by have := h.2.1; omega
  have := up_step (ps := ps) (n := ps.length) (k := 0) (y := x) (by omega) h3
  simp only [Nat.sub_zero] at this
  rw [this]; rfl

def pathOf (ps : List Int) (x : Int) : List Int := up ps ps.length x

theorem c_TurnRoot (w : World) (vP vW : Value) (ps ws : List Int) (x : Int) (hP : RL w vP ps) (hW : RL w vW ws) (hlp : ps.length ≤ 1099511627776) (hlw : ws.length ≤ 1099511627776) :
    Tri Try.prog 29 [.agg #[vP, vW], .int .i64 x] w [] fun r T =>
      (NV ps ws x ∧ yesR (turnP ps (up ps ps.length x) ((up ps ps.length x).length - 1)) (turnW ws (up ps ps.length x) ((up ps ps.length x).length - 1)) r T) ∨ (¬ NV ps ws x ∧ noR r T) := by
  refine Tri.intro (hf := Try.func29) (hb := rfl) (hn := Try.ntmps29) (Nat.le_of_ble_eq_true rfl) ?_
  try refine go ⟨?_⟩
  refine WPL.eff (OpE.box rfl) rfl rfl ?_; rintro _ _ ⟨b, rfl, rfl⟩
  refine WPL.eff OpE.alloc rfl rfl ?_; rintro _ _ ⟨br, rfl, rfl⟩
  try refine go ⟨?_⟩
  refine WPL.eff (OpE.call lO (fun w hw => c_hasNode _ vP vW ps ws x (Rd.at rD hw) (Rd.at rD hw) hlp hlw)) rfl rfl ?_
  rintro r _ ⟨T, ⟨rfl, rfl⟩, rfl⟩
  repeat' (first | refine go ⟨?_⟩ | (refine isCond ?_; refine WP.condD rfl (fun hc => ?_) (fun hc => ?_)) | (refine isGuard ?_; refine WPL.splitD rfl rfl (fun hc => ?_) (fun hc => ?_)))
  · refine PE.ret2 (T := []) (T' := []) rfl rV ?_ sT
    exact .inr ⟨hc, rfl, rfl⟩
  have hx : NV ps ws x := Decidable.not_not.1 hc
  have hx0 := hx.2.1
  have hx1 := hx.2.2
  have hl : ps.length ≤ 1000000 := by have := hx.1.2.1; omega
  have hw1 : ws.length = ps.length := hx.1.2.2.1
  have hl16 : ps.length ≤ 16 := hx.1.2.1
  have hpos := hx.up_pos
  have hle := up_length ps ps.length x
  have hnode := up_node hx.1.allN ps.length x hx.inN
  refine WPL.eff (OpE.call lO (fun w hw => c_wayUp _ vP vW ps x (Rd.at rD hw) hW.one hl hx.1.allN hx.inN)) rfl rfl ?_
  rintro r _ ⟨T, hr, rfl⟩
  rcases hr with ⟨h1, u, rfl, rfl⟩ | ⟨h1, rfl, rfl⟩
  case inr => rw [hx.ends] at h1; cases h1
  have hhead := hx.up_head
  generalize hul : up ps ps.length x = ul at *
  try refine go ⟨?_⟩
  refine WPL.eff (OpE.call lO (fun w hw => c_with _ vP vW ps ws x (-1) 0 (Rd.at rD hw) (Rd.at rD hw) (by omega) (by omega) (by omega) (by omega) (by omega))) rfl rfl ?_
  rintro r _ ⟨T, ⟨uP, uW, rfl, rfl⟩, rfl⟩
  try refine go ⟨?_⟩
  refine WPL.eff OpE.alloc rfl rfl ?_; rintro _ _ ⟨bo, rfl, rfl⟩
  try refine go ⟨?_⟩
  refine WP.loop (σ := Nat × Value × Value) (fun s => [(2, .pointer (some ⟨b, 0, none⟩)), (4, .pointer (some ⟨br, 0, none⟩)), (6, u), (8, .pointer (some ⟨bo, 0, none⟩)), (9, .int .i64 ((s.1 + 1 : Nat) : Int))])
    (fun s => [Tok.blk bo [s.2.1, s.2.2], Tok.own s.2.1 (turnP ps ul s.1), Tok.own s.2.2 (turnW ws ul s.1), Tok.own u ul, Tok.blk br [.slice none 0 0, .slice none 0 0], Tok.blk b [vP, vW]])
    (fun s => s.1 < ul.length) (fun s => ul.length - s.1) (0, uP, uW) hpos sE ?_ ?_
  · have e1 : turnP ps ul 0 = ps.set x.toNat (-1) := by unfold turnP; rw [hhead]
    have e2 : turnW ws ul 0 = ws.set x.toNat 0 := by unfold turnW; rw [hhead]
    dsimp only
    rw [e1, e2]
    exact sT
  rintro ⟨k, qP, qW⟩ hk
  dsimp only at hk ⊢
  try refine go ⟨?_⟩
  refine WP.condD rfl (fun hc => ?_) (fun hc => ?_)
  · have e1 : (((k + 1 : Nat) : Int) - 1).toNat = k := by omega
    have n1 := hnode _ (getD_mem (l := ul) (i := k + 1) (by omega))
    have n2 := hnode _ (getD_mem (l := ul) (i := k) (by omega))
    have n3 : 0 ≤ ul.getD (((k + 1 : Nat) : Int) - 1).toNat 0 ∧ ul.getD (((k + 1 : Nat) : Int) - 1).toNat 0 < ps.length := by rw [e1]; exact n2
    have t1 := turnP_length ps ul k
    have t2 := turnW_length ws ul k
    try refine go ⟨?_⟩
    refine WP.draw [Tok.own u ul, Tok.blk b [vP, vW]] mixed ?_
    refine WPD.take 1 rfl oP rfl rfl sT kR kR kR xQP ?_
    refine WPD.take 2 rfl oP rfl rfl sT kR kR kR xQP ?_
    refine WPD.take 3 rfl oP rfl rfl sT kR kR kR xQP ?_
    refine WPD.take 4 rfl oP rfl rfl sT kR kR kR xQP ?_
    refine WPD.take 5 rfl oP rfl rfl sT kR kR kR xQP ?_
    refine WPD.take 6 rfl oP rfl rfl sT kR kR kR xQP ?_
    refine WPD.take 7 rfl oP rfl rfl sT kR kR kR xQP ?_
    refine WPD.take 8 rfl oP rfl rfl sT kR kR kR xQP ?_
    refine WPD.take 9 rfl oP rfl rfl sT kR kR kR xQP ?_
    refine WPD.take 10 rfl oP rfl rfl sT kR kR kR xQP ?_
    refine WPD.take 11 rfl oP rfl rfl sT kR kR kR xQP ?_
    refine WPD.take 12 rfl oP rfl rfl sT kR kR kR xQP ?_
    refine WPD.take 13 rfl oP rfl rfl sT kR kR kR xQP ?_
    refine WPD.take 14 rfl oP rfl rfl sT kR kR kR xQP ?_
    refine WPD.take 15 rfl oP rfl rfl sT kR kR kR xQP ?_
    refine WPD.take 16 rfl oP rfl rfl sT kR kR kR xQP ?_
    refine WPD.take 17 rfl oP rfl rfl sT kR kR kR xQP ?_
    refine WPD.take 18 rfl oP rfl rfl sT kR kR kR xQP ?_
    refine WPD.eff 0 kR rfl (OpE.ofPure oP) rfl rfl ?_; rintro _ _ ⟨rfl, rfl⟩; refine ⟨sT, ?_⟩
    refine WPD.eff 19 kR rfl (OpE.call lO (fun w hw => c_with _ qP qW _ _ _ _ _ (Rd.at rD hw) (Rd.at rD hw) (by omega) (by omega) (by omega) (by omega) (by omega))) rfl rfl ?_
    rintro r _ ⟨T, ⟨uP', uW', rfl, rfl⟩, rfl⟩
    refine ⟨sT, ?_⟩
    refine WPD.eff0 20 kR rfl (OpE.storeAll rfl rfl pM (by rfl) (by rfl) oN) rfl ?_; rintro _ _ rfl; refine ⟨sT, ?_⟩
    refine WPD.done kR ?_
    try refine go ⟨?_⟩
    rw [e1]
    refine PE.again (k + 1, uP', uW') ?_ ?_ sE sT
    · dsimp only; omega
    · dsimp only; omega
  · have hk1 : k = ul.length - 1 := by omega
    subst hk1
    try refine go ⟨?_⟩
    refine PE.ret2 (T := []) (T' := [Tok.own qP (turnP ps ul (ul.length - 1)), Tok.own qW (turnW ws ul (ul.length - 1))]) rfl rV ?_ sT
    exact .inl ⟨hx, qP, qW, rfl, rfl⟩
end Go.Proofs.Ytjmbnhohfhpopaa
