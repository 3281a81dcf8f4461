/- The law FnWeightPath: its walk. Conditions: those of the theorem. -/
import Derived.Test.YtjmbnhohfhpopaaDrw2
import Derived.Test.YtjmbnhohfhpopaaSpc2
import Derived.Test.YtjmbnhohfhpopaaMath8
namespace Go.Proofs.Ytjmbnhohfhpopaa
open Go
set_option linter.unusedVariables false set_option linter.unusedSimpArgs false attribute [local irreducible] Tok.own Tok.blk RL Rd eptr WP WPL PE WPD WPO Op1 OpE Tri Again Mid Exit.then Exit.inBlock bodyPost RP Code.wp wpList isOwn OneM One
attribute [local irreducible] meetF wbG sumW maxW turnP turnW
set_option maxHeartbeats 8000000

theorem l_WeightPath (w : World) (v : Value) (bs : List UInt8) (h : RL w v bs) (hl : bs.length ≤ 9223372036854775807) :
    Tri Try.prog 11 [v] w [] fun r T => r = .bool true := by
  refine Tri.intro (hf := Try.func11) (hb := rfl) (hn := Try.ntmps11) (Nat.le_of_ble_eq_true rfl) ?_
  repeat' (first | exact absurd rfl hc | refine go ⟨?_⟩ | (refine isCond ?_; refine WP.condD rfl (fun hc => ?_) (fun hc => ?_)) | (refine isGuard ?_; refine WPL.splitD rfl rfl (fun hc => ?_) (fun hc => ?_)))
  · refine PE.ret1 (T := []) (T' := []) rfl rV ?_ sT
    rfl
  refine WPL.eff (OpE.call lO (fun w hw => d_WeightBetween _ v bs (Rd.at rD hw) hl)) rfl rfl ?_
  rintro r _ ⟨T, hd, rfl⟩
  obtain ⟨uP, uW, ps, ws, x, y, rfl, rfl, h1, h2⟩ := hd.two
  try refine go ⟨?_⟩
  refine WPL.eff OpE.alloc rfl rfl ?_; rintro _ _ ⟨bt, rfl, rfl⟩
  try refine go ⟨?_⟩
  refine WPL.eff (OpE.call lO (fun w hw => c_WeightBetween _ uP uW ps ws x y (Rd.at rD hw) (Rd.at rD hw) (by omega) (by omega))) rfl rfl ?_
  rintro r _ ⟨T, ⟨hr, rfl⟩, rfl⟩
  cases hr.val
  try refine go ⟨?_⟩
  refine WPL.eff (OpE.call lO (fun w hw => s_WeightBetween _ uP uW ps ws x y (Rd.at rD hw) (Rd.at rD hw) (by omega) (by omega))) rfl rfl ?_
  rintro r _ ⟨T, ⟨hr', rfl⟩, rfl⟩
  cases hr'.val
  clear hr hr'
  by_cases hk : (NV ps ws x ∧ NV ps ws y) ∧ (meetF ps x y).isSome = true
  case neg =>
    rw [wbG_none hk]
    repeat' (first | exact absurd rfl hc | refine go ⟨?_⟩ | (refine isCond ?_; refine WP.condD rfl (fun hc => ?_) (fun hc => ?_)) | (refine isGuard ?_; refine WPL.splitD rfl rfl (fun hc => ?_) (fun hc => ?_)))
    refine PE.ret1 (T := []) (T' := []) rfl rV ?_ sT
    rfl
  obtain ⟨⟨hx, hy⟩, hs⟩ := hk
  obtain ⟨m, hm⟩ := Option.isSome_iff_exists.1 hs
  have TT := turned hx
  have hp := TT.path hx hy hm
  have hrv := TT.rv hx
  have e1 := TT.len
  have e2 := TT.lenw
  rw [wbG_some hx hy hm]
  generalize hS : sumW ws (wayL ps x y m) = s at *
  generalize hM : maxW ws (wayL ps x y m) = c at *
  repeat' (first | exact absurd rfl hc | refine go ⟨?_⟩ | (refine isCond ?_; refine WP.condD rfl (fun hc => ?_) (fun hc => ?_)) | (refine isGuard ?_; refine WPL.splitD rfl rfl (fun hc => ?_) (fun hc => ?_)))
  refine WPL.eff (OpE.call lO (fun w hw => c_TurnRoot _ uP uW ps ws x (Rd.at rD hw) (Rd.at rD hw) (by omega) (by omega))) rfl rfl ?_
  rintro r _ ⟨T, hr, rfl⟩
  rcases hr with ⟨_, zP, zW, rfl, rfl⟩ | ⟨hq, _⟩
  case inr => exact absurd hx hq
  clear TT
  generalize turnP ps (up ps ps.length x) ((up ps ps.length x).length - 1) = ps' at *
  generalize turnW ws (up ps ps.length x) ((up ps ps.length x).length - 1) = ws' at *
  have hy' : NV ps' ws' y := ⟨hrv, hy.2.1, by rw [e1]; exact hy.2.2⟩
  repeat' (first | exact absurd rfl hc | refine go ⟨?_⟩ | (refine isCond ?_; refine WP.condD rfl (fun hc => ?_) (fun hc => ?_)) | (refine isGuard ?_; refine WPL.splitD rfl rfl (fun hc => ?_) (fun hc => ?_)))
  refine WPL.eff OpE.alloc rfl rfl ?_; rintro _ _ ⟨bz, rfl, rfl⟩
  repeat' (first | exact absurd rfl hc | refine go ⟨?_⟩ | (refine isCond ?_; refine WP.condD rfl (fun hc => ?_) (fun hc => ?_)) | (refine isGuard ?_; refine WPL.splitD rfl rfl (fun hc => ?_) (fun hc => ?_)))
  refine WPL.eff (OpE.call lO (fun w hw => c_WayUp _ zP zW ps' ws' y (Rd.at rD hw) (Rd.at rD hw) (by omega) (by omega))) rfl rfl ?_
  rintro r _ ⟨T, hr, rfl⟩
  rcases hr with ⟨_, u, rfl, rfl⟩ | ⟨hq, _⟩
  case inr => exact absurd hy' hq
  obtain ⟨p1, p2, p3⟩ := hp
  have hwt := hy'.wt
  have hn := up_node hy'.1.allN ps'.length y hy'.inN
  have hul := up_length ps' ps'.length y
  have hpos := hy'.up_pos
  have hw1 := hy'.1.2.2.1
  unfold rootV at p3
  generalize up ps' ps'.length y = ul at *
  try refine go ⟨?_⟩
  have f0 : sumW ws' (ul.take 0) = 0 := by unfold sumW; simp
  refine WP.loop (σ := Nat) (fun i => [(4, .int .i64 x), (6, .int .i64 s), (7, .int .i64 c), (12, .pointer (some ⟨bz, 0, none⟩)), (14, u), (15, .bool true), (16, .int .i64 (sumW ws' (ul.take i))), (17, .int .i64 i)])
    (fun i => [Tok.own u ul, Tok.blk bz [zP, zW], Tok.own zP ps', Tok.own zW ws']) (fun i => i ≤ ul.length) (fun i => ul.length - i) 0 (Nat.zero_le _) (by rw [f0]; exact sE) sT ?_
  intro i hi
  try refine go ⟨?_⟩
  refine WP.condD rfl (fun hc => ?_) (fun hc => ?_)
  · have hi' : i < ul.length := by omega
    have nm := getD_mem hi'
    have n1 := hn _ nm
    have n2 := hwt _ nm
    have n3 := p2 _ nm
    have sb := sumW_bound (ws := ws') (l := ul.take i) (fun n hn => hwt n (List.mem_of_mem_take hn))
    rw [List.length_take] at sb
    have es : sumW ws' (ul.take (i + 1)) = sumW ws' (ul.take i) + ws'.getD (ul.getD i 0).toNat 0 := by rw [take_snoc hi', sumW_snoc]
    try refine go ⟨?_⟩
    refine WP.draw [Tok.own u ul, Tok.blk bz [zP, zW], Tok.own zW ws'] mixed ?_
    refine WPD.take 0 rfl oP rfl rfl sT kR kR kR xQP ?_
    refine WPD.take 1 rfl oP rfl rfl sT kR kR kR xQP ?_
    refine WPD.take 2 rfl oP rfl rfl sT kR kR kR xQP ?_
    refine WPD.take 3 rfl oP rfl rfl sT kR kR kR xQP ?_
    refine WPD.take 4 rfl oP rfl rfl sT kR kR kR xQP ?_
    refine WPD.take 5 rfl oP rfl rfl sT kR kR kR xQP ?_
    refine WPD.take 6 rfl oP rfl rfl sT kR kR kR xQP ?_
    refine WPD.take 7 rfl oP rfl rfl sT kR kR kR xQP ?_
    refine WPD.take 8 rfl oP rfl rfl sT kR kR kR xQP ?_
    refine WPD.take 9 rfl oP rfl rfl sT kR kR kR xQP ?_
    refine WPD.take 10 rfl oP rfl rfl sT kR kR kR xQP ?_
    refine WPD.done kR ?_
    try refine go ⟨?_⟩
    refine WP.draw [Tok.own u ul, Tok.blk bz [zP, zW], Tok.own zW ws'] mixed ?_
    refine WPD.take 0 rfl oP rfl rfl sT kR kR kR xQP ?_
    refine WPD.take 1 rfl oP rfl rfl sT kR kR kR xQP ?_
    refine WPD.take 2 rfl oP rfl rfl sT kR kR kR xQP ?_
    refine WPD.take 3 rfl oP rfl rfl sT kR kR kR xQP ?_
    refine WPD.take 4 rfl oP rfl rfl sT kR kR kR xQP ?_
    refine WPD.take 5 rfl oP rfl rfl sT kR kR kR xQP ?_
    refine WPD.take 6 rfl oP rfl rfl sT kR kR kR xQP ?_
    refine WPD.take 7 rfl oP rfl rfl sT kR kR kR xQP ?_
    refine WPD.take 8 rfl oP rfl rfl sT kR kR kR xQP ?_
    refine WPD.take 9 rfl oP rfl rfl sT kR kR kR xQP ?_
    refine WPD.done kR ?_
    rw [decide_eq_false (by omega : ¬ c < ws'.getD (ul.getD i 0).toNat 0)]
    repeat' (first | exact absurd rfl hc | refine go ⟨?_⟩ | (refine isCond ?_; refine WP.condD rfl (fun hc => ?_) (fun hc => ?_)) | (refine isGuard ?_; refine WPL.splitD rfl rfl (fun hc => ?_) (fun hc => ?_)))
    rw [← es]
    refine PE.again (i + 1) ?_ ?_ sE sT
    · omega
    · omega
  · have hi1 : i = ul.length := by omega
    subst hi1
    rw [List.take_length, p1]
    have p4 : ul.getD ((ul.length : Int) - 1).toNat 0 = x := by
      have : ((ul.length : Int) - 1).toNat = ul.length - 1 := by omega
      rw [this]; exact p3
    repeat' (first | exact absurd rfl hc | refine go ⟨?_⟩ | (refine isCond ?_; refine WP.condD rfl (fun hc => ?_) (fun hc => ?_)) | (refine isGuard ?_; refine WPL.splitD rfl rfl (fun hc => ?_) (fun hc => ?_)))
    refine PE.ret1 (T := []) (T' := []) rfl rV ?_ sT
    exact congrArg Value.bool (decide_eq_true p4)
end Go.Proofs.Ytjmbnhohfhpopaa
