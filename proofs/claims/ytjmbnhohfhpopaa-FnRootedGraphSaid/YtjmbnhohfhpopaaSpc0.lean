/- Rooted trees: the walks of the second program's first functions. Conditions: those of each contract. -/
import Derived.Test.YtjmbnhohfhpopaaMath0
namespace Go.Proofs.Ytjmbnhohfhpopaa
open Go
set_option linter.unusedVariables false set_option linter.unusedSimpArgs false attribute [local irreducible] Tok.own Tok.blk RL Rd eptr WP WPL PE WPD WPO Op1 OpE Tri Again Mid Exit.then Exit.inBlock bodyPost RP Code.wp wpList isOwn OneM One
set_option maxHeartbeats 8000000

theorem s_In (w : World) (v : Value) (x : Int) (xs : List Int) (h : RL w v xs) (hl : xs.length ≤ 1099511627776) :
    Tri Try.prog 51 [v, .int .i64 x] w [] fun r T => T = [] ∧ r = .bool (decide (x ∈ xs)) := by
  refine Tri.intro (hf := Try.func51) (hb := rfl) (hn := Try.ntmps51) (Nat.le_of_ble_eq_true rfl) ?_
  try refine go ⟨?_⟩
  refine WP.loop (σ := Nat) (fun k => [(0, v), (1, .int .i64 x), (5, .int .i64 k)]) (fun _ => []) (fun k => k ≤ xs.length ∧ ∀ m, m < k → x ≠ xs.getD m 0) (fun k => xs.length - k) 0 ⟨Nat.zero_le _, by omega⟩ sE sT ?_
  rintro k ⟨hk, hm⟩
  try refine go ⟨?_⟩
  refine WP.condD rfl (fun hc => ?_) (fun hc => ?_)
  · try refine go ⟨?_⟩
    refine WP.condD rfl (fun he => ?_) (fun he => ?_)
    · try refine go ⟨?_⟩
      refine PE.ret1 (T := []) (T' := []) rfl rV ?_ sT
      have hk' : k < xs.length := by omega
      refine ⟨rfl, ?_⟩
      have he' : xs.getD k 0 = x := he
      rw [decide_eq_true (he' ▸ getD_mem hk')]
    · try refine go ⟨?_⟩
      refine PE.again (k + 1) ?_ ?_ sE sT
      · exact ⟨by omega, fun m hm' => by
          rcases Nat.lt_succ_iff_lt_or_eq.1 hm' with h' | rfl
          · exact hm m h'
          · exact fun e => he e.symm⟩
      · omega
  · try refine go ⟨?_⟩
    refine PE.ret1 (T := []) (T' := []) rfl rV ?_ sT
    refine ⟨rfl, ?_⟩
    rw [decide_eq_false]
    intro hx
    obtain ⟨n, hn, rfl⟩ := List.getElem_of_mem hx
    refine hm n (by omega) ?_
    rw [List.getD_eq_getElem?_getD, List.getElem?_eq_getElem hn]; rfl

theorem s_Up (w : World) (vP vW : Value) (ps : List Int) (x : Int) (hP : RL w vP ps) (h1 : vW.oneCell' = true) (hl : ps.length ≤ 1000000) (hN : allN ps) (hx : inN ps x) (hE : ends ps ps.length x = true) :
    Tri Try.prog 50 [.agg #[vP, vW], .int .i64 x] w [] fun r T => T = [Tok.own r (up ps ps.length x)] := by
  refine Tri.intro (hf := Try.func50) (hb := rfl) (hn := Try.ntmps50) (Nat.le_of_ble_eq_true rfl) ?_
  try refine go ⟨?_⟩
  refine WPL.eff (OpE.box rfl) rfl rfl ?_; rintro _ _ ⟨b, rfl, rfl⟩
  try refine go ⟨?_⟩
  refine WPL.eff (OpE.buildSlice ([] : List Int) pA rfl (by decide)) rfl rfl ?_; rintro s _ rfl
  try refine go ⟨?_⟩
  refine WP.loop (σ := Nat × Int × List Int × Value) (fun s => [(2, .pointer (some ⟨b, 0, none⟩)), (6, .int .i64 s.2.1), (5, s.2.2.2)]) (fun s => [Tok.own s.2.2.2 s.2.2.1, Tok.blk b [vP, vW]])
    (fun s => s.1 ≤ ps.length ∧ inN ps s.2.1 ∧ s.2.2.1.length = s.1 ∧ s.2.2.1 ++ up ps (ps.length - s.1) s.2.1 = up ps ps.length x ∧ ends ps (ps.length - s.1) s.2.1 = true)
    (fun s => ps.length - s.1 + 1) (0, x, [], s) ⟨Nat.zero_le _, hx, rfl, by simp, by simpa using hE⟩ sE sT ?_
  rintro ⟨k, y, out, v⟩ ⟨hk, hy, ho, hu, he⟩
  dsimp only at hk hy ho hu he ⊢
  try refine go ⟨?_⟩
  refine WP.condD rfl (fun hne => ?_) (fun hne => ?_)
  · have hne' : y ≠ -1 := by omega
    have hk' : k < ps.length := by
      rcases Nat.lt_or_eq_of_le hk with h | h
      · exact h
      · rw [h, Nat.sub_self] at he; exact absurd (by simpa [ends] using he) hne'
    have hy0 : 0 ≤ y ∧ y < ps.length := by have := hy.1; have := hy.2; omega
    try refine go ⟨?_⟩
    refine WPL.eff (OpE.buildSlice [y] pA rfl (by decide)) rfl rfl ?_; rintro s1 _ rfl
    try refine go ⟨?_⟩
    refine WPL.eff (OpE.append rfl rfl pM rD lN) rfl rfl ?_; rintro v1 _ rfl
    try refine go ⟨?_⟩
    refine PE.again (k + 1, ps.getD y.toNat 0, out ++ [y], v1) ?_ ?_ sE sT
    · refine ⟨hk', hN.step hy hne', by simp [ho], ?_, ?_⟩
      · rw [← hu, up_step hk' hne']; simp
      · rw [← he, ends_step hk' hne']
    · dsimp only; omega
  · try refine go ⟨?_⟩
    have hy1 : y = -1 := by have := hy.1; omega
    subst hy1
    refine PE.ret1 (T := []) (T' := [Tok.own v out]) rfl rV ?_ sT
    rw [← hu, up_root]; simp

theorem s_RootedValid (w : World) (vP vW : Value) (ps ws : List Int) (hP : RL w vP ps) (hW : RL w vW ws) (hlp : ps.length ≤ 1099511627776) (hlw : ws.length ≤ 1099511627776) :
    Tri Try.prog 42 [.agg #[vP, vW]] w [] fun r T => r = .bool (decide (RV ps ws)) ∧ T = [] := by
  have bad : ¬ RV ps ws → Value.bool false = .bool (decide (RV ps ws)) := fun h => by rw [decide_eq_false h]
  refine Tri.intro (hf := Try.func42) (hb := rfl) (hn := Try.ntmps42) (Nat.le_of_ble_eq_true rfl) ?_
  try refine go ⟨?_⟩
  refine WPL.eff (OpE.box rfl) rfl rfl ?_; rintro _ _ ⟨b, rfl, rfl⟩
  have W1 : One ⟨98, w, fps []⟩ [Tok.blk b [vP, vW]] [vP, vW] := One.rd (Rd.arg0 hP) (One.rd (Rd.arg0 hW) One.nil)
  repeat' (first | refine go ⟨?_⟩ | (refine isCond ?_; refine WP.condD rfl (fun hc => ?_) (fun hc => ?_)) | (refine isGuard ?_; refine WPL.splitD rfl rfl (fun hc => ?_) (fun hc => ?_)))
  · refine PE.ret1 (T := []) (T' := []) rfl rV ?_ sT
    exact ⟨bad fun h => by have := h.1; omega, rfl⟩
  · refine PE.ret1 (T := []) (T' := []) rfl rV ?_ sT
    exact ⟨bad fun h => by have := h.2.1; omega, rfl⟩
  · refine PE.ret1 (T := []) (T' := []) rfl rV ?_ sT
    exact ⟨bad fun h => by have := h.2.2.1; omega, rfl⟩
  rename_i n2 n3
  refine WP.loop (σ := Nat) (fun k => [(1, .pointer (some ⟨b, 0, none⟩)), (3, .int .i64 ps.length), (4, .int .i64 k)]) (fun _ => [Tok.blk b [vP, vW]]) (fun k => k ≤ ps.length ∧ ∀ i, i < k → okAt ps ws i) (fun k => ps.length - k) 0 ⟨Nat.zero_le _, by omega⟩ sE sT ?_
  rintro k ⟨hk, hm⟩
  repeat' (first | refine go ⟨?_⟩ | (refine isCond ?_; refine WP.condD rfl (fun hc => ?_) (fun hc => ?_)) | (refine isGuard ?_; refine WPL.splitD rfl rfl (fun hc => ?_) (fun hc => ?_)))
  iterate 5 (refine PE.ret1 (T := []) (T' := []) rfl rV ?_ sT; exact ⟨bad fun h => by have h4 := h.2.2.2.1 k (by omega); unfold okAt at h4; omega, rfl⟩)
  iterate 2 (
    refine PE.again (k + 1) ?_ ?_ sE sT
    · refine ⟨by omega, fun i hi => ?_⟩
      rcases Nat.lt_succ_iff_lt_or_eq.1 hi with h' | rfl
      · exact hm i h'
      · unfold okAt; omega
    · omega)
  have hkn : k = ps.length := by omega
  subst hkn
  have hN : allN ps := fun i hi => ⟨(hm i hi).1, (hm i hi).2.1⟩
  refine WP.loop (σ := Nat) (fun k => [(1, .pointer (some ⟨b, 0, none⟩)), (3, .int .i64 ps.length), (5, .int .i64 k)]) (fun _ => [Tok.blk b [vP, vW]]) (fun k => k ≤ ps.length ∧ ∀ i, i < k → ends ps ps.length (i : Int) = true) (fun k => ps.length - k) 0 ⟨Nat.zero_le _, by omega⟩ sE sT ?_
  rintro k ⟨hk, he⟩
  repeat' (first | refine go ⟨?_⟩ | (refine isCond ?_; refine WP.condD rfl (fun hc => ?_) (fun hc => ?_)) | (refine isGuard ?_; refine WPL.splitD rfl rfl (fun hc => ?_) (fun hc => ?_)))
  · have hk' : k < ps.length := by omega
    have hi : inN ps (k : Int) := ⟨by omega, by omega⟩
    refine WP.loop (σ := Nat × Int) (fun s => [(1, .pointer (some ⟨b, 0, none⟩)), (3, .int .i64 ps.length), (5, .int .i64 k), (6, .int .i64 s.2), (7, .int .i64 s.1)]) (fun _ => [Tok.blk b [vP, vW]])
      (fun s => s.1 ≤ ps.length + 1 ∧ inN ps s.2 ∧ ends ps (ps.length + 1 - s.1) s.2 = ends ps (ps.length + 1) (k : Int)) (fun s => ps.length + 1 - s.1) (0, (k : Int)) ⟨Nat.zero_le _, hi, rfl⟩ sE sT ?_
    rintro ⟨j, y⟩ ⟨hj, hy, hey⟩
    dsimp only at hj hy hey ⊢
    repeat' (first | refine go ⟨?_⟩ | (refine isCond ?_; refine WP.condD rfl (fun hc => ?_) (fun hc => ?_)) | (refine isGuard ?_; refine WPL.splitD rfl rfl (fun hc => ?_) (fun hc => ?_)))
    · have hy0 : 0 ≤ y ∧ y < ps.length := ⟨by assumption, hy.2⟩
      have hne : y ≠ -1 := by omega
      repeat' (first | refine go ⟨?_⟩ | (refine isCond ?_; refine WP.condD rfl (fun hc => ?_) (fun hc => ?_)) | (refine isGuard ?_; refine WPL.splitD rfl rfl (fun hc => ?_) (fun hc => ?_)))
      refine PE.again (j + 1, ps.getD y.toNat 0) ?_ ?_ sE sT
      · refine ⟨by omega, hN.step hy hne, ?_⟩
        rw [← hey, ends_step (by omega) hne]
      · dsimp only; omega
    · exact absurd hc ‹¬0 ≤ y›
    · have hy1 : y = -1 := by have := hy.1; omega
      rw [hy1, ends_root] at hey
      refine PE.again (k + 1) ?_ ?_ sE sT
      · refine ⟨by omega, fun i hi' => ?_⟩
        rcases Nat.lt_succ_iff_lt_or_eq.1 hi' with h' | rfl
        · exact he i h'
        · exact ends_all hN hi hey.symm
      · omega
    · have hj1 : ps.length + 1 - j = 0 := by omega
      rw [hj1] at hey
      refine PE.ret1 (T := []) (T' := []) rfl rV ?_ sT
      refine ⟨bad fun h => ?_, rfl⟩
      rw [ends_mono (Nat.le_succ _) (h.2.2.2.2 k hk')] at hey
      have : y = -1 := by simpa [ends] using hey
      omega
    · have hy1 : y = -1 := by have := hy.1; omega
      rw [hy1, ends_root] at hey
      refine PE.again (k + 1) ?_ ?_ sE sT
      · refine ⟨by omega, fun i hi' => ?_⟩
        rcases Nat.lt_succ_iff_lt_or_eq.1 hi' with h' | rfl
        · exact he i h'
        · exact ends_all hN hi hey.symm
      · omega
  · refine PE.ret1 (T := []) (T' := []) rfl rV ?_ sT
    refine ⟨?_, rfl⟩
    rw [decide_eq_true]
    exact ⟨by omega, by omega, by omega, hm, fun i hi => he i (by omega)⟩

theorem s_Node (w : World) (vP vW : Value) (ps ws : List Int) (x : Int) (hP : RL w vP ps) (hW : RL w vW ws) (hlp : ps.length ≤ 1099511627776) (hlw : ws.length ≤ 1099511627776) :
    Tri Try.prog 49 [.agg #[vP, vW], .int .i64 x] w [] fun r T => r = .bool (decide (NV ps ws x)) ∧ T = [] := by
  refine Tri.intro (hf := Try.func49) (hb := rfl) (hn := Try.ntmps49) (Nat.le_of_ble_eq_true rfl) ?_
  try refine go ⟨?_⟩
  refine WPL.eff (OpE.box rfl) rfl rfl ?_; rintro _ _ ⟨b, rfl, rfl⟩
  try refine go ⟨?_⟩
  refine WPL.eff (OpE.call lO (fun w hw => s_RootedValid _ vP vW ps ws (Rd.at rD hw) (Rd.at rD hw) hlp hlw)) rfl rfl ?_
  rintro r _ ⟨T, ⟨rfl, rfl⟩, rfl⟩
  repeat' (first | refine go ⟨?_⟩ | (refine isCond ?_; refine WP.condD rfl (fun hc => ?_) (fun hc => ?_)) | (refine isGuard ?_; refine WPL.splitD rfl rfl (fun hc => ?_) (fun hc => ?_)))
  all_goals (refine PE.ret1 (T := []) (T' := []) rfl rV ?_ sT)
  · refine ⟨?_, rfl⟩
    congr 1; rw [decide_eq_decide]; unfold NV; constructor
    · intro h; exact ⟨by assumption, by assumption, h⟩
    · intro h; exact h.2.2
  · refine ⟨?_, rfl⟩
    rw [decide_eq_false]; unfold NV; omega
  · refine ⟨?_, rfl⟩
    rw [decide_eq_false]; unfold NV; intro h; exact absurd h.1 ‹_›

theorem s_Copy (w : World) (vP vW : Value) (ps ws : List Int) (hP : RL w vP ps) (hW : RL w vW ws) (hlp : ps.length ≤ 1000000) (hlw : ws.length ≤ 1000000) :
    Tri Try.prog 56 [.agg #[vP, vW]] w [] fun r T => ∃ uP uW, r = .agg #[uP, uW] ∧ T = [Tok.own uP ps, Tok.own uW ws] := by
  refine Tri.intro (hf := Try.func56) (hb := rfl) (hn := Try.ntmps56) (Nat.le_of_ble_eq_true rfl) ?_
  try refine go ⟨?_⟩
  refine WPL.eff (OpE.box rfl) rfl rfl ?_; rintro _ _ ⟨b, rfl, rfl⟩
  refine WPL.eff OpE.alloc rfl rfl ?_; rintro _ _ ⟨br, rfl, rfl⟩
  try refine go ⟨?_⟩
  refine WP.draw [Tok.blk b [vP, vW]] mixed ?_
  refine WPD.take 1 rfl oP rfl rfl sT kR kR kR xQP ?_
  refine WPD.take 2 rfl oP rfl rfl sT kR kR kR xQP ?_
  refine WPD.take 5 rfl oP rfl rfl sT kR kR kR xQP ?_
  refine WPD.take 6 rfl oP rfl rfl sT kR kR kR xQP ?_
  refine WPD.two 0 4 kR ?_ ?_
  · refine WPO.eff rfl (OpE.buildSlice ([] : List Int) pA rfl (by decide)) rfl rfl ?_; rintro s _ rfl; refine ⟨sT, ?_⟩
    refine WPD.two 3 4 kR ?_ ?_
    · refine WPO.eff rfl (OpE.append rfl rfl (by first | exact List.Perm.refl _ | exact prm1 | exact prm2 | exact prm3 | exact prm4 | exact prm5 | exact prm6 | exact prm7 | exact prm8) rD lN) rfl rfl ?_; rintro u1 _ rfl; refine ⟨sT, ?_⟩
      refine WPD.eff 4 kR rfl (OpE.buildSlice ([] : List Int) pA rfl (by decide)) rfl rfl ?_; rintro s2 _ rfl; refine ⟨sT, ?_⟩
      refine WPD.eff 7 kR rfl (OpE.append rfl rfl pM rD lN) rfl rfl ?_; rintro u2 _ rfl; refine ⟨sT, ?_⟩
      refine WPD.one1 u1 (by repeat (first | exact OneM.head isOwn.own | apply OneM.tail)) (fun o1 => ?_)
      refine WPD.one1 u2 (by repeat (first | exact OneM.head isOwn.own | apply OneM.tail)) (fun o2 => ?_)
      refine WPD.take 8 rfl oP rfl rfl sT kR kR kR xQP ?_
      refine WPD.eff0 9 kR rfl (OpE.storeAll rfl rfl pM (by rfl) (by rfl) oN) rfl ?_; rintro _ _ rfl; refine ⟨sT, ?_⟩
      refine WPD.done kR ?_
      try refine go ⟨?_⟩
      refine PE.ret1 (T := []) (T' := [Tok.own u1 ps, Tok.own u2 ws]) rfl rV ?_ sT
      exact ⟨u1, u2, rfl, rfl⟩
    · refine WPO.eff rfl (OpE.buildSlice ([] : List Int) pA rfl (by decide)) rfl rfl ?_; rintro s2 _ rfl; refine ⟨sT, ?_⟩
      refine WPD.eff 3 kR rfl (OpE.append rfl rfl pM rD lN) rfl rfl ?_; rintro u1 _ rfl; refine ⟨sT, ?_⟩
      refine WPD.eff 7 kR rfl (OpE.append rfl rfl pM rD lN) rfl rfl ?_; rintro u2 _ rfl; refine ⟨sT, ?_⟩
      refine WPD.one1 u1 (by repeat (first | exact OneM.head isOwn.own | apply OneM.tail)) (fun o1 => ?_)
      refine WPD.one1 u2 (by repeat (first | exact OneM.head isOwn.own | apply OneM.tail)) (fun o2 => ?_)
      refine WPD.take 8 rfl oP rfl rfl sT kR kR kR xQP ?_
      refine WPD.eff0 9 kR rfl (OpE.storeAll rfl rfl pM (by rfl) (by rfl) oN) rfl ?_; rintro _ _ rfl; refine ⟨sT, ?_⟩
      refine WPD.done kR ?_
      try refine go ⟨?_⟩
      refine PE.ret1 (T := []) (T' := [Tok.own u1 ps, Tok.own u2 ws]) rfl rV ?_ sT
      exact ⟨u1, u2, rfl, rfl⟩
  · refine WPO.eff rfl (OpE.buildSlice ([] : List Int) pA rfl (by decide)) rfl rfl ?_; rintro s2 _ rfl; refine ⟨sT, ?_⟩
    refine WPD.eff 0 kR rfl (OpE.buildSlice ([] : List Int) pA rfl (by decide)) rfl rfl ?_; rintro s _ rfl; refine ⟨sT, ?_⟩
    refine WPD.eff 3 kR rfl (OpE.append rfl rfl pM rD lN) rfl rfl ?_; rintro u1 _ rfl; refine ⟨sT, ?_⟩
    refine WPD.eff 7 kR rfl (OpE.append rfl rfl pM rD lN) rfl rfl ?_; rintro u2 _ rfl; refine ⟨sT, ?_⟩
    refine WPD.one1 u1 (by repeat (first | exact OneM.head isOwn.own | apply OneM.tail)) (fun o1 => ?_)
    refine WPD.one1 u2 (by repeat (first | exact OneM.head isOwn.own | apply OneM.tail)) (fun o2 => ?_)
    refine WPD.take 8 rfl oP rfl rfl sT kR kR kR xQP ?_
    refine WPD.eff0 9 kR rfl (OpE.storeAll rfl rfl pM (by rfl) (by rfl) oN) rfl ?_; rintro _ _ rfl; refine ⟨sT, ?_⟩
    refine WPD.done kR ?_
    try refine go ⟨?_⟩
    refine PE.ret1 (T := []) (T' := [Tok.own u1 ps, Tok.own u2 ws]) rfl rV ?_ sT
    exact ⟨u1, u2, rfl, rfl⟩
end Go.Proofs.Ytjmbnhohfhpopaa
