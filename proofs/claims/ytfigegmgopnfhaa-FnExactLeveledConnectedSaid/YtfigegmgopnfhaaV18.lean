/- Texts put together: HlpL. Conditions: those of each theorem. -/
import Derived.Test.YtfigegmgopnfhaaV11
import Derived.Test.YtfigegmgopnfhaaV15
import Derived.Test.YtfigegmgopnfhaaV17
set_option linter.unusedVariables false
set_option linter.unusedSimpArgs false
/- The helpers of the exact law over graphs with levels. Conditions: those of each contract. -/
namespace Go.Proofs.Ytfigegmgopnfhaa
open Go
theorem fill_setB {xs : List Bool} {k : Nat} (hk : k < xs.length) : (xs.take k ++ List.replicate (xs.length - k) false).set k (xs.getD k false) = xs.take (k + 1) ++ List.replicate (xs.length - (k + 1)) false := by
  have e : xs.length - k = (xs.length - (k + 1)) + 1 := by omega
  rw [e, List.replicate_succ, List.set_append_right _ _ (by rw [List.length_take]; omega), List.length_take, Nat.min_eq_left (by omega), Nat.sub_self, List.set_cons_zero, take_succD false hk, List.append_assoc]; rfl
theorem LV.ext_iff1 {a b : LV} : a = b ↔ (a.n = b.n ∧ a.es = b.es) ∧ a.lv = b.lv ∧ a.tr = b.tr := by cases a; cases b; simp [and_assoc]
set_option linter.unusedVariables false set_option linter.unusedSimpArgs false attribute [local irreducible] Tok.own Tok.blk RL Rd eptr WP WPL PE WPD WPO Op1 OpE Tri Again Mid Exit.then Exit.inBlock bodyPost RP Code.wp wpList isOwn OneM One
set_option maxHeartbeats 8000000

theorem h_szB (w : World) (v : Value) (xs : List Bool) (left : Int) (h : RL w v xs) (hl : xs.length ≤ 9223372036854775807) (h0 : 0 ≤ left) (h1 : left ≤ 1048576) :
    Tri Try.prog 101 [v, .int .i64 left] w [] fun r T => T = [] ∧ ((xs.length ≤ left ∧ r = .int .i64 (left - xs.length)) ∨ (left < xs.length ∧ r = .int .i64 (-1))) := by
  refine Tri.intro (hf := Try.func101) (hb := rfl) (hn := Try.ntmps101) (Nat.le_of_ble_eq_true rfl) ?_
  repeat' (first | refine go ⟨?_⟩ | (refine isCond ?_; refine WP.condD rfl (fun hc => ?_) (fun hc => ?_)) | (refine isGuard ?_; refine WPL.splitD rfl rfl (fun hc => ?_) (fun hc => ?_)))
  · refine PE.ret1 (T := []) (T' := []) rfl rV ?_ sT
    exact ⟨rfl, .inr ⟨by omega, rfl⟩⟩
  · refine PE.ret1 (T := []) (T' := []) rfl rV ?_ sT
    exact ⟨rfl, .inl ⟨by omega, rfl⟩⟩

theorem h_toB (w : World) (v : Value) (xs : List Bool) (h : RL w v xs) (hl : xs.length ≤ 1048576) :
    Tri Try.prog 106 [v] w [] fun r T => T = [Tok.own r xs] := by
  refine Tri.intro (hf := Try.func106) (hb := rfl) (hn := Try.ntmps106) (Nat.le_of_ble_eq_true rfl) ?_
  try refine go ⟨?_⟩
  refine WPL.eff (OpE.make (α := Bool) rfl rfl (by omega)) rfl rfl ?_; rintro u _ rfl
  try refine go ⟨?_⟩
  refine WP.loop (σ := Nat) (fun k => [(0, v), (3, u), (4, .int .i64 k)]) (fun k => [Tok.own u (xs.take k ++ List.replicate (xs.length - k) false)]) (fun k => k ≤ xs.length) (fun k => xs.length - k) 0 (Nat.zero_le _) sE ?_ ?_
  · exact sT
  rintro k hk
  have hlen : (xs.take k ++ List.replicate (xs.length - k) false).length = xs.length := by simp; omega
  try refine go ⟨?_⟩
  refine WP.condD rfl (fun hc => ?_) (fun hc => ?_)
  · have hk' : k < xs.length := by omega
    try refine go ⟨?_⟩
    refine WPL.eff0 (OpE.store1 (xs.getD k false) rfl rfl pM2 lT rfl) rfl ?_
    rintro _ _ rfl
    rw [fill_setB hk']
    try refine go ⟨?_⟩
    refine PE.again (k + 1) ?_ ?_ sE sT2
    · (try dsimp only); omega
    · (try dsimp only); omega
  · have hk1 : k = xs.length := by omega
    subst hk1
    try refine go ⟨?_⟩
    refine PE.ret1 (T := []) (T' := [Tok.own u (xs.take xs.length ++ List.replicate (xs.length - xs.length) false)]) rfl rV ?_ sT
    simp

theorem h_szLev (w : World) (l : LV) (vE vL vT : Value) (left : Int) (hE : RL w vE l.es) (hL : RL w vL l.lv) (hT : RL w vT l.tr) (l1 : l.es.length ≤ 9223372036854775807) (l2 : l.lv.length ≤ 9223372036854775807) (l3 : l.tr.length ≤ 9223372036854775807) (h0 : 0 ≤ left) (h1 : left ≤ 1048576) :
    Tri Try.prog 55 [.agg #[.int .i64 l.n, vE, vL, vT], .int .i64 left] w [] fun r T => T = [] ∧ ((l.es.length + l.lv.length + l.tr.length ≤ left ∧ r = .int .i64 (left - l.es.length - l.lv.length - l.tr.length)) ∨ r = .int .i64 (-1)) := by
  refine Tri.intro (hf := Try.func55) (hb := rfl) (hn := Try.ntmps55) (Nat.le_of_ble_eq_true rfl) ?_
  try refine go ⟨?_⟩
  refine WPL.eff (OpE.box rfl) rfl rfl ?_; rintro _ _ ⟨b, rfl, rfl⟩
  try refine go ⟨?_⟩
  refine WPL.pure (Op1.loadAgg (us := [.int .i64 l.n, vE]) rfl mM rfl rfl) rfl rfl ?_
  try refine go ⟨?_⟩
  refine WPL.eff (OpE.call lO (fun w hw => h_szG _ l.n vE l.es left (Rd.at rD hw) l1 h0 h1)) rfl rfl ?_
  rintro r _ ⟨T, ⟨rfl, hr⟩, rfl⟩
  rcases hr with ⟨h2, rfl⟩ | ⟨h2, rfl⟩
  · try refine go ⟨?_⟩
    rw [decide_eq_false (show ¬ left - (l.es.length : Int) < 0 by omega)]
    try refine go ⟨?_⟩
    refine WPL.eff (OpE.call lO (fun w hw => h_szI _ vL l.lv (left - l.es.length) (Rd.at rD hw) l2 (by omega) (by omega))) rfl rfl ?_
    rintro r _ ⟨T, ⟨rfl, hr⟩, rfl⟩
    rcases hr with ⟨h3, rfl⟩ | ⟨h3, rfl⟩
    · try refine go ⟨?_⟩
      rw [decide_eq_false (show ¬ left - (l.es.length : Int) - l.lv.length < 0 by omega)]
      try refine go ⟨?_⟩
      refine WPL.eff (OpE.call lO (fun w hw => h_szB _ vT l.tr (left - l.es.length - l.lv.length) (Rd.at rD hw) l3 (by omega) (by omega))) rfl rfl ?_
      rintro r _ ⟨T, ⟨rfl, hr⟩, rfl⟩
      rcases hr with ⟨h4, rfl⟩ | ⟨h4, rfl⟩
      · try refine go ⟨?_⟩
        rw [decide_eq_false (show ¬ left - (l.es.length : Int) - l.lv.length - l.tr.length < 0 by omega)]
        try refine go ⟨?_⟩
        refine PE.ret1 (T := []) (T' := []) rfl rV ?_ sT
        exact ⟨rfl, .inl ⟨by omega, rfl⟩⟩
      · repeat' (first | refine go ⟨?_⟩ | (refine isCond ?_; refine WP.condD rfl (fun hc => ?_) (fun hc => ?_)) | (refine isGuard ?_; refine WPL.splitD rfl rfl (fun hc => ?_) (fun hc => ?_)))
        refine PE.ret1 (T := []) (T' := []) rfl rV ?_ sT
        exact ⟨rfl, .inr rfl⟩
    · repeat' (first | refine go ⟨?_⟩ | (refine isCond ?_; refine WP.condD rfl (fun hc => ?_) (fun hc => ?_)) | (refine isGuard ?_; refine WPL.splitD rfl rfl (fun hc => ?_) (fun hc => ?_)))
      refine PE.ret1 (T := []) (T' := []) rfl rV ?_ sT
      exact ⟨rfl, .inr rfl⟩
  · repeat' (first | refine go ⟨?_⟩ | (refine isCond ?_; refine WP.condD rfl (fun hc => ?_) (fun hc => ?_)) | (refine isGuard ?_; refine WPL.splitD rfl rfl (fun hc => ?_) (fun hc => ?_)))
    refine PE.ret1 (T := []) (T' := []) rfl rV ?_ sT
    exact ⟨rfl, .inr rfl⟩

theorem h_toLev (w : World) (l : LV) (vE vL vT : Value) (hE : RL w vE l.es) (hL : RL w vL l.lv) (hT : RL w vT l.tr) (l1 : l.es.length ≤ 1048576) (l2 : l.lv.length ≤ 1048576) (l3 : l.tr.length ≤ 1048576) :
    Tri Try.prog 57 [.agg #[.int .i64 l.n, vE, vL, vT]] w [] fun r T => ∃ uE uL uT, r = .agg #[.int .i64 l.n, uE, uL, uT] ∧ T = [Tok.own uE l.es, Tok.own uL l.lv, Tok.own uT l.tr] := by
  refine Tri.intro (hf := Try.func57) (hb := rfl) (hn := Try.ntmps57) (Nat.le_of_ble_eq_true rfl) ?_
  try refine go ⟨?_⟩
  refine WPL.eff (OpE.box rfl) rfl rfl ?_; rintro _ _ ⟨b, rfl, rfl⟩
  refine WPL.eff OpE.alloc rfl rfl ?_; rintro _ _ ⟨br, rfl, rfl⟩
  try refine go ⟨?_⟩
  refine WPL.eff OpE.alloc rfl rfl ?_; rintro _ _ ⟨bo, rfl, rfl⟩
  try refine go ⟨?_⟩
  refine WPL.pure (Op1.loadAgg (us := [.int .i64 l.n, vE]) rfl mM rfl rfl) rfl rfl ?_
  try refine go ⟨?_⟩
  refine WPL.eff (OpE.call lO (fun w hw => h_toG _ l.n vE l.es (Rd.at rD hw) l1)) rfl rfl ?_
  rintro _ _ ⟨T, ⟨uE, rfl, rfl⟩, rfl⟩
  try refine go ⟨?_⟩
  refine WPL.eff0 (OpE.storeAgg (us := [.int .i64 l.n, uE]) rfl rfl pM rfl (Nat.le_of_ble_eq_true rfl) oN) rfl ?_; rintro _ _ rfl
  try refine go ⟨?_⟩
  refine WPL.eff (OpE.call lO (fun w hw => h_toI _ vL l.lv (Rd.at rD hw) l2)) rfl rfl ?_
  rintro uL _ ⟨T, rfl, rfl⟩
  try refine go ⟨?_⟩
  refine WPL.eff (OpE.call lO (fun w hw => h_toB _ vT l.tr (Rd.at rD hw) l3)) rfl rfl ?_
  rintro uT _ ⟨T, rfl, rfl⟩
  try refine go ⟨?_⟩
  refine PE.ret1 (T := []) (T' := [Tok.own uE l.es, Tok.own uL l.lv, Tok.own uT l.tr]) rfl rV ?_ sT2
  exact ⟨uE, uL, uT, rfl, rfl⟩

theorem h_eqLev (w : World) (a b : LV) (aE aL aT bE bL bT : Value) (h1 : RL w aE a.es) (h2 : RL w aL a.lv) (h3 : RL w aT a.tr) (h4 : RL w bE b.es) (h5 : RL w bL b.lv) (h6 : RL w bT b.tr)
    (l1 : a.es.length ≤ 1048576) (l2 : a.lv.length ≤ 1048576) (l3 : a.tr.length ≤ 1048576) (l4 : b.es.length ≤ 1048576) (l5 : b.lv.length ≤ 1048576) (l6 : b.tr.length ≤ 1048576) :
    Tri Try.prog 59 [.agg #[.int .i64 a.n, aE, aL, aT], .agg #[.int .i64 b.n, bE, bL, bT]] w [] fun r T => T = [] ∧ r = .bool (decide (a = b)) := by
  have ext := LV.ext_iff1 (a := a) (b := b)
  refine Tri.intro (hf := Try.func59) (hb := rfl) (hn := Try.ntmps59) (Nat.le_of_ble_eq_true rfl) ?_
  try refine go ⟨?_⟩
  refine WPL.eff (OpE.box rfl) rfl rfl ?_; rintro _ _ ⟨b1, rfl, rfl⟩
  refine WPL.eff (OpE.box rfl) rfl rfl ?_; rintro _ _ ⟨b2, rfl, rfl⟩
  try refine go ⟨?_⟩
  refine WPL.pure (Op1.loadAgg (us := [.int .i64 a.n, aE]) rfl mM rfl rfl) rfl rfl ?_
  try refine go ⟨?_⟩
  refine WPL.pure (Op1.loadAgg (us := [.int .i64 b.n, bE]) rfl mM rfl rfl) rfl rfl ?_
  try refine go ⟨?_⟩
  refine WPL.eff (OpE.call lO (fun w hw => h_eqG _ a.n b.n aE bE a.es b.es (Rd.at rD hw) (Rd.at rD hw) l1 l4)) rfl rfl ?_
  rintro r _ ⟨T, ⟨rfl, rfl⟩, rfl⟩
  try refine go ⟨?_⟩
  refine WP.condD rfl (fun c1 => ?_) (fun c1 => ?_)
  · try refine go ⟨?_⟩
    refine PE.ret1 (T := []) (T' := []) rfl rV ?_ sT
    refine ⟨rfl, ?_⟩
    rw [decide_eq_false]; rw [ext]; exact fun h => absurd h.1 c1
  try refine go ⟨?_⟩
  refine WPL.eff (OpE.call lO (fun w hw => h_eqI _ aL bL a.lv b.lv (Rd.at rD hw) (Rd.at rD hw) (by omega) (by omega))) rfl rfl ?_
  rintro r _ ⟨T, ⟨rfl, rfl⟩, rfl⟩
  try refine go ⟨?_⟩
  refine WP.condD rfl (fun c2 => ?_) (fun c2 => ?_)
  · try refine go ⟨?_⟩
    refine PE.ret1 (T := []) (T' := []) rfl rV ?_ sT
    refine ⟨rfl, ?_⟩
    rw [decide_eq_false]; rw [ext]; exact fun h => absurd h.2.1 c2
  try refine go ⟨?_⟩
  refine WPL.eff (OpE.call lO (fun w hw => h_eqB _ aT bT a.tr b.tr (Rd.at rD hw) (Rd.at rD hw) (by omega) (by omega))) rfl rfl ?_
  rintro r _ ⟨T, ⟨rfl, rfl⟩, rfl⟩
  try refine go ⟨?_⟩
  refine WP.condD rfl (fun c3 => ?_) (fun c3 => ?_)
  · try refine go ⟨?_⟩
    refine PE.ret1 (T := []) (T' := []) rfl rV ?_ sT
    refine ⟨rfl, ?_⟩
    rw [decide_eq_false]; rw [ext]; exact fun h => absurd h.2.2 c3
  try refine go ⟨?_⟩
  refine PE.ret1 (T := []) (T' := []) rfl rV ?_ sT
  refine ⟨rfl, ?_⟩
  rw [decide_eq_true]; rw [ext]
  exact ⟨Decidable.not_not.1 c1, Decidable.not_not.1 c2, Decidable.not_not.1 c3⟩
end Go.Proofs.Ytfigegmgopnfhaa
