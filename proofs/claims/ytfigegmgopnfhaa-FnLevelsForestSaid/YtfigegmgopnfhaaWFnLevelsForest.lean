/- The given statement FnLevelsForestSaid, out of its walk (LLevelsForest). Written by fin.py. No conditions. -/
import Derived.Test.YtfigegmgopnfhaaInit
import Derived.Test.YtfigegmgopnfhaaV2
import Derived.Test.YtfigegmgopnfhaaV4
import Derived.Test.YtfigegmgopnfhaaV22
set_option linter.unusedVariables false
set_option linter.unusedSimpArgs false
/- The law FnLevelsTree: its walk. Conditions: those of the theorem. -/
namespace Go.Proofs.Ytfigegmgopnfhaa
open Go
theorem bselfT (d : Bool) : (d != d) = false := by cases d <;> rfl
theorem beqT (d : Bool) : (d == d) = true := by cases d <;> rfl
theorem lfOk_lev {l : LV} (h : LVok l) {j : Nat} (hj : j < l.es.length) : lfOk l (l.lv.getD j 0) ∧ lfL l (l.lv.getD j 0) = abv' l (l.lv.getD j 0) true := by
  have hl := h.lev hj
  have : lfOk l (l.lv.getD j 0) := ⟨h, hl.1, hl.2⟩
  exact ⟨this, if_pos this⟩
theorem tree_CN {l : LV} (h : LVok l) {j : Nat} (hj : j < l.es.length) : CN l.n (abv' l (l.lv.getD j 0) true) (l.es.getD j (Enc.d : E)).A (l.es.getD j (Enc.d : E)).B := by
  have hnd := h.gv.okE _ (getD_memI (d := (Enc.d : E)) hj)
  exact ⟨h.gvA _ true, hnd.1, hnd.2, h.tree hj⟩
set_option linter.unusedVariables false set_option linter.unusedSimpArgs false attribute [local irreducible] Tok.own Tok.blk RL Rd eptr WP WPL PE WPD WPO Op1 OpE Tri Again Mid Exit.then Exit.inBlock bodyPost RP Code.wp wpList isOwn OneM One
attribute [local irreducible] LVok lfOk lfL abv' CN
set_option maxHeartbeats 8000000

theorem l_LevelsTree (w : World) (v : Value) (bs : List UInt8) (h : RL w v bs) (hl : bs.length ≤ 9223372036854775807) :
    Tri Try.prog 16 [v] w [] fun r T => r = .bool true := by
  refine Tri.intro (hf := Try.func16) (hb := rfl) (hn := Try.ntmps16) (Nat.le_of_ble_eq_true rfl) ?_
  repeat' (first | exact absurd rfl hc | refine go ⟨?_⟩ | (refine isCond ?_; refine WP.condD rfl (fun hc => ?_) (fun hc => ?_)) | (refine isGuard ?_; refine WPL.splitD rfl rfl (fun hc => ?_) (fun hc => ?_)))
  · refine PE.ret1 (T := []) (T' := []) rfl rV ?_ sT
    rfl
  refine WPL.eff (OpE.call lO (fun w hw => g_DLevelsValid _ v bs (Rd.at rD hw) hl)) rfl rfl ?_
  rintro r _ ⟨T, ⟨a, b, c, l, rfl, rfl, sh⟩, rfl⟩
  have sh1 := sh.1
  have sh2 := sh.2.1
  have sh3 := sh.2.2.1
  try refine go ⟨?_⟩
  refine WPL.eff OpE.alloc rfl rfl ?_; rintro _ _ ⟨b3, rfl, rfl⟩
  try refine go ⟨?_⟩
  refine WPL.eff (OpE.call lO (fun w hw => c_LevelsValid _ l a b c (Rd.at rD hw) (Rd.at rD hw) (Rd.at rD hw) (by omega) (by omega) (by omega))) rfl rfl ?_
  rintro _ _ ⟨T, ⟨rfl, rfl⟩, rfl⟩
  try refine go ⟨?_⟩
  refine WPL.eff (OpE.call lO (fun w hw => s_LevelsValid _ l a b c (Rd.at rD hw) (Rd.at rD hw) (Rd.at rD hw) (by omega) (by omega) (by omega))) rfl rfl ?_
  rintro _ _ ⟨T, ⟨rfl, rfl⟩, rfl⟩
  try refine go ⟨?_⟩
  by_cases hv : LVok l
  case neg =>
    rw [decide_eq_false hv]
    try refine go ⟨?_⟩
    refine WPL.eff (OpE.call lO (fun w hw => s_LevelsValid _ l a b c (Rd.at rD hw) (Rd.at rD hw) (Rd.at rD hw) (by omega) (by omega) (by omega))) rfl rfl ?_
    rintro _ _ ⟨T, ⟨rfl, rfl⟩, rfl⟩
    rw [decide_eq_false hv]
    try refine go ⟨?_⟩
    refine PE.ret1 (T := []) (T' := []) rfl rV ?_ sT
    rfl
  rw [decide_eq_true hv]
  try refine go ⟨?_⟩
  obtain ⟨q1, q2, q3⟩ := LVok_len hv
  refine WP.loop (σ := Nat) (fun i => [(3, ptrV b3), (5, .int .i64 i)]) (fun _ => [Tok.blk b3 [.int .i64 l.n, a, b, c], Tok.own a l.es, Tok.own b l.lv, Tok.own c l.tr]) (fun i => i ≤ l.lv.length) (fun i => l.lv.length - i) 0 (Nat.zero_le _) sE sT ?_
  rintro i hi
  try refine go ⟨?_⟩
  refine WP.condD rfl (fun hc => ?_) (fun hc => ?_)
  · have hi' : i < l.es.length := by omega
    obtain ⟨e1, e2⟩ := lfOk_lev hv hi'
    have hcn := tree_CN hv hi'
    have hle := lfL_le l (l.lv.getD i 0)
    rw [e2] at hle
    try refine go ⟨?_⟩
    refine WP.cutK (σ := Value) (fun u => [(3, ptrV b3), (5, .int .i64 i), (6, u), (7, .bool true)]) (fun u => [Tok.own u (abv' l (l.lv.getD i 0) true), Tok.blk b3 [.int .i64 l.n, a, b, c], Tok.own a l.es, Tok.own b l.lv, Tok.own c l.tr]) (fun _ => True) ?_ ?_
    · refine WP.draw [Tok.blk b3 [.int .i64 l.n, a, b, c], Tok.own a l.es, Tok.own b l.lv, Tok.own c l.tr] mixed ?_
      refine WPD.take 0 rfl (by first | exact (Op1.load rfl mM (by rfl)) | exact (Op1.loadI rfl rD lT) | exact (Op1.loadAll rfl mM (by rfl)) | exact (Op1.loadE rfl rD lT (by rfl)) | exact (Op1.loadEAgg rfl rD lT (by rfl))) rfl rfl sT kR kR kR xQP ?_
      refine WPD.take 1 rfl (by first | exact (Op1.fieldAddr rfl) | exact (Op1.fieldAddrE rfl rD lT)) rfl rfl sT kR kR kR xQP ?_
      refine WPD.take 3 rfl (Op1.move rfl) rfl rfl sT kR kR kR xQP ?_
      refine WPD.take 2 rfl (by first | exact (Op1.load rfl mM (by rfl)) | exact (Op1.loadI rfl rD lT) | exact (Op1.loadAll rfl mM (by rfl)) | exact (Op1.loadE rfl rD lT (by rfl)) | exact (Op1.loadEAgg rfl rD lT (by rfl))) rfl rfl sT kR kR kR xQP ?_
      refine WPD.take 4 rfl (by first | exact (Op1.indexAddr rfl rfl rD lT) | exact (Op1.indexAddrZ rfl rfl rD lT)) rfl rfl sT kR kR kR xQP ?_
      refine WPD.take 5 rfl (by first | exact (Op1.load rfl mM (by rfl)) | exact (Op1.loadI rfl rD lT) | exact (Op1.loadAll rfl mM (by rfl)) | exact (Op1.loadE rfl rD lT (by rfl)) | exact (Op1.loadEAgg rfl rD lT (by rfl))) rfl rfl sT kR kR kR xQP ?_
      refine WPD.eff 6 kR rfl (OpE.call lO (fun w hw => c_LevelForest _ l a b c (l.lv.getD i 0) (Rd.at rD hw) (Rd.at rD hw) (Rd.at rD hw) (by omega) (by omega) (by omega))) rfl rfl ?_
      rintro r _ ⟨T, ⟨u, rfl, rfl⟩, rfl⟩
      rw [e2, decide_eq_true e1]
      refine ⟨sT, ?_⟩
      refine WPD.take 7 rfl (Op1.move rfl) rfl rfl sT kR kR kR xQP ?_
      refine WPD.take 8 rfl (Op1.extract rfl (by rfl)) rfl rfl sT kR kR kR xQP ?_
      refine WPD.take 9 rfl (Op1.extract rfl (by rfl)) rfl rfl sT kR kR kR xQP ?_
      refine WPD.take 10 rfl (Op1.assign rfl) rfl rfl sT kR kR kR xQP ?_
      refine WPD.take 11 rfl (Op1.assign rfl) rfl rfl sT kR kR kR xQP ?_
      refine WPD.done kR ?_
      all_goals (refine PE.mid u trivial sE sT)
    rintro u _
    try refine go ⟨?_⟩
    refine WPL.eff OpE.alloc rfl rfl ?_; rintro _ _ ⟨b8, rfl, rfl⟩
    try refine go ⟨?_⟩
    refine WP.draw [Tok.blk b8 [.int .i64 l.n, u], Tok.own u (abv' l (l.lv.getD i 0) true), Tok.blk b3 [.int .i64 l.n, a, b, c], Tok.own a l.es, Tok.own b l.lv, Tok.own c l.tr] mixed ?_
    refine WPD.take 0 rfl (Op1.move rfl) rfl rfl sT kR kR kR xQP ?_
    refine WPD.take 1 rfl (by first | exact (Op1.notD rfl) | exact (Op1.not rfl)) rfl rfl sT kR kR kR xQP ?_
    refine WPD.take 2 rfl (Op1.move rfl) rfl rfl sT kR kR kR xQP ?_
    refine WPD.take 3 rfl (by first | exact (Op1.load rfl mM (by rfl)) | exact (Op1.loadI rfl rD lT) | exact (Op1.loadAll rfl mM (by rfl)) | exact (Op1.loadE rfl rD lT (by rfl)) | exact (Op1.loadEAgg rfl rD lT (by rfl))) rfl rfl sT kR kR kR xQP ?_
    refine WPD.take 4 rfl (by first | exact (Op1.fieldAddr rfl) | exact (Op1.fieldAddrE rfl rD lT)) rfl rfl sT kR kR kR xQP ?_
    refine WPD.take 7 rfl (Op1.move rfl) rfl rfl sT kR kR kR xQP ?_
    refine WPD.take 11 rfl (by first | exact (Op1.fieldAddr rfl) | exact (Op1.fieldAddrE rfl rD lT)) rfl rfl sT kR kR kR xQP ?_
    refine WPD.take 14 rfl (Op1.move rfl) rfl rfl sT kR kR kR xQP ?_
    refine WPD.take 5 rfl (by first | exact (Op1.fieldAddr rfl) | exact (Op1.fieldAddrE rfl rD lT)) rfl rfl sT kR kR kR xQP ?_
    refine WPD.take 12 rfl (by first | exact (Op1.fieldAddr rfl) | exact (Op1.fieldAddrE rfl rD lT)) rfl rfl sT kR kR kR xQP ?_
    refine WPD.take 6 rfl (by first | exact (Op1.load rfl mM (by rfl)) | exact (Op1.loadI rfl rD lT) | exact (Op1.loadAll rfl mM (by rfl)) | exact (Op1.loadE rfl rD lT (by rfl)) | exact (Op1.loadEAgg rfl rD lT (by rfl))) rfl rfl sT kR kR kR xQP ?_
    refine WPD.take 13 rfl (by first | exact (Op1.load rfl mM (by rfl)) | exact (Op1.loadI rfl rD lT) | exact (Op1.loadAll rfl mM (by rfl)) | exact (Op1.loadE rfl rD lT (by rfl)) | exact (Op1.loadEAgg rfl rD lT (by rfl))) rfl rfl sT kR kR kR xQP ?_
    refine WPD.take 8 rfl (by first | exact (Op1.indexAddr rfl rfl rD lT) | exact (Op1.indexAddrZ rfl rfl rD lT)) rfl rfl sT kR kR kR xQP ?_
    refine WPD.take 15 rfl (by first | exact (Op1.indexAddr rfl rfl rD lT) | exact (Op1.indexAddrZ rfl rfl rD lT)) rfl rfl sT kR kR kR xQP ?_
    refine WPD.take 9 rfl (by first | exact (Op1.fieldAddr rfl) | exact (Op1.fieldAddrE rfl rD lT)) rfl rfl sT kR kR kR xQP ?_
    refine WPD.take 16 rfl (by first | exact (Op1.fieldAddr rfl) | exact (Op1.fieldAddrE rfl rD lT)) rfl rfl sT kR kR kR xQP ?_
    refine WPD.take 10 rfl (by first | exact (Op1.load rfl mM (by rfl)) | exact (Op1.loadI rfl rD lT) | exact (Op1.loadAll rfl mM (by rfl)) | exact (Op1.loadE rfl rD lT (by rfl)) | exact (Op1.loadEAgg rfl rD lT (by rfl))) rfl rfl sT kR kR kR xQP ?_
    refine WPD.take 17 rfl (by first | exact (Op1.load rfl mM (by rfl)) | exact (Op1.loadI rfl rD lT) | exact (Op1.loadAll rfl mM (by rfl)) | exact (Op1.loadE rfl rD lT (by rfl)) | exact (Op1.loadEAgg rfl rD lT (by rfl))) rfl rfl sT kR kR kR xQP ?_
    refine WPD.eff 18 kR rfl (OpE.call lO (fun w hw => c_Connected _ l.n u (abv' l (l.lv.getD i 0) true) (l.es.getD i (Enc.d : E)).A (l.es.getD i (Enc.d : E)).B (Rd.at rD hw) (by omega))) rfl rfl ?_
    rintro r _ ⟨T, ⟨rfl, rfl⟩, rfl⟩
    rw [decide_eq_true hcn]
    refine ⟨sT, ?_⟩
    refine WPD.take 19 rfl (Op1.not rfl) rfl rfl sT kR kR kR xQP ?_
    refine WPD.take 20 rfl (by first | exact (Op1.pickT rfl rfl) | exact (Op1.pickF rfl rfl)) rfl rfl sT kR kR kR xQP ?_
    refine WPD.done kR ?_
    all_goals (
      try refine go ⟨?_⟩
      refine PE.again (i + 1) ?_ ?_ sE sT
      · (try dsimp only); omega
      · (try dsimp only); omega)
  · try refine go ⟨?_⟩
    refine PE.ret1 (T := []) (T' := []) rfl rV ?_ sT
    rfl
end Go.Proofs.Ytfigegmgopnfhaa
/- The law FnLevelsForest: its walk. Conditions: those of the theorem. -/
namespace Go.Proofs.Ytfigegmgopnfhaa
open Go
theorem deq_EL (l : List E) : decide (l = l) = true := decide_eq_true rfl
theorem c_PartGN (w : World) (n : Int) (vE : Value) (es : List E) (x : Int) (hE : RL w vE es) (hl : es.length ≤ 1099511627776) (hg : GN n es x) :
    Tri Try.prog 69 [.agg #[.int .i64 n, vE], .int .i64 x] w [] fun r T => T = [Tok.own r (pns n es x)] :=
  fun hn hh => (c_PartNodes w n vE es x hE hl hn hh).mono fun _ w' ⟨r, T, h1, h2, h3⟩ => ⟨r, T, h1, by
    rcases h2 with ⟨_, h⟩ | ⟨h, _⟩
    · exact h
    · exact absurd hg h, h3⟩
theorem small_at {l : LV} (h : LVok l) {k : Nat} (hk : k < 5) {j : Nat} (hj : j < (abv' l k true).length) : GN l.n (abv' l k true) ((abv' l k true).getD j (Enc.d : E)).A ∧ ((pns l.n (abv' l k true) ((abv' l k true).getD j (Enc.d : E)).A).length : Int) ≤ l.n / 2 ^ k := by
  have hm := getD_memI (d := (Enc.d : E)) hj
  exact ⟨⟨h.gvA k true, ((h.gvA k true).okE _ hm).1⟩, h.small hk hm⟩
theorem brs_at {l : LV} (h : LVok l) {k : Nat} (hk : k < 5) : brs l.n (abv' l k true) = abv' l k true := indep_brs (h.gvA k true).okE (h.indep hk)
set_option linter.unusedVariables false set_option linter.unusedSimpArgs false attribute [local irreducible] Tok.own Tok.blk RL Rd eptr WP WPL PE WPD WPO Op1 OpE Tri Again Mid Exit.then Exit.inBlock bodyPost RP Code.wp wpList isOwn OneM One
attribute [local irreducible] LVok lfOk lfL abv' GN GV pns brs
set_option maxHeartbeats 8000000

theorem l_LevelsForest (w : World) (v : Value) (bs : List UInt8) (h : RL w v bs) (hl : bs.length ≤ 9223372036854775807) :
    Tri Try.prog 19 [v] w [] fun r T => r = .bool true := by
  refine Tri.intro (hf := Try.func19) (hb := rfl) (hn := Try.ntmps19) (Nat.le_of_ble_eq_true rfl) ?_
  repeat' (first | exact absurd rfl hc | refine go ⟨?_⟩ | (refine isCond ?_; refine WP.condD rfl (fun hc => ?_) (fun hc => ?_)) | (refine isGuard ?_; refine WPL.splitD rfl rfl (fun hc => ?_) (fun hc => ?_)))
  · refine PE.ret1 (T := []) (T' := []) rfl rV ?_ sT
    rfl
  refine WPL.eff (OpE.call lO (fun w hw => g_DLevelForest _ v bs (Rd.at rD hw) hl)) rfl rfl ?_
  rintro r _ ⟨T, ⟨a, b, c, l, k, rfl, rfl, sh⟩, rfl⟩
  have sh1 := sh.1
  have sh2 := sh.2.1
  have sh3 := sh.2.2.1
  have hle := lfL_le l k
  try refine go ⟨?_⟩
  refine WPL.eff OpE.alloc rfl rfl ?_; rintro _ _ ⟨b3, rfl, rfl⟩
  try refine go ⟨?_⟩
  refine WPL.eff (OpE.call lO (fun w hw => c_LevelForest _ l a b c k (Rd.at rD hw) (Rd.at rD hw) (Rd.at rD hw) (by omega) (by omega) (by omega))) rfl rfl ?_
  rintro _ _ ⟨T, ⟨u, rfl, rfl⟩, rfl⟩
  try refine go ⟨?_⟩
  refine WPL.eff (OpE.call lO (fun w hw => s_LevelForest _ l a b c k (Rd.at rD hw) (Rd.at rD hw) (Rd.at rD hw) (by omega) (by omega) (by omega))) rfl rfl ?_
  rintro _ _ ⟨T, ⟨u2, rfl, rfl⟩, rfl⟩
  try refine go ⟨?_⟩
  by_cases hv : lfOk l k
  case neg =>
    rw [decide_eq_false hv]
    refine WPL.eff (OpE.call lO (fun w hw => y_Edges _ u u2 (lfL l k) (lfL l k) (Rd.at rD hw) (Rd.at rD hw) (by omega) (by omega))) rfl rfl ?_
    rintro _ _ ⟨T, ⟨rfl, rfl⟩, rfl⟩
    rw [deq_EL]
    try refine go ⟨?_⟩
    refine WPL.eff (OpE.call lO (fun w hw => y_Edges _ u u2 (lfL l k) (lfL l k) (Rd.at rD hw) (Rd.at rD hw) (by omega) (by omega))) rfl rfl ?_
    rintro _ _ ⟨T, ⟨rfl, rfl⟩, rfl⟩
    rw [deq_EL]
    try refine go ⟨?_⟩
    refine PE.ret1 (T := []) (T' := []) rfl rV ?_ sT
    rfl
  rw [decide_eq_true hv]
  refine WPL.eff (OpE.call lO (fun w hw => y_Edges _ u u2 (lfL l k) (lfL l k) (Rd.at rD hw) (Rd.at rD hw) (by omega) (by omega))) rfl rfl ?_
  rintro _ _ ⟨T, ⟨rfl, rfl⟩, rfl⟩
  rw [deq_EL]
  have e2 : lfL l k = abv' l k true := by unfold lfL; rw [if_pos hv]
  have hv3 : LVok l ∧ 0 ≤ k ∧ k ≤ 4 := by unfold lfOk at hv; exact hv
  obtain ⟨hvl, hk0, hk4⟩ := hv3
  obtain ⟨k, rfl⟩ := Int.eq_ofNat_of_zero_le hk0
  have hgv := hvl.gvA k true
  have hgvl := hvl.gv
  have hgl : GV l.n (abv' l k true) := hgv
  have hn1 : 1 ≤ l.n := by unfold GV at hgl; exact hgl.1
  have hn2 : l.n ≤ 16 := by unfold GV at hgl; exact hgl.2.1
  have hbrs := brs_at hvl (k := k) (by omega)
  have hsm := fun j (hj : j < (abv' l k true).length) => small_at hvl (k := k) (by omega) hj
  have hle2 : (abv' l k true).length ≤ 1000 := by rw [← e2]; omega
  rw [e2]
  clear hle e2
  try refine go ⟨?_⟩
  refine WP.loop (σ := Nat × Int) (fun q => [(3, ptrV b3), (4, .int .i64 k), (5, u), (9, .int .i64 q.2), (10, .int .i64 q.1)]) (fun _ => [Tok.own u (abv' l k true), Tok.blk b3 [.int .i64 l.n, a, b, c], Tok.own a l.es, Tok.own b l.lv, Tok.own c l.tr]) (fun q => q.1 ≤ k ∧ 0 ≤ q.2 ∧ q.2 ≤ 16 ∧ q.2 = l.n / 2 ^ q.1) (fun q => k - q.1) (0, l.n) ⟨Nat.zero_le _, by (try dsimp only); omega, hn2, by dsimp only; rw [Int.pow_zero, Int.ediv_one]⟩ sE sT ?_
  rintro ⟨i, m⟩ ⟨hi, hm0, hm1, hm⟩
  dsimp only at hi hm0 hm1 hm ⊢
  try refine go ⟨?_⟩
  refine WP.condD rfl (fun hc => ?_) (fun hc => ?_)
  · try refine go ⟨?_⟩
    refine PE.again (i + 1, m / 2) ?_ ?_ sE sT
    · refine ⟨by (try dsimp only); omega, by (try dsimp only); omega, by (try dsimp only); omega, ?_⟩
      dsimp only
      rw [hm, half_pow]
    · (try dsimp only); omega
  have hik : i = k := by omega
  subst hik
  rw [← hm] at hsm
  try refine go ⟨?_⟩
  refine WPL.eff OpE.alloc rfl rfl ?_; rintro _ _ ⟨b11, rfl, rfl⟩
  try refine go ⟨?_⟩
  refine WP.loop (σ := Nat) (fun j => [(5, u), (9, .int .i64 m), (11, ptrV b11), (12, .int .i64 j)]) (fun _ => [Tok.blk b11 [.int .i64 l.n, u], Tok.own u (abv' l i true)]) (fun j => j ≤ (abv' l i true).length) (fun j => (abv' l i true).length - j) 0 (Nat.zero_le _) sE sT ?_
  rintro j hj
  try refine go ⟨?_⟩
  refine WP.condD rfl (fun hd => ?_) (fun hd => ?_)
  · have hj' : j < (abv' l i true).length := by omega
    obtain ⟨hgn, hsz⟩ := hsm j hj'
    try refine go ⟨?_⟩
    refine WP.draw [Tok.blk b11 [.int .i64 l.n, u], Tok.own u (abv' l i true)] mixed ?_
    refine WPD.take 0 rfl (by first | exact (Op1.load rfl mM (by rfl)) | exact (Op1.loadI rfl rD lT) | exact (Op1.loadAll rfl mM (by rfl)) | exact (Op1.loadE rfl rD lT (by rfl)) | exact (Op1.loadEAgg rfl rD lT (by rfl))) rfl rfl sT kR kR kR xQP ?_
    refine WPD.take 1 rfl (Op1.move rfl) rfl rfl sT kR kR kR xQP ?_
    refine WPD.take 2 rfl (Op1.move rfl) rfl rfl sT kR kR kR xQP ?_
    refine WPD.take 8 rfl (Op1.move rfl) rfl rfl sT kR kR kR xQP ?_
    refine WPD.take 3 rfl (by first | exact (Op1.indexAddr rfl rfl rD lT) | exact (Op1.indexAddrZ rfl rfl rD lT)) rfl rfl sT kR kR kR xQP ?_
    refine WPD.take 4 rfl (by first | exact (Op1.fieldAddr rfl) | exact (Op1.fieldAddrE rfl rD lT)) rfl rfl sT kR kR kR xQP ?_
    refine WPD.take 5 rfl (by first | exact (Op1.load rfl mM (by rfl)) | exact (Op1.loadI rfl rD lT) | exact (Op1.loadAll rfl mM (by rfl)) | exact (Op1.loadE rfl rD lT (by rfl)) | exact (Op1.loadEAgg rfl rD lT (by rfl))) rfl rfl sT kR kR kR xQP ?_
    refine WPD.eff 6 kR rfl (OpE.call lO (fun w hw => c_PartGN _ l.n u (abv' l i true) ((abv' l i true).getD j (Enc.d : E)).A (Rd.at rD hw) (by omega) hgn)) rfl rfl ?_
    rintro vp _ ⟨T, rfl, rfl⟩
    refine ⟨sT, ?_⟩
    refine WPD.eff 7 kR rfl (OpE.ofPure (Op1.len rfl rD)) rfl rfl ?_
    rintro _ _ ⟨rfl, rfl⟩
    refine ⟨sT, ?_⟩
    refine WPD.take 9 rfl (Op1.gtI rfl rfl) rfl rfl sT kR kR kR xQP ?_
    rw [decide_eq_false (show ¬ ((pns l.n (abv' l i true) ((abv' l i true).getD j (Enc.d : E)).A).length : Int) > m by omega)]
    refine WPD.done kR ?_
    all_goals (
      try refine go ⟨?_⟩
      refine PE.again (j + 1) ?_ ?_ sE sT
      · (try dsimp only); omega
      · (try dsimp only); omega)
  · try refine go ⟨?_⟩
    refine WPL.eff (OpE.call lO (fun w hw => c_BridgesOf _ l.n u (abv' l i true) (Rd.at rD hw) (by omega))) rfl rfl ?_
    rintro vb _ ⟨T, hb, rfl⟩
    rcases hb with ⟨_, rfl⟩ | ⟨hno, _⟩
    case inr => exact absurd hgl hno
    rw [hbrs]
    try refine go ⟨?_⟩
    refine PE.ret1 (T := []) (T' := []) rfl rV ?_ sT
    rw [decide_eq_true rfl]
end Go.Proofs.Ytfigegmgopnfhaa
/- The given statement FnLevelsForestSaid, out of its walk (LLevelsForest). Written by fin.py. No conditions. -/
namespace Go.Proofs.Ytfigegmgopnfhaa.ZfnLevelsForest
open Go Go.ChangeShapes Go.WideShapes Go.ChangeAt Go.RowKit Go.Joins
theorem own : ownKnob Try.prog.godebug = none := by kernel_rfl
theorem laidOut : laidOutB Try.prog = true := by kernel_rfl
theorem cells5 : Try.prog.cellsOf 5 = 1 := by kernel_rfl
set_option maxRecDepth 100000 in
theorem lifted (os : Os) (started : os.Started) (H : Type) (enc : TypeId × Value → H) :
    ReturnsInHanded {} Try.checked os 19 .any (Rows.fnLevelsForestSpec.pre6 enc Try.prog Try.f19 Rows.fnLevelsForestRow.domain false) (Rows.fnLevelsForestSpec.post enc Try.prog Try.f19 false true false false) := by
  refine returnsInHanded_of_change (C := Try.checked) own started (by kernel_rfl) Try.func19
    (ChangeSpec.witness6 (enc := enc) (C := Try.checked) false ⟨#[], #[.slice none 0 0], []⟩ 8 (by kernel_rfl) (by kernel_rfl) (by kernel_rfl) (by kernel_rfl)) ?_
  intro W base args ds gs before hval0 hW hcnd _
  have hval : ∀ (j : Nat) t v, Try.f19.params[j]? = some t → args[j]? = some v → Value.okWide Try.prog W .any base t v := hval0
  have hW' := hW
  obtain ⟨p, q, hA0, hV, rfl, hfz, hnd⟩ := hW
  have hA : DataW.TrodAll enc Try.prog W 0 (fun _ => true) true Try.f19.params.toList args.toList ds p := hA0
  rw [Try.params19] at hA hval
  obtain ⟨v0, vs0, d0, ds0, p0, q0, hargs, rfl, rfl, h0, r0⟩ := trodAll_cons hA
  obtain ⟨rfl, rfl, rfl⟩ := trodAll_nil r0
  obtain rfl : args = #[v0] := by cases args; simp_all
  obtain ⟨rfl, rfl⟩ := trodVars_none hV
  have k0 := h0
  have lt0 : ∀ x ∈ p0, x.block < W.heap.size := by obtain ⟨m, hm⟩ := k0; exact DataW.trod_lt m _ _ _ hm
  obtain ⟨xs0, rl0, ll0⟩ : ∃ xs : List UInt8, RL W v0 xs ∧ xs.length ≤ 9223372036854775807 := by
    have hv := hval 0 22 v0 rfl rfl
    simp only [Value.okWide, Try.underlying22] at hv
    obtain ⟨a, l, c, rfl⟩ := okWide_slice Try.underlying22 (hval 0 22 v0 rfl rfl)
    obtain ⟨m, hm⟩ := k0
    exact rl_bytes Try.underlying22 Try.underlying5 cells5 hv (by simpa [Value.cells] using hm)
  clear hA0 hval0
  refine (Tri.holds0 (v := .bool true) (l_LevelsForest W v0 xs0 rl0 ll0) (fun _ _ h => h)).mono fun e W' ⟨he, bel⟩ => ?_
  subst he
  exact ⟨_, rfl, _, _, _, [], _, [], hW', trodAll_mk1 (shut_bool Try.underlying4 _), (trodAll_cons_mk (Below.trod laidOut (by kernel_rfl) (of_decide_eq_true (by kernel_rfl)) k0 bel lt0) trodAll_mk0), rfl, bel.frame _, fun h => by cases h⟩
theorem over : Rows.fnLevelsForestRow.holds Try.pinned (OpenSpec.ofChange Rows.fnLevelsForestSpec) :=
  OpenClaim.holds_of_wide 19 Try.f19 rfl rfl rfl rfl rfl rfl rfl ⟨rfl, rfl, rfl, rfl, rfl⟩ rfl rfl rfl rfl rfl (by kernel_rfl) Try.func19 (by unfold joinedFacts; rw [initMay, initLift, initMake]; kernel_rfl)
    (of_decide_eq_true (by kernel_rfl)) (by unfold Func.isWrapper; first | (rw [if_pos (by decide +kernel)]; kernel_rfl) | (rw [if_neg (by decide +kernel)]; exact ⟨rfl, rfl⟩))
    (fun os started H enc _ => lifted os started H enc)
/-- The statement. -/
theorem proved : Rows.FnLevelsForestSaid := over
end Go.Proofs.Ytfigegmgopnfhaa.ZfnLevelsForest
