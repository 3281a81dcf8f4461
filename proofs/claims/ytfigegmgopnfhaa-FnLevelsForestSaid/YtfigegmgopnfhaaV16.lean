/- Texts put together: SpL0, SpL1, SpL2. Conditions: those of each theorem. -/
import Derived.Test.YtfigegmgopnfhaaV2
import Derived.Test.YtfigegmgopnfhaaV15
set_option linter.unusedVariables false
set_option linter.unusedSimpArgs false
/- Graphs with levels: the walks of the second program's l7At, l6Forest, l7Ints, l7Small, l7Most. Conditions: those of each contract. -/
namespace Go.Proofs.Ytfigegmgopnfhaa
open Go
theorem half_pow (n : Int) (k : Nat) : n / 2 ^ k / 2 = n / 2 ^ (k + 1) := by
  rw [Int.pow_succ, Int.ediv_ediv_of_nonneg (Int.pow_nonneg (by decide))]
set_option linter.unusedVariables false set_option linter.unusedSimpArgs false attribute [local irreducible] Tok.own Tok.blk RL Rd eptr WP WPL PE WPD WPO Op1 OpE Tri Again Mid Exit.then Exit.inBlock bodyPost RP Code.wp wpList isOwn OneM One
attribute [local irreducible] abvL abP cntR labs forestL
set_option maxHeartbeats 16000000

theorem s_l7At (w : World) (l : LV) (vE vL vT : Value) (k : Int) (f : Bool) (hE : RL w vE l.es) (hL : RL w vL l.lv) (hT : RL w vT l.tr) (h1 : l.lv.length = l.es.length) (h2 : l.tr.length = l.es.length) (hl : l.es.length ≤ 1000) :
    Tri Try.prog 103 [.agg #[.int .i64 l.n, vE, vL, vT], .int .i64 k, .bool f] w [] fun r T => ∃ v, r = .agg #[.int .i64 l.n, v] ∧ T = [Tok.own v (abv' l k f)] := by
  have hal := abvL_len l k f
  have hS := abvL_succ l k f
  have hP := abP_iff l k f
  have h0 : abvL l k f 0 = [] := by unfold abvL; rfl
  have hend : abvL l k f l.es.length = abv' l k f := rfl
  refine Tri.intro (hf := Try.func103) (hb := rfl) (hn := Try.ntmps103) (Nat.le_of_ble_eq_true rfl) ?_
  try refine go ⟨?_⟩
  refine WPL.eff (OpE.box rfl) rfl rfl ?_; rintro _ _ ⟨b3, rfl, rfl⟩
  refine WPL.eff OpE.alloc rfl rfl ?_; rintro _ _ ⟨b6, rfl, rfl⟩
  try refine go ⟨?_⟩
  refine WPL.eff (OpE.buildSlice ([] : List E) pA rfl (by decide)) rfl rfl ?_; rintro s0 _ rfl
  try refine go ⟨?_⟩
  refine WPL.eff OpE.alloc rfl rfl ?_; rintro _ _ ⟨b7, rfl, rfl⟩
  try refine go ⟨?_⟩
  refine WP.loop (σ := Nat × Value) (fun q => [(1, .int .i64 k), (2, .bool f), (3, ptrV b3), (6, ptrV b6), (7, ptrV b7), (8, .int .i64 q.1)])
    (fun q => [Tok.blk b7 [.int .i64 l.n, q.2], Tok.own q.2 (abvL l k f q.1), Tok.blk b6 [.int .i64 0, .slice none 0 0], Tok.blk b3 [.int .i64 l.n, vE, vL, vT]]) (fun q => q.1 ≤ l.es.length) (fun q => l.es.length - q.1) (0, s0) (Nat.zero_le _) sE (by rw [h0]; exact sT2) ?_
  rintro ⟨i, v⟩ hi
  dsimp only at hi ⊢
  have hai := hal i
  have hSi := hS i
  have hPi := hP i
  try refine go ⟨?_⟩
  refine WP.condD rfl (fun hc => ?_) (fun hc => ?_)
  · have hi' : i < l.es.length := by omega
    have hput : (abP l k f i) → abvL l k f (i + 1) = abvL l k f i ++ [l.es.getD i (Enc.d : E)] := fun q => by rw [hSi, if_pos q]
    have hskip : ¬ (abP l k f i) → abvL l k f (i + 1) = abvL l k f i := fun q => by rw [hSi, if_neg q]
    try refine go ⟨?_⟩
    refine WPL.splitD rfl rfl (fun c1 => ?_) (fun c1 => ?_)
    · have c1 : l.lv.getD i 0 ≥ k := c1
      try refine go ⟨?_⟩
      refine WPL.split rfl rfl (fun c2 => ?_) (fun c2 => ?_)
      · have c2 : l.tr.getD i false = true := c2
        have hput := hput (hPi.2 ⟨c1, fun _ => c2⟩)
        try refine go ⟨?_⟩
        refine WP.draw [Tok.blk b6 [.int .i64 0, .slice none 0 0], Tok.blk b3 [.int .i64 l.n, vE, vL, vT]] mixed ?_
        refine WPD.take 2 rfl (by first | exact (Op1.fieldAddr rfl) | exact (Op1.fieldAddrE rfl rD lT)) rfl rfl sT kR kR kR xQP ?_
        refine WPD.take 5 rfl (Op1.move rfl) rfl rfl sT kR kR kR xQP ?_
        refine WPD.take 3 rfl (by first | exact (Op1.fieldAddr rfl) | exact (Op1.fieldAddrE rfl rD lT)) rfl rfl sT kR kR kR xQP ?_
        refine WPD.take 4 rfl (by first | exact (Op1.load rfl mM (by rfl)) | exact (Op1.loadI rfl rD lT) | exact (Op1.loadAll rfl mM (by rfl)) | exact (Op1.loadE rfl rD lT (by rfl)) | exact (Op1.loadEAgg rfl rD lT (by rfl))) rfl rfl sT kR kR kR xQP ?_
        refine WPD.take 6 rfl (by first | exact (Op1.indexAddr rfl rfl rD lT) | exact (Op1.indexAddrZ rfl rfl rD lT)) rfl rfl sT kR kR kR xQP ?_
        refine WPD.take 7 rfl (by first | exact (Op1.load rfl mM (by rfl)) | exact (Op1.loadI rfl rD lT) | exact (Op1.loadAll rfl mM (by rfl)) | exact (Op1.loadE rfl rD lT (by rfl)) | exact (Op1.loadEAgg rfl rD lT (by rfl))) rfl rfl sT kR kR kR xQP ?_
        refine WPD.two 0 8 kR ?e1_0 ?e1_8
        case' e1_0 =>
          refine WPO.eff rfl (OpE.ofPure (by first | exact (Op1.fieldAddr rfl) | exact (Op1.fieldAddrE rfl rD lT))) rfl rfl ?_
          rintro _ _ ⟨rfl, rfl⟩
          refine ⟨sT, ?_⟩
          refine WPD.two 1 8 kR ?e2_1 ?e2_8
          case' e2_1 =>
            refine WPO.eff rfl (OpE.ofPure (by first | exact (Op1.load rfl mM (by rfl)) | exact (Op1.loadI rfl rD lT) | exact (Op1.loadAll rfl mM (by rfl)) | exact (Op1.loadE rfl rD lT (by rfl)) | exact (Op1.loadEAgg rfl rD lT (by rfl)))) rfl rfl ?_
            rintro _ _ ⟨rfl, rfl⟩
            refine ⟨sT, ?_⟩
            refine WPD.eff 8 kR rfl (OpE.buildSlice ([l.es.getD i (Enc.d : E)]) pA rfl (by decide)) rfl rfl ?_
            rintro s1 _ rfl
            refine ⟨sT, ?_⟩
            refine WPD.eff 9 kR rfl (OpE.append rfl rfl pM rD lN) rfl rfl ?_
            rintro v1 _ rfl
            refine ⟨sT, ?_⟩
            rw [← hput]
            refine WPD.eff 10 kR rfl (OpE.ofPure (by first | exact (Op1.fieldAddr rfl) | exact (Op1.fieldAddrE rfl rD lT))) rfl rfl ?_
            rintro _ _ ⟨rfl, rfl⟩
            refine ⟨sT, ?_⟩
            refine WPD.eff0 11 kR rfl (OpE.store rfl rfl pM (by rfl) oN) rfl ?_
            rintro _ _ rfl
            refine ⟨sT, ?_⟩
            refine WPD.done kR ?_
          case' e2_8 =>
            refine WPO.eff rfl (OpE.buildSlice ([l.es.getD i (Enc.d : E)]) pA rfl (by decide)) rfl rfl ?_
            rintro s1 _ rfl
            refine ⟨sT, ?_⟩
            refine WPD.eff 1 kR rfl (OpE.ofPure (by first | exact (Op1.load rfl mM (by rfl)) | exact (Op1.loadI rfl rD lT) | exact (Op1.loadAll rfl mM (by rfl)) | exact (Op1.loadE rfl rD lT (by rfl)) | exact (Op1.loadEAgg rfl rD lT (by rfl)))) rfl rfl ?_
            rintro _ _ ⟨rfl, rfl⟩
            refine ⟨sT, ?_⟩
            refine WPD.eff 9 kR rfl (OpE.append rfl rfl pM rD lN) rfl rfl ?_
            rintro v1 _ rfl
            refine ⟨sT, ?_⟩
            rw [← hput]
            refine WPD.eff 10 kR rfl (OpE.ofPure (by first | exact (Op1.fieldAddr rfl) | exact (Op1.fieldAddrE rfl rD lT))) rfl rfl ?_
            rintro _ _ ⟨rfl, rfl⟩
            refine ⟨sT, ?_⟩
            refine WPD.eff0 11 kR rfl (OpE.store rfl rfl pM (by rfl) oN) rfl ?_
            rintro _ _ rfl
            refine ⟨sT, ?_⟩
            refine WPD.done kR ?_
        case' e1_8 =>
          refine WPO.eff rfl (OpE.buildSlice ([l.es.getD i (Enc.d : E)]) pA rfl (by decide)) rfl rfl ?_
          rintro s1 _ rfl
          refine ⟨sT, ?_⟩
          refine WPD.eff 0 kR rfl (OpE.ofPure (by first | exact (Op1.fieldAddr rfl) | exact (Op1.fieldAddrE rfl rD lT))) rfl rfl ?_
          rintro _ _ ⟨rfl, rfl⟩
          refine ⟨sT, ?_⟩
          refine WPD.eff 1 kR rfl (OpE.ofPure (by first | exact (Op1.load rfl mM (by rfl)) | exact (Op1.loadI rfl rD lT) | exact (Op1.loadAll rfl mM (by rfl)) | exact (Op1.loadE rfl rD lT (by rfl)) | exact (Op1.loadEAgg rfl rD lT (by rfl)))) rfl rfl ?_
          rintro _ _ ⟨rfl, rfl⟩
          refine ⟨sT, ?_⟩
          refine WPD.eff 9 kR rfl (OpE.append rfl rfl pM rD lN) rfl rfl ?_
          rintro v1 _ rfl
          refine ⟨sT, ?_⟩
          rw [← hput]
          refine WPD.eff 10 kR rfl (OpE.ofPure (by first | exact (Op1.fieldAddr rfl) | exact (Op1.fieldAddrE rfl rD lT))) rfl rfl ?_
          rintro _ _ ⟨rfl, rfl⟩
          refine ⟨sT, ?_⟩
          refine WPD.eff0 11 kR rfl (OpE.store rfl rfl pM (by rfl) oN) rfl ?_
          rintro _ _ rfl
          refine ⟨sT, ?_⟩
          refine WPD.done kR ?_
        all_goals (
          try refine go ⟨?_⟩
          refine PE.again (i + 1, v1) ?_ ?_ sE sT2
          · (try dsimp only); omega
          · (try dsimp only); omega)
      · have c2 : l.tr.getD i false = false := c2
        cases f
        · have hput := hput (hPi.2 ⟨c1, fun q => by cases q⟩)
          try refine go ⟨?_⟩
          refine WP.draw [Tok.blk b6 [.int .i64 0, .slice none 0 0], Tok.blk b3 [.int .i64 l.n, vE, vL, vT]] mixed ?_
          refine WPD.take 2 rfl (by first | exact (Op1.fieldAddr rfl) | exact (Op1.fieldAddrE rfl rD lT)) rfl rfl sT kR kR kR xQP ?_
          refine WPD.take 5 rfl (Op1.move rfl) rfl rfl sT kR kR kR xQP ?_
          refine WPD.take 3 rfl (by first | exact (Op1.fieldAddr rfl) | exact (Op1.fieldAddrE rfl rD lT)) rfl rfl sT kR kR kR xQP ?_
          refine WPD.take 4 rfl (by first | exact (Op1.load rfl mM (by rfl)) | exact (Op1.loadI rfl rD lT) | exact (Op1.loadAll rfl mM (by rfl)) | exact (Op1.loadE rfl rD lT (by rfl)) | exact (Op1.loadEAgg rfl rD lT (by rfl))) rfl rfl sT kR kR kR xQP ?_
          refine WPD.take 6 rfl (by first | exact (Op1.indexAddr rfl rfl rD lT) | exact (Op1.indexAddrZ rfl rfl rD lT)) rfl rfl sT kR kR kR xQP ?_
          refine WPD.take 7 rfl (by first | exact (Op1.load rfl mM (by rfl)) | exact (Op1.loadI rfl rD lT) | exact (Op1.loadAll rfl mM (by rfl)) | exact (Op1.loadE rfl rD lT (by rfl)) | exact (Op1.loadEAgg rfl rD lT (by rfl))) rfl rfl sT kR kR kR xQP ?_
          refine WPD.two 0 8 kR ?e3_0 ?e3_8
          case' e3_0 =>
            refine WPO.eff rfl (OpE.ofPure (by first | exact (Op1.fieldAddr rfl) | exact (Op1.fieldAddrE rfl rD lT))) rfl rfl ?_
            rintro _ _ ⟨rfl, rfl⟩
            refine ⟨sT, ?_⟩
            refine WPD.two 1 8 kR ?e4_1 ?e4_8
            case' e4_1 =>
              refine WPO.eff rfl (OpE.ofPure (by first | exact (Op1.load rfl mM (by rfl)) | exact (Op1.loadI rfl rD lT) | exact (Op1.loadAll rfl mM (by rfl)) | exact (Op1.loadE rfl rD lT (by rfl)) | exact (Op1.loadEAgg rfl rD lT (by rfl)))) rfl rfl ?_
              rintro _ _ ⟨rfl, rfl⟩
              refine ⟨sT, ?_⟩
              refine WPD.eff 8 kR rfl (OpE.buildSlice ([l.es.getD i (Enc.d : E)]) pA rfl (by decide)) rfl rfl ?_
              rintro s1 _ rfl
              refine ⟨sT, ?_⟩
              refine WPD.eff 9 kR rfl (OpE.append rfl rfl pM rD lN) rfl rfl ?_
              rintro v1 _ rfl
              refine ⟨sT, ?_⟩
              rw [← hput]
              refine WPD.eff 10 kR rfl (OpE.ofPure (by first | exact (Op1.fieldAddr rfl) | exact (Op1.fieldAddrE rfl rD lT))) rfl rfl ?_
              rintro _ _ ⟨rfl, rfl⟩
              refine ⟨sT, ?_⟩
              refine WPD.eff0 11 kR rfl (OpE.store rfl rfl pM (by rfl) oN) rfl ?_
              rintro _ _ rfl
              refine ⟨sT, ?_⟩
              refine WPD.done kR ?_
            case' e4_8 =>
              refine WPO.eff rfl (OpE.buildSlice ([l.es.getD i (Enc.d : E)]) pA rfl (by decide)) rfl rfl ?_
              rintro s1 _ rfl
              refine ⟨sT, ?_⟩
              refine WPD.eff 1 kR rfl (OpE.ofPure (by first | exact (Op1.load rfl mM (by rfl)) | exact (Op1.loadI rfl rD lT) | exact (Op1.loadAll rfl mM (by rfl)) | exact (Op1.loadE rfl rD lT (by rfl)) | exact (Op1.loadEAgg rfl rD lT (by rfl)))) rfl rfl ?_
              rintro _ _ ⟨rfl, rfl⟩
              refine ⟨sT, ?_⟩
              refine WPD.eff 9 kR rfl (OpE.append rfl rfl pM rD lN) rfl rfl ?_
              rintro v1 _ rfl
              refine ⟨sT, ?_⟩
              rw [← hput]
              refine WPD.eff 10 kR rfl (OpE.ofPure (by first | exact (Op1.fieldAddr rfl) | exact (Op1.fieldAddrE rfl rD lT))) rfl rfl ?_
              rintro _ _ ⟨rfl, rfl⟩
              refine ⟨sT, ?_⟩
              refine WPD.eff0 11 kR rfl (OpE.store rfl rfl pM (by rfl) oN) rfl ?_
              rintro _ _ rfl
              refine ⟨sT, ?_⟩
              refine WPD.done kR ?_
          case' e3_8 =>
            refine WPO.eff rfl (OpE.buildSlice ([l.es.getD i (Enc.d : E)]) pA rfl (by decide)) rfl rfl ?_
            rintro s1 _ rfl
            refine ⟨sT, ?_⟩
            refine WPD.eff 0 kR rfl (OpE.ofPure (by first | exact (Op1.fieldAddr rfl) | exact (Op1.fieldAddrE rfl rD lT))) rfl rfl ?_
            rintro _ _ ⟨rfl, rfl⟩
            refine ⟨sT, ?_⟩
            refine WPD.eff 1 kR rfl (OpE.ofPure (by first | exact (Op1.load rfl mM (by rfl)) | exact (Op1.loadI rfl rD lT) | exact (Op1.loadAll rfl mM (by rfl)) | exact (Op1.loadE rfl rD lT (by rfl)) | exact (Op1.loadEAgg rfl rD lT (by rfl)))) rfl rfl ?_
            rintro _ _ ⟨rfl, rfl⟩
            refine ⟨sT, ?_⟩
            refine WPD.eff 9 kR rfl (OpE.append rfl rfl pM rD lN) rfl rfl ?_
            rintro v1 _ rfl
            refine ⟨sT, ?_⟩
            rw [← hput]
            refine WPD.eff 10 kR rfl (OpE.ofPure (by first | exact (Op1.fieldAddr rfl) | exact (Op1.fieldAddrE rfl rD lT))) rfl rfl ?_
            rintro _ _ ⟨rfl, rfl⟩
            refine ⟨sT, ?_⟩
            refine WPD.eff0 11 kR rfl (OpE.store rfl rfl pM (by rfl) oN) rfl ?_
            rintro _ _ rfl
            refine ⟨sT, ?_⟩
            refine WPD.done kR ?_
          all_goals (
            try refine go ⟨?_⟩
            refine PE.again (i + 1, v1) ?_ ?_ sE sT2
            · (try dsimp only); omega
            · (try dsimp only); omega)
        · have hskip := hskip (fun q => by have := (hPi.1 q).2 rfl; rw [c2] at this; cases this)
          rw [← hskip]
          try refine go ⟨?_⟩
          refine PE.again (i + 1, v) ?_ ?_ sE sT2
          · (try dsimp only); omega
          · (try dsimp only); omega
    · have c1 : ¬ l.lv.getD i 0 ≥ k := c1
      rw [← hskip (fun q => c1 (hPi.1 q).1)]
      try refine go ⟨?_⟩
      refine PE.again (i + 1, v) ?_ ?_ sE sT2
      · (try dsimp only); omega
      · (try dsimp only); omega
  · have hin : i = l.es.length := by omega
    subst hin
    rw [hend]
    try refine go ⟨?_⟩
    refine PE.ret1 (T := []) (T' := [Tok.own v (abv' l k f)]) rfl rV ?_ sT2
    exact ⟨v, rfl, rfl⟩

theorem s_l6Forest (w : World) (n : Int) (vE : Value) (es : List E) (hE : RL w vE es) (hg : NE n es) :
    Tri Try.prog 117 [.agg #[.int .i64 n, vE]] w [] fun r T => r = .bool (decide ((forestL n es).length = es.length)) ∧ T = [] := by
  refine Tri.intro (hf := Try.func117) (hb := rfl) (hn := Try.ntmps117) (Nat.le_of_ble_eq_true rfl) ?_
  try refine go ⟨?_⟩
  refine WPL.eff (OpE.box rfl) rfl rfl ?_; rintro _ _ ⟨b1, rfl, rfl⟩
  try refine go ⟨?_⟩
  refine WP.draw [Tok.blk b1 [.int .i64 n, vE]] mixed ?_
  refine WPD.take 0 rfl (by first | exact (Op1.fieldAddr rfl) | exact (Op1.fieldAddrE rfl rD lT)) rfl rfl sT kR kR kR xQP ?_
  refine WPD.take 2 rfl (by first | exact (Op1.fieldAddr rfl) | exact (Op1.fieldAddrE rfl rD lT)) rfl rfl sT kR kR kR xQP ?_
  refine WPD.take 6 rfl (by first | exact (Op1.fieldAddr rfl) | exact (Op1.fieldAddrE rfl rD lT)) rfl rfl sT kR kR kR xQP ?_
  refine WPD.take 1 rfl (by first | exact (Op1.load rfl mM (by rfl)) | exact (Op1.loadI rfl rD lT) | exact (Op1.loadAll rfl mM (by rfl)) | exact (Op1.loadE rfl rD lT (by rfl)) | exact (Op1.loadEAgg rfl rD lT (by rfl))) rfl rfl sT kR kR kR xQP ?_
  refine WPD.take 3 rfl (by first | exact (Op1.load rfl mM (by rfl)) | exact (Op1.loadI rfl rD lT) | exact (Op1.loadAll rfl mM (by rfl)) | exact (Op1.loadE rfl rD lT (by rfl)) | exact (Op1.loadEAgg rfl rD lT (by rfl))) rfl rfl sT kR kR kR xQP ?_
  refine WPD.take 7 rfl (by first | exact (Op1.load rfl mM (by rfl)) | exact (Op1.loadI rfl rD lT) | exact (Op1.loadAll rfl mM (by rfl)) | exact (Op1.loadE rfl rD lT (by rfl)) | exact (Op1.loadEAgg rfl rD lT (by rfl))) rfl rfl sT kR kR kR xQP ?_
  refine WPD.take 8 rfl (Op1.len rfl rD) rfl rfl sT kR kR kR xQP ?_
  refine WPD.eff 4 kR rfl (OpE.call lO (fun w hw => s_Forest _ n vE es (Rd.at rD hw) hg)) rfl rfl ?_
  rintro v1 _ ⟨T, rfl, rfl⟩
  refine ⟨sT, ?_⟩
  refine WPD.eff 5 kR rfl (OpE.ofPure (Op1.len rfl rD)) rfl rfl ?_
  rintro _ _ ⟨rfl, rfl⟩
  refine ⟨sT, ?_⟩
  refine WPD.take 9 rfl (by first | exact (Op1.eqI rfl rfl) | exact (Op1.eqB rfl rfl) | exact (Op1.eqE rfl rfl) | exact (Op1.eqNil rfl rD)) rfl rfl sT kR kR kR xQP ?_
  refine WPD.take 10 rfl (Op1.assign rfl) rfl rfl sT kR kR kR xQP ?_
  refine WPD.done kR ?_
  all_goals (
    try refine go ⟨?_⟩
    refine PE.ret1 (T := []) (T' := []) rfl rV ?_ sT
    refine ⟨?_, rfl⟩
    congr 1; rw [decide_eq_decide]; omega)

theorem s_l7Ints (w : World) (v u : Value) (xs ys : List Int) (h : RL w v xs) (h' : RL w u ys) (hl : xs.length ≤ 1099511627776) (hl' : ys.length ≤ 1099511627776) :
    Tri Try.prog 118 [v, u] w [] fun r T => T = [] ∧ r = .bool (decide (xs = ys)) := by
  refine Tri.intro (hf := Try.func118) (hb := rfl) (hn := Try.ntmps118) (Nat.le_of_ble_eq_true rfl) ?_
  repeat' (first | refine go ⟨?_⟩ | (refine isCond ?_; refine WP.condD rfl (fun hc => ?_) (fun hc => ?_)) | (refine isGuard ?_; refine WPL.splitD rfl rfl (fun hc => ?_) (fun hc => ?_)))
  · refine PE.ret1 (T := []) (T' := []) rfl rV ?_ sT
    refine ⟨rfl, ?_⟩
    rw [decide_eq_false]
    rintro rfl
    exact absurd rfl ‹_›
  have hll : xs.length = ys.length := by omega
  refine WP.loop (σ := Nat) (fun k => [(0, v), (1, u), (5, .int .i64 k)]) (fun _ => []) (fun k => k ≤ xs.length ∧ ∀ m, m < k → xs.getD m 0 = ys.getD m 0) (fun k => xs.length - k) 0 ⟨Nat.zero_le _, by omega⟩ sE sT ?_
  rintro k ⟨hk, hm⟩
  try refine go ⟨?_⟩
  refine WP.condD rfl (fun hc => ?_) (fun hc => ?_)
  · have hk' : k < xs.length := by omega
    try refine go ⟨?_⟩
    refine WP.draw [] mixed ?_
    refine WPD.take 0 rfl (Op1.move rfl) rfl rfl sT kR kR kR xQP ?_
    refine WPD.take 1 rfl (Op1.move rfl) rfl rfl sT kR kR kR xQP ?_
    refine WPD.take 4 rfl (Op1.move rfl) rfl rfl sT kR kR kR xQP ?_
    refine WPD.take 5 rfl (Op1.move rfl) rfl rfl sT kR kR kR xQP ?_
    refine WPD.take 2 rfl (by first | exact (Op1.indexAddr rfl rfl rD lT) | exact (Op1.indexAddrZ rfl rfl rD lT)) rfl rfl sT kR kR kR xQP ?_
    refine WPD.take 6 rfl (by first | exact (Op1.indexAddr rfl rfl rD lT) | exact (Op1.indexAddrZ rfl rfl rD lT)) rfl rfl sT kR kR kR xQP ?_
    refine WPD.take 3 rfl (by first | exact (Op1.load rfl mM (by rfl)) | exact (Op1.loadI rfl rD lT) | exact (Op1.loadAll rfl mM (by rfl)) | exact (Op1.loadE rfl rD lT (by rfl)) | exact (Op1.loadEAgg rfl rD lT (by rfl))) rfl rfl sT kR kR kR xQP ?_
    refine WPD.take 7 rfl (by first | exact (Op1.load rfl mM (by rfl)) | exact (Op1.loadI rfl rD lT) | exact (Op1.loadAll rfl mM (by rfl)) | exact (Op1.loadE rfl rD lT (by rfl)) | exact (Op1.loadEAgg rfl rD lT (by rfl))) rfl rfl sT kR kR kR xQP ?_
    refine WPD.take 8 rfl (by first | exact (Op1.neI rfl rfl) | exact (Op1.neB rfl rfl) | exact (Op1.neE rfl rfl)) rfl rfl sT kR kR kR xQP ?_
    refine WPD.done kR ?_
    try refine go ⟨?_⟩
    refine WP.condD rfl (fun he => ?_) (fun he => ?_)
    · try refine go ⟨?_⟩
      refine PE.ret1 (T := []) (T' := []) rfl rV ?_ sT
      refine ⟨rfl, ?_⟩
      rw [decide_eq_false]
      rintro rfl
      exact absurd rfl he
    · try refine go ⟨?_⟩
      refine PE.again (k + 1) ?_ ?_ sE sT
      · exact ⟨by omega, fun m hm' => by
          rcases Nat.lt_succ_iff_lt_or_eq.1 hm' with h' | rfl
          · exact hm m h'
          · exact Decidable.not_not.1 he⟩
      · omega
  · try refine go ⟨?_⟩
    refine PE.ret1 (T := []) (T' := []) rfl rV ?_ sT
    refine ⟨rfl, ?_⟩
    rw [decide_eq_true (list_extD hll fun i hi => hm i (by omega))]

theorem s_l7Most (w : World) (n : Int) (k : Nat) (hn : 0 ≤ n ∧ n ≤ 1000) (hk : k ≤ 100) : Tri Try.prog 121 [.int .i64 n, .int .i64 k] w [] fun r T => r = .int .i64 (n / 2 ^ k) ∧ T = [] := by
  refine Tri.intro (hf := Try.func121) (hb := rfl) (hn := Try.ntmps121) (Nat.le_of_ble_eq_true rfl) ?_
  try refine go ⟨?_⟩
  refine WP.loop (σ := Nat × Int) (fun q => [(0, .int .i64 q.2), (1, .int .i64 k), (5, .int .i64 q.1)]) (fun _ => []) (fun q => q.1 ≤ k ∧ 0 ≤ q.2 ∧ q.2 ≤ 1000 ∧ q.2 = n / 2 ^ q.1) (fun q => k - q.1) (0, n) ⟨Nat.zero_le _, hn.1, hn.2, by dsimp only; rw [Int.pow_zero, Int.ediv_one]⟩ sE sT ?_
  rintro ⟨j, m⟩ ⟨hj, hm0, hm1, hm⟩
  dsimp only at hj hm0 hm1 hm ⊢
  try refine go ⟨?_⟩
  refine WP.condD rfl (fun hc => ?_) (fun hc => ?_)
  · try refine go ⟨?_⟩
    refine PE.again (j + 1, m / 2) ?_ ?_ sE sT2
    · refine ⟨by (try dsimp only); omega, by (try dsimp only); omega, by (try dsimp only); omega, ?_⟩
      dsimp only
      rw [hm, half_pow]
    · (try dsimp only); omega
  · have hjk : j = k := by omega
    subst hjk
    try refine go ⟨?_⟩
    refine PE.ret1 (T := []) (T' := []) rfl rV ?_ sT
    exact ⟨by rw [hm], rfl⟩
end Go.Proofs.Ytfigegmgopnfhaa
/- Graphs with levels: the walks of the second program's l7Small, LevelsValid, LevelForest, LeveledConnected. Conditions: those of each contract. -/
namespace Go.Proofs.Ytfigegmgopnfhaa
open Go
def smallP (n : Int) (es : List E) (M : Int) : Prop := ∀ r : Nat, r < n.toNat → (szOf n es r : Int) ≤ 1 ∨ (szOf n es r : Int) ≤ M
instance (n : Int) (es : List E) (M : Int) : Decidable (smallP n es M) := by unfold smallP; infer_instance
theorem smallP_iff {n : Int} {es : List E} {M : Int} : smallP n es M ↔ ∀ x ∈ iota n.toNat, (szOf n es x : Int) ≤ 1 ∨ (szOf n es x : Int) ≤ M := by
  unfold smallP
  constructor
  · intro h x hx
    obtain ⟨h1, h2⟩ := mem_iota.1 hx
    have := h x.toNat (by omega)
    rwa [Int.toNat_of_nonneg h1] at this
  · intro h r hr
    exact h r (mem_iota.2 ⟨by omega, by omega⟩)
theorem szOf_lab {n : Int} {es : List E} (r : Nat) : szOf n es r = cntR (labs n es) (labs n es).length ((labs n es).getD r 0) := by
  rw [szOf_cnt]; rfl
set_option linter.unusedVariables false set_option linter.unusedSimpArgs false attribute [local irreducible] Tok.own Tok.blk RL Rd eptr WP WPL PE WPD WPO Op1 OpE Tri Again Mid Exit.then Exit.inBlock bodyPost RP Code.wp wpList isOwn OneM One
attribute [local irreducible] abv' LVok lvOk GV GN cntR labs forestL szOf smallP
set_option maxHeartbeats 16000000

theorem s_l7Small (w : World) (n : Int) (vE : Value) (es : List E) (M : Int) (hE : RL w vE es) (hg : NE n es) :
    Tri Try.prog 120 [.agg #[.int .i64 n, vE], .int .i64 M] w [] fun r T => r = .bool (decide (smallP n es M)) ∧ T = [] := by
  have hn1 := hg.n1
  have hn2 := hg.n2
  have hsm : smallP n es M ↔ ∀ r : Nat, r < n.toNat → (szOf n es r : Int) ≤ 1 ∨ (szOf n es r : Int) ≤ M := by unfold smallP; exact Iff.rfl
  have hsz := szOf_lab (n := n) (es := es)
  have hcz := cntR_zero (labs n es)
  have hcs : ∀ (j : Nat) (r : Int), j < (labs n es).length → cntR (labs n es) (j + 1) r = if (labs n es).getD j 0 = r then cntR (labs n es) j r + 1 else cntR (labs n es) j r := fun j r hj => cntR_succ hj r
  have hcl := cntR_le (labs n es)
  have hll := labs_length n es
  refine Tri.intro (hf := Try.func120) (hb := rfl) (hn := Try.ntmps120) (Nat.le_of_ble_eq_true rfl) ?_
  try refine go ⟨?_⟩
  refine WPL.eff (OpE.box rfl) rfl rfl ?_; rintro _ _ ⟨b2, rfl, rfl⟩
  try refine go ⟨?_⟩
  refine WPL.eff (OpE.call lO (fun w hw => s_Labels _ n vE es (Rd.at rD hw) hg)) rfl rfl ?_
  rintro vl _ ⟨T, rfl, rfl⟩
  try refine go ⟨?_⟩
  refine WP.loop (σ := Nat) (fun i => [(1, .int .i64 M), (2, ptrV b2), (5, vl), (6, .int .i64 i)]) (fun _ => [Tok.own vl (labs n es), Tok.blk b2 [.int .i64 n, vE]]) (fun i => i ≤ n.toNat ∧ ∀ r : Nat, r < i → (szOf n es r : Int) ≤ 1 ∨ (szOf n es r : Int) ≤ M) (fun i => n.toNat - i) 0 ⟨Nat.zero_le _, fun r hr => absurd hr (Nat.not_lt_zero _)⟩ sE sT2 ?_
  rintro i ⟨hi, hm⟩
  try refine go ⟨?_⟩
  refine WP.condD rfl (fun hc => ?_) (fun hc => ?_)
  · have hi' : i < n.toNat := by omega
    try refine go ⟨?_⟩
    refine WP.loop (σ := Nat) (fun j => [(1, .int .i64 M), (2, ptrV b2), (5, vl), (6, .int .i64 i), (7, .int .i64 (cntR (labs n es) j ((labs n es).getD i 0))), (8, .int .i64 j)]) (fun _ => [Tok.own vl (labs n es), Tok.blk b2 [.int .i64 n, vE]]) (fun j => j ≤ n.toNat) (fun j => n.toNat - j) 0 (Nat.zero_le _) ?_ sT2 ?_
    · rw [hcz]; exact sE
    rintro j hj
    have hcj := hcl j ((labs n es).getD i 0)
    try refine go ⟨?_⟩
    refine WP.condD rfl (fun hd => ?_) (fun hd => ?_)
    · have hj' : j < n.toNat := by omega
      have hsj := hcs j ((labs n es).getD i 0) (by omega)
      try refine go ⟨?_⟩
      refine WP.draw [Tok.own vl (labs n es), Tok.blk b2 [.int .i64 n, vE]] mixed ?_
      refine WPD.take 0 rfl (Op1.move rfl) rfl rfl sT kR kR kR xQP ?_
      refine WPD.take 1 rfl (Op1.move rfl) rfl rfl sT kR kR kR xQP ?_
      refine WPD.take 4 rfl (Op1.move rfl) rfl rfl sT kR kR kR xQP ?_
      refine WPD.take 5 rfl (Op1.move rfl) rfl rfl sT kR kR kR xQP ?_
      refine WPD.take 2 rfl (by first | exact (Op1.indexAddr rfl rfl rD lT) | exact (Op1.indexAddrZ rfl rfl rD lT)) rfl rfl sT kR kR kR xQP ?_
      refine WPD.take 6 rfl (by first | exact (Op1.indexAddr rfl rfl rD lT) | exact (Op1.indexAddrZ rfl rfl rD lT)) rfl rfl sT kR kR kR xQP ?_
      refine WPD.take 3 rfl (by first | exact (Op1.load rfl mM (by rfl)) | exact (Op1.loadI rfl rD lT) | exact (Op1.loadAll rfl mM (by rfl)) | exact (Op1.loadE rfl rD lT (by rfl)) | exact (Op1.loadEAgg rfl rD lT (by rfl))) rfl rfl sT kR kR kR xQP ?_
      refine WPD.take 7 rfl (by first | exact (Op1.load rfl mM (by rfl)) | exact (Op1.loadI rfl rD lT) | exact (Op1.loadAll rfl mM (by rfl)) | exact (Op1.loadE rfl rD lT (by rfl)) | exact (Op1.loadEAgg rfl rD lT (by rfl))) rfl rfl sT kR kR kR xQP ?_
      refine WPD.take 8 rfl (by first | exact (Op1.eqI rfl rfl) | exact (Op1.eqB rfl rfl) | exact (Op1.eqE rfl rfl) | exact (Op1.eqNil rfl rD)) rfl rfl sT kR kR kR xQP ?_
      refine WPD.done kR ?_
      try refine go ⟨?_⟩
      refine WP.condD rfl (fun he => ?_) (fun he => ?_)
      · have he : (labs n es).getD j 0 = (labs n es).getD i 0 := he
        rw [if_pos he] at hsj
        have hsj : ((cntR (labs n es) j ((labs n es).getD i 0) : Nat) : Int) + 1 = ((cntR (labs n es) (j + 1) ((labs n es).getD i 0) : Nat) : Int) := by omega
        try refine go ⟨?_⟩
        rw [hsj]
        refine PE.again (j + 1) ?_ ?_ sE sT2
        · (try dsimp only); omega
        · (try dsimp only); omega
      · have he : ¬ (labs n es).getD j 0 = (labs n es).getD i 0 := he
        rw [if_neg he] at hsj
        rw [← hsj]
        try refine go ⟨?_⟩
        refine PE.again (j + 1) ?_ ?_ sE sT2
        · (try dsimp only); omega
        · (try dsimp only); omega
    · have hjn : j = (labs n es).length := by omega
      subst hjn
      have hszi := hsz i
      rw [← hszi]
      try refine go ⟨?_⟩
      refine WPL.splitD rfl rfl (fun c1 => ?_) (fun c1 => ?_)
      · have c1 : ((szOf n es i : Nat) : Int) > 1 := c1
        try refine go ⟨?_⟩
        refine WP.condD rfl (fun c2 => ?_) (fun c2 => ?_)
        · have c2 : ((szOf n es i : Nat) : Int) > M := c2
          try refine go ⟨?_⟩
          refine PE.ret1 (T := []) (T' := []) rfl rV ?_ sT
          refine ⟨?_, rfl⟩
          rw [decide_eq_false fun q => by have := (hsm.1 q) i hi'; omega]
        · have c2 : ¬ ((szOf n es i : Nat) : Int) > M := c2
          try refine go ⟨?_⟩
          refine PE.again (i + 1) ?_ ?_ sE sT2
          · refine ⟨by (try dsimp only); omega, fun r hr => ?_⟩
            rcases Nat.lt_succ_iff_lt_or_eq.1 hr with h | rfl
            · exact hm r h
            · exact .inr (by omega)
          · (try dsimp only); omega
      · have c1 : ¬ ((szOf n es i : Nat) : Int) > 1 := c1
        try refine go ⟨?_⟩
        refine PE.again (i + 1) ?_ ?_ sE sT2
        · refine ⟨by (try dsimp only); omega, fun r hr => ?_⟩
          rcases Nat.lt_succ_iff_lt_or_eq.1 hr with h | rfl
          · exact hm r h
          · exact .inl (by omega)
        · (try dsimp only); omega
  · try refine go ⟨?_⟩
    refine PE.ret1 (T := []) (T' := []) rfl rV ?_ sT
    refine ⟨?_, rfl⟩
    rw [decide_eq_true (hsm.2 fun r hr => hm r (by omega))]

theorem s_LevelsValid (w : World) (l : LV) (vE vL vT : Value) (hE : RL w vE l.es) (hL : RL w vL l.lv) (hT : RL w vT l.tr) (hl1 : l.es.length ≤ 1099511627776) (hl2 : l.lv.length ≤ 1099511627776) (hl3 : l.tr.length ≤ 1099511627776) :
    Tri Try.prog 62 [.agg #[.int .i64 l.n, vE, vL, vT]] w [] fun r T => r = .bool (decide (LVok l)) ∧ T = [] := by
  have hLV := LVok_iff l
  have hOK := lvOk_iff l
  have bad : ¬ LVok l → Value.bool false = .bool (decide (LVok l)) := fun h => by rw [decide_eq_false h]
  refine Tri.intro (hf := Try.func62) (hb := rfl) (hn := Try.ntmps62) (Nat.le_of_ble_eq_true rfl) ?_
  try refine go ⟨?_⟩
  refine WPL.eff (OpE.box rfl) rfl rfl ?_; rintro _ _ ⟨b1, rfl, rfl⟩
  try refine go ⟨?_⟩
  refine WPL.pure (Op1.loadAgg (us := [.int .i64 l.n, vE]) rfl mM rfl rfl) rfl rfl ?_
  try refine go ⟨?_⟩
  refine WPL.eff (OpE.call lO (fun w hw => s_GraphValid _ l.n vE l.es (Rd.at rD hw) hl1)) rfl rfl ?_
  rintro _ _ ⟨T, ⟨rfl, rfl⟩, rfl⟩
  by_cases hg : GV l.n l.es
  case neg =>
    rw [decide_eq_false hg]
    try refine go ⟨?_⟩
    refine PE.ret1 (T := []) (T' := []) rfl rV ?_ sT
    exact ⟨bad fun h => hg (hLV.1 h).1, rfl⟩
  rw [decide_eq_true hg]
  try refine go ⟨?_⟩
  by_cases h1 : l.lv.length = l.es.length
  case neg =>
    rw [decide_eq_true (show (l.lv.length : Int) ≠ (l.es.length : Int) by omega)]
    try refine go ⟨?_⟩
    refine PE.ret1 (T := []) (T' := []) rfl rV ?_ sT
    exact ⟨bad fun h => h1 (hLV.1 h).2.1, rfl⟩
  rw [decide_eq_false (show ¬ (l.lv.length : Int) ≠ (l.es.length : Int) by omega)]
  try refine go ⟨?_⟩
  by_cases h2 : l.tr.length = l.es.length
  case neg =>
    rw [decide_eq_true (show (l.tr.length : Int) ≠ (l.es.length : Int) by omega)]
    try refine go ⟨?_⟩
    refine PE.ret1 (T := []) (T' := []) rfl rV ?_ sT
    exact ⟨bad fun h => h2 (hLV.1 h).2.2.1, rfl⟩
  rw [decide_eq_false (show ¬ (l.tr.length : Int) ≠ (l.es.length : Int) by omega)]
  have hne := hg.ne
  have hle := hne.le
  have hn1 := hne.n1
  have hn2 := hne.n2
  try refine go ⟨?_⟩
  refine WP.loop (σ := Nat) (fun i => [(1, ptrV b1), (3, .int .i64 i)]) (fun _ => [Tok.blk b1 [.int .i64 l.n, vE, vL, vT]]) (fun i => i ≤ l.lv.length ∧ ∀ j, j < i → 0 ≤ l.lv.getD j 0 ∧ l.lv.getD j 0 ≤ 4) (fun i => l.lv.length - i) 0 ⟨Nat.zero_le _, fun j hj => absurd hj (Nat.not_lt_zero _)⟩ sE sT2 ?_
  rintro i ⟨hi, him⟩
  try refine go ⟨?_⟩
  refine WP.condD rfl (fun hc => ?_) (fun hc => ?_)
  · have hi' : i < l.lv.length := by omega
    have hmem : l.lv.getD i 0 ∈ l.lv := getD_memI hi'
    try refine go ⟨?_⟩
    refine WPL.splitD rfl rfl (fun c1 => ?_) (fun c1 => ?_)
    · have c1 : l.lv.getD i 0 < 0 := c1
      try refine go ⟨?_⟩
      refine PE.ret1 (T := []) (T' := []) rfl rV ?_ sT
      exact ⟨bad fun h => by have := (hLV.1 h).2.2.2.1 _ hmem; omega, rfl⟩
    · have c1 : ¬ l.lv.getD i 0 < 0 := c1
      try refine go ⟨?_⟩
      refine WP.condD rfl (fun c2 => ?_) (fun c2 => ?_)
      · have c2 : l.lv.getD i 0 > 4 := c2
        try refine go ⟨?_⟩
        refine PE.ret1 (T := []) (T' := []) rfl rV ?_ sT
        exact ⟨bad fun h => by have := (hLV.1 h).2.2.2.1 _ hmem; omega, rfl⟩
      · have c2 : ¬ l.lv.getD i 0 > 4 := c2
        try refine go ⟨?_⟩
        refine PE.again (i + 1) ?_ ?_ sE sT2
        · refine ⟨by (try dsimp only); omega, fun j hj => ?_⟩
          rcases Nat.lt_succ_iff_lt_or_eq.1 hj with h | rfl
          · exact him j h
          · exact ⟨by omega, by omega⟩
        · (try dsimp only); omega
  have h3 : ∀ x ∈ l.lv, 0 ≤ x ∧ x ≤ 4 := fun x hx => by
    obtain ⟨j, hj, rfl⟩ := mem_getD (d := (0 : Int)) hx
    exact him j (by omega)
  try refine go ⟨?_⟩
  refine WP.loop (σ := Nat) (fun k => [(1, ptrV b1), (4, .int .i64 k)]) (fun _ => [Tok.blk b1 [.int .i64 l.n, vE, vL, vT]]) (fun k => k ≤ 5 ∧ ∀ j, j < k → lvOk l j) (fun k => 5 - k) 0 ⟨by decide, fun j hj => absurd hj (Nat.not_lt_zero _)⟩ sE sT2 ?_
  rintro k ⟨hk5, hkj⟩
  try refine go ⟨?_⟩
  refine WP.condD rfl (fun hd => ?_) (fun hd => ?_)
  · have hk' : k < 5 := by omega
    have hgA : GV l.n (abv' l k true) := hg.sublist (abv_sub l k true)
    have hgB : GV l.n (abv' l k false) := hg.sublist (abv_sub l k false)
    have hOk := hOK k
    have hNA := hgA.ne
    have hNB := hgB.ne
    have hLA := labs_length l.n (abv' l k true)
    have hLB := labs_length l.n (abv' l k false)
    have hno : ¬ lvOk l k → ¬ LVok l := fun h q => h ((hLV.1 q).2.2.2.2 k hk')
    have hsp := smallP_iff (n := l.n) (es := abv' l k false) (M := l.n / 2 ^ k)
    try refine go ⟨?_⟩
    refine WPL.eff (OpE.call lO (fun w hw => s_l7At _ l vE vL vT k false (Rd.at rD hw) (Rd.at rD hw) (Rd.at rD hw) h1 h2 hle)) rfl rfl ?_
    rintro _ _ ⟨T, ⟨v2, rfl, rfl⟩, rfl⟩
    try refine go ⟨?_⟩
    refine WPL.eff OpE.alloc rfl rfl ?_; rintro _ _ ⟨b5, rfl, rfl⟩
    try refine go ⟨?_⟩
    refine WPL.eff (OpE.call lO (fun w hw => s_l7At _ l vE vL vT k true (Rd.at rD hw) (Rd.at rD hw) (Rd.at rD hw) h1 h2 hle)) rfl rfl ?_
    rintro _ _ ⟨T, ⟨v1, rfl, rfl⟩, rfl⟩
    try refine go ⟨?_⟩
    refine WPL.eff OpE.alloc rfl rfl ?_; rintro _ _ ⟨b6, rfl, rfl⟩
    try refine go ⟨?_⟩
    by_cases hF : (forestL l.n (abv' l k true)).length = (abv' l k true).length
    case neg =>
      refine WP.draw [Tok.blk b6 [.int .i64 l.n, v1], Tok.own v1 (abv' l k true), Tok.blk b5 [.int .i64 l.n, v2], Tok.own v2 (abv' l k false), Tok.blk b1 [.int .i64 l.n, vE, vL, vT]] mixed ?_
      refine WPD.take 0 rfl (by first | exact (Op1.load rfl mM (by rfl)) | exact (Op1.loadI rfl rD lT) | exact (Op1.loadAll rfl mM (by rfl)) | exact (Op1.loadE rfl rD lT (by rfl)) | exact (Op1.loadEAgg rfl rD lT (by rfl))) rfl rfl sT kR kR kR xQP ?_
      refine WPD.eff 1 kR rfl (OpE.call lO (fun w hw => s_l6Forest _ l.n v1 (abv' l k true) (Rd.at rD hw) hNA)) rfl rfl ?_
      rintro r _ ⟨T, ⟨rfl, rfl⟩, rfl⟩
      rw [decide_eq_false hF]
      refine ⟨sT, ?_⟩
      refine WPD.take 2 rfl (Op1.not rfl) rfl rfl sT kR kR kR xQP ?_
      refine WPD.take 3 rfl (Op1.move rfl) rfl rfl sT kR kR kR xQP ?_
      refine WPD.skip 4 rfl rfl rfl sT kR kR kR xQP ?_
      refine WPD.skip 6 rfl rfl rfl sT kR kR kR xQP ?_
      refine WPD.skip 5 rfl rfl rfl sT kR kR kR xQP ?_
      refine WPD.skip 7 rfl rfl rfl sT kR kR kR xQP ?_
      refine WPD.skip 8 rfl rfl rfl sT kR kR kR xQP ?_
      refine WPD.skip 9 rfl rfl rfl sT kR kR kR xQP ?_
      refine WPD.take 10 rfl (by first | exact (Op1.pickT rfl rfl) | exact (Op1.pickF rfl rfl)) rfl rfl sT kR kR kR xQP ?_
      refine WPD.take 11 rfl (Op1.move rfl) rfl rfl sT kR kR kR xQP ?_
      refine WPD.skip 12 rfl rfl rfl sT kR kR kR xQP ?_
      refine WPD.skip 13 rfl rfl rfl sT kR kR kR xQP ?_
      refine WPD.skip 15 rfl rfl rfl sT kR kR kR xQP ?_
      refine WPD.skip 14 rfl rfl rfl sT kR kR kR xQP ?_
      refine WPD.skip 16 rfl rfl rfl sT kR kR kR xQP ?_
      refine WPD.skip 17 rfl rfl rfl sT kR kR kR xQP ?_
      refine WPD.skip 18 rfl rfl rfl sT kR kR kR xQP ?_
      refine WPD.take 19 rfl (by first | exact (Op1.pickT rfl rfl) | exact (Op1.pickF rfl rfl)) rfl rfl sT kR kR kR xQP ?_
      refine WPD.done kR ?_
      all_goals (
        try refine go ⟨?_⟩
        refine PE.ret1 (T := []) (T' := []) rfl rV ?_ sT
        exact ⟨bad (hno fun q => hF (hOk.1 q).1), rfl⟩)
    by_cases hLb : labs l.n (abv' l k true) = labs l.n (abv' l k false)
    case neg =>
      refine WP.draw [Tok.blk b6 [.int .i64 l.n, v1], Tok.own v1 (abv' l k true), Tok.blk b5 [.int .i64 l.n, v2], Tok.own v2 (abv' l k false), Tok.blk b1 [.int .i64 l.n, vE, vL, vT]] mixed ?_
      refine WPD.take 0 rfl (by first | exact (Op1.load rfl mM (by rfl)) | exact (Op1.loadI rfl rD lT) | exact (Op1.loadAll rfl mM (by rfl)) | exact (Op1.loadE rfl rD lT (by rfl)) | exact (Op1.loadEAgg rfl rD lT (by rfl))) rfl rfl sT kR kR kR xQP ?_
      refine WPD.eff 1 kR rfl (OpE.call lO (fun w hw => s_l6Forest _ l.n v1 (abv' l k true) (Rd.at rD hw) hNA)) rfl rfl ?_
      rintro r _ ⟨T, ⟨rfl, rfl⟩, rfl⟩
      rw [decide_eq_true hF]
      refine ⟨sT, ?_⟩
      refine WPD.take 2 rfl (Op1.not rfl) rfl rfl sT kR kR kR xQP ?_
      refine WPD.take 3 rfl (Op1.move rfl) rfl rfl sT kR kR kR xQP ?_
      refine WPD.take 4 rfl (by first | exact (Op1.load rfl mM (by rfl)) | exact (Op1.loadI rfl rD lT) | exact (Op1.loadAll rfl mM (by rfl)) | exact (Op1.loadE rfl rD lT (by rfl)) | exact (Op1.loadEAgg rfl rD lT (by rfl))) rfl rfl sT kR kR kR xQP ?_
      refine WPD.take 6 rfl (by first | exact (Op1.load rfl mM (by rfl)) | exact (Op1.loadI rfl rD lT) | exact (Op1.loadAll rfl mM (by rfl)) | exact (Op1.loadE rfl rD lT (by rfl)) | exact (Op1.loadEAgg rfl rD lT (by rfl))) rfl rfl sT kR kR kR xQP ?_
      refine WPD.eff 5 kR rfl (OpE.call lO (fun w hw => s_Labels _ l.n v2 (abv' l k false) (Rd.at rD hw) hNB)) rfl rfl ?_
      rintro a1 _ ⟨T, rfl, rfl⟩
      refine ⟨sT, ?_⟩
      refine WPD.eff 7 kR rfl (OpE.call lO (fun w hw => s_Labels _ l.n v1 (abv' l k true) (Rd.at rD hw) hNA)) rfl rfl ?_
      rintro a2 _ ⟨T, rfl, rfl⟩
      refine ⟨sT, ?_⟩
      refine WPD.eff 8 kR rfl (OpE.call lO (fun w hw => s_l7Ints _ a1 a2 (labs l.n (abv' l k false)) (labs l.n (abv' l k true)) (Rd.at rD hw) (Rd.at rD hw) (by omega) (by omega))) rfl rfl ?_
      rintro r _ ⟨T, ⟨rfl, rfl⟩, rfl⟩
      rw [decide_eq_false (fun q => hLb q.symm)]
      refine ⟨sT, ?_⟩
      refine WPD.take 9 rfl (Op1.not rfl) rfl rfl sT kR kR kR xQP ?_
      refine WPD.take 10 rfl (by first | exact (Op1.pickT rfl rfl) | exact (Op1.pickF rfl rfl)) rfl rfl sT kR kR kR xQP ?_
      refine WPD.take 11 rfl (Op1.move rfl) rfl rfl sT kR kR kR xQP ?_
      refine WPD.skip 12 rfl rfl rfl sT kR kR kR xQP ?_
      refine WPD.skip 13 rfl rfl rfl sT kR kR kR xQP ?_
      refine WPD.skip 15 rfl rfl rfl sT kR kR kR xQP ?_
      refine WPD.skip 14 rfl rfl rfl sT kR kR kR xQP ?_
      refine WPD.skip 16 rfl rfl rfl sT kR kR kR xQP ?_
      refine WPD.skip 17 rfl rfl rfl sT kR kR kR xQP ?_
      refine WPD.skip 18 rfl rfl rfl sT kR kR kR xQP ?_
      refine WPD.take 19 rfl (by first | exact (Op1.pickT rfl rfl) | exact (Op1.pickF rfl rfl)) rfl rfl sT kR kR kR xQP ?_
      refine WPD.done kR ?_
      all_goals (
        try refine go ⟨?_⟩
        refine PE.ret1 (T := []) (T' := []) rfl rV ?_ sT
        exact ⟨bad (hno fun q => hLb (hOk.1 q).2.1), rfl⟩)
    by_cases hsm : smallP l.n (abv' l k false) (l.n / 2 ^ k)
    case neg =>
      refine WP.draw [Tok.blk b6 [.int .i64 l.n, v1], Tok.own v1 (abv' l k true), Tok.blk b5 [.int .i64 l.n, v2], Tok.own v2 (abv' l k false), Tok.blk b1 [.int .i64 l.n, vE, vL, vT]] mixed ?_
      refine WPD.take 0 rfl (by first | exact (Op1.load rfl mM (by rfl)) | exact (Op1.loadI rfl rD lT) | exact (Op1.loadAll rfl mM (by rfl)) | exact (Op1.loadE rfl rD lT (by rfl)) | exact (Op1.loadEAgg rfl rD lT (by rfl))) rfl rfl sT kR kR kR xQP ?_
      refine WPD.eff 1 kR rfl (OpE.call lO (fun w hw => s_l6Forest _ l.n v1 (abv' l k true) (Rd.at rD hw) hNA)) rfl rfl ?_
      rintro r _ ⟨T, ⟨rfl, rfl⟩, rfl⟩
      rw [decide_eq_true hF]
      refine ⟨sT, ?_⟩
      refine WPD.take 2 rfl (Op1.not rfl) rfl rfl sT kR kR kR xQP ?_
      refine WPD.take 3 rfl (Op1.move rfl) rfl rfl sT kR kR kR xQP ?_
      refine WPD.take 4 rfl (by first | exact (Op1.load rfl mM (by rfl)) | exact (Op1.loadI rfl rD lT) | exact (Op1.loadAll rfl mM (by rfl)) | exact (Op1.loadE rfl rD lT (by rfl)) | exact (Op1.loadEAgg rfl rD lT (by rfl))) rfl rfl sT kR kR kR xQP ?_
      refine WPD.take 6 rfl (by first | exact (Op1.load rfl mM (by rfl)) | exact (Op1.loadI rfl rD lT) | exact (Op1.loadAll rfl mM (by rfl)) | exact (Op1.loadE rfl rD lT (by rfl)) | exact (Op1.loadEAgg rfl rD lT (by rfl))) rfl rfl sT kR kR kR xQP ?_
      refine WPD.eff 5 kR rfl (OpE.call lO (fun w hw => s_Labels _ l.n v2 (abv' l k false) (Rd.at rD hw) hNB)) rfl rfl ?_
      rintro a1 _ ⟨T, rfl, rfl⟩
      refine ⟨sT, ?_⟩
      refine WPD.eff 7 kR rfl (OpE.call lO (fun w hw => s_Labels _ l.n v1 (abv' l k true) (Rd.at rD hw) hNA)) rfl rfl ?_
      rintro a2 _ ⟨T, rfl, rfl⟩
      refine ⟨sT, ?_⟩
      refine WPD.eff 8 kR rfl (OpE.call lO (fun w hw => s_l7Ints _ a1 a2 (labs l.n (abv' l k false)) (labs l.n (abv' l k true)) (Rd.at rD hw) (Rd.at rD hw) (by omega) (by omega))) rfl rfl ?_
      rintro r _ ⟨T, ⟨rfl, rfl⟩, rfl⟩
      rw [decide_eq_true hLb.symm]
      refine ⟨sT, ?_⟩
      refine WPD.take 9 rfl (Op1.not rfl) rfl rfl sT kR kR kR xQP ?_
      refine WPD.take 10 rfl (by first | exact (Op1.pickT rfl rfl) | exact (Op1.pickF rfl rfl)) rfl rfl sT kR kR kR xQP ?_
      refine WPD.take 11 rfl (Op1.move rfl) rfl rfl sT kR kR kR xQP ?_
      refine WPD.take 12 rfl (by first | exact (Op1.load rfl mM (by rfl)) | exact (Op1.loadI rfl rD lT) | exact (Op1.loadAll rfl mM (by rfl)) | exact (Op1.loadE rfl rD lT (by rfl)) | exact (Op1.loadEAgg rfl rD lT (by rfl))) rfl rfl sT kR kR kR xQP ?_
      refine WPD.take 13 rfl (by first | exact (Op1.fieldAddr rfl) | exact (Op1.fieldAddrE rfl rD lT)) rfl rfl sT kR kR kR xQP ?_
      refine WPD.take 15 rfl (Op1.move rfl) rfl rfl sT kR kR kR xQP ?_
      refine WPD.take 14 rfl (by first | exact (Op1.load rfl mM (by rfl)) | exact (Op1.loadI rfl rD lT) | exact (Op1.loadAll rfl mM (by rfl)) | exact (Op1.loadE rfl rD lT (by rfl)) | exact (Op1.loadEAgg rfl rD lT (by rfl))) rfl rfl sT kR kR kR xQP ?_
      refine WPD.eff 16 kR rfl (OpE.call lO (fun w hw => s_l7Most _ l.n k ⟨hn1, by omega⟩ (by omega))) rfl rfl ?_
      rintro r _ ⟨T, ⟨rfl, rfl⟩, rfl⟩
      refine ⟨sT, ?_⟩
      refine WPD.eff 17 kR rfl (OpE.call lO (fun w hw => s_l7Small _ l.n v2 (abv' l k false) (l.n / 2 ^ k) (Rd.at rD hw) hNB)) rfl rfl ?_
      rintro r _ ⟨T, ⟨rfl, rfl⟩, rfl⟩
      rw [decide_eq_false hsm]
      refine ⟨sT, ?_⟩
      refine WPD.take 18 rfl (Op1.not rfl) rfl rfl sT kR kR kR xQP ?_
      refine WPD.take 19 rfl (by first | exact (Op1.pickT rfl rfl) | exact (Op1.pickF rfl rfl)) rfl rfl sT kR kR kR xQP ?_
      refine WPD.done kR ?_
      all_goals (
        try refine go ⟨?_⟩
        refine PE.ret1 (T := []) (T' := []) rfl rV ?_ sT
        exact ⟨bad (hno fun q => hsm (hsp.2 (hOk.1 q).2.2)), rfl⟩)
    refine WP.draw [Tok.blk b6 [.int .i64 l.n, v1], Tok.own v1 (abv' l k true), Tok.blk b5 [.int .i64 l.n, v2], Tok.own v2 (abv' l k false), Tok.blk b1 [.int .i64 l.n, vE, vL, vT]] mixed ?_
    refine WPD.take 0 rfl (by first | exact (Op1.load rfl mM (by rfl)) | exact (Op1.loadI rfl rD lT) | exact (Op1.loadAll rfl mM (by rfl)) | exact (Op1.loadE rfl rD lT (by rfl)) | exact (Op1.loadEAgg rfl rD lT (by rfl))) rfl rfl sT kR kR kR xQP ?_
    refine WPD.eff 1 kR rfl (OpE.call lO (fun w hw => s_l6Forest _ l.n v1 (abv' l k true) (Rd.at rD hw) hNA)) rfl rfl ?_
    rintro r _ ⟨T, ⟨rfl, rfl⟩, rfl⟩
    rw [decide_eq_true hF]
    refine ⟨sT, ?_⟩
    refine WPD.take 2 rfl (Op1.not rfl) rfl rfl sT kR kR kR xQP ?_
    refine WPD.take 3 rfl (Op1.move rfl) rfl rfl sT kR kR kR xQP ?_
    refine WPD.take 4 rfl (by first | exact (Op1.load rfl mM (by rfl)) | exact (Op1.loadI rfl rD lT) | exact (Op1.loadAll rfl mM (by rfl)) | exact (Op1.loadE rfl rD lT (by rfl)) | exact (Op1.loadEAgg rfl rD lT (by rfl))) rfl rfl sT kR kR kR xQP ?_
    refine WPD.take 6 rfl (by first | exact (Op1.load rfl mM (by rfl)) | exact (Op1.loadI rfl rD lT) | exact (Op1.loadAll rfl mM (by rfl)) | exact (Op1.loadE rfl rD lT (by rfl)) | exact (Op1.loadEAgg rfl rD lT (by rfl))) rfl rfl sT kR kR kR xQP ?_
    refine WPD.eff 5 kR rfl (OpE.call lO (fun w hw => s_Labels _ l.n v2 (abv' l k false) (Rd.at rD hw) hNB)) rfl rfl ?_
    rintro a1 _ ⟨T, rfl, rfl⟩
    refine ⟨sT, ?_⟩
    refine WPD.eff 7 kR rfl (OpE.call lO (fun w hw => s_Labels _ l.n v1 (abv' l k true) (Rd.at rD hw) hNA)) rfl rfl ?_
    rintro a2 _ ⟨T, rfl, rfl⟩
    refine ⟨sT, ?_⟩
    refine WPD.eff 8 kR rfl (OpE.call lO (fun w hw => s_l7Ints _ a1 a2 (labs l.n (abv' l k false)) (labs l.n (abv' l k true)) (Rd.at rD hw) (Rd.at rD hw) (by omega) (by omega))) rfl rfl ?_
    rintro r _ ⟨T, ⟨rfl, rfl⟩, rfl⟩
    rw [decide_eq_true hLb.symm]
    refine ⟨sT, ?_⟩
    refine WPD.take 9 rfl (Op1.not rfl) rfl rfl sT kR kR kR xQP ?_
    refine WPD.take 10 rfl (by first | exact (Op1.pickT rfl rfl) | exact (Op1.pickF rfl rfl)) rfl rfl sT kR kR kR xQP ?_
    refine WPD.take 11 rfl (Op1.move rfl) rfl rfl sT kR kR kR xQP ?_
    refine WPD.take 12 rfl (by first | exact (Op1.load rfl mM (by rfl)) | exact (Op1.loadI rfl rD lT) | exact (Op1.loadAll rfl mM (by rfl)) | exact (Op1.loadE rfl rD lT (by rfl)) | exact (Op1.loadEAgg rfl rD lT (by rfl))) rfl rfl sT kR kR kR xQP ?_
    refine WPD.take 13 rfl (by first | exact (Op1.fieldAddr rfl) | exact (Op1.fieldAddrE rfl rD lT)) rfl rfl sT kR kR kR xQP ?_
    refine WPD.take 15 rfl (Op1.move rfl) rfl rfl sT kR kR kR xQP ?_
    refine WPD.take 14 rfl (by first | exact (Op1.load rfl mM (by rfl)) | exact (Op1.loadI rfl rD lT) | exact (Op1.loadAll rfl mM (by rfl)) | exact (Op1.loadE rfl rD lT (by rfl)) | exact (Op1.loadEAgg rfl rD lT (by rfl))) rfl rfl sT kR kR kR xQP ?_
    refine WPD.eff 16 kR rfl (OpE.call lO (fun w hw => s_l7Most _ l.n k ⟨hn1, by omega⟩ (by omega))) rfl rfl ?_
    rintro r _ ⟨T, ⟨rfl, rfl⟩, rfl⟩
    refine ⟨sT, ?_⟩
    refine WPD.eff 17 kR rfl (OpE.call lO (fun w hw => s_l7Small _ l.n v2 (abv' l k false) (l.n / 2 ^ k) (Rd.at rD hw) hNB)) rfl rfl ?_
    rintro r _ ⟨T, ⟨rfl, rfl⟩, rfl⟩
    rw [decide_eq_true hsm]
    refine ⟨sT, ?_⟩
    refine WPD.take 18 rfl (Op1.not rfl) rfl rfl sT kR kR kR xQP ?_
    refine WPD.take 19 rfl (by first | exact (Op1.pickT rfl rfl) | exact (Op1.pickF rfl rfl)) rfl rfl sT kR kR kR xQP ?_
    refine WPD.done kR ?_
    all_goals (
      have hgood : lvOk l k := hOk.2 ⟨hF, hLb, hsp.1 hsm⟩
      try refine go ⟨?_⟩
      refine PE.again (k + 1) ?_ ?_ sE sT2
      · refine ⟨by (try dsimp only); omega, fun j hj => ?_⟩
        rcases Nat.lt_succ_iff_lt_or_eq.1 hj with h | rfl
        · exact hkj j h
        · exact hgood
      · (try dsimp only); omega)
  · have hk5' : k = 5 := by omega
    subst hk5'
    have hyes : LVok l := hLV.2 ⟨hg, h1, h2, h3, hkj⟩
    try refine go ⟨?_⟩
    refine PE.ret1 (T := []) (T' := []) rfl rV ?_ sT
    exact ⟨by rw [decide_eq_true hyes], rfl⟩
end Go.Proofs.Ytfigegmgopnfhaa
/- Graphs with levels: the walks of the second program's LevelForest, LeveledConnected. Conditions: those of each contract. -/
namespace Go.Proofs.Ytfigegmgopnfhaa
open Go
set_option linter.unusedVariables false set_option linter.unusedSimpArgs false attribute [local irreducible] Tok.own Tok.blk RL Rd eptr WP WPL PE WPD WPO Op1 OpE Tri Again Mid Exit.then Exit.inBlock bodyPost RP Code.wp wpList isOwn OneM One
attribute [local irreducible] abv' LVok GV GN
set_option maxHeartbeats 16000000

theorem s_LevelForest (w : World) (l : LV) (vE vL vT : Value) (k : Int) (hE : RL w vE l.es) (hL : RL w vL l.lv) (hT : RL w vT l.tr) (hl1 : l.es.length ≤ 1099511627776) (hl2 : l.lv.length ≤ 1099511627776) (hl3 : l.tr.length ≤ 1099511627776) :
    Tri Try.prog 67 [.agg #[.int .i64 l.n, vE, vL, vT], .int .i64 k] w [] fun r T => ∃ v, r = .tuple #[v, .bool (decide (lfOk l k))] ∧ T = [Tok.own v (lfL l k)] := by
  have bad : ¬ lfOk l k → lfL l k = [] := fun h => if_neg h
  have good : lfOk l k → lfL l k = abv' l k true := fun h => if_pos h
  have hle : LVok l → l.es.length ≤ 1000 := fun h => (LVok_len h).1.ne.le
  refine Tri.intro (hf := Try.func67) (hb := rfl) (hn := Try.ntmps67) (Nat.le_of_ble_eq_true rfl) ?_
  try refine go ⟨?_⟩
  refine WPL.eff (OpE.box rfl) rfl rfl ?_; rintro _ _ ⟨b2, rfl, rfl⟩
  try refine go ⟨?_⟩
  refine WPL.eff (OpE.call lO (fun w hw => s_LevelsValid _ l vE vL vT (Rd.at rD hw) (Rd.at rD hw) (Rd.at rD hw) hl1 hl2 hl3)) rfl rfl ?_
  rintro _ _ ⟨T, ⟨rfl, rfl⟩, rfl⟩
  by_cases hv : LVok l
  case neg =>
    have hno : ¬ lfOk l k := fun q => hv q.1
    rw [decide_eq_false hv, decide_eq_false hno, bad hno]
    try refine go ⟨?_⟩
    refine WPL.eff (OpE.buildSlice ([] : List E) pA rfl (by decide)) rfl rfl ?_; rintro s0 _ rfl
    try refine go ⟨?_⟩
    refine PE.ret2 (T := []) (T' := [Tok.own s0 ([] : List E)]) rfl rV ?_ sT2
    exact ⟨_, rfl, rfl⟩
  rw [decide_eq_true hv]
  try refine go ⟨?_⟩
  by_cases h0 : k < 0
  · have hno : ¬ lfOk l k := fun q => by have := q.2.1; omega
    rw [decide_eq_true h0, decide_eq_false hno, bad hno]
    try refine go ⟨?_⟩
    refine WPL.eff (OpE.buildSlice ([] : List E) pA rfl (by decide)) rfl rfl ?_; rintro s0 _ rfl
    try refine go ⟨?_⟩
    refine PE.ret2 (T := []) (T' := [Tok.own s0 ([] : List E)]) rfl rV ?_ sT2
    exact ⟨_, rfl, rfl⟩
  rw [decide_eq_false h0]
  try refine go ⟨?_⟩
  by_cases h4 : k > 4
  · have hno : ¬ lfOk l k := fun q => by have := q.2.2; omega
    rw [decide_eq_true h4, decide_eq_false hno, bad hno]
    try refine go ⟨?_⟩
    refine WPL.eff (OpE.buildSlice ([] : List E) pA rfl (by decide)) rfl rfl ?_; rintro s0 _ rfl
    try refine go ⟨?_⟩
    refine PE.ret2 (T := []) (T' := [Tok.own s0 ([] : List E)]) rfl rV ?_ sT2
    exact ⟨_, rfl, rfl⟩
  have hyes : lfOk l k := ⟨hv, by omega, by omega⟩
  obtain ⟨q1, q2, q3⟩ := LVok_len hv
  rw [decide_eq_false h4, decide_eq_true hyes, good hyes]
  try refine go ⟨?_⟩
  refine WPL.eff (OpE.call lO (fun w hw => s_l7At _ l vE vL vT k true (Rd.at rD hw) (Rd.at rD hw) (Rd.at rD hw) q2 q3 (hle hv))) rfl rfl ?_
  rintro _ _ ⟨T, ⟨v, rfl, rfl⟩, rfl⟩
  try refine go ⟨?_⟩
  refine WPL.pure (Op1.fieldS 1 (by kernel_rfl) rfl rfl) rfl rfl ?_
  try refine go ⟨?_⟩
  refine PE.ret2 (T := []) (T' := [Tok.own v (abv' l k true)]) rfl rV ?_ sT2
  exact ⟨_, rfl, rfl⟩

theorem s_LeveledConnected (w : World) (l : LV) (vE vL vT : Value) (x y : Int) (hE : RL w vE l.es) (hL : RL w vL l.lv) (hT : RL w vT l.tr) (hl1 : l.es.length ≤ 1099511627776) (hl2 : l.lv.length ≤ 1099511627776) (hl3 : l.tr.length ≤ 1099511627776) :
    Tri Try.prog 56 [.agg #[.int .i64 l.n, vE, vL, vT], .int .i64 x, .int .i64 y] w [] fun r T => r = .bool (decide (LCN l x y)) ∧ T = [] := by
  have hle : LVok l → l.es.length ≤ 1000 := fun h => (LVok_len h).1.ne.le
  have hgn : ∀ z, GV l.n l.es → (GN l.n l.es z ↔ Nd l.n z) := fun z h => by unfold GN; exact ⟨fun q => q.2, fun q => ⟨h, q⟩⟩
  have hgA : LVok l → NE l.n (abv' l 0 true) := fun h => (h.gvA 0 true).ne
  have hL1 : LCN l x y ↔ LVok l ∧ Nd l.n x ∧ Nd l.n y ∧ cn l.n (abv' l 0 true) x y := Iff.rfl
  refine Tri.intro (hf := Try.func56) (hb := rfl) (hn := Try.ntmps56) (Nat.le_of_ble_eq_true rfl) ?_
  try refine go ⟨?_⟩
  refine WPL.eff (OpE.box rfl) rfl rfl ?_; rintro _ _ ⟨b3, rfl, rfl⟩
  try refine go ⟨?_⟩
  refine WPL.eff (OpE.call lO (fun w hw => s_LevelsValid _ l vE vL vT (Rd.at rD hw) (Rd.at rD hw) (Rd.at rD hw) hl1 hl2 hl3)) rfl rfl ?_
  rintro _ _ ⟨T, ⟨rfl, rfl⟩, rfl⟩
  by_cases hv : LVok l
  case neg =>
    rw [decide_eq_false hv]
    try refine go ⟨?_⟩
    refine PE.ret1 (T := []) (T' := []) rfl rV ?_ sT
    exact ⟨by rw [decide_eq_false fun q => hv (hL1.1 q).1], rfl⟩
  obtain ⟨q1, q2, q3⟩ := LVok_len hv
  rw [decide_eq_true hv]
  try refine go ⟨?_⟩
  refine WPL.pure (Op1.loadAgg (us := [.int .i64 l.n, vE]) rfl mM rfl rfl) rfl rfl ?_
  try refine go ⟨?_⟩
  refine WPL.eff (OpE.call lO (fun w hw => s_Node2 _ l.n vE l.es x (Rd.at rD hw) hl1)) rfl rfl ?_
  rintro _ _ ⟨T, ⟨rfl, rfl⟩, rfl⟩
  by_cases hx : Nd l.n x
  case neg =>
    rw [decide_eq_false fun q => hx ((hgn x q1).1 q)]
    try refine go ⟨?_⟩
    refine PE.ret1 (T := []) (T' := []) rfl rV ?_ sT
    exact ⟨by rw [decide_eq_false fun q => hx (hL1.1 q).2.1], rfl⟩
  rw [decide_eq_true ((hgn x q1).2 hx)]
  try refine go ⟨?_⟩
  refine WPL.pure (Op1.loadAgg (us := [.int .i64 l.n, vE]) rfl mM rfl rfl) rfl rfl ?_
  try refine go ⟨?_⟩
  refine WPL.eff (OpE.call lO (fun w hw => s_Node2 _ l.n vE l.es y (Rd.at rD hw) hl1)) rfl rfl ?_
  rintro _ _ ⟨T, ⟨rfl, rfl⟩, rfl⟩
  by_cases hy : Nd l.n y
  case neg =>
    rw [decide_eq_false fun q => hy ((hgn y q1).1 q)]
    try refine go ⟨?_⟩
    refine PE.ret1 (T := []) (T' := []) rfl rV ?_ sT
    exact ⟨by rw [decide_eq_false fun q => hy (hL1.1 q).2.2.1], rfl⟩
  rw [decide_eq_true ((hgn y q1).2 hy)]
  try refine go ⟨?_⟩
  refine WPL.eff (OpE.call lO (fun w hw => s_l7At _ l vE vL vT 0 true (Rd.at rD hw) (Rd.at rD hw) (Rd.at rD hw) q2 q3 (hle hv))) rfl rfl ?_
  rintro _ _ ⟨T, ⟨v, rfl, rfl⟩, rfl⟩
  try refine go ⟨?_⟩
  refine WPL.eff (OpE.call lO (fun w hw => s_Joined _ l.n v (abv' l 0 true) x y (Rd.at rD hw) (hgA hv) hx hy)) rfl rfl ?_
  rintro _ _ ⟨T, ⟨rfl, rfl⟩, rfl⟩
  try refine go ⟨?_⟩
  refine PE.ret1 (T := []) (T' := []) rfl rV ?_ sT
  refine ⟨?_, rfl⟩
  congr 1; rw [decide_eq_decide]
  exact ⟨fun q => hL1.2 ⟨hv, hx, hy, q⟩, fun q => (hL1.1 q).2.2.2⟩
end Go.Proofs.Ytfigegmgopnfhaa
