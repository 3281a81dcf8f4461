/- Texts put together: DrwL, DrwM, DrwN, DrwR. Conditions: those of each theorem. -/
import Derived.Test.YtfigegmgopnfhaaV16
import Derived.Test.YtfigegmgopnfhaaV20
set_option linter.unusedVariables false
set_option linter.unusedSimpArgs false
/- The second program's drawn graphs with levels: their shape (l6In, l7Side, l7Copy, l7Put, l7Cut, PutLevel). Conditions: those of each contract. -/
namespace Go.Proofs.Ytfigegmgopnfhaa
open Go
def levV (n : Int) (a b c : Value) : Value := .agg #[.int .i64 n, a, b, c]
theorem g_FindB (w : World) (v : Value) (e : E) (es : List E) (h : RL w v es) (hl : es.length ≤ 1099511627776) :
    Tri Try.prog 151 [v, ep e] w [] fun r T => T = [] ∧ ∃ k : Int, r = .int .i64 k ∧ -1 ≤ k ∧ k < es.length :=
  fun hn hh => (s_Find w v e es h hl hn hh).mono fun _ w' ⟨r, T, h1, h2, h3⟩ => ⟨r, T, h1, ⟨h2.1, by
    rcases h2.2 with ⟨_, n, hn, rfl, _⟩ | ⟨_, rfl⟩
    · exact ⟨_, rfl, by omega, by omega⟩
    · exact ⟨_, rfl, by omega, by omega⟩⟩, h3⟩
theorem g_PartB (w : World) (n : Int) (vE : Value) (es : List E) (x : Int) (hE : RL w vE es) (hl : es.length ≤ 1099511627776) :
    Tri Try.prog 167 [.agg #[.int .i64 n, vE], .int .i64 x] w [] fun r T => ∃ L : List Int, T = [Tok.own r L] ∧ L.length ≤ 16 :=
  fun hn hh => (s_PartNodes w n vE es x hE hl hn hh).mono fun _ w' ⟨r, T, h1, h2, h3⟩ => ⟨r, T, h1, by
    rcases h2 with ⟨hg, rfl⟩ | ⟨_, rfl⟩
    · refine ⟨_, rfl, ?_⟩
      have h4 := hg.1.2.1
      have h5 := hg.1.1
      have h6 := List.length_filter_le (fun k => decide (lab n es k = lab n es x)) (iota n.toNat)
      rw [iota_length] at h6
      unfold pns; omega
    · exact ⟨_, rfl, Nat.zero_le _⟩, h3⟩
set_option linter.unusedVariables false set_option linter.unusedSimpArgs false attribute [local irreducible] Tok.own Tok.blk RL Rd eptr WP WPL PE WPD WPO Op1 OpE Tri Again Mid Exit.then Exit.inBlock bodyPost RP Code.wp wpList isOwn OneM One
attribute [local irreducible] LVok GV
set_option maxHeartbeats 16000000

theorem g_l6In (w : World) (v : Value) (x : Int) (xs : List Int) (h : RL w v xs) (hl : xs.length ≤ 1099511627776) :
    Tri Try.prog 166 [v, .int .i64 x] w [] fun r T => T = [] ∧ ∃ b : Bool, r = .bool b := by
  refine Tri.intro (hf := Try.func166) (hb := rfl) (hn := Try.ntmps166) (Nat.le_of_ble_eq_true rfl) ?_
  try refine go ⟨?_⟩
  refine WP.loop (σ := Nat) (fun k => [(0, v), (1, .int .i64 x), (5, .int .i64 k)]) (fun _ => []) (fun k => k ≤ xs.length) (fun k => xs.length - k) 0 (Nat.zero_le _) sE sT ?_
  rintro k hk
  try refine go ⟨?_⟩
  refine WP.condD rfl (fun hc => ?_) (fun hc => ?_)
  · try refine go ⟨?_⟩
    refine WP.condD rfl (fun he => ?_) (fun he => ?_)
    · try refine go ⟨?_⟩
      refine PE.ret1 (T := []) (T' := []) rfl rV ?_ sT
      exact ⟨rfl, _, rfl⟩
    · try refine go ⟨?_⟩
      refine PE.again (k + 1) ?_ ?_ sE sT2
      · (try dsimp only); omega
      · (try dsimp only); omega
  · try refine go ⟨?_⟩
    refine PE.ret1 (T := []) (T' := []) rfl rV ?_ sT
    exact ⟨rfl, _, rfl⟩

theorem g_l7Side (w : World) (n : Int) (vE : Value) (es : List E) (x y : Int) (hE : RL w vE es) (hl : es.length ≤ 1099511627776) :
    Tri Try.prog 164 [.agg #[.int .i64 n, vE], .int .i64 x, .int .i64 y] w [] fun r T => ∃ L : List Int, T = [Tok.own r L] ∧ L.length ≤ 16 := by
  refine Tri.intro (hf := Try.func164) (hb := rfl) (hn := Try.ntmps164) (Nat.le_of_ble_eq_true rfl) ?_
  try refine go ⟨?_⟩
  refine WPL.eff (OpE.box rfl) rfl rfl ?_; rintro _ _ ⟨b3, rfl, rfl⟩
  try refine go ⟨?_⟩
  refine WPL.eff (OpE.call lO (fun w hw => g_PartB _ n vE es x (Rd.at rD hw) hl)) rfl rfl ?_
  rintro va _ ⟨T, ⟨La, rfl, ha⟩, rfl⟩
  try refine go ⟨?_⟩
  refine WPL.eff (OpE.call lO (fun w hw => g_PartB _ n vE es y (Rd.at rD hw) hl)) rfl rfl ?_
  rintro vb _ ⟨T, ⟨Lb, rfl, hb⟩, rfl⟩
  try refine go ⟨?_⟩
  refine WP.condD rfl (fun hc => ?_) (fun hc => ?_)
  · try refine go ⟨?_⟩
    refine PE.ret1 (T := []) (T' := [Tok.own vb Lb]) rfl rV ?_ sT2
    exact ⟨Lb, rfl, hb⟩
  · try refine go ⟨?_⟩
    refine PE.ret1 (T := []) (T' := [Tok.own va La]) rfl rV ?_ sT2
    exact ⟨La, rfl, ha⟩

theorem g_l7Copy (w : World) (n : Int) (vE vL vT : Value) (es : List E) (lv : List Int) (tr : List Bool) (hE : RL w vE es) (hL : RL w vL lv) (hT : RL w vT tr) (h1 : es.length ≤ 1000) (h2 : lv.length ≤ 1000) (h3 : tr.length ≤ 1000) :
    Tri Try.prog 165 [.agg #[.int .i64 n, vE, vL, vT]] w [] fun r T => ∃ a b c, r = .agg #[.int .i64 n, a, b, c] ∧ T = [Tok.own a es, Tok.own b lv, Tok.own c tr] := by
  refine Tri.intro (hf := Try.func165) (hb := rfl) (hn := Try.ntmps165) (Nat.le_of_ble_eq_true rfl) ?_
  try refine go ⟨?_⟩
  refine WPL.eff (OpE.box rfl) rfl rfl ?_; rintro _ _ ⟨b1, rfl, rfl⟩
  refine WPL.eff OpE.alloc rfl rfl ?_; rintro _ _ ⟨b2, rfl, rfl⟩
  try refine go ⟨?_⟩
  refine WP.draw [Tok.blk b1 [.int .i64 n, vE, vL, vT]] mixed ?_
  refine WPD.take 0 rfl (by first | exact (Op1.fieldAddr rfl) | exact (Op1.fieldAddrE rfl rD lT)) rfl rfl sT kR kR kR xQP ?_
  refine WPD.take 4 rfl (by first | exact (Op1.fieldAddr rfl) | exact (Op1.fieldAddrE rfl rD lT)) rfl rfl sT kR kR kR xQP ?_
  refine WPD.take 8 rfl (by first | exact (Op1.fieldAddr rfl) | exact (Op1.fieldAddrE rfl rD lT)) rfl rfl sT kR kR kR xQP ?_
  refine WPD.take 1 rfl (Op1.loadAgg (us := [.int .i64 n, vE]) rfl mM rfl rfl) rfl rfl sT kR kR kR xQP ?_
  refine WPD.take 5 rfl (by first | exact (Op1.load rfl mM (by rfl)) | exact (Op1.loadI rfl rD lT) | exact (Op1.loadAll rfl mM (by rfl)) | exact (Op1.loadE rfl rD lT (by rfl)) | exact (Op1.loadEAgg rfl rD lT (by rfl))) rfl rfl sT kR kR kR xQP ?_
  refine WPD.take 9 rfl (by first | exact (Op1.load rfl mM (by rfl)) | exact (Op1.loadI rfl rD lT) | exact (Op1.loadAll rfl mM (by rfl)) | exact (Op1.loadE rfl rD lT (by rfl)) | exact (Op1.loadEAgg rfl rD lT (by rfl))) rfl rfl sT kR kR kR xQP ?_
  refine WPD.three 2 3 7 kR ?e5_2 ?e5_3 ?e5_7
  case' e5_2 =>
    refine WPO.eff rfl (OpE.call lO (fun w hw => g_Copy _ n vE es (Rd.at rD hw) (by omega))) rfl rfl ?_
    rintro r _ ⟨T, ⟨a, rfl, rfl⟩, rfl⟩
    refine ⟨sT, ?_⟩
    refine WPD.two 3 7 kR ?e6_3 ?e6_7
    case' e6_3 =>
      refine WPO.eff rfl (OpE.buildSlice (([] : List Int)) pA rfl (by decide)) rfl rfl ?_
      rintro s1 _ rfl
      refine ⟨sT, ?_⟩
      refine WPD.two 6 7 kR ?e7_6 ?e7_7
      case' e7_6 =>
        refine WPO.eff rfl (OpE.append rfl rfl pM rD lN) rfl rfl ?_
        rintro b _ rfl
        refine ⟨sT, ?_⟩
        rw [List.nil_append]
        refine WPD.eff 7 kR rfl (OpE.buildSlice (([] : List Bool)) pA rfl (by decide)) rfl rfl ?_
        rintro s2 _ rfl
        refine ⟨sT, ?_⟩
        refine WPD.eff 10 kR rfl (OpE.append rfl rfl pM rD lN) rfl rfl ?_
        rintro c _ rfl
        refine ⟨sT, ?_⟩
        rw [List.nil_append]
        refine WPD.eff 11 kR rfl (OpE.ofPure (Op1.build xBP (by rfl))) rfl rfl ?_
        rintro _ _ ⟨rfl, rfl⟩
        refine ⟨sT, ?_⟩
        refine WPD.eff0 12 kR rfl (OpE.storeAll rfl rfl pM (by rfl) (by rfl) oN) rfl ?_
        rintro _ _ rfl
        refine ⟨sT, ?_⟩
        refine WPD.done kR ?_
      case' e7_7 =>
        refine WPO.eff rfl (OpE.buildSlice (([] : List Bool)) pA rfl (by decide)) rfl rfl ?_
        rintro s2 _ rfl
        refine ⟨sT, ?_⟩
        refine WPD.eff 6 kR rfl (OpE.append rfl rfl pM rD lN) rfl rfl ?_
        rintro b _ rfl
        refine ⟨sT, ?_⟩
        rw [List.nil_append]
        refine WPD.eff 10 kR rfl (OpE.append rfl rfl pM rD lN) rfl rfl ?_
        rintro c _ rfl
        refine ⟨sT, ?_⟩
        rw [List.nil_append]
        refine WPD.eff 11 kR rfl (OpE.ofPure (Op1.build xBP (by rfl))) rfl rfl ?_
        rintro _ _ ⟨rfl, rfl⟩
        refine ⟨sT, ?_⟩
        refine WPD.eff0 12 kR rfl (OpE.storeAll rfl rfl pM (by rfl) (by rfl) oN) rfl ?_
        rintro _ _ rfl
        refine ⟨sT, ?_⟩
        refine WPD.done kR ?_
    case' e6_7 =>
      refine WPO.eff rfl (OpE.buildSlice (([] : List Bool)) pA rfl (by decide)) rfl rfl ?_
      rintro s2 _ rfl
      refine ⟨sT, ?_⟩
      refine WPD.eff 3 kR rfl (OpE.buildSlice (([] : List Int)) pA rfl (by decide)) rfl rfl ?_
      rintro s1 _ rfl
      refine ⟨sT, ?_⟩
      refine WPD.eff 6 kR rfl (OpE.append rfl rfl pM rD lN) rfl rfl ?_
      rintro b _ rfl
      refine ⟨sT, ?_⟩
      rw [List.nil_append]
      refine WPD.eff 10 kR rfl (OpE.append rfl rfl pM rD lN) rfl rfl ?_
      rintro c _ rfl
      refine ⟨sT, ?_⟩
      rw [List.nil_append]
      refine WPD.eff 11 kR rfl (OpE.ofPure (Op1.build xBP (by rfl))) rfl rfl ?_
      rintro _ _ ⟨rfl, rfl⟩
      refine ⟨sT, ?_⟩
      refine WPD.eff0 12 kR rfl (OpE.storeAll rfl rfl pM (by rfl) (by rfl) oN) rfl ?_
      rintro _ _ rfl
      refine ⟨sT, ?_⟩
      refine WPD.done kR ?_
  case' e5_3 =>
    refine WPO.eff rfl (OpE.buildSlice (([] : List Int)) pA rfl (by decide)) rfl rfl ?_
    rintro s1 _ rfl
    refine ⟨sT, ?_⟩
    refine WPD.two 2 7 kR ?e8_2 ?e8_7
    case' e8_2 =>
      refine WPO.eff rfl (OpE.call lO (fun w hw => g_Copy _ n vE es (Rd.at rD hw) (by omega))) rfl rfl ?_
      rintro r _ ⟨T, ⟨a, rfl, rfl⟩, rfl⟩
      refine ⟨sT, ?_⟩
      refine WPD.two 6 7 kR ?e9_6 ?e9_7
      case' e9_6 =>
        refine WPO.eff rfl (OpE.append rfl rfl pM rD lN) rfl rfl ?_
        rintro b _ rfl
        refine ⟨sT, ?_⟩
        rw [List.nil_append]
        refine WPD.eff 7 kR rfl (OpE.buildSlice (([] : List Bool)) pA rfl (by decide)) rfl rfl ?_
        rintro s2 _ rfl
        refine ⟨sT, ?_⟩
        refine WPD.eff 10 kR rfl (OpE.append rfl rfl pM rD lN) rfl rfl ?_
        rintro c _ rfl
        refine ⟨sT, ?_⟩
        rw [List.nil_append]
        refine WPD.eff 11 kR rfl (OpE.ofPure (Op1.build xBP (by rfl))) rfl rfl ?_
        rintro _ _ ⟨rfl, rfl⟩
        refine ⟨sT, ?_⟩
        refine WPD.eff0 12 kR rfl (OpE.storeAll rfl rfl pM (by rfl) (by rfl) oN) rfl ?_
        rintro _ _ rfl
        refine ⟨sT, ?_⟩
        refine WPD.done kR ?_
      case' e9_7 =>
        refine WPO.eff rfl (OpE.buildSlice (([] : List Bool)) pA rfl (by decide)) rfl rfl ?_
        rintro s2 _ rfl
        refine ⟨sT, ?_⟩
        refine WPD.eff 6 kR rfl (OpE.append rfl rfl pM rD lN) rfl rfl ?_
        rintro b _ rfl
        refine ⟨sT, ?_⟩
        rw [List.nil_append]
        refine WPD.eff 10 kR rfl (OpE.append rfl rfl pM rD lN) rfl rfl ?_
        rintro c _ rfl
        refine ⟨sT, ?_⟩
        rw [List.nil_append]
        refine WPD.eff 11 kR rfl (OpE.ofPure (Op1.build xBP (by rfl))) rfl rfl ?_
        rintro _ _ ⟨rfl, rfl⟩
        refine ⟨sT, ?_⟩
        refine WPD.eff0 12 kR rfl (OpE.storeAll rfl rfl pM (by rfl) (by rfl) oN) rfl ?_
        rintro _ _ rfl
        refine ⟨sT, ?_⟩
        refine WPD.done kR ?_
    case' e8_7 =>
      refine WPO.eff rfl (OpE.buildSlice (([] : List Bool)) pA rfl (by decide)) rfl rfl ?_
      rintro s2 _ rfl
      refine ⟨sT, ?_⟩
      refine WPD.eff 2 kR rfl (OpE.call lO (fun w hw => g_Copy _ n vE es (Rd.at rD hw) (by omega))) rfl rfl ?_
      rintro r _ ⟨T, ⟨a, rfl, rfl⟩, rfl⟩
      refine ⟨sT, ?_⟩
      refine WPD.eff 6 kR rfl (OpE.append rfl rfl pM rD lN) rfl rfl ?_
      rintro b _ rfl
      refine ⟨sT, ?_⟩
      rw [List.nil_append]
      refine WPD.eff 10 kR rfl (OpE.append rfl rfl pM rD lN) rfl rfl ?_
      rintro c _ rfl
      refine ⟨sT, ?_⟩
      rw [List.nil_append]
      refine WPD.eff 11 kR rfl (OpE.ofPure (Op1.build xBP (by rfl))) rfl rfl ?_
      rintro _ _ ⟨rfl, rfl⟩
      refine ⟨sT, ?_⟩
      refine WPD.eff0 12 kR rfl (OpE.storeAll rfl rfl pM (by rfl) (by rfl) oN) rfl ?_
      rintro _ _ rfl
      refine ⟨sT, ?_⟩
      refine WPD.done kR ?_
  case' e5_7 =>
    refine WPO.eff rfl (OpE.buildSlice (([] : List Bool)) pA rfl (by decide)) rfl rfl ?_
    rintro s2 _ rfl
    refine ⟨sT, ?_⟩
    refine WPD.two 2 3 kR ?e10_2 ?e10_3
    case' e10_2 =>
      refine WPO.eff rfl (OpE.call lO (fun w hw => g_Copy _ n vE es (Rd.at rD hw) (by omega))) rfl rfl ?_
      rintro r _ ⟨T, ⟨a, rfl, rfl⟩, rfl⟩
      refine ⟨sT, ?_⟩
      refine WPD.eff 3 kR rfl (OpE.buildSlice (([] : List Int)) pA rfl (by decide)) rfl rfl ?_
      rintro s1 _ rfl
      refine ⟨sT, ?_⟩
      refine WPD.eff 6 kR rfl (OpE.append rfl rfl pM rD lN) rfl rfl ?_
      rintro b _ rfl
      refine ⟨sT, ?_⟩
      rw [List.nil_append]
      refine WPD.eff 10 kR rfl (OpE.append rfl rfl pM rD lN) rfl rfl ?_
      rintro c _ rfl
      refine ⟨sT, ?_⟩
      rw [List.nil_append]
      refine WPD.eff 11 kR rfl (OpE.ofPure (Op1.build xBP (by rfl))) rfl rfl ?_
      rintro _ _ ⟨rfl, rfl⟩
      refine ⟨sT, ?_⟩
      refine WPD.eff0 12 kR rfl (OpE.storeAll rfl rfl pM (by rfl) (by rfl) oN) rfl ?_
      rintro _ _ rfl
      refine ⟨sT, ?_⟩
      refine WPD.done kR ?_
    case' e10_3 =>
      refine WPO.eff rfl (OpE.buildSlice (([] : List Int)) pA rfl (by decide)) rfl rfl ?_
      rintro s1 _ rfl
      refine ⟨sT, ?_⟩
      refine WPD.eff 2 kR rfl (OpE.call lO (fun w hw => g_Copy _ n vE es (Rd.at rD hw) (by omega))) rfl rfl ?_
      rintro r _ ⟨T, ⟨a, rfl, rfl⟩, rfl⟩
      refine ⟨sT, ?_⟩
      refine WPD.eff 6 kR rfl (OpE.append rfl rfl pM rD lN) rfl rfl ?_
      rintro b _ rfl
      refine ⟨sT, ?_⟩
      rw [List.nil_append]
      refine WPD.eff 10 kR rfl (OpE.append rfl rfl pM rD lN) rfl rfl ?_
      rintro c _ rfl
      refine ⟨sT, ?_⟩
      rw [List.nil_append]
      refine WPD.eff 11 kR rfl (OpE.ofPure (Op1.build xBP (by rfl))) rfl rfl ?_
      rintro _ _ ⟨rfl, rfl⟩
      refine ⟨sT, ?_⟩
      refine WPD.eff0 12 kR rfl (OpE.storeAll rfl rfl pM (by rfl) (by rfl) oN) rfl ?_
      rintro _ _ rfl
      refine ⟨sT, ?_⟩
      refine WPD.done kR ?_
  all_goals (
    try refine go ⟨?_⟩
    refine PE.ret1 (T := []) (T' := [Tok.own a es, Tok.own b lv, Tok.own c tr]) rfl rV ?_ sT
    exact ⟨a, b, c, rfl, rfl⟩)
end Go.Proofs.Ytfigegmgopnfhaa
/- The second program's drawn graphs with levels: their shape (l7Put, l7Cut, PutLevel, l7Of). Conditions: those of each contract. -/
namespace Go.Proofs.Ytfigegmgopnfhaa
open Go
set_option linter.unusedVariables false set_option linter.unusedSimpArgs false attribute [local irreducible] Tok.own Tok.blk RL Rd eptr WP WPL PE WPD WPO Op1 OpE Tri Again Mid Exit.then Exit.inBlock bodyPost RP Code.wp wpList isOwn OneM One
attribute [local irreducible] LVok GV insP putOk
set_option maxHeartbeats 16000000

theorem g_l7Put (w : World) (n : Int) (vE vL vT : Value) (es : List E) (lv : List Int) (tr : List Bool) (e : E) (bt : Bool) (hE : RL w vE es) (hL : RL w vL lv) (hT : RL w vT tr) (h0 : es.length ≤ 1000) (h1 : lv.length = es.length) (h2 : tr.length = es.length) :
    Tri Try.prog 159 [.agg #[.int .i64 n, vE, vL, vT], ep e, .bool bt] w [] fun r T => ∃ a b c, ∃ lv' : List Int, ∃ tr' : List Bool, r = .agg #[.int .i64 n, a, b, c] ∧ T = [Tok.own a (insP es e), Tok.own b lv', Tok.own c tr'] ∧ lv'.length = es.length + 1 ∧ tr'.length = es.length + 1 := by
  have hil := insP_len es e
  refine Tri.intro (hf := Try.func159) (hb := rfl) (hn := Try.ntmps159) (Nat.le_of_ble_eq_true rfl) ?_
  try refine go ⟨?_⟩
  refine WPL.eff (OpE.box rfl) rfl rfl ?_; rintro _ _ ⟨b3, rfl, rfl⟩
  refine WPL.eff (OpE.box rfl) rfl rfl ?_; rintro _ _ ⟨b4, rfl, rfl⟩
  refine WPL.eff OpE.alloc rfl rfl ?_; rintro _ _ ⟨b6, rfl, rfl⟩
  try refine go ⟨?_⟩
  refine WP.cutK (σ := Value × Nat) (fun q => [(2, .bool bt), (3, ptrV b3), (4, ptrV b4), (6, ptrV b6), (7, ptrV q.2)]) (fun q => [Tok.blk q.2 [.int .i64 n, q.1, .slice none 0 0, .slice none 0 0], Tok.own q.1 (insP es e), Tok.blk b6 [.int .i64 0, .slice none 0 0, .slice none 0 0, .slice none 0 0], Tok.blk b4 [.int .i64 e.A, .int .i64 e.B], Tok.blk b3 [.int .i64 n, vE, vL, vT]]) (fun _ => True) ?_ ?_
  · refine WP.draw [Tok.blk b6 [.int .i64 0, .slice none 0 0, .slice none 0 0, .slice none 0 0], Tok.blk b4 [.int .i64 e.A, .int .i64 e.B], Tok.blk b3 [.int .i64 n, vE, vL, vT]] mixed ?_
    refine WPD.take 0 rfl (by first | exact (Op1.fieldAddr rfl) | exact (Op1.fieldAddrE rfl rD lT)) rfl rfl sT kR kR kR xQP ?_
    refine WPD.take 3 rfl (by first | exact (Op1.fieldAddr rfl) | exact (Op1.fieldAddrE rfl rD lT)) rfl rfl sT kR kR kR xQP ?_
    refine WPD.take 6 rfl (by first | exact (Op1.load rfl mM (by rfl)) | exact (Op1.loadI rfl rD lT) | exact (Op1.loadAll rfl mM (by rfl)) | exact (Op1.loadE rfl rD lT (by rfl)) | exact (Op1.loadEAgg rfl rD lT (by rfl))) rfl rfl sT kR kR kR xQP ?_
    refine WPD.take 1 rfl (by first | exact (Op1.fieldAddr rfl) | exact (Op1.fieldAddrE rfl rD lT)) rfl rfl sT kR kR kR xQP ?_
    refine WPD.take 4 rfl (by first | exact (Op1.fieldAddr rfl) | exact (Op1.fieldAddrE rfl rD lT)) rfl rfl sT kR kR kR xQP ?_
    refine WPD.take 2 rfl (by first | exact (Op1.load rfl mM (by rfl)) | exact (Op1.loadI rfl rD lT) | exact (Op1.loadAll rfl mM (by rfl)) | exact (Op1.loadE rfl rD lT (by rfl)) | exact (Op1.loadEAgg rfl rD lT (by rfl))) rfl rfl sT kR kR kR xQP ?_
    refine WPD.take 5 rfl (by first | exact (Op1.load rfl mM (by rfl)) | exact (Op1.loadI rfl rD lT) | exact (Op1.loadAll rfl mM (by rfl)) | exact (Op1.loadE rfl rD lT (by rfl)) | exact (Op1.loadEAgg rfl rD lT (by rfl))) rfl rfl sT kR kR kR xQP ?_
    refine WPD.two 7 10 kR ?e1_7 ?e1_10
    case' e1_7 =>
      refine WPO.eff rfl (OpE.call lO (fun w hw => s_Put _ vE e es (Rd.at rD hw) (by omega))) rfl rfl ?_
      rintro v1 _ ⟨T, rfl, rfl⟩
      refine ⟨sT, ?_⟩
      refine WPD.two 8 10 kR ?e2_8 ?e2_10
      case' e2_8 =>
        refine WPO.eff rfl (OpE.ofPure (Op1.build xBP (by rfl))) rfl rfl ?_
        rintro _ _ ⟨rfl, rfl⟩
        refine ⟨sT, ?_⟩
        refine WPD.two 9 10 kR ?e3_9 ?e3_10
        case' e3_9 =>
          refine WPO.eff rfl (OpE.ofPure (Op1.build xBP (by rfl))) rfl rfl ?_
          rintro _ _ ⟨rfl, rfl⟩
          refine ⟨sT, ?_⟩
          refine WPD.eff 10 kR rfl OpE.alloc rfl rfl ?_
          rintro _ _ ⟨b7, rfl, rfl⟩
          refine ⟨sT, ?_⟩
          refine WPD.eff0 11 kR rfl (OpE.storeAll rfl rfl pM (by rfl) (by rfl) oN) rfl ?_
          rintro _ _ rfl
          refine ⟨sT, ?_⟩
          refine WPD.done kR ?_
        case' e3_10 =>
          refine WPO.eff rfl OpE.alloc rfl rfl ?_
          rintro _ _ ⟨b7, rfl, rfl⟩
          refine ⟨sT, ?_⟩
          refine WPD.eff 9 kR rfl (OpE.ofPure (Op1.build xBP (by rfl))) rfl rfl ?_
          rintro _ _ ⟨rfl, rfl⟩
          refine ⟨sT, ?_⟩
          refine WPD.eff0 11 kR rfl (OpE.storeAll rfl rfl pM (by rfl) (by rfl) oN) rfl ?_
          rintro _ _ rfl
          refine ⟨sT, ?_⟩
          refine WPD.done kR ?_
      case' e2_10 =>
        refine WPO.eff rfl OpE.alloc rfl rfl ?_
        rintro _ _ ⟨b7, rfl, rfl⟩
        refine ⟨sT, ?_⟩
        refine WPD.eff 8 kR rfl (OpE.ofPure (Op1.build xBP (by rfl))) rfl rfl ?_
        rintro _ _ ⟨rfl, rfl⟩
        refine ⟨sT, ?_⟩
        refine WPD.eff 9 kR rfl (OpE.ofPure (Op1.build xBP (by rfl))) rfl rfl ?_
        rintro _ _ ⟨rfl, rfl⟩
        refine ⟨sT, ?_⟩
        refine WPD.eff0 11 kR rfl (OpE.storeAll rfl rfl pM (by rfl) (by rfl) oN) rfl ?_
        rintro _ _ rfl
        refine ⟨sT, ?_⟩
        refine WPD.done kR ?_
    case' e1_10 =>
      refine WPO.eff rfl OpE.alloc rfl rfl ?_
      rintro _ _ ⟨b7, rfl, rfl⟩
      refine ⟨sT, ?_⟩
      refine WPD.eff 7 kR rfl (OpE.call lO (fun w hw => s_Put _ vE e es (Rd.at rD hw) (by omega))) rfl rfl ?_
      rintro v1 _ ⟨T, rfl, rfl⟩
      refine ⟨sT, ?_⟩
      refine WPD.eff 8 kR rfl (OpE.ofPure (Op1.build xBP (by rfl))) rfl rfl ?_
      rintro _ _ ⟨rfl, rfl⟩
      refine ⟨sT, ?_⟩
      refine WPD.eff 9 kR rfl (OpE.ofPure (Op1.build xBP (by rfl))) rfl rfl ?_
      rintro _ _ ⟨rfl, rfl⟩
      refine ⟨sT, ?_⟩
      refine WPD.eff0 11 kR rfl (OpE.storeAll rfl rfl pM (by rfl) (by rfl) oN) rfl ?_
      rintro _ _ rfl
      refine ⟨sT, ?_⟩
      refine WPD.done kR ?_
    all_goals (refine PE.mid (v1, b7) trivial sE sT)
  rintro ⟨v1, b7⟩ _
  dsimp only
  generalize insP es e = X at *
  try refine go ⟨?_⟩
  refine WP.nilTok Int ?_
  refine WP.nilTok Bool ?_
  refine WP.loop (σ := Nat × Value × Value × List Int × List Bool) (fun q => [(2, .bool bt), (3, ptrV b3), (4, ptrV b4), (6, ptrV b6), (7, ptrV b7), (8, .int .i64 q.1)])
    (fun q => [Tok.blk b7 [.int .i64 n, v1, q.2.1, q.2.2.1], Tok.own q.2.1 q.2.2.2.1, Tok.own q.2.2.1 q.2.2.2.2, Tok.own v1 X, Tok.blk b6 [.int .i64 0, .slice none 0 0, .slice none 0 0, .slice none 0 0], Tok.blk b4 [.int .i64 e.A, .int .i64 e.B], Tok.blk b3 [.int .i64 n, vE, vL, vT]])
    (fun q => q.1 ≤ X.length ∧ q.2.2.2.1.length = q.1 ∧ q.2.2.2.2.length = q.1) (fun q => X.length - q.1) (0, .slice none 0 0, .slice none 0 0, [], []) ⟨Nat.zero_le _, rfl, rfl⟩ sE sT ?_
  rintro ⟨i, vl, vt, lw, tw⟩ ⟨hi, g1, g2⟩
  dsimp only at hi g1 g2 ⊢
  try refine go ⟨?_⟩
  refine WP.condD rfl (fun hc => ?_) (fun hc => ?_)
  · have hi' : i < X.length := by omega
    try refine go ⟨?_⟩
    refine WP.cutK (σ := Int) (fun k => [(2, .bool bt), (3, ptrV b3), (4, ptrV b4), (6, ptrV b6), (7, ptrV b7), (8, .int .i64 i), (9, .int .i64 k)])
      (fun _ => [Tok.blk b7 [.int .i64 n, v1, vl, vt], Tok.own vl lw, Tok.own vt tw, Tok.own v1 X, Tok.blk b6 [.int .i64 0, .slice none 0 0, .slice none 0 0, .slice none 0 0], Tok.blk b4 [.int .i64 e.A, .int .i64 e.B], Tok.blk b3 [.int .i64 n, vE, vL, vT]]) (fun k => -1 ≤ k ∧ k < es.length) ?_ ?_
    · refine WP.draw [Tok.blk b7 [.int .i64 n, v1, vl, vt], Tok.own vl lw, Tok.own vt tw, Tok.own v1 X, Tok.blk b6 [.int .i64 0, .slice none 0 0, .slice none 0 0, .slice none 0 0], Tok.blk b4 [.int .i64 e.A, .int .i64 e.B], Tok.blk b3 [.int .i64 n, vE, vL, vT]] mixed ?_
      refine WPD.take 0 rfl (by first | exact (Op1.fieldAddr rfl) | exact (Op1.fieldAddrE rfl rD lT)) rfl rfl sT kR kR kR xQP ?_
      refine WPD.take 3 rfl (by first | exact (Op1.fieldAddr rfl) | exact (Op1.fieldAddrE rfl rD lT)) rfl rfl sT kR kR kR xQP ?_
      refine WPD.take 6 rfl (Op1.move rfl) rfl rfl sT kR kR kR xQP ?_
      refine WPD.take 1 rfl (by first | exact (Op1.fieldAddr rfl) | exact (Op1.fieldAddrE rfl rD lT)) rfl rfl sT kR kR kR xQP ?_
      refine WPD.take 4 rfl (by first | exact (Op1.fieldAddr rfl) | exact (Op1.fieldAddrE rfl rD lT)) rfl rfl sT kR kR kR xQP ?_
      refine WPD.take 2 rfl (by first | exact (Op1.load rfl mM (by rfl)) | exact (Op1.loadI rfl rD lT) | exact (Op1.loadAll rfl mM (by rfl)) | exact (Op1.loadE rfl rD lT (by rfl)) | exact (Op1.loadEAgg rfl rD lT (by rfl))) rfl rfl sT kR kR kR xQP ?_
      refine WPD.take 5 rfl (by first | exact (Op1.load rfl mM (by rfl)) | exact (Op1.loadI rfl rD lT) | exact (Op1.loadAll rfl mM (by rfl)) | exact (Op1.loadE rfl rD lT (by rfl)) | exact (Op1.loadEAgg rfl rD lT (by rfl))) rfl rfl sT kR kR kR xQP ?_
      refine WPD.take 7 rfl (by first | exact (Op1.indexAddr rfl rfl rD lT) | exact (Op1.indexAddrZ rfl rfl rD lT)) rfl rfl sT kR kR kR xQP ?_
      refine WPD.take 8 rfl (by first | exact (Op1.load rfl mM (by rfl)) | exact (Op1.loadI rfl rD lT) | exact (Op1.loadAll rfl mM (by rfl)) | exact (Op1.loadE rfl rD lT (by rfl)) | exact (Op1.loadEAgg rfl rD lT (by rfl))) rfl rfl sT kR kR kR xQP ?_
      refine WPD.eff 9 kR rfl (OpE.call lO (fun w hw => g_FindB _ vE (X.getD i (Enc.d : E)) es (Rd.at rD hw) (by omega))) rfl rfl ?_
      rintro r _ ⟨T, ⟨rfl, k, rfl, hk⟩, rfl⟩
      refine ⟨sT, ?_⟩
      refine WPD.take 10 rfl (Op1.assign rfl) rfl rfl sT kR kR kR xQP ?_
      refine WPD.done kR ?_
      all_goals (refine PE.mid k hk sE sT)
    rintro k ⟨hk1, hk2⟩
    try refine go ⟨?_⟩
    refine WP.condD rfl (fun hk => ?_) (fun hk => ?_)
    · try refine go ⟨?_⟩
      refine WPL.eff (OpE.buildSlice [(0 : Int)] pA rfl (by decide)) rfl rfl ?_; rintro s1 _ rfl
      try refine go ⟨?_⟩
      refine WPL.eff (OpE.append rfl rfl pM rD lN) rfl rfl ?_; rintro vl1 _ rfl
      try refine go ⟨?_⟩
      refine WPL.eff (OpE.buildSlice [bt] pA rfl (by decide)) rfl rfl ?_; rintro s2 _ rfl
      try refine go ⟨?_⟩
      refine WPL.eff (OpE.append rfl rfl pM rD lN) rfl rfl ?_; rintro vt1 _ rfl
      try refine go ⟨?_⟩
      refine PE.again (i + 1, vl1, vt1, lw ++ [(0 : Int)], tw ++ [bt]) ?_ ?_ sE sT
      · refine ⟨by (try dsimp only); omega, ?_, ?_⟩
        · dsimp only; rw [List.length_append, g1]; rfl
        · dsimp only; rw [List.length_append, g2]; rfl
      · (try dsimp only); omega
    · obtain ⟨k, rfl⟩ := Int.eq_ofNat_of_zero_le (show 0 ≤ k by omega)
      try refine go ⟨?_⟩
      refine WP.cutK (σ := Value) (fun u => [(2, .bool bt), (3, ptrV b3), (4, ptrV b4), (6, ptrV b6), (7, ptrV b7), (8, .int .i64 i), (9, .int .i64 k)])
        (fun u => [Tok.blk b7 [.int .i64 n, v1, u, vt], Tok.own u (lw ++ [lv.getD k 0]), Tok.own vt tw, Tok.own v1 X, Tok.blk b6 [.int .i64 0, .slice none 0 0, .slice none 0 0, .slice none 0 0], Tok.blk b4 [.int .i64 e.A, .int .i64 e.B], Tok.blk b3 [.int .i64 n, vE, vL, vT]]) (fun _ => True) ?_ ?_
      · refine WP.draw [Tok.own vt tw, Tok.own v1 X, Tok.blk b6 [.int .i64 0, .slice none 0 0, .slice none 0 0, .slice none 0 0], Tok.blk b4 [.int .i64 e.A, .int .i64 e.B], Tok.blk b3 [.int .i64 n, vE, vL, vT]] mixed ?_
        refine WPD.take 2 rfl (by first | exact (Op1.fieldAddr rfl) | exact (Op1.fieldAddrE rfl rD lT)) rfl rfl sT kR kR kR xQP ?_
        refine WPD.take 4 rfl (Op1.move rfl) rfl rfl sT kR kR kR xQP ?_
        refine WPD.take 3 rfl (by first | exact (Op1.load rfl mM (by rfl)) | exact (Op1.loadI rfl rD lT) | exact (Op1.loadAll rfl mM (by rfl)) | exact (Op1.loadE rfl rD lT (by rfl)) | exact (Op1.loadEAgg rfl rD lT (by rfl))) rfl rfl sT kR kR kR xQP ?_
        refine WPD.take 5 rfl (by first | exact (Op1.indexAddr rfl rfl rD lT) | exact (Op1.indexAddrZ rfl rfl rD lT)) rfl rfl sT kR kR kR xQP ?_
        refine WPD.take 6 rfl (by first | exact (Op1.load rfl mM (by rfl)) | exact (Op1.loadI rfl rD lT) | exact (Op1.loadAll rfl mM (by rfl)) | exact (Op1.loadE rfl rD lT (by rfl)) | exact (Op1.loadEAgg rfl rD lT (by rfl))) rfl rfl sT kR kR kR xQP ?_
        refine WPD.two 0 7 kR ?e4_0 ?e4_7
        case' e4_0 =>
          refine WPO.eff rfl (OpE.ofPure (by first | exact (Op1.fieldAddr rfl) | exact (Op1.fieldAddrE rfl rD lT))) rfl rfl ?_
          rintro _ _ ⟨rfl, rfl⟩
          refine ⟨sT, ?_⟩
          refine WPD.two 1 7 kR ?e5_1 ?e5_7
          case' e5_1 =>
            refine WPO.eff rfl (OpE.ofPure (by first | exact (Op1.load rfl mM (by rfl)) | exact (Op1.loadI rfl rD lT) | exact (Op1.loadAll rfl mM (by rfl)) | exact (Op1.loadE rfl rD lT (by rfl)) | exact (Op1.loadEAgg rfl rD lT (by rfl)))) rfl rfl ?_
            rintro _ _ ⟨rfl, rfl⟩
            refine ⟨sT, ?_⟩
            refine WPD.eff 7 kR rfl (OpE.buildSlice ([lv.getD k 0]) pA rfl (by decide)) rfl rfl ?_
            rintro s1 _ rfl
            refine ⟨sT, ?_⟩
            refine WPD.eff 8 kR rfl (OpE.append rfl rfl pM rD lN) rfl rfl ?_
            rintro vl1 _ rfl
            refine ⟨sT, ?_⟩
            refine WPD.eff 9 kR rfl (OpE.ofPure (by first | exact (Op1.fieldAddr rfl) | exact (Op1.fieldAddrE rfl rD lT))) rfl rfl ?_
            rintro _ _ ⟨rfl, rfl⟩
            refine ⟨sT, ?_⟩
            refine WPD.eff0 10 kR rfl (OpE.store rfl rfl pM (by rfl) oN) rfl ?_
            rintro _ _ rfl
            refine ⟨sT, ?_⟩
            refine WPD.done kR ?_
          case' e5_7 =>
            refine WPO.eff rfl (OpE.buildSlice ([lv.getD k 0]) pA rfl (by decide)) rfl rfl ?_
            rintro s1 _ rfl
            refine ⟨sT, ?_⟩
            refine WPD.eff 1 kR rfl (OpE.ofPure (by first | exact (Op1.load rfl mM (by rfl)) | exact (Op1.loadI rfl rD lT) | exact (Op1.loadAll rfl mM (by rfl)) | exact (Op1.loadE rfl rD lT (by rfl)) | exact (Op1.loadEAgg rfl rD lT (by rfl)))) rfl rfl ?_
            rintro _ _ ⟨rfl, rfl⟩
            refine ⟨sT, ?_⟩
            refine WPD.eff 8 kR rfl (OpE.append rfl rfl pM rD lN) rfl rfl ?_
            rintro vl1 _ rfl
            refine ⟨sT, ?_⟩
            refine WPD.eff 9 kR rfl (OpE.ofPure (by first | exact (Op1.fieldAddr rfl) | exact (Op1.fieldAddrE rfl rD lT))) rfl rfl ?_
            rintro _ _ ⟨rfl, rfl⟩
            refine ⟨sT, ?_⟩
            refine WPD.eff0 10 kR rfl (OpE.store rfl rfl pM (by rfl) oN) rfl ?_
            rintro _ _ rfl
            refine ⟨sT, ?_⟩
            refine WPD.done kR ?_
        case' e4_7 =>
          refine WPO.eff rfl (OpE.buildSlice ([lv.getD k 0]) pA rfl (by decide)) rfl rfl ?_
          rintro s1 _ rfl
          refine ⟨sT, ?_⟩
          refine WPD.eff 0 kR rfl (OpE.ofPure (by first | exact (Op1.fieldAddr rfl) | exact (Op1.fieldAddrE rfl rD lT))) rfl rfl ?_
          rintro _ _ ⟨rfl, rfl⟩
          refine ⟨sT, ?_⟩
          refine WPD.eff 1 kR rfl (OpE.ofPure (by first | exact (Op1.load rfl mM (by rfl)) | exact (Op1.loadI rfl rD lT) | exact (Op1.loadAll rfl mM (by rfl)) | exact (Op1.loadE rfl rD lT (by rfl)) | exact (Op1.loadEAgg rfl rD lT (by rfl)))) rfl rfl ?_
          rintro _ _ ⟨rfl, rfl⟩
          refine ⟨sT, ?_⟩
          refine WPD.eff 8 kR rfl (OpE.append rfl rfl pM rD lN) rfl rfl ?_
          rintro vl1 _ rfl
          refine ⟨sT, ?_⟩
          refine WPD.eff 9 kR rfl (OpE.ofPure (by first | exact (Op1.fieldAddr rfl) | exact (Op1.fieldAddrE rfl rD lT))) rfl rfl ?_
          rintro _ _ ⟨rfl, rfl⟩
          refine ⟨sT, ?_⟩
          refine WPD.eff0 10 kR rfl (OpE.store rfl rfl pM (by rfl) oN) rfl ?_
          rintro _ _ rfl
          refine ⟨sT, ?_⟩
          refine WPD.done kR ?_
        all_goals (refine PE.mid vl1 trivial sE sT)
      rintro vl1 _
      try refine go ⟨?_⟩
      refine WP.draw [Tok.own vl1 (lw ++ [lv.getD k 0]), Tok.own v1 X, Tok.blk b6 [.int .i64 0, .slice none 0 0, .slice none 0 0, .slice none 0 0], Tok.blk b4 [.int .i64 e.A, .int .i64 e.B], Tok.blk b3 [.int .i64 n, vE, vL, vT]] mixed ?_
      refine WPD.take 2 rfl (by first | exact (Op1.fieldAddr rfl) | exact (Op1.fieldAddrE rfl rD lT)) rfl rfl sT kR kR kR xQP ?_
      refine WPD.take 4 rfl (Op1.move rfl) rfl rfl sT kR kR kR xQP ?_
      refine WPD.take 3 rfl (by first | exact (Op1.load rfl mM (by rfl)) | exact (Op1.loadI rfl rD lT) | exact (Op1.loadAll rfl mM (by rfl)) | exact (Op1.loadE rfl rD lT (by rfl)) | exact (Op1.loadEAgg rfl rD lT (by rfl))) rfl rfl sT kR kR kR xQP ?_
      refine WPD.take 5 rfl (by first | exact (Op1.indexAddr rfl rfl rD lT) | exact (Op1.indexAddrZ rfl rfl rD lT)) rfl rfl sT kR kR kR xQP ?_
      refine WPD.take 6 rfl (Op1.loadBl rfl rD lT) rfl rfl sT kR kR kR xQP ?_
      refine WPD.two 0 7 kR ?e6_0 ?e6_7
      case' e6_0 =>
        refine WPO.eff rfl (OpE.ofPure (by first | exact (Op1.fieldAddr rfl) | exact (Op1.fieldAddrE rfl rD lT))) rfl rfl ?_
        rintro _ _ ⟨rfl, rfl⟩
        refine ⟨sT, ?_⟩
        refine WPD.two 1 7 kR ?e7_1 ?e7_7
        case' e7_1 =>
          refine WPO.eff rfl (OpE.ofPure (by first | exact (Op1.load rfl mM (by rfl)) | exact (Op1.loadI rfl rD lT) | exact (Op1.loadAll rfl mM (by rfl)) | exact (Op1.loadE rfl rD lT (by rfl)) | exact (Op1.loadEAgg rfl rD lT (by rfl)))) rfl rfl ?_
          rintro _ _ ⟨rfl, rfl⟩
          refine ⟨sT, ?_⟩
          refine WPD.eff 7 kR rfl (OpE.buildSlice ([tr.getD k false]) pA rfl (by decide)) rfl rfl ?_
          rintro s2 _ rfl
          refine ⟨sT, ?_⟩
          refine WPD.eff 8 kR rfl (OpE.append rfl rfl pM rD lN) rfl rfl ?_
          rintro vt1 _ rfl
          refine ⟨sT, ?_⟩
          refine WPD.eff 9 kR rfl (OpE.ofPure (by first | exact (Op1.fieldAddr rfl) | exact (Op1.fieldAddrE rfl rD lT))) rfl rfl ?_
          rintro _ _ ⟨rfl, rfl⟩
          refine ⟨sT, ?_⟩
          refine WPD.eff0 10 kR rfl (OpE.store rfl rfl pM (by rfl) oN) rfl ?_
          rintro _ _ rfl
          refine ⟨sT, ?_⟩
          refine WPD.done kR ?_
        case' e7_7 =>
          refine WPO.eff rfl (OpE.buildSlice ([tr.getD k false]) pA rfl (by decide)) rfl rfl ?_
          rintro s2 _ rfl
          refine ⟨sT, ?_⟩
          refine WPD.eff 1 kR rfl (OpE.ofPure (by first | exact (Op1.load rfl mM (by rfl)) | exact (Op1.loadI rfl rD lT) | exact (Op1.loadAll rfl mM (by rfl)) | exact (Op1.loadE rfl rD lT (by rfl)) | exact (Op1.loadEAgg rfl rD lT (by rfl)))) rfl rfl ?_
          rintro _ _ ⟨rfl, rfl⟩
          refine ⟨sT, ?_⟩
          refine WPD.eff 8 kR rfl (OpE.append rfl rfl pM rD lN) rfl rfl ?_
          rintro vt1 _ rfl
          refine ⟨sT, ?_⟩
          refine WPD.eff 9 kR rfl (OpE.ofPure (by first | exact (Op1.fieldAddr rfl) | exact (Op1.fieldAddrE rfl rD lT))) rfl rfl ?_
          rintro _ _ ⟨rfl, rfl⟩
          refine ⟨sT, ?_⟩
          refine WPD.eff0 10 kR rfl (OpE.store rfl rfl pM (by rfl) oN) rfl ?_
          rintro _ _ rfl
          refine ⟨sT, ?_⟩
          refine WPD.done kR ?_
      case' e6_7 =>
        refine WPO.eff rfl (OpE.buildSlice ([tr.getD k false]) pA rfl (by decide)) rfl rfl ?_
        rintro s2 _ rfl
        refine ⟨sT, ?_⟩
        refine WPD.eff 0 kR rfl (OpE.ofPure (by first | exact (Op1.fieldAddr rfl) | exact (Op1.fieldAddrE rfl rD lT))) rfl rfl ?_
        rintro _ _ ⟨rfl, rfl⟩
        refine ⟨sT, ?_⟩
        refine WPD.eff 1 kR rfl (OpE.ofPure (by first | exact (Op1.load rfl mM (by rfl)) | exact (Op1.loadI rfl rD lT) | exact (Op1.loadAll rfl mM (by rfl)) | exact (Op1.loadE rfl rD lT (by rfl)) | exact (Op1.loadEAgg rfl rD lT (by rfl)))) rfl rfl ?_
        rintro _ _ ⟨rfl, rfl⟩
        refine ⟨sT, ?_⟩
        refine WPD.eff 8 kR rfl (OpE.append rfl rfl pM rD lN) rfl rfl ?_
        rintro vt1 _ rfl
        refine ⟨sT, ?_⟩
        refine WPD.eff 9 kR rfl (OpE.ofPure (by first | exact (Op1.fieldAddr rfl) | exact (Op1.fieldAddrE rfl rD lT))) rfl rfl ?_
        rintro _ _ ⟨rfl, rfl⟩
        refine ⟨sT, ?_⟩
        refine WPD.eff0 10 kR rfl (OpE.store rfl rfl pM (by rfl) oN) rfl ?_
        rintro _ _ rfl
        refine ⟨sT, ?_⟩
        refine WPD.done kR ?_
      all_goals (
        try refine go ⟨?_⟩
        refine PE.again (i + 1, vl1, vt1, lw ++ [lv.getD k 0], tw ++ [tr.getD k false]) ?_ ?_ sE sT
        · refine ⟨by (try dsimp only); omega, ?_, ?_⟩
          · dsimp only; rw [List.length_append, g1]; rfl
          · dsimp only; rw [List.length_append, g2]; rfl
        · (try dsimp only); omega)
  · have hin : i = X.length := by omega
    subst hin
    try refine go ⟨?_⟩
    refine PE.ret1 (T := []) (T' := [Tok.own v1 X, Tok.own vl lw, Tok.own vt tw]) rfl rV ?_ sT
    exact ⟨v1, vl, vt, lw, tw, rfl, rfl, by omega, by omega⟩

theorem g_l7Cut (w : World) (n : Int) (vE vL vT : Value) (es : List E) (lv : List Int) (tr : List Bool) (at_ : Int) (hE : RL w vE es) (hL : RL w vL lv) (hT : RL w vT tr) (h0 : es.length ≤ 1000) (h1 : lv.length = es.length) (h2 : tr.length = es.length) :
    Tri Try.prog 160 [.agg #[.int .i64 n, vE, vL, vT], .int .i64 at_] w [] fun r T => ∃ a b c, ∃ es' : List E, ∃ lv' : List Int, ∃ tr' : List Bool, r = .agg #[.int .i64 n, a, b, c] ∧ T = [Tok.own a es', Tok.own b lv', Tok.own c tr'] ∧ es'.length ≤ es.length ∧ lv'.length = es'.length ∧ tr'.length = es'.length := by
  refine Tri.intro (hf := Try.func160) (hb := rfl) (hn := Try.ntmps160) (Nat.le_of_ble_eq_true rfl) ?_
  try refine go ⟨?_⟩
  refine WPL.eff (OpE.box rfl) rfl rfl ?_; rintro _ _ ⟨b2, rfl, rfl⟩
  refine WPL.eff OpE.alloc rfl rfl ?_; rintro _ _ ⟨b4, rfl, rfl⟩
  try refine go ⟨?_⟩
  refine WPL.eff (OpE.buildSlice ([] : List E) pA rfl (by decide)) rfl rfl ?_; rintro s0 _ rfl
  try refine go ⟨?_⟩
  refine WPL.eff OpE.alloc rfl rfl ?_; rintro _ _ ⟨b5, rfl, rfl⟩
  try refine go ⟨?_⟩
  refine WP.nilTok Int ?_
  refine WP.nilTok Bool ?_
  refine WP.loop (σ := Nat × (Value × Value × Value) × List E × List Int × List Bool) (fun q => [(1, .int .i64 at_), (2, ptrV b2), (4, ptrV b4), (5, ptrV b5), (6, .int .i64 q.1)])
    (fun q => [Tok.blk b5 [.int .i64 n, q.2.1.1, q.2.1.2.1, q.2.1.2.2], Tok.own q.2.1.1 q.2.2.1, Tok.own q.2.1.2.1 q.2.2.2.1, Tok.own q.2.1.2.2 q.2.2.2.2, Tok.blk b4 [.int .i64 0, .slice none 0 0, .slice none 0 0, .slice none 0 0], Tok.blk b2 [.int .i64 n, vE, vL, vT]])
    (fun q => q.1 ≤ es.length ∧ q.2.2.1.length ≤ q.1 ∧ q.2.2.2.1.length = q.2.2.1.length ∧ q.2.2.2.2.length = q.2.2.1.length) (fun q => es.length - q.1) (0, (s0, .slice none 0 0, .slice none 0 0), [], [], []) ⟨Nat.zero_le _, Nat.le_refl _, rfl, rfl⟩ sE sT ?_
  rintro ⟨i, ⟨a, b, c⟩, ew, lw, tw⟩ ⟨hi, g0, g1, g2⟩
  dsimp only at hi g0 g1 g2 ⊢
  try refine go ⟨?_⟩
  refine WP.condD rfl (fun hc => ?_) (fun hc => ?_)
  · have hi' : i < es.length := by omega
    try refine go ⟨?_⟩
    refine WP.condD rfl (fun hne => ?_) (fun hne => ?_)
    · try refine go ⟨?_⟩
      refine WP.cutK (σ := Value) (fun u => [(1, .int .i64 at_), (2, ptrV b2), (4, ptrV b4), (5, ptrV b5), (6, .int .i64 i)])
        (fun u => [Tok.blk b5 [.int .i64 n, u, b, c], Tok.own u (ew ++ [es.getD i (Enc.d : E)]), Tok.own b lw, Tok.own c tw, Tok.blk b4 [.int .i64 0, .slice none 0 0, .slice none 0 0, .slice none 0 0], Tok.blk b2 [.int .i64 n, vE, vL, vT]]) (fun _ => True) ?_ ?_
      · refine WP.draw [Tok.own b lw, Tok.own c tw, Tok.blk b4 [.int .i64 0, .slice none 0 0, .slice none 0 0, .slice none 0 0], Tok.blk b2 [.int .i64 n, vE, vL, vT]] mixed ?_
        refine WPD.take 3 rfl (by first | exact (Op1.fieldAddr rfl) | exact (Op1.fieldAddrE rfl rD lT)) rfl rfl sT kR kR kR xQP ?_
        refine WPD.take 6 rfl (Op1.move rfl) rfl rfl sT kR kR kR xQP ?_
        refine WPD.take 4 rfl (by first | exact (Op1.fieldAddr rfl) | exact (Op1.fieldAddrE rfl rD lT)) rfl rfl sT kR kR kR xQP ?_
        refine WPD.take 5 rfl (by first | exact (Op1.load rfl mM (by rfl)) | exact (Op1.loadI rfl rD lT) | exact (Op1.loadAll rfl mM (by rfl)) | exact (Op1.loadE rfl rD lT (by rfl)) | exact (Op1.loadEAgg rfl rD lT (by rfl))) rfl rfl sT kR kR kR xQP ?_
        refine WPD.take 7 rfl (by first | exact (Op1.indexAddr rfl rfl rD lT) | exact (Op1.indexAddrZ rfl rfl rD lT)) rfl rfl sT kR kR kR xQP ?_
        refine WPD.take 8 rfl (by first | exact (Op1.load rfl mM (by rfl)) | exact (Op1.loadI rfl rD lT) | exact (Op1.loadAll rfl mM (by rfl)) | exact (Op1.loadE rfl rD lT (by rfl)) | exact (Op1.loadEAgg rfl rD lT (by rfl))) rfl rfl sT kR kR kR xQP ?_
        refine WPD.two 0 9 kR ?e8_0 ?e8_9
        case' e8_0 =>
          refine WPO.eff rfl (OpE.ofPure (by first | exact (Op1.fieldAddr rfl) | exact (Op1.fieldAddrE rfl rD lT))) rfl rfl ?_
          rintro _ _ ⟨rfl, rfl⟩
          refine ⟨sT, ?_⟩
          refine WPD.two 1 9 kR ?e9_1 ?e9_9
          case' e9_1 =>
            refine WPO.eff rfl (OpE.ofPure (by first | exact (Op1.fieldAddr rfl) | exact (Op1.fieldAddrE rfl rD lT))) rfl rfl ?_
            rintro _ _ ⟨rfl, rfl⟩
            refine ⟨sT, ?_⟩
            refine WPD.two 2 9 kR ?e10_2 ?e10_9
            case' e10_2 =>
              refine WPO.eff rfl (OpE.ofPure (by first | exact (Op1.load rfl mM (by rfl)) | exact (Op1.loadI rfl rD lT) | exact (Op1.loadAll rfl mM (by rfl)) | exact (Op1.loadE rfl rD lT (by rfl)) | exact (Op1.loadEAgg rfl rD lT (by rfl)))) rfl rfl ?_
              rintro _ _ ⟨rfl, rfl⟩
              refine ⟨sT, ?_⟩
              refine WPD.eff 9 kR rfl (OpE.buildSlice ([es.getD i (Enc.d : E)]) pA rfl (by decide)) rfl rfl ?_
              rintro s1 _ rfl
              refine ⟨sT, ?_⟩
              refine WPD.eff 10 kR rfl (OpE.append rfl rfl pM rD lN) rfl rfl ?_
              rintro a1 _ rfl
              refine ⟨sT, ?_⟩
              refine WPD.eff 11 kR rfl (OpE.ofPure (by first | exact (Op1.fieldAddr rfl) | exact (Op1.fieldAddrE rfl rD lT))) rfl rfl ?_
              rintro _ _ ⟨rfl, rfl⟩
              refine ⟨sT, ?_⟩
              refine WPD.eff 12 kR rfl (OpE.ofPure (by first | exact (Op1.fieldAddr rfl) | exact (Op1.fieldAddrE rfl rD lT))) rfl rfl ?_
              rintro _ _ ⟨rfl, rfl⟩
              refine ⟨sT, ?_⟩
              refine WPD.eff0 13 kR rfl (OpE.store rfl rfl pM (by rfl) oN) rfl ?_
              rintro _ _ rfl
              refine ⟨sT, ?_⟩
              refine WPD.done kR ?_
            case' e10_9 =>
              refine WPO.eff rfl (OpE.buildSlice ([es.getD i (Enc.d : E)]) pA rfl (by decide)) rfl rfl ?_
              rintro s1 _ rfl
              refine ⟨sT, ?_⟩
              refine WPD.eff 2 kR rfl (OpE.ofPure (by first | exact (Op1.load rfl mM (by rfl)) | exact (Op1.loadI rfl rD lT) | exact (Op1.loadAll rfl mM (by rfl)) | exact (Op1.loadE rfl rD lT (by rfl)) | exact (Op1.loadEAgg rfl rD lT (by rfl)))) rfl rfl ?_
              rintro _ _ ⟨rfl, rfl⟩
              refine ⟨sT, ?_⟩
              refine WPD.eff 10 kR rfl (OpE.append rfl rfl pM rD lN) rfl rfl ?_
              rintro a1 _ rfl
              refine ⟨sT, ?_⟩
              refine WPD.eff 11 kR rfl (OpE.ofPure (by first | exact (Op1.fieldAddr rfl) | exact (Op1.fieldAddrE rfl rD lT))) rfl rfl ?_
              rintro _ _ ⟨rfl, rfl⟩
              refine ⟨sT, ?_⟩
              refine WPD.eff 12 kR rfl (OpE.ofPure (by first | exact (Op1.fieldAddr rfl) | exact (Op1.fieldAddrE rfl rD lT))) rfl rfl ?_
              rintro _ _ ⟨rfl, rfl⟩
              refine ⟨sT, ?_⟩
              refine WPD.eff0 13 kR rfl (OpE.store rfl rfl pM (by rfl) oN) rfl ?_
              rintro _ _ rfl
              refine ⟨sT, ?_⟩
              refine WPD.done kR ?_
          case' e9_9 =>
            refine WPO.eff rfl (OpE.buildSlice ([es.getD i (Enc.d : E)]) pA rfl (by decide)) rfl rfl ?_
            rintro s1 _ rfl
            refine ⟨sT, ?_⟩
            refine WPD.eff 1 kR rfl (OpE.ofPure (by first | exact (Op1.fieldAddr rfl) | exact (Op1.fieldAddrE rfl rD lT))) rfl rfl ?_
            rintro _ _ ⟨rfl, rfl⟩
            refine ⟨sT, ?_⟩
            refine WPD.eff 2 kR rfl (OpE.ofPure (by first | exact (Op1.load rfl mM (by rfl)) | exact (Op1.loadI rfl rD lT) | exact (Op1.loadAll rfl mM (by rfl)) | exact (Op1.loadE rfl rD lT (by rfl)) | exact (Op1.loadEAgg rfl rD lT (by rfl)))) rfl rfl ?_
            rintro _ _ ⟨rfl, rfl⟩
            refine ⟨sT, ?_⟩
            refine WPD.eff 10 kR rfl (OpE.append rfl rfl pM rD lN) rfl rfl ?_
            rintro a1 _ rfl
            refine ⟨sT, ?_⟩
            refine WPD.eff 11 kR rfl (OpE.ofPure (by first | exact (Op1.fieldAddr rfl) | exact (Op1.fieldAddrE rfl rD lT))) rfl rfl ?_
            rintro _ _ ⟨rfl, rfl⟩
            refine ⟨sT, ?_⟩
            refine WPD.eff 12 kR rfl (OpE.ofPure (by first | exact (Op1.fieldAddr rfl) | exact (Op1.fieldAddrE rfl rD lT))) rfl rfl ?_
            rintro _ _ ⟨rfl, rfl⟩
            refine ⟨sT, ?_⟩
            refine WPD.eff0 13 kR rfl (OpE.store rfl rfl pM (by rfl) oN) rfl ?_
            rintro _ _ rfl
            refine ⟨sT, ?_⟩
            refine WPD.done kR ?_
        case' e8_9 =>
          refine WPO.eff rfl (OpE.buildSlice ([es.getD i (Enc.d : E)]) pA rfl (by decide)) rfl rfl ?_
          rintro s1 _ rfl
          refine ⟨sT, ?_⟩
          refine WPD.eff 0 kR rfl (OpE.ofPure (by first | exact (Op1.fieldAddr rfl) | exact (Op1.fieldAddrE rfl rD lT))) rfl rfl ?_
          rintro _ _ ⟨rfl, rfl⟩
          refine ⟨sT, ?_⟩
          refine WPD.eff 1 kR rfl (OpE.ofPure (by first | exact (Op1.fieldAddr rfl) | exact (Op1.fieldAddrE rfl rD lT))) rfl rfl ?_
          rintro _ _ ⟨rfl, rfl⟩
          refine ⟨sT, ?_⟩
          refine WPD.eff 2 kR rfl (OpE.ofPure (by first | exact (Op1.load rfl mM (by rfl)) | exact (Op1.loadI rfl rD lT) | exact (Op1.loadAll rfl mM (by rfl)) | exact (Op1.loadE rfl rD lT (by rfl)) | exact (Op1.loadEAgg rfl rD lT (by rfl)))) rfl rfl ?_
          rintro _ _ ⟨rfl, rfl⟩
          refine ⟨sT, ?_⟩
          refine WPD.eff 10 kR rfl (OpE.append rfl rfl pM rD lN) rfl rfl ?_
          rintro a1 _ rfl
          refine ⟨sT, ?_⟩
          refine WPD.eff 11 kR rfl (OpE.ofPure (by first | exact (Op1.fieldAddr rfl) | exact (Op1.fieldAddrE rfl rD lT))) rfl rfl ?_
          rintro _ _ ⟨rfl, rfl⟩
          refine ⟨sT, ?_⟩
          refine WPD.eff 12 kR rfl (OpE.ofPure (by first | exact (Op1.fieldAddr rfl) | exact (Op1.fieldAddrE rfl rD lT))) rfl rfl ?_
          rintro _ _ ⟨rfl, rfl⟩
          refine ⟨sT, ?_⟩
          refine WPD.eff0 13 kR rfl (OpE.store rfl rfl pM (by rfl) oN) rfl ?_
          rintro _ _ rfl
          refine ⟨sT, ?_⟩
          refine WPD.done kR ?_
        all_goals (refine PE.mid a1 trivial sE sT)
      rintro a1 _
      try refine go ⟨?_⟩
      refine WP.cutK (σ := Value) (fun u => [(1, .int .i64 at_), (2, ptrV b2), (4, ptrV b4), (5, ptrV b5), (6, .int .i64 i)])
        (fun u => [Tok.blk b5 [.int .i64 n, a1, u, c], Tok.own u (lw ++ [lv.getD i 0]), Tok.own a1 (ew ++ [es.getD i (Enc.d : E)]), Tok.own c tw, Tok.blk b4 [.int .i64 0, .slice none 0 0, .slice none 0 0, .slice none 0 0], Tok.blk b2 [.int .i64 n, vE, vL, vT]]) (fun _ => True) ?_ ?_
      · refine WP.draw [Tok.own a1 (ew ++ [es.getD i (Enc.d : E)]), Tok.own c tw, Tok.blk b4 [.int .i64 0, .slice none 0 0, .slice none 0 0, .slice none 0 0], Tok.blk b2 [.int .i64 n, vE, vL, vT]] mixed ?_
        refine WPD.take 2 rfl (by first | exact (Op1.fieldAddr rfl) | exact (Op1.fieldAddrE rfl rD lT)) rfl rfl sT kR kR kR xQP ?_
        refine WPD.take 4 rfl (Op1.move rfl) rfl rfl sT kR kR kR xQP ?_
        refine WPD.take 3 rfl (by first | exact (Op1.load rfl mM (by rfl)) | exact (Op1.loadI rfl rD lT) | exact (Op1.loadAll rfl mM (by rfl)) | exact (Op1.loadE rfl rD lT (by rfl)) | exact (Op1.loadEAgg rfl rD lT (by rfl))) rfl rfl sT kR kR kR xQP ?_
        refine WPD.take 5 rfl (by first | exact (Op1.indexAddr rfl rfl rD lT) | exact (Op1.indexAddrZ rfl rfl rD lT)) rfl rfl sT kR kR kR xQP ?_
        refine WPD.take 6 rfl (by first | exact (Op1.load rfl mM (by rfl)) | exact (Op1.loadI rfl rD lT) | exact (Op1.loadAll rfl mM (by rfl)) | exact (Op1.loadE rfl rD lT (by rfl)) | exact (Op1.loadEAgg rfl rD lT (by rfl))) rfl rfl sT kR kR kR xQP ?_
        refine WPD.two 0 7 kR ?e11_0 ?e11_7
        case' e11_0 =>
          refine WPO.eff rfl (OpE.ofPure (by first | exact (Op1.fieldAddr rfl) | exact (Op1.fieldAddrE rfl rD lT))) rfl rfl ?_
          rintro _ _ ⟨rfl, rfl⟩
          refine ⟨sT, ?_⟩
          refine WPD.two 1 7 kR ?e12_1 ?e12_7
          case' e12_1 =>
            refine WPO.eff rfl (OpE.ofPure (by first | exact (Op1.load rfl mM (by rfl)) | exact (Op1.loadI rfl rD lT) | exact (Op1.loadAll rfl mM (by rfl)) | exact (Op1.loadE rfl rD lT (by rfl)) | exact (Op1.loadEAgg rfl rD lT (by rfl)))) rfl rfl ?_
            rintro _ _ ⟨rfl, rfl⟩
            refine ⟨sT, ?_⟩
            refine WPD.eff 7 kR rfl (OpE.buildSlice ([lv.getD i 0]) pA rfl (by decide)) rfl rfl ?_
            rintro s1 _ rfl
            refine ⟨sT, ?_⟩
            refine WPD.eff 8 kR rfl (OpE.append rfl rfl pM rD lN) rfl rfl ?_
            rintro u1 _ rfl
            refine ⟨sT, ?_⟩
            refine WPD.eff 9 kR rfl (OpE.ofPure (by first | exact (Op1.fieldAddr rfl) | exact (Op1.fieldAddrE rfl rD lT))) rfl rfl ?_
            rintro _ _ ⟨rfl, rfl⟩
            refine ⟨sT, ?_⟩
            refine WPD.eff0 10 kR rfl (OpE.store rfl rfl pM (by rfl) oN) rfl ?_
            rintro _ _ rfl
            refine ⟨sT, ?_⟩
            refine WPD.done kR ?_
          case' e12_7 =>
            refine WPO.eff rfl (OpE.buildSlice ([lv.getD i 0]) pA rfl (by decide)) rfl rfl ?_
            rintro s1 _ rfl
            refine ⟨sT, ?_⟩
            refine WPD.eff 1 kR rfl (OpE.ofPure (by first | exact (Op1.load rfl mM (by rfl)) | exact (Op1.loadI rfl rD lT) | exact (Op1.loadAll rfl mM (by rfl)) | exact (Op1.loadE rfl rD lT (by rfl)) | exact (Op1.loadEAgg rfl rD lT (by rfl)))) rfl rfl ?_
            rintro _ _ ⟨rfl, rfl⟩
            refine ⟨sT, ?_⟩
            refine WPD.eff 8 kR rfl (OpE.append rfl rfl pM rD lN) rfl rfl ?_
            rintro u1 _ rfl
            refine ⟨sT, ?_⟩
            refine WPD.eff 9 kR rfl (OpE.ofPure (by first | exact (Op1.fieldAddr rfl) | exact (Op1.fieldAddrE rfl rD lT))) rfl rfl ?_
            rintro _ _ ⟨rfl, rfl⟩
            refine ⟨sT, ?_⟩
            refine WPD.eff0 10 kR rfl (OpE.store rfl rfl pM (by rfl) oN) rfl ?_
            rintro _ _ rfl
            refine ⟨sT, ?_⟩
            refine WPD.done kR ?_
        case' e11_7 =>
          refine WPO.eff rfl (OpE.buildSlice ([lv.getD i 0]) pA rfl (by decide)) rfl rfl ?_
          rintro s1 _ rfl
          refine ⟨sT, ?_⟩
          refine WPD.eff 0 kR rfl (OpE.ofPure (by first | exact (Op1.fieldAddr rfl) | exact (Op1.fieldAddrE rfl rD lT))) rfl rfl ?_
          rintro _ _ ⟨rfl, rfl⟩
          refine ⟨sT, ?_⟩
          refine WPD.eff 1 kR rfl (OpE.ofPure (by first | exact (Op1.load rfl mM (by rfl)) | exact (Op1.loadI rfl rD lT) | exact (Op1.loadAll rfl mM (by rfl)) | exact (Op1.loadE rfl rD lT (by rfl)) | exact (Op1.loadEAgg rfl rD lT (by rfl)))) rfl rfl ?_
          rintro _ _ ⟨rfl, rfl⟩
          refine ⟨sT, ?_⟩
          refine WPD.eff 8 kR rfl (OpE.append rfl rfl pM rD lN) rfl rfl ?_
          rintro u1 _ rfl
          refine ⟨sT, ?_⟩
          refine WPD.eff 9 kR rfl (OpE.ofPure (by first | exact (Op1.fieldAddr rfl) | exact (Op1.fieldAddrE rfl rD lT))) rfl rfl ?_
          rintro _ _ ⟨rfl, rfl⟩
          refine ⟨sT, ?_⟩
          refine WPD.eff0 10 kR rfl (OpE.store rfl rfl pM (by rfl) oN) rfl ?_
          rintro _ _ rfl
          refine ⟨sT, ?_⟩
          refine WPD.done kR ?_
        all_goals (refine PE.mid u1 trivial sE sT)
      rintro u1 _
      try refine go ⟨?_⟩
      refine WP.draw [Tok.own u1 (lw ++ [lv.getD i 0]), Tok.own a1 (ew ++ [es.getD i (Enc.d : E)]), Tok.blk b4 [.int .i64 0, .slice none 0 0, .slice none 0 0, .slice none 0 0], Tok.blk b2 [.int .i64 n, vE, vL, vT]] mixed ?_
      refine WPD.take 2 rfl (by first | exact (Op1.fieldAddr rfl) | exact (Op1.fieldAddrE rfl rD lT)) rfl rfl sT kR kR kR xQP ?_
      refine WPD.take 4 rfl (Op1.move rfl) rfl rfl sT kR kR kR xQP ?_
      refine WPD.take 3 rfl (by first | exact (Op1.load rfl mM (by rfl)) | exact (Op1.loadI rfl rD lT) | exact (Op1.loadAll rfl mM (by rfl)) | exact (Op1.loadE rfl rD lT (by rfl)) | exact (Op1.loadEAgg rfl rD lT (by rfl))) rfl rfl sT kR kR kR xQP ?_
      refine WPD.take 5 rfl (by first | exact (Op1.indexAddr rfl rfl rD lT) | exact (Op1.indexAddrZ rfl rfl rD lT)) rfl rfl sT kR kR kR xQP ?_
      refine WPD.take 6 rfl (Op1.loadBl rfl rD lT) rfl rfl sT kR kR kR xQP ?_
      refine WPD.two 0 7 kR ?e13_0 ?e13_7
      case' e13_0 =>
        refine WPO.eff rfl (OpE.ofPure (by first | exact (Op1.fieldAddr rfl) | exact (Op1.fieldAddrE rfl rD lT))) rfl rfl ?_
        rintro _ _ ⟨rfl, rfl⟩
        refine ⟨sT, ?_⟩
        refine WPD.two 1 7 kR ?e14_1 ?e14_7
        case' e14_1 =>
          refine WPO.eff rfl (OpE.ofPure (by first | exact (Op1.load rfl mM (by rfl)) | exact (Op1.loadI rfl rD lT) | exact (Op1.loadAll rfl mM (by rfl)) | exact (Op1.loadE rfl rD lT (by rfl)) | exact (Op1.loadEAgg rfl rD lT (by rfl)))) rfl rfl ?_
          rintro _ _ ⟨rfl, rfl⟩
          refine ⟨sT, ?_⟩
          refine WPD.eff 7 kR rfl (OpE.buildSlice ([tr.getD i false]) pA rfl (by decide)) rfl rfl ?_
          rintro s1 _ rfl
          refine ⟨sT, ?_⟩
          refine WPD.eff 8 kR rfl (OpE.append rfl rfl pM rD lN) rfl rfl ?_
          rintro c1 _ rfl
          refine ⟨sT, ?_⟩
          refine WPD.eff 9 kR rfl (OpE.ofPure (by first | exact (Op1.fieldAddr rfl) | exact (Op1.fieldAddrE rfl rD lT))) rfl rfl ?_
          rintro _ _ ⟨rfl, rfl⟩
          refine ⟨sT, ?_⟩
          refine WPD.eff0 10 kR rfl (OpE.store rfl rfl pM (by rfl) oN) rfl ?_
          rintro _ _ rfl
          refine ⟨sT, ?_⟩
          refine WPD.done kR ?_
        case' e14_7 =>
          refine WPO.eff rfl (OpE.buildSlice ([tr.getD i false]) pA rfl (by decide)) rfl rfl ?_
          rintro s1 _ rfl
          refine ⟨sT, ?_⟩
          refine WPD.eff 1 kR rfl (OpE.ofPure (by first | exact (Op1.load rfl mM (by rfl)) | exact (Op1.loadI rfl rD lT) | exact (Op1.loadAll rfl mM (by rfl)) | exact (Op1.loadE rfl rD lT (by rfl)) | exact (Op1.loadEAgg rfl rD lT (by rfl)))) rfl rfl ?_
          rintro _ _ ⟨rfl, rfl⟩
          refine ⟨sT, ?_⟩
          refine WPD.eff 8 kR rfl (OpE.append rfl rfl pM rD lN) rfl rfl ?_
          rintro c1 _ rfl
          refine ⟨sT, ?_⟩
          refine WPD.eff 9 kR rfl (OpE.ofPure (by first | exact (Op1.fieldAddr rfl) | exact (Op1.fieldAddrE rfl rD lT))) rfl rfl ?_
          rintro _ _ ⟨rfl, rfl⟩
          refine ⟨sT, ?_⟩
          refine WPD.eff0 10 kR rfl (OpE.store rfl rfl pM (by rfl) oN) rfl ?_
          rintro _ _ rfl
          refine ⟨sT, ?_⟩
          refine WPD.done kR ?_
      case' e13_7 =>
        refine WPO.eff rfl (OpE.buildSlice ([tr.getD i false]) pA rfl (by decide)) rfl rfl ?_
        rintro s1 _ rfl
        refine ⟨sT, ?_⟩
        refine WPD.eff 0 kR rfl (OpE.ofPure (by first | exact (Op1.fieldAddr rfl) | exact (Op1.fieldAddrE rfl rD lT))) rfl rfl ?_
        rintro _ _ ⟨rfl, rfl⟩
        refine ⟨sT, ?_⟩
        refine WPD.eff 1 kR rfl (OpE.ofPure (by first | exact (Op1.load rfl mM (by rfl)) | exact (Op1.loadI rfl rD lT) | exact (Op1.loadAll rfl mM (by rfl)) | exact (Op1.loadE rfl rD lT (by rfl)) | exact (Op1.loadEAgg rfl rD lT (by rfl)))) rfl rfl ?_
        rintro _ _ ⟨rfl, rfl⟩
        refine ⟨sT, ?_⟩
        refine WPD.eff 8 kR rfl (OpE.append rfl rfl pM rD lN) rfl rfl ?_
        rintro c1 _ rfl
        refine ⟨sT, ?_⟩
        refine WPD.eff 9 kR rfl (OpE.ofPure (by first | exact (Op1.fieldAddr rfl) | exact (Op1.fieldAddrE rfl rD lT))) rfl rfl ?_
        rintro _ _ ⟨rfl, rfl⟩
        refine ⟨sT, ?_⟩
        refine WPD.eff0 10 kR rfl (OpE.store rfl rfl pM (by rfl) oN) rfl ?_
        rintro _ _ rfl
        refine ⟨sT, ?_⟩
        refine WPD.done kR ?_
      all_goals (
        try refine go ⟨?_⟩
        refine PE.again (i + 1, (a1, u1, c1), ew ++ [es.getD i (Enc.d : E)], lw ++ [lv.getD i 0], tw ++ [tr.getD i false]) ?_ ?_ sE sT
        · refine ⟨by (try dsimp only); omega, ?_, ?_, ?_⟩
          · dsimp only; rw [List.length_append, List.length_singleton]; omega
          · dsimp only; rw [List.length_append, List.length_append, g1]; rfl
          · dsimp only; rw [List.length_append, List.length_append, g2]; rfl
        · (try dsimp only); omega)
    · try refine go ⟨?_⟩
      refine PE.again (i + 1, (a, b, c), ew, lw, tw) ?_ ?_ sE sT
      · exact ⟨by (try dsimp only); omega, by (try dsimp only); omega, g1, g2⟩
      · (try dsimp only); omega
  · try refine go ⟨?_⟩
    refine PE.ret1 (T := []) (T' := [Tok.own a ew, Tok.own b lw, Tok.own c tw]) rfl rV ?_ sT
    exact ⟨a, b, c, ew, lw, tw, rfl, rfl, by omega, g1, g2⟩
end Go.Proofs.Ytfigegmgopnfhaa
/- The second program's drawn graphs with levels: their shape (PutLevel, l7Level, CutLevel, l7Of). Conditions: those of each contract. -/
namespace Go.Proofs.Ytfigegmgopnfhaa
open Go
theorem put_nd {n : Int} {es : List E} {e : E} (h : putOk n es e) : Nd n e.A ∧ Nd n e.B := h.2.2.okE e (mem_insE.2 (.inl rfl))
theorem LVok_bnd {l : LV} (h : LVok l) {k : Nat} (hk : k < l.lv.length) : 0 ≤ l.lv.getD k 0 ∧ l.lv.getD k 0 ≤ 4 := h.2.2.2.1 _ (getD_memI hk)
set_option linter.unusedVariables false set_option linter.unusedSimpArgs false attribute [local irreducible] Tok.own Tok.blk RL Rd eptr WP WPL PE WPD WPO Op1 OpE Tri Again Mid Exit.then Exit.inBlock bodyPost RP Code.wp wpList isOwn OneM One
attribute [local irreducible] LVok GV insP putOk abv'
set_option maxHeartbeats 16000000

theorem g_PutLevel (w : World) (n : Int) (vE vL vT : Value) (es : List E) (lv : List Int) (tr : List Bool) (e : E) (hE : RL w vE es) (hL : RL w vL lv) (hT : RL w vT tr) (h0 : es.length ≤ 1000) (h1 : lv.length ≤ 1000) (h2 : tr.length ≤ 1000) :
    Tri Try.prog 145 [.agg #[.int .i64 n, vE, vL, vT], ep e] w [] fun r T => ∃ n' a b c, ∃ es' : List E, ∃ lv' : List Int, ∃ tr' : List Bool, ∃ ok : Bool, r = .tuple #[.agg #[.int .i64 n', a, b, c], .bool ok] ∧ T = [Tok.own a es', Tok.own b lv', Tok.own c tr'] ∧ es'.length ≤ es.length + 1 ∧ lv'.length = es'.length ∧ tr'.length = es'.length ∧ (ok = true → n' = n) := by
  have hil := insP_len es e
  refine Tri.intro (hf := Try.func145) (hb := rfl) (hn := Try.ntmps145) (Nat.le_of_ble_eq_true rfl) ?_
  try refine go ⟨?_⟩
  refine WPL.eff (OpE.box rfl) rfl rfl ?_; rintro _ _ ⟨b2, rfl, rfl⟩
  refine WPL.eff (OpE.box rfl) rfl rfl ?_; rintro _ _ ⟨b3, rfl, rfl⟩
  refine WPL.eff OpE.alloc rfl rfl ?_; rintro _ _ ⟨b4, rfl, rfl⟩
  try refine go ⟨?_⟩
  refine WPL.pure (Op1.loadAgg (us := [.int .i64 n, vE]) rfl mM rfl rfl) rfl rfl ?_
  try refine go ⟨?_⟩
  refine WPL.eff (OpE.call lO (fun w hw => s_PutEdge _ n vE es e (Rd.at rD hw) (by omega))) rfl rfl ?_
  rintro _ _ ⟨T, hr, rfl⟩
  rcases hr with ⟨hp, v, rfl, rfl⟩ | ⟨hp, rfl, rfl⟩
  case inr =>
    try refine go ⟨?_⟩
    refine WPL.eff OpE.alloc rfl rfl ?_; rintro _ _ ⟨b6, rfl, rfl⟩
    try refine go ⟨?_⟩
    refine PE.nilTok Bool ?_
    refine PE.nilTok Int ?_
    refine PE.nilTok E ?_
    refine PE.ret2 (T := []) (T' := [Tok.own (.slice none 0 0) ([] : List E), Tok.own (.slice none 0 0) ([] : List Int), Tok.own (.slice none 0 0) ([] : List Bool)]) rfl rV ?_ sT
    exact ⟨_, _, _, _, [], [], [], false, rfl, rfl, Nat.zero_le _, rfl, rfl, fun q => by cases q⟩
  try refine go ⟨?_⟩
  refine WPL.eff OpE.alloc rfl rfl ?_; rintro _ _ ⟨b6, rfl, rfl⟩
  try refine go ⟨?_⟩
  refine WPL.eff (OpE.call lO (fun w hw => s_LevelsValid _ ⟨n, es, lv, tr⟩ vE vL vT (Rd.at rD hw) (Rd.at rD hw) (Rd.at rD hw) (by (try dsimp only); omega) (by (try dsimp only); omega) (by (try dsimp only); omega))) rfl rfl ?_
  rintro _ _ ⟨T, ⟨rfl, rfl⟩, rfl⟩
  by_cases hv : LVok ⟨n, es, lv, tr⟩
  case neg =>
    rw [decide_eq_false hv]
    try refine go ⟨?_⟩
    refine PE.nilTok Bool ?_
    refine PE.nilTok Int ?_
    refine PE.nilTok E ?_
    refine PE.ret2 (T := []) (T' := [Tok.own (.slice none 0 0) ([] : List E), Tok.own (.slice none 0 0) ([] : List Int), Tok.own (.slice none 0 0) ([] : List Bool)]) rfl rV ?_ sT
    exact ⟨_, _, _, _, [], [], [], false, rfl, rfl, Nat.zero_le _, rfl, rfl, fun q => by cases q⟩
  rw [decide_eq_true hv]
  obtain ⟨q1, q2, q3⟩ := LVok_len hv
  dsimp only at q1 q2 q3
  have hne := q1.ne
  obtain ⟨nA, nB⟩ := put_nd hp
  try refine go ⟨?_⟩
  refine WP.draw [Tok.blk b3 [.int .i64 e.A, .int .i64 e.B], Tok.blk b2 [.int .i64 n, vE, vL, vT]] mixed ?_
  refine WPD.take 0 rfl (by first | exact (Op1.load rfl mM (by rfl)) | exact (Op1.loadI rfl rD lT) | exact (Op1.loadAll rfl mM (by rfl)) | exact (Op1.loadE rfl rD lT (by rfl)) | exact (Op1.loadEAgg rfl rD lT (by rfl))) rfl rfl sT kR kR kR xQP ?_
  refine WPD.take 1 rfl (by first | exact (Op1.load rfl mM (by rfl)) | exact (Op1.loadI rfl rD lT) | exact (Op1.loadAll rfl mM (by rfl)) | exact (Op1.loadE rfl rD lT (by rfl)) | exact (Op1.loadEAgg rfl rD lT (by rfl))) rfl rfl sT kR kR kR xQP ?_
  refine WPD.take 2 rfl (by first | exact (Op1.fieldAddr rfl) | exact (Op1.fieldAddrE rfl rD lT)) rfl rfl sT kR kR kR xQP ?_
  refine WPD.take 4 rfl (by first | exact (Op1.fieldAddr rfl) | exact (Op1.fieldAddrE rfl rD lT)) rfl rfl sT kR kR kR xQP ?_
  refine WPD.take 6 rfl (by first | exact (Op1.fieldAddr rfl) | exact (Op1.fieldAddrE rfl rD lT)) rfl rfl sT kR kR kR xQP ?_
  refine WPD.take 3 rfl (Op1.loadAgg (us := [.int .i64 n, vE]) rfl mM rfl rfl) rfl rfl sT kR kR kR xQP ?_
  refine WPD.take 5 rfl (by first | exact (Op1.load rfl mM (by rfl)) | exact (Op1.loadI rfl rD lT) | exact (Op1.loadAll rfl mM (by rfl)) | exact (Op1.loadE rfl rD lT (by rfl)) | exact (Op1.loadEAgg rfl rD lT (by rfl))) rfl rfl sT kR kR kR xQP ?_
  refine WPD.take 7 rfl (by first | exact (Op1.load rfl mM (by rfl)) | exact (Op1.loadI rfl rD lT) | exact (Op1.loadAll rfl mM (by rfl)) | exact (Op1.loadE rfl rD lT (by rfl)) | exact (Op1.loadEAgg rfl rD lT (by rfl))) rfl rfl sT kR kR kR xQP ?_
  refine WPD.eff 8 kR rfl (OpE.call lO (fun w hw => s_Joined _ n vE es e.A e.B (Rd.at rD hw) hne nA nB)) rfl rfl ?_
  rintro r _ ⟨T, ⟨rfl, rfl⟩, rfl⟩
  refine ⟨sT, ?_⟩
  refine WPD.take 9 rfl (by first | exact (Op1.notD rfl) | exact (Op1.not rfl)) rfl rfl sT kR kR kR xQP ?_
  refine WPD.eff 10 kR rfl (OpE.call lO (fun w hw => g_l7Put _ n vE vL vT es lv tr e (decide (¬ cn n es e.A e.B)) (Rd.at rD hw) (Rd.at rD hw) (Rd.at rD hw) h0 q2 q3)) rfl rfl ?_
  rintro r _ ⟨T, ⟨a, b, c, lw, tw, rfl, rfl, g1, g2⟩, rfl⟩
  refine ⟨sT, ?_⟩
  refine WPD.eff0 11 kR rfl (OpE.storeAll rfl rfl pM (by rfl) (by rfl) oN) rfl ?_
  rintro _ _ rfl
  refine ⟨sT, ?_⟩
  refine WPD.take 12 rfl (Op1.assign rfl) rfl rfl sT kR kR kR xQP ?_
  refine WPD.done kR ?_
  all_goals (
    try refine go ⟨?_⟩
    refine PE.ret2 (T := []) (T' := [Tok.own a (insP es e), Tok.own b lw, Tok.own c tw]) rfl rV ?_ sT
    exact ⟨n, a, b, c, insP es e, lw, tw, true, rfl, rfl, by omega, by omega, by omega, fun _ => rfl⟩)

theorem g_l7Level (w : World) (n : Int) (vE vL vT : Value) (es : List E) (lv : List Int) (tr : List Bool) (x y lev : Int) (hE : RL w vE es) (hL : RL w vL lv) (hT : RL w vT tr) (h0 : es.length ≤ 1000) (h1 : lv.length = es.length) (h2 : tr.length = es.length) (hl : -10 ≤ lev ∧ lev ≤ 10) :
    Tri Try.prog 161 [.agg #[.int .i64 n, vE, vL, vT], .int .i64 x, .int .i64 y, .int .i64 lev] w [] fun r T => ∃ a b c, ∃ lv' : List Int, ∃ tr' : List Bool, ∃ k : Int, ∃ ok : Bool, r = .tuple #[.agg #[.int .i64 n, a, b, c], .int .i64 k, .bool ok] ∧ T = [Tok.own a es, Tok.own b lv', Tok.own c tr'] ∧ lv'.length = es.length ∧ tr'.length = es.length ∧ 0 ≤ k ∧ k ≤ 2000 := by
  have hab : (abv' ⟨n, es, lv, tr⟩ lev true).length ≤ es.length := (abv_sub ⟨n, es, lv, tr⟩ lev true).length_le
  refine Tri.intro (hf := Try.func161) (hb := rfl) (hn := Try.ntmps161) (Nat.le_of_ble_eq_true rfl) ?_
  try refine go ⟨?_⟩
  refine WPL.eff (OpE.box rfl) rfl rfl ?_; rintro _ _ ⟨b4, rfl, rfl⟩
  refine WPL.eff OpE.alloc rfl rfl ?_; rintro _ _ ⟨b8, rfl, rfl⟩
  try refine go ⟨?_⟩
  refine WPL.eff (OpE.call lO (fun w hw => s_l7At _ ⟨n, es, lv, tr⟩ vE vL vT lev true (Rd.at rD hw) (Rd.at rD hw) (Rd.at rD hw) h1 h2 h0)) rfl rfl ?_
  rintro _ _ ⟨T, ⟨vg, rfl, rfl⟩, rfl⟩
  dsimp only
  generalize abv' ⟨n, es, lv, tr⟩ lev true = A at *
  try refine go ⟨?_⟩
  refine WPL.eff (OpE.call lO (fun w hw => g_l7Side _ n vg A x y (Rd.at rD hw) (by omega))) rfl rfl ?_
  rintro vs _ ⟨T, ⟨Ls, rfl, hs⟩, rfl⟩
  try refine go ⟨?_⟩
  refine WPL.eff (OpE.call lO (fun w hw => g_l7Copy _ n vE vL vT es lv tr (Rd.at rD hw) (Rd.at rD hw) (Rd.at rD hw) h0 (by omega) (by omega))) rfl rfl ?_
  rintro _ _ ⟨T, ⟨a, b, c, rfl, rfl⟩, rfl⟩
  try refine go ⟨?_⟩
  refine WPL.eff OpE.alloc rfl rfl ?_; rintro _ _ ⟨b12, rfl, rfl⟩
  try refine go ⟨?_⟩
  refine WP.loop (σ := Nat × Nat × List Int) (fun q => [(1, .int .i64 x), (2, .int .i64 y), (3, .int .i64 lev), (4, ptrV b4), (8, ptrV b8), (11, vs), (12, ptrV b12), (13, .int .i64 q.2.1), (14, .int .i64 q.1)])
    (fun q => [Tok.blk b12 [.int .i64 n, a, b, c], Tok.own a es, Tok.own b q.2.2, Tok.own c tr, Tok.own vs Ls, Tok.blk b8 [.int .i64 0, .slice none 0 0, .slice none 0 0, .slice none 0 0], Tok.blk b4 [.int .i64 n, vE, vL, vT]])
    (fun q => q.1 ≤ es.length ∧ q.2.1 ≤ q.1 ∧ q.2.2.length = es.length) (fun q => es.length - q.1) (0, 0, lv) ⟨Nat.zero_le _, Nat.le_refl _, h1⟩ sE sT ?_
  rintro ⟨i, k, lw⟩ ⟨hi, hk, g1⟩
  dsimp only at hi hk g1 ⊢
  try refine go ⟨?_⟩
  refine WP.condD rfl (fun hc => ?_) (fun hc => ?_)
  · have hi' : i < es.length := by omega
    try refine go ⟨?_⟩
    refine WPL.eff OpE.alloc rfl rfl ?_; rintro _ _ ⟨b15, rfl, rfl⟩
    try refine go ⟨?_⟩
    refine WPL.split rfl rfl (fun c1 => ?_) (fun c1 => ?_)
    · try refine go ⟨?_⟩
      refine WPL.splitD rfl rfl (fun c2 => ?_) (fun c2 => ?_)
      · try refine go ⟨?_⟩
        refine WPL.eff (OpE.call lO (fun w hw => g_l6In _ vs (es.getD i (Enc.d : E)).A Ls (Rd.at rD hw) (by omega))) rfl rfl ?_
        rintro _ _ ⟨T, ⟨rfl, bb, rfl⟩, rfl⟩
        try refine go ⟨?_⟩
        refine WP.cond rfl (fun c3 => ?_) (fun c3 => ?_)
        · try refine go ⟨?_⟩
          refine WPL.eff0 (OpE.store1 (lev + 1) rfl rfl pM2 lT rfl) rfl ?_
          rintro _ _ rfl
          try refine go ⟨?_⟩
          refine PE.again (i + 1, k + 1, lw.set i (lev + 1)) ?_ ?_ sE sT
          · exact ⟨by (try dsimp only); omega, by (try dsimp only); omega, by dsimp only; rw [List.length_set]; exact g1⟩
          · (try dsimp only); omega
        · try refine go ⟨?_⟩
          refine PE.again (i + 1, k, lw) ?_ ?_ sE sT
          · exact ⟨by (try dsimp only); omega, by (try dsimp only); omega, g1⟩
          · (try dsimp only); omega
      · try refine go ⟨?_⟩
        refine PE.again (i + 1, k, lw) ?_ ?_ sE sT
        · exact ⟨by (try dsimp only); omega, by (try dsimp only); omega, g1⟩
        · (try dsimp only); omega
    · try refine go ⟨?_⟩
      refine PE.again (i + 1, k, lw) ?_ ?_ sE sT
      · exact ⟨by (try dsimp only); omega, by (try dsimp only); omega, g1⟩
      · (try dsimp only); omega
  try refine go ⟨?_⟩
  refine WP.loop (σ := Nat × Nat × List Int) (fun q => [(1, .int .i64 x), (2, .int .i64 y), (3, .int .i64 lev), (4, ptrV b4), (8, ptrV b8), (11, vs), (12, ptrV b12), (13, .int .i64 q.2.1), (16, .int .i64 q.1)])
    (fun q => [Tok.blk b12 [.int .i64 n, a, b, c], Tok.own a es, Tok.own b q.2.2, Tok.own c tr, Tok.own vs Ls, Tok.blk b8 [.int .i64 0, .slice none 0 0, .slice none 0 0, .slice none 0 0], Tok.blk b4 [.int .i64 n, vE, vL, vT]])
    (fun q => q.1 ≤ es.length ∧ q.2.1 ≤ es.length + q.1 ∧ q.2.2.length = es.length) (fun q => es.length - q.1) (0, k, lw) ⟨Nat.zero_le _, by (try dsimp only); omega, g1⟩ sE sT ?_
  rintro ⟨i2, k2, lw2⟩ ⟨hi2, hk2, g2⟩
  dsimp only at hi2 hk2 g2 ⊢
  try refine go ⟨?_⟩
  refine WP.condD rfl (fun hd => ?_) (fun hd => ?_)
  · have hi' : i2 < es.length := by omega
    try refine go ⟨?_⟩
    refine WPL.eff OpE.alloc rfl rfl ?_; rintro _ _ ⟨b17, rfl, rfl⟩
    try refine go ⟨?_⟩
    refine WPL.split rfl rfl (fun c1 => ?_) (fun c1 => ?_)
    · try refine go ⟨?_⟩
      refine PE.again (i2 + 1, k2, lw2) ?_ ?_ sE sT
      · exact ⟨by (try dsimp only); omega, by (try dsimp only); omega, g2⟩
      · (try dsimp only); omega
    try refine go ⟨?_⟩
    refine WPL.splitD rfl rfl (fun c2 => ?_) (fun c2 => ?_)
    · try refine go ⟨?_⟩
      refine PE.again (i2 + 1, k2, lw2) ?_ ?_ sE sT
      · exact ⟨by (try dsimp only); omega, by (try dsimp only); omega, g2⟩
      · (try dsimp only); omega
    try refine go ⟨?_⟩
    refine WPL.eff (OpE.call lO (fun w hw => g_l6In _ vs (es.getD i2 (Enc.d : E)).A Ls (Rd.at rD hw) (by omega))) rfl rfl ?_
    rintro _ _ ⟨T, ⟨rfl, bA, rfl⟩, rfl⟩
    cases bA
    · try refine go ⟨?_⟩
      refine WPL.eff (OpE.call lO (fun w hw => g_l6In _ vs (es.getD i2 (Enc.d : E)).B Ls (Rd.at rD hw) (by omega))) rfl rfl ?_
      rintro _ _ ⟨T, ⟨rfl, bB, rfl⟩, rfl⟩
      try refine go ⟨?_⟩
      refine WP.cond rfl (fun c4 => ?_) (fun c4 => ?_)
      · try refine go ⟨?_⟩
        refine PE.again (i2 + 1, k2, lw2) ?_ ?_ sE sT
        · exact ⟨by (try dsimp only); omega, by (try dsimp only); omega, g2⟩
        · (try dsimp only); omega
      try refine go ⟨?_⟩
      refine WPL.eff (OpE.call lO (fun w hw => g_l6In _ vs (es.getD i2 (Enc.d : E)).A Ls (Rd.at rD hw) (by omega))) rfl rfl ?_
      rintro _ _ ⟨T, ⟨rfl, b1, rfl⟩, rfl⟩
      cases b1
      · try refine go ⟨?_⟩
        refine WPL.eff0 (OpE.store1 (true) rfl rfl pM2 lT rfl) rfl ?_
        rintro _ _ rfl
        try refine go ⟨?_⟩
        refine PE.ret3 (T := []) (T' := [Tok.own a es, Tok.own b lw2, Tok.own c (tr.set i2 true)]) rfl rV ?_ sT
        exact ⟨a, b, c, lw2, tr.set i2 true, _, true, rfl, rfl, g2, by rw [List.length_set]; exact h2, by omega, by omega⟩
      · try refine go ⟨?_⟩
        refine WPL.eff (OpE.call lO (fun w hw => g_l6In _ vs (es.getD i2 (Enc.d : E)).B Ls (Rd.at rD hw) (by omega))) rfl rfl ?_
        rintro _ _ ⟨T, ⟨rfl, b2, rfl⟩, rfl⟩
        try refine go ⟨?_⟩
        refine WP.cond rfl (fun c3 => ?_) (fun c3 => ?_)
        · try refine go ⟨?_⟩
          refine WPL.eff0 (OpE.store1 (lev + 1) rfl rfl pM2 lT rfl) rfl ?_
          rintro _ _ rfl
          try refine go ⟨?_⟩
          refine PE.again (i2 + 1, k2 + 1, lw2.set i2 (lev + 1)) ?_ ?_ sE sT
          · exact ⟨by (try dsimp only); omega, by (try dsimp only); omega, by dsimp only; rw [List.length_set]; exact g2⟩
          · (try dsimp only); omega
        · try refine go ⟨?_⟩
          refine WPL.eff0 (OpE.store1 (true) rfl rfl pM2 lT rfl) rfl ?_
          rintro _ _ rfl
          try refine go ⟨?_⟩
          refine PE.ret3 (T := []) (T' := [Tok.own a es, Tok.own b lw2, Tok.own c (tr.set i2 true)]) rfl rV ?_ sT
          exact ⟨a, b, c, lw2, tr.set i2 true, _, true, rfl, rfl, g2, by rw [List.length_set]; exact h2, by omega, by omega⟩
    · try refine go ⟨?_⟩
      refine WPL.eff (OpE.call lO (fun w hw => g_l6In _ vs (es.getD i2 (Enc.d : E)).A Ls (Rd.at rD hw) (by omega))) rfl rfl ?_
      rintro _ _ ⟨T, ⟨rfl, b1, rfl⟩, rfl⟩
      cases b1
      · try refine go ⟨?_⟩
        refine WPL.eff0 (OpE.store1 (true) rfl rfl pM2 lT rfl) rfl ?_
        rintro _ _ rfl
        try refine go ⟨?_⟩
        refine PE.ret3 (T := []) (T' := [Tok.own a es, Tok.own b lw2, Tok.own c (tr.set i2 true)]) rfl rV ?_ sT
        exact ⟨a, b, c, lw2, tr.set i2 true, _, true, rfl, rfl, g2, by rw [List.length_set]; exact h2, by omega, by omega⟩
      · try refine go ⟨?_⟩
        refine WPL.eff (OpE.call lO (fun w hw => g_l6In _ vs (es.getD i2 (Enc.d : E)).B Ls (Rd.at rD hw) (by omega))) rfl rfl ?_
        rintro _ _ ⟨T, ⟨rfl, b2, rfl⟩, rfl⟩
        try refine go ⟨?_⟩
        refine WP.cond rfl (fun c3 => ?_) (fun c3 => ?_)
        · try refine go ⟨?_⟩
          refine WPL.eff0 (OpE.store1 (lev + 1) rfl rfl pM2 lT rfl) rfl ?_
          rintro _ _ rfl
          try refine go ⟨?_⟩
          refine PE.again (i2 + 1, k2 + 1, lw2.set i2 (lev + 1)) ?_ ?_ sE sT
          · exact ⟨by (try dsimp only); omega, by (try dsimp only); omega, by dsimp only; rw [List.length_set]; exact g2⟩
          · (try dsimp only); omega
        · try refine go ⟨?_⟩
          refine WPL.eff0 (OpE.store1 (true) rfl rfl pM2 lT rfl) rfl ?_
          rintro _ _ rfl
          try refine go ⟨?_⟩
          refine PE.ret3 (T := []) (T' := [Tok.own a es, Tok.own b lw2, Tok.own c (tr.set i2 true)]) rfl rV ?_ sT
          exact ⟨a, b, c, lw2, tr.set i2 true, _, true, rfl, rfl, g2, by rw [List.length_set]; exact h2, by omega, by omega⟩
  · try refine go ⟨?_⟩
    refine PE.ret3 (T := []) (T' := [Tok.own a es, Tok.own b lw2, Tok.own c tr]) rfl rV ?_ sT
    exact ⟨a, b, c, lw2, tr, _, false, rfl, rfl, g2, h2, by omega, by omega⟩

theorem g_CutLevel (w : World) (n : Int) (vE vL vT : Value) (es : List E) (lv : List Int) (tr : List Bool) (e : E) (hE : RL w vE es) (hL : RL w vL lv) (hT : RL w vT tr) (h0 : es.length ≤ 1000) (h1 : lv.length ≤ 1000) (h2 : tr.length ≤ 1000) :
    Tri Try.prog 144 [.agg #[.int .i64 n, vE, vL, vT], ep e] w [] fun r T => ∃ n' a b c, ∃ es' : List E, ∃ lv' : List Int, ∃ tr' : List Bool, ∃ k : Int, ∃ p q : Bool, r = .tuple #[.agg #[.int .i64 n', a, b, c], .int .i64 k, .bool p, .bool q] ∧ T = [Tok.own a es', Tok.own b lv', Tok.own c tr'] ∧ es'.length ≤ es.length ∧ lv'.length = es'.length ∧ tr'.length = es'.length ∧ (q = true → n' = n) := by
  refine Tri.intro (hf := Try.func144) (hb := rfl) (hn := Try.ntmps144) (Nat.le_of_ble_eq_true rfl) ?_
  try refine go ⟨?_⟩
  refine WPL.eff (OpE.box rfl) rfl rfl ?_; rintro _ _ ⟨b2, rfl, rfl⟩
  refine WPL.eff (OpE.box rfl) rfl rfl ?_; rintro _ _ ⟨b3, rfl, rfl⟩
  refine WPL.eff OpE.alloc rfl rfl ?_; rintro _ _ ⟨b4, rfl, rfl⟩
  try refine go ⟨?_⟩
  refine WPL.eff (OpE.call lO (fun w hw => g_FindB _ vE e es (Rd.at rD hw) (by omega))) rfl rfl ?_
  rintro _ _ ⟨T, ⟨rfl, k, rfl, hk1, hk2⟩, rfl⟩
  try refine go ⟨?_⟩
  by_cases hk : k < 0
  · rw [decide_eq_true hk]
    try refine go ⟨?_⟩
    refine PE.nilTok Bool ?_
    refine PE.nilTok Int ?_
    refine PE.nilTok E ?_
    refine PE.ret4 (T := []) (T' := [Tok.own (.slice none 0 0) ([] : List E), Tok.own (.slice none 0 0) ([] : List Int), Tok.own (.slice none 0 0) ([] : List Bool)]) rfl rV ?_ sT
    exact ⟨_, _, _, _, [], [], [], _, _, false, rfl, rfl, Nat.zero_le _, rfl, rfl, fun q => by cases q⟩
  obtain ⟨k, rfl⟩ := Int.eq_ofNat_of_zero_le (show 0 ≤ k by omega)
  rw [decide_eq_false hk]
  try refine go ⟨?_⟩
  refine WPL.eff (OpE.call lO (fun w hw => s_LevelsValid _ ⟨n, es, lv, tr⟩ vE vL vT (Rd.at rD hw) (Rd.at rD hw) (Rd.at rD hw) (by (try dsimp only); omega) (by (try dsimp only); omega) (by (try dsimp only); omega))) rfl rfl ?_
  rintro _ _ ⟨T, ⟨rfl, rfl⟩, rfl⟩
  by_cases hv : LVok ⟨n, es, lv, tr⟩
  case neg =>
    rw [decide_eq_false hv]
    try refine go ⟨?_⟩
    refine PE.nilTok Bool ?_
    refine PE.nilTok Int ?_
    refine PE.nilTok E ?_
    refine PE.ret4 (T := []) (T' := [Tok.own (.slice none 0 0) ([] : List E), Tok.own (.slice none 0 0) ([] : List Int), Tok.own (.slice none 0 0) ([] : List Bool)]) rfl rV ?_ sT
    exact ⟨_, _, _, _, [], [], [], _, _, false, rfl, rfl, Nat.zero_le _, rfl, rfl, fun q => by cases q⟩
  rw [decide_eq_true hv]
  obtain ⟨q1, q2, q3⟩ := LVok_len hv
  dsimp only at q1 q2 q3
  have hlb := LVok_bnd hv (k := k) (by (try dsimp only); omega)
  dsimp only at hlb
  try refine go ⟨?_⟩
  refine WPL.eff (OpE.call lO (fun w hw => g_l7Cut _ n vE vL vT es lv tr k (Rd.at rD hw) (Rd.at rD hw) (Rd.at rD hw) h0 q2 q3)) rfl rfl ?_
  rintro _ _ ⟨T, ⟨a, b, c, ew, lw, tw, rfl, rfl, g0, g1, g2⟩, rfl⟩
  try refine go ⟨?_⟩
  refine WPL.eff OpE.alloc rfl rfl ?_; rintro _ _ ⟨b9, rfl, rfl⟩
  try refine go ⟨?_⟩
  refine WP.cond rfl (fun ct => ?_) (fun ct => ?_)
  · try refine go ⟨?_⟩
    refine PE.ret4 (T := []) (T' := [Tok.own a ew, Tok.own b lw, Tok.own c tw]) rfl rV ?_ sT
    exact ⟨n, a, b, c, ew, lw, tw, _, _, true, rfl, rfl, g0, g1, g2, fun _ => rfl⟩
  try refine go ⟨?_⟩
  refine WP.loop (σ := Int × Int × (Value × Value × Value) × List Int × List Bool) (fun q => [(2, ptrV b2), (3, ptrV b3), (4, ptrV b4), (9, ptrV b9), (10, .int .i64 q.2.1), (11, .int .i64 q.1)])
    (fun q => [Tok.blk b9 [.int .i64 n, q.2.2.1.1, q.2.2.1.2.1, q.2.2.1.2.2], Tok.own q.2.2.1.1 ew, Tok.own q.2.2.1.2.1 q.2.2.2.1, Tok.own q.2.2.1.2.2 q.2.2.2.2, Tok.blk b4 [.int .i64 0, .slice none 0 0, .slice none 0 0, .slice none 0 0], Tok.blk b3 [.int .i64 e.A, .int .i64 e.B], Tok.blk b2 [.int .i64 n, vE, vL, vT]])
    (fun q => -1 ≤ q.1 ∧ q.1 ≤ 4 ∧ 0 ≤ q.2.1 ∧ q.2.1 ≤ 2000 * (4 - q.1) ∧ q.2.2.2.1.length = ew.length ∧ q.2.2.2.2.length = ew.length) (fun q => (q.1 + 1).toNat) (lv.getD k 0, 0, (a, b, c), lw, tw) ⟨by (try dsimp only); omega, by (try dsimp only); omega, by (try dsimp only); omega, by (try dsimp only); omega, g1, g2⟩ sE sT ?_
  rintro ⟨lev, sum, ⟨a1, b1, c1⟩, lx, tx⟩ ⟨m0, m1, m2, m3, m4, m5⟩
  dsimp only at m0 m1 m2 m3 m4 m5 ⊢
  try refine go ⟨?_⟩
  refine WP.condD rfl (fun hc => ?_) (fun hc => ?_)
  · try refine go ⟨?_⟩
    refine WPL.eff (OpE.call lO (fun w hw => g_l7Level _ n a1 b1 c1 ew lx tx e.A e.B lev (Rd.at rD hw) (Rd.at rD hw) (Rd.at rD hw) (by omega) m4 m5 (by omega))) rfl rfl ?_
    rintro _ _ ⟨T, ⟨a2, b2', c2, ly, ty, r1, ok, rfl, rfl, u1, u2, u3, u4⟩, rfl⟩
    try refine go ⟨?_⟩
    refine WPL.eff OpE.alloc rfl rfl ?_; rintro _ _ ⟨b12, rfl, rfl⟩
    try refine go ⟨?_⟩
    refine WP.cond rfl (fun co => ?_) (fun co => ?_)
    · try refine go ⟨?_⟩
      refine PE.ret4 (T := []) (T' := [Tok.own a2 ew, Tok.own b2' ly, Tok.own c2 ty]) rfl rV ?_ sT
      exact ⟨n, a2, b2', c2, ew, ly, ty, _, _, true, rfl, rfl, g0, u1, u2, fun _ => rfl⟩
    · try refine go ⟨?_⟩
      refine PE.again (lev - 1, sum + r1, (a2, b2', c2), ly, ty) ?_ ?_ sE sT
      · exact ⟨by (try dsimp only); omega, by (try dsimp only); omega, by (try dsimp only); omega, by (try dsimp only); omega, u1, u2⟩
      · (try dsimp only); omega
  · try refine go ⟨?_⟩
    refine PE.ret4 (T := []) (T' := [Tok.own a1 ew, Tok.own b1 lx, Tok.own c1 tx]) rfl rV ?_ sT
    exact ⟨n, a1, b1, c1, ew, lx, tx, _, _, true, rfl, rfl, g0, m4, m5, fun _ => rfl⟩

theorem g_l7Of (w : World) (n : Int) (vE : Value) (es : List E) (hE : RL w vE es) (hok : okE n es) (hn : 1 ≤ n ∧ n ≤ 16) (h0 : es.length ≤ 30) :
    Tri Try.prog 142 [.agg #[.int .i64 n, vE]] w [] fun r T => ∃ a b c, ∃ es' : List E, ∃ lv' : List Int, ∃ tr' : List Bool, r = .agg #[.int .i64 n, a, b, c] ∧ T = [Tok.own a es', Tok.own b lv', Tok.own c tr'] ∧ es'.length ≤ 30 ∧ lv'.length = es'.length ∧ tr'.length = es'.length := by
  refine Tri.intro (hf := Try.func142) (hb := rfl) (hn := Try.ntmps142) (Nat.le_of_ble_eq_true rfl) ?_
  try refine go ⟨?_⟩
  refine WPL.eff (OpE.box rfl) rfl rfl ?_; rintro _ _ ⟨b1, rfl, rfl⟩
  refine WPL.eff OpE.alloc rfl rfl ?_; rintro _ _ ⟨b2, rfl, rfl⟩
  try refine go ⟨?_⟩
  refine WPL.eff OpE.alloc rfl rfl ?_; rintro _ _ ⟨b3, rfl, rfl⟩
  try refine go ⟨?_⟩
  refine WP.nilTok Bool ?_
  refine WP.nilTok Int ?_
  refine WP.nilTok E ?_
  refine WP.loop (σ := Nat × (Value × Value × Value) × List E × List Int × List Bool) (fun q => [(1, ptrV b1), (2, ptrV b2), (3, ptrV b3), (4, .int .i64 q.1)])
    (fun q => [Tok.blk b3 [.int .i64 n, q.2.1.1, q.2.1.2.1, q.2.1.2.2], Tok.own q.2.1.1 q.2.2.1, Tok.own q.2.1.2.1 q.2.2.2.1, Tok.own q.2.1.2.2 q.2.2.2.2, Tok.blk b2 [.int .i64 0, .slice none 0 0, .slice none 0 0, .slice none 0 0], Tok.blk b1 [.int .i64 n, vE]])
    (fun q => q.1 ≤ es.length ∧ okE n q.2.2.1 ∧ q.2.2.1.length = q.1 ∧ q.2.2.2.1.length = q.1 ∧ q.2.2.2.2.length = q.1) (fun q => es.length - q.1) (0, (.slice none 0 0, .slice none 0 0, .slice none 0 0), [], [], []) ⟨Nat.zero_le _, (fun e he => by cases he), rfl, rfl, rfl⟩ sE sT ?_
  rintro ⟨i, ⟨a, b, c⟩, ew, lw, tw⟩ ⟨hi, g0, g1, g2, g3⟩
  dsimp only at hi g0 g1 g2 g3 ⊢
  try refine go ⟨?_⟩
  refine WP.condD rfl (fun hc => ?_) (fun hc => ?_)
  · have hi' : i < es.length := by omega
    have hne : NE n ew := ⟨by omega, hn.2, g0, by omega⟩
    have hnd := hok _ (getD_memI (d := (Enc.d : E)) hi')
    have hil := insP_len ew (es.getD i (Enc.d : E))
    have hok2 : okE n (insP ew (es.getD i (Enc.d : E))) := okE_insP g0 (.inl rfl) hnd.1 hnd.2
    try refine go ⟨?_⟩
    refine WP.draw [Tok.own a ew, Tok.own b lw, Tok.own c tw, Tok.blk b2 [.int .i64 0, .slice none 0 0, .slice none 0 0, .slice none 0 0], Tok.blk b1 [.int .i64 n, vE]] mixed ?_
    refine WPD.take 1 rfl (by first | exact (Op1.fieldAddr rfl) | exact (Op1.fieldAddrE rfl rD lT)) rfl rfl sT kR kR kR xQP ?_
    refine WPD.take 3 rfl (Op1.move rfl) rfl rfl sT kR kR kR xQP ?_
    refine WPD.take 6 rfl (by first | exact (Op1.fieldAddr rfl) | exact (Op1.fieldAddrE rfl rD lT)) rfl rfl sT kR kR kR xQP ?_
    refine WPD.take 8 rfl (by first | exact (Op1.fieldAddr rfl) | exact (Op1.fieldAddrE rfl rD lT)) rfl rfl sT kR kR kR xQP ?_
    refine WPD.take 10 rfl (Op1.move rfl) rfl rfl sT kR kR kR xQP ?_
    refine WPD.take 14 rfl (by first | exact (Op1.fieldAddr rfl) | exact (Op1.fieldAddrE rfl rD lT)) rfl rfl sT kR kR kR xQP ?_
    refine WPD.take 16 rfl (Op1.move rfl) rfl rfl sT kR kR kR xQP ?_
    refine WPD.take 2 rfl (by first | exact (Op1.load rfl mM (by rfl)) | exact (Op1.loadI rfl rD lT) | exact (Op1.loadAll rfl mM (by rfl)) | exact (Op1.loadE rfl rD lT (by rfl)) | exact (Op1.loadEAgg rfl rD lT (by rfl))) rfl rfl sT kR kR kR xQP ?_
    refine WPD.take 9 rfl (by first | exact (Op1.load rfl mM (by rfl)) | exact (Op1.loadI rfl rD lT) | exact (Op1.loadAll rfl mM (by rfl)) | exact (Op1.loadE rfl rD lT (by rfl)) | exact (Op1.loadEAgg rfl rD lT (by rfl))) rfl rfl sT kR kR kR xQP ?_
    refine WPD.take 15 rfl (by first | exact (Op1.load rfl mM (by rfl)) | exact (Op1.loadI rfl rD lT) | exact (Op1.loadAll rfl mM (by rfl)) | exact (Op1.loadE rfl rD lT (by rfl)) | exact (Op1.loadEAgg rfl rD lT (by rfl))) rfl rfl sT kR kR kR xQP ?_
    refine WPD.take 4 rfl (by first | exact (Op1.indexAddr rfl rfl rD lT) | exact (Op1.indexAddrZ rfl rfl rD lT)) rfl rfl sT kR kR kR xQP ?_
    refine WPD.take 11 rfl (by first | exact (Op1.indexAddr rfl rfl rD lT) | exact (Op1.indexAddrZ rfl rfl rD lT)) rfl rfl sT kR kR kR xQP ?_
    refine WPD.take 17 rfl (by first | exact (Op1.indexAddr rfl rfl rD lT) | exact (Op1.indexAddrZ rfl rfl rD lT)) rfl rfl sT kR kR kR xQP ?_
    refine WPD.take 5 rfl (by first | exact (Op1.load rfl mM (by rfl)) | exact (Op1.loadI rfl rD lT) | exact (Op1.loadAll rfl mM (by rfl)) | exact (Op1.loadE rfl rD lT (by rfl)) | exact (Op1.loadEAgg rfl rD lT (by rfl))) rfl rfl sT kR kR kR xQP ?_
    refine WPD.take 12 rfl (by first | exact (Op1.fieldAddr rfl) | exact (Op1.fieldAddrE rfl rD lT)) rfl rfl sT kR kR kR xQP ?_
    refine WPD.take 18 rfl (by first | exact (Op1.fieldAddr rfl) | exact (Op1.fieldAddrE rfl rD lT)) rfl rfl sT kR kR kR xQP ?_
    refine WPD.take 13 rfl (by first | exact (Op1.load rfl mM (by rfl)) | exact (Op1.loadI rfl rD lT) | exact (Op1.loadAll rfl mM (by rfl)) | exact (Op1.loadE rfl rD lT (by rfl)) | exact (Op1.loadEAgg rfl rD lT (by rfl))) rfl rfl sT kR kR kR xQP ?_
    refine WPD.take 19 rfl (by first | exact (Op1.load rfl mM (by rfl)) | exact (Op1.loadI rfl rD lT) | exact (Op1.loadAll rfl mM (by rfl)) | exact (Op1.loadE rfl rD lT (by rfl)) | exact (Op1.loadEAgg rfl rD lT (by rfl))) rfl rfl sT kR kR kR xQP ?_
    refine WPD.two 0 7 kR ?e1_0 ?e1_7
    case' e1_0 =>
      refine WPO.eff rfl (OpE.ofPure (by first | exact (Op1.load rfl mM (by rfl)) | exact (Op1.loadI rfl rD lT) | exact (Op1.loadAll rfl mM (by rfl)) | exact (Op1.loadE rfl rD lT (by rfl)) | exact (Op1.loadEAgg rfl rD lT (by rfl)))) rfl rfl ?_
      rintro _ _ ⟨rfl, rfl⟩
      refine ⟨sT, ?_⟩
      refine WPD.eff 7 kR rfl (OpE.ofPure (Op1.loadAgg (us := [.int .i64 n, a]) rfl mM rfl rfl)) rfl rfl ?_
      rintro _ _ ⟨rfl, rfl⟩
      refine ⟨sT, ?_⟩
      refine WPD.eff 20 kR rfl (OpE.call lO (fun w hw => s_Joined _ n a ew (es.getD i (Enc.d : E)).A (es.getD i (Enc.d : E)).B (Rd.at rD hw) hne hnd.1 hnd.2)) rfl rfl ?_
      rintro r _ ⟨T, ⟨rfl, rfl⟩, rfl⟩
      refine ⟨sT, ?_⟩
      refine WPD.take 21 rfl (by first | exact (Op1.notD rfl) | exact (Op1.not rfl)) rfl rfl sT kR kR kR xQP ?_
      refine WPD.eff 22 kR rfl (OpE.call lO (fun w hw => g_l7Put _ n a b c ew lw tw (es.getD i (Enc.d : E)) (decide (¬ cn n ew (es.getD i (Enc.d : E)).A (es.getD i (Enc.d : E)).B)) (Rd.at rD hw) (Rd.at rD hw) (Rd.at rD hw) (by omega) (by omega) (by omega))) rfl rfl ?_
      rintro r _ ⟨T, ⟨a1, b1', c1, lx, tx, rfl, rfl, u1, u2⟩, rfl⟩
      refine ⟨sT, ?_⟩
      refine WPD.eff0 23 kR rfl (OpE.storeAll rfl rfl pM (by rfl) (by rfl) oN) rfl ?_
      rintro _ _ rfl
      refine ⟨sT, ?_⟩
      refine WPD.done kR ?_
    case' e1_7 =>
      refine WPO.eff rfl (OpE.ofPure (Op1.loadAgg (us := [.int .i64 n, a]) rfl mM rfl rfl)) rfl rfl ?_
      rintro _ _ ⟨rfl, rfl⟩
      refine ⟨sT, ?_⟩
      refine WPD.two 0 20 kR ?e2_0 ?e2_20
      case' e2_0 =>
        refine WPO.eff rfl (OpE.ofPure (by first | exact (Op1.load rfl mM (by rfl)) | exact (Op1.loadI rfl rD lT) | exact (Op1.loadAll rfl mM (by rfl)) | exact (Op1.loadE rfl rD lT (by rfl)) | exact (Op1.loadEAgg rfl rD lT (by rfl)))) rfl rfl ?_
        rintro _ _ ⟨rfl, rfl⟩
        refine ⟨sT, ?_⟩
        refine WPD.eff 20 kR rfl (OpE.call lO (fun w hw => s_Joined _ n a ew (es.getD i (Enc.d : E)).A (es.getD i (Enc.d : E)).B (Rd.at rD hw) hne hnd.1 hnd.2)) rfl rfl ?_
        rintro r _ ⟨T, ⟨rfl, rfl⟩, rfl⟩
        refine ⟨sT, ?_⟩
        refine WPD.take 21 rfl (by first | exact (Op1.notD rfl) | exact (Op1.not rfl)) rfl rfl sT kR kR kR xQP ?_
        refine WPD.eff 22 kR rfl (OpE.call lO (fun w hw => g_l7Put _ n a b c ew lw tw (es.getD i (Enc.d : E)) (decide (¬ cn n ew (es.getD i (Enc.d : E)).A (es.getD i (Enc.d : E)).B)) (Rd.at rD hw) (Rd.at rD hw) (Rd.at rD hw) (by omega) (by omega) (by omega))) rfl rfl ?_
        rintro r _ ⟨T, ⟨a1, b1', c1, lx, tx, rfl, rfl, u1, u2⟩, rfl⟩
        refine ⟨sT, ?_⟩
        refine WPD.eff0 23 kR rfl (OpE.storeAll rfl rfl pM (by rfl) (by rfl) oN) rfl ?_
        rintro _ _ rfl
        refine ⟨sT, ?_⟩
        refine WPD.done kR ?_
      case' e2_20 =>
        refine WPO.eff rfl (OpE.call lO (fun w hw => s_Joined _ n a ew (es.getD i (Enc.d : E)).A (es.getD i (Enc.d : E)).B (Rd.at rD hw) hne hnd.1 hnd.2)) rfl rfl ?_
        rintro r _ ⟨T, ⟨rfl, rfl⟩, rfl⟩
        refine ⟨sT, ?_⟩
        refine WPD.take 21 rfl (by first | exact (Op1.notD rfl) | exact (Op1.not rfl)) rfl rfl sT kR kR kR xQP ?_
        refine WPD.eff 0 kR rfl (OpE.ofPure (by first | exact (Op1.load rfl mM (by rfl)) | exact (Op1.loadI rfl rD lT) | exact (Op1.loadAll rfl mM (by rfl)) | exact (Op1.loadE rfl rD lT (by rfl)) | exact (Op1.loadEAgg rfl rD lT (by rfl)))) rfl rfl ?_
        rintro _ _ ⟨rfl, rfl⟩
        refine ⟨sT, ?_⟩
        refine WPD.eff 22 kR rfl (OpE.call lO (fun w hw => g_l7Put _ n a b c ew lw tw (es.getD i (Enc.d : E)) (decide (¬ cn n ew (es.getD i (Enc.d : E)).A (es.getD i (Enc.d : E)).B)) (Rd.at rD hw) (Rd.at rD hw) (Rd.at rD hw) (by omega) (by omega) (by omega))) rfl rfl ?_
        rintro r _ ⟨T, ⟨a1, b1', c1, lx, tx, rfl, rfl, u1, u2⟩, rfl⟩
        refine ⟨sT, ?_⟩
        refine WPD.eff0 23 kR rfl (OpE.storeAll rfl rfl pM (by rfl) (by rfl) oN) rfl ?_
        rintro _ _ rfl
        refine ⟨sT, ?_⟩
        refine WPD.done kR ?_
    all_goals (
      try refine go ⟨?_⟩
      refine PE.again (i + 1, (a1, b1', c1), insP ew (es.getD i (Enc.d : E)), lx, tx) ?_ ?_ sE sT
      · exact ⟨by (try dsimp only); omega, hok2, by (try dsimp only); omega, by (try dsimp only); omega, by (try dsimp only); omega⟩
      · (try dsimp only); omega)
  · try refine go ⟨?_⟩
    refine PE.ret1 (T := []) (T' := [Tok.own a ew, Tok.own b lw, Tok.own c tw]) rfl rV ?_ sT
    exact ⟨a, b, c, ew, lw, tw, rfl, rfl, by omega, by omega, by omega⟩
end Go.Proofs.Ytfigegmgopnfhaa
/- The second program's drawn graphs with levels: their shape (l7Draw and the draws). Conditions: those of each contract. -/
namespace Go.Proofs.Ytfigegmgopnfhaa
open Go
/-- A drawn graph with levels: new memory, and short. -/
def shortL (l : LV) : Prop := l.es.length ≤ 1000 ∧ l.lv.length ≤ 1000 ∧ l.tr.length ≤ 1000 ∧ 1 ≤ l.n ∧ l.n ≤ 16
def dLV (r : Value) (T : List Tok) : Prop := ∃ a b c, ∃ l : LV, r = .agg #[.int .i64 l.n, a, b, c] ∧ T = [Tok.own a l.es, Tok.own b l.lv, Tok.own c l.tr] ∧ shortL l
def dLVx (r : Value) (T : List Tok) : Prop := ∃ a b c, ∃ l : LV, ∃ x : Int, r = .tuple #[.agg #[.int .i64 l.n, a, b, c], .int .i64 x] ∧ T = [Tok.own a l.es, Tok.own b l.lv, Tok.own c l.tr] ∧ shortL l
def dLVxy (r : Value) (T : List Tok) : Prop := ∃ a b c, ∃ l : LV, ∃ x y : Int, r = .tuple #[.agg #[.int .i64 l.n, a, b, c], .int .i64 x, .int .i64 y] ∧ T = [Tok.own a l.es, Tok.own b l.lv, Tok.own c l.tr] ∧ shortL l
theorem OneM.slcL {α : Type} [Enc α] {F : List Tok} {v : Value} {xs : List α} {n : Nat} (h : Tok.own v xs ∈ F) (hn : n ≤ xs.length) : OneM F (slcV v n) := ⟨_, h, fun w hw => (isOwn.own (u := slcV v n) (xs := xs.take n)) w (own_take hn w hw)⟩
set_option linter.unusedVariables false set_option linter.unusedSimpArgs false attribute [local irreducible] Tok.own Tok.blk RL Rd eptr WP WPL PE WPD WPO Op1 OpE Tri Again Mid Exit.then Exit.inBlock bodyPost RP Code.wp wpList isOwn OneM One
attribute [local irreducible] LVok GV
set_option maxHeartbeats 16000000

theorem g_l7Draw (w : World) (v : Value) (bs : List UInt8) (h : RL w v bs) (hl : bs.length ≤ 9223372036854775807) :
    Tri Try.prog 109 [v] w [] dLV := by
  refine Tri.intro (hf := Try.func109) (hb := rfl) (hn := Try.ntmps109) (Nat.le_of_ble_eq_true rfl) ?_
  try refine go ⟨?_⟩
  refine WPL.eff OpE.alloc rfl rfl ?_; rintro _ _ ⟨b2, rfl, rfl⟩
  try refine go ⟨?_⟩
  refine WPL.eff (OpE.call lO (fun w hw => d_Open _ v bs (Rd.at rD hw) hl)) rfl rfl ?_
  rintro r _ ⟨T, ⟨rb, rfl, rfl⟩, rfl⟩
  have hcv := h.cvOf
  have hl2 := bsOf_le bs
  generalize cvOf v bs = cv at *
  generalize bsOf bs = bs' at *
  try refine go ⟨?_⟩
  refine WPL.eff (OpE.callT (T := [Tok.blk rb [cv, .int .i64 0]]) lO pM2 (fun w hw => g_DrawO _ rb cv bs' (Rd.at rD hw) (hw.ne mM hcv) hl2)) rfl rfl ?_
  rintro r _ ⟨T, ⟨v1, n, p1, es0, rfl, rfl, hE0, hn1, hn2, hp0, hp1, hok⟩, rfl⟩
  try refine go ⟨?_⟩
  refine WPL.eff (OpE.call lO (fun w hw => g_l7Of _ n v1 es0 (Rd.at rD hw) hok ⟨hn1, hn2⟩ hE0)) rfl rfl ?_
  rintro _ _ ⟨T, ⟨a, b, c, ew, lw, tw, rfl, rfl, s0, s1, s2⟩, rfl⟩
  try refine go ⟨?_⟩
  refine WPL.eff OpE.alloc rfl rfl ?_; rintro _ _ ⟨b4, rfl, rfl⟩
  try refine go ⟨?_⟩
  refine WPL.eff (OpE.callT (T := [Tok.blk rb [cv, .int .i64 p1]]) lO pM2 (fun w hw => d_pick _ rb cv bs' p1 5 (Rd.at rD hw) (hw.ne mM hcv) hl2 (by omega) (by omega))) rfl rfl ?_
  rintro r _ ⟨T, ⟨rfl, j0, rfl, hj0, hj1⟩, rfl⟩
  have hj1 := hj1 (by omega)
  obtain ⟨j0, rfl⟩ := Int.eq_ofNat_of_zero_le hj0
  try refine go ⟨?_⟩
  refine WP.loop (σ := Nat × Int × (Value × Value × Value) × List E × List Int × List Bool) (fun q => [(2, ptrV b2), (3, ptrV rb), (4, ptrV b4), (5, .int .i64 q.1)])
    (fun q => [Tok.blk b4 [.int .i64 n, q.2.2.1.1, q.2.2.1.2.1, q.2.2.1.2.2], Tok.own q.2.2.1.1 q.2.2.2.1, Tok.own q.2.2.1.2.1 q.2.2.2.2.1, Tok.own q.2.2.1.2.2 q.2.2.2.2.2, Tok.blk rb [cv, .int .i64 q.2.1], Tok.blk b2 [.int .i64 0, .slice none 0 0, .slice none 0 0, .slice none 0 0]])
    (fun q => q.1 ≤ 4 ∧ 0 ≤ q.2.1 ∧ q.2.1 + 10 * q.1 ≤ 300 ∧ q.2.2.2.1.length + q.1 ≤ 34 ∧ q.2.2.2.2.1.length = q.2.2.2.1.length ∧ q.2.2.2.2.2.length = q.2.2.2.1.length) (fun q => q.1) (j0, p1 + 1, (a, b, c), ew, lw, tw) ⟨by (try dsimp only); omega, by (try dsimp only); omega, by (try dsimp only); omega, by (try dsimp only); omega, s1, s2⟩ sE sT ?_
  rintro ⟨j, p, ⟨a, b, c⟩, ew, lw, tw⟩ ⟨h1, h2, h3, h4, h5, h6⟩
  dsimp only at h1 h2 h3 h4 h5 h6 ⊢
  clear s0 s1 s2
  try refine go ⟨?_⟩
  refine WPL.splitD rfl rfl (fun hc => ?_) (fun hc => ?_)
  · have hj' : 0 < (j : Int) := hc
    have ej : (j : Int) - 1 = ((j - 1 : Nat) : Int) := by omega
    try refine go ⟨?_⟩
    refine WP.condD rfl (fun hc2 => ?_) (fun hc2 => ?_)
    · have hel : 0 < ew.length := by have : (ew.length : Int) > 0 := hc2; omega
      try refine go ⟨?_⟩
      refine WP.cutK (σ := Int × (Value × Value × Value) × List E × List Int × List Bool × Nat × Bool) (fun q => [(2, ptrV b2), (3, ptrV rb), (4, ptrV b4), (5, .int .i64 j), (6, ptrV q.2.2.2.2.2.1), (9, .bool q.2.2.2.2.2.2)])
        (fun q => [Tok.blk q.2.2.2.2.2.1 [.int .i64 q.1, q.2.1.1, q.2.1.2.1, q.2.1.2.2], Tok.own q.2.1.1 q.2.2.1, Tok.own q.2.1.2.1 q.2.2.2.1, Tok.own q.2.1.2.2 q.2.2.2.2.1, Tok.blk rb [cv, .int .i64 (p + 1)], Tok.blk b4 [.int .i64 n, a, b, c], Tok.own a ew, Tok.own b lw, Tok.own c tw, Tok.blk b2 [.int .i64 0, .slice none 0 0, .slice none 0 0, .slice none 0 0]])
        (fun q => q.2.2.1.length ≤ ew.length ∧ q.2.2.2.1.length = q.2.2.1.length ∧ q.2.2.2.2.1.length = q.2.2.1.length ∧ (q.2.2.2.2.2.2 = true → q.1 = n)) ?_ ?_
      · refine WP.draw [Tok.blk b4 [.int .i64 n, a, b, c], Tok.own a ew, Tok.own b lw, Tok.own c tw, Tok.blk b2 [.int .i64 0, .slice none 0 0, .slice none 0 0, .slice none 0 0]] mixed ?_
        refine WPD.take 0 rfl (by first | exact (Op1.load rfl mM (by rfl)) | exact (Op1.loadI rfl rD lT) | exact (Op1.loadAll rfl mM (by rfl)) | exact (Op1.loadE rfl rD lT (by rfl)) | exact (Op1.loadEAgg rfl rD lT (by rfl))) rfl rfl sT kR kR kR xQP ?_
        refine WPD.take 1 rfl (by first | exact (Op1.fieldAddr rfl) | exact (Op1.fieldAddrE rfl rD lT)) rfl rfl sT kR kR kR xQP ?_
        refine WPD.take 4 rfl (Op1.move rfl) rfl rfl sT kR kR kR xQP ?_
        refine WPD.take 5 rfl (by first | exact (Op1.fieldAddr rfl) | exact (Op1.fieldAddrE rfl rD lT)) rfl rfl sT kR kR kR xQP ?_
        refine WPD.take 2 rfl (by first | exact (Op1.fieldAddr rfl) | exact (Op1.fieldAddrE rfl rD lT)) rfl rfl sT kR kR kR xQP ?_
        refine WPD.take 6 rfl (by first | exact (Op1.fieldAddr rfl) | exact (Op1.fieldAddrE rfl rD lT)) rfl rfl sT kR kR kR xQP ?_
        refine WPD.take 3 rfl (by first | exact (Op1.load rfl mM (by rfl)) | exact (Op1.loadI rfl rD lT) | exact (Op1.loadAll rfl mM (by rfl)) | exact (Op1.loadE rfl rD lT (by rfl)) | exact (Op1.loadEAgg rfl rD lT (by rfl))) rfl rfl sT kR kR kR xQP ?_
        refine WPD.take 7 rfl (by first | exact (Op1.load rfl mM (by rfl)) | exact (Op1.loadI rfl rD lT) | exact (Op1.loadAll rfl mM (by rfl)) | exact (Op1.loadE rfl rD lT (by rfl)) | exact (Op1.loadEAgg rfl rD lT (by rfl))) rfl rfl sT kR kR kR xQP ?_
        refine WPD.take 8 rfl (Op1.len rfl rD) rfl rfl sT kR kR kR xQP ?_
        refine WPD.two 9 18 kR ?e3_9 ?e3_18
        case' e3_9 =>
          refine WPO.eff rfl (OpE.callT (T := [Tok.blk rb [cv, .int .i64 p]]) lO pM2 (fun w hw => d_pick _ rb cv bs' p ew.length (Rd.at rD hw) (hw.ne mM hcv) hl2 (by omega) (by omega))) rfl rfl ?_
          rintro r _ ⟨T, ⟨rfl, z, rfl, z0, z1⟩, rfl⟩
          refine ⟨sT, ?_⟩
          have z1 := z1 (by omega)
          obtain ⟨z, rfl⟩ := Int.eq_ofNat_of_zero_le z0
          refine WPD.take 10 rfl (by first | exact (Op1.indexAddr rfl rfl rD lT) | exact (Op1.indexAddrZ rfl rfl rD lT)) rfl rfl sT kR kR kR xQP ?_
          refine WPD.take 11 rfl (by first | exact (Op1.load rfl mM (by rfl)) | exact (Op1.loadI rfl rD lT) | exact (Op1.loadAll rfl mM (by rfl)) | exact (Op1.loadE rfl rD lT (by rfl)) | exact (Op1.loadEAgg rfl rD lT (by rfl))) rfl rfl sT kR kR kR xQP ?_
          refine WPD.two 12 18 kR ?e4_12 ?e4_18
          case' e4_12 =>
            refine WPO.eff rfl (OpE.call lO (fun w hw => g_CutLevel _ n a b c ew lw tw (ew.getD z (Enc.d : E)) (Rd.at rD hw) (Rd.at rD hw) (Rd.at rD hw) (by omega) (by omega) (by omega))) rfl rfl ?_
            rintro r _ ⟨T, ⟨n1, a1, b1, c1, ex, lx, tx, k1, q1, q2, rfl, rfl, u1, u2, u3, u4⟩, rfl⟩
            refine ⟨sT, ?_⟩
            refine WPD.take 13 rfl (Op1.move rfl) rfl rfl sT kR kR kR xQP ?_
            refine WPD.take 14 rfl (Op1.extract rfl (by rfl)) rfl rfl sT kR kR kR xQP ?_
            refine WPD.take 15 rfl (Op1.extract rfl (by rfl)) rfl rfl sT kR kR kR xQP ?_
            refine WPD.take 16 rfl (Op1.extract rfl (by rfl)) rfl rfl sT kR kR kR xQP ?_
            refine WPD.take 17 rfl (Op1.extract rfl (by rfl)) rfl rfl sT kR kR kR xQP ?_
            refine WPD.eff 18 kR rfl OpE.alloc rfl rfl ?_
            rintro _ _ ⟨b6, rfl, rfl⟩
            refine ⟨sT, ?_⟩
            refine WPD.eff0 19 kR rfl (OpE.storeAll rfl rfl pM (by rfl) (by rfl) oN) rfl ?_
            rintro _ _ rfl
            refine ⟨sT, ?_⟩
            refine WPD.take 20 rfl (Op1.assign rfl) rfl rfl sT kR kR kR xQP ?_
            refine WPD.take 21 rfl (Op1.assign rfl) rfl rfl sT kR kR kR xQP ?_
            refine WPD.take 22 rfl (Op1.assign rfl) rfl rfl sT kR kR kR xQP ?_
            refine WPD.done kR ?_
          case' e4_18 =>
            refine WPO.eff rfl OpE.alloc rfl rfl ?_
            rintro _ _ ⟨b6, rfl, rfl⟩
            refine ⟨sT, ?_⟩
            refine WPD.eff 12 kR rfl (OpE.call lO (fun w hw => g_CutLevel _ n a b c ew lw tw (ew.getD z (Enc.d : E)) (Rd.at rD hw) (Rd.at rD hw) (Rd.at rD hw) (by omega) (by omega) (by omega))) rfl rfl ?_
            rintro r _ ⟨T, ⟨n1, a1, b1, c1, ex, lx, tx, k1, q1, q2, rfl, rfl, u1, u2, u3, u4⟩, rfl⟩
            refine ⟨sT, ?_⟩
            refine WPD.take 13 rfl (Op1.move rfl) rfl rfl sT kR kR kR xQP ?_
            refine WPD.take 14 rfl (Op1.extract rfl (by rfl)) rfl rfl sT kR kR kR xQP ?_
            refine WPD.take 15 rfl (Op1.extract rfl (by rfl)) rfl rfl sT kR kR kR xQP ?_
            refine WPD.take 16 rfl (Op1.extract rfl (by rfl)) rfl rfl sT kR kR kR xQP ?_
            refine WPD.take 17 rfl (Op1.extract rfl (by rfl)) rfl rfl sT kR kR kR xQP ?_
            refine WPD.eff0 19 kR rfl (OpE.storeAll rfl rfl pM (by rfl) (by rfl) oN) rfl ?_
            rintro _ _ rfl
            refine ⟨sT, ?_⟩
            refine WPD.take 20 rfl (Op1.assign rfl) rfl rfl sT kR kR kR xQP ?_
            refine WPD.take 21 rfl (Op1.assign rfl) rfl rfl sT kR kR kR xQP ?_
            refine WPD.take 22 rfl (Op1.assign rfl) rfl rfl sT kR kR kR xQP ?_
            refine WPD.done kR ?_
        case' e3_18 =>
          refine WPO.eff rfl OpE.alloc rfl rfl ?_
          rintro _ _ ⟨b6, rfl, rfl⟩
          refine ⟨sT, ?_⟩
          refine WPD.eff 9 kR rfl (OpE.callT (T := [Tok.blk rb [cv, .int .i64 p]]) lO pM2 (fun w hw => d_pick _ rb cv bs' p ew.length (Rd.at rD hw) (hw.ne mM hcv) hl2 (by omega) (by omega))) rfl rfl ?_
          rintro r _ ⟨T, ⟨rfl, z, rfl, z0, z1⟩, rfl⟩
          refine ⟨sT, ?_⟩
          have z1 := z1 (by omega)
          obtain ⟨z, rfl⟩ := Int.eq_ofNat_of_zero_le z0
          refine WPD.take 10 rfl (by first | exact (Op1.indexAddr rfl rfl rD lT) | exact (Op1.indexAddrZ rfl rfl rD lT)) rfl rfl sT kR kR kR xQP ?_
          refine WPD.take 11 rfl (by first | exact (Op1.load rfl mM (by rfl)) | exact (Op1.loadI rfl rD lT) | exact (Op1.loadAll rfl mM (by rfl)) | exact (Op1.loadE rfl rD lT (by rfl)) | exact (Op1.loadEAgg rfl rD lT (by rfl))) rfl rfl sT kR kR kR xQP ?_
          refine WPD.eff 12 kR rfl (OpE.call lO (fun w hw => g_CutLevel _ n a b c ew lw tw (ew.getD z (Enc.d : E)) (Rd.at rD hw) (Rd.at rD hw) (Rd.at rD hw) (by omega) (by omega) (by omega))) rfl rfl ?_
          rintro r _ ⟨T, ⟨n1, a1, b1, c1, ex, lx, tx, k1, q1, q2, rfl, rfl, u1, u2, u3, u4⟩, rfl⟩
          refine ⟨sT, ?_⟩
          refine WPD.take 13 rfl (Op1.move rfl) rfl rfl sT kR kR kR xQP ?_
          refine WPD.take 14 rfl (Op1.extract rfl (by rfl)) rfl rfl sT kR kR kR xQP ?_
          refine WPD.take 15 rfl (Op1.extract rfl (by rfl)) rfl rfl sT kR kR kR xQP ?_
          refine WPD.take 16 rfl (Op1.extract rfl (by rfl)) rfl rfl sT kR kR kR xQP ?_
          refine WPD.take 17 rfl (Op1.extract rfl (by rfl)) rfl rfl sT kR kR kR xQP ?_
          refine WPD.eff0 19 kR rfl (OpE.storeAll rfl rfl pM (by rfl) (by rfl) oN) rfl ?_
          rintro _ _ rfl
          refine ⟨sT, ?_⟩
          refine WPD.take 20 rfl (Op1.assign rfl) rfl rfl sT kR kR kR xQP ?_
          refine WPD.take 21 rfl (Op1.assign rfl) rfl rfl sT kR kR kR xQP ?_
          refine WPD.take 22 rfl (Op1.assign rfl) rfl rfl sT kR kR kR xQP ?_
          refine WPD.done kR ?_
        all_goals (refine PE.mid (n1, (a1, b1, c1), ex, lx, tx, b6, q2) ⟨u1, u2, u3, u4⟩ sE sT)
      rintro ⟨n1, ⟨a1, b1, c1⟩, ex, lx, tx, b6, q2⟩ ⟨u1, u2, u3, u4⟩
      dsimp only at u1 u2 u3 u4 ⊢
      try refine go ⟨?_⟩
      refine WP.cutK (σ := (Value × Value × Value) × List E × List Int × List Bool) (fun q => [(2, ptrV b2), (3, ptrV rb), (4, ptrV b4), (5, .int .i64 j)])
        (fun q => [Tok.blk b4 [.int .i64 n, q.1.1, q.1.2.1, q.1.2.2], Tok.own q.1.1 q.2.1, Tok.own q.1.2.1 q.2.2.1, Tok.own q.1.2.2 q.2.2.2, Tok.blk rb [cv, .int .i64 (p + 1)], Tok.blk b2 [.int .i64 0, .slice none 0 0, .slice none 0 0, .slice none 0 0]])
        (fun q => q.2.1.length ≤ ew.length ∧ q.2.2.1.length = q.2.1.length ∧ q.2.2.2.length = q.2.1.length) ?_ ?_
      · refine WP.cond rfl (fun hq => ?_) (fun hq => ?_)
        · have hnn := u4 hq
          subst hnn
          try refine go ⟨?_⟩
          refine PE.mid ((a1, b1, c1), ex, lx, tx) ⟨u1, u2, u3⟩ sE sT
        · try refine go ⟨?_⟩
          refine PE.mid ((a, b, c), ew, lw, tw) ⟨Nat.le_refl _, h5, h6⟩ sE sT
      rintro ⟨⟨a2, b2', c2⟩, ey, ly, ty⟩ ⟨w1, w2, w3⟩
      dsimp only at w1 w2 w3 ⊢
      try refine go ⟨?_⟩
      refine WPL.eff (OpE.callT (T := [Tok.blk rb [cv, .int .i64 (p + 1)]]) lO pM2 (fun w hw => d_pick _ rb cv bs' (p + 1) n (Rd.at rD hw) (hw.ne mM hcv) hl2 (by omega) (by omega))) rfl rfl ?_
      rintro r _ ⟨T, ⟨rfl, x, rfl, x0, x1⟩, rfl⟩
      try refine go ⟨?_⟩
      refine WPL.eff (OpE.callT (T := [Tok.blk rb [cv, .int .i64 (p + 1 + 1)]]) lO pM2 (fun w hw => d_pick _ rb cv bs' (p + 1 + 1) n (Rd.at rD hw) (hw.ne mM hcv) hl2 (by omega) (by omega))) rfl rfl ?_
      rintro r _ ⟨T, ⟨rfl, y, rfl, y0, y1⟩, rfl⟩
      try refine go ⟨?_⟩
      refine WPL.splitD rfl rfl (fun hxy => ?_) (fun hxy => ?_)
      · try refine go ⟨?_⟩
        refine WPL.eff (OpE.callT (T := [Tok.blk rb [cv, .int .i64 (p + 1 + 1 + 1)]]) lO pM2 (fun w hw => d_pick _ rb cv bs' (p + 1 + 1 + 1) 2 (Rd.at rD hw) (hw.ne mM hcv) hl2 (by omega) (by omega))) rfl rfl ?_
        rintro r _ ⟨T, ⟨rfl, z, rfl, z0, z1⟩, rfl⟩
        try refine go ⟨?_⟩
        refine WP.condD rfl (fun hz => ?_) (fun hz => ?_)
        · try refine go ⟨?_⟩
          refine WP.cutK (σ := Int × (Value × Value × Value) × List E × List Int × List Bool × Nat × Bool) (fun q => [(2, ptrV b2), (3, ptrV rb), (4, ptrV b4), (5, .int .i64 j), (12, ptrV q.2.2.2.2.2.1), (13, .bool q.2.2.2.2.2.2)])
            (fun q => [Tok.blk q.2.2.2.2.2.1 [.int .i64 q.1, q.2.1.1, q.2.1.2.1, q.2.1.2.2], Tok.own q.2.1.1 q.2.2.1, Tok.own q.2.1.2.1 q.2.2.2.1, Tok.own q.2.1.2.2 q.2.2.2.2.1, Tok.blk rb [cv, .int .i64 (p + 1 + 1 + 1 + 1)], Tok.blk b4 [.int .i64 n, a2, b2', c2], Tok.own a2 ey, Tok.own b2' ly, Tok.own c2 ty, Tok.blk b2 [.int .i64 0, .slice none 0 0, .slice none 0 0, .slice none 0 0]])
            (fun q => q.2.2.1.length ≤ ey.length + 1 ∧ q.2.2.2.1.length = q.2.2.1.length ∧ q.2.2.2.2.1.length = q.2.2.1.length ∧ (q.2.2.2.2.2.2 = true → q.1 = n)) ?_ ?_
          · refine WP.draw [Tok.blk rb [cv, .int .i64 (p + 1 + 1 + 1 + 1)], Tok.blk b4 [.int .i64 n, a2, b2', c2], Tok.own a2 ey, Tok.own b2' ly, Tok.own c2 ty, Tok.blk b2 [.int .i64 0, .slice none 0 0, .slice none 0 0, .slice none 0 0]] mixed ?_
            refine WPD.take 0 rfl (by first | exact (Op1.load rfl mM (by rfl)) | exact (Op1.loadI rfl rD lT) | exact (Op1.loadAll rfl mM (by rfl)) | exact (Op1.loadE rfl rD lT (by rfl)) | exact (Op1.loadEAgg rfl rD lT (by rfl))) rfl rfl sT kR kR kR xQP ?_
            refine WPD.take 1 rfl (Op1.move rfl) rfl rfl sT kR kR kR xQP ?_
            refine WPD.take 2 rfl (Op1.move rfl) rfl rfl sT kR kR kR xQP ?_
            refine WPD.two 3 8 kR ?e5_3 ?e5_8
            case' e5_3 =>
              refine WPO.eff rfl (OpE.call lO (fun w hw => g_Edge _ x y)) rfl rfl ?_
              rintro r _ ⟨T, ⟨rfl, e, rfl⟩, rfl⟩
              refine ⟨sT, ?_⟩
              refine WPD.two 4 8 kR ?e6_4 ?e6_8
              case' e6_4 =>
                refine WPO.eff rfl (OpE.call lO (fun w hw => g_PutLevel _ n a2 b2' c2 ey ly ty e (Rd.at rD hw) (Rd.at rD hw) (Rd.at rD hw) (by omega) (by omega) (by omega))) rfl rfl ?_
                rintro r _ ⟨T, ⟨n3, a3, b3, c3, ez, lz, tz, ok3, rfl, rfl, k1, k2, k3, k4⟩, rfl⟩
                refine ⟨sT, ?_⟩
                refine WPD.take 5 rfl (Op1.move rfl) rfl rfl sT kR kR kR xQP ?_
                refine WPD.take 6 rfl (Op1.extract rfl (by rfl)) rfl rfl sT kR kR kR xQP ?_
                refine WPD.take 7 rfl (Op1.extract rfl (by rfl)) rfl rfl sT kR kR kR xQP ?_
                refine WPD.eff 8 kR rfl OpE.alloc rfl rfl ?_
                rintro _ _ ⟨b12, rfl, rfl⟩
                refine ⟨sT, ?_⟩
                refine WPD.eff0 9 kR rfl (OpE.storeAll rfl rfl pM (by rfl) (by rfl) oN) rfl ?_
                rintro _ _ rfl
                refine ⟨sT, ?_⟩
                refine WPD.take 10 rfl (Op1.assign rfl) rfl rfl sT kR kR kR xQP ?_
                refine WPD.done kR ?_
              case' e6_8 =>
                refine WPO.eff rfl OpE.alloc rfl rfl ?_
                rintro _ _ ⟨b12, rfl, rfl⟩
                refine ⟨sT, ?_⟩
                refine WPD.eff 4 kR rfl (OpE.call lO (fun w hw => g_PutLevel _ n a2 b2' c2 ey ly ty e (Rd.at rD hw) (Rd.at rD hw) (Rd.at rD hw) (by omega) (by omega) (by omega))) rfl rfl ?_
                rintro r _ ⟨T, ⟨n3, a3, b3, c3, ez, lz, tz, ok3, rfl, rfl, k1, k2, k3, k4⟩, rfl⟩
                refine ⟨sT, ?_⟩
                refine WPD.take 5 rfl (Op1.move rfl) rfl rfl sT kR kR kR xQP ?_
                refine WPD.take 6 rfl (Op1.extract rfl (by rfl)) rfl rfl sT kR kR kR xQP ?_
                refine WPD.take 7 rfl (Op1.extract rfl (by rfl)) rfl rfl sT kR kR kR xQP ?_
                refine WPD.eff0 9 kR rfl (OpE.storeAll rfl rfl pM (by rfl) (by rfl) oN) rfl ?_
                rintro _ _ rfl
                refine ⟨sT, ?_⟩
                refine WPD.take 10 rfl (Op1.assign rfl) rfl rfl sT kR kR kR xQP ?_
                refine WPD.done kR ?_
            case' e5_8 =>
              refine WPO.eff rfl OpE.alloc rfl rfl ?_
              rintro _ _ ⟨b12, rfl, rfl⟩
              refine ⟨sT, ?_⟩
              refine WPD.eff 3 kR rfl (OpE.call lO (fun w hw => g_Edge _ x y)) rfl rfl ?_
              rintro r _ ⟨T, ⟨rfl, e, rfl⟩, rfl⟩
              refine ⟨sT, ?_⟩
              refine WPD.eff 4 kR rfl (OpE.call lO (fun w hw => g_PutLevel _ n a2 b2' c2 ey ly ty e (Rd.at rD hw) (Rd.at rD hw) (Rd.at rD hw) (by omega) (by omega) (by omega))) rfl rfl ?_
              rintro r _ ⟨T, ⟨n3, a3, b3, c3, ez, lz, tz, ok3, rfl, rfl, k1, k2, k3, k4⟩, rfl⟩
              refine ⟨sT, ?_⟩
              refine WPD.take 5 rfl (Op1.move rfl) rfl rfl sT kR kR kR xQP ?_
              refine WPD.take 6 rfl (Op1.extract rfl (by rfl)) rfl rfl sT kR kR kR xQP ?_
              refine WPD.take 7 rfl (Op1.extract rfl (by rfl)) rfl rfl sT kR kR kR xQP ?_
              refine WPD.eff0 9 kR rfl (OpE.storeAll rfl rfl pM (by rfl) (by rfl) oN) rfl ?_
              rintro _ _ rfl
              refine ⟨sT, ?_⟩
              refine WPD.take 10 rfl (Op1.assign rfl) rfl rfl sT kR kR kR xQP ?_
              refine WPD.done kR ?_
            all_goals (refine PE.mid (n3, (a3, b3, c3), ez, lz, tz, b12, ok3) ⟨k1, k2, k3, k4⟩ sE sT)
          rintro ⟨n3, ⟨a3, b3, c3⟩, ez, lz, tz, b12, ok3⟩ ⟨k1, k2, k3, k4⟩
          dsimp only at k1 k2 k3 k4 ⊢
          try refine go ⟨?_⟩
          refine WP.cond rfl (fun hq => ?_) (fun hq => ?_)
          · have hnn := k4 hq
            subst hnn
            try refine go ⟨?_⟩
            rw [ej]
            refine PE.again (j - 1, p + 1 + 1 + 1 + 1, (a3, b3, c3), ez, lz, tz) ?_ ?_ sE sT
            · exact ⟨by (try dsimp only); omega, by (try dsimp only); omega, by (try dsimp only); omega, by (try dsimp only); omega, k2, k3⟩
            · (try dsimp only); omega
          · try refine go ⟨?_⟩
            rw [ej]
            refine PE.again (j - 1, p + 1 + 1 + 1 + 1, (a2, b2', c2), ey, ly, ty) ?_ ?_ sE sT
            · exact ⟨by (try dsimp only); omega, by (try dsimp only); omega, by (try dsimp only); omega, by (try dsimp only); omega, w2, w3⟩
            · (try dsimp only); omega
        · try refine go ⟨?_⟩
          rw [ej]
          refine PE.again (j - 1, p + 1 + 1 + 1 + 1, (a2, b2', c2), ey, ly, ty) ?_ ?_ sE sT
          · exact ⟨by (try dsimp only); omega, by (try dsimp only); omega, by (try dsimp only); omega, by (try dsimp only); omega, w2, w3⟩
          · (try dsimp only); omega
      · try refine go ⟨?_⟩
        rw [ej]
        refine PE.again (j - 1, p + 1 + 1 + 1, (a2, b2', c2), ey, ly, ty) ?_ ?_ sE sT
        · exact ⟨by (try dsimp only); omega, by (try dsimp only); omega, by (try dsimp only); omega, by (try dsimp only); omega, w2, w3⟩
        · (try dsimp only); omega
    · try refine go ⟨?_⟩
      refine WP.condD rfl (fun hlz => ?_) (fun hlz => ?_)
      · try refine go ⟨?_⟩
        refine PE.ret1 (T := []) (T' := [Tok.own a ew, Tok.own b lw, Tok.own c tw]) rfl rV ?_ sT
        exact ⟨a, b, c, ⟨n, ew, lw, tw⟩, rfl, rfl, by (try dsimp only); omega, by (try simp only [List.length_set, List.length_take]); omega, by (try simp only [List.length_set]); omega, hn1, hn2⟩
      have hlz : ¬ (lw.length : Int) = 0 := hlz
      try refine go ⟨?_⟩
      refine WPL.eff (OpE.callT (T := [Tok.blk rb [cv, .int .i64 p]]) lO pM2 (fun w hw => d_pick _ rb cv bs' p 24 (Rd.at rD hw) (hw.ne mM hcv) hl2 (by omega) (by omega))) rfl rfl ?_
      rintro r _ ⟨T, ⟨rfl, k, rfl, _, _⟩, rfl⟩
      try refine go ⟨?_⟩
      refine WP.condD rfl (fun k0 => ?_) (fun k0 => ?_)
      · try refine go ⟨?_⟩
        refine WP.draw [Tok.blk b4 [.int .i64 n, a, b, c], Tok.own a ew, Tok.own c tw, Tok.blk b2 [.int .i64 0, .slice none 0 0, .slice none 0 0, .slice none 0 0]] mixed ?_
        refine WPD.take 0 rfl (by first | exact (Op1.fieldAddr rfl) | exact (Op1.fieldAddrE rfl rD lT)) rfl rfl sT kR kR kR xQP ?_
        refine WPD.take 2 rfl (Op1.move rfl) rfl rfl sT kR kR kR xQP ?_
        refine WPD.take 3 rfl (by first | exact (Op1.fieldAddr rfl) | exact (Op1.fieldAddrE rfl rD lT)) rfl rfl sT kR kR kR xQP ?_
        refine WPD.take 7 rfl (Op1.move rfl) rfl rfl sT kR kR kR xQP ?_
        refine WPD.take 1 rfl (by first | exact (Op1.load rfl mM (by rfl)) | exact (Op1.loadI rfl rD lT) | exact (Op1.loadAll rfl mM (by rfl)) | exact (Op1.loadE rfl rD lT (by rfl)) | exact (Op1.loadEAgg rfl rD lT (by rfl))) rfl rfl sT kR kR kR xQP ?_
        refine WPD.take 4 rfl (by first | exact (Op1.load rfl mM (by rfl)) | exact (Op1.loadI rfl rD lT) | exact (Op1.loadAll rfl mM (by rfl)) | exact (Op1.loadE rfl rD lT (by rfl)) | exact (Op1.loadEAgg rfl rD lT (by rfl))) rfl rfl sT kR kR kR xQP ?_
        refine WPD.two 5 8 kR ?e7_5 ?e7_8
        case' e7_5 =>
          refine WPO.eff rfl (OpE.ofPure (Op1.len rfl rD)) rfl rfl ?_
          rintro _ _ ⟨eP, rfl⟩; have eP := eP.symm; subst eP
          refine ⟨sT, ?_⟩
          refine WPD.two 6 8 kR ?e8_6 ?e8_8
          case' e8_6 =>
            refine WPO.eff rfl (OpE.callT (T := [Tok.blk rb [cv, .int .i64 (p + 1)]]) lO pM2 (fun w hw => d_pick _ rb cv bs' (p + 1) lw.length (Rd.at rD hw) (hw.ne mM hcv) hl2 (by omega) (by omega))) rfl rfl ?_
            rintro r _ ⟨T, ⟨rfl, z, rfl, z0, zz⟩, rfl⟩
            have z9 := zz (by omega)
            refine ⟨sT, ?_⟩
            refine WPD.eff 8 kR rfl (OpE.buildSlice (([5, -1, 4, 1] : List Int)) pA rfl (by decide)) rfl rfl ?_
            rintro s1 _ rfl
            refine ⟨sT, ?_⟩
            refine WPD.eff 9 kR rfl (OpE.callT (T := [Tok.blk rb [cv, .int .i64 (p + 1 + 1)]]) lO pM2 (fun w hw => d_num _ rb cv s1 bs' [5, -1, 4, 1] (p + 1 + 1) (Rd.at rD hw) (hw.ne mM hcv) (Rd.at rD hw) (hw.own_ne pM mM) hl2 (by omega) (by decide))) rfl rfl ?_
            rintro r _ ⟨T, ⟨rfl, u, rfl, _⟩, rfl⟩
            refine ⟨sT, ?_⟩
            refine WPD.eff 10 kR rfl (OpE.ofPure (by first | exact (Op1.indexAddr rfl rfl rD lT) | exact (Op1.indexAddrZ rfl rfl rD lT))) rfl rfl ?_
            rintro _ _ ⟨eP, rfl⟩; have eP := eP.symm; subst eP
            refine ⟨sT, ?_⟩
            refine WPD.eff0 11 kR rfl (OpE.store1 (_) rfl rfl pM lT rfl) rfl ?_
            rintro _ _ rfl
            refine ⟨sT, ?_⟩
            refine WPD.done kR ?_
          case' e8_8 =>
            refine WPO.eff rfl (OpE.buildSlice (([5, -1, 4, 1] : List Int)) pA rfl (by decide)) rfl rfl ?_
            rintro s1 _ rfl
            refine ⟨sT, ?_⟩
            refine WPD.eff 6 kR rfl (OpE.callT (T := [Tok.blk rb [cv, .int .i64 (p + 1)]]) lO pM2 (fun w hw => d_pick _ rb cv bs' (p + 1) lw.length (Rd.at rD hw) (hw.ne mM hcv) hl2 (by omega) (by omega))) rfl rfl ?_
            rintro r _ ⟨T, ⟨rfl, z, rfl, z0, zz⟩, rfl⟩
            have z9 := zz (by omega)
            refine ⟨sT, ?_⟩
            refine WPD.eff 9 kR rfl (OpE.callT (T := [Tok.blk rb [cv, .int .i64 (p + 1 + 1)]]) lO pM2 (fun w hw => d_num _ rb cv s1 bs' [5, -1, 4, 1] (p + 1 + 1) (Rd.at rD hw) (hw.ne mM hcv) (Rd.at rD hw) (hw.own_ne pM mM) hl2 (by omega) (by decide))) rfl rfl ?_
            rintro r _ ⟨T, ⟨rfl, u, rfl, _⟩, rfl⟩
            refine ⟨sT, ?_⟩
            refine WPD.eff 10 kR rfl (OpE.ofPure (by first | exact (Op1.indexAddr rfl rfl rD lT) | exact (Op1.indexAddrZ rfl rfl rD lT))) rfl rfl ?_
            rintro _ _ ⟨eP, rfl⟩; have eP := eP.symm; subst eP
            refine ⟨sT, ?_⟩
            refine WPD.eff0 11 kR rfl (OpE.store1 (_) rfl rfl pM lT rfl) rfl ?_
            rintro _ _ rfl
            refine ⟨sT, ?_⟩
            refine WPD.done kR ?_
        case' e7_8 =>
          refine WPO.eff rfl (OpE.buildSlice (([5, -1, 4, 1] : List Int)) pA rfl (by decide)) rfl rfl ?_
          rintro s1 _ rfl
          refine ⟨sT, ?_⟩
          refine WPD.eff 5 kR rfl (OpE.ofPure (Op1.len rfl rD)) rfl rfl ?_
          rintro _ _ ⟨eP, rfl⟩; have eP := eP.symm; subst eP
          refine ⟨sT, ?_⟩
          refine WPD.eff 6 kR rfl (OpE.callT (T := [Tok.blk rb [cv, .int .i64 (p + 1)]]) lO pM2 (fun w hw => d_pick _ rb cv bs' (p + 1) lw.length (Rd.at rD hw) (hw.ne mM hcv) hl2 (by omega) (by omega))) rfl rfl ?_
          rintro r _ ⟨T, ⟨rfl, z, rfl, z0, zz⟩, rfl⟩
          have z9 := zz (by omega)
          refine ⟨sT, ?_⟩
          refine WPD.eff 9 kR rfl (OpE.callT (T := [Tok.blk rb [cv, .int .i64 (p + 1 + 1)]]) lO pM2 (fun w hw => d_num _ rb cv s1 bs' [5, -1, 4, 1] (p + 1 + 1) (Rd.at rD hw) (hw.ne mM hcv) (Rd.at rD hw) (hw.own_ne pM mM) hl2 (by omega) (by decide))) rfl rfl ?_
          rintro r _ ⟨T, ⟨rfl, u, rfl, _⟩, rfl⟩
          refine ⟨sT, ?_⟩
          refine WPD.eff 10 kR rfl (OpE.ofPure (by first | exact (Op1.indexAddr rfl rfl rD lT) | exact (Op1.indexAddrZ rfl rfl rD lT))) rfl rfl ?_
          rintro _ _ ⟨eP, rfl⟩; have eP := eP.symm; subst eP
          refine ⟨sT, ?_⟩
          refine WPD.eff0 11 kR rfl (OpE.store1 (_) rfl rfl pM lT rfl) rfl ?_
          rintro _ _ rfl
          refine ⟨sT, ?_⟩
          refine WPD.done kR ?_
        all_goals (
          try refine go ⟨?_⟩
          refine PE.ret1 (T := []) (T' := [Tok.own a ew, Tok.own b (lw.set z.toNat u), Tok.own c tw]) rfl rV ?_ sT
          exact ⟨a, b, c, ⟨n, ew, (lw.set z.toNat u), tw⟩, rfl, rfl, by (try dsimp only); omega, by (try simp only [List.length_set, List.length_take]); omega, by (try simp only [List.length_set]); omega, hn1, hn2⟩)
      try refine go ⟨?_⟩
      refine WP.condD rfl (fun k1 => ?_) (fun k1 => ?_)
      · try refine go ⟨?_⟩
        refine WP.draw [Tok.blk b4 [.int .i64 n, a, b, c], Tok.own a ew, Tok.own b lw, Tok.blk b2 [.int .i64 0, .slice none 0 0, .slice none 0 0, .slice none 0 0]] mixed ?_
        refine WPD.take 0 rfl (by first | exact (Op1.fieldAddr rfl) | exact (Op1.fieldAddrE rfl rD lT)) rfl rfl sT kR kR kR xQP ?_
        refine WPD.take 2 rfl (Op1.move rfl) rfl rfl sT kR kR kR xQP ?_
        refine WPD.take 3 rfl (by first | exact (Op1.fieldAddr rfl) | exact (Op1.fieldAddrE rfl rD lT)) rfl rfl sT kR kR kR xQP ?_
        refine WPD.take 7 rfl (Op1.move rfl) rfl rfl sT kR kR kR xQP ?_
        refine WPD.take 1 rfl (by first | exact (Op1.load rfl mM (by rfl)) | exact (Op1.loadI rfl rD lT) | exact (Op1.loadAll rfl mM (by rfl)) | exact (Op1.loadE rfl rD lT (by rfl)) | exact (Op1.loadEAgg rfl rD lT (by rfl))) rfl rfl sT kR kR kR xQP ?_
        refine WPD.take 4 rfl (by first | exact (Op1.load rfl mM (by rfl)) | exact (Op1.loadI rfl rD lT) | exact (Op1.loadAll rfl mM (by rfl)) | exact (Op1.loadE rfl rD lT (by rfl)) | exact (Op1.loadEAgg rfl rD lT (by rfl))) rfl rfl sT kR kR kR xQP ?_
        refine WPD.eff 5 kR rfl (OpE.ofPure (Op1.len rfl rD)) rfl rfl ?_
        rintro _ _ ⟨eP, rfl⟩; have eP := eP.symm; subst eP
        refine ⟨sT, ?_⟩
        refine WPD.eff 6 kR rfl (OpE.callT (T := [Tok.blk rb [cv, .int .i64 (p + 1)]]) lO pM2 (fun w hw => d_pick _ rb cv bs' (p + 1) tw.length (Rd.at rD hw) (hw.ne mM hcv) hl2 (by omega) (by omega))) rfl rfl ?_
        rintro r _ ⟨T, ⟨rfl, z, rfl, z0, zz⟩, rfl⟩
        have z9 := zz (by omega)
        refine ⟨sT, ?_⟩
        refine WPD.eff 8 kR rfl (OpE.callT (T := [Tok.blk rb [cv, .int .i64 (p + 1 + 1)]]) lO pM2 (fun w hw => d_pick _ rb cv bs' (p + 1 + 1) 2 (Rd.at rD hw) (hw.ne mM hcv) hl2 (by omega) (by omega))) rfl rfl ?_
        rintro r _ ⟨T, ⟨rfl, u, rfl, _, _⟩, rfl⟩
        refine ⟨sT, ?_⟩
        refine WPD.take 9 rfl (by first | exact (Op1.eqI rfl rfl) | exact (Op1.eqB rfl rfl) | exact (Op1.eqE rfl rfl) | exact (Op1.eqNil rfl rD)) rfl rfl sT kR kR kR xQP ?_
        refine WPD.eff 10 kR rfl (OpE.ofPure (by first | exact (Op1.indexAddr rfl rfl rD lT) | exact (Op1.indexAddrZ rfl rfl rD lT))) rfl rfl ?_
        rintro _ _ ⟨eP, rfl⟩; have eP := eP.symm; subst eP
        refine ⟨sT, ?_⟩
        refine WPD.eff0 11 kR rfl (OpE.store1 ((decide (u = 0))) rfl rfl pM lT rfl) rfl ?_
        rintro _ _ rfl
        refine ⟨sT, ?_⟩
        refine WPD.done kR ?_
        all_goals (
          try refine go ⟨?_⟩
          refine PE.ret1 (T := []) (T' := [Tok.own a ew, Tok.own b lw, Tok.own c (tw.set z.toNat (decide (u = 0)))]) rfl rV ?_ sT
          exact ⟨a, b, c, ⟨n, ew, lw, (tw.set z.toNat (decide (u = 0)))⟩, rfl, rfl, by (try dsimp only); omega, by (try simp only [List.length_set, List.length_take]); omega, by (try simp only [List.length_set]); omega, hn1, hn2⟩)
      try refine go ⟨?_⟩
      refine WP.condD rfl (fun k2 => ?_) (fun k2 => ?_)
      · have et : (((lw.length : Nat) : Int) - 1).toNat ≤ lw.length := by omega
        refine WP.one1 (slcV b (((lw.length : Nat) : Int) - 1).toNat) (OneM.slcL (xs := lw) mM et) fun o1 => ?_
        try refine go ⟨?_⟩
        refine PE.turnG (t := Tok.own b lw) (t' := Tok.own (slcV b (((lw.length : Nat) : Int) - 1).toNat) (lw.take (((lw.length : Nat) : Int) - 1).toNat)) pM own_take_fp (own_take et) ?_
        try refine go ⟨?_⟩
        refine PE.ret1 (T := []) (T' := [Tok.own a ew, Tok.own (slcV b (((lw.length : Nat) : Int) - 1).toNat) (lw.take (((lw.length : Nat) : Int) - 1).toNat), Tok.own c tw]) rfl rV ?_ sT
        exact ⟨a, (slcV b (((lw.length : Nat) : Int) - 1).toNat), c, ⟨n, ew, (lw.take (((lw.length : Nat) : Int) - 1).toNat), tw⟩, rfl, rfl, by (try dsimp only); omega, by (try simp only [List.length_set, List.length_take]); omega, by (try simp only [List.length_set]); omega, hn1, hn2⟩
      · try refine go ⟨?_⟩
        refine PE.ret1 (T := []) (T' := [Tok.own a ew, Tok.own b lw, Tok.own c tw]) rfl rV ?_ sT
        exact ⟨a, b, c, ⟨n, ew, lw, tw⟩, rfl, rfl, by (try dsimp only); omega, by (try simp only [List.length_set, List.length_take]); omega, by (try simp only [List.length_set]); omega, hn1, hn2⟩
  · try refine go ⟨?_⟩
    refine WP.condD rfl (fun hlz => ?_) (fun hlz => ?_)
    · try refine go ⟨?_⟩
      refine PE.ret1 (T := []) (T' := [Tok.own a ew, Tok.own b lw, Tok.own c tw]) rfl rV ?_ sT
      exact ⟨a, b, c, ⟨n, ew, lw, tw⟩, rfl, rfl, by (try dsimp only); omega, by (try simp only [List.length_set, List.length_take]); omega, by (try simp only [List.length_set]); omega, hn1, hn2⟩
    have hlz : ¬ (lw.length : Int) = 0 := hlz
    try refine go ⟨?_⟩
    refine WPL.eff (OpE.callT (T := [Tok.blk rb [cv, .int .i64 p]]) lO pM2 (fun w hw => d_pick _ rb cv bs' p 24 (Rd.at rD hw) (hw.ne mM hcv) hl2 (by omega) (by omega))) rfl rfl ?_
    rintro r _ ⟨T, ⟨rfl, k, rfl, _, _⟩, rfl⟩
    try refine go ⟨?_⟩
    refine WP.condD rfl (fun k0 => ?_) (fun k0 => ?_)
    · try refine go ⟨?_⟩
      refine WP.draw [Tok.blk b4 [.int .i64 n, a, b, c], Tok.own a ew, Tok.own c tw, Tok.blk b2 [.int .i64 0, .slice none 0 0, .slice none 0 0, .slice none 0 0]] mixed ?_
      refine WPD.take 0 rfl (by first | exact (Op1.fieldAddr rfl) | exact (Op1.fieldAddrE rfl rD lT)) rfl rfl sT kR kR kR xQP ?_
      refine WPD.take 2 rfl (Op1.move rfl) rfl rfl sT kR kR kR xQP ?_
      refine WPD.take 3 rfl (by first | exact (Op1.fieldAddr rfl) | exact (Op1.fieldAddrE rfl rD lT)) rfl rfl sT kR kR kR xQP ?_
      refine WPD.take 7 rfl (Op1.move rfl) rfl rfl sT kR kR kR xQP ?_
      refine WPD.take 1 rfl (by first | exact (Op1.load rfl mM (by rfl)) | exact (Op1.loadI rfl rD lT) | exact (Op1.loadAll rfl mM (by rfl)) | exact (Op1.loadE rfl rD lT (by rfl)) | exact (Op1.loadEAgg rfl rD lT (by rfl))) rfl rfl sT kR kR kR xQP ?_
      refine WPD.take 4 rfl (by first | exact (Op1.load rfl mM (by rfl)) | exact (Op1.loadI rfl rD lT) | exact (Op1.loadAll rfl mM (by rfl)) | exact (Op1.loadE rfl rD lT (by rfl)) | exact (Op1.loadEAgg rfl rD lT (by rfl))) rfl rfl sT kR kR kR xQP ?_
      refine WPD.two 5 8 kR ?e9_5 ?e9_8
      case' e9_5 =>
        refine WPO.eff rfl (OpE.ofPure (Op1.len rfl rD)) rfl rfl ?_
        rintro _ _ ⟨eP, rfl⟩; have eP := eP.symm; subst eP
        refine ⟨sT, ?_⟩
        refine WPD.two 6 8 kR ?e10_6 ?e10_8
        case' e10_6 =>
          refine WPO.eff rfl (OpE.callT (T := [Tok.blk rb [cv, .int .i64 (p + 1)]]) lO pM2 (fun w hw => d_pick _ rb cv bs' (p + 1) lw.length (Rd.at rD hw) (hw.ne mM hcv) hl2 (by omega) (by omega))) rfl rfl ?_
          rintro r _ ⟨T, ⟨rfl, z, rfl, z0, zz⟩, rfl⟩
          have z9 := zz (by omega)
          refine ⟨sT, ?_⟩
          refine WPD.eff 8 kR rfl (OpE.buildSlice (([5, -1, 4, 1] : List Int)) pA rfl (by decide)) rfl rfl ?_
          rintro s1 _ rfl
          refine ⟨sT, ?_⟩
          refine WPD.eff 9 kR rfl (OpE.callT (T := [Tok.blk rb [cv, .int .i64 (p + 1 + 1)]]) lO pM2 (fun w hw => d_num _ rb cv s1 bs' [5, -1, 4, 1] (p + 1 + 1) (Rd.at rD hw) (hw.ne mM hcv) (Rd.at rD hw) (hw.own_ne pM mM) hl2 (by omega) (by decide))) rfl rfl ?_
          rintro r _ ⟨T, ⟨rfl, u, rfl, _⟩, rfl⟩
          refine ⟨sT, ?_⟩
          refine WPD.eff 10 kR rfl (OpE.ofPure (by first | exact (Op1.indexAddr rfl rfl rD lT) | exact (Op1.indexAddrZ rfl rfl rD lT))) rfl rfl ?_
          rintro _ _ ⟨eP, rfl⟩; have eP := eP.symm; subst eP
          refine ⟨sT, ?_⟩
          refine WPD.eff0 11 kR rfl (OpE.store1 (_) rfl rfl pM lT rfl) rfl ?_
          rintro _ _ rfl
          refine ⟨sT, ?_⟩
          refine WPD.done kR ?_
        case' e10_8 =>
          refine WPO.eff rfl (OpE.buildSlice (([5, -1, 4, 1] : List Int)) pA rfl (by decide)) rfl rfl ?_
          rintro s1 _ rfl
          refine ⟨sT, ?_⟩
          refine WPD.eff 6 kR rfl (OpE.callT (T := [Tok.blk rb [cv, .int .i64 (p + 1)]]) lO pM2 (fun w hw => d_pick _ rb cv bs' (p + 1) lw.length (Rd.at rD hw) (hw.ne mM hcv) hl2 (by omega) (by omega))) rfl rfl ?_
          rintro r _ ⟨T, ⟨rfl, z, rfl, z0, zz⟩, rfl⟩
          have z9 := zz (by omega)
          refine ⟨sT, ?_⟩
          refine WPD.eff 9 kR rfl (OpE.callT (T := [Tok.blk rb [cv, .int .i64 (p + 1 + 1)]]) lO pM2 (fun w hw => d_num _ rb cv s1 bs' [5, -1, 4, 1] (p + 1 + 1) (Rd.at rD hw) (hw.ne mM hcv) (Rd.at rD hw) (hw.own_ne pM mM) hl2 (by omega) (by decide))) rfl rfl ?_
          rintro r _ ⟨T, ⟨rfl, u, rfl, _⟩, rfl⟩
          refine ⟨sT, ?_⟩
          refine WPD.eff 10 kR rfl (OpE.ofPure (by first | exact (Op1.indexAddr rfl rfl rD lT) | exact (Op1.indexAddrZ rfl rfl rD lT))) rfl rfl ?_
          rintro _ _ ⟨eP, rfl⟩; have eP := eP.symm; subst eP
          refine ⟨sT, ?_⟩
          refine WPD.eff0 11 kR rfl (OpE.store1 (_) rfl rfl pM lT rfl) rfl ?_
          rintro _ _ rfl
          refine ⟨sT, ?_⟩
          refine WPD.done kR ?_
      case' e9_8 =>
        refine WPO.eff rfl (OpE.buildSlice (([5, -1, 4, 1] : List Int)) pA rfl (by decide)) rfl rfl ?_
        rintro s1 _ rfl
        refine ⟨sT, ?_⟩
        refine WPD.eff 5 kR rfl (OpE.ofPure (Op1.len rfl rD)) rfl rfl ?_
        rintro _ _ ⟨eP, rfl⟩; have eP := eP.symm; subst eP
        refine ⟨sT, ?_⟩
        refine WPD.eff 6 kR rfl (OpE.callT (T := [Tok.blk rb [cv, .int .i64 (p + 1)]]) lO pM2 (fun w hw => d_pick _ rb cv bs' (p + 1) lw.length (Rd.at rD hw) (hw.ne mM hcv) hl2 (by omega) (by omega))) rfl rfl ?_
        rintro r _ ⟨T, ⟨rfl, z, rfl, z0, zz⟩, rfl⟩
        have z9 := zz (by omega)
        refine ⟨sT, ?_⟩
        refine WPD.eff 9 kR rfl (OpE.callT (T := [Tok.blk rb [cv, .int .i64 (p + 1 + 1)]]) lO pM2 (fun w hw => d_num _ rb cv s1 bs' [5, -1, 4, 1] (p + 1 + 1) (Rd.at rD hw) (hw.ne mM hcv) (Rd.at rD hw) (hw.own_ne pM mM) hl2 (by omega) (by decide))) rfl rfl ?_
        rintro r _ ⟨T, ⟨rfl, u, rfl, _⟩, rfl⟩
        refine ⟨sT, ?_⟩
        refine WPD.eff 10 kR rfl (OpE.ofPure (by first | exact (Op1.indexAddr rfl rfl rD lT) | exact (Op1.indexAddrZ rfl rfl rD lT))) rfl rfl ?_
        rintro _ _ ⟨eP, rfl⟩; have eP := eP.symm; subst eP
        refine ⟨sT, ?_⟩
        refine WPD.eff0 11 kR rfl (OpE.store1 (_) rfl rfl pM lT rfl) rfl ?_
        rintro _ _ rfl
        refine ⟨sT, ?_⟩
        refine WPD.done kR ?_
      all_goals (
        try refine go ⟨?_⟩
        refine PE.ret1 (T := []) (T' := [Tok.own a ew, Tok.own b (lw.set z.toNat u), Tok.own c tw]) rfl rV ?_ sT
        exact ⟨a, b, c, ⟨n, ew, (lw.set z.toNat u), tw⟩, rfl, rfl, by (try dsimp only); omega, by (try simp only [List.length_set, List.length_take]); omega, by (try simp only [List.length_set]); omega, hn1, hn2⟩)
    try refine go ⟨?_⟩
    refine WP.condD rfl (fun k1 => ?_) (fun k1 => ?_)
    · try refine go ⟨?_⟩
      refine WP.draw [Tok.blk b4 [.int .i64 n, a, b, c], Tok.own a ew, Tok.own b lw, Tok.blk b2 [.int .i64 0, .slice none 0 0, .slice none 0 0, .slice none 0 0]] mixed ?_
      refine WPD.take 0 rfl (by first | exact (Op1.fieldAddr rfl) | exact (Op1.fieldAddrE rfl rD lT)) rfl rfl sT kR kR kR xQP ?_
      refine WPD.take 2 rfl (Op1.move rfl) rfl rfl sT kR kR kR xQP ?_
      refine WPD.take 3 rfl (by first | exact (Op1.fieldAddr rfl) | exact (Op1.fieldAddrE rfl rD lT)) rfl rfl sT kR kR kR xQP ?_
      refine WPD.take 7 rfl (Op1.move rfl) rfl rfl sT kR kR kR xQP ?_
      refine WPD.take 1 rfl (by first | exact (Op1.load rfl mM (by rfl)) | exact (Op1.loadI rfl rD lT) | exact (Op1.loadAll rfl mM (by rfl)) | exact (Op1.loadE rfl rD lT (by rfl)) | exact (Op1.loadEAgg rfl rD lT (by rfl))) rfl rfl sT kR kR kR xQP ?_
      refine WPD.take 4 rfl (by first | exact (Op1.load rfl mM (by rfl)) | exact (Op1.loadI rfl rD lT) | exact (Op1.loadAll rfl mM (by rfl)) | exact (Op1.loadE rfl rD lT (by rfl)) | exact (Op1.loadEAgg rfl rD lT (by rfl))) rfl rfl sT kR kR kR xQP ?_
      refine WPD.eff 5 kR rfl (OpE.ofPure (Op1.len rfl rD)) rfl rfl ?_
      rintro _ _ ⟨eP, rfl⟩; have eP := eP.symm; subst eP
      refine ⟨sT, ?_⟩
      refine WPD.eff 6 kR rfl (OpE.callT (T := [Tok.blk rb [cv, .int .i64 (p + 1)]]) lO pM2 (fun w hw => d_pick _ rb cv bs' (p + 1) tw.length (Rd.at rD hw) (hw.ne mM hcv) hl2 (by omega) (by omega))) rfl rfl ?_
      rintro r _ ⟨T, ⟨rfl, z, rfl, z0, zz⟩, rfl⟩
      have z9 := zz (by omega)
      refine ⟨sT, ?_⟩
      refine WPD.eff 8 kR rfl (OpE.callT (T := [Tok.blk rb [cv, .int .i64 (p + 1 + 1)]]) lO pM2 (fun w hw => d_pick _ rb cv bs' (p + 1 + 1) 2 (Rd.at rD hw) (hw.ne mM hcv) hl2 (by omega) (by omega))) rfl rfl ?_
      rintro r _ ⟨T, ⟨rfl, u, rfl, _, _⟩, rfl⟩
      refine ⟨sT, ?_⟩
      refine WPD.take 9 rfl (by first | exact (Op1.eqI rfl rfl) | exact (Op1.eqB rfl rfl) | exact (Op1.eqE rfl rfl) | exact (Op1.eqNil rfl rD)) rfl rfl sT kR kR kR xQP ?_
      refine WPD.eff 10 kR rfl (OpE.ofPure (by first | exact (Op1.indexAddr rfl rfl rD lT) | exact (Op1.indexAddrZ rfl rfl rD lT))) rfl rfl ?_
      rintro _ _ ⟨eP, rfl⟩; have eP := eP.symm; subst eP
      refine ⟨sT, ?_⟩
      refine WPD.eff0 11 kR rfl (OpE.store1 ((decide (u = 0))) rfl rfl pM lT rfl) rfl ?_
      rintro _ _ rfl
      refine ⟨sT, ?_⟩
      refine WPD.done kR ?_
      all_goals (
        try refine go ⟨?_⟩
        refine PE.ret1 (T := []) (T' := [Tok.own a ew, Tok.own b lw, Tok.own c (tw.set z.toNat (decide (u = 0)))]) rfl rV ?_ sT
        exact ⟨a, b, c, ⟨n, ew, lw, (tw.set z.toNat (decide (u = 0)))⟩, rfl, rfl, by (try dsimp only); omega, by (try simp only [List.length_set, List.length_take]); omega, by (try simp only [List.length_set]); omega, hn1, hn2⟩)
    try refine go ⟨?_⟩
    refine WP.condD rfl (fun k2 => ?_) (fun k2 => ?_)
    · have et : (((lw.length : Nat) : Int) - 1).toNat ≤ lw.length := by omega
      refine WP.one1 (slcV b (((lw.length : Nat) : Int) - 1).toNat) (OneM.slcL (xs := lw) mM et) fun o1 => ?_
      try refine go ⟨?_⟩
      refine PE.turnG (t := Tok.own b lw) (t' := Tok.own (slcV b (((lw.length : Nat) : Int) - 1).toNat) (lw.take (((lw.length : Nat) : Int) - 1).toNat)) pM own_take_fp (own_take et) ?_
      try refine go ⟨?_⟩
      refine PE.ret1 (T := []) (T' := [Tok.own a ew, Tok.own (slcV b (((lw.length : Nat) : Int) - 1).toNat) (lw.take (((lw.length : Nat) : Int) - 1).toNat), Tok.own c tw]) rfl rV ?_ sT
      exact ⟨a, (slcV b (((lw.length : Nat) : Int) - 1).toNat), c, ⟨n, ew, (lw.take (((lw.length : Nat) : Int) - 1).toNat), tw⟩, rfl, rfl, by (try dsimp only); omega, by (try simp only [List.length_set, List.length_take]); omega, by (try simp only [List.length_set]); omega, hn1, hn2⟩
    · try refine go ⟨?_⟩
      refine PE.ret1 (T := []) (T' := [Tok.own a ew, Tok.own b lw, Tok.own c tw]) rfl rV ?_ sT
      exact ⟨a, b, c, ⟨n, ew, lw, tw⟩, rfl, rfl, by (try dsimp only); omega, by (try simp only [List.length_set, List.length_take]); omega, by (try simp only [List.length_set]); omega, hn1, hn2⟩
theorem g_DLevelsValid (w : World) (v : Value) (bs : List UInt8) (h : RL w v bs) (hl : bs.length ≤ 9223372036854775807) :
    Tri Try.prog 60 [v] w [] dLV := by
  refine Tri.intro (hf := Try.func60) (hb := rfl) (hn := Try.ntmps60) (Nat.le_of_ble_eq_true rfl) ?_
  try refine go ⟨?_⟩
  refine WPL.eff OpE.alloc rfl rfl ?_; rintro _ _ ⟨b2, rfl, rfl⟩
  try refine go ⟨?_⟩
  refine WPL.eff (OpE.call lO (fun w hw => g_l7Draw _ v bs (Rd.at rD hw) hl)) rfl rfl ?_
  rintro r _ ⟨T, ⟨a, b, c, l, rfl, rfl, hs⟩, rfl⟩
  try refine go ⟨?_⟩
  refine PE.ret1 (T := []) (T' := [Tok.own a l.es, Tok.own b l.lv, Tok.own c l.tr]) rfl rV ?_ sT
  exact ⟨a, b, c, l, rfl, rfl, hs⟩

theorem g_DLevelForest (w : World) (v : Value) (bs : List UInt8) (h : RL w v bs) (hl : bs.length ≤ 9223372036854775807) :
    Tri Try.prog 66 [v] w [] dLVx := by
  refine Tri.intro (hf := Try.func66) (hb := rfl) (hn := Try.ntmps66) (Nat.le_of_ble_eq_true rfl) ?_
  try refine go ⟨?_⟩
  refine WPL.eff OpE.alloc rfl rfl ?_; rintro _ _ ⟨b2, rfl, rfl⟩
  try refine go ⟨?_⟩
  refine WPL.eff (OpE.call lO (fun w hw => g_l7Draw _ v bs (Rd.at rD hw) hl)) rfl rfl ?_
  rintro r _ ⟨T, ⟨a, b, c, l, rfl, rfl, hs⟩, rfl⟩
  try refine go ⟨?_⟩
  refine WPL.eff (OpE.call lO (fun w hw => d_Open _ v bs (Rd.at rD hw) hl)) rfl rfl ?_
  rintro r _ ⟨T, ⟨rb, rfl, rfl⟩, rfl⟩
  have hcv := h.cvOf
  have hl2 := bsOf_le bs
  generalize cvOf v bs = cv at *
  generalize bsOf bs = bs' at *
  try refine go ⟨?_⟩
  refine WPL.eff (OpE.buildSlice [0, 1, 2, 4, 5, -1] pA rfl (by decide)) rfl rfl ?_; rintro s _ rfl
  try refine go ⟨?_⟩
  refine WPL.eff (OpE.callT (T := [Tok.blk rb [cv, .int .i64 0]]) lO pM2 (fun w hw => d_num _ rb cv s bs' [0, 1, 2, 4, 5, -1] 0 (Rd.at rD hw) (hw.ne mM hcv) (Rd.at rD hw) (hw.own_ne pM mM) hl2 (by omega) (by decide))) rfl rfl ?_
  rintro r _ ⟨T, ⟨rfl, z, rfl, hz⟩, rfl⟩
  try refine go ⟨?_⟩
  refine PE.ret2 (T := []) (T' := [Tok.own a l.es, Tok.own b l.lv, Tok.own c l.tr]) rfl rV ?_ sT
  exact ⟨a, b, c, l, z, rfl, rfl, hs⟩

theorem g_DLeveledConnected (w : World) (v : Value) (bs : List UInt8) (h : RL w v bs) (hl : bs.length ≤ 9223372036854775807) :
    Tri Try.prog 64 [v] w [] dLVxy := by
  refine Tri.intro (hf := Try.func64) (hb := rfl) (hn := Try.ntmps64) (Nat.le_of_ble_eq_true rfl) ?_
  try refine go ⟨?_⟩
  refine WPL.eff OpE.alloc rfl rfl ?_; rintro _ _ ⟨b2, rfl, rfl⟩
  try refine go ⟨?_⟩
  refine WPL.eff (OpE.call lO (fun w hw => g_l7Draw _ v bs (Rd.at rD hw) hl)) rfl rfl ?_
  rintro r _ ⟨T, ⟨a, b, c, l, rfl, rfl, hs⟩, rfl⟩
  have hs4 := hs.2.2.2
  try refine go ⟨?_⟩
  refine WPL.eff OpE.alloc rfl rfl ?_; rintro _ _ ⟨b5, rfl, rfl⟩
  try refine go ⟨?_⟩
  refine WPL.eff (OpE.call lO (fun w hw => d_Open _ v bs (Rd.at rD hw) hl)) rfl rfl ?_
  rintro r _ ⟨T, ⟨rb, rfl, rfl⟩, rfl⟩
  have hcv := h.cvOf
  have hl2 := bsOf_le bs
  generalize cvOf v bs = cv at *
  generalize bsOf bs = bs' at *
  try refine go ⟨?_⟩
  refine WPL.eff (OpE.callT (T := [Tok.blk rb [cv, .int .i64 0]]) lO pM2 (fun w hw => d_pick _ rb cv bs' 0 12 (Rd.at rD hw) (hw.ne mM hcv) hl2 (by omega) (by omega))) rfl rfl ?_
  rintro r _ ⟨T, ⟨rfl, k, rfl, _, _⟩, rfl⟩
  try refine go ⟨?_⟩
  refine WP.condD rfl (fun hc => ?_) (fun hc => ?_)
  · try refine go ⟨?_⟩
    refine WP.draw [Tok.blk b5 [.int .i64 l.n, a, b, c], Tok.own a l.es, Tok.own b l.lv, Tok.own c l.tr] mixed ?_
    refine WPD.take 0 rfl (by first | exact (Op1.load rfl mM (by rfl)) | exact (Op1.loadI rfl rD lT) | exact (Op1.loadAll rfl mM (by rfl)) | exact (Op1.loadE rfl rD lT (by rfl)) | exact (Op1.loadEAgg rfl rD lT (by rfl))) rfl rfl sT kR kR kR xQP ?_
    refine WPD.take 1 rfl (Op1.move rfl) rfl rfl sT kR kR kR xQP ?_
    refine WPD.eff 2 kR rfl (OpE.buildSlice ([-1, 16]) pA rfl (by decide)) rfl rfl ?_
    rintro s _ rfl
    refine ⟨sT, ?_⟩
    refine WPD.eff 3 kR rfl (OpE.callT (T := [Tok.blk rb [cv, .int .i64 (0 + 1)]]) lO pM2 (fun w hw => d_num _ rb cv s bs' [-1, 16] (0 + 1) (Rd.at rD hw) (hw.ne mM hcv) (Rd.at rD hw) (hw.own_ne pM mM) hl2 (by omega) (by decide))) rfl rfl ?_
    rintro r _ ⟨T, ⟨rfl, z, rfl, hz⟩, rfl⟩
    refine ⟨sT, ?_⟩
    refine WPD.eff0 4 kR rfl (OpE.storeAll rfl rfl pM (by rfl) (by rfl) oN) rfl ?_
    rintro _ _ rfl
    refine ⟨sT, ?_⟩
    refine WPD.take 5 rfl (Op1.assign rfl) rfl rfl sT kR kR kR xQP ?_
    refine WPD.take 6 rfl (Op1.assign rfl) rfl rfl sT kR kR kR xQP ?_
    refine WPD.done kR ?_
    all_goals (
      try refine go ⟨?_⟩
      refine PE.ret3 (T := []) (T' := [Tok.own a l.es, Tok.own b l.lv, Tok.own c l.tr]) rfl rV ?_ sT
      exact ⟨a, b, c, l, z, 0, rfl, rfl, hs⟩)
  · try refine go ⟨?_⟩
    refine WP.draw [Tok.blk b5 [.int .i64 l.n, a, b, c], Tok.own a l.es, Tok.own b l.lv, Tok.own c l.tr] mixed ?_
    refine WPD.take 0 rfl (by first | exact (Op1.load rfl mM (by rfl)) | exact (Op1.loadI rfl rD lT) | exact (Op1.loadAll rfl mM (by rfl)) | exact (Op1.loadE rfl rD lT (by rfl)) | exact (Op1.loadEAgg rfl rD lT (by rfl))) rfl rfl sT kR kR kR xQP ?_
    refine WPD.take 1 rfl (Op1.move rfl) rfl rfl sT kR kR kR xQP ?_
    refine WPD.take 2 rfl (by first | exact (Op1.fieldAddr rfl) | exact (Op1.fieldAddrE rfl rD lT)) rfl rfl sT kR kR kR xQP ?_
    refine WPD.take 6 rfl (Op1.move rfl) rfl rfl sT kR kR kR xQP ?_
    refine WPD.take 7 rfl (by first | exact (Op1.fieldAddr rfl) | exact (Op1.fieldAddrE rfl rD lT)) rfl rfl sT kR kR kR xQP ?_
    refine WPD.take 3 rfl (by first | exact (Op1.fieldAddr rfl) | exact (Op1.fieldAddrE rfl rD lT)) rfl rfl sT kR kR kR xQP ?_
    refine WPD.take 8 rfl (by first | exact (Op1.fieldAddr rfl) | exact (Op1.fieldAddrE rfl rD lT)) rfl rfl sT kR kR kR xQP ?_
    refine WPD.take 4 rfl (by first | exact (Op1.load rfl mM (by rfl)) | exact (Op1.loadI rfl rD lT) | exact (Op1.loadAll rfl mM (by rfl)) | exact (Op1.loadE rfl rD lT (by rfl)) | exact (Op1.loadEAgg rfl rD lT (by rfl))) rfl rfl sT kR kR kR xQP ?_
    refine WPD.take 9 rfl (by first | exact (Op1.load rfl mM (by rfl)) | exact (Op1.loadI rfl rD lT) | exact (Op1.loadAll rfl mM (by rfl)) | exact (Op1.loadE rfl rD lT (by rfl)) | exact (Op1.loadEAgg rfl rD lT (by rfl))) rfl rfl sT kR kR kR xQP ?_
    refine WPD.eff 5 kR rfl (OpE.callT (T := [Tok.blk rb [cv, .int .i64 (0 + 1)]]) lO pM2 (fun w hw => d_pick _ rb cv bs' (0 + 1) l.n (Rd.at rD hw) (hw.ne mM hcv) hl2 (by omega) (by omega))) rfl rfl ?_
    rintro r _ ⟨T, ⟨rfl, x, rfl, _, _⟩, rfl⟩
    refine ⟨sT, ?_⟩
    refine WPD.eff 10 kR rfl (OpE.callT (T := [Tok.blk rb [cv, .int .i64 (0 + 1 + 1)]]) lO pM2 (fun w hw => d_pick _ rb cv bs' (0 + 1 + 1) l.n (Rd.at rD hw) (hw.ne mM hcv) hl2 (by omega) (by omega))) rfl rfl ?_
    rintro r _ ⟨T, ⟨rfl, y, rfl, _, _⟩, rfl⟩
    refine ⟨sT, ?_⟩
    refine WPD.eff0 11 kR rfl (OpE.storeAll rfl rfl pM (by rfl) (by rfl) oN) rfl ?_
    rintro _ _ rfl
    refine ⟨sT, ?_⟩
    refine WPD.take 12 rfl (Op1.assign rfl) rfl rfl sT kR kR kR xQP ?_
    refine WPD.take 13 rfl (Op1.assign rfl) rfl rfl sT kR kR kR xQP ?_
    refine WPD.done kR ?_
    all_goals (
      try refine go ⟨?_⟩
      refine PE.ret3 (T := []) (T' := [Tok.own a l.es, Tok.own b l.lv, Tok.own c l.tr]) rfl rV ?_ sT
      exact ⟨a, b, c, l, x, y, rfl, rfl, hs⟩)
end Go.Proofs.Ytfigegmgopnfhaa
