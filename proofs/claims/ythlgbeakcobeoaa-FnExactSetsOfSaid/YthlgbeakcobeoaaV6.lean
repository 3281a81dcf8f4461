/- Texts put together: SpS0, SpS1, SpS2. Conditions: those of each theorem. -/
import Derived.Test.YthlgbeakcobeoaaV5
set_option linter.unusedVariables false
set_option linter.unusedSimpArgs false
/- Sets: the walks of the second program's l3New, l3Root, l3Copy, l3Unite. Conditions: those of each contract. -/
namespace Go.Proofs.Ythlgbeakcobeoaa
open Go
theorem rep_snoc (k : Nat) (x : Int) : List.replicate k x ++ [x] = List.replicate (k + 1) x := List.replicate_succ'.symm
set_option linter.unusedVariables false set_option linter.unusedSimpArgs false attribute [local irreducible] Tok.own Tok.blk RL Rd eptr WP WPL PE WPD WPO Op1 OpE Tri Again Mid Exit.then Exit.inBlock bodyPost RP Code.wp wpList isOwn OneM One
attribute [local irreducible] SV RPok EL
set_option maxHeartbeats 8000000

theorem s_New (w : World) (n : Nat) (hn : n ≤ 1000) : Tri Try.prog 90 [.int .i64 n] w [] fun r T => ∃ a b c, r = setV a b c ∧ T = [Tok.own a (newS n).P, Tok.own b (newS n).Z, Tok.own c (newS n).S] := by
  refine Tri.intro (hf := Try.func90) (hb := rfl) (hn := Try.ntmps90) (Nat.le_of_ble_eq_true rfl) ?_
  try refine go ⟨?_⟩
  refine WPL.eff OpE.alloc rfl rfl ?_; rintro _ _ ⟨b2, rfl, rfl⟩
  try refine go ⟨?_⟩
  refine WPL.eff OpE.alloc rfl rfl ?_; rintro _ _ ⟨b3, rfl, rfl⟩
  try refine go ⟨?_⟩
  refine WP.nilTok E ?_
  refine WP.nilTok Int ?_
  refine WP.nilTok Int ?_
  refine WP.loop (σ := Nat × Value × Value) (fun q => [(0, .int .i64 n), (2, ptrV b2), (3, ptrV b3), (4, .int .i64 q.1)]) (fun q => [Tok.blk b3 [q.2.1, q.2.2, .slice none 0 0], Tok.own q.2.1 (List.replicate q.1 (-1 : Int)), Tok.own q.2.2 (List.replicate q.1 (1 : Int)), Tok.own (.slice none 0 0) ([] : List E), Tok.blk b2 [.slice none 0 0, .slice none 0 0, .slice none 0 0]]) (fun q => q.1 ≤ n) (fun q => n - q.1) (0, .slice none 0 0, .slice none 0 0) (Nat.zero_le _) sE sT2 ?_
  rintro ⟨k, vP, vZ⟩ hk
  dsimp only at hk ⊢
  have l1 : (List.replicate k (-1 : Int)).length = k := List.length_replicate
  have l2 : (List.replicate k (1 : Int)).length = k := List.length_replicate
  try refine go ⟨?_⟩
  refine WP.condD rfl (fun hc => ?_) (fun hc => ?_)
  · try refine go ⟨?_⟩
    refine WPL.eff (OpE.buildSlice [(-1 : Int)] pA rfl (by decide)) rfl rfl ?_; rintro s1 _ rfl
    try refine go ⟨?_⟩
    refine WPL.eff (OpE.append rfl rfl pM rD lN) rfl rfl ?_; rintro v1 _ rfl
    rw [rep_snoc]
    try refine go ⟨?_⟩
    refine WPL.eff (OpE.buildSlice [(1 : Int)] pA rfl (by decide)) rfl rfl ?_; rintro s2 _ rfl
    try refine go ⟨?_⟩
    refine WPL.eff (OpE.append rfl rfl pM rD lN) rfl rfl ?_; rintro v2 _ rfl
    rw [rep_snoc]
    try refine go ⟨?_⟩
    refine PE.again (k + 1, v1, v2) ?_ ?_ sE sT2
    · (try dsimp only); omega
    · (try dsimp only); omega
  · have hkn : k = n := by omega
    subst hkn
    try refine go ⟨?_⟩
    refine PE.ret1 (T := []) (T' := [Tok.own vP (List.replicate k (-1 : Int)), Tok.own vZ (List.replicate k (1 : Int)), Tok.own (.slice none 0 0) ([] : List E)]) rfl rV ?_ sT2
    exact ⟨vP, vZ, _, rfl, rfl⟩

theorem s_Root (w : World) (vP vZ vS : Value) (n : Nat) (s : SS) (L : List Int) (x : Int) (hP : RL w vP s.P) (hZ : RL w vZ s.Z) (hS : RL w vS s.S) (hi : Inv n s L) (hn : n ≤ 16) (hx : Nd n x) :
    Tri Try.prog 97 [setV vP vZ vS, .int .i64 x] w [] fun r T => T = [] ∧ r = .int .i64 (L.getD x.toNat 0) := by
  have hlp := hi.lp
  refine Tri.intro (hf := Try.func97) (hb := rfl) (hn := Try.ntmps97) (Nat.le_of_ble_eq_true rfl) ?_
  try refine go ⟨?_⟩
  refine WPL.eff (OpE.box rfl) rfl rfl ?_; rintro _ _ ⟨b, rfl, rfl⟩
  try refine go ⟨?_⟩
  refine WP.loop (σ := Nat) (fun y => [(1, .int .i64 y), (2, .pointer (some ⟨b, 0, none⟩))]) (fun _ => [Tok.blk b [vP, vZ, vS]]) (fun y => y < n ∧ L.getD y 0 = L.getD x.toNat 0) (fun y => 20 - (s.Z.getD y 0).toNat) x.toNat ⟨by unfold Nd at hx; omega, rfl⟩ ?_ ?_ ?_
  · rw [Int.toNat_of_nonneg hx.1]; exact sE
  · exact sT2
  rintro y ⟨hy, hL⟩
  have hzy := hi.zb y hy
  try refine go ⟨?_⟩
  refine WP.condD rfl (fun hc => ?_) (fun hc => ?_)
  · obtain ⟨h1, h2, h3, h4⟩ := hi.up y hy (by omega)
    have hz2 := hi.zb (s.P.getD y 0).toNat (by have := h1.1; have := h1.2; omega)
    try refine go ⟨?_⟩
    refine PE.again (s.P.getD y 0).toNat ?_ ?_ ?_ sT2
    · exact ⟨by have := h1.1; have := h1.2; omega, h2.symm.trans hL⟩
    · (try dsimp only); omega
    · rw [Int.toNat_of_nonneg h1.1]; exact sE
  · have hr : L.getD y 0 = y := by
      by_cases hp : s.P.getD y 0 = -1
      · exact (hi.rt y hy hp).1
      · have := (hi.up y hy hp).1.1; omega
    try refine go ⟨?_⟩
    refine PE.ret1 (T := []) (T' := []) rfl rV ?_ sT
    exact ⟨rfl, by rw [← hL, hr]⟩

theorem s_Copy (w : World) (vP vZ vS : Value) (s : SS) (hP : RL w vP s.P) (hZ : RL w vZ s.Z) (hS : RL w vS s.S) (l1 : s.P.length ≤ 1000) (l2 : s.Z.length ≤ 1000) (l3 : s.S.length ≤ 1000) :
    Tri Try.prog 124 [setV vP vZ vS] w [] fun r T => ∃ a b c, r = setV a b c ∧ T = [Tok.own a s.P, Tok.own b s.Z, Tok.own c s.S] := by
  refine Tri.intro (hf := Try.func124) (hb := rfl) (hn := Try.ntmps124) (Nat.le_of_ble_eq_true rfl) ?_
  try refine go ⟨?_⟩
  refine WPL.eff (OpE.box rfl) rfl rfl ?_; rintro _ _ ⟨b, rfl, rfl⟩
  refine WPL.eff OpE.alloc rfl rfl ?_; rintro _ _ ⟨b2, rfl, rfl⟩
  try refine go ⟨?_⟩
  refine WP.draw [Tok.blk b [vP, vZ, vS]] mixed ?_
  refine WPD.take 1 rfl (by first | exact (Op1.fieldAddr rfl) | exact (Op1.fieldAddrE rfl rD lT)) rfl rfl sT kR kR kR xQP ?_
  refine WPD.take 5 rfl (by first | exact (Op1.fieldAddr rfl) | exact (Op1.fieldAddrE rfl rD lT)) rfl rfl sT kR kR kR xQP ?_
  refine WPD.take 9 rfl (by first | exact (Op1.fieldAddr rfl) | exact (Op1.fieldAddrE rfl rD lT)) rfl rfl sT kR kR kR xQP ?_
  refine WPD.take 2 rfl (by first | exact (Op1.load rfl mM (by rfl)) | exact (Op1.loadI rfl rD lT) | exact (Op1.loadAll rfl mM (by rfl)) | exact (Op1.loadE rfl rD lT (by rfl)) | exact (Op1.loadEAgg rfl rD lT (by rfl))) rfl rfl sT kR kR kR xQP ?_
  refine WPD.take 6 rfl (by first | exact (Op1.load rfl mM (by rfl)) | exact (Op1.loadI rfl rD lT) | exact (Op1.loadAll rfl mM (by rfl)) | exact (Op1.loadE rfl rD lT (by rfl)) | exact (Op1.loadEAgg rfl rD lT (by rfl))) rfl rfl sT kR kR kR xQP ?_
  refine WPD.take 10 rfl (by first | exact (Op1.load rfl mM (by rfl)) | exact (Op1.loadI rfl rD lT) | exact (Op1.loadAll rfl mM (by rfl)) | exact (Op1.loadE rfl rD lT (by rfl)) | exact (Op1.loadEAgg rfl rD lT (by rfl))) rfl rfl sT kR kR kR xQP ?_
  refine WPD.three 0 4 8 kR ?e1_0 ?e1_4 ?e1_8
  case' e1_0 =>
    refine WPO.eff rfl (OpE.buildSlice (([] : List Int)) pA rfl (by decide)) rfl rfl ?_
    rintro s1 _ rfl
    refine ⟨sT, ?_⟩
    refine WPD.three 3 4 8 kR ?e2_3 ?e2_4 ?e2_8
    case' e2_3 =>
      refine WPO.eff rfl (OpE.append rfl rfl pM rD lN) rfl rfl ?_
      rintro v1 _ rfl
      refine ⟨sT, ?_⟩
      refine WPD.two 4 8 kR ?e3_4 ?e3_8
      case' e3_4 =>
        refine WPO.eff rfl (OpE.buildSlice (([] : List Int)) pA rfl (by decide)) rfl rfl ?_
        rintro s2 _ rfl
        refine ⟨sT, ?_⟩
        refine WPD.two 7 8 kR ?e4_7 ?e4_8
        case' e4_7 =>
          refine WPO.eff rfl (OpE.append rfl rfl pM rD lN) rfl rfl ?_
          rintro v2 _ rfl
          refine ⟨sT, ?_⟩
          refine WPD.eff 8 kR rfl (OpE.buildSlice (([] : List E)) pA rfl (by decide)) rfl rfl ?_
          rintro s3 _ rfl
          refine ⟨sT, ?_⟩
          refine WPD.eff 11 kR rfl (OpE.append rfl rfl pM rD lN) rfl rfl ?_
          rintro v3 _ rfl
          refine ⟨sT, ?_⟩
          refine WPD.eff 12 kR rfl (OpE.ofPure (Op1.build xBP (by rfl))) rfl rfl ?_
          rintro _ _ ⟨rfl, rfl⟩
          refine ⟨sT, ?_⟩
          refine WPD.eff0 13 kR rfl (OpE.storeAll rfl rfl pM (by rfl) (by rfl) oN) rfl ?_
          rintro _ _ rfl
          refine ⟨sT, ?_⟩
          refine WPD.done kR ?_
        case' e4_8 =>
          refine WPO.eff rfl (OpE.buildSlice (([] : List E)) pA rfl (by decide)) rfl rfl ?_
          rintro s3 _ rfl
          refine ⟨sT, ?_⟩
          refine WPD.eff 7 kR rfl (OpE.append rfl rfl pM rD lN) rfl rfl ?_
          rintro v2 _ rfl
          refine ⟨sT, ?_⟩
          refine WPD.eff 11 kR rfl (OpE.append rfl rfl pM rD lN) rfl rfl ?_
          rintro v3 _ rfl
          refine ⟨sT, ?_⟩
          refine WPD.eff 12 kR rfl (OpE.ofPure (Op1.build xBP (by rfl))) rfl rfl ?_
          rintro _ _ ⟨rfl, rfl⟩
          refine ⟨sT, ?_⟩
          refine WPD.eff0 13 kR rfl (OpE.storeAll rfl rfl pM (by rfl) (by rfl) oN) rfl ?_
          rintro _ _ rfl
          refine ⟨sT, ?_⟩
          refine WPD.done kR ?_
      case' e3_8 =>
        refine WPO.eff rfl (OpE.buildSlice (([] : List E)) pA rfl (by decide)) rfl rfl ?_
        rintro s3 _ rfl
        refine ⟨sT, ?_⟩
        refine WPD.eff 4 kR rfl (OpE.buildSlice (([] : List Int)) pA rfl (by decide)) rfl rfl ?_
        rintro s2 _ rfl
        refine ⟨sT, ?_⟩
        refine WPD.eff 7 kR rfl (OpE.append rfl rfl pM rD lN) rfl rfl ?_
        rintro v2 _ rfl
        refine ⟨sT, ?_⟩
        refine WPD.eff 11 kR rfl (OpE.append rfl rfl pM rD lN) rfl rfl ?_
        rintro v3 _ rfl
        refine ⟨sT, ?_⟩
        refine WPD.eff 12 kR rfl (OpE.ofPure (Op1.build xBP (by rfl))) rfl rfl ?_
        rintro _ _ ⟨rfl, rfl⟩
        refine ⟨sT, ?_⟩
        refine WPD.eff0 13 kR rfl (OpE.storeAll rfl rfl pM (by rfl) (by rfl) oN) rfl ?_
        rintro _ _ rfl
        refine ⟨sT, ?_⟩
        refine WPD.done kR ?_
    case' e2_4 =>
      refine WPO.eff rfl (OpE.buildSlice (([] : List Int)) pA rfl (by decide)) rfl rfl ?_
      rintro s2 _ rfl
      refine ⟨sT, ?_⟩
      refine WPD.two 3 8 kR ?e5_3 ?e5_8
      case' e5_3 =>
        refine WPO.eff rfl (OpE.append rfl rfl pM rD lN) rfl rfl ?_
        rintro v1 _ rfl
        refine ⟨sT, ?_⟩
        refine WPD.two 7 8 kR ?e6_7 ?e6_8
        case' e6_7 =>
          refine WPO.eff rfl (OpE.append rfl rfl pM rD lN) rfl rfl ?_
          rintro v2 _ rfl
          refine ⟨sT, ?_⟩
          refine WPD.eff 8 kR rfl (OpE.buildSlice (([] : List E)) pA rfl (by decide)) rfl rfl ?_
          rintro s3 _ rfl
          refine ⟨sT, ?_⟩
          refine WPD.eff 11 kR rfl (OpE.append rfl rfl pM rD lN) rfl rfl ?_
          rintro v3 _ rfl
          refine ⟨sT, ?_⟩
          refine WPD.eff 12 kR rfl (OpE.ofPure (Op1.build xBP (by rfl))) rfl rfl ?_
          rintro _ _ ⟨rfl, rfl⟩
          refine ⟨sT, ?_⟩
          refine WPD.eff0 13 kR rfl (OpE.storeAll rfl rfl pM (by rfl) (by rfl) oN) rfl ?_
          rintro _ _ rfl
          refine ⟨sT, ?_⟩
          refine WPD.done kR ?_
        case' e6_8 =>
          refine WPO.eff rfl (OpE.buildSlice (([] : List E)) pA rfl (by decide)) rfl rfl ?_
          rintro s3 _ rfl
          refine ⟨sT, ?_⟩
          refine WPD.eff 7 kR rfl (OpE.append rfl rfl pM rD lN) rfl rfl ?_
          rintro v2 _ rfl
          refine ⟨sT, ?_⟩
          refine WPD.eff 11 kR rfl (OpE.append rfl rfl pM rD lN) rfl rfl ?_
          rintro v3 _ rfl
          refine ⟨sT, ?_⟩
          refine WPD.eff 12 kR rfl (OpE.ofPure (Op1.build xBP (by rfl))) rfl rfl ?_
          rintro _ _ ⟨rfl, rfl⟩
          refine ⟨sT, ?_⟩
          refine WPD.eff0 13 kR rfl (OpE.storeAll rfl rfl pM (by rfl) (by rfl) oN) rfl ?_
          rintro _ _ rfl
          refine ⟨sT, ?_⟩
          refine WPD.done kR ?_
      case' e5_8 =>
        refine WPO.eff rfl (OpE.buildSlice (([] : List E)) pA rfl (by decide)) rfl rfl ?_
        rintro s3 _ rfl
        refine ⟨sT, ?_⟩
        refine WPD.eff 3 kR rfl (OpE.append rfl rfl pM rD lN) rfl rfl ?_
        rintro v1 _ rfl
        refine ⟨sT, ?_⟩
        refine WPD.eff 7 kR rfl (OpE.append rfl rfl pM rD lN) rfl rfl ?_
        rintro v2 _ rfl
        refine ⟨sT, ?_⟩
        refine WPD.eff 11 kR rfl (OpE.append rfl rfl pM rD lN) rfl rfl ?_
        rintro v3 _ rfl
        refine ⟨sT, ?_⟩
        refine WPD.eff 12 kR rfl (OpE.ofPure (Op1.build xBP (by rfl))) rfl rfl ?_
        rintro _ _ ⟨rfl, rfl⟩
        refine ⟨sT, ?_⟩
        refine WPD.eff0 13 kR rfl (OpE.storeAll rfl rfl pM (by rfl) (by rfl) oN) rfl ?_
        rintro _ _ rfl
        refine ⟨sT, ?_⟩
        refine WPD.done kR ?_
    case' e2_8 =>
      refine WPO.eff rfl (OpE.buildSlice (([] : List E)) pA rfl (by decide)) rfl rfl ?_
      rintro s3 _ rfl
      refine ⟨sT, ?_⟩
      refine WPD.two 3 4 kR ?e7_3 ?e7_4
      case' e7_3 =>
        refine WPO.eff rfl (OpE.append rfl rfl pM rD lN) rfl rfl ?_
        rintro v1 _ rfl
        refine ⟨sT, ?_⟩
        refine WPD.eff 4 kR rfl (OpE.buildSlice (([] : List Int)) pA rfl (by decide)) rfl rfl ?_
        rintro s2 _ rfl
        refine ⟨sT, ?_⟩
        refine WPD.eff 7 kR rfl (OpE.append rfl rfl pM rD lN) rfl rfl ?_
        rintro v2 _ rfl
        refine ⟨sT, ?_⟩
        refine WPD.eff 11 kR rfl (OpE.append rfl rfl pM rD lN) rfl rfl ?_
        rintro v3 _ rfl
        refine ⟨sT, ?_⟩
        refine WPD.eff 12 kR rfl (OpE.ofPure (Op1.build xBP (by rfl))) rfl rfl ?_
        rintro _ _ ⟨rfl, rfl⟩
        refine ⟨sT, ?_⟩
        refine WPD.eff0 13 kR rfl (OpE.storeAll rfl rfl pM (by rfl) (by rfl) oN) rfl ?_
        rintro _ _ rfl
        refine ⟨sT, ?_⟩
        refine WPD.done kR ?_
      case' e7_4 =>
        refine WPO.eff rfl (OpE.buildSlice (([] : List Int)) pA rfl (by decide)) rfl rfl ?_
        rintro s2 _ rfl
        refine ⟨sT, ?_⟩
        refine WPD.eff 3 kR rfl (OpE.append rfl rfl pM rD lN) rfl rfl ?_
        rintro v1 _ rfl
        refine ⟨sT, ?_⟩
        refine WPD.eff 7 kR rfl (OpE.append rfl rfl pM rD lN) rfl rfl ?_
        rintro v2 _ rfl
        refine ⟨sT, ?_⟩
        refine WPD.eff 11 kR rfl (OpE.append rfl rfl pM rD lN) rfl rfl ?_
        rintro v3 _ rfl
        refine ⟨sT, ?_⟩
        refine WPD.eff 12 kR rfl (OpE.ofPure (Op1.build xBP (by rfl))) rfl rfl ?_
        rintro _ _ ⟨rfl, rfl⟩
        refine ⟨sT, ?_⟩
        refine WPD.eff0 13 kR rfl (OpE.storeAll rfl rfl pM (by rfl) (by rfl) oN) rfl ?_
        rintro _ _ rfl
        refine ⟨sT, ?_⟩
        refine WPD.done kR ?_
  case' e1_4 =>
    refine WPO.eff rfl (OpE.buildSlice (([] : List Int)) pA rfl (by decide)) rfl rfl ?_
    rintro s2 _ rfl
    refine ⟨sT, ?_⟩
    refine WPD.two 0 8 kR ?e8_0 ?e8_8
    case' e8_0 =>
      refine WPO.eff rfl (OpE.buildSlice (([] : List Int)) pA rfl (by decide)) rfl rfl ?_
      rintro s1 _ rfl
      refine ⟨sT, ?_⟩
      refine WPD.two 3 8 kR ?e9_3 ?e9_8
      case' e9_3 =>
        refine WPO.eff rfl (OpE.append rfl rfl pM rD lN) rfl rfl ?_
        rintro v1 _ rfl
        refine ⟨sT, ?_⟩
        refine WPD.two 7 8 kR ?e10_7 ?e10_8
        case' e10_7 =>
          refine WPO.eff rfl (OpE.append rfl rfl pM rD lN) rfl rfl ?_
          rintro v2 _ rfl
          refine ⟨sT, ?_⟩
          refine WPD.eff 8 kR rfl (OpE.buildSlice (([] : List E)) pA rfl (by decide)) rfl rfl ?_
          rintro s3 _ rfl
          refine ⟨sT, ?_⟩
          refine WPD.eff 11 kR rfl (OpE.append rfl rfl pM rD lN) rfl rfl ?_
          rintro v3 _ rfl
          refine ⟨sT, ?_⟩
          refine WPD.eff 12 kR rfl (OpE.ofPure (Op1.build xBP (by rfl))) rfl rfl ?_
          rintro _ _ ⟨rfl, rfl⟩
          refine ⟨sT, ?_⟩
          refine WPD.eff0 13 kR rfl (OpE.storeAll rfl rfl pM (by rfl) (by rfl) oN) rfl ?_
          rintro _ _ rfl
          refine ⟨sT, ?_⟩
          refine WPD.done kR ?_
        case' e10_8 =>
          refine WPO.eff rfl (OpE.buildSlice (([] : List E)) pA rfl (by decide)) rfl rfl ?_
          rintro s3 _ rfl
          refine ⟨sT, ?_⟩
          refine WPD.eff 7 kR rfl (OpE.append rfl rfl pM rD lN) rfl rfl ?_
          rintro v2 _ rfl
          refine ⟨sT, ?_⟩
          refine WPD.eff 11 kR rfl (OpE.append rfl rfl pM rD lN) rfl rfl ?_
          rintro v3 _ rfl
          refine ⟨sT, ?_⟩
          refine WPD.eff 12 kR rfl (OpE.ofPure (Op1.build xBP (by rfl))) rfl rfl ?_
          rintro _ _ ⟨rfl, rfl⟩
          refine ⟨sT, ?_⟩
          refine WPD.eff0 13 kR rfl (OpE.storeAll rfl rfl pM (by rfl) (by rfl) oN) rfl ?_
          rintro _ _ rfl
          refine ⟨sT, ?_⟩
          refine WPD.done kR ?_
      case' e9_8 =>
        refine WPO.eff rfl (OpE.buildSlice (([] : List E)) pA rfl (by decide)) rfl rfl ?_
        rintro s3 _ rfl
        refine ⟨sT, ?_⟩
        refine WPD.eff 3 kR rfl (OpE.append rfl rfl pM rD lN) rfl rfl ?_
        rintro v1 _ rfl
        refine ⟨sT, ?_⟩
        refine WPD.eff 7 kR rfl (OpE.append rfl rfl pM rD lN) rfl rfl ?_
        rintro v2 _ rfl
        refine ⟨sT, ?_⟩
        refine WPD.eff 11 kR rfl (OpE.append rfl rfl pM rD lN) rfl rfl ?_
        rintro v3 _ rfl
        refine ⟨sT, ?_⟩
        refine WPD.eff 12 kR rfl (OpE.ofPure (Op1.build xBP (by rfl))) rfl rfl ?_
        rintro _ _ ⟨rfl, rfl⟩
        refine ⟨sT, ?_⟩
        refine WPD.eff0 13 kR rfl (OpE.storeAll rfl rfl pM (by rfl) (by rfl) oN) rfl ?_
        rintro _ _ rfl
        refine ⟨sT, ?_⟩
        refine WPD.done kR ?_
    case' e8_8 =>
      refine WPO.eff rfl (OpE.buildSlice (([] : List E)) pA rfl (by decide)) rfl rfl ?_
      rintro s3 _ rfl
      refine ⟨sT, ?_⟩
      refine WPD.eff 0 kR rfl (OpE.buildSlice (([] : List Int)) pA rfl (by decide)) rfl rfl ?_
      rintro s1 _ rfl
      refine ⟨sT, ?_⟩
      refine WPD.eff 3 kR rfl (OpE.append rfl rfl pM rD lN) rfl rfl ?_
      rintro v1 _ rfl
      refine ⟨sT, ?_⟩
      refine WPD.eff 7 kR rfl (OpE.append rfl rfl pM rD lN) rfl rfl ?_
      rintro v2 _ rfl
      refine ⟨sT, ?_⟩
      refine WPD.eff 11 kR rfl (OpE.append rfl rfl pM rD lN) rfl rfl ?_
      rintro v3 _ rfl
      refine ⟨sT, ?_⟩
      refine WPD.eff 12 kR rfl (OpE.ofPure (Op1.build xBP (by rfl))) rfl rfl ?_
      rintro _ _ ⟨rfl, rfl⟩
      refine ⟨sT, ?_⟩
      refine WPD.eff0 13 kR rfl (OpE.storeAll rfl rfl pM (by rfl) (by rfl) oN) rfl ?_
      rintro _ _ rfl
      refine ⟨sT, ?_⟩
      refine WPD.done kR ?_
  case' e1_8 =>
    refine WPO.eff rfl (OpE.buildSlice (([] : List E)) pA rfl (by decide)) rfl rfl ?_
    rintro s3 _ rfl
    refine ⟨sT, ?_⟩
    refine WPD.two 0 4 kR ?e11_0 ?e11_4
    case' e11_0 =>
      refine WPO.eff rfl (OpE.buildSlice (([] : List Int)) pA rfl (by decide)) rfl rfl ?_
      rintro s1 _ rfl
      refine ⟨sT, ?_⟩
      refine WPD.two 3 4 kR ?e12_3 ?e12_4
      case' e12_3 =>
        refine WPO.eff rfl (OpE.append rfl rfl pM rD lN) rfl rfl ?_
        rintro v1 _ rfl
        refine ⟨sT, ?_⟩
        refine WPD.eff 4 kR rfl (OpE.buildSlice (([] : List Int)) pA rfl (by decide)) rfl rfl ?_
        rintro s2 _ rfl
        refine ⟨sT, ?_⟩
        refine WPD.eff 7 kR rfl (OpE.append rfl rfl pM rD lN) rfl rfl ?_
        rintro v2 _ rfl
        refine ⟨sT, ?_⟩
        refine WPD.eff 11 kR rfl (OpE.append rfl rfl pM rD lN) rfl rfl ?_
        rintro v3 _ rfl
        refine ⟨sT, ?_⟩
        refine WPD.eff 12 kR rfl (OpE.ofPure (Op1.build xBP (by rfl))) rfl rfl ?_
        rintro _ _ ⟨rfl, rfl⟩
        refine ⟨sT, ?_⟩
        refine WPD.eff0 13 kR rfl (OpE.storeAll rfl rfl pM (by rfl) (by rfl) oN) rfl ?_
        rintro _ _ rfl
        refine ⟨sT, ?_⟩
        refine WPD.done kR ?_
      case' e12_4 =>
        refine WPO.eff rfl (OpE.buildSlice (([] : List Int)) pA rfl (by decide)) rfl rfl ?_
        rintro s2 _ rfl
        refine ⟨sT, ?_⟩
        refine WPD.eff 3 kR rfl (OpE.append rfl rfl pM rD lN) rfl rfl ?_
        rintro v1 _ rfl
        refine ⟨sT, ?_⟩
        refine WPD.eff 7 kR rfl (OpE.append rfl rfl pM rD lN) rfl rfl ?_
        rintro v2 _ rfl
        refine ⟨sT, ?_⟩
        refine WPD.eff 11 kR rfl (OpE.append rfl rfl pM rD lN) rfl rfl ?_
        rintro v3 _ rfl
        refine ⟨sT, ?_⟩
        refine WPD.eff 12 kR rfl (OpE.ofPure (Op1.build xBP (by rfl))) rfl rfl ?_
        rintro _ _ ⟨rfl, rfl⟩
        refine ⟨sT, ?_⟩
        refine WPD.eff0 13 kR rfl (OpE.storeAll rfl rfl pM (by rfl) (by rfl) oN) rfl ?_
        rintro _ _ rfl
        refine ⟨sT, ?_⟩
        refine WPD.done kR ?_
    case' e11_4 =>
      refine WPO.eff rfl (OpE.buildSlice (([] : List Int)) pA rfl (by decide)) rfl rfl ?_
      rintro s2 _ rfl
      refine ⟨sT, ?_⟩
      refine WPD.eff 0 kR rfl (OpE.buildSlice (([] : List Int)) pA rfl (by decide)) rfl rfl ?_
      rintro s1 _ rfl
      refine ⟨sT, ?_⟩
      refine WPD.eff 3 kR rfl (OpE.append rfl rfl pM rD lN) rfl rfl ?_
      rintro v1 _ rfl
      refine ⟨sT, ?_⟩
      refine WPD.eff 7 kR rfl (OpE.append rfl rfl pM rD lN) rfl rfl ?_
      rintro v2 _ rfl
      refine ⟨sT, ?_⟩
      refine WPD.eff 11 kR rfl (OpE.append rfl rfl pM rD lN) rfl rfl ?_
      rintro v3 _ rfl
      refine ⟨sT, ?_⟩
      refine WPD.eff 12 kR rfl (OpE.ofPure (Op1.build xBP (by rfl))) rfl rfl ?_
      rintro _ _ ⟨rfl, rfl⟩
      refine ⟨sT, ?_⟩
      refine WPD.eff0 13 kR rfl (OpE.storeAll rfl rfl pM (by rfl) (by rfl) oN) rfl ?_
      rintro _ _ rfl
      refine ⟨sT, ?_⟩
      refine WPD.done kR ?_
  all_goals (
    try refine go ⟨?_⟩
    refine PE.ret1 (T := []) (T' := [Tok.own v1 s.P, Tok.own v2 s.Z, Tok.own v3 s.S]) rfl rV ?_ sT2
    exact ⟨v1, v2, v3, rfl, rfl⟩)

theorem s_Unite (w : World) (vP vZ vS : Value) (s : SS) (x y : Int) (hP : RL w vP s.P) (hZ : RL w vZ s.Z) (hS : RL w vS s.S) (hi : Inv s.P.length s (lb s)) (hle : s.P.length ≤ 16) (hx : Nd s.P.length x) (hy : Nd s.P.length y) :
    Tri Try.prog 102 [setV vP vZ vS, .int .i64 x, .int .i64 y] w [] fun r T => ∃ a b c, r = setV a b c ∧ T = [Tok.own a (uni s x y).P, Tok.own b (uni s x y).Z, Tok.own c (uni s x y).S] := by
  have lp := hi.lp
  have lz := hi.lz
  have hz1 := hi.z1 hle
  have hcs := hi.cs
  have rx := hi.root hx
  have ry := hi.root hy
  refine Tri.intro (hf := Try.func102) (hb := rfl) (hn := Try.ntmps102) (Nat.le_of_ble_eq_true rfl) ?_
  try refine go ⟨?_⟩
  refine WPL.eff (OpE.box rfl) rfl rfl ?_; rintro _ _ ⟨b3, rfl, rfl⟩
  refine WPL.eff OpE.alloc rfl rfl ?_; rintro _ _ ⟨b6, rfl, rfl⟩
  try refine go ⟨?_⟩
  refine WPL.eff (OpE.call lO (fun w hw => s_Copy _ vP vZ vS s (Rd.at rD hw) (Rd.at rD hw) (Rd.at rD hw) (by omega) (by omega) (by omega))) rfl rfl ?_
  rintro r _ ⟨T, ⟨a1, a2, a3, rfl, rfl⟩, rfl⟩
  try refine go ⟨?_⟩
  refine WPL.eff OpE.alloc rfl rfl ?_; rintro _ _ ⟨b7, rfl, rfl⟩
  try refine go ⟨?_⟩
  refine WPL.eff (OpE.call lO (fun w hw => s_Root _ vP vZ vS s.P.length s (lb s) x (Rd.at rD hw) (Rd.at rD hw) (Rd.at rD hw) hi hle hx)) rfl rfl ?_
  rintro r _ ⟨T, ⟨rfl, rfl⟩, rfl⟩
  try refine go ⟨?_⟩
  refine WPL.eff (OpE.call lO (fun w hw => s_Root _ vP vZ vS s.P.length s (lb s) y (Rd.at rD hw) (Rd.at rD hw) (Rd.at rD hw) hi hle hy)) rfl rfl ?_
  rintro r _ ⟨T, ⟨rfl, rfl⟩, rfl⟩
  obtain ⟨A, hA⟩ : ∃ A, A = (lb s).getD x.toNat 0 := ⟨_, rfl⟩
  obtain ⟨B, hB⟩ : ∃ B, B = (lb s).getD y.toNat 0 := ⟨_, rfl⟩
  rw [← hA] at rx
  rw [← hB] at ry
  rw [← hA, ← hB]
  by_cases e1 : A = B
  · have ht : uni s x y = ⟨s.P, s.Z, s.S ++ [⟨-1, A⟩]⟩ := by
      unfold uni; rw [unS_eq (by rw [← hA, ← hB]; exact e1), ← hA]; unfold stDo; rw [if_pos rfl]
    try refine go ⟨?_⟩
    rw [decide_eq_true e1]
    try refine go ⟨?_⟩
    refine WPL.eff (OpE.buildSlice [(⟨-1, A⟩ : E)] pA rfl (by decide)) rfl rfl ?_; rintro s1 _ rfl
    try refine go ⟨?_⟩
    refine WPL.eff (OpE.append rfl rfl pM rD lN) rfl rfl ?_; rintro v1 _ rfl
    try refine go ⟨?_⟩
    refine PE.ret1 (T := []) (T' := [Tok.own a1 s.P, Tok.own a2 s.Z, Tok.own v1 (s.S ++ [⟨-1, A⟩])]) rfl rV ?_ sT2
    exact ⟨a1, a2, v1, rfl, by rw [ht]⟩
  have rx1 := rx.1
  have rx2 := rx.2.1
  have ry1 := ry.1
  have ry2 := ry.2.1
  try refine go ⟨?_⟩
  rw [decide_eq_false e1]
  try refine go ⟨?_⟩
  refine WP.cutK (σ := Unit) (fun _ => [(6, ptrV b6), (7, ptrV b7), (8, .int .i64 A), (9, .int .i64 B), (57, .bool (decide (abv s B A)))]) (fun _ => [Tok.own a1 s.P, Tok.own a2 s.Z, Tok.own a3 s.S, Tok.blk b7 [a1, a2, a3], Tok.blk b6 [.slice none 0 0, .slice none 0 0, .slice none 0 0]]) (fun _ => True) ?_ ?_
  · refine WP.draw [Tok.blk b3 [vP, vZ, vS], Tok.own a1 s.P, Tok.own a2 s.Z, Tok.own a3 s.S, Tok.blk b7 [a1, a2, a3], Tok.blk b6 [.slice none 0 0, .slice none 0 0, .slice none 0 0]] mixed ?_
    refine WPD.take 0 rfl (by first | exact (Op1.fieldAddr rfl) | exact (Op1.fieldAddrE rfl rD lT)) rfl rfl sT kR kR kR xQP ?_
    refine WPD.take 2 rfl (Op1.move rfl) rfl rfl sT kR kR kR xQP ?_
    refine WPD.take 5 rfl (by first | exact (Op1.fieldAddr rfl) | exact (Op1.fieldAddrE rfl rD lT)) rfl rfl sT kR kR kR xQP ?_
    refine WPD.take 7 rfl (Op1.move rfl) rfl rfl sT kR kR kR xQP ?_
    refine WPD.take 1 rfl (by first | exact (Op1.load rfl mM (by rfl)) | exact (Op1.loadI rfl rD lT) | exact (Op1.loadAll rfl mM (by rfl)) | exact (Op1.loadE rfl rD lT (by rfl)) | exact (Op1.loadEAgg rfl rD lT (by rfl))) rfl rfl sT kR kR kR xQP ?_
    refine WPD.take 6 rfl (by first | exact (Op1.load rfl mM (by rfl)) | exact (Op1.loadI rfl rD lT) | exact (Op1.loadAll rfl mM (by rfl)) | exact (Op1.loadE rfl rD lT (by rfl)) | exact (Op1.loadEAgg rfl rD lT (by rfl))) rfl rfl sT kR kR kR xQP ?_
    refine WPD.take 3 rfl (by first | exact (Op1.indexAddr rfl rfl rD lT) | exact (Op1.indexAddrZ rfl rfl rD lT)) rfl rfl sT kR kR kR xQP ?_
    refine WPD.take 8 rfl (by first | exact (Op1.indexAddr rfl rfl rD lT) | exact (Op1.indexAddrZ rfl rfl rD lT)) rfl rfl sT kR kR kR xQP ?_
    refine WPD.take 4 rfl (by first | exact (Op1.load rfl mM (by rfl)) | exact (Op1.loadI rfl rD lT) | exact (Op1.loadAll rfl mM (by rfl)) | exact (Op1.loadE rfl rD lT (by rfl)) | exact (Op1.loadEAgg rfl rD lT (by rfl))) rfl rfl sT kR kR kR xQP ?_
    refine WPD.take 9 rfl (by first | exact (Op1.load rfl mM (by rfl)) | exact (Op1.loadI rfl rD lT) | exact (Op1.loadAll rfl mM (by rfl)) | exact (Op1.loadE rfl rD lT (by rfl)) | exact (Op1.loadEAgg rfl rD lT (by rfl))) rfl rfl sT kR kR kR xQP ?_
    refine WPD.take 10 rfl (Op1.ltI rfl rfl) rfl rfl sT kR kR kR xQP ?_
    refine WPD.take 11 rfl (Op1.move rfl) rfl rfl sT kR kR kR xQP ?_
    first | refine WPD.splitD 40 rfl (fun h40 => ?t13) (fun h40 => ?f13) | refine WPD.split 40 rfl (fun h40 => ?t13) (fun h40 => ?f13)
    case' t13 =>
      refine WPD.skip 12 rfl rfl rfl sT kR kR kR xQP ?_
      refine WPD.skip 14 rfl rfl rfl sT kR kR kR xQP ?_
      refine WPD.skip 17 rfl rfl rfl sT kR kR kR xQP ?_
      refine WPD.skip 19 rfl rfl rfl sT kR kR kR xQP ?_
      refine WPD.skip 13 rfl rfl rfl sT kR kR kR xQP ?_
      refine WPD.skip 18 rfl rfl rfl sT kR kR kR xQP ?_
      refine WPD.skip 15 rfl rfl rfl sT kR kR kR xQP ?_
      refine WPD.skip 20 rfl rfl rfl sT kR kR kR xQP ?_
      refine WPD.skip 16 rfl rfl rfl sT kR kR kR xQP ?_
      refine WPD.skip 21 rfl rfl rfl sT kR kR kR xQP ?_
      refine WPD.skip 22 rfl rfl rfl sT kR kR kR xQP ?_
      refine WPD.skip 23 rfl rfl rfl sT kR kR kR xQP ?_
      refine WPD.skip 24 rfl rfl rfl sT kR kR kR xQP ?_
      refine WPD.skip 25 rfl rfl rfl sT kR kR kR xQP ?_
      refine WPD.skip 26 rfl rfl rfl sT kR kR kR xQP ?_
      refine WPD.skip 27 rfl rfl rfl sT kR kR kR xQP ?_
      refine WPD.take 28 rfl (by first | exact (Op1.pickT rfl rfl) | exact (Op1.pickF rfl rfl)) rfl rfl sT kR kR kR xQP ?_
      refine WPD.done kR ?_
    case' f13 =>
      refine WPD.take 12 rfl (by first | exact (Op1.fieldAddr rfl) | exact (Op1.fieldAddrE rfl rD lT)) rfl rfl sT kR kR kR xQP ?_
      refine WPD.take 14 rfl (Op1.move rfl) rfl rfl sT kR kR kR xQP ?_
      refine WPD.take 17 rfl (by first | exact (Op1.fieldAddr rfl) | exact (Op1.fieldAddrE rfl rD lT)) rfl rfl sT kR kR kR xQP ?_
      refine WPD.take 19 rfl (Op1.move rfl) rfl rfl sT kR kR kR xQP ?_
      refine WPD.take 13 rfl (by first | exact (Op1.load rfl mM (by rfl)) | exact (Op1.loadI rfl rD lT) | exact (Op1.loadAll rfl mM (by rfl)) | exact (Op1.loadE rfl rD lT (by rfl)) | exact (Op1.loadEAgg rfl rD lT (by rfl))) rfl rfl sT kR kR kR xQP ?_
      refine WPD.take 18 rfl (by first | exact (Op1.load rfl mM (by rfl)) | exact (Op1.loadI rfl rD lT) | exact (Op1.loadAll rfl mM (by rfl)) | exact (Op1.loadE rfl rD lT (by rfl)) | exact (Op1.loadEAgg rfl rD lT (by rfl))) rfl rfl sT kR kR kR xQP ?_
      refine WPD.take 15 rfl (by first | exact (Op1.indexAddr rfl rfl rD lT) | exact (Op1.indexAddrZ rfl rfl rD lT)) rfl rfl sT kR kR kR xQP ?_
      refine WPD.take 20 rfl (by first | exact (Op1.indexAddr rfl rfl rD lT) | exact (Op1.indexAddrZ rfl rfl rD lT)) rfl rfl sT kR kR kR xQP ?_
      refine WPD.take 16 rfl (by first | exact (Op1.load rfl mM (by rfl)) | exact (Op1.loadI rfl rD lT) | exact (Op1.loadAll rfl mM (by rfl)) | exact (Op1.loadE rfl rD lT (by rfl)) | exact (Op1.loadEAgg rfl rD lT (by rfl))) rfl rfl sT kR kR kR xQP ?_
      refine WPD.take 21 rfl (by first | exact (Op1.load rfl mM (by rfl)) | exact (Op1.loadI rfl rD lT) | exact (Op1.loadAll rfl mM (by rfl)) | exact (Op1.loadE rfl rD lT (by rfl)) | exact (Op1.loadEAgg rfl rD lT (by rfl))) rfl rfl sT kR kR kR xQP ?_
      refine WPD.take 22 rfl (by first | exact (Op1.eqI rfl rfl) | exact (Op1.eqB rfl rfl) | exact (Op1.eqE rfl rfl) | exact (Op1.eqNil rfl rD)) rfl rfl sT kR kR kR xQP ?_
      refine WPD.take 23 rfl (Op1.move rfl) rfl rfl sT kR kR kR xQP ?_
      first | refine WPD.splitD 52 rfl (fun h52 => ?t14) (fun h52 => ?f14) | refine WPD.split 52 rfl (fun h52 => ?t14) (fun h52 => ?f14)
      case' t14 =>
        refine WPD.take 24 rfl (Op1.move rfl) rfl rfl sT kR kR kR xQP ?_
        refine WPD.take 25 rfl (Op1.move rfl) rfl rfl sT kR kR kR xQP ?_
        refine WPD.take 26 rfl (Op1.gtI rfl rfl) rfl rfl sT kR kR kR xQP ?_
        refine WPD.take 27 rfl (by first | exact (Op1.pickT rfl rfl) | exact (Op1.pickF rfl rfl)) rfl rfl sT kR kR kR xQP ?_
        refine WPD.take 28 rfl (by first | exact (Op1.pickT rfl rfl) | exact (Op1.pickF rfl rfl)) rfl rfl sT kR kR kR xQP ?_
        refine WPD.done kR ?_
      case' f14 =>
        refine WPD.skip 24 rfl rfl rfl sT kR kR kR xQP ?_
        refine WPD.skip 25 rfl rfl rfl sT kR kR kR xQP ?_
        refine WPD.skip 26 rfl rfl rfl sT kR kR kR xQP ?_
        refine WPD.take 27 rfl (by first | exact (Op1.pickT rfl rfl) | exact (Op1.pickF rfl rfl)) rfl rfl sT kR kR kR xQP ?_
        refine WPD.take 28 rfl (by first | exact (Op1.pickT rfl rfl) | exact (Op1.pickF rfl rfl)) rfl rfl sT kR kR kR xQP ?_
        refine WPD.done kR ?_
    · rw [decide_eq_false (show ¬ abv s B A by unfold abv; omega)]
      refine PE.mid () trivial sE sT2
    · have e : decide (B < A) = decide (abv s B A) := by rw [decide_eq_decide]; unfold abv; omega
      rw [e]
      refine PE.mid () trivial sE sT2
    · rw [decide_eq_true (show abv s B A by unfold abv; omega)]
      refine PE.mid () trivial sE sT2
  rintro _ _
  refine WP.cutK (σ := Int × Int) (fun q => [(6, ptrV b6), (7, ptrV b7), (8, .int .i64 q.1), (9, .int .i64 q.2)]) (fun q => [Tok.own a1 s.P, Tok.own a2 s.Z, Tok.own a3 s.S, Tok.blk b7 [a1, a2, a3], Tok.blk b6 [.slice none 0 0, .slice none 0 0, .slice none 0 0]]) (fun q => rtB s q.1 ∧ rtB s q.2 ∧ unS s x y = ⟨q.2, q.1⟩) ?_ ?_
  · refine WP.condD rfl (fun hba => ?_) (fun hba => ?_)
    · have ht : unS s x y = ⟨A, B⟩ := by rw [hA, hB]; exact unS_bel (by rw [← hA, ← hB]; exact e1) (by rw [← hA, ← hB]; exact abv_asymm hba)
      try refine go ⟨?_⟩
      refine PE.mid (B, A) ⟨ry, rx, ht⟩ sE sT2
    · have ht : unS s x y = ⟨B, A⟩ := by rw [hA, hB]; exact unS_abv (by rw [← hA, ← hB]; exact e1) (by rw [← hA, ← hB]; exact abv_total (Ne.symm e1) hba)
      try refine go ⟨?_⟩
      refine PE.mid (A, B) ⟨rx, ry, ht⟩ sE sT2
  · rintro ⟨C, D⟩ ⟨rc, rd, ht⟩
    dsimp only at rc rd ht ⊢
    have rc1 := rc.1
    have rc2 := rc.2.1
    have rd1 := rd.1
    have rd2 := rd.2.1
    have zC := hz1 C.toNat (by omega)
    have zD := hz1 D.toNat (by omega)
    have hu : uni s x y = ⟨s.P.set D.toNat C, s.Z.set C.toNat (s.Z.getD C.toNat 0 + s.Z.getD D.toNat 0), s.S ++ [⟨D, C⟩]⟩ := by
      unfold uni; rw [ht]; unfold stDo; rw [if_neg (show ¬ D = -1 by omega)]
    try refine go ⟨?_⟩
    refine WPL.eff0 (OpE.store1 (C) rfl rfl pM2 lT rfl) rfl ?_
    rintro _ _ rfl
    try refine go ⟨?_⟩
    refine WP.draw [Tok.own a1 (s.P.set D.toNat C), Tok.own a3 s.S, Tok.blk b7 [a1, a2, a3], Tok.blk b6 [.slice none 0 0, .slice none 0 0, .slice none 0 0]] mixed ?_
    refine WPD.take 0 rfl (by first | exact (Op1.fieldAddr rfl) | exact (Op1.fieldAddrE rfl rD lT)) rfl rfl sT kR kR kR xQP ?_
    refine WPD.take 2 rfl (Op1.move rfl) rfl rfl sT kR kR kR xQP ?_
    refine WPD.take 3 rfl (by first | exact (Op1.fieldAddr rfl) | exact (Op1.fieldAddrE rfl rD lT)) rfl rfl sT kR kR kR xQP ?_
    refine WPD.take 5 rfl (Op1.move rfl) rfl rfl sT kR kR kR xQP ?_
    refine WPD.take 8 rfl (by first | exact (Op1.fieldAddr rfl) | exact (Op1.fieldAddrE rfl rD lT)) rfl rfl sT kR kR kR xQP ?_
    refine WPD.take 10 rfl (Op1.move rfl) rfl rfl sT kR kR kR xQP ?_
    refine WPD.take 1 rfl (by first | exact (Op1.load rfl mM (by rfl)) | exact (Op1.loadI rfl rD lT) | exact (Op1.loadAll rfl mM (by rfl)) | exact (Op1.loadE rfl rD lT (by rfl)) | exact (Op1.loadEAgg rfl rD lT (by rfl))) rfl rfl sT kR kR kR xQP ?_
    refine WPD.take 4 rfl (by first | exact (Op1.load rfl mM (by rfl)) | exact (Op1.loadI rfl rD lT) | exact (Op1.loadAll rfl mM (by rfl)) | exact (Op1.loadE rfl rD lT (by rfl)) | exact (Op1.loadEAgg rfl rD lT (by rfl))) rfl rfl sT kR kR kR xQP ?_
    refine WPD.take 9 rfl (by first | exact (Op1.load rfl mM (by rfl)) | exact (Op1.loadI rfl rD lT) | exact (Op1.loadAll rfl mM (by rfl)) | exact (Op1.loadE rfl rD lT (by rfl)) | exact (Op1.loadEAgg rfl rD lT (by rfl))) rfl rfl sT kR kR kR xQP ?_
    refine WPD.two 6 11 kR ?e15_6 ?e15_11
    case' e15_6 =>
      refine WPO.eff rfl (OpE.ofPure (by first | exact (Op1.indexAddr rfl rfl rD lT) | exact (Op1.indexAddrZ rfl rfl rD lT))) rfl rfl ?_
      rintro _ _ ⟨rfl, rfl⟩
      refine ⟨sT, ?_⟩
      refine WPD.two 7 11 kR ?e16_7 ?e16_11
      case' e16_7 =>
        refine WPO.eff rfl (OpE.ofPure (by first | exact (Op1.load rfl mM (by rfl)) | exact (Op1.loadI rfl rD lT) | exact (Op1.loadAll rfl mM (by rfl)) | exact (Op1.loadE rfl rD lT (by rfl)) | exact (Op1.loadEAgg rfl rD lT (by rfl)))) rfl rfl ?_
        rintro _ _ ⟨rfl, rfl⟩
        refine ⟨sT, ?_⟩
        refine WPD.eff 11 kR rfl (OpE.ofPure (by first | exact (Op1.indexAddr rfl rfl rD lT) | exact (Op1.indexAddrZ rfl rfl rD lT))) rfl rfl ?_
        rintro _ _ ⟨rfl, rfl⟩
        refine ⟨sT, ?_⟩
        refine WPD.eff 12 kR rfl (OpE.ofPure (by first | exact (Op1.load rfl mM (by rfl)) | exact (Op1.loadI rfl rD lT) | exact (Op1.loadAll rfl mM (by rfl)) | exact (Op1.loadE rfl rD lT (by rfl)) | exact (Op1.loadEAgg rfl rD lT (by rfl)))) rfl rfl ?_
        rintro _ _ ⟨rfl, rfl⟩
        refine ⟨sT, ?_⟩
        refine WPD.take 13 rfl (Op1.add rfl rfl (by omega)) rfl rfl sT kR kR kR xQP ?_
        refine WPD.eff 14 kR rfl (OpE.ofPure (by first | exact (Op1.indexAddr rfl rfl rD lT) | exact (Op1.indexAddrZ rfl rfl rD lT))) rfl rfl ?_
        rintro _ _ ⟨rfl, rfl⟩
        refine ⟨sT, ?_⟩
        refine WPD.eff0 15 kR rfl (OpE.store1 (_) rfl rfl pM lT rfl) rfl ?_
        rintro _ _ rfl
        refine ⟨sT, ?_⟩
        refine WPD.done kR ?_
      case' e16_11 =>
        refine WPO.eff rfl (OpE.ofPure (by first | exact (Op1.indexAddr rfl rfl rD lT) | exact (Op1.indexAddrZ rfl rfl rD lT))) rfl rfl ?_
        rintro _ _ ⟨rfl, rfl⟩
        refine ⟨sT, ?_⟩
        refine WPD.two 7 12 kR ?e17_7 ?e17_12
        case' e17_7 =>
          refine WPO.eff rfl (OpE.ofPure (by first | exact (Op1.load rfl mM (by rfl)) | exact (Op1.loadI rfl rD lT) | exact (Op1.loadAll rfl mM (by rfl)) | exact (Op1.loadE rfl rD lT (by rfl)) | exact (Op1.loadEAgg rfl rD lT (by rfl)))) rfl rfl ?_
          rintro _ _ ⟨rfl, rfl⟩
          refine ⟨sT, ?_⟩
          refine WPD.eff 12 kR rfl (OpE.ofPure (by first | exact (Op1.load rfl mM (by rfl)) | exact (Op1.loadI rfl rD lT) | exact (Op1.loadAll rfl mM (by rfl)) | exact (Op1.loadE rfl rD lT (by rfl)) | exact (Op1.loadEAgg rfl rD lT (by rfl)))) rfl rfl ?_
          rintro _ _ ⟨rfl, rfl⟩
          refine ⟨sT, ?_⟩
          refine WPD.take 13 rfl (Op1.add rfl rfl (by omega)) rfl rfl sT kR kR kR xQP ?_
          refine WPD.eff 14 kR rfl (OpE.ofPure (by first | exact (Op1.indexAddr rfl rfl rD lT) | exact (Op1.indexAddrZ rfl rfl rD lT))) rfl rfl ?_
          rintro _ _ ⟨rfl, rfl⟩
          refine ⟨sT, ?_⟩
          refine WPD.eff0 15 kR rfl (OpE.store1 (_) rfl rfl pM lT rfl) rfl ?_
          rintro _ _ rfl
          refine ⟨sT, ?_⟩
          refine WPD.done kR ?_
        case' e17_12 =>
          refine WPO.eff rfl (OpE.ofPure (by first | exact (Op1.load rfl mM (by rfl)) | exact (Op1.loadI rfl rD lT) | exact (Op1.loadAll rfl mM (by rfl)) | exact (Op1.loadE rfl rD lT (by rfl)) | exact (Op1.loadEAgg rfl rD lT (by rfl)))) rfl rfl ?_
          rintro _ _ ⟨rfl, rfl⟩
          refine ⟨sT, ?_⟩
          refine WPD.eff 7 kR rfl (OpE.ofPure (by first | exact (Op1.load rfl mM (by rfl)) | exact (Op1.loadI rfl rD lT) | exact (Op1.loadAll rfl mM (by rfl)) | exact (Op1.loadE rfl rD lT (by rfl)) | exact (Op1.loadEAgg rfl rD lT (by rfl)))) rfl rfl ?_
          rintro _ _ ⟨rfl, rfl⟩
          refine ⟨sT, ?_⟩
          refine WPD.take 13 rfl (Op1.add rfl rfl (by omega)) rfl rfl sT kR kR kR xQP ?_
          refine WPD.eff 14 kR rfl (OpE.ofPure (by first | exact (Op1.indexAddr rfl rfl rD lT) | exact (Op1.indexAddrZ rfl rfl rD lT))) rfl rfl ?_
          rintro _ _ ⟨rfl, rfl⟩
          refine ⟨sT, ?_⟩
          refine WPD.eff0 15 kR rfl (OpE.store1 (_) rfl rfl pM lT rfl) rfl ?_
          rintro _ _ rfl
          refine ⟨sT, ?_⟩
          refine WPD.done kR ?_
    case' e15_11 =>
      refine WPO.eff rfl (OpE.ofPure (by first | exact (Op1.indexAddr rfl rfl rD lT) | exact (Op1.indexAddrZ rfl rfl rD lT))) rfl rfl ?_
      rintro _ _ ⟨rfl, rfl⟩
      refine ⟨sT, ?_⟩
      refine WPD.two 6 12 kR ?e18_6 ?e18_12
      case' e18_6 =>
        refine WPO.eff rfl (OpE.ofPure (by first | exact (Op1.indexAddr rfl rfl rD lT) | exact (Op1.indexAddrZ rfl rfl rD lT))) rfl rfl ?_
        rintro _ _ ⟨rfl, rfl⟩
        refine ⟨sT, ?_⟩
        refine WPD.two 7 12 kR ?e19_7 ?e19_12
        case' e19_7 =>
          refine WPO.eff rfl (OpE.ofPure (by first | exact (Op1.load rfl mM (by rfl)) | exact (Op1.loadI rfl rD lT) | exact (Op1.loadAll rfl mM (by rfl)) | exact (Op1.loadE rfl rD lT (by rfl)) | exact (Op1.loadEAgg rfl rD lT (by rfl)))) rfl rfl ?_
          rintro _ _ ⟨rfl, rfl⟩
          refine ⟨sT, ?_⟩
          refine WPD.eff 12 kR rfl (OpE.ofPure (by first | exact (Op1.load rfl mM (by rfl)) | exact (Op1.loadI rfl rD lT) | exact (Op1.loadAll rfl mM (by rfl)) | exact (Op1.loadE rfl rD lT (by rfl)) | exact (Op1.loadEAgg rfl rD lT (by rfl)))) rfl rfl ?_
          rintro _ _ ⟨rfl, rfl⟩
          refine ⟨sT, ?_⟩
          refine WPD.take 13 rfl (Op1.add rfl rfl (by omega)) rfl rfl sT kR kR kR xQP ?_
          refine WPD.eff 14 kR rfl (OpE.ofPure (by first | exact (Op1.indexAddr rfl rfl rD lT) | exact (Op1.indexAddrZ rfl rfl rD lT))) rfl rfl ?_
          rintro _ _ ⟨rfl, rfl⟩
          refine ⟨sT, ?_⟩
          refine WPD.eff0 15 kR rfl (OpE.store1 (_) rfl rfl pM lT rfl) rfl ?_
          rintro _ _ rfl
          refine ⟨sT, ?_⟩
          refine WPD.done kR ?_
        case' e19_12 =>
          refine WPO.eff rfl (OpE.ofPure (by first | exact (Op1.load rfl mM (by rfl)) | exact (Op1.loadI rfl rD lT) | exact (Op1.loadAll rfl mM (by rfl)) | exact (Op1.loadE rfl rD lT (by rfl)) | exact (Op1.loadEAgg rfl rD lT (by rfl)))) rfl rfl ?_
          rintro _ _ ⟨rfl, rfl⟩
          refine ⟨sT, ?_⟩
          refine WPD.eff 7 kR rfl (OpE.ofPure (by first | exact (Op1.load rfl mM (by rfl)) | exact (Op1.loadI rfl rD lT) | exact (Op1.loadAll rfl mM (by rfl)) | exact (Op1.loadE rfl rD lT (by rfl)) | exact (Op1.loadEAgg rfl rD lT (by rfl)))) rfl rfl ?_
          rintro _ _ ⟨rfl, rfl⟩
          refine ⟨sT, ?_⟩
          refine WPD.take 13 rfl (Op1.add rfl rfl (by omega)) rfl rfl sT kR kR kR xQP ?_
          refine WPD.eff 14 kR rfl (OpE.ofPure (by first | exact (Op1.indexAddr rfl rfl rD lT) | exact (Op1.indexAddrZ rfl rfl rD lT))) rfl rfl ?_
          rintro _ _ ⟨rfl, rfl⟩
          refine ⟨sT, ?_⟩
          refine WPD.eff0 15 kR rfl (OpE.store1 (_) rfl rfl pM lT rfl) rfl ?_
          rintro _ _ rfl
          refine ⟨sT, ?_⟩
          refine WPD.done kR ?_
      case' e18_12 =>
        refine WPO.eff rfl (OpE.ofPure (by first | exact (Op1.load rfl mM (by rfl)) | exact (Op1.loadI rfl rD lT) | exact (Op1.loadAll rfl mM (by rfl)) | exact (Op1.loadE rfl rD lT (by rfl)) | exact (Op1.loadEAgg rfl rD lT (by rfl)))) rfl rfl ?_
        rintro _ _ ⟨rfl, rfl⟩
        refine ⟨sT, ?_⟩
        refine WPD.eff 6 kR rfl (OpE.ofPure (by first | exact (Op1.indexAddr rfl rfl rD lT) | exact (Op1.indexAddrZ rfl rfl rD lT))) rfl rfl ?_
        rintro _ _ ⟨rfl, rfl⟩
        refine ⟨sT, ?_⟩
        refine WPD.eff 7 kR rfl (OpE.ofPure (by first | exact (Op1.load rfl mM (by rfl)) | exact (Op1.loadI rfl rD lT) | exact (Op1.loadAll rfl mM (by rfl)) | exact (Op1.loadE rfl rD lT (by rfl)) | exact (Op1.loadEAgg rfl rD lT (by rfl)))) rfl rfl ?_
        rintro _ _ ⟨rfl, rfl⟩
        refine ⟨sT, ?_⟩
        refine WPD.take 13 rfl (Op1.add rfl rfl (by omega)) rfl rfl sT kR kR kR xQP ?_
        refine WPD.eff 14 kR rfl (OpE.ofPure (by first | exact (Op1.indexAddr rfl rfl rD lT) | exact (Op1.indexAddrZ rfl rfl rD lT))) rfl rfl ?_
        rintro _ _ ⟨rfl, rfl⟩
        refine ⟨sT, ?_⟩
        refine WPD.eff0 15 kR rfl (OpE.store1 (_) rfl rfl pM lT rfl) rfl ?_
        rintro _ _ rfl
        refine ⟨sT, ?_⟩
        refine WPD.done kR ?_
    all_goals (
      try refine go ⟨?_⟩
      refine WPL.eff (OpE.buildSlice [(⟨D, C⟩ : E)] pA rfl (by decide)) rfl rfl ?_; rintro s1 _ rfl
      try refine go ⟨?_⟩
      refine WPL.eff (OpE.append rfl rfl pM rD lN) rfl rfl ?_; rintro v1 _ rfl
      try refine go ⟨?_⟩
      refine PE.ret1 (T := []) (T' := [Tok.own a1 (s.P.set D.toNat C), Tok.own a2 (s.Z.set C.toNat (s.Z.getD C.toNat 0 + s.Z.getD D.toNat 0)), Tok.own v1 (s.S ++ [⟨D, C⟩])]) rfl rV ?_ sT2
      exact ⟨a1, a2, v1, rfl, by rw [hu]⟩)
end Go.Proofs.Ythlgbeakcobeoaa
/- Sets: the walks of the second program's l3Same, SetsValid. Conditions: those of each contract. -/
namespace Go.Proofs.Ythlgbeakcobeoaa
open Go
theorem list_eqI {xs ys : List Int} (hl : xs.length = ys.length) (h : ∀ i, i < xs.length → xs.getD i 0 = ys.getD i 0) : xs = ys := by
  apply List.ext_getElem hl
  intro i h1 h2
  have := h i h1
  rwa [List.getD_eq_getElem?_getD, List.getD_eq_getElem?_getD, List.getElem?_eq_getElem h1, List.getElem?_eq_getElem h2] at this
theorem list_eqE {xs ys : List E} (hl : xs.length = ys.length) (h : ∀ i, i < xs.length → xs.getD i eD = ys.getD i eD) : xs = ys := by
  apply List.ext_getElem hl
  intro i h1 h2
  have := h i h1
  rwa [List.getD_eq_getElem?_getD, List.getD_eq_getElem?_getD, List.getElem?_eq_getElem h1, List.getElem?_eq_getElem h2] at this
theorem SS.ext_iff' {s t : SS} : s = t ↔ s.P = t.P ∧ s.Z = t.Z ∧ s.S = t.S := by cases s; cases t; simp
theorem uni_last {s : SS} {x y : Int} {k : Nat} (hk : s.S.length = k) : (uni s x y).S.getD k eD = unS s x y := by
  unfold uni
  rw [stDo_S, List.getD_eq_getElem?_getD, List.getElem?_append_right (by omega), hk, Nat.sub_self]; rfl
theorem uni_len (s : SS) (x y : Int) : (uni s x y).S.length = s.S.length + 1 := by unfold uni; rw [stDo_S]; simp
theorem not_SV_of {s : SS} {k : Nat} (h : repl s.P.length (s.S.take k) = none) : ¬ SV s := fun hv => by
  have := hv.2.2
  rw [replay_bad h] at this; cases this
theorem SV.eqv {s : SS} (h : SV s) : repl s.P.length s.S = some s := h.2.2
set_option linter.unusedVariables false set_option linter.unusedSimpArgs false attribute [local irreducible] Tok.own Tok.blk RL Rd eptr WP WPL PE WPD WPO Op1 OpE Tri Again Mid Exit.then Exit.inBlock bodyPost RP Code.wp wpList isOwn OneM One
set_option maxHeartbeats 8000000

theorem s_Same (w : World) (aP aZ aS bP bZ bS : Value) (s t : SS) (h1 : RL w aP s.P) (h2 : RL w aZ s.Z) (h3 : RL w aS s.S) (h4 : RL w bP t.P) (h5 : RL w bZ t.Z) (h6 : RL w bS t.S)
    (l1 : s.P.length ≤ 1099511627776) (l2 : s.Z.length ≤ 1099511627776) (l3 : s.S.length ≤ 1099511627776) (l4 : t.P.length ≤ 1099511627776) (l5 : t.Z.length ≤ 1099511627776) (l6 : t.S.length ≤ 1099511627776) :
    Tri Try.prog 103 [setV aP aZ aS, setV bP bZ bS] w [] fun r T => T = [] ∧ r = .bool (decide (s = t)) := by
  have bad : ¬ s = t → Value.bool false = .bool (decide (s = t)) := fun h => by rw [decide_eq_false h]
  refine Tri.intro (hf := Try.func103) (hb := rfl) (hn := Try.ntmps103) (Nat.le_of_ble_eq_true rfl) ?_
  try refine go ⟨?_⟩
  refine WPL.eff (OpE.box rfl) rfl rfl ?_; rintro _ _ ⟨b, rfl, rfl⟩
  refine WPL.eff (OpE.box rfl) rfl rfl ?_; rintro _ _ ⟨b2, rfl, rfl⟩
  try refine go ⟨?_⟩
  by_cases e1 : s.P.length = t.P.length
  case neg =>
    rw [decide_eq_true (show ((s.P.length : Nat) : Int) ≠ (t.P.length : Nat) by omega)]
    try refine go ⟨?_⟩
    refine PE.ret1 (T := []) (T' := []) rfl rV ?_ sT
    exact ⟨rfl, bad fun h => e1 (by rw [h])⟩
  rw [decide_eq_false (show ¬ ((s.P.length : Nat) : Int) ≠ (t.P.length : Nat) by omega)]
  try refine go ⟨?_⟩
  by_cases e2 : s.Z.length = t.Z.length
  case neg =>
    rw [decide_eq_true (show ((s.Z.length : Nat) : Int) ≠ (t.Z.length : Nat) by omega)]
    try refine go ⟨?_⟩
    refine PE.ret1 (T := []) (T' := []) rfl rV ?_ sT
    exact ⟨rfl, bad fun h => e2 (by rw [h])⟩
  rw [decide_eq_false (show ¬ ((s.Z.length : Nat) : Int) ≠ (t.Z.length : Nat) by omega)]
  try refine go ⟨?_⟩
  by_cases e3 : s.S.length = t.S.length
  case neg =>
    rw [decide_eq_true (show ((s.S.length : Nat) : Int) ≠ (t.S.length : Nat) by omega)]
    try refine go ⟨?_⟩
    refine PE.ret1 (T := []) (T' := []) rfl rV ?_ sT
    exact ⟨rfl, bad fun h => e3 (by rw [h])⟩
  rw [decide_eq_false (show ¬ ((s.S.length : Nat) : Int) ≠ (t.S.length : Nat) by omega)]
  try refine go ⟨?_⟩
  refine WP.loop (σ := Nat) (fun k => [(2, ptrV b), (3, ptrV b2), (5, .int .i64 k)]) (fun _ => [Tok.blk b [aP, aZ, aS], Tok.blk b2 [bP, bZ, bS]]) (fun k => k ≤ s.P.length ∧ ∀ m, m < k → s.P.getD m 0 = t.P.getD m 0) (fun k => s.P.length - k) 0 ⟨Nat.zero_le _, by omega⟩ sE sT2 ?_
  rintro k ⟨hk, hm⟩
  try refine go ⟨?_⟩
  refine WP.condD rfl (fun hc => ?_) (fun hc => ?_)
  · have hk' : k < s.P.length := by omega
    try refine go ⟨?_⟩
    refine WP.draw [Tok.blk b [aP, aZ, aS], Tok.blk b2 [bP, bZ, bS]] mixed ?_
    refine WPD.take 0 rfl (by first | exact (Op1.fieldAddr rfl) | exact (Op1.fieldAddrE rfl rD lT)) rfl rfl sT kR kR kR xQP ?_
    refine WPD.take 2 rfl (Op1.move rfl) rfl rfl sT kR kR kR xQP ?_
    refine WPD.take 5 rfl (by first | exact (Op1.fieldAddr rfl) | exact (Op1.fieldAddrE rfl rD lT)) rfl rfl sT kR kR kR xQP ?_
    refine WPD.take 7 rfl (Op1.move rfl) rfl rfl sT kR kR kR xQP ?_
    refine WPD.take 1 rfl (by first | exact (Op1.load rfl mM (by rfl)) | exact (Op1.loadI rfl rD lT) | exact (Op1.loadAll rfl mM (by rfl)) | exact (Op1.loadE rfl rD lT (by rfl)) | exact (Op1.loadEAgg rfl rD lT (by rfl))) rfl rfl sT kR kR kR xQP ?_
    refine WPD.take 6 rfl (by first | exact (Op1.load rfl mM (by rfl)) | exact (Op1.loadI rfl rD lT) | exact (Op1.loadAll rfl mM (by rfl)) | exact (Op1.loadE rfl rD lT (by rfl)) | exact (Op1.loadEAgg rfl rD lT (by rfl))) rfl rfl sT kR kR kR xQP ?_
    refine WPD.take 3 rfl (by first | exact (Op1.indexAddr rfl rfl rD lT) | exact (Op1.indexAddrZ rfl rfl rD lT)) rfl rfl sT kR kR kR xQP ?_
    refine WPD.take 8 rfl (by first | exact (Op1.indexAddr rfl rfl rD lT) | exact (Op1.indexAddrZ rfl rfl rD lT)) rfl rfl sT kR kR kR xQP ?_
    refine WPD.take 4 rfl (by first | exact (Op1.load rfl mM (by rfl)) | exact (Op1.loadI rfl rD lT) | exact (Op1.loadAll rfl mM (by rfl)) | exact (Op1.loadE rfl rD lT (by rfl)) | exact (Op1.loadEAgg rfl rD lT (by rfl))) rfl rfl sT kR kR kR xQP ?_
    refine WPD.take 9 rfl (by first | exact (Op1.load rfl mM (by rfl)) | exact (Op1.loadI rfl rD lT) | exact (Op1.loadAll rfl mM (by rfl)) | exact (Op1.loadE rfl rD lT (by rfl)) | exact (Op1.loadEAgg rfl rD lT (by rfl))) rfl rfl sT kR kR kR xQP ?_
    refine WPD.take 10 rfl (by first | exact (Op1.neI rfl rfl) | exact (Op1.neB rfl rfl) | exact (Op1.neE rfl rfl)) rfl rfl sT kR kR kR xQP ?_
    refine WPD.done kR ?_
    try refine go ⟨?_⟩
    refine WP.condD rfl (fun hc3 => ?_) (fun hc3 => ?_)
    · have hc3 : s.P.getD k 0 ≠ t.P.getD k 0 := hc3
      try refine go ⟨?_⟩
      refine PE.ret1 (T := []) (T' := []) rfl rV ?_ sT
      exact ⟨rfl, bad fun h => hc3 (by rw [h])⟩
    · have hc3 : ¬ s.P.getD k 0 ≠ t.P.getD k 0 := hc3
      try refine go ⟨?_⟩
      refine PE.again (k + 1) ?_ ?_ sE sT2
      · exact ⟨by omega, fun m hm' => by
          rcases Nat.lt_succ_iff_lt_or_eq.1 hm' with h' | rfl
          · exact hm m h'
          · exact Decidable.not_not.1 hc3⟩
      · (try dsimp only); omega
  have eP : s.P = t.P := list_eqI e1 fun i hi => hm i (by omega)
  clear hm hk hc
  try refine go ⟨?_⟩
  refine WP.loop (σ := Nat) (fun k => [(2, ptrV b), (3, ptrV b2), (6, .int .i64 k)]) (fun _ => [Tok.blk b [aP, aZ, aS], Tok.blk b2 [bP, bZ, bS]]) (fun k => k ≤ s.Z.length ∧ ∀ m, m < k → s.Z.getD m 0 = t.Z.getD m 0) (fun k => s.Z.length - k) 0 ⟨Nat.zero_le _, by omega⟩ sE sT2 ?_
  rintro k ⟨hk, hm⟩
  try refine go ⟨?_⟩
  refine WP.condD rfl (fun hc => ?_) (fun hc => ?_)
  · have hk' : k < s.Z.length := by omega
    try refine go ⟨?_⟩
    refine WP.draw [Tok.blk b [aP, aZ, aS], Tok.blk b2 [bP, bZ, bS]] mixed ?_
    refine WPD.take 0 rfl (by first | exact (Op1.fieldAddr rfl) | exact (Op1.fieldAddrE rfl rD lT)) rfl rfl sT kR kR kR xQP ?_
    refine WPD.take 2 rfl (Op1.move rfl) rfl rfl sT kR kR kR xQP ?_
    refine WPD.take 5 rfl (by first | exact (Op1.fieldAddr rfl) | exact (Op1.fieldAddrE rfl rD lT)) rfl rfl sT kR kR kR xQP ?_
    refine WPD.take 7 rfl (Op1.move rfl) rfl rfl sT kR kR kR xQP ?_
    refine WPD.take 1 rfl (by first | exact (Op1.load rfl mM (by rfl)) | exact (Op1.loadI rfl rD lT) | exact (Op1.loadAll rfl mM (by rfl)) | exact (Op1.loadE rfl rD lT (by rfl)) | exact (Op1.loadEAgg rfl rD lT (by rfl))) rfl rfl sT kR kR kR xQP ?_
    refine WPD.take 6 rfl (by first | exact (Op1.load rfl mM (by rfl)) | exact (Op1.loadI rfl rD lT) | exact (Op1.loadAll rfl mM (by rfl)) | exact (Op1.loadE rfl rD lT (by rfl)) | exact (Op1.loadEAgg rfl rD lT (by rfl))) rfl rfl sT kR kR kR xQP ?_
    refine WPD.take 3 rfl (by first | exact (Op1.indexAddr rfl rfl rD lT) | exact (Op1.indexAddrZ rfl rfl rD lT)) rfl rfl sT kR kR kR xQP ?_
    refine WPD.take 8 rfl (by first | exact (Op1.indexAddr rfl rfl rD lT) | exact (Op1.indexAddrZ rfl rfl rD lT)) rfl rfl sT kR kR kR xQP ?_
    refine WPD.take 4 rfl (by first | exact (Op1.load rfl mM (by rfl)) | exact (Op1.loadI rfl rD lT) | exact (Op1.loadAll rfl mM (by rfl)) | exact (Op1.loadE rfl rD lT (by rfl)) | exact (Op1.loadEAgg rfl rD lT (by rfl))) rfl rfl sT kR kR kR xQP ?_
    refine WPD.take 9 rfl (by first | exact (Op1.load rfl mM (by rfl)) | exact (Op1.loadI rfl rD lT) | exact (Op1.loadAll rfl mM (by rfl)) | exact (Op1.loadE rfl rD lT (by rfl)) | exact (Op1.loadEAgg rfl rD lT (by rfl))) rfl rfl sT kR kR kR xQP ?_
    refine WPD.take 10 rfl (by first | exact (Op1.neI rfl rfl) | exact (Op1.neB rfl rfl) | exact (Op1.neE rfl rfl)) rfl rfl sT kR kR kR xQP ?_
    refine WPD.done kR ?_
    try refine go ⟨?_⟩
    refine WP.condD rfl (fun hc3 => ?_) (fun hc3 => ?_)
    · have hc3 : s.Z.getD k 0 ≠ t.Z.getD k 0 := hc3
      try refine go ⟨?_⟩
      refine PE.ret1 (T := []) (T' := []) rfl rV ?_ sT
      exact ⟨rfl, bad fun h => hc3 (by rw [h])⟩
    · have hc3 : ¬ s.Z.getD k 0 ≠ t.Z.getD k 0 := hc3
      try refine go ⟨?_⟩
      refine PE.again (k + 1) ?_ ?_ sE sT2
      · exact ⟨by omega, fun m hm' => by
          rcases Nat.lt_succ_iff_lt_or_eq.1 hm' with h' | rfl
          · exact hm m h'
          · exact Decidable.not_not.1 hc3⟩
      · (try dsimp only); omega
  have eZ : s.Z = t.Z := list_eqI e2 fun i hi => hm i (by omega)
  clear hm hk hc
  try refine go ⟨?_⟩
  refine WP.loop (σ := Nat) (fun k => [(2, ptrV b), (3, ptrV b2), (7, .int .i64 k)]) (fun _ => [Tok.blk b [aP, aZ, aS], Tok.blk b2 [bP, bZ, bS]]) (fun k => k ≤ s.S.length ∧ ∀ m, m < k → s.S.getD m eD = t.S.getD m eD) (fun k => s.S.length - k) 0 ⟨Nat.zero_le _, by omega⟩ sE sT2 ?_
  rintro k ⟨hk, hm⟩
  try refine go ⟨?_⟩
  refine WP.condD rfl (fun hc => ?_) (fun hc => ?_)
  · have hk' : k < s.S.length := by omega
    try refine go ⟨?_⟩
    refine WP.draw [Tok.blk b [aP, aZ, aS], Tok.blk b2 [bP, bZ, bS]] mixed ?_
    refine WPD.take 0 rfl (by first | exact (Op1.fieldAddr rfl) | exact (Op1.fieldAddrE rfl rD lT)) rfl rfl sT kR kR kR xQP ?_
    refine WPD.take 2 rfl (Op1.move rfl) rfl rfl sT kR kR kR xQP ?_
    refine WPD.take 5 rfl (by first | exact (Op1.fieldAddr rfl) | exact (Op1.fieldAddrE rfl rD lT)) rfl rfl sT kR kR kR xQP ?_
    refine WPD.take 7 rfl (Op1.move rfl) rfl rfl sT kR kR kR xQP ?_
    refine WPD.take 1 rfl (by first | exact (Op1.load rfl mM (by rfl)) | exact (Op1.loadI rfl rD lT) | exact (Op1.loadAll rfl mM (by rfl)) | exact (Op1.loadE rfl rD lT (by rfl)) | exact (Op1.loadEAgg rfl rD lT (by rfl))) rfl rfl sT kR kR kR xQP ?_
    refine WPD.take 6 rfl (by first | exact (Op1.load rfl mM (by rfl)) | exact (Op1.loadI rfl rD lT) | exact (Op1.loadAll rfl mM (by rfl)) | exact (Op1.loadE rfl rD lT (by rfl)) | exact (Op1.loadEAgg rfl rD lT (by rfl))) rfl rfl sT kR kR kR xQP ?_
    refine WPD.take 3 rfl (by first | exact (Op1.indexAddr rfl rfl rD lT) | exact (Op1.indexAddrZ rfl rfl rD lT)) rfl rfl sT kR kR kR xQP ?_
    refine WPD.take 8 rfl (by first | exact (Op1.indexAddr rfl rfl rD lT) | exact (Op1.indexAddrZ rfl rfl rD lT)) rfl rfl sT kR kR kR xQP ?_
    refine WPD.take 4 rfl (by first | exact (Op1.load rfl mM (by rfl)) | exact (Op1.loadI rfl rD lT) | exact (Op1.loadAll rfl mM (by rfl)) | exact (Op1.loadE rfl rD lT (by rfl)) | exact (Op1.loadEAgg rfl rD lT (by rfl))) rfl rfl sT kR kR kR xQP ?_
    refine WPD.take 9 rfl (by first | exact (Op1.load rfl mM (by rfl)) | exact (Op1.loadI rfl rD lT) | exact (Op1.loadAll rfl mM (by rfl)) | exact (Op1.loadE rfl rD lT (by rfl)) | exact (Op1.loadEAgg rfl rD lT (by rfl))) rfl rfl sT kR kR kR xQP ?_
    refine WPD.take 10 rfl (by first | exact (Op1.neI rfl rfl) | exact (Op1.neB rfl rfl) | exact (Op1.neE rfl rfl)) rfl rfl sT kR kR kR xQP ?_
    refine WPD.done kR ?_
    try refine go ⟨?_⟩
    refine WP.condD rfl (fun hc3 => ?_) (fun hc3 => ?_)
    · have hc3 : s.S.getD k eD ≠ t.S.getD k eD := hc3
      try refine go ⟨?_⟩
      refine PE.ret1 (T := []) (T' := []) rfl rV ?_ sT
      exact ⟨rfl, bad fun h => hc3 (by rw [h])⟩
    · have hc3 : ¬ s.S.getD k eD ≠ t.S.getD k eD := hc3
      try refine go ⟨?_⟩
      refine PE.again (k + 1) ?_ ?_ sE sT2
      · exact ⟨by omega, fun m hm' => by
          rcases Nat.lt_succ_iff_lt_or_eq.1 hm' with h' | rfl
          · exact hm m h'
          · exact Decidable.not_not.1 hc3⟩
      · (try dsimp only); omega
  have eS : s.S = t.S := list_eqE e3 fun i hi => hm i (by omega)
  clear hm hk hc
  try refine go ⟨?_⟩
  refine PE.ret1 (T := []) (T' := []) rfl rV ?_ sT
  refine ⟨rfl, ?_⟩
  rw [decide_eq_true]
  exact SS.ext_iff'.2 ⟨eP, eZ, eS⟩

attribute [local irreducible] SV

theorem s_SetsValid (w : World) (vP vZ vS : Value) (s : SS) (hP : RL w vP s.P) (hZ : RL w vZ s.Z) (hS : RL w vS s.S) (l1 : s.P.length ≤ 1099511627776) (l2 : s.Z.length ≤ 1099511627776) (l3 : s.S.length ≤ 1099511627776) :
    Tri Try.prog 51 [setV vP vZ vS] w [] fun r T => T = [] ∧ r = .bool (decide (SV s)) := by
  have bad : ¬ SV s → Value.bool false = .bool (decide (SV s)) := fun h => by rw [decide_eq_false h]
  refine Tri.intro (hf := Try.func51) (hb := rfl) (hn := Try.ntmps51) (Nat.le_of_ble_eq_true rfl) ?_
  try refine go ⟨?_⟩
  refine WPL.eff (OpE.box rfl) rfl rfl ?_; rintro _ _ ⟨b1, rfl, rfl⟩
  try refine go ⟨?_⟩
  by_cases c1 : ((s.P.length : Nat) : Int) < 1
  · rw [decide_eq_true c1]
    try refine go ⟨?_⟩
    refine PE.ret1 (T := []) (T' := []) rfl rV ?_ sT
    exact ⟨rfl, bad fun h => by have := h.pos; omega⟩
  rw [decide_eq_false c1]
  try refine go ⟨?_⟩
  by_cases c2 : 16 < ((s.P.length : Nat) : Int)
  · rw [decide_eq_true c2]
    try refine go ⟨?_⟩
    refine PE.ret1 (T := []) (T' := []) rfl rV ?_ sT
    exact ⟨rfl, bad fun h => by have := h.le; omega⟩
  rw [decide_eq_false c2]
  try refine go ⟨?_⟩
  by_cases c3 : 100 < ((s.S.length : Nat) : Int)
  · rw [decide_eq_true c3]
    try refine go ⟨?_⟩
    refine PE.ret1 (T := []) (T' := []) rfl rV ?_ sT
    exact ⟨rfl, bad fun h => by have := h.inv.cs; omega⟩
  rw [decide_eq_false c3]
  try refine go ⟨?_⟩
  refine WPL.eff (OpE.call lO (fun w hw => s_New _ s.P.length (by omega))) rfl rfl ?_
  rintro r _ ⟨T, ⟨a1, a2, a3, rfl, rfl⟩, rfl⟩
  try refine go ⟨?_⟩
  refine WPL.eff OpE.alloc rfl rfl ?_; rintro _ _ ⟨b4, rfl, rfl⟩
  try refine go ⟨?_⟩
  refine WP.loop (σ := Nat × Value × Value × Value × SS) (fun q => [(1, ptrV b1), (2, .bool false), (3, .int .i64 s.P.length), (4, ptrV b4), (5, .int .i64 q.1)])
    (fun q => [Tok.blk b4 [q.2.1, q.2.2.1, q.2.2.2.1], Tok.own q.2.1 q.2.2.2.2.P, Tok.own q.2.2.1 q.2.2.2.2.Z, Tok.own q.2.2.2.1 q.2.2.2.2.S, Tok.blk b1 [vP, vZ, vS]]) (fun q => q.1 ≤ s.S.length ∧ repl s.P.length (s.S.take q.1) = some q.2.2.2.2) (fun q => s.S.length - q.1) (0, a1, a2, a3, newS s.P.length) ⟨Nat.zero_le _, rfl⟩ sE sT2 ?_
  rintro ⟨k, a1, a2, a3, x⟩ ⟨hk, hr⟩
  dsimp only at hk hr ⊢
  try refine go ⟨?_⟩
  refine WP.condD rfl (fun hc => ?_) (fun hc => ?_)
  · have hk' : k < s.S.length := by omega
    obtain ⟨hv, hp, hxs⟩ := repl_SV hr (by omega) (by omega)
    have hi := hv.inv
    have hxl : x.S.length = k := by rw [hxs, List.length_take]; omega
    have e0 : repl s.P.length (s.S.take (k + 1)) = repo (some x) (s.S.getD k eD) := by rw [take_succD eD hk', repl_snoc, hr]
    have bad2 : ¬ stOk x (s.S.getD k eD) → Value.bool false = .bool (decide (SV s)) := fun h => bad (not_SV_of (k := k + 1) (by rw [e0, repo_bad h]))
    obtain ⟨t, ht⟩ : ∃ t, t = s.S.getD k eD := ⟨_, rfl⟩
    rw [← ht] at bad2 e0
    have htA : (s.S.getD k (Enc.d : E)).A = t.A := by rw [ht]; rfl
    have htB : (s.S.getD k (Enc.d : E)).B = t.B := by rw [ht]; rfl
    try refine go ⟨?_⟩
    rw [htA, htB]
    refine WP.cutK (σ := Int) (fun a => [(1, ptrV b1), (2, .bool false), (3, .int .i64 s.P.length), (4, ptrV b4), (5, .int .i64 k), (6, .int .i64 a), (7, .int .i64 t.B)]) (fun a => [Tok.blk b4 [a1, a2, a3], Tok.own a1 x.P, Tok.own a2 x.Z, Tok.own a3 x.S, Tok.blk b1 [vP, vZ, vS]]) (fun a => a = if t.A < 0 then t.B else t.A) ?_ ?_
    · refine WP.condD rfl (fun hA => ?_) (fun hA => ?_)
      · have hA : t.A < 0 := hA
        try refine go ⟨?_⟩
        refine PE.mid t.B (by rw [if_pos hA]) sE sT2
      · have hA : ¬ t.A < 0 := hA
        try refine go ⟨?_⟩
        refine PE.mid t.A (by rw [if_neg hA]) sE sT2
    rintro a ha
    have hiff := step_iff hi (by omega) ha
    rw [hp] at hiff
    try refine go ⟨?_⟩
    by_cases c4 : a < 0
    · rw [decide_eq_true c4]
      try refine go ⟨?_⟩
      refine PE.ret1 (T := []) (T' := []) rfl rV ?_ sT
      exact ⟨rfl, bad2 fun h => by have := (hiff.1 h).1.1; omega⟩
    rw [decide_eq_false c4]
    try refine go ⟨?_⟩
    by_cases c5 : ((s.P.length : Nat) : Int) ≤ a
    · rw [decide_eq_true c5]
      try refine go ⟨?_⟩
      refine PE.ret1 (T := []) (T' := []) rfl rV ?_ sT
      exact ⟨rfl, bad2 fun h => by have := (hiff.1 h).1.2; omega⟩
    rw [decide_eq_false c5]
    try refine go ⟨?_⟩
    by_cases c6 : t.B < 0
    · rw [decide_eq_true c6]
      try refine go ⟨?_⟩
      refine PE.ret1 (T := []) (T' := []) rfl rV ?_ sT
      exact ⟨rfl, bad2 fun h => by have := (hiff.1 h).2.1.1; omega⟩
    rw [decide_eq_false c6]
    try refine go ⟨?_⟩
    by_cases c7 : ((s.P.length : Nat) : Int) ≤ t.B
    · rw [decide_eq_true c7]
      try refine go ⟨?_⟩
      refine PE.ret1 (T := []) (T' := []) rfl rV ?_ sT
      exact ⟨rfl, bad2 fun h => by have := (hiff.1 h).2.1.2; omega⟩
    rw [decide_eq_false c7]
    have hna : Nd s.P.length a := ⟨by omega, by omega⟩
    have hnB : Nd s.P.length t.B := ⟨by omega, by omega⟩
    have hna' : Nd x.P.length a := by rw [hp]; exact hna
    have hnB' : Nd x.P.length t.B := by rw [hp]; exact hnB
    try refine go ⟨?_⟩
    refine WPL.eff (OpE.call lO (fun w hw => s_Root _ a1 a2 a3 x.P.length x (lb x) t.B (Rd.at rD hw) (Rd.at rD hw) (Rd.at rD hw) hi hv.le hnB')) rfl rfl ?_
    rintro r _ ⟨T, ⟨rfl, rfl⟩, rfl⟩
    try refine go ⟨?_⟩
    by_cases c8 : (lb x).getD t.B.toNat 0 ≠ t.B
    · rw [decide_eq_true c8]
      try refine go ⟨?_⟩
      refine PE.ret1 (T := []) (T' := []) rfl rV ?_ sT
      exact ⟨rfl, bad2 fun h => c8 (hiff.1 h).2.2.1⟩
    rw [decide_eq_false c8]
    try refine go ⟨?_⟩
    refine WPL.eff (OpE.call lO (fun w hw => s_Unite _ a1 a2 a3 x a t.B (Rd.at rD hw) (Rd.at rD hw) (Rd.at rD hw) hi hv.le hna' hnB')) rfl rfl ?_
    rintro r _ ⟨T, ⟨d1, d2, d3, rfl, rfl⟩, rfl⟩
    try refine go ⟨?_⟩
    have hul := uni_len x a t.B
    have hug := uni_last (x := a) (y := t.B) hxl
    refine WP.draw [Tok.blk b4 [d1, d2, d3], Tok.blk b1 [vP, vZ, vS], Tok.own d3 (uni x a t.B).S] mixed ?_
    refine WPD.take 0 rfl (by first | exact (Op1.fieldAddr rfl) | exact (Op1.fieldAddrE rfl rD lT)) rfl rfl sT kR kR kR xQP ?_
    refine WPD.take 2 rfl (Op1.move rfl) rfl rfl sT kR kR kR xQP ?_
    refine WPD.take 5 rfl (by first | exact (Op1.fieldAddr rfl) | exact (Op1.fieldAddrE rfl rD lT)) rfl rfl sT kR kR kR xQP ?_
    refine WPD.take 7 rfl (Op1.move rfl) rfl rfl sT kR kR kR xQP ?_
    refine WPD.take 1 rfl (by first | exact (Op1.load rfl mM (by rfl)) | exact (Op1.loadI rfl rD lT) | exact (Op1.loadAll rfl mM (by rfl)) | exact (Op1.loadE rfl rD lT (by rfl)) | exact (Op1.loadEAgg rfl rD lT (by rfl))) rfl rfl sT kR kR kR xQP ?_
    refine WPD.take 6 rfl (by first | exact (Op1.load rfl mM (by rfl)) | exact (Op1.loadI rfl rD lT) | exact (Op1.loadAll rfl mM (by rfl)) | exact (Op1.loadE rfl rD lT (by rfl)) | exact (Op1.loadEAgg rfl rD lT (by rfl))) rfl rfl sT kR kR kR xQP ?_
    refine WPD.take 3 rfl (by first | exact (Op1.indexAddr rfl rfl rD lT) | exact (Op1.indexAddrZ rfl rfl rD lT)) rfl rfl sT kR kR kR xQP ?_
    refine WPD.take 8 rfl (by first | exact (Op1.indexAddr rfl rfl rD lT) | exact (Op1.indexAddrZ rfl rfl rD lT)) rfl rfl sT kR kR kR xQP ?_
    refine WPD.take 4 rfl (by first | exact (Op1.load rfl mM (by rfl)) | exact (Op1.loadI rfl rD lT) | exact (Op1.loadAll rfl mM (by rfl)) | exact (Op1.loadE rfl rD lT (by rfl)) | exact (Op1.loadEAgg rfl rD lT (by rfl))) rfl rfl sT kR kR kR xQP ?_
    refine WPD.take 9 rfl (by first | exact (Op1.load rfl mM (by rfl)) | exact (Op1.loadI rfl rD lT) | exact (Op1.loadAll rfl mM (by rfl)) | exact (Op1.loadE rfl rD lT (by rfl)) | exact (Op1.loadEAgg rfl rD lT (by rfl))) rfl rfl sT kR kR kR xQP ?_
    refine WPD.take 10 rfl (by first | exact (Op1.neI rfl rfl) | exact (Op1.neB rfl rfl) | exact (Op1.neE rfl rfl)) rfl rfl sT kR kR kR xQP ?_
    refine WPD.done kR ?_
    try refine go ⟨?_⟩
    refine WP.condD rfl (fun c9 => ?_) (fun c9 => ?_)
    · have c9 : (uni x a t.B).S.getD k eD ≠ s.S.getD k eD := c9
      try refine go ⟨?_⟩
      refine PE.ret1 (T := []) (T' := []) rfl rV ?_ sT
      exact ⟨rfl, bad2 fun h => c9 (by rw [hug, (hiff.1 h).2.2.2, ht])⟩
    · have c9 : ¬ (uni x a t.B).S.getD k eD ≠ s.S.getD k eD := c9
      have e5 : unS x a t.B = t := by rw [← hug]; exact (Decidable.not_not.1 c9).trans ht.symm
      have hok : stOk x t := hiff.2 ⟨hna, hnB, Decidable.not_not.1 c8, e5⟩
      try refine go ⟨?_⟩
      refine PE.again (k + 1, d1, d2, d3, uni x a t.B) ?_ ?_ sE sT2
      · refine ⟨hk', ?_⟩
        dsimp only
        rw [e0, repo_some hok]; unfold uni; rw [e5]
      · (try dsimp only); omega
  · have hkn : k = s.S.length := by omega
    subst hkn
    rw [List.take_length] at hr
    obtain ⟨hv, hp, hxs⟩ := repl_SV hr (by omega) (by omega)
    have hz := hv.inv.lz
    try refine go ⟨?_⟩
    refine WPL.eff (OpE.call lO (fun w hw => s_Same _ a1 a2 a3 vP vZ vS x s (Rd.at rD hw) (Rd.at rD hw) (Rd.at rD hw) (Rd.at rD hw) (Rd.at rD hw) (Rd.at rD hw) (by omega) (by omega) (by rw [hxs]; omega) l1 l2 l3)) rfl rfl ?_
    rintro r _ ⟨T, ⟨rfl, rfl⟩, rfl⟩
    try refine go ⟨?_⟩
    refine PE.ret1 (T := []) (T' := []) rfl rV ?_ sT
    refine ⟨rfl, ?_⟩
    congr 1; rw [decide_eq_decide]
    exact ⟨fun h => h ▸ hv, fun h => by have := h.eqv; rw [hr] at this; simpa using this⟩
end Go.Proofs.Ythlgbeakcobeoaa
/- Sets: the walks of the second program's NewSets, FindRoot, UniteSets, MembersOf, SetsOf. Conditions: those of each contract. -/
namespace Go.Proofs.Ythlgbeakcobeoaa
open Go
theorem EL_iff {s : SS} {x : Int} : EL s x ↔ SV s ∧ 0 ≤ x ∧ x < s.P.length := Iff.rfl
set_option linter.unusedVariables false set_option linter.unusedSimpArgs false attribute [local irreducible] Tok.own Tok.blk RL Rd eptr WP WPL PE WPD WPO Op1 OpE Tri Again Mid Exit.then Exit.inBlock bodyPost RP Code.wp wpList isOwn OneM One
attribute [local irreducible] SV RPok EL
set_option maxHeartbeats 8000000

theorem s_NewS (w : World) (n : Int) : Tri Try.prog 41 [.int .i64 n] w [] fun r T =>
    ∃ a b c, r = .tuple #[setV a b c, .bool (decide (1 ≤ n ∧ n ≤ 16))] ∧ T = [Tok.own a (nsS n).P, Tok.own b (nsS n).Z, Tok.own c (nsS n).S] := by
  have bad : ¬ (1 ≤ n ∧ n ≤ 16) → decide (1 ≤ n ∧ n ≤ 16) = false ∧ nsS n = noSS := fun h => ⟨decide_eq_false h, if_neg h⟩
  refine Tri.intro (hf := Try.func41) (hb := rfl) (hn := Try.ntmps41) (Nat.le_of_ble_eq_true rfl) ?_
  try refine go ⟨?_⟩
  refine WPL.eff OpE.alloc rfl rfl ?_; rintro _ _ ⟨b, rfl, rfl⟩
  try refine go ⟨?_⟩
  by_cases h1 : n < 1
  · obtain ⟨q1, q2⟩ := bad (by omega)
    rw [decide_eq_true h1]
    try refine go ⟨?_⟩
    refine PE.nilTok E ?_
    refine PE.nilTok Int ?_
    refine PE.nilTok Int ?_
    refine PE.ret2 (T := []) (T' := [Tok.own (.slice none 0 0) ([] : List Int), Tok.own (.slice none 0 0) ([] : List Int), Tok.own (.slice none 0 0) ([] : List E)]) rfl rV ?_ sT2
    exact ⟨_, _, _, by rw [q1]; rfl, by rw [q2]; rfl⟩
  rw [decide_eq_false h1]
  try refine go ⟨?_⟩
  by_cases h2 : 16 < n
  · obtain ⟨q1, q2⟩ := bad (by omega)
    rw [decide_eq_true h2]
    try refine go ⟨?_⟩
    refine PE.nilTok E ?_
    refine PE.nilTok Int ?_
    refine PE.nilTok Int ?_
    refine PE.ret2 (T := []) (T' := [Tok.own (.slice none 0 0) ([] : List Int), Tok.own (.slice none 0 0) ([] : List Int), Tok.own (.slice none 0 0) ([] : List E)]) rfl rV ?_ sT2
    exact ⟨_, _, _, by rw [q1]; rfl, by rw [q2]; rfl⟩
  rw [decide_eq_false h2]
  obtain ⟨m, rfl⟩ := Int.eq_ofNat_of_zero_le (show 0 ≤ n by omega)
  have hn : (1 : Int) ≤ (m : Int) ∧ (m : Int) ≤ 16 := ⟨by omega, by omega⟩
  try refine go ⟨?_⟩
  refine WPL.eff (OpE.call lO (fun w hw => s_New _ m (by omega))) rfl rfl ?_
  rintro r _ ⟨T, ⟨a, b', c, rfl, rfl⟩, rfl⟩
  try refine go ⟨?_⟩
  refine PE.ret2 (T := []) (T' := [Tok.own a (newS m).P, Tok.own b' (newS m).Z, Tok.own c (newS m).S]) rfl rV ?_ sT2
  exact ⟨a, b', c, by rw [decide_eq_true hn]; rfl, by rw [nsS_yes hn, Int.toNat_natCast]⟩

theorem s_FindRoot (w : World) (vP vZ vS : Value) (s : SS) (x : Int) (hP : RL w vP s.P) (hZ : RL w vZ s.Z) (hS : RL w vS s.S) (l1 : s.P.length ≤ 1099511627776) (l2 : s.Z.length ≤ 1099511627776) (l3 : s.S.length ≤ 1099511627776) :
    Tri Try.prog 47 [setV vP vZ vS, .int .i64 x] w [] fun r T => T = [] ∧ r = .tuple #[.int .i64 (if EL s x then (lb s).getD x.toNat 0 else 0), .bool (decide (EL s x))] := by
  refine Tri.intro (hf := Try.func47) (hb := rfl) (hn := Try.ntmps47) (Nat.le_of_ble_eq_true rfl) ?_
  try refine go ⟨?_⟩
  refine WPL.eff (OpE.box rfl) rfl rfl ?_; rintro _ _ ⟨b, rfl, rfl⟩
  try refine go ⟨?_⟩
  refine WPL.eff (OpE.call lO (fun w hw => s_SetsValid _ vP vZ vS s (Rd.at rD hw) (Rd.at rD hw) (Rd.at rD hw) l1 l2 l3)) rfl rfl ?_
  rintro r _ ⟨T, ⟨rfl, rfl⟩, rfl⟩
  by_cases h : EL s x
  · have h' := EL_iff.1 h
    rw [decide_eq_true h, if_pos h, decide_eq_true h'.1]
    try refine go ⟨?_⟩
    rw [decide_eq_false (show ¬ x < 0 by omega)]
    try refine go ⟨?_⟩
    rw [decide_eq_false (show ¬ ((s.P.length : Nat) : Int) ≤ x by omega)]
    try refine go ⟨?_⟩
    refine WPL.eff (OpE.call lO (fun w hw => s_Root _ vP vZ vS s.P.length s (lb s) x (Rd.at rD hw) (Rd.at rD hw) (Rd.at rD hw) h.sv.inv h.sv.le h.nd)) rfl rfl ?_
    rintro r _ ⟨T, ⟨rfl, rfl⟩, rfl⟩
    try refine go ⟨?_⟩
    refine PE.ret2 (T := []) (T' := []) rfl rV ?_ sT
    exact ⟨rfl, rfl⟩
  · rw [decide_eq_false h, if_neg h]
    rw [EL_iff] at h
    by_cases c1 : SV s
    · rw [decide_eq_true c1]
      try refine go ⟨?_⟩
      by_cases c2 : x < 0
      · rw [decide_eq_true c2]
        try refine go ⟨?_⟩
        refine PE.ret2 (T := []) (T' := []) rfl rV ?_ sT
        exact ⟨rfl, rfl⟩
      rw [decide_eq_false c2]
      try refine go ⟨?_⟩
      rw [decide_eq_true (show ((s.P.length : Nat) : Int) ≤ x by rcases Int.lt_or_le x ((s.P.length : Nat) : Int) with q | q; exact absurd ⟨c1, by omega, q⟩ h; exact q)]
      try refine go ⟨?_⟩
      refine PE.ret2 (T := []) (T' := []) rfl rV ?_ sT
      exact ⟨rfl, rfl⟩
    · rw [decide_eq_false c1]
      try refine go ⟨?_⟩
      refine PE.ret2 (T := []) (T' := []) rfl rV ?_ sT
      exact ⟨rfl, rfl⟩

theorem s_UniteSets (w : World) (vP vZ vS : Value) (s : SS) (x y : Int) (hP : RL w vP s.P) (hZ : RL w vZ s.Z) (hS : RL w vS s.S) (l1 : s.P.length ≤ 1099511627776) (l2 : s.Z.length ≤ 1099511627776) (l3 : s.S.length ≤ 1099511627776) :
    Tri Try.prog 56 [setV vP vZ vS, .int .i64 x, .int .i64 y] w [] fun r T => ∃ a b c, r = .tuple #[setV a b c, .bool (decide (UNok s x y))] ∧ T = [Tok.own a (uniR s x y).P, Tok.own b (uniR s x y).Z, Tok.own c (uniR s x y).S] := by
  have bad : ¬ UNok s x y → decide (UNok s x y) = false ∧ uniR s x y = noSS := fun h => ⟨decide_eq_false h, if_neg h⟩
  have hUN : UNok s x y ↔ SV s ∧ (0 ≤ x ∧ x < s.P.length) ∧ (0 ≤ y ∧ y < s.P.length) ∧ s.S.length ≠ 100 := by
    unfold UNok; rw [EL_iff, EL_iff]
    exact ⟨fun h => ⟨h.1.1, h.1.2, h.2.1.2, h.2.2⟩, fun h => ⟨⟨h.1, h.2.1⟩, ⟨h.1, h.2.2.1⟩, h.2.2.2⟩⟩
  refine Tri.intro (hf := Try.func56) (hb := rfl) (hn := Try.ntmps56) (Nat.le_of_ble_eq_true rfl) ?_
  try refine go ⟨?_⟩
  refine WPL.eff (OpE.box rfl) rfl rfl ?_; rintro _ _ ⟨b, rfl, rfl⟩
  refine WPL.eff OpE.alloc rfl rfl ?_; rintro _ _ ⟨b6, rfl, rfl⟩
  try refine go ⟨?_⟩
  refine WPL.eff (OpE.call lO (fun w hw => s_SetsValid _ vP vZ vS s (Rd.at rD hw) (Rd.at rD hw) (Rd.at rD hw) l1 l2 l3)) rfl rfl ?_
  rintro r _ ⟨T, ⟨rfl, rfl⟩, rfl⟩
  by_cases c0 : SV s
  case neg =>
    obtain ⟨q1, q2⟩ := bad fun h => c0 (hUN.1 h).1
    rw [decide_eq_false c0]
    try refine go ⟨?_⟩
    refine PE.nilTok E ?_
    refine PE.nilTok Int ?_
    refine PE.nilTok Int ?_
    refine PE.ret2 (T := []) (T' := [Tok.own (.slice none 0 0) ([] : List Int), Tok.own (.slice none 0 0) ([] : List Int), Tok.own (.slice none 0 0) ([] : List E)]) rfl rV ?_ sT2
    exact ⟨_, _, _, by rw [q1]; rfl, by rw [q2]; rfl⟩
  rw [decide_eq_true c0]
  try refine go ⟨?_⟩
  have hcs := c0.inv.cs
  by_cases c1 : x < 0
  case pos =>
    obtain ⟨q1, q2⟩ := bad fun h => by have := (hUN.1 h).2.1.1; omega
    rw [decide_eq_true c1]
    try refine go ⟨?_⟩
    refine PE.nilTok E ?_
    refine PE.nilTok Int ?_
    refine PE.nilTok Int ?_
    refine PE.ret2 (T := []) (T' := [Tok.own (.slice none 0 0) ([] : List Int), Tok.own (.slice none 0 0) ([] : List Int), Tok.own (.slice none 0 0) ([] : List E)]) rfl rV ?_ sT2
    exact ⟨_, _, _, by rw [q1]; rfl, by rw [q2]; rfl⟩
  rw [decide_eq_false c1]
  try refine go ⟨?_⟩
  by_cases c2 : ((s.P.length : Nat) : Int) ≤ x
  case pos =>
    obtain ⟨q1, q2⟩ := bad fun h => by have := (hUN.1 h).2.1.2; omega
    rw [decide_eq_true c2]
    try refine go ⟨?_⟩
    refine PE.nilTok E ?_
    refine PE.nilTok Int ?_
    refine PE.nilTok Int ?_
    refine PE.ret2 (T := []) (T' := [Tok.own (.slice none 0 0) ([] : List Int), Tok.own (.slice none 0 0) ([] : List Int), Tok.own (.slice none 0 0) ([] : List E)]) rfl rV ?_ sT2
    exact ⟨_, _, _, by rw [q1]; rfl, by rw [q2]; rfl⟩
  rw [decide_eq_false c2]
  try refine go ⟨?_⟩
  by_cases c3 : y < 0
  case pos =>
    obtain ⟨q1, q2⟩ := bad fun h => by have := (hUN.1 h).2.2.1.1; omega
    rw [decide_eq_true c3]
    try refine go ⟨?_⟩
    refine PE.nilTok E ?_
    refine PE.nilTok Int ?_
    refine PE.nilTok Int ?_
    refine PE.ret2 (T := []) (T' := [Tok.own (.slice none 0 0) ([] : List Int), Tok.own (.slice none 0 0) ([] : List Int), Tok.own (.slice none 0 0) ([] : List E)]) rfl rV ?_ sT2
    exact ⟨_, _, _, by rw [q1]; rfl, by rw [q2]; rfl⟩
  rw [decide_eq_false c3]
  try refine go ⟨?_⟩
  by_cases c4 : ((s.P.length : Nat) : Int) ≤ y
  case pos =>
    obtain ⟨q1, q2⟩ := bad fun h => by have := (hUN.1 h).2.2.1.2; omega
    rw [decide_eq_true c4]
    try refine go ⟨?_⟩
    refine PE.nilTok E ?_
    refine PE.nilTok Int ?_
    refine PE.nilTok Int ?_
    refine PE.ret2 (T := []) (T' := [Tok.own (.slice none 0 0) ([] : List Int), Tok.own (.slice none 0 0) ([] : List Int), Tok.own (.slice none 0 0) ([] : List E)]) rfl rV ?_ sT2
    exact ⟨_, _, _, by rw [q1]; rfl, by rw [q2]; rfl⟩
  rw [decide_eq_false c4]
  try refine go ⟨?_⟩
  by_cases c5 : (100 : Int) ≤ ((s.S.length : Nat) : Int)
  case pos =>
    obtain ⟨q1, q2⟩ := bad fun h => by have := (hUN.1 h).2.2.2; omega
    rw [decide_eq_true c5]
    try refine go ⟨?_⟩
    refine PE.nilTok E ?_
    refine PE.nilTok Int ?_
    refine PE.nilTok Int ?_
    refine PE.ret2 (T := []) (T' := [Tok.own (.slice none 0 0) ([] : List Int), Tok.own (.slice none 0 0) ([] : List Int), Tok.own (.slice none 0 0) ([] : List E)]) rfl rV ?_ sT2
    exact ⟨_, _, _, by rw [q1]; rfl, by rw [q2]; rfl⟩
  rw [decide_eq_false c5]
  have hu : UNok s x y := hUN.2 ⟨c0, by omega, by omega, by omega⟩
  have q2 : uniR s x y = uni s x y := if_pos hu
  have hnx : Nd s.P.length x := ⟨by omega, by omega⟩
  have hny : Nd s.P.length y := ⟨by omega, by omega⟩
  try refine go ⟨?_⟩
  refine WPL.eff (OpE.call lO (fun w hw => s_Unite _ vP vZ vS s x y (Rd.at rD hw) (Rd.at rD hw) (Rd.at rD hw) c0.inv c0.le hnx hny)) rfl rfl ?_
  rintro r _ ⟨T, ⟨a, b', c, rfl, rfl⟩, rfl⟩
  try refine go ⟨?_⟩
  refine PE.ret2 (T := []) (T' := [Tok.own a (uni s x y).P, Tok.own b' (uni s x y).Z, Tok.own c (uni s x y).S]) rfl rV ?_ sT2
  exact ⟨a, b', c, by rw [decide_eq_true hu]; rfl, by rw [q2]⟩

theorem s_Of (w : World) (n : Int) (vE : Value) (es : List E) (hE : RL w vE es) (hn : 1 ≤ n ∧ n ≤ 16) (hok : okE n es) (hl : es.length ≤ 100) :
    Tri Try.prog 109 [.agg #[.int .i64 n, vE]] w [] fun r T => ∃ a b c, r = setV a b c ∧ T = [Tok.own a (ofS n.toNat es).P, Tok.own b (ofS n.toNat es).Z, Tok.own c (ofS n.toNat es).S] := by
  obtain ⟨m, rfl⟩ := Int.eq_ofNat_of_zero_le (show 0 ≤ n by omega)
  rw [Int.toNat_natCast]
  refine Tri.intro (hf := Try.func109) (hb := rfl) (hn := Try.ntmps109) (Nat.le_of_ble_eq_true rfl) ?_
  try refine go ⟨?_⟩
  refine WPL.eff (OpE.box rfl) rfl rfl ?_; rintro _ _ ⟨b1, rfl, rfl⟩
  refine WPL.eff OpE.alloc rfl rfl ?_; rintro _ _ ⟨b2, rfl, rfl⟩
  try refine go ⟨?_⟩
  refine WPL.eff (OpE.call lO (fun w hw => s_New _ m (by omega))) rfl rfl ?_
  rintro r _ ⟨T, ⟨a1, a2, a3, rfl, rfl⟩, rfl⟩
  try refine go ⟨?_⟩
  refine WPL.eff OpE.alloc rfl rfl ?_; rintro _ _ ⟨b3, rfl, rfl⟩
  try refine go ⟨?_⟩
  refine WP.loop (σ := Nat × Value × Value × Value) (fun q => [(1, ptrV b1), (2, ptrV b2), (3, ptrV b3), (4, .int .i64 q.1)])
    (fun q => [Tok.blk b3 [q.2.1, q.2.2.1, q.2.2.2], Tok.own q.2.1 (ofS m (es.take q.1)).P, Tok.own q.2.2.1 (ofS m (es.take q.1)).Z, Tok.own q.2.2.2 (ofS m (es.take q.1)).S, Tok.blk b1 [.int .i64 m, vE], Tok.blk b2 [.slice none 0 0, .slice none 0 0, .slice none 0 0]]) (fun q => q.1 ≤ es.length) (fun q => es.length - q.1) (0, a1, a2, a3) (Nat.zero_le _) sE sT2 ?_
  rintro ⟨k, a1, a2, a3⟩ hk
  dsimp only at hk ⊢
  have htk : (es.take k).length ≤ es.length := take_le es k
  obtain ⟨i1, i2, i3, _⟩ := ofS_spec (n := m) (by omega) (by omega) (es.take k) (hok.sub fun f hf => List.mem_of_mem_take hf) (by omega)
  try refine go ⟨?_⟩
  refine WP.condD rfl (fun hc => ?_) (fun hc => ?_)
  · have hk' : k < es.length := by omega
    have he := hok _ (getD_memI (d := eD) hk')
    rw [← i2] at he
    have e1 := ofS_take (n := m) hk'
    try refine go ⟨?_⟩
    refine WP.draw [Tok.blk b1 [.int .i64 m, vE], Tok.blk b2 [.slice none 0 0, .slice none 0 0, .slice none 0 0], Tok.own a1 (ofS m (es.take k)).P, Tok.own a2 (ofS m (es.take k)).Z, Tok.own a3 (ofS m (es.take k)).S] mixed ?_
    refine WPD.take 1 rfl (by first | exact (Op1.fieldAddr rfl) | exact (Op1.fieldAddrE rfl rD lT)) rfl rfl sT kR kR kR xQP ?_
    refine WPD.take 3 rfl (Op1.move rfl) rfl rfl sT kR kR kR xQP ?_
    refine WPD.take 7 rfl (by first | exact (Op1.fieldAddr rfl) | exact (Op1.fieldAddrE rfl rD lT)) rfl rfl sT kR kR kR xQP ?_
    refine WPD.take 9 rfl (Op1.move rfl) rfl rfl sT kR kR kR xQP ?_
    refine WPD.take 2 rfl (by first | exact (Op1.load rfl mM (by rfl)) | exact (Op1.loadI rfl rD lT) | exact (Op1.loadAll rfl mM (by rfl)) | exact (Op1.loadE rfl rD lT (by rfl)) | exact (Op1.loadEAgg rfl rD lT (by rfl))) rfl rfl sT kR kR kR xQP ?_
    refine WPD.take 8 rfl (by first | exact (Op1.load rfl mM (by rfl)) | exact (Op1.loadI rfl rD lT) | exact (Op1.loadAll rfl mM (by rfl)) | exact (Op1.loadE rfl rD lT (by rfl)) | exact (Op1.loadEAgg rfl rD lT (by rfl))) rfl rfl sT kR kR kR xQP ?_
    refine WPD.take 4 rfl (by first | exact (Op1.indexAddr rfl rfl rD lT) | exact (Op1.indexAddrZ rfl rfl rD lT)) rfl rfl sT kR kR kR xQP ?_
    refine WPD.take 10 rfl (by first | exact (Op1.indexAddr rfl rfl rD lT) | exact (Op1.indexAddrZ rfl rfl rD lT)) rfl rfl sT kR kR kR xQP ?_
    refine WPD.take 5 rfl (by first | exact (Op1.fieldAddr rfl) | exact (Op1.fieldAddrE rfl rD lT)) rfl rfl sT kR kR kR xQP ?_
    refine WPD.take 11 rfl (by first | exact (Op1.fieldAddr rfl) | exact (Op1.fieldAddrE rfl rD lT)) rfl rfl sT kR kR kR xQP ?_
    refine WPD.take 6 rfl (by first | exact (Op1.load rfl mM (by rfl)) | exact (Op1.loadI rfl rD lT) | exact (Op1.loadAll rfl mM (by rfl)) | exact (Op1.loadE rfl rD lT (by rfl)) | exact (Op1.loadEAgg rfl rD lT (by rfl))) rfl rfl sT kR kR kR xQP ?_
    refine WPD.take 12 rfl (by first | exact (Op1.load rfl mM (by rfl)) | exact (Op1.loadI rfl rD lT) | exact (Op1.loadAll rfl mM (by rfl)) | exact (Op1.loadE rfl rD lT (by rfl)) | exact (Op1.loadEAgg rfl rD lT (by rfl))) rfl rfl sT kR kR kR xQP ?_
    refine WPD.eff 0 kR rfl (OpE.ofPure (by first | exact (Op1.load rfl mM (by rfl)) | exact (Op1.loadI rfl rD lT) | exact (Op1.loadAll rfl mM (by rfl)) | exact (Op1.loadE rfl rD lT (by rfl)) | exact (Op1.loadEAgg rfl rD lT (by rfl)))) rfl rfl ?_
    rintro _ _ ⟨rfl, rfl⟩
    refine ⟨sT, ?_⟩
    refine WPD.eff 13 kR rfl (OpE.call lO (fun w hw => s_Unite _ a1 a2 a3 (ofS m (es.take k)) (es.getD k eD).A (es.getD k eD).B (Rd.at rD hw) (Rd.at rD hw) (Rd.at rD hw) i1.inv i1.le he.1 he.2)) rfl rfl ?_
    rintro r _ ⟨T, ⟨d1, d2, d3, rfl, rfl⟩, rfl⟩
    refine ⟨sT, ?_⟩
    refine WPD.eff0 14 kR rfl (OpE.storeAll rfl rfl pM (by rfl) (by rfl) oN) rfl ?_
    rintro _ _ rfl
    refine ⟨sT, ?_⟩
    refine WPD.done kR ?_
    all_goals (
      rw [← e1]
      try refine go ⟨?_⟩
      refine PE.again (k + 1, d1, d2, d3) ?_ ?_ sE sT2
      · (try dsimp only); omega
      · (try dsimp only); omega)
  · have hkn : k = es.length := by omega
    subst hkn
    rw [List.take_length]
    try refine go ⟨?_⟩
    refine PE.ret1 (T := []) (T' := [Tok.own a1 (ofS m es).P, Tok.own a2 (ofS m es).Z, Tok.own a3 (ofS m es).S]) rfl rV ?_ sT2
    exact ⟨a1, a2, a3, rfl, rfl⟩

theorem s_SetsOf (w : World) (n : Int) (vE : Value) (es : List E) (hE : RL w vE es) (hl : es.length ≤ 1099511627776) :
    Tri Try.prog 64 [.agg #[.int .i64 n, vE]] w [] fun r T => ∃ a b c, r = .tuple #[setV a b c, .bool (decide (GV n es))] ∧ T = [Tok.own a (ofR n es).P, Tok.own b (ofR n es).Z, Tok.own c (ofR n es).S] := by
  refine Tri.intro (hf := Try.func64) (hb := rfl) (hn := Try.ntmps64) (Nat.le_of_ble_eq_true rfl) ?_
  try refine go ⟨?_⟩
  refine WPL.eff (OpE.box rfl) rfl rfl ?_; rintro _ _ ⟨b1, rfl, rfl⟩
  refine WPL.eff OpE.alloc rfl rfl ?_; rintro _ _ ⟨b2, rfl, rfl⟩
  try refine go ⟨?_⟩
  refine WPL.eff (OpE.call lO (fun w hw => s_GraphValid _ n vE es (Rd.at rD hw) hl)) rfl rfl ?_
  rintro r _ ⟨T, ⟨rfl, rfl⟩, rfl⟩
  by_cases hg : GV n es
  case neg =>
    have q2 : ofR n es = noSS := if_neg hg
    rw [decide_eq_false hg, q2]
    try refine go ⟨?_⟩
    refine PE.nilTok E ?_
    refine PE.nilTok Int ?_
    refine PE.nilTok Int ?_
    refine PE.ret2 (T := []) (T' := [Tok.own (.slice none 0 0) ([] : List Int), Tok.own (.slice none 0 0) ([] : List Int), Tok.own (.slice none 0 0) ([] : List E)]) rfl rV ?_ sT2
    exact ⟨_, _, _, rfl, rfl⟩
  have q2 : ofR n es = ofS n.toNat es := if_pos hg
  rw [decide_eq_true hg, q2]
  have hle : es.length ≤ 40 := hg.2.2.1
  try refine go ⟨?_⟩
  refine WPL.eff (OpE.call lO (fun w hw => s_Of _ n vE es (Rd.at rD hw) ⟨hg.1, hg.2.1⟩ hg.okE (by omega))) rfl rfl ?_
  rintro r _ ⟨T, ⟨a, b', c, rfl, rfl⟩, rfl⟩
  try refine go ⟨?_⟩
  refine PE.ret2 (T := []) (T' := [Tok.own a (ofS n.toNat es).P, Tok.own b' (ofS n.toNat es).Z, Tok.own c (ofS n.toNat es).S]) rfl rV ?_ sT2
  exact ⟨a, b', c, rfl, rfl⟩

theorem s_MembersOf (w : World) (vP vZ vS : Value) (s : SS) (x : Int) (hP : RL w vP s.P) (hZ : RL w vZ s.Z) (hS : RL w vS s.S) (l1 : s.P.length ≤ 1099511627776) (l2 : s.Z.length ≤ 1099511627776) (l3 : s.S.length ≤ 1099511627776) :
    Tri Try.prog 57 [setV vP vZ vS, .int .i64 x] w [] fun r T => ∃ v, r = .tuple #[v, .bool (decide (EL s x))] ∧ T = [Tok.own v (if EL s x then mem s x else [])] := by
  refine Tri.intro (hf := Try.func57) (hb := rfl) (hn := Try.ntmps57) (Nat.le_of_ble_eq_true rfl) ?_
  try refine go ⟨?_⟩
  refine WPL.eff (OpE.box rfl) rfl rfl ?_; rintro _ _ ⟨b, rfl, rfl⟩
  try refine go ⟨?_⟩
  refine WPL.eff (OpE.buildSlice ([] : List Int) pA rfl (by decide)) rfl rfl ?_; rintro v0 _ rfl
  try refine go ⟨?_⟩
  refine WPL.eff (OpE.call lO (fun w hw => s_SetsValid _ vP vZ vS s (Rd.at rD hw) (Rd.at rD hw) (Rd.at rD hw) l1 l2 l3)) rfl rfl ?_
  rintro r _ ⟨T, ⟨rfl, rfl⟩, rfl⟩
  by_cases h : EL s x
  · have h' := EL_iff.1 h
    rw [decide_eq_true h, if_pos h, decide_eq_true h'.1]
    have hle := h.sv.le
    have hi := h.sv.inv
    have hnd := h.nd
    obtain ⟨n, hn⟩ : ∃ n, n = s.P.length := ⟨_, rfl⟩
    have hmem : mem s x = ((iota n).take n).filter (fun y => decide ((lb s).getD y.toNat 0 = (lb s).getD x.toNat 0)) := by
      have := List.take_length (l := iota n)
      rw [iota_length] at this
      rw [this, hn]; rfl
    try refine go ⟨?_⟩
    rw [decide_eq_false (show ¬ x < 0 by omega)]
    try refine go ⟨?_⟩
    rw [decide_eq_false (show ¬ ((s.P.length : Nat) : Int) ≤ x by omega)]
    try refine go ⟨?_⟩
    refine WP.loop (σ := Nat × Value) (fun q => [(1, .int .i64 x), (2, .pointer (some ⟨b, 0, none⟩)), (6, q.2), (7, .int .i64 q.1)]) (fun q => [Tok.own q.2 (((iota n).take q.1).filter (fun y => decide ((lb s).getD y.toNat 0 = (lb s).getD x.toNat 0))), Tok.blk b [vP, vZ, vS]]) (fun q => q.1 ≤ n) (fun q => n - q.1) (0, v0) (Nat.zero_le _) sE sT2 ?_
    rintro ⟨k, v⟩ hk
    dsimp only at hk ⊢
    try refine go ⟨?_⟩
    refine WP.condD rfl (fun hc => ?_) (fun hc => ?_)
    · have hk' : k < n := by omega
      have hkd : Nd s.P.length (k : Int) := ⟨by omega, hc⟩
      have hfl := filt_le (iota n) k (fun y => decide ((lb s).getD y.toNat 0 = (lb s).getD x.toNat 0))
      rw [iota_length] at hfl
      have hmt := mbs_take (n := n) (L := lb s) (r := (lb s).getD x.toNat 0) hk'
      try refine go ⟨?_⟩
      refine WP.draw [Tok.own v (((iota n).take k).filter (fun y => decide ((lb s).getD y.toNat 0 = (lb s).getD x.toNat 0))), Tok.blk b [vP, vZ, vS]] mixed ?_
      refine WPD.take 0 rfl (by first | exact (Op1.load rfl mM (by rfl)) | exact (Op1.loadI rfl rD lT) | exact (Op1.loadAll rfl mM (by rfl)) | exact (Op1.loadE rfl rD lT (by rfl)) | exact (Op1.loadEAgg rfl rD lT (by rfl))) rfl rfl sT kR kR kR xQP ?_
      refine WPD.take 1 rfl (Op1.move rfl) rfl rfl sT kR kR kR xQP ?_
      refine WPD.take 3 rfl (by first | exact (Op1.load rfl mM (by rfl)) | exact (Op1.loadI rfl rD lT) | exact (Op1.loadAll rfl mM (by rfl)) | exact (Op1.loadE rfl rD lT (by rfl)) | exact (Op1.loadEAgg rfl rD lT (by rfl))) rfl rfl sT kR kR kR xQP ?_
      refine WPD.take 4 rfl (Op1.move rfl) rfl rfl sT kR kR kR xQP ?_
      refine WPD.eff 2 kR rfl (OpE.call lO (fun w hw => s_Root _ vP vZ vS s.P.length s (lb s) k (Rd.at rD hw) (Rd.at rD hw) (Rd.at rD hw) hi hle hkd)) rfl rfl ?_
      rintro r _ ⟨T, ⟨rfl, rfl⟩, rfl⟩
      refine ⟨sT, ?_⟩
      refine WPD.eff 5 kR rfl (OpE.call lO (fun w hw => s_Root _ vP vZ vS s.P.length s (lb s) x (Rd.at rD hw) (Rd.at rD hw) (Rd.at rD hw) hi hle hnd)) rfl rfl ?_
      rintro r _ ⟨T, ⟨rfl, rfl⟩, rfl⟩
      refine ⟨sT, ?_⟩
      refine WPD.take 6 rfl (by first | exact (Op1.eqI rfl rfl) | exact (Op1.eqB rfl rfl) | exact (Op1.eqE rfl rfl) | exact (Op1.eqNil rfl rD)) rfl rfl sT kR kR kR xQP ?_
      refine WPD.done kR ?_
      rw [Int.toNat_natCast]
      try refine go ⟨?_⟩
      refine WP.condD rfl (fun he => ?_) (fun he => ?_)
      · rw [if_pos he] at hmt
        try refine go ⟨?_⟩
        refine WPL.eff (OpE.buildSlice [(k : Int)] pA rfl (by decide)) rfl rfl ?_; rintro s1 _ rfl
        try refine go ⟨?_⟩
        refine WPL.eff (OpE.append rfl rfl pM rD lN) rfl rfl ?_; rintro v1 _ rfl
        try refine go ⟨?_⟩
        rw [← hmt]
        refine PE.again (k + 1, v1) ?_ ?_ sE sT2
        · (try dsimp only); omega
        · (try dsimp only); omega
      · rw [if_neg he] at hmt
        try refine go ⟨?_⟩
        rw [← hmt]
        refine PE.again (k + 1, v) ?_ ?_ sE sT2
        · (try dsimp only); omega
        · (try dsimp only); omega
    · have hkn : k = n := by omega
      subst hkn
      try refine go ⟨?_⟩
      refine PE.ret2 (T := []) (T' := [Tok.own v (((iota k).take k).filter (fun y => decide ((lb s).getD y.toNat 0 = (lb s).getD x.toNat 0)))]) rfl rV ?_ sT2
      exact ⟨v, rfl, by rw [hmem]⟩
  · rw [decide_eq_false h, if_neg h]
    rw [EL_iff] at h
    by_cases c1 : SV s
    · rw [decide_eq_true c1]
      try refine go ⟨?_⟩
      by_cases c2 : x < 0
      · rw [decide_eq_true c2]
        try refine go ⟨?_⟩
        refine PE.ret2 (T := []) (T' := [Tok.own v0 ([] : List Int)]) rfl rV ?_ sT2
        exact ⟨v0, rfl, rfl⟩
      rw [decide_eq_false c2]
      try refine go ⟨?_⟩
      rw [decide_eq_true (show ((s.P.length : Nat) : Int) ≤ x by rcases Int.lt_or_le x ((s.P.length : Nat) : Int) with q | q; exact absurd ⟨c1, by omega, q⟩ h; exact q)]
      try refine go ⟨?_⟩
      refine PE.ret2 (T := []) (T' := [Tok.own v0 ([] : List Int)]) rfl rV ?_ sT2
      exact ⟨v0, rfl, rfl⟩
    · rw [decide_eq_false c1]
      try refine go ⟨?_⟩
      refine PE.ret2 (T := []) (T' := [Tok.own v0 ([] : List Int)]) rfl rV ?_ sT2
      exact ⟨v0, rfl, rfl⟩
end Go.Proofs.Ythlgbeakcobeoaa
