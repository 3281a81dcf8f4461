/- Texts put together: SpS0. Conditions: those of each theorem. -/
import Derived.Test.YtfigegmgopnfhaaV12
set_option linter.unusedVariables false
set_option linter.unusedSimpArgs false
/- Sets: the walks of the second program's l3New, l3Root, l3Copy, l3Unite. Conditions: those of each contract. -/
namespace Go.Proofs.Ytfigegmgopnfhaa
open Go
theorem rep_snoc (k : Nat) (x : Int) : List.replicate k x ++ [x] = List.replicate (k + 1) x := List.replicate_succ'.symm
set_option linter.unusedVariables false set_option linter.unusedSimpArgs false attribute [local irreducible] Tok.own Tok.blk RL Rd eptr WP WPL PE WPD WPO Op1 OpE Tri Again Mid Exit.then Exit.inBlock bodyPost RP Code.wp wpList isOwn OneM One
attribute [local irreducible] SV RPok EL
set_option maxHeartbeats 8000000

theorem s_New (w : World) (n : Nat) (hn : n ≤ 1000) : Tri Try.prog 75 [.int .i64 n] w [] fun r T => ∃ a b c, r = setV a b c ∧ T = [Tok.own a (newS n).P, Tok.own b (newS n).Z, Tok.own c (newS n).S] := by
  refine Tri.intro (hf := Try.func75) (hb := rfl) (hn := Try.ntmps75) (Nat.le_of_ble_eq_true rfl) ?_
  try refine go ⟨?_⟩
  refine WPL.eff OpE.alloc rfl rfl ?_; rintro _ _ ⟨b2, rfl, rfl⟩
  try refine go ⟨?_⟩
  refine WPL.eff OpE.alloc rfl rfl ?_; rintro _ _ ⟨b3, rfl, rfl⟩
  try refine go ⟨?_⟩
  refine WP.nilTok E ?_
  refine WP.nilTok Int ?_
  refine WP.nilTok Int ?_
  refine WP.loop (σ := Nat × Value × Value) (fun q => [(0, .int .i64 n), (2, ptrV b2), (3, ptrV b3), (4, .int .i64 q.1)]) (fun q => [Tok.blk b3 [q.2.1, q.2.2, .slice none 0 0], Tok.own q.2.1 (List.replicate q.1 (-1 : Int)), Tok.own q.2.2 (List.replicate q.1 (1 : Int)), Tok.own (.slice none 0 0) ([] : List E), Tok.blk b2 [.slice none 0 0, .slice none 0 0, .slice none 0 0]]) (fun q => q.1 ≤ n) (fun q => n - q.1) (0, .slice none 0 0, .slice none 0 0) (Nat.zero_le _) sE sT2 ?_
  rintro ⟨k, vP, vZ⟩ hk
  dsimp only at hk ⊢
  have l1 : (List.replicate k (-1 : Int)).length = k := List.length_replicate
  have l2 : (List.replicate k (1 : Int)).length = k := List.length_replicate
  try refine go ⟨?_⟩
  refine WP.condD rfl (fun hc => ?_) (fun hc => ?_)
  · try refine go ⟨?_⟩
    refine WPL.eff (OpE.buildSlice [(-1 : Int)] pA rfl (by decide)) rfl rfl ?_; rintro s1 _ rfl
    try refine go ⟨?_⟩
    refine WPL.eff (OpE.append rfl rfl pM rD lN) rfl rfl ?_; rintro v1 _ rfl
    rw [rep_snoc]
    try refine go ⟨?_⟩
    refine WPL.eff (OpE.buildSlice [(1 : Int)] pA rfl (by decide)) rfl rfl ?_; rintro s2 _ rfl
    try refine go ⟨?_⟩
    refine WPL.eff (OpE.append rfl rfl pM rD lN) rfl rfl ?_; rintro v2 _ rfl
    rw [rep_snoc]
    try refine go ⟨?_⟩
    refine PE.again (k + 1, v1, v2) ?_ ?_ sE sT2
    · (try dsimp only); omega
    · (try dsimp only); omega
  · have hkn : k = n := by omega
    subst hkn
    try refine go ⟨?_⟩
    refine PE.ret1 (T := []) (T' := [Tok.own vP (List.replicate k (-1 : Int)), Tok.own vZ (List.replicate k (1 : Int)), Tok.own (.slice none 0 0) ([] : List E)]) rfl rV ?_ sT2
    exact ⟨vP, vZ, _, rfl, rfl⟩

theorem s_Root (w : World) (vP vZ vS : Value) (n : Nat) (s : SS) (L : List Int) (x : Int) (hP : RL w vP s.P) (hZ : RL w vZ s.Z) (hS : RL w vS s.S) (hi : Inv n s L) (hn : n ≤ 16) (hx : Nd n x) :
    Tri Try.prog 128 [setV vP vZ vS, .int .i64 x] w [] fun r T => T = [] ∧ r = .int .i64 (L.getD x.toNat 0) := by
  have hlp := hi.lp
  refine Tri.intro (hf := Try.func128) (hb := rfl) (hn := Try.ntmps128) (Nat.le_of_ble_eq_true rfl) ?_
  try refine go ⟨?_⟩
  refine WPL.eff (OpE.box rfl) rfl rfl ?_; rintro _ _ ⟨b, rfl, rfl⟩
  try refine go ⟨?_⟩
  refine WP.loop (σ := Nat) (fun y => [(1, .int .i64 y), (2, .pointer (some ⟨b, 0, none⟩))]) (fun _ => [Tok.blk b [vP, vZ, vS]]) (fun y => y < n ∧ L.getD y 0 = L.getD x.toNat 0) (fun y => 20 - (s.Z.getD y 0).toNat) x.toNat ⟨by unfold Nd at hx; omega, rfl⟩ ?_ ?_ ?_
  · rw [Int.toNat_of_nonneg hx.1]; exact sE
  · exact sT2
  rintro y ⟨hy, hL⟩
  have hzy := hi.zb y hy
  try refine go ⟨?_⟩
  refine WP.condD rfl (fun hc => ?_) (fun hc => ?_)
  · obtain ⟨h1, h2, h3, h4⟩ := hi.up y hy (by omega)
    have hz2 := hi.zb (s.P.getD y 0).toNat (by have := h1.1; have := h1.2; omega)
    try refine go ⟨?_⟩
    refine PE.again (s.P.getD y 0).toNat ?_ ?_ ?_ sT2
    · exact ⟨by have := h1.1; have := h1.2; omega, h2.symm.trans hL⟩
    · (try dsimp only); omega
    · rw [Int.toNat_of_nonneg h1.1]; exact sE
  · have hr : L.getD y 0 = y := by
      by_cases hp : s.P.getD y 0 = -1
      · exact (hi.rt y hy hp).1
      · have := (hi.up y hy hp).1.1; omega
    try refine go ⟨?_⟩
    refine PE.ret1 (T := []) (T' := []) rfl rV ?_ sT
    exact ⟨rfl, by rw [← hL, hr]⟩

theorem s_Copy (w : World) (vP vZ vS : Value) (s : SS) (hP : RL w vP s.P) (hZ : RL w vZ s.Z) (hS : RL w vS s.S) (l1 : s.P.length ≤ 1000) (l2 : s.Z.length ≤ 1000) (l3 : s.S.length ≤ 1000) :
    Tri Try.prog 154 [setV vP vZ vS] w [] fun r T => ∃ a b c, r = setV a b c ∧ T = [Tok.own a s.P, Tok.own b s.Z, Tok.own c s.S] := by
  refine Tri.intro (hf := Try.func154) (hb := rfl) (hn := Try.ntmps154) (Nat.le_of_ble_eq_true rfl) ?_
  try refine go ⟨?_⟩
  refine WPL.eff (OpE.box rfl) rfl rfl ?_; rintro _ _ ⟨b, rfl, rfl⟩
  refine WPL.eff OpE.alloc rfl rfl ?_; rintro _ _ ⟨b2, rfl, rfl⟩
  try refine go ⟨?_⟩
  refine WP.draw [Tok.blk b [vP, vZ, vS]] mixed ?_
  refine WPD.take 1 rfl (by first | exact (Op1.fieldAddr rfl) | exact (Op1.fieldAddrE rfl rD lT)) rfl rfl sT kR kR kR xQP ?_
  refine WPD.take 5 rfl (by first | exact (Op1.fieldAddr rfl) | exact (Op1.fieldAddrE rfl rD lT)) rfl rfl sT kR kR kR xQP ?_
  refine WPD.take 9 rfl (by first | exact (Op1.fieldAddr rfl) | exact (Op1.fieldAddrE rfl rD lT)) rfl rfl sT kR kR kR xQP ?_
  refine WPD.take 2 rfl (by first | exact (Op1.load rfl mM (by rfl)) | exact (Op1.loadI rfl rD lT) | exact (Op1.loadAll rfl mM (by rfl)) | exact (Op1.loadE rfl rD lT (by rfl)) | exact (Op1.loadEAgg rfl rD lT (by rfl))) rfl rfl sT kR kR kR xQP ?_
  refine WPD.take 6 rfl (by first | exact (Op1.load rfl mM (by rfl)) | exact (Op1.loadI rfl rD lT) | exact (Op1.loadAll rfl mM (by rfl)) | exact (Op1.loadE rfl rD lT (by rfl)) | exact (Op1.loadEAgg rfl rD lT (by rfl))) rfl rfl sT kR kR kR xQP ?_
  refine WPD.take 10 rfl (by first | exact (Op1.load rfl mM (by rfl)) | exact (Op1.loadI rfl rD lT) | exact (Op1.loadAll rfl mM (by rfl)) | exact (Op1.loadE rfl rD lT (by rfl)) | exact (Op1.loadEAgg rfl rD lT (by rfl))) rfl rfl sT kR kR kR xQP ?_
  refine WPD.three 0 4 8 kR ?e8_0 ?e8_4 ?e8_8
  case' e8_0 =>
    refine WPO.eff rfl (OpE.buildSlice (([] : List Int)) pA rfl (by decide)) rfl rfl ?_
    rintro s1 _ rfl
    refine ⟨sT, ?_⟩
    refine WPD.three 3 4 8 kR ?e9_3 ?e9_4 ?e9_8
    case' e9_3 =>
      refine WPO.eff rfl (OpE.append rfl rfl pM rD lN) rfl rfl ?_
      rintro v1 _ rfl
      refine ⟨sT, ?_⟩
      refine WPD.two 4 8 kR ?e10_4 ?e10_8
      case' e10_4 =>
        refine WPO.eff rfl (OpE.buildSlice (([] : List Int)) pA rfl (by decide)) rfl rfl ?_
        rintro s2 _ rfl
        refine ⟨sT, ?_⟩
        refine WPD.two 7 8 kR ?e11_7 ?e11_8
        case' e11_7 =>
          refine WPO.eff rfl (OpE.append rfl rfl pM rD lN) rfl rfl ?_
          rintro v2 _ rfl
          refine ⟨sT, ?_⟩
          refine WPD.eff 8 kR rfl (OpE.buildSlice (([] : List E)) pA rfl (by decide)) rfl rfl ?_
          rintro s3 _ rfl
          refine ⟨sT, ?_⟩
          refine WPD.eff 11 kR rfl (OpE.append rfl rfl pM rD lN) rfl rfl ?_
          rintro v3 _ rfl
          refine ⟨sT, ?_⟩
          refine WPD.eff 12 kR rfl (OpE.ofPure (Op1.build xBP (by rfl))) rfl rfl ?_
          rintro _ _ ⟨rfl, rfl⟩
          refine ⟨sT, ?_⟩
          refine WPD.eff0 13 kR rfl (OpE.storeAll rfl rfl pM (by rfl) (by rfl) oN) rfl ?_
          rintro _ _ rfl
          refine ⟨sT, ?_⟩
          refine WPD.done kR ?_
        case' e11_8 =>
          refine WPO.eff rfl (OpE.buildSlice (([] : List E)) pA rfl (by decide)) rfl rfl ?_
          rintro s3 _ rfl
          refine ⟨sT, ?_⟩
          refine WPD.eff 7 kR rfl (OpE.append rfl rfl pM rD lN) rfl rfl ?_
          rintro v2 _ rfl
          refine ⟨sT, ?_⟩
          refine WPD.eff 11 kR rfl (OpE.append rfl rfl pM rD lN) rfl rfl ?_
          rintro v3 _ rfl
          refine ⟨sT, ?_⟩
          refine WPD.eff 12 kR rfl (OpE.ofPure (Op1.build xBP (by rfl))) rfl rfl ?_
          rintro _ _ ⟨rfl, rfl⟩
          refine ⟨sT, ?_⟩
          refine WPD.eff0 13 kR rfl (OpE.storeAll rfl rfl pM (by rfl) (by rfl) oN) rfl ?_
          rintro _ _ rfl
          refine ⟨sT, ?_⟩
          refine WPD.done kR ?_
      case' e10_8 =>
        refine WPO.eff rfl (OpE.buildSlice (([] : List E)) pA rfl (by decide)) rfl rfl ?_
        rintro s3 _ rfl
        refine ⟨sT, ?_⟩
        refine WPD.eff 4 kR rfl (OpE.buildSlice (([] : List Int)) pA rfl (by decide)) rfl rfl ?_
        rintro s2 _ rfl
        refine ⟨sT, ?_⟩
        refine WPD.eff 7 kR rfl (OpE.append rfl rfl pM rD lN) rfl rfl ?_
        rintro v2 _ rfl
        refine ⟨sT, ?_⟩
        refine WPD.eff 11 kR rfl (OpE.append rfl rfl pM rD lN) rfl rfl ?_
        rintro v3 _ rfl
        refine ⟨sT, ?_⟩
        refine WPD.eff 12 kR rfl (OpE.ofPure (Op1.build xBP (by rfl))) rfl rfl ?_
        rintro _ _ ⟨rfl, rfl⟩
        refine ⟨sT, ?_⟩
        refine WPD.eff0 13 kR rfl (OpE.storeAll rfl rfl pM (by rfl) (by rfl) oN) rfl ?_
        rintro _ _ rfl
        refine ⟨sT, ?_⟩
        refine WPD.done kR ?_
    case' e9_4 =>
      refine WPO.eff rfl (OpE.buildSlice (([] : List Int)) pA rfl (by decide)) rfl rfl ?_
      rintro s2 _ rfl
      refine ⟨sT, ?_⟩
      refine WPD.two 3 8 kR ?e12_3 ?e12_8
      case' e12_3 =>
        refine WPO.eff rfl (OpE.append rfl rfl pM rD lN) rfl rfl ?_
        rintro v1 _ rfl
        refine ⟨sT, ?_⟩
        refine WPD.two 7 8 kR ?e13_7 ?e13_8
        case' e13_7 =>
          refine WPO.eff rfl (OpE.append rfl rfl pM rD lN) rfl rfl ?_
          rintro v2 _ rfl
          refine ⟨sT, ?_⟩
          refine WPD.eff 8 kR rfl (OpE.buildSlice (([] : List E)) pA rfl (by decide)) rfl rfl ?_
          rintro s3 _ rfl
          refine ⟨sT, ?_⟩
          refine WPD.eff 11 kR rfl (OpE.append rfl rfl pM rD lN) rfl rfl ?_
          rintro v3 _ rfl
          refine ⟨sT, ?_⟩
          refine WPD.eff 12 kR rfl (OpE.ofPure (Op1.build xBP (by rfl))) rfl rfl ?_
          rintro _ _ ⟨rfl, rfl⟩
          refine ⟨sT, ?_⟩
          refine WPD.eff0 13 kR rfl (OpE.storeAll rfl rfl pM (by rfl) (by rfl) oN) rfl ?_
          rintro _ _ rfl
          refine ⟨sT, ?_⟩
          refine WPD.done kR ?_
        case' e13_8 =>
          refine WPO.eff rfl (OpE.buildSlice (([] : List E)) pA rfl (by decide)) rfl rfl ?_
          rintro s3 _ rfl
          refine ⟨sT, ?_⟩
          refine WPD.eff 7 kR rfl (OpE.append rfl rfl pM rD lN) rfl rfl ?_
          rintro v2 _ rfl
          refine ⟨sT, ?_⟩
          refine WPD.eff 11 kR rfl (OpE.append rfl rfl pM rD lN) rfl rfl ?_
          rintro v3 _ rfl
          refine ⟨sT, ?_⟩
          refine WPD.eff 12 kR rfl (OpE.ofPure (Op1.build xBP (by rfl))) rfl rfl ?_
          rintro _ _ ⟨rfl, rfl⟩
          refine ⟨sT, ?_⟩
          refine WPD.eff0 13 kR rfl (OpE.storeAll rfl rfl pM (by rfl) (by rfl) oN) rfl ?_
          rintro _ _ rfl
          refine ⟨sT, ?_⟩
          refine WPD.done kR ?_
      case' e12_8 =>
        refine WPO.eff rfl (OpE.buildSlice (([] : List E)) pA rfl (by decide)) rfl rfl ?_
        rintro s3 _ rfl
        refine ⟨sT, ?_⟩
        refine WPD.eff 3 kR rfl (OpE.append rfl rfl pM rD lN) rfl rfl ?_
        rintro v1 _ rfl
        refine ⟨sT, ?_⟩
        refine WPD.eff 7 kR rfl (OpE.append rfl rfl pM rD lN) rfl rfl ?_
        rintro v2 _ rfl
        refine ⟨sT, ?_⟩
        refine WPD.eff 11 kR rfl (OpE.append rfl rfl pM rD lN) rfl rfl ?_
        rintro v3 _ rfl
        refine ⟨sT, ?_⟩
        refine WPD.eff 12 kR rfl (OpE.ofPure (Op1.build xBP (by rfl))) rfl rfl ?_
        rintro _ _ ⟨rfl, rfl⟩
        refine ⟨sT, ?_⟩
        refine WPD.eff0 13 kR rfl (OpE.storeAll rfl rfl pM (by rfl) (by rfl) oN) rfl ?_
        rintro _ _ rfl
        refine ⟨sT, ?_⟩
        refine WPD.done kR ?_
    case' e9_8 =>
      refine WPO.eff rfl (OpE.buildSlice (([] : List E)) pA rfl (by decide)) rfl rfl ?_
      rintro s3 _ rfl
      refine ⟨sT, ?_⟩
      refine WPD.two 3 4 kR ?e14_3 ?e14_4
      case' e14_3 =>
        refine WPO.eff rfl (OpE.append rfl rfl pM rD lN) rfl rfl ?_
        rintro v1 _ rfl
        refine ⟨sT, ?_⟩
        refine WPD.eff 4 kR rfl (OpE.buildSlice (([] : List Int)) pA rfl (by decide)) rfl rfl ?_
        rintro s2 _ rfl
        refine ⟨sT, ?_⟩
        refine WPD.eff 7 kR rfl (OpE.append rfl rfl pM rD lN) rfl rfl ?_
        rintro v2 _ rfl
        refine ⟨sT, ?_⟩
        refine WPD.eff 11 kR rfl (OpE.append rfl rfl pM rD lN) rfl rfl ?_
        rintro v3 _ rfl
        refine ⟨sT, ?_⟩
        refine WPD.eff 12 kR rfl (OpE.ofPure (Op1.build xBP (by rfl))) rfl rfl ?_
        rintro _ _ ⟨rfl, rfl⟩
        refine ⟨sT, ?_⟩
        refine WPD.eff0 13 kR rfl (OpE.storeAll rfl rfl pM (by rfl) (by rfl) oN) rfl ?_
        rintro _ _ rfl
        refine ⟨sT, ?_⟩
        refine WPD.done kR ?_
      case' e14_4 =>
        refine WPO.eff rfl (OpE.buildSlice (([] : List Int)) pA rfl (by decide)) rfl rfl ?_
        rintro s2 _ rfl
        refine ⟨sT, ?_⟩
        refine WPD.eff 3 kR rfl (OpE.append rfl rfl pM rD lN) rfl rfl ?_
        rintro v1 _ rfl
        refine ⟨sT, ?_⟩
        refine WPD.eff 7 kR rfl (OpE.append rfl rfl pM rD lN) rfl rfl ?_
        rintro v2 _ rfl
        refine ⟨sT, ?_⟩
        refine WPD.eff 11 kR rfl (OpE.append rfl rfl pM rD lN) rfl rfl ?_
        rintro v3 _ rfl
        refine ⟨sT, ?_⟩
        refine WPD.eff 12 kR rfl (OpE.ofPure (Op1.build xBP (by rfl))) rfl rfl ?_
        rintro _ _ ⟨rfl, rfl⟩
        refine ⟨sT, ?_⟩
        refine WPD.eff0 13 kR rfl (OpE.storeAll rfl rfl pM (by rfl) (by rfl) oN) rfl ?_
        rintro _ _ rfl
        refine ⟨sT, ?_⟩
        refine WPD.done kR ?_
  case' e8_4 =>
    refine WPO.eff rfl (OpE.buildSlice (([] : List Int)) pA rfl (by decide)) rfl rfl ?_
    rintro s2 _ rfl
    refine ⟨sT, ?_⟩
    refine WPD.two 0 8 kR ?e15_0 ?e15_8
    case' e15_0 =>
      refine WPO.eff rfl (OpE.buildSlice (([] : List Int)) pA rfl (by decide)) rfl rfl ?_
      rintro s1 _ rfl
      refine ⟨sT, ?_⟩
      refine WPD.two 3 8 kR ?e16_3 ?e16_8
      case' e16_3 =>
        refine WPO.eff rfl (OpE.append rfl rfl pM rD lN) rfl rfl ?_
        rintro v1 _ rfl
        refine ⟨sT, ?_⟩
        refine WPD.two 7 8 kR ?e17_7 ?e17_8
        case' e17_7 =>
          refine WPO.eff rfl (OpE.append rfl rfl pM rD lN) rfl rfl ?_
          rintro v2 _ rfl
          refine ⟨sT, ?_⟩
          refine WPD.eff 8 kR rfl (OpE.buildSlice (([] : List E)) pA rfl (by decide)) rfl rfl ?_
          rintro s3 _ rfl
          refine ⟨sT, ?_⟩
          refine WPD.eff 11 kR rfl (OpE.append rfl rfl pM rD lN) rfl rfl ?_
          rintro v3 _ rfl
          refine ⟨sT, ?_⟩
          refine WPD.eff 12 kR rfl (OpE.ofPure (Op1.build xBP (by rfl))) rfl rfl ?_
          rintro _ _ ⟨rfl, rfl⟩
          refine ⟨sT, ?_⟩
          refine WPD.eff0 13 kR rfl (OpE.storeAll rfl rfl pM (by rfl) (by rfl) oN) rfl ?_
          rintro _ _ rfl
          refine ⟨sT, ?_⟩
          refine WPD.done kR ?_
        case' e17_8 =>
          refine WPO.eff rfl (OpE.buildSlice (([] : List E)) pA rfl (by decide)) rfl rfl ?_
          rintro s3 _ rfl
          refine ⟨sT, ?_⟩
          refine WPD.eff 7 kR rfl (OpE.append rfl rfl pM rD lN) rfl rfl ?_
          rintro v2 _ rfl
          refine ⟨sT, ?_⟩
          refine WPD.eff 11 kR rfl (OpE.append rfl rfl pM rD lN) rfl rfl ?_
          rintro v3 _ rfl
          refine ⟨sT, ?_⟩
          refine WPD.eff 12 kR rfl (OpE.ofPure (Op1.build xBP (by rfl))) rfl rfl ?_
          rintro _ _ ⟨rfl, rfl⟩
          refine ⟨sT, ?_⟩
          refine WPD.eff0 13 kR rfl (OpE.storeAll rfl rfl pM (by rfl) (by rfl) oN) rfl ?_
          rintro _ _ rfl
          refine ⟨sT, ?_⟩
          refine WPD.done kR ?_
      case' e16_8 =>
        refine WPO.eff rfl (OpE.buildSlice (([] : List E)) pA rfl (by decide)) rfl rfl ?_
        rintro s3 _ rfl
        refine ⟨sT, ?_⟩
        refine WPD.eff 3 kR rfl (OpE.append rfl rfl pM rD lN) rfl rfl ?_
        rintro v1 _ rfl
        refine ⟨sT, ?_⟩
        refine WPD.eff 7 kR rfl (OpE.append rfl rfl pM rD lN) rfl rfl ?_
        rintro v2 _ rfl
        refine ⟨sT, ?_⟩
        refine WPD.eff 11 kR rfl (OpE.append rfl rfl pM rD lN) rfl rfl ?_
        rintro v3 _ rfl
        refine ⟨sT, ?_⟩
        refine WPD.eff 12 kR rfl (OpE.ofPure (Op1.build xBP (by rfl))) rfl rfl ?_
        rintro _ _ ⟨rfl, rfl⟩
        refine ⟨sT, ?_⟩
        refine WPD.eff0 13 kR rfl (OpE.storeAll rfl rfl pM (by rfl) (by rfl) oN) rfl ?_
        rintro _ _ rfl
        refine ⟨sT, ?_⟩
        refine WPD.done kR ?_
    case' e15_8 =>
      refine WPO.eff rfl (OpE.buildSlice (([] : List E)) pA rfl (by decide)) rfl rfl ?_
      rintro s3 _ rfl
      refine ⟨sT, ?_⟩
      refine WPD.eff 0 kR rfl (OpE.buildSlice (([] : List Int)) pA rfl (by decide)) rfl rfl ?_
      rintro s1 _ rfl
      refine ⟨sT, ?_⟩
      refine WPD.eff 3 kR rfl (OpE.append rfl rfl pM rD lN) rfl rfl ?_
      rintro v1 _ rfl
      refine ⟨sT, ?_⟩
      refine WPD.eff 7 kR rfl (OpE.append rfl rfl pM rD lN) rfl rfl ?_
      rintro v2 _ rfl
      refine ⟨sT, ?_⟩
      refine WPD.eff 11 kR rfl (OpE.append rfl rfl pM rD lN) rfl rfl ?_
      rintro v3 _ rfl
      refine ⟨sT, ?_⟩
      refine WPD.eff 12 kR rfl (OpE.ofPure (Op1.build xBP (by rfl))) rfl rfl ?_
      rintro _ _ ⟨rfl, rfl⟩
      refine ⟨sT, ?_⟩
      refine WPD.eff0 13 kR rfl (OpE.storeAll rfl rfl pM (by rfl) (by rfl) oN) rfl ?_
      rintro _ _ rfl
      refine ⟨sT, ?_⟩
      refine WPD.done kR ?_
  case' e8_8 =>
    refine WPO.eff rfl (OpE.buildSlice (([] : List E)) pA rfl (by decide)) rfl rfl ?_
    rintro s3 _ rfl
    refine ⟨sT, ?_⟩
    refine WPD.two 0 4 kR ?e18_0 ?e18_4
    case' e18_0 =>
      refine WPO.eff rfl (OpE.buildSlice (([] : List Int)) pA rfl (by decide)) rfl rfl ?_
      rintro s1 _ rfl
      refine ⟨sT, ?_⟩
      refine WPD.two 3 4 kR ?e19_3 ?e19_4
      case' e19_3 =>
        refine WPO.eff rfl (OpE.append rfl rfl pM rD lN) rfl rfl ?_
        rintro v1 _ rfl
        refine ⟨sT, ?_⟩
        refine WPD.eff 4 kR rfl (OpE.buildSlice (([] : List Int)) pA rfl (by decide)) rfl rfl ?_
        rintro s2 _ rfl
        refine ⟨sT, ?_⟩
        refine WPD.eff 7 kR rfl (OpE.append rfl rfl pM rD lN) rfl rfl ?_
        rintro v2 _ rfl
        refine ⟨sT, ?_⟩
        refine WPD.eff 11 kR rfl (OpE.append rfl rfl pM rD lN) rfl rfl ?_
        rintro v3 _ rfl
        refine ⟨sT, ?_⟩
        refine WPD.eff 12 kR rfl (OpE.ofPure (Op1.build xBP (by rfl))) rfl rfl ?_
        rintro _ _ ⟨rfl, rfl⟩
        refine ⟨sT, ?_⟩
        refine WPD.eff0 13 kR rfl (OpE.storeAll rfl rfl pM (by rfl) (by rfl) oN) rfl ?_
        rintro _ _ rfl
        refine ⟨sT, ?_⟩
        refine WPD.done kR ?_
      case' e19_4 =>
        refine WPO.eff rfl (OpE.buildSlice (([] : List Int)) pA rfl (by decide)) rfl rfl ?_
        rintro s2 _ rfl
        refine ⟨sT, ?_⟩
        refine WPD.eff 3 kR rfl (OpE.append rfl rfl pM rD lN) rfl rfl ?_
        rintro v1 _ rfl
        refine ⟨sT, ?_⟩
        refine WPD.eff 7 kR rfl (OpE.append rfl rfl pM rD lN) rfl rfl ?_
        rintro v2 _ rfl
        refine ⟨sT, ?_⟩
        refine WPD.eff 11 kR rfl (OpE.append rfl rfl pM rD lN) rfl rfl ?_
        rintro v3 _ rfl
        refine ⟨sT, ?_⟩
        refine WPD.eff 12 kR rfl (OpE.ofPure (Op1.build xBP (by rfl))) rfl rfl ?_
        rintro _ _ ⟨rfl, rfl⟩
        refine ⟨sT, ?_⟩
        refine WPD.eff0 13 kR rfl (OpE.storeAll rfl rfl pM (by rfl) (by rfl) oN) rfl ?_
        rintro _ _ rfl
        refine ⟨sT, ?_⟩
        refine WPD.done kR ?_
    case' e18_4 =>
      refine WPO.eff rfl (OpE.buildSlice (([] : List Int)) pA rfl (by decide)) rfl rfl ?_
      rintro s2 _ rfl
      refine ⟨sT, ?_⟩
      refine WPD.eff 0 kR rfl (OpE.buildSlice (([] : List Int)) pA rfl (by decide)) rfl rfl ?_
      rintro s1 _ rfl
      refine ⟨sT, ?_⟩
      refine WPD.eff 3 kR rfl (OpE.append rfl rfl pM rD lN) rfl rfl ?_
      rintro v1 _ rfl
      refine ⟨sT, ?_⟩
      refine WPD.eff 7 kR rfl (OpE.append rfl rfl pM rD lN) rfl rfl ?_
      rintro v2 _ rfl
      refine ⟨sT, ?_⟩
      refine WPD.eff 11 kR rfl (OpE.append rfl rfl pM rD lN) rfl rfl ?_
      rintro v3 _ rfl
      refine ⟨sT, ?_⟩
      refine WPD.eff 12 kR rfl (OpE.ofPure (Op1.build xBP (by rfl))) rfl rfl ?_
      rintro _ _ ⟨rfl, rfl⟩
      refine ⟨sT, ?_⟩
      refine WPD.eff0 13 kR rfl (OpE.storeAll rfl rfl pM (by rfl) (by rfl) oN) rfl ?_
      rintro _ _ rfl
      refine ⟨sT, ?_⟩
      refine WPD.done kR ?_
  all_goals (
    try refine go ⟨?_⟩
    refine PE.ret1 (T := []) (T' := [Tok.own v1 s.P, Tok.own v2 s.Z, Tok.own v3 s.S]) rfl rV ?_ sT2
    exact ⟨v1, v2, v3, rfl, rfl⟩)

theorem s_Unite (w : World) (vP vZ vS : Value) (s : SS) (x y : Int) (hP : RL w vP s.P) (hZ : RL w vZ s.Z) (hS : RL w vS s.S) (hi : Inv s.P.length s (lb s)) (hle : s.P.length ≤ 16) (hx : Nd s.P.length x) (hy : Nd s.P.length y) :
    Tri Try.prog 127 [setV vP vZ vS, .int .i64 x, .int .i64 y] w [] fun r T => ∃ a b c, r = setV a b c ∧ T = [Tok.own a (uni s x y).P, Tok.own b (uni s x y).Z, Tok.own c (uni s x y).S] := by
  have lp := hi.lp
  have lz := hi.lz
  have hz1 := hi.z1 hle
  have hcs := hi.cs
  have rx := hi.root hx
  have ry := hi.root hy
  refine Tri.intro (hf := Try.func127) (hb := rfl) (hn := Try.ntmps127) (Nat.le_of_ble_eq_true rfl) ?_
  try refine go ⟨?_⟩
  refine WPL.eff (OpE.box rfl) rfl rfl ?_; rintro _ _ ⟨b3, rfl, rfl⟩
  refine WPL.eff OpE.alloc rfl rfl ?_; rintro _ _ ⟨b6, rfl, rfl⟩
  try refine go ⟨?_⟩
  refine WPL.eff (OpE.call lO (fun w hw => s_Copy _ vP vZ vS s (Rd.at rD hw) (Rd.at rD hw) (Rd.at rD hw) (by omega) (by omega) (by omega))) rfl rfl ?_
  rintro r _ ⟨T, ⟨a1, a2, a3, rfl, rfl⟩, rfl⟩
  try refine go ⟨?_⟩
  refine WPL.eff OpE.alloc rfl rfl ?_; rintro _ _ ⟨b7, rfl, rfl⟩
  try refine go ⟨?_⟩
  refine WPL.eff (OpE.call lO (fun w hw => s_Root _ vP vZ vS s.P.length s (lb s) x (Rd.at rD hw) (Rd.at rD hw) (Rd.at rD hw) hi hle hx)) rfl rfl ?_
  rintro r _ ⟨T, ⟨rfl, rfl⟩, rfl⟩
  try refine go ⟨?_⟩
  refine WPL.eff (OpE.call lO (fun w hw => s_Root _ vP vZ vS s.P.length s (lb s) y (Rd.at rD hw) (Rd.at rD hw) (Rd.at rD hw) hi hle hy)) rfl rfl ?_
  rintro r _ ⟨T, ⟨rfl, rfl⟩, rfl⟩
  obtain ⟨A, hA⟩ : ∃ A, A = (lb s).getD x.toNat 0 := ⟨_, rfl⟩
  obtain ⟨B, hB⟩ : ∃ B, B = (lb s).getD y.toNat 0 := ⟨_, rfl⟩
  rw [← hA] at rx
  rw [← hB] at ry
  rw [← hA, ← hB]
  by_cases e1 : A = B
  · have ht : uni s x y = ⟨s.P, s.Z, s.S ++ [⟨-1, A⟩]⟩ := by
      unfold uni; rw [unS_eq (by rw [← hA, ← hB]; exact e1), ← hA]; unfold stDo; rw [if_pos rfl]
    try refine go ⟨?_⟩
    rw [decide_eq_true e1]
    try refine go ⟨?_⟩
    refine WPL.eff (OpE.buildSlice [(⟨-1, A⟩ : E)] pA rfl (by decide)) rfl rfl ?_; rintro s1 _ rfl
    try refine go ⟨?_⟩
    refine WPL.eff (OpE.append rfl rfl pM rD lN) rfl rfl ?_; rintro v1 _ rfl
    try refine go ⟨?_⟩
    refine PE.ret1 (T := []) (T' := [Tok.own a1 s.P, Tok.own a2 s.Z, Tok.own v1 (s.S ++ [⟨-1, A⟩])]) rfl rV ?_ sT2
    exact ⟨a1, a2, v1, rfl, by rw [ht]⟩
  have rx1 := rx.1
  have rx2 := rx.2.1
  have ry1 := ry.1
  have ry2 := ry.2.1
  try refine go ⟨?_⟩
  rw [decide_eq_false e1]
  try refine go ⟨?_⟩
  refine WP.cutK (σ := Unit) (fun _ => [(6, ptrV b6), (7, ptrV b7), (8, .int .i64 A), (9, .int .i64 B), (57, .bool (decide (abv s B A)))]) (fun _ => [Tok.own a1 s.P, Tok.own a2 s.Z, Tok.own a3 s.S, Tok.blk b7 [a1, a2, a3], Tok.blk b6 [.slice none 0 0, .slice none 0 0, .slice none 0 0]]) (fun _ => True) ?_ ?_
  · refine WP.draw [Tok.blk b3 [vP, vZ, vS], Tok.own a1 s.P, Tok.own a2 s.Z, Tok.own a3 s.S, Tok.blk b7 [a1, a2, a3], Tok.blk b6 [.slice none 0 0, .slice none 0 0, .slice none 0 0]] mixed ?_
    refine WPD.take 0 rfl (by first | exact (Op1.fieldAddr rfl) | exact (Op1.fieldAddrE rfl rD lT)) rfl rfl sT kR kR kR xQP ?_
    refine WPD.take 2 rfl (Op1.move rfl) rfl rfl sT kR kR kR xQP ?_
    refine WPD.take 5 rfl (by first | exact (Op1.fieldAddr rfl) | exact (Op1.fieldAddrE rfl rD lT)) rfl rfl sT kR kR kR xQP ?_
    refine WPD.take 7 rfl (Op1.move rfl) rfl rfl sT kR kR kR xQP ?_
    refine WPD.take 1 rfl (by first | exact (Op1.load rfl mM (by rfl)) | exact (Op1.loadI rfl rD lT) | exact (Op1.loadAll rfl mM (by rfl)) | exact (Op1.loadE rfl rD lT (by rfl)) | exact (Op1.loadEAgg rfl rD lT (by rfl))) rfl rfl sT kR kR kR xQP ?_
    refine WPD.take 6 rfl (by first | exact (Op1.load rfl mM (by rfl)) | exact (Op1.loadI rfl rD lT) | exact (Op1.loadAll rfl mM (by rfl)) | exact (Op1.loadE rfl rD lT (by rfl)) | exact (Op1.loadEAgg rfl rD lT (by rfl))) rfl rfl sT kR kR kR xQP ?_
    refine WPD.take 3 rfl (by first | exact (Op1.indexAddr rfl rfl rD lT) | exact (Op1.indexAddrZ rfl rfl rD lT)) rfl rfl sT kR kR kR xQP ?_
    refine WPD.take 8 rfl (by first | exact (Op1.indexAddr rfl rfl rD lT) | exact (Op1.indexAddrZ rfl rfl rD lT)) rfl rfl sT kR kR kR xQP ?_
    refine WPD.take 4 rfl (by first | exact (Op1.load rfl mM (by rfl)) | exact (Op1.loadI rfl rD lT) | exact (Op1.loadAll rfl mM (by rfl)) | exact (Op1.loadE rfl rD lT (by rfl)) | exact (Op1.loadEAgg rfl rD lT (by rfl))) rfl rfl sT kR kR kR xQP ?_
    refine WPD.take 9 rfl (by first | exact (Op1.load rfl mM (by rfl)) | exact (Op1.loadI rfl rD lT) | exact (Op1.loadAll rfl mM (by rfl)) | exact (Op1.loadE rfl rD lT (by rfl)) | exact (Op1.loadEAgg rfl rD lT (by rfl))) rfl rfl sT kR kR kR xQP ?_
    refine WPD.take 10 rfl (Op1.ltI rfl rfl) rfl rfl sT kR kR kR xQP ?_
    refine WPD.take 11 rfl (Op1.move rfl) rfl rfl sT kR kR kR xQP ?_
    first | refine WPD.splitD 40 rfl (fun h40 => ?t20) (fun h40 => ?f20) | refine WPD.split 40 rfl (fun h40 => ?t20) (fun h40 => ?f20)
    case' t20 =>
      refine WPD.skip 12 rfl rfl rfl sT kR kR kR xQP ?_
      refine WPD.skip 14 rfl rfl rfl sT kR kR kR xQP ?_
      refine WPD.skip 17 rfl rfl rfl sT kR kR kR xQP ?_
      refine WPD.skip 19 rfl rfl rfl sT kR kR kR xQP ?_
      refine WPD.skip 13 rfl rfl rfl sT kR kR kR xQP ?_
      refine WPD.skip 18 rfl rfl rfl sT kR kR kR xQP ?_
      refine WPD.skip 15 rfl rfl rfl sT kR kR kR xQP ?_
      refine WPD.skip 20 rfl rfl rfl sT kR kR kR xQP ?_
      refine WPD.skip 16 rfl rfl rfl sT kR kR kR xQP ?_
      refine WPD.skip 21 rfl rfl rfl sT kR kR kR xQP ?_
      refine WPD.skip 22 rfl rfl rfl sT kR kR kR xQP ?_
      refine WPD.skip 23 rfl rfl rfl sT kR kR kR xQP ?_
      refine WPD.skip 24 rfl rfl rfl sT kR kR kR xQP ?_
      refine WPD.skip 25 rfl rfl rfl sT kR kR kR xQP ?_
      refine WPD.skip 26 rfl rfl rfl sT kR kR kR xQP ?_
      refine WPD.skip 27 rfl rfl rfl sT kR kR kR xQP ?_
      refine WPD.take 28 rfl (by first | exact (Op1.pickT rfl rfl) | exact (Op1.pickF rfl rfl)) rfl rfl sT kR kR kR xQP ?_
      refine WPD.done kR ?_
    case' f20 =>
      refine WPD.take 12 rfl (by first | exact (Op1.fieldAddr rfl) | exact (Op1.fieldAddrE rfl rD lT)) rfl rfl sT kR kR kR xQP ?_
      refine WPD.take 14 rfl (Op1.move rfl) rfl rfl sT kR kR kR xQP ?_
      refine WPD.take 17 rfl (by first | exact (Op1.fieldAddr rfl) | exact (Op1.fieldAddrE rfl rD lT)) rfl rfl sT kR kR kR xQP ?_
      refine WPD.take 19 rfl (Op1.move rfl) rfl rfl sT kR kR kR xQP ?_
      refine WPD.take 13 rfl (by first | exact (Op1.load rfl mM (by rfl)) | exact (Op1.loadI rfl rD lT) | exact (Op1.loadAll rfl mM (by rfl)) | exact (Op1.loadE rfl rD lT (by rfl)) | exact (Op1.loadEAgg rfl rD lT (by rfl))) rfl rfl sT kR kR kR xQP ?_
      refine WPD.take 18 rfl (by first | exact (Op1.load rfl mM (by rfl)) | exact (Op1.loadI rfl rD lT) | exact (Op1.loadAll rfl mM (by rfl)) | exact (Op1.loadE rfl rD lT (by rfl)) | exact (Op1.loadEAgg rfl rD lT (by rfl))) rfl rfl sT kR kR kR xQP ?_
      refine WPD.take 15 rfl (by first | exact (Op1.indexAddr rfl rfl rD lT) | exact (Op1.indexAddrZ rfl rfl rD lT)) rfl rfl sT kR kR kR xQP ?_
      refine WPD.take 20 rfl (by first | exact (Op1.indexAddr rfl rfl rD lT) | exact (Op1.indexAddrZ rfl rfl rD lT)) rfl rfl sT kR kR kR xQP ?_
      refine WPD.take 16 rfl (by first | exact (Op1.load rfl mM (by rfl)) | exact (Op1.loadI rfl rD lT) | exact (Op1.loadAll rfl mM (by rfl)) | exact (Op1.loadE rfl rD lT (by rfl)) | exact (Op1.loadEAgg rfl rD lT (by rfl))) rfl rfl sT kR kR kR xQP ?_
      refine WPD.take 21 rfl (by first | exact (Op1.load rfl mM (by rfl)) | exact (Op1.loadI rfl rD lT) | exact (Op1.loadAll rfl mM (by rfl)) | exact (Op1.loadE rfl rD lT (by rfl)) | exact (Op1.loadEAgg rfl rD lT (by rfl))) rfl rfl sT kR kR kR xQP ?_
      refine WPD.take 22 rfl (by first | exact (Op1.eqI rfl rfl) | exact (Op1.eqB rfl rfl) | exact (Op1.eqE rfl rfl) | exact (Op1.eqNil rfl rD)) rfl rfl sT kR kR kR xQP ?_
      refine WPD.take 23 rfl (Op1.move rfl) rfl rfl sT kR kR kR xQP ?_
      first | refine WPD.splitD 52 rfl (fun h52 => ?t21) (fun h52 => ?f21) | refine WPD.split 52 rfl (fun h52 => ?t21) (fun h52 => ?f21)
      case' t21 =>
        refine WPD.take 24 rfl (Op1.move rfl) rfl rfl sT kR kR kR xQP ?_
        refine WPD.take 25 rfl (Op1.move rfl) rfl rfl sT kR kR kR xQP ?_
        refine WPD.take 26 rfl (Op1.gtI rfl rfl) rfl rfl sT kR kR kR xQP ?_
        refine WPD.take 27 rfl (by first | exact (Op1.pickT rfl rfl) | exact (Op1.pickF rfl rfl)) rfl rfl sT kR kR kR xQP ?_
        refine WPD.take 28 rfl (by first | exact (Op1.pickT rfl rfl) | exact (Op1.pickF rfl rfl)) rfl rfl sT kR kR kR xQP ?_
        refine WPD.done kR ?_
      case' f21 =>
        refine WPD.skip 24 rfl rfl rfl sT kR kR kR xQP ?_
        refine WPD.skip 25 rfl rfl rfl sT kR kR kR xQP ?_
        refine WPD.skip 26 rfl rfl rfl sT kR kR kR xQP ?_
        refine WPD.take 27 rfl (by first | exact (Op1.pickT rfl rfl) | exact (Op1.pickF rfl rfl)) rfl rfl sT kR kR kR xQP ?_
        refine WPD.take 28 rfl (by first | exact (Op1.pickT rfl rfl) | exact (Op1.pickF rfl rfl)) rfl rfl sT kR kR kR xQP ?_
        refine WPD.done kR ?_
    · rw [decide_eq_false (show ¬ abv s B A by unfold abv; omega)]
      refine PE.mid () trivial sE sT2
    · have e : decide (B < A) = decide (abv s B A) := by rw [decide_eq_decide]; unfold abv; omega
      rw [e]
      refine PE.mid () trivial sE sT2
    · rw [decide_eq_true (show abv s B A by unfold abv; omega)]
      refine PE.mid () trivial sE sT2
  rintro _ _
  refine WP.cutK (σ := Int × Int) (fun q => [(6, ptrV b6), (7, ptrV b7), (8, .int .i64 q.1), (9, .int .i64 q.2)]) (fun q => [Tok.own a1 s.P, Tok.own a2 s.Z, Tok.own a3 s.S, Tok.blk b7 [a1, a2, a3], Tok.blk b6 [.slice none 0 0, .slice none 0 0, .slice none 0 0]]) (fun q => rtB s q.1 ∧ rtB s q.2 ∧ unS s x y = ⟨q.2, q.1⟩) ?_ ?_
  · refine WP.condD rfl (fun hba => ?_) (fun hba => ?_)
    · have ht : unS s x y = ⟨A, B⟩ := by rw [hA, hB]; exact unS_bel (by rw [← hA, ← hB]; exact e1) (by rw [← hA, ← hB]; exact abv_asymm hba)
      try refine go ⟨?_⟩
      refine PE.mid (B, A) ⟨ry, rx, ht⟩ sE sT2
    · have ht : unS s x y = ⟨B, A⟩ := by rw [hA, hB]; exact unS_abv (by rw [← hA, ← hB]; exact e1) (by rw [← hA, ← hB]; exact abv_total (Ne.symm e1) hba)
      try refine go ⟨?_⟩
      refine PE.mid (A, B) ⟨rx, ry, ht⟩ sE sT2
  · rintro ⟨C, D⟩ ⟨rc, rd, ht⟩
    dsimp only at rc rd ht ⊢
    have rc1 := rc.1
    have rc2 := rc.2.1
    have rd1 := rd.1
    have rd2 := rd.2.1
    have zC := hz1 C.toNat (by omega)
    have zD := hz1 D.toNat (by omega)
    have hu : uni s x y = ⟨s.P.set D.toNat C, s.Z.set C.toNat (s.Z.getD C.toNat 0 + s.Z.getD D.toNat 0), s.S ++ [⟨D, C⟩]⟩ := by
      unfold uni; rw [ht]; unfold stDo; rw [if_neg (show ¬ D = -1 by omega)]
    try refine go ⟨?_⟩
    refine WPL.eff0 (OpE.store1 (C) rfl rfl pM2 lT rfl) rfl ?_
    rintro _ _ rfl
    try refine go ⟨?_⟩
    refine WP.draw [Tok.own a1 (s.P.set D.toNat C), Tok.own a3 s.S, Tok.blk b7 [a1, a2, a3], Tok.blk b6 [.slice none 0 0, .slice none 0 0, .slice none 0 0]] mixed ?_
    refine WPD.take 0 rfl (by first | exact (Op1.fieldAddr rfl) | exact (Op1.fieldAddrE rfl rD lT)) rfl rfl sT kR kR kR xQP ?_
    refine WPD.take 2 rfl (Op1.move rfl) rfl rfl sT kR kR kR xQP ?_
    refine WPD.take 3 rfl (by first | exact (Op1.fieldAddr rfl) | exact (Op1.fieldAddrE rfl rD lT)) rfl rfl sT kR kR kR xQP ?_
    refine WPD.take 5 rfl (Op1.move rfl) rfl rfl sT kR kR kR xQP ?_
    refine WPD.take 8 rfl (by first | exact (Op1.fieldAddr rfl) | exact (Op1.fieldAddrE rfl rD lT)) rfl rfl sT kR kR kR xQP ?_
    refine WPD.take 10 rfl (Op1.move rfl) rfl rfl sT kR kR kR xQP ?_
    refine WPD.take 1 rfl (by first | exact (Op1.load rfl mM (by rfl)) | exact (Op1.loadI rfl rD lT) | exact (Op1.loadAll rfl mM (by rfl)) | exact (Op1.loadE rfl rD lT (by rfl)) | exact (Op1.loadEAgg rfl rD lT (by rfl))) rfl rfl sT kR kR kR xQP ?_
    refine WPD.take 4 rfl (by first | exact (Op1.load rfl mM (by rfl)) | exact (Op1.loadI rfl rD lT) | exact (Op1.loadAll rfl mM (by rfl)) | exact (Op1.loadE rfl rD lT (by rfl)) | exact (Op1.loadEAgg rfl rD lT (by rfl))) rfl rfl sT kR kR kR xQP ?_
    refine WPD.take 9 rfl (by first | exact (Op1.load rfl mM (by rfl)) | exact (Op1.loadI rfl rD lT) | exact (Op1.loadAll rfl mM (by rfl)) | exact (Op1.loadE rfl rD lT (by rfl)) | exact (Op1.loadEAgg rfl rD lT (by rfl))) rfl rfl sT kR kR kR xQP ?_
    refine WPD.two 6 11 kR ?e22_6 ?e22_11
    case' e22_6 =>
      refine WPO.eff rfl (OpE.ofPure (by first | exact (Op1.indexAddr rfl rfl rD lT) | exact (Op1.indexAddrZ rfl rfl rD lT))) rfl rfl ?_
      rintro _ _ ⟨rfl, rfl⟩
      refine ⟨sT, ?_⟩
      refine WPD.two 7 11 kR ?e23_7 ?e23_11
      case' e23_7 =>
        refine WPO.eff rfl (OpE.ofPure (by first | exact (Op1.load rfl mM (by rfl)) | exact (Op1.loadI rfl rD lT) | exact (Op1.loadAll rfl mM (by rfl)) | exact (Op1.loadE rfl rD lT (by rfl)) | exact (Op1.loadEAgg rfl rD lT (by rfl)))) rfl rfl ?_
        rintro _ _ ⟨rfl, rfl⟩
        refine ⟨sT, ?_⟩
        refine WPD.eff 11 kR rfl (OpE.ofPure (by first | exact (Op1.indexAddr rfl rfl rD lT) | exact (Op1.indexAddrZ rfl rfl rD lT))) rfl rfl ?_
        rintro _ _ ⟨rfl, rfl⟩
        refine ⟨sT, ?_⟩
        refine WPD.eff 12 kR rfl (OpE.ofPure (by first | exact (Op1.load rfl mM (by rfl)) | exact (Op1.loadI rfl rD lT) | exact (Op1.loadAll rfl mM (by rfl)) | exact (Op1.loadE rfl rD lT (by rfl)) | exact (Op1.loadEAgg rfl rD lT (by rfl)))) rfl rfl ?_
        rintro _ _ ⟨rfl, rfl⟩
        refine ⟨sT, ?_⟩
        refine WPD.take 13 rfl (Op1.add rfl rfl (by omega)) rfl rfl sT kR kR kR xQP ?_
        refine WPD.eff 14 kR rfl (OpE.ofPure (by first | exact (Op1.indexAddr rfl rfl rD lT) | exact (Op1.indexAddrZ rfl rfl rD lT))) rfl rfl ?_
        rintro _ _ ⟨rfl, rfl⟩
        refine ⟨sT, ?_⟩
        refine WPD.eff0 15 kR rfl (OpE.store1 (_) rfl rfl pM lT rfl) rfl ?_
        rintro _ _ rfl
        refine ⟨sT, ?_⟩
        refine WPD.done kR ?_
      case' e23_11 =>
        refine WPO.eff rfl (OpE.ofPure (by first | exact (Op1.indexAddr rfl rfl rD lT) | exact (Op1.indexAddrZ rfl rfl rD lT))) rfl rfl ?_
        rintro _ _ ⟨rfl, rfl⟩
        refine ⟨sT, ?_⟩
        refine WPD.two 7 12 kR ?e24_7 ?e24_12
        case' e24_7 =>
          refine WPO.eff rfl (OpE.ofPure (by first | exact (Op1.load rfl mM (by rfl)) | exact (Op1.loadI rfl rD lT) | exact (Op1.loadAll rfl mM (by rfl)) | exact (Op1.loadE rfl rD lT (by rfl)) | exact (Op1.loadEAgg rfl rD lT (by rfl)))) rfl rfl ?_
          rintro _ _ ⟨rfl, rfl⟩
          refine ⟨sT, ?_⟩
          refine WPD.eff 12 kR rfl (OpE.ofPure (by first | exact (Op1.load rfl mM (by rfl)) | exact (Op1.loadI rfl rD lT) | exact (Op1.loadAll rfl mM (by rfl)) | exact (Op1.loadE rfl rD lT (by rfl)) | exact (Op1.loadEAgg rfl rD lT (by rfl)))) rfl rfl ?_
          rintro _ _ ⟨rfl, rfl⟩
          refine ⟨sT, ?_⟩
          refine WPD.take 13 rfl (Op1.add rfl rfl (by omega)) rfl rfl sT kR kR kR xQP ?_
          refine WPD.eff 14 kR rfl (OpE.ofPure (by first | exact (Op1.indexAddr rfl rfl rD lT) | exact (Op1.indexAddrZ rfl rfl rD lT))) rfl rfl ?_
          rintro _ _ ⟨rfl, rfl⟩
          refine ⟨sT, ?_⟩
          refine WPD.eff0 15 kR rfl (OpE.store1 (_) rfl rfl pM lT rfl) rfl ?_
          rintro _ _ rfl
          refine ⟨sT, ?_⟩
          refine WPD.done kR ?_
        case' e24_12 =>
          refine WPO.eff rfl (OpE.ofPure (by first | exact (Op1.load rfl mM (by rfl)) | exact (Op1.loadI rfl rD lT) | exact (Op1.loadAll rfl mM (by rfl)) | exact (Op1.loadE rfl rD lT (by rfl)) | exact (Op1.loadEAgg rfl rD lT (by rfl)))) rfl rfl ?_
          rintro _ _ ⟨rfl, rfl⟩
          refine ⟨sT, ?_⟩
          refine WPD.eff 7 kR rfl (OpE.ofPure (by first | exact (Op1.load rfl mM (by rfl)) | exact (Op1.loadI rfl rD lT) | exact (Op1.loadAll rfl mM (by rfl)) | exact (Op1.loadE rfl rD lT (by rfl)) | exact (Op1.loadEAgg rfl rD lT (by rfl)))) rfl rfl ?_
          rintro _ _ ⟨rfl, rfl⟩
          refine ⟨sT, ?_⟩
          refine WPD.take 13 rfl (Op1.add rfl rfl (by omega)) rfl rfl sT kR kR kR xQP ?_
          refine WPD.eff 14 kR rfl (OpE.ofPure (by first | exact (Op1.indexAddr rfl rfl rD lT) | exact (Op1.indexAddrZ rfl rfl rD lT))) rfl rfl ?_
          rintro _ _ ⟨rfl, rfl⟩
          refine ⟨sT, ?_⟩
          refine WPD.eff0 15 kR rfl (OpE.store1 (_) rfl rfl pM lT rfl) rfl ?_
          rintro _ _ rfl
          refine ⟨sT, ?_⟩
          refine WPD.done kR ?_
    case' e22_11 =>
      refine WPO.eff rfl (OpE.ofPure (by first | exact (Op1.indexAddr rfl rfl rD lT) | exact (Op1.indexAddrZ rfl rfl rD lT))) rfl rfl ?_
      rintro _ _ ⟨rfl, rfl⟩
      refine ⟨sT, ?_⟩
      refine WPD.two 6 12 kR ?e25_6 ?e25_12
      case' e25_6 =>
        refine WPO.eff rfl (OpE.ofPure (by first | exact (Op1.indexAddr rfl rfl rD lT) | exact (Op1.indexAddrZ rfl rfl rD lT))) rfl rfl ?_
        rintro _ _ ⟨rfl, rfl⟩
        refine ⟨sT, ?_⟩
        refine WPD.two 7 12 kR ?e26_7 ?e26_12
        case' e26_7 =>
          refine WPO.eff rfl (OpE.ofPure (by first | exact (Op1.load rfl mM (by rfl)) | exact (Op1.loadI rfl rD lT) | exact (Op1.loadAll rfl mM (by rfl)) | exact (Op1.loadE rfl rD lT (by rfl)) | exact (Op1.loadEAgg rfl rD lT (by rfl)))) rfl rfl ?_
          rintro _ _ ⟨rfl, rfl⟩
          refine ⟨sT, ?_⟩
          refine WPD.eff 12 kR rfl (OpE.ofPure (by first | exact (Op1.load rfl mM (by rfl)) | exact (Op1.loadI rfl rD lT) | exact (Op1.loadAll rfl mM (by rfl)) | exact (Op1.loadE rfl rD lT (by rfl)) | exact (Op1.loadEAgg rfl rD lT (by rfl)))) rfl rfl ?_
          rintro _ _ ⟨rfl, rfl⟩
          refine ⟨sT, ?_⟩
          refine WPD.take 13 rfl (Op1.add rfl rfl (by omega)) rfl rfl sT kR kR kR xQP ?_
          refine WPD.eff 14 kR rfl (OpE.ofPure (by first | exact (Op1.indexAddr rfl rfl rD lT) | exact (Op1.indexAddrZ rfl rfl rD lT))) rfl rfl ?_
          rintro _ _ ⟨rfl, rfl⟩
          refine ⟨sT, ?_⟩
          refine WPD.eff0 15 kR rfl (OpE.store1 (_) rfl rfl pM lT rfl) rfl ?_
          rintro _ _ rfl
          refine ⟨sT, ?_⟩
          refine WPD.done kR ?_
        case' e26_12 =>
          refine WPO.eff rfl (OpE.ofPure (by first | exact (Op1.load rfl mM (by rfl)) | exact (Op1.loadI rfl rD lT) | exact (Op1.loadAll rfl mM (by rfl)) | exact (Op1.loadE rfl rD lT (by rfl)) | exact (Op1.loadEAgg rfl rD lT (by rfl)))) rfl rfl ?_
          rintro _ _ ⟨rfl, rfl⟩
          refine ⟨sT, ?_⟩
          refine WPD.eff 7 kR rfl (OpE.ofPure (by first | exact (Op1.load rfl mM (by rfl)) | exact (Op1.loadI rfl rD lT) | exact (Op1.loadAll rfl mM (by rfl)) | exact (Op1.loadE rfl rD lT (by rfl)) | exact (Op1.loadEAgg rfl rD lT (by rfl)))) rfl rfl ?_
          rintro _ _ ⟨rfl, rfl⟩
          refine ⟨sT, ?_⟩
          refine WPD.take 13 rfl (Op1.add rfl rfl (by omega)) rfl rfl sT kR kR kR xQP ?_
          refine WPD.eff 14 kR rfl (OpE.ofPure (by first | exact (Op1.indexAddr rfl rfl rD lT) | exact (Op1.indexAddrZ rfl rfl rD lT))) rfl rfl ?_
          rintro _ _ ⟨rfl, rfl⟩
          refine ⟨sT, ?_⟩
          refine WPD.eff0 15 kR rfl (OpE.store1 (_) rfl rfl pM lT rfl) rfl ?_
          rintro _ _ rfl
          refine ⟨sT, ?_⟩
          refine WPD.done kR ?_
      case' e25_12 =>
        refine WPO.eff rfl (OpE.ofPure (by first | exact (Op1.load rfl mM (by rfl)) | exact (Op1.loadI rfl rD lT) | exact (Op1.loadAll rfl mM (by rfl)) | exact (Op1.loadE rfl rD lT (by rfl)) | exact (Op1.loadEAgg rfl rD lT (by rfl)))) rfl rfl ?_
        rintro _ _ ⟨rfl, rfl⟩
        refine ⟨sT, ?_⟩
        refine WPD.eff 6 kR rfl (OpE.ofPure (by first | exact (Op1.indexAddr rfl rfl rD lT) | exact (Op1.indexAddrZ rfl rfl rD lT))) rfl rfl ?_
        rintro _ _ ⟨rfl, rfl⟩
        refine ⟨sT, ?_⟩
        refine WPD.eff 7 kR rfl (OpE.ofPure (by first | exact (Op1.load rfl mM (by rfl)) | exact (Op1.loadI rfl rD lT) | exact (Op1.loadAll rfl mM (by rfl)) | exact (Op1.loadE rfl rD lT (by rfl)) | exact (Op1.loadEAgg rfl rD lT (by rfl)))) rfl rfl ?_
        rintro _ _ ⟨rfl, rfl⟩
        refine ⟨sT, ?_⟩
        refine WPD.take 13 rfl (Op1.add rfl rfl (by omega)) rfl rfl sT kR kR kR xQP ?_
        refine WPD.eff 14 kR rfl (OpE.ofPure (by first | exact (Op1.indexAddr rfl rfl rD lT) | exact (Op1.indexAddrZ rfl rfl rD lT))) rfl rfl ?_
        rintro _ _ ⟨rfl, rfl⟩
        refine ⟨sT, ?_⟩
        refine WPD.eff0 15 kR rfl (OpE.store1 (_) rfl rfl pM lT rfl) rfl ?_
        rintro _ _ rfl
        refine ⟨sT, ?_⟩
        refine WPD.done kR ?_
    all_goals (
      try refine go ⟨?_⟩
      refine WPL.eff (OpE.buildSlice [(⟨D, C⟩ : E)] pA rfl (by decide)) rfl rfl ?_; rintro s1 _ rfl
      try refine go ⟨?_⟩
      refine WPL.eff (OpE.append rfl rfl pM rD lN) rfl rfl ?_; rintro v1 _ rfl
      try refine go ⟨?_⟩
      refine PE.ret1 (T := []) (T' := [Tok.own a1 (s.P.set D.toNat C), Tok.own a2 (s.Z.set C.toNat (s.Z.getD C.toNat 0 + s.Z.getD D.toNat 0)), Tok.own v1 (s.S ++ [⟨D, C⟩])]) rfl rV ?_ sT2
      exact ⟨a1, a2, v1, rfl, by rw [hu]⟩)
end Go.Proofs.Ytfigegmgopnfhaa
