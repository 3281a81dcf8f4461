/- Texts put together: DrwS, DrwT, Sm1. Conditions: those of each theorem. -/
import Derived.Test.YthlgbeakcobeoaaV2
import Derived.Test.YthlgbeakcobeoaaV3
import Derived.Test.YthlgbeakcobeoaaV6
import Derived.Test.YthlgbeakcobeoaaV7
set_option linter.unusedVariables false
set_option linter.unusedSimpArgs false
/- The second program's drawn sets. Conditions: those of each contract. -/
namespace Go.Proofs.Ythlgbeakcobeoaa
open Go
/-- Drawn sets: new memory, and short. -/
def shortS (s : SS) : Prop := s.P.length ≤ 16 ∧ s.Z.length ≤ 16 ∧ s.S.length ≤ 100
def dS (r : Value) (T : List Tok) : Prop := ∃ a b c, ∃ s : SS, r = setV a b c ∧ T = [Tok.own a s.P, Tok.own b s.Z, Tok.own c s.S] ∧ shortS s
def dSx (r : Value) (T : List Tok) : Prop := ∃ a b c, ∃ s : SS, ∃ x : Int, r = .tuple #[setV a b c, .int .i64 x] ∧ T = [Tok.own a s.P, Tok.own b s.Z, Tok.own c s.S] ∧ shortS s
def dSxy (r : Value) (T : List Tok) : Prop := ∃ a b c, ∃ s : SS, ∃ x y : Int, r = .tuple #[setV a b c, .int .i64 x, .int .i64 y] ∧ T = [Tok.own a s.P, Tok.own b s.Z, Tok.own c s.S] ∧ shortS s
theorem OneM.slc {α : Type} [Enc α] {F : List Tok} {v : Value} {xs : List α} {n : Nat} (h : Tok.own v xs ∈ F) (hn : n ≤ xs.length) : OneM F (slcV v n) := ⟨_, h, fun w hw => (isOwn.own (u := slcV v n) (xs := xs.take n)) w (own_take hn w hw)⟩
set_option linter.unusedVariables false set_option linter.unusedSimpArgs false attribute [local irreducible] Tok.own Tok.blk RL Rd eptr WP WPL PE WPD WPO Op1 OpE Tri Again Mid Exit.then Exit.inBlock bodyPost RP Code.wp wpList isOwn OneM One
attribute [local irreducible] SV RPok EL
set_option maxHeartbeats 8000000

theorem g_SDraw (w : World) (v : Value) (bs : List UInt8) (h : RL w v bs) (hl : bs.length ≤ 9223372036854775807) :
    Tri Try.prog 101 [v] w [] dS := by
  refine Tri.intro (hf := Try.func101) (hb := rfl) (hn := Try.ntmps101) (Nat.le_of_ble_eq_true rfl) ?_
  try refine go ⟨?_⟩
  refine WPL.eff OpE.alloc rfl rfl ?_; rintro _ _ ⟨b2, rfl, rfl⟩
  try refine go ⟨?_⟩
  refine WPL.eff (OpE.call lO (fun w hw => d_Open _ v bs (Rd.at rD hw) hl)) rfl rfl ?_
  rintro r _ ⟨T, ⟨rb, rfl, rfl⟩, rfl⟩
  have hcv := h.cvOf
  have hl2 := bsOf_le bs
  generalize cvOf v bs = cv at *
  generalize bsOf bs = bs' at *
  try refine go ⟨?_⟩
  refine WPL.eff (OpE.callT (T := [Tok.blk rb [cv, .int .i64 0]]) lO pM2 (fun w hw => g_DrawO _ rb cv bs' (Rd.at rD hw) (hw.ne mM hcv) hl2)) rfl rfl ?_
  rintro r _ ⟨T, ⟨v1, n1, p1, es1, rfl, rfl, q1, q2, q3, q4, q5, q6⟩, rfl⟩
  obtain ⟨m1, rfl⟩ := Int.eq_ofNat_of_zero_le (show 0 ≤ n1 by omega)
  obtain ⟨i1, i2, i3, _⟩ := ofS_spec (n := m1) (by omega) (by omega) es1 q6 (by omega)
  have i4 := i1.inv.lz
  try refine go ⟨?_⟩
  refine WPL.eff (OpE.callT (T := []) lO pM2 (fun w hw => s_Of _ m1 v1 es1 (Rd.at rD hw) ⟨q2, q3⟩ q6 (by omega))) rfl rfl ?_
  rintro r _ ⟨T, ⟨a1, a2, a3, rfl, rfl⟩, rfl⟩
  rw [Int.toNat_natCast]
  obtain ⟨s, hs⟩ : ∃ s, s = ofS m1 es1 := ⟨_, rfl⟩
  rw [← hs] at i1 i2 i3 i4 ⊢
  have sh : shortS s := ⟨by omega, by omega, by omega⟩
  try refine go ⟨?_⟩
  refine WPL.eff OpE.alloc rfl rfl ?_; rintro _ _ ⟨b4, rfl, rfl⟩
  try refine go ⟨?_⟩
  refine WPL.eff (OpE.callT (T := [Tok.blk rb [cv, .int .i64 p1]]) lO pM2 (fun w hw => d_pick _ rb cv bs' p1 20 (Rd.at rD hw) (hw.ne mM hcv) hl2 (by omega) (by omega))) rfl rfl ?_
  rintro r _ ⟨T, ⟨rfl, k, rfl, _, _⟩, rfl⟩
  try refine go ⟨?_⟩
  refine WP.condD rfl (fun hc0 => ?_) (fun hc0 => ?_)
  · try refine go ⟨?_⟩
    refine WP.draw [Tok.blk b4 [a1, a2, a3], Tok.own a2 s.Z, Tok.own a3 s.S, Tok.blk b2 [.slice none 0 0, .slice none 0 0, .slice none 0 0]] mixed ?_
    refine WPD.take 0 rfl (by first | exact (Op1.fieldAddr rfl) | exact (Op1.fieldAddrE rfl rD lT)) rfl rfl sT kR kR kR xQP ?_
    refine WPD.take 2 rfl (Op1.move rfl) rfl rfl sT kR kR kR xQP ?_
    refine WPD.take 3 rfl (by first | exact (Op1.fieldAddr rfl) | exact (Op1.fieldAddrE rfl rD lT)) rfl rfl sT kR kR kR xQP ?_
    refine WPD.take 7 rfl (Op1.move rfl) rfl rfl sT kR kR kR xQP ?_
    refine WPD.take 1 rfl (by first | exact (Op1.load rfl mM (by rfl)) | exact (Op1.loadI rfl rD lT) | exact (Op1.loadAll rfl mM (by rfl)) | exact (Op1.loadE rfl rD lT (by rfl)) | exact (Op1.loadEAgg rfl rD lT (by rfl))) rfl rfl sT kR kR kR xQP ?_
    refine WPD.take 4 rfl (by first | exact (Op1.load rfl mM (by rfl)) | exact (Op1.loadI rfl rD lT) | exact (Op1.loadAll rfl mM (by rfl)) | exact (Op1.loadE rfl rD lT (by rfl)) | exact (Op1.loadEAgg rfl rD lT (by rfl))) rfl rfl sT kR kR kR xQP ?_
    refine WPD.two 5 8 kR ?e1_5 ?e1_8
    case' e1_5 =>
      refine WPO.eff rfl (OpE.ofPure (Op1.len rfl rD)) rfl rfl ?_
      rintro _ _ ⟨eP, rfl⟩; have eP := eP.symm; subst eP
      refine ⟨sT, ?_⟩
      refine WPD.two 6 8 kR ?e2_6 ?e2_8
      case' e2_6 =>
        refine WPO.eff rfl (OpE.callT (T := [Tok.blk rb [cv, .int .i64 (p1 + 1)]]) lO pM2 (fun w hw => d_pick _ rb cv bs' (p1 + 1) s.P.length (Rd.at rD hw) (hw.ne mM hcv) hl2 (by omega) (by omega))) rfl rfl ?_
        rintro r _ ⟨T, ⟨rfl, i, rfl, i0, ii⟩, rfl⟩
        have i9 := ii (by omega)
        refine ⟨sT, ?_⟩
        refine WPD.eff 8 kR rfl (OpE.buildSlice (([-1, 0, 1, 16] : List Int)) pA rfl (by decide)) rfl rfl ?_
        rintro s1 _ rfl
        refine ⟨sT, ?_⟩
        refine WPD.eff 9 kR rfl (OpE.callT (T := [Tok.blk rb [cv, .int .i64 (p1 + 1 + 1)]]) lO pM2 (fun w hw => d_num _ rb cv s1 bs' [-1, 0, 1, 16] (p1 + 1 + 1) (Rd.at rD hw) (hw.ne mM hcv) (Rd.at rD hw) (hw.own_ne pM mM) hl2 (by omega) (by decide))) rfl rfl ?_
        rintro r _ ⟨T, ⟨rfl, z, rfl, _⟩, rfl⟩
        refine ⟨sT, ?_⟩
        refine WPD.eff 10 kR rfl (OpE.ofPure (by first | exact (Op1.indexAddr rfl rfl rD lT) | exact (Op1.indexAddrZ rfl rfl rD lT))) rfl rfl ?_
        rintro _ _ ⟨eP, rfl⟩; have eP := eP.symm; subst eP
        refine ⟨sT, ?_⟩
        refine WPD.eff0 11 kR rfl (OpE.store1 (_) rfl rfl pM lT rfl) rfl ?_
        rintro _ _ rfl
        refine ⟨sT, ?_⟩
        refine WPD.done kR ?_
      case' e2_8 =>
        refine WPO.eff rfl (OpE.buildSlice (([-1, 0, 1, 16] : List Int)) pA rfl (by decide)) rfl rfl ?_
        rintro s1 _ rfl
        refine ⟨sT, ?_⟩
        refine WPD.eff 6 kR rfl (OpE.callT (T := [Tok.blk rb [cv, .int .i64 (p1 + 1)]]) lO pM2 (fun w hw => d_pick _ rb cv bs' (p1 + 1) s.P.length (Rd.at rD hw) (hw.ne mM hcv) hl2 (by omega) (by omega))) rfl rfl ?_
        rintro r _ ⟨T, ⟨rfl, i, rfl, i0, ii⟩, rfl⟩
        have i9 := ii (by omega)
        refine ⟨sT, ?_⟩
        refine WPD.eff 9 kR rfl (OpE.callT (T := [Tok.blk rb [cv, .int .i64 (p1 + 1 + 1)]]) lO pM2 (fun w hw => d_num _ rb cv s1 bs' [-1, 0, 1, 16] (p1 + 1 + 1) (Rd.at rD hw) (hw.ne mM hcv) (Rd.at rD hw) (hw.own_ne pM mM) hl2 (by omega) (by decide))) rfl rfl ?_
        rintro r _ ⟨T, ⟨rfl, z, rfl, _⟩, rfl⟩
        refine ⟨sT, ?_⟩
        refine WPD.eff 10 kR rfl (OpE.ofPure (by first | exact (Op1.indexAddr rfl rfl rD lT) | exact (Op1.indexAddrZ rfl rfl rD lT))) rfl rfl ?_
        rintro _ _ ⟨eP, rfl⟩; have eP := eP.symm; subst eP
        refine ⟨sT, ?_⟩
        refine WPD.eff0 11 kR rfl (OpE.store1 (_) rfl rfl pM lT rfl) rfl ?_
        rintro _ _ rfl
        refine ⟨sT, ?_⟩
        refine WPD.done kR ?_
    case' e1_8 =>
      refine WPO.eff rfl (OpE.buildSlice (([-1, 0, 1, 16] : List Int)) pA rfl (by decide)) rfl rfl ?_
      rintro s1 _ rfl
      refine ⟨sT, ?_⟩
      refine WPD.eff 5 kR rfl (OpE.ofPure (Op1.len rfl rD)) rfl rfl ?_
      rintro _ _ ⟨eP, rfl⟩; have eP := eP.symm; subst eP
      refine ⟨sT, ?_⟩
      refine WPD.eff 6 kR rfl (OpE.callT (T := [Tok.blk rb [cv, .int .i64 (p1 + 1)]]) lO pM2 (fun w hw => d_pick _ rb cv bs' (p1 + 1) s.P.length (Rd.at rD hw) (hw.ne mM hcv) hl2 (by omega) (by omega))) rfl rfl ?_
      rintro r _ ⟨T, ⟨rfl, i, rfl, i0, ii⟩, rfl⟩
      have i9 := ii (by omega)
      refine ⟨sT, ?_⟩
      refine WPD.eff 9 kR rfl (OpE.callT (T := [Tok.blk rb [cv, .int .i64 (p1 + 1 + 1)]]) lO pM2 (fun w hw => d_num _ rb cv s1 bs' [-1, 0, 1, 16] (p1 + 1 + 1) (Rd.at rD hw) (hw.ne mM hcv) (Rd.at rD hw) (hw.own_ne pM mM) hl2 (by omega) (by decide))) rfl rfl ?_
      rintro r _ ⟨T, ⟨rfl, z, rfl, _⟩, rfl⟩
      refine ⟨sT, ?_⟩
      refine WPD.eff 10 kR rfl (OpE.ofPure (by first | exact (Op1.indexAddr rfl rfl rD lT) | exact (Op1.indexAddrZ rfl rfl rD lT))) rfl rfl ?_
      rintro _ _ ⟨eP, rfl⟩; have eP := eP.symm; subst eP
      refine ⟨sT, ?_⟩
      refine WPD.eff0 11 kR rfl (OpE.store1 (_) rfl rfl pM lT rfl) rfl ?_
      rintro _ _ rfl
      refine ⟨sT, ?_⟩
      refine WPD.done kR ?_
    all_goals (
      try refine go ⟨?_⟩
      refine PE.ret1 (T := []) (T' := [Tok.own a1 (s.P.set i.toNat z), Tok.own a2 s.Z, Tok.own a3 s.S]) rfl rV ?_ sT2
      exact ⟨a1, a2, a3, ⟨s.P.set i.toNat z, s.Z, s.S⟩, rfl, rfl, by rw [List.length_set]; exact sh.1, sh.2.1, sh.2.2⟩)
  try refine go ⟨?_⟩
  refine WP.condD rfl (fun hc1 => ?_) (fun hc1 => ?_)
  · try refine go ⟨?_⟩
    refine WP.draw [Tok.blk b4 [a1, a2, a3], Tok.own a1 s.P, Tok.own a3 s.S, Tok.blk b2 [.slice none 0 0, .slice none 0 0, .slice none 0 0]] mixed ?_
    refine WPD.take 0 rfl (by first | exact (Op1.fieldAddr rfl) | exact (Op1.fieldAddrE rfl rD lT)) rfl rfl sT kR kR kR xQP ?_
    refine WPD.take 2 rfl (Op1.move rfl) rfl rfl sT kR kR kR xQP ?_
    refine WPD.take 3 rfl (by first | exact (Op1.fieldAddr rfl) | exact (Op1.fieldAddrE rfl rD lT)) rfl rfl sT kR kR kR xQP ?_
    refine WPD.take 7 rfl (Op1.move rfl) rfl rfl sT kR kR kR xQP ?_
    refine WPD.take 1 rfl (by first | exact (Op1.load rfl mM (by rfl)) | exact (Op1.loadI rfl rD lT) | exact (Op1.loadAll rfl mM (by rfl)) | exact (Op1.loadE rfl rD lT (by rfl)) | exact (Op1.loadEAgg rfl rD lT (by rfl))) rfl rfl sT kR kR kR xQP ?_
    refine WPD.take 4 rfl (by first | exact (Op1.load rfl mM (by rfl)) | exact (Op1.loadI rfl rD lT) | exact (Op1.loadAll rfl mM (by rfl)) | exact (Op1.loadE rfl rD lT (by rfl)) | exact (Op1.loadEAgg rfl rD lT (by rfl))) rfl rfl sT kR kR kR xQP ?_
    refine WPD.two 5 8 kR ?e3_5 ?e3_8
    case' e3_5 =>
      refine WPO.eff rfl (OpE.ofPure (Op1.len rfl rD)) rfl rfl ?_
      rintro _ _ ⟨eP, rfl⟩; have eP := eP.symm; subst eP
      refine ⟨sT, ?_⟩
      refine WPD.two 6 8 kR ?e4_6 ?e4_8
      case' e4_6 =>
        refine WPO.eff rfl (OpE.callT (T := [Tok.blk rb [cv, .int .i64 (p1 + 1)]]) lO pM2 (fun w hw => d_pick _ rb cv bs' (p1 + 1) s.Z.length (Rd.at rD hw) (hw.ne mM hcv) hl2 (by omega) (by omega))) rfl rfl ?_
        rintro r _ ⟨T, ⟨rfl, i, rfl, i0, ii⟩, rfl⟩
        have i9 := ii (by omega)
        refine ⟨sT, ?_⟩
        refine WPD.eff 8 kR rfl (OpE.buildSlice (([0, 1, 2] : List Int)) pA rfl (by decide)) rfl rfl ?_
        rintro s1 _ rfl
        refine ⟨sT, ?_⟩
        refine WPD.eff 9 kR rfl (OpE.callT (T := [Tok.blk rb [cv, .int .i64 (p1 + 1 + 1)]]) lO pM2 (fun w hw => d_num _ rb cv s1 bs' [0, 1, 2] (p1 + 1 + 1) (Rd.at rD hw) (hw.ne mM hcv) (Rd.at rD hw) (hw.own_ne pM mM) hl2 (by omega) (by decide))) rfl rfl ?_
        rintro r _ ⟨T, ⟨rfl, z, rfl, _⟩, rfl⟩
        refine ⟨sT, ?_⟩
        refine WPD.eff 10 kR rfl (OpE.ofPure (by first | exact (Op1.indexAddr rfl rfl rD lT) | exact (Op1.indexAddrZ rfl rfl rD lT))) rfl rfl ?_
        rintro _ _ ⟨eP, rfl⟩; have eP := eP.symm; subst eP
        refine ⟨sT, ?_⟩
        refine WPD.eff0 11 kR rfl (OpE.store1 (_) rfl rfl pM lT rfl) rfl ?_
        rintro _ _ rfl
        refine ⟨sT, ?_⟩
        refine WPD.done kR ?_
      case' e4_8 =>
        refine WPO.eff rfl (OpE.buildSlice (([0, 1, 2] : List Int)) pA rfl (by decide)) rfl rfl ?_
        rintro s1 _ rfl
        refine ⟨sT, ?_⟩
        refine WPD.eff 6 kR rfl (OpE.callT (T := [Tok.blk rb [cv, .int .i64 (p1 + 1)]]) lO pM2 (fun w hw => d_pick _ rb cv bs' (p1 + 1) s.Z.length (Rd.at rD hw) (hw.ne mM hcv) hl2 (by omega) (by omega))) rfl rfl ?_
        rintro r _ ⟨T, ⟨rfl, i, rfl, i0, ii⟩, rfl⟩
        have i9 := ii (by omega)
        refine ⟨sT, ?_⟩
        refine WPD.eff 9 kR rfl (OpE.callT (T := [Tok.blk rb [cv, .int .i64 (p1 + 1 + 1)]]) lO pM2 (fun w hw => d_num _ rb cv s1 bs' [0, 1, 2] (p1 + 1 + 1) (Rd.at rD hw) (hw.ne mM hcv) (Rd.at rD hw) (hw.own_ne pM mM) hl2 (by omega) (by decide))) rfl rfl ?_
        rintro r _ ⟨T, ⟨rfl, z, rfl, _⟩, rfl⟩
        refine ⟨sT, ?_⟩
        refine WPD.eff 10 kR rfl (OpE.ofPure (by first | exact (Op1.indexAddr rfl rfl rD lT) | exact (Op1.indexAddrZ rfl rfl rD lT))) rfl rfl ?_
        rintro _ _ ⟨eP, rfl⟩; have eP := eP.symm; subst eP
        refine ⟨sT, ?_⟩
        refine WPD.eff0 11 kR rfl (OpE.store1 (_) rfl rfl pM lT rfl) rfl ?_
        rintro _ _ rfl
        refine ⟨sT, ?_⟩
        refine WPD.done kR ?_
    case' e3_8 =>
      refine WPO.eff rfl (OpE.buildSlice (([0, 1, 2] : List Int)) pA rfl (by decide)) rfl rfl ?_
      rintro s1 _ rfl
      refine ⟨sT, ?_⟩
      refine WPD.eff 5 kR rfl (OpE.ofPure (Op1.len rfl rD)) rfl rfl ?_
      rintro _ _ ⟨eP, rfl⟩; have eP := eP.symm; subst eP
      refine ⟨sT, ?_⟩
      refine WPD.eff 6 kR rfl (OpE.callT (T := [Tok.blk rb [cv, .int .i64 (p1 + 1)]]) lO pM2 (fun w hw => d_pick _ rb cv bs' (p1 + 1) s.Z.length (Rd.at rD hw) (hw.ne mM hcv) hl2 (by omega) (by omega))) rfl rfl ?_
      rintro r _ ⟨T, ⟨rfl, i, rfl, i0, ii⟩, rfl⟩
      have i9 := ii (by omega)
      refine ⟨sT, ?_⟩
      refine WPD.eff 9 kR rfl (OpE.callT (T := [Tok.blk rb [cv, .int .i64 (p1 + 1 + 1)]]) lO pM2 (fun w hw => d_num _ rb cv s1 bs' [0, 1, 2] (p1 + 1 + 1) (Rd.at rD hw) (hw.ne mM hcv) (Rd.at rD hw) (hw.own_ne pM mM) hl2 (by omega) (by decide))) rfl rfl ?_
      rintro r _ ⟨T, ⟨rfl, z, rfl, _⟩, rfl⟩
      refine ⟨sT, ?_⟩
      refine WPD.eff 10 kR rfl (OpE.ofPure (by first | exact (Op1.indexAddr rfl rfl rD lT) | exact (Op1.indexAddrZ rfl rfl rD lT))) rfl rfl ?_
      rintro _ _ ⟨eP, rfl⟩; have eP := eP.symm; subst eP
      refine ⟨sT, ?_⟩
      refine WPD.eff0 11 kR rfl (OpE.store1 (_) rfl rfl pM lT rfl) rfl ?_
      rintro _ _ rfl
      refine ⟨sT, ?_⟩
      refine WPD.done kR ?_
    all_goals (
      try refine go ⟨?_⟩
      refine PE.ret1 (T := []) (T' := [Tok.own a1 s.P, Tok.own a2 (s.Z.set i.toNat z), Tok.own a3 s.S]) rfl rV ?_ sT2
      exact ⟨a1, a2, a3, ⟨s.P, s.Z.set i.toNat z, s.S⟩, rfl, rfl, sh.1, by rw [List.length_set]; exact sh.2.1, sh.2.2⟩)
  try refine go ⟨?_⟩
  refine WP.condD rfl (fun hc2 => ?_) (fun hc2 => ?_)
  · try refine go ⟨?_⟩
    refine WP.condD rfl (fun hl0 => ?_) (fun hl0 => ?_)
    · have et : (((s.S.length : Nat) : Int) - 1).toNat ≤ s.S.length := by omega
      refine WP.one1 (slcV a3 (((s.S.length : Nat) : Int) - 1).toNat) (OneM.slc (xs := s.S) mM et) fun o1 => ?_
      try refine go ⟨?_⟩
      refine PE.turnG (t := Tok.own a3 s.S) (t' := Tok.own (slcV a3 (((s.S.length : Nat) : Int) - 1).toNat) (s.S.take (((s.S.length : Nat) : Int) - 1).toNat)) pM own_take_fp (own_take et) ?_
      try refine go ⟨?_⟩
      refine PE.ret1 (T := []) (T' := [Tok.own a1 s.P, Tok.own a2 s.Z, Tok.own (slcV a3 (((s.S.length : Nat) : Int) - 1).toNat) (s.S.take (((s.S.length : Nat) : Int) - 1).toNat)]) rfl rV ?_ sT2
      exact ⟨a1, a2, _, ⟨s.P, s.Z, s.S.take (((s.S.length : Nat) : Int) - 1).toNat⟩, rfl, rfl, sh.1, sh.2.1, by have := sh.2.2; rw [List.length_take]; omega⟩
    · try refine go ⟨?_⟩
      refine PE.ret1 (T := []) (T' := [Tok.own a1 s.P, Tok.own a2 s.Z, Tok.own a3 s.S]) rfl rV ?_ sT2
      exact ⟨a1, a2, a3, s, rfl, rfl, sh⟩
  try refine go ⟨?_⟩
  refine WP.condD rfl (fun hc3 => ?_) (fun hc3 => ?_)
  · try refine go ⟨?_⟩
    refine WP.condD rfl (fun hl0 => ?_) (fun hl0 => ?_)
    · try refine go ⟨?_⟩
      refine WP.draw [Tok.blk b4 [a1, a2, a3], Tok.own a1 s.P, Tok.own a2 s.Z, Tok.blk b2 [.slice none 0 0, .slice none 0 0, .slice none 0 0]] mixed ?_
      refine WPD.take 0 rfl (by first | exact (Op1.fieldAddr rfl) | exact (Op1.fieldAddrE rfl rD lT)) rfl rfl sT kR kR kR xQP ?_
      refine WPD.take 2 rfl (Op1.move rfl) rfl rfl sT kR kR kR xQP ?_
      refine WPD.take 3 rfl (by first | exact (Op1.fieldAddr rfl) | exact (Op1.fieldAddrE rfl rD lT)) rfl rfl sT kR kR kR xQP ?_
      refine WPD.take 7 rfl (Op1.move rfl) rfl rfl sT kR kR kR xQP ?_
      refine WPD.take 1 rfl (by first | exact (Op1.load rfl mM (by rfl)) | exact (Op1.loadI rfl rD lT) | exact (Op1.loadAll rfl mM (by rfl)) | exact (Op1.loadE rfl rD lT (by rfl)) | exact (Op1.loadEAgg rfl rD lT (by rfl))) rfl rfl sT kR kR kR xQP ?_
      refine WPD.take 4 rfl (by first | exact (Op1.load rfl mM (by rfl)) | exact (Op1.loadI rfl rD lT) | exact (Op1.loadAll rfl mM (by rfl)) | exact (Op1.loadE rfl rD lT (by rfl)) | exact (Op1.loadEAgg rfl rD lT (by rfl))) rfl rfl sT kR kR kR xQP ?_
      refine WPD.two 5 8 kR ?e5_5 ?e5_8
      case' e5_5 =>
        refine WPO.eff rfl (OpE.ofPure (Op1.len rfl rD)) rfl rfl ?_
        rintro _ _ ⟨eP, rfl⟩; have eP := eP.symm; subst eP
        refine ⟨sT, ?_⟩
        refine WPD.two 6 8 kR ?e6_6 ?e6_8
        case' e6_6 =>
          refine WPO.eff rfl (OpE.callT (T := [Tok.blk rb [cv, .int .i64 (p1 + 1)]]) lO pM2 (fun w hw => d_pick _ rb cv bs' (p1 + 1) s.S.length (Rd.at rD hw) (hw.ne mM hcv) hl2 (by omega) (by omega))) rfl rfl ?_
          rintro r _ ⟨T, ⟨rfl, i, rfl, i0, ii⟩, rfl⟩
          have i9 := ii (by omega)
          refine ⟨sT, ?_⟩
          refine WPD.eff 8 kR rfl (OpE.buildSlice (([0, -1, 16] : List Int)) pA rfl (by decide)) rfl rfl ?_
          rintro s1 _ rfl
          refine ⟨sT, ?_⟩
          refine WPD.eff 9 kR rfl (OpE.callT (T := [Tok.blk rb [cv, .int .i64 (p1 + 1 + 1)]]) lO pM2 (fun w hw => d_num _ rb cv s1 bs' [0, -1, 16] (p1 + 1 + 1) (Rd.at rD hw) (hw.ne mM hcv) (Rd.at rD hw) (hw.own_ne pM mM) hl2 (by omega) (by decide))) rfl rfl ?_
          rintro r _ ⟨T, ⟨rfl, z, rfl, _⟩, rfl⟩
          refine ⟨sT, ?_⟩
          refine WPD.eff 10 kR rfl (OpE.ofPure (by first | exact (Op1.indexAddr rfl rfl rD lT) | exact (Op1.indexAddrZ rfl rfl rD lT))) rfl rfl ?_
          rintro _ _ ⟨eP, rfl⟩; have eP := eP.symm; subst eP
          refine ⟨sT, ?_⟩
          refine WPD.eff 11 kR rfl (OpE.ofPure (by first | exact (Op1.fieldAddr rfl) | exact (Op1.fieldAddrE rfl rD lT))) rfl rfl ?_
          rintro _ _ ⟨eP, rfl⟩; have eP := eP.symm; subst eP
          refine ⟨sT, ?_⟩
          refine WPD.eff0 12 kR rfl (OpE.storeF (r := 1) (⟨(s.S.getD i.toNat eD).A, z⟩ : E) rfl rfl pM2 lT (by decide) oN rfl (by rfl)) rfl ?_
          rintro _ _ rfl
          refine ⟨sT, ?_⟩
          refine WPD.done kR ?_
        case' e6_8 =>
          refine WPO.eff rfl (OpE.buildSlice (([0, -1, 16] : List Int)) pA rfl (by decide)) rfl rfl ?_
          rintro s1 _ rfl
          refine ⟨sT, ?_⟩
          refine WPD.eff 6 kR rfl (OpE.callT (T := [Tok.blk rb [cv, .int .i64 (p1 + 1)]]) lO pM2 (fun w hw => d_pick _ rb cv bs' (p1 + 1) s.S.length (Rd.at rD hw) (hw.ne mM hcv) hl2 (by omega) (by omega))) rfl rfl ?_
          rintro r _ ⟨T, ⟨rfl, i, rfl, i0, ii⟩, rfl⟩
          have i9 := ii (by omega)
          refine ⟨sT, ?_⟩
          refine WPD.eff 9 kR rfl (OpE.callT (T := [Tok.blk rb [cv, .int .i64 (p1 + 1 + 1)]]) lO pM2 (fun w hw => d_num _ rb cv s1 bs' [0, -1, 16] (p1 + 1 + 1) (Rd.at rD hw) (hw.ne mM hcv) (Rd.at rD hw) (hw.own_ne pM mM) hl2 (by omega) (by decide))) rfl rfl ?_
          rintro r _ ⟨T, ⟨rfl, z, rfl, _⟩, rfl⟩
          refine ⟨sT, ?_⟩
          refine WPD.eff 10 kR rfl (OpE.ofPure (by first | exact (Op1.indexAddr rfl rfl rD lT) | exact (Op1.indexAddrZ rfl rfl rD lT))) rfl rfl ?_
          rintro _ _ ⟨eP, rfl⟩; have eP := eP.symm; subst eP
          refine ⟨sT, ?_⟩
          refine WPD.eff 11 kR rfl (OpE.ofPure (by first | exact (Op1.fieldAddr rfl) | exact (Op1.fieldAddrE rfl rD lT))) rfl rfl ?_
          rintro _ _ ⟨eP, rfl⟩; have eP := eP.symm; subst eP
          refine ⟨sT, ?_⟩
          refine WPD.eff0 12 kR rfl (OpE.storeF (r := 1) (⟨(s.S.getD i.toNat eD).A, z⟩ : E) rfl rfl pM2 lT (by decide) oN rfl (by rfl)) rfl ?_
          rintro _ _ rfl
          refine ⟨sT, ?_⟩
          refine WPD.done kR ?_
      case' e5_8 =>
        refine WPO.eff rfl (OpE.buildSlice (([0, -1, 16] : List Int)) pA rfl (by decide)) rfl rfl ?_
        rintro s1 _ rfl
        refine ⟨sT, ?_⟩
        refine WPD.eff 5 kR rfl (OpE.ofPure (Op1.len rfl rD)) rfl rfl ?_
        rintro _ _ ⟨eP, rfl⟩; have eP := eP.symm; subst eP
        refine ⟨sT, ?_⟩
        refine WPD.eff 6 kR rfl (OpE.callT (T := [Tok.blk rb [cv, .int .i64 (p1 + 1)]]) lO pM2 (fun w hw => d_pick _ rb cv bs' (p1 + 1) s.S.length (Rd.at rD hw) (hw.ne mM hcv) hl2 (by omega) (by omega))) rfl rfl ?_
        rintro r _ ⟨T, ⟨rfl, i, rfl, i0, ii⟩, rfl⟩
        have i9 := ii (by omega)
        refine ⟨sT, ?_⟩
        refine WPD.eff 9 kR rfl (OpE.callT (T := [Tok.blk rb [cv, .int .i64 (p1 + 1 + 1)]]) lO pM2 (fun w hw => d_num _ rb cv s1 bs' [0, -1, 16] (p1 + 1 + 1) (Rd.at rD hw) (hw.ne mM hcv) (Rd.at rD hw) (hw.own_ne pM mM) hl2 (by omega) (by decide))) rfl rfl ?_
        rintro r _ ⟨T, ⟨rfl, z, rfl, _⟩, rfl⟩
        refine ⟨sT, ?_⟩
        refine WPD.eff 10 kR rfl (OpE.ofPure (by first | exact (Op1.indexAddr rfl rfl rD lT) | exact (Op1.indexAddrZ rfl rfl rD lT))) rfl rfl ?_
        rintro _ _ ⟨eP, rfl⟩; have eP := eP.symm; subst eP
        refine ⟨sT, ?_⟩
        refine WPD.eff 11 kR rfl (OpE.ofPure (by first | exact (Op1.fieldAddr rfl) | exact (Op1.fieldAddrE rfl rD lT))) rfl rfl ?_
        rintro _ _ ⟨eP, rfl⟩; have eP := eP.symm; subst eP
        refine ⟨sT, ?_⟩
        refine WPD.eff0 12 kR rfl (OpE.storeF (r := 1) (⟨(s.S.getD i.toNat eD).A, z⟩ : E) rfl rfl pM2 lT (by decide) oN rfl (by rfl)) rfl ?_
        rintro _ _ rfl
        refine ⟨sT, ?_⟩
        refine WPD.done kR ?_
      all_goals (
        try refine go ⟨?_⟩
        refine PE.ret1 (T := []) (T' := [Tok.own a1 s.P, Tok.own a2 s.Z, Tok.own a3 (s.S.set i.toNat ⟨(s.S.getD i.toNat eD).A, z⟩)]) rfl rV ?_ sT2
        exact ⟨a1, a2, a3, ⟨s.P, s.Z, s.S.set i.toNat ⟨(s.S.getD i.toNat eD).A, z⟩⟩, rfl, rfl, sh.1, sh.2.1, by rw [List.length_set]; exact sh.2.2⟩)
    · try refine go ⟨?_⟩
      refine PE.ret1 (T := []) (T' := [Tok.own a1 s.P, Tok.own a2 s.Z, Tok.own a3 s.S]) rfl rV ?_ sT2
      exact ⟨a1, a2, a3, s, rfl, rfl, sh⟩
  try refine go ⟨?_⟩
  refine PE.ret1 (T := []) (T' := [Tok.own a1 s.P, Tok.own a2 s.Z, Tok.own a3 s.S]) rfl rV ?_ sT2
  exact ⟨a1, a2, a3, s, rfl, rfl, sh⟩
end Go.Proofs.Ythlgbeakcobeoaa
/- The second program's drawn cases of sets; the law's own comparison of sets. Conditions: those of each contract. -/
namespace Go.Proofs.Ythlgbeakcobeoaa
open Go
set_option linter.unusedVariables false set_option linter.unusedSimpArgs false attribute [local irreducible] Tok.own Tok.blk RL Rd eptr WP WPL PE WPD WPO Op1 OpE Tri Again Mid Exit.then Exit.inBlock bodyPost RP Code.wp wpList isOwn OneM One
attribute [local irreducible] SV RPok EL
set_option maxHeartbeats 8000000

theorem g_STwo (w : World) (v : Value) (bs : List UInt8) (h : RL w v bs) (hl : bs.length ≤ 9223372036854775807) :
    Tri Try.prog 105 [v] w [] dSxy := by
  refine Tri.intro (hf := Try.func105) (hb := rfl) (hn := Try.ntmps105) (Nat.le_of_ble_eq_true rfl) ?_
  try refine go ⟨?_⟩
  refine WPL.eff OpE.alloc rfl rfl ?_; rintro _ _ ⟨b2, rfl, rfl⟩
  try refine go ⟨?_⟩
  refine WPL.eff (OpE.call lO (fun w hw => g_SDraw _ v bs (Rd.at rD hw) hl)) rfl rfl ?_
  rintro r _ ⟨T, ⟨a1, a2, a3, s, rfl, rfl, sh⟩, rfl⟩
  have sh1 := sh.1
  try refine go ⟨?_⟩
  refine WPL.eff OpE.alloc rfl rfl ?_; rintro _ _ ⟨b5, rfl, rfl⟩
  try refine go ⟨?_⟩
  refine WPL.eff (OpE.call lO (fun w hw => d_Open _ v bs (Rd.at rD hw) hl)) rfl rfl ?_
  rintro r _ ⟨T, ⟨rb, rfl, rfl⟩, rfl⟩
  have hcv := h.cvOf
  have hl2 := bsOf_le bs
  generalize cvOf v bs = cv at *
  generalize bsOf bs = bs' at *
  try refine go ⟨?_⟩
  refine WPL.eff (OpE.callT (T := [Tok.blk rb [cv, .int .i64 0]]) lO pM2 (fun w hw => d_pick _ rb cv bs' 0 16 (Rd.at rD hw) (hw.ne mM hcv) hl2 (by omega) (by omega))) rfl rfl ?_
  rintro r _ ⟨T, ⟨rfl, k, rfl, _, _⟩, rfl⟩
  try refine go ⟨?_⟩
  refine WP.condD rfl (fun hc0 => ?_) (fun hc0 => ?_)
  · try refine go ⟨?_⟩
    refine WP.draw [Tok.blk b5 [a1, a2, a3], Tok.own a1 s.P, Tok.own a2 s.Z, Tok.own a3 s.S] mixed ?_
    refine WPD.take 0 rfl (by first | exact (Op1.load rfl mM (by rfl)) | exact (Op1.loadI rfl rD lT) | exact (Op1.loadAll rfl mM (by rfl)) | exact (Op1.loadE rfl rD lT (by rfl)) | exact (Op1.loadEAgg rfl rD lT (by rfl))) rfl rfl sT kR kR kR xQP ?_
    refine WPD.take 1 rfl (Op1.move rfl) rfl rfl sT kR kR kR xQP ?_
    refine WPD.take 4 rfl (Op1.move rfl) rfl rfl sT kR kR kR xQP ?_
    refine WPD.two 2 5 kR ?e1_2 ?e1_5
    case' e1_2 =>
      refine WPO.eff rfl (OpE.buildSlice (([-1, 16, 0] : List Int)) pA rfl (by decide)) rfl rfl ?_
      rintro s1 _ rfl
      refine ⟨sT, ?_⟩
      refine WPD.two 3 5 kR ?e2_3 ?e2_5
      case' e2_3 =>
        refine WPO.eff rfl (OpE.callT (T := [Tok.blk rb [cv, .int .i64 (0 + 1)]]) lO pM2 (fun w hw => d_num _ rb cv s1 bs' [-1, 16, 0] (0 + 1) (Rd.at rD hw) (hw.ne mM hcv) (Rd.at rD hw) (hw.own_ne pM mM) hl2 (by omega) (by decide))) rfl rfl ?_
        rintro r _ ⟨T, ⟨rfl, x, rfl, _⟩, rfl⟩
        refine ⟨sT, ?_⟩
        refine WPD.eff 5 kR rfl (OpE.buildSlice (([0, 16] : List Int)) pA rfl (by decide)) rfl rfl ?_
        rintro s2 _ rfl
        refine ⟨sT, ?_⟩
        refine WPD.eff 6 kR rfl (OpE.callT (T := [Tok.blk rb [cv, .int .i64 (0 + 1 + 1)]]) lO pM2 (fun w hw => d_num _ rb cv s2 bs' [0, 16] (0 + 1 + 1) (Rd.at rD hw) (hw.ne mM hcv) (Rd.at rD hw) (hw.own_ne pM mM) hl2 (by omega) (by decide))) rfl rfl ?_
        rintro r _ ⟨T, ⟨rfl, y, rfl, _⟩, rfl⟩
        refine ⟨sT, ?_⟩
        refine WPD.eff0 7 kR rfl (OpE.storeAll rfl rfl pM (by rfl) (by rfl) oN) rfl ?_
        rintro _ _ rfl
        refine ⟨sT, ?_⟩
        refine WPD.eff 8 kR rfl (OpE.ofPure (Op1.assign rfl)) rfl rfl ?_
        rintro _ _ ⟨rfl, rfl⟩
        refine ⟨sT, ?_⟩
        refine WPD.eff 9 kR rfl (OpE.ofPure (Op1.assign rfl)) rfl rfl ?_
        rintro _ _ ⟨rfl, rfl⟩
        refine ⟨sT, ?_⟩
        refine WPD.done kR ?_
      case' e2_5 =>
        refine WPO.eff rfl (OpE.buildSlice (([0, 16] : List Int)) pA rfl (by decide)) rfl rfl ?_
        rintro s2 _ rfl
        refine ⟨sT, ?_⟩
        refine WPD.eff 3 kR rfl (OpE.callT (T := [Tok.blk rb [cv, .int .i64 (0 + 1)]]) lO pM2 (fun w hw => d_num _ rb cv s1 bs' [-1, 16, 0] (0 + 1) (Rd.at rD hw) (hw.ne mM hcv) (Rd.at rD hw) (hw.own_ne pM mM) hl2 (by omega) (by decide))) rfl rfl ?_
        rintro r _ ⟨T, ⟨rfl, x, rfl, _⟩, rfl⟩
        refine ⟨sT, ?_⟩
        refine WPD.eff 6 kR rfl (OpE.callT (T := [Tok.blk rb [cv, .int .i64 (0 + 1 + 1)]]) lO pM2 (fun w hw => d_num _ rb cv s2 bs' [0, 16] (0 + 1 + 1) (Rd.at rD hw) (hw.ne mM hcv) (Rd.at rD hw) (hw.own_ne pM mM) hl2 (by omega) (by decide))) rfl rfl ?_
        rintro r _ ⟨T, ⟨rfl, y, rfl, _⟩, rfl⟩
        refine ⟨sT, ?_⟩
        refine WPD.eff0 7 kR rfl (OpE.storeAll rfl rfl pM (by rfl) (by rfl) oN) rfl ?_
        rintro _ _ rfl
        refine ⟨sT, ?_⟩
        refine WPD.eff 8 kR rfl (OpE.ofPure (Op1.assign rfl)) rfl rfl ?_
        rintro _ _ ⟨rfl, rfl⟩
        refine ⟨sT, ?_⟩
        refine WPD.eff 9 kR rfl (OpE.ofPure (Op1.assign rfl)) rfl rfl ?_
        rintro _ _ ⟨rfl, rfl⟩
        refine ⟨sT, ?_⟩
        refine WPD.done kR ?_
    case' e1_5 =>
      refine WPO.eff rfl (OpE.buildSlice (([0, 16] : List Int)) pA rfl (by decide)) rfl rfl ?_
      rintro s2 _ rfl
      refine ⟨sT, ?_⟩
      refine WPD.eff 2 kR rfl (OpE.buildSlice (([-1, 16, 0] : List Int)) pA rfl (by decide)) rfl rfl ?_
      rintro s1 _ rfl
      refine ⟨sT, ?_⟩
      refine WPD.eff 3 kR rfl (OpE.callT (T := [Tok.blk rb [cv, .int .i64 (0 + 1)]]) lO pM2 (fun w hw => d_num _ rb cv s1 bs' [-1, 16, 0] (0 + 1) (Rd.at rD hw) (hw.ne mM hcv) (Rd.at rD hw) (hw.own_ne pM mM) hl2 (by omega) (by decide))) rfl rfl ?_
      rintro r _ ⟨T, ⟨rfl, x, rfl, _⟩, rfl⟩
      refine ⟨sT, ?_⟩
      refine WPD.eff 6 kR rfl (OpE.callT (T := [Tok.blk rb [cv, .int .i64 (0 + 1 + 1)]]) lO pM2 (fun w hw => d_num _ rb cv s2 bs' [0, 16] (0 + 1 + 1) (Rd.at rD hw) (hw.ne mM hcv) (Rd.at rD hw) (hw.own_ne pM mM) hl2 (by omega) (by decide))) rfl rfl ?_
      rintro r _ ⟨T, ⟨rfl, y, rfl, _⟩, rfl⟩
      refine ⟨sT, ?_⟩
      refine WPD.eff0 7 kR rfl (OpE.storeAll rfl rfl pM (by rfl) (by rfl) oN) rfl ?_
      rintro _ _ rfl
      refine ⟨sT, ?_⟩
      refine WPD.eff 8 kR rfl (OpE.ofPure (Op1.assign rfl)) rfl rfl ?_
      rintro _ _ ⟨rfl, rfl⟩
      refine ⟨sT, ?_⟩
      refine WPD.eff 9 kR rfl (OpE.ofPure (Op1.assign rfl)) rfl rfl ?_
      rintro _ _ ⟨rfl, rfl⟩
      refine ⟨sT, ?_⟩
      refine WPD.done kR ?_
    all_goals (
      try refine go ⟨?_⟩
      refine PE.ret3 (T := []) (T' := [Tok.own a1 s.P, Tok.own a2 s.Z, Tok.own a3 s.S]) rfl rV ?_ sT2
      exact ⟨a1, a2, a3, s, x, y, rfl, rfl, sh⟩)
  · try refine go ⟨?_⟩
    refine WP.draw [Tok.blk b5 [a1, a2, a3], Tok.own a1 s.P, Tok.own a2 s.Z, Tok.own a3 s.S] mixed ?_
    refine WPD.take 0 rfl (by first | exact (Op1.load rfl mM (by rfl)) | exact (Op1.loadI rfl rD lT) | exact (Op1.loadAll rfl mM (by rfl)) | exact (Op1.loadE rfl rD lT (by rfl)) | exact (Op1.loadEAgg rfl rD lT (by rfl))) rfl rfl sT kR kR kR xQP ?_
    refine WPD.take 1 rfl (Op1.move rfl) rfl rfl sT kR kR kR xQP ?_
    refine WPD.take 2 rfl (Op1.move rfl) rfl rfl sT kR kR kR xQP ?_
    refine WPD.take 4 rfl (Op1.move rfl) rfl rfl sT kR kR kR xQP ?_
    refine WPD.take 5 rfl (Op1.move rfl) rfl rfl sT kR kR kR xQP ?_
    refine WPD.eff 3 kR rfl (OpE.callT (T := [Tok.blk rb [cv, .int .i64 (0 + 1)]]) lO pM2 (fun w hw => d_pick _ rb cv bs' (0 + 1) s.P.length (Rd.at rD hw) (hw.ne mM hcv) hl2 (by omega) (by omega))) rfl rfl ?_
    rintro r _ ⟨T, ⟨rfl, x, rfl, _, _⟩, rfl⟩
    refine ⟨sT, ?_⟩
    refine WPD.eff 6 kR rfl (OpE.callT (T := [Tok.blk rb [cv, .int .i64 (0 + 1 + 1)]]) lO pM2 (fun w hw => d_pick _ rb cv bs' (0 + 1 + 1) s.P.length (Rd.at rD hw) (hw.ne mM hcv) hl2 (by omega) (by omega))) rfl rfl ?_
    rintro r _ ⟨T, ⟨rfl, y, rfl, _, _⟩, rfl⟩
    refine ⟨sT, ?_⟩
    refine WPD.eff0 7 kR rfl (OpE.storeAll rfl rfl pM (by rfl) (by rfl) oN) rfl ?_
    rintro _ _ rfl
    refine ⟨sT, ?_⟩
    refine WPD.eff 8 kR rfl (OpE.ofPure (Op1.assign rfl)) rfl rfl ?_
    rintro _ _ ⟨rfl, rfl⟩
    refine ⟨sT, ?_⟩
    refine WPD.eff 9 kR rfl (OpE.ofPure (Op1.assign rfl)) rfl rfl ?_
    rintro _ _ ⟨rfl, rfl⟩
    refine ⟨sT, ?_⟩
    refine WPD.done kR ?_
    all_goals (
      try refine go ⟨?_⟩
      refine PE.ret3 (T := []) (T' := [Tok.own a1 s.P, Tok.own a2 s.Z, Tok.own a3 s.S]) rfl rV ?_ sT2
      exact ⟨a1, a2, a3, s, x, y, rfl, rfl, sh⟩)

theorem g_DNew (w : World) (v : Value) (bs : List UInt8) (h : RL w v bs) (hl : bs.length ≤ 9223372036854775807) :
    Tri Try.prog 39 [v] w [] fun r T => T = [] ∧ ∃ n : Int, r = .int .i64 n := by
  refine Tri.intro (hf := Try.func39) (hb := rfl) (hn := Try.ntmps39) (Nat.le_of_ble_eq_true rfl) ?_
  try refine go ⟨?_⟩
  refine WPL.eff (OpE.call lO (fun w hw => d_Open _ v bs (Rd.at rD hw) hl)) rfl rfl ?_
  rintro r _ ⟨T, ⟨rb, rfl, rfl⟩, rfl⟩
  have hcv := h.cvOf
  have hl2 := bsOf_le bs
  generalize cvOf v bs = cv at *
  generalize bsOf bs = bs' at *
  try refine go ⟨?_⟩
  refine WPL.eff (OpE.buildSlice [5, 3, 1, 16, 8, 0, 17, 10, 2, 7] pA rfl (by decide)) rfl rfl ?_; rintro s1 _ rfl
  try refine go ⟨?_⟩
  refine WPL.eff (OpE.callT (T := [Tok.blk rb [cv, .int .i64 0]]) lO pM2 (fun w hw => d_num _ rb cv s1 bs' [5, 3, 1, 16, 8, 0, 17, 10, 2, 7] 0 (Rd.at rD hw) (hw.ne mM hcv) (Rd.at rD hw) (hw.own_ne pM mM) hl2 (by omega) (by decide))) rfl rfl ?_
  rintro r _ ⟨T, ⟨rfl, n, rfl, _⟩, rfl⟩
  try refine go ⟨?_⟩
  refine PE.ret1 (T := []) (T' := []) rfl rV ?_ sT2
  exact ⟨rfl, n, rfl⟩

theorem g_DSetsValid (w : World) (v : Value) (bs : List UInt8) (h : RL w v bs) (hl : bs.length ≤ 9223372036854775807) :
    Tri Try.prog 50 [v] w [] dS := by
  refine Tri.intro (hf := Try.func50) (hb := rfl) (hn := Try.ntmps50) (Nat.le_of_ble_eq_true rfl) ?_
  try refine go ⟨?_⟩
  refine WPL.eff OpE.alloc rfl rfl ?_; rintro _ _ ⟨b2, rfl, rfl⟩
  try refine go ⟨?_⟩
  refine WPL.eff (OpE.call lO (fun w hw => g_SDraw _ v bs (Rd.at rD hw) hl)) rfl rfl ?_
  rintro r _ ⟨T, ⟨a1, a2, a3, s, rfl, rfl, sh⟩, rfl⟩
  try refine go ⟨?_⟩
  refine PE.ret1 (T := []) (T' := [Tok.own a1 s.P, Tok.own a2 s.Z, Tok.own a3 s.S]) rfl rV ?_ sT2
  exact ⟨a1, a2, a3, s, rfl, rfl, sh⟩

theorem g_DFindRoot (w : World) (v : Value) (bs : List UInt8) (h : RL w v bs) (hl : bs.length ≤ 9223372036854775807) :
    Tri Try.prog 53 [v] w [] dSx := by
  refine Tri.intro (hf := Try.func53) (hb := rfl) (hn := Try.ntmps53) (Nat.le_of_ble_eq_true rfl) ?_
  try refine go ⟨?_⟩
  refine WPL.eff OpE.alloc rfl rfl ?_; rintro _ _ ⟨b2, rfl, rfl⟩
  try refine go ⟨?_⟩
  refine WPL.eff (OpE.call lO (fun w hw => g_STwo _ v bs (Rd.at rD hw) hl)) rfl rfl ?_
  rintro r _ ⟨T, ⟨a1, a2, a3, s, x, y, rfl, rfl, sh⟩, rfl⟩
  try refine go ⟨?_⟩
  refine WPL.eff OpE.alloc rfl rfl ?_; rintro _ _ ⟨b4, rfl, rfl⟩
  try refine go ⟨?_⟩
  refine PE.ret2 (T := []) (T' := [Tok.own a1 s.P, Tok.own a2 s.Z, Tok.own a3 s.S]) rfl rV ?_ sT2
  exact ⟨a1, a2, a3, s, x, rfl, rfl, sh⟩

theorem g_DUniteSets (w : World) (v : Value) (bs : List UInt8) (h : RL w v bs) (hl : bs.length ≤ 9223372036854775807) :
    Tri Try.prog 55 [v] w [] dSxy := by
  refine Tri.intro (hf := Try.func55) (hb := rfl) (hn := Try.ntmps55) (Nat.le_of_ble_eq_true rfl) ?_
  try refine go ⟨?_⟩
  refine WPL.eff OpE.alloc rfl rfl ?_; rintro _ _ ⟨b2, rfl, rfl⟩
  try refine go ⟨?_⟩
  refine WPL.eff (OpE.call lO (fun w hw => g_STwo _ v bs (Rd.at rD hw) hl)) rfl rfl ?_
  rintro r _ ⟨T, ⟨a1, a2, a3, s, x, y, rfl, rfl, sh⟩, rfl⟩
  try refine go ⟨?_⟩
  refine PE.ret3 (T := []) (T' := [Tok.own a1 s.P, Tok.own a2 s.Z, Tok.own a3 s.S]) rfl rV ?_ sT2
  exact ⟨a1, a2, a3, s, x, y, rfl, rfl, sh⟩

theorem g_DMembersOf (w : World) (v : Value) (bs : List UInt8) (h : RL w v bs) (hl : bs.length ≤ 9223372036854775807) :
    Tri Try.prog 59 [v] w [] dSx := by
  refine Tri.intro (hf := Try.func59) (hb := rfl) (hn := Try.ntmps59) (Nat.le_of_ble_eq_true rfl) ?_
  try refine go ⟨?_⟩
  refine WPL.eff OpE.alloc rfl rfl ?_; rintro _ _ ⟨b2, rfl, rfl⟩
  try refine go ⟨?_⟩
  refine WPL.eff (OpE.call lO (fun w hw => g_DFindRoot _ v bs (Rd.at rD hw) hl)) rfl rfl ?_
  rintro r _ ⟨T, ⟨a1, a2, a3, s, x, rfl, rfl, sh⟩, rfl⟩
  try refine go ⟨?_⟩
  refine PE.ret2 (T := []) (T' := [Tok.own a1 s.P, Tok.own a2 s.Z, Tok.own a3 s.S]) rfl rV ?_ sT2
  exact ⟨a1, a2, a3, s, x, rfl, rfl, sh⟩

theorem g_DSetsOf (w : World) (v : Value) (bs : List UInt8) (h : RL w v bs) (hl : bs.length ≤ 9223372036854775807) :
    Tri Try.prog 62 [v] w [] dG := by
  refine Tri.intro (hf := Try.func62) (hb := rfl) (hn := Try.ntmps62) (Nat.le_of_ble_eq_true rfl) ?_
  try refine go ⟨?_⟩
  refine WPL.eff OpE.alloc rfl rfl ?_; rintro _ _ ⟨b2, rfl, rfl⟩
  try refine go ⟨?_⟩
  refine WPL.eff (OpE.call lO (fun w hw => g_GraphValid _ v bs (Rd.at rD hw) hl)) rfl rfl ?_
  rintro r _ ⟨T, ⟨v1, n1, es1, rfl, rfl, q1⟩, rfl⟩
  try refine go ⟨?_⟩
  refine PE.ret1 (T := []) (T' := [Tok.own v1 es1]) rfl rV ?_ sT2
  exact ⟨v1, n1, es1, rfl, rfl, q1⟩

theorem y_Sets (w : World) (aP aZ aS bP bZ bS : Value) (s t : SS) (h1 : RL w aP s.P) (h2 : RL w aZ s.Z) (h3 : RL w aS s.S) (h4 : RL w bP t.P) (h5 : RL w bZ t.Z) (h6 : RL w bS t.S)
    (l1 : s.P.length ≤ 1000000) (l2 : s.Z.length ≤ 1000000) (l3 : s.S.length ≤ 1000000) (l4 : t.P.length ≤ 1000000) (l5 : t.Z.length ≤ 1000000) (l6 : t.S.length ≤ 1000000) :
    Tri Try.prog 42 [setV aP aZ aS, setV bP bZ bS] w [] fun r T => T = [] ∧ r = .bool (decide (s = t)) := by
  have bad : ¬ s = t → Value.bool false = .bool (decide (s = t)) := fun h => by rw [decide_eq_false h]
  refine Tri.intro (hf := Try.func42) (hb := rfl) (hn := Try.ntmps42) (Nat.le_of_ble_eq_true rfl) ?_
  try refine go ⟨?_⟩
  refine WPL.eff (OpE.box rfl) rfl rfl ?_; rintro _ _ ⟨b, rfl, rfl⟩
  refine WPL.eff (OpE.box rfl) rfl rfl ?_; rintro _ _ ⟨b2, rfl, rfl⟩
  try refine go ⟨?_⟩
  refine WPL.eff (OpE.call lO (fun w hw => y_Ints _ aP bP s.P t.P (Rd.at rD hw) (Rd.at rD hw) (by omega) (by omega))) rfl rfl ?_
  rintro _ _ ⟨T, ⟨rfl, rfl⟩, rfl⟩
  by_cases eP : s.P = t.P
  case neg =>
    rw [decide_eq_false eP]
    try refine go ⟨?_⟩
    refine PE.ret1 (T := []) (T' := []) rfl rV ?_ sT
    exact ⟨rfl, bad fun h => eP (by rw [h])⟩
  rw [decide_eq_true eP]
  try refine go ⟨?_⟩
  refine WPL.eff (OpE.call lO (fun w hw => y_Ints _ aZ bZ s.Z t.Z (Rd.at rD hw) (Rd.at rD hw) (by omega) (by omega))) rfl rfl ?_
  rintro _ _ ⟨T, ⟨rfl, rfl⟩, rfl⟩
  by_cases eZ : s.Z = t.Z
  case neg =>
    rw [decide_eq_false eZ]
    try refine go ⟨?_⟩
    refine PE.ret1 (T := []) (T' := []) rfl rV ?_ sT
    exact ⟨rfl, bad fun h => eZ (by rw [h])⟩
  rw [decide_eq_true eZ]
  try refine go ⟨?_⟩
  by_cases e3 : s.S.length = t.S.length
  case neg =>
    rw [decide_eq_true (show ((s.S.length : Nat) : Int) ≠ (t.S.length : Nat) by omega)]
    try refine go ⟨?_⟩
    refine PE.ret1 (T := []) (T' := []) rfl rV ?_ sT
    exact ⟨rfl, bad fun h => e3 (by rw [h])⟩
  rw [decide_eq_false (show ¬ ((s.S.length : Nat) : Int) ≠ (t.S.length : Nat) by omega)]
  try refine go ⟨?_⟩
  refine WP.loop (σ := Nat) (fun k => [(2, ptrV b), (3, ptrV b2), (5, .int .i64 k)]) (fun _ => [Tok.blk b [aP, aZ, aS], Tok.blk b2 [bP, bZ, bS]]) (fun k => k ≤ s.S.length ∧ ∀ m, m < k → s.S.getD m eD = t.S.getD m eD) (fun k => s.S.length - k) 0 ⟨Nat.zero_le _, by omega⟩ sE sT2 ?_
  rintro k ⟨hk, hm⟩
  try refine go ⟨?_⟩
  refine WP.condD rfl (fun hc => ?_) (fun hc => ?_)
  · have hk' : k < s.S.length := by omega
    try refine go ⟨?_⟩
    refine WP.draw [Tok.blk b [aP, aZ, aS], Tok.blk b2 [bP, bZ, bS]] mixed ?_
    refine WPD.take 0 rfl (by first | exact (Op1.fieldAddr rfl) | exact (Op1.fieldAddrE rfl rD lT)) rfl rfl sT kR kR kR xQP ?_
    refine WPD.take 2 rfl (Op1.move rfl) rfl rfl sT kR kR kR xQP ?_
    refine WPD.take 5 rfl (by first | exact (Op1.fieldAddr rfl) | exact (Op1.fieldAddrE rfl rD lT)) rfl rfl sT kR kR kR xQP ?_
    refine WPD.take 7 rfl (Op1.move rfl) rfl rfl sT kR kR kR xQP ?_
    refine WPD.take 1 rfl (by first | exact (Op1.load rfl mM (by rfl)) | exact (Op1.loadI rfl rD lT) | exact (Op1.loadAll rfl mM (by rfl)) | exact (Op1.loadE rfl rD lT (by rfl)) | exact (Op1.loadEAgg rfl rD lT (by rfl))) rfl rfl sT kR kR kR xQP ?_
    refine WPD.take 6 rfl (by first | exact (Op1.load rfl mM (by rfl)) | exact (Op1.loadI rfl rD lT) | exact (Op1.loadAll rfl mM (by rfl)) | exact (Op1.loadE rfl rD lT (by rfl)) | exact (Op1.loadEAgg rfl rD lT (by rfl))) rfl rfl sT kR kR kR xQP ?_
    refine WPD.take 3 rfl (by first | exact (Op1.indexAddr rfl rfl rD lT) | exact (Op1.indexAddrZ rfl rfl rD lT)) rfl rfl sT kR kR kR xQP ?_
    refine WPD.take 8 rfl (by first | exact (Op1.indexAddr rfl rfl rD lT) | exact (Op1.indexAddrZ rfl rfl rD lT)) rfl rfl sT kR kR kR xQP ?_
    refine WPD.take 4 rfl (by first | exact (Op1.load rfl mM (by rfl)) | exact (Op1.loadI rfl rD lT) | exact (Op1.loadAll rfl mM (by rfl)) | exact (Op1.loadE rfl rD lT (by rfl)) | exact (Op1.loadEAgg rfl rD lT (by rfl))) rfl rfl sT kR kR kR xQP ?_
    refine WPD.take 9 rfl (by first | exact (Op1.load rfl mM (by rfl)) | exact (Op1.loadI rfl rD lT) | exact (Op1.loadAll rfl mM (by rfl)) | exact (Op1.loadE rfl rD lT (by rfl)) | exact (Op1.loadEAgg rfl rD lT (by rfl))) rfl rfl sT kR kR kR xQP ?_
    refine WPD.take 10 rfl (by first | exact (Op1.neI rfl rfl) | exact (Op1.neB rfl rfl) | exact (Op1.neE rfl rfl)) rfl rfl sT kR kR kR xQP ?_
    refine WPD.done kR ?_
    try refine go ⟨?_⟩
    refine WP.condD rfl (fun hc3 => ?_) (fun hc3 => ?_)
    · have hc3 : s.S.getD k eD ≠ t.S.getD k eD := hc3
      try refine go ⟨?_⟩
      refine PE.ret1 (T := []) (T' := []) rfl rV ?_ sT
      exact ⟨rfl, bad fun h => hc3 (by rw [h])⟩
    · have hc3 : ¬ s.S.getD k eD ≠ t.S.getD k eD := hc3
      try refine go ⟨?_⟩
      refine PE.again (k + 1) ?_ ?_ sE sT2
      · exact ⟨by omega, fun m hm' => by
          rcases Nat.lt_succ_iff_lt_or_eq.1 hm' with h' | rfl
          · exact hm m h'
          · exact Decidable.not_not.1 hc3⟩
      · (try dsimp only); omega
  · try refine go ⟨?_⟩
    refine PE.ret1 (T := []) (T' := []) rfl rV ?_ sT
    refine ⟨rfl, ?_⟩
    rw [decide_eq_true]
    exact SS.ext_iff'.2 ⟨eP, eZ, list_eqE e3 fun i hi => hm i (by omega)⟩
end Go.Proofs.Ythlgbeakcobeoaa
/- Sets: plain facts that the laws ask for. Conditions: none. -/
namespace Go.Proofs.Ythlgbeakcobeoaa
open Go
theorem sself (s : SS) : decide (s = s) = true := decide_eq_true rfl
theorem iself (s : Int) : decide (s = s) = true := decide_eq_true rfl
theorem iself' (s : Int) : decide (s ≠ s) = false := decide_eq_false fun h => h rfl
theorem lself (s : List Int) : decide (s = s) = true := decide_eq_true rfl
theorem beqs (p : Bool) : (p == p) = true := by cases p <;> rfl
theorem bnes (p : Bool) : (p != p) = false := by cases p <;> rfl
theorem nsS_short (n : Int) : (nsS n).P.length ≤ 16 ∧ (nsS n).Z.length ≤ 16 ∧ (nsS n).S.length = 0 := by
  unfold nsS
  split
  · simp [newS]; omega
  · simp
theorem UNok_symm (s : SS) (x y : Int) : UNok s x y ↔ UNok s y x := by unfold UNok; exact ⟨fun h => ⟨h.2.1, h.1, h.2.2⟩, fun h => ⟨h.2.1, h.1, h.2.2⟩⟩
theorem uniR_symm (s : SS) (x y : Int) : uniR s x y = uniR s y x := by
  unfold uniR
  by_cases h : UNok s x y
  · rw [if_pos h, if_pos ((UNok_symm s x y).1 h), uni_symm]
  · rw [if_neg h, if_neg fun h' => h ((UNok_symm s x y).2 h')]
theorem UNok_dec (s : SS) (x y : Int) : decide (UNok s y x) = decide (UNok s x y) := decide_eq_decide.2 (UNok_symm s y x)
theorem SV.short {s : SS} (h : SV s) : s.P.length ≤ 16 ∧ s.Z.length ≤ 16 ∧ s.S.length ≤ 100 := by
  have := h.inv.lz
  have := h.inv.cs
  have := h.le
  omega
theorem UNok.uni {s : SS} {x y : Int} (h : UNok s x y) : SV (Proofs.Ythlgbeakcobeoaa.uni s x y) ∧ (Proofs.Ythlgbeakcobeoaa.uni s x y).P.length = s.P.length ∧ (Proofs.Ythlgbeakcobeoaa.uni s x y).S = s.S ++ [unS s x y] ∧ lb (Proofs.Ythlgbeakcobeoaa.uni s x y) = lbStep (lb s) (unS s x y) := uni_inv h.1.sv h.1.nd h.2.1.nd h.2.2
theorem uniR_short (s : SS) (x y : Int) : (uniR s x y).P.length ≤ 16 ∧ (uniR s x y).Z.length ≤ 16 ∧ (uniR s x y).S.length ≤ 100 := by
  unfold uniR
  split
  · rename_i h; exact h.uni.1.short
  · exact ⟨by simp [noSS], by simp [noSS], by simp [noSS]⟩
theorem ofR_short (n : Int) (es : List E) : (ofR n es).P.length ≤ 16 ∧ (ofR n es).Z.length ≤ 16 ∧ (ofR n es).S.length ≤ 100 := by
  unfold ofR
  split
  · rename_i h
    exact (ofS_spec (n := n.toNat) (by have := h.1; omega) (by have := h.2.1; omega) es (by rw [Int.toNat_of_nonneg (by have := h.1; omega)]; exact h.okE) (by have := h.2.2.1; omega)).1.short
  · exact ⟨by simp [noSS], by simp [noSS], by simp [noSS]⟩
theorem mem_len (s : SS) (x : Int) : (mem s x).length ≤ s.P.length := mbs_le _ _ _
theorem mem_mem {s : SS} {x y : Int} : y ∈ mem s x ↔ Nd s.P.length y ∧ (lb s).getD y.toNat 0 = (lb s).getD x.toNat 0 := mem_mbs
theorem newS_P (m : Nat) : (newS m).P.length = m := by simp [newS]
theorem EL_new {m k : Nat} (h1 : 1 ≤ m) (h2 : m ≤ 16) (hk : k < m) : EL (newS m) k := ⟨newS_SV h1 h2, by omega, by rw [newS_P]; omega⟩
theorem lb_new {m k : Nat} (hk : k < m) : (lb (newS m)).getD ((k : Int)).toNat 0 = k := by rw [newS_lb, Int.toNat_natCast, iota_get hk]
theorem mem_new {m k : Nat} (hk : k < m) : (mem (newS m) k).length = 1 := by
  unfold mem; rw [lb_new hk, newS_lb, newS_P]; exact mbs_iota hk
theorem EL_root {s : SS} {x : Int} (h : EL s x) : EL s ((lb s).getD x.toNat 0) ∧ (lb s).getD ((lb s).getD x.toNat 0).toNat 0 = (lb s).getD x.toNat 0 ∧ s.P.getD ((lb s).getD x.toNat 0).toNat 0 = -1 ∧ s.Z.getD ((lb s).getD x.toNat 0).toNat 0 = (mem s x).length := by
  have hr := h.sv.inv.root h.nd
  obtain ⟨h1, h2, h3⟩ := h.sv.inv.of_root hr
  exact ⟨⟨h.sv, h3⟩, h1, hr.2.2, by rw [h2]; rfl⟩
end Go.Proofs.Ythlgbeakcobeoaa
