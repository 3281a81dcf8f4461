/- The second program's drawn graphs, once more. Conditions: those of each contract. -/
import Derived.Test.YthlgbeakcobeoaaDrwG
namespace Go.Proofs.Ythlgbeakcobeoaa
open Go
set_option linter.unusedVariables false set_option linter.unusedSimpArgs false attribute [local irreducible] Tok.own Tok.blk RL Rd eptr WP WPL PE WPD WPO Op1 OpE Tri Again Mid Exit.then Exit.inBlock bodyPost RP Code.wp wpList isOwn OneM One
set_option maxHeartbeats 8000000

theorem g_Wrong (w : World) (rb : Nat) (cv : Value) (bs : List UInt8) (p n : Int) (vE : Value) (es : List E) (h : RL w cv bs) (hd : ∀ b ∈ vfp cv, b ≠ rb) (hE : RL w vE es) (hdE : ∀ b ∈ vfp vE, b ≠ rb) (hl : bs.length ≤ 2000) (hp : 0 ≤ p ∧ p ≤ 900000) (hle : es.length ≤ 1000) :
    Tri Try.prog 126 [ptrV rb, .agg #[.int .i64 n, vE]] w [Tok.blk rb [cv, .int .i64 p]] fun r T => ∃ v n' p', ∃ es' : List E, r = .agg #[.int .i64 n', v] ∧ T = [Tok.own v es', Tok.blk rb [cv, .int .i64 p']] ∧ es'.length ≤ es.length + 1 ∧ 0 ≤ p' ∧ p' ≤ p + 5 ∧ (n ≤ 17 → n' ≤ 17) := by
  have hA : RdA ⟨55, w, fps [Tok.blk rb [cv, .int .i64 p]]⟩ cv bs := RdA.mk h (fun b hb => by
    have := hd b hb
    rw [fps_blk]; simpa using this)
  have hA2 : RdA ⟨55, w, fps [Tok.blk rb [cv, .int .i64 p]]⟩ vE es := RdA.mk hE (fun b hb => by
    have := hdE b hb
    rw [fps_blk]; simpa using this)
  refine Tri.intro (hf := Try.func126) (hb := rfl) (hn := Try.ntmps126) (Nat.le_of_ble_eq_true rfl) ?_
  try refine goA ⟨?_⟩
  refine WPL.eff (OpE.box rfl) rfl rfl ?_; rintro _ _ ⟨b, rfl, rfl⟩
  refine WPL.eff OpE.alloc rfl rfl ?_; rintro _ _ ⟨br, rfl, rfl⟩
  try refine goA ⟨?_⟩
  refine WPL.eff (OpE.callT (T := []) lO pM2 (fun w hw => g_Copy _ n vE es (Rd.at rDA hw) (by omega))) rfl rfl ?_
  rintro r _ ⟨T, ⟨v, rfl, rfl⟩, rfl⟩
  try refine goA ⟨?_⟩
  refine WPL.eff OpE.alloc rfl rfl ?_; rintro _ _ ⟨bo, rfl, rfl⟩
  try refine goA ⟨?_⟩
  refine WPL.eff (OpE.callT (T := [Tok.blk rb [cv, .int .i64 p]]) lO pM2 (fun w hw => d_pick _ rb cv bs p 16 (Rd.at rDA hw) hd hl (by omega) (by omega))) rfl rfl ?_
  rintro r _ ⟨T, ⟨rfl, k, rfl, _, _⟩, rfl⟩
  repeat' (first | exact absurd rfl hc | refine goA ⟨?_⟩ | (refine isCond ?_; refine WP.condD rfl (fun hc => ?_) (fun hc => ?_)) | (refine isGuard ?_; refine WPL.splitD rfl rfl (fun hc => ?_) (fun hc => ?_)))
  · refine PE.ret1 (T := [Tok.blk rb [cv, .int .i64 p]]) (T' := [Tok.own v es, Tok.blk rb [cv, .int .i64 (p + 1)]]) rfl rV ?_ sT2
    exact ⟨v, n, _, es, rfl, rfl, by omega, by omega, by omega, by omega⟩
  · refine PE.ret1 (T := [Tok.blk rb [cv, .int .i64 p]]) (T' := [Tok.own v es, Tok.blk rb [cv, .int .i64 (p + 1)]]) rfl rV ?_ sT2
    exact ⟨v, n, _, es, rfl, rfl, by omega, by omega, by omega, by omega⟩
  refine WPL.eff (OpE.callT (T := [Tok.blk rb [cv, .int .i64 (p + 1)]]) lO pM2 (fun w hw => d_pick _ rb cv bs (p + 1) es.length (Rd.at rDA hw) hd hl (by omega) (by omega))) rfl rfl ?_
  rintro r _ ⟨T, ⟨rfl, i, rfl, i0, i1⟩, rfl⟩
  have i2 := i1 (by omega)
  try refine goA ⟨?_⟩
  refine WPL.eff (OpE.callT (T := [Tok.blk rb [cv, .int .i64 (p + 1 + 1)]]) lO pM2 (fun w hw => d_pick _ rb cv bs (p + 1 + 1) 5 (Rd.at rDA hw) hd hl (by omega) (by omega))) rfl rfl ?_
  rintro r _ ⟨T, ⟨rfl, j, rfl, _, _⟩, rfl⟩
  repeat' (first | exact absurd rfl hc | refine goA ⟨?_⟩ | (refine isCond ?_; refine WP.condD rfl (fun hc => ?_) (fun hc => ?_)) | (refine isGuard ?_; refine WPL.splitD rfl rfl (fun hc => ?_) (fun hc => ?_)))
  · refine WP.draw [Tok.blk bo [.int .i64 n, v]] mixed ?_
    refine WPD.take 0 rfl (by first | exact (Op1.fieldAddr rfl) | exact (Op1.fieldAddrE rfl rDA lT)) rfl rfl sT kR kR kR xQP ?_
    refine WPD.take 2 rfl (Op1.move rfl) rfl rfl sT kR kR kR xQP ?_
    refine WPD.take 3 rfl (Op1.move rfl) rfl rfl sT kR kR kR xQP ?_
    refine WPD.take 1 rfl (by first | exact (Op1.load rfl mM (by rfl)) | exact (Op1.loadI rfl rDA lT) | exact (Op1.loadAll rfl mM (by rfl)) | exact (Op1.loadE rfl rDA lT (by rfl)) | exact (Op1.loadEAgg rfl rDA lT (by rfl))) rfl rfl sT kR kR kR xQP ?_
    refine WPD.eff 4 kR rfl (OpE.buildSlice (([16, -1, 0] : List Int)) pA rfl (by decide)) rfl rfl ?_
    rintro s _ rfl
    refine ⟨sT, ?_⟩
    refine WPD.eff 5 kR rfl (OpE.callT (T := [Tok.blk rb [cv, .int .i64 (p + 1 + 1 + 1)]]) lO pM2 (fun w hw => d_num _ rb cv s bs [16, -1, 0] (p + 1 + 1 + 1) (Rd.at rDA hw) hd (Rd.at rDA hw) (hw.own_ne pM mM) hl (by omega) (by decide))) rfl rfl ?_
    rintro r _ ⟨T, ⟨rfl, z, rfl, _⟩, rfl⟩
    refine ⟨sT, ?_⟩
    refine WPD.eff 6 kR rfl (OpE.ofPure (by first | exact (Op1.indexAddr rfl rfl rDA lT) | exact (Op1.indexAddrZ rfl rfl rDA lT))) rfl rfl ?_
    rintro _ _ ⟨eP, rfl⟩; have eP := eP.symm; subst eP
    refine ⟨sT, ?_⟩
    refine WPD.eff 7 kR rfl (OpE.ofPure (by first | exact (Op1.fieldAddr rfl) | exact (Op1.fieldAddrE rfl rDA lT))) rfl rfl ?_
    rintro _ _ ⟨eP, rfl⟩; have eP := eP.symm; subst eP
    refine ⟨sT, ?_⟩
    refine WPD.eff0 8 kR rfl (OpE.storeF (r := 1) (⟨(es.getD i.toNat eD).A, z⟩ : E) rfl rfl pM2 lT (by decide) oN rfl (by rfl)) rfl ?_
    rintro _ _ rfl
    refine ⟨sT, ?_⟩
    refine WPD.done kR ?_
    all_goals (
      try refine goA ⟨?_⟩
      refine PE.ret1 (T := [Tok.blk rb [cv, .int .i64 p]]) (T' := [Tok.own v (es.set i.toNat ⟨(es.getD i.toNat eD).A, z⟩), Tok.blk rb [cv, .int .i64 (p + 1 + 1 + 1 + 1)]]) rfl rV ?_ sT2
      exact ⟨v, n, _, _, rfl, rfl, by rw [List.length_set]; omega, by omega, by omega, by omega⟩)
  · refine WPL.eff (OpE.buildSlice [0, 17, 1] pA rfl (by decide)) rfl rfl ?_; rintro s _ rfl
    try refine goA ⟨?_⟩
    refine WPL.eff (OpE.callT (T := [Tok.blk rb [cv, .int .i64 (p + 1 + 1 + 1)]]) lO pM2 (fun w hw => d_num _ rb cv s bs [0, 17, 1] (p + 1 + 1 + 1) (Rd.at rDA hw) hd (Rd.at rDA hw) (hw.own_ne pM mM) hl (by omega) (by decide))) rfl rfl ?_
    rintro r _ ⟨T, ⟨rfl, z, rfl, hz⟩, rfl⟩
    have hz1 : z ≤ 17 := by
      simp only [List.mem_cons, List.mem_nil_iff, or_false] at hz
      omega
    try refine goA ⟨?_⟩
    refine PE.ret1 (T := [Tok.blk rb [cv, .int .i64 p]]) (T' := [Tok.own v es, Tok.blk rb [cv, .int .i64 (p + 1 + 1 + 1 + 1)]]) rfl rV ?_ sT2
    exact ⟨v, z, _, _, rfl, rfl, by omega, by omega, by omega, by omega⟩
  · refine WP.draw [Tok.blk rb [cv, .int .i64 (p + 1 + 1 + 1)]] mixed ?_
    refine WPD.take 0 rfl (by first | exact (Op1.fieldAddr rfl) | exact (Op1.fieldAddrE rfl rDA lT)) rfl rfl sT kR kR kR xQP ?_
    refine WPD.take 2 rfl (by first | exact (Op1.fieldAddr rfl) | exact (Op1.fieldAddrE rfl rDA lT)) rfl rfl sT kR kR kR xQP ?_
    refine WPD.take 4 rfl (Op1.move rfl) rfl rfl sT kR kR kR xQP ?_
    refine WPD.two 1 3 kR ?e13_1 ?e13_3
    case' e13_1 =>
      refine WPO.eff rfl (OpE.ofPure (by first | exact (Op1.load rfl mM (by rfl)) | exact (Op1.loadI rfl rDA lT) | exact (Op1.loadAll rfl mM (by rfl)) | exact (Op1.loadE rfl rDA lT (by rfl)) | exact (Op1.loadEAgg rfl rDA lT (by rfl)))) rfl rfl ?_
      rintro _ _ ⟨eP, rfl⟩; have eP := eP.symm; subst eP
      refine ⟨sT, ?_⟩
      refine WPD.eff 3 kR rfl (OpE.ofPure (by first | exact (Op1.load rfl mM (by rfl)) | exact (Op1.loadI rfl rDA lT) | exact (Op1.loadAll rfl mM (by rfl)) | exact (Op1.loadE rfl rDA lT (by rfl)) | exact (Op1.loadEAgg rfl rDA lT (by rfl)))) rfl rfl ?_
      rintro _ _ ⟨eP, rfl⟩; have eP := eP.symm; subst eP
      refine ⟨sT, ?_⟩
      refine WPD.eff 5 kR rfl (OpE.ofPure (by first | exact (Op1.indexAddr rfl rfl rDA lT) | exact (Op1.indexAddrZ rfl rfl rDA lT))) rfl rfl ?_
      rintro _ _ ⟨eP, rfl⟩; have eP := eP.symm; subst eP
      refine ⟨sT, ?_⟩
      refine WPD.eff 6 kR rfl (OpE.ofPure (by first | exact (Op1.load rfl mM (by rfl)) | exact (Op1.loadI rfl rDA lT) | exact (Op1.loadAll rfl mM (by rfl)) | exact (Op1.loadE rfl rDA lT (by rfl)) | exact (Op1.loadEAgg rfl rDA lT (by rfl)))) rfl rfl ?_
      rintro _ _ ⟨eP, rfl⟩; have eP := eP.symm; subst eP
      refine ⟨sT, ?_⟩
      refine WPD.eff 7 kR rfl (OpE.buildSlice ([es.getD i.toNat eD]) pA rfl (by decide)) rfl rfl ?_
      rintro s _ rfl
      refine ⟨sT, ?_⟩
      refine WPD.eff 8 kR rfl (OpE.append rfl rfl pM rDA lN) rfl rfl ?_
      rintro v2 _ rfl
      refine ⟨sT, ?_⟩
      refine WPD.take 9 rfl (by first | exact (Op1.fieldAddr rfl) | exact (Op1.fieldAddrE rfl rDA lT)) rfl rfl sT kR kR kR xQP ?_
      refine WPD.eff0 10 kR rfl (OpE.store rfl rfl pM (by rfl) oN) rfl ?_
      rintro _ _ rfl
      refine ⟨sT, ?_⟩
      refine WPD.done kR ?_
    case' e13_3 =>
      refine WPO.eff rfl (OpE.ofPure (by first | exact (Op1.load rfl mM (by rfl)) | exact (Op1.loadI rfl rDA lT) | exact (Op1.loadAll rfl mM (by rfl)) | exact (Op1.loadE rfl rDA lT (by rfl)) | exact (Op1.loadEAgg rfl rDA lT (by rfl)))) rfl rfl ?_
      rintro _ _ ⟨eP, rfl⟩; have eP := eP.symm; subst eP
      refine ⟨sT, ?_⟩
      refine WPD.two 1 5 kR ?e14_1 ?e14_5
      case' e14_1 =>
        refine WPO.eff rfl (OpE.ofPure (by first | exact (Op1.load rfl mM (by rfl)) | exact (Op1.loadI rfl rDA lT) | exact (Op1.loadAll rfl mM (by rfl)) | exact (Op1.loadE rfl rDA lT (by rfl)) | exact (Op1.loadEAgg rfl rDA lT (by rfl)))) rfl rfl ?_
        rintro _ _ ⟨eP, rfl⟩; have eP := eP.symm; subst eP
        refine ⟨sT, ?_⟩
        refine WPD.eff 5 kR rfl (OpE.ofPure (by first | exact (Op1.indexAddr rfl rfl rDA lT) | exact (Op1.indexAddrZ rfl rfl rDA lT))) rfl rfl ?_
        rintro _ _ ⟨eP, rfl⟩; have eP := eP.symm; subst eP
        refine ⟨sT, ?_⟩
        refine WPD.eff 6 kR rfl (OpE.ofPure (by first | exact (Op1.load rfl mM (by rfl)) | exact (Op1.loadI rfl rDA lT) | exact (Op1.loadAll rfl mM (by rfl)) | exact (Op1.loadE rfl rDA lT (by rfl)) | exact (Op1.loadEAgg rfl rDA lT (by rfl)))) rfl rfl ?_
        rintro _ _ ⟨eP, rfl⟩; have eP := eP.symm; subst eP
        refine ⟨sT, ?_⟩
        refine WPD.eff 7 kR rfl (OpE.buildSlice ([es.getD i.toNat eD]) pA rfl (by decide)) rfl rfl ?_
        rintro s _ rfl
        refine ⟨sT, ?_⟩
        refine WPD.eff 8 kR rfl (OpE.append rfl rfl pM rDA lN) rfl rfl ?_
        rintro v2 _ rfl
        refine ⟨sT, ?_⟩
        refine WPD.take 9 rfl (by first | exact (Op1.fieldAddr rfl) | exact (Op1.fieldAddrE rfl rDA lT)) rfl rfl sT kR kR kR xQP ?_
        refine WPD.eff0 10 kR rfl (OpE.store rfl rfl pM (by rfl) oN) rfl ?_
        rintro _ _ rfl
        refine ⟨sT, ?_⟩
        refine WPD.done kR ?_
      case' e14_5 =>
        refine WPO.eff rfl (OpE.ofPure (by first | exact (Op1.indexAddr rfl rfl rDA lT) | exact (Op1.indexAddrZ rfl rfl rDA lT))) rfl rfl ?_
        rintro _ _ ⟨eP, rfl⟩; have eP := eP.symm; subst eP
        refine ⟨sT, ?_⟩
        refine WPD.two 1 6 kR ?e15_1 ?e15_6
        case' e15_1 =>
          refine WPO.eff rfl (OpE.ofPure (by first | exact (Op1.load rfl mM (by rfl)) | exact (Op1.loadI rfl rDA lT) | exact (Op1.loadAll rfl mM (by rfl)) | exact (Op1.loadE rfl rDA lT (by rfl)) | exact (Op1.loadEAgg rfl rDA lT (by rfl)))) rfl rfl ?_
          rintro _ _ ⟨eP, rfl⟩; have eP := eP.symm; subst eP
          refine ⟨sT, ?_⟩
          refine WPD.eff 6 kR rfl (OpE.ofPure (by first | exact (Op1.load rfl mM (by rfl)) | exact (Op1.loadI rfl rDA lT) | exact (Op1.loadAll rfl mM (by rfl)) | exact (Op1.loadE rfl rDA lT (by rfl)) | exact (Op1.loadEAgg rfl rDA lT (by rfl)))) rfl rfl ?_
          rintro _ _ ⟨eP, rfl⟩; have eP := eP.symm; subst eP
          refine ⟨sT, ?_⟩
          refine WPD.eff 7 kR rfl (OpE.buildSlice ([es.getD i.toNat eD]) pA rfl (by decide)) rfl rfl ?_
          rintro s _ rfl
          refine ⟨sT, ?_⟩
          refine WPD.eff 8 kR rfl (OpE.append rfl rfl pM rDA lN) rfl rfl ?_
          rintro v2 _ rfl
          refine ⟨sT, ?_⟩
          refine WPD.take 9 rfl (by first | exact (Op1.fieldAddr rfl) | exact (Op1.fieldAddrE rfl rDA lT)) rfl rfl sT kR kR kR xQP ?_
          refine WPD.eff0 10 kR rfl (OpE.store rfl rfl pM (by rfl) oN) rfl ?_
          rintro _ _ rfl
          refine ⟨sT, ?_⟩
          refine WPD.done kR ?_
        case' e15_6 =>
          refine WPO.eff rfl (OpE.ofPure (by first | exact (Op1.load rfl mM (by rfl)) | exact (Op1.loadI rfl rDA lT) | exact (Op1.loadAll rfl mM (by rfl)) | exact (Op1.loadE rfl rDA lT (by rfl)) | exact (Op1.loadEAgg rfl rDA lT (by rfl)))) rfl rfl ?_
          rintro _ _ ⟨eP, rfl⟩; have eP := eP.symm; subst eP
          refine ⟨sT, ?_⟩
          refine WPD.two 1 7 kR ?e16_1 ?e16_7
          case' e16_1 =>
            refine WPO.eff rfl (OpE.ofPure (by first | exact (Op1.load rfl mM (by rfl)) | exact (Op1.loadI rfl rDA lT) | exact (Op1.loadAll rfl mM (by rfl)) | exact (Op1.loadE rfl rDA lT (by rfl)) | exact (Op1.loadEAgg rfl rDA lT (by rfl)))) rfl rfl ?_
            rintro _ _ ⟨eP, rfl⟩; have eP := eP.symm; subst eP
            refine ⟨sT, ?_⟩
            refine WPD.eff 7 kR rfl (OpE.buildSlice ([es.getD i.toNat eD]) pA rfl (by decide)) rfl rfl ?_
            rintro s _ rfl
            refine ⟨sT, ?_⟩
            refine WPD.eff 8 kR rfl (OpE.append rfl rfl pM rDA lN) rfl rfl ?_
            rintro v2 _ rfl
            refine ⟨sT, ?_⟩
            refine WPD.take 9 rfl (by first | exact (Op1.fieldAddr rfl) | exact (Op1.fieldAddrE rfl rDA lT)) rfl rfl sT kR kR kR xQP ?_
            refine WPD.eff0 10 kR rfl (OpE.store rfl rfl pM (by rfl) oN) rfl ?_
            rintro _ _ rfl
            refine ⟨sT, ?_⟩
            refine WPD.done kR ?_
          case' e16_7 =>
            refine WPO.eff rfl (OpE.buildSlice ([es.getD i.toNat eD]) pA rfl (by decide)) rfl rfl ?_
            rintro s _ rfl
            refine ⟨sT, ?_⟩
            refine WPD.eff 1 kR rfl (OpE.ofPure (by first | exact (Op1.load rfl mM (by rfl)) | exact (Op1.loadI rfl rDA lT) | exact (Op1.loadAll rfl mM (by rfl)) | exact (Op1.loadE rfl rDA lT (by rfl)) | exact (Op1.loadEAgg rfl rDA lT (by rfl)))) rfl rfl ?_
            rintro _ _ ⟨eP, rfl⟩; have eP := eP.symm; subst eP
            refine ⟨sT, ?_⟩
            refine WPD.eff 8 kR rfl (OpE.append rfl rfl pM rDA lN) rfl rfl ?_
            rintro v2 _ rfl
            refine ⟨sT, ?_⟩
            refine WPD.take 9 rfl (by first | exact (Op1.fieldAddr rfl) | exact (Op1.fieldAddrE rfl rDA lT)) rfl rfl sT kR kR kR xQP ?_
            refine WPD.eff0 10 kR rfl (OpE.store rfl rfl pM (by rfl) oN) rfl ?_
            rintro _ _ rfl
            refine ⟨sT, ?_⟩
            refine WPD.done kR ?_
    all_goals (
      try refine goA ⟨?_⟩
      refine PE.ret1 (T := [Tok.blk rb [cv, .int .i64 p]]) (T' := [Tok.own v2 (es ++ [es.getD i.toNat eD]), Tok.blk rb [cv, .int .i64 (p + 1 + 1 + 1)]]) rfl rV ?_ sT2
      exact ⟨v2, n, _, _, rfl, rfl, by rw [List.length_append, List.length_singleton]; omega, by omega, by omega, by omega⟩)
  · refine PE.ret1 (T := [Tok.blk rb [cv, .int .i64 p]]) (T' := [Tok.own v es, Tok.blk rb [cv, .int .i64 (p + 1 + 1 + 1)]]) rfl rV ?_ sT2
    exact ⟨v, n, _, es, rfl, rfl, by omega, by omega, by omega, by omega⟩
end Go.Proofs.Ythlgbeakcobeoaa
