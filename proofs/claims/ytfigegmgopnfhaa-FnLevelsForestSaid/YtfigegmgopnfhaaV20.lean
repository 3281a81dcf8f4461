/- Texts put together: DrwH, DrwO. Conditions: those of each theorem. -/
import Derived.Test.YtfigegmgopnfhaaV3
set_option linter.unusedVariables false
set_option linter.unusedSimpArgs false
/- The second program's drawn graphs, once more. Conditions: those of each contract. -/
namespace Go.Proofs.Ytfigegmgopnfhaa
open Go
set_option linter.unusedVariables false set_option linter.unusedSimpArgs false attribute [local irreducible] Tok.own Tok.blk RL Rd eptr WP WPL PE WPD WPO Op1 OpE Tri Again Mid Exit.then Exit.inBlock bodyPost RP Code.wp wpList isOwn OneM One
set_option maxHeartbeats 8000000

end Go.Proofs.Ytfigegmgopnfhaa
/- The second program's drawn graphs: their nodes. Conditions: those of each contract. -/
namespace Go.Proofs.Ytfigegmgopnfhaa
open Go
theorem mem_insP {es : List E} {e f : E} (h : f ∈ insP es e) : f = e ∨ f ∈ es := by
  unfold insP at h
  rcases List.mem_append.1 h with h | h
  · exact .inr (List.takeWhile_sublist _ |>.subset h)
  · rcases List.mem_cons.1 h with h | h
    · exact .inl h
    · exact .inr (List.dropWhile_sublist _ |>.subset h)
theorem okE_insP {n : Int} {es : List E} {e : E} {x y : Int} (h : okE n es) (he : e = ⟨x, y⟩ ∨ e = ⟨y, x⟩) (hx : Nd n x) (hy : Nd n y) : okE n (insP es e) := fun f hf => by
  rcases mem_insP hf with rfl | hf
  · rcases he with rfl | rfl
    · exact ⟨hx, hy⟩
    · exact ⟨hy, hx⟩
  · exact h f hf

set_option linter.unusedVariables false set_option linter.unusedSimpArgs false attribute [local irreducible] Tok.own Tok.blk RL Rd eptr WP WPL PE WPD WPO Op1 OpE Tri Again Mid Exit.then Exit.inBlock bodyPost RP Code.wp wpList isOwn OneM One
set_option maxHeartbeats 8000000

theorem g_EdgeO (w : World) (x y : Int) : Tri Try.prog 146 [.int .i64 x, .int .i64 y] w [] fun r T => T = [] ∧ ∃ e : E, r = ep e ∧ (e = ⟨x, y⟩ ∨ e = ⟨y, x⟩) := by
  refine Tri.intro (hf := Try.func146) (hb := rfl) (hn := Try.ntmps146) (Nat.le_of_ble_eq_true rfl) ?_
  try refine go ⟨?_⟩
  refine WPL.eff OpE.alloc rfl rfl ?_; rintro _ _ ⟨b, rfl, rfl⟩
  repeat' (first | exact absurd rfl hc | refine go ⟨?_⟩ | (refine isCond ?_; refine WP.condD rfl (fun hc => ?_) (fun hc => ?_)) | (refine isGuard ?_; refine WPL.splitD rfl rfl (fun hc => ?_) (fun hc => ?_)))
  all_goals (refine PE.ret1 (T := []) (T' := []) rfl rV ?_ sT)
  · exact ⟨rfl, ⟨x, y⟩, rfl, .inl rfl⟩
  · exact ⟨rfl, ⟨y, x⟩, rfl, .inr rfl⟩

theorem g_DrawO (w : World) (rb : Nat) (cv : Value) (bs : List UInt8) (h : RL w cv bs) (hd : ∀ b ∈ vfp cv, b ≠ rb) (hl : bs.length ≤ 2000) :
    Tri Try.prog 143 [ptrV rb] w [Tok.blk rb [cv, .int .i64 0]] fun r T => ∃ v n p, ∃ es : List E, r = .agg #[.int .i64 n, v] ∧ T = [Tok.own v es, Tok.blk rb [cv, .int .i64 p]] ∧ es.length ≤ 30 ∧ 1 ≤ n ∧ n ≤ 16 ∧ 0 ≤ p ∧ p ≤ 100 ∧ okE n es := by
  have hA : RdA ⟨65, w, fps [Tok.blk rb [cv, .int .i64 0]]⟩ cv bs := RdA.mk h (fun b hb => by
    have := hd b hb
    rw [fps_blk]; simpa using this)
  refine Tri.intro (hf := Try.func143) (hb := rfl) (hn := Try.ntmps143) (Nat.le_of_ble_eq_true rfl) ?_
  try refine goA ⟨?_⟩
  refine WPL.eff OpE.alloc rfl rfl ?_; rintro _ _ ⟨br, rfl, rfl⟩
  try refine goA ⟨?_⟩
  refine WPL.eff (OpE.buildSlice [6, 5, 7, 4, 8, 10, 3, 1, 16] pA rfl (by decide)) rfl rfl ?_; rintro s0 _ rfl
  try refine goA ⟨?_⟩
  refine WPL.eff (OpE.callT (T := [Tok.blk rb [cv, .int .i64 0]]) lO pM2 (fun w hw => d_num _ rb cv s0 bs [6, 5, 7, 4, 8, 10, 3, 1, 16] 0 (Rd.at rDA hw) hd (Rd.at rDA hw) (hw.own_ne pM mM) hl (by omega) (by decide))) rfl rfl ?_
  rintro r _ ⟨T, ⟨rfl, n, rfl, hn⟩, rfl⟩
  have hn1 : 1 ≤ n ∧ n ≤ 16 := by
    simp only [List.mem_cons, List.mem_nil_iff, or_false] at hn
    omega
  try refine goA ⟨?_⟩
  refine WPL.eff OpE.alloc rfl rfl ?_; rintro _ _ ⟨bo, rfl, rfl⟩
  try refine goA ⟨?_⟩
  refine WP.nilTok E ?_
  refine WP.loop (σ := Nat × Nat × Value × List E) (fun s => [(0, ptrV rb), (2, ptrV br), (3, ptrV bo), (4, .int .i64 s.1)])
    (fun s => [Tok.blk bo [.int .i64 n, s.2.2.1], Tok.own s.2.2.1 s.2.2.2, Tok.blk rb [cv, .int .i64 s.2.1], Tok.blk br [.int .i64 0, .slice none 0 0]])
    (fun s => 1 ≤ s.1 ∧ s.1 ≤ n ∧ s.2.1 ≤ 1 + 2 * s.1 ∧ s.2.2.2.length ≤ s.1 ∧ okE n s.2.2.2) (fun s => n.toNat - s.1) (1, 1, .slice none 0 0, []) ⟨by decide, by dsimp only; omega, by decide, by decide, fun e he => by cases he⟩ sE sT2 ?_
  rintro ⟨i, q, v, es⟩ ⟨h1, h2, h3, h4, h5⟩
  dsimp only at h1 h2 h3 h4 h5 ⊢
  try refine goA ⟨?_⟩
  refine WP.condD rfl (fun hc => ?_) (fun hc => ?_)
  · have hi' : (i : Int) < n := hc
    try refine goA ⟨?_⟩
    refine WPL.eff (OpE.callT (T := [Tok.blk rb [cv, .int .i64 q]]) lO pM2 (fun w hw => d_pick _ rb cv bs q 4 (Rd.at rDA hw) hd hl (by omega) (by omega))) rfl rfl ?_
    rintro r _ ⟨T, ⟨rfl, k, rfl, k0, k1⟩, rfl⟩
    repeat' (first | exact absurd rfl hc | refine goA ⟨?_⟩ | (refine isCond ?_; refine WP.condD rfl (fun hc => ?_) (fun hc => ?_)) | (refine isGuard ?_; refine WPL.splitD rfl rfl (fun hc => ?_) (fun hc => ?_)))
    · refine WP.draw [Tok.own v es] mixed ?_
      refine WPD.take 0 rfl (by first | exact (Op1.fieldAddr rfl) | exact (Op1.fieldAddrE rfl rDA lT)) rfl rfl sT kR kR kR xQP ?_
      refine WPD.take 2 rfl (Op1.move rfl) rfl rfl sT kR kR kR xQP ?_
      refine WPD.take 3 rfl (Op1.move rfl) rfl rfl sT kR kR kR xQP ?_
      refine WPD.take 5 rfl (Op1.move rfl) rfl rfl sT kR kR kR xQP ?_
      refine WPD.two 1 4 kR ?e1_1 ?e1_4
      case' e1_1 =>
        refine WPO.eff rfl (OpE.ofPure (by first | exact (Op1.load rfl mM (by rfl)) | exact (Op1.loadI rfl rDA lT) | exact (Op1.loadAll rfl mM (by rfl)) | exact (Op1.loadE rfl rDA lT (by rfl)) | exact (Op1.loadEAgg rfl rDA lT (by rfl)))) rfl rfl ?_
        rintro _ _ ⟨eP, rfl⟩; have eP := eP.symm; subst eP
        refine ⟨sT, ?_⟩
        refine WPD.eff 4 kR rfl (OpE.callT (T := [Tok.blk rb [cv, .int .i64 ((q : Int) + 1)]]) lO pM2 (fun w hw => d_pick _ rb cv bs ((q : Int) + 1) i (Rd.at rDA hw) hd hl (by omega) (by omega))) rfl rfl ?_
        rintro r _ ⟨T, ⟨rfl, k2, rfl, k20, k21⟩, rfl⟩
        refine ⟨sT, ?_⟩
        refine WPD.eff 6 kR rfl (OpE.call lO (fun w hw => g_EdgeO _ k2 i)) rfl rfl ?_
        rintro r _ ⟨T, ⟨rfl, e, rfl, hE⟩, rfl⟩
        refine ⟨sT, ?_⟩
        refine WPD.eff 7 kR rfl (OpE.call lO (fun w hw => s_Put _ v e es (Rd.at rDA hw) (by omega))) rfl rfl ?_
        rintro v1 _ ⟨T, rfl, rfl⟩
        refine ⟨sT, ?_⟩
        refine WPD.take 8 rfl (by first | exact (Op1.fieldAddr rfl) | exact (Op1.fieldAddrE rfl rDA lT)) rfl rfl sT kR kR kR xQP ?_
        refine WPD.eff0 9 kR rfl (OpE.store rfl rfl pM (by rfl) oN) rfl ?_
        rintro _ _ rfl
        refine ⟨sT, ?_⟩
        refine WPD.done kR ?_
      case' e1_4 =>
        refine WPO.eff rfl (OpE.callT (T := [Tok.blk rb [cv, .int .i64 ((q : Int) + 1)]]) lO pM2 (fun w hw => d_pick _ rb cv bs ((q : Int) + 1) i (Rd.at rDA hw) hd hl (by omega) (by omega))) rfl rfl ?_
        rintro r _ ⟨T, ⟨rfl, k2, rfl, k20, k21⟩, rfl⟩
        refine ⟨sT, ?_⟩
        refine WPD.two 1 6 kR ?e2_1 ?e2_6
        case' e2_1 =>
          refine WPO.eff rfl (OpE.ofPure (by first | exact (Op1.load rfl mM (by rfl)) | exact (Op1.loadI rfl rDA lT) | exact (Op1.loadAll rfl mM (by rfl)) | exact (Op1.loadE rfl rDA lT (by rfl)) | exact (Op1.loadEAgg rfl rDA lT (by rfl)))) rfl rfl ?_
          rintro _ _ ⟨eP, rfl⟩; have eP := eP.symm; subst eP
          refine ⟨sT, ?_⟩
          refine WPD.eff 6 kR rfl (OpE.call lO (fun w hw => g_EdgeO _ k2 i)) rfl rfl ?_
          rintro r _ ⟨T, ⟨rfl, e, rfl, hE⟩, rfl⟩
          refine ⟨sT, ?_⟩
          refine WPD.eff 7 kR rfl (OpE.call lO (fun w hw => s_Put _ v e es (Rd.at rDA hw) (by omega))) rfl rfl ?_
          rintro v1 _ ⟨T, rfl, rfl⟩
          refine ⟨sT, ?_⟩
          refine WPD.take 8 rfl (by first | exact (Op1.fieldAddr rfl) | exact (Op1.fieldAddrE rfl rDA lT)) rfl rfl sT kR kR kR xQP ?_
          refine WPD.eff0 9 kR rfl (OpE.store rfl rfl pM (by rfl) oN) rfl ?_
          rintro _ _ rfl
          refine ⟨sT, ?_⟩
          refine WPD.done kR ?_
        case' e2_6 =>
          refine WPO.eff rfl (OpE.call lO (fun w hw => g_EdgeO _ k2 i)) rfl rfl ?_
          rintro r _ ⟨T, ⟨rfl, e, rfl, hE⟩, rfl⟩
          refine ⟨sT, ?_⟩
          refine WPD.eff 1 kR rfl (OpE.ofPure (by first | exact (Op1.load rfl mM (by rfl)) | exact (Op1.loadI rfl rDA lT) | exact (Op1.loadAll rfl mM (by rfl)) | exact (Op1.loadE rfl rDA lT (by rfl)) | exact (Op1.loadEAgg rfl rDA lT (by rfl)))) rfl rfl ?_
          rintro _ _ ⟨eP, rfl⟩; have eP := eP.symm; subst eP
          refine ⟨sT, ?_⟩
          refine WPD.eff 7 kR rfl (OpE.call lO (fun w hw => s_Put _ v e es (Rd.at rDA hw) (by omega))) rfl rfl ?_
          rintro v1 _ ⟨T, rfl, rfl⟩
          refine ⟨sT, ?_⟩
          refine WPD.take 8 rfl (by first | exact (Op1.fieldAddr rfl) | exact (Op1.fieldAddrE rfl rDA lT)) rfl rfl sT kR kR kR xQP ?_
          refine WPD.eff0 9 kR rfl (OpE.store rfl rfl pM (by rfl) oN) rfl ?_
          rintro _ _ rfl
          refine ⟨sT, ?_⟩
          refine WPD.done kR ?_
      all_goals (
        try refine goA ⟨?_⟩
        have hil := insP_len es e
        have hok : okE n (insP es e) := okE_insP h5 hE ⟨k20, by have := k21 (by omega); omega⟩ ⟨by omega, hi'⟩
        refine PE.again (i + 1, q + 2, v1, insP es e) ?_ ?_ sE sT2
        · exact ⟨by dsimp only; omega, by dsimp only; omega, by dsimp only; omega, by dsimp only; omega, hok⟩
        · dsimp only; omega)
    · refine PE.again (i + 1, q + 1, v, es) ?_ ?_ sE sT2
      · exact ⟨by dsimp only; omega, by dsimp only; omega, by dsimp only; omega, by dsimp only; omega, h5⟩
      · dsimp only; omega
  have hin : (i : Int) = n := by omega
  try refine goA ⟨?_⟩
  refine WPL.eff (OpE.buildSlice [2, 1, 3, 0, 5, 8] pA rfl (by decide)) rfl rfl ?_; rintro s1 _ rfl
  try refine goA ⟨?_⟩
  refine WPL.eff (OpE.callT (T := [Tok.blk rb [cv, .int .i64 q]]) lO pM2 (fun w hw => d_num _ rb cv s1 bs [2, 1, 3, 0, 5, 8] q (Rd.at rDA hw) hd (Rd.at rDA hw) (hw.own_ne pM mM) hl (by omega) (by decide))) rfl rfl ?_
  rintro r _ ⟨T, ⟨rfl, m, rfl, hm⟩, rfl⟩
  have hm1 : 0 ≤ m ∧ m ≤ 8 := by
    simp only [List.mem_cons, List.mem_nil_iff, or_false] at hm
    omega
  obtain ⟨j, rfl⟩ := Int.eq_ofNat_of_zero_le hm1.1
  try refine goA ⟨?_⟩
  refine WP.loop (σ := Nat × Nat × Value × List E) (fun s => [(0, ptrV rb), (2, ptrV br), (3, ptrV bo), (5, .int .i64 s.1)])
    (fun s => [Tok.blk bo [.int .i64 n, s.2.2.1], Tok.own s.2.2.1 s.2.2.2, Tok.blk rb [cv, .int .i64 s.2.1], Tok.blk br [.int .i64 0, .slice none 0 0]])
    (fun s => s.1 ≤ 8 ∧ s.2.1 + 2 * s.1 ≤ 60 ∧ s.2.2.2.length + s.1 ≤ 30 ∧ okE n s.2.2.2) (fun s => s.1) (j, q + 1, v, es) ⟨by dsimp only; omega, by dsimp only; omega, by dsimp only; omega, h5⟩ sE sT2 ?_
  rintro ⟨j, q, v, es⟩ ⟨h1, h2, h3, h6⟩
  dsimp only at h1 h2 h3 h6 ⊢
  try refine goA ⟨?_⟩
  refine WP.condD rfl (fun hc => ?_) (fun hc => ?_)
  · have hj' : 0 < (j : Int) := hc
    have ej : (j : Int) - 1 = ((j - 1 : Nat) : Int) := by omega
    try refine goA ⟨?_⟩
    refine WPL.eff (OpE.callT (T := [Tok.blk rb [cv, .int .i64 q]]) lO pM2 (fun w hw => d_pick _ rb cv bs q n (Rd.at rDA hw) hd hl (by omega) (by omega))) rfl rfl ?_
    rintro r _ ⟨T, ⟨rfl, x, rfl, x0, x1⟩, rfl⟩
    try refine goA ⟨?_⟩
    refine WPL.eff (OpE.callT (T := [Tok.blk rb [cv, .int .i64 ((q : Int) + 1)]]) lO pM2 (fun w hw => d_pick _ rb cv bs ((q : Int) + 1) n (Rd.at rDA hw) hd hl (by omega) (by omega))) rfl rfl ?_
    rintro r _ ⟨T, ⟨rfl, y, rfl, y0, y1⟩, rfl⟩
    try refine goA ⟨?_⟩
    refine WP.draw [Tok.own v es, Tok.blk bo [.int .i64 n, v]] mixed ?_
    refine WPD.take 0 rfl (Op1.move rfl) rfl rfl sT kR kR kR xQP ?_
    refine WPD.take 1 rfl (Op1.move rfl) rfl rfl sT kR kR kR xQP ?_
    refine WPD.take 2 rfl (by first | exact (Op1.neI rfl rfl) | exact (Op1.neB rfl rfl) | exact (Op1.neE rfl rfl)) rfl rfl sT kR kR kR xQP ?_
    refine WPD.take 3 rfl (Op1.move rfl) rfl rfl sT kR kR kR xQP ?_
    first | refine WPD.splitD 48 rfl (fun h48 => ?t3) (fun h48 => ?f3) | refine WPD.split 48 rfl (fun h48 => ?t3) (fun h48 => ?f3)
    case' t3 =>
      refine WPD.take 4 rfl (by first | exact (Op1.fieldAddr rfl) | exact (Op1.fieldAddrE rfl rDA lT)) rfl rfl sT kR kR kR xQP ?_
      refine WPD.take 6 rfl (Op1.move rfl) rfl rfl sT kR kR kR xQP ?_
      refine WPD.take 7 rfl (Op1.move rfl) rfl rfl sT kR kR kR xQP ?_
      refine WPD.take 5 rfl (by first | exact (Op1.load rfl mM (by rfl)) | exact (Op1.loadI rfl rDA lT) | exact (Op1.loadAll rfl mM (by rfl)) | exact (Op1.loadE rfl rDA lT (by rfl)) | exact (Op1.loadEAgg rfl rDA lT (by rfl))) rfl rfl sT kR kR kR xQP ?_
      refine WPD.eff 8 kR rfl (OpE.call lO (fun w hw => g_Edge _ x y)) rfl rfl ?_
      rintro r _ ⟨T, ⟨rfl, e, rfl⟩, rfl⟩
      refine ⟨sT, ?_⟩
      refine WPD.eff 9 kR rfl (OpE.call lO (fun w hw => s_FindI _ v e es (Rd.at rDA hw) (by omega))) rfl rfl ?_
      rintro r _ ⟨T, ⟨rfl, k, rfl⟩, rfl⟩
      refine ⟨sT, ?_⟩
      refine WPD.take 10 rfl (Op1.ltI rfl rfl) rfl rfl sT kR kR kR xQP ?_
      refine WPD.take 11 rfl (by first | exact (Op1.pickT rfl rfl) | exact (Op1.pickF rfl rfl)) rfl rfl sT kR kR kR xQP ?_
      refine WPD.done kR ?_
    case' f3 =>
      refine WPD.skip 4 rfl rfl rfl sT kR kR kR xQP ?_
      refine WPD.skip 6 rfl rfl rfl sT kR kR kR xQP ?_
      refine WPD.skip 7 rfl rfl rfl sT kR kR kR xQP ?_
      refine WPD.skip 5 rfl rfl rfl sT kR kR kR xQP ?_
      refine WPD.skip 8 rfl rfl rfl sT kR kR kR xQP ?_
      refine WPD.skip 9 rfl rfl rfl sT kR kR kR xQP ?_
      refine WPD.skip 10 rfl rfl rfl sT kR kR kR xQP ?_
      refine WPD.take 11 rfl (by first | exact (Op1.pickT rfl rfl) | exact (Op1.pickF rfl rfl)) rfl rfl sT kR kR kR xQP ?_
      refine WPD.done kR ?_
    · try refine goA ⟨?_⟩
      rw [ej]
      refine PE.again (j - 1, q + 2, v, es) ?_ ?_ sE sT2
      · exact ⟨by dsimp only; omega, by dsimp only; omega, by dsimp only; omega, h6⟩
      · dsimp only; omega
    · repeat' (first | exact absurd rfl hc | refine goA ⟨?_⟩ | (refine isCond ?_; refine WP.condD rfl (fun hc => ?_) (fun hc => ?_)) | (refine isGuard ?_; refine WPL.splitD rfl rfl (fun hc => ?_) (fun hc => ?_)))
      · refine WP.draw [Tok.own v es] mixed ?_
        refine WPD.take 0 rfl (by first | exact (Op1.fieldAddr rfl) | exact (Op1.fieldAddrE rfl rDA lT)) rfl rfl sT kR kR kR xQP ?_
        refine WPD.take 2 rfl (Op1.move rfl) rfl rfl sT kR kR kR xQP ?_
        refine WPD.take 3 rfl (Op1.move rfl) rfl rfl sT kR kR kR xQP ?_
        refine WPD.two 1 4 kR ?e4_1 ?e4_4
        case' e4_1 =>
          refine WPO.eff rfl (OpE.ofPure (by first | exact (Op1.load rfl mM (by rfl)) | exact (Op1.loadI rfl rDA lT) | exact (Op1.loadAll rfl mM (by rfl)) | exact (Op1.loadE rfl rDA lT (by rfl)) | exact (Op1.loadEAgg rfl rDA lT (by rfl)))) rfl rfl ?_
          rintro _ _ ⟨eP, rfl⟩; have eP := eP.symm; subst eP
          refine ⟨sT, ?_⟩
          refine WPD.eff 4 kR rfl (OpE.call lO (fun w hw => g_EdgeO _ x y)) rfl rfl ?_
          rintro r _ ⟨T, ⟨rfl, e2, rfl, hE2⟩, rfl⟩
          refine ⟨sT, ?_⟩
          refine WPD.eff 5 kR rfl (OpE.call lO (fun w hw => s_Put _ v e2 es (Rd.at rDA hw) (by omega))) rfl rfl ?_
          rintro v1 _ ⟨T, rfl, rfl⟩
          refine ⟨sT, ?_⟩
          refine WPD.take 6 rfl (by first | exact (Op1.fieldAddr rfl) | exact (Op1.fieldAddrE rfl rDA lT)) rfl rfl sT kR kR kR xQP ?_
          refine WPD.eff0 7 kR rfl (OpE.store rfl rfl pM (by rfl) oN) rfl ?_
          rintro _ _ rfl
          refine ⟨sT, ?_⟩
          refine WPD.done kR ?_
        case' e4_4 =>
          refine WPO.eff rfl (OpE.call lO (fun w hw => g_EdgeO _ x y)) rfl rfl ?_
          rintro r _ ⟨T, ⟨rfl, e2, rfl, hE2⟩, rfl⟩
          refine ⟨sT, ?_⟩
          refine WPD.eff 1 kR rfl (OpE.ofPure (by first | exact (Op1.load rfl mM (by rfl)) | exact (Op1.loadI rfl rDA lT) | exact (Op1.loadAll rfl mM (by rfl)) | exact (Op1.loadE rfl rDA lT (by rfl)) | exact (Op1.loadEAgg rfl rDA lT (by rfl)))) rfl rfl ?_
          rintro _ _ ⟨eP, rfl⟩; have eP := eP.symm; subst eP
          refine ⟨sT, ?_⟩
          refine WPD.eff 5 kR rfl (OpE.call lO (fun w hw => s_Put _ v e2 es (Rd.at rDA hw) (by omega))) rfl rfl ?_
          rintro v1 _ ⟨T, rfl, rfl⟩
          refine ⟨sT, ?_⟩
          refine WPD.take 6 rfl (by first | exact (Op1.fieldAddr rfl) | exact (Op1.fieldAddrE rfl rDA lT)) rfl rfl sT kR kR kR xQP ?_
          refine WPD.eff0 7 kR rfl (OpE.store rfl rfl pM (by rfl) oN) rfl ?_
          rintro _ _ rfl
          refine ⟨sT, ?_⟩
          refine WPD.done kR ?_
        all_goals (
          try refine goA ⟨?_⟩
          have hil := insP_len es e2
          have hok : okE n (insP es e2) := okE_insP h6 hE2 ⟨x0, x1 (by omega)⟩ ⟨y0, y1 (by omega)⟩
          rw [ej]
          refine PE.again (j - 1, q + 2, v1, insP es e2) ?_ ?_ sE sT2
          · exact ⟨by dsimp only; omega, by dsimp only; omega, by dsimp only; omega, hok⟩
          · dsimp only; omega)
      · rw [ej]
        refine PE.again (j - 1, q + 2, v, es) ?_ ?_ sE sT2
        · exact ⟨by dsimp only; omega, by dsimp only; omega, by dsimp only; omega, h6⟩
        · dsimp only; omega
  try refine goA ⟨?_⟩
  refine PE.ret1 (T := [Tok.blk rb [cv, .int .i64 0]]) (T' := [Tok.own v es, Tok.blk rb [cv, .int .i64 q]]) rfl rV ?_ sT2
  exact ⟨v, n, q, es, rfl, rfl, by omega, by omega, by omega, by omega, by omega, h6⟩
end Go.Proofs.Ytfigegmgopnfhaa
