/- Rooted trees: the walks of with, CutParent, LinkRoot, TurnRoot. Conditions: those of each contract. -/
import Derived.Test.YtjmbnhohfhpopaaRoot2
namespace Go.Proofs.Ytjmbnhohfhpopaa
open Go
set_option linter.unusedVariables false set_option linter.unusedSimpArgs false attribute [local irreducible] Tok.own Tok.blk RL Rd eptr WP WPL PE WPD WPO Op1 OpE Tri Again Mid Exit.then Exit.inBlock bodyPost RP Code.wp wpList isOwn OneM One
set_option maxHeartbeats 8000000

theorem c_with (w : World) (vP vW : Value) (ps ws : List Int) (x p q : Int) (hP : RL w vP ps) (hW : RL w vW ws) (hlp : ps.length ≤ 1000) (hlw : ws.length ≤ 1000) (h0 : 0 ≤ x) (h1 : x < ps.length) (h2 : x < ws.length) :
    Tri Try.prog 55 [.agg #[vP, vW], .int .i64 x, .int .i64 p, .int .i64 q] w [] fun r T => ∃ uP uW, r = .agg #[uP, uW] ∧ T = [Tok.own uP (ps.set x.toNat p), Tok.own uW (ws.set x.toNat q)] := by
  have hxp : x.toNat < ps.length := by omega
  have hxw : x.toNat < ws.length := by omega
  refine Tri.intro (hf := Try.func55) (hb := rfl) (hn := Try.ntmps55) (Nat.le_of_ble_eq_true rfl) ?_
  try refine go ⟨?_⟩
  refine WPL.eff (OpE.box rfl) rfl rfl ?_; rintro _ _ ⟨b, rfl, rfl⟩
  refine WPL.eff OpE.alloc rfl rfl ?_; rintro _ _ ⟨br, rfl, rfl⟩
  try refine go ⟨?_⟩
  refine WP.cutK (σ := Nat × Value × Value) (fun s => [(1, .int .i64 x), (2, .int .i64 p), (3, .int .i64 q), (8, .pointer (some ⟨br, 0, none⟩)), (9, .pointer (some ⟨s.1, 0, none⟩))])
    (fun s => [Tok.blk s.1 [s.2.1, s.2.2], Tok.own s.2.1 ps, Tok.own s.2.2 ws, Tok.blk br [.slice none 0 0, .slice none 0 0]]) (fun _ => True) ?_ ?_
  · refine WP.draw [Tok.blk b [vP, vW]] mixed ?_
    refine WPD.take 0 rfl oP rfl rfl sT kR kR kR xQP ?_
    refine WPD.take 1 rfl oP rfl rfl sT kR kR kR xQP ?_
    refine WPD.take 3 rfl oP rfl rfl sT kR kR kR xQP ?_
    refine WPD.take 4 rfl oP rfl rfl sT kR kR kR xQP ?_
    refine WPD.two 2 7 kR ?_ ?_
    · refine WPO.eff rfl (OpE.call lO (fun w hw => c_CloneI _ vP ps (Rd.at rD hw) (by omega))) rfl rfl ?_
      rintro uP _ ⟨T, rfl, rfl⟩
      refine ⟨sT, ?_⟩
      refine WPD.two 5 7 kR ?_ ?_
      · refine WPO.eff rfl (OpE.call lO (fun w hw => c_CloneI _ vW ws (Rd.at rD hw) (by omega))) rfl rfl ?_
        rintro uW _ ⟨T, rfl, rfl⟩
        refine ⟨sT, ?_⟩
        refine WPD.one1 uP (by repeat (first | exact OneM.head isOwn.own | apply OneM.tail)) (fun o1 => ?_)
        refine WPD.one1 uW (by repeat (first | exact OneM.head isOwn.own | apply OneM.tail)) (fun o2 => ?_)
        refine WPD.take 6 rfl oP rfl rfl sT kR kR kR xQP ?_
        refine WPD.eff 7 kR rfl OpE.alloc rfl rfl ?_; rintro _ _ ⟨bo, rfl, rfl⟩; refine ⟨sT, ?_⟩
        refine WPD.eff0 8 kR rfl (OpE.storeAll rfl rfl pM (by rfl) (by rfl) oN) rfl ?_; rintro _ _ rfl; refine ⟨sT, ?_⟩
        refine WPD.done kR ?_
        refine PE.mid (bo, uP, uW) ?_ sE sT
        trivial
      · refine WPO.eff rfl OpE.alloc rfl rfl ?_; rintro _ _ ⟨bo, rfl, rfl⟩; refine ⟨sT, ?_⟩
        refine WPD.eff 5 kR rfl (OpE.call lO (fun w hw => c_CloneI _ vW ws (Rd.at rD hw) (by omega))) rfl rfl ?_
        rintro uW _ ⟨T, rfl, rfl⟩
        refine ⟨sT, ?_⟩
        refine WPD.eff 6 kR rfl (OpE.ofPure oP) rfl rfl ?_; rintro _ _ ⟨rfl, rfl⟩; refine ⟨sT, ?_⟩
        refine WPD.eff0 8 kR rfl (OpE.storeAll rfl rfl pM (by rfl) (by rfl) oN) rfl ?_; rintro _ _ rfl; refine ⟨sT, ?_⟩
        refine WPD.done kR ?_
        refine PE.mid (bo, uP, uW) ?_ sE sT
        trivial
    · refine WPO.eff rfl OpE.alloc rfl rfl ?_; rintro _ _ ⟨bo, rfl, rfl⟩; refine ⟨sT, ?_⟩
      refine WPD.eff 2 kR rfl (OpE.call lO (fun w hw => c_CloneI _ vP ps (Rd.at rD hw) (by omega))) rfl rfl ?_
      rintro uP _ ⟨T, rfl, rfl⟩
      refine ⟨sT, ?_⟩
      refine WPD.eff 5 kR rfl (OpE.call lO (fun w hw => c_CloneI _ vW ws (Rd.at rD hw) (by omega))) rfl rfl ?_
      rintro uW _ ⟨T, rfl, rfl⟩
      refine ⟨sT, ?_⟩
      refine WPD.eff 6 kR rfl (OpE.ofPure oP) rfl rfl ?_; rintro _ _ ⟨rfl, rfl⟩; refine ⟨sT, ?_⟩
      refine WPD.eff0 8 kR rfl (OpE.storeAll rfl rfl pM (by rfl) (by rfl) oN) rfl ?_; rintro _ _ rfl; refine ⟨sT, ?_⟩
      refine WPD.done kR ?_
      refine PE.mid (bo, uP, uW) ?_ sE sT
      trivial
  rintro ⟨bo, uP, uW⟩ _
  dsimp only
  try refine go ⟨?_⟩
  refine WP.draw [Tok.blk bo [uP, uW]] mixed ?_
  refine WPD.take 0 rfl oP rfl rfl sT kR kR kR xQP ?_
  refine WPD.take 1 rfl oP rfl rfl sT kR kR kR xQP ?_
  refine WPD.take 2 rfl oP rfl rfl sT kR kR kR xQP ?_
  refine WPD.take 3 rfl oP rfl rfl sT kR kR kR xQP ?_
  refine WPD.take 4 rfl oP rfl rfl sT kR kR kR xQP ?_
  refine WPD.take 5 rfl oP rfl rfl sT kR kR kR xQP ?_
  refine WPD.take 6 rfl oP rfl rfl sT kR kR kR xQP ?_
  refine WPD.take 7 rfl oP rfl rfl sT kR kR kR xQP ?_
  refine WPD.eff 8 kR rfl (OpE.ofPure oP) rfl rfl ?_; rintro _ _ ⟨rfl, rfl⟩; refine ⟨sT, ?_⟩
  refine WPD.eff0 9 kR rfl (OpE.store1 (p) rfl rfl pM (by omega) rfl) rfl ?_; rintro _ _ rfl; refine ⟨sT, ?_⟩
  refine WPD.eff 10 kR rfl (OpE.ofPure oP) rfl rfl ?_; rintro _ _ ⟨rfl, rfl⟩; refine ⟨sT, ?_⟩
  refine WPD.eff0 11 kR rfl (OpE.store1 (q) rfl rfl pM (by omega) rfl) rfl ?_; rintro _ _ rfl; refine ⟨sT, ?_⟩
  refine WPD.done kR ?_
  try refine go ⟨?_⟩
  refine PE.ret1 (T := []) (T' := [Tok.own uP (ps.set x.toNat p), Tok.own uW (ws.set x.toNat q)]) rfl rV ?_ sT
  exact ⟨uP, uW, rfl, rfl⟩
end Go.Proofs.Ytjmbnhohfhpopaa
