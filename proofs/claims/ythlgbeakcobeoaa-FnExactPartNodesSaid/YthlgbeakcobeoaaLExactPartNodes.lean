/- The law FnExactPartNodes: its walk. Conditions: those of the theorem. -/
import Derived.Test.YthlgbeakcobeoaaHlpM
import Derived.Test.YthlgbeakcobeoaaLPartNodes
import Derived.Test.YthlgbeakcobeoaaLCutBetween
import Derived.Test.YthlgbeakcobeoaaLExactSafeTogether
namespace Go.Proofs.Ythlgbeakcobeoaa
open Go
set_option linter.unusedVariables false set_option linter.unusedSimpArgs false attribute [local irreducible] Tok.own Tok.blk RL Rd eptr WP WPL PE WPD WPO Op1 OpE Tri Again Mid Exit.then Exit.inBlock bodyPost RP Code.wp wpList isOwn OneM One
attribute [local irreducible] CN GN
set_option maxHeartbeats 8000000

theorem l_ExactPartNodes (w : World) (n : Int) (v : Value) (xs : List E) (x : Int) (h : RL w v xs) (hl : xs.length ≤ 9223372036854775807) :
    Tri Try.prog 3 [.agg #[.int .i64 n, v], .int .i64 x] w [] fun r T => r = .bool true := by
  obtain ⟨L, hLe⟩ : ∃ L, L = (if GN n xs x then pns n xs x else []) := ⟨_, rfl⟩
  have hLl : L.length ≤ 1048576 := by
    rw [hLe]; split
    · rename_i hg
      have hn2 : n ≤ 16 := by unfold GN at hg; exact hg.1.ne.n2
      have := pns_len n xs x
      omega
    · exact Nat.zero_le _
  refine Tri.intro (hf := Try.func3) (hb := rfl) (hn := Try.ntmps3) (Nat.le_of_ble_eq_true rfl) ?_
  try refine go ⟨?_⟩
  refine WPL.eff (OpE.box rfl) rfl rfl ?_; rintro _ _ ⟨b, rfl, rfl⟩
  try refine go ⟨?_⟩
  refine WPL.eff (OpE.call lO (fun w hw => h_szG _ n v xs 1048576 (Rd.at rD hw) hl (by omega) (by omega))) rfl rfl ?_
  rintro r _ ⟨T, ⟨rfl, hr⟩, rfl⟩
  rcases hr with ⟨hsz, rfl⟩ | ⟨hsz, rfl⟩
  case inr =>
    repeat' (first | refine go ⟨?_⟩ | (refine isCond ?_; refine WP.condD rfl (fun hc => ?_) (fun hc => ?_)) | (refine isGuard ?_; refine WPL.splitD rfl rfl (fun hc => ?_) (fun hc => ?_)))
    refine PE.ret1 (T := []) (T' := []) rfl rV ?_ sT
    rfl
  have hl2 : xs.length ≤ 1048576 := by omega
  try refine go ⟨?_⟩
  refine WP.condD rfl (fun hc => ?_) (fun hc => ?_)
  · exfalso; omega
  try refine go ⟨?_⟩
  refine WPL.eff (OpE.call lO (fun w hw => h_toG _ n v xs (Rd.at rD hw) hl2)) rfl rfl ?_
  rintro _ _ ⟨T, ⟨u, rfl, rfl⟩, rfl⟩
  try refine go ⟨?_⟩
  refine WPL.eff (OpE.call lO (fun w hw => v_PartNodes _ n u xs x (Rd.at rD hw) (by omega))) rfl rfl ?_
  rintro w0 _ ⟨T, rfl, rfl⟩
  rw [← hLe]
  try refine go ⟨?_⟩
  refine WPL.eff (OpE.call lO (fun w hw => h_toG _ n v xs (Rd.at rD hw) hl2)) rfl rfl ?_
  rintro _ _ ⟨T, ⟨u2, rfl, rfl⟩, rfl⟩
  try refine go ⟨?_⟩
  refine WPL.eff OpE.alloc rfl rfl ?_; rintro _ _ ⟨b7, rfl, rfl⟩
  try refine go ⟨?_⟩
  refine WPL.eff (OpE.call lO (fun w hw => u_PartNodes _ n u2 xs x (Rd.at rD hw) (by omega))) rfl rfl ?_
  rintro g0 _ ⟨T, rfl, rfl⟩
  rw [← hLe]
  try refine go ⟨?_⟩
  refine WPL.eff (OpE.call lO (fun w hw => h_eqI _ g0 w0 L L (Rd.at rD hw) (Rd.at rD hw) (by omega) (by omega))) rfl rfl ?_
  rintro _ _ ⟨T, ⟨rfl, rfl⟩, rfl⟩
  rw [deq_int]
  try refine go ⟨?_⟩
  refine WP.draw [Tok.blk b7 [.int .i64 n, u2], Tok.own u2 xs, Tok.blk b [.int .i64 n, v]] mixed ?_
  refine WPD.take 0 rfl (by first | exact (Op1.load rfl mM (by rfl)) | exact (Op1.loadI rfl rD lT) | exact (Op1.loadAll rfl mM (by rfl)) | exact (Op1.loadE rfl rD lT (by rfl)) | exact (Op1.loadEAgg rfl rD lT (by rfl))) rfl rfl sT kR kR kR xQP ?_
  refine WPD.take 1 rfl (by first | exact (Op1.load rfl mM (by rfl)) | exact (Op1.loadI rfl rD lT) | exact (Op1.loadAll rfl mM (by rfl)) | exact (Op1.loadE rfl rD lT (by rfl)) | exact (Op1.loadEAgg rfl rD lT (by rfl))) rfl rfl sT kR kR kR xQP ?_
  refine WPD.eff 2 kR rfl (OpE.call lO (fun w hw => h_toG _ n v xs (Rd.at rD hw) hl2)) rfl rfl ?_
  rintro r _ ⟨T, ⟨u3, rfl, rfl⟩, rfl⟩
  refine ⟨sT, ?_⟩
  refine WPD.eff 3 kR rfl (OpE.call lO (fun w hw => h_eqG _ n n u2 u3 xs xs (Rd.at rD hw) (Rd.at rD hw) hl2 hl2)) rfl rfl ?_
  rintro r _ ⟨T, ⟨rfl, rfl⟩, rfl⟩
  rw [gself]
  refine ⟨sT, ?_⟩
  refine WPD.eff 4 kR rfl (OpE.ofPure (by first | exact (Op1.notD rfl) | exact (Op1.not rfl))) rfl rfl ?_
  rintro _ _ ⟨rfl, rfl⟩
  refine ⟨sT, ?_⟩
  refine WPD.done kR ?_
  try refine go ⟨?_⟩
  refine WPL.eff (OpE.callT (T := [Tok.own u2 xs]) lO pM2 (fun w hw => h_markG _ n u2 xs 1 hl2 (by omega) (by omega))) rfl rfl ?_
  rintro _ _ ⟨T, ⟨ys, rfl, rfl⟩, rfl⟩
  try refine go ⟨?_⟩
  rw [decide_eq_false (show ¬ (1 + 2 * (xs.length : Int) < 0) by omega)]
  try refine go ⟨?_⟩
  refine WPL.eff (OpE.call lO (fun w hw => h_eqI _ g0 w0 L L (Rd.at rD hw) (Rd.at rD hw) (by omega) (by omega))) rfl rfl ?_
  rintro _ _ ⟨T, ⟨rfl, rfl⟩, rfl⟩
  rw [deq_int]
  try refine go ⟨?_⟩
  refine WPL.eff (OpE.callT (T := [Tok.own g0 L]) lO pM2 (fun w hw => h_markI _ g0 L 1 hLl (by omega) (by omega))) rfl rfl ?_
  rintro _ _ ⟨T, ⟨rfl, rfl⟩, rfl⟩
  have hH := fun w' (h1 : RL w' g0 (marks 1 L.length)) => h_heldI w' g0 1 _ h1 hLl (by omega) (by omega)
  try refine go ⟨?_⟩
  refine WPL.eff (OpE.call lO (fun w hw => hH _ (Rd.at rD hw))) rfl rfl ?_
  rintro _ _ ⟨T, ⟨rfl, rfl⟩, rfl⟩
  try refine go ⟨?_⟩
  rw [decide_eq_false (show ¬ (1 + (L.length : Int) < 0) by omega)]
  try refine go ⟨?_⟩
  rw [decide_eq_false (show ¬ (1 + (L.length : Int) ≠ 1 + (L.length : Int)) from fun h => h rfl)]
  try refine go ⟨?_⟩
  refine WPL.eff (OpE.call lO (fun w hw => h_toG _ n v xs (Rd.at rD hw) hl2)) rfl rfl ?_
  rintro _ _ ⟨T, ⟨u5, rfl, rfl⟩, rfl⟩
  try refine go ⟨?_⟩
  refine WPL.eff (OpE.call lO (fun w hw => u_PartNodes _ n u5 xs x (Rd.at rD hw) (by omega))) rfl rfl ?_
  rintro k0 _ ⟨T, rfl, rfl⟩
  rw [← hLe]
  try refine go ⟨?_⟩
  refine WPL.eff (OpE.call lO (fun w hw => h_eqI _ k0 w0 L L (Rd.at rD hw) (Rd.at rD hw) (by omega) (by omega))) rfl rfl ?_
  rintro _ _ ⟨T, ⟨rfl, rfl⟩, rfl⟩
  rw [deq_int]
  try refine go ⟨?_⟩
  refine WPL.eff (OpE.call lO (fun w hw => hH _ (Rd.at rD hw))) rfl rfl ?_
  rintro _ _ ⟨T, ⟨rfl, rfl⟩, rfl⟩
  try refine go ⟨?_⟩
  rw [decide_eq_false (show ¬ (1 + (L.length : Int) < 0) by omega)]
  try refine go ⟨?_⟩
  rw [decide_eq_false (show ¬ (1 + (L.length : Int) ≠ 1 + (L.length : Int)) from fun h => h rfl)]
  try refine go ⟨?_⟩
  refine PE.ret1 (T := []) (T' := []) rfl rV ?_ sT
  rfl
end Go.Proofs.Ythlgbeakcobeoaa
