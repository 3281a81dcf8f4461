/- The law FnExactSafeTogether: its walk. Conditions: those of the theorem. -/
import Derived.Test.YtocifflamgnhaaaHlpH
import Derived.Test.YtocifflamgnhaaaUni
namespace Go.Proofs.Ytocifflamgnhaaa
open Go
theorem gself (n : Int) (l : List E) : decide (n = n ∧ l = l) = true := decide_eq_true ⟨rfl, rfl⟩
theorem bself (d : Bool) : (d != d) = false := by cases d <;> rfl
set_option linter.unusedVariables false set_option linter.unusedSimpArgs false attribute [local irreducible] Tok.own Tok.blk RL Rd eptr WP WPL PE WPD WPO Op1 OpE Tri Again Mid Exit.then Exit.inBlock bodyPost RP Code.wp wpList isOwn OneM One
attribute [local irreducible] CN STg
set_option maxHeartbeats 8000000

theorem l_ExactSafeTogether (w : World) (n : Int) (v : Value) (xs : List E) (x y : Int) (h : RL w v xs) (hl : xs.length ≤ 9223372036854775807) :
    Tri Try.prog 8 [.agg #[.int .i64 n, v], .int .i64 x, .int .i64 y] w [] fun r T => r = .bool true := by
  refine Tri.intro (hf := Try.func8) (hb := rfl) (hn := Try.ntmps8) (Nat.le_of_ble_eq_true rfl) ?_
  try refine go ⟨?_⟩
  refine WPL.eff (OpE.box rfl) rfl rfl ?_; rintro _ _ ⟨b, rfl, rfl⟩
  try refine go ⟨?_⟩
  refine WPL.eff (OpE.call lO (fun w hw => h_szG _ n v xs 1048576 (Rd.at rD hw) hl (by omega) (by omega))) rfl rfl ?_
  rintro r _ ⟨T, ⟨rfl, hr⟩, rfl⟩
  rcases hr with ⟨hsz, rfl⟩ | ⟨hsz, rfl⟩
  case inr =>
    repeat' (first | refine go ⟨?_⟩ | (refine isCond ?_; refine WP.condD rfl (fun hc => ?_) (fun hc => ?_)) | (refine isGuard ?_; refine WPL.splitD rfl rfl (fun hc => ?_) (fun hc => ?_)))
    refine PE.ret1 (T := []) (T' := []) rfl rV ?_ sT
    rfl
  have hl2 : xs.length ≤ 1048576 := by omega
  try refine go ⟨?_⟩
  refine WP.condD rfl (fun hc => ?_) (fun hc => ?_)
  · exfalso; omega
  try refine go ⟨?_⟩
  refine WPL.eff (OpE.call lO (fun w hw => h_toG _ n v xs (Rd.at rD hw) hl2)) rfl rfl ?_
  rintro _ _ ⟨T, ⟨u, rfl, rfl⟩, rfl⟩
  try refine go ⟨?_⟩
  refine WPL.eff (OpE.call lO (fun w hw => s_SafeTogether _ n u xs x y (Rd.at rD hw) (by omega))) rfl rfl ?_
  rintro _ _ ⟨T, ⟨rfl, rfl⟩, rfl⟩
  try refine go ⟨?_⟩
  refine WPL.eff (OpE.call lO (fun w hw => h_toG _ n v xs (Rd.at rD hw) hl2)) rfl rfl ?_
  rintro _ _ ⟨T, ⟨u2, rfl, rfl⟩, rfl⟩
  try refine go ⟨?_⟩
  refine WPL.eff OpE.alloc rfl rfl ?_; rintro _ _ ⟨b9, rfl, rfl⟩
  try refine go ⟨?_⟩
  refine WPL.eff (OpE.call lO (fun w hw => c_SafeTogether _ n u2 xs x y (Rd.at rD hw) (by omega))) rfl rfl ?_
  rintro _ _ ⟨T, ⟨rfl, rfl⟩, rfl⟩
  try refine go ⟨?_⟩
  rw [bself]
  try refine go ⟨?_⟩
  refine WP.draw [Tok.blk b9 [.int .i64 n, u2], Tok.own u2 xs, Tok.blk b [.int .i64 n, v]] mixed ?_
  refine WPD.take 0 rfl (by first | exact (Op1.load rfl mM (by rfl)) | exact (Op1.loadI rfl rD lT) | exact (Op1.loadAll rfl mM (by rfl)) | exact (Op1.loadE rfl rD lT (by rfl)) | exact (Op1.loadEAgg rfl rD lT (by rfl))) rfl rfl sT kR kR kR xQP ?_
  refine WPD.take 1 rfl (by first | exact (Op1.load rfl mM (by rfl)) | exact (Op1.loadI rfl rD lT) | exact (Op1.loadAll rfl mM (by rfl)) | exact (Op1.loadE rfl rD lT (by rfl)) | exact (Op1.loadEAgg rfl rD lT (by rfl))) rfl rfl sT kR kR kR xQP ?_
  refine WPD.eff 2 kR rfl (OpE.call lO (fun w hw => h_toG _ n v xs (Rd.at rD hw) hl2)) rfl rfl ?_
  rintro r _ ⟨T, ⟨u3, rfl, rfl⟩, rfl⟩
  refine ⟨sT, ?_⟩
  refine WPD.eff 3 kR rfl (OpE.call lO (fun w hw => h_eqG _ n n u2 u3 xs xs (Rd.at rD hw) (Rd.at rD hw) hl2 hl2)) rfl rfl ?_
  rintro r _ ⟨T, ⟨rfl, rfl⟩, rfl⟩
  rw [gself]
  refine ⟨sT, ?_⟩
  refine WPD.eff 4 kR rfl (OpE.ofPure (by first | exact (Op1.notD rfl) | exact (Op1.not rfl))) rfl rfl ?_
  rintro _ _ ⟨rfl, rfl⟩
  refine ⟨sT, ?_⟩
  refine WPD.done kR ?_
  try refine go ⟨?_⟩
  refine PE.ret1 (T := []) (T' := []) rfl rV ?_ sT
  rfl
end Go.Proofs.Ytocifflamgnhaaa
