/- The second program's drawn cases of graphs. Conditions: those of each contract. -/
import Derived.Test.YthlgbeakcobeoaaDrwH
namespace Go.Proofs.Ythlgbeakcobeoaa
open Go
set_option linter.unusedVariables false set_option linter.unusedSimpArgs false attribute [local irreducible] Tok.own Tok.blk RL Rd eptr WP WPL PE WPD WPO Op1 OpE Tri Again Mid Exit.then Exit.inBlock bodyPost RP Code.wp wpList isOwn OneM One
set_option maxHeartbeats 8000000

theorem g_GraphValid (w : World) (v : Value) (bs : List UInt8) (h : RL w v bs) (hl : bs.length ≤ 9223372036854775807) :
    Tri Try.prog 107 [v] w [] dG := by
  refine Tri.intro (hf := Try.func107) (hb := rfl) (hn := Try.ntmps107) (Nat.le_of_ble_eq_true rfl) ?_
  try refine go ⟨?_⟩
  refine WPL.eff OpE.alloc rfl rfl ?_; rintro _ _ ⟨br, rfl, rfl⟩
  try refine go ⟨?_⟩
  refine WPL.eff (OpE.call lO (fun w hw => d_Open _ v bs (Rd.at rD hw) hl)) rfl rfl ?_
  rintro r _ ⟨T, ⟨rb, rfl, rfl⟩, rfl⟩
  have hcv := h.cvOf
  have hl2 := bsOf_le bs
  generalize cvOf v bs = cv at *
  generalize bsOf bs = bs' at *
  try refine go ⟨?_⟩
  refine WPL.eff (OpE.callT (T := [Tok.blk rb [cv, .int .i64 0]]) lO pM2 (fun w hw => g_Draw _ rb cv bs' (Rd.at rD hw) (hw.ne mM hcv) hl2)) rfl rfl ?_
  rintro r _ ⟨T, ⟨v1, n1, p1, es1, rfl, rfl, q1, q2, q3, q4, q5⟩, rfl⟩
  try refine go ⟨?_⟩
  refine WPL.eff (OpE.callT (T := [Tok.blk rb [cv, .int .i64 p1]]) lO pM2 (fun w hw => g_Wrong _ rb cv bs' p1 n1 v1 es1 (Rd.at rD hw) (hw.ne mM hcv) (Rd.at rD hw) (hw.own_ne pM mM) hl2 (by omega) (by omega))) rfl rfl ?_
  rintro r _ ⟨T, ⟨v2, n2, p2, es2, rfl, rfl, r1, r2, r3, r4⟩, rfl⟩
  try refine go ⟨?_⟩
  refine WPL.eff (OpE.callT (T := [Tok.blk rb [cv, .int .i64 p2]]) lO pM2 (fun w hw => g_Wrong _ rb cv bs' p2 n2 v2 es2 (Rd.at rD hw) (hw.ne mM hcv) (Rd.at rD hw) (hw.own_ne pM mM) hl2 (by omega) (by omega))) rfl rfl ?_
  rintro r _ ⟨T, ⟨v3, n3, p3, es3, rfl, rfl, s1, s2, s3, s4⟩, rfl⟩
  try refine go ⟨?_⟩
  refine WPL.eff (OpE.callT (T := [Tok.blk rb [cv, .int .i64 p3]]) lO pM2 (fun w hw => g_Wrong _ rb cv bs' p3 n3 v3 es3 (Rd.at rD hw) (hw.ne mM hcv) (Rd.at rD hw) (hw.own_ne pM mM) hl2 (by omega) (by omega))) rfl rfl ?_
  rintro r _ ⟨T, ⟨v4, n4, p4, es4, rfl, rfl, t1, t2, t3, t4⟩, rfl⟩
  try refine go ⟨?_⟩
  refine PE.ret1 (T := []) (T' := [Tok.own v4 es4]) rfl rV ?_ sT2
  exact ⟨v4, n4, es4, rfl, rfl, by omega⟩

end Go.Proofs.Ythlgbeakcobeoaa
