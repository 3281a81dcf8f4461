/- Graphs: the walks of without, cut, cutNode, CutEdge, CutNode, HasEdge, isBridge, edgesBy. Conditions: those of each contract. -/
import Derived.Test.YthlgbeakcobeoaaGra3
import Derived.Test.YthlgbeakcobeoaaGra6
import Derived.Test.YthlgbeakcobeoaaGm2
namespace Go.Proofs.Ythlgbeakcobeoaa
open Go
set_option linter.unusedVariables false set_option linter.unusedSimpArgs false attribute [local irreducible] Tok.own Tok.blk RL Rd eptr WP WPL PE WPD WPO Op1 OpE Tri Again Mid Exit.then Exit.inBlock bodyPost RP Code.wp wpList isOwn OneM One
attribute [local irreducible] Pred
set_option maxHeartbeats 8000000

def ptrV (b : Nat) : Value := .pointer (some ⟨b, 0, none⟩)

theorem c_without (w : World) (n : Int) (vE fv : Value) (es : List E) (T : List Tok) (p : E → Bool) (hE : RL w vE es) (hd : ∀ b ∈ vfp vE, b ∉ fps T) (hl : es.length ≤ 1000) (hp : Pred Try.prog w (fps T) fv T ep p es) :
    Tri Try.prog 113 [.agg #[.int .i64 n, vE], fv] w T fun r T' => ∃ v, r = .agg #[.int .i64 n, v] ∧ T' = Tok.own v (es.filter fun e => !p e) :: T := by
  have hA : RdA ⟨13, w, fps T⟩ vE es := RdA.mk hE hd
  refine Tri.intro (hf := Try.func113) (hb := rfl) (hn := Try.ntmps113) (Nat.le_of_ble_eq_true rfl) ?_
  try refine goA ⟨?_⟩
  refine WPL.eff (OpE.box rfl) rfl rfl ?_; rintro _ _ ⟨b2, rfl, rfl⟩
  refine WPL.eff OpE.alloc rfl rfl ?_; rintro _ _ ⟨b4, rfl, rfl⟩
  try refine goA ⟨?_⟩
  refine WP.draw [Tok.blk b2 [.int .i64 n, vE]] mixed ?_
  refine WPD.take 0 rfl (by first | exact (Op1.fieldAddr rfl) | exact (Op1.fieldAddrE rfl rDA lT)) rfl rfl sT kR kR kR xQP ?_
  refine WPD.take 2 rfl (by first | exact (Op1.fieldAddr rfl) | exact (Op1.fieldAddrE rfl rDA lT)) rfl rfl sT kR kR kR xQP ?_
  refine WPD.take 5 rfl (Op1.move rfl) rfl rfl sT kR kR kR xQP ?_
  refine WPD.take 1 rfl (by first | exact (Op1.load rfl mM (by rfl)) | exact (Op1.loadI rfl rDA lT) | exact (Op1.loadAll rfl mM (by rfl)) | exact (Op1.loadE rfl rDA lT (by rfl)) | exact (Op1.loadEAgg rfl rDA lT (by rfl))) rfl rfl sT kR kR kR xQP ?_
  refine WPD.take 3 rfl (by first | exact (Op1.load rfl mM (by rfl)) | exact (Op1.loadI rfl rDA lT) | exact (Op1.loadAll rfl mM (by rfl)) | exact (Op1.loadE rfl rDA lT (by rfl)) | exact (Op1.loadEAgg rfl rDA lT (by rfl))) rfl rfl sT kR kR kR xQP ?_
  refine WPD.eff 4 kR rfl (OpE.call lO (fun w hw => c_CloneE _ vE es (Rd.at rDA hw) (by omega))) rfl rfl ?_
  rintro cl _ ⟨T, rfl, rfl⟩
  refine ⟨sT, ?_⟩
  refine WPD.eff 6 kR rfl (OpE.callT (T := Tok.own cl es :: T) lO (List.Perm.cons _ rot2) (fun w hw => c_DeleteFuncE _ cl fv es T p hl (hp.at hw (SubT.cons (SubT.skip (SubT.skip (SubT.refl _))))))) rfl rfl ?_
  rintro v _ ⟨T', rfl, rfl⟩
  refine ⟨(SubT.skip (SubT.inr sT)), ?_⟩
  refine WPD.tokG (F' := Tok.own v (es.filter fun e => !p e) :: Tok.blk b4 [.int .i64 0, .slice none 0 0] :: Tok.blk b2 [.int .i64 n, vE] :: T) (SubT.of_perm (List.Perm.cons _ rot2.symm)) ?_
  refine WPD.eff 7 kR rfl (OpE.ofPure (Op1.build xBP (by rfl))) rfl rfl ?_
  rintro _ _ ⟨rfl, rfl⟩
  refine ⟨sT, ?_⟩
  refine WPD.eff0 8 kR rfl (OpE.storeAll rfl rfl pM (by rfl) (by rfl) oN) rfl ?_
  rintro _ _ rfl
  refine ⟨sT, ?_⟩
  refine WPD.done kR ?_
  try refine goA ⟨?_⟩
  refine PE.ret1 (T := T) (T' := Tok.own v (es.filter fun e => !p e) :: T) rfl rV ?_ sT2
  exact ⟨v, rfl, rfl⟩

theorem c_cut1 (w : World) (b : Nat) (e f : E) : Tri Try.prog 116 [ep f, ptrV b] w [Tok.blk b [.int .i64 e.A, .int .i64 e.B]] fun r T' => r = .bool (decide (f = e)) ∧ T' = [Tok.blk b [.int .i64 e.A, .int .i64 e.B]] := by
  refine Tri.intro (hf := Try.func116) (hb := rfl) (hn := Try.ntmps116) (Nat.le_of_ble_eq_true rfl) ?_
  try refine go ⟨?_⟩
  refine WPL.eff (OpE.box rfl) rfl rfl ?_; rintro _ _ ⟨b2, rfl, rfl⟩
  try refine go ⟨?_⟩
  refine WPL.pure (Op1.eqE rfl rfl) rfl rfl ?_
  try refine go ⟨?_⟩
  refine PE.ret1 (T := [Tok.blk b [.int .i64 e.A, .int .i64 e.B]]) (T' := [Tok.blk b [.int .i64 e.A, .int .i64 e.B]]) rfl rV ?_ sT
  exact ⟨rfl, rfl⟩

theorem c_cutNode1 (w : World) (b : Nat) (k : Int) (f : E) : Tri Try.prog 114 [ep f, ptrV b] w [Tok.blk b [.int .i64 k]] fun r T' => r = .bool (decide (f.A = k ∨ f.B = k)) ∧ T' = [Tok.blk b [.int .i64 k]] := by
  refine Tri.intro (hf := Try.func114) (hb := rfl) (hn := Try.ntmps114) (Nat.le_of_ble_eq_true rfl) ?_
  try refine go ⟨?_⟩
  refine WPL.eff (OpE.box rfl) rfl rfl ?_; rintro _ _ ⟨b2, rfl, rfl⟩
  repeat' (first | exact absurd rfl hc | refine go ⟨?_⟩ | (refine isCond ?_; refine WP.condD rfl (fun hc => ?_) (fun hc => ?_)) | (refine isGuard ?_; refine WPL.splitD rfl rfl (fun hc => ?_) (fun hc => ?_)))
  · refine PE.ret1 (T := [Tok.blk b [.int .i64 k]]) (T' := [Tok.blk b [.int .i64 k]]) rfl rV ?_ sT
    refine ⟨?_, rfl⟩
    rw [decide_eq_true (Or.inl ‹_›)]
  · refine PE.ret1 (T := [Tok.blk b [.int .i64 k]]) (T' := [Tok.blk b [.int .i64 k]]) rfl rV ?_ sT
    refine ⟨?_, rfl⟩
    congr 1; rw [decide_eq_decide]
    exact ⟨.inr, fun h => h.resolve_left ‹_›⟩

theorem rem_eq (es : List E) (e : E) : (es.filter fun f => !decide (f = e)) = rem es e := by
  unfold rem; congr 1; funext f; simp

theorem c_cut (w : World) (n : Int) (vE : Value) (es : List E) (e : E) (hE : RL w vE es) (hl : es.length ≤ 1000) :
    Tri Try.prog 84 [.agg #[.int .i64 n, vE], ep e] w [] fun r T => ∃ v, r = .agg #[.int .i64 n, v] ∧ T = [Tok.own v (rem es e)] := by
  refine Tri.intro (hf := Try.func84) (hb := rfl) (hn := Try.ntmps84) (Nat.le_of_ble_eq_true rfl) ?_
  try refine go ⟨?_⟩
  refine WPL.eff (OpE.box rfl) rfl rfl ?_; rintro _ _ ⟨b2, rfl, rfl⟩
  try refine go ⟨?_⟩
  refine WPL.eff (OpE.box rfl) rfl rfl ?_; rintro _ _ ⟨b3, rfl, rfl⟩
  refine WPL.eff OpE.alloc rfl rfl ?_; rintro _ _ ⟨b4, rfl, rfl⟩
  try refine go ⟨?_⟩
  refine WPL.pure (Op1.mkFn (bnd := []) (caps := [ptrV b3]) lO lO) rfl rfl ?_
  refine WPL.eff (OpE.callT (T := [Tok.blk b3 [.int .i64 e.A, .int .i64 e.B]]) lO pM (fun w hw => c_without _ n vE (fV 116 [] [ptrV b3]) es [Tok.blk b3 [.int .i64 e.A, .int .i64 e.B]] (fun f => decide (f = e)) (Rd.at rD hw) (hw.neG sT hE) hl (Pred.mk [] [ptrV b3] (fun w _ x _ => c_cut1 w b3 e x)))) rfl rfl ?_
  rintro r _ ⟨T, ⟨v, rfl, rfl⟩, rfl⟩
  rw [rem_eq]
  try refine go ⟨?_⟩
  refine PE.ret1 (T := []) (T' := [Tok.own v (rem es e)]) rfl rV ?_ sT
  exact ⟨v, rfl, rfl⟩

theorem c_cutNode (w : World) (n : Int) (vE : Value) (es : List E) (k : Int) (hE : RL w vE es) (hl : es.length ≤ 1000) :
    Tri Try.prog 79 [.agg #[.int .i64 n, vE], .int .i64 k] w [] fun r T => ∃ v, r = .agg #[.int .i64 n, v] ∧ T = [Tok.own v (alone es k)] := by
  refine Tri.intro (hf := Try.func79) (hb := rfl) (hn := Try.ntmps79) (Nat.le_of_ble_eq_true rfl) ?_
  try refine go ⟨?_⟩
  refine WPL.eff (OpE.box rfl) rfl rfl ?_; rintro _ _ ⟨b2, rfl, rfl⟩
  try refine go ⟨?_⟩
  refine WPL.eff (OpE.boxI rfl rfl) rfl rfl ?_; rintro _ _ ⟨b3, rfl, rfl⟩
  refine WPL.eff OpE.alloc rfl rfl ?_; rintro _ _ ⟨b4, rfl, rfl⟩
  try refine go ⟨?_⟩
  refine WPL.pure (Op1.mkFn (bnd := []) (caps := [ptrV b3]) lO lO) rfl rfl ?_
  refine WPL.eff (OpE.callT (T := [Tok.blk b3 [.int .i64 k]]) lO pM (fun w hw => c_without _ n vE (fV 114 [] [ptrV b3]) es [Tok.blk b3 [.int .i64 k]] (fun f => decide (f.A = k ∨ f.B = k)) (Rd.at rD hw) (hw.neG sT hE) hl (Pred.mk [] [ptrV b3] (fun w _ x _ => c_cutNode1 w b3 k x)))) rfl rfl ?_
  rintro r _ ⟨T, ⟨v, rfl, rfl⟩, rfl⟩
  try refine go ⟨?_⟩
  refine PE.ret1 (T := []) (T' := [Tok.own v (alone es k)]) rfl rV ?_ sT
  exact ⟨v, rfl, rfl⟩
end Go.Proofs.Ythlgbeakcobeoaa
