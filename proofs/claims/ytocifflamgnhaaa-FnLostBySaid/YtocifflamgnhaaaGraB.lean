/- Graphs: the walks of bridgesOnly and of LostBy in both programs. Conditions: those of each contract. -/
import Derived.Test.YtocifflamgnhaaaUni
import Derived.Test.YtocifflamgnhaaaLPartCount
namespace Go.Proofs.Ytocifflamgnhaaa
open Go
theorem lostL_eq {n : Int} {es : List E} {e : E} (hk : putOk n es e) : lostL n es e = if cn n es e.A e.B then btw n es e.A e.B else [] := by
  have hok := hk.1.okE
  have hne : ∀ f ∈ es, f ≠ e := fun f hf h => hk.2.1 (h ▸ hf)
  have key : ∀ f ∈ es, (brB n es f && !(decide (f ∈ insE es e) && brB n (insE es e) f)) = decide (cn n es e.A e.B ∧ ¬ cn n (rem es f) e.A e.B) := fun f hf => by
    have hfn := hok f hf
    have h3 : decide (f ∈ insE es e) = true := decide_eq_true (mem_insE.2 (.inr hf))
    have h4 := lost_iff hf (hne f hf)
    rw [← cn_iff (hok.rem f) hfn.1 hfn.2, ← cn_iff (hk.gv.okE.rem f) hfn.1 hfn.2, ← cn_iff hok hk.nd.1 hk.nd.2, ← cn_iff (hok.rem f) hk.nd.1 hk.nd.2] at h4
    unfold brB
    rw [h3, Bool.true_and, Bool.not_not]
    by_cases ha : cn n (rem es f) f.A f.B
    · rw [decide_eq_true ha, decide_eq_false fun h => (h4.2 h).1 ha]; rfl
    · rw [decide_eq_false ha]
      by_cases hb : cn n (rem (insE es e) f) f.A f.B
      · rw [decide_eq_true hb, decide_eq_true (h4.1 ⟨ha, hb⟩)]; rfl
      · rw [decide_eq_false hb, decide_eq_false fun h => hb (h4.2 h).2]; rfl
  unfold lostL bonly
  rw [List.filter_congr key]
  by_cases hc : cn n es e.A e.B
  · rw [if_pos hc]; unfold btw
    refine List.filter_congr fun f _ => ?_
    by_cases hd : cn n (rem es f) e.A e.B
    · rw [decide_eq_true hd, decide_eq_false fun h => h.2 hd]; rfl
    · rw [decide_eq_false hd, decide_eq_true ⟨hc, hd⟩]; rfl
  · rw [if_neg hc]
    refine List.filter_eq_nil_iff.2 fun f _ => ?_
    rw [decide_eq_true_eq]; exact fun h => hc h.1
set_option linter.unusedVariables false set_option linter.unusedSimpArgs false attribute [local irreducible] Tok.own Tok.blk RL Rd eptr WP WPL PE WPD WPO Op1 OpE Tri Again Mid Exit.then Exit.inBlock bodyPost RP Code.wp wpList isOwn OneM One
attribute [local irreducible] Pred
set_option maxHeartbeats 8000000

theorem c_bonly (w : World) (n m : Int) (vE vF : Value) (es fs : List E) (hE : RL w vE es) (hF : RL w vF fs) (hg : NE n es) (hf : NE m fs) (hN : ∀ e ∈ es, Nd m e.A ∧ Nd m e.B) :
    Tri Try.prog 111 [.agg #[.int .i64 n, vE], .agg #[.int .i64 m, vF]] w [] fun r T => T = [Tok.own r (bonly n es m fs)] := by
  refine Tri.intro (hf := Try.func111) (hb := rfl) (hn := Try.ntmps111) (Nat.le_of_ble_eq_true rfl) ?_
  try refine go ⟨?_⟩
  refine WPL.eff (OpE.box rfl) rfl rfl ?_; rintro _ _ ⟨b1, rfl, rfl⟩
  refine WPL.eff (OpE.box rfl) rfl rfl ?_; rintro _ _ ⟨b2, rfl, rfl⟩
  try refine go ⟨?_⟩
  refine WPL.pure (Op1.mkFn (bnd := []) (caps := [ptrV b1, ptrV b2]) lO lO) rfl rfl ?_
  refine WPL.eff (OpE.callT (T := [Tok.blk b1 [.int .i64 n, vE], Tok.blk b2 [.int .i64 m, vF]]) lO pM2 (fun w hw => c_edgesBy _ n vE (fV 130 [] [ptrV b1, ptrV b2]) es [Tok.blk b1 [.int .i64 n, vE], Tok.blk b2 [.int .i64 m, vF]] (fun e => brB n es e && !(decide (e ∈ fs) && brB m fs e)) (Rd.at rD hw) (hw.neG sT hE) hg.le (Pred.mk [] [ptrV b1, ptrV b2] (fun w2 hw2 e he => c_bonly1 w2 b1 b2 n m vE vF es fs e (hw2.rl (Rd.at rD hw) (hw.neG sT hE)) (hw2.rl (Rd.at rD hw) (hw.neG sT hF)) (hw.neG sT hE) (hw.neG sT hF) hg hf (hg.ok e he).1 (hg.ok e he).2 (hN e he).1 (hN e he).2)))) rfl rfl ?_
  rintro r _ ⟨T, rfl, rfl⟩
  repeat' (first | exact absurd rfl hc | refine go ⟨?_⟩ | (refine isCond ?_; refine WP.condD rfl (fun hc => ?_) (fun hc => ?_)) | (refine isGuard ?_; refine WPL.splitD rfl rfl (fun hc => ?_) (fun hc => ?_)))
  refine PE.ret1 (T := []) (T' := [Tok.own r (bonly n es m fs)]) rfl rV ?_ sT
  rfl

theorem c_LostBy (w : World) (n : Int) (vE : Value) (es : List E) (e : E) (hE : RL w vE es) (hl : es.length ≤ 1099511627776) :
    Tri Try.prog 72 [.agg #[.int .i64 n, vE], ep e] w [] fun r T => (putOk n es e ∧ yesS (lostL n es e) r T) ∨ (¬ putOk n es e ∧ noS r T) := by
  refine Tri.intro (hf := Try.func72) (hb := rfl) (hn := Try.ntmps72) (Nat.le_of_ble_eq_true rfl) ?_
  try refine go ⟨?_⟩
  refine WPL.eff (OpE.box rfl) rfl rfl ?_; rintro _ _ ⟨b, rfl, rfl⟩
  try refine go ⟨?_⟩
  refine WPL.eff (OpE.box rfl) rfl rfl ?_; rintro _ _ ⟨b2, rfl, rfl⟩
  try refine go ⟨?_⟩
  refine WPL.eff (OpE.call lO (fun w hw => u_PutEdge _ n vE es e (Rd.at rD hw) hl)) rfl rfl ?_
  rintro _ _ ⟨T, ⟨q, rfl, rfl⟩, rfl⟩
  try refine go ⟨?_⟩
  refine WPL.eff OpE.alloc rfl rfl ?_; rintro _ _ ⟨b6, rfl, rfl⟩
  by_cases hk : putOk n es e
  case neg =>
    rw [if_neg hk, if_neg hk, decide_eq_false hk]
    try refine go ⟨?_⟩
    refine PE.ret2 (T := []) (T' := []) rfl rV ?_ sT
    exact .inr ⟨hk, rfl, rfl⟩
  rw [if_pos hk, if_pos hk, decide_eq_true hk]
  try refine go ⟨?_⟩
  refine WPL.eff (OpE.call lO (fun w hw => c_bonly _ n n vE q es (insE es e) (Rd.at rD hw) (Rd.at rD hw) hk.1.ne hk.gv.ne (fun f hf => hk.1.okE f hf))) rfl rfl ?_
  rintro r _ ⟨T, rfl, rfl⟩
  try refine go ⟨?_⟩
  refine PE.ret2 (T := []) (T' := [Tok.own r (lostL n es e)]) rfl rV ?_ sT
  exact .inl ⟨hk, r, rfl, rfl⟩

theorem s_LostBy (w : World) (n : Int) (vE : Value) (es : List E) (e : E) (hE : RL w vE es) (hl : es.length ≤ 1099511627776) :
    Tri Try.prog 73 [.agg #[.int .i64 n, vE], ep e] w [] fun r T => (putOk n es e ∧ yesS (lostL n es e) r T) ∨ (¬ putOk n es e ∧ ∃ v, r = .tuple #[v, .bool false] ∧ T = [Tok.own v ([] : List E)]) := by
  refine Tri.intro (hf := Try.func73) (hb := rfl) (hn := Try.ntmps73) (Nat.le_of_ble_eq_true rfl) ?_
  try refine go ⟨?_⟩
  refine WPL.eff (OpE.box rfl) rfl rfl ?_; rintro _ _ ⟨b, rfl, rfl⟩
  try refine go ⟨?_⟩
  refine WPL.eff (OpE.box rfl) rfl rfl ?_; rintro _ _ ⟨b2, rfl, rfl⟩
  try refine go ⟨?_⟩
  refine WPL.eff (OpE.call lO (fun w hw => v_PutEdge _ n vE es e (Rd.at rD hw) hl)) rfl rfl ?_
  rintro _ _ ⟨T, ⟨q, rfl, rfl⟩, rfl⟩
  try refine go ⟨?_⟩
  refine WPL.eff OpE.alloc rfl rfl ?_; rintro _ _ ⟨b6, rfl, rfl⟩
  by_cases hk : putOk n es e
  case neg =>
    rw [if_neg hk, if_neg hk, decide_eq_false hk]
    try refine go ⟨?_⟩
    refine WPL.eff (OpE.buildSlice ([] : List E) pA rfl (by decide)) rfl rfl ?_; rintro s _ rfl
    try refine go ⟨?_⟩
    refine PE.ret2 (T := []) (T' := [Tok.own s ([] : List E)]) rfl rV ?_ sT
    exact .inr ⟨hk, s, rfl, rfl⟩
  rw [if_pos hk, if_pos hk, decide_eq_true hk]
  have hL := lostL_eq hk
  try refine go ⟨?_⟩
  refine WPL.eff (OpE.call lO (fun w hw => s_Joined _ n vE es e.A e.B (Rd.at rD hw) hk.1.ne hk.nd.1 hk.nd.2)) rfl rfl ?_
  rintro r _ ⟨T, ⟨rfl, rfl⟩, rfl⟩
  by_cases hc : cn n es e.A e.B
  case neg =>
    rw [decide_eq_false hc]
    rw [if_neg hc] at hL
    try refine go ⟨?_⟩
    refine WPL.eff (OpE.buildSlice ([] : List E) pA rfl (by decide)) rfl rfl ?_; rintro s _ rfl
    try refine go ⟨?_⟩
    refine PE.ret2 (T := []) (T' := [Tok.own s ([] : List E)]) rfl rV ?_ sT
    exact .inl ⟨hk, s, rfl, by rw [hL]⟩
  rw [decide_eq_true hc]
  rw [if_pos hc] at hL
  try refine go ⟨?_⟩
  refine WPL.eff (OpE.call lO (fun w hw => v_BridgesBetween _ n vE es e.A e.B (Rd.at rD hw) hl)) rfl rfl ?_
  rintro _ _ ⟨T, ⟨q3, rfl, rfl⟩, rfl⟩
  have hCN : CN n es e.A e.B := ⟨hk.1, hk.nd.1, hk.nd.2, hc⟩
  rw [if_pos hCN, decide_eq_true hCN, ← hL]
  try refine go ⟨?_⟩
  refine PE.ret2 (T := []) (T' := [Tok.own q3 (lostL n es e)]) rfl rV ?_ sT
  exact .inl ⟨hk, q3, rfl, rfl⟩

section
variable (w : World) (n : Int) (vE : Value) (es : List E) (e : E) (hE : RL w vE es) (hl : es.length ≤ 1099511627776)
include hE hl
theorem u_LostBy : Tri Try.prog 72 [.agg #[.int .i64 n, vE], ep e] w [] fun r T => ∃ v, r = .tuple #[v, .bool (decide (putOk n es e))] ∧ T = [Tok.own v (if putOk n es e then lostL n es e else [])] := (c_LostBy w n vE es e hE hl).unif2
theorem v_LostBy : Tri Try.prog 73 [.agg #[.int .i64 n, vE], ep e] w [] fun r T => ∃ v, r = .tuple #[v, .bool (decide (putOk n es e))] ∧ T = [Tok.own v (if putOk n es e then lostL n es e else [])] := (s_LostBy w n vE es e hE hl).unif2S
end
end Go.Proofs.Ytocifflamgnhaaa
