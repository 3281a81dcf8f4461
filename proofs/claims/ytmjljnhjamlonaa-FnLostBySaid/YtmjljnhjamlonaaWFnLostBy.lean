/- The given statement FnLostBySaid, out of its walk (LLostBy). Written by fin.py. No conditions. -/
import Derived.Test.YtmjljnhjamlonaaInit
import Derived.Test.YtmjljnhjamlonaaV3
import Derived.Test.YtmjljnhjamlonaaV4
set_option linter.unusedVariables false
set_option linter.unusedSimpArgs false
/- The law FnPartCount: its walk. Conditions: those of the theorem. -/
namespace Go.Proofs.Ytmjljnhjamlonaa
open Go
theorem pcnt_le (n : Int) (es : List E) : pcnt n es ≤ n.toNat := by
  have := List.length_filter_le (fun k => decide (lab n es k = k)) (iota n.toNat)
  rw [iota_length] at this; exact this
theorem CN_iff {n : Int} {es : List E} (hg : GV n es) {x y : Int} (hx : Nd n x) (hy : Nd n y) : CN n es x y ↔ Conn es x y :=
  ⟨fun h => (cn_iff hg.okE hx hy).1 h.2.2.2, fun h => ⟨hg, hx, hy, (cn_iff hg.okE hx hy).2 h⟩⟩
theorem putOk.gv {n : Int} {es : List E} {e : E} (h : putOk n es e) : GV n (insE es e) := by
  obtain ⟨h1, h2, h3, h4⟩ := putOk_iff.1 h
  exact h1.ins h2 h3 h4
theorem putOk.nd {n : Int} {es : List E} {e : E} (h : putOk n es e) : Nd n e.A ∧ Nd n e.B := (putOk_iff.1 h).2.2.1.nd
theorem pc_same {n : Int} {es : List E} {e : E} (h : putOk n es e) (hc : Conn es e.A e.B) : pcnt n (insE es e) = pcnt n es :=
  pcnt_congr h.gv.okE h.1.okE fun x y => conn_ins.trans (conn_cons_same hc)
theorem pc_less {n : Int} {es : List E} {e : E} (h : putOk n es e) (hc : ¬ Conn es e.A e.B) : pcnt n (insE es e) + 1 = pcnt n es := by
  have ho : okE n (e :: es) := fun f hf => by
    rcases List.mem_cons.1 hf with rfl | hf
    · exact h.nd
    · exact h.1.okE f hf
  rw [pcnt_congr h.gv.okE ho fun x y => conn_ins]
  exact pcnt_cons h.1.okE h.nd hc
set_option linter.unusedVariables false set_option linter.unusedSimpArgs false attribute [local irreducible] Tok.own Tok.blk RL Rd eptr WP WPL PE WPD WPO Op1 OpE Tri Again Mid Exit.then Exit.inBlock bodyPost RP Code.wp wpList isOwn OneM One
attribute [local irreducible] CN putOk pcV
set_option maxHeartbeats 8000000

theorem l_PartCount (w : World) (v v2 : Value) (bs bs2 : List UInt8) (h : RL w v bs) (hl : bs.length ≤ 9223372036854775807) (h2 : RL w v2 bs2) (hl2 : bs2.length ≤ 9223372036854775807) :
    Tri Try.prog 12 [v, v2] w [] fun r T => r = .bool true := by
  have pcV0 : ∀ {n : Int} {es : List E}, ¬ GV n es → pcV n es = 0 := fun h => by unfold pcV; exact if_neg h
  have pcV1 : ∀ {n : Int} {es : List E}, GV n es → pcV n es = pcnt n es := fun h => by unfold pcV; exact if_pos h
  refine Tri.intro (hf := Try.func12) (hb := rfl) (hn := Try.ntmps12) (Nat.le_of_ble_eq_true rfl) ?_
  repeat' (first | exact absurd rfl hc | refine go ⟨?_⟩ | (refine isCond ?_; refine WP.condD rfl (fun hc => ?_) (fun hc => ?_)) | (refine isGuard ?_; refine WPL.splitD rfl rfl (fun hc => ?_) (fun hc => ?_)))
  · refine PE.ret1 (T := []) (T' := []) rfl rV ?_ sT
    rfl
  · refine PE.ret1 (T := []) (T' := []) rfl rV ?_ sT
    rfl
  refine WPL.eff (OpE.call lO (fun w hw => g_PartCount _ v bs (Rd.at rD hw) hl)) rfl rfl ?_
  rintro r _ ⟨T, ⟨u, n, es, rfl, rfl, hle⟩, rfl⟩
  try refine go ⟨?_⟩
  refine WPL.eff OpE.alloc rfl rfl ?_; rintro _ _ ⟨bt, rfl, rfl⟩
  try refine go ⟨?_⟩
  refine WPL.eff (OpE.call lO (fun w hw => c_PartCount _ n u es (Rd.at rD hw) (by omega))) rfl rfl ?_
  rintro r _ ⟨T, ⟨rfl, rfl⟩, rfl⟩
  try refine go ⟨?_⟩
  refine WPL.eff (OpE.call lO (fun w hw => s_PartCount _ n u es (Rd.at rD hw) (by omega))) rfl rfl ?_
  rintro r _ ⟨T, ⟨rfl, rfl⟩, rfl⟩
  by_cases hg : GV n es
  case neg =>
    rw [pcV0 hg]
    repeat' (first | exact absurd rfl hc | refine go ⟨?_⟩ | (refine isCond ?_; refine WP.condD rfl (fun hc => ?_) (fun hc => ?_)) | (refine isGuard ?_; refine WPL.splitD rfl rfl (fun hc => ?_) (fun hc => ?_)))
    refine WPL.eff (OpE.call lO (fun w hw => c_GraphValid _ n u es (Rd.at rD hw) (by omega))) rfl rfl ?_
    rintro _ _ ⟨T, ⟨rfl, rfl⟩, rfl⟩
    rw [decide_eq_false hg]
    repeat' (first | exact absurd rfl hc | refine go ⟨?_⟩ | (refine isCond ?_; refine WP.condD rfl (fun hc => ?_) (fun hc => ?_)) | (refine isGuard ?_; refine WPL.splitD rfl rfl (fun hc => ?_) (fun hc => ?_)))
    refine WPL.eff (OpE.call lO (fun w hw => s_PartCount _ n u es (Rd.at rD hw) (by omega))) rfl rfl ?_
    rintro r _ ⟨T, ⟨rfl, rfl⟩, rfl⟩
    rw [pcV0 hg]
    repeat' (first | exact absurd rfl hc | refine go ⟨?_⟩ | (refine isCond ?_; refine WP.condD rfl (fun hc => ?_) (fun hc => ?_)) | (refine isGuard ?_; refine WPL.splitD rfl rfl (fun hc => ?_) (fun hc => ?_)))
    refine PE.ret1 (T := []) (T' := []) rfl rV ?_ sT
    rfl
  have hp1 := pcnt_pos hg.okE (GV_iff.1 hg).1
  have hp2 := pcnt_le n es
  have hn2 := (GV_iff.1 hg).2.1
  rw [pcV1 hg]
  repeat' (first | exact absurd rfl hc | refine go ⟨?_⟩ | (refine isCond ?_; refine WP.condD rfl (fun hc => ?_) (fun hc => ?_)) | (refine isGuard ?_; refine WPL.splitD rfl rfl (fun hc => ?_) (fun hc => ?_)))
  refine WPL.eff (OpE.call lO (fun w hw => c_GraphValid _ n u es (Rd.at rD hw) (by omega))) rfl rfl ?_
  rintro _ _ ⟨T, ⟨rfl, rfl⟩, rfl⟩
  rw [decide_eq_true hg]
  repeat' (first | exact absurd rfl hc | refine go ⟨?_⟩ | (refine isCond ?_; refine WP.condD rfl (fun hc => ?_) (fun hc => ?_)) | (refine isGuard ?_; refine WPL.splitD rfl rfl (fun hc => ?_) (fun hc => ?_)))
  refine WPL.eff (OpE.call lO (fun w hw => g_PutEdge _ v2 bs2 (Rd.at rD hw) hl2)) rfl rfl ?_
  rintro r _ ⟨T, ⟨u2, n2, es2, e, rfl, rfl, hle2⟩, rfl⟩
  try refine go ⟨?_⟩
  refine WPL.eff OpE.alloc rfl rfl ?_; rintro _ _ ⟨b7, rfl, rfl⟩
  try refine go ⟨?_⟩
  refine WPL.eff OpE.alloc rfl rfl ?_; rintro _ _ ⟨b8, rfl, rfl⟩
  try refine go ⟨?_⟩
  refine WPL.eff (OpE.call lO (fun w hw => u_PutEdge _ n u es e (Rd.at rD hw) (by omega))) rfl rfl ?_
  rintro r _ ⟨T, ⟨q, rfl, rfl⟩, rfl⟩
  try refine go ⟨?_⟩
  refine WPL.eff OpE.alloc rfl rfl ?_; rintro _ _ ⟨b9, rfl, rfl⟩
  try refine go ⟨?_⟩
  refine WP.condD rfl (fun hk => ?_) (fun hk => ?_)
  · try refine go ⟨?_⟩
    refine PE.ret1 (T := []) (T' := []) rfl rV ?_ sT
    exact congrArg Value.bool (decide_eq_true (by omega))
  have hk : putOk n es e := Decidable.not_not.1 hk
  rw [if_pos hk, if_pos hk]
  have hil := insE_length es e
  have hci := CN_iff hg hk.nd.1 hk.nd.2
  try refine go ⟨?_⟩
  refine WPL.eff (OpE.call lO (fun w hw => c_PartCount _ n q (insE es e) (Rd.at rD hw) (by omega))) rfl rfl ?_
  rintro r _ ⟨T, ⟨rfl, rfl⟩, rfl⟩
  by_cases hc : Conn es e.A e.B
  · rw [pcV1 hk.gv, pc_same hk hc]
    repeat' (first | exact absurd rfl hc | refine go ⟨?_⟩ | (refine isCond ?_; refine WP.condD rfl (fun hc => ?_) (fun hc => ?_)) | (refine isGuard ?_; refine WPL.splitD rfl rfl (fun hc => ?_) (fun hc => ?_)))
    refine WPL.eff (OpE.call lO (fun w hw => c_Connected _ n u es e.A e.B (Rd.at rD hw) (by omega))) rfl rfl ?_
    rintro r _ ⟨T, ⟨rfl, rfl⟩, rfl⟩
    rw [decide_eq_true (hci.2 hc)]
    try refine go ⟨?_⟩
    rw [decide_eq_true (rfl : (pcnt n es : Int) = pcnt n es)]
    repeat' (first | exact absurd rfl hc | refine go ⟨?_⟩ | (refine isCond ?_; refine WP.condD rfl (fun hc => ?_) (fun hc => ?_)) | (refine isGuard ?_; refine WPL.splitD rfl rfl (fun hc => ?_) (fun hc => ?_)))
    refine PE.ret1 (T := []) (T' := []) rfl rV ?_ sT
    rfl
  · have hpl := pc_less hk hc
    have hpl2 : ((pcnt n (insE es e) : Nat) : Int) = (pcnt n es : Int) - 1 := by omega
    rw [pcV1 hk.gv, hpl2]
    repeat' (first | exact absurd rfl hc | refine go ⟨?_⟩ | (refine isCond ?_; refine WP.condD rfl (fun hc => ?_) (fun hc => ?_)) | (refine isGuard ?_; refine WPL.splitD rfl rfl (fun hc => ?_) (fun hc => ?_)))
    refine WPL.eff (OpE.call lO (fun w hw => c_Connected _ n u es e.A e.B (Rd.at rD hw) (by omega))) rfl rfl ?_
    rintro r _ ⟨T, ⟨rfl, rfl⟩, rfl⟩
    rw [decide_eq_false fun h => hc (hci.1 h)]
    repeat' (first | exact absurd rfl hc | refine go ⟨?_⟩ | (refine isCond ?_; refine WP.condD rfl (fun hc => ?_) (fun hc => ?_)) | (refine isGuard ?_; refine WPL.splitD rfl rfl (fun hc => ?_) (fun hc => ?_)))
    refine WPL.eff (OpE.call lO (fun w hw => c_Connected _ n u es e.A e.B (Rd.at rD hw) (by omega))) rfl rfl ?_
    rintro r _ ⟨T, ⟨rfl, rfl⟩, rfl⟩
    rw [decide_eq_false fun h => hc (hci.1 h)]
    repeat' (first | exact absurd rfl hc | refine go ⟨?_⟩ | (refine isCond ?_; refine WP.condD rfl (fun hc => ?_) (fun hc => ?_)) | (refine isGuard ?_; refine WPL.splitD rfl rfl (fun hc => ?_) (fun hc => ?_)))
    refine PE.ret1 (T := []) (T' := []) rfl rV ?_ sT
    exact congrArg Value.bool (decide_eq_true rfl)
end Go.Proofs.Ytmjljnhjamlonaa
/- Graphs: the walks of bridgesOnly and of LostBy in both programs. Conditions: those of each contract. -/
namespace Go.Proofs.Ytmjljnhjamlonaa
open Go
theorem lostL_eq {n : Int} {es : List E} {e : E} (hk : putOk n es e) : lostL n es e = if cn n es e.A e.B then btw n es e.A e.B else [] := by
  have hok := hk.1.okE
  have hne : ∀ f ∈ es, f ≠ e := fun f hf h => hk.2.1 (h ▸ hf)
  have key : ∀ f ∈ es, (brB n es f && !(decide (f ∈ insE es e) && brB n (insE es e) f)) = decide (cn n es e.A e.B ∧ ¬ cn n (rem es f) e.A e.B) := fun f hf => by
    have hfn := hok f hf
    have h3 : decide (f ∈ insE es e) = true := decide_eq_true (mem_insE.2 (.inr hf))
    have h4 := lost_iff hf (hne f hf)
    rw [← cn_iff (hok.rem f) hfn.1 hfn.2, ← cn_iff (hk.gv.okE.rem f) hfn.1 hfn.2, ← cn_iff hok hk.nd.1 hk.nd.2, ← cn_iff (hok.rem f) hk.nd.1 hk.nd.2] at h4
    unfold brB
    rw [h3, Bool.true_and, Bool.not_not]
    by_cases ha : cn n (rem es f) f.A f.B
    · rw [decide_eq_true ha, decide_eq_false fun h => (h4.2 h).1 ha]; rfl
    · rw [decide_eq_false ha]
      by_cases hb : cn n (rem (insE es e) f) f.A f.B
      · rw [decide_eq_true hb, decide_eq_true (h4.1 ⟨ha, hb⟩)]; rfl
      · rw [decide_eq_false hb, decide_eq_false fun h => hb (h4.2 h).2]; rfl
  unfold lostL bonly
  rw [List.filter_congr key]
  by_cases hc : cn n es e.A e.B
  · rw [if_pos hc]; unfold btw
    refine List.filter_congr fun f _ => ?_
    by_cases hd : cn n (rem es f) e.A e.B
    · rw [decide_eq_true hd, decide_eq_false fun h => h.2 hd]; rfl
    · rw [decide_eq_false hd, decide_eq_true ⟨hc, hd⟩]; rfl
  · rw [if_neg hc]
    refine List.filter_eq_nil_iff.2 fun f _ => ?_
    rw [decide_eq_true_eq]; exact fun h => hc h.1
set_option linter.unusedVariables false set_option linter.unusedSimpArgs false attribute [local irreducible] Tok.own Tok.blk RL Rd eptr WP WPL PE WPD WPO Op1 OpE Tri Again Mid Exit.then Exit.inBlock bodyPost RP Code.wp wpList isOwn OneM One
attribute [local irreducible] Pred
set_option maxHeartbeats 8000000

theorem c_bonly (w : World) (n m : Int) (vE vF : Value) (es fs : List E) (hE : RL w vE es) (hF : RL w vF fs) (hg : NE n es) (hf : NE m fs) (hN : ∀ e ∈ es, Nd m e.A ∧ Nd m e.B) :
    Tri Try.prog 109 [.agg #[.int .i64 n, vE], .agg #[.int .i64 m, vF]] w [] fun r T => T = [Tok.own r (bonly n es m fs)] := by
  refine Tri.intro (hf := Try.func109) (hb := rfl) (hn := Try.ntmps109) (Nat.le_of_ble_eq_true rfl) ?_
  try refine go ⟨?_⟩
  refine WPL.eff (OpE.box rfl) rfl rfl ?_; rintro _ _ ⟨b1, rfl, rfl⟩
  refine WPL.eff (OpE.box rfl) rfl rfl ?_; rintro _ _ ⟨b2, rfl, rfl⟩
  try refine go ⟨?_⟩
  refine WPL.pure (Op1.mkFn (bnd := []) (caps := [ptrV b1, ptrV b2]) lO lO) rfl rfl ?_
  refine WPL.eff (OpE.callT (T := [Tok.blk b1 [.int .i64 n, vE], Tok.blk b2 [.int .i64 m, vF]]) lO pM2 (fun w hw => c_edgesBy _ n vE (fV 133 [] [ptrV b1, ptrV b2]) es [Tok.blk b1 [.int .i64 n, vE], Tok.blk b2 [.int .i64 m, vF]] (fun e => brB n es e && !(decide (e ∈ fs) && brB m fs e)) (Rd.at rD hw) (hw.neG sT hE) hg.le (Pred.mk [] [ptrV b1, ptrV b2] (fun w2 hw2 e he => c_bonly1 w2 b1 b2 n m vE vF es fs e (hw2.rl (Rd.at rD hw) (hw.neG sT hE)) (hw2.rl (Rd.at rD hw) (hw.neG sT hF)) (hw.neG sT hE) (hw.neG sT hF) hg hf (hg.ok e he).1 (hg.ok e he).2 (hN e he).1 (hN e he).2)))) rfl rfl ?_
  rintro r _ ⟨T, rfl, rfl⟩
  repeat' (first | exact absurd rfl hc | refine go ⟨?_⟩ | (refine isCond ?_; refine WP.condD rfl (fun hc => ?_) (fun hc => ?_)) | (refine isGuard ?_; refine WPL.splitD rfl rfl (fun hc => ?_) (fun hc => ?_)))
  refine PE.ret1 (T := []) (T' := [Tok.own r (bonly n es m fs)]) rfl rV ?_ sT
  rfl

theorem c_LostBy (w : World) (n : Int) (vE : Value) (es : List E) (e : E) (hE : RL w vE es) (hl : es.length ≤ 1099511627776) :
    Tri Try.prog 62 [.agg #[.int .i64 n, vE], ep e] w [] fun r T => (putOk n es e ∧ yesS (lostL n es e) r T) ∨ (¬ putOk n es e ∧ noS r T) := by
  refine Tri.intro (hf := Try.func62) (hb := rfl) (hn := Try.ntmps62) (Nat.le_of_ble_eq_true rfl) ?_
  try refine go ⟨?_⟩
  refine WPL.eff (OpE.box rfl) rfl rfl ?_; rintro _ _ ⟨b, rfl, rfl⟩
  try refine go ⟨?_⟩
  refine WPL.eff (OpE.box rfl) rfl rfl ?_; rintro _ _ ⟨b2, rfl, rfl⟩
  try refine go ⟨?_⟩
  refine WPL.eff (OpE.call lO (fun w hw => u_PutEdge _ n vE es e (Rd.at rD hw) hl)) rfl rfl ?_
  rintro _ _ ⟨T, ⟨q, rfl, rfl⟩, rfl⟩
  try refine go ⟨?_⟩
  refine WPL.eff OpE.alloc rfl rfl ?_; rintro _ _ ⟨b6, rfl, rfl⟩
  by_cases hk : putOk n es e
  case neg =>
    rw [if_neg hk, if_neg hk, decide_eq_false hk]
    try refine go ⟨?_⟩
    refine PE.ret2 (T := []) (T' := []) rfl rV ?_ sT
    exact .inr ⟨hk, rfl, rfl⟩
  rw [if_pos hk, if_pos hk, decide_eq_true hk]
  try refine go ⟨?_⟩
  refine WPL.eff (OpE.call lO (fun w hw => c_bonly _ n n vE q es (insE es e) (Rd.at rD hw) (Rd.at rD hw) hk.1.ne hk.gv.ne (fun f hf => hk.1.okE f hf))) rfl rfl ?_
  rintro r _ ⟨T, rfl, rfl⟩
  try refine go ⟨?_⟩
  refine PE.ret2 (T := []) (T' := [Tok.own r (lostL n es e)]) rfl rV ?_ sT
  exact .inl ⟨hk, r, rfl, rfl⟩

theorem s_LostBy (w : World) (n : Int) (vE : Value) (es : List E) (e : E) (hE : RL w vE es) (hl : es.length ≤ 1099511627776) :
    Tri Try.prog 63 [.agg #[.int .i64 n, vE], ep e] w [] fun r T => (putOk n es e ∧ yesS (lostL n es e) r T) ∨ (¬ putOk n es e ∧ ∃ v, r = .tuple #[v, .bool false] ∧ T = [Tok.own v ([] : List E)]) := by
  refine Tri.intro (hf := Try.func63) (hb := rfl) (hn := Try.ntmps63) (Nat.le_of_ble_eq_true rfl) ?_
  try refine go ⟨?_⟩
  refine WPL.eff (OpE.box rfl) rfl rfl ?_; rintro _ _ ⟨b, rfl, rfl⟩
  try refine go ⟨?_⟩
  refine WPL.eff (OpE.box rfl) rfl rfl ?_; rintro _ _ ⟨b2, rfl, rfl⟩
  try refine go ⟨?_⟩
  refine WPL.eff (OpE.call lO (fun w hw => v_PutEdge _ n vE es e (Rd.at rD hw) hl)) rfl rfl ?_
  rintro _ _ ⟨T, ⟨q, rfl, rfl⟩, rfl⟩
  try refine go ⟨?_⟩
  refine WPL.eff OpE.alloc rfl rfl ?_; rintro _ _ ⟨b6, rfl, rfl⟩
  by_cases hk : putOk n es e
  case neg =>
    rw [if_neg hk, if_neg hk, decide_eq_false hk]
    try refine go ⟨?_⟩
    refine WPL.eff (OpE.buildSlice ([] : List E) pA rfl (by decide)) rfl rfl ?_; rintro s _ rfl
    try refine go ⟨?_⟩
    refine PE.ret2 (T := []) (T' := [Tok.own s ([] : List E)]) rfl rV ?_ sT
    exact .inr ⟨hk, s, rfl, rfl⟩
  rw [if_pos hk, if_pos hk, decide_eq_true hk]
  have hL := lostL_eq hk
  try refine go ⟨?_⟩
  refine WPL.eff (OpE.call lO (fun w hw => s_Joined _ n vE es e.A e.B (Rd.at rD hw) hk.1.ne hk.nd.1 hk.nd.2)) rfl rfl ?_
  rintro r _ ⟨T, ⟨rfl, rfl⟩, rfl⟩
  by_cases hc : cn n es e.A e.B
  case neg =>
    rw [decide_eq_false hc]
    rw [if_neg hc] at hL
    try refine go ⟨?_⟩
    refine WPL.eff (OpE.buildSlice ([] : List E) pA rfl (by decide)) rfl rfl ?_; rintro s _ rfl
    try refine go ⟨?_⟩
    refine PE.ret2 (T := []) (T' := [Tok.own s ([] : List E)]) rfl rV ?_ sT
    exact .inl ⟨hk, s, rfl, by rw [hL]⟩
  rw [decide_eq_true hc]
  rw [if_pos hc] at hL
  try refine go ⟨?_⟩
  refine WPL.eff (OpE.call lO (fun w hw => v_BridgesBetween _ n vE es e.A e.B (Rd.at rD hw) hl)) rfl rfl ?_
  rintro _ _ ⟨T, ⟨q3, rfl, rfl⟩, rfl⟩
  have hCN : CN n es e.A e.B := ⟨hk.1, hk.nd.1, hk.nd.2, hc⟩
  rw [if_pos hCN, decide_eq_true hCN, ← hL]
  try refine go ⟨?_⟩
  refine PE.ret2 (T := []) (T' := [Tok.own q3 (lostL n es e)]) rfl rV ?_ sT
  exact .inl ⟨hk, q3, rfl, rfl⟩

section
variable (w : World) (n : Int) (vE : Value) (es : List E) (e : E) (hE : RL w vE es) (hl : es.length ≤ 1099511627776)
include hE hl
theorem u_LostBy : Tri Try.prog 62 [.agg #[.int .i64 n, vE], ep e] w [] fun r T => ∃ v, r = .tuple #[v, .bool (decide (putOk n es e))] ∧ T = [Tok.own v (if putOk n es e then lostL n es e else [])] := (c_LostBy w n vE es e hE hl).unif2
theorem v_LostBy : Tri Try.prog 63 [.agg #[.int .i64 n, vE], ep e] w [] fun r T => ∃ v, r = .tuple #[v, .bool (decide (putOk n es e))] ∧ T = [Tok.own v (if putOk n es e then lostL n es e else [])] := (s_LostBy w n vE es e hE hl).unif2S
end
end Go.Proofs.Ytmjljnhjamlonaa
/- The law FnPartsOf: its walk. Conditions: those of the theorem. -/
namespace Go.Proofs.Ytmjljnhjamlonaa
open Go
theorem deq_int (l : List Int) : decide (l = l) = true := decide_eq_true rfl
theorem deq_E (l : List E) : decide (l = l) = true := decide_eq_true rfl
set_option linter.unusedVariables false set_option linter.unusedSimpArgs false attribute [local irreducible] Tok.own Tok.blk RL Rd eptr WP WPL PE WPD WPO Op1 OpE Tri Again Mid Exit.then Exit.inBlock bodyPost RP Code.wp wpList isOwn OneM One
set_option maxHeartbeats 8000000

theorem l_PartsOf (w : World) (v : Value) (bs : List UInt8) (h : RL w v bs) (hl : bs.length ≤ 9223372036854775807) :
    Tri Try.prog 4 [v] w [] fun r T => r = .bool true := by
  refine Tri.intro (hf := Try.func4) (hb := rfl) (hn := Try.ntmps4) (Nat.le_of_ble_eq_true rfl) ?_
  repeat' (first | exact absurd rfl hc | refine go ⟨?_⟩ | (refine isCond ?_; refine WP.condD rfl (fun hc => ?_) (fun hc => ?_)) | (refine isGuard ?_; refine WPL.splitD rfl rfl (fun hc => ?_) (fun hc => ?_)))
  · refine PE.ret1 (T := []) (T' := []) rfl rV ?_ sT
    rfl
  refine WPL.eff (OpE.call lO (fun w hw => g_PartsOf _ v bs (Rd.at rD hw) hl)) rfl rfl ?_
  rintro r _ ⟨T, ⟨u, n, es, rfl, rfl, hle⟩, rfl⟩
  try refine go ⟨?_⟩
  refine WPL.eff OpE.alloc rfl rfl ?_; rintro _ _ ⟨bt, rfl, rfl⟩
  try refine go ⟨?_⟩
  refine WPL.eff (OpE.call lO (fun w hw => u_PartsOf _ n u es (Rd.at rD hw) (by omega))) rfl rfl ?_
  rintro r _ ⟨T, rfl, rfl⟩
  try refine go ⟨?_⟩
  refine WPL.eff (OpE.call lO (fun w hw => v_PartsOf _ n u es (Rd.at rD hw) (by omega))) rfl rfl ?_
  rintro r2 _ ⟨T, rfl, rfl⟩
  by_cases hg : GV n es
  case neg =>
    rw [if_neg hg]
    try refine go ⟨?_⟩
    refine WPL.eff (OpE.call lO (fun w hw => y_Ints _ r r2 [] [] (Rd.at rD hw) (Rd.at rD hw) (by decide) (by decide))) rfl rfl ?_
    rintro _ _ ⟨T, ⟨rfl, rfl⟩, rfl⟩
    rw [deq_int]
    repeat' (first | exact absurd rfl hc | refine go ⟨?_⟩ | (refine isCond ?_; refine WP.condD rfl (fun hc => ?_) (fun hc => ?_)) | (refine isGuard ?_; refine WPL.splitD rfl rfl (fun hc => ?_) (fun hc => ?_)))
    refine WPL.eff (OpE.call lO (fun w hw => c_GraphValid _ n u es (Rd.at rD hw) (by omega))) rfl rfl ?_
    rintro _ _ ⟨T, ⟨rfl, rfl⟩, rfl⟩
    rw [decide_eq_false hg]
    repeat' (first | exact absurd rfl hc | refine go ⟨?_⟩ | (refine isCond ?_; refine WP.condD rfl (fun hc => ?_) (fun hc => ?_)) | (refine isGuard ?_; refine WPL.splitD rfl rfl (fun hc => ?_) (fun hc => ?_)))
    refine WPL.eff (OpE.call lO (fun w hw => v_PartsOf _ n u es (Rd.at rD hw) (by omega))) rfl rfl ?_
    rintro r3 _ ⟨T, rfl, rfl⟩
    rw [if_neg hg]
    try refine go ⟨?_⟩
    refine WPL.eff (OpE.call lO (fun w hw => y_Ints _ r r3 [] [] (Rd.at rD hw) (Rd.at rD hw) (by decide) (by decide))) rfl rfl ?_
    rintro _ _ ⟨T, ⟨rfl, rfl⟩, rfl⟩
    rw [deq_int]
    repeat' (first | exact absurd rfl hc | refine go ⟨?_⟩ | (refine isCond ?_; refine WP.condD rfl (fun hc => ?_) (fun hc => ?_)) | (refine isGuard ?_; refine WPL.splitD rfl rfl (fun hc => ?_) (fun hc => ?_)))
    refine PE.ret1 (T := []) (T' := []) rfl rV ?_ sT
    rfl
  have hll := labs_length n es
  have hn1 := hg.ne.n1
  have hn2 := hg.ne.n2
  rw [if_pos hg]
  try refine go ⟨?_⟩
  refine WPL.eff (OpE.call lO (fun w hw => y_Ints _ r r2 (labs n es) (labs n es) (Rd.at rD hw) (Rd.at rD hw) (by omega) (by omega))) rfl rfl ?_
  rintro _ _ ⟨T, ⟨rfl, rfl⟩, rfl⟩
  rw [deq_int]
  repeat' (first | exact absurd rfl hc | refine go ⟨?_⟩ | (refine isCond ?_; refine WP.condD rfl (fun hc => ?_) (fun hc => ?_)) | (refine isGuard ?_; refine WPL.splitD rfl rfl (fun hc => ?_) (fun hc => ?_)))
  refine WPL.eff (OpE.call lO (fun w hw => c_GraphValid _ n u es (Rd.at rD hw) (by omega))) rfl rfl ?_
  rintro _ _ ⟨T, ⟨rfl, rfl⟩, rfl⟩
  rw [decide_eq_true hg]
  repeat' (first | exact absurd rfl hc | refine go ⟨?_⟩ | (refine isCond ?_; refine WP.condD rfl (fun hc => ?_) (fun hc => ?_)) | (refine isGuard ?_; refine WPL.splitD rfl rfl (fun hc => ?_) (fun hc => ?_)))
  refine WP.loop (σ := Nat) (fun k => [(3, ptrV bt), (4, r), (5, .int .i64 k)]) (fun _ => [Tok.own r (labs n es), Tok.blk bt [.int .i64 n, u], Tok.own u es]) (fun k => k ≤ es.length) (fun k => es.length - k) 0 (Nat.zero_le _) sE sT2 ?_
  rintro k hk
  try refine go ⟨?_⟩
  refine WP.condD rfl (fun hc => ?_) (fun hc => ?_)
  · have hk' : k < es.length := by omega
    have hm := getD_memI (d := (Enc.d : E)) hk'
    obtain ⟨⟨a1, a2⟩, a3, a4⟩ := hg.okE _ hm
    have hst := labs_stab hg.okE _ hm
    try refine go ⟨?_⟩
    refine WP.draw [Tok.own r (labs n es), Tok.blk bt [.int .i64 n, u], Tok.own u es] mixed ?_
    refine WPD.take 0 rfl (Op1.move rfl) rfl rfl sT kR kR kR xQP ?_
    refine WPD.take 1 rfl (by first | exact (Op1.fieldAddr rfl) | exact (Op1.fieldAddrE rfl rD lT)) rfl rfl sT kR kR kR xQP ?_
    refine WPD.take 3 rfl (Op1.move rfl) rfl rfl sT kR kR kR xQP ?_
    refine WPD.take 9 rfl (Op1.move rfl) rfl rfl sT kR kR kR xQP ?_
    refine WPD.take 10 rfl (by first | exact (Op1.fieldAddr rfl) | exact (Op1.fieldAddrE rfl rD lT)) rfl rfl sT kR kR kR xQP ?_
    refine WPD.take 12 rfl (Op1.move rfl) rfl rfl sT kR kR kR xQP ?_
    refine WPD.take 2 rfl (by first | exact (Op1.load rfl mM (by rfl)) | exact (Op1.loadI rfl rD lT) | exact (Op1.loadAll rfl mM (by rfl)) | exact (Op1.loadE rfl rD lT (by rfl)) | exact (Op1.loadEAgg rfl rD lT (by rfl))) rfl rfl sT kR kR kR xQP ?_
    refine WPD.take 11 rfl (by first | exact (Op1.load rfl mM (by rfl)) | exact (Op1.loadI rfl rD lT) | exact (Op1.loadAll rfl mM (by rfl)) | exact (Op1.loadE rfl rD lT (by rfl)) | exact (Op1.loadEAgg rfl rD lT (by rfl))) rfl rfl sT kR kR kR xQP ?_
    refine WPD.take 4 rfl (by first | exact (Op1.indexAddr rfl rfl rD lT) | exact (Op1.indexAddrZ rfl rfl rD lT)) rfl rfl sT kR kR kR xQP ?_
    refine WPD.take 13 rfl (by first | exact (Op1.indexAddr rfl rfl rD lT) | exact (Op1.indexAddrZ rfl rfl rD lT)) rfl rfl sT kR kR kR xQP ?_
    refine WPD.take 5 rfl (by first | exact (Op1.fieldAddr rfl) | exact (Op1.fieldAddrE rfl rD lT)) rfl rfl sT kR kR kR xQP ?_
    refine WPD.take 14 rfl (by first | exact (Op1.fieldAddr rfl) | exact (Op1.fieldAddrE rfl rD lT)) rfl rfl sT kR kR kR xQP ?_
    refine WPD.take 6 rfl (by first | exact (Op1.load rfl mM (by rfl)) | exact (Op1.loadI rfl rD lT) | exact (Op1.loadAll rfl mM (by rfl)) | exact (Op1.loadE rfl rD lT (by rfl)) | exact (Op1.loadEAgg rfl rD lT (by rfl))) rfl rfl sT kR kR kR xQP ?_
    refine WPD.take 15 rfl (by first | exact (Op1.load rfl mM (by rfl)) | exact (Op1.loadI rfl rD lT) | exact (Op1.loadAll rfl mM (by rfl)) | exact (Op1.loadE rfl rD lT (by rfl)) | exact (Op1.loadEAgg rfl rD lT (by rfl))) rfl rfl sT kR kR kR xQP ?_
    refine WPD.take 7 rfl (by first | exact (Op1.indexAddr rfl rfl rD lT) | exact (Op1.indexAddrZ rfl rfl rD lT)) rfl rfl sT kR kR kR xQP ?_
    refine WPD.take 16 rfl (by first | exact (Op1.indexAddr rfl rfl rD lT) | exact (Op1.indexAddrZ rfl rfl rD lT)) rfl rfl sT kR kR kR xQP ?_
    refine WPD.take 8 rfl (by first | exact (Op1.load rfl mM (by rfl)) | exact (Op1.loadI rfl rD lT) | exact (Op1.loadAll rfl mM (by rfl)) | exact (Op1.loadE rfl rD lT (by rfl)) | exact (Op1.loadEAgg rfl rD lT (by rfl))) rfl rfl sT kR kR kR xQP ?_
    refine WPD.take 17 rfl (by first | exact (Op1.load rfl mM (by rfl)) | exact (Op1.loadI rfl rD lT) | exact (Op1.loadAll rfl mM (by rfl)) | exact (Op1.loadE rfl rD lT (by rfl)) | exact (Op1.loadEAgg rfl rD lT (by rfl))) rfl rfl sT kR kR kR xQP ?_
    refine WPD.take 18 rfl (by first | exact (Op1.neI rfl rfl) | exact (Op1.neB rfl rfl) | exact (Op1.neE rfl rfl)) rfl rfl sT kR kR kR xQP ?_
    refine WPD.done kR ?_
    try refine go ⟨?_⟩
    refine WP.condD rfl (fun he => ?_) (fun he => ?_)
    · exact absurd hst he
    · try refine go ⟨?_⟩
      refine PE.again (k + 1) ?_ ?_ sE sT2
      · (try dsimp only); omega
      · (try dsimp only); omega
  try refine go ⟨?_⟩
  refine WP.loop (σ := Nat) (fun k => [(3, ptrV bt), (4, r), (6, .int .i64 k)]) (fun _ => [Tok.own r (labs n es), Tok.blk bt [.int .i64 n, u], Tok.own u es]) (fun k => k ≤ n.toNat) (fun k => n.toNat - k) 0 (Nat.zero_le _) sE sT2 ?_
  rintro k hk
  try refine go ⟨?_⟩
  refine WP.condD rfl (fun hc => ?_) (fun hc => ?_)
  · have hk' : k < n.toNat := by omega
    have hgn : GN n es k := ⟨hg, by omega, by omega⟩
    try refine go ⟨?_⟩
    refine WPL.eff (OpE.call lO (fun w hw => u_PartNodes _ n u es k (Rd.at rD hw) (by omega))) rfl rfl ?_
    rintro p _ ⟨T, rfl, rfl⟩
    rw [if_pos hgn]
    have hmem : (k : Int) ∈ pns n es k := (mem_pns (by omega)).2 ⟨hgn.2, rfl⟩
    have hpl : 0 < (pns n es k).length := List.length_pos_of_mem hmem
    have hpu : (pns n es k).length ≤ n.toNat := by
      have := List.length_filter_le (fun j => decide (lab n es j = lab n es k)) (iota n.toNat)
      rw [iota_length] at this; exact this
    have hh : (labs n es).getD k 0 = (pns n es k).getD 0 0 := (pns_head hg.okE hgn.2).symm
    try refine go ⟨?_⟩
    refine WP.draw [Tok.own p (pns n es k), Tok.own r (labs n es), Tok.blk bt [.int .i64 n, u], Tok.own u es] mixed ?_
    refine WPD.take 0 rfl (Op1.move rfl) rfl rfl sT kR kR kR xQP ?_
    refine WPD.take 1 rfl (Op1.move rfl) rfl rfl sT kR kR kR xQP ?_
    refine WPD.take 4 rfl (Op1.move rfl) rfl rfl sT kR kR kR xQP ?_
    refine WPD.take 2 rfl (by first | exact (Op1.indexAddr rfl rfl rD lT) | exact (Op1.indexAddrZ rfl rfl rD lT)) rfl rfl sT kR kR kR xQP ?_
    refine WPD.take 5 rfl (by first | exact (Op1.indexAddr rfl rfl rD lT) | exact (Op1.indexAddrZ rfl rfl rD lT)) rfl rfl sT kR kR kR xQP ?_
    refine WPD.take 3 rfl (by first | exact (Op1.load rfl mM (by rfl)) | exact (Op1.loadI rfl rD lT) | exact (Op1.loadAll rfl mM (by rfl)) | exact (Op1.loadE rfl rD lT (by rfl)) | exact (Op1.loadEAgg rfl rD lT (by rfl))) rfl rfl sT kR kR kR xQP ?_
    refine WPD.take 6 rfl (by first | exact (Op1.load rfl mM (by rfl)) | exact (Op1.loadI rfl rD lT) | exact (Op1.loadAll rfl mM (by rfl)) | exact (Op1.loadE rfl rD lT (by rfl)) | exact (Op1.loadEAgg rfl rD lT (by rfl))) rfl rfl sT kR kR kR xQP ?_
    refine WPD.take 7 rfl (by first | exact (Op1.neI rfl rfl) | exact (Op1.neB rfl rfl) | exact (Op1.neE rfl rfl)) rfl rfl sT kR kR kR xQP ?_
    refine WPD.take 8 rfl (Op1.move rfl) rfl rfl sT kR kR kR xQP ?_
    first | refine WPD.splitD 77 rfl (fun h77 => ?t37) (fun h77 => ?f37) | refine WPD.split 77 rfl (fun h77 => ?t37) (fun h77 => ?f37)
    case' t37 =>
      refine WPD.skip 9 rfl rfl rfl sT kR kR kR xQP ?_
      refine WPD.skip 10 rfl rfl rfl sT kR kR kR xQP ?_
      refine WPD.skip 11 rfl rfl rfl sT kR kR kR xQP ?_
      refine WPD.skip 12 rfl rfl rfl sT kR kR kR xQP ?_
      refine WPD.eff 13 kR rfl (OpE.ofPure (by first | exact (Op1.pickT rfl rfl) | exact (Op1.pickF rfl rfl))) rfl rfl ?_
      rintro _ _ ⟨rfl, rfl⟩
      refine ⟨sT, ?_⟩
      refine WPD.done kR ?_
    case' f37 =>
      refine WPD.take 9 rfl (Op1.move rfl) rfl rfl sT kR kR kR xQP ?_
      refine WPD.take 10 rfl (Op1.move rfl) rfl rfl sT kR kR kR xQP ?_
      refine WPD.eff 11 kR rfl (OpE.call lO (fun w hw => y_In _ p k (pns n es k) (Rd.at rD hw) (by omega))) rfl rfl ?_
      rintro r _ ⟨T, ⟨rfl, rfl⟩, rfl⟩
      refine ⟨sT, ?_⟩
      refine WPD.eff 12 kR rfl (OpE.ofPure (by first | exact (Op1.notD rfl) | exact (Op1.not rfl))) rfl rfl ?_
      rintro _ _ ⟨rfl, rfl⟩
      refine ⟨sT, ?_⟩
      refine WPD.eff 13 kR rfl (OpE.ofPure (by first | exact (Op1.pickT rfl rfl) | exact (Op1.pickF rfl rfl))) rfl rfl ?_
      rintro _ _ ⟨rfl, rfl⟩
      refine ⟨sT, ?_⟩
      refine WPD.done kR ?_
    · try refine go ⟨?_⟩
      refine WP.condD rfl (fun hq => ?_) (fun hq => ?_)
      · exact absurd hmem hq
      try refine go ⟨?_⟩
      refine PE.again (k + 1) ?_ ?_ sE sT2
      · (try dsimp only); omega
      · (try dsimp only); omega
    · exact absurd hh ‹_›
  try refine go ⟨?_⟩
  refine PE.ret1 (T := []) (T' := []) rfl rV ?_ sT
  exact congrArg Value.bool (decide_eq_true (by omega))
end Go.Proofs.Ytmjljnhjamlonaa
/- The law FnBridgePut: its walk. Conditions: those of the theorem. -/
namespace Go.Proofs.Ytmjljnhjamlonaa
open Go
theorem same_self (n : Int) (l : List E) : decide (n = n ∧ l = l) = true := decide_eq_true ⟨rfl, rfl⟩
theorem beq_nn (d : Bool) : (d == !(!d)) = true := by cases d <;> rfl
theorem brs_ins {n : Int} {es : List E} {e f : E} (hk : putOk n es e) (hf : f ∈ brs n (insE es e)) (hne : f ≠ e) : f ∈ brs n es := by
  have h1 := (mem_brs hk.gv.okE).1 hf
  have hfe : f ∈ es := (mem_insE.1 h1.1).resolve_left hne
  exact (mem_brs hk.1.okE).2 ⟨hfe, fun hc => h1.2 (hc.mono fun g hg => mem_rem.2 ⟨mem_insE.2 (.inr (mem_rem.1 hg).1), (mem_rem.1 hg).2⟩)⟩
theorem brs_self {n : Int} {es : List E} {e : E} (hk : putOk n es e) : decide (CN n es e.A e.B) = !decide (e ∈ brs n (insE es e)) := by
  have h1 := CN_iff hk.1 hk.nd.1 hk.nd.2
  have h2 : e ∈ brs n (insE es e) ↔ ¬ Conn es e.A e.B := by
    rw [mem_brs hk.gv.okE, conn_rem_ins hk.2.1]
    exact ⟨fun h => h.2, fun h => ⟨mem_insE.2 (.inl rfl), h⟩⟩
  by_cases hc : Conn es e.A e.B
  · rw [decide_eq_true (h1.2 hc), decide_eq_false fun h => h2.1 h hc]; rfl
  · rw [decide_eq_false fun h => hc (h1.1 h), decide_eq_true (h2.2 hc)]; rfl
theorem brs_len (n : Int) (es : List E) : (brs n es).length ≤ es.length := List.length_filter_le _ _
set_option linter.unusedVariables false set_option linter.unusedSimpArgs false attribute [local irreducible] Tok.own Tok.blk RL Rd eptr WP WPL PE WPD WPO Op1 OpE Tri Again Mid Exit.then Exit.inBlock bodyPost RP Code.wp wpList isOwn OneM One
attribute [local irreducible] CN putOk
set_option maxHeartbeats 8000000

theorem l_BridgePut (w : World) (v : Value) (bs : List UInt8) (h : RL w v bs) (hl : bs.length ≤ 9223372036854775807) :
    Tri Try.prog 13 [v] w [] fun r T => r = .bool true := by
  have gvOf : ∀ {n : Int} {es : List E} {e : E}, putOk n es e → GV n es := fun h => by unfold putOk at h; exact h.1
  refine Tri.intro (hf := Try.func13) (hb := rfl) (hn := Try.ntmps13) (Nat.le_of_ble_eq_true rfl) ?_
  repeat' (first | exact absurd rfl hc | refine go ⟨?_⟩ | (refine isCond ?_; refine WP.condD rfl (fun hc => ?_) (fun hc => ?_)) | (refine isGuard ?_; refine WPL.splitD rfl rfl (fun hc => ?_) (fun hc => ?_)))
  · refine PE.ret1 (T := []) (T' := []) rfl rV ?_ sT
    rfl
  refine WPL.eff (OpE.call lO (fun w hw => g_PutEdge _ v bs (Rd.at rD hw) hl)) rfl rfl ?_
  rintro r _ ⟨T, ⟨u, n, es, e, rfl, rfl, hle⟩, rfl⟩
  try refine go ⟨?_⟩
  refine WPL.eff OpE.alloc rfl rfl ?_; rintro _ _ ⟨b3, rfl, rfl⟩
  try refine go ⟨?_⟩
  refine WPL.eff OpE.alloc rfl rfl ?_; rintro _ _ ⟨b4, rfl, rfl⟩
  try refine go ⟨?_⟩
  refine WPL.eff (OpE.call lO (fun w hw => u_PutEdge _ n u es e (Rd.at rD hw) (by omega))) rfl rfl ?_
  rintro _ _ ⟨T, ⟨q, rfl, rfl⟩, rfl⟩
  try refine go ⟨?_⟩
  refine WPL.eff OpE.alloc rfl rfl ?_; rintro _ _ ⟨b5, rfl, rfl⟩
  try refine go ⟨?_⟩
  refine WPL.eff (OpE.call lO (fun w hw => v_PutEdge _ n u es e (Rd.at rD hw) (by omega))) rfl rfl ?_
  rintro _ _ ⟨T, ⟨q2, rfl, rfl⟩, rfl⟩
  try refine go ⟨?_⟩
  refine WPL.eff OpE.alloc rfl rfl ?_; rintro _ _ ⟨b7, rfl, rfl⟩
  by_cases hk : putOk n es e
  case neg =>
    rw [if_neg hk, if_neg hk, decide_eq_false hk]
    try refine go ⟨?_⟩
    refine WPL.eff (OpE.call lO (fun w hw => c_GraphSame _ 0 0 q q2 [] [] (Rd.at rD hw) (Rd.at rD hw) (by decide) (by decide))) rfl rfl ?_
    rintro _ _ ⟨T, ⟨rfl, rfl⟩, rfl⟩
    rw [same_self]
    try refine go ⟨?_⟩
    refine WPL.eff (OpE.call lO (fun w hw => c_GraphSame _ 0 0 q q2 [] [] (Rd.at rD hw) (Rd.at rD hw) (by decide) (by decide))) rfl rfl ?_
    rintro _ _ ⟨T, ⟨rfl, rfl⟩, rfl⟩
    rw [same_self]
    try refine go ⟨?_⟩
    refine PE.ret1 (T := []) (T' := []) rfl rV ?_ sT
    rfl
  have hg := gvOf hk
  have hil := insE_length es e
  have l1 := brs_len n es
  have l2 := brs_len n (insE es e)
  rw [if_pos hk, if_pos hk, decide_eq_true hk]
  try refine go ⟨?_⟩
  refine WPL.eff (OpE.call lO (fun w hw => c_GraphSame _ n n q q2 (insE es e) (insE es e) (Rd.at rD hw) (Rd.at rD hw) (by omega) (by omega))) rfl rfl ?_
  rintro _ _ ⟨T, ⟨rfl, rfl⟩, rfl⟩
  rw [same_self]
  try refine go ⟨?_⟩
  refine WPL.eff (OpE.call lO (fun w hw => u_BridgesOf _ n u es (Rd.at rD hw) (by omega))) rfl rfl ?_
  rintro r9 _ ⟨T, rfl, rfl⟩
  rw [if_pos hg]
  try refine go ⟨?_⟩
  refine WPL.eff (OpE.call lO (fun w hw => u_BridgesOf _ n q (insE es e) (Rd.at rD hw) (by omega))) rfl rfl ?_
  rintro r10 _ ⟨T, rfl, rfl⟩
  rw [if_pos hk.gv]
  try refine go ⟨?_⟩
  refine WP.loop (σ := Nat) (fun k => [(3, ptrV b3), (4, ptrV b4), (9, r9), (10, r10), (11, .int .i64 k)]) (fun _ => [Tok.own r10 (brs n (insE es e)), Tok.own r9 (brs n es), Tok.blk b4 [.int .i64 e.A, .int .i64 e.B], Tok.blk b3 [.int .i64 n, u], Tok.own u es]) (fun k => k ≤ (brs n (insE es e)).length) (fun k => (brs n (insE es e)).length - k) 0 (Nat.zero_le _) sE sT2 ?_
  rintro k hkk
  try refine go ⟨?_⟩
  refine WP.condD rfl (fun hc => ?_) (fun hc => ?_)
  · have hk' : k < (brs n (insE es e)).length := by omega
    have hm := getD_memI (d := (Enc.d : E)) hk'
    have hsub := fun h => brs_ins hk hm h
    try refine go ⟨?_⟩
    refine WP.draw [Tok.own r10 (brs n (insE es e)), Tok.own r9 (brs n es), Tok.blk b4 [.int .i64 e.A, .int .i64 e.B]] mixed ?_
    refine WPD.take 0 rfl (Op1.move rfl) rfl rfl sT kR kR kR xQP ?_
    refine WPD.take 1 rfl (Op1.move rfl) rfl rfl sT kR kR kR xQP ?_
    refine WPD.take 4 rfl (by first | exact (Op1.load rfl mM (by rfl)) | exact (Op1.loadI rfl rD lT) | exact (Op1.loadAll rfl mM (by rfl)) | exact (Op1.loadE rfl rD lT (by rfl)) | exact (Op1.loadEAgg rfl rD lT (by rfl))) rfl rfl sT kR kR kR xQP ?_
    refine WPD.take 2 rfl (by first | exact (Op1.indexAddr rfl rfl rD lT) | exact (Op1.indexAddrZ rfl rfl rD lT)) rfl rfl sT kR kR kR xQP ?_
    refine WPD.take 3 rfl (by first | exact (Op1.load rfl mM (by rfl)) | exact (Op1.loadI rfl rD lT) | exact (Op1.loadAll rfl mM (by rfl)) | exact (Op1.loadE rfl rD lT (by rfl)) | exact (Op1.loadEAgg rfl rD lT (by rfl))) rfl rfl sT kR kR kR xQP ?_
    refine WPD.take 5 rfl (by first | exact (Op1.neI rfl rfl) | exact (Op1.neB rfl rfl) | exact (Op1.neE rfl rfl)) rfl rfl sT kR kR kR xQP ?_
    refine WPD.take 6 rfl (Op1.move rfl) rfl rfl sT kR kR kR xQP ?_
    first | refine WPD.splitD 69 rfl (fun h69 => ?t47) (fun h69 => ?f47) | refine WPD.split 69 rfl (fun h69 => ?t47) (fun h69 => ?f47)
    case' t47 =>
      refine WPD.take 7 rfl (Op1.move rfl) rfl rfl sT kR kR kR xQP ?_
      refine WPD.take 8 rfl (Op1.move rfl) rfl rfl sT kR kR kR xQP ?_
      refine WPD.take 9 rfl (Op1.move rfl) rfl rfl sT kR kR kR xQP ?_
      refine WPD.take 10 rfl (by first | exact (Op1.indexAddr rfl rfl rD lT) | exact (Op1.indexAddrZ rfl rfl rD lT)) rfl rfl sT kR kR kR xQP ?_
      refine WPD.take 11 rfl (by first | exact (Op1.load rfl mM (by rfl)) | exact (Op1.loadI rfl rD lT) | exact (Op1.loadAll rfl mM (by rfl)) | exact (Op1.loadE rfl rD lT (by rfl)) | exact (Op1.loadEAgg rfl rD lT (by rfl))) rfl rfl sT kR kR kR xQP ?_
      refine WPD.eff 12 kR rfl (OpE.call lO (fun w hw => y_Has _ r9 ((brs n (insE es e)).getD k (Enc.d : E)) (brs n es) (Rd.at rD hw) (by omega))) rfl rfl ?_
      rintro r _ ⟨T, ⟨rfl, rfl⟩, rfl⟩
      rw [decide_eq_true (hsub h69)]
      refine ⟨sT, ?_⟩
      refine WPD.eff 13 kR rfl (OpE.ofPure (by first | exact (Op1.notD rfl) | exact (Op1.not rfl))) rfl rfl ?_
      rintro _ _ ⟨rfl, rfl⟩
      refine ⟨sT, ?_⟩
      refine WPD.eff 14 kR rfl (OpE.ofPure (by first | exact (Op1.pickT rfl rfl) | exact (Op1.pickF rfl rfl))) rfl rfl ?_
      rintro _ _ ⟨rfl, rfl⟩
      refine ⟨sT, ?_⟩
      refine WPD.done kR ?_
    case' f47 =>
      refine WPD.skip 7 rfl rfl rfl sT kR kR kR xQP ?_
      refine WPD.skip 8 rfl rfl rfl sT kR kR kR xQP ?_
      refine WPD.skip 9 rfl rfl rfl sT kR kR kR xQP ?_
      refine WPD.skip 10 rfl rfl rfl sT kR kR kR xQP ?_
      refine WPD.skip 11 rfl rfl rfl sT kR kR kR xQP ?_
      refine WPD.skip 12 rfl rfl rfl sT kR kR kR xQP ?_
      refine WPD.skip 13 rfl rfl rfl sT kR kR kR xQP ?_
      refine WPD.eff 14 kR rfl (OpE.ofPure (by first | exact (Op1.pickT rfl rfl) | exact (Op1.pickF rfl rfl))) rfl rfl ?_
      rintro _ _ ⟨rfl, rfl⟩
      refine ⟨sT, ?_⟩
      refine WPD.done kR ?_
    all_goals (
      try refine go ⟨?_⟩
      refine PE.again (k + 1) ?_ ?_ sE sT2
      · (try dsimp only); omega
      · (try dsimp only); omega)
  try refine go ⟨?_⟩
  refine WP.draw [Tok.own r10 (brs n (insE es e)), Tok.blk b4 [.int .i64 e.A, .int .i64 e.B], Tok.blk b3 [.int .i64 n, u]] mixed ?_
  refine WPD.take 0 rfl (Op1.move rfl) rfl rfl sT kR kR kR xQP ?_
  refine WPD.take 1 rfl (by first | exact (Op1.load rfl mM (by rfl)) | exact (Op1.loadI rfl rD lT) | exact (Op1.loadAll rfl mM (by rfl)) | exact (Op1.loadE rfl rD lT (by rfl)) | exact (Op1.loadEAgg rfl rD lT (by rfl))) rfl rfl sT kR kR kR xQP ?_
  refine WPD.take 3 rfl (by first | exact (Op1.load rfl mM (by rfl)) | exact (Op1.loadI rfl rD lT) | exact (Op1.loadAll rfl mM (by rfl)) | exact (Op1.loadE rfl rD lT (by rfl)) | exact (Op1.loadEAgg rfl rD lT (by rfl))) rfl rfl sT kR kR kR xQP ?_
  refine WPD.take 4 rfl (by first | exact (Op1.fieldAddr rfl) | exact (Op1.fieldAddrE rfl rD lT)) rfl rfl sT kR kR kR xQP ?_
  refine WPD.take 6 rfl (by first | exact (Op1.fieldAddr rfl) | exact (Op1.fieldAddrE rfl rD lT)) rfl rfl sT kR kR kR xQP ?_
  refine WPD.take 5 rfl (by first | exact (Op1.load rfl mM (by rfl)) | exact (Op1.loadI rfl rD lT) | exact (Op1.loadAll rfl mM (by rfl)) | exact (Op1.loadE rfl rD lT (by rfl)) | exact (Op1.loadEAgg rfl rD lT (by rfl))) rfl rfl sT kR kR kR xQP ?_
  refine WPD.take 7 rfl (by first | exact (Op1.load rfl mM (by rfl)) | exact (Op1.loadI rfl rD lT) | exact (Op1.loadAll rfl mM (by rfl)) | exact (Op1.loadE rfl rD lT (by rfl)) | exact (Op1.loadEAgg rfl rD lT (by rfl))) rfl rfl sT kR kR kR xQP ?_
  refine WPD.eff 2 kR rfl (OpE.call lO (fun w hw => y_Has _ r10 e (brs n (insE es e)) (Rd.at rD hw) (by omega))) rfl rfl ?_
  rintro r _ ⟨T, ⟨rfl, rfl⟩, rfl⟩
  refine ⟨sT, ?_⟩
  refine WPD.eff 8 kR rfl (OpE.call lO (fun w hw => c_Connected _ n u es e.A e.B (Rd.at rD hw) (by omega))) rfl rfl ?_
  rintro r _ ⟨T, ⟨rfl, rfl⟩, rfl⟩
  rw [brs_self hk]
  refine ⟨sT, ?_⟩
  refine WPD.eff 9 kR rfl (OpE.ofPure (by first | exact (Op1.notD rfl) | exact (Op1.not rfl))) rfl rfl ?_
  rintro _ _ ⟨rfl, rfl⟩
  refine ⟨sT, ?_⟩
  refine WPD.eff 10 kR rfl (OpE.ofPure (by first | exact (Op1.eqI rfl rfl) | exact (Op1.eqB rfl rfl) | exact (Op1.eqE rfl rfl) | exact (Op1.eqNil rfl rD))) rfl rfl ?_
  rintro _ _ ⟨rfl, rfl⟩
  refine ⟨sT, ?_⟩
  refine WPD.eff 11 kR rfl (OpE.ofPure (Op1.assign rfl)) rfl rfl ?_
  rintro _ _ ⟨rfl, rfl⟩
  refine ⟨sT, ?_⟩
  refine WPD.done kR ?_
  rw [beq_nn]
  try refine go ⟨?_⟩
  refine PE.ret1 (T := []) (T' := []) rfl rV ?_ sT
  rfl
end Go.Proofs.Ytmjljnhjamlonaa
/- The law FnCutBetween: its walk. Conditions: those of the theorem. -/
namespace Go.Proofs.Ytmjljnhjamlonaa
open Go
theorem CN_symm {n : Int} {es : List E} {x y : Int} (h : CN n es x y) : CN n es y x := ⟨h.1, h.2.2.1, h.2.1, h.2.2.2.symm⟩
theorem cutb_len (n : Int) (es : List E) (x y : Int) : (cutb n es x y).length ≤ n.toNat := by
  have := List.length_filter_le (fun k => decide (k ≠ x ∧ k ≠ y ∧ ¬ cn n (alone es k) x y)) (iota n.toNat)
  rw [iota_length] at this; exact this
theorem beq_not (d : Bool) : (d == !d) = false := by cases d <;> rfl
theorem cutb_dec {n : Int} {es : List E} {x y : Int} (hc : CN n es x y) {k : Int} (hk : Nd n k) (h1 : k ≠ x) (h2 : k ≠ y) : decide (CN n (alone es k) x y) = !decide (k ∈ cutb n es x y) := by
  have e1 : CN n (alone es k) x y ↔ cn n (alone es k) x y := ⟨fun h => h.2.2.2, fun h => ⟨hc.1.filter _, hc.2.1, hc.2.2.1, h⟩⟩
  have e2 : k ∈ cutb n es x y ↔ ¬ cn n (alone es k) x y := by
    unfold cutb
    rw [List.mem_filter, decide_eq_true_eq, mem_iota]
    exact ⟨fun h => h.2.2.2, fun h => ⟨⟨hk.1, by have := hk.2; omega⟩, h1, h2, h⟩⟩
  by_cases hb : cn n (alone es k) x y
  · rw [decide_eq_true (e1.2 hb), decide_eq_false fun h => e2.1 h hb]; rfl
  · rw [decide_eq_false fun h => hb (e1.1 h), decide_eq_true (e2.2 hb)]; rfl
set_option linter.unusedVariables false set_option linter.unusedSimpArgs false attribute [local irreducible] Tok.own Tok.blk RL Rd eptr WP WPL PE WPD WPO Op1 OpE Tri Again Mid Exit.then Exit.inBlock bodyPost RP Code.wp wpList isOwn OneM One
attribute [local irreducible] CN
set_option maxHeartbeats 8000000

theorem l_CutBetween (w : World) (v : Value) (bs : List UInt8) (h : RL w v bs) (hl : bs.length ≤ 9223372036854775807) :
    Tri Try.prog 11 [v] w [] fun r T => r = .bool true := by
  have gvOf : ∀ {n : Int} {es : List E} {x y : Int}, CN n es x y → GV n es := fun h => by unfold CN at h; exact h.1
  refine Tri.intro (hf := Try.func11) (hb := rfl) (hn := Try.ntmps11) (Nat.le_of_ble_eq_true rfl) ?_
  repeat' (first | exact absurd rfl hc | refine go ⟨?_⟩ | (refine isCond ?_; refine WP.condD rfl (fun hc => ?_) (fun hc => ?_)) | (refine isGuard ?_; refine WPL.splitD rfl rfl (fun hc => ?_) (fun hc => ?_)))
  · refine PE.ret1 (T := []) (T' := []) rfl rV ?_ sT
    rfl
  refine WPL.eff (OpE.call lO (fun w hw => g_CutNodesBetween _ v bs (Rd.at rD hw) hl)) rfl rfl ?_
  rintro r _ ⟨T, ⟨u, n, es, x, y, rfl, rfl, hle⟩, rfl⟩
  try refine go ⟨?_⟩
  refine WPL.eff OpE.alloc rfl rfl ?_; rintro _ _ ⟨bt, rfl, rfl⟩
  try refine go ⟨?_⟩
  refine WPL.eff (OpE.call lO (fun w hw => u_CutNodesBetween _ n u es x y (Rd.at rD hw) (by omega))) rfl rfl ?_
  rintro _ _ ⟨T, ⟨q, rfl, rfl⟩, rfl⟩
  try refine go ⟨?_⟩
  refine WPL.eff (OpE.call lO (fun w hw => v_CutNodesBetween _ n u es x y (Rd.at rD hw) (by omega))) rfl rfl ?_
  rintro _ _ ⟨T, ⟨q2, rfl, rfl⟩, rfl⟩
  by_cases hc : CN n es x y
  case neg =>
    rw [if_neg hc, decide_eq_false hc]
    try refine go ⟨?_⟩
    refine WPL.eff (OpE.call lO (fun w hw => y_Ints _ q q2 [] [] (Rd.at rD hw) (Rd.at rD hw) (by decide) (by decide))) rfl rfl ?_
    rintro _ _ ⟨T, ⟨rfl, rfl⟩, rfl⟩
    rw [deq_int]
    try refine go ⟨?_⟩
    refine WPL.eff (OpE.call lO (fun w hw => y_Ints _ q q2 [] [] (Rd.at rD hw) (Rd.at rD hw) (by decide) (by decide))) rfl rfl ?_
    rintro _ _ ⟨T, ⟨rfl, rfl⟩, rfl⟩
    rw [deq_int]
    try refine go ⟨?_⟩
    refine PE.ret1 (T := []) (T' := []) rfl rV ?_ sT
    rfl
  have hg := gvOf hc
  have hn1 := hg.ne.n1
  have hn2 := hg.ne.n2
  have hcl := cutb_len n es x y
  rw [if_pos hc, decide_eq_true hc]
  try refine go ⟨?_⟩
  refine WPL.eff (OpE.call lO (fun w hw => y_Ints _ q q2 (cutb n es x y) (cutb n es x y) (Rd.at rD hw) (Rd.at rD hw) (by omega) (by omega))) rfl rfl ?_
  rintro _ _ ⟨T, ⟨rfl, rfl⟩, rfl⟩
  rw [deq_int]
  try refine go ⟨?_⟩
  refine WP.loop (σ := Nat) (fun k => [(3, ptrV bt), (4, .int .i64 x), (5, .int .i64 y), (6, q), (10, .int .i64 k)]) (fun _ => [Tok.own q (cutb n es x y), Tok.blk bt [.int .i64 n, u], Tok.own u es]) (fun k => k ≤ n.toNat) (fun k => n.toNat - k) 0 (Nat.zero_le _) sE sT2 ?_
  rintro k hk
  try refine go ⟨?_⟩
  refine WP.condD rfl (fun hi => ?_) (fun hi => ?_)
  · have hk' : k < n.toNat := by omega
    have hgk : GN n es k := ⟨hg, by omega, by omega⟩
    have hal : (alone es k).length ≤ es.length := List.length_filter_le _ _
    try refine go ⟨?_⟩
    refine WPL.eff (OpE.call lO (fun w hw => u_CutNode _ n u es k (Rd.at rD hw) (by omega))) rfl rfl ?_
    rintro _ _ ⟨T, ⟨q3, rfl, rfl⟩, rfl⟩
    rw [if_pos hgk, if_pos hgk, decide_eq_true hgk]
    try refine go ⟨?_⟩
    refine WPL.eff OpE.alloc rfl rfl ?_; rintro _ _ ⟨b11, rfl, rfl⟩
    try refine go ⟨?_⟩
    refine WP.draw [Tok.own q (cutb n es x y), Tok.blk b11 [.int .i64 n, q3], Tok.own q3 (alone es k)] mixed ?_
    refine WPD.take 0 rfl (Op1.move rfl) rfl rfl sT kR kR kR xQP ?_
    refine WPD.take 1 rfl (by first | exact (Op1.notD rfl) | exact (Op1.not rfl)) rfl rfl sT kR kR kR xQP ?_
    refine WPD.take 2 rfl (Op1.move rfl) rfl rfl sT kR kR kR xQP ?_
    first | refine WPD.splitD 73 rfl (fun h73 => ?t40) (fun h73 => ?f40) | refine WPD.split 73 rfl (fun h73 => ?t40) (fun h73 => ?f40)
    case' t40 =>
      refine WPD.skip 3 rfl rfl rfl sT kR kR kR xQP ?_
      refine WPD.skip 4 rfl rfl rfl sT kR kR kR xQP ?_
      refine WPD.skip 5 rfl rfl rfl sT kR kR kR xQP ?_
      refine WPD.skip 6 rfl rfl rfl sT kR kR kR xQP ?_
      refine WPD.skip 7 rfl rfl rfl sT kR kR kR xQP ?_
      refine WPD.skip 8 rfl rfl rfl sT kR kR kR xQP ?_
      refine WPD.skip 9 rfl rfl rfl sT kR kR kR xQP ?_
      refine WPD.skip 10 rfl rfl rfl sT kR kR kR xQP ?_
      refine WPD.skip 11 rfl rfl rfl sT kR kR kR xQP ?_
      refine WPD.skip 12 rfl rfl rfl sT kR kR kR xQP ?_
      refine WPD.skip 13 rfl rfl rfl sT kR kR kR xQP ?_
      refine WPD.skip 15 rfl rfl rfl sT kR kR kR xQP ?_
      refine WPD.skip 16 rfl rfl rfl sT kR kR kR xQP ?_
      refine WPD.skip 17 rfl rfl rfl sT kR kR kR xQP ?_
      refine WPD.skip 14 rfl rfl rfl sT kR kR kR xQP ?_
      refine WPD.skip 18 rfl rfl rfl sT kR kR kR xQP ?_
      refine WPD.skip 19 rfl rfl rfl sT kR kR kR xQP ?_
      refine WPD.skip 20 rfl rfl rfl sT kR kR kR xQP ?_
      refine WPD.eff 21 kR rfl (OpE.ofPure (by first | exact (Op1.pickT rfl rfl) | exact (Op1.pickF rfl rfl))) rfl rfl ?_
      rintro _ _ ⟨rfl, rfl⟩
      refine ⟨sT, ?_⟩
      refine WPD.done kR ?_
    case' f40 =>
      refine WPD.take 3 rfl (Op1.move rfl) rfl rfl sT kR kR kR xQP ?_
      refine WPD.take 4 rfl (Op1.move rfl) rfl rfl sT kR kR kR xQP ?_
      refine WPD.take 5 rfl (by first | exact (Op1.neI rfl rfl) | exact (Op1.neB rfl rfl) | exact (Op1.neE rfl rfl)) rfl rfl sT kR kR kR xQP ?_
      refine WPD.take 6 rfl (Op1.move rfl) rfl rfl sT kR kR kR xQP ?_
      first | refine WPD.splitD 77 rfl (fun h77 => ?t41) (fun h77 => ?f41) | refine WPD.split 77 rfl (fun h77 => ?t41) (fun h77 => ?f41)
      case' t41 =>
        refine WPD.take 7 rfl (Op1.move rfl) rfl rfl sT kR kR kR xQP ?_
        refine WPD.take 8 rfl (Op1.move rfl) rfl rfl sT kR kR kR xQP ?_
        refine WPD.take 9 rfl (by first | exact (Op1.neI rfl rfl) | exact (Op1.neB rfl rfl) | exact (Op1.neE rfl rfl)) rfl rfl sT kR kR kR xQP ?_
        refine WPD.take 10 rfl (by first | exact (Op1.pickT rfl rfl) | exact (Op1.pickF rfl rfl)) rfl rfl sT kR kR kR xQP ?_
        refine WPD.take 11 rfl (Op1.move rfl) rfl rfl sT kR kR kR xQP ?_
        first | refine WPD.splitD 82 rfl (fun h82 => ?t42) (fun h82 => ?f42) | refine WPD.split 82 rfl (fun h82 => ?t42) (fun h82 => ?f42)
        case' t42 =>
          refine WPD.take 12 rfl (Op1.move rfl) rfl rfl sT kR kR kR xQP ?_
          refine WPD.take 13 rfl (Op1.move rfl) rfl rfl sT kR kR kR xQP ?_
          refine WPD.take 15 rfl (by first | exact (Op1.load rfl mM (by rfl)) | exact (Op1.loadI rfl rD lT) | exact (Op1.loadAll rfl mM (by rfl)) | exact (Op1.loadE rfl rD lT (by rfl)) | exact (Op1.loadEAgg rfl rD lT (by rfl))) rfl rfl sT kR kR kR xQP ?_
          refine WPD.take 16 rfl (Op1.move rfl) rfl rfl sT kR kR kR xQP ?_
          refine WPD.take 17 rfl (Op1.move rfl) rfl rfl sT kR kR kR xQP ?_
          refine WPD.eff 14 kR rfl (OpE.call lO (fun w hw => y_In _ q k (cutb n es x y) (Rd.at rD hw) (by omega))) rfl rfl ?_
          rintro r _ ⟨T, ⟨rfl, rfl⟩, rfl⟩
          refine ⟨sT, ?_⟩
          refine WPD.eff 18 kR rfl (OpE.call lO (fun w hw => c_Connected _ n q3 (alone es k) x y (Rd.at rD hw) (by omega))) rfl rfl ?_
          rintro r _ ⟨T, ⟨rfl, rfl⟩, rfl⟩
          rw [cutb_dec hc hgk.2 h77 h82]
          refine ⟨sT, ?_⟩
          refine WPD.eff 19 kR rfl (OpE.ofPure (by first | exact (Op1.eqI rfl rfl) | exact (Op1.eqB rfl rfl) | exact (Op1.eqE rfl rfl) | exact (Op1.eqNil rfl rD))) rfl rfl ?_
          rintro _ _ ⟨rfl, rfl⟩
          refine ⟨sT, ?_⟩
          refine WPD.eff 20 kR rfl (OpE.ofPure (by first | exact (Op1.pickT rfl rfl) | exact (Op1.pickF rfl rfl))) rfl rfl ?_
          rintro _ _ ⟨rfl, rfl⟩
          refine ⟨sT, ?_⟩
          refine WPD.eff 21 kR rfl (OpE.ofPure (by first | exact (Op1.pickT rfl rfl) | exact (Op1.pickF rfl rfl))) rfl rfl ?_
          rintro _ _ ⟨rfl, rfl⟩
          refine ⟨sT, ?_⟩
          refine WPD.done kR ?_
        case' f42 =>
          refine WPD.skip 12 rfl rfl rfl sT kR kR kR xQP ?_
          refine WPD.skip 13 rfl rfl rfl sT kR kR kR xQP ?_
          refine WPD.skip 15 rfl rfl rfl sT kR kR kR xQP ?_
          refine WPD.skip 16 rfl rfl rfl sT kR kR kR xQP ?_
          refine WPD.skip 17 rfl rfl rfl sT kR kR kR xQP ?_
          refine WPD.skip 14 rfl rfl rfl sT kR kR kR xQP ?_
          refine WPD.skip 18 rfl rfl rfl sT kR kR kR xQP ?_
          refine WPD.skip 19 rfl rfl rfl sT kR kR kR xQP ?_
          refine WPD.eff 20 kR rfl (OpE.ofPure (by first | exact (Op1.pickT rfl rfl) | exact (Op1.pickF rfl rfl))) rfl rfl ?_
          rintro _ _ ⟨rfl, rfl⟩
          refine ⟨sT, ?_⟩
          refine WPD.eff 21 kR rfl (OpE.ofPure (by first | exact (Op1.pickT rfl rfl) | exact (Op1.pickF rfl rfl))) rfl rfl ?_
          rintro _ _ ⟨rfl, rfl⟩
          refine ⟨sT, ?_⟩
          refine WPD.done kR ?_
      case' f41 =>
        refine WPD.skip 7 rfl rfl rfl sT kR kR kR xQP ?_
        refine WPD.skip 8 rfl rfl rfl sT kR kR kR xQP ?_
        refine WPD.skip 9 rfl rfl rfl sT kR kR kR xQP ?_
        refine WPD.take 10 rfl (by first | exact (Op1.pickT rfl rfl) | exact (Op1.pickF rfl rfl)) rfl rfl sT kR kR kR xQP ?_
        refine WPD.take 11 rfl (Op1.move rfl) rfl rfl sT kR kR kR xQP ?_
        refine WPD.skip 12 rfl rfl rfl sT kR kR kR xQP ?_
        refine WPD.skip 13 rfl rfl rfl sT kR kR kR xQP ?_
        refine WPD.skip 15 rfl rfl rfl sT kR kR kR xQP ?_
        refine WPD.skip 16 rfl rfl rfl sT kR kR kR xQP ?_
        refine WPD.skip 17 rfl rfl rfl sT kR kR kR xQP ?_
        refine WPD.skip 14 rfl rfl rfl sT kR kR kR xQP ?_
        refine WPD.skip 18 rfl rfl rfl sT kR kR kR xQP ?_
        refine WPD.skip 19 rfl rfl rfl sT kR kR kR xQP ?_
        refine WPD.eff 20 kR rfl (OpE.ofPure (by first | exact (Op1.pickT rfl rfl) | exact (Op1.pickF rfl rfl))) rfl rfl ?_
        rintro _ _ ⟨rfl, rfl⟩
        refine ⟨sT, ?_⟩
        refine WPD.eff 21 kR rfl (OpE.ofPure (by first | exact (Op1.pickT rfl rfl) | exact (Op1.pickF rfl rfl))) rfl rfl ?_
        rintro _ _ ⟨rfl, rfl⟩
        refine ⟨sT, ?_⟩
        refine WPD.done kR ?_
    all_goals first
      | exact absurd ‹(!true) = true› (by decide)
      | ((try rw [beq_not])
         try refine go ⟨?_⟩
         refine PE.again (k + 1) ?_ ?_ sE sT2
         · (try dsimp only); omega
         · (try dsimp only); omega)
  try refine go ⟨?_⟩
  refine WPL.eff (OpE.call lO (fun w hw => u_CutNodesBetween _ n u es y x (Rd.at rD hw) (by omega))) rfl rfl ?_
  rintro _ _ ⟨T, ⟨q4, rfl, rfl⟩, rfl⟩
  rw [if_pos (CN_symm hc), decide_eq_true (CN_symm hc), cutb_symm n es y x]
  try refine go ⟨?_⟩
  refine WPL.eff (OpE.call lO (fun w hw => y_Ints _ q4 q (cutb n es x y) (cutb n es x y) (Rd.at rD hw) (Rd.at rD hw) (by omega) (by omega))) rfl rfl ?_
  rintro _ _ ⟨T, ⟨rfl, rfl⟩, rfl⟩
  rw [deq_int]
  try refine go ⟨?_⟩
  refine PE.ret1 (T := []) (T' := []) rfl rV ?_ sT
  rfl
end Go.Proofs.Ytmjljnhjamlonaa
/- The law FnLostBy: its walk. Conditions: those of the theorem. -/
namespace Go.Proofs.Ytmjljnhjamlonaa
open Go
theorem lost_dec {n : Int} {es : List E} {e f : E} (hk : putOk n es e) (hf : f ∈ brs n es) : (decide (HE n (insE es e) f) && brB n (insE es e) f) = !decide (f ∈ lostL n es e) := by
  obtain ⟨hfe, hb⟩ := List.mem_filter.1 hf
  have h3 : f ∈ insE es e := mem_insE.2 (.inr hfe)
  have h1 : decide (HE n (insE es e) f) = true := decide_eq_true ⟨hk.gv, h3⟩
  have h2 : f ∈ lostL n es e ↔ brB n (insE es e) f = false := by
    unfold lostL bonly
    rw [List.mem_filter, hb, decide_eq_true h3]
    cases brB n (insE es e) f <;> simp [hfe]
  rw [h1, Bool.true_and]
  cases hx : brB n (insE es e) f
  · rw [decide_eq_true (h2.2 hx)]; rfl
  · rw [decide_eq_false fun h => by rw [h2.1 h] at hx; cases hx]; rfl
theorem put_dec {n : Int} {es : List E} {e : E} (hk : putOk n es e) : (decide (HE n (insE es e) e) && brB n (insE es e) e) = !decide (CN n es e.A e.B) := by
  have h1 : decide (HE n (insE es e) e) = true := decide_eq_true ⟨hk.gv, mem_insE.2 (.inl rfl)⟩
  rw [h1, Bool.true_and]
  unfold brB
  congr 1
  rw [decide_eq_decide, CN_iff hk.1 hk.nd.1 hk.nd.2, cn_iff (hk.gv.okE.rem e) hk.nd.1 hk.nd.2, conn_rem_ins hk.2.1]
set_option linter.unusedVariables false set_option linter.unusedSimpArgs false attribute [local irreducible] Tok.own Tok.blk RL Rd eptr WP WPL PE WPD WPO Op1 OpE Tri Again Mid Exit.then Exit.inBlock bodyPost RP Code.wp wpList isOwn OneM One
attribute [local irreducible] CN putOk HE
set_option maxHeartbeats 8000000

theorem l_LostBy (w : World) (v : Value) (bs : List UInt8) (h : RL w v bs) (hl : bs.length ≤ 9223372036854775807) :
    Tri Try.prog 15 [v] w [] fun r T => r = .bool true := by
  have gvOf : ∀ {n : Int} {es : List E} {e : E}, putOk n es e → GV n es := fun h => by unfold putOk at h; exact h.1
  refine Tri.intro (hf := Try.func15) (hb := rfl) (hn := Try.ntmps15) (Nat.le_of_ble_eq_true rfl) ?_
  repeat' (first | exact absurd rfl hc | refine go ⟨?_⟩ | (refine isCond ?_; refine WP.condD rfl (fun hc => ?_) (fun hc => ?_)) | (refine isGuard ?_; refine WPL.splitD rfl rfl (fun hc => ?_) (fun hc => ?_)))
  · refine PE.ret1 (T := []) (T' := []) rfl rV ?_ sT
    rfl
  refine WPL.eff (OpE.call lO (fun w hw => g_LostBy _ v bs (Rd.at rD hw) hl)) rfl rfl ?_
  rintro r _ ⟨T, ⟨u, n, es, e, rfl, rfl, hle⟩, rfl⟩
  try refine go ⟨?_⟩
  refine WPL.eff OpE.alloc rfl rfl ?_; rintro _ _ ⟨b3, rfl, rfl⟩
  try refine go ⟨?_⟩
  refine WPL.eff OpE.alloc rfl rfl ?_; rintro _ _ ⟨b4, rfl, rfl⟩
  try refine go ⟨?_⟩
  refine WPL.eff (OpE.call lO (fun w hw => u_LostBy _ n u es e (Rd.at rD hw) (by omega))) rfl rfl ?_
  rintro _ _ ⟨T, ⟨q, rfl, rfl⟩, rfl⟩
  try refine go ⟨?_⟩
  refine WPL.eff (OpE.call lO (fun w hw => v_LostBy _ n u es e (Rd.at rD hw) (by omega))) rfl rfl ?_
  rintro _ _ ⟨T, ⟨q2, rfl, rfl⟩, rfl⟩
  by_cases hk : putOk n es e
  case neg =>
    rw [if_neg hk, decide_eq_false hk]
    try refine go ⟨?_⟩
    refine WPL.eff (OpE.call lO (fun w hw => y_Edges _ q q2 [] [] (Rd.at rD hw) (Rd.at rD hw) (by decide) (by decide))) rfl rfl ?_
    rintro _ _ ⟨T, ⟨rfl, rfl⟩, rfl⟩
    rw [deq_E]
    try refine go ⟨?_⟩
    refine WPL.eff (OpE.call lO (fun w hw => y_Edges _ q q2 [] [] (Rd.at rD hw) (Rd.at rD hw) (by decide) (by decide))) rfl rfl ?_
    rintro _ _ ⟨T, ⟨rfl, rfl⟩, rfl⟩
    rw [deq_E]
    try refine go ⟨?_⟩
    refine PE.ret1 (T := []) (T' := []) rfl rV ?_ sT
    rfl
  have hg := gvOf hk
  have hil := insE_length es e
  have l1 : (lostL n es e).length ≤ es.length := List.length_filter_le _ _
  rw [if_pos hk, decide_eq_true hk]
  try refine go ⟨?_⟩
  refine WPL.eff (OpE.call lO (fun w hw => y_Edges _ q q2 (lostL n es e) (lostL n es e) (Rd.at rD hw) (Rd.at rD hw) (by omega) (by omega))) rfl rfl ?_
  rintro _ _ ⟨T, ⟨rfl, rfl⟩, rfl⟩
  rw [deq_E]
  try refine go ⟨?_⟩
  have l2 := brs_len n es
  refine WPL.eff (OpE.call lO (fun w hw => u_PutEdge _ n u es e (Rd.at rD hw) (by omega))) rfl rfl ?_
  rintro _ _ ⟨T, ⟨q6, rfl, rfl⟩, rfl⟩
  rw [if_pos hk, if_pos hk, decide_eq_true hk]
  try refine go ⟨?_⟩
  refine WPL.eff OpE.alloc rfl rfl ?_; rintro _ _ ⟨b9, rfl, rfl⟩
  try refine go ⟨?_⟩
  refine WPL.eff (OpE.call lO (fun w hw => u_BridgesOf _ n u es (Rd.at rD hw) (by omega))) rfl rfl ?_
  rintro r11 _ ⟨T, rfl, rfl⟩
  rw [if_pos hg]
  try refine go ⟨?_⟩
  refine WP.loop (σ := Nat) (fun k => [(3, ptrV b3), (4, ptrV b4), (5, q), (9, ptrV b9), (10, .bool true), (11, r11), (12, .int .i64 k)]) (fun _ => [Tok.own q (lostL n es e), Tok.own r11 (brs n es), Tok.blk b9 [.int .i64 n, q6], Tok.own q6 (insE es e), Tok.blk b4 [.int .i64 e.A, .int .i64 e.B], Tok.blk b3 [.int .i64 n, u], Tok.own u es]) (fun k => k ≤ (brs n es).length) (fun k => (brs n es).length - k) 0 (Nat.zero_le _) sE sT2 ?_
  rintro k hkk
  try refine go ⟨?_⟩
  refine WP.condD rfl (fun hc => ?_) (fun hc => ?_)
  · have hk' : k < (brs n es).length := by omega
    have hm := getD_memI (d := (Enc.d : E)) hk'
    try refine go ⟨?_⟩
    refine WP.draw [Tok.own q (lostL n es e), Tok.own r11 (brs n es), Tok.blk b9 [.int .i64 n, q6], Tok.own q6 (insE es e)] mixed ?_
    refine WPD.take 0 rfl (Op1.move rfl) rfl rfl sT kR kR kR xQP ?_
    refine WPD.take 1 rfl (Op1.move rfl) rfl rfl sT kR kR kR xQP ?_
    refine WPD.take 2 rfl (Op1.move rfl) rfl rfl sT kR kR kR xQP ?_
    refine WPD.take 6 rfl (by first | exact (Op1.load rfl mM (by rfl)) | exact (Op1.loadI rfl rD lT) | exact (Op1.loadAll rfl mM (by rfl)) | exact (Op1.loadE rfl rD lT (by rfl)) | exact (Op1.loadEAgg rfl rD lT (by rfl))) rfl rfl sT kR kR kR xQP ?_
    refine WPD.take 7 rfl (Op1.move rfl) rfl rfl sT kR kR kR xQP ?_
    refine WPD.take 8 rfl (Op1.move rfl) rfl rfl sT kR kR kR xQP ?_
    refine WPD.take 3 rfl (by first | exact (Op1.indexAddr rfl rfl rD lT) | exact (Op1.indexAddrZ rfl rfl rD lT)) rfl rfl sT kR kR kR xQP ?_
    refine WPD.take 9 rfl (by first | exact (Op1.indexAddr rfl rfl rD lT) | exact (Op1.indexAddrZ rfl rfl rD lT)) rfl rfl sT kR kR kR xQP ?_
    refine WPD.take 4 rfl (by first | exact (Op1.load rfl mM (by rfl)) | exact (Op1.loadI rfl rD lT) | exact (Op1.loadAll rfl mM (by rfl)) | exact (Op1.loadE rfl rD lT (by rfl)) | exact (Op1.loadEAgg rfl rD lT (by rfl))) rfl rfl sT kR kR kR xQP ?_
    refine WPD.take 10 rfl (by first | exact (Op1.load rfl mM (by rfl)) | exact (Op1.loadI rfl rD lT) | exact (Op1.loadAll rfl mM (by rfl)) | exact (Op1.loadE rfl rD lT (by rfl)) | exact (Op1.loadEAgg rfl rD lT (by rfl))) rfl rfl sT kR kR kR xQP ?_
    refine WPD.eff 5 kR rfl (OpE.call lO (fun w hw => y_Has _ q ((brs n es).getD k (Enc.d : E)) (lostL n es e) (Rd.at rD hw) (by omega))) rfl rfl ?_
    rintro r _ ⟨T, ⟨rfl, rfl⟩, rfl⟩
    refine ⟨sT, ?_⟩
    refine WPD.eff 11 kR rfl (OpE.call lO (fun w hw => c_IsBridge _ n q6 (insE es e) ((brs n es).getD k (Enc.d : E)) (Rd.at rD hw) (by omega))) rfl rfl ?_
    rintro r _ ⟨T, ⟨rfl, rfl⟩, rfl⟩
    rw [lost_dec hk hm]
    refine ⟨sT, ?_⟩
    refine WPD.eff 12 kR rfl (OpE.ofPure (by first | exact (Op1.eqI rfl rfl) | exact (Op1.eqB rfl rfl) | exact (Op1.eqE rfl rfl) | exact (Op1.eqNil rfl rD))) rfl rfl ?_
    rintro _ _ ⟨rfl, rfl⟩
    refine ⟨sT, ?_⟩
    refine WPD.done kR ?_
    rw [beq_not]
    try refine go ⟨?_⟩
    refine PE.again (k + 1) ?_ ?_ sE sT2
    · (try dsimp only); omega
    · (try dsimp only); omega
  try refine go ⟨?_⟩
  refine WP.draw [Tok.blk b9 [.int .i64 n, q6], Tok.own q6 (insE es e), Tok.blk b4 [.int .i64 e.A, .int .i64 e.B], Tok.blk b3 [.int .i64 n, u]] mixed ?_
  refine WPD.take 0 rfl (Op1.move rfl) rfl rfl sT kR kR kR xQP ?_
  refine WPD.take 1 rfl (Op1.move rfl) rfl rfl sT kR kR kR xQP ?_
  first | refine WPD.splitD 82 rfl (fun h82 => ?t48) (fun h82 => ?f48) | refine WPD.split 82 rfl (fun h82 => ?t48) (fun h82 => ?f48)
  case' t48 =>
    refine WPD.take 2 rfl (by first | exact (Op1.load rfl mM (by rfl)) | exact (Op1.loadI rfl rD lT) | exact (Op1.loadAll rfl mM (by rfl)) | exact (Op1.loadE rfl rD lT (by rfl)) | exact (Op1.loadEAgg rfl rD lT (by rfl))) rfl rfl sT kR kR kR xQP ?_
    refine WPD.take 3 rfl (by first | exact (Op1.load rfl mM (by rfl)) | exact (Op1.loadI rfl rD lT) | exact (Op1.loadAll rfl mM (by rfl)) | exact (Op1.loadE rfl rD lT (by rfl)) | exact (Op1.loadEAgg rfl rD lT (by rfl))) rfl rfl sT kR kR kR xQP ?_
    refine WPD.take 5 rfl (by first | exact (Op1.load rfl mM (by rfl)) | exact (Op1.loadI rfl rD lT) | exact (Op1.loadAll rfl mM (by rfl)) | exact (Op1.loadE rfl rD lT (by rfl)) | exact (Op1.loadEAgg rfl rD lT (by rfl))) rfl rfl sT kR kR kR xQP ?_
    refine WPD.take 6 rfl (by first | exact (Op1.fieldAddr rfl) | exact (Op1.fieldAddrE rfl rD lT)) rfl rfl sT kR kR kR xQP ?_
    refine WPD.take 8 rfl (by first | exact (Op1.fieldAddr rfl) | exact (Op1.fieldAddrE rfl rD lT)) rfl rfl sT kR kR kR xQP ?_
    refine WPD.take 7 rfl (by first | exact (Op1.load rfl mM (by rfl)) | exact (Op1.loadI rfl rD lT) | exact (Op1.loadAll rfl mM (by rfl)) | exact (Op1.loadE rfl rD lT (by rfl)) | exact (Op1.loadEAgg rfl rD lT (by rfl))) rfl rfl sT kR kR kR xQP ?_
    refine WPD.take 9 rfl (by first | exact (Op1.load rfl mM (by rfl)) | exact (Op1.loadI rfl rD lT) | exact (Op1.loadAll rfl mM (by rfl)) | exact (Op1.loadE rfl rD lT (by rfl)) | exact (Op1.loadEAgg rfl rD lT (by rfl))) rfl rfl sT kR kR kR xQP ?_
    refine WPD.eff 4 kR rfl (OpE.call lO (fun w hw => c_IsBridge _ n q6 (insE es e) e (Rd.at rD hw) (by omega))) rfl rfl ?_
    rintro r _ ⟨T, ⟨rfl, rfl⟩, rfl⟩
    rw [put_dec hk]
    refine ⟨sT, ?_⟩
    refine WPD.eff 10 kR rfl (OpE.call lO (fun w hw => c_Connected _ n u es e.A e.B (Rd.at rD hw) (by omega))) rfl rfl ?_
    rintro r _ ⟨T, ⟨rfl, rfl⟩, rfl⟩
    refine ⟨sT, ?_⟩
    refine WPD.eff 11 kR rfl (OpE.ofPure (by first | exact (Op1.notD rfl) | exact (Op1.not rfl))) rfl rfl ?_
    rintro _ _ ⟨rfl, rfl⟩
    refine ⟨sT, ?_⟩
    refine WPD.eff 12 kR rfl (OpE.ofPure (by first | exact (Op1.eqI rfl rfl) | exact (Op1.eqB rfl rfl) | exact (Op1.eqE rfl rfl) | exact (Op1.eqNil rfl rD))) rfl rfl ?_
    rintro _ _ ⟨rfl, rfl⟩
    refine ⟨sT, ?_⟩
    refine WPD.eff 13 kR rfl (OpE.ofPure (by first | exact (Op1.pickT rfl rfl) | exact (Op1.pickF rfl rfl))) rfl rfl ?_
    rintro _ _ ⟨rfl, rfl⟩
    refine ⟨sT, ?_⟩
    refine WPD.eff 14 kR rfl (OpE.ofPure (Op1.assign rfl)) rfl rfl ?_
    rintro _ _ ⟨rfl, rfl⟩
    refine ⟨sT, ?_⟩
    refine WPD.done kR ?_
  case' f48 =>
    refine WPD.skip 2 rfl rfl rfl sT kR kR kR xQP ?_
    refine WPD.skip 3 rfl rfl rfl sT kR kR kR xQP ?_
    refine WPD.skip 5 rfl rfl rfl sT kR kR kR xQP ?_
    refine WPD.skip 6 rfl rfl rfl sT kR kR kR xQP ?_
    refine WPD.skip 8 rfl rfl rfl sT kR kR kR xQP ?_
    refine WPD.skip 4 rfl rfl rfl sT kR kR kR xQP ?_
    refine WPD.skip 7 rfl rfl rfl sT kR kR kR xQP ?_
    refine WPD.skip 9 rfl rfl rfl sT kR kR kR xQP ?_
    refine WPD.skip 10 rfl rfl rfl sT kR kR kR xQP ?_
    refine WPD.skip 11 rfl rfl rfl sT kR kR kR xQP ?_
    refine WPD.skip 12 rfl rfl rfl sT kR kR kR xQP ?_
    refine WPD.eff 13 kR rfl (OpE.ofPure (by first | exact (Op1.pickT rfl rfl) | exact (Op1.pickF rfl rfl))) rfl rfl ?_
    rintro _ _ ⟨rfl, rfl⟩
    refine ⟨sT, ?_⟩
    refine WPD.eff 14 kR rfl (OpE.ofPure (Op1.assign rfl)) rfl rfl ?_
    rintro _ _ ⟨rfl, rfl⟩
    refine ⟨sT, ?_⟩
    refine WPD.done kR ?_
  all_goals first
    | exact absurd ‹true = false› (by decide)
    | (rw [decide_not, beq_self_eq_true]
       try refine go ⟨?_⟩
       refine PE.ret1 (T := []) (T' := []) rfl rV ?_ sT
       rfl)
end Go.Proofs.Ytmjljnhjamlonaa
/- The given statement FnLostBySaid, out of its walk (LLostBy). Written by fin.py. No conditions. -/
namespace Go.Proofs.Ytmjljnhjamlonaa.ZfnLostBy
open Go Go.ChangeShapes Go.WideShapes Go.ChangeAt Go.RowKit Go.Joins
theorem own : ownKnob Try.prog.godebug = none := by kernel_rfl
theorem laidOut : laidOutB Try.prog = true := by kernel_rfl
theorem cells5 : Try.prog.cellsOf 5 = 1 := by kernel_rfl
set_option maxRecDepth 100000 in
theorem lifted (os : Os) (started : os.Started) (H : Type) (enc : TypeId × Value → H) :
    ReturnsInHanded {} Try.checked os 15 .any (Rows.fnLostBySpec.pre6 enc Try.prog Try.f15 Rows.fnLostByRow.domain false) (Rows.fnLostBySpec.post enc Try.prog Try.f15 false true false false) := by
  refine returnsInHanded_of_change (C := Try.checked) own started (by kernel_rfl) Try.func15
    (ChangeSpec.witness6 (enc := enc) (C := Try.checked) false ⟨#[], #[.slice none 0 0], []⟩ 8 (by kernel_rfl) (by kernel_rfl) (by kernel_rfl) (by kernel_rfl)) ?_
  intro W base args ds gs before hval0 hW hcnd _
  have hval : ∀ (j : Nat) t v, Try.f15.params[j]? = some t → args[j]? = some v → Value.okWide Try.prog W .any base t v := hval0
  have hW' := hW
  obtain ⟨p, q, hA0, hV, rfl, hfz, hnd⟩ := hW
  have hA : DataW.TrodAll enc Try.prog W 0 (fun _ => true) true Try.f15.params.toList args.toList ds p := hA0
  rw [Try.params15] at hA hval
  obtain ⟨v0, vs0, d0, ds0, p0, q0, hargs, rfl, rfl, h0, r0⟩ := trodAll_cons hA
  obtain ⟨rfl, rfl, rfl⟩ := trodAll_nil r0
  obtain rfl : args = #[v0] := by cases args; simp_all
  obtain ⟨rfl, rfl⟩ := trodVars_none hV
  have k0 := h0
  have lt0 : ∀ x ∈ p0, x.block < W.heap.size := by obtain ⟨m, hm⟩ := k0; exact DataW.trod_lt m _ _ _ hm
  obtain ⟨xs0, rl0, ll0⟩ : ∃ xs : List UInt8, RL W v0 xs ∧ xs.length ≤ 9223372036854775807 := by
    have hv := hval 0 22 v0 rfl rfl
    simp only [Value.okWide, Try.underlying22] at hv
    obtain ⟨a, l, c, rfl⟩ := okWide_slice Try.underlying22 (hval 0 22 v0 rfl rfl)
    obtain ⟨m, hm⟩ := k0
    exact rl_bytes Try.underlying22 Try.underlying5 cells5 hv (by simpa [Value.cells] using hm)
  clear hA0 hval0
  refine (Tri.holds0 (v := .bool true) (l_LostBy W v0 xs0 rl0 ll0) (fun _ _ h => h)).mono fun e W' ⟨he, bel⟩ => ?_
  subst he
  exact ⟨_, rfl, _, _, _, [], _, [], hW', trodAll_mk1 (shut_bool Try.underlying4 _), (trodAll_cons_mk (Below.trod laidOut (by kernel_rfl) (of_decide_eq_true (by kernel_rfl)) k0 bel lt0) trodAll_mk0), rfl, bel.frame _, fun h => by cases h⟩
theorem over : Rows.fnLostByRow.holds Try.pinned (OpenSpec.ofChange Rows.fnLostBySpec) :=
  OpenClaim.holds_of_wide 15 Try.f15 rfl rfl rfl rfl rfl rfl rfl ⟨rfl, rfl, rfl, rfl, rfl⟩ rfl rfl rfl rfl rfl (by kernel_rfl) Try.func15 (by unfold joinedFacts; rw [initMay, initLift, initMake]; kernel_rfl)
    (of_decide_eq_true (by kernel_rfl)) (by unfold Func.isWrapper; first | (rw [if_pos (by decide +kernel)]; kernel_rfl) | (rw [if_neg (by decide +kernel)]; exact ⟨rfl, rfl⟩))
    (fun os started H enc _ => lifted os started H enc)
/-- The statement. -/
theorem proved : Rows.FnLostBySaid := over
end Go.Proofs.Ytmjljnhjamlonaa.ZfnLostBy
