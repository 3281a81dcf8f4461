/- The given statement FnPartCountSaid, out of its walk (LPartCount). Written by fin.py. No conditions. -/
import Derived.Test.YtmjljnhjamlonaaInit
import Derived.Test.YtmjljnhjamlonaaV3
import Derived.Test.YtmjljnhjamlonaaV4
set_option linter.unusedVariables false
set_option linter.unusedSimpArgs false
/- The law FnPartCount: its walk. Conditions: those of the theorem. -/
namespace Go.Proofs.Ytmjljnhjamlonaa
open Go
theorem pcnt_le (n : Int) (es : List E) : pcnt n es ≤ n.toNat := by
  have := List.length_filter_le (fun k => decide (lab n es k = k)) (iota n.toNat)
  rw [iota_length] at this; exact this
theorem CN_iff {n : Int} {es : List E} (hg : GV n es) {x y : Int} (hx : Nd n x) (hy : Nd n y) : CN n es x y ↔ Conn es x y :=
  ⟨fun h => (cn_iff hg.okE hx hy).1 h.2.2.2, fun h => ⟨hg, hx, hy, (cn_iff hg.okE hx hy).2 h⟩⟩
theorem putOk.gv {n : Int} {es : List E} {e : E} (h : putOk n es e) : GV n (insE es e) := by
  obtain ⟨h1, h2, h3, h4⟩ := putOk_iff.1 h
  exact h1.ins h2 h3 h4
theorem putOk.nd {n : Int} {es : List E} {e : E} (h : putOk n es e) : Nd n e.A ∧ Nd n e.B := (putOk_iff.1 h).2.2.1.nd
theorem pc_same {n : Int} {es : List E} {e : E} (h : putOk n es e) (hc : Conn es e.A e.B) : pcnt n (insE es e) = pcnt n es :=
  pcnt_congr h.gv.okE h.1.okE fun x y => conn_ins.trans (conn_cons_same hc)
theorem pc_less {n : Int} {es : List E} {e : E} (h : putOk n es e) (hc : ¬ Conn es e.A e.B) : pcnt n (insE es e) + 1 = pcnt n es := by
  have ho : okE n (e :: es) := fun f hf => by
    rcases List.mem_cons.1 hf with rfl | hf
    · exact h.nd
    · exact h.1.okE f hf
  rw [pcnt_congr h.gv.okE ho fun x y => conn_ins]
  exact pcnt_cons h.1.okE h.nd hc
set_option linter.unusedVariables false set_option linter.unusedSimpArgs false attribute [local irreducible] Tok.own Tok.blk RL Rd eptr WP WPL PE WPD WPO Op1 OpE Tri Again Mid Exit.then Exit.inBlock bodyPost RP Code.wp wpList isOwn OneM One
attribute [local irreducible] CN putOk pcV
set_option maxHeartbeats 8000000

theorem l_PartCount (w : World) (v v2 : Value) (bs bs2 : List UInt8) (h : RL w v bs) (hl : bs.length ≤ 9223372036854775807) (h2 : RL w v2 bs2) (hl2 : bs2.length ≤ 9223372036854775807) :
    Tri Try.prog 12 [v, v2] w [] fun r T => r = .bool true := by
  have pcV0 : ∀ {n : Int} {es : List E}, ¬ GV n es → pcV n es = 0 := fun h => by unfold pcV; exact if_neg h
  have pcV1 : ∀ {n : Int} {es : List E}, GV n es → pcV n es = pcnt n es := fun h => by unfold pcV; exact if_pos h
  refine Tri.intro (hf := Try.func12) (hb := rfl) (hn := Try.ntmps12) (Nat.le_of_ble_eq_true rfl) ?_
  repeat' (first | exact absurd rfl hc | refine go ⟨?_⟩ | (refine isCond ?_; refine WP.condD rfl (fun hc => ?_) (fun hc => ?_)) | (refine isGuard ?_; refine WPL.splitD rfl rfl (fun hc => ?_) (fun hc => ?_)))
  · refine PE.ret1 (T := []) (T' := []) rfl rV ?_ sT
    rfl
  · refine PE.ret1 (T := []) (T' := []) rfl rV ?_ sT
    rfl
  refine WPL.eff (OpE.call lO (fun w hw => g_PartCount _ v bs (Rd.at rD hw) hl)) rfl rfl ?_
  rintro r _ ⟨T, ⟨u, n, es, rfl, rfl, hle⟩, rfl⟩
  try refine go ⟨?_⟩
  refine WPL.eff OpE.alloc rfl rfl ?_; rintro _ _ ⟨bt, rfl, rfl⟩
  try refine go ⟨?_⟩
  refine WPL.eff (OpE.call lO (fun w hw => c_PartCount _ n u es (Rd.at rD hw) (by omega))) rfl rfl ?_
  rintro r _ ⟨T, ⟨rfl, rfl⟩, rfl⟩
  try refine go ⟨?_⟩
  refine WPL.eff (OpE.call lO (fun w hw => s_PartCount _ n u es (Rd.at rD hw) (by omega))) rfl rfl ?_
  rintro r _ ⟨T, ⟨rfl, rfl⟩, rfl⟩
  by_cases hg : GV n es
  case neg =>
    rw [pcV0 hg]
    repeat' (first | exact absurd rfl hc | refine go ⟨?_⟩ | (refine isCond ?_; refine WP.condD rfl (fun hc => ?_) (fun hc => ?_)) | (refine isGuard ?_; refine WPL.splitD rfl rfl (fun hc => ?_) (fun hc => ?_)))
    refine WPL.eff (OpE.call lO (fun w hw => c_GraphValid _ n u es (Rd.at rD hw) (by omega))) rfl rfl ?_
    rintro _ _ ⟨T, ⟨rfl, rfl⟩, rfl⟩
    rw [decide_eq_false hg]
    repeat' (first | exact absurd rfl hc | refine go ⟨?_⟩ | (refine isCond ?_; refine WP.condD rfl (fun hc => ?_) (fun hc => ?_)) | (refine isGuard ?_; refine WPL.splitD rfl rfl (fun hc => ?_) (fun hc => ?_)))
    refine WPL.eff (OpE.call lO (fun w hw => s_PartCount _ n u es (Rd.at rD hw) (by omega))) rfl rfl ?_
    rintro r _ ⟨T, ⟨rfl, rfl⟩, rfl⟩
    rw [pcV0 hg]
    repeat' (first | exact absurd rfl hc | refine go ⟨?_⟩ | (refine isCond ?_; refine WP.condD rfl (fun hc => ?_) (fun hc => ?_)) | (refine isGuard ?_; refine WPL.splitD rfl rfl (fun hc => ?_) (fun hc => ?_)))
    refine PE.ret1 (T := []) (T' := []) rfl rV ?_ sT
    rfl
  have hp1 := pcnt_pos hg.okE (GV_iff.1 hg).1
  have hp2 := pcnt_le n es
  have hn2 := (GV_iff.1 hg).2.1
  rw [pcV1 hg]
  repeat' (first | exact absurd rfl hc | refine go ⟨?_⟩ | (refine isCond ?_; refine WP.condD rfl (fun hc => ?_) (fun hc => ?_)) | (refine isGuard ?_; refine WPL.splitD rfl rfl (fun hc => ?_) (fun hc => ?_)))
  refine WPL.eff (OpE.call lO (fun w hw => c_GraphValid _ n u es (Rd.at rD hw) (by omega))) rfl rfl ?_
  rintro _ _ ⟨T, ⟨rfl, rfl⟩, rfl⟩
  rw [decide_eq_true hg]
  repeat' (first | exact absurd rfl hc | refine go ⟨?_⟩ | (refine isCond ?_; refine WP.condD rfl (fun hc => ?_) (fun hc => ?_)) | (refine isGuard ?_; refine WPL.splitD rfl rfl (fun hc => ?_) (fun hc => ?_)))
  refine WPL.eff (OpE.call lO (fun w hw => g_PutEdge _ v2 bs2 (Rd.at rD hw) hl2)) rfl rfl ?_
  rintro r _ ⟨T, ⟨u2, n2, es2, e, rfl, rfl, hle2⟩, rfl⟩
  try refine go ⟨?_⟩
  refine WPL.eff OpE.alloc rfl rfl ?_; rintro _ _ ⟨b7, rfl, rfl⟩
  try refine go ⟨?_⟩
  refine WPL.eff OpE.alloc rfl rfl ?_; rintro _ _ ⟨b8, rfl, rfl⟩
  try refine go ⟨?_⟩
  refine WPL.eff (OpE.call lO (fun w hw => u_PutEdge _ n u es e (Rd.at rD hw) (by omega))) rfl rfl ?_
  rintro r _ ⟨T, ⟨q, rfl, rfl⟩, rfl⟩
  try refine go ⟨?_⟩
  refine WPL.eff OpE.alloc rfl rfl ?_; rintro _ _ ⟨b9, rfl, rfl⟩
  try refine go ⟨?_⟩
  refine WP.condD rfl (fun hk => ?_) (fun hk => ?_)
  · try refine go ⟨?_⟩
    refine PE.ret1 (T := []) (T' := []) rfl rV ?_ sT
    exact congrArg Value.bool (decide_eq_true (by omega))
  have hk : putOk n es e := Decidable.not_not.1 hk
  rw [if_pos hk, if_pos hk]
  have hil := insE_length es e
  have hci := CN_iff hg hk.nd.1 hk.nd.2
  try refine go ⟨?_⟩
  refine WPL.eff (OpE.call lO (fun w hw => c_PartCount _ n q (insE es e) (Rd.at rD hw) (by omega))) rfl rfl ?_
  rintro r _ ⟨T, ⟨rfl, rfl⟩, rfl⟩
  by_cases hc : Conn es e.A e.B
  · rw [pcV1 hk.gv, pc_same hk hc]
    repeat' (first | exact absurd rfl hc | refine go ⟨?_⟩ | (refine isCond ?_; refine WP.condD rfl (fun hc => ?_) (fun hc => ?_)) | (refine isGuard ?_; refine WPL.splitD rfl rfl (fun hc => ?_) (fun hc => ?_)))
    refine WPL.eff (OpE.call lO (fun w hw => c_Connected _ n u es e.A e.B (Rd.at rD hw) (by omega))) rfl rfl ?_
    rintro r _ ⟨T, ⟨rfl, rfl⟩, rfl⟩
    rw [decide_eq_true (hci.2 hc)]
    try refine go ⟨?_⟩
    rw [decide_eq_true (rfl : (pcnt n es : Int) = pcnt n es)]
    repeat' (first | exact absurd rfl hc | refine go ⟨?_⟩ | (refine isCond ?_; refine WP.condD rfl (fun hc => ?_) (fun hc => ?_)) | (refine isGuard ?_; refine WPL.splitD rfl rfl (fun hc => ?_) (fun hc => ?_)))
    refine PE.ret1 (T := []) (T' := []) rfl rV ?_ sT
    rfl
  · have hpl := pc_less hk hc
    have hpl2 : ((pcnt n (insE es e) : Nat) : Int) = (pcnt n es : Int) - 1 := by omega
    rw [pcV1 hk.gv, hpl2]
    repeat' (first | exact absurd rfl hc | refine go ⟨?_⟩ | (refine isCond ?_; refine WP.condD rfl (fun hc => ?_) (fun hc => ?_)) | (refine isGuard ?_; refine WPL.splitD rfl rfl (fun hc => ?_) (fun hc => ?_)))
    refine WPL.eff (OpE.call lO (fun w hw => c_Connected _ n u es e.A e.B (Rd.at rD hw) (by omega))) rfl rfl ?_
    rintro r _ ⟨T, ⟨rfl, rfl⟩, rfl⟩
    rw [decide_eq_false fun h => hc (hci.1 h)]
    repeat' (first | exact absurd rfl hc | refine go ⟨?_⟩ | (refine isCond ?_; refine WP.condD rfl (fun hc => ?_) (fun hc => ?_)) | (refine isGuard ?_; refine WPL.splitD rfl rfl (fun hc => ?_) (fun hc => ?_)))
    refine WPL.eff (OpE.call lO (fun w hw => c_Connected _ n u es e.A e.B (Rd.at rD hw) (by omega))) rfl rfl ?_
    rintro r _ ⟨T, ⟨rfl, rfl⟩, rfl⟩
    rw [decide_eq_false fun h => hc (hci.1 h)]
    repeat' (first | exact absurd rfl hc | refine go ⟨?_⟩ | (refine isCond ?_; refine WP.condD rfl (fun hc => ?_) (fun hc => ?_)) | (refine isGuard ?_; refine WPL.splitD rfl rfl (fun hc => ?_) (fun hc => ?_)))
    refine PE.ret1 (T := []) (T' := []) rfl rV ?_ sT
    exact congrArg Value.bool (decide_eq_true rfl)
end Go.Proofs.Ytmjljnhjamlonaa
/- The given statement FnPartCountSaid, out of its walk (LPartCount). Written by fin.py. No conditions. -/
namespace Go.Proofs.Ytmjljnhjamlonaa.ZfnPartCount
open Go Go.ChangeShapes Go.WideShapes Go.ChangeAt Go.RowKit Go.Joins
theorem own : ownKnob Try.prog.godebug = none := by kernel_rfl
theorem laidOut : laidOutB Try.prog = true := by kernel_rfl
theorem cells5 : Try.prog.cellsOf 5 = 1 := by kernel_rfl
set_option maxRecDepth 100000 in
theorem lifted (os : Os) (started : os.Started) (H : Type) (enc : TypeId × Value → H) :
    ReturnsInHanded {} Try.checked os 12 .any (Rows.fnPartCountSpec.pre6 enc Try.prog Try.f12 Rows.fnPartCountRow.domain false) (Rows.fnPartCountSpec.post enc Try.prog Try.f12 false true false false) := by
  refine returnsInHanded_of_change (C := Try.checked) own started (by kernel_rfl) Try.func12
    (ChangeSpec.witness6 (enc := enc) (C := Try.checked) false ⟨#[], #[.slice none 0 0, .slice none 0 0], []⟩ 8 (by kernel_rfl) (by kernel_rfl) (by kernel_rfl) (by kernel_rfl)) ?_
  intro W base args ds gs before hval0 hW hcnd _
  have hval : ∀ (j : Nat) t v, Try.f12.params[j]? = some t → args[j]? = some v → Value.okWide Try.prog W .any base t v := hval0
  have hW' := hW
  obtain ⟨p, q, hA0, hV, rfl, hfz, hnd⟩ := hW
  have hA : DataW.TrodAll enc Try.prog W 0 (fun _ => true) true Try.f12.params.toList args.toList ds p := hA0
  rw [Try.params12] at hA hval
  obtain ⟨v0, vs0, d0, ds0, p0, q0, hargs, rfl, rfl, h0, r0⟩ := trodAll_cons hA
  obtain ⟨v1, vs1, d1, ds1, p1, q1, rfl, rfl, rfl, h1, r1⟩ := trodAll_cons r0
  obtain ⟨rfl, rfl, rfl⟩ := trodAll_nil r1
  obtain rfl : args = #[v0, v1] := by cases args; simp_all
  obtain ⟨rfl, rfl⟩ := trodVars_none hV
  have k0 := h0
  have lt0 : ∀ x ∈ p0, x.block < W.heap.size := by obtain ⟨m, hm⟩ := k0; exact DataW.trod_lt m _ _ _ hm
  obtain ⟨xs0, rl0, ll0⟩ : ∃ xs : List UInt8, RL W v0 xs ∧ xs.length ≤ 9223372036854775807 := by
    have hv := hval 0 22 v0 rfl rfl
    simp only [Value.okWide, Try.underlying22] at hv
    obtain ⟨a, l, c, rfl⟩ := okWide_slice Try.underlying22 (hval 0 22 v0 rfl rfl)
    obtain ⟨m, hm⟩ := k0
    exact rl_bytes Try.underlying22 Try.underlying5 cells5 hv (by simpa [Value.cells] using hm)
  have k1 := h1
  have lt1 : ∀ x ∈ p1, x.block < W.heap.size := by obtain ⟨m, hm⟩ := k1; exact DataW.trod_lt m _ _ _ hm
  obtain ⟨xs1, rl1, ll1⟩ : ∃ xs : List UInt8, RL W v1 xs ∧ xs.length ≤ 9223372036854775807 := by
    have hv := hval 1 22 v1 rfl rfl
    simp only [Value.okWide, Try.underlying22] at hv
    obtain ⟨a, l, c, rfl⟩ := okWide_slice Try.underlying22 (hval 1 22 v1 rfl rfl)
    obtain ⟨m, hm⟩ := k1
    exact rl_bytes Try.underlying22 Try.underlying5 cells5 hv (by simpa [Value.cells] using hm)
  clear hA0 hval0
  refine (Tri.holds0 (v := .bool true) (l_PartCount W v0 v1 xs0 xs1 rl0 ll0 rl1 ll1) (fun _ _ h => h)).mono fun e W' ⟨he, bel⟩ => ?_
  subst he
  exact ⟨_, rfl, _, _, _, [], _, [], hW', trodAll_mk1 (shut_bool Try.underlying4 _), (trodAll_cons_mk (Below.trod laidOut (by kernel_rfl) (of_decide_eq_true (by kernel_rfl)) k0 bel lt0) (trodAll_cons_mk (Below.trod laidOut (by kernel_rfl) (of_decide_eq_true (by kernel_rfl)) k1 bel lt1) trodAll_mk0)), rfl, bel.frame _, fun h => by cases h⟩
theorem over : Rows.fnPartCountRow.holds Try.pinned (OpenSpec.ofChange Rows.fnPartCountSpec) :=
  OpenClaim.holds_of_wide 12 Try.f12 rfl rfl rfl rfl rfl rfl rfl ⟨rfl, rfl, rfl, rfl, rfl⟩ rfl rfl rfl rfl rfl (by kernel_rfl) Try.func12 (by unfold joinedFacts; rw [initMay, initLift, initMake]; kernel_rfl)
    (of_decide_eq_true (by kernel_rfl)) (by unfold Func.isWrapper; first | (rw [if_pos (by decide +kernel)]; kernel_rfl) | (rw [if_neg (by decide +kernel)]; exact ⟨rfl, rfl⟩))
    (fun os started H enc _ => lifted os started H enc)
/-- The statement. -/
theorem proved : Rows.FnPartCountSaid := over
end Go.Proofs.Ytmjljnhjamlonaa.ZfnPartCount
