/- The given statement FnSetsOfSaid, out of its walk (LSetsOf). Written by fin.py. No conditions. -/
import Derived.Test.YthlgbeakcobeoaaInit
import Derived.Test.YthlgbeakcobeoaaV3
import Derived.Test.YthlgbeakcobeoaaV4
import Derived.Test.YthlgbeakcobeoaaV8
set_option linter.unusedVariables false
set_option linter.unusedSimpArgs false
/- The law FnSetsOf: its walk. Conditions: those of the theorem. -/
namespace Go.Proofs.Ythlgbeakcobeoaa
open Go
theorem mem_ofS {n : Int} {es : List E} (hg : GV n es) {k : Int} (hk : Nd n k) : mem (ofS n.toNat es) k = pns n es k := by
  have e : ((n.toNat : Nat) : Int) = n := Int.toNat_of_nonneg (by have := hg.1; omega)
  have hE : okE ((n.toNat : Nat) : Int) es := by rw [e]; exact hg.okE
  obtain ⟨_, h2, _, h4⟩ := ofS_spec (n := n.toNat) (by have := hg.1; omega) (by have := hg.2.1; omega) es hE (by have := hg.2.2.1; omega)
  unfold mem mbs pns
  rw [h2]
  refine List.filter_congr fun y hy => ?_
  have hy := mem_iota.1 hy
  rw [decide_eq_decide, h4 y k hy (by rw [e]; exact hk), lab_iff hg.okE (by rw [← e]; exact hy) hk]
theorem EL_ofS {n : Int} {es : List E} (hg : GV n es) {k : Int} (hk : Nd n k) : EL (ofS n.toNat es) k := by
  have e : ((n.toNat : Nat) : Int) = n := Int.toNat_of_nonneg (by have := hg.1; omega)
  have hE : okE ((n.toNat : Nat) : Int) es := by rw [e]; exact hg.okE
  obtain ⟨h1, h2, _, h4⟩ := ofS_spec (n := n.toNat) (by have := hg.1; omega) (by have := hg.2.1; omega) es hE (by have := hg.2.2.1; omega)
  exact ⟨h1, hk.1, by rw [h2, e]; exact hk.2⟩
theorem pns_len' (n : Int) (es : List E) (x : Int) : (pns n es x).length ≤ n.toNat := by
  have := List.length_filter_le (fun k => decide (lab n es k = lab n es x)) (iota n.toNat)
  rw [iota_length] at this; exact this
set_option linter.unusedVariables false set_option linter.unusedSimpArgs false attribute [local irreducible] Tok.own Tok.blk RL Rd eptr WP WPL PE WPD WPO Op1 OpE Tri Again Mid Exit.then Exit.inBlock bodyPost RP Code.wp wpList isOwn OneM One
attribute [local irreducible] SV EL GV GN
set_option maxHeartbeats 8000000

theorem l_SetsOf (w : World) (v : Value) (bs : List UInt8) (h : RL w v bs) (hl : bs.length ≤ 9223372036854775807) :
    Tri Try.prog 18 [v] w [] fun r T => r = .bool true := by
  refine Tri.intro (hf := Try.func18) (hb := rfl) (hn := Try.ntmps18) (Nat.le_of_ble_eq_true rfl) ?_
  repeat' (first | exact absurd rfl hc | refine go ⟨?_⟩ | (refine isCond ?_; refine WP.condD rfl (fun hc => ?_) (fun hc => ?_)) | (refine isGuard ?_; refine WPL.splitD rfl rfl (fun hc => ?_) (fun hc => ?_)))
  · refine PE.ret1 (T := []) (T' := []) rfl rV ?_ sT
    rfl
  refine WPL.eff (OpE.call lO (fun w hw => g_DSetsOf _ v bs (Rd.at rD hw) hl)) rfl rfl ?_
  rintro r _ ⟨T, ⟨u, n, es, rfl, rfl, hle⟩, rfl⟩
  have sh := ofR_short n es
  try refine go ⟨?_⟩
  refine WPL.eff OpE.alloc rfl rfl ?_; rintro _ _ ⟨b3, rfl, rfl⟩
  try refine go ⟨?_⟩
  refine WPL.eff (OpE.call lO (fun w hw => c_SetsOf _ n u es (Rd.at rD hw) (by omega))) rfl rfl ?_
  rintro r _ ⟨T, ⟨a1, a2, a3, rfl, rfl⟩, rfl⟩
  try refine go ⟨?_⟩
  refine WPL.eff OpE.alloc rfl rfl ?_; rintro _ _ ⟨b4, rfl, rfl⟩
  try refine go ⟨?_⟩
  refine WPL.eff (OpE.call lO (fun w hw => s_SetsOf _ n u es (Rd.at rD hw) (by omega))) rfl rfl ?_
  rintro r _ ⟨T, ⟨c1, c2, c3, rfl, rfl⟩, rfl⟩
  try refine go ⟨?_⟩
  refine WPL.eff OpE.alloc rfl rfl ?_; rintro _ _ ⟨b6, rfl, rfl⟩
  try refine go ⟨?_⟩
  refine WPL.eff (OpE.call lO (fun w hw => y_Sets _ a1 a2 a3 c1 c2 c3 (ofR n es) (ofR n es) (Rd.at rD hw) (Rd.at rD hw) (Rd.at rD hw) (Rd.at rD hw) (Rd.at rD hw) (Rd.at rD hw) (by omega) (by omega) (by omega) (by omega) (by omega) (by omega))) rfl rfl ?_
  rintro r _ ⟨T, ⟨rfl, rfl⟩, rfl⟩
  rw [sself]
  by_cases hg : GV n es
  case neg =>
    rw [decide_eq_false hg]
    try refine go ⟨?_⟩
    refine WPL.eff (OpE.call lO (fun w hw => y_Sets _ a1 a2 a3 c1 c2 c3 (ofR n es) (ofR n es) (Rd.at rD hw) (Rd.at rD hw) (Rd.at rD hw) (Rd.at rD hw) (Rd.at rD hw) (Rd.at rD hw) (by omega) (by omega) (by omega) (by omega) (by omega) (by omega))) rfl rfl ?_
    rintro r _ ⟨T, ⟨rfl, rfl⟩, rfl⟩
    rw [sself]
    try refine go ⟨?_⟩
    refine PE.ret1 (T := []) (T' := []) rfl rV ?_ sT
    rfl
  have hgs : GV n es → (1 ≤ n ∧ n ≤ 16 ∧ es.length ≤ 40 ∧ okE n es) := fun h => by have := h.ne; unfold GV at h; exact ⟨h.1, h.2.1, h.2.2.1, this.ok⟩
  obtain ⟨hn1, hn2, hl40, hokE⟩ := hgs hg
  have q2 : ofR n es = ofS n.toNat es := if_pos hg
  obtain ⟨hSV, hSP, hSl, _⟩ := ofS_spec (n := n.toNat) (by omega) (by omega) es (by rw [Int.toNat_of_nonneg (by omega)]; exact hokE) (by omega)
  rw [q2] at sh
  rw [decide_eq_true hg, q2]
  try refine go ⟨?_⟩
  refine WP.loop (σ := Nat) (fun k => [(3, ptrV b3), (4, ptrV b4), (8, .int .i64 k)]) (fun _ => [Tok.blk b4 [a1, a2, a3], Tok.own a1 (ofS n.toNat es).P, Tok.own a2 (ofS n.toNat es).Z, Tok.own a3 (ofS n.toNat es).S, Tok.blk b3 [.int .i64 n, u], Tok.own u es]) (fun k => k ≤ n.toNat) (fun k => n.toNat - k) 0 (Nat.zero_le _) sE sT2 ?_
  rintro k hk
  try refine go ⟨?_⟩
  refine WP.condD rfl (fun hc => ?_) (fun hc => ?_)
  · have hkd : Nd n (k : Int) := ⟨by omega, hc⟩
    have he := EL_ofS hg hkd
    have hm := mem_ofS hg hkd
    have hgn : GN n es k := by unfold GN; exact ⟨hg, hkd⟩
    have hpl := pns_len' n es k
    try refine go ⟨?_⟩
    refine WPL.eff (OpE.call lO (fun w hw => c_MembersOf _ a1 a2 a3 (ofS n.toNat es) k (Rd.at rD hw) (Rd.at rD hw) (Rd.at rD hw) (by omega) (by omega) (by omega))) rfl rfl ?_
    rintro r _ ⟨T, ⟨m1, rfl, rfl⟩, rfl⟩
    rw [decide_eq_true he, if_pos he, hm]
    try refine go ⟨?_⟩
    refine WPL.eff (OpE.call lO (fun w hw => u_PartNodes _ n u es k (Rd.at rD hw) (by omega))) rfl rfl ?_
    rintro p _ ⟨T, rfl, rfl⟩
    rw [if_pos hgn]
    try refine go ⟨?_⟩
    refine WPL.eff (OpE.call lO (fun w hw => y_Ints _ m1 p (pns n es k) (pns n es k) (Rd.at rD hw) (Rd.at rD hw) (by omega) (by omega))) rfl rfl ?_
    rintro _ _ ⟨T, ⟨rfl, rfl⟩, rfl⟩
    rw [lself]
    try refine go ⟨?_⟩
    refine PE.again (k + 1) ?_ ?_ sE sT2
    · (try dsimp only); omega
    · (try dsimp only); omega
  · try refine go ⟨?_⟩
    refine WPL.eff (OpE.call lO (fun w hw => c_SetsValid _ a1 a2 a3 (ofS n.toNat es) (Rd.at rD hw) (Rd.at rD hw) (Rd.at rD hw) (by omega) (by omega) (by omega))) rfl rfl ?_
    rintro r _ ⟨T, ⟨rfl, rfl⟩, rfl⟩
    rw [decide_eq_true hSV]
    try refine go ⟨?_⟩
    rw [decide_eq_true (show (((ofS n.toNat es).S.length : Nat) : Int) = (es.length : Nat) by omega)]
    refine PE.ret1 (T := []) (T' := []) rfl rV ?_ sT
    rfl
end Go.Proofs.Ythlgbeakcobeoaa
/- The given statement FnSetsOfSaid, out of its walk (LSetsOf). Written by fin.py. No conditions. -/
namespace Go.Proofs.Ythlgbeakcobeoaa.ZfnSetsOf
open Go Go.ChangeShapes Go.WideShapes Go.ChangeAt Go.RowKit Go.Joins
theorem own : ownKnob Try.prog.godebug = none := by kernel_rfl
theorem laidOut : laidOutB Try.prog = true := by kernel_rfl
theorem cells5 : Try.prog.cellsOf 5 = 1 := by kernel_rfl
set_option maxRecDepth 100000 in
theorem lifted (os : Os) (started : os.Started) (H : Type) (enc : TypeId × Value → H) :
    ReturnsInHanded {} Try.checked os 18 .any (Rows.fnSetsOfSpec.pre6 enc Try.prog Try.f18 Rows.fnSetsOfRow.domain false) (Rows.fnSetsOfSpec.post enc Try.prog Try.f18 false true false false) := by
  refine returnsInHanded_of_change (C := Try.checked) own started (by kernel_rfl) Try.func18
    (ChangeSpec.witness6 (enc := enc) (C := Try.checked) false ⟨#[], #[.slice none 0 0], []⟩ 8 (by kernel_rfl) (by kernel_rfl) (by kernel_rfl) (by kernel_rfl)) ?_
  intro W base args ds gs before hval0 hW hcnd _
  have hval : ∀ (j : Nat) t v, Try.f18.params[j]? = some t → args[j]? = some v → Value.okWide Try.prog W .any base t v := hval0
  have hW' := hW
  obtain ⟨p, q, hA0, hV, rfl, hfz, hnd⟩ := hW
  have hA : DataW.TrodAll enc Try.prog W 0 (fun _ => true) true Try.f18.params.toList args.toList ds p := hA0
  rw [Try.params18] at hA hval
  obtain ⟨v0, vs0, d0, ds0, p0, q0, hargs, rfl, rfl, h0, r0⟩ := trodAll_cons hA
  obtain ⟨rfl, rfl, rfl⟩ := trodAll_nil r0
  obtain rfl : args = #[v0] := by cases args; simp_all
  obtain ⟨rfl, rfl⟩ := trodVars_none hV
  have k0 := h0
  have lt0 : ∀ x ∈ p0, x.block < W.heap.size := by obtain ⟨m, hm⟩ := k0; exact DataW.trod_lt m _ _ _ hm
  obtain ⟨xs0, rl0, ll0⟩ : ∃ xs : List UInt8, RL W v0 xs ∧ xs.length ≤ 9223372036854775807 := by
    have hv := hval 0 46 v0 rfl rfl
    simp only [Value.okWide, Try.underlying46] at hv
    obtain ⟨a, l, c, rfl⟩ := okWide_slice Try.underlying46 (hval 0 46 v0 rfl rfl)
    obtain ⟨m, hm⟩ := k0
    exact rl_bytes Try.underlying46 Try.underlying5 cells5 hv (by simpa [Value.cells] using hm)
  clear hA0 hval0
  refine (Tri.holds0 (v := .bool true) (l_SetsOf W v0 xs0 rl0 ll0) (fun _ _ h => h)).mono fun e W' ⟨he, bel⟩ => ?_
  subst he
  exact ⟨_, rfl, _, _, _, [], _, [], hW', trodAll_mk1 (shut_bool Try.underlying4 _), (trodAll_cons_mk (Below.trod laidOut (by kernel_rfl) (of_decide_eq_true (by kernel_rfl)) k0 bel lt0) trodAll_mk0), rfl, bel.frame _, fun h => by cases h⟩
theorem over : Rows.fnSetsOfRow.holds Try.pinned (OpenSpec.ofChange Rows.fnSetsOfSpec) :=
  OpenClaim.holds_of_wide 18 Try.f18 rfl rfl rfl rfl rfl rfl rfl ⟨rfl, rfl, rfl, rfl, rfl⟩ rfl rfl rfl rfl rfl (by kernel_rfl) Try.func18 (by unfold joinedFacts; rw [initMay, initLift, initMake]; kernel_rfl)
    (of_decide_eq_true (by kernel_rfl)) (by unfold Func.isWrapper; first | (rw [if_pos (by decide +kernel)]; kernel_rfl) | (rw [if_neg (by decide +kernel)]; exact ⟨rfl, rfl⟩))
    (fun os started H enc _ => lifted os started H enc)
/-- The statement. -/
theorem proved : Rows.FnSetsOfSaid := over
end Go.Proofs.Ythlgbeakcobeoaa.ZfnSetsOf
