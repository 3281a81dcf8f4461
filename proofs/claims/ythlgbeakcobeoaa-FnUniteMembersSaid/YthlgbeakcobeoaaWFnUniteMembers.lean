/- The given statement FnUniteMembersSaid, out of its walk (LUniteMembers). Written by fin.py. No conditions. -/
import Derived.Test.YthlgbeakcobeoaaInit
import Derived.Test.YthlgbeakcobeoaaV4
import Derived.Test.YthlgbeakcobeoaaV8
set_option linter.unusedVariables false
set_option linter.unusedSimpArgs false
/- The law FnUniteSets: its walk. Conditions: those of the theorem. -/
namespace Go.Proofs.Ythlgbeakcobeoaa
open Go
theorem UDok_uni {s : SS} {x y : Int} (h : UNok s x y) : UDok (uni s x y) 1 := by
  obtain ⟨h1, _, h3, _⟩ := h.uni
  refine ⟨h1, by omega, ?_⟩
  rw [h3, List.length_append, List.length_singleton]; omega
theorem undR_uni {s : SS} {x y : Int} (h : UNok s x y) : undR (uni s x y) 1 = s := by
  have := uni_undo h.1.sv h.1.nd h.2.1.nd h.2.2
  unfold undR
  rw [if_pos (UDok_uni h), show (1 : Int).toNat = 1 from rfl, this]; rfl
theorem EL_uni {s : SS} {x y z : Int} (h : UNok s x y) (hz : EL s z) : EL (uni s x y) z := by
  obtain ⟨h1, h2, _, _⟩ := h.uni
  exact ⟨h1, hz.2.1, by rw [h2]; exact hz.2.2⟩
theorem root_uni {s : SS} {x y : Int} (h : UNok s x y) : (lb (uni s x y)).getD x.toNat 0 = (lb (uni s x y)).getD y.toNat 0 :=
  (uni_label h.1.sv h.1.nd h.2.1.nd h.2.2 h.1.nd h.2.1.nd).2 (.inr (.inl ⟨rfl, rfl⟩))
set_option linter.unusedVariables false set_option linter.unusedSimpArgs false attribute [local irreducible] Tok.own Tok.blk RL Rd eptr WP WPL PE WPD WPO Op1 OpE Tri Again Mid Exit.then Exit.inBlock bodyPost RP Code.wp wpList isOwn OneM One
attribute [local irreducible] SV EL UNok
set_option maxHeartbeats 8000000

theorem l_UniteSets (w : World) (v : Value) (bs : List UInt8) (h : RL w v bs) (hl : bs.length ≤ 9223372036854775807) :
    Tri Try.prog 14 [v] w [] fun r T => r = .bool true := by
  refine Tri.intro (hf := Try.func14) (hb := rfl) (hn := Try.ntmps14) (Nat.le_of_ble_eq_true rfl) ?_
  repeat' (first | exact absurd rfl hc | refine go ⟨?_⟩ | (refine isCond ?_; refine WP.condD rfl (fun hc => ?_) (fun hc => ?_)) | (refine isGuard ?_; refine WPL.splitD rfl rfl (fun hc => ?_) (fun hc => ?_)))
  · refine PE.ret1 (T := []) (T' := []) rfl rV ?_ sT
    rfl
  refine WPL.eff (OpE.call lO (fun w hw => g_DUniteSets _ v bs (Rd.at rD hw) hl)) rfl rfl ?_
  rintro r _ ⟨T, ⟨a1, a2, a3, s, x, y, rfl, rfl, sh⟩, rfl⟩
  have sh1 := sh.1
  have sh2 := sh.2.1
  have sh3 := sh.2.2
  have su := uniR_short s x y
  try refine go ⟨?_⟩
  refine WPL.eff OpE.alloc rfl rfl ?_; rintro _ _ ⟨b3, rfl, rfl⟩
  try refine go ⟨?_⟩
  refine WPL.eff (OpE.call lO (fun w hw => c_UniteSets _ a1 a2 a3 s x y (Rd.at rD hw) (Rd.at rD hw) (Rd.at rD hw) (by omega) (by omega) (by omega))) rfl rfl ?_
  rintro r _ ⟨T, ⟨b1, b2, b3, rfl, rfl⟩, rfl⟩
  try refine go ⟨?_⟩
  refine WPL.eff OpE.alloc rfl rfl ?_; rintro _ _ ⟨b6, rfl, rfl⟩
  try refine go ⟨?_⟩
  refine WPL.eff (OpE.call lO (fun w hw => s_UniteSets _ a1 a2 a3 s x y (Rd.at rD hw) (Rd.at rD hw) (Rd.at rD hw) (by omega) (by omega) (by omega))) rfl rfl ?_
  rintro r _ ⟨T, ⟨c1, c2, c3, rfl, rfl⟩, rfl⟩
  try refine go ⟨?_⟩
  refine WPL.eff OpE.alloc rfl rfl ?_; rintro _ _ ⟨b8, rfl, rfl⟩
  try refine go ⟨?_⟩
  refine WPL.eff (OpE.call lO (fun w hw => y_Sets _ b1 b2 b3 c1 c2 c3 (uniR s x y) (uniR s x y) (Rd.at rD hw) (Rd.at rD hw) (Rd.at rD hw) (Rd.at rD hw) (Rd.at rD hw) (Rd.at rD hw) (by omega) (by omega) (by omega) (by omega) (by omega) (by omega))) rfl rfl ?_
  rintro r _ ⟨T, ⟨rfl, rfl⟩, rfl⟩
  rw [sself]
  by_cases hu : UNok s x y
  case neg =>
    rw [decide_eq_false hu]
    try refine go ⟨?_⟩
    refine WPL.eff (OpE.call lO (fun w hw => y_Sets _ b1 b2 b3 c1 c2 c3 (uniR s x y) (uniR s x y) (Rd.at rD hw) (Rd.at rD hw) (Rd.at rD hw) (Rd.at rD hw) (Rd.at rD hw) (Rd.at rD hw) (by omega) (by omega) (by omega) (by omega) (by omega) (by omega))) rfl rfl ?_
    rintro r _ ⟨T, ⟨rfl, rfl⟩, rfl⟩
    rw [sself]
    try refine go ⟨?_⟩
    refine PE.ret1 (T := []) (T' := []) rfl rV ?_ sT
    rfl
  have q2 : uniR s x y = uni s x y := if_pos hu
  rw [decide_eq_true hu]
  rw [q2] at su ⊢
  have hux : UNok s x y ↔ EL s x ∧ EL s y ∧ s.S.length ≠ 100 := by unfold UNok; exact Iff.rfl
  have ex := EL_uni hu (hux.1 hu).1
  have ey := EL_uni hu (hux.1 hu).2.1
  try refine go ⟨?_⟩
  refine WPL.eff (OpE.call lO (fun w hw => c_FindRoot _ b1 b2 b3 (uni s x y) x (Rd.at rD hw) (Rd.at rD hw) (Rd.at rD hw) (by omega) (by omega) (by omega))) rfl rfl ?_
  rintro r _ ⟨T, ⟨rfl, rfl⟩, rfl⟩
  rw [decide_eq_true ex, if_pos ex]
  try refine go ⟨?_⟩
  refine WPL.eff (OpE.call lO (fun w hw => c_FindRoot _ b1 b2 b3 (uni s x y) y (Rd.at rD hw) (Rd.at rD hw) (Rd.at rD hw) (by omega) (by omega) (by omega))) rfl rfl ?_
  rintro r _ ⟨T, ⟨rfl, rfl⟩, rfl⟩
  rw [decide_eq_true ey, if_pos ey, ← root_uni hu]
  try refine go ⟨?_⟩
  refine WPL.eff (OpE.call lO (fun w hw => c_UndoSets _ b1 b2 b3 (uni s x y) 1 (Rd.at rD hw) (Rd.at rD hw) (Rd.at rD hw) (by omega) (by omega) (by omega))) rfl rfl ?_
  rintro r _ ⟨T, ⟨d1, d2, d3, rfl, rfl⟩, rfl⟩
  rw [decide_eq_true (UDok_uni hu), undR_uni hu]
  try refine go ⟨?_⟩
  refine WPL.eff OpE.alloc rfl rfl ?_; rintro _ _ ⟨b14, rfl, rfl⟩
  try refine go ⟨?_⟩
  refine WPL.eff (OpE.call lO (fun w hw => c_SetsValid _ b1 b2 b3 (uni s x y) (Rd.at rD hw) (Rd.at rD hw) (Rd.at rD hw) (by omega) (by omega) (by omega))) rfl rfl ?_
  rintro r _ ⟨T, ⟨rfl, rfl⟩, rfl⟩
  rw [decide_eq_true hu.uni.1]
  try refine go ⟨?_⟩
  rw [iself]
  try refine go ⟨?_⟩
  refine WPL.eff (OpE.call lO (fun w hw => y_Sets _ d1 d2 d3 a1 a2 a3 s s (Rd.at rD hw) (Rd.at rD hw) (Rd.at rD hw) (Rd.at rD hw) (Rd.at rD hw) (Rd.at rD hw) (by omega) (by omega) (by omega) (by omega) (by omega) (by omega))) rfl rfl ?_
  rintro r _ ⟨T, ⟨rfl, rfl⟩, rfl⟩
  rw [sself]
  try refine go ⟨?_⟩
  refine PE.ret1 (T := []) (T' := []) rfl rV ?_ sT
  rfl
end Go.Proofs.Ythlgbeakcobeoaa
/- The law FnUniteMembers: its walk. Conditions: those of the theorem. -/
namespace Go.Proofs.Ythlgbeakcobeoaa
open Go
theorem mem_uni {s : SS} {x y : Int} (h : UNok s x y) {k : Int} (hk : Nd s.P.length k) : k ∈ mem (uni s x y) x ↔ k ∈ mem s x ∨ k ∈ mem s y := by
  have hp := h.uni.2.1
  rw [mem_mem, mem_mem, mem_mem, hp, uni_label h.1.sv h.1.nd h.2.1.nd h.2.2 hk h.1.nd]
  constructor
  · rintro ⟨_, h1 | ⟨h1, _⟩ | ⟨h1, _⟩⟩
    · exact .inl ⟨hk, h1⟩
    · exact .inl ⟨hk, h1⟩
    · exact .inr ⟨hk, h1⟩
  · rintro (⟨_, h1⟩ | ⟨_, h1⟩)
    · exact ⟨hk, .inl h1⟩
    · exact ⟨hk, .inr (.inr ⟨h1, rfl⟩)⟩
set_option linter.unusedVariables false set_option linter.unusedSimpArgs false attribute [local irreducible] Tok.own Tok.blk RL Rd eptr WP WPL PE WPD WPO Op1 OpE Tri Again Mid Exit.then Exit.inBlock bodyPost RP Code.wp wpList isOwn OneM One
attribute [local irreducible] SV EL UNok
set_option maxHeartbeats 8000000

theorem l_UniteMembers (w : World) (v : Value) (bs : List UInt8) (h : RL w v bs) (hl : bs.length ≤ 9223372036854775807) :
    Tri Try.prog 16 [v] w [] fun r T => r = .bool true := by
  refine Tri.intro (hf := Try.func16) (hb := rfl) (hn := Try.ntmps16) (Nat.le_of_ble_eq_true rfl) ?_
  repeat' (first | exact absurd rfl hc | refine go ⟨?_⟩ | (refine isCond ?_; refine WP.condD rfl (fun hc => ?_) (fun hc => ?_)) | (refine isGuard ?_; refine WPL.splitD rfl rfl (fun hc => ?_) (fun hc => ?_)))
  · refine PE.ret1 (T := []) (T' := []) rfl rV ?_ sT
    rfl
  refine WPL.eff (OpE.call lO (fun w hw => g_DUniteSets _ v bs (Rd.at rD hw) hl)) rfl rfl ?_
  rintro r _ ⟨T, ⟨a1, a2, a3, s, x, y, rfl, rfl, sh⟩, rfl⟩
  have sh1 := sh.1
  have sh2 := sh.2.1
  have sh3 := sh.2.2
  have su := uniR_short s x y
  try refine go ⟨?_⟩
  refine WPL.eff OpE.alloc rfl rfl ?_; rintro _ _ ⟨b3, rfl, rfl⟩
  try refine go ⟨?_⟩
  refine WPL.eff (OpE.call lO (fun w hw => c_UniteSets _ a1 a2 a3 s x y (Rd.at rD hw) (Rd.at rD hw) (Rd.at rD hw) (by omega) (by omega) (by omega))) rfl rfl ?_
  rintro r _ ⟨T, ⟨b1, b2, b3', rfl, rfl⟩, rfl⟩
  try refine go ⟨?_⟩
  refine WPL.eff OpE.alloc rfl rfl ?_; rintro _ _ ⟨b6, rfl, rfl⟩
  try refine go ⟨?_⟩
  refine WPL.eff (OpE.call lO (fun w hw => s_UniteSets _ a1 a2 a3 s x y (Rd.at rD hw) (Rd.at rD hw) (Rd.at rD hw) (by omega) (by omega) (by omega))) rfl rfl ?_
  rintro r _ ⟨T, ⟨c1, c2, c3, rfl, rfl⟩, rfl⟩
  try refine go ⟨?_⟩
  refine WPL.eff OpE.alloc rfl rfl ?_; rintro _ _ ⟨b8, rfl, rfl⟩
  try refine go ⟨?_⟩
  refine WPL.eff (OpE.call lO (fun w hw => y_Sets _ b1 b2 b3' c1 c2 c3 (uniR s x y) (uniR s x y) (Rd.at rD hw) (Rd.at rD hw) (Rd.at rD hw) (Rd.at rD hw) (Rd.at rD hw) (Rd.at rD hw) (by omega) (by omega) (by omega) (by omega) (by omega) (by omega))) rfl rfl ?_
  rintro r _ ⟨T, ⟨rfl, rfl⟩, rfl⟩
  rw [sself]
  by_cases hu : UNok s x y
  case neg =>
    rw [decide_eq_false hu]
    try refine go ⟨?_⟩
    refine WPL.eff (OpE.call lO (fun w hw => y_Sets _ b1 b2 b3' c1 c2 c3 (uniR s x y) (uniR s x y) (Rd.at rD hw) (Rd.at rD hw) (Rd.at rD hw) (Rd.at rD hw) (Rd.at rD hw) (Rd.at rD hw) (by omega) (by omega) (by omega) (by omega) (by omega) (by omega))) rfl rfl ?_
    rintro r _ ⟨T, ⟨rfl, rfl⟩, rfl⟩
    rw [sself]
    try refine go ⟨?_⟩
    refine PE.ret1 (T := []) (T' := []) rfl rV ?_ sT
    rfl
  have q2 : uniR s x y = uni s x y := if_pos hu
  rw [decide_eq_true hu]
  rw [q2] at su ⊢
  have hux : UNok s x y ↔ EL s x ∧ EL s y ∧ s.S.length ≠ 100 := by unfold UNok; exact Iff.rfl
  have hsx := (hux.1 hu).1
  have hsy := (hux.1 hu).2.1
  have ex := EL_uni hu hsx
  have m1 := mem_len s x
  have m2 := mem_len s y
  have m3 := mem_len (uni s x y) x
  try refine go ⟨?_⟩
  refine WPL.eff (OpE.call lO (fun w hw => c_MembersOf _ a1 a2 a3 s x (Rd.at rD hw) (Rd.at rD hw) (Rd.at rD hw) (by omega) (by omega) (by omega))) rfl rfl ?_
  rintro r _ ⟨T, ⟨u1, rfl, rfl⟩, rfl⟩
  rw [decide_eq_true hsx, if_pos hsx]
  try refine go ⟨?_⟩
  refine WPL.eff (OpE.call lO (fun w hw => c_MembersOf _ a1 a2 a3 s y (Rd.at rD hw) (Rd.at rD hw) (Rd.at rD hw) (by omega) (by omega) (by omega))) rfl rfl ?_
  rintro r _ ⟨T, ⟨u2, rfl, rfl⟩, rfl⟩
  rw [decide_eq_true hsy, if_pos hsy]
  try refine go ⟨?_⟩
  refine WPL.eff (OpE.call lO (fun w hw => c_MembersOf _ b1 b2 b3' (uni s x y) x (Rd.at rD hw) (Rd.at rD hw) (Rd.at rD hw) (by omega) (by omega) (by omega))) rfl rfl ?_
  rintro r _ ⟨T, ⟨u3, rfl, rfl⟩, rfl⟩
  rw [decide_eq_true ex, if_pos ex]
  try refine go ⟨?_⟩
  refine WP.loop (σ := Nat) (fun k => [(3, ptrV b3), (10, u1), (12, u2), (14, u3), (15, .bool true), (16, .int .i64 k)]) (fun _ => [Tok.own u3 (mem (uni s x y) x), Tok.own u2 (mem s y), Tok.own u1 (mem s x), Tok.blk b3 [a1, a2, a3], Tok.own a1 s.P, Tok.own a2 s.Z, Tok.own a3 s.S]) (fun k => k ≤ s.P.length) (fun k => s.P.length - k) 0 (Nat.zero_le _) sE sT2 ?_
  rintro k hk
  try refine go ⟨?_⟩
  refine WP.condD rfl (fun hc => ?_) (fun hc => ?_)
  · have hkd : Nd s.P.length (k : Int) := ⟨by omega, hc⟩
    have hm := mem_uni hu hkd
    try refine go ⟨?_⟩
    refine WPL.eff (OpE.call lO (fun w hw => y_In _ u3 k (mem (uni s x y) x) (Rd.at rD hw) (by omega))) rfl rfl ?_
    rintro r _ ⟨T, ⟨rfl, rfl⟩, rfl⟩
    try refine go ⟨?_⟩
    refine WPL.eff (OpE.call lO (fun w hw => y_In _ u1 k (mem s x) (Rd.at rD hw) (by omega))) rfl rfl ?_
    rintro r _ ⟨T, ⟨rfl, rfl⟩, rfl⟩
    by_cases h1 : (k : Int) ∈ mem s x
    · rw [decide_eq_true h1, decide_eq_true (hm.2 (.inl h1))]
      try refine go ⟨?_⟩
      refine PE.again (k + 1) ?_ ?_ sE sT2
      · (try dsimp only); omega
      · (try dsimp only); omega
    · have e1 : decide ((k : Int) ∈ mem (uni s x y) x) = decide ((k : Int) ∈ mem s y) := by
        rw [decide_eq_decide, hm]; exact ⟨fun h => h.resolve_left h1, .inr⟩
      rw [decide_eq_false h1, e1]
      try refine go ⟨?_⟩
      refine WPL.eff (OpE.call lO (fun w hw => y_In _ u2 k (mem s y) (Rd.at rD hw) (by omega))) rfl rfl ?_
      rintro r _ ⟨T, ⟨rfl, rfl⟩, rfl⟩
      try refine go ⟨?_⟩
      rw [bnes]
      try refine go ⟨?_⟩
      refine PE.again (k + 1) ?_ ?_ sE sT2
      · (try dsimp only); omega
      · (try dsimp only); omega
  · try refine go ⟨?_⟩
    refine PE.ret1 (T := []) (T' := []) rfl rV ?_ sT
    rfl
end Go.Proofs.Ythlgbeakcobeoaa
/- The given statement FnUniteMembersSaid, out of its walk (LUniteMembers). Written by fin.py. No conditions. -/
namespace Go.Proofs.Ythlgbeakcobeoaa.ZfnUniteMembers
open Go Go.ChangeShapes Go.WideShapes Go.ChangeAt Go.RowKit Go.Joins
theorem own : ownKnob Try.prog.godebug = none := by kernel_rfl
theorem laidOut : laidOutB Try.prog = true := by kernel_rfl
theorem cells5 : Try.prog.cellsOf 5 = 1 := by kernel_rfl
set_option maxRecDepth 100000 in
theorem lifted (os : Os) (started : os.Started) (H : Type) (enc : TypeId × Value → H) :
    ReturnsInHanded {} Try.checked os 16 .any (Rows.fnUniteMembersSpec.pre6 enc Try.prog Try.f16 Rows.fnUniteMembersRow.domain false) (Rows.fnUniteMembersSpec.post enc Try.prog Try.f16 false true false false) := by
  refine returnsInHanded_of_change (C := Try.checked) own started (by kernel_rfl) Try.func16
    (ChangeSpec.witness6 (enc := enc) (C := Try.checked) false ⟨#[], #[.slice none 0 0], []⟩ 8 (by kernel_rfl) (by kernel_rfl) (by kernel_rfl) (by kernel_rfl)) ?_
  intro W base args ds gs before hval0 hW hcnd _
  have hval : ∀ (j : Nat) t v, Try.f16.params[j]? = some t → args[j]? = some v → Value.okWide Try.prog W .any base t v := hval0
  have hW' := hW
  obtain ⟨p, q, hA0, hV, rfl, hfz, hnd⟩ := hW
  have hA : DataW.TrodAll enc Try.prog W 0 (fun _ => true) true Try.f16.params.toList args.toList ds p := hA0
  rw [Try.params16] at hA hval
  obtain ⟨v0, vs0, d0, ds0, p0, q0, hargs, rfl, rfl, h0, r0⟩ := trodAll_cons hA
  obtain ⟨rfl, rfl, rfl⟩ := trodAll_nil r0
  obtain rfl : args = #[v0] := by cases args; simp_all
  obtain ⟨rfl, rfl⟩ := trodVars_none hV
  have k0 := h0
  have lt0 : ∀ x ∈ p0, x.block < W.heap.size := by obtain ⟨m, hm⟩ := k0; exact DataW.trod_lt m _ _ _ hm
  obtain ⟨xs0, rl0, ll0⟩ : ∃ xs : List UInt8, RL W v0 xs ∧ xs.length ≤ 9223372036854775807 := by
    have hv := hval 0 46 v0 rfl rfl
    simp only [Value.okWide, Try.underlying46] at hv
    obtain ⟨a, l, c, rfl⟩ := okWide_slice Try.underlying46 (hval 0 46 v0 rfl rfl)
    obtain ⟨m, hm⟩ := k0
    exact rl_bytes Try.underlying46 Try.underlying5 cells5 hv (by simpa [Value.cells] using hm)
  clear hA0 hval0
  refine (Tri.holds0 (v := .bool true) (l_UniteMembers W v0 xs0 rl0 ll0) (fun _ _ h => h)).mono fun e W' ⟨he, bel⟩ => ?_
  subst he
  exact ⟨_, rfl, _, _, _, [], _, [], hW', trodAll_mk1 (shut_bool Try.underlying4 _), (trodAll_cons_mk (Below.trod laidOut (by kernel_rfl) (of_decide_eq_true (by kernel_rfl)) k0 bel lt0) trodAll_mk0), rfl, bel.frame _, fun h => by cases h⟩
theorem over : Rows.fnUniteMembersRow.holds Try.pinned (OpenSpec.ofChange Rows.fnUniteMembersSpec) :=
  OpenClaim.holds_of_wide 16 Try.f16 rfl rfl rfl rfl rfl rfl rfl ⟨rfl, rfl, rfl, rfl, rfl⟩ rfl rfl rfl rfl rfl (by kernel_rfl) Try.func16 (by unfold joinedFacts; rw [initMay, initLift, initMake]; kernel_rfl)
    (of_decide_eq_true (by kernel_rfl)) (by unfold Func.isWrapper; first | (rw [if_pos (by decide +kernel)]; kernel_rfl) | (rw [if_neg (by decide +kernel)]; exact ⟨rfl, rfl⟩))
    (fun os started H enc _ => lifted os started H enc)
/-- The statement. -/
theorem proved : Rows.FnUniteMembersSaid := over
end Go.Proofs.Ythlgbeakcobeoaa.ZfnUniteMembers
