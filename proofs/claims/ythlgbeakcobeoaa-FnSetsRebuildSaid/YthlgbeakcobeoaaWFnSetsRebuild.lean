/- The given statement FnSetsRebuildSaid, out of its walk (LSetsRebuild). Written by fin.py. No conditions. -/
import Derived.Test.YthlgbeakcobeoaaInit
import Derived.Test.YthlgbeakcobeoaaV4
import Derived.Test.YthlgbeakcobeoaaV8
set_option linter.unusedVariables false
set_option linter.unusedSimpArgs false
/- The law FnSetsRebuild: its walk. Conditions: those of the theorem. -/
namespace Go.Proofs.Ythlgbeakcobeoaa
open Go
/-- Step number k of valid sets is a union of the sets in front of it. -/
theorem step_uni {s x : SS} (hv : SV s) {k : Nat} (hk : k < s.S.length) (hx : repl s.P.length (s.S.take k) = some x) {a : Int} (ha : a = if (s.S.getD k eD).A < 0 then (s.S.getD k eD).B else (s.S.getD k eD).A) :
    UNok x a (s.S.getD k eD).B ∧ repl s.P.length (s.S.take (k + 1)) = some (uni x a (s.S.getD k eD).B) ∧ SV x ∧ x.P.length = s.P.length ∧ x.S.length = k := by
  obtain ⟨h1, h2, h3⟩ := repl_SV hx hv.pos hv.le
  have hcs := hv.inv.cs
  have hxl : x.S.length = k := by rw [h3, List.length_take]; omega
  obtain ⟨y, hy⟩ := hv.take (k + 1)
  have hy' := hy
  rw [take_succD eD hk, repl_snoc, hx] at hy'
  by_cases ho : stOk x (s.S.getD k eD)
  · have hi := (step_iff h1.inv (by omega) ha).1 ho
    obtain ⟨g1, g2, g3, g4⟩ := hi
    refine ⟨⟨⟨h1, g1⟩, ⟨h1, g2⟩, by omega⟩, ?_, h1, h2, hxl⟩
    rw [take_succD eD hk, repl_snoc, hx, repo_some ho]
    unfold uni; rw [g4]
  · rw [repo_bad ho] at hy'; cases hy'
set_option linter.unusedVariables false set_option linter.unusedSimpArgs false attribute [local irreducible] Tok.own Tok.blk RL Rd eptr WP WPL PE WPD WPO Op1 OpE Tri Again Mid Exit.then Exit.inBlock bodyPost RP Code.wp wpList isOwn OneM One
attribute [local irreducible] SV EL UNok
set_option maxHeartbeats 8000000

theorem l_SetsRebuild (w : World) (v : Value) (bs : List UInt8) (h : RL w v bs) (hl : bs.length ≤ 9223372036854775807) :
    Tri Try.prog 9 [v] w [] fun r T => r = .bool true := by
  refine Tri.intro (hf := Try.func9) (hb := rfl) (hn := Try.ntmps9) (Nat.le_of_ble_eq_true rfl) ?_
  repeat' (first | exact absurd rfl hc | refine go ⟨?_⟩ | (refine isCond ?_; refine WP.condD rfl (fun hc => ?_) (fun hc => ?_)) | (refine isGuard ?_; refine WPL.splitD rfl rfl (fun hc => ?_) (fun hc => ?_)))
  · refine PE.ret1 (T := []) (T' := []) rfl rV ?_ sT
    rfl
  refine WPL.eff (OpE.call lO (fun w hw => g_DSetsValid _ v bs (Rd.at rD hw) hl)) rfl rfl ?_
  rintro r _ ⟨T, ⟨a1, a2, a3, s, rfl, rfl, sh⟩, rfl⟩
  have sh1 := sh.1
  have sh2 := sh.2.1
  have sh3 := sh.2.2
  try refine go ⟨?_⟩
  refine WPL.eff OpE.alloc rfl rfl ?_; rintro _ _ ⟨b3, rfl, rfl⟩
  try refine go ⟨?_⟩
  refine WPL.eff (OpE.call lO (fun w hw => c_SetsValid _ a1 a2 a3 s (Rd.at rD hw) (Rd.at rD hw) (Rd.at rD hw) (by omega) (by omega) (by omega))) rfl rfl ?_
  rintro r _ ⟨T, ⟨rfl, rfl⟩, rfl⟩
  try refine go ⟨?_⟩
  refine WPL.eff (OpE.call lO (fun w hw => s_SetsValid _ a1 a2 a3 s (Rd.at rD hw) (Rd.at rD hw) (Rd.at rD hw) (by omega) (by omega) (by omega))) rfl rfl ?_
  rintro r _ ⟨T, ⟨rfl, rfl⟩, rfl⟩
  by_cases hv : SV s
  case neg =>
    rw [decide_eq_false hv]
    try refine go ⟨?_⟩
    refine WPL.eff (OpE.call lO (fun w hw => s_SetsValid _ a1 a2 a3 s (Rd.at rD hw) (Rd.at rD hw) (Rd.at rD hw) (by omega) (by omega) (by omega))) rfl rfl ?_
    rintro r _ ⟨T, ⟨rfl, rfl⟩, rfl⟩
    rw [decide_eq_false hv]
    try refine go ⟨?_⟩
    refine PE.ret1 (T := []) (T' := []) rfl rV ?_ sT
    rfl
  rw [decide_eq_true hv]
  have hpos := hv.pos
  have hle := hv.le
  have hn : (1 : Int) ≤ ((s.P.length : Nat) : Int) ∧ ((s.P.length : Nat) : Int) ≤ 16 := ⟨by omega, by omega⟩
  try refine go ⟨?_⟩
  refine WPL.eff (OpE.call lO (fun w hw => c_NewS _ s.P.length)) rfl rfl ?_
  rintro r _ ⟨T, ⟨d1, d2, d3, rfl, rfl⟩, rfl⟩
  rw [decide_eq_true hn, nsS_yes hn, Int.toNat_natCast]
  try refine go ⟨?_⟩
  refine WPL.eff OpE.alloc rfl rfl ?_; rintro _ _ ⟨b5, rfl, rfl⟩
  try refine go ⟨?_⟩
  refine WP.loop (σ := Nat × Value × Value × Value × SS) (fun q => [(3, ptrV b3), (5, ptrV b5), (6, .bool true), (7, .int .i64 q.1)]) (fun q => [Tok.blk b5 [q.2.1, q.2.2.1, q.2.2.2.1], Tok.own q.2.1 q.2.2.2.2.P, Tok.own q.2.2.1 q.2.2.2.2.Z, Tok.own q.2.2.2.1 q.2.2.2.2.S, Tok.blk b3 [a1, a2, a3], Tok.own a1 s.P, Tok.own a2 s.Z, Tok.own a3 s.S])
    (fun q => q.1 ≤ s.S.length ∧ repl s.P.length (s.S.take q.1) = some q.2.2.2.2) (fun q => s.S.length - q.1) (0, d1, d2, d3, newS s.P.length) ⟨Nat.zero_le _, rfl⟩ sE sT2 ?_
  rintro ⟨k, d1, d2, d3, x⟩ ⟨hk, hr⟩
  dsimp only at hk hr ⊢
  try refine go ⟨?_⟩
  refine WP.condD rfl (fun hc => ?_) (fun hc => ?_)
  · have hk' : k < s.S.length := by omega
    obtain ⟨t, ht⟩ : ∃ t, t = s.S.getD k eD := ⟨_, rfl⟩
    have htA : (s.S.getD k (Enc.d : E)).A = t.A := by rw [ht]; rfl
    have htB : (s.S.getD k (Enc.d : E)).B = t.B := by rw [ht]; rfl
    try refine go ⟨?_⟩
    rw [htA]
    refine WP.cutK (σ := Int) (fun a => [(3, ptrV b3), (5, ptrV b5), (6, .bool true), (7, .int .i64 k), (8, .int .i64 a)]) (fun a => [Tok.blk b5 [d1, d2, d3], Tok.own d1 x.P, Tok.own d2 x.Z, Tok.own d3 x.S, Tok.blk b3 [a1, a2, a3], Tok.own a1 s.P, Tok.own a2 s.Z, Tok.own a3 s.S]) (fun a => a = if t.A < 0 then t.B else t.A) ?_ ?_
    · refine WP.condD rfl (fun hA => ?_) (fun hA => ?_)
      · have hA : t.A < 0 := hA
        try refine go ⟨?_⟩
        rw [htB]
        refine PE.mid t.B (by rw [if_pos hA]) sE sT2
      · have hA : ¬ t.A < 0 := hA
        try refine go ⟨?_⟩
        refine PE.mid t.A (by rw [if_neg hA]) sE sT2
    rintro a ha
    rw [ht] at ha
    obtain ⟨g1, g2, g3, g4, g5⟩ := step_uni hv hk' hr ha
    rw [← ht] at g1 g2
    have xs := g3.short
    have q2 : uniR x a t.B = uni x a t.B := if_pos g1
    try refine go ⟨?_⟩
    refine WP.draw [Tok.blk b5 [d1, d2, d3], Tok.own d1 x.P, Tok.own d2 x.Z, Tok.own d3 x.S, Tok.blk b3 [a1, a2, a3], Tok.own a1 s.P, Tok.own a2 s.Z, Tok.own a3 s.S] mixed ?_
    refine WPD.take 0 rfl (by first | exact (Op1.load rfl mM (by rfl)) | exact (Op1.loadI rfl rD lT) | exact (Op1.loadAll rfl mM (by rfl)) | exact (Op1.loadE rfl rD lT (by rfl)) | exact (Op1.loadEAgg rfl rD lT (by rfl))) rfl rfl sT kR kR kR xQP ?_
    refine WPD.take 1 rfl (Op1.move rfl) rfl rfl sT kR kR kR xQP ?_
    refine WPD.take 2 rfl (by first | exact (Op1.fieldAddr rfl) | exact (Op1.fieldAddrE rfl rD lT)) rfl rfl sT kR kR kR xQP ?_
    refine WPD.take 4 rfl (Op1.move rfl) rfl rfl sT kR kR kR xQP ?_
    refine WPD.take 3 rfl (by first | exact (Op1.load rfl mM (by rfl)) | exact (Op1.loadI rfl rD lT) | exact (Op1.loadAll rfl mM (by rfl)) | exact (Op1.loadE rfl rD lT (by rfl)) | exact (Op1.loadEAgg rfl rD lT (by rfl))) rfl rfl sT kR kR kR xQP ?_
    refine WPD.take 5 rfl (by first | exact (Op1.indexAddr rfl rfl rD lT) | exact (Op1.indexAddrZ rfl rfl rD lT)) rfl rfl sT kR kR kR xQP ?_
    refine WPD.take 6 rfl (by first | exact (Op1.fieldAddr rfl) | exact (Op1.fieldAddrE rfl rD lT)) rfl rfl sT kR kR kR xQP ?_
    refine WPD.take 7 rfl (by first | exact (Op1.load rfl mM (by rfl)) | exact (Op1.loadI rfl rD lT) | exact (Op1.loadAll rfl mM (by rfl)) | exact (Op1.loadE rfl rD lT (by rfl)) | exact (Op1.loadEAgg rfl rD lT (by rfl))) rfl rfl sT kR kR kR xQP ?_
    refine WPD.two 8 12 kR ?e1_8 ?e1_12
    case' e1_8 =>
      refine WPO.eff rfl (OpE.call lO (fun w hw => c_UniteSets _ d1 d2 d3 x a (s.S.getD k (Enc.d : E)).B (Rd.at rD hw) (Rd.at rD hw) (Rd.at rD hw) (by omega) (by omega) (by omega))) rfl rfl ?_
      rintro r _ ⟨T, ⟨e1, e2, e3, rfl, rfl⟩, rfl⟩
      rw [htB, decide_eq_true g1, q2]
      refine ⟨sT, ?_⟩
      refine WPD.take 9 rfl (Op1.move rfl) rfl rfl sT kR kR kR xQP ?_
      refine WPD.take 10 rfl (Op1.extract rfl (by rfl)) rfl rfl sT kR kR kR xQP ?_
      refine WPD.take 11 rfl (Op1.extract rfl (by rfl)) rfl rfl sT kR kR kR xQP ?_
      refine WPD.eff 12 kR rfl OpE.alloc rfl rfl ?_
      rintro _ _ ⟨b9, rfl, rfl⟩
      refine ⟨sT, ?_⟩
      refine WPD.eff0 13 kR rfl (OpE.storeAll rfl rfl pM (by rfl) (by rfl) oN) rfl ?_
      rintro _ _ rfl
      refine ⟨sT, ?_⟩
      refine WPD.take 14 rfl (Op1.assign rfl) rfl rfl sT kR kR kR xQP ?_
      refine WPD.done kR ?_
    case' e1_12 =>
      refine WPO.eff rfl OpE.alloc rfl rfl ?_
      rintro _ _ ⟨b9, rfl, rfl⟩
      refine ⟨sT, ?_⟩
      refine WPD.eff 8 kR rfl (OpE.call lO (fun w hw => c_UniteSets _ d1 d2 d3 x a (s.S.getD k (Enc.d : E)).B (Rd.at rD hw) (Rd.at rD hw) (Rd.at rD hw) (by omega) (by omega) (by omega))) rfl rfl ?_
      rintro r _ ⟨T, ⟨e1, e2, e3, rfl, rfl⟩, rfl⟩
      rw [htB, decide_eq_true g1, q2]
      refine ⟨sT, ?_⟩
      refine WPD.take 9 rfl (Op1.move rfl) rfl rfl sT kR kR kR xQP ?_
      refine WPD.take 10 rfl (Op1.extract rfl (by rfl)) rfl rfl sT kR kR kR xQP ?_
      refine WPD.take 11 rfl (Op1.extract rfl (by rfl)) rfl rfl sT kR kR kR xQP ?_
      refine WPD.eff0 13 kR rfl (OpE.storeAll rfl rfl pM (by rfl) (by rfl) oN) rfl ?_
      rintro _ _ rfl
      refine ⟨sT, ?_⟩
      refine WPD.take 14 rfl (Op1.assign rfl) rfl rfl sT kR kR kR xQP ?_
      refine WPD.done kR ?_
    all_goals (
      try refine go ⟨?_⟩
      refine PE.again (k + 1, e1, e2, e3, uni x a t.B) ?_ ?_ sE sT2
      · exact ⟨hk', g2⟩
      · (try dsimp only); omega)
  · have hkn : k = s.S.length := by omega
    subst hkn
    rw [List.take_length, hv.eqv] at hr
    have hxs : s = x := by simpa using hr
    subst hxs
    try refine go ⟨?_⟩
    refine WPL.eff (OpE.call lO (fun w hw => y_Sets _ d1 d2 d3 a1 a2 a3 s s (Rd.at rD hw) (Rd.at rD hw) (Rd.at rD hw) (Rd.at rD hw) (Rd.at rD hw) (Rd.at rD hw) (by omega) (by omega) (by omega) (by omega) (by omega) (by omega))) rfl rfl ?_
    rintro r _ ⟨T, ⟨rfl, rfl⟩, rfl⟩
    rw [sself]
    try refine go ⟨?_⟩
    refine PE.ret1 (T := []) (T' := []) rfl rV ?_ sT
    rfl
end Go.Proofs.Ythlgbeakcobeoaa
/- The given statement FnSetsRebuildSaid, out of its walk (LSetsRebuild). Written by fin.py. No conditions. -/
namespace Go.Proofs.Ythlgbeakcobeoaa.ZfnSetsRebuild
open Go Go.ChangeShapes Go.WideShapes Go.ChangeAt Go.RowKit Go.Joins
theorem own : ownKnob Try.prog.godebug = none := by kernel_rfl
theorem laidOut : laidOutB Try.prog = true := by kernel_rfl
theorem cells5 : Try.prog.cellsOf 5 = 1 := by kernel_rfl
set_option maxRecDepth 100000 in
theorem lifted (os : Os) (started : os.Started) (H : Type) (enc : TypeId × Value → H) :
    ReturnsInHanded {} Try.checked os 9 .any (Rows.fnSetsRebuildSpec.pre6 enc Try.prog Try.f9 Rows.fnSetsRebuildRow.domain false) (Rows.fnSetsRebuildSpec.post enc Try.prog Try.f9 false true false false) := by
  refine returnsInHanded_of_change (C := Try.checked) own started (by kernel_rfl) Try.func9
    (ChangeSpec.witness6 (enc := enc) (C := Try.checked) false ⟨#[], #[.slice none 0 0], []⟩ 8 (by kernel_rfl) (by kernel_rfl) (by kernel_rfl) (by kernel_rfl)) ?_
  intro W base args ds gs before hval0 hW hcnd _
  have hval : ∀ (j : Nat) t v, Try.f9.params[j]? = some t → args[j]? = some v → Value.okWide Try.prog W .any base t v := hval0
  have hW' := hW
  obtain ⟨p, q, hA0, hV, rfl, hfz, hnd⟩ := hW
  have hA : DataW.TrodAll enc Try.prog W 0 (fun _ => true) true Try.f9.params.toList args.toList ds p := hA0
  rw [Try.params9] at hA hval
  obtain ⟨v0, vs0, d0, ds0, p0, q0, hargs, rfl, rfl, h0, r0⟩ := trodAll_cons hA
  obtain ⟨rfl, rfl, rfl⟩ := trodAll_nil r0
  obtain rfl : args = #[v0] := by cases args; simp_all
  obtain ⟨rfl, rfl⟩ := trodVars_none hV
  have k0 := h0
  have lt0 : ∀ x ∈ p0, x.block < W.heap.size := by obtain ⟨m, hm⟩ := k0; exact DataW.trod_lt m _ _ _ hm
  obtain ⟨xs0, rl0, ll0⟩ : ∃ xs : List UInt8, RL W v0 xs ∧ xs.length ≤ 9223372036854775807 := by
    have hv := hval 0 46 v0 rfl rfl
    simp only [Value.okWide, Try.underlying46] at hv
    obtain ⟨a, l, c, rfl⟩ := okWide_slice Try.underlying46 (hval 0 46 v0 rfl rfl)
    obtain ⟨m, hm⟩ := k0
    exact rl_bytes Try.underlying46 Try.underlying5 cells5 hv (by simpa [Value.cells] using hm)
  clear hA0 hval0
  refine (Tri.holds0 (v := .bool true) (l_SetsRebuild W v0 xs0 rl0 ll0) (fun _ _ h => h)).mono fun e W' ⟨he, bel⟩ => ?_
  subst he
  exact ⟨_, rfl, _, _, _, [], _, [], hW', trodAll_mk1 (shut_bool Try.underlying4 _), (trodAll_cons_mk (Below.trod laidOut (by kernel_rfl) (of_decide_eq_true (by kernel_rfl)) k0 bel lt0) trodAll_mk0), rfl, bel.frame _, fun h => by cases h⟩
theorem over : Rows.fnSetsRebuildRow.holds Try.pinned (OpenSpec.ofChange Rows.fnSetsRebuildSpec) :=
  OpenClaim.holds_of_wide 9 Try.f9 rfl rfl rfl rfl rfl rfl rfl ⟨rfl, rfl, rfl, rfl, rfl⟩ rfl rfl rfl rfl rfl (by kernel_rfl) Try.func9 (by unfold joinedFacts; rw [initMay, initLift, initMake]; kernel_rfl)
    (of_decide_eq_true (by kernel_rfl)) (by unfold Func.isWrapper; first | (rw [if_pos (by decide +kernel)]; kernel_rfl) | (rw [if_neg (by decide +kernel)]; exact ⟨rfl, rfl⟩))
    (fun os started H enc _ => lifted os started H enc)
/-- The statement. -/
theorem proved : Rows.FnSetsRebuildSaid := over
end Go.Proofs.Ythlgbeakcobeoaa.ZfnSetsRebuild
