/- The given statement FnSetsEdgesSaid, out of its walk (LSetsEdges). Written by fin.py. No conditions. -/
import Derived.Test.YthlgbeakcobeoaaInit
import Derived.Test.YthlgbeakcobeoaaV3
import Derived.Test.YthlgbeakcobeoaaV4
import Derived.Test.YthlgbeakcobeoaaV8
set_option linter.unusedVariables false
set_option linter.unusedSimpArgs false
/- The law FnSetsEdges: its walk. Conditions: those of the theorem. -/
namespace Go.Proofs.Ythlgbeakcobeoaa
open Go
/-- The forest of the first k edges. -/
def fk (n : Int) (es : List E) (k : Nat) : List E := (es.take k).foldl (fstep n) []
theorem fk_all (n : Int) (es : List E) : fk n es es.length = forestL n es := by unfold fk forestL; rw [List.take_length]
theorem fk_succ {n : Int} {es : List E} {k : Nat} (hk : k < es.length) : fk n es (k + 1) = fstep n (fk n es k) (es.getD k eD) := by unfold fk; exact foldl_takeS eD _ _ hk
theorem fk_pre (n : Int) (es : List E) : ∀ m k, k ≤ m → m ≤ es.length → fk n es k <+: fk n es m := by
  intro m
  induction m with
  | zero => intro k hk _; have : k = 0 := by omega
            subst this; exact List.prefix_refl _
  | succ m ih =>
    intro k hk hm
    rcases Nat.lt_or_ge m k with h | h
    · have : k = m + 1 := by omega
      subst this; exact List.prefix_refl _
    · refine (ih k h (by omega)).trans ?_
      rw [fk_succ (by omega)]
      unfold fstep
      split
      · exact List.prefix_refl _
      · exact List.prefix_append _ _
theorem pre_getD {xs ys : List E} (h : xs <+: ys) {i : Nat} (hi : i < xs.length) : ys.getD i eD = xs.getD i eD := by
  obtain ⟨t, rfl⟩ := h
  rw [List.getD_eq_getElem?_getD, List.getD_eq_getElem?_getD, List.getElem?_append_left hi]
/-- Step k of a graph's sets, and the forest. -/
theorem sets_forest {n : Int} {es : List E} (hg : GV n es) {k : Nat} (hk : k < es.length) :
    (0 ≤ ((ofS n.toNat es).S.getD k eD).A → fk n es (k + 1) = fk n es k ++ [es.getD k eD]) ∧ (¬ 0 ≤ ((ofS n.toNat es).S.getD k eD).A → fk n es (k + 1) = fk n es k) := by
  have hn1 := hg.1
  have hn2 := hg.2.1
  have hl := hg.2.2.1
  have e : ((n.toNat : Nat) : Int) = n := Int.toNat_of_nonneg (by omega)
  have hE : okE ((n.toNat : Nat) : Int) es := by rw [e]; exact hg.okE
  obtain ⟨_, h2⟩ := ofS_step (n := n.toNat) (by omega) (by omega) hE (by omega) hk
  have hEt : okE n (es.take k) := hg.okE.sub fun f hf => List.mem_of_mem_take hf
  obtain ⟨_, f2, f3⟩ := ffold_spec (n := n) hEt
  have ho : okE n (fk n es k) := hEt.sub fun f hf => f3.subset hf
  have he := hg.okE _ (getD_memI (d := eD) hk)
  have hc : cn n (fk n es k) (es.getD k eD).A (es.getD k eD).B ↔ Conn (es.take k) (es.getD k eD).A (es.getD k eD).B := (cn_iff ho he.1 he.2).trans (f2 _ _)
  rw [fk_succ hk]
  unfold fstep
  constructor
  · intro h
    rw [if_neg fun h' => h2.1 h (hc.1 h')]
  · intro h
    rw [if_pos (hc.2 (Classical.byContradiction fun h' => h (h2.2 h')))]
theorem eself (e : E) : decide ((⟨e.A, e.B⟩ : E) ≠ ⟨e.A, e.B⟩) = false := decide_eq_false fun h => h rfl
set_option linter.unusedVariables false set_option linter.unusedSimpArgs false attribute [local irreducible] Tok.own Tok.blk RL Rd eptr WP WPL PE WPD WPO Op1 OpE Tri Again Mid Exit.then Exit.inBlock bodyPost RP Code.wp wpList isOwn OneM One
attribute [local irreducible] SV EL GV
set_option maxHeartbeats 8000000

theorem l_SetsEdges (w : World) (v : Value) (bs : List UInt8) (h : RL w v bs) (hl : bs.length ≤ 9223372036854775807) :
    Tri Try.prog 15 [v] w [] fun r T => r = .bool true := by
  refine Tri.intro (hf := Try.func15) (hb := rfl) (hn := Try.ntmps15) (Nat.le_of_ble_eq_true rfl) ?_
  repeat' (first | exact absurd rfl hc | refine go ⟨?_⟩ | (refine isCond ?_; refine WP.condD rfl (fun hc => ?_) (fun hc => ?_)) | (refine isGuard ?_; refine WPL.splitD rfl rfl (fun hc => ?_) (fun hc => ?_)))
  · refine PE.ret1 (T := []) (T' := []) rfl rV ?_ sT
    rfl
  refine WPL.eff (OpE.call lO (fun w hw => g_DSetsOf _ v bs (Rd.at rD hw) hl)) rfl rfl ?_
  rintro r _ ⟨T, ⟨u, n, es, rfl, rfl, hle⟩, rfl⟩
  have sh := ofR_short n es
  try refine go ⟨?_⟩
  refine WPL.eff OpE.alloc rfl rfl ?_; rintro _ _ ⟨b3, rfl, rfl⟩
  try refine go ⟨?_⟩
  refine WPL.eff (OpE.call lO (fun w hw => c_SetsOf _ n u es (Rd.at rD hw) (by omega))) rfl rfl ?_
  rintro r _ ⟨T, ⟨a1, a2, a3, rfl, rfl⟩, rfl⟩
  try refine go ⟨?_⟩
  refine WPL.eff OpE.alloc rfl rfl ?_; rintro _ _ ⟨b4, rfl, rfl⟩
  try refine go ⟨?_⟩
  refine WPL.eff (OpE.call lO (fun w hw => s_SetsOf _ n u es (Rd.at rD hw) (by omega))) rfl rfl ?_
  rintro r _ ⟨T, ⟨c1, c2, c3, rfl, rfl⟩, rfl⟩
  try refine go ⟨?_⟩
  refine WPL.eff OpE.alloc rfl rfl ?_; rintro _ _ ⟨b6, rfl, rfl⟩
  try refine go ⟨?_⟩
  refine WPL.eff (OpE.call lO (fun w hw => y_Sets _ a1 a2 a3 c1 c2 c3 (ofR n es) (ofR n es) (Rd.at rD hw) (Rd.at rD hw) (Rd.at rD hw) (Rd.at rD hw) (Rd.at rD hw) (Rd.at rD hw) (by omega) (by omega) (by omega) (by omega) (by omega) (by omega))) rfl rfl ?_
  rintro r _ ⟨T, ⟨rfl, rfl⟩, rfl⟩
  rw [sself]
  by_cases hg : GV n es
  case neg =>
    rw [decide_eq_false hg]
    try refine go ⟨?_⟩
    refine WPL.eff (OpE.call lO (fun w hw => y_Sets _ a1 a2 a3 c1 c2 c3 (ofR n es) (ofR n es) (Rd.at rD hw) (Rd.at rD hw) (Rd.at rD hw) (Rd.at rD hw) (Rd.at rD hw) (Rd.at rD hw) (by omega) (by omega) (by omega) (by omega) (by omega) (by omega))) rfl rfl ?_
    rintro r _ ⟨T, ⟨rfl, rfl⟩, rfl⟩
    rw [sself]
    try refine go ⟨?_⟩
    refine PE.ret1 (T := []) (T' := []) rfl rV ?_ sT
    rfl
  have hgs : GV n es → (1 ≤ n ∧ n ≤ 16 ∧ es.length ≤ 40 ∧ okE n es) := fun h => by have := h.ne; unfold GV at h; exact ⟨h.1, h.2.1, h.2.2.1, this.ok⟩
  obtain ⟨hn1, hn2, hl40, hokE⟩ := hgs hg
  have q2 : ofR n es = ofS n.toNat es := if_pos hg
  have hSl : (ofS n.toNat es).S.length = es.length := (ofS_spec (n := n.toNat) (by omega) (by omega) es (by rw [Int.toNat_of_nonneg (by omega)]; exact hokE) (by omega)).2.2.1
  rw [decide_eq_true hg, q2]
  have hall := fk_all n es
  try refine go ⟨?_⟩
  refine WPL.eff (OpE.call lO (fun w hw => u_ForestOf _ n u es (Rd.at rD hw) (by omega))) rfl rfl ?_
  rintro f _ ⟨T, rfl, rfl⟩
  rw [if_pos hg, ← hall]
  have hfl : (fk n es es.length).length ≤ 60 := by
    have := ffold_len (n := n) (es.take es.length) []
    rw [List.take_length] at this
    unfold fk; rw [List.take_length]; simp only [List.length_nil] at this; omega
  try refine go ⟨?_⟩
  refine WP.loop (σ := Nat) (fun k => [(3, ptrV b3), (4, ptrV b4), (8, f), (9, .int .i64 (fk n es k).length), (10, .int .i64 k)]) (fun _ => [Tok.own f (fk n es es.length), Tok.blk b4 [a1, a2, a3], Tok.own a1 (ofS n.toNat es).P, Tok.own a2 (ofS n.toNat es).Z, Tok.own a3 (ofS n.toNat es).S, Tok.blk b3 [.int .i64 n, u], Tok.own u es]) (fun k => k ≤ es.length) (fun k => es.length - k) 0 (Nat.zero_le _) sE sT2 ?_
  rintro k hk
  have hpre := fk_pre n es es.length k hk (Nat.le_refl _)
  have hple := hpre.length_le
  try refine go ⟨?_⟩
  refine WP.condD rfl (fun hc => ?_) (fun hc => ?_)
  · have hk' : k < es.length := by omega
    obtain ⟨f1, f2⟩ := sets_forest hg hk'
    try refine go ⟨?_⟩
    refine WP.condD rfl (fun hA => ?_) (fun hA => ?_)
    · have hA : 0 ≤ ((ofS n.toNat es).S.getD k eD).A := hA
      have hf1 := f1 hA
      have hpre2 := fk_pre n es es.length (k + 1) hk' (Nat.le_refl _)
      have hfl2 : (fk n es (k + 1)).length = (fk n es k).length + 1 := by rw [hf1, List.length_append]; rfl
      have hple2 := hpre2.length_le
      have hget : (fk n es es.length).getD (fk n es k).length (Enc.d : E) = es.getD k (Enc.d : E) := by
        show (fk n es es.length).getD (fk n es k).length eD = es.getD k eD
        rw [pre_getD hpre2 (by omega), hf1, List.getD_eq_getElem?_getD, List.getElem?_append_right (Nat.le_refl _), Nat.sub_self]; rfl
      try refine go ⟨?_⟩
      refine WP.draw [Tok.own f (fk n es es.length), Tok.blk b3 [.int .i64 n, u], Tok.own u es] mixed ?_
      refine WPD.take 0 rfl (Op1.move rfl) rfl rfl sT kR kR kR xQP ?_
      refine WPD.take 1 rfl (Op1.move rfl) rfl rfl sT kR kR kR xQP ?_
      refine WPD.take 2 rfl (Op1.len rfl rD) rfl rfl sT kR kR kR xQP ?_
      refine WPD.take 3 rfl (Op1.geI rfl rfl) rfl rfl sT kR kR kR xQP ?_
      refine WPD.take 4 rfl (Op1.move rfl) rfl rfl sT kR kR kR xQP ?_
      first | refine WPD.splitD 67 rfl (fun h67 => ?t1) (fun h67 => ?f1) | refine WPD.split 67 rfl (fun h67 => ?t1) (fun h67 => ?f1)
      case' t1 =>
        refine WPD.skip 5 rfl rfl rfl sT kR kR kR xQP ?_
        refine WPD.skip 6 rfl rfl rfl sT kR kR kR xQP ?_
        refine WPD.skip 9 rfl rfl rfl sT kR kR kR xQP ?_
        refine WPD.skip 11 rfl rfl rfl sT kR kR kR xQP ?_
        refine WPD.skip 7 rfl rfl rfl sT kR kR kR xQP ?_
        refine WPD.skip 10 rfl rfl rfl sT kR kR kR xQP ?_
        refine WPD.skip 8 rfl rfl rfl sT kR kR kR xQP ?_
        refine WPD.skip 12 rfl rfl rfl sT kR kR kR xQP ?_
        refine WPD.skip 13 rfl rfl rfl sT kR kR kR xQP ?_
        refine WPD.skip 14 rfl rfl rfl sT kR kR kR xQP ?_
        refine WPD.take 15 rfl (by first | exact (Op1.pickT rfl rfl) | exact (Op1.pickF rfl rfl)) rfl rfl sT kR kR kR xQP ?_
        refine WPD.done kR ?_
      case' f1 =>
        refine WPD.take 5 rfl (Op1.move rfl) rfl rfl sT kR kR kR xQP ?_
        refine WPD.take 6 rfl (Op1.move rfl) rfl rfl sT kR kR kR xQP ?_
        refine WPD.take 9 rfl (by first | exact (Op1.fieldAddr rfl) | exact (Op1.fieldAddrE rfl rD lT)) rfl rfl sT kR kR kR xQP ?_
        refine WPD.take 11 rfl (Op1.move rfl) rfl rfl sT kR kR kR xQP ?_
        refine WPD.take 7 rfl (by first | exact (Op1.indexAddr rfl rfl rD lT) | exact (Op1.indexAddrZ rfl rfl rD lT)) rfl rfl sT kR kR kR xQP ?_
        refine WPD.take 10 rfl (by first | exact (Op1.load rfl mM (by rfl)) | exact (Op1.loadI rfl rD lT) | exact (Op1.loadAll rfl mM (by rfl)) | exact (Op1.loadE rfl rD lT (by rfl)) | exact (Op1.loadEAgg rfl rD lT (by rfl))) rfl rfl sT kR kR kR xQP ?_
        refine WPD.take 8 rfl (by first | exact (Op1.load rfl mM (by rfl)) | exact (Op1.loadI rfl rD lT) | exact (Op1.loadAll rfl mM (by rfl)) | exact (Op1.loadE rfl rD lT (by rfl)) | exact (Op1.loadEAgg rfl rD lT (by rfl))) rfl rfl sT kR kR kR xQP ?_
        refine WPD.take 12 rfl (by first | exact (Op1.indexAddr rfl rfl rD lT) | exact (Op1.indexAddrZ rfl rfl rD lT)) rfl rfl sT kR kR kR xQP ?_
        refine WPD.take 13 rfl (by first | exact (Op1.load rfl mM (by rfl)) | exact (Op1.loadI rfl rD lT) | exact (Op1.loadAll rfl mM (by rfl)) | exact (Op1.loadE rfl rD lT (by rfl)) | exact (Op1.loadEAgg rfl rD lT (by rfl))) rfl rfl sT kR kR kR xQP ?_
        refine WPD.take 14 rfl (by first | exact (Op1.neI rfl rfl) | exact (Op1.neB rfl rfl) | exact (Op1.neE rfl rfl)) rfl rfl sT kR kR kR xQP ?_
        refine WPD.take 15 rfl (by first | exact (Op1.pickT rfl rfl) | exact (Op1.pickF rfl rfl)) rfl rfl sT kR kR kR xQP ?_
        refine WPD.done kR ?_
      · rw [hget, eself]
        try refine go ⟨?_⟩
        have e : ((fk n es k).length : Int) + 1 = ((fk n es (k + 1)).length : Nat) := by omega
        rw [e]
        refine PE.again (k + 1) ?_ ?_ sE sT2
        · (try dsimp only); omega
        · (try dsimp only); omega
      · exfalso; omega
    · have hA : ¬ 0 ≤ ((ofS n.toNat es).S.getD k eD).A := hA
      have hf2 := f2 hA
      try refine go ⟨?_⟩
      rw [← hf2]
      refine PE.again (k + 1) ?_ ?_ sE sT2
      · (try dsimp only); omega
      · (try dsimp only); omega
  · have hkn : k = es.length := by omega
    subst hkn
    try refine go ⟨?_⟩
    rw [iself]
    refine PE.ret1 (T := []) (T' := []) rfl rV ?_ sT
    rfl
end Go.Proofs.Ythlgbeakcobeoaa
/- The given statement FnSetsEdgesSaid, out of its walk (LSetsEdges). Written by fin.py. No conditions. -/
namespace Go.Proofs.Ythlgbeakcobeoaa.ZfnSetsEdges
open Go Go.ChangeShapes Go.WideShapes Go.ChangeAt Go.RowKit Go.Joins
theorem own : ownKnob Try.prog.godebug = none := by kernel_rfl
theorem laidOut : laidOutB Try.prog = true := by kernel_rfl
theorem cells5 : Try.prog.cellsOf 5 = 1 := by kernel_rfl
set_option maxRecDepth 100000 in
theorem lifted (os : Os) (started : os.Started) (H : Type) (enc : TypeId × Value → H) :
    ReturnsInHanded {} Try.checked os 15 .any (Rows.fnSetsEdgesSpec.pre6 enc Try.prog Try.f15 Rows.fnSetsEdgesRow.domain false) (Rows.fnSetsEdgesSpec.post enc Try.prog Try.f15 false true false false) := by
  refine returnsInHanded_of_change (C := Try.checked) own started (by kernel_rfl) Try.func15
    (ChangeSpec.witness6 (enc := enc) (C := Try.checked) false ⟨#[], #[.slice none 0 0], []⟩ 8 (by kernel_rfl) (by kernel_rfl) (by kernel_rfl) (by kernel_rfl)) ?_
  intro W base args ds gs before hval0 hW hcnd _
  have hval : ∀ (j : Nat) t v, Try.f15.params[j]? = some t → args[j]? = some v → Value.okWide Try.prog W .any base t v := hval0
  have hW' := hW
  obtain ⟨p, q, hA0, hV, rfl, hfz, hnd⟩ := hW
  have hA : DataW.TrodAll enc Try.prog W 0 (fun _ => true) true Try.f15.params.toList args.toList ds p := hA0
  rw [Try.params15] at hA hval
  obtain ⟨v0, vs0, d0, ds0, p0, q0, hargs, rfl, rfl, h0, r0⟩ := trodAll_cons hA
  obtain ⟨rfl, rfl, rfl⟩ := trodAll_nil r0
  obtain rfl : args = #[v0] := by cases args; simp_all
  obtain ⟨rfl, rfl⟩ := trodVars_none hV
  have k0 := h0
  have lt0 : ∀ x ∈ p0, x.block < W.heap.size := by obtain ⟨m, hm⟩ := k0; exact DataW.trod_lt m _ _ _ hm
  obtain ⟨xs0, rl0, ll0⟩ : ∃ xs : List UInt8, RL W v0 xs ∧ xs.length ≤ 9223372036854775807 := by
    have hv := hval 0 46 v0 rfl rfl
    simp only [Value.okWide, Try.underlying46] at hv
    obtain ⟨a, l, c, rfl⟩ := okWide_slice Try.underlying46 (hval 0 46 v0 rfl rfl)
    obtain ⟨m, hm⟩ := k0
    exact rl_bytes Try.underlying46 Try.underlying5 cells5 hv (by simpa [Value.cells] using hm)
  clear hA0 hval0
  refine (Tri.holds0 (v := .bool true) (l_SetsEdges W v0 xs0 rl0 ll0) (fun _ _ h => h)).mono fun e W' ⟨he, bel⟩ => ?_
  subst he
  exact ⟨_, rfl, _, _, _, [], _, [], hW', trodAll_mk1 (shut_bool Try.underlying4 _), (trodAll_cons_mk (Below.trod laidOut (by kernel_rfl) (of_decide_eq_true (by kernel_rfl)) k0 bel lt0) trodAll_mk0), rfl, bel.frame _, fun h => by cases h⟩
theorem over : Rows.fnSetsEdgesRow.holds Try.pinned (OpenSpec.ofChange Rows.fnSetsEdgesSpec) :=
  OpenClaim.holds_of_wide 15 Try.f15 rfl rfl rfl rfl rfl rfl rfl ⟨rfl, rfl, rfl, rfl, rfl⟩ rfl rfl rfl rfl rfl (by kernel_rfl) Try.func15 (by unfold joinedFacts; rw [initMay, initLift, initMake]; kernel_rfl)
    (of_decide_eq_true (by kernel_rfl)) (by unfold Func.isWrapper; first | (rw [if_pos (by decide +kernel)]; kernel_rfl) | (rw [if_neg (by decide +kernel)]; exact ⟨rfl, rfl⟩))
    (fun os started H enc _ => lifted os started H enc)
/-- The statement. -/
theorem proved : Rows.FnSetsEdgesSaid := over
end Go.Proofs.Ythlgbeakcobeoaa.ZfnSetsEdges
