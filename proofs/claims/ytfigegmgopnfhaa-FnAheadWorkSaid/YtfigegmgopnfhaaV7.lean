/- Texts put together: Op0, Op1, Op2. Conditions: those of each theorem. -/
import Derived.Test.YtfigegmgopnfhaaV1
import Derived.Test.YtfigegmgopnfhaaV2
import Derived.Test.YtfigegmgopnfhaaV6
set_option linter.unusedVariables false
set_option linter.unusedSimpArgs false
/- Operations: the walk of the program's run. Conditions: those of the contract. -/
namespace Go.Proofs.Ytfigegmgopnfhaa
open Go
def runN (n : Int) (ops : List Oper1) : Int := if OV n ops then n else 0
def runG (n : Int) (ops : List Oper1) : List E := if OV n ops then gAt n ops else []
def runA (n : Int) (ops : List Oper1) : List Bool := if OV n ops then ans n ops ops.length else []
theorem GV_nil (n : Int) : GV n [] ↔ 1 ≤ n ∧ n ≤ 16 :=
  ⟨fun h => ⟨h.1, h.2.1⟩, fun h => gAt_nil n ▸ (OV_nil h.1 h.2).gv⟩
theorem ans_succ (n : Int) (ops : List Oper1) (k : Nat) : ans n ops (k + 1) = if (ops.getD k oD).K = 3 then ans n ops k ++ [decide (cn n (gAt n (ops.take k)) (ops.getD k oD).A (ops.getD k oD).B)] else ans n ops k := rfl
theorem ans_zero (n : Int) (ops : List Oper1) : ans n ops 0 = [] := rfl
theorem ans_short (n : Int) (ops : List Oper1) (k : Nat) : (ans n ops k).length ≤ k := ans_len n ops k
theorem OV_take_step {n : Int} {ops : List Oper1} {k : Nat} (hk : k < ops.length) (h : OV n (ops.take k)) (hl : ops.length ≤ 64) :
    (opOk n (gAt n (ops.take k)) (ops.getD k oD) → OV n (ops.take (k + 1)) ∧ gAt n (ops.take (k + 1)) = opDo (gAt n (ops.take k)) (ops.getD k oD)) ∧
    (¬ opOk n (gAt n (ops.take k)) (ops.getD k oD) → ¬ OV n ops) := by
  have e := take_succD oD hk
  refine ⟨fun ho => ?_, fun ho => OV_bad hk h.run ho⟩
  rw [e]
  exact OV_snoc h (by rw [List.length_take]; omega) ho
theorem RL.nilEd (w : World) : RL w (.slice none 0 0) ([] : List E) := ⟨rfl, .inl ⟨rfl, rfl⟩⟩
set_option linter.unusedVariables false set_option linter.unusedSimpArgs false attribute [local irreducible] Tok.own Tok.blk RL Rd eptr WP WPL PE WPD WPO Op1 OpE Tri Again Mid Exit.then Exit.inBlock bodyPost RP Code.wp wpList isOwn OneM One
attribute [local irreducible] GV GN OV opOk gAt ans cn putOk HE
set_option maxHeartbeats 8000000

theorem c_run (w : World) (n : Int) (vL : Value) (ops : List Oper1) (h : RL w vL ops) (hl : ops.length ≤ 1099511627776) :
    Tri Try.prog 78 [.int .i64 n, vL] w [] fun r T => ∃ vg va, r = .tuple #[.agg #[.int .i64 (runN n ops), vg], va, .bool (decide (OV n ops))] ∧ T = [Tok.own vg (runG n ops), Tok.own va (runA n ops)] := by
  have bad : ¬ OV n ops → runN n ops = 0 ∧ runG n ops = [] ∧ runA n ops = [] := fun h => ⟨if_neg h, if_neg h, if_neg h⟩
  have good : OV n ops → runN n ops = n ∧ runG n ops = gAt n ops ∧ runA n ops = ans n ops ops.length := fun h => ⟨if_pos h, if_pos h, if_pos h⟩
  have hOV1 : OV n ops → 1 ≤ n ∧ n ≤ 16 ∧ ops.length ≤ 64 := fun h => ⟨h.n1, h.n2, h.le⟩
  have hOV0 : 1 ≤ n → n ≤ 16 → OV n (ops.take 0) := fun h1 h2 => OV_nil h1 h2
  have hok : ∀ (es : List E) (o : Oper1), opOk n es o ↔ (o.K = 1 ∧ putOk n es (oE o)) ∨ (o.K = 2 ∧ HE n es (oE o)) ∨ (o.K = 3 ∧ o.A < o.B ∧ GN n es o.A ∧ GN n es o.B) := fun es o => by unfold opOk; exact Iff.rfl
  have hans : ∀ k, ans n ops (k + 1) = if (ops.getD k oD).K = 3 then ans n ops k ++ [decide (cn n (gAt n (ops.take k)) (ops.getD k oD).A (ops.getD k oD).B)] else ans n ops k := fun k => ans_succ n ops k
  have hGN : ∀ (es : List E) (x : Int), GN n es x → GV n es ∧ Nd n x := fun es x h => by unfold GN at h; exact h
  have hgv0 : ∀ k, OV n (ops.take k) → GV n (gAt n (ops.take k)) := fun k h => h.gv
  have hne : ∀ es : List E, GV n es → NE n es := fun es h => h.ne
  have hle : ∀ es : List E, GV n es → es.length ≤ 40 := fun es h => by unfold GV at h; exact h.2.2.1
  have hanl : ∀ k, (ans n ops k).length ≤ k := fun k => ans_len n ops k
  have hans0 : ans n ops 0 = [] := ans_zero n ops
  have hg0 : gAt n (ops.take 0) = [] := gAt_nil n
  refine Tri.intro (hf := Try.func78) (hb := rfl) (hn := Try.ntmps78) (Nat.le_of_ble_eq_true rfl) ?_
  try refine go ⟨?_⟩
  refine WPL.eff OpE.alloc rfl rfl ?_; rintro _ _ ⟨b4, rfl, rfl⟩
  try refine go ⟨?_⟩
  refine WPL.eff (OpE.buildSlice ([] : List Bool) pA rfl (by decide)) rfl rfl ?_; rintro va0 _ rfl
  try refine go ⟨?_⟩
  refine WPL.eff OpE.alloc rfl rfl ?_; rintro _ _ ⟨b7, rfl, rfl⟩
  try refine go ⟨?_⟩
  refine WPL.eff (OpE.call lO (fun w hw => c_GraphValid _ n (.slice none 0 0) ([] : List E) (RL.nilEd _) (by decide))) rfl rfl ?_
  rintro r _ ⟨T, ⟨rfl, rfl⟩, rfl⟩
  by_cases hn : 1 ≤ n ∧ n ≤ 16
  case neg =>
    rw [decide_eq_false (show ¬ GV n [] from fun h => hn ((GV_nil n).1 h))]
    obtain ⟨e1, e2, e3⟩ := bad fun h => hn ⟨(hOV1 h).1, (hOV1 h).2.1⟩
    rw [decide_eq_false (show ¬ OV n ops from fun h => hn ⟨(hOV1 h).1, (hOV1 h).2.1⟩), e1, e2, e3]
    try refine go ⟨?_⟩
    refine PE.nilTok Bool ?_
    refine PE.nilTok E ?_
    refine PE.ret3 (T := []) (T' := [Tok.own (.slice none 0 0) ([] : List E), Tok.own (.slice none 0 0) ([] : List Bool)]) rfl rV ?_ sT2
    exact ⟨_, _, rfl, rfl⟩
  rw [decide_eq_true ((GV_nil n).2 hn)]
  try refine go ⟨?_⟩
  by_cases hl64 : (ops.length : Int) > 64
  · rw [decide_eq_true hl64]
    have hno : ¬ OV n ops := fun h => by have := (hOV1 h).2.2; omega
    obtain ⟨e1, e2, e3⟩ := bad hno
    rw [decide_eq_false hno, e1, e2, e3]
    try refine go ⟨?_⟩
    refine PE.nilTok Bool ?_
    refine PE.nilTok E ?_
    refine PE.ret3 (T := []) (T' := [Tok.own (.slice none 0 0) ([] : List E), Tok.own (.slice none 0 0) ([] : List Bool)]) rfl rV ?_ sT2
    exact ⟨_, _, rfl, rfl⟩
  rw [decide_eq_false hl64]
  have hl64' : ops.length ≤ 64 := by omega
  try refine go ⟨?_⟩
  refine WP.nilTok E ?_
  refine WP.loop (σ := Nat × Value × Value) (fun q => [(4, ptrV b4), (7, ptrV b7), (8, q.2.2), (24, vL), (25, .int .i64 ops.length), (26, .int .i64 q.1)])
    (fun q => [Tok.own q.2.1 (gAt n (ops.take q.1)), Tok.own q.2.2 (ans n ops q.1), Tok.blk b7 [.int .i64 n, q.2.1], Tok.blk b4 [.int .i64 0, .slice none 0 0]]) (fun q => q.1 ≤ ops.length ∧ OV n (ops.take q.1)) (fun q => ops.length - q.1) (0, .slice none 0 0, va0) ⟨Nat.zero_le _, hOV0 hn.1 hn.2⟩ sE (by rw [hg0, hans0]; exact sT2) ?_
  rintro ⟨k, vg, va⟩ ⟨hk, hv⟩
  dsimp only at hk hv ⊢
  have hgv := hgv0 k hv
  have hgl := hle _ hgv
  have hal := hanl k
  try refine go ⟨?_⟩
  refine WP.condD rfl (fun hc => ?_) (fun hc => ?_)
  · have hk' : k < ops.length := by omega
    obtain ⟨hS1, hS2⟩ := OV_take_step hk' hv hl64'
    have hok' := hok (gAt n (ops.take k)) (ops.getD k oD)
    have hak := hans k
    try refine go ⟨?_⟩
    refine WPL.eff OpE.alloc rfl rfl ?_; rintro _ _ ⟨b10, rfl, rfl⟩
    try refine go ⟨?_⟩
    refine WP.condD rfl (fun h1 => ?_) (fun h1 => ?_)
    · have hK : (ops.getD k oD).K = 1 := h1
      try refine go ⟨?_⟩
      refine WPL.pure (Op1.loadAgg (us := [.int .i64 (ops.getD k oD).A, .int .i64 (ops.getD k oD).B]) rfl mM rfl rfl) rfl rfl ?_
      try refine go ⟨?_⟩
      refine WPL.eff (OpE.call lO (fun w hw => c_PutEdge _ n vg (gAt n (ops.take k)) (oE (ops.getD k oD)) (Rd.at rD hw) (by omega))) rfl rfl ?_
      rintro r _ ⟨T, hr, rfl⟩
      rcases hr with ⟨hp, v, rfl, rfl⟩ | ⟨hp, rfl, rfl⟩
      · have hso := hok'.2 (.inl ⟨hK, hp⟩)
        have e1 : gAt n (ops.take (k + 1)) = insE (gAt n (ops.take k)) (oE (ops.getD k oD)) := by
          rw [(hS1 hso).2]; unfold opDo; rw [if_pos hK]
        rw [if_neg (by omega)] at hak
        rw [← hak, ← e1]
        try refine go ⟨?_⟩
        refine PE.again (k + 1, v, va) ?_ ?_ sE sT2
        · exact ⟨by (try dsimp only); omega, (hS1 hso).1⟩
        · (try dsimp only); omega
      · have hno : ¬ OV n ops := hS2 fun h => by
          rcases hok'.1 h with ⟨q, r⟩ | ⟨q, r⟩ | ⟨q, r⟩
          · exact hp r
          · omega
          · omega
        obtain ⟨e1, e2, e3⟩ := bad hno
        rw [decide_eq_false hno, e1, e2, e3]
        try refine go ⟨?_⟩
        refine PE.nilTok Bool ?_
        refine PE.nilTok E ?_
        refine PE.ret3 (T := []) (T' := [Tok.own (.slice none 0 0) ([] : List E), Tok.own (.slice none 0 0) ([] : List Bool)]) rfl rV ?_ sT2
        exact ⟨_, _, rfl, rfl⟩
    have h1' : (ops.getD k oD).K ≠ 1 := h1
    try refine go ⟨?_⟩
    refine WP.condD rfl (fun h2 => ?_) (fun h2 => ?_)
    · have hK : (ops.getD k oD).K = 2 := h2
      try refine go ⟨?_⟩
      refine WPL.pure (Op1.loadAgg (us := [.int .i64 (ops.getD k oD).A, .int .i64 (ops.getD k oD).B]) rfl mM rfl rfl) rfl rfl ?_
      try refine go ⟨?_⟩
      refine WPL.eff (OpE.call lO (fun w hw => c_CutEdge _ n vg (gAt n (ops.take k)) (oE (ops.getD k oD)) (Rd.at rD hw) (by omega))) rfl rfl ?_
      rintro r _ ⟨T, hr, rfl⟩
      rcases hr with ⟨hp, v, rfl, rfl⟩ | ⟨hp, rfl, rfl⟩
      · have hso := hok'.2 (.inr (.inl ⟨hK, hp⟩))
        have e1 : gAt n (ops.take (k + 1)) = rem (gAt n (ops.take k)) (oE (ops.getD k oD)) := by
          rw [(hS1 hso).2]; unfold opDo; rw [if_neg (by omega), if_pos hK]
        rw [if_neg (by omega)] at hak
        rw [← hak, ← e1]
        try refine go ⟨?_⟩
        refine PE.again (k + 1, v, va) ?_ ?_ sE sT2
        · exact ⟨by (try dsimp only); omega, (hS1 hso).1⟩
        · (try dsimp only); omega
      · have hno : ¬ OV n ops := hS2 fun h => by
          rcases hok'.1 h with ⟨q, r⟩ | ⟨q, r⟩ | ⟨q, r⟩
          · omega
          · exact hp r
          · omega
        obtain ⟨e1, e2, e3⟩ := bad hno
        rw [decide_eq_false hno, e1, e2, e3]
        try refine go ⟨?_⟩
        refine PE.nilTok Bool ?_
        refine PE.nilTok E ?_
        refine PE.ret3 (T := []) (T' := [Tok.own (.slice none 0 0) ([] : List E), Tok.own (.slice none 0 0) ([] : List Bool)]) rfl rV ?_ sT2
        exact ⟨_, _, rfl, rfl⟩
    have h2' : (ops.getD k oD).K ≠ 2 := h2
    try refine go ⟨?_⟩
    refine WP.condD rfl (fun h3 => ?_) (fun h3 => ?_)
    · have hK : (ops.getD k oD).K = 3 := h3
      rw [if_pos hK] at hak
      try refine go ⟨?_⟩
      refine WPL.splitD rfl rfl (fun a1 => ?_) (fun a1 => ?_)
      · have a1 : (ops.getD k oD).A < (ops.getD k oD).B := a1
        try refine go ⟨?_⟩
        refine WPL.eff (OpE.call lO (fun w hw => c_hasNodeG _ n vg (gAt n (ops.take k)) (ops.getD k oD).A (Rd.at rD hw) (by omega))) rfl rfl ?_
        rintro r _ ⟨T, ⟨rfl, rfl⟩, rfl⟩
        by_cases a2 : GN n (gAt n (ops.take k)) (ops.getD k oD).A
        case neg =>
          rw [decide_eq_false a2]
          have hno : ¬ OV n ops := hS2 fun h => by
            rcases hok'.1 h with ⟨q, r⟩ | ⟨q, r⟩ | ⟨q, r⟩
            · omega
            · omega
            · first | exact ‹¬ GN n (gAt n (ops.take k)) (ops.getD k oD).A› r.2.1 | exact ‹¬ GN n (gAt n (ops.take k)) (ops.getD k oD).B› r.2.2
          try refine go ⟨?_⟩
          refine WPL.eff (OpE.buildSlice [false] pA rfl (by decide)) rfl rfl ?_; rintro s1 _ rfl
          try refine go ⟨?_⟩
          refine WPL.eff (OpE.append rfl rfl pM rD lN) rfl rfl ?_; rintro v1 _ rfl
          obtain ⟨e1, e2, e3⟩ := bad hno
          rw [decide_eq_false hno, e1, e2, e3]
          try refine go ⟨?_⟩
          refine PE.nilTok Bool ?_
          refine PE.nilTok E ?_
          refine PE.ret3 (T := []) (T' := [Tok.own (.slice none 0 0) ([] : List E), Tok.own (.slice none 0 0) ([] : List Bool)]) rfl rV ?_ sT2
          exact ⟨_, _, rfl, rfl⟩

        rw [decide_eq_true a2]
        try refine go ⟨?_⟩
        refine WPL.eff (OpE.call lO (fun w hw => c_hasNodeG _ n vg (gAt n (ops.take k)) (ops.getD k oD).B (Rd.at rD hw) (by omega))) rfl rfl ?_
        rintro r _ ⟨T, ⟨rfl, rfl⟩, rfl⟩
        by_cases a3 : GN n (gAt n (ops.take k)) (ops.getD k oD).B
        case neg =>
          rw [decide_eq_false a3]
          have hno : ¬ OV n ops := hS2 fun h => by
            rcases hok'.1 h with ⟨q, r⟩ | ⟨q, r⟩ | ⟨q, r⟩
            · omega
            · omega
            · first | exact ‹¬ GN n (gAt n (ops.take k)) (ops.getD k oD).A› r.2.1 | exact ‹¬ GN n (gAt n (ops.take k)) (ops.getD k oD).B› r.2.2
          try refine go ⟨?_⟩
          refine WPL.eff (OpE.buildSlice [false] pA rfl (by decide)) rfl rfl ?_; rintro s1 _ rfl
          try refine go ⟨?_⟩
          refine WPL.eff (OpE.append rfl rfl pM rD lN) rfl rfl ?_; rintro v1 _ rfl
          obtain ⟨e1, e2, e3⟩ := bad hno
          rw [decide_eq_false hno, e1, e2, e3]
          try refine go ⟨?_⟩
          refine PE.nilTok Bool ?_
          refine PE.nilTok E ?_
          refine PE.ret3 (T := []) (T' := [Tok.own (.slice none 0 0) ([] : List E), Tok.own (.slice none 0 0) ([] : List Bool)]) rfl rV ?_ sT2
          exact ⟨_, _, rfl, rfl⟩

        rw [decide_eq_true a3]
        have hso := hok'.2 (.inr (.inr ⟨hK, a1, a2, a3⟩))
        have e1 : gAt n (ops.take (k + 1)) = gAt n (ops.take k) := by
          rw [(hS1 hso).2]; unfold opDo; rw [if_neg (by omega), if_neg (by omega)]
        try refine go ⟨?_⟩
        refine WPL.eff (OpE.call lO (fun w hw => c_connected _ n vg (gAt n (ops.take k)) (ops.getD k oD).A (ops.getD k oD).B (Rd.at rD hw) (hne _ hgv) (hGN _ _ a2).2 (hGN _ _ a3).2)) rfl rfl ?_
        rintro r _ ⟨T, ⟨rfl, rfl⟩, rfl⟩
        try refine go ⟨?_⟩
        refine WPL.eff (OpE.buildSlice [decide (cn n (gAt n (ops.take k)) (ops.getD k oD).A (ops.getD k oD).B)] pA rfl (by decide)) rfl rfl ?_; rintro s1 _ rfl
        try refine go ⟨?_⟩
        refine WPL.eff (OpE.append rfl rfl pM rD lN) rfl rfl ?_; rintro v1 _ rfl
        rw [← hak, ← e1]
        try refine go ⟨?_⟩
        refine PE.again (k + 1, vg, v1) ?_ ?_ sE sT2
        · exact ⟨by (try dsimp only); omega, (hS1 hso).1⟩
        · (try dsimp only); omega
      · have hno : ¬ OV n ops := hS2 fun h => by
          rcases hok'.1 h with ⟨q, r⟩ | ⟨q, r⟩ | ⟨q, r⟩
          · omega
          · omega
          · exact absurd r.1 a1
        try refine go ⟨?_⟩
        refine WPL.eff (OpE.buildSlice [false] pA rfl (by decide)) rfl rfl ?_; rintro s1 _ rfl
        try refine go ⟨?_⟩
        refine WPL.eff (OpE.append rfl rfl pM rD lN) rfl rfl ?_; rintro v1 _ rfl
        obtain ⟨e1, e2, e3⟩ := bad hno
        rw [decide_eq_false hno, e1, e2, e3]
        try refine go ⟨?_⟩
        refine PE.nilTok Bool ?_
        refine PE.nilTok E ?_
        refine PE.ret3 (T := []) (T' := [Tok.own (.slice none 0 0) ([] : List E), Tok.own (.slice none 0 0) ([] : List Bool)]) rfl rV ?_ sT2
        exact ⟨_, _, rfl, rfl⟩
    · have hno : ¬ OV n ops := hS2 fun h => by
          have h3' : (ops.getD k oD).K ≠ 3 := h3
          rcases hok'.1 h with ⟨q, r⟩ | ⟨q, r⟩ | ⟨q, r⟩ <;> omega
      obtain ⟨e1, e2, e3⟩ := bad hno
      rw [decide_eq_false hno, e1, e2, e3]
      try refine go ⟨?_⟩
      refine PE.nilTok Bool ?_
      refine PE.nilTok E ?_
      refine PE.ret3 (T := []) (T' := [Tok.own (.slice none 0 0) ([] : List E), Tok.own (.slice none 0 0) ([] : List Bool)]) rfl rV ?_ sT2
      exact ⟨_, _, rfl, rfl⟩
  · have hkn : k = ops.length := by omega
    subst hkn
    rw [List.take_length] at hv
    obtain ⟨e1, e2, e3⟩ := good hv
    rw [decide_eq_true hv, e1, e2, e3, List.take_length]
    try refine go ⟨?_⟩
    refine PE.ret3 (T := []) (T' := [Tok.own vg (gAt n ops), Tok.own va (ans n ops ops.length)]) rfl rV ?_ sT2
    exact ⟨_, _, rfl, rfl⟩
end Go.Proofs.Ytfigegmgopnfhaa
/- Operations: the walk of the program's OpsValid, AnswersOf, GraphAt. Conditions: those of each contract. -/
namespace Go.Proofs.Ytfigegmgopnfhaa
open Go
/-- The graph behind the first operations. -/
def atOk (n : Int) (ops : List Oper1) (k : Int) : Prop := OV n ops ∧ 0 ≤ k ∧ k ≤ ops.length
instance (n : Int) (ops : List Oper1) (k : Int) : Decidable (atOk n ops k) := by unfold atOk; infer_instance
def atN (n : Int) (ops : List Oper1) (k : Int) : Int := if atOk n ops k then n else 0
def atG (n : Int) (ops : List Oper1) (k : Int) : List E := if atOk n ops k then gAt n (ops.take k.toNat) else []
theorem atG_le (n : Int) (ops : List Oper1) (k : Int) : (atG n ops k).length ≤ 40 := by
  unfold atG
  split
  · rename_i h; exact (h.1.at k.toNat).2.2.1
  · exact Nat.zero_le _
theorem runG_le (n : Int) (ops : List Oper1) : (runG n ops).length ≤ 40 := by
  unfold runG
  split
  · rename_i h; exact h.gv.2.2.1
  · exact Nat.zero_le _
theorem runA_le (n : Int) (ops : List Oper1) : (runA n ops).length ≤ 64 := by
  unfold runA
  split
  · rename_i h; have := ans_len n ops ops.length; have := h.le; omega
  · exact Nat.zero_le _
set_option linter.unusedVariables false set_option linter.unusedSimpArgs false attribute [local irreducible] Tok.own Tok.blk RL Rd eptr WP WPL PE WPD WPO Op1 OpE Tri Again Mid Exit.then Exit.inBlock bodyPost RP Code.wp wpList isOwn OneM One
attribute [local irreducible] GV GN OV opOk gAt ans cn
set_option maxHeartbeats 8000000

theorem c_OpsValid (w : World) (n : Int) (vL : Value) (ops : List Oper1) (h : RL w vL ops) (hl : ops.length ≤ 1099511627776) :
    Tri Try.prog 28 [.int .i64 n, vL] w [] fun r T => T = [] ∧ r = .bool (decide (OV n ops)) := by
  refine Tri.intro (hf := Try.func28) (hb := rfl) (hn := Try.ntmps28) (Nat.le_of_ble_eq_true rfl) ?_
  try refine go ⟨?_⟩
  refine WPL.eff (OpE.call lO (fun w hw => c_run _ n vL ops (Rd.at rD hw) hl)) rfl rfl ?_
  rintro _ _ ⟨T, ⟨vg, va, rfl, rfl⟩, rfl⟩
  try refine go ⟨?_⟩
  refine WPL.eff OpE.alloc rfl rfl ?_; rintro _ _ ⟨b5, rfl, rfl⟩
  try refine go ⟨?_⟩
  refine PE.ret1 (T := []) (T' := []) rfl rV ?_ sT
  exact ⟨rfl, rfl⟩

theorem c_AnswersOf (w : World) (n : Int) (vL : Value) (ops : List Oper1) (h : RL w vL ops) (hl : ops.length ≤ 1099511627776) :
    Tri Try.prog 31 [.int .i64 n, vL] w [] fun r T => ∃ va, r = .tuple #[va, .bool (decide (OV n ops))] ∧ T = [Tok.own va (runA n ops)] := by
  refine Tri.intro (hf := Try.func31) (hb := rfl) (hn := Try.ntmps31) (Nat.le_of_ble_eq_true rfl) ?_
  try refine go ⟨?_⟩
  refine WPL.eff (OpE.call lO (fun w hw => c_run _ n vL ops (Rd.at rD hw) hl)) rfl rfl ?_
  rintro _ _ ⟨T, ⟨vg, va, rfl, rfl⟩, rfl⟩
  try refine go ⟨?_⟩
  refine WPL.eff OpE.alloc rfl rfl ?_; rintro _ _ ⟨b5, rfl, rfl⟩
  try refine go ⟨?_⟩
  refine PE.ret2 (T := []) (T' := [Tok.own va (runA n ops)]) rfl rV ?_ sT2
  exact ⟨va, rfl, rfl⟩

theorem c_GraphAt (w : World) (n : Int) (vL : Value) (ops : List Oper1) (k : Int) (h : RL w vL ops) (hl : ops.length ≤ 1099511627776) :
    Tri Try.prog 32 [.int .i64 n, vL, .int .i64 k] w [] fun r T => ∃ vg, r = .tuple #[.agg #[.int .i64 (atN n ops k), vg], .bool (decide (atOk n ops k))] ∧ T = [Tok.own vg (atG n ops k)] := by
  have hat : atOk n ops k ↔ OV n ops ∧ 0 ≤ k ∧ k ≤ ops.length := by unfold atOk; exact Iff.rfl
  have bad : ¬ atOk n ops k → atN n ops k = 0 ∧ atG n ops k = [] := fun h => ⟨if_neg h, if_neg h⟩
  have good : atOk n ops k → atN n ops k = n ∧ atG n ops k = gAt n (ops.take k.toNat) := fun h => ⟨if_pos h, if_pos h⟩
  have htk : OV n ops → OV n (ops.take k.toNat) := fun h => h.take _
  have hrn : OV n (ops.take k.toNat) → runN n (ops.take k.toNat) = n ∧ runG n (ops.take k.toNat) = gAt n (ops.take k.toNat) := fun h => ⟨if_pos h, if_pos h⟩
  have hq : ∀ m : Nat, m ≤ ops.length → RL w (slcV vL m) (ops.take m) := fun m hm => h.take hm
  refine Tri.intro (hf := Try.func32) (hb := rfl) (hn := Try.ntmps32) (Nat.le_of_ble_eq_true rfl) ?_
  try refine go ⟨?_⟩
  refine WPL.eff OpE.alloc rfl rfl ?_; rintro _ _ ⟨b6, rfl, rfl⟩
  try refine go ⟨?_⟩
  refine WPL.eff (OpE.call lO (fun w hw => c_OpsValid _ n vL ops (Rd.at rD hw) hl)) rfl rfl ?_
  rintro _ _ ⟨T, ⟨rfl, rfl⟩, rfl⟩
  by_cases hv : OV n ops
  case neg =>
    have hno : ¬ atOk n ops k := fun h => hv (hat.1 h).1
    obtain ⟨e1, e2⟩ := bad hno
    rw [decide_eq_false hv, decide_eq_false hno, e1, e2]
    try refine go ⟨?_⟩
    refine PE.nilTok E ?_
    refine PE.ret2 (T := []) (T' := [Tok.own (.slice none 0 0) ([] : List E)]) rfl rV ?_ sT2
    exact ⟨_, rfl, rfl⟩
  rw [decide_eq_true hv]
  try refine go ⟨?_⟩
  by_cases c1 : k < 0
  · have hno : ¬ atOk n ops k := fun h => by have := (hat.1 h).2.1; omega
    obtain ⟨e1, e2⟩ := bad hno
    rw [decide_eq_true c1, decide_eq_false hno, e1, e2]
    try refine go ⟨?_⟩
    refine PE.nilTok E ?_
    refine PE.ret2 (T := []) (T' := [Tok.own (.slice none 0 0) ([] : List E)]) rfl rV ?_ sT2
    exact ⟨_, rfl, rfl⟩
  rw [decide_eq_false c1]
  try refine go ⟨?_⟩
  by_cases c2 : k > ops.length
  · have hno : ¬ atOk n ops k := fun h => by have := (hat.1 h).2.2; omega
    obtain ⟨e1, e2⟩ := bad hno
    rw [decide_eq_true c2, decide_eq_false hno, e1, e2]
    try refine go ⟨?_⟩
    refine PE.nilTok E ?_
    refine PE.ret2 (T := []) (T' := [Tok.own (.slice none 0 0) ([] : List E)]) rfl rV ?_ sT2
    exact ⟨_, rfl, rfl⟩
  rw [decide_eq_false c2]
  have hyes : atOk n ops k := hat.2 ⟨hv, by omega, by omega⟩
  obtain ⟨e1, e2⟩ := good hyes
  obtain ⟨e3, e4⟩ := hrn (htk hv)
  obtain ⟨m, rfl⟩ : ∃ m : Nat, k = m := ⟨k.toNat, by omega⟩
  rw [Int.toNat_natCast] at e2 e3 e4 htk
  rw [decide_eq_true hyes, e1, e2]
  have hml : (ops.take m).length ≤ 1099511627776 := by rw [List.length_take]; omega
  have hq' := hq (m : Int).toNat (by omega)
  rw [← Int.toNat_natCast m] at hml
  try refine go ⟨?_⟩
  refine WPL.eff (OpE.call lO (fun w hw => c_run _ n (slcV vL (m : Int).toNat) (ops.take (m : Int).toNat) (Rd.at rD hw) hml)) rfl rfl ?_
  rintro _ _ ⟨T, ⟨vg, va, rfl, rfl⟩, rfl⟩
  rw [show ((m : Int)).toNat = m from Int.toNat_natCast m, e3, e4, decide_eq_true (htk hv)]
  try refine go ⟨?_⟩
  refine WPL.eff OpE.alloc rfl rfl ?_; rintro _ _ ⟨b8, rfl, rfl⟩
  try refine go ⟨?_⟩
  refine PE.ret2 (T := []) (T' := [Tok.own vg (gAt n (ops.take m))]) rfl rV ?_ sT2
  exact ⟨_, rfl, rfl⟩
end Go.Proofs.Ytfigegmgopnfhaa
/- Operations: the walk of the program's LivesOf. Conditions: those of the contract. -/
namespace Go.Proofs.Ytfigegmgopnfhaa
open Go
def livR (n : Int) (ops : List Oper1) : List Lif := if OV n ops then livs ops else []
theorem livR_le (n : Int) (ops : List Oper1) : (livR n ops).length ≤ 64 := by
  unfold livR
  split
  · rename_i h; have := livs_length ops; have := h.le; omega
  · exact Nat.zero_le _
/-- The lives of the puts in front of operation number k. -/
def livK (ops : List Oper1) (k : Nat) : List Lif := (puts ops k).map (lifeAt ops)
theorem livK_put {ops : List Oper1} {k : Nat} (h : (ops.getD k oD).K = 1) : livK ops (k + 1) = livK ops k ++ [lifeAt ops k] := by
  unfold livK; rw [puts_succ, if_pos h, List.map_append]; rfl
theorem livK_no {ops : List Oper1} {k : Nat} (h : (ops.getD k oD).K ≠ 1) : livK ops (k + 1) = livK ops k := by
  unfold livK; rw [puts_succ, if_neg h]
theorem livK_all (ops : List Oper1) : livK ops ops.length = livs ops := rfl
theorem livK_le (ops : List Oper1) (k : Nat) : (livK ops k).length ≤ k := by unfold livK; rw [List.length_map]; exact puts_le ops k
theorem cutsB_iff {ops : List Oper1} {e : E} {k : Nat} : cutsB ops e k = true ↔ (ops.getD k oD).K = 2 ∧ oE (ops.getD k oD) = e := by unfold cutsB; rw [decide_eq_true_iff]
theorem hlf0 {ops : List Oper1} (k m : Nat) (h : toOf ops k = m) : lifeAt ops k = ⟨(ops.getD k oD).A, (ops.getD k oD).B, k, m⟩ := by rw [← h]; rfl
set_option linter.unusedVariables false set_option linter.unusedSimpArgs false attribute [local irreducible] Tok.own Tok.blk RL Rd eptr WP WPL PE WPD WPO Op1 OpE Tri Again Mid Exit.then Exit.inBlock bodyPost RP Code.wp wpList isOwn OneM One
attribute [local irreducible] GV GN OV livs livK cutsB toOf lifeAt
set_option maxHeartbeats 8000000

theorem c_LivesOf (w : World) (n : Int) (vL : Value) (ops : List Oper1) (h : RL w vL ops) (hl : ops.length ≤ 1099511627776) :
    Tri Try.prog 24 [.int .i64 n, vL] w [] fun r T => ∃ v, r = .tuple #[v, .bool (decide (OV n ops))] ∧ T = [Tok.own v (livR n ops)] := by
  have bad : ¬ OV n ops → livR n ops = [] := fun h => if_neg h
  have good : OV n ops → livR n ops = livs ops := fun h => if_pos h
  have hle : OV n ops → ops.length ≤ 64 := fun h => h.le
  have hlk := livK_le ops
  have hlall : livK ops ops.length = livs ops := livK_all ops
  have hl0 : livK ops 0 = [] := by have := hlk 0; exact List.eq_nil_of_length_eq_zero (by omega)
  have hcB : ∀ j i : Nat, cutsB ops (oE (ops.getD i oD)) j = false ↔ ¬ ((ops.getD j oD).K = 2 ∧ oE (ops.getD j oD) = oE (ops.getD i oD)) := fun j i => by rw [← cutsB_iff, Bool.not_eq_true]
  refine Tri.intro (hf := Try.func24) (hb := rfl) (hn := Try.ntmps24) (Nat.le_of_ble_eq_true rfl) ?_
  try refine go ⟨?_⟩
  refine WPL.eff (OpE.call lO (fun w hw => c_OpsValid _ n vL ops (Rd.at rD hw) hl)) rfl rfl ?_
  rintro _ _ ⟨T, ⟨rfl, rfl⟩, rfl⟩
  by_cases hv : OV n ops
  case neg =>
    rw [decide_eq_false hv, bad hv]
    try refine go ⟨?_⟩
    refine PE.nilTok Lif ?_
    refine PE.ret2 (T := []) (T' := [Tok.own (.slice none 0 0) ([] : List Lif)]) rfl rV ?_ sT2
    exact ⟨_, rfl, rfl⟩
  have hn64 := hle hv
  rw [decide_eq_true hv, good hv]
  try refine go ⟨?_⟩
  refine WPL.eff (OpE.buildSlice ([] : List Lif) pA rfl (by decide)) rfl rfl ?_; rintro s0 _ rfl
  try refine go ⟨?_⟩
  refine WP.loop (σ := Nat × Value) (fun q => [(1, vL), (6, q.2), (15, vL), (16, .int .i64 ops.length), (17, .int .i64 q.1)]) (fun q => [Tok.own q.2 (livK ops q.1)]) (fun q => q.1 ≤ ops.length) (fun q => ops.length - q.1) (0, s0) (Nat.zero_le _) sE (by rw [hl0]; exact sT2) ?_
  rintro ⟨k, v⟩ hk
  dsimp only at hk ⊢
  have hkl := hlk k
  try refine go ⟨?_⟩
  refine WP.condD rfl (fun hc => ?_) (fun hc => ?_)
  · have hk' : k < ops.length := by omega
    try refine go ⟨?_⟩
    refine WPL.eff OpE.alloc rfl rfl ?_; rintro _ _ ⟨b8, rfl, rfl⟩
    try refine go ⟨?_⟩
    refine WP.condD rfl (fun h1 => ?_) (fun h1 => ?_)
    · have h1 : (ops.getD k oD).K ≠ 1 := h1
      rw [← livK_no h1]
      try refine go ⟨?_⟩
      refine PE.again (k + 1, v) ?_ ?_ sE sT2
      · (try dsimp only); omega
      · (try dsimp only); omega
    have hK : (ops.getD k oD).K = 1 := Decidable.not_not.1 h1
    try refine go ⟨?_⟩
    refine WP.loop (σ := Nat) (fun m => [(1, vL), (6, v), (7, .int .i64 k), (8, ptrV b8), (9, .int .i64 m), (15, vL), (16, .int .i64 ops.length), (17, .int .i64 k)]) (fun m => [Tok.blk b8 [.int .i64 (ops.getD k oD).K, .int .i64 (ops.getD k oD).A, .int .i64 (ops.getD k oD).B], Tok.own v (livK ops k)]) (fun m => k + 1 ≤ m ∧ m ≤ ops.length ∧ ∀ j, k < j → j < m → cutsB ops (oE (ops.getD k oD)) j = false) (fun m => ops.length - m) (k + 1) ⟨Nat.le_refl _, hk', fun j h1 h2 => absurd h1 (by omega)⟩ sE sT2 ?_
    rintro m ⟨hm1, hm2, hm3⟩
    try refine go ⟨?_⟩
    refine WP.cutK (σ := Unit) (fun _ => [(1, vL), (6, v), (7, .int .i64 k), (8, ptrV b8), (9, .int .i64 m), (15, vL), (16, .int .i64 ops.length), (17, .int .i64 k), (48, .bool (decide (m < ops.length ∧ cutsB ops (oE (ops.getD k oD)) m = false)))]) (fun _ => [Tok.blk b8 [.int .i64 (ops.getD k oD).K, .int .i64 (ops.getD k oD).A, .int .i64 (ops.getD k oD).B], Tok.own v (livK ops k)]) (fun _ => True) ?_ ?_
    · refine WP.draw [Tok.blk b8 [.int .i64 (ops.getD k oD).K, .int .i64 (ops.getD k oD).A, .int .i64 (ops.getD k oD).B], Tok.own v (livK ops k)] mixed ?_
      refine WPD.take 0 rfl (Op1.move rfl) rfl rfl sT kR kR kR xQP ?_
      refine WPD.take 1 rfl (Op1.move rfl) rfl rfl sT kR kR kR xQP ?_
      refine WPD.take 2 rfl (Op1.len rfl rD) rfl rfl sT kR kR kR xQP ?_
      refine WPD.take 3 rfl (Op1.ltI rfl rfl) rfl rfl sT kR kR kR xQP ?_
      refine WPD.take 4 rfl (Op1.move rfl) rfl rfl sT kR kR kR xQP ?_
      first | refine WPD.splitD 31 rfl (fun h31 => ?t5) (fun h31 => ?f5) | refine WPD.split 31 rfl (fun h31 => ?t5) (fun h31 => ?f5)
      case' t5 =>
        refine WPD.take 5 rfl (Op1.move rfl) rfl rfl sT kR kR kR xQP ?_
        refine WPD.take 6 rfl (Op1.move rfl) rfl rfl sT kR kR kR xQP ?_
        refine WPD.take 7 rfl (by first | exact (Op1.indexAddr rfl rfl rD lT) | exact (Op1.indexAddrZ rfl rfl rD lT)) rfl rfl sT kR kR kR xQP ?_
        refine WPD.take 8 rfl (by first | exact (Op1.fieldAddr rfl) | exact (Op1.fieldAddrE rfl rD lT)) rfl rfl sT kR kR kR xQP ?_
        refine WPD.take 9 rfl (by first | exact (Op1.load rfl mM (by rfl)) | exact (Op1.loadI rfl rD lT) | exact (Op1.loadAll rfl mM (by rfl)) | exact (Op1.loadE rfl rD lT (by rfl)) | exact (Op1.loadEAgg rfl rD lT (by rfl))) rfl rfl sT kR kR kR xQP ?_
        refine WPD.take 10 rfl (by first | exact (Op1.neI rfl rfl) | exact (Op1.neB rfl rfl) | exact (Op1.neE rfl rfl)) rfl rfl sT kR kR kR xQP ?_
        refine WPD.take 11 rfl (Op1.move rfl) rfl rfl sT kR kR kR xQP ?_
        first | refine WPD.splitD 38 rfl (fun h38 => ?t6) (fun h38 => ?f6) | refine WPD.split 38 rfl (fun h38 => ?t6) (fun h38 => ?f6)
        case' t6 =>
          refine WPD.skip 12 rfl rfl rfl sT kR kR kR xQP ?_
          refine WPD.skip 13 rfl rfl rfl sT kR kR kR xQP ?_
          refine WPD.skip 17 rfl rfl rfl sT kR kR kR xQP ?_
          refine WPD.skip 14 rfl rfl rfl sT kR kR kR xQP ?_
          refine WPD.skip 18 rfl rfl rfl sT kR kR kR xQP ?_
          refine WPD.skip 15 rfl rfl rfl sT kR kR kR xQP ?_
          refine WPD.skip 16 rfl rfl rfl sT kR kR kR xQP ?_
          refine WPD.skip 19 rfl rfl rfl sT kR kR kR xQP ?_
          refine WPD.take 20 rfl (by first | exact (Op1.pickT rfl rfl) | exact (Op1.pickF rfl rfl)) rfl rfl sT kR kR kR xQP ?_
          refine WPD.take 21 rfl (by first | exact (Op1.pickT rfl rfl) | exact (Op1.pickF rfl rfl)) rfl rfl sT kR kR kR xQP ?_
          refine WPD.done kR ?_
        case' f6 =>
          refine WPD.take 12 rfl (Op1.move rfl) rfl rfl sT kR kR kR xQP ?_
          refine WPD.take 13 rfl (Op1.move rfl) rfl rfl sT kR kR kR xQP ?_
          refine WPD.take 17 rfl (by first | exact (Op1.fieldAddr rfl) | exact (Op1.fieldAddrE rfl rD lT)) rfl rfl sT kR kR kR xQP ?_
          refine WPD.take 14 rfl (by first | exact (Op1.indexAddr rfl rfl rD lT) | exact (Op1.indexAddrZ rfl rfl rD lT)) rfl rfl sT kR kR kR xQP ?_
          refine WPD.take 18 rfl (Op1.loadAgg (us := [.int .i64 (ops.getD k oD).A, .int .i64 (ops.getD k oD).B]) rfl mM rfl rfl) rfl rfl sT kR kR kR xQP ?_
          refine WPD.take 15 rfl (by first | exact (Op1.fieldAddr rfl) | exact (Op1.fieldAddrE rfl rD lT)) rfl rfl sT kR kR kR xQP ?_
          refine WPD.take 16 rfl (Op1.loadOE rfl rD lT) rfl rfl sT kR kR kR xQP ?_
          refine WPD.take 19 rfl (by first | exact (Op1.neI rfl rfl) | exact (Op1.neB rfl rfl) | exact (Op1.neE rfl rfl)) rfl rfl sT kR kR kR xQP ?_
          refine WPD.take 20 rfl (by first | exact (Op1.pickT rfl rfl) | exact (Op1.pickF rfl rfl)) rfl rfl sT kR kR kR xQP ?_
          refine WPD.take 21 rfl (by first | exact (Op1.pickT rfl rfl) | exact (Op1.pickF rfl rfl)) rfl rfl sT kR kR kR xQP ?_
          refine WPD.done kR ?_
      case' f5 =>
        refine WPD.skip 5 rfl rfl rfl sT kR kR kR xQP ?_
        refine WPD.skip 6 rfl rfl rfl sT kR kR kR xQP ?_
        refine WPD.skip 7 rfl rfl rfl sT kR kR kR xQP ?_
        refine WPD.skip 8 rfl rfl rfl sT kR kR kR xQP ?_
        refine WPD.skip 9 rfl rfl rfl sT kR kR kR xQP ?_
        refine WPD.skip 10 rfl rfl rfl sT kR kR kR xQP ?_
        refine WPD.skip 11 rfl rfl rfl sT kR kR kR xQP ?_
        refine WPD.skip 12 rfl rfl rfl sT kR kR kR xQP ?_
        refine WPD.skip 13 rfl rfl rfl sT kR kR kR xQP ?_
        refine WPD.skip 17 rfl rfl rfl sT kR kR kR xQP ?_
        refine WPD.skip 14 rfl rfl rfl sT kR kR kR xQP ?_
        refine WPD.skip 18 rfl rfl rfl sT kR kR kR xQP ?_
        refine WPD.skip 15 rfl rfl rfl sT kR kR kR xQP ?_
        refine WPD.skip 16 rfl rfl rfl sT kR kR kR xQP ?_
        refine WPD.skip 19 rfl rfl rfl sT kR kR kR xQP ?_
        refine WPD.skip 20 rfl rfl rfl sT kR kR kR xQP ?_
        refine WPD.take 21 rfl (by first | exact (Op1.pickT rfl rfl) | exact (Op1.pickF rfl rfl)) rfl rfl sT kR kR kR xQP ?_
        refine WPD.done kR ?_
      · rw [decide_eq_false (show ¬ (m < ops.length ∧ cutsB ops (oE (ops.getD k oD)) m = false) from fun h => by have := h.1; omega)]
        refine PE.mid () trivial sE sT2
      · have e : decide (m < ops.length ∧ cutsB ops (oE (ops.getD k oD)) m = false) = decide (oE (ops.getD m oD) ≠ oE (ops.getD k oD)) := by
          rw [decide_eq_decide, hcB]
          have h2 : (ops.getD m oD).K = 2 := Decidable.not_not.1 h38
          exact ⟨fun h q => h.2 ⟨h2, q⟩, fun h => ⟨by omega, fun q => h q.2⟩⟩
        rw [e]
        refine PE.mid () trivial sE sT2
      · rw [decide_eq_true (show m < ops.length ∧ cutsB ops (oE (ops.getD k oD)) m = false from ⟨by omega, (hcB m k).2 fun h => h38 h.1⟩)]
        refine PE.mid () trivial sE sT2
    rintro _ _
    refine WP.condD rfl (fun he => ?_) (fun he => ?_)
    · try refine go ⟨?_⟩
      refine PE.again (m + 1) ?_ ?_ sE sT2
      · refine ⟨by omega, by omega, fun j h1 h2 => ?_⟩
        rcases Nat.lt_succ_iff_lt_or_eq.1 h2 with h3 | rfl
        · exact hm3 j h1 h3
        · exact he.2
      · (try dsimp only); omega
    · have hto : toOf ops k = m := toOf_unique hk' (by omega) hm2 hm3 fun h => by
        cases hb : cutsB ops (oE (ops.getD k oD)) m
        · exact absurd ⟨h, hb⟩ he
        · rfl
      have hlf : lifeAt ops k = ⟨(ops.getD k oD).A, (ops.getD k oD).B, k, m⟩ := hlf0 k m hto
      have hput := livK_put hK
      try refine go ⟨?_⟩
      refine WPL.pure (Op1.loadAgg (us := [.int .i64 (ops.getD k oD).A, .int .i64 (ops.getD k oD).B]) rfl mM rfl rfl) rfl rfl ?_
      try refine go ⟨?_⟩
      refine WPL.eff (OpE.buildSlice [(⟨(ops.getD k oD).A, (ops.getD k oD).B, k, m⟩ : Lif)] pA rfl (by decide)) rfl rfl ?_; rintro s1 _ rfl
      try refine go ⟨?_⟩
      refine WPL.eff (OpE.append rfl rfl pM rD lN) rfl rfl ?_; rintro v1 _ rfl
      rw [← hlf, ← hput]
      try refine go ⟨?_⟩
      refine PE.again (k + 1, v1) ?_ ?_ sE sT2
      · (try dsimp only); omega
      · (try dsimp only); omega
  · have hkn : k = ops.length := by omega
    subst hkn
    rw [hlall]
    try refine go ⟨?_⟩
    refine PE.ret2 (T := []) (T' := [Tok.own v (livs ops)]) rfl rV ?_ sT2
    exact ⟨_, rfl, rfl⟩
end Go.Proofs.Ytfigegmgopnfhaa
