/- Texts put together: DrwP, DrwQ. Conditions: those of each theorem. -/
import Derived.Test.YtfigegmgopnfhaaV3
import Derived.Test.YtfigegmgopnfhaaV8
set_option linter.unusedVariables false
set_option linter.unusedSimpArgs false
/- Operations: what the draws of the second program return. Conditions: those of each contract. -/
namespace Go.Proofs.Ytfigegmgopnfhaa
open Go
def dO (r : Value) (T : List Tok) : Prop := ∃ v n, ∃ ops : List Oper1, r = .tuple #[.int .i64 n, v] ∧ T = [Tok.own v ops] ∧ ops.length ≤ 20
theorem rem_le (es : List E) (e : E) : (rem es e).length ≤ es.length := List.length_filter_le _ _
set_option linter.unusedVariables false set_option linter.unusedSimpArgs false attribute [local irreducible] Tok.own Tok.blk RL Rd eptr WP WPL PE WPD WPO Op1 OpE Tri Again Mid Exit.then Exit.inBlock bodyPost RP Code.wp wpList isOwn OneM One
set_option maxHeartbeats 8000000

theorem g_Draw8 (w : World) (rb : Nat) (cv : Value) (bs : List UInt8) (h : RL w cv bs) (hd : ∀ b ∈ vfp cv, b ≠ rb) (hl : bs.length ≤ 2000) :
    Tri Try.prog 125 [ptrV rb] w [Tok.blk rb [cv, .int .i64 0]] fun r T => ∃ v n p, ∃ ops : List Oper1, r = .tuple #[.int .i64 n, v] ∧ T = [Tok.own v ops, Tok.blk rb [cv, .int .i64 p]] ∧ ops.length ≤ 20 ∧ 0 ≤ p ∧ p ≤ 200 := by
  have hA : RdA ⟨115, w, fps [Tok.blk rb [cv, .int .i64 0]]⟩ cv bs := RdA.mk h (fun b hb => by
    have := hd b hb
    rw [fps_blk]; simpa using this)
  refine Tri.intro (hf := Try.func125) (hb := rfl) (hn := Try.ntmps125) (Nat.le_of_ble_eq_true rfl) ?_
  try refine goA ⟨?_⟩
  refine WPL.eff (OpE.buildSlice [4, 5, 3, 6, 8, 2] pA rfl (by decide)) rfl rfl ?_; rintro s0 _ rfl
  try refine goA ⟨?_⟩
  refine WPL.eff (OpE.callT (T := [Tok.blk rb [cv, .int .i64 0]]) lO pM2 (fun w hw => d_num _ rb cv s0 bs [4, 5, 3, 6, 8, 2] 0 (Rd.at rDA hw) hd (Rd.at rDA hw) (hw.own_ne pM mM) hl (by omega) (by decide))) rfl rfl ?_
  rintro r _ ⟨T, ⟨rfl, n, rfl, hn⟩, rfl⟩
  have hn1 : 2 ≤ n ∧ n ≤ 8 := by
    simp only [List.mem_cons, List.mem_nil_iff, or_false] at hn
    omega
  try refine goA ⟨?_⟩
  refine WPL.eff OpE.alloc rfl rfl ?_; rintro _ _ ⟨b4, rfl, rfl⟩
  try refine goA ⟨?_⟩
  refine WPL.eff (OpE.buildSlice ([] : List Oper1) pA rfl (by decide)) rfl rfl ?_; rintro sl _ rfl
  try refine goA ⟨?_⟩
  refine WPL.eff (OpE.buildSlice [10, 7, 14, 4, 20, 0] pA rfl (by decide)) rfl rfl ?_; rintro s2 _ rfl
  try refine goA ⟨?_⟩
  refine WPL.eff (OpE.callT (T := [Tok.blk rb [cv, .int .i64 (0 + 1)]]) lO pM2 (fun w hw => d_num _ rb cv s2 bs [10, 7, 14, 4, 20, 0] (0 + 1) (Rd.at rDA hw) hd (Rd.at rDA hw) (hw.own_ne pM mM) hl (by omega) (by decide))) rfl rfl ?_
  rintro r _ ⟨T, ⟨rfl, m0, rfl, hm⟩, rfl⟩
  have hm1 : 0 ≤ m0 ∧ m0 ≤ 20 := by
    simp only [List.mem_cons, List.mem_nil_iff, or_false] at hm
    omega
  obtain ⟨j, rfl⟩ := Int.eq_ofNat_of_zero_le hm1.1
  try refine goA ⟨?_⟩
  refine WP.nilTok E ?_
  refine WP.loop (σ := Nat × Nat × Value × List E × Value × List Oper1) (fun s => [(0, ptrV rb), (4, ptrV b4), (5, s.2.2.2.2.1), (6, .int .i64 s.1)])
    (fun s => [Tok.own s.2.2.2.2.1 s.2.2.2.2.2, Tok.own s.2.2.1 s.2.2.2.1, Tok.blk b4 [.int .i64 n, s.2.2.1], Tok.blk rb [cv, .int .i64 s.2.1]])
    (fun s => s.1 ≤ 20 ∧ s.2.1 + 3 * s.1 ≤ 100 ∧ s.2.2.2.1.length + s.1 ≤ 30 ∧ s.2.2.2.2.2.length + s.1 ≤ 20) (fun s => s.1) (j, 2, .slice none 0 0, [], sl, []) ⟨by dsimp only; omega, by dsimp only; omega, by simp only [List.length_nil]; omega, by simp only [List.length_nil]; omega⟩ sE sT2 ?_
  rintro ⟨j, q, vg, es, vl, ops⟩ ⟨h1, h2, h3, h4⟩
  dsimp only at h1 h2 h3 h4 ⊢
  try refine goA ⟨?_⟩
  refine WP.condD rfl (fun hc => ?_) (fun hc => ?_)
  · have hj' : 0 < (j : Int) := hc
    have ej : (j : Int) - 1 = ((j - 1 : Nat) : Int) := by omega
    try refine goA ⟨?_⟩
    refine WPL.eff (OpE.callT (T := [Tok.blk rb [cv, .int .i64 q]]) lO pM2 (fun w hw => d_pick _ rb cv bs q n (Rd.at rDA hw) hd hl (by omega) (by omega))) rfl rfl ?_
    rintro r _ ⟨T, ⟨rfl, x, rfl, x0, x1⟩, rfl⟩
    try refine goA ⟨?_⟩
    refine WPL.eff (OpE.callT (T := [Tok.blk rb [cv, .int .i64 ((q : Int) + 1)]]) lO pM2 (fun w hw => d_pick _ rb cv bs ((q : Int) + 1) n (Rd.at rDA hw) hd hl (by omega) (by omega))) rfl rfl ?_
    rintro r _ ⟨T, ⟨rfl, y, rfl, y0, y1⟩, rfl⟩
    try refine goA ⟨?_⟩
    refine WP.condD rfl (fun hxy => ?_) (fun hxy => ?_)
    · try refine goA ⟨?_⟩
      rw [ej]
      refine PE.again (j - 1, q + 2, vg, es, vl, ops) ?_ ?_ sE sT2
      · exact ⟨by dsimp only; omega, by dsimp only; omega, by dsimp only; omega, by (try simp only [List.length_append, List.length_cons, List.length_nil]); omega⟩
      · dsimp only; omega
    try refine goA ⟨?_⟩
    refine WPL.eff (OpE.buildSlice [1, 3, 1, 3, 2] pA rfl (by decide)) rfl rfl ?_; rintro s3 _ rfl
    try refine goA ⟨?_⟩
    refine WPL.eff (OpE.callT (T := [Tok.blk rb [cv, .int .i64 ((q : Int) + 1 + 1)]]) lO pM2 (fun w hw => d_num _ rb cv s3 bs [1, 3, 1, 3, 2] ((q : Int) + 1 + 1) (Rd.at rDA hw) hd (Rd.at rDA hw) (hw.own_ne pM mM) hl (by omega) (by decide))) rfl rfl ?_
    rintro r _ ⟨T, ⟨rfl, k, rfl, hk⟩, rfl⟩
    try refine goA ⟨?_⟩
    refine WPL.eff (OpE.call lO (fun w hw => g_Edge _ x y)) rfl rfl ?_
    rintro _ _ ⟨T, ⟨rfl, e, rfl⟩, rfl⟩
    try refine goA ⟨?_⟩
    refine WPL.eff OpE.alloc rfl rfl ?_; rintro _ _ ⟨b9, rfl, rfl⟩
    try refine goA ⟨?_⟩
    refine WPL.pure (Op1.loadAgg (us := [.int .i64 e.A, .int .i64 e.B]) rfl mM rfl rfl) rfl rfl ?_
    try refine goA ⟨?_⟩
    refine WPL.eff (OpE.call lO (fun w hw => s_FindI _ vg e es (Rd.at rDA hw) (by omega))) rfl rfl ?_
    rintro _ _ ⟨T, ⟨rfl, m, rfl⟩, rfl⟩
    try refine goA ⟨?_⟩
    by_cases hm : m ≥ 0
    · rw [decide_eq_true hm]
      by_cases hk1 : k = 1
      · have dk1 : decide (k = 1) = true := decide_eq_true hk1
        have dk2 : decide (k = 2) = false := decide_eq_false (by omega)
        (try rw [dk1]); (try rw [dk2])
        try refine goA ⟨?_⟩
        (try rw [dk1]); (try rw [dk2])
        try refine goA ⟨?_⟩
        (try rw [dk1]); (try rw [dk2])
        try refine goA ⟨?_⟩
        (try rw [dk1]); (try rw [dk2])
        try refine goA ⟨?_⟩
        refine WPL.pure (Op1.loadAgg (us := [.int .i64 e.A, .int .i64 e.B]) rfl mM rfl rfl) rfl rfl ?_
        try refine goA ⟨?_⟩
        refine WPL.eff (OpE.call lO (fun w hw => s_Without _ vg e es (Rd.at rDA hw) (by omega))) rfl rfl ?_
        rintro v1 _ ⟨T, rfl, rfl⟩
        have hil := rem_le es e
        try refine goA ⟨?_⟩
        refine WPL.eff (OpE.buildSlice [(⟨2, e.A, e.B⟩ : Oper1)] pA rfl (by decide)) rfl rfl ?_; rintro s1 _ rfl
        try refine goA ⟨?_⟩
        refine WPL.eff (OpE.append rfl rfl pM rD lN) rfl rfl ?_; rintro vl1 _ rfl
        try refine goA ⟨?_⟩
        rw [ej]
        refine PE.again (j - 1, q + 3, v1, rem es e, vl1, ops ++ [(⟨2, e.A, e.B⟩ : Oper1)]) ?_ ?_ sE sT2
        · exact ⟨by dsimp only; omega, by dsimp only; omega, by dsimp only; omega, by (try simp only [List.length_append, List.length_cons, List.length_nil]); omega⟩
        · dsimp only; omega
      by_cases hk2 : k = 2
      · have dk1 : decide (k = 1) = false := decide_eq_false (by omega)
        have dk2 : decide (k = 2) = true := decide_eq_true hk2
        (try rw [dk1]); (try rw [dk2])
        try refine goA ⟨?_⟩
        (try rw [dk1]); (try rw [dk2])
        try refine goA ⟨?_⟩
        (try rw [dk1]); (try rw [dk2])
        try refine goA ⟨?_⟩
        (try rw [dk1]); (try rw [dk2])
        try refine goA ⟨?_⟩
        refine WPL.pure (Op1.loadAgg (us := [.int .i64 e.A, .int .i64 e.B]) rfl mM rfl rfl) rfl rfl ?_
        try refine goA ⟨?_⟩
        refine WPL.eff (OpE.call lO (fun w hw => s_Without _ vg e es (Rd.at rDA hw) (by omega))) rfl rfl ?_
        rintro v1 _ ⟨T, rfl, rfl⟩
        have hil := rem_le es e
        try refine goA ⟨?_⟩
        refine WPL.eff (OpE.buildSlice [(⟨k, e.A, e.B⟩ : Oper1)] pA rfl (by decide)) rfl rfl ?_; rintro s1 _ rfl
        try refine goA ⟨?_⟩
        refine WPL.eff (OpE.append rfl rfl pM rD lN) rfl rfl ?_; rintro vl1 _ rfl
        try refine goA ⟨?_⟩
        rw [ej]
        refine PE.again (j - 1, q + 3, v1, rem es e, vl1, ops ++ [(⟨k, e.A, e.B⟩ : Oper1)]) ?_ ?_ sE sT2
        · exact ⟨by dsimp only; omega, by dsimp only; omega, by dsimp only; omega, by (try simp only [List.length_append, List.length_cons, List.length_nil]); omega⟩
        · dsimp only; omega
      · have dk1 : decide (k = 1) = false := decide_eq_false (by omega)
        have dk2 : decide (k = 2) = false := decide_eq_false (by omega)
        (try rw [dk1]); (try rw [dk2])
        try refine goA ⟨?_⟩
        (try rw [dk1]); (try rw [dk2])
        try refine goA ⟨?_⟩
        (try rw [dk1]); (try rw [dk2])
        try refine goA ⟨?_⟩
        (try rw [dk1]); (try rw [dk2])
        try refine goA ⟨?_⟩
        refine WPL.eff (OpE.buildSlice [(⟨k, e.A, e.B⟩ : Oper1)] pA rfl (by decide)) rfl rfl ?_; rintro s1 _ rfl
        try refine goA ⟨?_⟩
        refine WPL.eff (OpE.append rfl rfl pM rD lN) rfl rfl ?_; rintro vl1 _ rfl
        try refine goA ⟨?_⟩
        rw [ej]
        refine PE.again (j - 1, q + 3, vg, es, vl1, ops ++ [(⟨k, e.A, e.B⟩ : Oper1)]) ?_ ?_ sE sT2
        · exact ⟨by dsimp only; omega, by dsimp only; omega, by dsimp only; omega, by (try simp only [List.length_append, List.length_cons, List.length_nil]); omega⟩
        · dsimp only; omega
    · rw [decide_eq_false hm]
      by_cases hk1 : k = 1
      · have dk1 : decide (k = 1) = true := decide_eq_true hk1
        have dk2 : decide (k = 2) = false := decide_eq_false (by omega)
        (try rw [dk1]); (try rw [dk2])
        try refine goA ⟨?_⟩
        (try rw [dk1]); (try rw [dk2])
        try refine goA ⟨?_⟩
        (try rw [dk1]); (try rw [dk2])
        try refine goA ⟨?_⟩
        (try rw [dk1]); (try rw [dk2])
        try refine goA ⟨?_⟩
        refine WPL.pure (Op1.loadAgg (us := [.int .i64 e.A, .int .i64 e.B]) rfl mM rfl rfl) rfl rfl ?_
        try refine goA ⟨?_⟩
        refine WPL.eff (OpE.call lO (fun w hw => s_Put _ vg e es (Rd.at rDA hw) (by omega))) rfl rfl ?_
        rintro v1 _ ⟨T, rfl, rfl⟩
        have hil := insP_len es e
        try refine goA ⟨?_⟩
        refine WPL.eff (OpE.buildSlice [(⟨k, e.A, e.B⟩ : Oper1)] pA rfl (by decide)) rfl rfl ?_; rintro s1 _ rfl
        try refine goA ⟨?_⟩
        refine WPL.eff (OpE.append rfl rfl pM rD lN) rfl rfl ?_; rintro vl1 _ rfl
        try refine goA ⟨?_⟩
        rw [ej]
        refine PE.again (j - 1, q + 3, v1, insP es e, vl1, ops ++ [(⟨k, e.A, e.B⟩ : Oper1)]) ?_ ?_ sE sT2
        · exact ⟨by dsimp only; omega, by dsimp only; omega, by dsimp only; omega, by (try simp only [List.length_append, List.length_cons, List.length_nil]); omega⟩
        · dsimp only; omega
      by_cases hk2 : k = 2
      · have dk1 : decide (k = 1) = false := decide_eq_false (by omega)
        have dk2 : decide (k = 2) = true := decide_eq_true hk2
        (try rw [dk1]); (try rw [dk2])
        try refine goA ⟨?_⟩
        (try rw [dk1]); (try rw [dk2])
        try refine goA ⟨?_⟩
        (try rw [dk1]); (try rw [dk2])
        try refine goA ⟨?_⟩
        (try rw [dk1]); (try rw [dk2])
        try refine goA ⟨?_⟩
        refine WPL.pure (Op1.loadAgg (us := [.int .i64 e.A, .int .i64 e.B]) rfl mM rfl rfl) rfl rfl ?_
        try refine goA ⟨?_⟩
        refine WPL.eff (OpE.call lO (fun w hw => s_Put _ vg e es (Rd.at rDA hw) (by omega))) rfl rfl ?_
        rintro v1 _ ⟨T, rfl, rfl⟩
        have hil := insP_len es e
        try refine goA ⟨?_⟩
        refine WPL.eff (OpE.buildSlice [(⟨1, e.A, e.B⟩ : Oper1)] pA rfl (by decide)) rfl rfl ?_; rintro s1 _ rfl
        try refine goA ⟨?_⟩
        refine WPL.eff (OpE.append rfl rfl pM rD lN) rfl rfl ?_; rintro vl1 _ rfl
        try refine goA ⟨?_⟩
        rw [ej]
        refine PE.again (j - 1, q + 3, v1, insP es e, vl1, ops ++ [(⟨1, e.A, e.B⟩ : Oper1)]) ?_ ?_ sE sT2
        · exact ⟨by dsimp only; omega, by dsimp only; omega, by dsimp only; omega, by (try simp only [List.length_append, List.length_cons, List.length_nil]); omega⟩
        · dsimp only; omega
      · have dk1 : decide (k = 1) = false := decide_eq_false (by omega)
        have dk2 : decide (k = 2) = false := decide_eq_false (by omega)
        (try rw [dk1]); (try rw [dk2])
        try refine goA ⟨?_⟩
        (try rw [dk1]); (try rw [dk2])
        try refine goA ⟨?_⟩
        (try rw [dk1]); (try rw [dk2])
        try refine goA ⟨?_⟩
        (try rw [dk1]); (try rw [dk2])
        try refine goA ⟨?_⟩
        refine WPL.eff (OpE.buildSlice [(⟨k, e.A, e.B⟩ : Oper1)] pA rfl (by decide)) rfl rfl ?_; rintro s1 _ rfl
        try refine goA ⟨?_⟩
        refine WPL.eff (OpE.append rfl rfl pM rD lN) rfl rfl ?_; rintro vl1 _ rfl
        try refine goA ⟨?_⟩
        rw [ej]
        refine PE.again (j - 1, q + 3, vg, es, vl1, ops ++ [(⟨k, e.A, e.B⟩ : Oper1)]) ?_ ?_ sE sT2
        · exact ⟨by dsimp only; omega, by dsimp only; omega, by dsimp only; omega, by (try simp only [List.length_append, List.length_cons, List.length_nil]); omega⟩
        · dsimp only; omega
  · try refine goA ⟨?_⟩
    refine WPL.splitD rfl rfl (fun hp => ?_) (fun hp => ?_)
    · have hp : (ops.length : Int) > 0 := hp
      try refine goA ⟨?_⟩
      refine WPL.eff (OpE.callT (T := [Tok.blk rb [cv, .int .i64 q]]) lO pM2 (fun w hw => d_pick _ rb cv bs q 16 (Rd.at rDA hw) hd hl (by omega) (by omega))) rfl rfl ?_
      rintro r _ ⟨T, ⟨rfl, z, rfl, z0, z1⟩, rfl⟩
      try refine goA ⟨?_⟩
      refine WP.condD rfl (fun hz => ?_) (fun hz => ?_)
      · try refine goA ⟨?_⟩
        refine WPL.eff (OpE.callT (T := [Tok.blk rb [cv, .int .i64 ((q : Int) + 1)]]) lO pM2 (fun w hw => d_pick _ rb cv bs ((q : Int) + 1) ops.length (Rd.at rDA hw) hd hl (by omega) (by omega))) rfl rfl ?_
        rintro r _ ⟨T, ⟨rfl, i, rfl, i0, i1⟩, rfl⟩
        have hi := i1 (by omega)
        obtain ⟨i, rfl⟩ := Int.eq_ofNat_of_zero_le i0
        have hiN : i < ops.length := by omega
        try refine goA ⟨?_⟩
        refine WPL.eff (OpE.buildSlice [0, 4, 1, 2] pA rfl (by decide)) rfl rfl ?_; rintro s4 _ rfl
        try refine goA ⟨?_⟩
        refine WPL.eff (OpE.callT (T := [Tok.blk rb [cv, .int .i64 ((q : Int) + 1 + 1)]]) lO pM2 (fun w hw => d_num _ rb cv s4 bs [0, 4, 1, 2] ((q : Int) + 1 + 1) (Rd.at rDA hw) hd (Rd.at rDA hw) (hw.own_ne pM mM) hl (by omega) (by decide))) rfl rfl ?_
        rintro r _ ⟨T, ⟨rfl, k4, rfl, hk4⟩, rfl⟩
        try refine goA ⟨?_⟩
        refine WPL.eff0 (OpE.storeF (r := 0) (⟨k4, (ops.getD i (Enc.d : Oper1)).A, (ops.getD i (Enc.d : Oper1)).B⟩ : Oper1) rfl rfl pM2 lT (by decide) oN rfl (by rfl)) rfl ?_
        rintro _ _ rfl
        have hl3 : (ops.set i ⟨k4, (ops.getD i (Enc.d : Oper1)).A, (ops.getD i (Enc.d : Oper1)).B⟩).length = ops.length := List.length_set
        generalize ops.set i ⟨k4, (ops.getD i (Enc.d : Oper1)).A, (ops.getD i (Enc.d : Oper1)).B⟩ = ops1 at *
        have hi1 : i < ops1.length := by omega
        try refine goA ⟨?_⟩
        refine WPL.eff (OpE.buildSlice [1, 16, 2] pA rfl (by decide)) rfl rfl ?_; rintro s5 _ rfl
        try refine goA ⟨?_⟩
        refine WPL.eff (OpE.callT (T := [Tok.blk rb [cv, .int .i64 ((q : Int) + 1 + 1 + 1)]]) lO pM2 (fun w hw => d_num _ rb cv s5 bs [1, 16, 2] ((q : Int) + 1 + 1 + 1) (Rd.at rDA hw) hd (Rd.at rDA hw) (hw.own_ne pM mM) hl (by omega) (by decide))) rfl rfl ?_
        rintro r _ ⟨T, ⟨rfl, k5, rfl, hk5⟩, rfl⟩
        try refine goA ⟨?_⟩
        refine WPL.eff0 (OpE.storeF (r := 2) (⟨(ops1.getD i (Enc.d : Oper1)).K, (ops1.getD i (Enc.d : Oper1)).A, k5⟩ : Oper1) rfl rfl pM2 lT (by decide) oN rfl (by rfl)) rfl ?_
        rintro _ _ rfl
        have hl4 : (ops1.set i ⟨(ops1.getD i (Enc.d : Oper1)).K, (ops1.getD i (Enc.d : Oper1)).A, k5⟩).length = ops1.length := List.length_set
        generalize ops1.set i ⟨(ops1.getD i (Enc.d : Oper1)).K, (ops1.getD i (Enc.d : Oper1)).A, k5⟩ = ops2 at *
        try refine goA ⟨?_⟩
        refine PE.ret2 (T := [Tok.blk rb [cv, .int .i64 0]]) (T' := [Tok.own vl ops2, Tok.blk rb [cv, .int .i64 ((q : Int) + 1 + 1 + 1 + 1)]]) rfl rV ?_ sT2
        exact ⟨vl, n, _, ops2, rfl, rfl, by omega, by omega, by omega⟩
      · try refine goA ⟨?_⟩
        refine PE.ret2 (T := [Tok.blk rb [cv, .int .i64 0]]) (T' := [Tok.own vl ops, Tok.blk rb [cv, .int .i64 ((q : Int) + 1)]]) rfl rV ?_ sT2
        exact ⟨vl, n, _, ops, rfl, rfl, by omega, by omega, by omega⟩
    · try refine goA ⟨?_⟩
      refine PE.ret2 (T := [Tok.blk rb [cv, .int .i64 0]]) (T' := [Tok.own vl ops, Tok.blk rb [cv, .int .i64 q]]) rfl rV ?_ sT2
      exact ⟨vl, n, _, ops, rfl, rfl, by omega, by omega, by omega⟩

theorem g_Case8 (w : World) (v : Value) (bs : List UInt8) (h : RL w v bs) (hl : bs.length ≤ 9223372036854775807) :
    Tri Try.prog 71 [v] w [] dO := by
  refine Tri.intro (hf := Try.func71) (hb := rfl) (hn := Try.ntmps71) (Nat.le_of_ble_eq_true rfl) ?_
  try refine go ⟨?_⟩
  refine WPL.eff (OpE.call lO (fun w hw => d_Open _ v bs (Rd.at rD hw) hl)) rfl rfl ?_
  rintro r _ ⟨T, ⟨rb, rfl, rfl⟩, rfl⟩
  have hcv := h.cvOf
  have hl2 := bsOf_le bs
  generalize cvOf v bs = cv at *
  generalize bsOf bs = bs' at *
  try refine go ⟨?_⟩
  refine WPL.eff (OpE.callT (T := [Tok.blk rb [cv, .int .i64 0]]) lO pM2 (fun w hw => g_Draw8 _ rb cv bs' (Rd.at rD hw) (hw.ne mM hcv) hl2)) rfl rfl ?_
  rintro r _ ⟨T, ⟨v1, n1, p1, ops1, rfl, rfl, q1, q2, q3⟩, rfl⟩
  try refine go ⟨?_⟩
  refine WPL.eff (OpE.callT (T := [Tok.blk rb [cv, .int .i64 p1]]) lO pM2 (fun w hw => d_pick _ rb cv bs' p1 24 (Rd.at rD hw) (hw.ne mM hcv) hl2 (by omega) (by omega))) rfl rfl ?_
  rintro r _ ⟨T, ⟨rfl, k, rfl, _, _⟩, rfl⟩
  try refine go ⟨?_⟩
  refine WP.condD rfl (fun hc => ?_) (fun hc => ?_)
  · try refine go ⟨?_⟩
    refine WPL.eff (OpE.buildSlice [0, 17, 1] pA rfl (by decide)) rfl rfl ?_; rintro s _ rfl
    try refine go ⟨?_⟩
    refine WPL.eff (OpE.callT (T := [Tok.blk rb [cv, .int .i64 (p1 + 1)]]) lO pM2 (fun w hw => d_num _ rb cv s bs' [0, 17, 1] (p1 + 1) (Rd.at rD hw) (hw.ne mM hcv) (Rd.at rD hw) (hw.own_ne pM mM) hl2 (by omega) (by decide))) rfl rfl ?_
    rintro r _ ⟨T, ⟨rfl, z, rfl, _⟩, rfl⟩
    try refine go ⟨?_⟩
    refine PE.ret2 (T := []) (T' := [Tok.own v1 ops1]) rfl rV ?_ sT2
    exact ⟨v1, z, ops1, rfl, rfl, q1⟩
  · try refine go ⟨?_⟩
    refine PE.ret2 (T := []) (T' := [Tok.own v1 ops1]) rfl rV ?_ sT2
    exact ⟨v1, n1, ops1, rfl, rfl, q1⟩

theorem g_D8OpsValid (w : World) (v : Value) (bs : List UInt8) (h : RL w v bs) (hl : bs.length ≤ 9223372036854775807) :
    Tri Try.prog 30 [v] w [] dO := by
  refine Tri.intro (hf := Try.func30) (hb := rfl) (hn := Try.ntmps30) (Nat.le_of_ble_eq_true rfl) ?_
  try refine go ⟨?_⟩
  refine WPL.eff (OpE.call lO (fun w hw => g_Case8 _ v bs (Rd.at rD hw) hl)) rfl rfl ?_
  rintro r _ ⟨T, ⟨v1, n1, ops1, rfl, rfl, q1⟩, rfl⟩
  try refine go ⟨?_⟩
  refine PE.ret2 (T := []) (T' := [Tok.own v1 ops1]) rfl rV ?_ sT2
  exact ⟨v1, n1, ops1, rfl, rfl, q1⟩

theorem g_D8AnswersOf (w : World) (v : Value) (bs : List UInt8) (h : RL w v bs) (hl : bs.length ≤ 9223372036854775807) :
    Tri Try.prog 42 [v] w [] dO := by
  refine Tri.intro (hf := Try.func42) (hb := rfl) (hn := Try.ntmps42) (Nat.le_of_ble_eq_true rfl) ?_
  try refine go ⟨?_⟩
  refine WPL.eff (OpE.call lO (fun w hw => g_Case8 _ v bs (Rd.at rD hw) hl)) rfl rfl ?_
  rintro r _ ⟨T, ⟨v1, n1, ops1, rfl, rfl, q1⟩, rfl⟩
  try refine go ⟨?_⟩
  refine PE.ret2 (T := []) (T' := [Tok.own v1 ops1]) rfl rV ?_ sT2
  exact ⟨v1, n1, ops1, rfl, rfl, q1⟩

theorem g_D8LivesOf (w : World) (v : Value) (bs : List UInt8) (h : RL w v bs) (hl : bs.length ≤ 9223372036854775807) :
    Tri Try.prog 38 [v] w [] dO := by
  refine Tri.intro (hf := Try.func38) (hb := rfl) (hn := Try.ntmps38) (Nat.le_of_ble_eq_true rfl) ?_
  try refine go ⟨?_⟩
  refine WPL.eff (OpE.call lO (fun w hw => g_Case8 _ v bs (Rd.at rD hw) hl)) rfl rfl ?_
  rintro r _ ⟨T, ⟨v1, n1, ops1, rfl, rfl, q1⟩, rfl⟩
  try refine go ⟨?_⟩
  refine PE.ret2 (T := []) (T' := [Tok.own v1 ops1]) rfl rV ?_ sT2
  exact ⟨v1, n1, ops1, rfl, rfl, q1⟩

theorem g_D8AnswersAhead (w : World) (v : Value) (bs : List UInt8) (h : RL w v bs) (hl : bs.length ≤ 9223372036854775807) :
    Tri Try.prog 20 [v] w [] dO := by
  refine Tri.intro (hf := Try.func20) (hb := rfl) (hn := Try.ntmps20) (Nat.le_of_ble_eq_true rfl) ?_
  try refine go ⟨?_⟩
  refine WPL.eff (OpE.call lO (fun w hw => g_Case8 _ v bs (Rd.at rD hw) hl)) rfl rfl ?_
  rintro r _ ⟨T, ⟨v1, n1, ops1, rfl, rfl, q1⟩, rfl⟩
  try refine go ⟨?_⟩
  refine PE.ret2 (T := []) (T' := [Tok.own v1 ops1]) rfl rV ?_ sT2
  exact ⟨v1, n1, ops1, rfl, rfl, q1⟩
end Go.Proofs.Ytfigegmgopnfhaa
/- The second program's draws of a graph behind operations. Conditions: those of the contract. -/
namespace Go.Proofs.Ytfigegmgopnfhaa
open Go
def dGA : Value → List Tok → Prop := fun r T => ∃ vl n k, ∃ ops : List Oper1, r = .tuple #[.int .i64 n, vl, .int .i64 k] ∧ T = [Tok.own vl ops] ∧ ops.length ≤ 20 ∧ -1 ≤ k ∧ k ≤ 65
set_option linter.unusedVariables false set_option linter.unusedSimpArgs false attribute [local irreducible] Tok.own Tok.blk RL Rd eptr WP WPL PE WPD WPO Op1 OpE Tri Again Mid Exit.then Exit.inBlock bodyPost RP Code.wp wpList isOwn OneM One
set_option maxHeartbeats 8000000

theorem g_D8GraphAt (w : World) (v : Value) (bs : List UInt8) (h : RL w v bs) (hl : bs.length ≤ 9223372036854775807) :
    Tri Try.prog 34 [v] w [] dGA := by
  refine Tri.intro (hf := Try.func34) (hb := rfl) (hn := Try.ntmps34) (Nat.le_of_ble_eq_true rfl) ?_
  try refine go ⟨?_⟩
  refine WPL.eff (OpE.call lO (fun w hw => g_Case8 _ v bs (Rd.at rD hw) hl)) rfl rfl ?_
  rintro r _ ⟨T, ⟨v1, n1, ops1, rfl, rfl, q1⟩, rfl⟩
  try refine go ⟨?_⟩
  refine WPL.eff (OpE.call lO (fun w hw => d_Open _ v bs (Rd.at rD hw) hl)) rfl rfl ?_
  rintro r _ ⟨T, ⟨rb, rfl, rfl⟩, rfl⟩
  have hcv := h.cvOf
  have hl2 := bsOf_le bs
  generalize cvOf v bs = cv at *
  generalize bsOf bs = bs' at *
  try refine go ⟨?_⟩
  refine WPL.eff (OpE.callT (T := [Tok.blk rb [cv, .int .i64 0]]) lO pM2 (fun w hw => d_pick _ rb cv bs' 0 12 (Rd.at rD hw) (hw.ne mM hcv) hl2 (by omega) (by omega))) rfl rfl ?_
  rintro r _ ⟨T, ⟨rfl, k, rfl, _, _⟩, rfl⟩
  try refine go ⟨?_⟩
  refine WP.condD rfl (fun hc => ?_) (fun hc => ?_)
  · try refine go ⟨?_⟩
    refine WPL.eff (OpE.buildSlice [-1, 65, 3] pA rfl (by decide)) rfl rfl ?_; rintro s _ rfl
    try refine go ⟨?_⟩
    refine WPL.eff (OpE.callT (T := [Tok.blk rb [cv, .int .i64 (0 + 1)]]) lO pM2 (fun w hw => d_num _ rb cv s bs' [-1, 65, 3] (0 + 1) (Rd.at rD hw) (hw.ne mM hcv) (Rd.at rD hw) (hw.own_ne pM mM) hl2 (by omega) (by decide))) rfl rfl ?_
    rintro r _ ⟨T, ⟨rfl, z, rfl, hz⟩, rfl⟩
    have hz1 : -1 ≤ z ∧ z ≤ 65 := by
      simp only [List.mem_cons, List.mem_nil_iff, or_false] at hz
      omega
    try refine go ⟨?_⟩
    refine PE.ret3 (T := []) (T' := [Tok.own v1 ops1]) rfl rV ?_ sT2
    exact ⟨v1, n1, z, ops1, rfl, rfl, q1, hz1⟩
  · try refine go ⟨?_⟩
    refine WPL.eff (OpE.callT (T := [Tok.blk rb [cv, .int .i64 (0 + 1)]]) lO pM2 (fun w hw => d_pick _ rb cv bs' (0 + 1) ((ops1.length : Int) + 1) (Rd.at rD hw) (hw.ne mM hcv) hl2 (by omega) (by omega))) rfl rfl ?_
    rintro r _ ⟨T, ⟨rfl, z, rfl, z0, z1⟩, rfl⟩
    have z1 := z1 (by omega)
    try refine go ⟨?_⟩
    refine PE.ret3 (T := []) (T' := [Tok.own v1 ops1]) rfl rV ?_ sT2
    exact ⟨v1, n1, z, ops1, rfl, rfl, q1, by omega, by omega⟩
end Go.Proofs.Ytfigegmgopnfhaa
