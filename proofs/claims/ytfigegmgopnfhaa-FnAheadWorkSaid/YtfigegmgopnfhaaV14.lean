/- Texts put together: Ahd0, Ahd1, Ahd2, Ahd3. Conditions: those of each theorem. -/
import Derived.Test.YtfigegmgopnfhaaV1
import Derived.Test.YtfigegmgopnfhaaV3
import Derived.Test.YtfigegmgopnfhaaV6
import Derived.Test.YtfigegmgopnfhaaV7
import Derived.Test.YtfigegmgopnfhaaV8
import Derived.Test.YtfigegmgopnfhaaV13
set_option linter.unusedVariables false
set_option linter.unusedSimpArgs false
/- Questions that are known ahead: the walk of the program's spans, SpansOf, AnswersAhead. Conditions: those of each contract. -/
namespace Go.Proofs.Ytfigegmgopnfhaa
open Go
theorem livs_ok {n : Int} {ops : List Oper1} (h : OV n ops) {l : Lif} (hl : l ∈ livs ops) : 0 ≤ l.F ∧ l.F < l.T ∧ l.T ≤ ops.length := by
  unfold livs at hl
  obtain ⟨i, hi, rfl⟩ := List.mem_map.1 hl
  obtain ⟨h1, h2⟩ := mem_puts.1 hi
  obtain ⟨h3, h4, _⟩ := toOf_spec h1
  refine ⟨?_, ?_, ?_⟩
  · show (0 : Int) ≤ ((i : Nat) : Int); omega
  · show ((i : Nat) : Int) < ((toOf ops i : Nat) : Int); omega
  · show ((toOf ops i : Nat) : Int) ≤ _; omega
theorem pow6 : (2 : Int) ^ 6 = 64 := by decide
theorem livs_spc {n : Int} {ops : List Oper1} (h : OV n ops) {l : Lif} (hl : l ∈ livs ops) : 1 ≤ spc l.F l.T 6 0 ops.length ∧ spc l.F l.T 6 0 ops.length ≤ 12 := by
  obtain ⟨h1, h2, h3⟩ := livs_ok h hl
  have h4 := h.le
  have h5 : (ops.length : Int) - 0 ≤ 2 ^ 6 := by rw [pow6]; omega
  exact ⟨spc_pos h2 6 0 ops.length (by omega) h5 (by omega) (by omega), (spc_le h2 6 0 ops.length (by omega) h5).2 (by omega)⟩
/-- The work: all spans of all lives. -/
def wrk (ops : List Oper1) : Nat := spsum (livs ops) 6 0 ops.length
theorem wrk_le {n : Int} {ops : List Oper1} (h : OV n ops) : (livs ops).length ≤ wrk ops ∧ wrk ops ≤ 12 * (livs ops).length := by
  have := spsum_le (L := livs ops) (d := 6) (lo := 0) (hi := ops.length) (k := 1) (m := 12) fun l hl => livs_spc h hl
  unfold wrk; omega
theorem spsum_take {L : List Lif} {k : Nat} (hk : k < L.length) (d : Nat) (lo hi : Int) : spsum (L.take (k + 1)) d lo hi = spsum (L.take k) d lo hi + spc (L.getD k ⟨0, 0, 0, 0⟩).F (L.getD k ⟨0, 0, 0, 0⟩).T d lo hi := by
  rw [take_succD ⟨0, 0, 0, 0⟩ hk, spsum_snoc]
theorem spsum_take_le {n : Int} {ops : List Oper1} (h : OV n ops) (k : Nat) : spsum ((livs ops).take k) 6 0 ops.length ≤ 768 := by
  have h1 := spsum_le (L := (livs ops).take k) (d := 6) (lo := 0) (hi := ops.length) (k := 1) (m := 12) fun l hl => livs_spc h (List.take_subset _ _ hl)
  have h2 : ((livs ops).take k).length ≤ (livs ops).length := by rw [List.length_take]; exact Nat.min_le_right _ _
  have h3 := livs_length ops
  have h4 := h.le
  omega
def wrkR (n : Int) (ops : List Oper1) : Nat := if OV n ops then wrk ops else 0
set_option linter.unusedVariables false set_option linter.unusedSimpArgs false attribute [local irreducible] Tok.own Tok.blk RL Rd eptr WP WPL PE WPD WPO Op1 OpE Tri Again Mid Exit.then Exit.inBlock bodyPost RP Code.wp wpList isOwn OneM One
attribute [local irreducible] GV GN OV livs spc spsum wrk
set_option maxHeartbeats 8000000

def spansOk (d : Nat) : Prop := d ≤ 6 → ∀ (w : World) (lo hi f t : Int), lo < hi → hi - lo ≤ 2 ^ d → f < t → 0 ≤ lo → hi ≤ 64 → 0 ≤ f → t ≤ 64 →
    Tri Try.prog 126 [.int .i64 lo, .int .i64 hi, .int .i64 f, .int .i64 t] w [] fun r T => ∃ L : List Lif, L.length = spc f t d lo hi ∧ T = [Tok.own r L]

theorem c_spans1 (d : Nat) (ih : ∀ e, e < d → spansOk e) : spansOk d := by
  intro hd w lo hi f t h1 h2 h3 h4 h5 h6 h7
  refine Tri.intro (hf := Try.func126) (hb := rfl) (hn := Try.ntmps126) (Nat.le_of_ble_eq_true rfl) ?_
  try refine go ⟨?_⟩
  by_cases c1 : f ≤ lo ∧ hi ≤ t
  · rw [decide_eq_true c1.1]
    try refine go ⟨?_⟩
    rw [decide_eq_true c1.2]
    try refine go ⟨?_⟩
    refine WPL.eff (OpE.buildSlice [(⟨0, 0, lo, hi⟩ : Lif)] pA rfl (by decide)) rfl rfl ?_; rintro s1 _ rfl
    try refine go ⟨?_⟩
    refine PE.ret1 (T := []) (T' := [Tok.own s1 [(⟨0, 0, lo, hi⟩ : Lif)]]) rfl rV ?_ sT2
    exact ⟨_, by rw [spc_full c1]; rfl, rfl⟩
  by_cases c2 : hi ≤ f ∨ t ≤ lo
  · have e0 := spc_none (d := d) h1 h3 c2
    by_cases c3 : f ≤ lo
    · rw [decide_eq_true c3]
      try refine go ⟨?_⟩
      rw [decide_eq_false (show ¬ hi ≤ t from fun h => c1 ⟨c3, h⟩)]
      try refine go ⟨?_⟩
      by_cases c4 : hi ≤ f
      · rw [decide_eq_true c4]
        try refine go ⟨?_⟩
        refine PE.nilTok Lif ?_
        refine PE.ret1 (T := []) (T' := [Tok.own (.slice none 0 0) ([] : List Lif)]) rfl rV ?_ sT2
        exact ⟨[], by rw [e0]; rfl, rfl⟩
      · rw [decide_eq_false c4]
        try refine go ⟨?_⟩
        rw [decide_eq_true (show t ≤ lo by omega)]
        try refine go ⟨?_⟩
        refine PE.nilTok Lif ?_
        refine PE.ret1 (T := []) (T' := [Tok.own (.slice none 0 0) ([] : List Lif)]) rfl rV ?_ sT2
        exact ⟨[], by rw [e0]; rfl, rfl⟩
    · rw [decide_eq_false c3]
      try refine go ⟨?_⟩
      by_cases c4 : hi ≤ f
      · rw [decide_eq_true c4]
        try refine go ⟨?_⟩
        refine PE.nilTok Lif ?_
        refine PE.ret1 (T := []) (T' := [Tok.own (.slice none 0 0) ([] : List Lif)]) rfl rV ?_ sT2
        exact ⟨[], by rw [e0]; rfl, rfl⟩
      · rw [decide_eq_false c4]
        try refine go ⟨?_⟩
        rw [decide_eq_true (show t ≤ lo by omega)]
        try refine go ⟨?_⟩
        refine PE.nilTok Lif ?_
        refine PE.ret1 (T := []) (T' := [Tok.own (.slice none 0 0) ([] : List Lif)]) rfl rV ?_ sT2
        exact ⟨[], by rw [e0]; rfl, rfl⟩
  obtain ⟨k, rfl⟩ : ∃ k, d = k + 1 := by
    cases d with
    | zero => rw [Int.pow_zero] at h2; omega
    | succ k => exact ⟨k, rfl⟩
  rw [pow_succ2] at h2
  have hp : (0 : Int) < 2 ^ k := Int.pow_pos (by omega)
  have hm : lo + 1 < hi := by omega
  have e0 := spc_split (d := k) c1 c2
  have hq1 : spc f t k lo ((lo + hi) / 2) ≤ 2 * k + 1 := (spc_le h3 k lo ((lo + hi) / 2) (by omega) (by omega)).1
  have hq2 : spc f t k ((lo + hi) / 2) hi ≤ 2 * k + 1 := (spc_le h3 k ((lo + hi) / 2) hi (by omega) (by omega)).1
  by_cases c3 : f ≤ lo
  · rw [decide_eq_true c3]
    try refine go ⟨?_⟩
    rw [decide_eq_false (show ¬ hi ≤ t from fun h => c1 ⟨c3, h⟩)]
    try refine go ⟨?_⟩
    rw [decide_eq_false (show ¬ hi ≤ f by omega)]
    try refine go ⟨?_⟩
    rw [decide_eq_false (show ¬ t ≤ lo by omega)]
    try refine go ⟨?_⟩
    refine WPL.eff (OpE.call lO (fun w hw => ih k (by omega) (by omega) _ lo ((lo + hi) / 2) f t (by omega) (by omega) h3 h4 (by omega) h6 h7)) rfl rfl ?_
    rintro r1 _ ⟨T, ⟨L1, l1, rfl⟩, rfl⟩
    try refine go ⟨?_⟩
    refine WPL.eff (OpE.call lO (fun w hw => ih k (by omega) (by omega) _ ((lo + hi) / 2) hi f t (by omega) (by omega) h3 (by omega) h5 h6 h7)) rfl rfl ?_
    rintro r2 _ ⟨T, ⟨L2, l2, rfl⟩, rfl⟩
    have l3 : (L1 ++ L2).length = spc f t (k + 1) lo hi := by rw [e0, List.length_append, l1, l2]
    try refine go ⟨?_⟩
    refine WPL.eff (OpE.append rfl rfl pM rD lN) rfl rfl ?_; rintro v1 _ rfl
    try refine go ⟨?_⟩
    refine PE.ret1 (T := []) (T' := [Tok.own v1 (L1 ++ L2)]) rfl rV ?_ sT2
    exact ⟨_, l3, rfl⟩
  · rw [decide_eq_false c3]
    try refine go ⟨?_⟩
    rw [decide_eq_false (show ¬ hi ≤ f by omega)]
    try refine go ⟨?_⟩
    rw [decide_eq_false (show ¬ t ≤ lo by omega)]
    try refine go ⟨?_⟩
    refine WPL.eff (OpE.call lO (fun w hw => ih k (by omega) (by omega) _ lo ((lo + hi) / 2) f t (by omega) (by omega) h3 h4 (by omega) h6 h7)) rfl rfl ?_
    rintro r1 _ ⟨T, ⟨L1, l1, rfl⟩, rfl⟩
    try refine go ⟨?_⟩
    refine WPL.eff (OpE.call lO (fun w hw => ih k (by omega) (by omega) _ ((lo + hi) / 2) hi f t (by omega) (by omega) h3 (by omega) h5 h6 h7)) rfl rfl ?_
    rintro r2 _ ⟨T, ⟨L2, l2, rfl⟩, rfl⟩
    have l3 : (L1 ++ L2).length = spc f t (k + 1) lo hi := by rw [e0, List.length_append, l1, l2]
    try refine go ⟨?_⟩
    refine WPL.eff (OpE.append rfl rfl pM rD lN) rfl rfl ?_; rintro v1 _ rfl
    try refine go ⟨?_⟩
    refine PE.ret1 (T := []) (T' := [Tok.own v1 (L1 ++ L2)]) rfl rV ?_ sT2
    exact ⟨_, l3, rfl⟩

theorem c_spans : ∀ d, spansOk d := fun d => Nat.strongRecOn d fun d ih => c_spans1 d ih

theorem c_SpansOf (w : World) (m : Nat) (f t : Int) (h1 : m ≤ 64) (h2 : 0 ≤ f) (h3 : f < t) (h4 : t ≤ m) :
    Tri Try.prog 72 [.int .i64 m, .int .i64 f, .int .i64 t] w [] fun r T => ∃ v, ∃ L : List Lif, r = .tuple #[v, .bool true] ∧ L.length = spc f t 6 0 m ∧ T = [Tok.own v L] := by
  have hS := c_spans 6 (by omega)
  have hp := pow6
  refine Tri.intro (hf := Try.func72) (hb := rfl) (hn := Try.ntmps72) (Nat.le_of_ble_eq_true rfl) ?_
  try refine go ⟨?_⟩
  rw [decide_eq_false (show ¬ (m : Int) < 1 by omega)]
  try refine go ⟨?_⟩
  rw [decide_eq_false (show ¬ (m : Int) > 64 by omega)]
  try refine go ⟨?_⟩
  rw [decide_eq_false (show ¬ f < 0 by omega)]
  try refine go ⟨?_⟩
  rw [decide_eq_false (show ¬ f > t by omega)]
  try refine go ⟨?_⟩
  rw [decide_eq_false (show ¬ t > (m : Int) by omega)]
  try refine go ⟨?_⟩
  rw [decide_eq_false (show ¬ f = t by omega)]
  try refine go ⟨?_⟩
  refine WPL.eff (OpE.call lO (fun w hw => hS _ 0 m f t (by omega) (by rw [hp]; omega) h3 (by omega) (by omega) h2 (by omega))) rfl rfl ?_
  rintro r _ ⟨T, ⟨L, hL, rfl⟩, rfl⟩
  try refine go ⟨?_⟩
  refine PE.ret2 (T := []) (T' := [Tok.own r L]) rfl rV ?_ sT2
  exact ⟨r, L, rfl, hL, rfl⟩

theorem c_AnswersAhead (w : World) (n : Int) (vL : Value) (ops : List Oper1) (h : RL w vL ops) (hl : ops.length ≤ 1099511627776) :
    Tri Try.prog 21 [.int .i64 n, vL] w [] fun r T => ∃ va, r = .tuple #[va, .int .i64 (wrkR n ops), .bool (decide (OV n ops))] ∧ T = [Tok.own va (runA n ops)] := by
  have bad : ¬ OV n ops → runA n ops = [] ∧ wrkR n ops = 0 := fun h => ⟨if_neg h, if_neg h⟩
  have good : OV n ops → livR n ops = livs ops ∧ wrkR n ops = wrk ops := fun h => ⟨if_pos h, if_pos h⟩
  have hle : OV n ops → ops.length ≤ 64 := fun h => h.le
  have hlok : OV n ops → ∀ k, k < (livs ops).length → 0 ≤ ((livs ops).getD k ⟨0, 0, 0, 0⟩).F ∧ ((livs ops).getD k ⟨0, 0, 0, 0⟩).F < ((livs ops).getD k ⟨0, 0, 0, 0⟩).T ∧ ((livs ops).getD k ⟨0, 0, 0, 0⟩).T ≤ ops.length := fun h k hk => livs_ok h (getD_memI hk)
  have hstl := fun (h : OV n ops) k => spsum_take_le h k
  have hsta : ∀ k, k < (livs ops).length → spsum ((livs ops).take (k + 1)) 6 0 ops.length = spsum ((livs ops).take k) 6 0 ops.length + spc ((livs ops).getD k ⟨0, 0, 0, 0⟩).F ((livs ops).getD k ⟨0, 0, 0, 0⟩).T 6 0 ops.length := fun k hk => spsum_take hk 6 0 ops.length
  have hst0 : spsum ((livs ops).take 0) 6 0 ops.length = 0 := by unfold spsum; rfl
  have hwrk : spsum ((livs ops).take (livs ops).length) 6 0 ops.length = wrk ops := by rw [List.take_length]; unfold wrk; rfl
  have hll : (livs ops).length ≤ ops.length := livs_length ops
  refine Tri.intro (hf := Try.func21) (hb := rfl) (hn := Try.ntmps21) (Nat.le_of_ble_eq_true rfl) ?_
  try refine go ⟨?_⟩
  refine WPL.eff (OpE.call lO (fun w hw => c_LivesOf _ n vL ops (Rd.at rD hw) hl)) rfl rfl ?_
  rintro _ _ ⟨T, ⟨vl, rfl, rfl⟩, rfl⟩
  by_cases hv : OV n ops
  case neg =>
    obtain ⟨e1, e2⟩ := bad hv
    rw [decide_eq_false hv, e1, e2]
    try refine go ⟨?_⟩
    refine PE.nilTok Bool ?_
    refine PE.ret3 (T := []) (T' := [Tok.own (.slice none 0 0) ([] : List Bool)]) rfl rV ?_ sT2
    exact ⟨_, rfl, rfl⟩
  obtain ⟨e1, e2⟩ := good hv
  have hle := hle hv
  have hlok := hlok hv
  have hstl := hstl hv
  rw [decide_eq_true hv, e1, e2]
  try refine go ⟨?_⟩
  refine WPL.eff (OpE.call lO (fun w hw => c_AnswersOf _ n vL ops (Rd.at rD hw) hl)) rfl rfl ?_
  rintro _ _ ⟨T, ⟨va, rfl, rfl⟩, rfl⟩
  rw [decide_eq_true hv]
  try refine go ⟨?_⟩
  refine WP.loop (σ := Nat) (fun k => [(1, vL), (9, va), (11, .int .i64 (spsum ((livs ops).take k) 6 0 ops.length)), (30, vl), (31, .int .i64 (livs ops).length), (32, .int .i64 k)]) (fun _ => [Tok.own va (runA n ops), Tok.own vl (livs ops)]) (fun k => k ≤ (livs ops).length) (fun k => (livs ops).length - k) 0 (Nat.zero_le _) ?_ sT2 ?_
  · rw [hst0]; exact sE
  rintro k hk
  try refine go ⟨?_⟩
  refine WP.condD rfl (fun hc => ?_) (fun hc => ?_)
  · have hk' : k < (livs ops).length := by omega
    obtain ⟨q1, q2, q3⟩ := hlok k hk'
    have hsk := hstl k
    have hsk1 := hstl (k + 1)
    have hsa := hsta k hk'
    try refine go ⟨?_⟩
    refine WPL.eff OpE.alloc rfl rfl ?_; rintro _ _ ⟨b13, rfl, rfl⟩
    try refine go ⟨?_⟩
    refine WPL.eff (OpE.call lO (fun w hw => c_SpansOf _ ops.length ((livs ops).getD k ⟨0, 0, 0, 0⟩).F ((livs ops).getD k ⟨0, 0, 0, 0⟩).T hle q1 q2 q3)) rfl rfl ?_
    rintro _ _ ⟨T, ⟨vs, L, rfl, hL, rfl⟩, rfl⟩
    have hsum : ((spsum ((livs ops).take k) 6 0 ops.length : Nat) : Int) + (L.length : Int) = ((spsum ((livs ops).take (k + 1)) 6 0 ops.length : Nat) : Int) := by rw [hL]; omega
    try refine go ⟨?_⟩
    rw [hsum]
    refine PE.again (k + 1) ?_ ?_ sE sT2
    · (try dsimp only); omega
    · (try dsimp only); omega
  · have hkn : k = (livs ops).length := by omega
    subst hkn
    rw [hwrk]
    try refine go ⟨?_⟩
    refine PE.ret3 (T := []) (T' := [Tok.own va (runA n ops)]) rfl rV ?_ sT2
    exact ⟨va, rfl, rfl⟩
end Go.Proofs.Ytfigegmgopnfhaa
/- Questions that are known ahead: the walk of the second program's l8Ahead, AnswersAhead. Conditions: those of each contract. Printed by genahd.py. -/
namespace Go.Proofs.Ytfigegmgopnfhaa
open Go
theorem fps_own {α : Type} [Enc α] (v : Value) (xs : List α) : fps [Tok.own v xs] = vfp v := by show vfp v ++ [] = vfp v; rw [List.append_nil]
theorem St.arg_own {α β : Type} [Enc α] [Enc β] {W w : World} {M : List Nat} {F : List Tok} {v u : Value} {xs : List α} {ys : List β} (hw : St W M F w) (h : RL W v xs) (hM : ∀ b ∈ vfp v, b ∉ M) (ht : Tok.own u ys ∈ F) : ∀ b ∈ vfp v, b ∉ vfp u := fun b hb hb' => by
  have h1 := rl_inb h b hb
  rcases hw.base b (own_mem_fps ht hb') with h2 | h2
  · exact hM b hb h2
  · omega
theorem St.own_own {α β : Type} [Enc α] [Enc β] {W w : World} {M : List Nat} {F F0 : List Tok} {v u : Value} {xs : List α} {ys : List β} (hw : St W M F w) (hp : F.Perm (Tok.own u ys :: F0)) (h : Tok.own v xs ∈ F0) : ∀ b ∈ vfp v, b ∉ vfp u := by
  intro b hb e
  have h1 := (hw.sub ⟨[], by simpa using hp⟩).nodup
  rw [fps_cons] at h1
  have h2 : b ∈ fps F0 := own_mem_fps h hb
  exact (List.nodup_append.1 h1).2.2 b e b h2 rfl

def fullA (L : List Lif) (lo hi : Nat) (i : Nat) : Prop := (L.getD i ⟨0, 0, 0, 0⟩).F ≤ lo ∧ (hi : Int) ≤ (L.getD i ⟨0, 0, 0, 0⟩).T
def partA (L : List Lif) (lo hi : Nat) (i : Nat) : Prop := (L.getD i ⟨0, 0, 0, 0⟩).F < hi ∧ (lo : Int) < (L.getD i ⟨0, 0, 0, 0⟩).T
structure AhD (n : Int) (L : List Lif) (lo hi : Nat) (s : SS) (fl pl : Nat → List Lif) (cu : Nat → SS) : Prop where
  f0 : fl 0 = []
  p0 : pl 0 = []
  c0 : cu 0 = s
  sF : ∀ i, i < L.length → fullA L lo hi i → (fl (i + 1)).length = (fl i).length + 1 ∧ pl (i + 1) = pl i ∧ cu (i + 1) = uni (cu i) (L.getD i ⟨0, 0, 0, 0⟩).A (L.getD i ⟨0, 0, 0, 0⟩).B ∧ Nd n (L.getD i ⟨0, 0, 0, 0⟩).A ∧ Nd n (L.getD i ⟨0, 0, 0, 0⟩).B
  sP : ∀ i, i < L.length → ¬ fullA L lo hi i → partA L lo hi i → fl (i + 1) = fl i ∧ pl (i + 1) = pl i ++ [L.getD i ⟨0, 0, 0, 0⟩] ∧ cu (i + 1) = cu i
  sN : ∀ i, i < L.length → ¬ fullA L lo hi i → ¬ partA L lo hi i → fl (i + 1) = fl i ∧ pl (i + 1) = pl i ∧ cu (i + 1) = cu i
  fE : fl L.length = L.filter (fulB lo hi)
  pE : pl L.length = L.filter (parB lo hi)
  cE : cu L.length = unis s (L.filter (fulB lo hi))
  sv : ∀ i, SV (cu i) ∧ ((cu i).P.length : Int) = n
  le : ∀ i, (fl i).length ≤ L.length ∧ (pl i).length ≤ L.length
theorem ahead_data {n : Int} {ops : List Oper1} {lo hi : Nat} {L : List Lif} {s : SS} {E0 : List E} (h : AH n ops lo hi L s E0) : ∃ fl pl cu, AhD n L lo hi s fl pl cu := by
  refine ⟨fun i => (L.take i).filter (fulB lo hi), fun i => (L.take i).filter (parB lo hi), fun i => unis s ((L.take i).filter (fulB lo hi)), ?_⟩
  have hfl : ∀ (p : Lif → Bool) i, i < L.length → (L.take (i + 1)).filter p = (L.take i).filter p ++ [L.getD i ⟨0, 0, 0, 0⟩].filter p := fun p i hi => by
    rw [take_succD ⟨0, 0, 0, 0⟩ hi, List.filter_append]
  have hle : ∀ (p : Lif → Bool) i, ((L.take i).filter p).length ≤ L.length := fun p i => Nat.le_trans (List.length_filter_le _ _) (by rw [List.length_take]; exact Nat.min_le_right _ _)
  refine ⟨rfl, rfl, rfl, fun i hI hf => ?_, fun i hI hf hp => ?_, fun i hI hf hp => ?_, by rw [List.take_length], by rw [List.take_length], by rw [List.take_length], fun i => ?_, fun i => ⟨hle _ i, hle _ i⟩⟩
  · have e1 := filt1_yes (p := fulB lo hi) (x := L.getD i ⟨0, 0, 0, 0⟩) (decide_eq_true hf)
    have e2 := filt1_no (p := parB lo hi) (x := L.getD i ⟨0, 0, 0, 0⟩) (decide_eq_false fun q => q.1 hf)
    have hm : L.getD i ⟨0, 0, 0, 0⟩ ∈ L := getD_memI hI
    refine ⟨?_, ?_, ?_, (h.lf _ hm).2⟩
    · show ((L.take (i + 1)).filter _).length = _; rw [hfl _ i hI, e1, List.length_append]; rfl
    · show (L.take (i + 1)).filter _ = _; rw [hfl _ i hI, e2, List.append_nil]
    · show unis s ((L.take (i + 1)).filter _) = _; rw [hfl _ i hI, e1]; unfold unis; rw [List.foldl_append]; rfl
  · have e1 := filt1_no (p := fulB lo hi) (x := L.getD i ⟨0, 0, 0, 0⟩) (decide_eq_false hf)
    have e2 := filt1_yes (p := parB lo hi) (x := L.getD i ⟨0, 0, 0, 0⟩) (decide_eq_true ⟨hf, hp⟩)
    refine ⟨?_, ?_, ?_⟩
    · show (L.take (i + 1)).filter _ = _; rw [hfl _ i hI, e1, List.append_nil]
    · show (L.take (i + 1)).filter _ = _; rw [hfl _ i hI, e2]
    · show unis s ((L.take (i + 1)).filter _) = _; rw [hfl _ i hI, e1, List.append_nil]
  · have e1 := filt1_no (p := fulB lo hi) (x := L.getD i ⟨0, 0, 0, 0⟩) (decide_eq_false hf)
    have e2 := filt1_no (p := parB lo hi) (x := L.getD i ⟨0, 0, 0, 0⟩) (decide_eq_false fun q => hp q.2)
    refine ⟨?_, ?_, ?_⟩
    · show (L.take (i + 1)).filter _ = _; rw [hfl _ i hI, e1, List.append_nil]
    · show (L.take (i + 1)).filter _ = _; rw [hfl _ i hI, e2, List.append_nil]
    · show unis s ((L.take (i + 1)).filter _) = _; rw [hfl _ i hI, e1, List.append_nil]
  · have := unis_ok ((L.take i).filter (fulB lo hi)) s E0 h.sv h.pl (by have := hle (fulB lo hi) i; have := h.st; omega) h.lc fun l hl => (h.lf l (List.take_subset _ _ (List.mem_filter.1 hl).1)).2
    exact ⟨this.1, this.2.1⟩
theorem ans_ask {n : Int} {ops : List Oper1} {k : Nat} (h : (ops.getD k oD).K = 3) : ans n ops (k + 1) = ans n ops k ++ [decide (cn n (gAt n (ops.take k)) (ops.getD k oD).A (ops.getD k oD).B)] := by
  show (if _ then _ else _) = _
  rw [if_pos h]
theorem ans_no {n : Int} {ops : List Oper1} {k : Nat} (h : (ops.getD k oD).K ≠ 3) : ans n ops (k + 1) = ans n ops k := by
  show (if _ then _ else _) = _
  rw [if_neg h]
theorem ask_ok {n : Int} {ops : List Oper1} (h : OV n ops) {k : Nat} (hk : k < ops.length) (h3 : (ops.getD k oD).K = 3) : GN n (gAt n (ops.take k)) (ops.getD k oD).A ∧ GN n (gAt n (ops.take k)) (ops.getD k oD).B := by
  rcases (h.step hk).1 with ⟨h5, _⟩ | ⟨h5, _⟩ | ⟨_, _, h5⟩
  · omega
  · omega
  · exact h5
theorem bounds_pow {a b d : Nat} (h : b - a ≤ 2 ^ (d + 1)) (hab : a + 1 < b) : (a + b) / 2 - a ≤ 2 ^ d ∧ b - (a + b) / 2 ≤ 2 ^ d := by
  have : 2 ^ (d + 1) = 2 * 2 ^ d := by rw [Nat.pow_succ]; omega
  omega
def oTok (o : Option (Value × Value × Value)) (c : SS) : List Tok := match o with
  | none => []
  | some (a, b, e) => [Tok.own a c.P, Tok.own b c.Z, Tok.own e c.S]
def oCel (vP vZ vS : Value) (o : Option (Value × Value × Value)) : List Value := match o with
  | none => [vP, vZ, vS]
  | some (a, b, e) => [a, b, e]
set_option linter.unusedVariables false set_option linter.unusedSimpArgs false attribute [local irreducible] Tok.own Tok.blk RL Rd eptr WP WPL PE WPD WPO Op1 OpE Tri Again Mid Exit.then Exit.inBlock bodyPost RP Code.wp wpList isOwn OneM One
attribute [local irreducible] SV OV ans gAt unis spsum lb uni cn fullA partA
set_option maxHeartbeats 16000000

def aheadOk (d : Nat) : Prop := ∀ (w : World) (vL vV vP vZ vS vo : Value) (n : Int) (ops : List Oper1) (L : List Lif) (lo hi : Nat) (s : SS) (E0 : List E) (wk : Nat),
    OV n ops → lo < hi → hi ≤ ops.length → hi - lo ≤ 2 ^ d → AH n ops lo hi L s E0 → wk + spsum L d lo hi ≤ 1000000 →
    RL w vL ops → RL w vV L → RL w vP s.P → RL w vZ s.Z → RL w vS s.S →
    (∀ b ∈ vfp vL, b ∉ vfp vo) → (∀ b ∈ vfp vV, b ∉ vfp vo) → (∀ b ∈ vfp vP, b ∉ vfp vo) → (∀ b ∈ vfp vZ, b ∉ vfp vo) → (∀ b ∈ vfp vS, b ∉ vfp vo) →
    Tri Try.prog 73 [vL, vV, .int .i64 lo, .int .i64 hi, setV vP vZ vS, vo, .int .i64 wk] w [Tok.own vo (ans n ops lo)] fun r T => ∃ vo', r = .tuple #[vo', .int .i64 ((wk + spsum L d lo hi : Nat) : Int)] ∧ T = [Tok.own vo' (ans n ops hi)]

theorem s_Ahead1 (d : Nat) (ih : ∀ e, e < d → aheadOk e) : aheadOk d := by
  intro w vL vV vP vZ vS vo n ops L lo hi s E0 wk hv hlo hhi hd hAH hwk hL hV hP hZ hS dL dV dP dZ dS
  have hle := hv.le
  have hLl : L.length ≤ 64 := by have := hAH.st; omega
  have hlF : ∀ l ∈ L, l.F < l.T := fun l hl => (hAH.lf l hl).1
  obtain ⟨fl, pl, cu, D⟩ := ahead_data hAH
  have hun := hAH.unis
  have hal := ans_len n ops lo
  have hfE := D.fE
  have hleaf : hi = lo + 1 → spsum L d lo hi = (fl L.length).length := fun e => by
    rw [hfE, e]
    have := spsum_leaf (d := d) (lo := lo) hlF
    rw [show ((lo + 1 : Nat) : Int) = (lo : Int) + 1 by omega]
    exact this
  have hwf : ∀ i, wk + (fl i).length ≤ 1000064 := fun i => by have := (D.le i).1; omega
  have hA1 : RdA ⟨124, w, fps [Tok.own vo (ans n ops lo)]⟩ vL ops := RdA.mk hL (by rw [fps_own]; exact dL)
  have hA2 : RdA ⟨124, w, fps [Tok.own vo (ans n ops lo)]⟩ vV L := RdA.mk hV (by rw [fps_own]; exact dV)
  have hA3 : RdA ⟨124, w, fps [Tok.own vo (ans n ops lo)]⟩ vP s.P := RdA.mk hP (by rw [fps_own]; exact dP)
  have hA4 : RdA ⟨124, w, fps [Tok.own vo (ans n ops lo)]⟩ vZ s.Z := RdA.mk hZ (by rw [fps_own]; exact dZ)
  have hA5 : RdA ⟨124, w, fps [Tok.own vo (ans n ops lo)]⟩ vS s.S := RdA.mk hS (by rw [fps_own]; exact dS)
  have mL : ∀ b ∈ vfp vL, b ∉ fps [Tok.own vo (ans n ops lo)] := by rw [fps_own]; exact dL
  have mP : ∀ b ∈ vfp vP, b ∉ fps [Tok.own vo (ans n ops lo)] := by rw [fps_own]; exact dP
  have mZ : ∀ b ∈ vfp vZ, b ∉ fps [Tok.own vo (ans n ops lo)] := by rw [fps_own]; exact dZ
  have mS : ∀ b ∈ vfp vS, b ∉ fps [Tok.own vo (ans n ops lo)] := by rw [fps_own]; exact dS
  refine Tri.intro (hf := Try.func73) (hb := rfl) (hn := Try.ntmps73) (Nat.le_of_ble_eq_true rfl) ?_
  try refine goA ⟨?_⟩
  refine WPL.eff (OpE.box rfl) rfl rfl ?_; rintro _ _ ⟨b11, rfl, rfl⟩
  try refine goA ⟨?_⟩
  refine WPL.eff (OpE.buildSlice ([] : List Lif) pA rfl (by decide)) rfl rfl ?_; rintro s0 _ rfl
  try refine goA ⟨?_⟩
  refine WP.loop (σ := Nat × Option (Value × Value × Value) × Value) (fun q => [(0, vL), (1, vV), (2, .int .i64 lo), (3, .int .i64 hi), (5, vo), (6, .int .i64 ((wk + (fl q.1).length : Nat) : Int)), (11, ptrV b11), (16, q.2.2), (17, .int .i64 q.1)])
    (fun q => Tok.blk b11 (oCel vP vZ vS q.2.1) :: (oTok q.2.1 (cu q.1) ++ [Tok.own q.2.2 (pl q.1), Tok.own vo (ans n ops lo)])) (fun q => q.1 ≤ L.length ∧ (q.2.1 = none → cu q.1 = s)) (fun q => L.length - q.1) (0, none, s0) ⟨Nat.zero_le _, fun _ => D.c0⟩ ?_ ?_ ?_
  · dsimp only; rw [D.f0]; exact sE
  · dsimp only [oCel, oTok, List.nil_append]; rw [D.p0]; exact sT
  rintro ⟨i, o, vf⟩ ⟨hi0, ho⟩
  dsimp only at hi0 ho ⊢
  have hpli := (D.le i).2
  have hwi := hwf i
  have hsv := (D.sv i).1
  have hsn := (D.sv i).2
  have hinv := hsv.inv
  have hs16 : (cu i).P.length ≤ 16 := by unfold SV at hsv; exact hsv.2.1
  rcases o with _ | ⟨u1, u2, u3⟩
  · have hcu := ho rfl
    have hB3 : RdA ⟨124, w, fps [Tok.own vo (ans n ops lo)]⟩ vP (cu i).P := by rw [hcu]; exact hA3
    have hB4 : RdA ⟨124, w, fps [Tok.own vo (ans n ops lo)]⟩ vZ (cu i).Z := by rw [hcu]; exact hA4
    have hB5 : RdA ⟨124, w, fps [Tok.own vo (ans n ops lo)]⟩ vS (cu i).S := by rw [hcu]; exact hA5
    dsimp only [oCel, oTok, List.cons_append, List.nil_append]
    try refine goA ⟨?_⟩
    refine WP.condD rfl (fun hc => ?_) (fun hc => ?_)
    · have hi1 : i < L.length := by omega
      try refine goA ⟨?_⟩
      refine WPL.eff OpE.alloc rfl rfl ?_; rintro _ _ ⟨b18, rfl, rfl⟩
      try refine goA ⟨?_⟩
      refine WPL.splitD rfl rfl (fun c1 => ?_) (fun c1 => ?_)
      · have c1 : (L.getD i ⟨0, 0, 0, 0⟩).F ≤ (lo : Int) := c1
        try refine goA ⟨?_⟩
        refine WP.condD rfl (fun c2 => ?_) (fun c2 => ?_)
        · have c2 : (L.getD i ⟨0, 0, 0, 0⟩).T ≥ (hi : Int) := c2
          have hf : fullA L lo hi i := by unfold fullA; exact ⟨c1, c2⟩
          obtain ⟨g1, g2, g3, nA, nB⟩ := D.sF i hi1 hf
          rw [← hsn] at nA nB
          have g1 : ((wk + (fl i).length : Nat) : Int) + 1 = ((wk + (fl (i + 1)).length : Nat) : Int) := by omega
          try refine goA ⟨?_⟩
          refine WPL.eff (OpE.call lO (fun w hw => s_Unite _ vP vZ vS (cu i) (L.getD i ⟨0, 0, 0, 0⟩).A (L.getD i ⟨0, 0, 0, 0⟩).B (Rd.at rDA hw) (Rd.at rDA hw) (Rd.at rDA hw) hinv hs16 nA nB)) rfl rfl ?_
          rintro r _ ⟨T, ⟨a1, a2, a3, rfl, rfl⟩, rfl⟩
          rw [← g3]
          try refine goA ⟨?_⟩
          rw [g1]
          refine PE.again (i + 1, some (a1, a2, a3), vf) ?_ ?_ sE ?_
          · exact ⟨by (try dsimp only); omega, fun q => by cases q⟩
          · (try dsimp only); omega
          · dsimp only [oCel, oTok, List.cons_append, List.nil_append]; rw [g2]; exact sT
        · have c2 : ¬ (L.getD i ⟨0, 0, 0, 0⟩).T ≥ (hi : Int) := c2
          have hnf : ¬ fullA L lo hi i := by unfold fullA; exact fun q => c2 q.2
          try refine goA ⟨?_⟩
          refine WPL.splitD rfl rfl (fun c3 => ?_) (fun c3 => ?_)
          · have c3 : (L.getD i ⟨0, 0, 0, 0⟩).F < (hi : Int) := c3
            try refine goA ⟨?_⟩
            refine WP.condD rfl (fun c4 => ?_) (fun c4 => ?_)
            · have c4 : (L.getD i ⟨0, 0, 0, 0⟩).T > (lo : Int) := c4
              have hnp : partA L lo hi i := by unfold partA; exact ⟨c3, c4⟩
              obtain ⟨g1, g2, g3⟩ := D.sP i hi1 hnf hnp
              try refine goA ⟨?_⟩
              refine WPL.eff (OpE.buildSlice [L.getD i ⟨0, 0, 0, 0⟩] pA rfl (by decide)) rfl rfl ?_; rintro s1 _ rfl
              try refine goA ⟨?_⟩
              refine WPL.eff (OpE.append rfl rfl pM rD lN) rfl rfl ?_; rintro vf1 _ rfl
              rw [← g2]
              try refine goA ⟨?_⟩
              refine PE.again (i + 1, none, vf1) ?_ ?_ ?_ ?_
              · exact ⟨by (try dsimp only); omega, fun q => by dsimp only; rw [g3]; exact hcu⟩
              · (try dsimp only); omega
              · dsimp only; rw [g1]; exact sE
              · dsimp only [oCel, oTok, List.cons_append, List.nil_append]; exact sT
            · have c4 : ¬ (L.getD i ⟨0, 0, 0, 0⟩).T > (lo : Int) := c4
              have hnp : ¬ partA L lo hi i := by unfold partA; exact fun q => c4 q.2
              obtain ⟨g1, g2, g3⟩ := D.sN i hi1 hnf hnp
              try refine goA ⟨?_⟩
              refine PE.again (i + 1, none, vf) ?_ ?_ ?_ ?_
              · exact ⟨by (try dsimp only); omega, fun q => by dsimp only; rw [g3]; exact hcu⟩
              · (try dsimp only); omega
              · dsimp only; rw [g1]; exact sE
              · dsimp only [oCel, oTok, List.cons_append, List.nil_append]; rw [g2]; exact sT
          · have c3 : ¬ (L.getD i ⟨0, 0, 0, 0⟩).F < (hi : Int) := c3
            have hnp : ¬ partA L lo hi i := by unfold partA; exact fun q => c3 q.1
            obtain ⟨g1, g2, g3⟩ := D.sN i hi1 hnf hnp
            try refine goA ⟨?_⟩
            refine PE.again (i + 1, none, vf) ?_ ?_ ?_ ?_
            · exact ⟨by (try dsimp only); omega, fun q => by dsimp only; rw [g3]; exact hcu⟩
            · (try dsimp only); omega
            · dsimp only; rw [g1]; exact sE
            · dsimp only [oCel, oTok, List.cons_append, List.nil_append]; rw [g2]; exact sT
      · have c1 : ¬ (L.getD i ⟨0, 0, 0, 0⟩).F ≤ (lo : Int) := c1
        have hnf : ¬ fullA L lo hi i := by unfold fullA; exact fun q => c1 q.1
        try refine goA ⟨?_⟩
        refine WPL.splitD rfl rfl (fun c3 => ?_) (fun c3 => ?_)
        · have c3 : (L.getD i ⟨0, 0, 0, 0⟩).F < (hi : Int) := c3
          try refine goA ⟨?_⟩
          refine WP.condD rfl (fun c4 => ?_) (fun c4 => ?_)
          · have c4 : (L.getD i ⟨0, 0, 0, 0⟩).T > (lo : Int) := c4
            have hnp : partA L lo hi i := by unfold partA; exact ⟨c3, c4⟩
            obtain ⟨g1, g2, g3⟩ := D.sP i hi1 hnf hnp
            try refine goA ⟨?_⟩
            refine WPL.eff (OpE.buildSlice [L.getD i ⟨0, 0, 0, 0⟩] pA rfl (by decide)) rfl rfl ?_; rintro s1 _ rfl
            try refine goA ⟨?_⟩
            refine WPL.eff (OpE.append rfl rfl pM rD lN) rfl rfl ?_; rintro vf1 _ rfl
            rw [← g2]
            try refine goA ⟨?_⟩
            refine PE.again (i + 1, none, vf1) ?_ ?_ ?_ ?_
            · exact ⟨by (try dsimp only); omega, fun q => by dsimp only; rw [g3]; exact hcu⟩
            · (try dsimp only); omega
            · dsimp only; rw [g1]; exact sE
            · dsimp only [oCel, oTok, List.cons_append, List.nil_append]; exact sT
          · have c4 : ¬ (L.getD i ⟨0, 0, 0, 0⟩).T > (lo : Int) := c4
            have hnp : ¬ partA L lo hi i := by unfold partA; exact fun q => c4 q.2
            obtain ⟨g1, g2, g3⟩ := D.sN i hi1 hnf hnp
            try refine goA ⟨?_⟩
            refine PE.again (i + 1, none, vf) ?_ ?_ ?_ ?_
            · exact ⟨by (try dsimp only); omega, fun q => by dsimp only; rw [g3]; exact hcu⟩
            · (try dsimp only); omega
            · dsimp only; rw [g1]; exact sE
            · dsimp only [oCel, oTok, List.cons_append, List.nil_append]; rw [g2]; exact sT
        · have c3 : ¬ (L.getD i ⟨0, 0, 0, 0⟩).F < (hi : Int) := c3
          have hnp : ¬ partA L lo hi i := by unfold partA; exact fun q => c3 q.1
          obtain ⟨g1, g2, g3⟩ := D.sN i hi1 hnf hnp
          try refine goA ⟨?_⟩
          refine PE.again (i + 1, none, vf) ?_ ?_ ?_ ?_
          · exact ⟨by (try dsimp only); omega, fun q => by dsimp only; rw [g3]; exact hcu⟩
          · (try dsimp only); omega
          · dsimp only; rw [g1]; exact sE
          · dsimp only [oCel, oTok, List.cons_append, List.nil_append]; rw [g2]; exact sT
    · have hin : i = L.length := by omega
      subst hin
      have hcE := D.cE
      have hpE := D.pE
      have hwi := hwf L.length
      try refine goA ⟨?_⟩
      by_cases hlf : hi = lo + 1
      · have hsp := hleaf hlf
        subst hlf
        rw [decide_eq_true (show ((lo + 1 : Nat) : Int) - (lo : Int) = 1 by omega), hsp]
        try refine goA ⟨?_⟩
        refine WP.condD rfl (fun c5 => ?_) (fun c5 => ?_)
        · have c5 : (ops.getD lo oD).K = 3 := c5
          obtain ⟨kA, kB⟩ := ask_ok hv (by omega) c5
          have hlfA : AH n ops lo ((lo : Int) + 1) L s E0 := by rw [show (lo : Int) + 1 = ((lo + 1 : Nat) : Int) by omega]; exact hAH
          have hdec : decide ((lb (cu L.length)).getD (ops.getD lo oD).A.toNat 0 = (lb (cu L.length)).getD (ops.getD lo oD).B.toNat 0) = decide (cn n (gAt n (ops.take lo)) (ops.getD lo oD).A (ops.getD lo oD).B) := by
            rw [decide_eq_decide, hcE, show ((lo + 1 : Nat) : Int) = (lo : Int) + 1 by omega]
            exact hlfA.leaf (hv.at lo).okE c5 kA.2 kB.2
          have nA : Nd (cu L.length).P.length (ops.getD lo oD).A := by rw [hsn]; exact kA.2
          have nB : Nd (cu L.length).P.length (ops.getD lo oD).B := by rw [hsn]; exact kB.2
          have hans := ans_ask (n := n) c5
          try refine goA ⟨?_⟩
          refine WP.draw [Tok.blk b11 [vP, vZ, vS]] mixed ?_
          refine WPD.take 0 rfl (Op1.move rfl) rfl rfl sT kR kR kR xQP ?_
          refine WPD.take 1 rfl (by first | exact (Op1.load rfl mM (by rfl)) | exact (Op1.loadI rfl rDA lT) | exact (Op1.loadAll rfl mM (by rfl)) | exact (Op1.loadE rfl rDA lT (by rfl)) | exact (Op1.loadEAgg rfl rDA lT (by rfl))) rfl rfl sT kR kR kR xQP ?_
          refine WPD.take 2 rfl (Op1.move rfl) rfl rfl sT kR kR kR xQP ?_
          refine WPD.take 3 rfl (Op1.move rfl) rfl rfl sT kR kR kR xQP ?_
          refine WPD.take 9 rfl (by first | exact (Op1.load rfl mM (by rfl)) | exact (Op1.loadI rfl rDA lT) | exact (Op1.loadAll rfl mM (by rfl)) | exact (Op1.loadE rfl rDA lT (by rfl)) | exact (Op1.loadEAgg rfl rDA lT (by rfl))) rfl rfl sT kR kR kR xQP ?_
          refine WPD.take 10 rfl (Op1.move rfl) rfl rfl sT kR kR kR xQP ?_
          refine WPD.take 11 rfl (Op1.move rfl) rfl rfl sT kR kR kR xQP ?_
          refine WPD.take 4 rfl (by first | exact (Op1.indexAddr rfl rfl rDA lT) | exact (Op1.indexAddrZ rfl rfl rDA lT)) rfl rfl sT kR kR kR xQP ?_
          refine WPD.take 12 rfl (by first | exact (Op1.indexAddr rfl rfl rDA lT) | exact (Op1.indexAddrZ rfl rfl rDA lT)) rfl rfl sT kR kR kR xQP ?_
          refine WPD.take 5 rfl (by first | exact (Op1.fieldAddr rfl) | exact (Op1.fieldAddrE rfl rDA lT)) rfl rfl sT kR kR kR xQP ?_
          refine WPD.take 13 rfl (by first | exact (Op1.fieldAddr rfl) | exact (Op1.fieldAddrE rfl rDA lT)) rfl rfl sT kR kR kR xQP ?_
          refine WPD.take 6 rfl (by first | exact (Op1.fieldAddr rfl) | exact (Op1.fieldAddrE rfl rDA lT)) rfl rfl sT kR kR kR xQP ?_
          refine WPD.take 14 rfl (by first | exact (Op1.fieldAddr rfl) | exact (Op1.fieldAddrE rfl rDA lT)) rfl rfl sT kR kR kR xQP ?_
          refine WPD.take 7 rfl (Op1.loadOA rfl rDA lT) rfl rfl sT kR kR kR xQP ?_
          refine WPD.take 15 rfl (Op1.loadOB rfl rDA lT) rfl rfl sT kR kR kR xQP ?_
          refine WPD.eff 8 kR rfl (OpE.call lO (fun w hw => s_Root _ vP vZ vS (cu L.length).P.length (cu L.length) (lb (cu L.length)) (ops.getD lo oD).A (Rd.at rDA hw) (Rd.at rDA hw) (Rd.at rDA hw) hinv hs16 nA)) rfl rfl ?_
          rintro r _ ⟨T, ⟨rfl, rfl⟩, rfl⟩
          refine ⟨sT, ?_⟩
          refine WPD.eff 16 kR rfl (OpE.call lO (fun w hw => s_Root _ vP vZ vS (cu L.length).P.length (cu L.length) (lb (cu L.length)) (ops.getD lo oD).B (Rd.at rDA hw) (Rd.at rDA hw) (Rd.at rDA hw) hinv hs16 nB)) rfl rfl ?_
          rintro r _ ⟨T, ⟨rfl, rfl⟩, rfl⟩
          refine ⟨sT, ?_⟩
          refine WPD.take 17 rfl (Op1.eqI rfl rfl) rfl rfl sT kR kR kR xQP ?_
          rw [hdec]
          refine WPD.eff 18 kR rfl (OpE.buildSlice ([decide (cn n (gAt n (ops.take lo)) (ops.getD lo oD).A (ops.getD lo oD).B)]) pA rfl (by decide)) rfl rfl ?_
          rintro sB _ rfl
          refine ⟨sT, ?_⟩
          refine WPD.eff 19 kR rfl (OpE.append rfl rfl pM rDA lN) rfl rfl ?_
          rintro vo1 _ rfl
          refine ⟨sT, ?_⟩
          rw [← hans]
          refine WPD.take 20 rfl (Op1.assign rfl) rfl rfl sT kR kR kR xQP ?_
          refine WPD.done kR ?_
          all_goals (
            try refine goA ⟨?_⟩
            refine PE.ret2 (T := [Tok.own vo (ans n ops lo)]) (T' := [Tok.own vo1 (ans n ops (lo + 1))]) rfl rV ?_ sT2
            exact ⟨vo1, rfl, rfl⟩)
        · have c5 : (ops.getD lo oD).K ≠ 3 := c5
          rw [ans_no (n := n) c5]
          try refine goA ⟨?_⟩
          refine PE.ret2 (T := [Tok.own vo (ans n ops lo)]) (T' := [Tok.own vo (ans n ops lo)]) rfl rV ?_ sT2
          exact ⟨vo, rfl, rfl⟩
      obtain ⟨k, rfl⟩ : ∃ k, d = k + 1 := by
        cases d with
        | zero => rw [Nat.pow_zero] at hd; omega
        | succ k => exact ⟨k, rfl⟩
      obtain ⟨q1, q2⟩ := bounds_pow hd (by omega)
      have hspl := spsum_split (d := k) (lo := lo) (hi := hi) hlF (by omega)
      have em : ((lo : Int) + (hi : Int)) / 2 = (((lo + hi) / 2 : Nat) : Int) := by omega
      obtain ⟨m, hm⟩ : ∃ m, m = (lo + hi) / 2 := ⟨_, rfl⟩
      rw [em, ← hfE, ← hpE] at hspl
      rw [← hm] at em q1 q2 hspl
      have hAH1 := hAH.down (lo' := lo) (hi' := m) (by omega) (by omega)
      have hAH2 := hAH.down (lo' := m) (hi' := hi) (by omega) (by omega)
      rw [← hpE, ← hcE] at hAH1 hAH2
      rw [decide_eq_false (show ¬ (hi : Int) - (lo : Int) = 1 by omega)]
      try refine goA ⟨?_⟩
      rw [em]
      refine WPL.eff (OpE.callT (T := [Tok.own vo (ans n ops lo)]) lO pM2 (fun w hw => ih k (by omega) _ vL vf vP vZ vS vo n ops (pl L.length) lo m (cu L.length) _ (wk + (fl L.length).length) hv (by omega) (by omega) q1 hAH1 (by omega) (Rd.at rDA hw) (Rd.at rDA hw) (Rd.at rDA hw) (Rd.at rDA hw) (Rd.at rDA hw) (hw.arg_own hL mL mM) (hw.own_own pM mM) (hw.arg_own hP mP mM) (hw.arg_own hZ mZ mM) (hw.arg_own hS mS mM))) rfl rfl ?_
      rintro _ _ ⟨T, ⟨vo1, rfl, rfl⟩, rfl⟩
      try refine goA ⟨?_⟩
      refine WPL.eff (OpE.callT (T := [Tok.own vo1 (ans n ops m)]) lO pM2 (fun w hw => ih k (by omega) _ vL vf vP vZ vS vo1 n ops (pl L.length) m hi (cu L.length) _ (wk + (fl L.length).length + spsum (pl L.length) k lo m) hv (by omega) (by omega) q2 hAH2 (by omega) (Rd.at rDA hw) (Rd.at rDA hw) (Rd.at rDA hw) (Rd.at rDA hw) (Rd.at rDA hw) (hw.arg_own hL mL mM) (hw.own_own pM mM) (hw.arg_own hP mP mM) (hw.arg_own hZ mZ mM) (hw.arg_own hS mS mM))) rfl rfl ?_
      rintro _ _ ⟨T, ⟨vo2, rfl, rfl⟩, rfl⟩
      rw [show wk + (fl L.length).length + spsum (pl L.length) k lo m + spsum (pl L.length) k m hi = wk + spsum L (k + 1) lo hi by rw [hspl]; omega]
      try refine goA ⟨?_⟩
      refine PE.ret2 (T := [Tok.own vo (ans n ops lo)]) (T' := [Tok.own vo2 (ans n ops hi)]) rfl rV ?_ sT2
      exact ⟨vo2, rfl, rfl⟩
  · dsimp only [oCel, oTok, List.cons_append, List.nil_append]
    try refine goA ⟨?_⟩
    refine WP.condD rfl (fun hc => ?_) (fun hc => ?_)
    · have hi1 : i < L.length := by omega
      try refine goA ⟨?_⟩
      refine WPL.eff OpE.alloc rfl rfl ?_; rintro _ _ ⟨b18, rfl, rfl⟩
      try refine goA ⟨?_⟩
      refine WPL.splitD rfl rfl (fun c1 => ?_) (fun c1 => ?_)
      · have c1 : (L.getD i ⟨0, 0, 0, 0⟩).F ≤ (lo : Int) := c1
        try refine goA ⟨?_⟩
        refine WP.condD rfl (fun c2 => ?_) (fun c2 => ?_)
        · have c2 : (L.getD i ⟨0, 0, 0, 0⟩).T ≥ (hi : Int) := c2
          have hf : fullA L lo hi i := by unfold fullA; exact ⟨c1, c2⟩
          obtain ⟨g1, g2, g3, nA, nB⟩ := D.sF i hi1 hf
          rw [← hsn] at nA nB
          have g1 : ((wk + (fl i).length : Nat) : Int) + 1 = ((wk + (fl (i + 1)).length : Nat) : Int) := by omega
          try refine goA ⟨?_⟩
          refine WPL.eff (OpE.call lO (fun w hw => s_Unite _ u1 u2 u3 (cu i) (L.getD i ⟨0, 0, 0, 0⟩).A (L.getD i ⟨0, 0, 0, 0⟩).B (Rd.at rDA hw) (Rd.at rDA hw) (Rd.at rDA hw) hinv hs16 nA nB)) rfl rfl ?_
          rintro r _ ⟨T, ⟨a1, a2, a3, rfl, rfl⟩, rfl⟩
          rw [← g3]
          try refine goA ⟨?_⟩
          rw [g1]
          refine PE.again (i + 1, some (a1, a2, a3), vf) ?_ ?_ sE ?_
          · exact ⟨by (try dsimp only); omega, fun q => by cases q⟩
          · (try dsimp only); omega
          · dsimp only [oCel, oTok, List.cons_append, List.nil_append]; rw [g2]; exact sT
        · have c2 : ¬ (L.getD i ⟨0, 0, 0, 0⟩).T ≥ (hi : Int) := c2
          have hnf : ¬ fullA L lo hi i := by unfold fullA; exact fun q => c2 q.2
          try refine goA ⟨?_⟩
          refine WPL.splitD rfl rfl (fun c3 => ?_) (fun c3 => ?_)
          · have c3 : (L.getD i ⟨0, 0, 0, 0⟩).F < (hi : Int) := c3
            try refine goA ⟨?_⟩
            refine WP.condD rfl (fun c4 => ?_) (fun c4 => ?_)
            · have c4 : (L.getD i ⟨0, 0, 0, 0⟩).T > (lo : Int) := c4
              have hnp : partA L lo hi i := by unfold partA; exact ⟨c3, c4⟩
              obtain ⟨g1, g2, g3⟩ := D.sP i hi1 hnf hnp
              try refine goA ⟨?_⟩
              refine WPL.eff (OpE.buildSlice [L.getD i ⟨0, 0, 0, 0⟩] pA rfl (by decide)) rfl rfl ?_; rintro s1 _ rfl
              try refine goA ⟨?_⟩
              refine WPL.eff (OpE.append rfl rfl pM rD lN) rfl rfl ?_; rintro vf1 _ rfl
              rw [← g2]
              try refine goA ⟨?_⟩
              refine PE.again (i + 1, some (u1, u2, u3), vf1) ?_ ?_ ?_ ?_
              · exact ⟨by (try dsimp only); omega, fun q => by cases q⟩
              · (try dsimp only); omega
              · dsimp only; rw [g1]; exact sE
              · dsimp only [oCel, oTok, List.cons_append, List.nil_append]; rw [g3]; exact sT
            · have c4 : ¬ (L.getD i ⟨0, 0, 0, 0⟩).T > (lo : Int) := c4
              have hnp : ¬ partA L lo hi i := by unfold partA; exact fun q => c4 q.2
              obtain ⟨g1, g2, g3⟩ := D.sN i hi1 hnf hnp
              try refine goA ⟨?_⟩
              refine PE.again (i + 1, some (u1, u2, u3), vf) ?_ ?_ ?_ ?_
              · exact ⟨by (try dsimp only); omega, fun q => by cases q⟩
              · (try dsimp only); omega
              · dsimp only; rw [g1]; exact sE
              · dsimp only [oCel, oTok, List.cons_append, List.nil_append]; rw [g2, g3]; exact sT
          · have c3 : ¬ (L.getD i ⟨0, 0, 0, 0⟩).F < (hi : Int) := c3
            have hnp : ¬ partA L lo hi i := by unfold partA; exact fun q => c3 q.1
            obtain ⟨g1, g2, g3⟩ := D.sN i hi1 hnf hnp
            try refine goA ⟨?_⟩
            refine PE.again (i + 1, some (u1, u2, u3), vf) ?_ ?_ ?_ ?_
            · exact ⟨by (try dsimp only); omega, fun q => by cases q⟩
            · (try dsimp only); omega
            · dsimp only; rw [g1]; exact sE
            · dsimp only [oCel, oTok, List.cons_append, List.nil_append]; rw [g2, g3]; exact sT
      · have c1 : ¬ (L.getD i ⟨0, 0, 0, 0⟩).F ≤ (lo : Int) := c1
        have hnf : ¬ fullA L lo hi i := by unfold fullA; exact fun q => c1 q.1
        try refine goA ⟨?_⟩
        refine WPL.splitD rfl rfl (fun c3 => ?_) (fun c3 => ?_)
        · have c3 : (L.getD i ⟨0, 0, 0, 0⟩).F < (hi : Int) := c3
          try refine goA ⟨?_⟩
          refine WP.condD rfl (fun c4 => ?_) (fun c4 => ?_)
          · have c4 : (L.getD i ⟨0, 0, 0, 0⟩).T > (lo : Int) := c4
            have hnp : partA L lo hi i := by unfold partA; exact ⟨c3, c4⟩
            obtain ⟨g1, g2, g3⟩ := D.sP i hi1 hnf hnp
            try refine goA ⟨?_⟩
            refine WPL.eff (OpE.buildSlice [L.getD i ⟨0, 0, 0, 0⟩] pA rfl (by decide)) rfl rfl ?_; rintro s1 _ rfl
            try refine goA ⟨?_⟩
            refine WPL.eff (OpE.append rfl rfl pM rD lN) rfl rfl ?_; rintro vf1 _ rfl
            rw [← g2]
            try refine goA ⟨?_⟩
            refine PE.again (i + 1, some (u1, u2, u3), vf1) ?_ ?_ ?_ ?_
            · exact ⟨by (try dsimp only); omega, fun q => by cases q⟩
            · (try dsimp only); omega
            · dsimp only; rw [g1]; exact sE
            · dsimp only [oCel, oTok, List.cons_append, List.nil_append]; rw [g3]; exact sT
          · have c4 : ¬ (L.getD i ⟨0, 0, 0, 0⟩).T > (lo : Int) := c4
            have hnp : ¬ partA L lo hi i := by unfold partA; exact fun q => c4 q.2
            obtain ⟨g1, g2, g3⟩ := D.sN i hi1 hnf hnp
            try refine goA ⟨?_⟩
            refine PE.again (i + 1, some (u1, u2, u3), vf) ?_ ?_ ?_ ?_
            · exact ⟨by (try dsimp only); omega, fun q => by cases q⟩
            · (try dsimp only); omega
            · dsimp only; rw [g1]; exact sE
            · dsimp only [oCel, oTok, List.cons_append, List.nil_append]; rw [g2, g3]; exact sT
        · have c3 : ¬ (L.getD i ⟨0, 0, 0, 0⟩).F < (hi : Int) := c3
          have hnp : ¬ partA L lo hi i := by unfold partA; exact fun q => c3 q.1
          obtain ⟨g1, g2, g3⟩ := D.sN i hi1 hnf hnp
          try refine goA ⟨?_⟩
          refine PE.again (i + 1, some (u1, u2, u3), vf) ?_ ?_ ?_ ?_
          · exact ⟨by (try dsimp only); omega, fun q => by cases q⟩
          · (try dsimp only); omega
          · dsimp only; rw [g1]; exact sE
          · dsimp only [oCel, oTok, List.cons_append, List.nil_append]; rw [g2, g3]; exact sT
    · have hin : i = L.length := by omega
      subst hin
      have hcE := D.cE
      have hpE := D.pE
      have hwi := hwf L.length
      try refine goA ⟨?_⟩
      by_cases hlf : hi = lo + 1
      · have hsp := hleaf hlf
        subst hlf
        rw [decide_eq_true (show ((lo + 1 : Nat) : Int) - (lo : Int) = 1 by omega), hsp]
        try refine goA ⟨?_⟩
        refine WP.condD rfl (fun c5 => ?_) (fun c5 => ?_)
        · have c5 : (ops.getD lo oD).K = 3 := c5
          obtain ⟨kA, kB⟩ := ask_ok hv (by omega) c5
          have hlfA : AH n ops lo ((lo : Int) + 1) L s E0 := by rw [show (lo : Int) + 1 = ((lo + 1 : Nat) : Int) by omega]; exact hAH
          have hdec : decide ((lb (cu L.length)).getD (ops.getD lo oD).A.toNat 0 = (lb (cu L.length)).getD (ops.getD lo oD).B.toNat 0) = decide (cn n (gAt n (ops.take lo)) (ops.getD lo oD).A (ops.getD lo oD).B) := by
            rw [decide_eq_decide, hcE, show ((lo + 1 : Nat) : Int) = (lo : Int) + 1 by omega]
            exact hlfA.leaf (hv.at lo).okE c5 kA.2 kB.2
          have nA : Nd (cu L.length).P.length (ops.getD lo oD).A := by rw [hsn]; exact kA.2
          have nB : Nd (cu L.length).P.length (ops.getD lo oD).B := by rw [hsn]; exact kB.2
          have hans := ans_ask (n := n) c5
          try refine goA ⟨?_⟩
          refine WP.draw [Tok.blk b11 [u1, u2, u3], Tok.own u1 (cu L.length).P, Tok.own u2 (cu L.length).Z, Tok.own u3 (cu L.length).S] mixed ?_
          refine WPD.take 0 rfl (Op1.move rfl) rfl rfl sT kR kR kR xQP ?_
          refine WPD.take 1 rfl (by first | exact (Op1.load rfl mM (by rfl)) | exact (Op1.loadI rfl rDA lT) | exact (Op1.loadAll rfl mM (by rfl)) | exact (Op1.loadE rfl rDA lT (by rfl)) | exact (Op1.loadEAgg rfl rDA lT (by rfl))) rfl rfl sT kR kR kR xQP ?_
          refine WPD.take 2 rfl (Op1.move rfl) rfl rfl sT kR kR kR xQP ?_
          refine WPD.take 3 rfl (Op1.move rfl) rfl rfl sT kR kR kR xQP ?_
          refine WPD.take 9 rfl (by first | exact (Op1.load rfl mM (by rfl)) | exact (Op1.loadI rfl rDA lT) | exact (Op1.loadAll rfl mM (by rfl)) | exact (Op1.loadE rfl rDA lT (by rfl)) | exact (Op1.loadEAgg rfl rDA lT (by rfl))) rfl rfl sT kR kR kR xQP ?_
          refine WPD.take 10 rfl (Op1.move rfl) rfl rfl sT kR kR kR xQP ?_
          refine WPD.take 11 rfl (Op1.move rfl) rfl rfl sT kR kR kR xQP ?_
          refine WPD.take 4 rfl (by first | exact (Op1.indexAddr rfl rfl rDA lT) | exact (Op1.indexAddrZ rfl rfl rDA lT)) rfl rfl sT kR kR kR xQP ?_
          refine WPD.take 12 rfl (by first | exact (Op1.indexAddr rfl rfl rDA lT) | exact (Op1.indexAddrZ rfl rfl rDA lT)) rfl rfl sT kR kR kR xQP ?_
          refine WPD.take 5 rfl (by first | exact (Op1.fieldAddr rfl) | exact (Op1.fieldAddrE rfl rDA lT)) rfl rfl sT kR kR kR xQP ?_
          refine WPD.take 13 rfl (by first | exact (Op1.fieldAddr rfl) | exact (Op1.fieldAddrE rfl rDA lT)) rfl rfl sT kR kR kR xQP ?_
          refine WPD.take 6 rfl (by first | exact (Op1.fieldAddr rfl) | exact (Op1.fieldAddrE rfl rDA lT)) rfl rfl sT kR kR kR xQP ?_
          refine WPD.take 14 rfl (by first | exact (Op1.fieldAddr rfl) | exact (Op1.fieldAddrE rfl rDA lT)) rfl rfl sT kR kR kR xQP ?_
          refine WPD.take 7 rfl (Op1.loadOA rfl rDA lT) rfl rfl sT kR kR kR xQP ?_
          refine WPD.take 15 rfl (Op1.loadOB rfl rDA lT) rfl rfl sT kR kR kR xQP ?_
          refine WPD.eff 8 kR rfl (OpE.call lO (fun w hw => s_Root _ u1 u2 u3 (cu L.length).P.length (cu L.length) (lb (cu L.length)) (ops.getD lo oD).A (Rd.at rDA hw) (Rd.at rDA hw) (Rd.at rDA hw) hinv hs16 nA)) rfl rfl ?_
          rintro r _ ⟨T, ⟨rfl, rfl⟩, rfl⟩
          refine ⟨sT, ?_⟩
          refine WPD.eff 16 kR rfl (OpE.call lO (fun w hw => s_Root _ u1 u2 u3 (cu L.length).P.length (cu L.length) (lb (cu L.length)) (ops.getD lo oD).B (Rd.at rDA hw) (Rd.at rDA hw) (Rd.at rDA hw) hinv hs16 nB)) rfl rfl ?_
          rintro r _ ⟨T, ⟨rfl, rfl⟩, rfl⟩
          refine ⟨sT, ?_⟩
          refine WPD.take 17 rfl (Op1.eqI rfl rfl) rfl rfl sT kR kR kR xQP ?_
          rw [hdec]
          refine WPD.eff 18 kR rfl (OpE.buildSlice ([decide (cn n (gAt n (ops.take lo)) (ops.getD lo oD).A (ops.getD lo oD).B)]) pA rfl (by decide)) rfl rfl ?_
          rintro sB _ rfl
          refine ⟨sT, ?_⟩
          refine WPD.eff 19 kR rfl (OpE.append rfl rfl pM rDA lN) rfl rfl ?_
          rintro vo1 _ rfl
          refine ⟨sT, ?_⟩
          rw [← hans]
          refine WPD.take 20 rfl (Op1.assign rfl) rfl rfl sT kR kR kR xQP ?_
          refine WPD.done kR ?_
          all_goals (
            try refine goA ⟨?_⟩
            refine PE.ret2 (T := [Tok.own vo (ans n ops lo)]) (T' := [Tok.own vo1 (ans n ops (lo + 1))]) rfl rV ?_ sT2
            exact ⟨vo1, rfl, rfl⟩)
        · have c5 : (ops.getD lo oD).K ≠ 3 := c5
          rw [ans_no (n := n) c5]
          try refine goA ⟨?_⟩
          refine PE.ret2 (T := [Tok.own vo (ans n ops lo)]) (T' := [Tok.own vo (ans n ops lo)]) rfl rV ?_ sT2
          exact ⟨vo, rfl, rfl⟩
      obtain ⟨k, rfl⟩ : ∃ k, d = k + 1 := by
        cases d with
        | zero => rw [Nat.pow_zero] at hd; omega
        | succ k => exact ⟨k, rfl⟩
      obtain ⟨q1, q2⟩ := bounds_pow hd (by omega)
      have hspl := spsum_split (d := k) (lo := lo) (hi := hi) hlF (by omega)
      have em : ((lo : Int) + (hi : Int)) / 2 = (((lo + hi) / 2 : Nat) : Int) := by omega
      obtain ⟨m, hm⟩ : ∃ m, m = (lo + hi) / 2 := ⟨_, rfl⟩
      rw [em, ← hfE, ← hpE] at hspl
      rw [← hm] at em q1 q2 hspl
      have hAH1 := hAH.down (lo' := lo) (hi' := m) (by omega) (by omega)
      have hAH2 := hAH.down (lo' := m) (hi' := hi) (by omega) (by omega)
      rw [← hpE, ← hcE] at hAH1 hAH2
      rw [decide_eq_false (show ¬ (hi : Int) - (lo : Int) = 1 by omega)]
      try refine goA ⟨?_⟩
      rw [em]
      refine WPL.eff (OpE.callT (T := [Tok.own vo (ans n ops lo)]) lO pM2 (fun w hw => ih k (by omega) _ vL vf u1 u2 u3 vo n ops (pl L.length) lo m (cu L.length) _ (wk + (fl L.length).length) hv (by omega) (by omega) q1 hAH1 (by omega) (Rd.at rDA hw) (Rd.at rDA hw) (Rd.at rDA hw) (Rd.at rDA hw) (Rd.at rDA hw) (hw.arg_own hL mL mM) (hw.own_own pM mM) (hw.own_own pM mM) (hw.own_own pM mM) (hw.own_own pM mM))) rfl rfl ?_
      rintro _ _ ⟨T, ⟨vo1, rfl, rfl⟩, rfl⟩
      try refine goA ⟨?_⟩
      refine WPL.eff (OpE.callT (T := [Tok.own vo1 (ans n ops m)]) lO pM2 (fun w hw => ih k (by omega) _ vL vf u1 u2 u3 vo1 n ops (pl L.length) m hi (cu L.length) _ (wk + (fl L.length).length + spsum (pl L.length) k lo m) hv (by omega) (by omega) q2 hAH2 (by omega) (Rd.at rDA hw) (Rd.at rDA hw) (Rd.at rDA hw) (Rd.at rDA hw) (Rd.at rDA hw) (hw.arg_own hL mL mM) (hw.own_own pM mM) (hw.own_own pM mM) (hw.own_own pM mM) (hw.own_own pM mM))) rfl rfl ?_
      rintro _ _ ⟨T, ⟨vo2, rfl, rfl⟩, rfl⟩
      rw [show wk + (fl L.length).length + spsum (pl L.length) k lo m + spsum (pl L.length) k m hi = wk + spsum L (k + 1) lo hi by rw [hspl]; omega]
      try refine goA ⟨?_⟩
      refine PE.ret2 (T := [Tok.own vo (ans n ops lo)]) (T' := [Tok.own vo2 (ans n ops hi)]) rfl rV ?_ sT2
      exact ⟨vo2, rfl, rfl⟩

theorem s_Ahead : ∀ d, aheadOk d := fun d => Nat.strongRecOn d fun d ih => s_Ahead1 d ih
end Go.Proofs.Ytfigegmgopnfhaa
/- Questions that are known ahead: the walk of the second program's AnswersAhead. Conditions: those of the contract. -/
namespace Go.Proofs.Ytfigegmgopnfhaa
open Go
theorem runA_ansA {n : Int} {ops : List Oper1} (h : OV n ops) : runA n ops = ans n ops ops.length := if_pos h
set_option linter.unusedVariables false set_option linter.unusedSimpArgs false attribute [local irreducible] Tok.own Tok.blk RL Rd eptr WP WPL PE WPD WPO Op1 OpE Tri Again Mid Exit.then Exit.inBlock bodyPost RP Code.wp wpList isOwn OneM One
attribute [local irreducible] SV OV livs spsum gAt
set_option maxHeartbeats 8000000

theorem s_AnswersAhead (w : World) (n : Int) (vL : Value) (ops : List Oper1) (h : RL w vL ops) (hl : ops.length ≤ 1099511627776) :
    Tri Try.prog 22 [.int .i64 n, vL] w [] fun r T => ∃ va, r = .tuple #[va, .int .i64 (wrkR n ops), .bool (decide (OV n ops))] ∧ T = [Tok.own va (runA n ops)] := by
  have bad : ¬ OV n ops → runA n ops = [] ∧ wrkR n ops = 0 := fun h => ⟨if_neg h, if_neg h⟩
  have good : OV n ops → runA n ops = ans n ops ops.length ∧ wrkR n ops = spsum (livs ops) 6 0 ops.length := fun h => ⟨if_pos h, if_pos h⟩
  have hS := s_Ahead 6
  refine Tri.intro (hf := Try.func22) (hb := rfl) (hn := Try.ntmps22) (Nat.le_of_ble_eq_true rfl) ?_
  try refine go ⟨?_⟩
  refine WPL.eff (OpE.call lO (fun w hw => s_OpsValid _ n vL ops (Rd.at rD hw) hl)) rfl rfl ?_
  rintro _ _ ⟨T, ⟨rfl, rfl⟩, rfl⟩
  by_cases hv : OV n ops
  case neg =>
    obtain ⟨e1, e2⟩ := bad hv
    rw [decide_eq_false hv, e1, e2]
    try refine go ⟨?_⟩
    refine WPL.eff (OpE.buildSlice ([] : List Bool) pA rfl (by decide)) rfl rfl ?_; rintro s0 _ rfl
    try refine go ⟨?_⟩
    refine PE.ret3 (T := []) (T' := [Tok.own s0 ([] : List Bool)]) rfl rV ?_ sT2
    exact ⟨_, rfl, rfl⟩
  obtain ⟨e1, e2⟩ := good hv
  rw [decide_eq_true hv, e1, e2]
  try refine go ⟨?_⟩
  by_cases hz : ops.length = 0
  · have hw0 : spsum (livs ops) 6 0 ops.length = 0 := by
      have := wrk_le hv
      have := livs_length ops
      unfold wrk at *
      omega
    rw [decide_eq_true (show (ops.length : Int) = 0 by omega), hw0, hz]
    try refine go ⟨?_⟩
    refine WPL.eff (OpE.buildSlice ([] : List Bool) pA rfl (by decide)) rfl rfl ?_; rintro s0 _ rfl
    try refine go ⟨?_⟩
    refine PE.ret3 (T := []) (T' := [Tok.own s0 ([] : List Bool)]) rfl rV ?_ sT2
    exact ⟨_, rfl, rfl⟩
  rw [decide_eq_false (show ¬ (ops.length : Int) = 0 by omega)]
  have hn1 := hv.n1
  have hn2 := hv.n2
  obtain ⟨m, rfl⟩ : ∃ m : Nat, n = m := ⟨n.toNat, by omega⟩
  have hAH := AH.start hv
  rw [Int.toNat_natCast] at hAH
  have hle := hv.le
  have hww := (wrk_le hv).2
  have hll := livs_length ops
  have hww : spsum (livs ops) 6 0 ops.length ≤ 12 * (livs ops).length := hww
  have h26 : ops.length - 0 ≤ 2 ^ 6 := by
    have : (2 : Nat) ^ 6 = 64 := by decide
    omega
  try refine go ⟨?_⟩
  refine WPL.eff (OpE.call lO (fun w hw => s_Lives8 _ vL ops (Rd.at rD hw) hle)) rfl rfl ?_
  rintro vV _ ⟨T, rfl, rfl⟩
  try refine go ⟨?_⟩
  refine WPL.eff (OpE.call lO (fun w hw => s_New _ m (by omega))) rfl rfl ?_
  rintro _ _ ⟨T, ⟨a, b, c, rfl, rfl⟩, rfl⟩
  try refine go ⟨?_⟩
  refine WPL.eff (OpE.buildSlice ([] : List Bool) pA rfl (by decide)) rfl rfl ?_; rintro s0 _ rfl
  try refine go ⟨?_⟩
  refine WPL.eff (OpE.callT (T := [Tok.own s0 (ans m ops 0)]) lO pM2 (fun w hw => hS _ vL vV a b c s0 m ops (livs ops) 0 ops.length (newS m) [] 0 hv (by omega) (Nat.le_refl _) h26 hAH (by show 0 + spsum (livs ops) 6 0 ops.length ≤ 1000000; omega) (Rd.at rD hw) (Rd.at rD hw) (Rd.at rD hw) (Rd.at rD hw) (Rd.at rD hw) (hw.arg_own h (by intro b _ q; cases q) mM) (hw.own_own pM mM) (hw.own_own pM mM) (hw.own_own pM mM) (hw.own_own pM mM))) rfl rfl ?_
  rintro _ _ ⟨T, ⟨vo, rfl, rfl⟩, rfl⟩
  try refine go ⟨?_⟩
  refine PE.ret3 (T := []) (T' := [Tok.own vo (ans m ops ops.length)]) rfl rV ?_ sT2
  exact ⟨vo, by rw [Nat.zero_add]; rfl, rfl⟩
end Go.Proofs.Ytfigegmgopnfhaa
