/- Graphs: the walks of connected, Connected, EdgeOf, ForestOf. Conditions: those of each contract. -/
import Derived.Test.YthlgbeakcobeoaaGra2
namespace Go.Proofs.Ythlgbeakcobeoaa
open Go
/-- Two nodes have one label. -/
def cn (n : Int) (es : List E) (x y : Int) : Prop := lab n es x = lab n es y
instance (n : Int) (es : List E) (x y : Int) : Decidable (cn n es x y) := by unfold cn; infer_instance
def fstep (n : Int) (out : List E) (e : E) : List E := if cn n out e.A e.B then out else out ++ [e]
def forestL (n : Int) (es : List E) : List E := es.foldl (fstep n) []
theorem fstep_sub {n : Int} {out : List E} {e f : E} (h : f ∈ fstep n out e) : f ∈ out ∨ f = e := by
  unfold fstep at h
  split at h
  · exact .inl h
  · simpa using h
theorem fstep_len (n : Int) (out : List E) (e : E) : (fstep n out e).length ≤ out.length + 1 := by
  unfold fstep; split <;> simp
theorem ffold_sub {n : Int} : ∀ {es out : List E} {f : E}, f ∈ es.foldl (fstep n) out → f ∈ out ∨ f ∈ es
  | [], _, _, h => .inl h
  | e :: es, out, f, h => by
    rw [List.foldl_cons] at h
    rcases ffold_sub h with h | h
    · rcases fstep_sub h with h | h
      · exact .inl h
      · exact .inr (by simp [h])
    · exact .inr (List.mem_cons_of_mem _ h)
theorem ffold_len {n : Int} : ∀ (es out : List E), (es.foldl (fstep n) out).length ≤ out.length + es.length
  | [], _ => by simp
  | e :: es, out => by
    rw [List.foldl_cons]
    have := ffold_len (n := n) es (fstep n out e)
    have := fstep_len n out e
    simp only [List.length_cons]; omega
theorem NE.fold {n : Int} {es : List E} (h : NE n es) (j : Nat) : NE n ((es.take j).foldl (fstep n) []) := by
  refine ⟨h.n1, h.n2, fun e he => ?_, ?_⟩
  · rcases ffold_sub he with h1 | h1
    · cases h1
    · exact h.ok e (List.mem_of_mem_take h1)
  · have h1 := ffold_len (n := n) (es.take j) []
    have h2 : (es.take j).length ≤ es.length := by rw [List.length_take]; omega
    have := h.le
    simp only [List.length_nil] at h1
    omega
set_option linter.unusedVariables false set_option linter.unusedSimpArgs false attribute [local irreducible] Tok.own Tok.blk RL Rd eptr WP WPL PE WPD WPO Op1 OpE Tri Again Mid Exit.then Exit.inBlock bodyPost RP Code.wp wpList isOwn OneM One
set_option maxHeartbeats 8000000

theorem c_connected (w : World) (n : Int) (vE : Value) (es : List E) (x y : Int) (hE : RL w vE es) (hg : NE n es) (hx : Nd n x) (hy : Nd n y) :
    Tri Try.prog 80 [.agg #[.int .i64 n, vE], .int .i64 x, .int .i64 y] w [] fun r T => r = .bool (decide (cn n es x y)) ∧ T = [] := by
  have hx1 := hx.1
  have hx2 := hx.2
  have hy1 := hy.1
  have hy2 := hy.2
  have hll := labs_length n es
  refine Tri.intro (hf := Try.func80) (hb := rfl) (hn := Try.ntmps80) (Nat.le_of_ble_eq_true rfl) ?_
  try refine go ⟨?_⟩
  refine WPL.eff (OpE.box rfl) rfl rfl ?_; rintro _ _ ⟨b, rfl, rfl⟩
  try refine go ⟨?_⟩
  refine WPL.eff (OpE.call lO (fun w hw => c_parts _ n vE es (Rd.at rD hw) hg)) rfl rfl ?_
  rintro r _ ⟨T, rfl, rfl⟩
  try refine go ⟨?_⟩
  refine WP.draw [Tok.own r (labs n es)] mixed ?_
  refine WPD.take 0 rfl (Op1.move rfl) rfl rfl sT kR kR kR xQP ?_
  refine WPD.take 1 rfl (Op1.move rfl) rfl rfl sT kR kR kR xQP ?_
  refine WPD.take 4 rfl (Op1.move rfl) rfl rfl sT kR kR kR xQP ?_
  refine WPD.take 5 rfl (Op1.move rfl) rfl rfl sT kR kR kR xQP ?_
  refine WPD.take 2 rfl (by first | exact (Op1.indexAddr rfl rfl rD lT) | exact (Op1.indexAddrZ rfl rfl rD lT)) rfl rfl sT kR kR kR xQP ?_
  refine WPD.take 6 rfl (by first | exact (Op1.indexAddr rfl rfl rD lT) | exact (Op1.indexAddrZ rfl rfl rD lT)) rfl rfl sT kR kR kR xQP ?_
  refine WPD.take 3 rfl (by first | exact (Op1.load rfl mM (by rfl)) | exact (Op1.loadI rfl rD lT) | exact (Op1.loadAll rfl mM (by rfl)) | exact (Op1.loadE rfl rD lT (by rfl)) | exact (Op1.loadEAgg rfl rD lT (by rfl))) rfl rfl sT kR kR kR xQP ?_
  refine WPD.take 7 rfl (by first | exact (Op1.load rfl mM (by rfl)) | exact (Op1.loadI rfl rD lT) | exact (Op1.loadAll rfl mM (by rfl)) | exact (Op1.loadE rfl rD lT (by rfl)) | exact (Op1.loadEAgg rfl rD lT (by rfl))) rfl rfl sT kR kR kR xQP ?_
  refine WPD.take 8 rfl (by first | exact (Op1.eqI rfl rfl) | exact (Op1.eqB rfl rfl) | exact (Op1.eqE rfl rfl) | exact (Op1.eqNil rfl rD)) rfl rfl sT kR kR kR xQP ?_
  refine WPD.eff 9 kR rfl (OpE.ofPure (Op1.assign rfl)) rfl rfl ?_
  rintro _ _ ⟨rfl, rfl⟩
  refine ⟨sT, ?_⟩
  refine WPD.done kR ?_
  try refine go ⟨?_⟩
  refine PE.ret1 (T := []) (T' := []) rfl rV ?_ sT
  exact ⟨rfl, rfl⟩

def CN (n : Int) (es : List E) (x y : Int) : Prop := GV n es ∧ Nd n x ∧ Nd n y ∧ cn n es x y
instance (n : Int) (es : List E) (x y : Int) : Decidable (CN n es x y) := by unfold CN; infer_instance

theorem c_Connected (w : World) (n : Int) (vE : Value) (es : List E) (x y : Int) (hE : RL w vE es) (hl : es.length ≤ 1099511627776) :
    Tri Try.prog 76 [.agg #[.int .i64 n, vE], .int .i64 x, .int .i64 y] w [] fun r T => r = .bool (decide (CN n es x y)) ∧ T = [] := by
  have bad : ¬ CN n es x y → Value.bool false = .bool (decide (CN n es x y)) := fun h => by rw [decide_eq_false h]
  refine Tri.intro (hf := Try.func76) (hb := rfl) (hn := Try.ntmps76) (Nat.le_of_ble_eq_true rfl) ?_
  try refine go ⟨?_⟩
  refine WPL.eff (OpE.box rfl) rfl rfl ?_; rintro _ _ ⟨b, rfl, rfl⟩
  try refine go ⟨?_⟩
  refine WPL.eff (OpE.call lO (fun w hw => c_hasNodeG _ n vE es x (Rd.at rD hw) hl)) rfl rfl ?_
  rintro r _ ⟨T, ⟨rfl, rfl⟩, rfl⟩
  repeat' (first | exact absurd rfl hc | refine go ⟨?_⟩ | (refine isCond ?_; refine WP.condD rfl (fun hc => ?_) (fun hc => ?_)) | (refine isGuard ?_; refine WPL.splitD rfl rfl (fun hc => ?_) (fun hc => ?_)))
  · refine WPL.eff (OpE.call lO (fun w hw => c_hasNodeG _ n vE es y (Rd.at rD hw) hl)) rfl rfl ?_
    rintro r _ ⟨T, ⟨rfl, rfl⟩, rfl⟩
    repeat' (first | exact absurd rfl hc | refine go ⟨?_⟩ | (refine isCond ?_; refine WP.condD rfl (fun hc => ?_) (fun hc => ?_)) | (refine isGuard ?_; refine WPL.splitD rfl rfl (fun hc => ?_) (fun hc => ?_)))
    · rename_i hx
      have hy := hc
      refine WPL.eff (OpE.call lO (fun w hw => c_connected _ n vE es x y (Rd.at rD hw) hx.1.ne hx.2 hy.2)) rfl rfl ?_
      rintro r _ ⟨T, ⟨rfl, rfl⟩, rfl⟩
      repeat' (first | exact absurd rfl hc | refine go ⟨?_⟩ | (refine isCond ?_; refine WP.condD rfl (fun hc => ?_) (fun hc => ?_)) | (refine isGuard ?_; refine WPL.splitD rfl rfl (fun hc => ?_) (fun hc => ?_)))
      refine PE.ret1 (T := []) (T' := []) rfl rV ?_ sT
      refine ⟨?_, rfl⟩
      congr 1; rw [decide_eq_decide]
      exact ⟨fun h => ⟨hx.1, hx.2, hy.2, h⟩, fun h => h.2.2.2⟩
    · refine PE.ret1 (T := []) (T' := []) rfl rV ?_ sT
      exact ⟨bad fun h => hc ⟨h.1, h.2.2.1⟩, rfl⟩
  · refine PE.ret1 (T := []) (T' := []) rfl rV ?_ sT
    exact ⟨bad fun h => hc ⟨h.1, h.2.1⟩, rfl⟩

theorem c_forest (w : World) (n : Int) (vE : Value) (es : List E) (hE : RL w vE es) (hg : NE n es) :
    Tri Try.prog 110 [.agg #[.int .i64 n, vE]] w [] fun r T => T = [Tok.own r (forestL n es)] := by
  have hl := hg.le
  refine Tri.intro (hf := Try.func110) (hb := rfl) (hn := Try.ntmps110) (Nat.le_of_ble_eq_true rfl) ?_
  try refine go ⟨?_⟩
  refine WPL.eff (OpE.box rfl) rfl rfl ?_; rintro _ _ ⟨b, rfl, rfl⟩
  try refine go ⟨?_⟩
  refine WPL.eff OpE.alloc rfl rfl ?_; rintro _ _ ⟨bo, rfl, rfl⟩
  try refine go ⟨?_⟩
  refine WP.nilTok E ?_
  refine WP.loop (σ := Nat × Value) (fun k => [(1, .pointer (some ⟨b, 0, none⟩)), (3, .pointer (some ⟨bo, 0, none⟩)), (10, vE), (11, .int .i64 es.length), (12, .int .i64 k.1)]) (fun k => [Tok.own k.2 ((es.take k.1).foldl (fstep n) []), Tok.blk bo [.int .i64 n, k.2], Tok.blk b [.int .i64 n, vE]]) (fun k => k.1 ≤ es.length) (fun k => es.length - k.1) (0, .slice none 0 0) (Nat.zero_le _) sE sT ?_
  rintro ⟨k, v⟩ hk
  dsimp only at hk ⊢
  try refine go ⟨?_⟩
  refine WP.condD rfl (fun hc => ?_) (fun hc => ?_)
  · have hk' : k < es.length := by omega
    have hs := foldl_takeS eD (fstep n) [] hk'
    have hF := hg.fold k
    have hF2 := hF.le
    obtain ⟨out, ho⟩ : ∃ out, out = (es.take k).foldl (fstep n) [] := ⟨_, rfl⟩
    rw [← ho] at hs hF hF2 ⊢
    obtain ⟨hA, hB⟩ := hg.ok (es.getD k eD) (getD_memI hk')
    try refine go ⟨?_⟩
    refine WPL.eff OpE.alloc rfl rfl ?_; rintro _ _ ⟨be, rfl, rfl⟩
    try refine go ⟨?_⟩
    refine WPL.eff (OpE.call lO (fun w hw => c_connected _ n v out (es.getD k eD).A (es.getD k eD).B (Rd.at rD hw) hF hA hB)) rfl rfl ?_
    rintro r _ ⟨T, ⟨rfl, rfl⟩, rfl⟩
    repeat' (first | exact absurd rfl hc | refine go ⟨?_⟩ | (refine isCond ?_; refine WP.condD rfl (fun hc => ?_) (fun hc => ?_)) | (refine isGuard ?_; refine WPL.splitD rfl rfl (fun hc => ?_) (fun hc => ?_)))
    · refine WPL.eff (OpE.buildSlice [es.getD k eD] pA rfl (by decide)) rfl rfl ?_; rintro s1 _ rfl
      try refine go ⟨?_⟩
      refine WPL.eff (OpE.append rfl rfl pM rD lN) rfl rfl ?_; rintro v1 _ rfl
      try refine go ⟨?_⟩
      have e1 : out ++ [es.getD k eD] = (es.take (k + 1)).foldl (fstep n) [] := by rw [hs, fstep, if_neg hc]
      rw [e1]
      refine PE.again (k + 1, v1) ?_ ?_ sE sT
      · dsimp only; omega
      · dsimp only; omega
    · have e1 : out = (es.take (k + 1)).foldl (fstep n) [] := by rw [hs, fstep, if_pos (Decidable.not_not.1 hc)]
      rw [e1]
      refine PE.again (k + 1, v) ?_ ?_ sE sT
      · dsimp only; omega
      · dsimp only; omega
  · have hkn : k = es.length := by omega
    subst hkn
    rw [List.take_length]
    try refine go ⟨?_⟩
    refine PE.ret1 (T := []) (T' := [Tok.own v (forestL n es)]) rfl rV ?_ sT
    rfl

theorem c_ForestOf (w : World) (n : Int) (vE : Value) (es : List E) (hE : RL w vE es) (hl : es.length ≤ 1099511627776) :
    Tri Try.prog 65 [.agg #[.int .i64 n, vE]] w [] fun r T => (GV n es ∧ T = [Tok.own r (forestL n es)]) ∨ (¬ GV n es ∧ r = .slice none 0 0 ∧ T = []) := by
  refine Tri.intro (hf := Try.func65) (hb := rfl) (hn := Try.ntmps65) (Nat.le_of_ble_eq_true rfl) ?_
  try refine go ⟨?_⟩
  refine WPL.eff (OpE.box rfl) rfl rfl ?_; rintro _ _ ⟨b, rfl, rfl⟩
  try refine go ⟨?_⟩
  refine WPL.eff (OpE.call lO (fun w hw => c_GraphValid _ n vE es (Rd.at rD hw) hl)) rfl rfl ?_
  rintro r _ ⟨T, ⟨rfl, rfl⟩, rfl⟩
  repeat' (first | exact absurd rfl hc | refine go ⟨?_⟩ | (refine isCond ?_; refine WP.condD rfl (fun hc => ?_) (fun hc => ?_)) | (refine isGuard ?_; refine WPL.splitD rfl rfl (fun hc => ?_) (fun hc => ?_)))
  · refine PE.ret1 (T := []) (T' := []) rfl rV ?_ sT
    exact .inr ⟨hc, rfl, rfl⟩
  · have hg := Decidable.not_not.1 hc
    refine WPL.eff (OpE.call lO (fun w hw => c_forest _ n vE es (Rd.at rD hw) hg.ne)) rfl rfl ?_
    rintro r _ ⟨T, rfl, rfl⟩
    repeat' (first | exact absurd rfl hc | refine go ⟨?_⟩ | (refine isCond ?_; refine WP.condD rfl (fun hc => ?_) (fun hc => ?_)) | (refine isGuard ?_; refine WPL.splitD rfl rfl (fun hc => ?_) (fun hc => ?_)))
    refine PE.ret1 (T := []) (T' := [Tok.own r (forestL n es)]) rfl rV ?_ sT
    exact .inl ⟨hg, rfl⟩

end Go.Proofs.Ythlgbeakcobeoaa
