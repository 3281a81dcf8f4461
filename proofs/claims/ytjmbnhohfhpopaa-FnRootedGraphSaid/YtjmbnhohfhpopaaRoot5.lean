/- Rooted trees: the walks of MeetOf, WeightBetween. Conditions: those of each contract. -/
import Derived.Test.YtjmbnhohfhpopaaRoot2
namespace Go.Proofs.Ytjmbnhohfhpopaa
open Go
set_option linter.unusedVariables false set_option linter.unusedSimpArgs false attribute [local irreducible] Tok.own Tok.blk RL Rd eptr WP WPL PE WPD WPO Op1 OpE Tri Again Mid Exit.then Exit.inBlock bodyPost RP Code.wp wpList isOwn OneM One
set_option maxHeartbeats 8000000

/-- The first node of the way up of x that is in that of y. -/
def meetF (ps : List Int) (x y : Int) : Option Int := (up ps ps.length x).find? (fun n => decide (n ∈ up ps ps.length y))
def meetOk (ps ws : List Int) (x y : Int) : Prop := NV ps ws x ∧ NV ps ws y
def meetV (ps ws : List Int) (x y : Int) (r : Value) : Prop :=
  (∃ m, meetOk ps ws x y ∧ meetF ps x y = some m ∧ r = .tuple #[.int .i64 m, .bool true]) ∨ (¬ (meetOk ps ws x y ∧ (meetF ps x y).isSome = true) ∧ r = .tuple #[.int .i64 0, .bool false])

theorem find_at {p : Int → Bool} {l : List Int} {k : Nat} (hk : k < l.length) (hno : ∀ i, i < k → p (l.getD i 0) = false) (hyes : p (l.getD k 0) = true) : l.find? p = some (l.getD k 0) := by
  induction l generalizing k with
  | nil => simp at hk
  | cons a l ih =>
    cases k with
    | zero =>
      have h : p a = true := hyes
      rw [List.find?_cons_of_pos h]; rfl
    | succ k =>
      have h : p a = false := hno 0 (by omega)
      rw [List.find?_cons_of_neg (by simp [h])]
      exact ih (by simpa using hk) (fun i hi => hno (i + 1) (by omega)) hyes
theorem find_none {p : Int → Bool} {l : List Int} (hno : ∀ i, i < l.length → p (l.getD i 0) = false) : l.find? p = none := by
  rw [List.find?_eq_none]
  intro a ha
  obtain ⟨n, hn, rfl⟩ := List.getElem_of_mem ha
  have := hno n hn
  rw [List.getD_eq_getElem?_getD, List.getElem?_eq_getElem hn] at this
  simpa using this

theorem c_MeetOf (w : World) (vP vW : Value) (ps ws : List Int) (x y : Int) (hP : RL w vP ps) (hW : RL w vW ws) (hlp : ps.length ≤ 1099511627776) (hlw : ws.length ≤ 1099511627776) :
    Tri Try.prog 16 [.agg #[vP, vW], .int .i64 x, .int .i64 y] w [] fun r T => meetV ps ws x y r ∧ T = [] := by
  have bad : ¬ meetOk ps ws x y → meetV ps ws x y (.tuple #[.int .i64 0, .bool false]) := fun h => .inr ⟨fun h' => h h'.1, rfl⟩
  refine Tri.intro (hf := Try.func16) (hb := rfl) (hn := Try.ntmps16) (Nat.le_of_ble_eq_true rfl) ?_
  try refine go ⟨?_⟩
  refine WPL.eff (OpE.box rfl) rfl rfl ?_; rintro _ _ ⟨b, rfl, rfl⟩
  try refine go ⟨?_⟩
  refine WPL.eff (OpE.call lO (fun w hw => c_WayUp _ vP vW ps ws x (Rd.at rD hw) (Rd.at rD hw) hlp hlw)) rfl rfl ?_
  rintro r _ ⟨T, hr, rfl⟩
  rcases hr with ⟨hx, u, rfl, rfl⟩ | ⟨hx, rfl, rfl⟩
  case inr =>
    try refine go ⟨?_⟩
    refine WPL.eff (OpE.call lO (fun w hw => c_WayUp _ vP vW ps ws y (Rd.at rD hw) (Rd.at rD hw) hlp hlw)) rfl rfl ?_
    rintro r _ ⟨T, hr, rfl⟩
    rcases hr with ⟨hy, u, rfl, rfl⟩ | ⟨hy, rfl, rfl⟩
    · try refine go ⟨?_⟩
      refine PE.ret2 (T := []) (T' := []) rfl rV ?_ sT
      exact ⟨bad fun h => hx h.1, rfl⟩
    · try refine go ⟨?_⟩
      refine PE.ret2 (T := []) (T' := []) rfl rV ?_ sT
      exact ⟨bad fun h => hx h.1, rfl⟩
  try refine go ⟨?_⟩
  refine WPL.eff (OpE.call lO (fun w hw => c_WayUp _ vP vW ps ws y (Rd.at rD hw) (Rd.at rD hw) hlp hlw)) rfl rfl ?_
  rintro r _ ⟨T, hr, rfl⟩
  rcases hr with ⟨hy, v, rfl, rfl⟩ | ⟨hy, rfl, rfl⟩
  case inr =>
    try refine go ⟨?_⟩
    refine PE.ret2 (T := []) (T' := []) rfl rV ?_ sT
    exact ⟨bad fun h => hy h.2, rfl⟩
  have hux := up_length ps ps.length x
  have huy := up_length ps ps.length y
  have hn16 := hx.1.2.1
  have hfd : ∀ m, meetF ps x y = some m → (∃ m, meetOk ps ws x y ∧ meetF ps x y = some m ∧ Value.tuple #[.int .i64 m, .bool true] = .tuple #[.int .i64 m, .bool true]) := fun m h => ⟨m, ⟨hx, hy⟩, h, rfl⟩
  unfold meetV meetF meetOk
  generalize up ps ps.length x = l1 at *
  generalize up ps ps.length y = l2 at *
  try refine go ⟨?_⟩
  refine WP.loop (σ := Nat) (fun k => [(10, v), (32, u), (33, .int .i64 l1.length), (34, .int .i64 k)]) (fun _ => [Tok.own v l2, Tok.own u l1]) (fun k => k ≤ l1.length ∧ ∀ i, i < k → l1.getD i 0 ∉ l2) (fun k => l1.length - k) 0 ⟨Nat.zero_le _, by omega⟩ sE sT ?_
  rintro k ⟨hk, hm⟩
  repeat' (first | refine go ⟨?_⟩ | (refine isCond ?_; refine WP.condD rfl (fun hc => ?_) (fun hc => ?_)) | (refine isGuard ?_; refine WPL.splitD rfl rfl (fun hc => ?_) (fun hc => ?_)))
  · have hk' : k < l1.length := by omega
    refine WPL.eff (OpE.call lO (fun w hw => c_ContainsI _ v (l1.getD k 0) l2 (Rd.at rD hw) (by omega))) rfl rfl ?_
    rintro r _ ⟨T, ⟨rfl, rfl⟩, rfl⟩
    repeat' (first | refine go ⟨?_⟩ | (refine isCond ?_; refine WP.condD rfl (fun hc => ?_) (fun hc => ?_)) | (refine isGuard ?_; refine WPL.splitD rfl rfl (fun hc => ?_) (fun hc => ?_)))
    · refine PE.ret2 (T := []) (T' := []) rfl rV ?_ sT
      refine ⟨.inl ⟨l1.getD k 0, ⟨hx, hy⟩, ?_, rfl⟩, rfl⟩
      refine find_at hk' (fun i hi => ?_) ?_
      · exact decide_eq_false (hm i hi)
      · exact decide_eq_true ‹_›
    · refine PE.again (k + 1) ?_ ?_ sE sT
      · refine ⟨by omega, fun i hi => ?_⟩
        rcases Nat.lt_succ_iff_lt_or_eq.1 hi with h' | rfl
        · exact hm i h'
        · assumption
      · omega
  · refine PE.ret2 (T := []) (T' := []) rfl rV ?_ sT
    refine ⟨.inr ⟨fun h => ?_, rfl⟩, rfl⟩
    rw [find_none (fun i hi => decide_eq_false (hm i (by omega)))] at h
    exact absurd h.2 (by simp)
end Go.Proofs.Ytjmbnhohfhpopaa
