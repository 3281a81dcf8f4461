/- Rooted trees: the walks of the first functions. Conditions: those of each contract. -/
import Derived.Test.YtjmbnhohfhpopaaTac
namespace Go.Proofs.Ytjmbnhohfhpopaa
open Go
set_option linter.unusedVariables false set_option linter.unusedSimpArgs false attribute [local irreducible] Tok.own Tok.blk RL Rd eptr WP WPL PE WPD WPO Op1 OpE Tri Again Mid Exit.then Exit.inBlock bodyPost RP Code.wp wpList isOwn OneM One
set_option maxHeartbeats 8000000

/-! ### The library's searches and copies -/
theorem c_IndexI (w : World) (v : Value) (x : Int) (xs : List Int) (h : RL w v xs) (hl : xs.length ≤ 1099511627776) :
    Tri Try.prog 77 [v, .int .i64 x] w [] fun r T => T = [] ∧ ((x ∈ xs ∧ ∃ n : Nat, n < xs.length ∧ r = .int .i64 n ∧ x = xs.getD n 0 ∧ ∀ m, m < n → x ≠ xs.getD m 0) ∨ (x ∉ xs ∧ r = .int .i64 (-1))) := by
  refine Tri.intro (hf := Try.func77) (hb := rfl) (hn := Try.ntmps77) (Nat.le_of_ble_eq_true rfl) ?_
  try refine go ⟨?_⟩
  refine WP.loop (σ := Nat) (fun k => [(8, .int .i64 k), (7, .int .i64 xs.length), (0, v), (1, .int .i64 x)]) (fun _ => []) (fun k => k ≤ xs.length ∧ ∀ m, m < k → x ≠ xs.getD m 0) (fun k => xs.length - k) 0 ⟨Nat.zero_le _, by omega⟩ sE sT ?_
  rintro k ⟨hk, hm⟩
  try refine go ⟨?_⟩
  refine WP.condD rfl (fun hc => ?_) (fun hc => ?_)
  · try refine go ⟨?_⟩
    refine WP.condD rfl (fun he => ?_) (fun he => ?_)
    · try refine go ⟨?_⟩
      refine PE.ret1 (T := []) (T' := []) rfl rV ?_ sT
      have hk' : k < xs.length := by omega
      refine ⟨rfl, .inl ⟨?_, k, hk', rfl, he, hm⟩⟩
      rw [he]; show xs.getD k 0 ∈ xs
      rw [List.getD_eq_getElem?_getD, List.getElem?_eq_getElem hk']; exact List.getElem_mem hk'
    · try refine go ⟨?_⟩
      refine PE.again (k + 1) ?_ ?_ sE sT
      · exact ⟨by omega, fun m hm' => by
          rcases Nat.lt_succ_iff_lt_or_eq.1 hm' with h' | rfl
          · exact hm m h'
          · exact he⟩
      · omega
  · try refine go ⟨?_⟩
    refine PE.ret1 (T := []) (T' := []) rfl rV ?_ sT
    refine ⟨rfl, .inr ⟨fun hx => ?_, rfl⟩⟩
    obtain ⟨n, hn, rfl⟩ := List.getElem_of_mem hx
    refine hm n (by omega) ?_
    rw [List.getD_eq_getElem?_getD, List.getElem?_eq_getElem hn]; rfl

theorem c_ContainsI (w : World) (v : Value) (x : Int) (xs : List Int) (h : RL w v xs) (hl : xs.length ≤ 1099511627776) :
    Tri Try.prog 48 [v, .int .i64 x] w [] fun r T => T = [] ∧ r = .bool (decide (x ∈ xs)) := by
  refine Tri.intro (hf := Try.func48) (hb := rfl) (hn := Try.ntmps48) (Nat.le_of_ble_eq_true rfl) ?_
  try refine go ⟨?_⟩
  refine WPL.eff (OpE.call lO (fun w hw => c_IndexI _ v x xs (Rd.at rD hw) hl)) rfl rfl ?_
  rintro r _ ⟨_, ⟨rfl, hr⟩, rfl⟩
  rcases hr with ⟨hx, n, hn, rfl, _⟩ | ⟨hx, rfl⟩
  · try refine go ⟨?_⟩
    refine PE.ret1 (T := []) (T' := []) rfl rV ?_ sT
    refine ⟨rfl, ?_⟩
    rw [decide_eq_true hx, decide_eq_true (by omega)]
  · try refine go ⟨?_⟩
    refine PE.ret1 (T := []) (T' := []) rfl rV ?_ sT
    refine ⟨rfl, ?_⟩
    rw [decide_eq_false hx, decide_eq_false (by omega)]

theorem c_CloneI (w : World) (v : Value) (xs : List Int) (h : RL w v xs) (hl : xs.length ≤ 1099511627776) :
    Tri Try.prog 78 [v] w [] fun r T => T = [Tok.own r xs] := by
  refine Tri.intro (hf := Try.func78) (hb := rfl) (hn := Try.ntmps78) (Nat.le_of_ble_eq_true rfl) ?_
  try refine go ⟨?_⟩
  refine WP.cond rfl (fun hn => ?_) (fun hn => ?_)
  · have hx : xs = [] := RL.nil_of h (by simpa using hn)
    subst hx
    try refine go ⟨?_⟩
    refine PE.nilTok Int ?_
    refine PE.ret1 (T := []) (T' := [Tok.own _ ([] : List Int)]) rfl rV ?_ sT
    rfl
  · try refine go ⟨?_⟩
    refine WPL.eff (OpE.buildSlice ([] : List Int) pA rfl (by decide)) rfl rfl ?_; rintro s _ rfl
    try refine go ⟨?_⟩
    refine WPL.eff (OpE.append rfl rfl pM rD lN) rfl rfl ?_; rintro r _ rfl
    try refine go ⟨?_⟩
    refine PE.ret1 (T := []) (T' := [Tok.own r xs]) rfl rV ?_ sT
    rfl

/-! ### The way up -/
/-- k steps up from a node (fewer, if they come to a root's parent). -/
def up (ps : List Int) : Nat → Int → List Int
  | 0, _ => []
  | k + 1, x => if x = -1 then [] else x :: up ps k (ps.getD x.toNat 0)
/-- At most k steps up from a node lead to a root's parent. -/
def ends (ps : List Int) : Nat → Int → Bool
  | 0, x => decide (x = -1)
  | k + 1, x => decide (x = -1) || ends ps k (ps.getD x.toNat 0)
/-- The node k steps up. -/
def at_ (ps : List Int) : Nat → Int → Int
  | 0, x => x
  | k + 1, x => at_ ps k (ps.getD x.toNat 0)
/-- Parents are nodes, or -1. -/
def inN (ps : List Int) (x : Int) : Prop := -1 ≤ x ∧ x < ps.length
def allN (ps : List Int) : Prop := ∀ i, i < ps.length → inN ps (ps.getD i 0)

theorem allN.step {ps : List Int} (h : allN ps) {x : Int} (hx : inN ps x) (h1 : x ≠ -1) : inN ps (ps.getD x.toNat 0) := h _ (by have := hx.1; have := hx.2; omega)

theorem up_step {ps : List Int} {n k : Nat} {y : Int} (hk : k < n) (hy : y ≠ -1) : up ps (n - k) y = y :: up ps (n - (k + 1)) (ps.getD y.toNat 0) := by
  have : n - k = (n - (k + 1)) + 1 := by omega
  rw [this, up, if_neg hy]
theorem ends_step {ps : List Int} {n k : Nat} {y : Int} (hk : k < n) (hy : y ≠ -1) : ends ps (n - k) y = ends ps (n - (k + 1)) (ps.getD y.toNat 0) := by
  have : n - k = (n - (k + 1)) + 1 := by omega
  rw [this, ends, decide_eq_false hy, Bool.false_or]
theorem ends_root (ps : List Int) (k : Nat) : ends ps k (-1) = true := by cases k <;> simp [ends]
theorem up_root (ps : List Int) (k : Nat) : up ps k (-1) = [] := by cases k <;> simp [up]

theorem c_wayUp (w : World) (vP vW : Value) (ps : List Int) (x : Int) (hP : RL w vP ps) (h1 : vW.oneCell' = true) (hl : ps.length ≤ 1000000) (hN : allN ps) (hx : inN ps x) :
    Tri Try.prog 57 [.agg #[vP, vW], .int .i64 x] w [] fun r T =>
      (ends ps ps.length x = true ∧ ∃ v, r = .tuple #[v, .bool true] ∧ T = [Tok.own v (up ps ps.length x)]) ∨ (ends ps ps.length x = false ∧ r = .tuple #[.slice none 0 0, .bool false] ∧ T = []) := by
  refine Tri.intro (hf := Try.func57) (hb := rfl) (hn := Try.ntmps57) (Nat.le_of_ble_eq_true rfl) ?_
  try refine go ⟨?_⟩
  refine WPL.eff (OpE.box rfl) rfl rfl ?_; rintro _ _ ⟨b, rfl, rfl⟩
  try refine go ⟨?_⟩
  refine WPL.eff (OpE.buildSlice ([] : List Int) pA rfl (by decide)) rfl rfl ?_; rintro s _ rfl
  try refine go ⟨?_⟩
  refine WP.loop (σ := Nat × Int × List Int × Value) (fun s => [(1, .int .i64 s.2.1), (2, .pointer (some ⟨b, 0, none⟩)), (6, s.2.2.2)]) (fun s => [Tok.own s.2.2.2 s.2.2.1, Tok.blk b [vP, vW]])
    (fun s => s.1 ≤ ps.length ∧ inN ps s.2.1 ∧ s.2.2.1.length = s.1 ∧ s.2.2.1 ++ up ps (ps.length - s.1) s.2.1 = up ps ps.length x ∧ ends ps (ps.length - s.1) s.2.1 = ends ps ps.length x)
    (fun s => ps.length - s.1 + 1) (0, x, [], s) ⟨Nat.zero_le _, hx, rfl, by simp, by simp⟩ sE sT ?_
  rintro ⟨k, y, out, v⟩ ⟨hk, hy, ho, hu, he⟩
  dsimp only at hk hy ho hu he ⊢
  try refine go ⟨?_⟩
  refine WP.condD rfl (fun hne => ?_) (fun hne => ?_)
  · try refine go ⟨?_⟩
    refine WP.condD rfl (fun hlen => ?_) (fun hlen => ?_)
    · try refine go ⟨?_⟩
      refine PE.ret2 (T := []) (T' := []) rfl rV ?_ sT
      refine .inr ⟨?_, rfl, rfl⟩
      have : ps.length - k = 0 := by omega
      rw [this] at he
      rw [← he]; simpa [ends] using hne
    · try refine go ⟨?_⟩
      have hy0 : 0 ≤ y ∧ y < ps.length := by have := hy.1; have := hy.2; omega
      refine WP.draw [Tok.blk b [vP, vW]] mixed ?_
      refine WPD.take 0 rfl oP rfl rfl sT kR kR kR xQP ?_
      refine WPD.take 1 rfl oP rfl rfl sT kR kR kR xQP ?_
      refine WPD.take 4 rfl oP rfl rfl sT kR kR kR xQP ?_
      refine WPD.take 5 rfl oP rfl rfl sT kR kR kR xQP ?_
      refine WPD.take 6 rfl oP rfl rfl sT kR kR kR xQP ?_
      refine WPD.take 7 rfl oP rfl rfl sT kR kR kR xQP ?_
      refine WPD.take 8 rfl oP rfl rfl sT kR kR kR xQP ?_
      refine WPD.eff 2 kR rfl (OpE.buildSlice [y] pA rfl (by decide)) rfl rfl ?_; rintro s1 _ rfl; refine ⟨sT, ?_⟩
      refine WPD.eff 3 kR rfl (OpE.append rfl rfl pM rD lN) rfl rfl ?_; rintro v1 _ rfl; refine ⟨sT, ?_⟩
      refine WPD.take 9 rfl oP rfl rfl sT kR kR kR xQP ?_
      refine WPD.take 10 rfl oP rfl rfl sT kR kR kR xQP ?_
      refine WPD.done kR ?_
      try refine go ⟨?_⟩
      have hk' : k < ps.length := by omega
      refine PE.again (k + 1, ps.getD y.toNat 0, out ++ [y], v1) ?_ ?_ sE sT
      · refine ⟨hk', hN.step hy hne, by simp [ho], ?_, ?_⟩
        · rw [← hu, up_step hk' hne]; simp
        · rw [← he, ends_step hk' hne]
      · dsimp only; omega
  · try refine go ⟨?_⟩
    have hy1 : y = -1 := by omega
    subst hy1
    refine PE.ret2 (T := []) (T' := [Tok.own v out]) rfl rV ?_ sT
    refine .inl ⟨?_, v, rfl, ?_⟩
    · rw [← he, ends_root]
    · rw [← hu, up_root]; simp

/-! ### Valid rooted trees -/
/-- What RootedValid asks. -/
def okAt (ps ws : List Int) (i : Nat) : Prop := -1 ≤ ps.getD i 0 ∧ ps.getD i 0 < ps.length ∧ 0 ≤ ws.getD i 0 ∧ ws.getD i 0 ≤ 999 ∧ (ps.getD i 0 = -1 → ws.getD i 0 = 0)
instance (ps ws : List Int) (i : Nat) : Decidable (okAt ps ws i) := by unfold okAt; infer_instance
def RV (ps ws : List Int) : Prop := 1 ≤ ps.length ∧ ps.length ≤ 16 ∧ ws.length = ps.length ∧ (∀ i, i < ps.length → okAt ps ws i) ∧ (∀ i, i < ps.length → ends ps ps.length (i : Int) = true)
instance (ps ws : List Int) : Decidable (RV ps ws) := by unfold RV; infer_instance
theorem RV.allN {ps ws : List Int} (h : RV ps ws) : allN ps := fun i hi => ⟨(h.2.2.2.1 i hi).1, (h.2.2.2.1 i hi).2.1⟩

theorem RL.one {α : Type} [Enc α] {w : World} {v : Value} {xs : List α} (h : RL w v xs) : v.oneCell' = true := by
  unfold RL at h
  rcases h.2 with ⟨rfl, _⟩ | ⟨b, off, cap, rfl, _⟩ <;> rfl

end Go.Proofs.Ytjmbnhohfhpopaa
