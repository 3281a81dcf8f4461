/- Graphs: the walks of BridgesBetween, CutNodesBetween, the safe parts, the parts, LostBy. Conditions: those of each contract. -/
import Derived.Test.YthlgbeakcobeoaaGra8
import Derived.Test.YthlgbeakcobeoaaGm3
namespace Go.Proofs.Ythlgbeakcobeoaa
open Go
def nilE : Value := .slice none 0 0
def STg (n : Int) (es : List E) (x y : Int) : Prop := GV n es ∧ Nd n x ∧ Nd n y ∧ cn n (bare n es) x y
instance (n : Int) (es : List E) (x y : Int) : Decidable (STg n es x y) := by unfold STg; infer_instance
/-- A slice of new memory, and true. -/
def yesS {α : Type} [Enc α] (xs : List α) (r : Value) (T : List Tok) : Prop := ∃ v, r = .tuple #[v, .bool true] ∧ T = [Tok.own v xs]
def noS (r : Value) (T : List Tok) : Prop := r = .tuple #[.slice none 0 0, .bool false] ∧ T = []
/-- The bridges of a graph that are no bridges of another one. -/
def bonly (n : Int) (es : List E) (m : Int) (fs : List E) : List E := es.filter fun e => brB n es e && !(decide (e ∈ fs) && brB m fs e)
def lostL (n : Int) (es : List E) (e : E) : List E := bonly n es n (insE es e)
theorem nd_mem {b c : Nat} {cs : List Value} {T : List Tok} (h : b ∈ fps (Tok.blk c cs :: T)) : b = c ∨ b ∈ fps T := by
  rw [fps_cons, List.mem_append] at h
  exact h.imp blk_fp.1 id
set_option linter.unusedVariables false set_option linter.unusedSimpArgs false attribute [local irreducible] Tok.own Tok.blk RL Rd eptr WP WPL PE WPD WPO Op1 OpE Tri Again Mid Exit.then Exit.inBlock bodyPost RP Code.wp wpList isOwn OneM One
attribute [local irreducible] Pred
set_option maxHeartbeats 8000000

theorem c_btw1 (w : World) (b1 b2 b3 : Nat) (n : Int) (vE : Value) (es : List E) (x y : Int) (e : E) (hE : RL w vE es) (hd : ∀ b ∈ vfp vE, b ∉ fps [Tok.blk b1 [.int .i64 n, vE], Tok.blk b2 [.int .i64 x], Tok.blk b3 [.int .i64 y]]) (hg : NE n es) (hx : Nd n x) (hy : Nd n y) :
    Tri Try.prog 83 [ep e, ptrV b1, ptrV b2, ptrV b3] w [Tok.blk b1 [.int .i64 n, vE], Tok.blk b2 [.int .i64 x], Tok.blk b3 [.int .i64 y]] fun r T' => r = .bool (!decide (cn n (rem es e) x y)) ∧ T' = [Tok.blk b1 [.int .i64 n, vE], Tok.blk b2 [.int .i64 x], Tok.blk b3 [.int .i64 y]] := by
  have hA : RdA ⟨13, w, fps [Tok.blk b1 [.int .i64 n, vE], Tok.blk b2 [.int .i64 x], Tok.blk b3 [.int .i64 y]]⟩ vE es := RdA.mk hE hd
  refine Tri.intro (hf := Try.func83) (hb := rfl) (hn := Try.ntmps83) (Nat.le_of_ble_eq_true rfl) ?_
  try refine goA ⟨?_⟩
  refine WPL.eff (OpE.box rfl) rfl rfl ?_; rintro _ _ ⟨b4, rfl, rfl⟩
  try refine goA ⟨?_⟩
  refine WP.draw [Tok.blk b4 [.int .i64 e.A, .int .i64 e.B], Tok.blk b1 [.int .i64 n, vE], Tok.blk b2 [.int .i64 x], Tok.blk b3 [.int .i64 y]] mixed ?_
  refine WPD.take 0 rfl (by first | exact (Op1.load rfl mM (by rfl)) | exact (Op1.loadI rfl rDA lT) | exact (Op1.loadAll rfl mM (by rfl)) | exact (Op1.loadE rfl rDA lT (by rfl)) | exact (Op1.loadEAgg rfl rDA lT (by rfl))) rfl rfl sT kR kR kR xQP ?_
  refine WPD.take 1 rfl (by first | exact (Op1.load rfl mM (by rfl)) | exact (Op1.loadI rfl rDA lT) | exact (Op1.loadAll rfl mM (by rfl)) | exact (Op1.loadE rfl rDA lT (by rfl)) | exact (Op1.loadEAgg rfl rDA lT (by rfl))) rfl rfl sT kR kR kR xQP ?_
  refine WPD.take 3 rfl (by first | exact (Op1.load rfl mM (by rfl)) | exact (Op1.loadI rfl rDA lT) | exact (Op1.loadAll rfl mM (by rfl)) | exact (Op1.loadE rfl rDA lT (by rfl)) | exact (Op1.loadEAgg rfl rDA lT (by rfl))) rfl rfl sT kR kR kR xQP ?_
  refine WPD.take 4 rfl (by first | exact (Op1.load rfl mM (by rfl)) | exact (Op1.loadI rfl rDA lT) | exact (Op1.loadAll rfl mM (by rfl)) | exact (Op1.loadE rfl rDA lT (by rfl)) | exact (Op1.loadEAgg rfl rDA lT (by rfl))) rfl rfl sT kR kR kR xQP ?_
  refine WPD.eff 2 kR rfl (OpE.call lO (fun w hw => c_cut _ n vE es e (Rd.at rDA hw) hg.le)) rfl rfl ?_
  rintro r _ ⟨T, ⟨v, rfl, rfl⟩, rfl⟩
  refine ⟨sT, ?_⟩
  refine WPD.eff 5 kR rfl (OpE.call lO (fun w hw => c_connected _ n v (rem es e) x y (Rd.at rD hw) (hg.rem e) hx hy)) rfl rfl ?_
  rintro r _ ⟨T, ⟨rfl, rfl⟩, rfl⟩
  refine ⟨sT, ?_⟩
  refine WPD.take 6 rfl (by first | exact (Op1.notD rfl) | exact (Op1.not rfl)) rfl rfl sT kR kR kR xQP ?_
  refine WPD.eff 7 kR rfl (OpE.ofPure (Op1.assign rfl)) rfl rfl ?_
  rintro _ _ ⟨rfl, rfl⟩
  refine ⟨sT, ?_⟩
  refine WPD.done kR ?_
  try refine goA ⟨?_⟩
  refine PE.ret1 (T := [Tok.blk b1 [.int .i64 n, vE], Tok.blk b2 [.int .i64 x], Tok.blk b3 [.int .i64 y]]) (T' := [Tok.blk b1 [.int .i64 n, vE], Tok.blk b2 [.int .i64 x], Tok.blk b3 [.int .i64 y]]) rfl rV ?_ sT
  refine ⟨?_, rfl⟩
  rw [decide_not]

theorem c_BridgesBetween (w : World) (n : Int) (vE : Value) (es : List E) (x y : Int) (hE : RL w vE es) (hl : es.length ≤ 1099511627776) :
    Tri Try.prog 32 [.agg #[.int .i64 n, vE], .int .i64 x, .int .i64 y] w [] fun r T => (CN n es x y ∧ yesS (btw n es x y) r T) ∨ (¬ CN n es x y ∧ noS r T) := by
  refine Tri.intro (hf := Try.func32) (hb := rfl) (hn := Try.ntmps32) (Nat.le_of_ble_eq_true rfl) ?_
  try refine go ⟨?_⟩
  refine WPL.eff (OpE.box rfl) rfl rfl ?_; rintro _ _ ⟨b1, rfl, rfl⟩
  try refine go ⟨?_⟩
  refine WPL.eff (OpE.boxI rfl rfl) rfl rfl ?_; rintro _ _ ⟨b2, rfl, rfl⟩
  try refine go ⟨?_⟩
  refine WPL.eff (OpE.boxI rfl rfl) rfl rfl ?_; rintro _ _ ⟨b3, rfl, rfl⟩
  try refine go ⟨?_⟩
  refine WPL.eff (OpE.call lO (fun w hw => c_Connected _ n vE es x y (Rd.at rD hw) hl)) rfl rfl ?_
  rintro r _ ⟨T, ⟨rfl, rfl⟩, rfl⟩
  repeat' (first | exact absurd rfl hc | refine go ⟨?_⟩ | (refine isCond ?_; refine WP.condD rfl (fun hc => ?_) (fun hc => ?_)) | (refine isGuard ?_; refine WPL.splitD rfl rfl (fun hc => ?_) (fun hc => ?_)))
  · refine PE.ret2 (T := []) (T' := []) rfl rV ?_ sT
    exact .inr ⟨hc, rfl, rfl⟩
  · have hg : CN n es x y := Decidable.not_not.1 hc
    refine WPL.pure (Op1.mkFn (bnd := []) (caps := [ptrV b1, ptrV b2, ptrV b3]) lO lO) rfl rfl ?_
    refine WPL.eff (OpE.callT (T := [Tok.blk b1 [.int .i64 n, vE], Tok.blk b2 [.int .i64 x], Tok.blk b3 [.int .i64 y]]) lO pM2 (fun w hw => c_edgesBy _ n vE (fV 83 [] [ptrV b1, ptrV b2, ptrV b3]) es [Tok.blk b1 [.int .i64 n, vE], Tok.blk b2 [.int .i64 x], Tok.blk b3 [.int .i64 y]] (fun e => !decide (cn n (rem es e) x y)) (Rd.at rD hw) (hw.neG sT hE) hg.1.ne.le (Pred.mk [] [ptrV b1, ptrV b2, ptrV b3] (fun w2 hw2 e _ => c_btw1 w2 b1 b2 b3 n vE es x y e (hw2.rl (Rd.at rD hw) (hw.neG sT hE)) (hw.neG sT hE) hg.1.ne hg.2.1 hg.2.2.1)))) rfl rfl ?_
    rintro r _ ⟨T, rfl, rfl⟩
    repeat' (first | exact absurd rfl hc | refine go ⟨?_⟩ | (refine isCond ?_; refine WP.condD rfl (fun hc => ?_) (fun hc => ?_)) | (refine isGuard ?_; refine WPL.splitD rfl rfl (fun hc => ?_) (fun hc => ?_)))
    refine PE.ret2 (T := []) (T' := [Tok.own r (btw n es x y)]) rfl rV ?_ sT
    exact .inl ⟨hg, r, rfl, rfl⟩

theorem c_nodesBy (w : World) (n : Int) (vE fv : Value) (T : List Tok) (p : Int → Bool) (hn : 0 ≤ n ∧ n ≤ 16) (hp : Pred Try.prog w (fps T) fv T (fun k : Int => .int .i64 k) p (iota n.toNat)) :
    Tri Try.prog 77 [.agg #[.int .i64 n, vE], fv] w T fun r T' => T' = Tok.own r ((iota n.toNat).filter p) :: T := by
  refine Tri.intro (hf := Try.func77) (hb := rfl) (hn := Try.ntmps77) (Nat.le_of_ble_eq_true rfl) ?_
  try refine go ⟨?_⟩
  refine WPL.eff (OpE.box rfl) rfl rfl ?_; rintro _ _ ⟨b2, rfl, rfl⟩
  try refine go ⟨?_⟩
  refine WPL.eff (OpE.buildSlice ([] : List Int) pA rfl (by decide)) rfl rfl ?_; rintro s _ rfl
  try refine go ⟨?_⟩
  refine WP.loop (σ := Nat × Value) (fun k => [(1, fv), (2, ptrV b2), (5, k.2), (9, .int .i64 n), (10, .int .i64 k.1)]) (fun k => Tok.own k.2 ((iota k.1).filter p) :: Tok.blk b2 [.int .i64 n, vE] :: T) (fun k => k.1 ≤ n.toNat) (fun k => n.toNat - k.1) (0, s) (Nat.zero_le _) sE (SubT.refl _) ?_
  rintro ⟨k, v⟩ hk
  dsimp only at hk ⊢
  try refine go ⟨?_⟩
  refine WP.condD rfl (fun hc => ?_) (fun hc => ?_)
  · have hm : (k : Int) ∈ iota n.toNat := mem_iota.2 ⟨by omega, by omega⟩
    have hil : ((iota k).filter p).length ≤ k := by have := List.length_filter_le p (iota k); rw [iota_length] at this; exact this
    try refine go ⟨?_⟩
    refine WPL.eff (OpE.callP (x := (k : Int)) hp rfl rfl hm rot2) rfl rfl ?_
    rintro _ _ ⟨rfl, rfl⟩
    refine WPL.perm rot2.symm ?_
    cases hpk : p (k : Int)
    · try refine go ⟨?_⟩
      have e1 : (iota (k + 1)).filter p = (iota k).filter p := by rw [iota_succ, List.filter_append]; simp [hpk]
      refine PE.again (k + 1, v) ?_ ?_ sE (by dsimp only; rw [e1]; exact SubT.refl _)
      · dsimp only; omega
      · dsimp only; omega
    · try refine go ⟨?_⟩
      refine WPL.eff (OpE.buildSlice [(k : Int)] pA rfl (by decide)) rfl rfl ?_; rintro s1 _ rfl
      try refine go ⟨?_⟩
      refine WPL.eff (OpE.append rfl rfl pM rD lN) rfl rfl ?_; rintro v1 _ rfl
      try refine go ⟨?_⟩
      have e1 : (iota (k + 1)).filter p = (iota k).filter p ++ [(k : Int)] := by rw [iota_succ, List.filter_append]; simp [hpk]
      refine PE.again (k + 1, v1) ?_ ?_ sE (by dsimp only; rw [e1]; exact sT2)
      · dsimp only; omega
      · dsimp only; omega
  · have hkn : k = n.toNat := by omega
    subst hkn
    try refine go ⟨?_⟩
    refine PE.ret1 (T := T) (T' := Tok.own v ((iota n.toNat).filter p) :: T) rfl rV ?_ sT2
    rfl

theorem c_cutb1 (w : World) (b1 b2 b3 : Nat) (n : Int) (vE : Value) (es : List E) (x y k : Int) (hE : RL w vE es) (hd : ∀ b ∈ vfp vE, b ∉ fps [Tok.blk b2 [.int .i64 x], Tok.blk b3 [.int .i64 y], Tok.blk b1 [.int .i64 n, vE]]) (hg : NE n es) (hx : Nd n x) (hy : Nd n y) :
    Tri Try.prog 78 [.int .i64 k, ptrV b2, ptrV b3, ptrV b1] w [Tok.blk b2 [.int .i64 x], Tok.blk b3 [.int .i64 y], Tok.blk b1 [.int .i64 n, vE]] fun r T' => r = .bool (decide (k ≠ x ∧ k ≠ y ∧ ¬ cn n (alone es k) x y)) ∧ T' = [Tok.blk b2 [.int .i64 x], Tok.blk b3 [.int .i64 y], Tok.blk b1 [.int .i64 n, vE]] := by
  have bad : ¬ (k ≠ x ∧ k ≠ y ∧ ¬ cn n (alone es k) x y) → Value.bool false = .bool (decide (k ≠ x ∧ k ≠ y ∧ ¬ cn n (alone es k) x y)) := fun h => by rw [decide_eq_false h]
  have hA : RdA ⟨23, w, fps [Tok.blk b2 [.int .i64 x], Tok.blk b3 [.int .i64 y], Tok.blk b1 [.int .i64 n, vE]]⟩ vE es := RdA.mk hE hd
  refine Tri.intro (hf := Try.func78) (hb := rfl) (hn := Try.ntmps78) (Nat.le_of_ble_eq_true rfl) ?_
  try refine goA ⟨?_⟩
  refine WP.draw [Tok.blk b2 [.int .i64 x], Tok.blk b3 [.int .i64 y], Tok.blk b1 [.int .i64 n, vE]] mixed ?_
  refine WPD.take 0 rfl (Op1.move rfl) rfl rfl sT kR kR kR xQP ?_
  refine WPD.take 1 rfl (by first | exact (Op1.load rfl mM (by rfl)) | exact (Op1.loadI rfl rDA lT) | exact (Op1.loadAll rfl mM (by rfl)) | exact (Op1.loadE rfl rDA lT (by rfl)) | exact (Op1.loadEAgg rfl rDA lT (by rfl))) rfl rfl sT kR kR kR xQP ?_
  refine WPD.take 2 rfl (by first | exact (Op1.neI rfl rfl) | exact (Op1.neB rfl rfl) | exact (Op1.neE rfl rfl)) rfl rfl sT kR kR kR xQP ?_
  refine WPD.take 3 rfl (Op1.move rfl) rfl rfl sT kR kR kR xQP ?_
  first | refine WPD.splitD 9 rfl (fun h9 => ?t1) (fun h9 => ?f1) | refine WPD.split 9 rfl (fun h9 => ?t1) (fun h9 => ?f1)
  case' t1 =>
    refine WPD.take 4 rfl (Op1.move rfl) rfl rfl sT kR kR kR xQP ?_
    refine WPD.take 5 rfl (by first | exact (Op1.load rfl mM (by rfl)) | exact (Op1.loadI rfl rDA lT) | exact (Op1.loadAll rfl mM (by rfl)) | exact (Op1.loadE rfl rDA lT (by rfl)) | exact (Op1.loadEAgg rfl rDA lT (by rfl))) rfl rfl sT kR kR kR xQP ?_
    refine WPD.take 6 rfl (by first | exact (Op1.neI rfl rfl) | exact (Op1.neB rfl rfl) | exact (Op1.neE rfl rfl)) rfl rfl sT kR kR kR xQP ?_
    refine WPD.take 7 rfl (by first | exact (Op1.pickT rfl rfl) | exact (Op1.pickF rfl rfl)) rfl rfl sT kR kR kR xQP ?_
    refine WPD.take 8 rfl (Op1.move rfl) rfl rfl sT kR kR kR xQP ?_
    first | refine WPD.splitD 14 rfl (fun h14 => ?t2) (fun h14 => ?f2) | refine WPD.split 14 rfl (fun h14 => ?t2) (fun h14 => ?f2)
    case' t2 =>
      refine WPD.take 9 rfl (by first | exact (Op1.load rfl mM (by rfl)) | exact (Op1.loadI rfl rDA lT) | exact (Op1.loadAll rfl mM (by rfl)) | exact (Op1.loadE rfl rDA lT (by rfl)) | exact (Op1.loadEAgg rfl rDA lT (by rfl))) rfl rfl sT kR kR kR xQP ?_
      refine WPD.take 10 rfl (Op1.move rfl) rfl rfl sT kR kR kR xQP ?_
      refine WPD.take 12 rfl (by first | exact (Op1.load rfl mM (by rfl)) | exact (Op1.loadI rfl rDA lT) | exact (Op1.loadAll rfl mM (by rfl)) | exact (Op1.loadE rfl rDA lT (by rfl)) | exact (Op1.loadEAgg rfl rDA lT (by rfl))) rfl rfl sT kR kR kR xQP ?_
      refine WPD.take 13 rfl (by first | exact (Op1.load rfl mM (by rfl)) | exact (Op1.loadI rfl rDA lT) | exact (Op1.loadAll rfl mM (by rfl)) | exact (Op1.loadE rfl rDA lT (by rfl)) | exact (Op1.loadEAgg rfl rDA lT (by rfl))) rfl rfl sT kR kR kR xQP ?_
      refine WPD.eff 11 kR rfl (OpE.call lO (fun w hw => c_cutNode _ n vE es k (Rd.at rDA hw) hg.le)) rfl rfl ?_
      rintro r _ ⟨T, ⟨v, rfl, rfl⟩, rfl⟩
      refine ⟨sT, ?_⟩
      refine WPD.eff 14 kR rfl (OpE.call lO (fun w hw => c_connected _ n v (alone es k) x y (Rd.at rD hw) (hg.alone k) hx hy)) rfl rfl ?_
      rintro r _ ⟨T, ⟨rfl, rfl⟩, rfl⟩
      refine ⟨sT, ?_⟩
      refine WPD.take 15 rfl (by first | exact (Op1.notD rfl) | exact (Op1.not rfl)) rfl rfl sT kR kR kR xQP ?_
      refine WPD.take 16 rfl (by first | exact (Op1.pickT rfl rfl) | exact (Op1.pickF rfl rfl)) rfl rfl sT kR kR kR xQP ?_
      refine WPD.eff 17 kR rfl (OpE.ofPure (Op1.assign rfl)) rfl rfl ?_
      rintro _ _ ⟨rfl, rfl⟩
      refine ⟨sT, ?_⟩
      refine WPD.done kR ?_
    case' f2 =>
      refine WPD.skip 9 rfl rfl rfl sT kR kR kR xQP ?_
      refine WPD.skip 10 rfl rfl rfl sT kR kR kR xQP ?_
      refine WPD.skip 12 rfl rfl rfl sT kR kR kR xQP ?_
      refine WPD.skip 13 rfl rfl rfl sT kR kR kR xQP ?_
      refine WPD.skip 11 rfl rfl rfl sT kR kR kR xQP ?_
      refine WPD.skip 14 rfl rfl rfl sT kR kR kR xQP ?_
      refine WPD.skip 15 rfl rfl rfl sT kR kR kR xQP ?_
      refine WPD.take 16 rfl (by first | exact (Op1.pickT rfl rfl) | exact (Op1.pickF rfl rfl)) rfl rfl sT kR kR kR xQP ?_
      refine WPD.eff 17 kR rfl (OpE.ofPure (Op1.assign rfl)) rfl rfl ?_
      rintro _ _ ⟨rfl, rfl⟩
      refine ⟨sT, ?_⟩
      refine WPD.done kR ?_
  case' f1 =>
    refine WPD.skip 4 rfl rfl rfl sT kR kR kR xQP ?_
    refine WPD.skip 5 rfl rfl rfl sT kR kR kR xQP ?_
    refine WPD.skip 6 rfl rfl rfl sT kR kR kR xQP ?_
    refine WPD.take 7 rfl (by first | exact (Op1.pickT rfl rfl) | exact (Op1.pickF rfl rfl)) rfl rfl sT kR kR kR xQP ?_
    refine WPD.take 8 rfl (Op1.move rfl) rfl rfl sT kR kR kR xQP ?_
    refine WPD.skip 9 rfl rfl rfl sT kR kR kR xQP ?_
    refine WPD.skip 10 rfl rfl rfl sT kR kR kR xQP ?_
    refine WPD.skip 12 rfl rfl rfl sT kR kR kR xQP ?_
    refine WPD.skip 13 rfl rfl rfl sT kR kR kR xQP ?_
    refine WPD.skip 11 rfl rfl rfl sT kR kR kR xQP ?_
    refine WPD.skip 14 rfl rfl rfl sT kR kR kR xQP ?_
    refine WPD.skip 15 rfl rfl rfl sT kR kR kR xQP ?_
    refine WPD.take 16 rfl (by first | exact (Op1.pickT rfl rfl) | exact (Op1.pickF rfl rfl)) rfl rfl sT kR kR kR xQP ?_
    refine WPD.eff 17 kR rfl (OpE.ofPure (Op1.assign rfl)) rfl rfl ?_
    rintro _ _ ⟨rfl, rfl⟩
    refine ⟨sT, ?_⟩
    refine WPD.done kR ?_
  all_goals (try refine goA ⟨?_⟩; refine PE.ret1 (T := [Tok.blk b2 [.int .i64 x], Tok.blk b3 [.int .i64 y], Tok.blk b1 [.int .i64 n, vE]]) (T' := [Tok.blk b2 [.int .i64 x], Tok.blk b3 [.int .i64 y], Tok.blk b1 [.int .i64 n, vE]]) rfl rV ?_ sT)
  · exact ⟨bad fun h => h9 h.1, rfl⟩
  · exact ⟨bad fun h => h14 h.2.1, rfl⟩
  · refine ⟨?_, rfl⟩
    congr 1; rw [decide_eq_decide]
    exact ⟨fun h => ⟨h9, h14, h⟩, fun h => h.2.2⟩

theorem c_CutNodesBetween (w : World) (n : Int) (vE : Value) (es : List E) (x y : Int) (hE : RL w vE es) (hl : es.length ≤ 1099511627776) :
    Tri Try.prog 30 [.agg #[.int .i64 n, vE], .int .i64 x, .int .i64 y] w [] fun r T => (CN n es x y ∧ yesS (cutb n es x y) r T) ∨ (¬ CN n es x y ∧ noS r T) := by
  refine Tri.intro (hf := Try.func30) (hb := rfl) (hn := Try.ntmps30) (Nat.le_of_ble_eq_true rfl) ?_
  try refine go ⟨?_⟩
  refine WPL.eff (OpE.box rfl) rfl rfl ?_; rintro _ _ ⟨b1, rfl, rfl⟩
  try refine go ⟨?_⟩
  refine WPL.eff (OpE.boxI rfl rfl) rfl rfl ?_; rintro _ _ ⟨b2, rfl, rfl⟩
  try refine go ⟨?_⟩
  refine WPL.eff (OpE.boxI rfl rfl) rfl rfl ?_; rintro _ _ ⟨b3, rfl, rfl⟩
  try refine go ⟨?_⟩
  refine WPL.eff (OpE.call lO (fun w hw => c_Connected _ n vE es x y (Rd.at rD hw) hl)) rfl rfl ?_
  rintro r _ ⟨T, ⟨rfl, rfl⟩, rfl⟩
  repeat' (first | exact absurd rfl hc | refine go ⟨?_⟩ | (refine isCond ?_; refine WP.condD rfl (fun hc => ?_) (fun hc => ?_)) | (refine isGuard ?_; refine WPL.splitD rfl rfl (fun hc => ?_) (fun hc => ?_)))
  · refine PE.ret2 (T := []) (T' := []) rfl rV ?_ sT
    exact .inr ⟨hc, rfl, rfl⟩
  · have hg : CN n es x y := Decidable.not_not.1 hc
    have hn1 := hg.1.ne.n1
    have hn2 := hg.1.ne.n2
    refine WPL.pure (Op1.mkFn (bnd := []) (caps := [ptrV b2, ptrV b3, ptrV b1]) lO lO) rfl rfl ?_
    refine WPL.eff (OpE.callT (T := [Tok.blk b2 [.int .i64 x], Tok.blk b3 [.int .i64 y], Tok.blk b1 [.int .i64 n, vE]]) lO pM2 (fun w hw => c_nodesBy _ n vE (fV 78 [] [ptrV b2, ptrV b3, ptrV b1]) [Tok.blk b2 [.int .i64 x], Tok.blk b3 [.int .i64 y], Tok.blk b1 [.int .i64 n, vE]] (fun k => decide (k ≠ x ∧ k ≠ y ∧ ¬ cn n (alone es k) x y)) ⟨hn1, hn2⟩ (Pred.mk [] [ptrV b2, ptrV b3, ptrV b1] (fun w2 hw2 k _ => c_cutb1 w2 b1 b2 b3 n vE es x y k (hw2.rl (Rd.at rD hw) (hw.neG sT hE)) (hw.neG sT hE) hg.1.ne hg.2.1 hg.2.2.1)))) rfl rfl ?_
    rintro r _ ⟨T, rfl, rfl⟩
    repeat' (first | exact absurd rfl hc | refine go ⟨?_⟩ | (refine isCond ?_; refine WP.condD rfl (fun hc => ?_) (fun hc => ?_)) | (refine isGuard ?_; refine WPL.splitD rfl rfl (fun hc => ?_) (fun hc => ?_)))
    refine PE.ret2 (T := []) (T' := [Tok.own r (cutb n es x y)]) rfl rV ?_ sT
    exact .inl ⟨hg, r, rfl, rfl⟩

theorem c_PartNodes (w : World) (n : Int) (vE : Value) (es : List E) (x : Int) (hE : RL w vE es) (hl : es.length ≤ 1099511627776) :
    Tri Try.prog 23 [.agg #[.int .i64 n, vE], .int .i64 x] w [] fun r T => (GN n es x ∧ T = [Tok.own r (pns n es x)]) ∨ (¬ GN n es x ∧ r = .slice none 0 0 ∧ T = []) := by
  refine Tri.intro (hf := Try.func23) (hb := rfl) (hn := Try.ntmps23) (Nat.le_of_ble_eq_true rfl) ?_
  try refine go ⟨?_⟩
  refine WPL.eff (OpE.box rfl) rfl rfl ?_; rintro _ _ ⟨b, rfl, rfl⟩
  try refine go ⟨?_⟩
  refine WPL.eff (OpE.call lO (fun w hw => c_hasNodeG _ n vE es x (Rd.at rD hw) hl)) rfl rfl ?_
  rintro r _ ⟨T, ⟨rfl, rfl⟩, rfl⟩
  repeat' (first | exact absurd rfl hc | refine go ⟨?_⟩ | (refine isCond ?_; refine WP.condD rfl (fun hc => ?_) (fun hc => ?_)) | (refine isGuard ?_; refine WPL.splitD rfl rfl (fun hc => ?_) (fun hc => ?_)))
  · refine PE.ret1 (T := []) (T' := []) rfl rV ?_ sT
    exact .inr ⟨hc, rfl, rfl⟩
  have hg : GN n es x := Decidable.not_not.1 hc
  have hx1 := hg.2.1
  have hx2 := hg.2.2
  have hn1 := hg.1.ne.n1
  have hn2 := hg.1.ne.n2
  have hll := labs_length n es
  refine WPL.eff (OpE.buildSlice ([] : List Int) pA rfl (by decide)) rfl rfl ?_; rintro s _ rfl
  try refine go ⟨?_⟩
  refine WPL.eff (OpE.call lO (fun w hw => c_parts _ n vE es (Rd.at rD hw) hg.1.ne)) rfl rfl ?_
  rintro r _ ⟨T, rfl, rfl⟩
  try refine go ⟨?_⟩
  refine WP.loop (σ := Nat × Value) (fun k => [(1, .int .i64 x), (2, ptrV b), (5, k.2), (6, r), (16, .int .i64 n), (17, .int .i64 k.1)]) (fun k => [Tok.own k.2 ((iota k.1).filter fun j => decide (lab n es j = lab n es x)), Tok.own r (labs n es), Tok.blk b [.int .i64 n, vE]]) (fun k => k.1 ≤ n.toNat) (fun k => n.toNat - k.1) (0, s) (Nat.zero_le _) sE sT ?_
  rintro ⟨k, v⟩ hk
  dsimp only at hk ⊢
  try refine go ⟨?_⟩
  refine WP.condD rfl (fun hc => ?_) (fun hc => ?_)
  · have hil : ((iota k).filter fun j => decide (lab n es j = lab n es x)).length ≤ k := by have := List.length_filter_le (fun j => decide (lab n es j = lab n es x)) (iota k); rw [iota_length] at this; exact this
    have hlk : lab n es (k : Int) = (labs n es).getD k 0 := rfl
    try refine go ⟨?_⟩
    refine WP.draw [Tok.own r (labs n es)] mixed ?_
    refine WPD.take 0 rfl (Op1.move rfl) rfl rfl sT kR kR kR xQP ?_
    refine WPD.take 1 rfl (Op1.move rfl) rfl rfl sT kR kR kR xQP ?_
    refine WPD.take 4 rfl (Op1.move rfl) rfl rfl sT kR kR kR xQP ?_
    refine WPD.take 5 rfl (Op1.move rfl) rfl rfl sT kR kR kR xQP ?_
    refine WPD.take 2 rfl (by first | exact (Op1.indexAddr rfl rfl rD lT) | exact (Op1.indexAddrZ rfl rfl rD lT)) rfl rfl sT kR kR kR xQP ?_
    refine WPD.take 6 rfl (by first | exact (Op1.indexAddr rfl rfl rD lT) | exact (Op1.indexAddrZ rfl rfl rD lT)) rfl rfl sT kR kR kR xQP ?_
    refine WPD.take 3 rfl (by first | exact (Op1.load rfl mM (by rfl)) | exact (Op1.loadI rfl rD lT) | exact (Op1.loadAll rfl mM (by rfl)) | exact (Op1.loadE rfl rD lT (by rfl)) | exact (Op1.loadEAgg rfl rD lT (by rfl))) rfl rfl sT kR kR kR xQP ?_
    refine WPD.take 7 rfl (by first | exact (Op1.load rfl mM (by rfl)) | exact (Op1.loadI rfl rD lT) | exact (Op1.loadAll rfl mM (by rfl)) | exact (Op1.loadE rfl rD lT (by rfl)) | exact (Op1.loadEAgg rfl rD lT (by rfl))) rfl rfl sT kR kR kR xQP ?_
    refine WPD.take 8 rfl (by first | exact (Op1.eqI rfl rfl) | exact (Op1.eqB rfl rfl) | exact (Op1.eqE rfl rfl) | exact (Op1.eqNil rfl rD)) rfl rfl sT kR kR kR xQP ?_
    refine WPD.done kR ?_
    try refine go ⟨?_⟩
    refine WP.condD rfl (fun heq => ?_) (fun heq => ?_)
    · try refine go ⟨?_⟩
      refine WPL.eff (OpE.buildSlice [(k : Int)] pA rfl (by decide)) rfl rfl ?_; rintro s1 _ rfl
      try refine go ⟨?_⟩
      refine WPL.eff (OpE.append rfl rfl pM rD lN) rfl rfl ?_; rintro v1 _ rfl
      try refine go ⟨?_⟩
      have e1 : (iota (k + 1)).filter (fun j => decide (lab n es j = lab n es x)) = (iota k).filter (fun j => decide (lab n es j = lab n es x)) ++ [(k : Int)] := by
        rw [iota_succ, List.filter_append]
        have : decide (lab n es (k : Int) = lab n es x) = true := decide_eq_true heq
        simp only [List.filter_cons, this, if_true, List.filter_nil]
      rw [← e1]
      refine PE.again (k + 1, v1) ?_ ?_ sE sT
      · dsimp only; omega
      · dsimp only; omega
    · try refine go ⟨?_⟩
      have e1 : (iota (k + 1)).filter (fun j => decide (lab n es j = lab n es x)) = (iota k).filter (fun j => decide (lab n es j = lab n es x)) := by
        rw [iota_succ, List.filter_append]
        have : decide (lab n es (k : Int) = lab n es x) = false := decide_eq_false heq
        simp only [List.filter_cons, this, Bool.false_eq_true, if_false, List.filter_nil, List.append_nil]
      rw [← e1]
      refine PE.again (k + 1, v) ?_ ?_ sE sT
      · dsimp only; omega
      · dsimp only; omega
  · have hkn : k = n.toNat := by omega
    subst hkn
    try refine go ⟨?_⟩
    refine PE.ret1 (T := []) (T' := [Tok.own v (pns n es x)]) rfl rV ?_ sT
    exact .inl ⟨hg, rfl⟩

/-- The number of parts of a valid graph, or 0. -/
def pcV (n : Int) (es : List E) : Int := if GV n es then pcnt n es else 0
end Go.Proofs.Ythlgbeakcobeoaa
