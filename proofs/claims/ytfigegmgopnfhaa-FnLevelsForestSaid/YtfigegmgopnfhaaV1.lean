/- Texts put together: Gra1, Gra2, Gra3, Gra4, Gra5, Gm1, Gm2, Gm3, R4, R5, R6, R7, Gra6, Gra7, Gra8, Gra9. Conditions: those of each theorem. -/
import Derived.Laws.Bits64b
import Derived.Test.YtfigegmgopnfhaaV0
set_option linter.unusedVariables false
set_option linter.unusedSimpArgs false
/- Graphs: the walk of GraphValid. Conditions: those of the contract. -/
namespace Go.Proofs.Ytfigegmgopnfhaa
open Go
set_option linter.unusedVariables false set_option linter.unusedSimpArgs false attribute [local irreducible] Tok.own Tok.blk RL Rd eptr WP WPL PE WPD WPO Op1 OpE Tri Again Mid Exit.then Exit.inBlock bodyPost RP Code.wp wpList isOwn OneM One
set_option maxHeartbeats 8000000

def okG (n : Int) (es : List E) (i : Nat) : Prop := 0 ≤ (es.getD i eD).A ∧ (es.getD i eD).A < (es.getD i eD).B ∧ (es.getD i eD).B < n ∧ (0 < i → ltE (es.getD (i - 1) eD) (es.getD i eD))
instance (n : Int) (es : List E) (i : Nat) : Decidable (okG n es i) := by unfold okG; infer_instance
def GV (n : Int) (es : List E) : Prop := 1 ≤ n ∧ n ≤ 16 ∧ es.length ≤ 40 ∧ ∀ i, i < es.length → okG n es i
instance (n : Int) (es : List E) : Decidable (GV n es) := by unfold GV; infer_instance

theorem c_GraphValid (w : World) (n : Int) (vE : Value) (es : List E) (hE : RL w vE es) (hl : es.length ≤ 1099511627776) :
    Tri Try.prog 85 [.agg #[.int .i64 n, vE]] w [] fun r T => r = .bool (decide (GV n es)) ∧ T = [] := by
  have bad : ¬ GV n es → Value.bool false = .bool (decide (GV n es)) := fun h => by rw [decide_eq_false h]
  refine Tri.intro (hf := Try.func85) (hb := rfl) (hn := Try.ntmps85) (Nat.le_of_ble_eq_true rfl) ?_
  try refine go ⟨?_⟩
  refine WPL.eff (OpE.box rfl) rfl rfl ?_; rintro _ _ ⟨b, rfl, rfl⟩
  repeat' (first | refine go ⟨?_⟩ | (refine isCond ?_; refine WP.condD rfl (fun hc => ?_) (fun hc => ?_)) | (refine isGuard ?_; refine WPL.splitD rfl rfl (fun hc => ?_) (fun hc => ?_)))
  · refine PE.ret1 (T := []) (T' := []) rfl rV ?_ sT
    exact ⟨bad fun h => by have := h.1; omega, rfl⟩
  · refine PE.ret1 (T := []) (T' := []) rfl rV ?_ sT
    exact ⟨bad fun h => by have := h.2.1; omega, rfl⟩
  · refine PE.ret1 (T := []) (T' := []) rfl rV ?_ sT
    exact ⟨bad fun h => by have := h.2.2.1; omega, rfl⟩
  refine WP.loop (σ := Nat) (fun k => [(1, .pointer (some ⟨b, 0, none⟩)), (20, vE), (21, .int .i64 es.length), (22, .int .i64 k)]) (fun _ => [Tok.blk b [.int .i64 n, vE]]) (fun k => k ≤ es.length ∧ ∀ i, i < k → okG n es i) (fun k => es.length - k) 0 ⟨Nat.zero_le _, by omega⟩ sE sT ?_
  rintro k ⟨hk, hm⟩
  try refine go ⟨?_⟩
  refine WP.condD rfl (fun hk' => ?_) (fun hk' => ?_)
  · try refine go ⟨?_⟩
    refine WPL.eff OpE.alloc rfl rfl ?_; rintro _ _ ⟨be, rfl, rfl⟩
    try refine go ⟨?_⟩
    have bad' : ¬ okG n es k → Value.bool false = .bool (decide (GV n es)) := fun h => bad fun h' => h (h'.2.2.2 k (by omega))
    have ek : ((k : Int) - 1).toNat = k - 1 := by omega
    refine WP.draw [Tok.blk b [.int .i64 n, vE], Tok.blk be [.int .i64 (es.getD k eD).A, .int .i64 (es.getD k eD).B]] mixed ?_
    refine WPD.take 0 rfl (by first | exact (Op1.fieldAddr rfl) | exact (Op1.fieldAddrE rfl rD lT)) rfl rfl sT kR kR kR xQP ?_
    refine WPD.take 1 rfl (by first | exact (Op1.load rfl mM (by rfl)) | exact (Op1.loadI rfl rD lT) | exact (Op1.loadAll rfl mM (by rfl)) | exact (Op1.loadE rfl rD lT (by rfl)) | exact (Op1.loadEAgg rfl rD lT (by rfl))) rfl rfl sT kR kR kR xQP ?_
    refine WPD.take 2 rfl (Op1.ltI rfl rfl) rfl rfl sT kR kR kR xQP ?_
    refine WPD.take 3 rfl (Op1.move rfl) rfl rfl sT kR kR kR xQP ?_
    first | refine WPD.splitD 30 rfl (fun h30 => ?t1) (fun h30 => ?f1) | refine WPD.split 30 rfl (fun h30 => ?t1) (fun h30 => ?f1)
    case' t1 =>
      refine WPD.skip 4 rfl rfl rfl sT kR kR kR xQP ?_
      refine WPD.skip 6 rfl rfl rfl sT kR kR kR xQP ?_
      refine WPD.skip 5 rfl rfl rfl sT kR kR kR xQP ?_
      refine WPD.skip 7 rfl rfl rfl sT kR kR kR xQP ?_
      refine WPD.skip 8 rfl rfl rfl sT kR kR kR xQP ?_
      refine WPD.take 9 rfl (by first | exact (Op1.pickT rfl rfl) | exact (Op1.pickF rfl rfl)) rfl rfl sT kR kR kR xQP ?_
      refine WPD.take 10 rfl (Op1.move rfl) rfl rfl sT kR kR kR xQP ?_
      refine WPD.skip 11 rfl rfl rfl sT kR kR kR xQP ?_
      refine WPD.skip 13 rfl rfl rfl sT kR kR kR xQP ?_
      refine WPD.skip 12 rfl rfl rfl sT kR kR kR xQP ?_
      refine WPD.skip 14 rfl rfl rfl sT kR kR kR xQP ?_
      refine WPD.skip 15 rfl rfl rfl sT kR kR kR xQP ?_
      refine WPD.take 16 rfl (by first | exact (Op1.pickT rfl rfl) | exact (Op1.pickF rfl rfl)) rfl rfl sT kR kR kR xQP ?_
      refine WPD.take 17 rfl (Op1.move rfl) rfl rfl sT kR kR kR xQP ?_
      refine WPD.skip 18 rfl rfl rfl sT kR kR kR xQP ?_
      refine WPD.skip 19 rfl rfl rfl sT kR kR kR xQP ?_
      refine WPD.skip 20 rfl rfl rfl sT kR kR kR xQP ?_
      refine WPD.skip 21 rfl rfl rfl sT kR kR kR xQP ?_
      refine WPD.skip 23 rfl rfl rfl sT kR kR kR xQP ?_
      refine WPD.skip 27 rfl rfl rfl sT kR kR kR xQP ?_
      refine WPD.skip 22 rfl rfl rfl sT kR kR kR xQP ?_
      refine WPD.skip 24 rfl rfl rfl sT kR kR kR xQP ?_
      refine WPD.skip 25 rfl rfl rfl sT kR kR kR xQP ?_
      refine WPD.skip 26 rfl rfl rfl sT kR kR kR xQP ?_
      refine WPD.skip 28 rfl rfl rfl sT kR kR kR xQP ?_
      refine WPD.skip 29 rfl rfl rfl sT kR kR kR xQP ?_
      refine WPD.skip 30 rfl rfl rfl sT kR kR kR xQP ?_
      refine WPD.take 31 rfl (by first | exact (Op1.pickT rfl rfl) | exact (Op1.pickF rfl rfl)) rfl rfl sT kR kR kR xQP ?_
      refine WPD.done kR ?_
    case' f1 =>
      refine WPD.take 4 rfl (by first | exact (Op1.fieldAddr rfl) | exact (Op1.fieldAddrE rfl rD lT)) rfl rfl sT kR kR kR xQP ?_
      refine WPD.take 6 rfl (by first | exact (Op1.fieldAddr rfl) | exact (Op1.fieldAddrE rfl rD lT)) rfl rfl sT kR kR kR xQP ?_
      refine WPD.take 5 rfl (by first | exact (Op1.load rfl mM (by rfl)) | exact (Op1.loadI rfl rD lT) | exact (Op1.loadAll rfl mM (by rfl)) | exact (Op1.loadE rfl rD lT (by rfl)) | exact (Op1.loadEAgg rfl rD lT (by rfl))) rfl rfl sT kR kR kR xQP ?_
      refine WPD.take 7 rfl (by first | exact (Op1.load rfl mM (by rfl)) | exact (Op1.loadI rfl rD lT) | exact (Op1.loadAll rfl mM (by rfl)) | exact (Op1.loadE rfl rD lT (by rfl)) | exact (Op1.loadEAgg rfl rD lT (by rfl))) rfl rfl sT kR kR kR xQP ?_
      refine WPD.take 8 rfl (Op1.geI rfl rfl) rfl rfl sT kR kR kR xQP ?_
      refine WPD.take 9 rfl (by first | exact (Op1.pickT rfl rfl) | exact (Op1.pickF rfl rfl)) rfl rfl sT kR kR kR xQP ?_
      refine WPD.take 10 rfl (Op1.move rfl) rfl rfl sT kR kR kR xQP ?_
      first | refine WPD.splitD 37 rfl (fun h37 => ?t2) (fun h37 => ?f2) | refine WPD.split 37 rfl (fun h37 => ?t2) (fun h37 => ?f2)
      case' t2 =>
        refine WPD.skip 11 rfl rfl rfl sT kR kR kR xQP ?_
        refine WPD.skip 13 rfl rfl rfl sT kR kR kR xQP ?_
        refine WPD.skip 12 rfl rfl rfl sT kR kR kR xQP ?_
        refine WPD.skip 14 rfl rfl rfl sT kR kR kR xQP ?_
        refine WPD.skip 15 rfl rfl rfl sT kR kR kR xQP ?_
        refine WPD.take 16 rfl (by first | exact (Op1.pickT rfl rfl) | exact (Op1.pickF rfl rfl)) rfl rfl sT kR kR kR xQP ?_
        refine WPD.take 17 rfl (Op1.move rfl) rfl rfl sT kR kR kR xQP ?_
        refine WPD.skip 18 rfl rfl rfl sT kR kR kR xQP ?_
        refine WPD.skip 19 rfl rfl rfl sT kR kR kR xQP ?_
        refine WPD.skip 20 rfl rfl rfl sT kR kR kR xQP ?_
        refine WPD.skip 21 rfl rfl rfl sT kR kR kR xQP ?_
        refine WPD.skip 23 rfl rfl rfl sT kR kR kR xQP ?_
        refine WPD.skip 27 rfl rfl rfl sT kR kR kR xQP ?_
        refine WPD.skip 22 rfl rfl rfl sT kR kR kR xQP ?_
        refine WPD.skip 24 rfl rfl rfl sT kR kR kR xQP ?_
        refine WPD.skip 25 rfl rfl rfl sT kR kR kR xQP ?_
        refine WPD.skip 26 rfl rfl rfl sT kR kR kR xQP ?_
        refine WPD.skip 28 rfl rfl rfl sT kR kR kR xQP ?_
        refine WPD.skip 29 rfl rfl rfl sT kR kR kR xQP ?_
        refine WPD.skip 30 rfl rfl rfl sT kR kR kR xQP ?_
        refine WPD.take 31 rfl (by first | exact (Op1.pickT rfl rfl) | exact (Op1.pickF rfl rfl)) rfl rfl sT kR kR kR xQP ?_
        refine WPD.done kR ?_
      case' f2 =>
        refine WPD.take 11 rfl (by first | exact (Op1.fieldAddr rfl) | exact (Op1.fieldAddrE rfl rD lT)) rfl rfl sT kR kR kR xQP ?_
        refine WPD.take 13 rfl (by first | exact (Op1.fieldAddr rfl) | exact (Op1.fieldAddrE rfl rD lT)) rfl rfl sT kR kR kR xQP ?_
        refine WPD.take 12 rfl (by first | exact (Op1.load rfl mM (by rfl)) | exact (Op1.loadI rfl rD lT) | exact (Op1.loadAll rfl mM (by rfl)) | exact (Op1.loadE rfl rD lT (by rfl)) | exact (Op1.loadEAgg rfl rD lT (by rfl))) rfl rfl sT kR kR kR xQP ?_
        refine WPD.take 14 rfl (by first | exact (Op1.load rfl mM (by rfl)) | exact (Op1.loadI rfl rD lT) | exact (Op1.loadAll rfl mM (by rfl)) | exact (Op1.loadE rfl rD lT (by rfl)) | exact (Op1.loadEAgg rfl rD lT (by rfl))) rfl rfl sT kR kR kR xQP ?_
        refine WPD.take 15 rfl (Op1.geI rfl rfl) rfl rfl sT kR kR kR xQP ?_
        refine WPD.take 16 rfl (by first | exact (Op1.pickT rfl rfl) | exact (Op1.pickF rfl rfl)) rfl rfl sT kR kR kR xQP ?_
        refine WPD.take 17 rfl (Op1.move rfl) rfl rfl sT kR kR kR xQP ?_
        first | refine WPD.splitD 44 rfl (fun h44 => ?t3) (fun h44 => ?f3) | refine WPD.split 44 rfl (fun h44 => ?t3) (fun h44 => ?f3)
        case' t3 =>
          refine WPD.skip 18 rfl rfl rfl sT kR kR kR xQP ?_
          refine WPD.skip 19 rfl rfl rfl sT kR kR kR xQP ?_
          refine WPD.skip 20 rfl rfl rfl sT kR kR kR xQP ?_
          refine WPD.skip 21 rfl rfl rfl sT kR kR kR xQP ?_
          refine WPD.skip 23 rfl rfl rfl sT kR kR kR xQP ?_
          refine WPD.skip 27 rfl rfl rfl sT kR kR kR xQP ?_
          refine WPD.skip 22 rfl rfl rfl sT kR kR kR xQP ?_
          refine WPD.skip 24 rfl rfl rfl sT kR kR kR xQP ?_
          refine WPD.skip 25 rfl rfl rfl sT kR kR kR xQP ?_
          refine WPD.skip 26 rfl rfl rfl sT kR kR kR xQP ?_
          refine WPD.skip 28 rfl rfl rfl sT kR kR kR xQP ?_
          refine WPD.skip 29 rfl rfl rfl sT kR kR kR xQP ?_
          refine WPD.skip 30 rfl rfl rfl sT kR kR kR xQP ?_
          refine WPD.take 31 rfl (by first | exact (Op1.pickT rfl rfl) | exact (Op1.pickF rfl rfl)) rfl rfl sT kR kR kR xQP ?_
          refine WPD.done kR ?_
        case' f3 =>
          refine WPD.take 18 rfl (Op1.move rfl) rfl rfl sT kR kR kR xQP ?_
          refine WPD.take 19 rfl (Op1.gtI rfl rfl) rfl rfl sT kR kR kR xQP ?_
          refine WPD.take 20 rfl (Op1.move rfl) rfl rfl sT kR kR kR xQP ?_
          first | refine WPD.splitD 47 rfl (fun h47 => ?t4) (fun h47 => ?f4) | refine WPD.split 47 rfl (fun h47 => ?t4) (fun h47 => ?f4)
          case' t4 =>
            refine WPD.take 21 rfl (by first | exact (Op1.fieldAddr rfl) | exact (Op1.fieldAddrE rfl rD lT)) rfl rfl sT kR kR kR xQP ?_
            refine WPD.take 23 rfl (Op1.move rfl) rfl rfl sT kR kR kR xQP ?_
            refine WPD.take 27 rfl (by first | exact (Op1.load rfl mM (by rfl)) | exact (Op1.loadI rfl rD lT) | exact (Op1.loadAll rfl mM (by rfl)) | exact (Op1.loadE rfl rD lT (by rfl)) | exact (Op1.loadEAgg rfl rD lT (by rfl))) rfl rfl sT kR kR kR xQP ?_
            refine WPD.take 22 rfl (by first | exact (Op1.load rfl mM (by rfl)) | exact (Op1.loadI rfl rD lT) | exact (Op1.loadAll rfl mM (by rfl)) | exact (Op1.loadE rfl rD lT (by rfl)) | exact (Op1.loadEAgg rfl rD lT (by rfl))) rfl rfl sT kR kR kR xQP ?_
            refine WPD.take 24 rfl (Op1.sub rfl rfl (by omega)) rfl rfl sT kR kR kR xQP ?_
            refine WPD.take 25 rfl (by first | exact (Op1.indexAddr rfl rfl rD lT) | exact (Op1.indexAddrZ rfl rfl rD lT)) rfl rfl sT kR kR kR xQP ?_
            refine WPD.take 26 rfl (by first | exact (Op1.load rfl mM (by rfl)) | exact (Op1.loadI rfl rD lT) | exact (Op1.loadAll rfl mM (by rfl)) | exact (Op1.loadE rfl rD lT (by rfl)) | exact (Op1.loadEAgg rfl rD lT (by rfl))) rfl rfl sT kR kR kR xQP ?_
            refine WPD.eff 28 kR rfl (OpE.call lO (fun w hw => c_cmpE _ (es.getD ((k : Int) - 1).toNat eD) (es.getD k eD))) rfl rfl ?_
            rintro r _ ⟨T, ⟨rfl, rfl⟩, rfl⟩
            refine ⟨sT, ?_⟩
            refine WPD.take 29 rfl (Op1.geI rfl rfl) rfl rfl sT kR kR kR xQP ?_
            refine WPD.take 30 rfl (by first | exact (Op1.pickT rfl rfl) | exact (Op1.pickF rfl rfl)) rfl rfl sT kR kR kR xQP ?_
            refine WPD.take 31 rfl (by first | exact (Op1.pickT rfl rfl) | exact (Op1.pickF rfl rfl)) rfl rfl sT kR kR kR xQP ?_
            refine WPD.done kR ?_
          case' f4 =>
            refine WPD.skip 21 rfl rfl rfl sT kR kR kR xQP ?_
            refine WPD.skip 23 rfl rfl rfl sT kR kR kR xQP ?_
            refine WPD.skip 27 rfl rfl rfl sT kR kR kR xQP ?_
            refine WPD.skip 22 rfl rfl rfl sT kR kR kR xQP ?_
            refine WPD.skip 24 rfl rfl rfl sT kR kR kR xQP ?_
            refine WPD.skip 25 rfl rfl rfl sT kR kR kR xQP ?_
            refine WPD.skip 26 rfl rfl rfl sT kR kR kR xQP ?_
            refine WPD.skip 28 rfl rfl rfl sT kR kR kR xQP ?_
            refine WPD.skip 29 rfl rfl rfl sT kR kR kR xQP ?_
            refine WPD.take 30 rfl (by first | exact (Op1.pickT rfl rfl) | exact (Op1.pickF rfl rfl)) rfl rfl sT kR kR kR xQP ?_
            refine WPD.take 31 rfl (by first | exact (Op1.pickT rfl rfl) | exact (Op1.pickF rfl rfl)) rfl rfl sT kR kR kR xQP ?_
            refine WPD.done kR ?_
    all_goals (repeat' (first | refine go ⟨?_⟩ | (refine isCond ?_; refine WP.condD rfl (fun hc => ?_) (fun hc => ?_)) | (refine isGuard ?_; refine WPL.splitD rfl rfl (fun hc => ?_) (fun hc => ?_))))
    · refine PE.again (k + 1) ?_ ?_ sE sT
      · refine ⟨by omega, fun i hi => ?_⟩
        rcases Nat.lt_succ_iff_lt_or_eq.1 hi with h' | rfl
        · exact hm i h'
        · exact ⟨by omega, by omega, by omega, fun h => by omega⟩
      · omega
    · refine PE.ret1 (T := []) (T' := []) rfl rV ?_ sT
      rw [ek, cmpE_nonneg] at hc
      exact ⟨bad' fun h => hc (h.2.2.2 (by omega)), rfl⟩
    · refine PE.again (k + 1) ?_ ?_ sE sT
      · refine ⟨by omega, fun i hi => ?_⟩
        rcases Nat.lt_succ_iff_lt_or_eq.1 hi with h' | rfl
        · exact hm i h'
        · rw [ek, cmpE_nonneg] at hc
          exact ⟨by omega, by omega, by omega, fun _ => Decidable.not_not.1 hc⟩
      · omega
    all_goals (refine PE.ret1 (T := []) (T' := []) rfl rV ?_ sT; exact ⟨bad' fun h => by have h1 := h.1; have h2 := h.2.1; have h3 := h.2.2.1; omega, rfl⟩)
  · try refine go ⟨?_⟩
    refine PE.ret1 (T := []) (T' := []) rfl rV ?_ sT
    have : k = es.length := by omega
    subst this
    exact ⟨by rw [decide_eq_true]; exact ⟨by omega, by omega, by omega, hm⟩, rfl⟩
end Go.Proofs.Ytfigegmgopnfhaa
/- Graphs: the walks of the searches, of has, hasNode, parts, connected. Conditions: those of each contract. -/
namespace Go.Proofs.Ytfigegmgopnfhaa
open Go
theorem RL.nilG {α : Type} [Enc α] {w : World} {v : Value} {xs : List α} (h : RL w v xs) (hv : vfp v = []) : xs = [] := by
  rcases h.2 with ⟨_, h0⟩ | ⟨b, off, cap, rfl, _⟩
  · exact List.eq_nil_of_length_eq_zero h0
  · simp [vfp] at hv
set_option linter.unusedVariables false set_option linter.unusedSimpArgs false attribute [local irreducible] Tok.own Tok.blk RL Rd eptr WP WPL PE WPD WPO Op1 OpE Tri Again Mid Exit.then Exit.inBlock bodyPost RP Code.wp wpList isOwn OneM One
set_option maxHeartbeats 8000000

theorem c_IndexE (w : World) (v : Value) (e : E) (es : List E) (h : RL w v es) (hl : es.length ≤ 1099511627776) :
    Tri Try.prog 155 [v, ep e] w [] fun r T => T = [] ∧ ((e ∈ es ∧ ∃ n : Nat, n < es.length ∧ r = .int .i64 n ∧ es.getD n eD = e ∧ ∀ m, m < n → es.getD m eD ≠ e) ∨ (e ∉ es ∧ r = .int .i64 (-1))) := by
  refine Tri.intro (hf := Try.func155) (hb := rfl) (hn := Try.ntmps155) (Nat.le_of_ble_eq_true rfl) ?_
  try refine go ⟨?_⟩
  refine WPL.eff (OpE.box rfl) rfl rfl ?_; rintro _ _ ⟨b, rfl, rfl⟩
  try refine go ⟨?_⟩
  refine WP.loop (σ := Nat) (fun k => [(0, v), (3, .pointer (some ⟨b, 0, none⟩)), (7, .int .i64 es.length), (8, .int .i64 k)]) (fun _ => [Tok.blk b [.int .i64 e.A, .int .i64 e.B]]) (fun k => k ≤ es.length ∧ ∀ m, m < k → es.getD m eD ≠ e) (fun k => es.length - k) 0 ⟨Nat.zero_le _, by omega⟩ sE sT ?_
  rintro k ⟨hk, hm⟩
  try refine go ⟨?_⟩
  refine WP.condD rfl (fun hc => ?_) (fun hc => ?_)
  · try refine go ⟨?_⟩
    refine WP.draw [Tok.blk b [.int .i64 e.A, .int .i64 e.B]] mixed ?_
    refine WPD.take 0 rfl (by first | exact (Op1.load rfl mM (by rfl)) | exact (Op1.loadI rfl rD lT) | exact (Op1.loadAll rfl mM (by rfl)) | exact (Op1.loadE rfl rD lT (by rfl)) | exact (Op1.loadEAgg rfl rD lT (by rfl))) rfl rfl sT kR kR kR xQP ?_
    refine WPD.take 1 rfl (Op1.move rfl) rfl rfl sT kR kR kR xQP ?_
    refine WPD.take 2 rfl (Op1.move rfl) rfl rfl sT kR kR kR xQP ?_
    refine WPD.take 3 rfl (by first | exact (Op1.indexAddr rfl rfl rD lT) | exact (Op1.indexAddrZ rfl rfl rD lT)) rfl rfl sT kR kR kR xQP ?_
    refine WPD.take 4 rfl (by first | exact (Op1.load rfl mM (by rfl)) | exact (Op1.loadI rfl rD lT) | exact (Op1.loadAll rfl mM (by rfl)) | exact (Op1.loadE rfl rD lT (by rfl)) | exact (Op1.loadEAgg rfl rD lT (by rfl))) rfl rfl sT kR kR kR xQP ?_
    refine WPD.take 5 rfl (by first | exact (Op1.eqI rfl rfl) | exact (Op1.eqB rfl rfl) | exact (Op1.eqE rfl rfl) | exact (Op1.eqNil rfl rD)) rfl rfl sT kR kR kR xQP ?_
    refine WPD.done kR ?_
    try refine go ⟨?_⟩
    refine WP.condD rfl (fun he => ?_) (fun he => ?_)
    · try refine go ⟨?_⟩
      refine PE.ret1 (T := []) (T' := []) rfl rV ?_ sT
      have hk' : k < es.length := by omega
      have he : es.getD k eD = e := Eq.symm he
      exact ⟨rfl, .inl ⟨he ▸ getD_memI hk', k, hk', rfl, he, hm⟩⟩
    · try refine go ⟨?_⟩
      refine PE.again (k + 1) ?_ ?_ sE sT
      · refine ⟨by omega, fun m hm' => ?_⟩
        rcases Nat.lt_succ_iff_lt_or_eq.1 hm' with h' | rfl
        · exact hm m h'
        · exact fun h2 => he (Eq.symm h2)
      · omega
  · try refine go ⟨?_⟩
    refine PE.ret1 (T := []) (T' := []) rfl rV ?_ sT
    refine ⟨rfl, .inr ⟨fun hx => ?_, rfl⟩⟩
    obtain ⟨n, hn, h2⟩ := mem_getD (d := eD) hx
    exact hm n (by omega) h2

theorem c_ContainsE (w : World) (v : Value) (e : E) (es : List E) (h : RL w v es) (hl : es.length ≤ 1099511627776) :
    Tri Try.prog 133 [v, ep e] w [] fun r T => T = [] ∧ r = .bool (decide (e ∈ es)) := by
  refine Tri.intro (hf := Try.func133) (hb := rfl) (hn := Try.ntmps133) (Nat.le_of_ble_eq_true rfl) ?_
  try refine go ⟨?_⟩
  refine WPL.eff (OpE.box rfl) rfl rfl ?_; rintro _ _ ⟨b, rfl, rfl⟩
  try refine go ⟨?_⟩
  refine WPL.eff (OpE.call lO (fun w hw => c_IndexE _ v e es (Rd.at rD hw) hl)) rfl rfl ?_
  rintro r _ ⟨_, ⟨rfl, hr⟩, rfl⟩
  rcases hr with ⟨hx, n, hn, rfl, _⟩ | ⟨hx, rfl⟩
  · try refine go ⟨?_⟩
    refine PE.ret1 (T := []) (T' := []) rfl rV ?_ sT
    refine ⟨rfl, ?_⟩
    rw [decide_eq_true hx, decide_eq_true (by omega)]
  · try refine go ⟨?_⟩
    refine PE.ret1 (T := []) (T' := []) rfl rV ?_ sT
    refine ⟨rfl, ?_⟩
    rw [decide_eq_false hx, decide_eq_false (by omega)]

theorem c_CloneE (w : World) (v : Value) (es : List E) (h : RL w v es) (hl : es.length ≤ 1099511627776) :
    Tri Try.prog 90 [v] w [] fun r T => T = [Tok.own r es] := by
  refine Tri.intro (hf := Try.func90) (hb := rfl) (hn := Try.ntmps90) (Nat.le_of_ble_eq_true rfl) ?_
  try refine go ⟨?_⟩
  refine WP.cond rfl (fun hn => ?_) (fun hn => ?_)
  · have hx : es = [] := RL.nilG h (by simpa using hn)
    subst hx
    try refine go ⟨?_⟩
    refine PE.nilTok E ?_
    refine PE.ret1 (T := []) (T' := [Tok.own _ ([] : List E)]) rfl rV ?_ sT
    rfl
  · try refine go ⟨?_⟩
    refine WPL.eff (OpE.buildSlice ([] : List E) pA rfl (by decide)) rfl rfl ?_; rintro s _ rfl
    try refine go ⟨?_⟩
    refine WPL.eff (OpE.append rfl rfl pM rD lN) rfl rfl ?_; rintro r _ rfl
    try refine go ⟨?_⟩
    refine PE.ret1 (T := []) (T' := [Tok.own r es]) rfl rV ?_ sT
    rfl

theorem c_has (w : World) (n : Int) (vE : Value) (es : List E) (e : E) (hE : RL w vE es) (hl : es.length ≤ 1099511627776) :
    Tri Try.prog 86 [.agg #[.int .i64 n, vE], ep e] w [] fun r T => T = [] ∧ r = .bool (decide (e ∈ es)) := by
  refine Tri.intro (hf := Try.func86) (hb := rfl) (hn := Try.ntmps86) (Nat.le_of_ble_eq_true rfl) ?_
  try refine go ⟨?_⟩
  refine WPL.eff (OpE.box rfl) rfl rfl ?_; rintro _ _ ⟨b, rfl, rfl⟩
  try refine go ⟨?_⟩
  refine WPL.eff (OpE.box rfl) rfl rfl ?_; rintro _ _ ⟨b2, rfl, rfl⟩
  try refine go ⟨?_⟩
  refine WPL.eff (OpE.call lO (fun w hw => c_ContainsE _ vE e es (Rd.at rD hw) hl)) rfl rfl ?_
  rintro r _ ⟨_, ⟨rfl, rfl⟩, rfl⟩
  try refine go ⟨?_⟩
  refine PE.ret1 (T := []) (T' := []) rfl rV ?_ sT
  exact ⟨rfl, rfl⟩

/-- x is a node of a valid graph. -/
def GN (n : Int) (es : List E) (x : Int) : Prop := GV n es ∧ Nd n x
instance (n : Int) (es : List E) (x : Int) : Decidable (GN n es x) := by unfold GN; infer_instance

theorem c_hasNodeG (w : World) (n : Int) (vE : Value) (es : List E) (x : Int) (hE : RL w vE es) (hl : es.length ≤ 1099511627776) :
    Tri Try.prog 93 [.agg #[.int .i64 n, vE], .int .i64 x] w [] fun r T => r = .bool (decide (GN n es x)) ∧ T = [] := by
  refine Tri.intro (hf := Try.func93) (hb := rfl) (hn := Try.ntmps93) (Nat.le_of_ble_eq_true rfl) ?_
  try refine go ⟨?_⟩
  refine WPL.eff (OpE.box rfl) rfl rfl ?_; rintro _ _ ⟨b, rfl, rfl⟩
  try refine go ⟨?_⟩
  refine WPL.eff (OpE.call lO (fun w hw => c_GraphValid _ n vE es (Rd.at rD hw) hl)) rfl rfl ?_
  rintro r _ ⟨T, ⟨rfl, rfl⟩, rfl⟩
  repeat' (first | refine go ⟨?_⟩ | (refine isCond ?_; refine WP.condD rfl (fun hc => ?_) (fun hc => ?_)) | (refine isGuard ?_; refine WPL.splitD rfl rfl (fun hc => ?_) (fun hc => ?_)))
  all_goals (refine PE.ret1 (T := []) (T' := []) rfl rV ?_ sT)
  · refine ⟨?_, rfl⟩
    congr 1; rw [decide_eq_decide]; unfold GN Nd; constructor
    · intro h; exact ⟨by assumption, by assumption, h⟩
    · intro h; exact h.2.2
  · refine ⟨?_, rfl⟩
    rw [decide_eq_false]; unfold GN Nd; omega
  · refine ⟨?_, rfl⟩
    rw [decide_eq_false]; unfold GN; intro h; exact absurd h.1 ‹_›

theorem GV.okE {n : Int} {es : List E} (h : GV n es) : okE n es := by
  intro e he
  obtain ⟨i, hi, rfl⟩ := mem_getD (d := eD) he
  have := h.2.2.2 i hi
  unfold okG at this
  unfold Nd; omega

/-- What is asked of the edges where only their nodes matter. -/
structure NE (n : Int) (es : List E) : Prop where
  n1 : 0 ≤ n
  n2 : n ≤ 16
  ok : okE n es
  le : es.length ≤ 1000
theorem GV.ne {n : Int} {es : List E} (h : GV n es) : NE n es := ⟨by have := h.1; omega, h.2.1, h.okE, by have := h.2.2.1; omega⟩

theorem c_parts (w : World) (n : Int) (vE : Value) (es : List E) (hE : RL w vE es) (hg : NE n es) :
    Tri Try.prog 112 [.agg #[.int .i64 n, vE]] w [] fun r T => T = [Tok.own r (labs n es)] := by
  have hl := hg.le
  have hn1 := hg.n1
  have hn2 := hg.n2
  refine Tri.intro (hf := Try.func112) (hb := rfl) (hn := Try.ntmps112) (Nat.le_of_ble_eq_true rfl) ?_
  try refine go ⟨?_⟩
  refine WPL.eff (OpE.box rfl) rfl rfl ?_; rintro _ _ ⟨b, rfl, rfl⟩
  try refine go ⟨?_⟩
  refine WPL.eff (OpE.buildSlice ([] : List Int) pA rfl (by decide)) rfl rfl ?_; rintro s _ rfl
  try refine go ⟨?_⟩
  refine WP.loop (σ := Nat × Value) (fun k => [(1, .pointer (some ⟨b, 0, none⟩)), (3, k.2), (10, .int .i64 n), (11, .int .i64 k.1)]) (fun k => [Tok.own k.2 (iota k.1), Tok.blk b [.int .i64 n, vE]]) (fun k => k.1 ≤ n.toNat) (fun k => n.toNat - k.1) (0, s) (Nat.zero_le _) sE sT ?_
  rintro ⟨k, v⟩ hk
  dsimp only at hk ⊢
  try refine go ⟨?_⟩
  refine WP.condD rfl (fun hc => ?_) (fun hc => ?_)
  · try refine go ⟨?_⟩
    refine WPL.eff (OpE.buildSlice [(k : Int)] pA rfl (by decide)) rfl rfl ?_; rintro s1 _ rfl
    try refine go ⟨?_⟩
    have hil := iota_length k
    refine WPL.eff (OpE.append rfl rfl pM rD lN) rfl rfl ?_; rintro v1 _ rfl
    try refine go ⟨?_⟩
    rw [← iota_succ]
    refine PE.again (k + 1, v1) ?_ ?_ sE sT
    · dsimp only; omega
    · dsimp only; omega
  have hkn : k = n.toNat := by omega
  subst hkn
  try refine go ⟨?_⟩
  refine WP.loop (σ := Nat) (fun k => [(1, .pointer (some ⟨b, 0, none⟩)), (3, v), (20, .int .i64 n), (21, .int .i64 k)]) (fun k => [Tok.own v (rnd es (iota n.toNat) k), Tok.blk b [.int .i64 n, vE]]) (fun k => k ≤ n.toNat) (fun k => n.toNat - k) 0 (Nat.zero_le _) sE sT ?_
  intro k hk
  try refine go ⟨?_⟩
  refine WP.condD rfl (fun hc2 => ?_) (fun hc2 => ?_)
  · try refine go ⟨?_⟩
    refine WP.loop (σ := Nat) (fun j => [(1, .pointer (some ⟨b, 0, none⟩)), (3, v), (20, .int .i64 n), (21, .int .i64 k), (24, vE), (25, .int .i64 es.length), (26, .int .i64 j)]) (fun j => [Tok.own v ((es.take j).foldl relx (rnd es (iota n.toNat) k)), Tok.blk b [.int .i64 n, vE]]) (fun j => j ≤ es.length) (fun j => es.length - j) 0 (Nat.zero_le _) sE sT ?_
    intro j hj
    try refine go ⟨?_⟩
    refine WP.condD rfl (fun hc3 => ?_) (fun hc3 => ?_)
    · obtain ⟨out, ho⟩ : ∃ out, out = (es.take j).foldl relx (rnd es (iota n.toNat) k) := ⟨_, rfl⟩
      have hol : out.length = n.toNat := by rw [ho, fold_length, rnd_length, iota_length]
      rw [← ho]
      have hj' : j < es.length := by omega
      obtain ⟨hA, hB⟩ := hg.ok (es.getD j eD) (getD_memI hj')
      have hA1 := hA.1
      have hA2 := hA.2
      have hB1 := hB.1
      have hB2 := hB.2
      try refine go ⟨?_⟩
      refine WPL.eff OpE.alloc rfl rfl ?_; rintro _ _ ⟨be, rfl, rfl⟩
      try refine go ⟨?_⟩
      refine WP.draw [Tok.own v out, Tok.blk be [.int .i64 (es.getD j eD).A, .int .i64 (es.getD j eD).B]] mixed ?_
      refine WPD.take 0 rfl (Op1.move rfl) rfl rfl sT kR kR kR xQP ?_
      refine WPD.take 1 rfl (by first | exact (Op1.fieldAddr rfl) | exact (Op1.fieldAddrE rfl rD lT)) rfl rfl sT kR kR kR xQP ?_
      refine WPD.take 5 rfl (Op1.move rfl) rfl rfl sT kR kR kR xQP ?_
      refine WPD.take 6 rfl (by first | exact (Op1.fieldAddr rfl) | exact (Op1.fieldAddrE rfl rD lT)) rfl rfl sT kR kR kR xQP ?_
      refine WPD.take 2 rfl (by first | exact (Op1.load rfl mM (by rfl)) | exact (Op1.loadI rfl rD lT) | exact (Op1.loadAll rfl mM (by rfl)) | exact (Op1.loadE rfl rD lT (by rfl)) | exact (Op1.loadEAgg rfl rD lT (by rfl))) rfl rfl sT kR kR kR xQP ?_
      refine WPD.take 7 rfl (by first | exact (Op1.load rfl mM (by rfl)) | exact (Op1.loadI rfl rD lT) | exact (Op1.loadAll rfl mM (by rfl)) | exact (Op1.loadE rfl rD lT (by rfl)) | exact (Op1.loadEAgg rfl rD lT (by rfl))) rfl rfl sT kR kR kR xQP ?_
      refine WPD.take 3 rfl (by first | exact (Op1.indexAddr rfl rfl rD lT) | exact (Op1.indexAddrZ rfl rfl rD lT)) rfl rfl sT kR kR kR xQP ?_
      refine WPD.take 8 rfl (by first | exact (Op1.indexAddr rfl rfl rD lT) | exact (Op1.indexAddrZ rfl rfl rD lT)) rfl rfl sT kR kR kR xQP ?_
      refine WPD.take 4 rfl (by first | exact (Op1.load rfl mM (by rfl)) | exact (Op1.loadI rfl rD lT) | exact (Op1.loadAll rfl mM (by rfl)) | exact (Op1.loadE rfl rD lT (by rfl)) | exact (Op1.loadEAgg rfl rD lT (by rfl))) rfl rfl sT kR kR kR xQP ?_
      refine WPD.take 9 rfl (by first | exact (Op1.load rfl mM (by rfl)) | exact (Op1.loadI rfl rD lT) | exact (Op1.loadAll rfl mM (by rfl)) | exact (Op1.loadE rfl rD lT (by rfl)) | exact (Op1.loadEAgg rfl rD lT (by rfl))) rfl rfl sT kR kR kR xQP ?_
      refine WPD.take 10 rfl (Op1.bmin rfl rfl) rfl rfl sT kR kR kR xQP ?_
      refine WPD.eff 11 kR rfl (OpE.ofPure (Op1.assign rfl)) rfl rfl ?_
      rintro _ _ ⟨rfl, rfl⟩
      refine ⟨sT, ?_⟩
      refine WPD.done kR ?_
      try refine go ⟨?_⟩
      refine WP.draw [Tok.blk be [.int .i64 (es.getD j eD).A, .int .i64 (es.getD j eD).B]] mixed ?_
      refine WPD.take 0 rfl (Op1.move rfl) rfl rfl sT kR kR kR xQP ?_
      refine WPD.take 1 rfl (by first | exact (Op1.fieldAddr rfl) | exact (Op1.fieldAddrE rfl rD lT)) rfl rfl sT kR kR kR xQP ?_
      refine WPD.take 3 rfl (Op1.move rfl) rfl rfl sT kR kR kR xQP ?_
      refine WPD.take 4 rfl (by first | exact (Op1.fieldAddr rfl) | exact (Op1.fieldAddrE rfl rD lT)) rfl rfl sT kR kR kR xQP ?_
      refine WPD.take 6 rfl (Op1.move rfl) rfl rfl sT kR kR kR xQP ?_
      refine WPD.take 7 rfl (Op1.move rfl) rfl rfl sT kR kR kR xQP ?_
      refine WPD.take 2 rfl (by first | exact (Op1.load rfl mM (by rfl)) | exact (Op1.loadI rfl rD lT) | exact (Op1.loadAll rfl mM (by rfl)) | exact (Op1.loadE rfl rD lT (by rfl)) | exact (Op1.loadEAgg rfl rD lT (by rfl))) rfl rfl sT kR kR kR xQP ?_
      refine WPD.take 5 rfl (by first | exact (Op1.load rfl mM (by rfl)) | exact (Op1.loadI rfl rD lT) | exact (Op1.loadAll rfl mM (by rfl)) | exact (Op1.loadE rfl rD lT (by rfl)) | exact (Op1.loadEAgg rfl rD lT (by rfl))) rfl rfl sT kR kR kR xQP ?_
      refine WPD.eff 8 kR rfl (OpE.ofPure (by first | exact (Op1.indexAddr rfl rfl rD lT) | exact (Op1.indexAddrZ rfl rfl rD lT))) rfl rfl ?_
      rintro _ _ ⟨rfl, rfl⟩
      refine ⟨sT, ?_⟩
      refine WPD.eff0 9 kR rfl (OpE.store1 (_) rfl rfl pM lT rfl) rfl ?_
      rintro _ _ rfl
      refine ⟨sT, ?_⟩
      refine WPD.eff 10 kR rfl (OpE.ofPure (by first | exact (Op1.indexAddr rfl rfl rD lT) | exact (Op1.indexAddrZ rfl rfl rD lT))) rfl rfl ?_
      rintro _ _ ⟨rfl, rfl⟩
      refine ⟨sT, ?_⟩
      refine WPD.eff0 11 kR rfl (OpE.store1 (_) rfl rfl pM lT rfl) rfl ?_
      rintro _ _ rfl
      refine ⟨sT, ?_⟩
      refine WPD.done kR ?_
      try refine go ⟨?_⟩
      have hs := foldl_takeS eD relx (rnd es (iota n.toNat) k) hj'
      rw [← ho] at hs
      have hr : (out.set (es.getD j eD).A.toNat (min (out.getD (es.getD j eD).A.toNat 0) (out.getD (es.getD j eD).B.toNat 0))).set (es.getD j eD).B.toNat (min (out.getD (es.getD j eD).A.toNat 0) (out.getD (es.getD j eD).B.toNat 0)) = relx out (es.getD j eD) := rfl
      rw [hr, ← hs]
      refine PE.again (j + 1) ?_ ?_ sE sT
      · omega
      · omega
    · have hjn : j = es.length := by omega
      subst hjn
      rw [List.take_length]
      try refine go ⟨?_⟩
      refine PE.again (k + 1) ?_ ?_ sE sT
      · omega
      · omega
  · have hkn : k = n.toNat := by omega
    subst hkn
    try refine go ⟨?_⟩
    refine PE.ret1 (T := []) (T' := [Tok.own v (labs n es)]) rfl rV ?_ sT
    rfl
end Go.Proofs.Ytfigegmgopnfhaa
/- Graphs: the walks of connected, Connected, EdgeOf, ForestOf. Conditions: those of each contract. -/
namespace Go.Proofs.Ytfigegmgopnfhaa
open Go
/-- Two nodes have one label. -/
def cn (n : Int) (es : List E) (x y : Int) : Prop := lab n es x = lab n es y
instance (n : Int) (es : List E) (x y : Int) : Decidable (cn n es x y) := by unfold cn; infer_instance
def fstep (n : Int) (out : List E) (e : E) : List E := if cn n out e.A e.B then out else out ++ [e]
def forestL (n : Int) (es : List E) : List E := es.foldl (fstep n) []
theorem fstep_sub {n : Int} {out : List E} {e f : E} (h : f ∈ fstep n out e) : f ∈ out ∨ f = e := by
  unfold fstep at h
  split at h
  · exact .inl h
  · simpa using h
theorem fstep_len (n : Int) (out : List E) (e : E) : (fstep n out e).length ≤ out.length + 1 := by
  unfold fstep; split <;> simp
theorem ffold_sub {n : Int} : ∀ {es out : List E} {f : E}, f ∈ es.foldl (fstep n) out → f ∈ out ∨ f ∈ es
  | [], _, _, h => .inl h
  | e :: es, out, f, h => by
    rw [List.foldl_cons] at h
    rcases ffold_sub h with h | h
    · rcases fstep_sub h with h | h
      · exact .inl h
      · exact .inr (by simp [h])
    · exact .inr (List.mem_cons_of_mem _ h)
theorem ffold_len {n : Int} : ∀ (es out : List E), (es.foldl (fstep n) out).length ≤ out.length + es.length
  | [], _ => by simp
  | e :: es, out => by
    rw [List.foldl_cons]
    have := ffold_len (n := n) es (fstep n out e)
    have := fstep_len n out e
    simp only [List.length_cons]; omega
theorem NE.fold {n : Int} {es : List E} (h : NE n es) (j : Nat) : NE n ((es.take j).foldl (fstep n) []) := by
  refine ⟨h.n1, h.n2, fun e he => ?_, ?_⟩
  · rcases ffold_sub he with h1 | h1
    · cases h1
    · exact h.ok e (List.mem_of_mem_take h1)
  · have h1 := ffold_len (n := n) (es.take j) []
    have h2 : (es.take j).length ≤ es.length := by rw [List.length_take]; omega
    have := h.le
    simp only [List.length_nil] at h1
    omega
set_option linter.unusedVariables false set_option linter.unusedSimpArgs false attribute [local irreducible] Tok.own Tok.blk RL Rd eptr WP WPL PE WPD WPO Op1 OpE Tri Again Mid Exit.then Exit.inBlock bodyPost RP Code.wp wpList isOwn OneM One
set_option maxHeartbeats 8000000

theorem c_connected (w : World) (n : Int) (vE : Value) (es : List E) (x y : Int) (hE : RL w vE es) (hg : NE n es) (hx : Nd n x) (hy : Nd n y) :
    Tri Try.prog 94 [.agg #[.int .i64 n, vE], .int .i64 x, .int .i64 y] w [] fun r T => r = .bool (decide (cn n es x y)) ∧ T = [] := by
  have hx1 := hx.1
  have hx2 := hx.2
  have hy1 := hy.1
  have hy2 := hy.2
  have hll := labs_length n es
  refine Tri.intro (hf := Try.func94) (hb := rfl) (hn := Try.ntmps94) (Nat.le_of_ble_eq_true rfl) ?_
  try refine go ⟨?_⟩
  refine WPL.eff (OpE.box rfl) rfl rfl ?_; rintro _ _ ⟨b, rfl, rfl⟩
  try refine go ⟨?_⟩
  refine WPL.eff (OpE.call lO (fun w hw => c_parts _ n vE es (Rd.at rD hw) hg)) rfl rfl ?_
  rintro r _ ⟨T, rfl, rfl⟩
  try refine go ⟨?_⟩
  refine WP.draw [Tok.own r (labs n es)] mixed ?_
  refine WPD.take 0 rfl (Op1.move rfl) rfl rfl sT kR kR kR xQP ?_
  refine WPD.take 1 rfl (Op1.move rfl) rfl rfl sT kR kR kR xQP ?_
  refine WPD.take 4 rfl (Op1.move rfl) rfl rfl sT kR kR kR xQP ?_
  refine WPD.take 5 rfl (Op1.move rfl) rfl rfl sT kR kR kR xQP ?_
  refine WPD.take 2 rfl (by first | exact (Op1.indexAddr rfl rfl rD lT) | exact (Op1.indexAddrZ rfl rfl rD lT)) rfl rfl sT kR kR kR xQP ?_
  refine WPD.take 6 rfl (by first | exact (Op1.indexAddr rfl rfl rD lT) | exact (Op1.indexAddrZ rfl rfl rD lT)) rfl rfl sT kR kR kR xQP ?_
  refine WPD.take 3 rfl (by first | exact (Op1.load rfl mM (by rfl)) | exact (Op1.loadI rfl rD lT) | exact (Op1.loadAll rfl mM (by rfl)) | exact (Op1.loadE rfl rD lT (by rfl)) | exact (Op1.loadEAgg rfl rD lT (by rfl))) rfl rfl sT kR kR kR xQP ?_
  refine WPD.take 7 rfl (by first | exact (Op1.load rfl mM (by rfl)) | exact (Op1.loadI rfl rD lT) | exact (Op1.loadAll rfl mM (by rfl)) | exact (Op1.loadE rfl rD lT (by rfl)) | exact (Op1.loadEAgg rfl rD lT (by rfl))) rfl rfl sT kR kR kR xQP ?_
  refine WPD.take 8 rfl (by first | exact (Op1.eqI rfl rfl) | exact (Op1.eqB rfl rfl) | exact (Op1.eqE rfl rfl) | exact (Op1.eqNil rfl rD)) rfl rfl sT kR kR kR xQP ?_
  refine WPD.eff 9 kR rfl (OpE.ofPure (Op1.assign rfl)) rfl rfl ?_
  rintro _ _ ⟨rfl, rfl⟩
  refine ⟨sT, ?_⟩
  refine WPD.done kR ?_
  try refine go ⟨?_⟩
  refine PE.ret1 (T := []) (T' := []) rfl rV ?_ sT
  exact ⟨rfl, rfl⟩

def CN (n : Int) (es : List E) (x y : Int) : Prop := GV n es ∧ Nd n x ∧ Nd n y ∧ cn n es x y
instance (n : Int) (es : List E) (x y : Int) : Decidable (CN n es x y) := by unfold CN; infer_instance

theorem c_Connected (w : World) (n : Int) (vE : Value) (es : List E) (x y : Int) (hE : RL w vE es) (hl : es.length ≤ 1099511627776) :
    Tri Try.prog 44 [.agg #[.int .i64 n, vE], .int .i64 x, .int .i64 y] w [] fun r T => r = .bool (decide (CN n es x y)) ∧ T = [] := by
  have bad : ¬ CN n es x y → Value.bool false = .bool (decide (CN n es x y)) := fun h => by rw [decide_eq_false h]
  refine Tri.intro (hf := Try.func44) (hb := rfl) (hn := Try.ntmps44) (Nat.le_of_ble_eq_true rfl) ?_
  try refine go ⟨?_⟩
  refine WPL.eff (OpE.box rfl) rfl rfl ?_; rintro _ _ ⟨b, rfl, rfl⟩
  try refine go ⟨?_⟩
  refine WPL.eff (OpE.call lO (fun w hw => c_hasNodeG _ n vE es x (Rd.at rD hw) hl)) rfl rfl ?_
  rintro r _ ⟨T, ⟨rfl, rfl⟩, rfl⟩
  repeat' (first | exact absurd rfl hc | refine go ⟨?_⟩ | (refine isCond ?_; refine WP.condD rfl (fun hc => ?_) (fun hc => ?_)) | (refine isGuard ?_; refine WPL.splitD rfl rfl (fun hc => ?_) (fun hc => ?_)))
  · refine WPL.eff (OpE.call lO (fun w hw => c_hasNodeG _ n vE es y (Rd.at rD hw) hl)) rfl rfl ?_
    rintro r _ ⟨T, ⟨rfl, rfl⟩, rfl⟩
    repeat' (first | exact absurd rfl hc | refine go ⟨?_⟩ | (refine isCond ?_; refine WP.condD rfl (fun hc => ?_) (fun hc => ?_)) | (refine isGuard ?_; refine WPL.splitD rfl rfl (fun hc => ?_) (fun hc => ?_)))
    · rename_i hx
      have hy := hc
      refine WPL.eff (OpE.call lO (fun w hw => c_connected _ n vE es x y (Rd.at rD hw) hx.1.ne hx.2 hy.2)) rfl rfl ?_
      rintro r _ ⟨T, ⟨rfl, rfl⟩, rfl⟩
      repeat' (first | exact absurd rfl hc | refine go ⟨?_⟩ | (refine isCond ?_; refine WP.condD rfl (fun hc => ?_) (fun hc => ?_)) | (refine isGuard ?_; refine WPL.splitD rfl rfl (fun hc => ?_) (fun hc => ?_)))
      refine PE.ret1 (T := []) (T' := []) rfl rV ?_ sT
      refine ⟨?_, rfl⟩
      congr 1; rw [decide_eq_decide]
      exact ⟨fun h => ⟨hx.1, hx.2, hy.2, h⟩, fun h => h.2.2.2⟩
    · refine PE.ret1 (T := []) (T' := []) rfl rV ?_ sT
      exact ⟨bad fun h => hc ⟨h.1, h.2.2.1⟩, rfl⟩
  · refine PE.ret1 (T := []) (T' := []) rfl rV ?_ sT
    exact ⟨bad fun h => hc ⟨h.1, h.2.1⟩, rfl⟩

theorem c_forest (w : World) (n : Int) (vE : Value) (es : List E) (hE : RL w vE es) (hg : NE n es) :
    Tri Try.prog 113 [.agg #[.int .i64 n, vE]] w [] fun r T => T = [Tok.own r (forestL n es)] := by
  have hl := hg.le
  refine Tri.intro (hf := Try.func113) (hb := rfl) (hn := Try.ntmps113) (Nat.le_of_ble_eq_true rfl) ?_
  try refine go ⟨?_⟩
  refine WPL.eff (OpE.box rfl) rfl rfl ?_; rintro _ _ ⟨b, rfl, rfl⟩
  try refine go ⟨?_⟩
  refine WPL.eff OpE.alloc rfl rfl ?_; rintro _ _ ⟨bo, rfl, rfl⟩
  try refine go ⟨?_⟩
  refine WP.nilTok E ?_
  refine WP.loop (σ := Nat × Value) (fun k => [(1, .pointer (some ⟨b, 0, none⟩)), (3, .pointer (some ⟨bo, 0, none⟩)), (10, vE), (11, .int .i64 es.length), (12, .int .i64 k.1)]) (fun k => [Tok.own k.2 ((es.take k.1).foldl (fstep n) []), Tok.blk bo [.int .i64 n, k.2], Tok.blk b [.int .i64 n, vE]]) (fun k => k.1 ≤ es.length) (fun k => es.length - k.1) (0, .slice none 0 0) (Nat.zero_le _) sE sT ?_
  rintro ⟨k, v⟩ hk
  dsimp only at hk ⊢
  try refine go ⟨?_⟩
  refine WP.condD rfl (fun hc => ?_) (fun hc => ?_)
  · have hk' : k < es.length := by omega
    have hs := foldl_takeS eD (fstep n) [] hk'
    have hF := hg.fold k
    have hF2 := hF.le
    obtain ⟨out, ho⟩ : ∃ out, out = (es.take k).foldl (fstep n) [] := ⟨_, rfl⟩
    rw [← ho] at hs hF hF2 ⊢
    obtain ⟨hA, hB⟩ := hg.ok (es.getD k eD) (getD_memI hk')
    try refine go ⟨?_⟩
    refine WPL.eff OpE.alloc rfl rfl ?_; rintro _ _ ⟨be, rfl, rfl⟩
    try refine go ⟨?_⟩
    refine WPL.eff (OpE.call lO (fun w hw => c_connected _ n v out (es.getD k eD).A (es.getD k eD).B (Rd.at rD hw) hF hA hB)) rfl rfl ?_
    rintro r _ ⟨T, ⟨rfl, rfl⟩, rfl⟩
    repeat' (first | exact absurd rfl hc | refine go ⟨?_⟩ | (refine isCond ?_; refine WP.condD rfl (fun hc => ?_) (fun hc => ?_)) | (refine isGuard ?_; refine WPL.splitD rfl rfl (fun hc => ?_) (fun hc => ?_)))
    · refine WPL.eff (OpE.buildSlice [es.getD k eD] pA rfl (by decide)) rfl rfl ?_; rintro s1 _ rfl
      try refine go ⟨?_⟩
      refine WPL.eff (OpE.append rfl rfl pM rD lN) rfl rfl ?_; rintro v1 _ rfl
      try refine go ⟨?_⟩
      have e1 : out ++ [es.getD k eD] = (es.take (k + 1)).foldl (fstep n) [] := by rw [hs, fstep, if_neg hc]
      rw [e1]
      refine PE.again (k + 1, v1) ?_ ?_ sE sT
      · dsimp only; omega
      · dsimp only; omega
    · have e1 : out = (es.take (k + 1)).foldl (fstep n) [] := by rw [hs, fstep, if_pos (Decidable.not_not.1 hc)]
      rw [e1]
      refine PE.again (k + 1, v) ?_ ?_ sE sT
      · dsimp only; omega
      · dsimp only; omega
  · have hkn : k = es.length := by omega
    subst hkn
    rw [List.take_length]
    try refine go ⟨?_⟩
    refine PE.ret1 (T := []) (T' := [Tok.own v (forestL n es)]) rfl rV ?_ sT
    rfl

end Go.Proofs.Ytfigegmgopnfhaa
/- Graphs: the walks of the library's search and insertion, and of PutEdge. Conditions: those of each contract. -/
namespace Go.Proofs.Ytfigegmgopnfhaa
open Go

/-! ### Edges in order -/
theorem ltE_trans {a b c : E} (h1 : ltE a b) (h2 : ltE b c) : ltE a c := by unfold ltE at *; omega
theorem ltE_irrefl (a : E) : ¬ ltE a a := by unfold ltE; omega
theorem ltE_asymm {a b : E} (h1 : ltE a b) : ¬ ltE b a := by unfold ltE at *; omega
theorem ltE_total {a b : E} (h : a ≠ b) : ltE a b ∨ ltE b a := by
  have : ¬ (a.A = b.A ∧ a.B = b.B) := fun h2 => h (by cases a; cases b; simp at h2; simp [h2])
  unfold ltE; omega
/-- Edges in order. -/
def Srt (es : List E) : Prop := ∀ i j, i < j → j < es.length → ltE (es.getD i eD) (es.getD j eD)
theorem Srt.of {es : List E} (h : ∀ i, i + 1 < es.length → ltE (es.getD i eD) (es.getD (i + 1) eD)) : Srt es := by
  intro i j
  induction j with
  | zero => intro h1; omega
  | succ j ih =>
    intro h1 h2
    rcases Nat.lt_succ_iff_lt_or_eq.1 h1 with h3 | h3
    · exact ltE_trans (ih h3 (by omega)) (h j h2)
    · subst h3; exact h i h2
theorem GV.srt {n : Int} {es : List E} (h : GV n es) : Srt es := Srt.of fun i hi => by
  have := (h.2.2.2 (i + 1) hi).2.2.2 (by omega)
  simpa using this
/-- Edges with one more, in front of the first one that is not less. -/
def insE (es : List E) (e : E) : List E := es.takeWhile (fun f => decide (ltE f e)) ++ e :: es.dropWhile (fun f => decide (ltE f e))
theorem while_split {es : List E} {p : E → Bool} {k : Nat} (h1 : ∀ i, i < k → p (es.getD i eD) = true) (h2 : k < es.length → p (es.getD k eD) = false) (hk : k ≤ es.length) : es.takeWhile p = es.take k ∧ es.dropWhile p = es.drop k := by
  induction es generalizing k with
  | nil => simp
  | cons a es ih =>
    cases k with
    | zero =>
      have : p a = false := h2 (by simp)
      simp [List.takeWhile, List.dropWhile, this]
    | succ k =>
      have ha : p a = true := h1 0 (by omega)
      have := ih (k := k) (fun i hi => h1 (i + 1) (by omega)) (fun h => h2 (by simpa using h)) (by simpa using hk)
      simp [List.takeWhile, List.dropWhile, ha, this.1, this.2]
theorem insE_at {es : List E} {e : E} {k : Nat} (h1 : ∀ i, i < k → ltE (es.getD i eD) e) (h2 : k < es.length → ¬ ltE (es.getD k eD) e) (hk : k ≤ es.length) : insE es e = es.take k ++ e :: es.drop k := by
  obtain ⟨h3, h4⟩ := while_split (p := fun f => decide (ltE f e)) (fun i hi => decide_eq_true (h1 i hi)) (fun h => decide_eq_false (h2 h)) hk
  rw [insE, h3, h4]

/-- What PutEdge asks. -/
def putOk (n : Int) (es : List E) (e : E) : Prop := GV n es ∧ e ∉ es ∧ GV n (insE es e)
instance (n : Int) (es : List E) (e : E) : Decidable (putOk n es e) := by unfold putOk; infer_instance

/-! ### Plain facts on lists of cells -/
theorem ins1 {V : Type} (A Z X : List V) : (A ++ Z).take A.length ++ X ++ (A ++ Z).drop (A.length + X.length) = A ++ X ++ Z.drop X.length := by
  rw [List.take_left, List.drop_length_add_append]
theorem ins2 {V : Type} (A D R X : List V) (h : X.length ≤ (D ++ R).length) :
    ((A ++ (D ++ R)).take (A.length + X.length) ++ D ++ (A ++ (D ++ R)).drop (A.length + X.length + D.length)).take A.length ++ X ++
      ((A ++ (D ++ R)).take (A.length + X.length) ++ D ++ (A ++ (D ++ R)).drop (A.length + X.length + D.length)).drop (A.length + X.length) = A ++ X ++ D ++ (A ++ (D ++ R)).drop (A.length + X.length + D.length) := by
  have h1 : (A ++ (D ++ R)).take (A.length + X.length) = A ++ (D ++ R).take X.length := List.take_length_add_append _
  rw [h1]
  generalize (A ++ (D ++ R)).drop (A.length + X.length + D.length) = S
  have h2 : (A ++ (D ++ R).take X.length).length = A.length + X.length := by
    rw [List.length_append, List.length_take]; omega
  rw [List.append_assoc (A ++ (D ++ R).take X.length), ← h2, List.drop_left, List.append_assoc A, List.take_left]
  simp
set_option linter.unusedVariables false set_option linter.unusedSimpArgs false attribute [local irreducible] Tok.own Tok.blk RL Rd eptr WP WPL PE WPD WPO Op1 OpE Tri Again Mid Exit.then Exit.inBlock bodyPost RP Code.wp wpList isOwn OneM One
set_option maxHeartbeats 8000000

def fnV (f : FuncId) : Value := .func (.func f) #[] #[]

theorem c_BinE (w : World) (vE : Value) (es : List E) (e : E) (hE : RL w vE es) (hl : es.length ≤ 1000) (hs : Srt es) :
    Tri Try.prog 87 [vE, ep e, fnV 88] w [] fun r T =>
      T = [] ∧ ∃ (k : Nat) (bb : Bool), r = .tuple #[.int .i64 k, .bool bb] ∧ k ≤ es.length ∧ (∀ i, i < k → ltE (es.getD i eD) e) ∧ (∀ i, k ≤ i → i < es.length → ¬ ltE (es.getD i eD) e) := by
  refine Tri.intro (hf := Try.func87) (hb := rfl) (hn := Try.ntmps87) (Nat.le_of_ble_eq_true rfl) ?_
  try refine go ⟨?_⟩
  refine WPL.eff (OpE.box rfl) rfl rfl ?_; rintro _ _ ⟨b, rfl, rfl⟩
  try refine go ⟨?_⟩
  refine WP.loop (σ := Nat × Nat) (fun s => [(0, vE), (2, fnV 88), (4, .pointer (some ⟨b, 0, none⟩)), (8, .int .i64 es.length), (9, .int .i64 s.1), (10, .int .i64 s.2)]) (fun _ => [Tok.blk b [.int .i64 e.A, .int .i64 e.B]])
    (fun s => s.1 ≤ s.2 ∧ s.2 ≤ es.length ∧ (∀ i, i < s.1 → ltE (es.getD i eD) e) ∧ (∀ i, s.2 ≤ i → i < es.length → ¬ ltE (es.getD i eD) e)) (fun s => s.2 - s.1) (0, es.length) ⟨Nat.zero_le _, Nat.le_refl _, by omega, by omega⟩ sE sT ?_
  rintro ⟨i, j⟩ ⟨h1, h2, h3, h4⟩
  dsimp only at h1 h2 h3 h4 ⊢
  try refine go ⟨?_⟩
  refine WP.condD rfl (fun hc => ?_) (fun hc => ?_)
  · obtain ⟨h, hh⟩ : ∃ h : Nat, h = (i + j) / 2 := ⟨_, rfl⟩
    have eh : ((i : Int) + (j : Int)) / 2 = (h : Int) := by omega
    have hbox : Nonempty (PLift (j ≤ es.length ∧ es.length ≤ 1000)) := ⟨⟨h2, hl⟩⟩
    clear h2 hl
    try refine go ⟨?_⟩
    obtain ⟨⟨h2, hl⟩⟩ := hbox
    refine WPL.pure (Op1.add rfl rfl (by omega)) rfl rfl ?_
    refine WPL.pure (Op1.convU (n := (i : Int) + (j : Int)) rfl (by kernel_rfl) (by omega)) rfl rfl ?_
    refine WPL.pure (Op1.shr1 rfl (by omega)) rfl rfl ?_
    rw [eh]
    try refine go ⟨?_⟩
    refine WP.draw [Tok.blk b [.int .i64 e.A, .int .i64 e.B]] mixed ?_
    refine WPD.take 0 rfl (Op1.move rfl) rfl rfl sT kR kR kR xQP ?_
    refine WPD.take 1 rfl (Op1.move rfl) rfl rfl sT kR kR kR xQP ?_
    refine WPD.take 2 rfl (Op1.move rfl) rfl rfl sT kR kR kR xQP ?_
    refine WPD.take 5 rfl (by first | exact (Op1.load rfl mM (by rfl)) | exact (Op1.loadI rfl rD lT) | exact (Op1.loadAll rfl mM (by rfl)) | exact (Op1.loadE rfl rD lT (by rfl)) | exact (Op1.loadEAgg rfl rD lT (by rfl))) rfl rfl sT kR kR kR xQP ?_
    refine WPD.take 3 rfl (by first | exact (Op1.indexAddr rfl rfl rD lT) | exact (Op1.indexAddrZ rfl rfl rD lT)) rfl rfl sT kR kR kR xQP ?_
    refine WPD.take 4 rfl (by first | exact (Op1.load rfl mM (by rfl)) | exact (Op1.loadI rfl rD lT) | exact (Op1.loadAll rfl mM (by rfl)) | exact (Op1.loadE rfl rD lT (by rfl)) | exact (Op1.loadEAgg rfl rD lT (by rfl))) rfl rfl sT kR kR kR xQP ?_
    refine WPD.eff 6 kR rfl (OpE.callC [ep (es.getD h eD), ep e] [] (T := []) rfl lO pM (fun w hw => c_cmpE _ (es.getD h eD) e)) rfl rfl ?_
    rintro r _ ⟨T, ⟨rfl, rfl⟩, rfl⟩
    refine ⟨sT, ?_⟩
    refine WPD.take 7 rfl (Op1.ltI rfl rfl) rfl rfl sT kR kR kR xQP ?_
    refine WPD.done kR ?_
    try refine go ⟨?_⟩
    refine WP.condD rfl (fun hlt => ?_) (fun hlt => ?_)
    · try refine go ⟨?_⟩
      refine PE.again (h + 1, j) ?_ ?_ sE sT
      · rw [cmpE_neg] at hlt
        refine ⟨by dsimp only; omega, h2, fun m hm => ?_, h4⟩
        dsimp only at hm
        by_cases hmh : m = h
        · subst hmh; exact hlt
        · exact ltE_trans (hs m h (by omega) (by omega)) hlt
      · dsimp only; omega
    · try refine go ⟨?_⟩
      refine PE.again (i, h) ?_ ?_ sE sT
      · rw [cmpE_neg] at hlt
        refine ⟨by dsimp only; omega, by dsimp only; omega, h3, fun m hm hml => ?_⟩
        dsimp only at hm
        by_cases hmh : m = h
        · subst hmh; exact hlt
        · exact fun h5 => hlt (ltE_trans (hs h m (by omega) hml) h5)
      · dsimp only; omega
  · have hij : i = j := by omega
    subst hij
    try refine go ⟨?_⟩
    refine WP.draw [Tok.blk b [.int .i64 e.A, .int .i64 e.B]] mixed ?_
    refine WPD.take 0 rfl (Op1.move rfl) rfl rfl sT kR kR kR xQP ?_
    refine WPD.take 1 rfl (Op1.move rfl) rfl rfl sT kR kR kR xQP ?_
    refine WPD.take 2 rfl (Op1.move rfl) rfl rfl sT kR kR kR xQP ?_
    refine WPD.take 3 rfl (Op1.ltI rfl rfl) rfl rfl sT kR kR kR xQP ?_
    refine WPD.take 4 rfl (Op1.move rfl) rfl rfl sT kR kR kR xQP ?_
    first | refine WPD.splitD 39 rfl (fun h39 => ?t5) (fun h39 => ?f5) | refine WPD.split 39 rfl (fun h39 => ?t5) (fun h39 => ?f5)
    case' t5 =>
      refine WPD.take 5 rfl (Op1.move rfl) rfl rfl sT kR kR kR xQP ?_
      refine WPD.take 6 rfl (Op1.move rfl) rfl rfl sT kR kR kR xQP ?_
      refine WPD.take 7 rfl (Op1.move rfl) rfl rfl sT kR kR kR xQP ?_
      refine WPD.take 10 rfl (by first | exact (Op1.load rfl mM (by rfl)) | exact (Op1.loadI rfl rD lT) | exact (Op1.loadAll rfl mM (by rfl)) | exact (Op1.loadE rfl rD lT (by rfl)) | exact (Op1.loadEAgg rfl rD lT (by rfl))) rfl rfl sT kR kR kR xQP ?_
      refine WPD.take 8 rfl (by first | exact (Op1.indexAddr rfl rfl rD lT) | exact (Op1.indexAddrZ rfl rfl rD lT)) rfl rfl sT kR kR kR xQP ?_
      refine WPD.take 9 rfl (by first | exact (Op1.load rfl mM (by rfl)) | exact (Op1.loadI rfl rD lT) | exact (Op1.loadAll rfl mM (by rfl)) | exact (Op1.loadE rfl rD lT (by rfl)) | exact (Op1.loadEAgg rfl rD lT (by rfl))) rfl rfl sT kR kR kR xQP ?_
      refine WPD.eff 11 kR rfl (OpE.callC [ep (es.getD i eD), ep e] [] (T := []) rfl lO pM (fun w hw => c_cmpE _ (es.getD i eD) e)) rfl rfl ?_
      rintro r _ ⟨T, ⟨rfl, rfl⟩, rfl⟩
      refine ⟨sT, ?_⟩
      refine WPD.take 12 rfl (by first | exact (Op1.eqI rfl rfl) | exact (Op1.eqB rfl rfl) | exact (Op1.eqE rfl rfl) | exact (Op1.eqNil rfl rD)) rfl rfl sT kR kR kR xQP ?_
      refine WPD.take 13 rfl (by first | exact (Op1.pickT rfl rfl) | exact (Op1.pickF rfl rfl)) rfl rfl sT kR kR kR xQP ?_
      refine WPD.eff 14 kR rfl (OpE.ofPure (Op1.assign rfl)) rfl rfl ?_
      rintro _ _ ⟨rfl, rfl⟩
      refine ⟨sT, ?_⟩
      refine WPD.eff 15 kR rfl (OpE.ofPure (Op1.assign rfl)) rfl rfl ?_
      rintro _ _ ⟨rfl, rfl⟩
      refine ⟨sT, ?_⟩
      refine WPD.done kR ?_
    case' f5 =>
      refine WPD.skip 5 rfl rfl rfl sT kR kR kR xQP ?_
      refine WPD.skip 6 rfl rfl rfl sT kR kR kR xQP ?_
      refine WPD.skip 7 rfl rfl rfl sT kR kR kR xQP ?_
      refine WPD.skip 10 rfl rfl rfl sT kR kR kR xQP ?_
      refine WPD.skip 8 rfl rfl rfl sT kR kR kR xQP ?_
      refine WPD.skip 9 rfl rfl rfl sT kR kR kR xQP ?_
      refine WPD.skip 11 rfl rfl rfl sT kR kR kR xQP ?_
      refine WPD.skip 12 rfl rfl rfl sT kR kR kR xQP ?_
      refine WPD.take 13 rfl (by first | exact (Op1.pickT rfl rfl) | exact (Op1.pickF rfl rfl)) rfl rfl sT kR kR kR xQP ?_
      refine WPD.eff 14 kR rfl (OpE.ofPure (Op1.assign rfl)) rfl rfl ?_
      rintro _ _ ⟨rfl, rfl⟩
      refine ⟨sT, ?_⟩
      refine WPD.eff 15 kR rfl (OpE.ofPure (Op1.assign rfl)) rfl rfl ?_
      rintro _ _ ⟨rfl, rfl⟩
      refine ⟨sT, ?_⟩
      refine WPD.done kR ?_
    all_goals (try refine go ⟨?_⟩; refine PE.ret2 (T := []) (T' := []) rfl rV ?_ sT; exact ⟨rfl, i, _, rfl, h2, h3, h4⟩)

theorem c_InsertE (w : World) (vs vv : Value) (es : List E) (k : Nat) (e : E) (hk : k ≤ es.length) (hl : es.length ≤ 1000) :
    Tri Try.prog 89 [vs, .int .i64 k, vv] w [Tok.own vs es, Tok.own vv [e]] fun r T => T = [Tok.own r (es.take k ++ e :: es.drop k)] := by
  have hlen : (es.take k ++ e :: es.drop k).length = es.length + 1 := by
    rw [List.length_append, List.length_take, List.length_cons, List.length_drop]; omega
  refine Tri.intro (hf := Try.func89) (hb := rfl) (hn := Try.ntmps89) (Nat.le_of_ble_eq_true rfl) ?_
  by_cases hkn : k = es.length
  · subst hkn
    repeat' (first | exact absurd rfl hc | refine go ⟨?_⟩ | (refine isCond ?_; refine WP.condD rfl (fun hc => ?_) (fun hc => ?_)) | (refine isGuard ?_; refine WPL.splitD rfl rfl (fun hc => ?_) (fun hc => ?_)))
    refine WPL.eff (OpE.append rfl rfl pM rD lN) rfl rfl ?_; rintro r _ rfl
    try refine go ⟨?_⟩
    refine PE.ret1 (T := [Tok.own vs es, Tok.own vv [e]]) (T' := [Tok.own r (es ++ [e])]) rfl rV ?_ sT
    simp
  have hkl : k < es.length := by omega
  refine WP.unown (v := vs) (xs := es) pM (fun _ h => by subst h; simp at hkl) (fun b cap post hv hcap hmx hsz => ?_)
  subst hv
  refine WP.unown (v := vv) (xs := [e]) pM (fun _ h => by cases h) (fun vb vcap vpost hv2 hvcap hvmx hvsz => ?_)
  have hv3 : vv = .slice (some ⟨vb, 0, none⟩) 1 vcap := hv2
  subst hv3
  -- the cells
  obtain ⟨A, hA⟩ : ∃ A, A = encs (es.take k) := ⟨_, rfl⟩
  obtain ⟨D, hD⟩ : ∃ D, D = encs (es.drop k) := ⟨_, rfl⟩
  obtain ⟨X, hX⟩ : ∃ X, X = encs [e] := ⟨_, rfl⟩
  have hAl : A.length = k * 2 := by rw [hA, encs_length, List.length_take, Nat.min_eq_left hk]; rfl
  have hDl : D.length = (es.length - k) * 2 := by rw [hD, encs_length, List.length_drop]; rfl
  have hXl : X.length = 2 := by rw [hX]; rfl
  have hAD : encs es = A ++ D := by rw [hA, hD, ← encs_append, List.take_append_drop]
  have hnew : encs (es.take k ++ e :: es.drop k) = A ++ X ++ D := by
    rw [hA, hD, hX, ← encs_append, ← encs_append]; simp
  have oA : ∀ u ∈ A, u.oneCell' = true := by rw [hA]; exact encs_one _
  have oD : ∀ u ∈ D, u.oneCell' = true := by rw [hD]; exact encs_one _
  have oX : ∀ u ∈ X, u.oneCell' = true := by rw [hX]; exact encs_one _
  have hsz2 : cap * 2 = A.length + D.length + post.length := by
    have h : cap * 2 = (encs es ++ post).length := hsz
    rw [hAD, List.length_append, List.length_append] at h; exact h
  rw [hAD, ← hX]
  rw [hAD] at hsz
  try refine go ⟨?_⟩
  refine WPL.pure (Op1.sliceLoR rfl rfl (by omega)) rfl rfl ?_
  try refine go ⟨?_⟩
  refine WPL.pure (Op1.lenR Try.underlying46 rfl) rfl rfl ?_
  try refine go ⟨?_⟩
  refine WPL.pure (Op1.lenR Try.underlying46 rfl) rfl rfl ?_
  try refine go ⟨?_⟩
  refine WP.condD rfl (fun h1 => ?_) (fun h1 => ?_)
  · omega
  try refine go ⟨?_⟩
  refine WPL.pure (Op1.capR Try.underlying46 rfl) rfl rfl ?_
  try refine go ⟨?_⟩
  refine WP.condD rfl (fun hroom => ?_) (fun hroom => ?_)
  · try refine go ⟨?_⟩
    refine WPL.pure (Op1.sliceHiR rfl rfl (by omega)) rfl rfl ?_
    try refine go ⟨?_⟩
    have ek : ((k : Nat) : Int).toNat = k := Int.toNat_natCast k
    rw [ek]
    refine WPL.eff (OpE.appendZ (α := E) (k := es.length + 1 - k) (olds := A) rfl rfl (by omega) mM (by rw [hAl]; rfl) (fun j u hj => ?_) (by omega) (by omega) (by omega)) rfl rfl ?_
    · rw [List.append_assoc, List.getElem?_append_left (List.getElem?_eq_some_iff.1 hj).1]; exact hj
    rintro _ _ ⟨b', cap', Z, rfl, g1, g2, g3, rfl⟩
    have g3' : cap' * 2 = A.length + Z.length := by rw [List.length_append] at g3; exact g3
    have el : k + (es.length + 1 - k) = es.length + 1 := by omega
    rw [el] at g1 ⊢
    try refine go ⟨?_⟩
    refine WPL.pure (Op1.sliceLoR rfl rfl (by omega)) rfl rfl ?_
    rw [ek, if_neg (by omega)]
    have ea : 0 + k * Enc.sz E = A.length := by rw [hAl, Nat.zero_add]; rfl
    rw [ea]
    try refine go ⟨?_⟩
    have hmin1 : Nat.min 1 (es.length + 1 - k) = 1 := Nat.min_eq_left (by omega)
    refine WPL.eff (OpE.copyR (α := E) (us := X) (cells2 := X ++ vpost) rfl rfl pM mM (by rw [hXl, hmin1]; rfl) (fun j u hj => ?_) (by rw [List.length_append]; omega) oX) rfl rfl ?_
    · rw [Nat.zero_add, List.getElem?_append_left (List.getElem?_eq_some_iff.1 hj).1]; exact hj
    rintro _ _ ⟨rfl, rfl⟩
    rw [ins1]
    try refine go ⟨?_⟩
    have ek1 : ((k : Int) + ((1 : Nat) : Int)).toNat = k + 1 := by omega
    have ea1 : 0 + (k + 1) * Enc.sz E = (A ++ X).length := by rw [List.length_append, hAl, hXl, Nat.zero_add]; show (k + 1) * 2 = k * 2 + 2; omega
    have en : es.length + 1 - (k + 1) = es.length - k := by omega
    have hm1 : Nat.min (es.length - k) (es.length - k) = es.length - k := Nat.min_self _
    have hcl : (A ++ X ++ Z.drop X.length).length = cap' * 2 := by
      rw [List.length_append, List.length_append, List.length_drop]; omega
    refine WP.draw [Tok.blk b (A ++ D ++ post)] mixed ?_
    refine WPD.take 0 rfl (Op1.move rfl) rfl rfl sT kR kR kR xQP ?_
    refine WPD.take 1 rfl (Op1.move rfl) rfl rfl sT kR kR kR xQP ?_
    refine WPD.take 2 rfl (Op1.move rfl) rfl rfl sT kR kR kR xQP ?_
    refine WPD.take 5 rfl (Op1.move rfl) rfl rfl sT kR kR kR xQP ?_
    refine WPD.take 6 rfl (Op1.move rfl) rfl rfl sT kR kR kR xQP ?_
    refine WPD.take 3 rfl (Op1.add rfl rfl (by omega)) rfl rfl sT kR kR kR xQP ?_
    refine WPD.take 7 rfl (Op1.sliceLoR rfl rfl (by omega)) rfl rfl sT kR kR kR xQP ?_
    refine WPD.take 4 rfl (Op1.sliceLoR rfl rfl (by omega)) rfl rfl sT kR kR kR xQP ?_
    refine WPD.eff 8 kR rfl (OpE.copyR (α := E) (us := D) (cells2 := A ++ D ++ post) rfl rfl pM mM (by rw [hDl, ek1, ek, en, hm1]; rfl) (fun j u hj => by rw [ek, if_neg (by omega), ea, List.append_assoc, List.getElem?_append_right (Nat.le_add_right _ _), Nat.add_sub_cancel_left, List.getElem?_append_left (List.getElem?_eq_some_iff.1 hj).1]; exact hj) (by rw [hcl, ek1, if_neg (by omega), ea1, List.length_append]; omega) oD) rfl rfl ?_
    rintro r _ ⟨rfl, rfl⟩
    refine ⟨sT, ?_⟩
    rw [ek1, if_neg (by omega), ea1, ins1]
    refine WPD.done kR ?_
    try refine go ⟨?_⟩
    refine PE.reown (α := E) (es.take k ++ e :: es.drop k) (b := b') (cap := cap') (post := (Z.drop X.length).drop D.length) pM (by rw [hnew]) (by omega) g2 (by simp only [List.length_append, List.length_drop]; show cap' * 2 = _; omega) ?_
    rw [hlen]
    refine PE.ret1 (T := [Tok.own (.slice (some ⟨b, 0, none⟩) es.length cap) es, Tok.own (.slice (some ⟨vb, 0, none⟩) 1 vcap) [e]]) (T' := [Tok.own (.slice (some ⟨b', 0, none⟩) (es.length + 1) cap') (es.take k ++ e :: es.drop k)]) rfl rV ?_ sT
    rfl
  · try refine go ⟨?_⟩
    refine WPL.pure (Op1.sliceHiR rfl rfl (by omega)) rfl rfl ?_
    have en1 : ((es.length : Int) + ((1 : Nat) : Int)).toNat = es.length + 1 := by omega
    have ek : ((k : Nat) : Int).toNat = k := Int.toNat_natCast k
    have ek1 : ((k : Int) + ((1 : Nat) : Int)).toNat = k + 1 := by omega
    have ea : 0 + k * Enc.sz E = A.length := by rw [hAl, Nat.zero_add]; rfl
    have ea1 : 0 + (k + 1) * Enc.sz E = A.length + X.length := by rw [hAl, hXl, Nat.zero_add]; show (k + 1) * 2 = k * 2 + 2; omega
    rw [en1, List.append_assoc A D post]
    have hds : A ++ (D ++ post) ≠ [] := fun h => by
      have := congrArg List.length h
      simp only [List.length_append, List.length_nil] at this
      omega
    have en : es.length + 1 - (k + 1) = es.length - k := by omega
    have hm1 : Nat.min (es.length + 1 - k) (es.length - k) = es.length - k := Nat.min_eq_right (by omega)
    have hmin1 : Nat.min 1 (es.length + 1 - k) = 1 := Nat.min_eq_left (by omega)
    try refine go ⟨?_⟩
    refine WPL.pure (Op1.sliceLoR rfl rfl (by omega)) rfl rfl ?_
    refine WPL.pure (Op1.overlaps (α := E) (tS := 46) (tR := 4) Try.func136 (by kernel_rfl) (by kernel_rfl) (by kernel_rfl) (by kernel_rfl) rfl rfl pM mM hds) rfl rfl ?_
    try refine go ⟨?_⟩
    refine WP.draw [Tok.blk vb (X ++ vpost)] mixed ?_
    refine WPD.take 0 rfl (Op1.move rfl) rfl rfl sT kR kR kR xQP ?_
    refine WPD.take 1 rfl (Op1.move rfl) rfl rfl sT kR kR kR xQP ?_
    refine WPD.take 2 rfl (Op1.move rfl) rfl rfl sT kR kR kR xQP ?_
    refine WPD.take 5 rfl (Op1.move rfl) rfl rfl sT kR kR kR xQP ?_
    refine WPD.take 6 rfl (Op1.move rfl) rfl rfl sT kR kR kR xQP ?_
    refine WPD.take 3 rfl (Op1.add rfl rfl (by omega)) rfl rfl sT kR kR kR xQP ?_
    refine WPD.take 7 rfl (Op1.sliceLoR rfl rfl (by omega)) rfl rfl sT kR kR kR xQP ?_
    refine WPD.take 4 rfl (Op1.sliceLoR rfl rfl (by omega)) rfl rfl sT kR kR kR xQP ?_
    refine WPD.eff 8 kR rfl (OpE.copyR (α := E) (us := D) (cells2 := A ++ (D ++ post)) rfl rfl pM mM (by rw [hDl, ek1, ek, en, hm1]; rfl) (fun j u hj => by rw [ek, if_neg (by omega), ea, List.getElem?_append_right (Nat.le_add_right _ _), Nat.add_sub_cancel_left, List.getElem?_append_left (List.getElem?_eq_some_iff.1 hj).1]; exact hj) (by rw [ek1, if_neg (by omega), ea1]; simp only [List.length_append]; omega) oD) rfl rfl ?_
    rintro r _ ⟨rfl, rfl⟩
    refine ⟨sT, ?_⟩
    rw [ek1, if_neg (by omega), ea1]
    refine WPD.done kR ?_
    try refine go ⟨?_⟩
    refine WPL.pure (Op1.sliceLoR rfl rfl (by omega)) rfl rfl ?_
    rw [ek, if_neg (by omega), ea]
    try refine go ⟨?_⟩
    refine WPL.eff (OpE.copyR (α := E) (us := X) (cells2 := X ++ vpost) rfl rfl pM mM (by rw [hXl, hmin1]; rfl) (fun j u hj => ?_) (by simp only [List.length_append, List.length_take, List.length_drop]; omega) oX) rfl rfl ?_
    · rw [Nat.zero_add, List.getElem?_append_left (List.getElem?_eq_some_iff.1 hj).1]; exact hj
    rintro _ _ ⟨rfl, rfl⟩
    rw [ins2 A D post X (by rw [List.length_append]; omega)]
    try refine go ⟨?_⟩
    refine PE.reown (α := E) (es.take k ++ e :: es.drop k) (b := b) (cap := cap) (post := (A ++ (D ++ post)).drop (A.length + X.length + D.length)) pM (by rw [hnew]) (by omega) hmx (by simp only [List.length_append, List.length_drop]; show cap * 2 = _; omega) ?_
    rw [hlen]
    refine PE.ret1 (T := [Tok.own (.slice (some ⟨b, 0, none⟩) es.length cap) es, Tok.own (.slice (some ⟨vb, 0, none⟩) 1 vcap) [e]]) (T' := [Tok.own (.slice (some ⟨b, 0, none⟩) (es.length + 1) cap) (es.take k ++ e :: es.drop k)]) rfl rV ?_ sT
    rfl
end Go.Proofs.Ytfigegmgopnfhaa
/- Graphs: the walk of PutEdge. Conditions: those of each contract. -/
namespace Go.Proofs.Ytfigegmgopnfhaa
open Go
set_option linter.unusedVariables false set_option linter.unusedSimpArgs false attribute [local irreducible] Tok.own Tok.blk RL Rd eptr WP WPL PE WPD WPO Op1 OpE Tri Again Mid Exit.then Exit.inBlock bodyPost RP Code.wp wpList isOwn OneM One
set_option maxHeartbeats 8000000

def nilG : Value := .agg #[.int .i64 0, .slice none 0 0]
/-- A graph in new memory, and true. -/
def yesG (n : Int) (es : List E) (r : Value) (T : List Tok) : Prop := ∃ v, r = .tuple #[.agg #[.int .i64 n, v], .bool true] ∧ T = [Tok.own v es]
def noG (r : Value) (T : List Tok) : Prop := r = .tuple #[nilG, .bool false] ∧ T = []

theorem c_PutEdge (w : World) (n : Int) (vE : Value) (es : List E) (e : E) (hE : RL w vE es) (hl : es.length ≤ 1099511627776) :
    Tri Try.prog 36 [.agg #[.int .i64 n, vE], ep e] w [] fun r T => (putOk n es e ∧ yesG n (insE es e) r T) ∨ (¬ putOk n es e ∧ noG r T) := by
  refine Tri.intro (hf := Try.func36) (hb := rfl) (hn := Try.ntmps36) (Nat.le_of_ble_eq_true rfl) ?_
  try refine go ⟨?_⟩
  refine WPL.eff (OpE.box rfl) rfl rfl ?_; rintro _ _ ⟨b, rfl, rfl⟩
  try refine go ⟨?_⟩
  refine WPL.eff (OpE.box rfl) rfl rfl ?_; rintro _ _ ⟨b2, rfl, rfl⟩
  refine WPL.eff OpE.alloc rfl rfl ?_; rintro _ _ ⟨b4, rfl, rfl⟩
  try refine go ⟨?_⟩
  refine WPL.eff (OpE.call lO (fun w hw => c_GraphValid _ n vE es (Rd.at rD hw) hl)) rfl rfl ?_
  rintro r _ ⟨T, ⟨rfl, rfl⟩, rfl⟩
  repeat' (first | exact absurd rfl hc | refine go ⟨?_⟩ | (refine isCond ?_; refine WP.condD rfl (fun hc => ?_) (fun hc => ?_)) | (refine isGuard ?_; refine WPL.splitD rfl rfl (fun hc => ?_) (fun hc => ?_)))
  · refine PE.ret2 (T := []) (T' := []) rfl rV ?_ sT
    exact .inr ⟨fun h => hc h.1, rfl, rfl⟩
  have hg : GV n es := Decidable.not_not.1 hc
  refine WPL.eff (OpE.call lO (fun w hw => c_has _ n vE es e (Rd.at rD hw) hl)) rfl rfl ?_
  rintro r _ ⟨T, ⟨rfl, rfl⟩, rfl⟩
  repeat' (first | exact absurd rfl hc | refine go ⟨?_⟩ | (refine isCond ?_; refine WP.condD rfl (fun hc => ?_) (fun hc => ?_)) | (refine isGuard ?_; refine WPL.splitD rfl rfl (fun hc => ?_) (fun hc => ?_)))
  · refine PE.ret2 (T := []) (T' := []) rfl rV ?_ sT
    exact .inr ⟨fun h => h.2.1 hc, rfl, rfl⟩
  have hne : e ∉ es := hc
  have hle : es.length ≤ 1000 := hg.ne.le
  refine WPL.eff (OpE.call lO (fun w hw => c_BinE _ vE es e (Rd.at rD hw) hle hg.srt)) rfl rfl ?_
  rintro r _ ⟨T, ⟨rfl, k, bb, rfl, hk, hk1, hk2⟩, rfl⟩
  have hins := insE_at hk1 (fun h => hk2 k (Nat.le_refl _) h) hk
  have hil : (insE es e).length ≤ 1099511627776 := by rw [hins, List.length_append, List.length_take, List.length_cons, List.length_drop]; omega
  try refine go ⟨?_⟩
  refine WP.cutK (σ := Value × Nat) (fun s => [(4, .pointer (some ⟨b4, 0, none⟩)), (8, .pointer (some ⟨s.2, 0, none⟩))]) (fun s => [Tok.own s.1 (insE es e), Tok.blk s.2 [.int .i64 n, s.1], Tok.blk b4 [.int .i64 0, .slice none 0 0]]) (fun _ => True) ?_ ?_
  · refine WP.draw [Tok.blk b4 [.int .i64 0, .slice none 0 0], Tok.blk b2 [.int .i64 e.A, .int .i64 e.B], Tok.blk b [.int .i64 n, vE]] mixed ?_
    refine WPD.take 0 rfl (by first | exact (Op1.fieldAddr rfl) | exact (Op1.fieldAddrE rfl rD lT)) rfl rfl sT kR kR kR xQP ?_
    refine WPD.take 2 rfl (by first | exact (Op1.fieldAddr rfl) | exact (Op1.fieldAddrE rfl rD lT)) rfl rfl sT kR kR kR xQP ?_
    refine WPD.take 5 rfl (Op1.move rfl) rfl rfl sT kR kR kR xQP ?_
    refine WPD.take 6 rfl (by first | exact (Op1.load rfl mM (by rfl)) | exact (Op1.loadI rfl rD lT) | exact (Op1.loadAll rfl mM (by rfl)) | exact (Op1.loadE rfl rD lT (by rfl)) | exact (Op1.loadEAgg rfl rD lT (by rfl))) rfl rfl sT kR kR kR xQP ?_
    refine WPD.take 1 rfl (by first | exact (Op1.load rfl mM (by rfl)) | exact (Op1.loadI rfl rD lT) | exact (Op1.loadAll rfl mM (by rfl)) | exact (Op1.loadE rfl rD lT (by rfl)) | exact (Op1.loadEAgg rfl rD lT (by rfl))) rfl rfl sT kR kR kR xQP ?_
    refine WPD.take 3 rfl (by first | exact (Op1.load rfl mM (by rfl)) | exact (Op1.loadI rfl rD lT) | exact (Op1.loadAll rfl mM (by rfl)) | exact (Op1.loadE rfl rD lT (by rfl)) | exact (Op1.loadEAgg rfl rD lT (by rfl))) rfl rfl sT kR kR kR xQP ?_
    refine WPD.three 4 7 10 kR ?e6_4 ?e6_7 ?e6_10
    case' e6_4 =>
      refine WPO.eff rfl (OpE.call lO (fun w hw => c_CloneE _ vE es (Rd.at rD hw) hl)) rfl rfl ?_
      rintro cl _ ⟨T, rfl, rfl⟩
      refine ⟨sT, ?_⟩
      refine WPD.two 7 10 kR ?e7_7 ?e7_10
      case' e7_7 =>
        refine WPO.eff rfl (OpE.buildSlice ([e]) pA rfl (by decide)) rfl rfl ?_
        rintro s1 _ rfl
        refine ⟨sT, ?_⟩
        refine WPD.two 8 10 kR ?e8_8 ?e8_10
        case' e8_8 =>
          refine WPO.eff rfl (OpE.callT (T := [Tok.own cl es, Tok.own s1 [e]]) lO pM2 (fun w hw => c_InsertE _ cl s1 es k e hk hle)) rfl rfl ?_
          rintro v _ ⟨T, rfl, rfl⟩
          refine ⟨sT, ?_⟩
          refine WPD.two 9 10 kR ?e9_9 ?e9_10
          case' e9_9 =>
            refine WPO.eff rfl (OpE.ofPure (Op1.build xBP (by rfl))) rfl rfl ?_
            rintro _ _ ⟨rfl, rfl⟩
            refine ⟨sT, ?_⟩
            refine WPD.eff 10 kR rfl OpE.alloc rfl rfl ?_
            rintro _ _ ⟨bo, rfl, rfl⟩
            refine ⟨sT, ?_⟩
            refine WPD.eff0 11 kR rfl (OpE.storeAll rfl rfl pM (by rfl) (by rfl) oN) rfl ?_
            rintro _ _ rfl
            refine ⟨sT, ?_⟩
            refine WPD.done kR ?_
          case' e9_10 =>
            refine WPO.eff rfl OpE.alloc rfl rfl ?_
            rintro _ _ ⟨bo, rfl, rfl⟩
            refine ⟨sT, ?_⟩
            refine WPD.eff 9 kR rfl (OpE.ofPure (Op1.build xBP (by rfl))) rfl rfl ?_
            rintro _ _ ⟨rfl, rfl⟩
            refine ⟨sT, ?_⟩
            refine WPD.eff0 11 kR rfl (OpE.storeAll rfl rfl pM (by rfl) (by rfl) oN) rfl ?_
            rintro _ _ rfl
            refine ⟨sT, ?_⟩
            refine WPD.done kR ?_
        case' e8_10 =>
          refine WPO.eff rfl OpE.alloc rfl rfl ?_
          rintro _ _ ⟨bo, rfl, rfl⟩
          refine ⟨sT, ?_⟩
          refine WPD.eff 8 kR rfl (OpE.callT (T := [Tok.own cl es, Tok.own s1 [e]]) lO pM2 (fun w hw => c_InsertE _ cl s1 es k e hk hle)) rfl rfl ?_
          rintro v _ ⟨T, rfl, rfl⟩
          refine ⟨sT, ?_⟩
          refine WPD.eff 9 kR rfl (OpE.ofPure (Op1.build xBP (by rfl))) rfl rfl ?_
          rintro _ _ ⟨rfl, rfl⟩
          refine ⟨sT, ?_⟩
          refine WPD.eff0 11 kR rfl (OpE.storeAll rfl rfl pM (by rfl) (by rfl) oN) rfl ?_
          rintro _ _ rfl
          refine ⟨sT, ?_⟩
          refine WPD.done kR ?_
      case' e7_10 =>
        refine WPO.eff rfl OpE.alloc rfl rfl ?_
        rintro _ _ ⟨bo, rfl, rfl⟩
        refine ⟨sT, ?_⟩
        refine WPD.eff 7 kR rfl (OpE.buildSlice ([e]) pA rfl (by decide)) rfl rfl ?_
        rintro s1 _ rfl
        refine ⟨sT, ?_⟩
        refine WPD.eff 8 kR rfl (OpE.callT (T := [Tok.own cl es, Tok.own s1 [e]]) lO pM2 (fun w hw => c_InsertE _ cl s1 es k e hk hle)) rfl rfl ?_
        rintro v _ ⟨T, rfl, rfl⟩
        refine ⟨sT, ?_⟩
        refine WPD.eff 9 kR rfl (OpE.ofPure (Op1.build xBP (by rfl))) rfl rfl ?_
        rintro _ _ ⟨rfl, rfl⟩
        refine ⟨sT, ?_⟩
        refine WPD.eff0 11 kR rfl (OpE.storeAll rfl rfl pM (by rfl) (by rfl) oN) rfl ?_
        rintro _ _ rfl
        refine ⟨sT, ?_⟩
        refine WPD.done kR ?_
    case' e6_7 =>
      refine WPO.eff rfl (OpE.buildSlice ([e]) pA rfl (by decide)) rfl rfl ?_
      rintro s1 _ rfl
      refine ⟨sT, ?_⟩
      refine WPD.two 4 10 kR ?e10_4 ?e10_10
      case' e10_4 =>
        refine WPO.eff rfl (OpE.call lO (fun w hw => c_CloneE _ vE es (Rd.at rD hw) hl)) rfl rfl ?_
        rintro cl _ ⟨T, rfl, rfl⟩
        refine ⟨sT, ?_⟩
        refine WPD.two 8 10 kR ?e11_8 ?e11_10
        case' e11_8 =>
          refine WPO.eff rfl (OpE.callT (T := [Tok.own cl es, Tok.own s1 [e]]) lO pM2 (fun w hw => c_InsertE _ cl s1 es k e hk hle)) rfl rfl ?_
          rintro v _ ⟨T, rfl, rfl⟩
          refine ⟨sT, ?_⟩
          refine WPD.two 9 10 kR ?e12_9 ?e12_10
          case' e12_9 =>
            refine WPO.eff rfl (OpE.ofPure (Op1.build xBP (by rfl))) rfl rfl ?_
            rintro _ _ ⟨rfl, rfl⟩
            refine ⟨sT, ?_⟩
            refine WPD.eff 10 kR rfl OpE.alloc rfl rfl ?_
            rintro _ _ ⟨bo, rfl, rfl⟩
            refine ⟨sT, ?_⟩
            refine WPD.eff0 11 kR rfl (OpE.storeAll rfl rfl pM (by rfl) (by rfl) oN) rfl ?_
            rintro _ _ rfl
            refine ⟨sT, ?_⟩
            refine WPD.done kR ?_
          case' e12_10 =>
            refine WPO.eff rfl OpE.alloc rfl rfl ?_
            rintro _ _ ⟨bo, rfl, rfl⟩
            refine ⟨sT, ?_⟩
            refine WPD.eff 9 kR rfl (OpE.ofPure (Op1.build xBP (by rfl))) rfl rfl ?_
            rintro _ _ ⟨rfl, rfl⟩
            refine ⟨sT, ?_⟩
            refine WPD.eff0 11 kR rfl (OpE.storeAll rfl rfl pM (by rfl) (by rfl) oN) rfl ?_
            rintro _ _ rfl
            refine ⟨sT, ?_⟩
            refine WPD.done kR ?_
        case' e11_10 =>
          refine WPO.eff rfl OpE.alloc rfl rfl ?_
          rintro _ _ ⟨bo, rfl, rfl⟩
          refine ⟨sT, ?_⟩
          refine WPD.eff 8 kR rfl (OpE.callT (T := [Tok.own cl es, Tok.own s1 [e]]) lO pM2 (fun w hw => c_InsertE _ cl s1 es k e hk hle)) rfl rfl ?_
          rintro v _ ⟨T, rfl, rfl⟩
          refine ⟨sT, ?_⟩
          refine WPD.eff 9 kR rfl (OpE.ofPure (Op1.build xBP (by rfl))) rfl rfl ?_
          rintro _ _ ⟨rfl, rfl⟩
          refine ⟨sT, ?_⟩
          refine WPD.eff0 11 kR rfl (OpE.storeAll rfl rfl pM (by rfl) (by rfl) oN) rfl ?_
          rintro _ _ rfl
          refine ⟨sT, ?_⟩
          refine WPD.done kR ?_
      case' e10_10 =>
        refine WPO.eff rfl OpE.alloc rfl rfl ?_
        rintro _ _ ⟨bo, rfl, rfl⟩
        refine ⟨sT, ?_⟩
        refine WPD.eff 4 kR rfl (OpE.call lO (fun w hw => c_CloneE _ vE es (Rd.at rD hw) hl)) rfl rfl ?_
        rintro cl _ ⟨T, rfl, rfl⟩
        refine ⟨sT, ?_⟩
        refine WPD.eff 8 kR rfl (OpE.callT (T := [Tok.own cl es, Tok.own s1 [e]]) lO pM2 (fun w hw => c_InsertE _ cl s1 es k e hk hle)) rfl rfl ?_
        rintro v _ ⟨T, rfl, rfl⟩
        refine ⟨sT, ?_⟩
        refine WPD.eff 9 kR rfl (OpE.ofPure (Op1.build xBP (by rfl))) rfl rfl ?_
        rintro _ _ ⟨rfl, rfl⟩
        refine ⟨sT, ?_⟩
        refine WPD.eff0 11 kR rfl (OpE.storeAll rfl rfl pM (by rfl) (by rfl) oN) rfl ?_
        rintro _ _ rfl
        refine ⟨sT, ?_⟩
        refine WPD.done kR ?_
    case' e6_10 =>
      refine WPO.eff rfl OpE.alloc rfl rfl ?_
      rintro _ _ ⟨bo, rfl, rfl⟩
      refine ⟨sT, ?_⟩
      refine WPD.two 4 7 kR ?e13_4 ?e13_7
      case' e13_4 =>
        refine WPO.eff rfl (OpE.call lO (fun w hw => c_CloneE _ vE es (Rd.at rD hw) hl)) rfl rfl ?_
        rintro cl _ ⟨T, rfl, rfl⟩
        refine ⟨sT, ?_⟩
        refine WPD.eff 7 kR rfl (OpE.buildSlice ([e]) pA rfl (by decide)) rfl rfl ?_
        rintro s1 _ rfl
        refine ⟨sT, ?_⟩
        refine WPD.eff 8 kR rfl (OpE.callT (T := [Tok.own cl es, Tok.own s1 [e]]) lO pM2 (fun w hw => c_InsertE _ cl s1 es k e hk hle)) rfl rfl ?_
        rintro v _ ⟨T, rfl, rfl⟩
        refine ⟨sT, ?_⟩
        refine WPD.eff 9 kR rfl (OpE.ofPure (Op1.build xBP (by rfl))) rfl rfl ?_
        rintro _ _ ⟨rfl, rfl⟩
        refine ⟨sT, ?_⟩
        refine WPD.eff0 11 kR rfl (OpE.storeAll rfl rfl pM (by rfl) (by rfl) oN) rfl ?_
        rintro _ _ rfl
        refine ⟨sT, ?_⟩
        refine WPD.done kR ?_
      case' e13_7 =>
        refine WPO.eff rfl (OpE.buildSlice ([e]) pA rfl (by decide)) rfl rfl ?_
        rintro s1 _ rfl
        refine ⟨sT, ?_⟩
        refine WPD.eff 4 kR rfl (OpE.call lO (fun w hw => c_CloneE _ vE es (Rd.at rD hw) hl)) rfl rfl ?_
        rintro cl _ ⟨T, rfl, rfl⟩
        refine ⟨sT, ?_⟩
        refine WPD.eff 8 kR rfl (OpE.callT (T := [Tok.own cl es, Tok.own s1 [e]]) lO pM2 (fun w hw => c_InsertE _ cl s1 es k e hk hle)) rfl rfl ?_
        rintro v _ ⟨T, rfl, rfl⟩
        refine ⟨sT, ?_⟩
        refine WPD.eff 9 kR rfl (OpE.ofPure (Op1.build xBP (by rfl))) rfl rfl ?_
        rintro _ _ ⟨rfl, rfl⟩
        refine ⟨sT, ?_⟩
        refine WPD.eff0 11 kR rfl (OpE.storeAll rfl rfl pM (by rfl) (by rfl) oN) rfl ?_
        rintro _ _ rfl
        refine ⟨sT, ?_⟩
        refine WPD.done kR ?_
    all_goals (rw [← hins]; refine PE.mid (v, bo) trivial sE sT)
  rintro ⟨v, bo⟩ _
  dsimp only
  try refine go ⟨?_⟩
  refine WPL.eff (OpE.call lO (fun w hw => c_GraphValid _ n v (insE es e) (Rd.at rD hw) hil)) rfl rfl ?_
  rintro r _ ⟨T, ⟨rfl, rfl⟩, rfl⟩
  repeat' (first | exact absurd rfl hc | refine go ⟨?_⟩ | (refine isCond ?_; refine WP.condD rfl (fun hc => ?_) (fun hc => ?_)) | (refine isGuard ?_; refine WPL.splitD rfl rfl (fun hc => ?_) (fun hc => ?_)))
  · refine PE.ret2 (T := []) (T' := []) rfl rV ?_ sT
    exact .inr ⟨fun h => absurd h.2.2 ‹_›, rfl, rfl⟩
  · refine PE.ret2 (T := []) (T' := [Tok.own v (insE es e)]) rfl rV ?_ sT
    exact .inl ⟨⟨hg, hne, Decidable.not_not.1 ‹¬¬GV n (insE es e)›⟩, v, rfl, rfl⟩

end Go.Proofs.Ytfigegmgopnfhaa
/- Graphs: plain facts on edges in order, valid graphs, and forests. No conditions. -/
namespace Go.Proofs.Ytfigegmgopnfhaa
open Go

/-! ### Insertion -/
theorem insE_nil (e : E) : insE [] e = [e] := rfl
theorem insE_cons (a : E) (es : List E) (e : E) : insE (a :: es) e = if ltE a e then a :: insE es e else e :: a :: es := by
  unfold insE
  by_cases h : ltE a e
  · rw [if_pos h]; simp [List.takeWhile, List.dropWhile, h]
  · rw [if_neg h]; simp [List.takeWhile, List.dropWhile, h]
theorem mem_insE {es : List E} {e f : E} : f ∈ insE es e ↔ f = e ∨ f ∈ es := by
  induction es with
  | nil => rw [insE_nil]; simp
  | cons a es ih =>
    rw [insE_cons]
    split
    · rw [List.mem_cons, ih, List.mem_cons]
      constructor
      · rintro (h | h | h)
        · exact .inr (.inl h)
        · exact .inl h
        · exact .inr (.inr h)
      · rintro (h | h | h)
        · exact .inr (.inl h)
        · exact .inl h
        · exact .inr (.inr h)
    · rw [List.mem_cons]
theorem insE_length (es : List E) (e : E) : (insE es e).length = es.length + 1 := by
  induction es with
  | nil => rfl
  | cons a es ih =>
    rw [insE_cons]
    split
    · rw [List.length_cons, ih, List.length_cons]
    · rfl
theorem insE_pairwise {es : List E} {e : E} (h : es.Pairwise ltE) (hn : e ∉ es) : (insE es e).Pairwise ltE := by
  induction es with
  | nil => rw [insE_nil]; simp
  | cons a es ih =>
    obtain ⟨h1, h2⟩ := List.pairwise_cons.1 h
    have hne : e ≠ a ∧ e ∉ es := by simpa using hn
    rw [insE_cons]
    split
    · rename_i h3
      refine List.pairwise_cons.2 ⟨fun f hf => ?_, ih h2 hne.2⟩
      rcases mem_insE.1 hf with rfl | hf
      · exact h3
      · exact h1 f hf
    · rename_i h3
      have h4 : ltE e a := (ltE_total hne.1).resolve_right h3
      refine List.pairwise_cons.2 ⟨fun f hf => ?_, h⟩
      rcases List.mem_cons.1 hf with rfl | hf
      · exact h4
      · exact ltE_trans h4 (h1 f hf)

/-! ### Valid graphs -/
def okN (n : Int) (e : E) : Prop := 0 ≤ e.A ∧ e.A < e.B ∧ e.B < n
instance (n : Int) (e : E) : Decidable (okN n e) := by unfold okN; infer_instance
theorem Srt.pairwise {es : List E} (h : Srt es) : es.Pairwise ltE := by
  rw [List.pairwise_iff_getElem]
  intro i j hi hj hij
  have := h i j hij hj
  rw [List.getD_eq_getElem?_getD, List.getD_eq_getElem?_getD, List.getElem?_eq_getElem hi, List.getElem?_eq_getElem hj] at this
  exact this
theorem Srt.of_pairwise {es : List E} (h : es.Pairwise ltE) : Srt es := by
  rw [List.pairwise_iff_getElem] at h
  intro i j hij hj
  have hi : i < es.length := by omega
  rw [List.getD_eq_getElem?_getD, List.getD_eq_getElem?_getD, List.getElem?_eq_getElem hi, List.getElem?_eq_getElem hj]
  exact h i j hi hj hij
theorem GV_iff {n : Int} {es : List E} : GV n es ↔ 1 ≤ n ∧ n ≤ 16 ∧ es.length ≤ 40 ∧ (∀ e ∈ es, okN n e) ∧ es.Pairwise ltE := by
  constructor
  · intro h
    refine ⟨h.1, h.2.1, h.2.2.1, fun e he => ?_, h.srt.pairwise⟩
    obtain ⟨i, hi, rfl⟩ := mem_getD (d := eD) he
    have := h.2.2.2 i hi
    unfold okG at this; unfold okN; omega
  · rintro ⟨h1, h2, h3, h4, h5⟩
    refine ⟨h1, h2, h3, fun i hi => ?_⟩
    have h6 := h4 (es.getD i eD) (getD_memI hi)
    exact ⟨h6.1, h6.2.1, h6.2.2, fun h => Srt.of_pairwise h5 (i - 1) i (by omega) hi⟩
theorem GV.okN {n : Int} {es : List E} (h : GV n es) {e : E} (he : e ∈ es) : okN n e := (GV_iff.1 h).2.2.2.1 e he
theorem GV.pw {n : Int} {es : List E} (h : GV n es) : es.Pairwise ltE := (GV_iff.1 h).2.2.2.2
theorem pw_nodup {es : List E} (h : es.Pairwise ltE) : es.Nodup := by
  rw [List.nodup_iff_pairwise_ne]
  exact h.imp fun hab e => by subst e; exact ltE_irrefl _ hab
theorem GV.nodup {n : Int} {es : List E} (h : GV n es) : es.Nodup := pw_nodup h.pw
theorem GV.sublist {n : Int} {es es' : List E} (h : GV n es) (hs : es'.Sublist es) : GV n es' := by
  obtain ⟨h1, h2, h3, h4, h5⟩ := GV_iff.1 h
  exact GV_iff.2 ⟨h1, h2, Nat.le_trans hs.length_le h3, fun e he => h4 e (hs.subset he), h5.sublist hs⟩
theorem GV.filter {n : Int} {es : List E} (h : GV n es) (p : E → Bool) : GV n (es.filter p) := h.sublist List.filter_sublist
theorem GV.nil {n : Int} (h1 : 1 ≤ n) (h2 : n ≤ 16) : GV n [] := GV_iff.2 ⟨h1, h2, by simp, by simp, by simp⟩
theorem GV.ins {n : Int} {es : List E} {e : E} (h : GV n es) (hn : e ∉ es) (ho : Proofs.Ytfigegmgopnfhaa.okN n e) (hl : es.length < 40) : GV n (insE es e) := by
  obtain ⟨h1, h2, h3, h4, h5⟩ := GV_iff.1 h
  refine GV_iff.2 ⟨h1, h2, by rw [insE_length]; omega, fun f hf => ?_, insE_pairwise h5 hn⟩
  rcases mem_insE.1 hf with rfl | hf
  · exact ho
  · exact h4 f hf
/-- What PutEdge asks. -/
theorem putOk_iff {n : Int} {es : List E} {e : E} : putOk n es e ↔ GV n es ∧ e ∉ es ∧ Proofs.Ytfigegmgopnfhaa.okN n e ∧ es.length < 40 := by
  constructor
  · rintro ⟨h1, h2, h3⟩
    refine ⟨h1, h2, h3.okN (mem_insE.2 (.inl rfl)), ?_⟩
    have := h3.2.2.1
    rw [insE_length] at this; omega
  · rintro ⟨h1, h2, h3, h4⟩
    exact ⟨h1, h2, h1.ins h2 h3 h4⟩
/-- The second program's place for a new edge. -/
def insP (es : List E) (e : E) : List E := es.takeWhile (fun f => !decide (ltE e f)) ++ e :: es.dropWhile (fun f => !decide (ltE e f))
theorem insP_eq {es : List E} {e : E} (hn : e ∉ es) : insP es e = insE es e := by
  induction es with
  | nil => rfl
  | cons a es ih =>
    have hne : e ≠ a ∧ e ∉ es := by simpa using hn
    have ih := ih hne.2
    rw [insE_cons]
    by_cases h : ltE a e
    · have h2 : ¬ ltE e a := ltE_asymm h
      rw [if_pos h, ← ih]
      simp [insP, List.takeWhile, List.dropWhile, h2]
    · have h2 : ltE e a := (ltE_total hne.1).resolve_right h
      rw [if_neg h]
      simp [insP, List.takeWhile, List.dropWhile, h2]

/-! ### Forests -/
/-- No edge's nodes are connected without it. -/
def Indep (es : List E) : Prop := ∀ e ∈ es, ¬ Conn (rem es e) e.A e.B
theorem rem_app {es : List E} {e : E} (h : e ∉ es) : rem (es ++ [e]) e = es := by
  unfold rem
  rw [List.filter_append]
  have h1 : es.filter (fun f => decide (f ≠ e)) = es := by
    rw [List.filter_eq_self]; intro f hf; simp; rintro rfl; exact h hf
  rw [h1]; simp
theorem conn_app {es : List E} {e : E} {x y : Int} : Conn (es ++ [e]) x y ↔ Conn (e :: es) x y :=
  ⟨fun h => h.mono (by intro f hf; simp at hf ⊢; exact hf.symm), fun h => h.mono (by intro f hf; simp at hf ⊢; exact hf.symm)⟩
theorem Indep.add {es : List E} {e : E} (h : Indep es) (hc : ¬ Conn es e.A e.B) : Indep (es ++ [e]) := by
  have hn : e ∉ es := fun h1 => hc (.edge h1)
  intro f hf hcf
  rcases List.mem_append.1 hf with hf | hf
  · have hfe : f ≠ e := fun h1 => hn (h1 ▸ hf)
    have h1 : Conn (e :: rem es f) f.A f.B := hcf.mono (by
      intro g hg
      obtain ⟨h2, h3⟩ := mem_rem.1 hg
      rcases List.mem_append.1 h2 with h2 | h2
      · exact List.mem_cons_of_mem _ (mem_rem.2 ⟨h2, h3⟩)
      · simp at h2; simp [h2])
    rcases conn_cons.1 h1 with h2 | ⟨h2, h3⟩ | ⟨h2, h3⟩
    · exact h f hf h2
    · have e1 : Conn es f.A f.B := .edge hf
      exact hc (((h2.mono rem_sub).symm.trans e1).trans (h3.mono rem_sub).symm)
    · have e1 : Conn es f.A f.B := .edge hf
      exact hc (((h3.mono rem_sub).trans e1.symm).trans (h2.mono rem_sub))
  · have : f = e := by simpa using hf
    subst this
    rw [rem_app hn] at hcf
    exact hc hcf
theorem Indep.sub {es es' : List E} (h : Indep es) (hs : ∀ e ∈ es', e ∈ es) : Indep es' := fun e he hc => h e (hs e he) (hc.mono fun f hf => by
  obtain ⟨h1, h2⟩ := mem_rem.1 hf
  exact mem_rem.2 ⟨hs f h1, h2⟩)
/-- The edges so far of a forest: independent, and they connect as much as all edges so far. -/
theorem ffold_spec {n : Int} {es : List E} (hE : okE n es) : Indep (es.foldl (fstep n) []) ∧ (∀ x y, Conn (es.foldl (fstep n) []) x y ↔ Conn es x y) ∧ (es.foldl (fstep n) []).Sublist es := by
  have key : ∀ (l p : List E) (out : List E), okE n (p ++ l) → Indep out → (∀ x y, Conn out x y ↔ Conn p x y) → out.Sublist p →
      Indep (l.foldl (fstep n) out) ∧ (∀ x y, Conn (l.foldl (fstep n) out) x y ↔ Conn (p ++ l) x y) ∧ (l.foldl (fstep n) out).Sublist (p ++ l) := by
    intro l
    induction l with
    | nil => intro p out _ h1 h2 h3; simpa using ⟨h1, h2, h3⟩
    | cons e l ih =>
      intro p out h0 h1 h2 h3
      rw [List.foldl_cons]
      have ea : p ++ e :: l = (p ++ [e]) ++ l := by simp
      have ho : okE n out := fun f hf => h0 f (by simp [h3.subset hf])
      have he := h0 e (by simp)
      rw [ea] at h0 ⊢
      refine ih (p ++ [e]) _ h0 ?_ ?_ ?_
      · unfold fstep
        split
        · exact h1
        · rename_i h4
          exact h1.add fun h5 => h4 ((lab_iff ho he.1 he.2).2 h5)
      · intro x y
        unfold fstep
        rw [conn_app, conn_cons, ← h2, ← h2, ← h2, ← h2, ← h2]
        split
        · rename_i h4
          have h5 := (lab_iff ho he.1 he.2).1 h4
          constructor
          · exact .inl
          · rintro (h | ⟨h6, h7⟩ | ⟨h6, h7⟩)
            · exact h
            · exact (h6.trans h5).trans h7
            · exact (h6.trans h5.symm).trans h7
        · rw [conn_app, conn_cons]
      · unfold fstep
        split
        · exact h3.trans (List.sublist_append_left _ _)
        · exact h3.append (List.Sublist.refl _)
  have := key es [] [] (by simpa using hE) (fun e he => by cases he) (fun _ _ => Iff.rfl) (List.Sublist.refl _)
  simpa using this
theorem forest_indep {n : Int} {es : List E} (hE : okE n es) : Indep (forestL n es) := (ffold_spec hE).1
theorem forest_conn {n : Int} {es : List E} (hE : okE n es) {x y : Int} : Conn (forestL n es) x y ↔ Conn es x y := (ffold_spec hE).2.1 x y
theorem forest_sub {n : Int} {es : List E} (hE : okE n es) : (forestL n es).Sublist es := (ffold_spec hE).2.2
/-- A forest's own forest is the forest. -/
theorem forest_self {n : Int} {es : List E} (hE : okE n es) (hi : Indep es) (hn : es.Nodup) : forestL n es = es := by
  have key : ∀ (l p : List E), p ++ l = es → l.foldl (fstep n) p = p ++ l := by
    intro l
    induction l with
    | nil => intro p _; simp
    | cons e l ih =>
      intro p hp
      rw [List.foldl_cons]
      have hpe : ∀ f ∈ p, f ∈ es := fun f hf => by rw [← hp]; simp [hf]
      have hem : e ∈ es := by rw [← hp]; simp
      have hne : e ∉ p := by
        rw [← hp, List.nodup_append] at hn
        intro h; exact hn.2.2 e h e (by simp) rfl
      have hst : fstep n p e = p ++ [e] := by
        unfold fstep
        rw [if_neg]
        intro h
        have h1 := (lab_iff (hE.sub hpe) (hE e hem).1 (hE e hem).2).1 h
        exact hi e hem (h1.mono fun f hf => mem_rem.2 ⟨hpe f hf, fun h2 => hne (by rw [← h2]; exact hf)⟩)
      rw [hst, ih (p ++ [e]) (by rw [← hp]; simp)]; simp
  have := key es [] rfl
  simpa [forestL] using this
end Go.Proofs.Ytfigegmgopnfhaa
/- Graphs: plain facts on bridges, safe parts, cut edges, parts. No conditions. -/
namespace Go.Proofs.Ytfigegmgopnfhaa
open Go

theorem cn_iff {n : Int} {es : List E} (hE : okE n es) {x y : Int} (hx : Nd n x) (hy : Nd n y) : cn n es x y ↔ Conn es x y := lab_iff hE hx hy
theorem GV.nd {n : Int} {es : List E} (h : GV n es) {e : E} (he : e ∈ es) : Nd n e.A ∧ Nd n e.B := h.okE e he
theorem okE.rem {n : Int} {es : List E} (h : okE n es) (e : E) : okE n (rem es e) := h.sub rem_sub
theorem okN.nd {n : Int} {e : E} (h : Proofs.Ytfigegmgopnfhaa.okN n e) : Nd n e.A ∧ Nd n e.B := by unfold Proofs.Ytfigegmgopnfhaa.okN at h; unfold Nd; omega

/-! ### Edges that lie between -/
def brB (n : Int) (es : List E) (e : E) : Bool := !decide (cn n (rem es e) e.A e.B)
/-- All bridges. -/
def brs (n : Int) (es : List E) : List E := es.filter (brB n es)
/-- The edges without which two nodes are not connected. -/
def btw (n : Int) (es : List E) (x y : Int) : List E := es.filter fun e => !decide (cn n (rem es e) x y)
/-- A graph without its bridges. -/
def bare (n : Int) (es : List E) : List E := es.filter fun e => !brB n es e
/-- A graph without the edges of a node. -/
def alone (es : List E) (k : Int) : List E := es.filter fun e => !decide (e.A = k ∨ e.B = k)
/-- The nodes without whose edges two nodes are not connected. -/
def cutb (n : Int) (es : List E) (x y : Int) : List Int := (iota n.toNat).filter fun k => decide (k ≠ x ∧ k ≠ y ∧ ¬ cn n (alone es k) x y)
/-- The nodes that are connected with a node. -/
def pns (n : Int) (es : List E) (x : Int) : List Int := (iota n.toNat).filter fun k => decide (lab n es k = lab n es x)

theorem bare_sub {n : Int} {es : List E} : ∀ e ∈ bare n es, e ∈ es := fun e h => (List.mem_filter.1 h).1
theorem alone_sub {es : List E} {k : Int} : ∀ e ∈ alone es k, e ∈ es := fun e h => (List.mem_filter.1 h).1
theorem mem_brs {n : Int} {es : List E} (hE : okE n es) {e : E} : e ∈ brs n es ↔ e ∈ es ∧ ¬ Conn (rem es e) e.A e.B := by
  unfold brs brB
  rw [List.mem_filter]
  refine and_congr_right fun he => ?_
  have := cn_iff (hE.rem e) (hE e he).1 (hE e he).2
  rw [← this]; simp
theorem mem_bare {n : Int} {es : List E} (hE : okE n es) {e : E} : e ∈ bare n es ↔ e ∈ es ∧ Conn (rem es e) e.A e.B := by
  unfold bare brB
  rw [List.mem_filter]
  refine and_congr_right fun he => ?_
  have := cn_iff (hE.rem e) (hE e he).1 (hE e he).2
  rw [← this]; simp
theorem mem_btw {n : Int} {es : List E} (hE : okE n es) {x y : Int} (hx : Nd n x) (hy : Nd n y) {e : E} : e ∈ btw n es x y ↔ e ∈ es ∧ ¬ Conn (rem es e) x y := by
  unfold btw
  rw [List.mem_filter]
  refine and_congr_right fun _ => ?_
  rw [← cn_iff (hE.rem e) hx hy]; simp
theorem cn_symm {n : Int} {es : List E} {x y : Int} : cn n es x y ↔ cn n es y x := by unfold cn; exact eq_comm
theorem btw_symm (n : Int) (es : List E) (x y : Int) : btw n es x y = btw n es y x := by
  unfold btw
  congr 1; funext e
  rw [Bool.not_inj_iff, decide_eq_decide]; exact cn_symm
theorem cutb_symm (n : Int) (es : List E) (x y : Int) : cutb n es x y = cutb n es y x := by
  unfold cutb
  congr 1; funext k
  rw [decide_eq_decide, cn_symm]
  constructor
  · rintro ⟨h1, h2, h3⟩; exact ⟨h2, h1, h3⟩
  · rintro ⟨h1, h2, h3⟩; exact ⟨h2, h1, h3⟩

/-- Of three connected nodes an edge lies between two pairs or none. -/
theorem conn_tri {es : List E} {e : E} (he : e ∈ es) {x y z : Int} (h1 : Conn es x z) (h2 : Conn es z y) (h3 : ¬ Conn (rem es e) x y) : Conn (rem es e) x z ↔ ¬ Conn (rem es e) z y := by
  constructor
  · intro h4 h5; exact h3 (h4.trans h5)
  · intro h4
    rcases (conn_rem he).1 h1 with h5 | ⟨h5, h6⟩ | ⟨h5, h6⟩
    · exact h5
    all_goals
      rcases (conn_rem he).1 h2 with h7 | ⟨h7, h8⟩ | ⟨h7, h8⟩
      · exact absurd h7 h4
    · exact absurd (h5.trans (h7.symm.trans (h6.symm.trans h8))) (fun h => h3 h)
    · exact absurd (h5.trans h8) (fun h => h3 h)
    · exact absurd (h5.trans h8) (fun h => h3 h)
    · exact absurd (h5.trans (h7.symm.trans (h6.symm.trans h8))) (fun h => h3 h)

theorem safe_iff {n : Int} {es : List E} (hE : okE n es) {x y : Int} : Conn (bare n es) x y ↔ Conn es x y ∧ ∀ e ∈ es, Conn (rem es e) x y := by
  constructor
  · intro h
    refine ⟨h.mono bare_sub, fun e he => ?_⟩
    by_cases hb : Conn (rem es e) e.A e.B
    · rcases (conn_rem he).1 (h.mono bare_sub) with h1 | ⟨h1, h2⟩ | ⟨h1, h2⟩
      · exact h1
      · exact (h1.trans hb).trans h2
      · exact (h1.trans hb.symm).trans h2
    · exact h.mono fun f hf => mem_rem.2 ⟨bare_sub f hf, fun h1 => hb (by rw [← h1]; exact ((mem_bare hE).1 hf).2)⟩
  · rintro ⟨h1, h2⟩
    have key : ∀ l : List E, (∀ e ∈ l, e ∈ es ∧ ¬ Conn (rem es e) e.A e.B) → Conn (es.filter fun f => decide (f ∉ l)) x y := by
      intro l
      induction l with
      | nil => intro _; exact h1.mono fun f hf => by simp [hf]
      | cons e l ih =>
        intro hl
        have ih := ih fun f hf => hl f (List.mem_cons_of_mem _ hf)
        obtain ⟨h3, h4⟩ := hl e (by simp)
        by_cases he : e ∈ l
        · exact ih.mono fun f hf => by
            simp only [List.mem_filter, decide_eq_true_eq] at hf ⊢
            refine ⟨hf.1, fun h5 => ?_⟩
            rcases List.mem_cons.1 h5 with rfl | h5
            · exact hf.2 he
            · exact hf.2 h5
        · have hem : e ∈ es.filter fun f => decide (f ∉ l) := by simp [h3, he]
          have hsub : ∀ f ∈ rem (es.filter fun f => decide (f ∉ l)) e, f ∈ es.filter fun f => decide (f ∉ e :: l) := by
            intro f hf
            obtain ⟨h5, h6⟩ := mem_rem.1 hf
            simp only [List.mem_filter, decide_eq_true_eq] at h5 ⊢
            refine ⟨h5.1, fun h7 => ?_⟩
            rcases List.mem_cons.1 h7 with rfl | h7
            · exact h6 rfl
            · exact h5.2 h7
          have hsub2 : ∀ f ∈ rem (es.filter fun f => decide (f ∉ l)) e, f ∈ rem es e := by
            intro f hf
            obtain ⟨h5, h6⟩ := mem_rem.1 hf
            exact mem_rem.2 ⟨(List.mem_filter.1 h5).1, h6⟩
          rcases (conn_rem hem).1 ih with h5 | ⟨h5, h6⟩ | ⟨h5, h6⟩
          · exact h5.mono hsub
          · exact absurd (((h5.mono hsub2).symm.trans (h2 e h3)).trans (h6.mono hsub2).symm) h4
          · exact absurd (((h6.mono hsub2).trans (h2 e h3).symm).trans (h5.mono hsub2)) h4
    refine (key (brs n es) fun e he => (mem_brs hE).1 he).mono fun f hf => ?_
    simp only [List.mem_filter, decide_eq_true_eq] at hf
    refine (mem_bare hE).2 ⟨hf.1, Classical.byContradiction fun h => hf.2 ((mem_brs hE).2 ⟨hf.1, h⟩)⟩

/-! ### An edge more -/
theorem conn_ins {es : List E} {e : E} {x y : Int} : Conn (insE es e) x y ↔ Conn (e :: es) x y :=
  ⟨fun h => h.mono fun f hf => by rcases mem_insE.1 hf with rfl | h; exact List.mem_cons_self; exact List.mem_cons_of_mem _ h,
   fun h => h.mono fun f hf => by rcases List.mem_cons.1 hf with rfl | h; exact mem_insE.2 (.inl rfl); exact mem_insE.2 (.inr h)⟩
theorem conn_rem_ins {es : List E} {e : E} (hn : e ∉ es) {x y : Int} : Conn (rem (insE es e) e) x y ↔ Conn es x y :=
  ⟨fun h => h.mono fun f hf => by obtain ⟨h1, h2⟩ := mem_rem.1 hf; exact (mem_insE.1 h1).resolve_left h2,
   fun h => h.mono fun f hf => mem_rem.2 ⟨mem_insE.2 (.inr hf), fun h2 => hn (by rw [← h2]; exact hf)⟩⟩
theorem conn_rem_ins' {es : List E} {e f : E} (hne : f ≠ e) {x y : Int} : Conn (rem (insE es e) f) x y ↔ Conn (e :: rem es f) x y :=
  ⟨fun h => h.mono fun g hg => by
    obtain ⟨h1, h2⟩ := mem_rem.1 hg
    rcases mem_insE.1 h1 with rfl | h1
    · simp
    · exact List.mem_cons_of_mem _ (mem_rem.2 ⟨h1, h2⟩),
   fun h => h.mono fun g hg => by
    rcases List.mem_cons.1 hg with rfl | hg
    · exact mem_rem.2 ⟨mem_insE.2 (.inl rfl), fun h => hne h.symm⟩
    · obtain ⟨h1, h2⟩ := mem_rem.1 hg; exact mem_rem.2 ⟨mem_insE.2 (.inr h1), h2⟩⟩
/-- Which bridges an edge takes away. -/
theorem lost_iff {es : List E} {e f : E} (hf : f ∈ es) (hne : f ≠ e) : (¬ Conn (rem es f) f.A f.B ∧ Conn (rem (insE es e) f) f.A f.B) ↔ (Conn es e.A e.B ∧ ¬ Conn (rem es f) e.A e.B) := by
  rw [conn_rem_ins' hne, conn_cons]
  have ef : Conn es f.A f.B := .edge hf
  have hs : ∀ {x y}, Conn (rem es f) x y → Conn es x y := fun h => h.mono rem_sub
  constructor
  · rintro ⟨h1, h2 | ⟨h2, h3⟩ | ⟨h2, h3⟩⟩
    · exact absurd h2 h1
    · exact ⟨((hs h2).symm.trans ef).trans (hs h3).symm, fun h => h1 ((h2.trans h).trans h3)⟩
    · exact ⟨((hs h3).trans ef.symm).trans (hs h2), fun h => h1 ((h2.trans h.symm).trans h3)⟩
  · rintro ⟨h1, h2⟩
    rcases (conn_rem hf).1 h1 with h3 | ⟨h3, h4⟩ | ⟨h3, h4⟩
    · exact absurd h3 h2
    · exact ⟨fun h => h2 ((h3.trans h).trans h4), .inr (.inl ⟨h3.symm, h4.symm⟩)⟩
    · exact ⟨fun h => h2 ((h3.trans h.symm).trans h4), .inr (.inr ⟨h4, h3⟩)⟩

/-! ### Parts -/
theorem mem_pns {n : Int} {es : List E} {x y : Int} (hn : 0 ≤ n) : y ∈ pns n es x ↔ Nd n y ∧ lab n es y = lab n es x := by
  unfold pns Nd
  rw [List.mem_filter, mem_iota, decide_eq_true_eq]
  constructor
  · rintro ⟨h1, h2⟩; exact ⟨by omega, h2⟩
  · rintro ⟨h1, h2⟩; exact ⟨by omega, h2⟩
theorem iota_pairwise (n : Nat) : (iota n).Pairwise (· < ·) := by
  unfold iota
  refine List.Pairwise.map (R := (· < ·)) _ (fun a b h => by omega) ?_
  exact List.pairwise_lt_range
theorem pns_head {n : Int} {es : List E} (hE : okE n es) {x : Int} (hx : Nd n x) : (pns n es x).getD 0 0 = lab n es x := by
  have hn : 0 ≤ n := by have := hx.1; have := hx.2; omega
  have h1 : lab n es x ∈ pns n es x := (mem_pns hn).2 ⟨lab_nd hE hx, ((lab_iff hE hx (lab_nd hE hx)).2 (lab_conn hE hx)).symm⟩
  have h2 : (pns n es x).Pairwise (· < ·) := (iota_pairwise _).sublist List.filter_sublist
  cases hp : pns n es x with
  | nil => rw [hp] at h1; cases h1
  | cons a l =>
    rw [hp] at h1 h2
    show a = lab n es x
    rcases List.mem_cons.1 h1 with h3 | h3
    · exact h3.symm
    · have h4 := (List.pairwise_cons.1 h2).1 _ h3
      have ha : a ∈ pns n es x := by rw [hp]; simp
      obtain ⟨h5, h6⟩ := (mem_pns hn).1 ha
      have h7 := lab_le hE hx ((lab_iff hE h5 hx).1 h6).symm
      omega
theorem pns_eq_iff {n : Int} {es : List E} {x y : Int} (hx : Nd n x) (_hy : Nd n y) : pns n es x = pns n es y ↔ lab n es x = lab n es y := by
  have hn : 0 ≤ n := by have := hx.1; have := hx.2; omega
  constructor
  · intro h
    have : x ∈ pns n es y := by rw [← h]; exact (mem_pns hn).2 ⟨hx, rfl⟩
    exact ((mem_pns hn).1 this).2
  · intro h; unfold pns; rw [h]
/-- The number of parts. -/
def pcnt (n : Int) (es : List E) : Nat := ((iota n.toNat).filter fun k => decide (lab n es k = k)).length
end Go.Proofs.Ytfigegmgopnfhaa
/- Graphs: plain facts on the number of parts. No conditions. -/
namespace Go.Proofs.Ytfigegmgopnfhaa
open Go

theorem filter_one {l : List Int} (hd : l.Nodup) {p : Int → Bool} {m : Int} (hm : m ∈ l) (hp : p m = true) : (l.filter fun x => p x && !decide (x = m)).length + 1 = (l.filter p).length := by
  induction l with
  | nil => cases hm
  | cons a l ih =>
    obtain ⟨h1, h2⟩ := List.nodup_cons.1 hd
    by_cases ha : a = m
    · subst ha
      have h3 : (l.filter fun x => p x && !decide (x = a)) = l.filter p := by
        refine List.filter_congr fun x hx => ?_
        have : x ≠ a := fun h => h1 (h ▸ hx)
        simp [this]
      simp [hp, h3]
    · have hml : m ∈ l := (List.mem_cons.1 hm).resolve_left fun h => ha h.symm
      have := ih h2 hml
      by_cases hpa : p a = true
      · simp [hpa, ha]; exact this
      · simp only [Bool.not_eq_true] at hpa
        simp [hpa]; exact this

theorem labs_congr {n : Int} {es es' : List E} (hE : okE n es) (hE' : okE n es') (h : ∀ x y, Conn es x y ↔ Conn es' x y) : labs n es' = labs n es := by
  have h1 := labs_lab hE'
  have h2 := labs_stab hE'
  refine labs_unique hE ⟨h1.len, h1.low, fun x hx => (h _ _).2 (h1.con x hx)⟩ fun e he => ?_
  obtain ⟨hA, hB⟩ := hE e he
  exact (lab_iff hE' hA hB).2 ((h _ _).1 (.edge he))
theorem lab_self {n : Int} {es : List E} (hE : okE n es) {x : Int} (hx : Nd n x) : lab n es (lab n es x) = lab n es x := ((lab_iff hE hx (lab_nd hE hx)).2 (lab_conn hE hx)).symm

theorem root_ins {n : Int} {es : List E} {e : E} (hE : okE n es) (he : Nd n e.A ∧ Nd n e.B) (hc : ¬ Conn es e.A e.B) {x : Int} (hx : Nd n x) :
    lab n (e :: es) x = x ↔ lab n es x = x ∧ x ≠ max (lab n es e.A) (lab n es e.B) := by
  have hE' : okE n (e :: es) := fun f hf => by
    rcases List.mem_cons.1 hf with rfl | hf
    · exact he
    · exact hE f hf
  have hs : ∀ f ∈ es, f ∈ e :: es := fun f hf => List.mem_cons_of_mem _ hf
  have ee : Conn (e :: es) e.A e.B := .edge (by simp)
  have hne : lab n es e.A ≠ lab n es e.B := fun h => hc ((lab_iff hE he.1 he.2).1 h)
  have cA := lab_conn hE he.1
  have cB := lab_conn hE he.2
  constructor
  · intro h
    have h1 : lab n es x = x := by
      have h2 := lab_le hE' hx ((lab_conn hE hx).mono hs)
      have h3 := lab_le hE hx (.refl : Conn es x x)
      omega
    refine ⟨h1, fun hm => ?_⟩
    rcases Int.le_total (lab n es e.A) (lab n es e.B) with h2 | h2
    · rw [Int.max_eq_right h2] at hm
      have h3 : Conn (e :: es) x (lab n es e.A) := by
        rw [hm]; exact ((cB.mono hs).symm.trans ee.symm).trans (cA.mono hs)
      have := lab_le hE' hx h3
      omega
    · rw [Int.max_eq_left h2] at hm
      have h3 : Conn (e :: es) x (lab n es e.B) := by
        rw [hm]; exact ((cA.mono hs).symm.trans ee).trans (cB.mono hs)
      have := lab_le hE' hx h3
      omega
  · rintro ⟨h1, h2⟩
    have h3 := lab_le hE' hx (.refl : Conn (e :: es) x x)
    rcases conn_cons.1 (lab_conn hE' hx) with h4 | ⟨h4, h5⟩ | ⟨h4, h5⟩
    · have := lab_le hE hx h4
      omega
    · have h6 := (lab_iff hE hx he.1).2 h4
      have h7 := lab_le hE he.2 h5
      omega
    · have h6 := (lab_iff hE hx he.2).2 h4
      have h7 := lab_le hE he.1 h5
      omega

theorem pcnt_cons {n : Int} {es : List E} {e : E} (hE : okE n es) (he : Nd n e.A ∧ Nd n e.B) (hc : ¬ Conn es e.A e.B) : pcnt n (e :: es) + 1 = pcnt n es := by
  unfold pcnt
  have hm : max (lab n es e.A) (lab n es e.B) ∈ iota n.toNat := by
    have h1 := lab_nd hE he.1
    have h2 := lab_nd hE he.2
    rw [mem_iota]; unfold Nd at h1 h2; omega
  have hp : decide (lab n es (max (lab n es e.A) (lab n es e.B)) = max (lab n es e.A) (lab n es e.B)) = true := by
    rw [decide_eq_true_eq]
    rcases Int.le_total (lab n es e.A) (lab n es e.B) with h2 | h2
    · rw [Int.max_eq_right h2]; exact lab_self hE he.2
    · rw [Int.max_eq_left h2]; exact lab_self hE he.1
  rw [← filter_one (p := fun k => decide (lab n es k = k)) (iota_nodup _) hm hp]
  congr 2
  refine List.filter_congr fun x hx => ?_
  rw [mem_iota] at hx
  have hx' : Nd n x := by unfold Nd; omega
  rw [← decide_not, ← Bool.decide_and, decide_eq_decide]
  exact root_ins hE he hc hx'
theorem pcnt_congr {n : Int} {es es' : List E} (hE : okE n es) (hE' : okE n es') (h : ∀ x y, Conn es x y ↔ Conn es' x y) : pcnt n es = pcnt n es' := by
  unfold pcnt lab
  rw [labs_congr hE hE' h]
theorem conn_cons_same {es : List E} {e : E} (hc : Conn es e.A e.B) {x y : Int} : Conn (e :: es) x y ↔ Conn es x y := by
  rw [conn_cons]
  constructor
  · rintro (h | ⟨h1, h2⟩ | ⟨h1, h2⟩)
    · exact h
    · exact (h1.trans hc).trans h2
    · exact (h1.trans hc.symm).trans h2
  · exact .inl
theorem pcnt_pos {n : Int} {es : List E} (hE : okE n es) (hn : 1 ≤ n) : 1 ≤ pcnt n es := by
  have h0 : Nd n 0 := ⟨by omega, by omega⟩
  have h1 := lab_le hE h0 (.refl : Conn es 0 0)
  have h2 := lab_nd hE h0
  have : (0 : Int) ∈ (iota n.toNat).filter fun k => decide (lab n es k = k) := by
    rw [List.mem_filter, mem_iota, decide_eq_true_eq]
    unfold Nd at h2
    exact ⟨by omega, by omega⟩
  exact List.length_pos_of_mem this
theorem pcnt_nil {n : Int} : pcnt n [] = n.toNat := by
  unfold pcnt
  rw [List.filter_eq_self.2, iota_length]
  intro x hx
  rw [mem_iota] at hx
  have hx' : Nd n x := by unfold Nd; omega
  have hE : okE n [] := fun e he => by cases he
  rw [decide_eq_true_eq]
  exact (conn_nil.1 (lab_conn hE hx')).symm
/-- As many edges as a forest has, as many parts are fewer than nodes. -/
theorem pcnt_indep {n : Int} : ∀ {es : List E}, okE n es → Indep es → es.Nodup → pcnt n es + es.length = n.toNat
  | [], _, _, _ => by rw [pcnt_nil]; simp
  | e :: es, hE, hi, hn => by
    obtain ⟨h1, h2⟩ := List.nodup_cons.1 hn
    have hE' : okE n es := fun f hf => hE f (List.mem_cons_of_mem _ hf)
    have h3 := pcnt_indep hE' (hi.sub fun f hf => List.mem_cons_of_mem _ hf) h2
    have hc : ¬ Conn es e.A e.B := fun h => hi e (by simp) (h.mono fun f hf => mem_rem.2 ⟨List.mem_cons_of_mem _ hf, fun h4 => h1 (by rw [← h4]; exact hf)⟩)
    have h4 := pcnt_cons hE' (hE e (by simp)) hc
    rw [List.length_cons]; omega
end Go.Proofs.Ytfigegmgopnfhaa
/- Rules for function values, for clear, and for tokens that are not named one by one. Conditions: none. -/
namespace Go.Proofs.Ytfigegmgopnfhaa
open Go

section
variable {P : Program} {G : Ctx} {l : List (Nat × Value)} {F : List Tok} {Q : Exit → Act → World → Prop} {α : Type}

/-! ### Function values -/
def fV (f : FuncId) (bnd caps : List Value) : Value := .func (.func f) bnd.toArray caps.toArray

theorem OpE.callB (vs bnd caps : List Value) {fx : Operand} {fid : FuncId} {xs : List Operand} {at_ : Array TypeId} {T T0 : List Tok} {post : Value → List Tok → Prop} [hf : TFun P fid]
    (hfx : look l fx = some (fV fid bnd caps)) (hxs : looks l xs vs) (hp : F.Perm (T ++ T0))
    (ht : ∀ w, St G.W G.M F w → Tri P fid (bnd ++ vs ++ caps) w T post) :
    OpE P G (.call { callee := .value fx, args := xs.toArray, argTypes := at_ }) l F fun v F' => ∃ T', post v T' ∧ F' = T' ++ T0 := by
  intro o ho a w ha hw K Q hK
  have hst := hw.perm hp
  have hn := hst.nodup
  rw [fps_append, List.nodup_append] at hn
  have htri := ht w hw hn.1 (fun t h => hst.holds t (by simp [h]))
  obtain ⟨fn, h1, h2, h3⟩ := hf.out
  have hargs : (xs.toArray.map a.eval) = vs.toArray := by
    rw [List.map_toArray, looks.map ha hxs]
  unfold fV at hfx
  unfold Oper.wp execOp
  simp only [ho, resolve, ha.eval hfx, Deferred.ofValue, invoke, callFunc, Sem.run_bind, Sem.run_pure, Result.andThen_ok, run_program, h1, h2, h3, hargs, Bool.false_eq_true, if_false, List.append_toArray]
  rw [Oper.upon_enter]
  refine htri.mono fun e w' ⟨v, T', he, hpost, hu⟩ => ?_
  subst he
  exact hK v (T' ++ T0) w' ⟨T', hpost, rfl⟩ (hst.upd hu)

/-- From w0 to w only the blocks M, and new ones, have turned. -/
structure Ext (w0 : World) (M : List Nat) (w : World) : Prop where
  keep : ∀ b, b < w0.heap.size → b ∉ M → w.heap[b]? = w0.heap[b]?
  size : w0.heap.size ≤ w.heap.size
theorem St.ext {W : World} {M : List Nat} {w : World} (h : St W M F w) : Ext W M w := ⟨h.keep, h.size⟩
theorem Ext.refl (w : World) (M : List Nat) : Ext w M w := ⟨fun _ _ _ => rfl, Nat.le_refl _⟩
theorem Ext.rl {β : Type} [Enc β] {w0 w : World} {M : List Nat} {v : Value} {xs : List β} (h : Ext w0 M w) (hr : RL w0 v xs) (hd : ∀ b ∈ vfp v, b ∉ M) : RL w v xs :=
  rdAt_same (fun b hb => h.keep b (rdAt_inb hr b hb) (hd b hb)) h.size hr

/-- A function value that answers p at each x of xs, in every world that comes out of w0 by changes of M; it holds the tokens T, and leaves them as they are. -/
def Pred (P : Program) (w0 : World) (M : List Nat) (fv : Value) (T : List Tok) (enc : α → Value) (p : α → Bool) (xs : List α) : Prop :=
  ∃ (fid : FuncId) (bnd caps : List Value), fv = fV fid bnd caps ∧ TFun P fid ∧ ∀ w, Ext w0 M w → ∀ x ∈ xs, Tri P fid (bnd ++ [enc x] ++ caps) w T fun r T' => r = .bool (p x) ∧ T' = T

theorem Pred.mk {w0 : World} {M : List Nat} {T : List Tok} {enc : α → Value} {p : α → Bool} {xs : List α} {fid : FuncId} [hf : TFun P fid] (bnd caps : List Value)
    (h : ∀ w, Ext w0 M w → ∀ x ∈ xs, Tri P fid (bnd ++ [enc x] ++ caps) w T fun r T' => r = .bool (p x) ∧ T' = T) : Pred P w0 M (fV fid bnd caps) T enc p xs := ⟨fid, bnd, caps, rfl, hf, h⟩
theorem Pred.one {w0 : World} {M : List Nat} {fv : Value} {T : List Tok} {enc : α → Value} {p : α → Bool} {xs : List α} (h : Pred P w0 M fv T enc p xs) : fv.oneCell' = true := by
  obtain ⟨fid, bnd, caps, rfl, _⟩ := h; rfl
theorem Pred.sub {w0 : World} {M : List Nat} {fv : Value} {T : List Tok} {enc : α → Value} {p : α → Bool} {xs ys : List α} (h : Pred P w0 M fv T enc p xs) (hs : ∀ x ∈ ys, x ∈ xs) : Pred P w0 M fv T enc p ys := by
  obtain ⟨fid, bnd, caps, h1, h2, h3⟩ := h
  exact ⟨fid, bnd, caps, h1, h2, fun w hw x hx => h3 w hw x (hs x hx)⟩
/-- A function value is handed on: from the world of a call on. -/
theorem Pred.at {W w : World} {M : List Nat} {fv : Value} {T X : List Tok} {enc : α → Value} {p : α → Bool} {xs : List α} (h : Pred P W M fv T enc p xs) (hw : St W M F w) (hX : SubT X F) : Pred P w (fps X) fv T enc p xs := by
  obtain ⟨fid, bnd, caps, h1, h2, h3⟩ := h
  refine ⟨fid, bnd, caps, h1, h2, fun w' hw' x hx => h3 w' ⟨fun b hb hM => ?_, Nat.le_trans hw.size hw'.size⟩ x hx⟩
  have hbase := (hw.sub hX).base
  rw [hw'.keep b (Nat.lt_of_lt_of_le hb hw.size) fun hbX => ?_, hw.keep b hb hM]
  rcases hbase b hbX with h4 | h4
  · exact hM h4
  · omega

theorem Ext.trans {a b c : World} {M : List Nat} (h1 : Ext a M b) (h2 : Ext b M c) : Ext a M c :=
  ⟨fun x hx hM => (h2.keep x (Nat.lt_of_lt_of_le hx h1.size) hM).trans (h1.keep x hx hM), Nat.le_trans h1.size h2.size⟩
theorem Pred.after {w w2 : World} {M : List Nat} {fv : Value} {T : List Tok} {enc : α → Value} {p : α → Bool} {xs : List α} (h : Pred P w M fv T enc p xs) (h2 : Ext w M w2) : Pred P w2 M fv T enc p xs := by
  obtain ⟨fid, bnd, caps, e1, e2, e3⟩ := h
  exact ⟨fid, bnd, caps, e1, e2, fun w' hw' x hx => e3 w' (h2.trans hw') x hx⟩

theorem OpE.callP {fx y : Operand} {at_ : Array TypeId} {T T0 : List Tok} {fv : Value} {enc : α → Value} {p : α → Bool} {xs : List α} {x : α} (hp : Pred P G.W G.M fv T enc p xs) (hfx : look l fx = some fv) (hy : look l y = some (enc x)) (hx : x ∈ xs) (hpm : F.Perm (T ++ T0)) :
    OpE P G (.call { callee := .value fx, args := #[y], argTypes := at_ }) l F fun v F' => v = .bool (p x) ∧ F' = T ++ T0 := by
  obtain ⟨fid, bnd, caps, rfl, h2, h3⟩ := hp
  have := h2
  refine OpE.weaken (OpE.callB (P := P) (G := G) (l := l) (F := F) (at_ := at_) [enc x] bnd caps (xs := [y]) hfx ⟨hy, trivial⟩ hpm (fun w hw => h3 w hw.ext x hx)) ?_
  rintro v F' ⟨T', ⟨rfl, rfl⟩, rfl⟩
  exact ⟨rfl, rfl⟩

theorem Op1.mkFn {f : FuncId} {bx cx : List Operand} {bnd caps : List Value} (hb : looks l bx bnd) (hc : looks l cx caps) : Op1 P G (.makeFunc (.func f) bx.toArray cx.toArray) l F (fV f bnd caps) := fun o ho a w ha _ => by
  have h1 : (bx.toArray.map a.eval) = bnd.toArray := by rw [List.map_toArray, looks.map ha hb]
  have h2 : (cx.toArray.map a.eval) = caps.toArray := by rw [List.map_toArray, looks.map ha hc]
  simp [execOp, ho, Instr.makeFunc, h1, h2, fV]

/-- A field of a struct value, if it is a slice. -/
def fieldSB (P : Program) (s : TypeId) (f off : Nat) : Bool :=
  match P.underlying s with
  | some (.struct fs) => match fs[f]? with
    | some fd => Nat.beq fd.offset off && (match P.underlying fd.type with | some (.slice _) => true | _ => false)
    | none => false
  | _ => false
theorem Op1.fieldS {s : TypeId} {f : Nat} (off : Nat) (h : fieldSB P s f off = true) {x : Operand} {cs : Array Value} {u : Value} (hx : look l x = some (.agg cs)) (hc : cs[off]? = some u) :
    Op1 P G (.field s x f) l F u := fun o ho c w hc' _ => by
  unfold fieldSB at h
  cases hu : P.underlying s with
  | none => rw [hu] at h; simp at h
  | some d =>
    rw [hu] at h
    cases d with
    | struct fs =>
      simp only at h
      cases hf : fs[f]? with
      | none => rw [hf] at h; simp at h
      | some fd =>
        rw [hf] at h
        simp only [Bool.and_eq_true] at h
        have h1 := Nat.eq_of_beq_eq_true h.1
        cases ht : P.underlying fd.type with
        | none => rw [ht] at h; simp at h
        | some e =>
          rw [ht] at h
          cases e with
          | slice e => simp [execOp, ho, hc'.eval hx, Instr.field, run_underlying hu, hf, asAgg, part, isAgg, run_underlying ht, h1, hc]
          | _ => simp at h
    | _ => simp at h

/-! ### clear -/
section
variable [Enc α]
theorem zero_encs {z : Array Value} (hz : z = (Enc.enc (Enc.d : α)).toArray) (n : Nat) : Builtin.zeroCells z n = (encs (List.replicate n (Enc.d : α))).toArray := by
  have hzs : z.size = Enc.sz α := by rw [hz, List.size_toArray, Enc.len]
  unfold Builtin.zeroCells
  apply Array.ext
  · simp [encs_length, hzs]
  · intro k hk1 hk2
    have hk : k < n * Enc.sz α := by simpa [hzs] using hk1
    have hpos := Enc.pos (α := α)
    have hq : k / Enc.sz α < n := by rw [Nat.div_lt_iff_lt_mul hpos]; exact hk
    have hr := Nat.mod_lt k hpos
    have hg := encs_get (List.replicate n (Enc.d : α)) (k / Enc.sz α) (k % Enc.sz α) (by simpa using hq) hr
    rw [Nat.div_add_mod'] at hg
    have hd : (List.replicate n (Enc.d : α)).getD (k / Enc.sz α) Enc.d = Enc.d := by
      rw [List.getD_eq_getElem?_getD, List.getElem?_replicate, if_pos hq]; rfl
    rw [hd] at hg
    have hkl : k < (encs (List.replicate n (Enc.d : α))).length := by rw [encs_length]; simpa using hk
    rw [List.getElem?_eq_getElem hkl, List.getElem?_eq_getElem (by rw [Enc.len]; exact hr)] at hg
    simp only [Option.some.injEq] at hg
    simp only [Array.getElem_map, Array.getElem_range, List.getElem_toArray, hg, hzs]
    have : z[k % Enc.sz α]! = (Enc.enc (Enc.d : α)).toArray[k % Enc.sz α]! := by rw [hz]
    rw [this, getElem!_pos _ _ (by rw [List.size_toArray, Enc.len]; exact hr)]
    simp

/-- clear(s[i:]) of an owned slice. -/
theorem OpE.clear [Val α] {t : TypeId} [ht : TSlice P t α] {x : Operand} {v : Value} {xs : List α} {i : Nat} {F0 : List Tok} (hx : look l x = some (drpV v (Enc.sz α) i)) (hp : F.Perm (Tok.own v xs :: F0)) (hi : i ≤ xs.length) :
    OpE P G (.call { callee := .builtin .clear, args := #[x], argTypes := #[t] }) l F fun _ F' => F' = Tok.own v (xs.take i ++ List.replicate (xs.length - i) Enc.d) :: F0 :=
  OpE.of_run (T := [Tok.own v xs]) (T0 := F0) hp fun o ho a w ha hw => by
    obtain ⟨e, ii, z, h1, h2, h3, h4, h5, h6⟩ := ht.out
    have hown := hw.own (v := v) (xs := xs) (by simp)
    have hlen : (xs.take i ++ List.replicate (xs.length - i) (Enc.d : α)).length = xs.length := by
      rw [List.length_append, List.length_take, List.length_replicate]; omega
    by_cases hil : i = xs.length
    · have hxx : xs.take i ++ List.replicate (xs.length - i) (Enc.d : α) = xs := by subst hil; simp
      refine ⟨.tuple #[], w, [Tok.own v (xs.take i ++ List.replicate (xs.length - i) Enc.d)], .inl ?_, upd_same hown _ hxx, rfl⟩
      rcases hown.2 with ⟨rfl, h0⟩ | ⟨b, cap, post, rfl, hn, _⟩
      · simp [execOp, ho, resolve, invoke, builtin, ha.eval hx, drpV, Builtin.clear_, run_underlying h1]
      · have hz : xs.length - i = 0 := by omega
        by_cases hc : cap = i
        · simp [execOp, ho, resolve, invoke, builtin, ha.eval hx, drpV, Builtin.clear_, run_underlying h1, hz]
        · simp [execOp, ho, resolve, invoke, builtin, ha.eval hx, drpV, Builtin.clear_, run_underlying h1, hz]
    · rcases hown.2 with ⟨rfl, h0⟩ | ⟨b, cap, post, rfl, hn, hcm, hs, hb⟩
      · omega
      have hci : ¬ cap = i := by omega
      have hz : ¬ xs.length - i = 0 := by omega
      obtain ⟨k, hk⟩ : ∃ k, xs.length - i = k + 1 := ⟨xs.length - i - 1, by omega⟩
      obtain ⟨et, hg⟩ := hb
      have hlx := encs_length xs
      have hkz : i * Enc.sz α + (k + 1) * Enc.sz α = xs.length * Enc.sz α := by rw [← Nat.add_mul]; congr 1; omega
      have hzl : (encs (List.replicate (k + 1) (Enc.d : α))).length = (k + 1) * Enc.sz α := by rw [encs_length, List.length_replicate]
      have hst := run_storeCells_at P b (i * Enc.sz α) et (encs (List.replicate (k + 1) (Enc.d : α))) 0 (encs xs ++ post).toArray w hg
        (by rw [hzl]; simp only [Nat.add_zero, List.size_toArray, List.length_append, hlx]; omega) (encs_one _)
      simp only [Nat.add_zero] at hst
      have hrow : (encs xs ++ post).take (i * Enc.sz α) ++ encs (List.replicate (k + 1) (Enc.d : α)) ++ (encs xs ++ post).drop (i * Enc.sz α + (encs (List.replicate (k + 1) (Enc.d : α))).length) = encs (xs.take i ++ List.replicate (xs.length - i) (Enc.d : α)) ++ post := by
        rw [hk, encs_append, encs_take, hzl, hkz, ← hlx, List.drop_left, List.take_append_of_le_length (by rw [hlx]; omega)]
      rw [hrow] at hst
      refine ⟨.tuple #[], w.setRow b (encs (xs.take i ++ List.replicate (xs.length - i) Enc.d) ++ post).toArray, [Tok.own (.slice (some ⟨b, 0, none⟩) xs.length cap) (xs.take i ++ List.replicate (xs.length - i) Enc.d)], .inl ?_,
        upd_ownRow (post' := post) rfl ⟨et, hg⟩ hcm _ _ (by rw [hlen]) (by rw [hlen]; exact hn) (by rw [hs, List.length_append, List.length_append, encs_length, encs_length, hlen]) rfl, rfl⟩
      have hzv : (zeroValue e).run P w = .ok z w := by simp [zeroValue, typeInfo, h2, h5]
      simp [execOp, ho, resolve, invoke, builtin, ha.eval hx, drpV, hci, Builtin.clear_, run_underlying h1, hk, hzv, zero_encs h6, hst]
end

/-! ### Tokens that are not named one by one -/
theorem sT2 {p : Prop} (h : p := by repeat (first | exact SubT.refl _ | exact SubT.nil _ | refine SubT.cons ?_ | refine SubT.pick1 ?_ | refine SubT.pick2 ?_ | refine SubT.pick3 ?_ | refine SubT.pick4 ?_ | refine SubT.pick5 ?_ | refine SubT.pick6 ?_ | refine SubT.skip ?_)) : p := h
theorem PE.turnG {e : Exit} {F0 : List Tok} {t t' : Tok} (hp : F.Perm (t :: F0)) (hf : t'.fp = t.fp) (hh : ∀ w, t.holds w → t'.holds w) (h : PE G e l (t' :: F0) Q) : PE G e l F Q := fun a w ha hw => h a w ha (hw.turn hp hf hh)
theorem WP.tokG {c : Code} {F' : List Tok} (hF : SubT F' F) (h : WP P G c l F' Q) : WP P G c l F Q := fun a w ha hw => h a w ha (hw.sub hF)
theorem WPL.tokG {ops : Array Oper} {rest : List Oper} {F' : List Tok} (hF : SubT F' F) (h : WPL P G ops rest l F' Q) : WPL P G ops rest l F Q := fun a w ha hw => h a w ha (hw.sub hF)
theorem WPD.tokG {Fs : List Tok} {ops : Array Oper} {fuel : Nat} {listed : Array Bool} {F' : List Tok} (hF : SubT F' F) (h : WPD P G Fs ops fuel listed l F' Q) : WPD P G Fs ops fuel listed l F Q := fun a w ha hw => h a w ha (hw.sub hF)
theorem SubT.inr {A B T : List Tok} (h : SubT A B) : SubT A (T ++ B) := by
  obtain ⟨C, h⟩ := h
  exact ⟨T ++ C, (List.Perm.append_left T h).trans (by
    rw [← List.append_assoc, ← List.append_assoc]
    exact List.Perm.append_right C List.perm_append_comm)⟩
theorem St.neG [Enc α] {W w : World} {T : List Tok} {v : Value} {xs : List α} (hw : St W [] F w) (hs : SubT T F) (h : RL W v xs) : ∀ b ∈ vfp v, b ∉ fps T := by
  intro b hb hT
  have h1 : b < W.heap.size := rdAt_inb h b hb
  rcases (hw.sub hs).base b hT with h2 | h2
  · cases h2
  · omega
theorem SubT.appL {T R : List Tok} : SubT T (T ++ R) := ⟨R, List.Perm.refl _⟩
theorem SubT.of_perm {F F' : List Tok} (h : F.Perm F') : SubT F' F := ⟨[], by simpa using h⟩
theorem own_disj [Enc α] {W w : World} {M : List Nat} {v : Value} {xs : List α} {T : List Tok} (hw : St W M F w) (hs : SubT (Tok.own v xs :: T) F) : ∀ b ∈ vfp v, b ∉ fps T := by
  intro b hb hT
  have h := (hw.sub hs).nodup
  rw [fps_cons, List.nodup_append] at h
  exact h.2.2 b hb b hT rfl
theorem rot1 {a : Tok} {T : List Tok} : (a :: T).Perm (T ++ [a]) := (List.perm_append_comm (l₁ := [a]))
theorem rot2 {a b : Tok} {T : List Tok} : (a :: b :: T).Perm (T ++ [a, b]) := (List.perm_append_comm (l₁ := [a, b]))
theorem rot3 {a b c : Tok} {T : List Tok} : (a :: b :: c :: T).Perm (T ++ [a, b, c]) := (List.perm_append_comm (l₁ := [a, b, c]))
theorem rot0 {T : List Tok} : T.Perm (T ++ []) := by simp
end
end Go.Proofs.Ytfigegmgopnfhaa
/- Rules for unsigned numbers. Conditions: none. -/
namespace Go.Proofs.Ytfigegmgopnfhaa
open Go

section
variable {P : Program} {G : Ctx} {l : List (Nat × Value)} {F : List Tok} {Q : Exit → Act → World → Prop}

theorem u64_fits {n : Int} (h : 0 ≤ n ∧ n ≤ 9223372036854775807) : IntKind.u64.wrap n = n := by
  rw [IntKind.wrap_u64]; omega
theorem Op1.mulU {t u : TypeId} {x y : Operand} {a b : Int} (hx : look l x = some (.int .u64 a)) (hy : look l y = some (.int .u64 b)) (h : 0 ≤ a * b ∧ a * b ≤ 9223372036854775807) :
    Op1 P G (.binOp .mul t x y u) l F (.int .u64 (a * b)) := fun o ho c w hc _ => by
  simp [execOp, ho, hc.eval hx, hc.eval hy, eqGuard, binOp, Op.intArith, u64_fits h]
theorem Op1.addU {t u : TypeId} {x y : Operand} {a b : Int} (hx : look l x = some (.int .u64 a)) (hy : look l y = some (.int .u64 b)) (h : 0 ≤ a + b ∧ a + b ≤ 9223372036854775807) :
    Op1 P G (.binOp .add t x y u) l F (.int .u64 (a + b)) := fun o ho c w hc _ => by
  simp [execOp, ho, hc.eval hx, hc.eval hy, eqGuard, binOp, Op.intArith, u64_fits h]
/-- x & mask32 of a small number. -/
theorem Op1.andU {t u : TypeId} {x : Operand} {a : Int} (hx : look l x = some (.int .u64 a)) (h : 0 ≤ a ∧ a < 4294967296) :
    Op1 P G (.binOp .and t x (.const (.int .u64 4294967295)) u) l F (.int .u64 a) := fun o ho c w hc _ => by
  have hn : c.eval (.const (.int .u64 4294967295)) = .int .u64 4294967295 := rfl
  obtain ⟨k, rfl⟩ := Int.eq_ofNat_of_zero_le h.1
  have h1 := bits_and_u64_nat k 4294967295 (by omega) (by omega)
  have h2 : k &&& 4294967295 = k % 4294967296 := Nat.and_two_pow_sub_one_eq_mod k 32
  rw [h2, Nat.mod_eq_of_lt (by omega)] at h1
  simp [execOp, ho, hc.eval hx, hn, eqGuard, binOp, Op.intBits]
  exact h1
theorem Op1.shr32 {t u : TypeId} {x : Operand} {n : Int} {k : IntKind} (hx : look l x = some (.int .u64 n)) (h : 0 ≤ n ∧ n < 4294967296) :
    Op1 P G (.binOp .shr t x (.const (.int k 32)) u) l F (.int .u64 0) := fun o ho c w hc _ => by
  have hn : c.eval (.const (.int k 32)) = .int k 32 := rfl
  have e : Op.shift .shr .u64 n k 32 = pure (.int .u64 (n / 4294967296)) := by
    rw [shift_shr_any _ _ _ _ (by omega)]
    simp [IntKind.bits]
  have e2 : n / 4294967296 = 0 := by omega
  rw [e2] at e
  simp [execOp, ho, hc.eval hx, hn, eqGuard_shr, binOp_shr, e]
theorem Op1.convUU {s d : TypeId} [hs : TInt P s] {x : Operand} {n : Int} (hx : look l x = some (.int .u64 n)) (hd : P.underlying d = some (.int .u64)) (h : 0 ≤ n ∧ n ≤ 9223372036854775807) :
    Op1 P G (.convert s d x) l F (.int .u64 n) := fun o ho c w hc _ => by
  obtain ⟨k', h1⟩ := hs.out
  simp [execOp, ho, hc.eval hx, convert, run_underlying h1, run_underlying hd, Conv.intToInt, u64_fits h]
theorem WPL.unown {α : Type} [Enc α] {ops : Array Oper} {rest : List Oper} {v : Value} {xs : List α} {F0 : List Tok} (hp : F.Perm (Tok.own v xs :: F0)) (hnil : v = .slice none 0 0 → xs = [] → WPL P G ops rest l F Q)
    (h : ∀ b cap (post : List Value), v = .slice (some ⟨b, 0, none⟩) xs.length cap → xs.length ≤ cap → cap ≤ maxLen → cap * Enc.sz α = (encs xs ++ post).length → WPL P G ops rest l (Tok.blk b (encs xs ++ post) :: F0) Q) :
    WPL P G ops rest l F Q := fun a w ha hw => by
  have hown := (hw.perm hp).own (v := v) (xs := xs) (by simp)
  rcases hown.2 with ⟨h1, h2⟩ | ⟨b, cap, post, h1, h2, h3, h4, h5⟩
  · exact hnil h1 (List.eq_nil_of_length_eq_zero h2) a w ha hw
  · refine h b cap post h1 h2 h3 h4 a w ha ?_
    have hs := hw.perm hp
    refine ⟨?_, ?_, ?_, hs.keep, hs.size, hs.os, hs.tape, hs.output⟩
    · have := hs.nodup; simpa [Tok.own, Tok.blk, h1, vfp] using this
    · intro t ht
      rcases List.mem_cons.1 ht with rfl | ht
      · exact h5
      · exact hs.holds t (by simp [ht])
    · have := hs.base; simpa [Tok.own, Tok.blk, h1, vfp] using this
end
end Go.Proofs.Ytfigegmgopnfhaa
/- Rules for structs within structs. Conditions: none. -/
namespace Go.Proofs.Ytfigegmgopnfhaa
open Go
section
variable {P : Program} {G : Ctx} {l : List (Nat × Value)} {F : List Tok} {Q : Exit → Act → World → Prop} {α : Type} [Enc α]

/-- A struct that is a part of a slice's element. -/
theorem Op1.loadEAggR {t : TypeId} {k : Nat} [TAgg P t k] {x : Operand} {v : Value} {xs : List α} {i r : Nat} (us : List Value) (hx : look l x = some (eptr v (Enc.sz α) i r)) (hr : Rd G F v xs) (hi : i < xs.length) (hl : us.length = k) (hk : r + k ≤ Enc.sz α)
    (hu : ∀ j, j < k → (Enc.enc (xs.getD i Enc.d))[r + j]? = us[j]?) : Op1 P G (.load t x) l F (.agg us.toArray) := fun o ho c w hc hw => by
  obtain ⟨b, of, cap, hv, _⟩ := (hr w hw).form (by omega)
  subst hv
  simp only [eptr] at hx
  have := run_loadVar_agg (P := P) (t := t) (w := w) (b := b) (i := of + (i * Enc.sz α + r)) (us := us) hl (fun j hj => by
    obtain ⟨b', of', cap', hv', hce⟩ := (hr w hw).elem hi (r := r + j) (by omega)
    simp only [Value.slice.injEq, Option.some.injEq, Addr.mk.injEq] at hv'
    obtain ⟨⟨rfl, rfl, _⟩, _⟩ := hv'
    rw [← hu j (by omega), ← hce]; simp [Nat.add_assoc])
  simp only [execOp, ho, hc.eval hx, Instr.loadAt, Instr.sureAddr, Sem.run_bind, Sem.run_pure, Result.andThen_ok, this]
/-- The edge of an operation in a slice. -/
theorem Op1.loadOE {t : TypeId} [TAgg P t 2] {x : Operand} {v : Value} {xs : List Oper1} {i : Nat} (hx : look l x = some (eptr v (Enc.sz Oper1) i 1)) (hr : Rd G F v xs) (hi : i < xs.length) :
    Op1 P G (.load t x) l F (.agg #[.int .i64 (xs.getD i ⟨0, 0, 0⟩).A, .int .i64 (xs.getD i ⟨0, 0, 0⟩).B]) :=
  Op1.loadEAggR (k := 2) [.int .i64 (xs.getD i ⟨0, 0, 0⟩).A, .int .i64 (xs.getD i ⟨0, 0, 0⟩).B] hx hr hi rfl (by decide) fun j hj => by
    rcases (by omega : j = 0 ∨ j = 1) with rfl | rfl <;> rfl
/-- The edge of a life in a slice. -/
theorem Op1.loadLE {t : TypeId} [TAgg P t 2] {x : Operand} {v : Value} {xs : List Lif} {i : Nat} (hx : look l x = some (eptr v (Enc.sz Lif) i 0)) (hr : Rd G F v xs) (hi : i < xs.length) :
    Op1 P G (.load t x) l F (.agg #[.int .i64 (xs.getD i ⟨0, 0, 0, 0⟩).A, .int .i64 (xs.getD i ⟨0, 0, 0, 0⟩).B]) :=
  Op1.loadEAggR (k := 2) [.int .i64 (xs.getD i ⟨0, 0, 0, 0⟩).A, .int .i64 (xs.getD i ⟨0, 0, 0, 0⟩).B] hx hr hi rfl (by decide) fun j hj => by
    rcases (by omega : j = 0 ∨ j = 1) with rfl | rfl <;> rfl
end
end Go.Proofs.Ytfigegmgopnfhaa
/- '==' of two lives: structs that hold a struct of two ints ahead of two ints. Conditions: none. -/
namespace Go.Proofs.Ytfigegmgopnfhaa
open Go
section
variable {P : Program} {G : Ctx} {l : List (Nat × Value)} {F : List Tok} {Q : Exit → Act → World → Prop}

def eqLB (P : Program) (t : TypeId) : Bool :=
  (match P.underlying t with
   | some (.struct fs) => match fs.toList with
     | [f0, f1, f2] => f0.name != "_" && f1.name != "_" && f2.name != "_" && Nat.beq f0.offset 0 && Nat.beq f1.offset 2 && Nat.beq f2.offset 3 && eq2B P f0.type && aggB P f0.type 2 && intB P f1.type && intB P f2.type
     | _ => false
   | _ => false) && !P.stoodInHeld t && !P.eqGuardType P.depth t
class TEqL (P : Program) (t : TypeId) : Prop where
  out : eqLB P t = true

theorem run_part_agg {t : TypeId} {k : Nat} [ht : TAgg P t k] {cs : Array Value} {o : Nat} (w : World) : (part t cs o).run P w = .ok (.agg (cs.extract o (o + k))) w := by
  obtain ⟨fs, ii, h1, h2, h3⟩ := ht.out
  simp [part, run_isAgg_yes h1, run_sizeOf' h2, h3]

theorem run_eqL {t : TypeId} (h : eqLB P t = true) (d : Nat) (a b c e a' b' c' e' : Int) (w : World) :
    (Op.equalIn (d + 3) t (.agg #[.int .i64 a, .int .i64 b, .int .i64 c, .int .i64 e]) (.agg #[.int .i64 a', .int .i64 b', .int .i64 c', .int .i64 e'])).run P w = .ok (decide ((a = a' ∧ b = b') ∧ c = c' ∧ e = e')) w := by
  unfold eqLB at h
  simp only [Bool.and_eq_true] at h
  obtain ⟨⟨h1, h2⟩, h3⟩ := h
  have hp : P.stoodInHeld t = false := by simpa using h2
  cases hu : P.underlying t with
  | none => rw [hu] at h1; simp at h1
  | some dd =>
    rw [hu] at h1
    cases dd with
    | struct fs =>
      simp only at h1
      split at h1
      case h_2 => simp at h1
      rename_i f0 f1 f2 hf
      simp only [Bool.and_eq_true] at h1
      obtain ⟨⟨⟨⟨⟨⟨⟨⟨⟨n0, n1⟩, n2⟩, o0⟩, o1⟩, o2⟩, i0⟩, g0⟩, i1⟩, i2⟩ := h1
      haveI := TAgg.of g0
      obtain ⟨k1, i1⟩ := (TInt.of i1).out
      obtain ⟨k2, i2⟩ := (TInt.of i2).out
      have o0 := Nat.eq_of_beq_eq_true o0
      have o1 := Nat.eq_of_beq_eq_true o1
      have o2 := Nat.eq_of_beq_eq_true o2
      have hS : P.underlying t = some (.struct (P.fieldsOf t)) := by rw [hu]; simp [Program.fieldsOf, hu]
      have hfl : (P.fieldsOf t).toList = [f0, f1, f2] := by simp [Program.fieldsOf, hu, hf]
      rw [show d + 3 = (d + 2) + 1 from rfl, run_equalIn_struct w (d + 2) t _ _ hS hp, hfl]
      have n0' : f0.name ≠ "_" := by simpa using n0
      have n1' : f1.name ≠ "_" := by simpa using n1
      have n2' : f2.name ≠ "_" := by simpa using n2
      have p0 : ∀ (x y z u : Value) w, (part f0.type #[x, y, z, u] f0.offset).run P w = .ok (.agg #[x, y]) w := fun x y z u w => by
        rw [run_part_agg (k := 2), o0]; rfl
      have p1 : ∀ (x y z u : Value) w, (part f1.type #[x, y, z, u] f1.offset).run P w = .ok z w := fun x y z u w => run_part_int i1 (by rw [o1]; rfl) w
      have p2 : ∀ (x y z u : Value) w, (part f2.type #[x, y, z, u] f2.offset).run P w = .ok u w := fun x y z u w => run_part_int i2 (by rw [o2]; rfl) w
      simp only [Op.eqFields, if_pos n0', if_pos n1', if_pos n2', Sem.run_bind, p0, p1, p2, Result.andThen_ok, run_eq2 i0 d, run_equalIn_int w (d + 1) f1.type .i64 k1 _ _ i1, run_equalIn_int w (d + 1) f2.type .i64 k2 _ _ i2]
      by_cases e1 : a = a' ∧ b = b' <;> by_cases e2 : c = c' <;> by_cases e3 : e = e' <;> simp [e1, e2, e3, p1, p2, run_equalIn_int w (d + 1) f1.type .i64 k1 _ _ i1, run_equalIn_int w (d + 1) f2.type .i64 k2 _ _ i2]
    | _ => simp at h1

def lfV (x : Lif) : Value := .agg #[.int .i64 x.A, .int .i64 x.B, .int .i64 x.F, .int .i64 x.T]
theorem Lif.eq_iff {x y : Lif} : x = y ↔ (x.A = y.A ∧ x.B = y.B) ∧ x.F = y.F ∧ x.T = y.T := by cases x; cases y; simp [and_assoc]
theorem Op1.eqL {t u : TypeId} [ht : TEqL P t] {x y : Operand} {a b : Lif} (hx : look l x = some (lfV a)) (hy : look l y = some (lfV b)) :
    Op1 P G (.binOp .eql t x y u) l F (.bool (decide (a = b))) := fun o ho z w hc _ => by
  have h := ht.out
  have hg : P.eqGuardType P.depth t = false := by unfold eqLB at h; simp only [Bool.and_eq_true] at h; simpa using h.2
  have e : decide (a = b) = decide ((a.A = b.A ∧ a.B = b.B) ∧ a.F = b.F ∧ a.T = b.T) := by rw [decide_eq_decide, Lif.eq_iff]
  simp only [lfV] at hx hy
  simp only [execOp, ho, hc.eval hx, hc.eval hy, Sem.run_bind, run_eqGuard_agg w .eql t x y _ _ hg, Result.andThen_ok, run_eql_struct]
  rw [show (10000 : Nat) = 9997 + 3 from rfl, run_eqL h 9997, e]
  rfl
theorem Op1.neL {t u : TypeId} [ht : TEqL P t] {x y : Operand} {a b : Lif} (hx : look l x = some (lfV a)) (hy : look l y = some (lfV b)) :
    Op1 P G (.binOp .neq t x y u) l F (.bool (decide (a ≠ b))) := fun o ho z w hc _ => by
  have h := ht.out
  have hg : P.eqGuardType P.depth t = false := by unfold eqLB at h; simp only [Bool.and_eq_true] at h; simpa using h.2
  have e : decide (a ≠ b) = !decide ((a.A = b.A ∧ a.B = b.B) ∧ a.F = b.F ∧ a.T = b.T) := by rw [← decide_not, decide_eq_decide, ne_eq, Lif.eq_iff]
  simp only [lfV] at hx hy
  simp only [execOp, ho, hc.eval hx, hc.eval hy, Sem.run_bind, run_eqGuard_agg w .neq t x y _ _ hg, Result.andThen_ok, run_neq_struct]
  rw [show (10000 : Nat) = 9997 + 3 from rfl, run_eqL h 9997, e]
  rfl
/-- A whole life in a slice. -/
theorem Op1.loadLif {t : TypeId} [TAgg P t 4] {x : Operand} {v : Value} {xs : List Lif} {i : Nat} (hx : look l x = some (eptr v (Enc.sz Lif) i 0)) (hr : Rd G F v xs) (hi : i < xs.length) :
    Op1 P G (.load t x) l F (lfV (xs.getD i ⟨0, 0, 0, 0⟩)) := Op1.loadEAgg hx hr hi rfl
/-! The fields of a life and of an operation in a slice. -/
theorem Op1.loadLA {t : TypeId} [TScal P t] {x : Operand} {v : Value} {xs : List Lif} {i : Nat} (hx : look l x = some (eptr v (Enc.sz Lif) i 0)) (hr : Rd G F v xs) (hi : i < xs.length) :
    Op1 P G (.load t x) l F (.int .i64 (xs.getD i ⟨0, 0, 0, 0⟩).A) := Op1.loadE hx hr hi rfl
theorem Op1.loadLB {t : TypeId} [TScal P t] {x : Operand} {v : Value} {xs : List Lif} {i : Nat} (hx : look l x = some (eptr v (Enc.sz Lif) i 1)) (hr : Rd G F v xs) (hi : i < xs.length) :
    Op1 P G (.load t x) l F (.int .i64 (xs.getD i ⟨0, 0, 0, 0⟩).B) := Op1.loadE hx hr hi rfl
theorem Op1.loadLF {t : TypeId} [TScal P t] {x : Operand} {v : Value} {xs : List Lif} {i : Nat} (hx : look l x = some (eptr v (Enc.sz Lif) i 2)) (hr : Rd G F v xs) (hi : i < xs.length) :
    Op1 P G (.load t x) l F (.int .i64 (xs.getD i ⟨0, 0, 0, 0⟩).F) := Op1.loadE hx hr hi rfl
theorem Op1.loadLT {t : TypeId} [TScal P t] {x : Operand} {v : Value} {xs : List Lif} {i : Nat} (hx : look l x = some (eptr v (Enc.sz Lif) i 3)) (hr : Rd G F v xs) (hi : i < xs.length) :
    Op1 P G (.load t x) l F (.int .i64 (xs.getD i ⟨0, 0, 0, 0⟩).T) := Op1.loadE hx hr hi rfl
theorem Op1.loadOK {t : TypeId} [TScal P t] {x : Operand} {v : Value} {xs : List Oper1} {i : Nat} (hx : look l x = some (eptr v (Enc.sz Oper1) i 0)) (hr : Rd G F v xs) (hi : i < xs.length) :
    Op1 P G (.load t x) l F (.int .i64 (xs.getD i ⟨0, 0, 0⟩).K) := Op1.loadE hx hr hi rfl
theorem Op1.loadOA {t : TypeId} [TScal P t] {x : Operand} {v : Value} {xs : List Oper1} {i : Nat} (hx : look l x = some (eptr v (Enc.sz Oper1) i 1)) (hr : Rd G F v xs) (hi : i < xs.length) :
    Op1 P G (.load t x) l F (.int .i64 (xs.getD i ⟨0, 0, 0⟩).A) := Op1.loadE hx hr hi rfl
theorem Op1.loadOB {t : TypeId} [TScal P t] {x : Operand} {v : Value} {xs : List Oper1} {i : Nat} (hx : look l x = some (eptr v (Enc.sz Oper1) i 2)) (hr : Rd G F v xs) (hi : i < xs.length) :
    Op1 P G (.load t x) l F (.int .i64 (xs.getD i ⟨0, 0, 0⟩).B) := Op1.loadE hx hr hi rfl
theorem Op1.loadBl {t : TypeId} [TScal P t] {x : Operand} {v : Value} {xs : List Bool} {i : Nat} (hx : look l x = some (eptr v (Enc.sz Bool) i 0)) (hr : Rd G F v xs) (hi : i < xs.length) :
    Op1 P G (.load t x) l F (.bool (xs.getD i false)) := Op1.loadE hx hr hi rfl
end
end Go.Proofs.Ytfigegmgopnfhaa
/- Graphs: the walks of the library's IndexFunc and DeleteFunc, and of without. Conditions: those of each contract. -/
namespace Go.Proofs.Ytfigegmgopnfhaa
open Go
theorem set_take_succ {α : Type} (l : List α) (i : Nat) (x : α) (h : i < l.length) : (l.set i x).take (i + 1) = l.take i ++ [x] := by
  rw [List.set_eq_take_append_cons_drop, if_pos h]
  have h1 : (l.take i).length = i := by rw [List.length_take]; omega
  have h2 : (l.take i ++ x :: l.drop (i + 1)) = (l.take i ++ [x]) ++ l.drop (i + 1) := by simp
  have h3 : i + 1 = (l.take i ++ [x]).length := by rw [List.length_append, h1]; rfl
  rw [h2]
  conv => lhs; arg 1; rw [h3]
  rw [List.take_left]
theorem getD_setD {α : Type} (l : List α) (i j : Nat) (x d : α) (h : i ≠ j) : (l.set i x).getD j d = l.getD j d := by
  rw [List.getD_eq_getElem?_getD, List.getD_eq_getElem?_getD, List.getElem?_set_ne h]
set_option linter.unusedVariables false set_option linter.unusedSimpArgs false attribute [local irreducible] Tok.own Tok.blk RL Rd eptr WP WPL PE WPD WPO Op1 OpE Tri Again Mid Exit.then Exit.inBlock bodyPost RP Code.wp wpList isOwn OneM One
attribute [local irreducible] Pred
set_option maxHeartbeats 8000000

theorem c_IndexFuncE (w : World) (v fv : Value) (es : List E) (T : List Tok) (p : E → Bool) (h : RL w v es) (hd : ∀ b ∈ vfp v, b ∉ fps T) (hl : es.length ≤ 1000) (hp : Pred Try.prog w (fps T) fv T ep p es) :
    Tri Try.prog 163 [v, fv] w T fun r T' => T' = T ∧ ((∃ k : Nat, k < es.length ∧ r = .int .i64 k ∧ p (es.getD k eD) = true ∧ ∀ m, m < k → p (es.getD m eD) = false) ∨ (r = .int .i64 (-1) ∧ ∀ e ∈ es, p e = false)) := by
  have hA : RdA ⟨19, w, fps T⟩ v es := RdA.mk h hd
  refine Tri.intro (hf := Try.func163) (hb := rfl) (hn := Try.ntmps163) (Nat.le_of_ble_eq_true rfl) ?_
  try refine goA ⟨?_⟩
  refine WP.loop (σ := Nat) (fun k => [(0, v), (1, fv), (7, .int .i64 es.length), (8, .int .i64 k)]) (fun _ => T) (fun k => k ≤ es.length ∧ ∀ m, m < k → p (es.getD m eD) = false) (fun k => es.length - k) 0 ⟨Nat.zero_le _, by omega⟩ sE (SubT.refl _) ?_
  rintro k ⟨hk, hm⟩
  try refine goA ⟨?_⟩
  refine WP.condD rfl (fun hc => ?_) (fun hc => ?_)
  · have hk' : k < es.length := by omega
    try refine goA ⟨?_⟩
    refine WPL.eff (OpE.callP (x := es.getD k eD) hp rfl rfl (getD_memI hk') rot0) rfl rfl ?_
    rintro _ _ ⟨rfl, rfl⟩
    rw [List.append_nil]
    try refine goA ⟨?_⟩
    refine WP.cond rfl (fun hpk => ?_) (fun hpk => ?_)
    · try refine goA ⟨?_⟩
      refine PE.ret1 (T := T) (T' := T) rfl rV ?_ (SubT.refl _)
      exact ⟨rfl, .inl ⟨k, hk', rfl, hpk, hm⟩⟩
    · try refine goA ⟨?_⟩
      refine PE.again (k + 1) ?_ ?_ sE (SubT.refl _)
      · refine ⟨by omega, fun m hm' => ?_⟩
        rcases Nat.lt_succ_iff_lt_or_eq.1 hm' with h' | rfl
        · exact hm m h'
        · exact hpk
      · omega
  · try refine goA ⟨?_⟩
    refine PE.ret1 (T := T) (T' := T) rfl rV ?_ (SubT.refl _)
    refine ⟨rfl, .inr ⟨rfl, fun e he => ?_⟩⟩
    obtain ⟨n, hn, rfl⟩ := mem_getD (d := eD) he
    exact hm n (by omega)

theorem c_DeleteFuncE (w : World) (v fv : Value) (es : List E) (T : List Tok) (p : E → Bool) (hl : es.length ≤ 1000) (hp : Pred Try.prog w (fps (Tok.own v es :: T)) fv T ep p es) :
    Tri Try.prog 158 [v, fv] w (Tok.own v es :: T) fun r T' => T' = Tok.own r (es.filter fun e => !p e) :: T := by
  refine Tri.intro (hf := Try.func158) (hb := rfl) (hn := Try.ntmps158) (Nat.le_of_ble_eq_true rfl) ?_
  try refine go ⟨?_⟩
  refine WPL.eff (OpE.callT (T := T) lO rot1 (fun w' hw => c_IndexFuncE _ v fv es T p (Rd.at rD hw) (own_disj hw (SubT.refl _)) hl (hp.at hw (SubT.skip (SubT.refl _))))) rfl rfl ?_
  rintro r _ ⟨T, ⟨rfl, hr⟩, rfl⟩
  refine WPL.perm rot1.symm ?_
  rcases hr with ⟨k, hk, rfl, hk1, hk2⟩ | ⟨rfl, hall⟩
  case inr =>
    try refine go ⟨?_⟩
    refine PE.ret1 (T := Tok.own v es :: T) (T' := Tok.own v es :: T) rfl rV ?_ (SubT.refl _)
    rw [List.filter_eq_self.2 fun e he => by rw [hall e he]; rfl]
  have hkept : (es.take (k + 1)).filter (fun e => !p e) = es.take k := by
    rw [take_succD eD hk, List.filter_append]
    have h1 : (es.take k).filter (fun e => !p e) = es.take k := by
      rw [List.filter_eq_self]
      intro e he
      obtain ⟨i, hi, rfl⟩ := mem_getD (d := eD) he
      rw [List.length_take] at hi
      have h2 : (es.take k).getD i eD = es.getD i eD := by
        rw [List.getD_eq_getElem?_getD, List.getD_eq_getElem?_getD, List.getElem?_take_of_lt (by omega)]
      rw [h2, hk2 i (by omega)]; rfl
    rw [h1]; simp only [List.filter_cons, hk1, Bool.not_true, Bool.false_eq_true, if_false, List.filter_nil, List.append_nil]
  try refine go ⟨?_⟩
  refine WP.loop (σ := Nat × Nat × List E) (fun s => [(0, v), (1, fv), (5, .int .i64 s.1), (6, .int .i64 s.2.1)]) (fun s => Tok.own v s.2.2 :: T)
    (fun s => s.1 < s.2.1 ∧ s.2.1 ≤ es.length ∧ s.2.2.length = es.length ∧ s.2.2.take s.1 = (es.take s.2.1).filter (fun e => !p e) ∧ s.1 = ((es.take s.2.1).filter (fun e => !p e)).length ∧ ∀ m, s.2.1 ≤ m → m < es.length → s.2.2.getD m eD = es.getD m eD)
    (fun s => es.length - s.2.1) (k, k + 1, es) ⟨by dsimp only; omega, by dsimp only; omega, rfl, hkept.symm, by dsimp only; rw [hkept, List.length_take]; omega, fun _ _ _ => rfl⟩ sE (SubT.refl _) ?_
  rintro ⟨i, j, xs⟩ ⟨h1, h2, h3, h4, h5, h6⟩
  dsimp only at h1 h2 h3 h4 h5 h6 ⊢
  try refine go ⟨?_⟩
  refine WP.condD rfl (fun hc => ?_) (fun hc => ?_)
  · have hj : j < es.length := by omega
    have hx := h6 j (Nat.le_refl _) hj
    try refine go ⟨?_⟩
    refine WPL.eff OpE.alloc rfl rfl ?_; rintro _ _ ⟨b7, rfl, rfl⟩
    try refine go ⟨?_⟩
    refine WPL.eff (OpE.callP (x := xs.getD j eD) hp rfl rfl (by rw [hx]; exact getD_memI hj) rot2) rfl rfl ?_
    rintro _ _ ⟨rfl, rfl⟩
    refine WPL.perm rot2.symm ?_
    rw [hx]
    have htk := take_succD eD hj
    cases hpj : p (es.getD j eD)
    · try refine go ⟨?_⟩
      refine WPL.eff0 (OpE.storeS (α := E) (xs.getD j eD) rfl rfl pM lT rfl) rfl ?_
      rintro _ _ rfl
      try refine go ⟨?_⟩
      refine PE.again (i + 1, j + 1, xs.set i (xs.getD j eD)) ?_ ?_ sE (SubT.cons (SubT.skip (SubT.refl _)))
      · have hf : (es.take (j + 1)).filter (fun e => !p e) = (es.take j).filter (fun e => !p e) ++ [es.getD j eD] := by
          rw [htk, List.filter_append]; simp only [List.filter_cons, hpj, Bool.not_false, if_true, List.filter_nil]
        refine ⟨by dsimp only; omega, by dsimp only; omega, by dsimp only; rw [List.length_set, h3], ?_, ?_, fun m hm hml => ?_⟩
        · dsimp only; rw [set_take_succ _ _ _ (by omega), h4, hf, hx]
        · dsimp only; rw [hf, List.length_append, ← h5]; rfl
        · dsimp only at hm ⊢; rw [getD_setD _ _ _ _ _ (by omega), h6 m (by omega) hml]
      · dsimp only; omega
    · try refine go ⟨?_⟩
      refine PE.again (i, j + 1, xs) ?_ ?_ sE (SubT.skip (SubT.refl _))
      · have hf : (es.take (j + 1)).filter (fun e => !p e) = (es.take j).filter (fun e => !p e) := by
          rw [htk, List.filter_append]; simp only [List.filter_cons, hpj, Bool.not_true, if_false, List.filter_nil, List.append_nil, Bool.false_eq_true]
        refine ⟨by dsimp only; omega, by dsimp only; omega, h3, ?_, ?_, fun m hm hml => ?_⟩
        · dsimp only; rw [h4, hf]
        · dsimp only; rw [hf, ← h5]
        · dsimp only at hm ⊢; rw [h6 m (by omega) hml]
      · dsimp only; omega
  · have hjn : j = es.length := by omega
    subst hjn
    rw [List.take_length] at h4 h5
    have hil : i ≤ xs.length := by omega
    try refine go ⟨?_⟩
    refine WPL.eff0 (OpE.clear (α := E) rfl pM hil) rfl ?_
    rintro _ _ rfl
    try refine go ⟨?_⟩
    refine WPL.pure (Op1.sliceHi (n := i) (xs := xs.take i ++ List.replicate (xs.length - i) (Enc.d : E)) rfl rfl rD (by rw [List.length_append, List.length_take]; omega)) rfl rfl ?_
    try refine go ⟨?_⟩
    refine PE.turnG (t := Tok.own v (xs.take i ++ List.replicate (xs.length - i) Enc.d)) (t' := Tok.own (slcV v i) ((xs.take i ++ List.replicate (xs.length - i) Enc.d).take i)) pM own_take_fp (own_take (by rw [List.length_append, List.length_take]; omega)) ?_
    have hti : (xs.take i ++ List.replicate (xs.length - i) (Enc.d : E)).take i = es.filter fun e => !p e := by
      rw [List.take_append_of_le_length (by rw [List.length_take]; omega), List.take_take, Nat.min_self, h4]
    rw [hti]
    refine PE.ret1 (T := Tok.own v es :: T) (T' := Tok.own (slcV v i) (es.filter fun e => !p e) :: T) rfl rV ?_ (SubT.refl _)
    rfl
end Go.Proofs.Ytfigegmgopnfhaa
/- Graphs: the walks of without, cut, cutNode, CutEdge, CutNode, HasEdge, isBridge, edgesBy. Conditions: those of each contract. -/
namespace Go.Proofs.Ytfigegmgopnfhaa
open Go
set_option linter.unusedVariables false set_option linter.unusedSimpArgs false attribute [local irreducible] Tok.own Tok.blk RL Rd eptr WP WPL PE WPD WPO Op1 OpE Tri Again Mid Exit.then Exit.inBlock bodyPost RP Code.wp wpList isOwn OneM One
attribute [local irreducible] Pred
set_option maxHeartbeats 8000000

def ptrV (b : Nat) : Value := .pointer (some ⟨b, 0, none⟩)

theorem c_without (w : World) (n : Int) (vE fv : Value) (es : List E) (T : List Tok) (p : E → Bool) (hE : RL w vE es) (hd : ∀ b ∈ vfp vE, b ∉ fps T) (hl : es.length ≤ 1000) (hp : Pred Try.prog w (fps T) fv T ep p es) :
    Tri Try.prog 138 [.agg #[.int .i64 n, vE], fv] w T fun r T' => ∃ v, r = .agg #[.int .i64 n, v] ∧ T' = Tok.own v (es.filter fun e => !p e) :: T := by
  have hA : RdA ⟨13, w, fps T⟩ vE es := RdA.mk hE hd
  refine Tri.intro (hf := Try.func138) (hb := rfl) (hn := Try.ntmps138) (Nat.le_of_ble_eq_true rfl) ?_
  try refine goA ⟨?_⟩
  refine WPL.eff (OpE.box rfl) rfl rfl ?_; rintro _ _ ⟨b2, rfl, rfl⟩
  refine WPL.eff OpE.alloc rfl rfl ?_; rintro _ _ ⟨b4, rfl, rfl⟩
  try refine goA ⟨?_⟩
  refine WP.draw [Tok.blk b2 [.int .i64 n, vE]] mixed ?_
  refine WPD.take 0 rfl (by first | exact (Op1.fieldAddr rfl) | exact (Op1.fieldAddrE rfl rDA lT)) rfl rfl sT kR kR kR xQP ?_
  refine WPD.take 2 rfl (by first | exact (Op1.fieldAddr rfl) | exact (Op1.fieldAddrE rfl rDA lT)) rfl rfl sT kR kR kR xQP ?_
  refine WPD.take 5 rfl (Op1.move rfl) rfl rfl sT kR kR kR xQP ?_
  refine WPD.take 1 rfl (by first | exact (Op1.load rfl mM (by rfl)) | exact (Op1.loadI rfl rDA lT) | exact (Op1.loadAll rfl mM (by rfl)) | exact (Op1.loadE rfl rDA lT (by rfl)) | exact (Op1.loadEAgg rfl rDA lT (by rfl))) rfl rfl sT kR kR kR xQP ?_
  refine WPD.take 3 rfl (by first | exact (Op1.load rfl mM (by rfl)) | exact (Op1.loadI rfl rDA lT) | exact (Op1.loadAll rfl mM (by rfl)) | exact (Op1.loadE rfl rDA lT (by rfl)) | exact (Op1.loadEAgg rfl rDA lT (by rfl))) rfl rfl sT kR kR kR xQP ?_
  refine WPD.eff 4 kR rfl (OpE.call lO (fun w hw => c_CloneE _ vE es (Rd.at rDA hw) (by omega))) rfl rfl ?_
  rintro cl _ ⟨T, rfl, rfl⟩
  refine ⟨sT, ?_⟩
  refine WPD.eff 6 kR rfl (OpE.callT (T := Tok.own cl es :: T) lO (List.Perm.cons _ rot2) (fun w hw => c_DeleteFuncE _ cl fv es T p hl (hp.at hw (SubT.cons (SubT.skip (SubT.skip (SubT.refl _))))))) rfl rfl ?_
  rintro v _ ⟨T', rfl, rfl⟩
  refine ⟨(SubT.skip (SubT.inr sT)), ?_⟩
  refine WPD.tokG (F' := Tok.own v (es.filter fun e => !p e) :: Tok.blk b4 [.int .i64 0, .slice none 0 0] :: Tok.blk b2 [.int .i64 n, vE] :: T) (SubT.of_perm (List.Perm.cons _ rot2.symm)) ?_
  refine WPD.eff 7 kR rfl (OpE.ofPure (Op1.build xBP (by rfl))) rfl rfl ?_
  rintro _ _ ⟨rfl, rfl⟩
  refine ⟨sT, ?_⟩
  refine WPD.eff0 8 kR rfl (OpE.storeAll rfl rfl pM (by rfl) (by rfl) oN) rfl ?_
  rintro _ _ rfl
  refine ⟨sT, ?_⟩
  refine WPD.done kR ?_
  try refine goA ⟨?_⟩
  refine PE.ret1 (T := T) (T' := Tok.own v (es.filter fun e => !p e) :: T) rfl rV ?_ sT2
  exact ⟨v, rfl, rfl⟩

theorem c_cut1 (w : World) (b : Nat) (e f : E) : Tri Try.prog 139 [ep f, ptrV b] w [Tok.blk b [.int .i64 e.A, .int .i64 e.B]] fun r T' => r = .bool (decide (f = e)) ∧ T' = [Tok.blk b [.int .i64 e.A, .int .i64 e.B]] := by
  refine Tri.intro (hf := Try.func139) (hb := rfl) (hn := Try.ntmps139) (Nat.le_of_ble_eq_true rfl) ?_
  try refine go ⟨?_⟩
  refine WPL.eff (OpE.box rfl) rfl rfl ?_; rintro _ _ ⟨b2, rfl, rfl⟩
  try refine go ⟨?_⟩
  refine WPL.pure (Op1.eqE rfl rfl) rfl rfl ?_
  try refine go ⟨?_⟩
  refine PE.ret1 (T := [Tok.blk b [.int .i64 e.A, .int .i64 e.B]]) (T' := [Tok.blk b [.int .i64 e.A, .int .i64 e.B]]) rfl rV ?_ sT
  exact ⟨rfl, rfl⟩

theorem rem_eq (es : List E) (e : E) : (es.filter fun f => !decide (f = e)) = rem es e := by
  unfold rem; congr 1; funext f; simp

theorem c_cut (w : World) (n : Int) (vE : Value) (es : List E) (e : E) (hE : RL w vE es) (hl : es.length ≤ 1000) :
    Tri Try.prog 91 [.agg #[.int .i64 n, vE], ep e] w [] fun r T => ∃ v, r = .agg #[.int .i64 n, v] ∧ T = [Tok.own v (rem es e)] := by
  refine Tri.intro (hf := Try.func91) (hb := rfl) (hn := Try.ntmps91) (Nat.le_of_ble_eq_true rfl) ?_
  try refine go ⟨?_⟩
  refine WPL.eff (OpE.box rfl) rfl rfl ?_; rintro _ _ ⟨b2, rfl, rfl⟩
  try refine go ⟨?_⟩
  refine WPL.eff (OpE.box rfl) rfl rfl ?_; rintro _ _ ⟨b3, rfl, rfl⟩
  refine WPL.eff OpE.alloc rfl rfl ?_; rintro _ _ ⟨b4, rfl, rfl⟩
  try refine go ⟨?_⟩
  refine WPL.pure (Op1.mkFn (bnd := []) (caps := [ptrV b3]) lO lO) rfl rfl ?_
  refine WPL.eff (OpE.callT (T := [Tok.blk b3 [.int .i64 e.A, .int .i64 e.B]]) lO pM (fun w hw => c_without _ n vE (fV 139 [] [ptrV b3]) es [Tok.blk b3 [.int .i64 e.A, .int .i64 e.B]] (fun f => decide (f = e)) (Rd.at rD hw) (hw.neG sT hE) hl (Pred.mk [] [ptrV b3] (fun w _ x _ => c_cut1 w b3 e x)))) rfl rfl ?_
  rintro r _ ⟨T, ⟨v, rfl, rfl⟩, rfl⟩
  rw [rem_eq]
  try refine go ⟨?_⟩
  refine PE.ret1 (T := []) (T' := [Tok.own v (rem es e)]) rfl rV ?_ sT
  exact ⟨v, rfl, rfl⟩

end Go.Proofs.Ytfigegmgopnfhaa
/- Graphs: the walks of HasEdge, CutEdge, CutNode, isBridge, edgesBy, BridgesOf, safe parts, BridgesBetween. Conditions: those of each contract. -/
namespace Go.Proofs.Ytfigegmgopnfhaa
open Go
theorem RL.inb {α : Type} [Enc α] {w : World} {v : Value} {xs : List α} (h : RL w v xs) : ∀ b ∈ vfp v, b < w.heap.size := rdAt_inb h
theorem blk_fp {b c : Nat} {cs : List Value} : b ∈ (Tok.blk c cs).fp ↔ b = c := by show b ∈ [c] ↔ b = c; simp
theorem NE.filter {n : Int} {es : List E} (h : NE n es) (p : E → Bool) : NE n (es.filter p) := ⟨h.n1, h.n2, h.ok.sub fun e he => (List.mem_filter.1 he).1, Nat.le_trans (List.length_filter_le _ _) h.le⟩
theorem NE.rem {n : Int} {es : List E} (h : NE n es) (e : E) : NE n (rem es e) := h.filter _
theorem NE.bare {n : Int} {es : List E} (h : NE n es) : NE n (bare n es) := h.filter _
theorem NE.alone {n : Int} {es : List E} (h : NE n es) (k : Int) : NE n (alone es k) := h.filter _
theorem filter_nn (es : List E) (p : E → Bool) : (es.filter fun e => !!p e) = es.filter p := by congr 1; funext e; simp
def HE (n : Int) (es : List E) (e : E) : Prop := GV n es ∧ e ∈ es
instance (n : Int) (es : List E) (e : E) : Decidable (HE n es e) := by unfold HE; infer_instance
set_option linter.unusedVariables false set_option linter.unusedSimpArgs false attribute [local irreducible] Tok.own Tok.blk RL Rd eptr WP WPL PE WPD WPO Op1 OpE Tri Again Mid Exit.then Exit.inBlock bodyPost RP Code.wp wpList isOwn OneM One
attribute [local irreducible] Pred
set_option maxHeartbeats 8000000

theorem c_HasEdge (w : World) (n : Int) (vE : Value) (es : List E) (e : E) (hE : RL w vE es) (hl : es.length ≤ 1099511627776) :
    Tri Try.prog 41 [.agg #[.int .i64 n, vE], ep e] w [] fun r T => r = .bool (decide (HE n es e)) ∧ T = [] := by
  refine Tri.intro (hf := Try.func41) (hb := rfl) (hn := Try.ntmps41) (Nat.le_of_ble_eq_true rfl) ?_
  try refine go ⟨?_⟩
  refine WPL.eff (OpE.box rfl) rfl rfl ?_; rintro _ _ ⟨b, rfl, rfl⟩
  try refine go ⟨?_⟩
  refine WPL.eff (OpE.box rfl) rfl rfl ?_; rintro _ _ ⟨b2, rfl, rfl⟩
  try refine go ⟨?_⟩
  refine WPL.eff (OpE.call lO (fun w hw => c_GraphValid _ n vE es (Rd.at rD hw) hl)) rfl rfl ?_
  rintro r _ ⟨T, ⟨rfl, rfl⟩, rfl⟩
  repeat' (first | exact absurd rfl hc | refine go ⟨?_⟩ | (refine isCond ?_; refine WP.condD rfl (fun hc => ?_) (fun hc => ?_)) | (refine isGuard ?_; refine WPL.splitD rfl rfl (fun hc => ?_) (fun hc => ?_)))
  · refine WPL.eff (OpE.call lO (fun w hw => c_has _ n vE es e (Rd.at rD hw) hl)) rfl rfl ?_
    rintro r _ ⟨T, ⟨rfl, rfl⟩, rfl⟩
    repeat' (first | exact absurd rfl hc | refine go ⟨?_⟩ | (refine isCond ?_; refine WP.condD rfl (fun hc => ?_) (fun hc => ?_)) | (refine isGuard ?_; refine WPL.splitD rfl rfl (fun hc => ?_) (fun hc => ?_)))
    refine PE.ret1 (T := []) (T' := []) rfl rV ?_ sT
    refine ⟨?_, rfl⟩
    congr 1; rw [decide_eq_decide]
    exact ⟨fun h => ⟨hc, h⟩, fun h => h.2⟩
  · refine PE.ret1 (T := []) (T' := []) rfl rV ?_ sT
    refine ⟨?_, rfl⟩
    rw [decide_eq_false]; exact fun h => hc h.1

theorem c_CutEdge (w : World) (n : Int) (vE : Value) (es : List E) (e : E) (hE : RL w vE es) (hl : es.length ≤ 1099511627776) :
    Tri Try.prog 37 [.agg #[.int .i64 n, vE], ep e] w [] fun r T => (HE n es e ∧ yesG n (rem es e) r T) ∨ (¬ HE n es e ∧ noG r T) := by
  refine Tri.intro (hf := Try.func37) (hb := rfl) (hn := Try.ntmps37) (Nat.le_of_ble_eq_true rfl) ?_
  try refine go ⟨?_⟩
  refine WPL.eff (OpE.box rfl) rfl rfl ?_; rintro _ _ ⟨b, rfl, rfl⟩
  try refine go ⟨?_⟩
  refine WPL.eff (OpE.box rfl) rfl rfl ?_; rintro _ _ ⟨b2, rfl, rfl⟩
  refine WPL.eff OpE.alloc rfl rfl ?_; rintro _ _ ⟨b4, rfl, rfl⟩
  try refine go ⟨?_⟩
  refine WPL.eff (OpE.call lO (fun w hw => c_HasEdge _ n vE es e (Rd.at rD hw) hl)) rfl rfl ?_
  rintro r _ ⟨T, ⟨rfl, rfl⟩, rfl⟩
  repeat' (first | exact absurd rfl hc | refine go ⟨?_⟩ | (refine isCond ?_; refine WP.condD rfl (fun hc => ?_) (fun hc => ?_)) | (refine isGuard ?_; refine WPL.splitD rfl rfl (fun hc => ?_) (fun hc => ?_)))
  · refine PE.ret2 (T := []) (T' := []) rfl rV ?_ sT
    exact .inr ⟨hc, rfl, rfl⟩
  · have hg : HE n es e := Decidable.not_not.1 hc
    refine WPL.eff (OpE.call lO (fun w hw => c_cut _ n vE es e (Rd.at rD hw) hg.1.ne.le)) rfl rfl ?_
    rintro r _ ⟨T, ⟨v, rfl, rfl⟩, rfl⟩
    repeat' (first | exact absurd rfl hc | refine go ⟨?_⟩ | (refine isCond ?_; refine WP.condD rfl (fun hc => ?_) (fun hc => ?_)) | (refine isGuard ?_; refine WPL.splitD rfl rfl (fun hc => ?_) (fun hc => ?_)))
    refine PE.ret2 (T := []) (T' := [Tok.own v (rem es e)]) rfl rV ?_ sT
    exact .inl ⟨hg, v, rfl, rfl⟩

theorem c_isBridge (w : World) (n : Int) (vE : Value) (es : List E) (e : E) (hE : RL w vE es) (hg : NE n es) (hA : Nd n e.A) (hB : Nd n e.B) :
    Tri Try.prog 124 [.agg #[.int .i64 n, vE], ep e] w [] fun r T => r = .bool (brB n es e) ∧ T = [] := by
  refine Tri.intro (hf := Try.func124) (hb := rfl) (hn := Try.ntmps124) (Nat.le_of_ble_eq_true rfl) ?_
  try refine go ⟨?_⟩
  refine WPL.eff (OpE.box rfl) rfl rfl ?_; rintro _ _ ⟨b, rfl, rfl⟩
  try refine go ⟨?_⟩
  refine WPL.eff (OpE.box rfl) rfl rfl ?_; rintro _ _ ⟨b2, rfl, rfl⟩
  try refine go ⟨?_⟩
  refine WP.draw [Tok.blk b2 [.int .i64 e.A, .int .i64 e.B], Tok.blk b [.int .i64 n, vE]] mixed ?_
  refine WPD.take 0 rfl (by first | exact (Op1.load rfl mM (by rfl)) | exact (Op1.loadI rfl rD lT) | exact (Op1.loadAll rfl mM (by rfl)) | exact (Op1.loadE rfl rD lT (by rfl)) | exact (Op1.loadEAgg rfl rD lT (by rfl))) rfl rfl sT kR kR kR xQP ?_
  refine WPD.take 1 rfl (by first | exact (Op1.load rfl mM (by rfl)) | exact (Op1.loadI rfl rD lT) | exact (Op1.loadAll rfl mM (by rfl)) | exact (Op1.loadE rfl rD lT (by rfl)) | exact (Op1.loadEAgg rfl rD lT (by rfl))) rfl rfl sT kR kR kR xQP ?_
  refine WPD.take 3 rfl (by first | exact (Op1.fieldAddr rfl) | exact (Op1.fieldAddrE rfl rD lT)) rfl rfl sT kR kR kR xQP ?_
  refine WPD.take 5 rfl (by first | exact (Op1.fieldAddr rfl) | exact (Op1.fieldAddrE rfl rD lT)) rfl rfl sT kR kR kR xQP ?_
  refine WPD.take 4 rfl (by first | exact (Op1.load rfl mM (by rfl)) | exact (Op1.loadI rfl rD lT) | exact (Op1.loadAll rfl mM (by rfl)) | exact (Op1.loadE rfl rD lT (by rfl)) | exact (Op1.loadEAgg rfl rD lT (by rfl))) rfl rfl sT kR kR kR xQP ?_
  refine WPD.take 6 rfl (by first | exact (Op1.load rfl mM (by rfl)) | exact (Op1.loadI rfl rD lT) | exact (Op1.loadAll rfl mM (by rfl)) | exact (Op1.loadE rfl rD lT (by rfl)) | exact (Op1.loadEAgg rfl rD lT (by rfl))) rfl rfl sT kR kR kR xQP ?_
  refine WPD.eff 2 kR rfl (OpE.call lO (fun w hw => c_cut _ n vE es e (Rd.at rD hw) hg.le)) rfl rfl ?_
  rintro r _ ⟨T, ⟨v, rfl, rfl⟩, rfl⟩
  refine ⟨sT, ?_⟩
  refine WPD.eff 7 kR rfl (OpE.call lO (fun w hw => c_connected _ n v (rem es e) e.A e.B (Rd.at rD hw) (hg.rem e) hA hB)) rfl rfl ?_
  rintro r _ ⟨T, ⟨rfl, rfl⟩, rfl⟩
  refine ⟨sT, ?_⟩
  refine WPD.take 8 rfl (by first | exact (Op1.notD rfl) | exact (Op1.not rfl)) rfl rfl sT kR kR kR xQP ?_
  refine WPD.eff 9 kR rfl (OpE.ofPure (Op1.assign rfl)) rfl rfl ?_
  rintro _ _ ⟨rfl, rfl⟩
  refine ⟨sT, ?_⟩
  refine WPD.done kR ?_
  try refine go ⟨?_⟩
  refine PE.ret1 (T := []) (T' := []) rfl rV ?_ sT
  refine ⟨?_, rfl⟩
  unfold brB
  rw [decide_not]

theorem c_edgesBy1 (w : World) (b : Nat) (fv : Value) (T : List Tok) (p : E → Bool) (es : List E) (e : E) (he : e ∈ es) (hp : Pred Try.prog w (fps (Tok.blk b [fv] :: T)) fv T ep p es) :
    Tri Try.prog 150 [ep e, ptrV b] w (Tok.blk b [fv] :: T) fun r T' => r = .bool (!p e) ∧ T' = Tok.blk b [fv] :: T := by
  refine Tri.intro (hf := Try.func150) (hb := rfl) (hn := Try.ntmps150) (Nat.le_of_ble_eq_true rfl) ?_
  try refine go ⟨?_⟩
  refine WPL.eff (OpE.box rfl) rfl rfl ?_; rintro _ _ ⟨b2, rfl, rfl⟩
  try refine go ⟨?_⟩
  refine WPL.eff (OpE.callP (x := e) hp rfl rfl he rot2) rfl rfl ?_
  rintro _ _ ⟨rfl, rfl⟩
  refine WPL.perm rot2.symm ?_
  refine WPL.pure (Op1.not rfl) rfl rfl ?_
  try refine go ⟨?_⟩
  refine PE.ret1 (T := Tok.blk b [fv] :: T) (T' := Tok.blk b [fv] :: T) rfl rV ?_ (SubT.skip (SubT.refl _))
  exact ⟨rfl, rfl⟩

theorem c_edgesBy (w : World) (n : Int) (vE fv : Value) (es : List E) (T : List Tok) (p : E → Bool) (hE : RL w vE es) (hd : ∀ b ∈ vfp vE, b ∉ fps T) (hl : es.length ≤ 1000) (hp : Pred Try.prog w (fps T) fv T ep p es) :
    Tri Try.prog 123 [.agg #[.int .i64 n, vE], fv] w T fun r T' => T' = Tok.own r (es.filter p) :: T := by
  have hA : RdA ⟨9, w, fps T⟩ vE es := RdA.mk hE hd
  refine Tri.intro (hf := Try.func123) (hb := rfl) (hn := Try.ntmps123) (Nat.le_of_ble_eq_true rfl) ?_
  try refine goA ⟨?_⟩
  refine WPL.eff (OpE.box rfl) rfl rfl ?_; rintro _ _ ⟨b2, rfl, rfl⟩
  refine WPL.eff (OpE.boxI rfl hp.one) rfl rfl ?_
  rintro _ _ ⟨b3, rfl, rfl⟩
  try refine goA ⟨?_⟩
  refine WPL.pure (Op1.mkFn (bnd := []) (caps := [ptrV b3]) lO lO) rfl rfl ?_
  refine WPL.eff (OpE.callT (T := Tok.blk b3 [fv] :: T) lO (List.Perm.cons _ rot1) (fun w1 hw => c_without _ n vE (fV 150 [] [ptrV b3]) es (Tok.blk b3 [fv] :: T) (fun e => !p e) (Rd.at rDA hw) ?_ hl
    (Pred.mk [] [ptrV b3] fun w2 hw2 x hx => c_edgesBy1 w2 b3 fv T p es x hx ((hp.at hw (SubT.cons (SubT.skip (SubT.refl _)))).after hw2)))) rfl rfl ?_
  · intro b hb hm
    rw [fps_cons, List.mem_append] at hm
    rcases hm with hm | hm
    · have hbb : b = b3 := blk_fp.1 hm
      subst hbb
      have h1 : b < w.heap.size := hE.inb b hb
      rcases hw.base b (List.mem_flatMap.2 ⟨_, List.mem_cons_self, blk_fp.2 rfl⟩) with h2 | h2
      · exact hd b hb h2
      · have h2 : w.heap.size ≤ b := h2
        omega
    · exact hd b hb hm
  rintro r _ ⟨T', ⟨v, rfl, rfl⟩, rfl⟩
  rw [filter_nn]
  refine WPL.pure (Op1.fieldS 1 (by kernel_rfl) rfl rfl) rfl rfl ?_
  try refine goA ⟨?_⟩
  refine PE.ret1 (T := T) (T' := Tok.own v (es.filter p) :: T) rfl rV ?_ (SubT.cons (SubT.skip SubT.appL))
  rfl

theorem c_BridgesOf (w : World) (n : Int) (vE : Value) (es : List E) (hE : RL w vE es) (hl : es.length ≤ 1099511627776) :
    Tri Try.prog 70 [.agg #[.int .i64 n, vE]] w [] fun r T => (GV n es ∧ T = [Tok.own r (brs n es)]) ∨ (¬ GV n es ∧ r = .slice none 0 0 ∧ T = []) := by
  refine Tri.intro (hf := Try.func70) (hb := rfl) (hn := Try.ntmps70) (Nat.le_of_ble_eq_true rfl) ?_
  try refine go ⟨?_⟩
  refine WPL.eff (OpE.box rfl) rfl rfl ?_; rintro _ _ ⟨b, rfl, rfl⟩
  try refine go ⟨?_⟩
  refine WPL.eff (OpE.call lO (fun w hw => c_GraphValid _ n vE es (Rd.at rD hw) hl)) rfl rfl ?_
  rintro r _ ⟨T, ⟨rfl, rfl⟩, rfl⟩
  repeat' (first | exact absurd rfl hc | refine go ⟨?_⟩ | (refine isCond ?_; refine WP.condD rfl (fun hc => ?_) (fun hc => ?_)) | (refine isGuard ?_; refine WPL.splitD rfl rfl (fun hc => ?_) (fun hc => ?_)))
  · refine PE.ret1 (T := []) (T' := []) rfl rV ?_ sT
    exact .inr ⟨hc, rfl, rfl⟩
  · have hg : GV n es := Decidable.not_not.1 hc
    refine WPL.pure (Op1.mkFn (bnd := [.agg #[.int .i64 n, vE]]) (caps := []) lO lO) rfl rfl ?_
    refine WPL.eff (OpE.callT (T := []) lO pM (fun w hw => c_edgesBy _ n vE (fV 124 [.agg #[.int .i64 n, vE]] []) es [] (brB n es) (Rd.at rD hw) (fun _ _ h => by cases h) hg.ne.le (Pred.mk [.agg #[.int .i64 n, vE]] [] (fun w2 hw2 x hx => c_isBridge w2 n vE es x (hw2.rl (Rd.at rD hw) (fun _ _ h => by cases h)) hg.ne (hg.nd hx).1 (hg.nd hx).2)))) rfl rfl ?_
    rintro r _ ⟨T, rfl, rfl⟩
    repeat' (first | exact absurd rfl hc | refine go ⟨?_⟩ | (refine isCond ?_; refine WP.condD rfl (fun hc => ?_) (fun hc => ?_)) | (refine isGuard ?_; refine WPL.splitD rfl rfl (fun hc => ?_) (fun hc => ?_)))
    refine PE.ret1 (T := []) (T' := [Tok.own r (brs n es)]) rfl rV ?_ sT
    exact .inl ⟨hg, rfl⟩

end Go.Proofs.Ytfigegmgopnfhaa
/- Graphs: the walks of BridgesBetween, CutNodesBetween, the safe parts, the parts, LostBy. Conditions: those of each contract. -/
namespace Go.Proofs.Ytfigegmgopnfhaa
open Go
def nilE : Value := .slice none 0 0
def STg (n : Int) (es : List E) (x y : Int) : Prop := GV n es ∧ Nd n x ∧ Nd n y ∧ cn n (bare n es) x y
instance (n : Int) (es : List E) (x y : Int) : Decidable (STg n es x y) := by unfold STg; infer_instance
/-- A slice of new memory, and true. -/
def yesS {α : Type} [Enc α] (xs : List α) (r : Value) (T : List Tok) : Prop := ∃ v, r = .tuple #[v, .bool true] ∧ T = [Tok.own v xs]
def noS (r : Value) (T : List Tok) : Prop := r = .tuple #[.slice none 0 0, .bool false] ∧ T = []
/-- The bridges of a graph that are no bridges of another one. -/
def bonly (n : Int) (es : List E) (m : Int) (fs : List E) : List E := es.filter fun e => brB n es e && !(decide (e ∈ fs) && brB m fs e)
def lostL (n : Int) (es : List E) (e : E) : List E := bonly n es n (insE es e)
theorem nd_mem {b c : Nat} {cs : List Value} {T : List Tok} (h : b ∈ fps (Tok.blk c cs :: T)) : b = c ∨ b ∈ fps T := by
  rw [fps_cons, List.mem_append] at h
  exact h.imp blk_fp.1 id
set_option linter.unusedVariables false set_option linter.unusedSimpArgs false attribute [local irreducible] Tok.own Tok.blk RL Rd eptr WP WPL PE WPD WPO Op1 OpE Tri Again Mid Exit.then Exit.inBlock bodyPost RP Code.wp wpList isOwn OneM One
attribute [local irreducible] Pred
set_option maxHeartbeats 8000000

theorem c_PartsOf (w : World) (n : Int) (vE : Value) (es : List E) (hE : RL w vE es) (hl : es.length ≤ 1099511627776) :
    Tri Try.prog 122 [.agg #[.int .i64 n, vE]] w [] fun r T => (GV n es ∧ T = [Tok.own r (labs n es)]) ∨ (¬ GV n es ∧ r = .slice none 0 0 ∧ T = []) := by
  refine Tri.intro (hf := Try.func122) (hb := rfl) (hn := Try.ntmps122) (Nat.le_of_ble_eq_true rfl) ?_
  try refine go ⟨?_⟩
  refine WPL.eff (OpE.box rfl) rfl rfl ?_; rintro _ _ ⟨b, rfl, rfl⟩
  try refine go ⟨?_⟩
  refine WPL.eff (OpE.call lO (fun w hw => c_GraphValid _ n vE es (Rd.at rD hw) hl)) rfl rfl ?_
  rintro r _ ⟨T, ⟨rfl, rfl⟩, rfl⟩
  repeat' (first | exact absurd rfl hc | refine go ⟨?_⟩ | (refine isCond ?_; refine WP.condD rfl (fun hc => ?_) (fun hc => ?_)) | (refine isGuard ?_; refine WPL.splitD rfl rfl (fun hc => ?_) (fun hc => ?_)))
  · refine PE.ret1 (T := []) (T' := []) rfl rV ?_ sT
    exact .inr ⟨hc, rfl, rfl⟩
  · have hg : GV n es := Decidable.not_not.1 hc
    refine WPL.eff (OpE.call lO (fun w hw => c_parts _ n vE es (Rd.at rD hw) hg.ne)) rfl rfl ?_
    rintro r _ ⟨T, rfl, rfl⟩
    repeat' (first | exact absurd rfl hc | refine go ⟨?_⟩ | (refine isCond ?_; refine WP.condD rfl (fun hc => ?_) (fun hc => ?_)) | (refine isGuard ?_; refine WPL.splitD rfl rfl (fun hc => ?_) (fun hc => ?_)))
    refine PE.ret1 (T := []) (T' := [Tok.own r (labs n es)]) rfl rV ?_ sT
    exact .inl ⟨hg, rfl⟩

theorem c_PartNodes (w : World) (n : Int) (vE : Value) (es : List E) (x : Int) (hE : RL w vE es) (hl : es.length ≤ 1099511627776) :
    Tri Try.prog 69 [.agg #[.int .i64 n, vE], .int .i64 x] w [] fun r T => (GN n es x ∧ T = [Tok.own r (pns n es x)]) ∨ (¬ GN n es x ∧ r = .slice none 0 0 ∧ T = []) := by
  refine Tri.intro (hf := Try.func69) (hb := rfl) (hn := Try.ntmps69) (Nat.le_of_ble_eq_true rfl) ?_
  try refine go ⟨?_⟩
  refine WPL.eff (OpE.box rfl) rfl rfl ?_; rintro _ _ ⟨b, rfl, rfl⟩
  try refine go ⟨?_⟩
  refine WPL.eff (OpE.call lO (fun w hw => c_hasNodeG _ n vE es x (Rd.at rD hw) hl)) rfl rfl ?_
  rintro r _ ⟨T, ⟨rfl, rfl⟩, rfl⟩
  repeat' (first | exact absurd rfl hc | refine go ⟨?_⟩ | (refine isCond ?_; refine WP.condD rfl (fun hc => ?_) (fun hc => ?_)) | (refine isGuard ?_; refine WPL.splitD rfl rfl (fun hc => ?_) (fun hc => ?_)))
  · refine PE.ret1 (T := []) (T' := []) rfl rV ?_ sT
    exact .inr ⟨hc, rfl, rfl⟩
  have hg : GN n es x := Decidable.not_not.1 hc
  have hx1 := hg.2.1
  have hx2 := hg.2.2
  have hn1 := hg.1.ne.n1
  have hn2 := hg.1.ne.n2
  have hll := labs_length n es
  refine WPL.eff (OpE.buildSlice ([] : List Int) pA rfl (by decide)) rfl rfl ?_; rintro s _ rfl
  try refine go ⟨?_⟩
  refine WPL.eff (OpE.call lO (fun w hw => c_parts _ n vE es (Rd.at rD hw) hg.1.ne)) rfl rfl ?_
  rintro r _ ⟨T, rfl, rfl⟩
  try refine go ⟨?_⟩
  refine WP.loop (σ := Nat × Value) (fun k => [(1, .int .i64 x), (2, ptrV b), (5, k.2), (6, r), (16, .int .i64 n), (17, .int .i64 k.1)]) (fun k => [Tok.own k.2 ((iota k.1).filter fun j => decide (lab n es j = lab n es x)), Tok.own r (labs n es), Tok.blk b [.int .i64 n, vE]]) (fun k => k.1 ≤ n.toNat) (fun k => n.toNat - k.1) (0, s) (Nat.zero_le _) sE sT ?_
  rintro ⟨k, v⟩ hk
  dsimp only at hk ⊢
  try refine go ⟨?_⟩
  refine WP.condD rfl (fun hc => ?_) (fun hc => ?_)
  · have hil : ((iota k).filter fun j => decide (lab n es j = lab n es x)).length ≤ k := by have := List.length_filter_le (fun j => decide (lab n es j = lab n es x)) (iota k); rw [iota_length] at this; exact this
    have hlk : lab n es (k : Int) = (labs n es).getD k 0 := rfl
    try refine go ⟨?_⟩
    refine WP.draw [Tok.own r (labs n es)] mixed ?_
    refine WPD.take 0 rfl (Op1.move rfl) rfl rfl sT kR kR kR xQP ?_
    refine WPD.take 1 rfl (Op1.move rfl) rfl rfl sT kR kR kR xQP ?_
    refine WPD.take 4 rfl (Op1.move rfl) rfl rfl sT kR kR kR xQP ?_
    refine WPD.take 5 rfl (Op1.move rfl) rfl rfl sT kR kR kR xQP ?_
    refine WPD.take 2 rfl (by first | exact (Op1.indexAddr rfl rfl rD lT) | exact (Op1.indexAddrZ rfl rfl rD lT)) rfl rfl sT kR kR kR xQP ?_
    refine WPD.take 6 rfl (by first | exact (Op1.indexAddr rfl rfl rD lT) | exact (Op1.indexAddrZ rfl rfl rD lT)) rfl rfl sT kR kR kR xQP ?_
    refine WPD.take 3 rfl (by first | exact (Op1.load rfl mM (by rfl)) | exact (Op1.loadI rfl rD lT) | exact (Op1.loadAll rfl mM (by rfl)) | exact (Op1.loadE rfl rD lT (by rfl)) | exact (Op1.loadEAgg rfl rD lT (by rfl))) rfl rfl sT kR kR kR xQP ?_
    refine WPD.take 7 rfl (by first | exact (Op1.load rfl mM (by rfl)) | exact (Op1.loadI rfl rD lT) | exact (Op1.loadAll rfl mM (by rfl)) | exact (Op1.loadE rfl rD lT (by rfl)) | exact (Op1.loadEAgg rfl rD lT (by rfl))) rfl rfl sT kR kR kR xQP ?_
    refine WPD.take 8 rfl (by first | exact (Op1.eqI rfl rfl) | exact (Op1.eqB rfl rfl) | exact (Op1.eqE rfl rfl) | exact (Op1.eqNil rfl rD)) rfl rfl sT kR kR kR xQP ?_
    refine WPD.done kR ?_
    try refine go ⟨?_⟩
    refine WP.condD rfl (fun heq => ?_) (fun heq => ?_)
    · try refine go ⟨?_⟩
      refine WPL.eff (OpE.buildSlice [(k : Int)] pA rfl (by decide)) rfl rfl ?_; rintro s1 _ rfl
      try refine go ⟨?_⟩
      refine WPL.eff (OpE.append rfl rfl pM rD lN) rfl rfl ?_; rintro v1 _ rfl
      try refine go ⟨?_⟩
      have e1 : (iota (k + 1)).filter (fun j => decide (lab n es j = lab n es x)) = (iota k).filter (fun j => decide (lab n es j = lab n es x)) ++ [(k : Int)] := by
        rw [iota_succ, List.filter_append]
        have : decide (lab n es (k : Int) = lab n es x) = true := decide_eq_true heq
        simp only [List.filter_cons, this, if_true, List.filter_nil]
      rw [← e1]
      refine PE.again (k + 1, v1) ?_ ?_ sE sT
      · dsimp only; omega
      · dsimp only; omega
    · try refine go ⟨?_⟩
      have e1 : (iota (k + 1)).filter (fun j => decide (lab n es j = lab n es x)) = (iota k).filter (fun j => decide (lab n es j = lab n es x)) := by
        rw [iota_succ, List.filter_append]
        have : decide (lab n es (k : Int) = lab n es x) = false := decide_eq_false heq
        simp only [List.filter_cons, this, Bool.false_eq_true, if_false, List.filter_nil, List.append_nil]
      rw [← e1]
      refine PE.again (k + 1, v) ?_ ?_ sE sT
      · dsimp only; omega
      · dsimp only; omega
  · have hkn : k = n.toNat := by omega
    subst hkn
    try refine go ⟨?_⟩
    refine PE.ret1 (T := []) (T' := [Tok.own v (pns n es x)]) rfl rV ?_ sT
    exact .inl ⟨hg, rfl⟩

/-- The number of parts of a valid graph, or 0. -/
def pcV (n : Int) (es : List E) : Int := if GV n es then pcnt n es else 0
theorem c_PartCount (w : World) (n : Int) (vE : Value) (es : List E) (hE : RL w vE es) (hl : es.length ≤ 1099511627776) :
    Tri Try.prog 65 [.agg #[.int .i64 n, vE]] w [] fun r T => r = .int .i64 (pcV n es) ∧ T = [] := by
  refine Tri.intro (hf := Try.func65) (hb := rfl) (hn := Try.ntmps65) (Nat.le_of_ble_eq_true rfl) ?_
  try refine go ⟨?_⟩
  refine WPL.eff (OpE.box rfl) rfl rfl ?_; rintro _ _ ⟨b, rfl, rfl⟩
  try refine go ⟨?_⟩
  refine WPL.eff (OpE.call lO (fun w hw => c_PartsOf _ n vE es (Rd.at rD hw) hl)) rfl rfl ?_
  rintro r _ ⟨T, hr, rfl⟩
  rcases hr with ⟨hg, rfl⟩ | ⟨hg, rfl, rfl⟩
  · have hn1 := hg.ne.n1
    have hn2 := hg.ne.n2
    have hll := labs_length n es
    try refine go ⟨?_⟩
    refine WP.loop (σ := Nat) (fun k => [(3, .int .i64 (((iota k).filter fun j => decide (lab n es j = j)).length : Nat)), (7, r), (8, .int .i64 (labs n es).length), (9, .int .i64 k)]) (fun _ => [Tok.own r (labs n es)]) (fun k => k ≤ n.toNat) (fun k => n.toNat - k) 0 (Nat.zero_le _) sE sT ?_
    intro k hk
    try refine go ⟨?_⟩
    refine WP.condD rfl (fun hc => ?_) (fun hc => ?_)
    · have hil : ((iota k).filter fun j => decide (lab n es j = j)).length ≤ k := by have := List.length_filter_le (fun j => decide (lab n es j = j)) (iota k); rw [iota_length] at this; exact this
      repeat' (first | exact absurd rfl hc | refine go ⟨?_⟩ | (refine isCond ?_; refine WP.condD rfl (fun hc => ?_) (fun hc => ?_)) | (refine isGuard ?_; refine WPL.splitD rfl rfl (fun hc => ?_) (fun hc => ?_)))
      · rename_i h1
        have e1 : ((((iota k).filter fun j => decide (lab n es j = j)).length : Nat) : Int) + 1 = ((((iota (k + 1)).filter fun j => decide (lab n es j = j)).length : Nat) : Int) := by
          rw [iota_succ, List.filter_append]
          have : decide (lab n es (k : Int) = (k : Int)) = true := decide_eq_true (Eq.symm hc)
          simp only [List.filter_cons, this, if_true, List.filter_nil, List.length_append, List.length_singleton]; omega
        rw [e1]
        refine PE.again (k + 1) ?_ ?_ sE sT
        · omega
        · omega
      · have e1 : ((((iota k).filter fun j => decide (lab n es j = j)).length : Nat) : Int) = ((((iota (k + 1)).filter fun j => decide (lab n es j = j)).length : Nat) : Int) := by
          rw [iota_succ, List.filter_append]
          have : decide (lab n es (k : Int) = (k : Int)) = false := decide_eq_false fun h => hc (Eq.symm h)
          simp only [List.filter_cons, this, Bool.false_eq_true, if_false, List.filter_nil, List.append_nil]
        rw [e1]
        refine PE.again (k + 1) ?_ ?_ sE sT
        · omega
        · omega
    · have hkn : k = n.toNat := by omega
      subst hkn
      try refine go ⟨?_⟩
      refine PE.ret1 (T := []) (T' := []) rfl rV ?_ sT
      exact ⟨by unfold pcV; rw [if_pos hg]; rfl, rfl⟩
  · try refine go ⟨?_⟩
    refine WP.loop (σ := Unit) (fun _ => [(3, .int .i64 0), (7, .slice none 0 0), (8, .int .i64 0), (9, .int .i64 0)]) (fun _ => []) (fun _ => True) (fun _ => 0) () trivial sE sT ?_
    rintro ⟨⟩ _
    try refine go ⟨?_⟩
    refine PE.ret1 (T := []) (T' := []) rfl rV ?_ sT
    exact ⟨by unfold pcV; rw [if_neg hg], rfl⟩
end Go.Proofs.Ytfigegmgopnfhaa
