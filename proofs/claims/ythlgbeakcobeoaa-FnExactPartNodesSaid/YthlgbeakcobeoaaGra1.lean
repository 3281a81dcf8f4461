/- Graphs: the walk of GraphValid. Conditions: those of the contract. -/
import Derived.Test.YthlgbeakcobeoaaGra0
namespace Go.Proofs.Ythlgbeakcobeoaa
open Go
set_option linter.unusedVariables false set_option linter.unusedSimpArgs false attribute [local irreducible] Tok.own Tok.blk RL Rd eptr WP WPL PE WPD WPO Op1 OpE Tri Again Mid Exit.then Exit.inBlock bodyPost RP Code.wp wpList isOwn OneM One
set_option maxHeartbeats 8000000

def okG (n : Int) (es : List E) (i : Nat) : Prop := 0 ≤ (es.getD i eD).A ∧ (es.getD i eD).A < (es.getD i eD).B ∧ (es.getD i eD).B < n ∧ (0 < i → ltE (es.getD (i - 1) eD) (es.getD i eD))
instance (n : Int) (es : List E) (i : Nat) : Decidable (okG n es i) := by unfold okG; infer_instance
def GV (n : Int) (es : List E) : Prop := 1 ≤ n ∧ n ≤ 16 ∧ es.length ≤ 40 ∧ ∀ i, i < es.length → okG n es i
instance (n : Int) (es : List E) : Decidable (GV n es) := by unfold GV; infer_instance

theorem c_GraphValid (w : World) (n : Int) (vE : Value) (es : List E) (hE : RL w vE es) (hl : es.length ≤ 1099511627776) :
    Tri Try.prog 108 [.agg #[.int .i64 n, vE]] w [] fun r T => r = .bool (decide (GV n es)) ∧ T = [] := by
  have bad : ¬ GV n es → Value.bool false = .bool (decide (GV n es)) := fun h => by rw [decide_eq_false h]
  refine Tri.intro (hf := Try.func108) (hb := rfl) (hn := Try.ntmps108) (Nat.le_of_ble_eq_true rfl) ?_
  try refine go ⟨?_⟩
  refine WPL.eff (OpE.box rfl) rfl rfl ?_; rintro _ _ ⟨b, rfl, rfl⟩
  repeat' (first | refine go ⟨?_⟩ | (refine isCond ?_; refine WP.condD rfl (fun hc => ?_) (fun hc => ?_)) | (refine isGuard ?_; refine WPL.splitD rfl rfl (fun hc => ?_) (fun hc => ?_)))
  · refine PE.ret1 (T := []) (T' := []) rfl rV ?_ sT
    exact ⟨bad fun h => by have := h.1; omega, rfl⟩
  · refine PE.ret1 (T := []) (T' := []) rfl rV ?_ sT
    exact ⟨bad fun h => by have := h.2.1; omega, rfl⟩
  · refine PE.ret1 (T := []) (T' := []) rfl rV ?_ sT
    exact ⟨bad fun h => by have := h.2.2.1; omega, rfl⟩
  refine WP.loop (σ := Nat) (fun k => [(1, .pointer (some ⟨b, 0, none⟩)), (20, vE), (21, .int .i64 es.length), (22, .int .i64 k)]) (fun _ => [Tok.blk b [.int .i64 n, vE]]) (fun k => k ≤ es.length ∧ ∀ i, i < k → okG n es i) (fun k => es.length - k) 0 ⟨Nat.zero_le _, by omega⟩ sE sT ?_
  rintro k ⟨hk, hm⟩
  try refine go ⟨?_⟩
  refine WP.condD rfl (fun hk' => ?_) (fun hk' => ?_)
  · try refine go ⟨?_⟩
    refine WPL.eff OpE.alloc rfl rfl ?_; rintro _ _ ⟨be, rfl, rfl⟩
    try refine go ⟨?_⟩
    have bad' : ¬ okG n es k → Value.bool false = .bool (decide (GV n es)) := fun h => bad fun h' => h (h'.2.2.2 k (by omega))
    have ek : ((k : Int) - 1).toNat = k - 1 := by omega
    refine WP.draw [Tok.blk b [.int .i64 n, vE], Tok.blk be [.int .i64 (es.getD k eD).A, .int .i64 (es.getD k eD).B]] mixed ?_
    refine WPD.take 0 rfl (by first | exact (Op1.fieldAddr rfl) | exact (Op1.fieldAddrE rfl rD lT)) rfl rfl sT kR kR kR xQP ?_
    refine WPD.take 1 rfl (by first | exact (Op1.load rfl mM (by rfl)) | exact (Op1.loadI rfl rD lT) | exact (Op1.loadAll rfl mM (by rfl)) | exact (Op1.loadE rfl rD lT (by rfl)) | exact (Op1.loadEAgg rfl rD lT (by rfl))) rfl rfl sT kR kR kR xQP ?_
    refine WPD.take 2 rfl (Op1.ltI rfl rfl) rfl rfl sT kR kR kR xQP ?_
    refine WPD.take 3 rfl (Op1.move rfl) rfl rfl sT kR kR kR xQP ?_
    first | refine WPD.splitD 30 rfl (fun h30 => ?t1) (fun h30 => ?f1) | refine WPD.split 30 rfl (fun h30 => ?t1) (fun h30 => ?f1)
    case' t1 =>
      refine WPD.skip 4 rfl rfl rfl sT kR kR kR xQP ?_
      refine WPD.skip 6 rfl rfl rfl sT kR kR kR xQP ?_
      refine WPD.skip 5 rfl rfl rfl sT kR kR kR xQP ?_
      refine WPD.skip 7 rfl rfl rfl sT kR kR kR xQP ?_
      refine WPD.skip 8 rfl rfl rfl sT kR kR kR xQP ?_
      refine WPD.take 9 rfl (by first | exact (Op1.pickT rfl rfl) | exact (Op1.pickF rfl rfl)) rfl rfl sT kR kR kR xQP ?_
      refine WPD.take 10 rfl (Op1.move rfl) rfl rfl sT kR kR kR xQP ?_
      refine WPD.skip 11 rfl rfl rfl sT kR kR kR xQP ?_
      refine WPD.skip 13 rfl rfl rfl sT kR kR kR xQP ?_
      refine WPD.skip 12 rfl rfl rfl sT kR kR kR xQP ?_
      refine WPD.skip 14 rfl rfl rfl sT kR kR kR xQP ?_
      refine WPD.skip 15 rfl rfl rfl sT kR kR kR xQP ?_
      refine WPD.take 16 rfl (by first | exact (Op1.pickT rfl rfl) | exact (Op1.pickF rfl rfl)) rfl rfl sT kR kR kR xQP ?_
      refine WPD.take 17 rfl (Op1.move rfl) rfl rfl sT kR kR kR xQP ?_
      refine WPD.skip 18 rfl rfl rfl sT kR kR kR xQP ?_
      refine WPD.skip 19 rfl rfl rfl sT kR kR kR xQP ?_
      refine WPD.skip 20 rfl rfl rfl sT kR kR kR xQP ?_
      refine WPD.skip 21 rfl rfl rfl sT kR kR kR xQP ?_
      refine WPD.skip 23 rfl rfl rfl sT kR kR kR xQP ?_
      refine WPD.skip 27 rfl rfl rfl sT kR kR kR xQP ?_
      refine WPD.skip 22 rfl rfl rfl sT kR kR kR xQP ?_
      refine WPD.skip 24 rfl rfl rfl sT kR kR kR xQP ?_
      refine WPD.skip 25 rfl rfl rfl sT kR kR kR xQP ?_
      refine WPD.skip 26 rfl rfl rfl sT kR kR kR xQP ?_
      refine WPD.skip 28 rfl rfl rfl sT kR kR kR xQP ?_
      refine WPD.skip 29 rfl rfl rfl sT kR kR kR xQP ?_
      refine WPD.skip 30 rfl rfl rfl sT kR kR kR xQP ?_
      refine WPD.take 31 rfl (by first | exact (Op1.pickT rfl rfl) | exact (Op1.pickF rfl rfl)) rfl rfl sT kR kR kR xQP ?_
      refine WPD.done kR ?_
    case' f1 =>
      refine WPD.take 4 rfl (by first | exact (Op1.fieldAddr rfl) | exact (Op1.fieldAddrE rfl rD lT)) rfl rfl sT kR kR kR xQP ?_
      refine WPD.take 6 rfl (by first | exact (Op1.fieldAddr rfl) | exact (Op1.fieldAddrE rfl rD lT)) rfl rfl sT kR kR kR xQP ?_
      refine WPD.take 5 rfl (by first | exact (Op1.load rfl mM (by rfl)) | exact (Op1.loadI rfl rD lT) | exact (Op1.loadAll rfl mM (by rfl)) | exact (Op1.loadE rfl rD lT (by rfl)) | exact (Op1.loadEAgg rfl rD lT (by rfl))) rfl rfl sT kR kR kR xQP ?_
      refine WPD.take 7 rfl (by first | exact (Op1.load rfl mM (by rfl)) | exact (Op1.loadI rfl rD lT) | exact (Op1.loadAll rfl mM (by rfl)) | exact (Op1.loadE rfl rD lT (by rfl)) | exact (Op1.loadEAgg rfl rD lT (by rfl))) rfl rfl sT kR kR kR xQP ?_
      refine WPD.take 8 rfl (Op1.geI rfl rfl) rfl rfl sT kR kR kR xQP ?_
      refine WPD.take 9 rfl (by first | exact (Op1.pickT rfl rfl) | exact (Op1.pickF rfl rfl)) rfl rfl sT kR kR kR xQP ?_
      refine WPD.take 10 rfl (Op1.move rfl) rfl rfl sT kR kR kR xQP ?_
      first | refine WPD.splitD 37 rfl (fun h37 => ?t2) (fun h37 => ?f2) | refine WPD.split 37 rfl (fun h37 => ?t2) (fun h37 => ?f2)
      case' t2 =>
        refine WPD.skip 11 rfl rfl rfl sT kR kR kR xQP ?_
        refine WPD.skip 13 rfl rfl rfl sT kR kR kR xQP ?_
        refine WPD.skip 12 rfl rfl rfl sT kR kR kR xQP ?_
        refine WPD.skip 14 rfl rfl rfl sT kR kR kR xQP ?_
        refine WPD.skip 15 rfl rfl rfl sT kR kR kR xQP ?_
        refine WPD.take 16 rfl (by first | exact (Op1.pickT rfl rfl) | exact (Op1.pickF rfl rfl)) rfl rfl sT kR kR kR xQP ?_
        refine WPD.take 17 rfl (Op1.move rfl) rfl rfl sT kR kR kR xQP ?_
        refine WPD.skip 18 rfl rfl rfl sT kR kR kR xQP ?_
        refine WPD.skip 19 rfl rfl rfl sT kR kR kR xQP ?_
        refine WPD.skip 20 rfl rfl rfl sT kR kR kR xQP ?_
        refine WPD.skip 21 rfl rfl rfl sT kR kR kR xQP ?_
        refine WPD.skip 23 rfl rfl rfl sT kR kR kR xQP ?_
        refine WPD.skip 27 rfl rfl rfl sT kR kR kR xQP ?_
        refine WPD.skip 22 rfl rfl rfl sT kR kR kR xQP ?_
        refine WPD.skip 24 rfl rfl rfl sT kR kR kR xQP ?_
        refine WPD.skip 25 rfl rfl rfl sT kR kR kR xQP ?_
        refine WPD.skip 26 rfl rfl rfl sT kR kR kR xQP ?_
        refine WPD.skip 28 rfl rfl rfl sT kR kR kR xQP ?_
        refine WPD.skip 29 rfl rfl rfl sT kR kR kR xQP ?_
        refine WPD.skip 30 rfl rfl rfl sT kR kR kR xQP ?_
        refine WPD.take 31 rfl (by first | exact (Op1.pickT rfl rfl) | exact (Op1.pickF rfl rfl)) rfl rfl sT kR kR kR xQP ?_
        refine WPD.done kR ?_
      case' f2 =>
        refine WPD.take 11 rfl (by first | exact (Op1.fieldAddr rfl) | exact (Op1.fieldAddrE rfl rD lT)) rfl rfl sT kR kR kR xQP ?_
        refine WPD.take 13 rfl (by first | exact (Op1.fieldAddr rfl) | exact (Op1.fieldAddrE rfl rD lT)) rfl rfl sT kR kR kR xQP ?_
        refine WPD.take 12 rfl (by first | exact (Op1.load rfl mM (by rfl)) | exact (Op1.loadI rfl rD lT) | exact (Op1.loadAll rfl mM (by rfl)) | exact (Op1.loadE rfl rD lT (by rfl)) | exact (Op1.loadEAgg rfl rD lT (by rfl))) rfl rfl sT kR kR kR xQP ?_
        refine WPD.take 14 rfl (by first | exact (Op1.load rfl mM (by rfl)) | exact (Op1.loadI rfl rD lT) | exact (Op1.loadAll rfl mM (by rfl)) | exact (Op1.loadE rfl rD lT (by rfl)) | exact (Op1.loadEAgg rfl rD lT (by rfl))) rfl rfl sT kR kR kR xQP ?_
        refine WPD.take 15 rfl (Op1.geI rfl rfl) rfl rfl sT kR kR kR xQP ?_
        refine WPD.take 16 rfl (by first | exact (Op1.pickT rfl rfl) | exact (Op1.pickF rfl rfl)) rfl rfl sT kR kR kR xQP ?_
        refine WPD.take 17 rfl (Op1.move rfl) rfl rfl sT kR kR kR xQP ?_
        first | refine WPD.splitD 44 rfl (fun h44 => ?t3) (fun h44 => ?f3) | refine WPD.split 44 rfl (fun h44 => ?t3) (fun h44 => ?f3)
        case' t3 =>
          refine WPD.skip 18 rfl rfl rfl sT kR kR kR xQP ?_
          refine WPD.skip 19 rfl rfl rfl sT kR kR kR xQP ?_
          refine WPD.skip 20 rfl rfl rfl sT kR kR kR xQP ?_
          refine WPD.skip 21 rfl rfl rfl sT kR kR kR xQP ?_
          refine WPD.skip 23 rfl rfl rfl sT kR kR kR xQP ?_
          refine WPD.skip 27 rfl rfl rfl sT kR kR kR xQP ?_
          refine WPD.skip 22 rfl rfl rfl sT kR kR kR xQP ?_
          refine WPD.skip 24 rfl rfl rfl sT kR kR kR xQP ?_
          refine WPD.skip 25 rfl rfl rfl sT kR kR kR xQP ?_
          refine WPD.skip 26 rfl rfl rfl sT kR kR kR xQP ?_
          refine WPD.skip 28 rfl rfl rfl sT kR kR kR xQP ?_
          refine WPD.skip 29 rfl rfl rfl sT kR kR kR xQP ?_
          refine WPD.skip 30 rfl rfl rfl sT kR kR kR xQP ?_
          refine WPD.take 31 rfl (by first | exact (Op1.pickT rfl rfl) | exact (Op1.pickF rfl rfl)) rfl rfl sT kR kR kR xQP ?_
          refine WPD.done kR ?_
        case' f3 =>
          refine WPD.take 18 rfl (Op1.move rfl) rfl rfl sT kR kR kR xQP ?_
          refine WPD.take 19 rfl (Op1.gtI rfl rfl) rfl rfl sT kR kR kR xQP ?_
          refine WPD.take 20 rfl (Op1.move rfl) rfl rfl sT kR kR kR xQP ?_
          first | refine WPD.splitD 47 rfl (fun h47 => ?t4) (fun h47 => ?f4) | refine WPD.split 47 rfl (fun h47 => ?t4) (fun h47 => ?f4)
          case' t4 =>
            refine WPD.take 21 rfl (by first | exact (Op1.fieldAddr rfl) | exact (Op1.fieldAddrE rfl rD lT)) rfl rfl sT kR kR kR xQP ?_
            refine WPD.take 23 rfl (Op1.move rfl) rfl rfl sT kR kR kR xQP ?_
            refine WPD.take 27 rfl (by first | exact (Op1.load rfl mM (by rfl)) | exact (Op1.loadI rfl rD lT) | exact (Op1.loadAll rfl mM (by rfl)) | exact (Op1.loadE rfl rD lT (by rfl)) | exact (Op1.loadEAgg rfl rD lT (by rfl))) rfl rfl sT kR kR kR xQP ?_
            refine WPD.take 22 rfl (by first | exact (Op1.load rfl mM (by rfl)) | exact (Op1.loadI rfl rD lT) | exact (Op1.loadAll rfl mM (by rfl)) | exact (Op1.loadE rfl rD lT (by rfl)) | exact (Op1.loadEAgg rfl rD lT (by rfl))) rfl rfl sT kR kR kR xQP ?_
            refine WPD.take 24 rfl (Op1.sub rfl rfl (by omega)) rfl rfl sT kR kR kR xQP ?_
            refine WPD.take 25 rfl (by first | exact (Op1.indexAddr rfl rfl rD lT) | exact (Op1.indexAddrZ rfl rfl rD lT)) rfl rfl sT kR kR kR xQP ?_
            refine WPD.take 26 rfl (by first | exact (Op1.load rfl mM (by rfl)) | exact (Op1.loadI rfl rD lT) | exact (Op1.loadAll rfl mM (by rfl)) | exact (Op1.loadE rfl rD lT (by rfl)) | exact (Op1.loadEAgg rfl rD lT (by rfl))) rfl rfl sT kR kR kR xQP ?_
            refine WPD.eff 28 kR rfl (OpE.call lO (fun w hw => c_cmpE _ (es.getD ((k : Int) - 1).toNat eD) (es.getD k eD))) rfl rfl ?_
            rintro r _ ⟨T, ⟨rfl, rfl⟩, rfl⟩
            refine ⟨sT, ?_⟩
            refine WPD.take 29 rfl (Op1.geI rfl rfl) rfl rfl sT kR kR kR xQP ?_
            refine WPD.take 30 rfl (by first | exact (Op1.pickT rfl rfl) | exact (Op1.pickF rfl rfl)) rfl rfl sT kR kR kR xQP ?_
            refine WPD.take 31 rfl (by first | exact (Op1.pickT rfl rfl) | exact (Op1.pickF rfl rfl)) rfl rfl sT kR kR kR xQP ?_
            refine WPD.done kR ?_
          case' f4 =>
            refine WPD.skip 21 rfl rfl rfl sT kR kR kR xQP ?_
            refine WPD.skip 23 rfl rfl rfl sT kR kR kR xQP ?_
            refine WPD.skip 27 rfl rfl rfl sT kR kR kR xQP ?_
            refine WPD.skip 22 rfl rfl rfl sT kR kR kR xQP ?_
            refine WPD.skip 24 rfl rfl rfl sT kR kR kR xQP ?_
            refine WPD.skip 25 rfl rfl rfl sT kR kR kR xQP ?_
            refine WPD.skip 26 rfl rfl rfl sT kR kR kR xQP ?_
            refine WPD.skip 28 rfl rfl rfl sT kR kR kR xQP ?_
            refine WPD.skip 29 rfl rfl rfl sT kR kR kR xQP ?_
            refine WPD.take 30 rfl (by first | exact (Op1.pickT rfl rfl) | exact (Op1.pickF rfl rfl)) rfl rfl sT kR kR kR xQP ?_
            refine WPD.take 31 rfl (by first | exact (Op1.pickT rfl rfl) | exact (Op1.pickF rfl rfl)) rfl rfl sT kR kR kR xQP ?_
            refine WPD.done kR ?_
    all_goals (repeat' (first | refine go ⟨?_⟩ | (refine isCond ?_; refine WP.condD rfl (fun hc => ?_) (fun hc => ?_)) | (refine isGuard ?_; refine WPL.splitD rfl rfl (fun hc => ?_) (fun hc => ?_))))
    · refine PE.again (k + 1) ?_ ?_ sE sT
      · refine ⟨by omega, fun i hi => ?_⟩
        rcases Nat.lt_succ_iff_lt_or_eq.1 hi with h' | rfl
        · exact hm i h'
        · exact ⟨by omega, by omega, by omega, fun h => by omega⟩
      · omega
    · refine PE.ret1 (T := []) (T' := []) rfl rV ?_ sT
      rw [ek, cmpE_nonneg] at hc
      exact ⟨bad' fun h => hc (h.2.2.2 (by omega)), rfl⟩
    · refine PE.again (k + 1) ?_ ?_ sE sT
      · refine ⟨by omega, fun i hi => ?_⟩
        rcases Nat.lt_succ_iff_lt_or_eq.1 hi with h' | rfl
        · exact hm i h'
        · rw [ek, cmpE_nonneg] at hc
          exact ⟨by omega, by omega, by omega, fun _ => Decidable.not_not.1 hc⟩
      · omega
    all_goals (refine PE.ret1 (T := []) (T' := []) rfl rV ?_ sT; exact ⟨bad' fun h => by have h1 := h.1; have h2 := h.2.1; have h3 := h.2.2.1; omega, rfl⟩)
  · try refine go ⟨?_⟩
    refine PE.ret1 (T := []) (T' := []) rfl rV ?_ sT
    have : k = es.length := by omega
    subst this
    exact ⟨by rw [decide_eq_true]; exact ⟨by omega, by omega, by omega, hm⟩, rfl⟩
end Go.Proofs.Ythlgbeakcobeoaa
