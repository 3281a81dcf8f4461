/- Graphs: the walks of the second program's first functions. Conditions: those of each contract. -/
import Derived.Test.YthlgbeakcobeoaaGra3
import Derived.Test.YthlgbeakcobeoaaGm2
import Derived.Test.YthlgbeakcobeoaaR4
namespace Go.Proofs.Ythlgbeakcobeoaa
open Go
theorem filt_yes {α : Type} {d : α} {l : List α} {k : Nat} {p : α → Bool} (hk : k < l.length) (h : p (l.getD k d) = true) : (l.take (k + 1)).filter p = (l.take k).filter p ++ [l.getD k d] := by
  rw [take_succD d hk, List.filter_append]; simp only [List.filter_cons, h, if_true, List.filter_nil]
theorem filt_no {α : Type} {d : α} {l : List α} {k : Nat} {p : α → Bool} (hk : k < l.length) (h : p (l.getD k d) = false) : (l.take (k + 1)).filter p = (l.take k).filter p := by
  rw [take_succD d hk, List.filter_append]; simp only [List.filter_cons, h, Bool.false_eq_true, if_false, List.filter_nil, List.append_nil]
theorem filt_le {α : Type} (l : List α) (k : Nat) (p : α → Bool) : ((l.take k).filter p).length ≤ l.length := by
  have h1 := List.length_filter_le p (l.take k)
  have h2 : (l.take k).length ≤ l.length := by rw [List.length_take]; omega
  omega
theorem take_le {α : Type} (l : List α) (k : Nat) : (l.take k).length ≤ l.length := by rw [List.length_take]; omega
/-- What the second program's l1Put has made behind k edges; q: the new edge's place, once it is done. -/
def putL (es : List E) (e : E) (k : Nat) : Bool → Nat → List E
  | false, _ => es.take k
  | true, q => es.take q ++ e :: (es.take k).drop q
theorem putL_len (es : List E) (e : E) (k : Nat) (d : Bool) (q : Nat) : (putL es e k d q).length ≤ 2 * es.length + 1 := by
  cases d
  · show (es.take k).length ≤ _
    have := take_le es k; omega
  · show (es.take q ++ e :: (es.take k).drop q).length ≤ _
    have h1 := take_le es k
    have h2 := take_le es q
    rw [List.length_append, List.length_cons, List.length_drop]; omega
theorem putL_step {es : List E} {e : E} {k q : Nat} {d : Bool} (hk : k < es.length) (hq : d = true → q ≤ k) : putL es e (k + 1) d q = putL es e k d q ++ [es.getD k eD] := by
  cases d
  · exact take_succD eD hk
  · have hq := hq rfl
    show es.take q ++ e :: (es.take (k + 1)).drop q = (es.take q ++ e :: (es.take k).drop q) ++ [es.getD k eD]
    rw [take_succD eD hk, List.drop_append_of_le_length (by rw [List.length_take]; omega)]; simp
theorem insP_at {es : List E} {e : E} {q : Nat} (h1 : ∀ i, i < q → ¬ ltE e (es.getD i eD)) (h2 : q < es.length → ltE e (es.getD q eD)) (hq : q ≤ es.length) : insP es e = es.take q ++ e :: es.drop q := by
  obtain ⟨h3, h4⟩ := while_split (p := fun f => !decide (ltE e f)) (fun i hi => by rw [decide_eq_false (h1 i hi)]; rfl) (fun h => by rw [decide_eq_true (h2 h)]; rfl) hq
  rw [insP, h3, h4]
set_option linter.unusedVariables false set_option linter.unusedSimpArgs false attribute [local irreducible] Tok.own Tok.blk RL Rd eptr WP WPL PE WPD WPO Op1 OpE Tri Again Mid Exit.then Exit.inBlock bodyPost RP Code.wp wpList isOwn OneM One
set_option maxHeartbeats 8000000

theorem s_Less (w : World) (a b : E) : Tri Try.prog 117 [ep a, ep b] w [] fun r T => r = .bool (decide (ltE a b)) ∧ T = [] := by
  refine Tri.intro (hf := Try.func117) (hb := rfl) (hn := Try.ntmps117) (Nat.le_of_ble_eq_true rfl) ?_
  try refine go ⟨?_⟩
  refine WPL.eff (OpE.box rfl) rfl rfl ?_; rintro _ _ ⟨b1, rfl, rfl⟩
  try refine go ⟨?_⟩
  refine WPL.eff (OpE.box rfl) rfl rfl ?_; rintro _ _ ⟨b2, rfl, rfl⟩
  repeat' (first | exact absurd rfl hc | refine go ⟨?_⟩ | (refine isCond ?_; refine WP.condD rfl (fun hc => ?_) (fun hc => ?_)) | (refine isGuard ?_; refine WPL.splitD rfl rfl (fun hc => ?_) (fun hc => ?_)))
  all_goals (refine PE.ret1 (T := []) (T' := []) rfl rV ?_ sT; refine ⟨?_, rfl⟩)
  · rw [decide_eq_true]; unfold ltE; omega
  · congr 1; rw [decide_eq_decide]; unfold ltE; omega
  · rw [decide_eq_false]; unfold ltE; omega

theorem s_GraphValid (w : World) (n : Int) (vE : Value) (es : List E) (hE : RL w vE es) (hl : es.length ≤ 1099511627776) :
    Tri Try.prog 86 [.agg #[.int .i64 n, vE]] w [] fun r T => r = .bool (decide (GV n es)) ∧ T = [] := by
  have bad : ¬ GV n es → Value.bool false = .bool (decide (GV n es)) := fun h => by rw [decide_eq_false h]
  refine Tri.intro (hf := Try.func86) (hb := rfl) (hn := Try.ntmps86) (Nat.le_of_ble_eq_true rfl) ?_
  try refine go ⟨?_⟩
  refine WPL.eff (OpE.box rfl) rfl rfl ?_; rintro _ _ ⟨b, rfl, rfl⟩
  repeat' (first | exact absurd rfl hc | refine go ⟨?_⟩ | (refine isCond ?_; refine WP.condD rfl (fun hc => ?_) (fun hc => ?_)) | (refine isGuard ?_; refine WPL.splitD rfl rfl (fun hc => ?_) (fun hc => ?_)))
  · refine PE.ret1 (T := []) (T' := []) rfl rV ?_ sT
    exact ⟨bad fun h => by have := h.1; omega, rfl⟩
  · refine PE.ret1 (T := []) (T' := []) rfl rV ?_ sT
    exact ⟨bad fun h => by have := h.2.1; omega, rfl⟩
  · refine PE.ret1 (T := []) (T' := []) rfl rV ?_ sT
    exact ⟨bad fun h => by have := h.2.2.1; omega, rfl⟩
  refine WP.loop (σ := Nat) (fun k => [(1, .pointer (some ⟨b, 0, none⟩)), (3, .int .i64 k)]) (fun _ => [Tok.blk b [.int .i64 n, vE]]) (fun k => k ≤ es.length ∧ ∀ i, i < k → okG n es i) (fun k => es.length - k) 0 ⟨Nat.zero_le _, by omega⟩ sE sT ?_
  rintro k ⟨hk, hm⟩
  try refine go ⟨?_⟩
  refine WP.condD rfl (fun hk' => ?_) (fun hk' => ?_)
  · try refine go ⟨?_⟩
    refine WPL.eff OpE.alloc rfl rfl ?_; rintro _ _ ⟨be, rfl, rfl⟩
    try refine go ⟨?_⟩
    have bad' : ¬ okG n es k → Value.bool false = .bool (decide (GV n es)) := fun h => bad fun h' => h (h'.2.2.2 k (by omega))
    have ek : ((k : Int) - 1).toNat = k - 1 := by omega
    refine WP.draw [Tok.blk b [.int .i64 n, vE], Tok.blk be [.int .i64 (es.getD k eD).A, .int .i64 (es.getD k eD).B]] mixed ?_
    refine WPD.take 0 rfl (by first | exact (Op1.fieldAddr rfl) | exact (Op1.fieldAddrE rfl rD lT)) rfl rfl sT kR kR kR xQP ?_
    refine WPD.take 1 rfl (by first | exact (Op1.load rfl mM (by rfl)) | exact (Op1.loadI rfl rD lT) | exact (Op1.loadAll rfl mM (by rfl)) | exact (Op1.loadE rfl rD lT (by rfl)) | exact (Op1.loadEAgg rfl rD lT (by rfl))) rfl rfl sT kR kR kR xQP ?_
    refine WPD.take 2 rfl (Op1.ltI rfl rfl) rfl rfl sT kR kR kR xQP ?_
    refine WPD.take 3 rfl (Op1.move rfl) rfl rfl sT kR kR kR xQP ?_
    first | refine WPD.splitD 34 rfl (fun h34 => ?t3) (fun h34 => ?f3) | refine WPD.split 34 rfl (fun h34 => ?t3) (fun h34 => ?f3)
    case' t3 =>
      refine WPD.skip 4 rfl rfl rfl sT kR kR kR xQP ?_
      refine WPD.skip 6 rfl rfl rfl sT kR kR kR xQP ?_
      refine WPD.skip 5 rfl rfl rfl sT kR kR kR xQP ?_
      refine WPD.skip 7 rfl rfl rfl sT kR kR kR xQP ?_
      refine WPD.skip 8 rfl rfl rfl sT kR kR kR xQP ?_
      refine WPD.take 9 rfl (by first | exact (Op1.pickT rfl rfl) | exact (Op1.pickF rfl rfl)) rfl rfl sT kR kR kR xQP ?_
      refine WPD.take 10 rfl (Op1.move rfl) rfl rfl sT kR kR kR xQP ?_
      refine WPD.skip 11 rfl rfl rfl sT kR kR kR xQP ?_
      refine WPD.skip 13 rfl rfl rfl sT kR kR kR xQP ?_
      refine WPD.skip 12 rfl rfl rfl sT kR kR kR xQP ?_
      refine WPD.skip 14 rfl rfl rfl sT kR kR kR xQP ?_
      refine WPD.skip 15 rfl rfl rfl sT kR kR kR xQP ?_
      refine WPD.take 16 rfl (by first | exact (Op1.pickT rfl rfl) | exact (Op1.pickF rfl rfl)) rfl rfl sT kR kR kR xQP ?_
      refine WPD.take 17 rfl (Op1.move rfl) rfl rfl sT kR kR kR xQP ?_
      refine WPD.skip 18 rfl rfl rfl sT kR kR kR xQP ?_
      refine WPD.skip 19 rfl rfl rfl sT kR kR kR xQP ?_
      refine WPD.skip 20 rfl rfl rfl sT kR kR kR xQP ?_
      refine WPD.skip 21 rfl rfl rfl sT kR kR kR xQP ?_
      refine WPD.skip 23 rfl rfl rfl sT kR kR kR xQP ?_
      refine WPD.skip 27 rfl rfl rfl sT kR kR kR xQP ?_
      refine WPD.skip 22 rfl rfl rfl sT kR kR kR xQP ?_
      refine WPD.skip 24 rfl rfl rfl sT kR kR kR xQP ?_
      refine WPD.skip 25 rfl rfl rfl sT kR kR kR xQP ?_
      refine WPD.skip 26 rfl rfl rfl sT kR kR kR xQP ?_
      refine WPD.skip 28 rfl rfl rfl sT kR kR kR xQP ?_
      refine WPD.skip 29 rfl rfl rfl sT kR kR kR xQP ?_
      refine WPD.skip 30 rfl rfl rfl sT kR kR kR xQP ?_
      refine WPD.take 31 rfl (by first | exact (Op1.pickT rfl rfl) | exact (Op1.pickF rfl rfl)) rfl rfl sT kR kR kR xQP ?_
      refine WPD.done kR ?_
    case' f3 =>
      refine WPD.take 4 rfl (by first | exact (Op1.fieldAddr rfl) | exact (Op1.fieldAddrE rfl rD lT)) rfl rfl sT kR kR kR xQP ?_
      refine WPD.take 6 rfl (by first | exact (Op1.fieldAddr rfl) | exact (Op1.fieldAddrE rfl rD lT)) rfl rfl sT kR kR kR xQP ?_
      refine WPD.take 5 rfl (by first | exact (Op1.load rfl mM (by rfl)) | exact (Op1.loadI rfl rD lT) | exact (Op1.loadAll rfl mM (by rfl)) | exact (Op1.loadE rfl rD lT (by rfl)) | exact (Op1.loadEAgg rfl rD lT (by rfl))) rfl rfl sT kR kR kR xQP ?_
      refine WPD.take 7 rfl (by first | exact (Op1.load rfl mM (by rfl)) | exact (Op1.loadI rfl rD lT) | exact (Op1.loadAll rfl mM (by rfl)) | exact (Op1.loadE rfl rD lT (by rfl)) | exact (Op1.loadEAgg rfl rD lT (by rfl))) rfl rfl sT kR kR kR xQP ?_
      refine WPD.take 8 rfl (Op1.geI rfl rfl) rfl rfl sT kR kR kR xQP ?_
      refine WPD.take 9 rfl (by first | exact (Op1.pickT rfl rfl) | exact (Op1.pickF rfl rfl)) rfl rfl sT kR kR kR xQP ?_
      refine WPD.take 10 rfl (Op1.move rfl) rfl rfl sT kR kR kR xQP ?_
      first | refine WPD.splitD 41 rfl (fun h41 => ?t4) (fun h41 => ?f4) | refine WPD.split 41 rfl (fun h41 => ?t4) (fun h41 => ?f4)
      case' t4 =>
        refine WPD.skip 11 rfl rfl rfl sT kR kR kR xQP ?_
        refine WPD.skip 13 rfl rfl rfl sT kR kR kR xQP ?_
        refine WPD.skip 12 rfl rfl rfl sT kR kR kR xQP ?_
        refine WPD.skip 14 rfl rfl rfl sT kR kR kR xQP ?_
        refine WPD.skip 15 rfl rfl rfl sT kR kR kR xQP ?_
        refine WPD.take 16 rfl (by first | exact (Op1.pickT rfl rfl) | exact (Op1.pickF rfl rfl)) rfl rfl sT kR kR kR xQP ?_
        refine WPD.take 17 rfl (Op1.move rfl) rfl rfl sT kR kR kR xQP ?_
        refine WPD.skip 18 rfl rfl rfl sT kR kR kR xQP ?_
        refine WPD.skip 19 rfl rfl rfl sT kR kR kR xQP ?_
        refine WPD.skip 20 rfl rfl rfl sT kR kR kR xQP ?_
        refine WPD.skip 21 rfl rfl rfl sT kR kR kR xQP ?_
        refine WPD.skip 23 rfl rfl rfl sT kR kR kR xQP ?_
        refine WPD.skip 27 rfl rfl rfl sT kR kR kR xQP ?_
        refine WPD.skip 22 rfl rfl rfl sT kR kR kR xQP ?_
        refine WPD.skip 24 rfl rfl rfl sT kR kR kR xQP ?_
        refine WPD.skip 25 rfl rfl rfl sT kR kR kR xQP ?_
        refine WPD.skip 26 rfl rfl rfl sT kR kR kR xQP ?_
        refine WPD.skip 28 rfl rfl rfl sT kR kR kR xQP ?_
        refine WPD.skip 29 rfl rfl rfl sT kR kR kR xQP ?_
        refine WPD.skip 30 rfl rfl rfl sT kR kR kR xQP ?_
        refine WPD.take 31 rfl (by first | exact (Op1.pickT rfl rfl) | exact (Op1.pickF rfl rfl)) rfl rfl sT kR kR kR xQP ?_
        refine WPD.done kR ?_
      case' f4 =>
        refine WPD.take 11 rfl (by first | exact (Op1.fieldAddr rfl) | exact (Op1.fieldAddrE rfl rD lT)) rfl rfl sT kR kR kR xQP ?_
        refine WPD.take 13 rfl (by first | exact (Op1.fieldAddr rfl) | exact (Op1.fieldAddrE rfl rD lT)) rfl rfl sT kR kR kR xQP ?_
        refine WPD.take 12 rfl (by first | exact (Op1.load rfl mM (by rfl)) | exact (Op1.loadI rfl rD lT) | exact (Op1.loadAll rfl mM (by rfl)) | exact (Op1.loadE rfl rD lT (by rfl)) | exact (Op1.loadEAgg rfl rD lT (by rfl))) rfl rfl sT kR kR kR xQP ?_
        refine WPD.take 14 rfl (by first | exact (Op1.load rfl mM (by rfl)) | exact (Op1.loadI rfl rD lT) | exact (Op1.loadAll rfl mM (by rfl)) | exact (Op1.loadE rfl rD lT (by rfl)) | exact (Op1.loadEAgg rfl rD lT (by rfl))) rfl rfl sT kR kR kR xQP ?_
        refine WPD.take 15 rfl (Op1.geI rfl rfl) rfl rfl sT kR kR kR xQP ?_
        refine WPD.take 16 rfl (by first | exact (Op1.pickT rfl rfl) | exact (Op1.pickF rfl rfl)) rfl rfl sT kR kR kR xQP ?_
        refine WPD.take 17 rfl (Op1.move rfl) rfl rfl sT kR kR kR xQP ?_
        first | refine WPD.splitD 48 rfl (fun h48 => ?t5) (fun h48 => ?f5) | refine WPD.split 48 rfl (fun h48 => ?t5) (fun h48 => ?f5)
        case' t5 =>
          refine WPD.skip 18 rfl rfl rfl sT kR kR kR xQP ?_
          refine WPD.skip 19 rfl rfl rfl sT kR kR kR xQP ?_
          refine WPD.skip 20 rfl rfl rfl sT kR kR kR xQP ?_
          refine WPD.skip 21 rfl rfl rfl sT kR kR kR xQP ?_
          refine WPD.skip 23 rfl rfl rfl sT kR kR kR xQP ?_
          refine WPD.skip 27 rfl rfl rfl sT kR kR kR xQP ?_
          refine WPD.skip 22 rfl rfl rfl sT kR kR kR xQP ?_
          refine WPD.skip 24 rfl rfl rfl sT kR kR kR xQP ?_
          refine WPD.skip 25 rfl rfl rfl sT kR kR kR xQP ?_
          refine WPD.skip 26 rfl rfl rfl sT kR kR kR xQP ?_
          refine WPD.skip 28 rfl rfl rfl sT kR kR kR xQP ?_
          refine WPD.skip 29 rfl rfl rfl sT kR kR kR xQP ?_
          refine WPD.skip 30 rfl rfl rfl sT kR kR kR xQP ?_
          refine WPD.take 31 rfl (by first | exact (Op1.pickT rfl rfl) | exact (Op1.pickF rfl rfl)) rfl rfl sT kR kR kR xQP ?_
          refine WPD.done kR ?_
        case' f5 =>
          refine WPD.take 18 rfl (Op1.move rfl) rfl rfl sT kR kR kR xQP ?_
          refine WPD.take 19 rfl (Op1.gtI rfl rfl) rfl rfl sT kR kR kR xQP ?_
          refine WPD.take 20 rfl (Op1.move rfl) rfl rfl sT kR kR kR xQP ?_
          first | refine WPD.splitD 51 rfl (fun h51 => ?t6) (fun h51 => ?f6) | refine WPD.split 51 rfl (fun h51 => ?t6) (fun h51 => ?f6)
          case' t6 =>
            refine WPD.take 21 rfl (by first | exact (Op1.fieldAddr rfl) | exact (Op1.fieldAddrE rfl rD lT)) rfl rfl sT kR kR kR xQP ?_
            refine WPD.take 23 rfl (Op1.move rfl) rfl rfl sT kR kR kR xQP ?_
            refine WPD.take 27 rfl (by first | exact (Op1.load rfl mM (by rfl)) | exact (Op1.loadI rfl rD lT) | exact (Op1.loadAll rfl mM (by rfl)) | exact (Op1.loadE rfl rD lT (by rfl)) | exact (Op1.loadEAgg rfl rD lT (by rfl))) rfl rfl sT kR kR kR xQP ?_
            refine WPD.take 22 rfl (by first | exact (Op1.load rfl mM (by rfl)) | exact (Op1.loadI rfl rD lT) | exact (Op1.loadAll rfl mM (by rfl)) | exact (Op1.loadE rfl rD lT (by rfl)) | exact (Op1.loadEAgg rfl rD lT (by rfl))) rfl rfl sT kR kR kR xQP ?_
            refine WPD.take 24 rfl (Op1.sub rfl rfl (by omega)) rfl rfl sT kR kR kR xQP ?_
            refine WPD.take 25 rfl (by first | exact (Op1.indexAddr rfl rfl rD lT) | exact (Op1.indexAddrZ rfl rfl rD lT)) rfl rfl sT kR kR kR xQP ?_
            refine WPD.take 26 rfl (by first | exact (Op1.load rfl mM (by rfl)) | exact (Op1.loadI rfl rD lT) | exact (Op1.loadAll rfl mM (by rfl)) | exact (Op1.loadE rfl rD lT (by rfl)) | exact (Op1.loadEAgg rfl rD lT (by rfl))) rfl rfl sT kR kR kR xQP ?_
            refine WPD.eff 28 kR rfl (OpE.call lO (fun w hw => s_Less _ (es.getD ((k : Int) - 1).toNat eD) (es.getD k eD))) rfl rfl ?_
            rintro r _ ⟨T, ⟨rfl, rfl⟩, rfl⟩
            refine ⟨sT, ?_⟩
            refine WPD.take 29 rfl (by first | exact (Op1.notD rfl) | exact (Op1.not rfl)) rfl rfl sT kR kR kR xQP ?_
            refine WPD.take 30 rfl (by first | exact (Op1.pickT rfl rfl) | exact (Op1.pickF rfl rfl)) rfl rfl sT kR kR kR xQP ?_
            refine WPD.take 31 rfl (by first | exact (Op1.pickT rfl rfl) | exact (Op1.pickF rfl rfl)) rfl rfl sT kR kR kR xQP ?_
            refine WPD.done kR ?_
          case' f6 =>
            refine WPD.skip 21 rfl rfl rfl sT kR kR kR xQP ?_
            refine WPD.skip 23 rfl rfl rfl sT kR kR kR xQP ?_
            refine WPD.skip 27 rfl rfl rfl sT kR kR kR xQP ?_
            refine WPD.skip 22 rfl rfl rfl sT kR kR kR xQP ?_
            refine WPD.skip 24 rfl rfl rfl sT kR kR kR xQP ?_
            refine WPD.skip 25 rfl rfl rfl sT kR kR kR xQP ?_
            refine WPD.skip 26 rfl rfl rfl sT kR kR kR xQP ?_
            refine WPD.skip 28 rfl rfl rfl sT kR kR kR xQP ?_
            refine WPD.skip 29 rfl rfl rfl sT kR kR kR xQP ?_
            refine WPD.take 30 rfl (by first | exact (Op1.pickT rfl rfl) | exact (Op1.pickF rfl rfl)) rfl rfl sT kR kR kR xQP ?_
            refine WPD.take 31 rfl (by first | exact (Op1.pickT rfl rfl) | exact (Op1.pickF rfl rfl)) rfl rfl sT kR kR kR xQP ?_
            refine WPD.done kR ?_
    all_goals (repeat' (first | exact absurd rfl hc | refine go ⟨?_⟩ | (refine isCond ?_; refine WP.condD rfl (fun hc => ?_) (fun hc => ?_)) | (refine isGuard ?_; refine WPL.splitD rfl rfl (fun hc => ?_) (fun hc => ?_))))
    · refine PE.again (k + 1) ?_ ?_ sE sT
      · refine ⟨by omega, fun i hi => ?_⟩
        rcases Nat.lt_succ_iff_lt_or_eq.1 hi with h' | rfl
        · exact hm i h'
        · exact ⟨by omega, by omega, by omega, fun h => by omega⟩
      · omega
    · refine PE.ret1 (T := []) (T' := []) rfl rV ?_ sT
      rw [ek] at hc
      exact ⟨bad' fun h => hc (h.2.2.2 (by omega)), rfl⟩
    · refine PE.again (k + 1) ?_ ?_ sE sT
      · refine ⟨by omega, fun i hi => ?_⟩
        rcases Nat.lt_succ_iff_lt_or_eq.1 hi with h' | rfl
        · exact hm i h'
        · rw [ek] at hc
          exact ⟨by omega, by omega, by omega, fun _ => Decidable.not_not.1 hc⟩
      · omega
    all_goals (refine PE.ret1 (T := []) (T' := []) rfl rV ?_ sT; exact ⟨bad' fun h => by have h1 := h.1; have h2 := h.2.1; have h3 := h.2.2.1; omega, rfl⟩)
  · try refine go ⟨?_⟩
    refine PE.ret1 (T := []) (T' := []) rfl rV ?_ sT
    have : k = es.length := by omega
    subst this
    exact ⟨by rw [decide_eq_true]; exact ⟨by omega, by omega, by omega, hm⟩, rfl⟩

theorem s_Find (w : World) (v : Value) (e : E) (es : List E) (h : RL w v es) (hl : es.length ≤ 1099511627776) :
    Tri Try.prog 135 [v, ep e] w [] fun r T => T = [] ∧ ((e ∈ es ∧ ∃ n : Nat, n < es.length ∧ r = .int .i64 n ∧ es.getD n eD = e ∧ ∀ m, m < n → es.getD m eD ≠ e) ∨ (e ∉ es ∧ r = .int .i64 (-1))) := by
  refine Tri.intro (hf := Try.func135) (hb := rfl) (hn := Try.ntmps135) (Nat.le_of_ble_eq_true rfl) ?_
  try refine go ⟨?_⟩
  refine WPL.eff (OpE.box rfl) rfl rfl ?_; rintro _ _ ⟨b, rfl, rfl⟩
  try refine go ⟨?_⟩
  refine WP.loop (σ := Nat) (fun k => [(0, v), (3, .pointer (some ⟨b, 0, none⟩)), (5, .int .i64 k)]) (fun _ => [Tok.blk b [.int .i64 e.A, .int .i64 e.B]]) (fun k => k ≤ es.length ∧ ∀ m, m < k → es.getD m eD ≠ e) (fun k => es.length - k) 0 ⟨Nat.zero_le _, by omega⟩ sE sT ?_
  rintro k ⟨hk, hm⟩
  try refine go ⟨?_⟩
  refine WP.condD rfl (fun hc => ?_) (fun hc => ?_)
  · try refine go ⟨?_⟩
    refine WP.draw [Tok.blk b [.int .i64 e.A, .int .i64 e.B]] mixed ?_
    refine WPD.take 0 rfl (Op1.move rfl) rfl rfl sT kR kR kR xQP ?_
    refine WPD.take 1 rfl (Op1.move rfl) rfl rfl sT kR kR kR xQP ?_
    refine WPD.take 4 rfl (by first | exact (Op1.load rfl mM (by rfl)) | exact (Op1.loadI rfl rD lT) | exact (Op1.loadAll rfl mM (by rfl)) | exact (Op1.loadE rfl rD lT (by rfl)) | exact (Op1.loadEAgg rfl rD lT (by rfl))) rfl rfl sT kR kR kR xQP ?_
    refine WPD.take 2 rfl (by first | exact (Op1.indexAddr rfl rfl rD lT) | exact (Op1.indexAddrZ rfl rfl rD lT)) rfl rfl sT kR kR kR xQP ?_
    refine WPD.take 3 rfl (by first | exact (Op1.load rfl mM (by rfl)) | exact (Op1.loadI rfl rD lT) | exact (Op1.loadAll rfl mM (by rfl)) | exact (Op1.loadE rfl rD lT (by rfl)) | exact (Op1.loadEAgg rfl rD lT (by rfl))) rfl rfl sT kR kR kR xQP ?_
    refine WPD.take 5 rfl (by first | exact (Op1.eqI rfl rfl) | exact (Op1.eqB rfl rfl) | exact (Op1.eqE rfl rfl) | exact (Op1.eqNil rfl rD)) rfl rfl sT kR kR kR xQP ?_
    refine WPD.done kR ?_
    try refine go ⟨?_⟩
    refine WP.condD rfl (fun he => ?_) (fun he => ?_)
    · try refine go ⟨?_⟩
      refine PE.ret1 (T := []) (T' := []) rfl rV ?_ sT
      have hk' : k < es.length := by omega
      have he : es.getD k eD = e := he
      exact ⟨rfl, .inl ⟨he ▸ getD_memI hk', k, hk', rfl, he, hm⟩⟩
    · try refine go ⟨?_⟩
      refine PE.again (k + 1) ?_ ?_ sE sT
      · refine ⟨by omega, fun m hm' => ?_⟩
        rcases Nat.lt_succ_iff_lt_or_eq.1 hm' with h' | rfl
        · exact hm m h'
        · exact fun h2 => he h2
      · omega
  · try refine go ⟨?_⟩
    refine PE.ret1 (T := []) (T' := []) rfl rV ?_ sT
    refine ⟨rfl, .inr ⟨fun hx => ?_, rfl⟩⟩
    obtain ⟨n, hn, h2⟩ := mem_getD (d := eD) hx
    exact hm n (by omega) h2

theorem s_Without (w : World) (v : Value) (e : E) (es : List E) (h : RL w v es) (hl : es.length ≤ 1000000) :
    Tri Try.prog 81 [v, ep e] w [] fun r T => T = [Tok.own r (rem es e)] := by
  refine Tri.intro (hf := Try.func81) (hb := rfl) (hn := Try.ntmps81) (Nat.le_of_ble_eq_true rfl) ?_
  try refine go ⟨?_⟩
  refine WPL.eff (OpE.box rfl) rfl rfl ?_; rintro _ _ ⟨b, rfl, rfl⟩
  try refine go ⟨?_⟩
  refine WPL.eff (OpE.buildSlice ([] : List E) pA rfl (by decide)) rfl rfl ?_; rintro s _ rfl
  try refine go ⟨?_⟩
  refine WP.loop (σ := Nat × Value) (fun k => [(0, v), (3, .pointer (some ⟨b, 0, none⟩)), (5, k.2), (6, .int .i64 k.1)]) (fun k => [Tok.own k.2 ((es.take k.1).filter fun f => decide (f ≠ e)), Tok.blk b [.int .i64 e.A, .int .i64 e.B]]) (fun k => k.1 ≤ es.length) (fun k => es.length - k.1) (0, s) (Nat.zero_le _) sE sT ?_
  rintro ⟨k, u⟩ hk
  dsimp only at hk ⊢
  try refine go ⟨?_⟩
  refine WP.condD rfl (fun hc => ?_) (fun hc => ?_)
  · have hk' : k < es.length := by omega
    have hfl := filt_le es k fun f => decide (f ≠ e)
    try refine go ⟨?_⟩
    refine WP.draw [Tok.blk b [.int .i64 e.A, .int .i64 e.B]] mixed ?_
    refine WPD.take 0 rfl (Op1.move rfl) rfl rfl sT kR kR kR xQP ?_
    refine WPD.take 1 rfl (Op1.move rfl) rfl rfl sT kR kR kR xQP ?_
    refine WPD.take 4 rfl (by first | exact (Op1.load rfl mM (by rfl)) | exact (Op1.loadI rfl rD lT) | exact (Op1.loadAll rfl mM (by rfl)) | exact (Op1.loadE rfl rD lT (by rfl)) | exact (Op1.loadEAgg rfl rD lT (by rfl))) rfl rfl sT kR kR kR xQP ?_
    refine WPD.take 2 rfl (by first | exact (Op1.indexAddr rfl rfl rD lT) | exact (Op1.indexAddrZ rfl rfl rD lT)) rfl rfl sT kR kR kR xQP ?_
    refine WPD.take 3 rfl (by first | exact (Op1.load rfl mM (by rfl)) | exact (Op1.loadI rfl rD lT) | exact (Op1.loadAll rfl mM (by rfl)) | exact (Op1.loadE rfl rD lT (by rfl)) | exact (Op1.loadEAgg rfl rD lT (by rfl))) rfl rfl sT kR kR kR xQP ?_
    refine WPD.take 5 rfl (by first | exact (Op1.neI rfl rfl) | exact (Op1.neB rfl rfl) | exact (Op1.neE rfl rfl)) rfl rfl sT kR kR kR xQP ?_
    refine WPD.done kR ?_
    try refine go ⟨?_⟩
    refine WP.condD rfl (fun he => ?_) (fun he => ?_)
    · try refine go ⟨?_⟩
      refine WPL.eff (OpE.buildSlice [es.getD k eD] pA rfl (by decide)) rfl rfl ?_; rintro s1 _ rfl
      try refine go ⟨?_⟩
      refine WPL.eff (OpE.append rfl rfl pM rD lN) rfl rfl ?_; rintro u1 _ rfl
      try refine go ⟨?_⟩
      rw [← filt_yes (d := eD) (p := fun f => decide (f ≠ e)) hk' (decide_eq_true he)]
      refine PE.again (k + 1, u1) ?_ ?_ sE sT
      · dsimp only; omega
      · dsimp only; omega
    · try refine go ⟨?_⟩
      rw [← filt_no (d := eD) (p := fun f => decide (f ≠ e)) hk' (decide_eq_false he)]
      refine PE.again (k + 1, u) ?_ ?_ sE sT
      · dsimp only; omega
      · dsimp only; omega
  · have hkn : k = es.length := by omega
    subst hkn
    rw [List.take_length]
    try refine go ⟨?_⟩
    refine PE.ret1 (T := []) (T' := [Tok.own u (rem es e)]) rfl rV ?_ sT
    rfl

theorem s_Put (w : World) (v : Value) (e : E) (es : List E) (h : RL w v es) (hl : es.length ≤ 1000000) :
    Tri Try.prog 133 [v, ep e] w [] fun r T => T = [Tok.own r (insP es e)] := by
  refine Tri.intro (hf := Try.func133) (hb := rfl) (hn := Try.ntmps133) (Nat.le_of_ble_eq_true rfl) ?_
  try refine go ⟨?_⟩
  refine WPL.eff (OpE.box rfl) rfl rfl ?_; rintro _ _ ⟨b, rfl, rfl⟩
  try refine go ⟨?_⟩
  refine WPL.eff (OpE.buildSlice ([] : List E) pA rfl (by decide)) rfl rfl ?_; rintro s _ rfl
  try refine go ⟨?_⟩
  refine WP.loop (σ := Nat × Bool × Nat × Value) (fun k => [(0, v), (3, .pointer (some ⟨b, 0, none⟩)), (5, k.2.2.2), (6, .bool k.2.1), (7, .int .i64 k.1)]) (fun k => [Tok.own k.2.2.2 (putL es e k.1 k.2.1 k.2.2.1), Tok.blk b [.int .i64 e.A, .int .i64 e.B]])
    (fun k => k.1 ≤ es.length ∧ (k.2.1 = false → ∀ m, m < k.1 → ¬ ltE e (es.getD m eD)) ∧ (k.2.1 = true → k.2.2.1 < k.1 ∧ (∀ m, m < k.2.2.1 → ¬ ltE e (es.getD m eD)) ∧ ltE e (es.getD k.2.2.1 eD))) (fun k => es.length - k.1) (0, false, 0, s) ⟨Nat.zero_le _, fun _ m hm => absurd hm (Nat.not_lt_zero _), fun h => by cases h⟩ sE ?_ ?_
  · have e0 : putL es e 0 false 0 = [] := by simp [putL]
    dsimp only; rw [e0]; exact sT
  rintro ⟨k, d, q, u⟩ ⟨hk, h1, h2⟩
  dsimp only at hk h1 h2 ⊢
  have hpl := putL_len es e k d q
  have hpl2 := putL_len es e k true k
  try refine go ⟨?_⟩
  refine WP.condD rfl (fun hc => ?_) (fun hc => ?_)
  · have hk' : k < es.length := by omega
    try refine go ⟨?_⟩
    refine WP.draw [Tok.blk b [.int .i64 e.A, .int .i64 e.B]] mixed ?_
    refine WPD.take 0 rfl (Op1.move rfl) rfl rfl sT kR kR kR xQP ?_
    refine WPD.take 1 rfl (by first | exact (Op1.notD rfl) | exact (Op1.not rfl)) rfl rfl sT kR kR kR xQP ?_
    refine WPD.take 2 rfl (Op1.move rfl) rfl rfl sT kR kR kR xQP ?_
    first | refine WPD.splitD 17 rfl (fun h17 => ?t7) (fun h17 => ?f7) | refine WPD.split 17 rfl (fun h17 => ?t7) (fun h17 => ?f7)
    case' t7 =>
      refine WPD.take 3 rfl (by first | exact (Op1.load rfl mM (by rfl)) | exact (Op1.loadI rfl rD lT) | exact (Op1.loadAll rfl mM (by rfl)) | exact (Op1.loadE rfl rD lT (by rfl)) | exact (Op1.loadEAgg rfl rD lT (by rfl))) rfl rfl sT kR kR kR xQP ?_
      refine WPD.take 4 rfl (Op1.move rfl) rfl rfl sT kR kR kR xQP ?_
      refine WPD.take 5 rfl (Op1.move rfl) rfl rfl sT kR kR kR xQP ?_
      refine WPD.take 6 rfl (by first | exact (Op1.indexAddr rfl rfl rD lT) | exact (Op1.indexAddrZ rfl rfl rD lT)) rfl rfl sT kR kR kR xQP ?_
      refine WPD.take 7 rfl (by first | exact (Op1.load rfl mM (by rfl)) | exact (Op1.loadI rfl rD lT) | exact (Op1.loadAll rfl mM (by rfl)) | exact (Op1.loadE rfl rD lT (by rfl)) | exact (Op1.loadEAgg rfl rD lT (by rfl))) rfl rfl sT kR kR kR xQP ?_
      refine WPD.eff 8 kR rfl (OpE.call lO (fun w hw => s_Less _ e (es.getD k eD))) rfl rfl ?_
      rintro r _ ⟨T, ⟨rfl, rfl⟩, rfl⟩
      refine ⟨sT, ?_⟩
      refine WPD.take 9 rfl (by first | exact (Op1.pickT rfl rfl) | exact (Op1.pickF rfl rfl)) rfl rfl sT kR kR kR xQP ?_
      refine WPD.done kR ?_
    case' f7 =>
      refine WPD.skip 3 rfl rfl rfl sT kR kR kR xQP ?_
      refine WPD.skip 4 rfl rfl rfl sT kR kR kR xQP ?_
      refine WPD.skip 5 rfl rfl rfl sT kR kR kR xQP ?_
      refine WPD.skip 6 rfl rfl rfl sT kR kR kR xQP ?_
      refine WPD.skip 7 rfl rfl rfl sT kR kR kR xQP ?_
      refine WPD.skip 8 rfl rfl rfl sT kR kR kR xQP ?_
      refine WPD.take 9 rfl (by first | exact (Op1.pickT rfl rfl) | exact (Op1.pickF rfl rfl)) rfl rfl sT kR kR kR xQP ?_
      refine WPD.done kR ?_
    · -- done
      have hd : d = true := by simpa using h17
      subst hd
      obtain ⟨hq, hq1, hq2⟩ := h2 rfl
      try refine go ⟨?_⟩
      refine WPL.eff (OpE.buildSlice [es.getD k eD] pA rfl (by decide)) rfl rfl ?_; rintro s1 _ rfl
      try refine go ⟨?_⟩
      refine WPL.eff (OpE.append rfl rfl pM rD lN) rfl rfl ?_; rintro u1 _ rfl
      try refine go ⟨?_⟩
      rw [← putL_step hk' (fun _ => by omega)]
      refine PE.again (k + 1, true, q, u1) ?_ ?_ sE sT
      · exact ⟨hk', fun h => (by cases h), fun _ => ⟨by dsimp only; omega, hq1, hq2⟩⟩
      · dsimp only; omega
    · have hd : d = false := by simpa using h17
      subst hd
      try refine go ⟨?_⟩
      refine WP.condD rfl (fun hlt => ?_) (fun hlt => ?_)
      · try refine go ⟨?_⟩
        refine WPL.eff (OpE.buildSlice [e] pA rfl (by decide)) rfl rfl ?_; rintro s1 _ rfl
        try refine go ⟨?_⟩
        refine WPL.eff (OpE.append rfl rfl pM rD lN) rfl rfl ?_; rintro u1 _ rfl
        try refine go ⟨?_⟩
        have e1 : putL es e k false q ++ [e] = putL es e k true k := by
          show es.take k ++ [e] = es.take k ++ e :: (es.take k).drop k
          rw [List.drop_eq_nil_of_le (by rw [List.length_take]; omega)]
        rw [e1]
        refine WPL.eff (OpE.buildSlice [es.getD k eD] pA rfl (by decide)) rfl rfl ?_; rintro s2 _ rfl
        try refine go ⟨?_⟩
        refine WPL.eff (OpE.append rfl rfl pM rD lN) rfl rfl ?_; rintro u2 _ rfl
        try refine go ⟨?_⟩
        rw [← putL_step hk' (fun _ => Nat.le_refl _)]
        refine PE.again (k + 1, true, k, u2) ?_ ?_ sE sT
        · exact ⟨hk', fun h => (by cases h), fun _ => ⟨by dsimp only; omega, h1 rfl, hlt⟩⟩
        · dsimp only; omega
      · try refine go ⟨?_⟩
        refine WPL.eff (OpE.buildSlice [es.getD k eD] pA rfl (by decide)) rfl rfl ?_; rintro s1 _ rfl
        try refine go ⟨?_⟩
        refine WPL.eff (OpE.append rfl rfl pM rD lN) rfl rfl ?_; rintro u1 _ rfl
        try refine go ⟨?_⟩
        rw [← putL_step hk' (fun h => by cases h)]
        refine PE.again (k + 1, false, q, u1) ?_ ?_ sE sT
        · refine ⟨hk', fun _ m hm => ?_, fun h => by cases h⟩
          dsimp only at hm
          rcases Nat.lt_succ_iff_lt_or_eq.1 hm with h' | rfl
          · exact h1 rfl m h'
          · exact hlt
        · dsimp only; omega
  · have hkn : k = es.length := by omega
    subst hkn
    cases d
    · try refine go ⟨?_⟩
      refine WPL.eff (OpE.buildSlice [e] pA rfl (by decide)) rfl rfl ?_; rintro s1 _ rfl
      try refine go ⟨?_⟩
      refine WPL.eff (OpE.append rfl rfl pM rD lN) rfl rfl ?_; rintro u1 _ rfl
      try refine go ⟨?_⟩
      refine PE.ret1 (T := []) (T' := [Tok.own u1 (putL es e es.length false q ++ [e])]) rfl rV ?_ sT
      have := insP_at (q := es.length) (h1 rfl) (fun h => absurd h (Nat.lt_irrefl _)) (Nat.le_refl _)
      rw [this]
      show [Tok.own u1 (es.take es.length ++ [e])] = _
      simp
    · obtain ⟨hq, hq1, hq2⟩ := h2 rfl
      try refine go ⟨?_⟩
      refine PE.ret1 (T := []) (T' := [Tok.own u (putL es e es.length true q)]) rfl rV ?_ sT
      have := insP_at (q := q) hq1 (fun _ => hq2) (by omega)
      rw [this]
      show [Tok.own u (es.take q ++ e :: (es.take es.length).drop q)] = _
      rw [List.take_length]
end Go.Proofs.Ythlgbeakcobeoaa
