/- Texts put together: SpG0, SpG1, SpG2, SpG3, GraA, Dy, DyO, DyL. Conditions: those of each theorem. -/
import Derived.Test.YtfigegmgopnfhaaV1
set_option linter.unusedVariables false
set_option linter.unusedSimpArgs false
/- Graphs: the walks of the second program's first functions. Conditions: those of each contract. -/
namespace Go.Proofs.Ytfigegmgopnfhaa
open Go
theorem filt_yes {α : Type} {d : α} {l : List α} {k : Nat} {p : α → Bool} (hk : k < l.length) (h : p (l.getD k d) = true) : (l.take (k + 1)).filter p = (l.take k).filter p ++ [l.getD k d] := by
  rw [take_succD d hk, List.filter_append]; simp only [List.filter_cons, h, if_true, List.filter_nil]
theorem filt_no {α : Type} {d : α} {l : List α} {k : Nat} {p : α → Bool} (hk : k < l.length) (h : p (l.getD k d) = false) : (l.take (k + 1)).filter p = (l.take k).filter p := by
  rw [take_succD d hk, List.filter_append]; simp only [List.filter_cons, h, Bool.false_eq_true, if_false, List.filter_nil, List.append_nil]
theorem filt_le {α : Type} (l : List α) (k : Nat) (p : α → Bool) : ((l.take k).filter p).length ≤ l.length := by
  have h1 := List.length_filter_le p (l.take k)
  have h2 : (l.take k).length ≤ l.length := by rw [List.length_take]; omega
  omega
theorem take_le {α : Type} (l : List α) (k : Nat) : (l.take k).length ≤ l.length := by rw [List.length_take]; omega
/-- What the second program's l1Put has made behind k edges; q: the new edge's place, once it is done. -/
def putL (es : List E) (e : E) (k : Nat) : Bool → Nat → List E
  | false, _ => es.take k
  | true, q => es.take q ++ e :: (es.take k).drop q
theorem putL_len (es : List E) (e : E) (k : Nat) (d : Bool) (q : Nat) : (putL es e k d q).length ≤ 2 * es.length + 1 := by
  cases d
  · show (es.take k).length ≤ _
    have := take_le es k; omega
  · show (es.take q ++ e :: (es.take k).drop q).length ≤ _
    have h1 := take_le es k
    have h2 := take_le es q
    rw [List.length_append, List.length_cons, List.length_drop]; omega
theorem putL_step {es : List E} {e : E} {k q : Nat} {d : Bool} (hk : k < es.length) (hq : d = true → q ≤ k) : putL es e (k + 1) d q = putL es e k d q ++ [es.getD k eD] := by
  cases d
  · exact take_succD eD hk
  · have hq := hq rfl
    show es.take q ++ e :: (es.take (k + 1)).drop q = (es.take q ++ e :: (es.take k).drop q) ++ [es.getD k eD]
    rw [take_succD eD hk, List.drop_append_of_le_length (by rw [List.length_take]; omega)]; simp
theorem insP_at {es : List E} {e : E} {q : Nat} (h1 : ∀ i, i < q → ¬ ltE e (es.getD i eD)) (h2 : q < es.length → ltE e (es.getD q eD)) (hq : q ≤ es.length) : insP es e = es.take q ++ e :: es.drop q := by
  obtain ⟨h3, h4⟩ := while_split (p := fun f => !decide (ltE e f)) (fun i hi => by rw [decide_eq_false (h1 i hi)]; rfl) (fun h => by rw [decide_eq_true (h2 h)]; rfl) hq
  rw [insP, h3, h4]
set_option linter.unusedVariables false set_option linter.unusedSimpArgs false attribute [local irreducible] Tok.own Tok.blk RL Rd eptr WP WPL PE WPD WPO Op1 OpE Tri Again Mid Exit.then Exit.inBlock bodyPost RP Code.wp wpList isOwn OneM One
set_option maxHeartbeats 8000000

theorem s_Less (w : World) (a b : E) : Tri Try.prog 148 [ep a, ep b] w [] fun r T => r = .bool (decide (ltE a b)) ∧ T = [] := by
  refine Tri.intro (hf := Try.func148) (hb := rfl) (hn := Try.ntmps148) (Nat.le_of_ble_eq_true rfl) ?_
  try refine go ⟨?_⟩
  refine WPL.eff (OpE.box rfl) rfl rfl ?_; rintro _ _ ⟨b1, rfl, rfl⟩
  try refine go ⟨?_⟩
  refine WPL.eff (OpE.box rfl) rfl rfl ?_; rintro _ _ ⟨b2, rfl, rfl⟩
  repeat' (first | exact absurd rfl hc | refine go ⟨?_⟩ | (refine isCond ?_; refine WP.condD rfl (fun hc => ?_) (fun hc => ?_)) | (refine isGuard ?_; refine WPL.splitD rfl rfl (fun hc => ?_) (fun hc => ?_)))
  all_goals (refine PE.ret1 (T := []) (T' := []) rfl rV ?_ sT; refine ⟨?_, rfl⟩)
  · rw [decide_eq_true]; unfold ltE; omega
  · congr 1; rw [decide_eq_decide]; unfold ltE; omega
  · rw [decide_eq_false]; unfold ltE; omega

theorem s_GraphValid (w : World) (n : Int) (vE : Value) (es : List E) (hE : RL w vE es) (hl : es.length ≤ 1099511627776) :
    Tri Try.prog 116 [.agg #[.int .i64 n, vE]] w [] fun r T => r = .bool (decide (GV n es)) ∧ T = [] := by
  have bad : ¬ GV n es → Value.bool false = .bool (decide (GV n es)) := fun h => by rw [decide_eq_false h]
  refine Tri.intro (hf := Try.func116) (hb := rfl) (hn := Try.ntmps116) (Nat.le_of_ble_eq_true rfl) ?_
  try refine go ⟨?_⟩
  refine WPL.eff (OpE.box rfl) rfl rfl ?_; rintro _ _ ⟨b, rfl, rfl⟩
  repeat' (first | exact absurd rfl hc | refine go ⟨?_⟩ | (refine isCond ?_; refine WP.condD rfl (fun hc => ?_) (fun hc => ?_)) | (refine isGuard ?_; refine WPL.splitD rfl rfl (fun hc => ?_) (fun hc => ?_)))
  · refine PE.ret1 (T := []) (T' := []) rfl rV ?_ sT
    exact ⟨bad fun h => by have := h.1; omega, rfl⟩
  · refine PE.ret1 (T := []) (T' := []) rfl rV ?_ sT
    exact ⟨bad fun h => by have := h.2.1; omega, rfl⟩
  · refine PE.ret1 (T := []) (T' := []) rfl rV ?_ sT
    exact ⟨bad fun h => by have := h.2.2.1; omega, rfl⟩
  refine WP.loop (σ := Nat) (fun k => [(1, .pointer (some ⟨b, 0, none⟩)), (3, .int .i64 k)]) (fun _ => [Tok.blk b [.int .i64 n, vE]]) (fun k => k ≤ es.length ∧ ∀ i, i < k → okG n es i) (fun k => es.length - k) 0 ⟨Nat.zero_le _, by omega⟩ sE sT ?_
  rintro k ⟨hk, hm⟩
  try refine go ⟨?_⟩
  refine WP.condD rfl (fun hk' => ?_) (fun hk' => ?_)
  · try refine go ⟨?_⟩
    refine WPL.eff OpE.alloc rfl rfl ?_; rintro _ _ ⟨be, rfl, rfl⟩
    try refine go ⟨?_⟩
    have bad' : ¬ okG n es k → Value.bool false = .bool (decide (GV n es)) := fun h => bad fun h' => h (h'.2.2.2 k (by omega))
    have ek : ((k : Int) - 1).toNat = k - 1 := by omega
    refine WP.draw [Tok.blk b [.int .i64 n, vE], Tok.blk be [.int .i64 (es.getD k eD).A, .int .i64 (es.getD k eD).B]] mixed ?_
    refine WPD.take 0 rfl (by first | exact (Op1.fieldAddr rfl) | exact (Op1.fieldAddrE rfl rD lT)) rfl rfl sT kR kR kR xQP ?_
    refine WPD.take 1 rfl (by first | exact (Op1.load rfl mM (by rfl)) | exact (Op1.loadI rfl rD lT) | exact (Op1.loadAll rfl mM (by rfl)) | exact (Op1.loadE rfl rD lT (by rfl)) | exact (Op1.loadEAgg rfl rD lT (by rfl))) rfl rfl sT kR kR kR xQP ?_
    refine WPD.take 2 rfl (Op1.ltI rfl rfl) rfl rfl sT kR kR kR xQP ?_
    refine WPD.take 3 rfl (Op1.move rfl) rfl rfl sT kR kR kR xQP ?_
    first | refine WPD.splitD 34 rfl (fun h34 => ?t14) (fun h34 => ?f14) | refine WPD.split 34 rfl (fun h34 => ?t14) (fun h34 => ?f14)
    case' t14 =>
      refine WPD.skip 4 rfl rfl rfl sT kR kR kR xQP ?_
      refine WPD.skip 6 rfl rfl rfl sT kR kR kR xQP ?_
      refine WPD.skip 5 rfl rfl rfl sT kR kR kR xQP ?_
      refine WPD.skip 7 rfl rfl rfl sT kR kR kR xQP ?_
      refine WPD.skip 8 rfl rfl rfl sT kR kR kR xQP ?_
      refine WPD.take 9 rfl (by first | exact (Op1.pickT rfl rfl) | exact (Op1.pickF rfl rfl)) rfl rfl sT kR kR kR xQP ?_
      refine WPD.take 10 rfl (Op1.move rfl) rfl rfl sT kR kR kR xQP ?_
      refine WPD.skip 11 rfl rfl rfl sT kR kR kR xQP ?_
      refine WPD.skip 13 rfl rfl rfl sT kR kR kR xQP ?_
      refine WPD.skip 12 rfl rfl rfl sT kR kR kR xQP ?_
      refine WPD.skip 14 rfl rfl rfl sT kR kR kR xQP ?_
      refine WPD.skip 15 rfl rfl rfl sT kR kR kR xQP ?_
      refine WPD.take 16 rfl (by first | exact (Op1.pickT rfl rfl) | exact (Op1.pickF rfl rfl)) rfl rfl sT kR kR kR xQP ?_
      refine WPD.take 17 rfl (Op1.move rfl) rfl rfl sT kR kR kR xQP ?_
      refine WPD.skip 18 rfl rfl rfl sT kR kR kR xQP ?_
      refine WPD.skip 19 rfl rfl rfl sT kR kR kR xQP ?_
      refine WPD.skip 20 rfl rfl rfl sT kR kR kR xQP ?_
      refine WPD.skip 21 rfl rfl rfl sT kR kR kR xQP ?_
      refine WPD.skip 23 rfl rfl rfl sT kR kR kR xQP ?_
      refine WPD.skip 27 rfl rfl rfl sT kR kR kR xQP ?_
      refine WPD.skip 22 rfl rfl rfl sT kR kR kR xQP ?_
      refine WPD.skip 24 rfl rfl rfl sT kR kR kR xQP ?_
      refine WPD.skip 25 rfl rfl rfl sT kR kR kR xQP ?_
      refine WPD.skip 26 rfl rfl rfl sT kR kR kR xQP ?_
      refine WPD.skip 28 rfl rfl rfl sT kR kR kR xQP ?_
      refine WPD.skip 29 rfl rfl rfl sT kR kR kR xQP ?_
      refine WPD.skip 30 rfl rfl rfl sT kR kR kR xQP ?_
      refine WPD.take 31 rfl (by first | exact (Op1.pickT rfl rfl) | exact (Op1.pickF rfl rfl)) rfl rfl sT kR kR kR xQP ?_
      refine WPD.done kR ?_
    case' f14 =>
      refine WPD.take 4 rfl (by first | exact (Op1.fieldAddr rfl) | exact (Op1.fieldAddrE rfl rD lT)) rfl rfl sT kR kR kR xQP ?_
      refine WPD.take 6 rfl (by first | exact (Op1.fieldAddr rfl) | exact (Op1.fieldAddrE rfl rD lT)) rfl rfl sT kR kR kR xQP ?_
      refine WPD.take 5 rfl (by first | exact (Op1.load rfl mM (by rfl)) | exact (Op1.loadI rfl rD lT) | exact (Op1.loadAll rfl mM (by rfl)) | exact (Op1.loadE rfl rD lT (by rfl)) | exact (Op1.loadEAgg rfl rD lT (by rfl))) rfl rfl sT kR kR kR xQP ?_
      refine WPD.take 7 rfl (by first | exact (Op1.load rfl mM (by rfl)) | exact (Op1.loadI rfl rD lT) | exact (Op1.loadAll rfl mM (by rfl)) | exact (Op1.loadE rfl rD lT (by rfl)) | exact (Op1.loadEAgg rfl rD lT (by rfl))) rfl rfl sT kR kR kR xQP ?_
      refine WPD.take 8 rfl (Op1.geI rfl rfl) rfl rfl sT kR kR kR xQP ?_
      refine WPD.take 9 rfl (by first | exact (Op1.pickT rfl rfl) | exact (Op1.pickF rfl rfl)) rfl rfl sT kR kR kR xQP ?_
      refine WPD.take 10 rfl (Op1.move rfl) rfl rfl sT kR kR kR xQP ?_
      first | refine WPD.splitD 41 rfl (fun h41 => ?t15) (fun h41 => ?f15) | refine WPD.split 41 rfl (fun h41 => ?t15) (fun h41 => ?f15)
      case' t15 =>
        refine WPD.skip 11 rfl rfl rfl sT kR kR kR xQP ?_
        refine WPD.skip 13 rfl rfl rfl sT kR kR kR xQP ?_
        refine WPD.skip 12 rfl rfl rfl sT kR kR kR xQP ?_
        refine WPD.skip 14 rfl rfl rfl sT kR kR kR xQP ?_
        refine WPD.skip 15 rfl rfl rfl sT kR kR kR xQP ?_
        refine WPD.take 16 rfl (by first | exact (Op1.pickT rfl rfl) | exact (Op1.pickF rfl rfl)) rfl rfl sT kR kR kR xQP ?_
        refine WPD.take 17 rfl (Op1.move rfl) rfl rfl sT kR kR kR xQP ?_
        refine WPD.skip 18 rfl rfl rfl sT kR kR kR xQP ?_
        refine WPD.skip 19 rfl rfl rfl sT kR kR kR xQP ?_
        refine WPD.skip 20 rfl rfl rfl sT kR kR kR xQP ?_
        refine WPD.skip 21 rfl rfl rfl sT kR kR kR xQP ?_
        refine WPD.skip 23 rfl rfl rfl sT kR kR kR xQP ?_
        refine WPD.skip 27 rfl rfl rfl sT kR kR kR xQP ?_
        refine WPD.skip 22 rfl rfl rfl sT kR kR kR xQP ?_
        refine WPD.skip 24 rfl rfl rfl sT kR kR kR xQP ?_
        refine WPD.skip 25 rfl rfl rfl sT kR kR kR xQP ?_
        refine WPD.skip 26 rfl rfl rfl sT kR kR kR xQP ?_
        refine WPD.skip 28 rfl rfl rfl sT kR kR kR xQP ?_
        refine WPD.skip 29 rfl rfl rfl sT kR kR kR xQP ?_
        refine WPD.skip 30 rfl rfl rfl sT kR kR kR xQP ?_
        refine WPD.take 31 rfl (by first | exact (Op1.pickT rfl rfl) | exact (Op1.pickF rfl rfl)) rfl rfl sT kR kR kR xQP ?_
        refine WPD.done kR ?_
      case' f15 =>
        refine WPD.take 11 rfl (by first | exact (Op1.fieldAddr rfl) | exact (Op1.fieldAddrE rfl rD lT)) rfl rfl sT kR kR kR xQP ?_
        refine WPD.take 13 rfl (by first | exact (Op1.fieldAddr rfl) | exact (Op1.fieldAddrE rfl rD lT)) rfl rfl sT kR kR kR xQP ?_
        refine WPD.take 12 rfl (by first | exact (Op1.load rfl mM (by rfl)) | exact (Op1.loadI rfl rD lT) | exact (Op1.loadAll rfl mM (by rfl)) | exact (Op1.loadE rfl rD lT (by rfl)) | exact (Op1.loadEAgg rfl rD lT (by rfl))) rfl rfl sT kR kR kR xQP ?_
        refine WPD.take 14 rfl (by first | exact (Op1.load rfl mM (by rfl)) | exact (Op1.loadI rfl rD lT) | exact (Op1.loadAll rfl mM (by rfl)) | exact (Op1.loadE rfl rD lT (by rfl)) | exact (Op1.loadEAgg rfl rD lT (by rfl))) rfl rfl sT kR kR kR xQP ?_
        refine WPD.take 15 rfl (Op1.geI rfl rfl) rfl rfl sT kR kR kR xQP ?_
        refine WPD.take 16 rfl (by first | exact (Op1.pickT rfl rfl) | exact (Op1.pickF rfl rfl)) rfl rfl sT kR kR kR xQP ?_
        refine WPD.take 17 rfl (Op1.move rfl) rfl rfl sT kR kR kR xQP ?_
        first | refine WPD.splitD 48 rfl (fun h48 => ?t16) (fun h48 => ?f16) | refine WPD.split 48 rfl (fun h48 => ?t16) (fun h48 => ?f16)
        case' t16 =>
          refine WPD.skip 18 rfl rfl rfl sT kR kR kR xQP ?_
          refine WPD.skip 19 rfl rfl rfl sT kR kR kR xQP ?_
          refine WPD.skip 20 rfl rfl rfl sT kR kR kR xQP ?_
          refine WPD.skip 21 rfl rfl rfl sT kR kR kR xQP ?_
          refine WPD.skip 23 rfl rfl rfl sT kR kR kR xQP ?_
          refine WPD.skip 27 rfl rfl rfl sT kR kR kR xQP ?_
          refine WPD.skip 22 rfl rfl rfl sT kR kR kR xQP ?_
          refine WPD.skip 24 rfl rfl rfl sT kR kR kR xQP ?_
          refine WPD.skip 25 rfl rfl rfl sT kR kR kR xQP ?_
          refine WPD.skip 26 rfl rfl rfl sT kR kR kR xQP ?_
          refine WPD.skip 28 rfl rfl rfl sT kR kR kR xQP ?_
          refine WPD.skip 29 rfl rfl rfl sT kR kR kR xQP ?_
          refine WPD.skip 30 rfl rfl rfl sT kR kR kR xQP ?_
          refine WPD.take 31 rfl (by first | exact (Op1.pickT rfl rfl) | exact (Op1.pickF rfl rfl)) rfl rfl sT kR kR kR xQP ?_
          refine WPD.done kR ?_
        case' f16 =>
          refine WPD.take 18 rfl (Op1.move rfl) rfl rfl sT kR kR kR xQP ?_
          refine WPD.take 19 rfl (Op1.gtI rfl rfl) rfl rfl sT kR kR kR xQP ?_
          refine WPD.take 20 rfl (Op1.move rfl) rfl rfl sT kR kR kR xQP ?_
          first | refine WPD.splitD 51 rfl (fun h51 => ?t17) (fun h51 => ?f17) | refine WPD.split 51 rfl (fun h51 => ?t17) (fun h51 => ?f17)
          case' t17 =>
            refine WPD.take 21 rfl (by first | exact (Op1.fieldAddr rfl) | exact (Op1.fieldAddrE rfl rD lT)) rfl rfl sT kR kR kR xQP ?_
            refine WPD.take 23 rfl (Op1.move rfl) rfl rfl sT kR kR kR xQP ?_
            refine WPD.take 27 rfl (by first | exact (Op1.load rfl mM (by rfl)) | exact (Op1.loadI rfl rD lT) | exact (Op1.loadAll rfl mM (by rfl)) | exact (Op1.loadE rfl rD lT (by rfl)) | exact (Op1.loadEAgg rfl rD lT (by rfl))) rfl rfl sT kR kR kR xQP ?_
            refine WPD.take 22 rfl (by first | exact (Op1.load rfl mM (by rfl)) | exact (Op1.loadI rfl rD lT) | exact (Op1.loadAll rfl mM (by rfl)) | exact (Op1.loadE rfl rD lT (by rfl)) | exact (Op1.loadEAgg rfl rD lT (by rfl))) rfl rfl sT kR kR kR xQP ?_
            refine WPD.take 24 rfl (Op1.sub rfl rfl (by omega)) rfl rfl sT kR kR kR xQP ?_
            refine WPD.take 25 rfl (by first | exact (Op1.indexAddr rfl rfl rD lT) | exact (Op1.indexAddrZ rfl rfl rD lT)) rfl rfl sT kR kR kR xQP ?_
            refine WPD.take 26 rfl (by first | exact (Op1.load rfl mM (by rfl)) | exact (Op1.loadI rfl rD lT) | exact (Op1.loadAll rfl mM (by rfl)) | exact (Op1.loadE rfl rD lT (by rfl)) | exact (Op1.loadEAgg rfl rD lT (by rfl))) rfl rfl sT kR kR kR xQP ?_
            refine WPD.eff 28 kR rfl (OpE.call lO (fun w hw => s_Less _ (es.getD ((k : Int) - 1).toNat eD) (es.getD k eD))) rfl rfl ?_
            rintro r _ ⟨T, ⟨rfl, rfl⟩, rfl⟩
            refine ⟨sT, ?_⟩
            refine WPD.take 29 rfl (by first | exact (Op1.notD rfl) | exact (Op1.not rfl)) rfl rfl sT kR kR kR xQP ?_
            refine WPD.take 30 rfl (by first | exact (Op1.pickT rfl rfl) | exact (Op1.pickF rfl rfl)) rfl rfl sT kR kR kR xQP ?_
            refine WPD.take 31 rfl (by first | exact (Op1.pickT rfl rfl) | exact (Op1.pickF rfl rfl)) rfl rfl sT kR kR kR xQP ?_
            refine WPD.done kR ?_
          case' f17 =>
            refine WPD.skip 21 rfl rfl rfl sT kR kR kR xQP ?_
            refine WPD.skip 23 rfl rfl rfl sT kR kR kR xQP ?_
            refine WPD.skip 27 rfl rfl rfl sT kR kR kR xQP ?_
            refine WPD.skip 22 rfl rfl rfl sT kR kR kR xQP ?_
            refine WPD.skip 24 rfl rfl rfl sT kR kR kR xQP ?_
            refine WPD.skip 25 rfl rfl rfl sT kR kR kR xQP ?_
            refine WPD.skip 26 rfl rfl rfl sT kR kR kR xQP ?_
            refine WPD.skip 28 rfl rfl rfl sT kR kR kR xQP ?_
            refine WPD.skip 29 rfl rfl rfl sT kR kR kR xQP ?_
            refine WPD.take 30 rfl (by first | exact (Op1.pickT rfl rfl) | exact (Op1.pickF rfl rfl)) rfl rfl sT kR kR kR xQP ?_
            refine WPD.take 31 rfl (by first | exact (Op1.pickT rfl rfl) | exact (Op1.pickF rfl rfl)) rfl rfl sT kR kR kR xQP ?_
            refine WPD.done kR ?_
    all_goals (repeat' (first | exact absurd rfl hc | refine go ⟨?_⟩ | (refine isCond ?_; refine WP.condD rfl (fun hc => ?_) (fun hc => ?_)) | (refine isGuard ?_; refine WPL.splitD rfl rfl (fun hc => ?_) (fun hc => ?_))))
    · refine PE.again (k + 1) ?_ ?_ sE sT
      · refine ⟨by omega, fun i hi => ?_⟩
        rcases Nat.lt_succ_iff_lt_or_eq.1 hi with h' | rfl
        · exact hm i h'
        · exact ⟨by omega, by omega, by omega, fun h => by omega⟩
      · omega
    · refine PE.ret1 (T := []) (T' := []) rfl rV ?_ sT
      rw [ek] at hc
      exact ⟨bad' fun h => hc (h.2.2.2 (by omega)), rfl⟩
    · refine PE.again (k + 1) ?_ ?_ sE sT
      · refine ⟨by omega, fun i hi => ?_⟩
        rcases Nat.lt_succ_iff_lt_or_eq.1 hi with h' | rfl
        · exact hm i h'
        · rw [ek] at hc
          exact ⟨by omega, by omega, by omega, fun _ => Decidable.not_not.1 hc⟩
      · omega
    all_goals (refine PE.ret1 (T := []) (T' := []) rfl rV ?_ sT; exact ⟨bad' fun h => by have h1 := h.1; have h2 := h.2.1; have h3 := h.2.2.1; omega, rfl⟩)
  · try refine go ⟨?_⟩
    refine PE.ret1 (T := []) (T' := []) rfl rV ?_ sT
    have : k = es.length := by omega
    subst this
    exact ⟨by rw [decide_eq_true]; exact ⟨by omega, by omega, by omega, hm⟩, rfl⟩

theorem s_Find (w : World) (v : Value) (e : E) (es : List E) (h : RL w v es) (hl : es.length ≤ 1099511627776) :
    Tri Try.prog 151 [v, ep e] w [] fun r T => T = [] ∧ ((e ∈ es ∧ ∃ n : Nat, n < es.length ∧ r = .int .i64 n ∧ es.getD n eD = e ∧ ∀ m, m < n → es.getD m eD ≠ e) ∨ (e ∉ es ∧ r = .int .i64 (-1))) := by
  refine Tri.intro (hf := Try.func151) (hb := rfl) (hn := Try.ntmps151) (Nat.le_of_ble_eq_true rfl) ?_
  try refine go ⟨?_⟩
  refine WPL.eff (OpE.box rfl) rfl rfl ?_; rintro _ _ ⟨b, rfl, rfl⟩
  try refine go ⟨?_⟩
  refine WP.loop (σ := Nat) (fun k => [(0, v), (3, .pointer (some ⟨b, 0, none⟩)), (5, .int .i64 k)]) (fun _ => [Tok.blk b [.int .i64 e.A, .int .i64 e.B]]) (fun k => k ≤ es.length ∧ ∀ m, m < k → es.getD m eD ≠ e) (fun k => es.length - k) 0 ⟨Nat.zero_le _, by omega⟩ sE sT ?_
  rintro k ⟨hk, hm⟩
  try refine go ⟨?_⟩
  refine WP.condD rfl (fun hc => ?_) (fun hc => ?_)
  · try refine go ⟨?_⟩
    refine WP.draw [Tok.blk b [.int .i64 e.A, .int .i64 e.B]] mixed ?_
    refine WPD.take 0 rfl (Op1.move rfl) rfl rfl sT kR kR kR xQP ?_
    refine WPD.take 1 rfl (Op1.move rfl) rfl rfl sT kR kR kR xQP ?_
    refine WPD.take 4 rfl (by first | exact (Op1.load rfl mM (by rfl)) | exact (Op1.loadI rfl rD lT) | exact (Op1.loadAll rfl mM (by rfl)) | exact (Op1.loadE rfl rD lT (by rfl)) | exact (Op1.loadEAgg rfl rD lT (by rfl))) rfl rfl sT kR kR kR xQP ?_
    refine WPD.take 2 rfl (by first | exact (Op1.indexAddr rfl rfl rD lT) | exact (Op1.indexAddrZ rfl rfl rD lT)) rfl rfl sT kR kR kR xQP ?_
    refine WPD.take 3 rfl (by first | exact (Op1.load rfl mM (by rfl)) | exact (Op1.loadI rfl rD lT) | exact (Op1.loadAll rfl mM (by rfl)) | exact (Op1.loadE rfl rD lT (by rfl)) | exact (Op1.loadEAgg rfl rD lT (by rfl))) rfl rfl sT kR kR kR xQP ?_
    refine WPD.take 5 rfl (by first | exact (Op1.eqI rfl rfl) | exact (Op1.eqB rfl rfl) | exact (Op1.eqE rfl rfl) | exact (Op1.eqNil rfl rD)) rfl rfl sT kR kR kR xQP ?_
    refine WPD.done kR ?_
    try refine go ⟨?_⟩
    refine WP.condD rfl (fun he => ?_) (fun he => ?_)
    · try refine go ⟨?_⟩
      refine PE.ret1 (T := []) (T' := []) rfl rV ?_ sT
      have hk' : k < es.length := by omega
      have he : es.getD k eD = e := he
      exact ⟨rfl, .inl ⟨he ▸ getD_memI hk', k, hk', rfl, he, hm⟩⟩
    · try refine go ⟨?_⟩
      refine PE.again (k + 1) ?_ ?_ sE sT
      · refine ⟨by omega, fun m hm' => ?_⟩
        rcases Nat.lt_succ_iff_lt_or_eq.1 hm' with h' | rfl
        · exact hm m h'
        · exact fun h2 => he h2
      · omega
  · try refine go ⟨?_⟩
    refine PE.ret1 (T := []) (T' := []) rfl rV ?_ sT
    refine ⟨rfl, .inr ⟨fun hx => ?_, rfl⟩⟩
    obtain ⟨n, hn, h2⟩ := mem_getD (d := eD) hx
    exact hm n (by omega) h2

theorem s_Without (w : World) (v : Value) (e : E) (es : List E) (h : RL w v es) (hl : es.length ≤ 1000000) :
    Tri Try.prog 153 [v, ep e] w [] fun r T => T = [Tok.own r (rem es e)] := by
  refine Tri.intro (hf := Try.func153) (hb := rfl) (hn := Try.ntmps153) (Nat.le_of_ble_eq_true rfl) ?_
  try refine go ⟨?_⟩
  refine WPL.eff (OpE.box rfl) rfl rfl ?_; rintro _ _ ⟨b, rfl, rfl⟩
  try refine go ⟨?_⟩
  refine WPL.eff (OpE.buildSlice ([] : List E) pA rfl (by decide)) rfl rfl ?_; rintro s _ rfl
  try refine go ⟨?_⟩
  refine WP.loop (σ := Nat × Value) (fun k => [(0, v), (3, .pointer (some ⟨b, 0, none⟩)), (5, k.2), (6, .int .i64 k.1)]) (fun k => [Tok.own k.2 ((es.take k.1).filter fun f => decide (f ≠ e)), Tok.blk b [.int .i64 e.A, .int .i64 e.B]]) (fun k => k.1 ≤ es.length) (fun k => es.length - k.1) (0, s) (Nat.zero_le _) sE sT ?_
  rintro ⟨k, u⟩ hk
  dsimp only at hk ⊢
  try refine go ⟨?_⟩
  refine WP.condD rfl (fun hc => ?_) (fun hc => ?_)
  · have hk' : k < es.length := by omega
    have hfl := filt_le es k fun f => decide (f ≠ e)
    try refine go ⟨?_⟩
    refine WP.draw [Tok.blk b [.int .i64 e.A, .int .i64 e.B]] mixed ?_
    refine WPD.take 0 rfl (Op1.move rfl) rfl rfl sT kR kR kR xQP ?_
    refine WPD.take 1 rfl (Op1.move rfl) rfl rfl sT kR kR kR xQP ?_
    refine WPD.take 4 rfl (by first | exact (Op1.load rfl mM (by rfl)) | exact (Op1.loadI rfl rD lT) | exact (Op1.loadAll rfl mM (by rfl)) | exact (Op1.loadE rfl rD lT (by rfl)) | exact (Op1.loadEAgg rfl rD lT (by rfl))) rfl rfl sT kR kR kR xQP ?_
    refine WPD.take 2 rfl (by first | exact (Op1.indexAddr rfl rfl rD lT) | exact (Op1.indexAddrZ rfl rfl rD lT)) rfl rfl sT kR kR kR xQP ?_
    refine WPD.take 3 rfl (by first | exact (Op1.load rfl mM (by rfl)) | exact (Op1.loadI rfl rD lT) | exact (Op1.loadAll rfl mM (by rfl)) | exact (Op1.loadE rfl rD lT (by rfl)) | exact (Op1.loadEAgg rfl rD lT (by rfl))) rfl rfl sT kR kR kR xQP ?_
    refine WPD.take 5 rfl (by first | exact (Op1.neI rfl rfl) | exact (Op1.neB rfl rfl) | exact (Op1.neE rfl rfl)) rfl rfl sT kR kR kR xQP ?_
    refine WPD.done kR ?_
    try refine go ⟨?_⟩
    refine WP.condD rfl (fun he => ?_) (fun he => ?_)
    · try refine go ⟨?_⟩
      refine WPL.eff (OpE.buildSlice [es.getD k eD] pA rfl (by decide)) rfl rfl ?_; rintro s1 _ rfl
      try refine go ⟨?_⟩
      refine WPL.eff (OpE.append rfl rfl pM rD lN) rfl rfl ?_; rintro u1 _ rfl
      try refine go ⟨?_⟩
      rw [← filt_yes (d := eD) (p := fun f => decide (f ≠ e)) hk' (decide_eq_true he)]
      refine PE.again (k + 1, u1) ?_ ?_ sE sT
      · dsimp only; omega
      · dsimp only; omega
    · try refine go ⟨?_⟩
      rw [← filt_no (d := eD) (p := fun f => decide (f ≠ e)) hk' (decide_eq_false he)]
      refine PE.again (k + 1, u) ?_ ?_ sE sT
      · dsimp only; omega
      · dsimp only; omega
  · have hkn : k = es.length := by omega
    subst hkn
    rw [List.take_length]
    try refine go ⟨?_⟩
    refine PE.ret1 (T := []) (T' := [Tok.own u (rem es e)]) rfl rV ?_ sT
    rfl

theorem s_Put (w : World) (v : Value) (e : E) (es : List E) (h : RL w v es) (hl : es.length ≤ 1000000) :
    Tri Try.prog 152 [v, ep e] w [] fun r T => T = [Tok.own r (insP es e)] := by
  refine Tri.intro (hf := Try.func152) (hb := rfl) (hn := Try.ntmps152) (Nat.le_of_ble_eq_true rfl) ?_
  try refine go ⟨?_⟩
  refine WPL.eff (OpE.box rfl) rfl rfl ?_; rintro _ _ ⟨b, rfl, rfl⟩
  try refine go ⟨?_⟩
  refine WPL.eff (OpE.buildSlice ([] : List E) pA rfl (by decide)) rfl rfl ?_; rintro s _ rfl
  try refine go ⟨?_⟩
  refine WP.loop (σ := Nat × Bool × Nat × Value) (fun k => [(0, v), (3, .pointer (some ⟨b, 0, none⟩)), (5, k.2.2.2), (6, .bool k.2.1), (7, .int .i64 k.1)]) (fun k => [Tok.own k.2.2.2 (putL es e k.1 k.2.1 k.2.2.1), Tok.blk b [.int .i64 e.A, .int .i64 e.B]])
    (fun k => k.1 ≤ es.length ∧ (k.2.1 = false → ∀ m, m < k.1 → ¬ ltE e (es.getD m eD)) ∧ (k.2.1 = true → k.2.2.1 < k.1 ∧ (∀ m, m < k.2.2.1 → ¬ ltE e (es.getD m eD)) ∧ ltE e (es.getD k.2.2.1 eD))) (fun k => es.length - k.1) (0, false, 0, s) ⟨Nat.zero_le _, fun _ m hm => absurd hm (Nat.not_lt_zero _), fun h => by cases h⟩ sE ?_ ?_
  · have e0 : putL es e 0 false 0 = [] := by simp [putL]
    dsimp only; rw [e0]; exact sT
  rintro ⟨k, d, q, u⟩ ⟨hk, h1, h2⟩
  dsimp only at hk h1 h2 ⊢
  have hpl := putL_len es e k d q
  have hpl2 := putL_len es e k true k
  try refine go ⟨?_⟩
  refine WP.condD rfl (fun hc => ?_) (fun hc => ?_)
  · have hk' : k < es.length := by omega
    try refine go ⟨?_⟩
    refine WP.draw [Tok.blk b [.int .i64 e.A, .int .i64 e.B]] mixed ?_
    refine WPD.take 0 rfl (Op1.move rfl) rfl rfl sT kR kR kR xQP ?_
    refine WPD.take 1 rfl (by first | exact (Op1.notD rfl) | exact (Op1.not rfl)) rfl rfl sT kR kR kR xQP ?_
    refine WPD.take 2 rfl (Op1.move rfl) rfl rfl sT kR kR kR xQP ?_
    first | refine WPD.splitD 17 rfl (fun h17 => ?t18) (fun h17 => ?f18) | refine WPD.split 17 rfl (fun h17 => ?t18) (fun h17 => ?f18)
    case' t18 =>
      refine WPD.take 3 rfl (by first | exact (Op1.load rfl mM (by rfl)) | exact (Op1.loadI rfl rD lT) | exact (Op1.loadAll rfl mM (by rfl)) | exact (Op1.loadE rfl rD lT (by rfl)) | exact (Op1.loadEAgg rfl rD lT (by rfl))) rfl rfl sT kR kR kR xQP ?_
      refine WPD.take 4 rfl (Op1.move rfl) rfl rfl sT kR kR kR xQP ?_
      refine WPD.take 5 rfl (Op1.move rfl) rfl rfl sT kR kR kR xQP ?_
      refine WPD.take 6 rfl (by first | exact (Op1.indexAddr rfl rfl rD lT) | exact (Op1.indexAddrZ rfl rfl rD lT)) rfl rfl sT kR kR kR xQP ?_
      refine WPD.take 7 rfl (by first | exact (Op1.load rfl mM (by rfl)) | exact (Op1.loadI rfl rD lT) | exact (Op1.loadAll rfl mM (by rfl)) | exact (Op1.loadE rfl rD lT (by rfl)) | exact (Op1.loadEAgg rfl rD lT (by rfl))) rfl rfl sT kR kR kR xQP ?_
      refine WPD.eff 8 kR rfl (OpE.call lO (fun w hw => s_Less _ e (es.getD k eD))) rfl rfl ?_
      rintro r _ ⟨T, ⟨rfl, rfl⟩, rfl⟩
      refine ⟨sT, ?_⟩
      refine WPD.take 9 rfl (by first | exact (Op1.pickT rfl rfl) | exact (Op1.pickF rfl rfl)) rfl rfl sT kR kR kR xQP ?_
      refine WPD.done kR ?_
    case' f18 =>
      refine WPD.skip 3 rfl rfl rfl sT kR kR kR xQP ?_
      refine WPD.skip 4 rfl rfl rfl sT kR kR kR xQP ?_
      refine WPD.skip 5 rfl rfl rfl sT kR kR kR xQP ?_
      refine WPD.skip 6 rfl rfl rfl sT kR kR kR xQP ?_
      refine WPD.skip 7 rfl rfl rfl sT kR kR kR xQP ?_
      refine WPD.skip 8 rfl rfl rfl sT kR kR kR xQP ?_
      refine WPD.take 9 rfl (by first | exact (Op1.pickT rfl rfl) | exact (Op1.pickF rfl rfl)) rfl rfl sT kR kR kR xQP ?_
      refine WPD.done kR ?_
    · -- done
      have hd : d = true := by simpa using h17
      subst hd
      obtain ⟨hq, hq1, hq2⟩ := h2 rfl
      try refine go ⟨?_⟩
      refine WPL.eff (OpE.buildSlice [es.getD k eD] pA rfl (by decide)) rfl rfl ?_; rintro s1 _ rfl
      try refine go ⟨?_⟩
      refine WPL.eff (OpE.append rfl rfl pM rD lN) rfl rfl ?_; rintro u1 _ rfl
      try refine go ⟨?_⟩
      rw [← putL_step hk' (fun _ => by omega)]
      refine PE.again (k + 1, true, q, u1) ?_ ?_ sE sT
      · exact ⟨hk', fun h => (by cases h), fun _ => ⟨by dsimp only; omega, hq1, hq2⟩⟩
      · dsimp only; omega
    · have hd : d = false := by simpa using h17
      subst hd
      try refine go ⟨?_⟩
      refine WP.condD rfl (fun hlt => ?_) (fun hlt => ?_)
      · try refine go ⟨?_⟩
        refine WPL.eff (OpE.buildSlice [e] pA rfl (by decide)) rfl rfl ?_; rintro s1 _ rfl
        try refine go ⟨?_⟩
        refine WPL.eff (OpE.append rfl rfl pM rD lN) rfl rfl ?_; rintro u1 _ rfl
        try refine go ⟨?_⟩
        have e1 : putL es e k false q ++ [e] = putL es e k true k := by
          show es.take k ++ [e] = es.take k ++ e :: (es.take k).drop k
          rw [List.drop_eq_nil_of_le (by rw [List.length_take]; omega)]
        rw [e1]
        refine WPL.eff (OpE.buildSlice [es.getD k eD] pA rfl (by decide)) rfl rfl ?_; rintro s2 _ rfl
        try refine go ⟨?_⟩
        refine WPL.eff (OpE.append rfl rfl pM rD lN) rfl rfl ?_; rintro u2 _ rfl
        try refine go ⟨?_⟩
        rw [← putL_step hk' (fun _ => Nat.le_refl _)]
        refine PE.again (k + 1, true, k, u2) ?_ ?_ sE sT
        · exact ⟨hk', fun h => (by cases h), fun _ => ⟨by dsimp only; omega, h1 rfl, hlt⟩⟩
        · dsimp only; omega
      · try refine go ⟨?_⟩
        refine WPL.eff (OpE.buildSlice [es.getD k eD] pA rfl (by decide)) rfl rfl ?_; rintro s1 _ rfl
        try refine go ⟨?_⟩
        refine WPL.eff (OpE.append rfl rfl pM rD lN) rfl rfl ?_; rintro u1 _ rfl
        try refine go ⟨?_⟩
        rw [← putL_step hk' (fun h => by cases h)]
        refine PE.again (k + 1, false, q, u1) ?_ ?_ sE sT
        · refine ⟨hk', fun _ m hm => ?_, fun h => by cases h⟩
          dsimp only at hm
          rcases Nat.lt_succ_iff_lt_or_eq.1 hm with h' | rfl
          · exact h1 rfl m h'
          · exact hlt
        · dsimp only; omega
  · have hkn : k = es.length := by omega
    subst hkn
    cases d
    · try refine go ⟨?_⟩
      refine WPL.eff (OpE.buildSlice [e] pA rfl (by decide)) rfl rfl ?_; rintro s1 _ rfl
      try refine go ⟨?_⟩
      refine WPL.eff (OpE.append rfl rfl pM rD lN) rfl rfl ?_; rintro u1 _ rfl
      try refine go ⟨?_⟩
      refine PE.ret1 (T := []) (T' := [Tok.own u1 (putL es e es.length false q ++ [e])]) rfl rV ?_ sT
      have := insP_at (q := es.length) (h1 rfl) (fun h => absurd h (Nat.lt_irrefl _)) (Nat.le_refl _)
      rw [this]
      show [Tok.own u1 (es.take es.length ++ [e])] = _
      simp
    · obtain ⟨hq, hq1, hq2⟩ := h2 rfl
      try refine go ⟨?_⟩
      refine PE.ret1 (T := []) (T' := [Tok.own u (putL es e es.length true q)]) rfl rV ?_ sT
      have := insP_at (q := q) hq1 (fun _ => hq2) (by omega)
      rw [this]
      show [Tok.own u (es.take q ++ e :: (es.take es.length).drop q)] = _
      rw [List.take_length]
end Go.Proofs.Ytfigegmgopnfhaa
/- Graphs: the walks of the second program's labels, parts, forests, PutEdge, CutNode. Conditions: those of each contract. -/
namespace Go.Proofs.Ytfigegmgopnfhaa
open Go
set_option linter.unusedVariables false set_option linter.unusedSimpArgs false attribute [local irreducible] Tok.own Tok.blk RL Rd eptr WP WPL PE WPD WPO Op1 OpE Tri Again Mid Exit.then Exit.inBlock bodyPost RP Code.wp wpList isOwn OneM One
set_option maxHeartbeats 8000000

theorem s_Labels (w : World) (n : Int) (vE : Value) (es : List E) (hE : RL w vE es) (hg : NE n es) :
    Tri Try.prog 119 [.agg #[.int .i64 n, vE]] w [] fun r T => T = [Tok.own r (labs n es)] := by
  have hl := hg.le
  have hn1 := hg.n1
  have hn2 := hg.n2
  refine Tri.intro (hf := Try.func119) (hb := rfl) (hn := Try.ntmps119) (Nat.le_of_ble_eq_true rfl) ?_
  try refine go ⟨?_⟩
  refine WPL.eff (OpE.box rfl) rfl rfl ?_; rintro _ _ ⟨b, rfl, rfl⟩
  try refine go ⟨?_⟩
  refine WPL.eff (OpE.buildSlice ([] : List Int) pA rfl (by decide)) rfl rfl ?_; rintro s _ rfl
  try refine go ⟨?_⟩
  refine WP.loop (σ := Nat × Value) (fun k => [(1, .pointer (some ⟨b, 0, none⟩)), (3, k.2), (4, .int .i64 k.1)]) (fun k => [Tok.own k.2 (iota k.1), Tok.blk b [.int .i64 n, vE]]) (fun k => k.1 ≤ n.toNat) (fun k => n.toNat - k.1) (0, s) (Nat.zero_le _) sE sT ?_
  rintro ⟨k, v⟩ hk
  dsimp only at hk ⊢
  try refine go ⟨?_⟩
  refine WP.condD rfl (fun hc => ?_) (fun hc => ?_)
  · try refine go ⟨?_⟩
    refine WPL.eff (OpE.buildSlice [(k : Int)] pA rfl (by decide)) rfl rfl ?_; rintro s1 _ rfl
    try refine go ⟨?_⟩
    have hil := iota_length k
    refine WPL.eff (OpE.append rfl rfl pM rD lN) rfl rfl ?_; rintro v1 _ rfl
    try refine go ⟨?_⟩
    rw [← iota_succ]
    refine PE.again (k + 1, v1) ?_ ?_ sE sT
    · dsimp only; omega
    · dsimp only; omega
  have hkn : k = n.toNat := by omega
  subst hkn
  try refine go ⟨?_⟩
  refine WP.loop (σ := Nat × Bool) (fun k => [(1, .pointer (some ⟨b, 0, none⟩)), (3, v), (5, .bool k.2)]) (fun k => [Tok.own v (rnd es (iota n.toNat) k.1), Tok.blk b [.int .i64 n, vE]]) (fun k => (k.2 = true → k.1 ≤ n.toNat) ∧ (k.2 = false → Stab es (rnd es (iota n.toNat) k.1))) (fun k => if k.2 = true then n.toNat - k.1 + 1 else 0) (0, true) ⟨fun _ => Nat.zero_le _, fun h => by cases h⟩ sE sT ?_
  rintro ⟨k, again⟩ ⟨hk1, hk2⟩
  dsimp only at hk1 hk2 ⊢
  try refine go ⟨?_⟩
  refine WP.cond rfl (fun hag => ?_) (fun hag => ?_)
  · subst hag
    have hk := hk1 rfl
    obtain ⟨O, hO⟩ : ∃ O, O = rnd es (iota n.toNat) k := ⟨_, rfl⟩
    have hOl : O.length = n.toNat := by rw [hO, rnd_length, iota_length]
    rw [← hO]
    try refine go ⟨?_⟩
    refine WP.loop (σ := Nat × Bool) (fun j => [(1, .pointer (some ⟨b, 0, none⟩)), (3, v), (5, .bool j.2), (6, .int .i64 j.1)]) (fun j => [Tok.own v ((es.take j.1).foldl relx O), Tok.blk b [.int .i64 n, vE]])
      (fun j => j.1 ≤ es.length ∧ (j.2 = false → (es.take j.1).foldl relx O = O ∧ ∀ i, i < j.1 → O.getD (es.getD i eD).A.toNat 0 = O.getD (es.getD i eD).B.toNat 0) ∧ (j.2 = true → ¬ Stab es O)) (fun j => es.length - j.1) (0, false) ⟨Nat.zero_le _, fun _ => ⟨rfl, fun i hi => absurd hi (Nat.not_lt_zero _)⟩, fun h => by cases h⟩ sE sT ?_
    rintro ⟨j, ch⟩ ⟨hj, hj1, hj2⟩
    dsimp only at hj hj1 hj2 ⊢
    try refine go ⟨?_⟩
    refine WP.condD rfl (fun hc3 => ?_) (fun hc3 => ?_)
    · have hj' : j < es.length := by omega
      have hs := foldl_takeS eD relx O hj'
      obtain ⟨out, ho⟩ : ∃ out, out = (es.take j).foldl relx O := ⟨_, rfl⟩
      have hol : out.length = n.toNat := by rw [ho, fold_length, hOl]
      rw [← ho] at hs hj1 ⊢
      obtain ⟨hA, hB⟩ := hg.ok (es.getD j eD) (getD_memI hj')
      have hA1 : 0 ≤ (es.getD j (Enc.d : E)).A := hA.1
      have hA2 : (es.getD j (Enc.d : E)).A < n := hA.2
      have hB1 : 0 ≤ (es.getD j (Enc.d : E)).B := hB.1
      have hB2 : (es.getD j (Enc.d : E)).B < n := hB.2
      have hns : out.getD (es.getD j eD).A.toNat 0 ≠ out.getD (es.getD j eD).B.toNat 0 → ¬ Stab es O := by
        intro hne hst
        cases ch
        · rw [(hj1 rfl).1] at hne
          exact hne (hst _ (getD_memI hj'))
        · exact hj2 rfl hst
      repeat' (first | exact absurd rfl hc | refine go ⟨?_⟩ | (refine isCond ?_; refine WP.condD rfl (fun hc => ?_) (fun hc => ?_)) | (refine isGuard ?_; refine WPL.splitD rfl rfl (fun hc => ?_) (fun hc => ?_)))
      · have h1 : out.getD (es.getD j eD).A.toNat 0 < out.getD (es.getD j eD).B.toNat 0 := hc
        refine WPL.eff0 (OpE.store1 (out.getD (es.getD j eD).A.toNat 0) rfl rfl pM (by omega) rfl) rfl ?_; rintro _ _ rfl
        repeat' (first | exact absurd rfl hc | refine go ⟨?_⟩ | (refine isCond ?_; refine WP.condD rfl (fun hc => ?_) (fun hc => ?_)) | (refine isGuard ?_; refine WPL.splitD rfl rfl (fun hc => ?_) (fun hc => ?_)))
        · omega
        · have e1 := relx_lt h1
          rw [← hs] at e1
          rw [show out.set (es.getD j (Enc.d : E)).B.toNat (out.getD (es.getD j eD).A.toNat 0) = _ from e1]
          refine PE.again (j + 1, true) ?_ ?_ sE sT
          · exact ⟨hj', fun h => (by cases h), fun _ => hns (by omega)⟩
          · dsimp only; omega
      · have h1 : out.getD (es.getD j eD).B.toNat 0 < out.getD (es.getD j eD).A.toNat 0 := hc
        refine WPL.eff0 (OpE.store1 (out.getD (es.getD j eD).B.toNat 0) rfl rfl pM (by omega) rfl) rfl ?_; rintro _ _ rfl
        repeat' (first | exact absurd rfl hc | refine go ⟨?_⟩ | (refine isCond ?_; refine WP.condD rfl (fun hc => ?_) (fun hc => ?_)) | (refine isGuard ?_; refine WPL.splitD rfl rfl (fun hc => ?_) (fun hc => ?_)))
        have e1 := relx_gt h1
        rw [← hs] at e1
        rw [show out.set (es.getD j (Enc.d : E)).A.toNat (out.getD (es.getD j eD).B.toNat 0) = _ from e1]
        refine PE.again (j + 1, true) ?_ ?_ sE sT
        · exact ⟨hj', fun h => (by cases h), fun _ => hns (by omega)⟩
        · dsimp only; omega
      · have h2 : ¬ (out.getD (es.getD j eD).A.toNat 0 < out.getD (es.getD j eD).B.toNat 0) := by assumption
        have h3 : ¬ (out.getD (es.getD j eD).B.toNat 0 < out.getD (es.getD j eD).A.toNat 0) := hc
        have h1 : out.getD (es.getD j eD).A.toNat 0 = out.getD (es.getD j eD).B.toNat 0 := by omega
        have hsame := relx_same hol hA hB h1
        rw [hsame] at hs
        rw [← hs]
        refine PE.again (j + 1, ch) ?_ ?_ sE sT
        · refine ⟨hj', fun h => ?_, hj2⟩
          obtain ⟨g3, g4⟩ := hj1 h
          refine ⟨by rw [hs]; exact g3, fun i hi => ?_⟩
          dsimp only at hi
          rcases Nat.lt_succ_iff_lt_or_eq.1 hi with h' | rfl
          · exact g4 i h'
          · rw [← g3]; exact h1
        · dsimp only; omega
    · have hjn : j = es.length := by omega
      subst hjn
      rw [List.take_length] at hj1 ⊢
      have hrs : es.foldl relx O = rnd es (iota n.toNat) (k + 1) := by rw [hO]; rfl
      rw [hrs] at hj1 ⊢
      try refine go ⟨?_⟩
      refine PE.again (k + 1, ch) ?_ ?_ sE sT
      · refine ⟨fun h => ?_, fun h => ?_⟩
        · have := hj2 h
          rw [hO] at this
          have h5 : ¬ n.toNat ≤ k := fun h6 => this (rnd_stab hg.ok h6)
          dsimp only; omega
        · obtain ⟨h3, h4⟩ := hj1 h
          dsimp only
          rw [h3]
          intro e he
          obtain ⟨i, hi, rfl⟩ := mem_getD (d := eD) he
          exact h4 i hi
      · dsimp only
        rw [if_pos rfl]
        split
        · rename_i h
          have := hj2 h
          rw [hO] at this
          have h5 : ¬ n.toNat ≤ k := fun h6 => this (rnd_stab hg.ok h6)
          omega
        · omega
  · subst hag
    try refine go ⟨?_⟩
    refine PE.ret1 (T := []) (T' := [Tok.own v (rnd es (iota n.toNat) k)]) rfl rV ?_ sT
    rw [← labs_unique hg.ok (Lab.rnd hg.ok k) (hk2 rfl)]

theorem s_Node2 (w : World) (n : Int) (vE : Value) (es : List E) (x : Int) (hE : RL w vE es) (hl : es.length ≤ 1099511627776) :
    Tri Try.prog 102 [.agg #[.int .i64 n, vE], .int .i64 x] w [] fun r T => r = .bool (decide (GN n es x)) ∧ T = [] := by
  refine Tri.intro (hf := Try.func102) (hb := rfl) (hn := Try.ntmps102) (Nat.le_of_ble_eq_true rfl) ?_
  try refine go ⟨?_⟩
  refine WPL.eff (OpE.box rfl) rfl rfl ?_; rintro _ _ ⟨b, rfl, rfl⟩
  try refine go ⟨?_⟩
  refine WPL.eff (OpE.call lO (fun w hw => s_GraphValid _ n vE es (Rd.at rD hw) hl)) rfl rfl ?_
  rintro r _ ⟨T, ⟨rfl, rfl⟩, rfl⟩
  repeat' (first | refine go ⟨?_⟩ | (refine isCond ?_; refine WP.condD rfl (fun hc => ?_) (fun hc => ?_)) | (refine isGuard ?_; refine WPL.splitD rfl rfl (fun hc => ?_) (fun hc => ?_)))
  all_goals (refine PE.ret1 (T := []) (T' := []) rfl rV ?_ sT)
  · refine ⟨?_, rfl⟩
    congr 1; rw [decide_eq_decide]; unfold GN Nd; constructor
    · intro h; exact ⟨by assumption, by assumption, h⟩
    · intro h; exact h.2.2
  · refine ⟨?_, rfl⟩
    rw [decide_eq_false]; unfold GN Nd; omega
  · refine ⟨?_, rfl⟩
    rw [decide_eq_false]; unfold GN; intro h; exact absurd h.1 ‹_›

theorem s_Joined (w : World) (n : Int) (vE : Value) (es : List E) (x y : Int) (hE : RL w vE es) (hg : NE n es) (hx : Nd n x) (hy : Nd n y) :
    Tri Try.prog 92 [.agg #[.int .i64 n, vE], .int .i64 x, .int .i64 y] w [] fun r T => r = .bool (decide (cn n es x y)) ∧ T = [] := by
  have hx1 := hx.1
  have hx2 := hx.2
  have hy1 := hy.1
  have hy2 := hy.2
  have hll := labs_length n es
  refine Tri.intro (hf := Try.func92) (hb := rfl) (hn := Try.ntmps92) (Nat.le_of_ble_eq_true rfl) ?_
  try refine go ⟨?_⟩
  refine WPL.eff (OpE.box rfl) rfl rfl ?_; rintro _ _ ⟨b, rfl, rfl⟩
  try refine go ⟨?_⟩
  refine WPL.eff (OpE.call lO (fun w hw => s_Labels _ n vE es (Rd.at rD hw) hg)) rfl rfl ?_
  rintro r _ ⟨T, rfl, rfl⟩
  try refine go ⟨?_⟩
  refine WP.draw [Tok.own r (labs n es)] mixed ?_
  refine WPD.take 0 rfl (Op1.move rfl) rfl rfl sT kR kR kR xQP ?_
  refine WPD.take 1 rfl (Op1.move rfl) rfl rfl sT kR kR kR xQP ?_
  refine WPD.take 4 rfl (Op1.move rfl) rfl rfl sT kR kR kR xQP ?_
  refine WPD.take 5 rfl (Op1.move rfl) rfl rfl sT kR kR kR xQP ?_
  refine WPD.take 2 rfl (by first | exact (Op1.indexAddr rfl rfl rD lT) | exact (Op1.indexAddrZ rfl rfl rD lT)) rfl rfl sT kR kR kR xQP ?_
  refine WPD.take 6 rfl (by first | exact (Op1.indexAddr rfl rfl rD lT) | exact (Op1.indexAddrZ rfl rfl rD lT)) rfl rfl sT kR kR kR xQP ?_
  refine WPD.take 3 rfl (by first | exact (Op1.load rfl mM (by rfl)) | exact (Op1.loadI rfl rD lT) | exact (Op1.loadAll rfl mM (by rfl)) | exact (Op1.loadE rfl rD lT (by rfl)) | exact (Op1.loadEAgg rfl rD lT (by rfl))) rfl rfl sT kR kR kR xQP ?_
  refine WPD.take 7 rfl (by first | exact (Op1.load rfl mM (by rfl)) | exact (Op1.loadI rfl rD lT) | exact (Op1.loadAll rfl mM (by rfl)) | exact (Op1.loadE rfl rD lT (by rfl)) | exact (Op1.loadEAgg rfl rD lT (by rfl))) rfl rfl sT kR kR kR xQP ?_
  refine WPD.take 8 rfl (by first | exact (Op1.eqI rfl rfl) | exact (Op1.eqB rfl rfl) | exact (Op1.eqE rfl rfl) | exact (Op1.eqNil rfl rD)) rfl rfl sT kR kR kR xQP ?_
  refine WPD.eff 9 kR rfl (OpE.ofPure (Op1.assign rfl)) rfl rfl ?_
  rintro _ _ ⟨rfl, rfl⟩
  refine ⟨sT, ?_⟩
  refine WPD.done kR ?_
  try refine go ⟨?_⟩
  refine PE.ret1 (T := []) (T' := []) rfl rV ?_ sT
  exact ⟨rfl, rfl⟩

theorem alone_pred (es : List E) (k : Int) : (es.filter fun e => decide (e.A ≠ k ∧ e.B ≠ k)) = alone es k := by
  unfold alone; congr 1; funext e
  rw [← decide_not, decide_eq_decide, not_or]
end Go.Proofs.Ytfigegmgopnfhaa
/- Graphs: the walks of the second program's PutEdge, CutNode, parts, forests, bridges, safe parts. Conditions: those of each contract. -/
namespace Go.Proofs.Ytfigegmgopnfhaa
open Go
theorem mem_brs' {n : Int} {es : List E} {e : E} (he : e ∈ es) : e ∈ brs n es ↔ brB n es e = true := by unfold brs; rw [List.mem_filter]; exact ⟨fun h => h.2, fun h => ⟨he, h⟩⟩
set_option linter.unusedVariables false set_option linter.unusedSimpArgs false attribute [local irreducible] Tok.own Tok.blk RL Rd eptr WP WPL PE WPD WPO Op1 OpE Tri Again Mid Exit.then Exit.inBlock bodyPost RP Code.wp wpList isOwn OneM One
set_option maxHeartbeats 8000000

theorem s_PutEdge (w : World) (n : Int) (vE : Value) (es : List E) (e : E) (hE : RL w vE es) (hl : es.length ≤ 1099511627776) :
    Tri Try.prog 129 [.agg #[.int .i64 n, vE], ep e] w [] fun r T => (putOk n es e ∧ yesG n (insE es e) r T) ∨ (¬ putOk n es e ∧ noG r T) := by
  refine Tri.intro (hf := Try.func129) (hb := rfl) (hn := Try.ntmps129) (Nat.le_of_ble_eq_true rfl) ?_
  try refine go ⟨?_⟩
  refine WPL.eff (OpE.box rfl) rfl rfl ?_; rintro _ _ ⟨b, rfl, rfl⟩
  try refine go ⟨?_⟩
  refine WPL.eff (OpE.box rfl) rfl rfl ?_; rintro _ _ ⟨b2, rfl, rfl⟩
  refine WPL.eff OpE.alloc rfl rfl ?_; rintro _ _ ⟨b4, rfl, rfl⟩
  try refine go ⟨?_⟩
  refine WPL.eff (OpE.call lO (fun w hw => s_GraphValid _ n vE es (Rd.at rD hw) hl)) rfl rfl ?_
  rintro r _ ⟨T, ⟨rfl, rfl⟩, rfl⟩
  repeat' (first | exact absurd rfl hc | refine go ⟨?_⟩ | (refine isCond ?_; refine WP.condD rfl (fun hc => ?_) (fun hc => ?_)) | (refine isGuard ?_; refine WPL.splitD rfl rfl (fun hc => ?_) (fun hc => ?_)))
  · refine PE.ret2 (T := []) (T' := []) rfl rV ?_ sT
    exact .inr ⟨fun h => hc h.1, rfl, rfl⟩
  have hg : GV n es := Decidable.not_not.1 hc
  have hle : es.length ≤ 1000 := hg.ne.le
  refine WPL.eff (OpE.call lO (fun w hw => s_Find _ vE e es (Rd.at rD hw) hl)) rfl rfl ?_
  rintro r _ ⟨T, ⟨rfl, hr⟩, rfl⟩
  rcases hr with ⟨hx, k, hk, rfl, _⟩ | ⟨hx, rfl⟩
  · repeat' (first | exact absurd rfl hc | refine go ⟨?_⟩ | (refine isCond ?_; refine WP.condD rfl (fun hc => ?_) (fun hc => ?_)) | (refine isGuard ?_; refine WPL.splitD rfl rfl (fun hc => ?_) (fun hc => ?_)))
    refine PE.ret2 (T := []) (T' := []) rfl rV ?_ sT
    exact .inr ⟨fun h => h.2.1 hx, rfl, rfl⟩
  try refine go ⟨?_⟩
  have hil : (insE es e).length ≤ 1099511627776 := by rw [insE_length]; omega
  refine WP.cutK (σ := Value × Nat) (fun s => [(4, .pointer (some ⟨b4, 0, none⟩)), (6, .pointer (some ⟨s.2, 0, none⟩))]) (fun s => [Tok.own s.1 (insE es e), Tok.blk s.2 [.int .i64 n, s.1], Tok.blk b4 [.int .i64 0, .slice none 0 0]]) (fun _ => True) ?_ ?_
  · refine WP.draw [Tok.blk b4 [.int .i64 0, .slice none 0 0], Tok.blk b2 [.int .i64 e.A, .int .i64 e.B], Tok.blk b [.int .i64 n, vE]] mixed ?_
    refine WPD.take 0 rfl (by first | exact (Op1.fieldAddr rfl) | exact (Op1.fieldAddrE rfl rD lT)) rfl rfl sT kR kR kR xQP ?_
    refine WPD.take 2 rfl (by first | exact (Op1.fieldAddr rfl) | exact (Op1.fieldAddrE rfl rD lT)) rfl rfl sT kR kR kR xQP ?_
    refine WPD.take 4 rfl (by first | exact (Op1.load rfl mM (by rfl)) | exact (Op1.loadI rfl rD lT) | exact (Op1.loadAll rfl mM (by rfl)) | exact (Op1.loadE rfl rD lT (by rfl)) | exact (Op1.loadEAgg rfl rD lT (by rfl))) rfl rfl sT kR kR kR xQP ?_
    refine WPD.take 1 rfl (by first | exact (Op1.load rfl mM (by rfl)) | exact (Op1.loadI rfl rD lT) | exact (Op1.loadAll rfl mM (by rfl)) | exact (Op1.loadE rfl rD lT (by rfl)) | exact (Op1.loadEAgg rfl rD lT (by rfl))) rfl rfl sT kR kR kR xQP ?_
    refine WPD.take 3 rfl (by first | exact (Op1.load rfl mM (by rfl)) | exact (Op1.loadI rfl rD lT) | exact (Op1.loadAll rfl mM (by rfl)) | exact (Op1.loadE rfl rD lT (by rfl)) | exact (Op1.loadEAgg rfl rD lT (by rfl))) rfl rfl sT kR kR kR xQP ?_
    refine WPD.two 5 7 kR ?e19_5 ?e19_7
    case' e19_5 =>
      refine WPO.eff rfl (OpE.call lO (fun w hw => s_Put _ vE e es (Rd.at rD hw) (by omega))) rfl rfl ?_
      rintro v _ ⟨T, rfl, rfl⟩
      refine ⟨sT, ?_⟩
      refine WPD.two 6 7 kR ?e20_6 ?e20_7
      case' e20_6 =>
        refine WPO.eff rfl (OpE.ofPure (Op1.build xBP (by rfl))) rfl rfl ?_
        rintro _ _ ⟨rfl, rfl⟩
        refine ⟨sT, ?_⟩
        refine WPD.eff 7 kR rfl OpE.alloc rfl rfl ?_
        rintro _ _ ⟨bo, rfl, rfl⟩
        refine ⟨sT, ?_⟩
        refine WPD.eff0 8 kR rfl (OpE.storeAll rfl rfl pM (by rfl) (by rfl) oN) rfl ?_
        rintro _ _ rfl
        refine ⟨sT, ?_⟩
        refine WPD.done kR ?_
      case' e20_7 =>
        refine WPO.eff rfl OpE.alloc rfl rfl ?_
        rintro _ _ ⟨bo, rfl, rfl⟩
        refine ⟨sT, ?_⟩
        refine WPD.eff 6 kR rfl (OpE.ofPure (Op1.build xBP (by rfl))) rfl rfl ?_
        rintro _ _ ⟨rfl, rfl⟩
        refine ⟨sT, ?_⟩
        refine WPD.eff0 8 kR rfl (OpE.storeAll rfl rfl pM (by rfl) (by rfl) oN) rfl ?_
        rintro _ _ rfl
        refine ⟨sT, ?_⟩
        refine WPD.done kR ?_
    case' e19_7 =>
      refine WPO.eff rfl OpE.alloc rfl rfl ?_
      rintro _ _ ⟨bo, rfl, rfl⟩
      refine ⟨sT, ?_⟩
      refine WPD.eff 5 kR rfl (OpE.call lO (fun w hw => s_Put _ vE e es (Rd.at rD hw) (by omega))) rfl rfl ?_
      rintro v _ ⟨T, rfl, rfl⟩
      refine ⟨sT, ?_⟩
      refine WPD.eff 6 kR rfl (OpE.ofPure (Op1.build xBP (by rfl))) rfl rfl ?_
      rintro _ _ ⟨rfl, rfl⟩
      refine ⟨sT, ?_⟩
      refine WPD.eff0 8 kR rfl (OpE.storeAll rfl rfl pM (by rfl) (by rfl) oN) rfl ?_
      rintro _ _ rfl
      refine ⟨sT, ?_⟩
      refine WPD.done kR ?_
    all_goals (rw [insP_eq hx]; refine PE.mid (v, bo) trivial sE sT)
  rintro ⟨v, bo⟩ _
  dsimp only
  try refine go ⟨?_⟩
  refine WPL.eff (OpE.call lO (fun w hw => s_GraphValid _ n v (insE es e) (Rd.at rD hw) hil)) rfl rfl ?_
  rintro r _ ⟨T, ⟨rfl, rfl⟩, rfl⟩
  repeat' (first | exact absurd rfl hc | refine go ⟨?_⟩ | (refine isCond ?_; refine WP.condD rfl (fun hc => ?_) (fun hc => ?_)) | (refine isGuard ?_; refine WPL.splitD rfl rfl (fun hc => ?_) (fun hc => ?_)))
  · refine PE.ret2 (T := []) (T' := []) rfl rV ?_ sT
    exact .inr ⟨fun h => absurd h.2.2 ‹_›, rfl, rfl⟩
  · refine PE.ret2 (T := []) (T' := [Tok.own v (insE es e)]) rfl rV ?_ sT
    exact .inl ⟨⟨hg, hx, Decidable.not_not.1 ‹¬¬GV n (insE es e)›⟩, v, rfl, rfl⟩

theorem s_PartNodes (w : World) (n : Int) (vE : Value) (es : List E) (x : Int) (hE : RL w vE es) (hl : es.length ≤ 1099511627776) :
    Tri Try.prog 167 [.agg #[.int .i64 n, vE], .int .i64 x] w [] fun r T => (GN n es x ∧ T = [Tok.own r (pns n es x)]) ∨ (¬ GN n es x ∧ T = [Tok.own r ([] : List Int)]) := by
  refine Tri.intro (hf := Try.func167) (hb := rfl) (hn := Try.ntmps167) (Nat.le_of_ble_eq_true rfl) ?_
  try refine go ⟨?_⟩
  refine WPL.eff (OpE.box rfl) rfl rfl ?_; rintro _ _ ⟨b, rfl, rfl⟩
  try refine go ⟨?_⟩
  refine WPL.eff (OpE.buildSlice ([] : List Int) pA rfl (by decide)) rfl rfl ?_; rintro s _ rfl
  try refine go ⟨?_⟩
  refine WPL.eff (OpE.call lO (fun w hw => s_Node2 _ n vE es x (Rd.at rD hw) hl)) rfl rfl ?_
  rintro r _ ⟨T, ⟨rfl, rfl⟩, rfl⟩
  repeat' (first | exact absurd rfl hc | refine go ⟨?_⟩ | (refine isCond ?_; refine WP.condD rfl (fun hc => ?_) (fun hc => ?_)) | (refine isGuard ?_; refine WPL.splitD rfl rfl (fun hc => ?_) (fun hc => ?_)))
  · refine PE.ret1 (T := []) (T' := [Tok.own s ([] : List Int)]) rfl rV ?_ sT
    exact .inr ⟨hc, rfl⟩
  have hg : GN n es x := Decidable.not_not.1 hc
  have hx1 := hg.2.1
  have hx2 := hg.2.2
  have hn1 := hg.1.ne.n1
  have hn2 := hg.1.ne.n2
  have hll := labs_length n es
  refine WPL.eff (OpE.call lO (fun w hw => s_Labels _ n vE es (Rd.at rD hw) hg.1.ne)) rfl rfl ?_
  rintro r _ ⟨T, rfl, rfl⟩
  try refine go ⟨?_⟩
  refine WP.loop (σ := Nat × Value) (fun k => [(1, .int .i64 x), (2, ptrV b), (5, k.2), (6, r), (7, .int .i64 k.1)]) (fun k => [Tok.own k.2 ((iota k.1).filter fun j => decide (lab n es j = lab n es x)), Tok.own r (labs n es), Tok.blk b [.int .i64 n, vE]]) (fun k => k.1 ≤ n.toNat) (fun k => n.toNat - k.1) (0, s) (Nat.zero_le _) sE sT ?_
  rintro ⟨k, v⟩ hk
  dsimp only at hk ⊢
  try refine go ⟨?_⟩
  refine WP.condD rfl (fun hc => ?_) (fun hc => ?_)
  · have hil : ((iota k).filter fun j => decide (lab n es j = lab n es x)).length ≤ k := by have := List.length_filter_le (fun j => decide (lab n es j = lab n es x)) (iota k); rw [iota_length] at this; exact this
    try refine go ⟨?_⟩
    refine WP.draw [Tok.own r (labs n es)] mixed ?_
    refine WPD.take 0 rfl (Op1.move rfl) rfl rfl sT kR kR kR xQP ?_
    refine WPD.take 1 rfl (Op1.move rfl) rfl rfl sT kR kR kR xQP ?_
    refine WPD.take 4 rfl (Op1.move rfl) rfl rfl sT kR kR kR xQP ?_
    refine WPD.take 5 rfl (Op1.move rfl) rfl rfl sT kR kR kR xQP ?_
    refine WPD.take 2 rfl (by first | exact (Op1.indexAddr rfl rfl rD lT) | exact (Op1.indexAddrZ rfl rfl rD lT)) rfl rfl sT kR kR kR xQP ?_
    refine WPD.take 6 rfl (by first | exact (Op1.indexAddr rfl rfl rD lT) | exact (Op1.indexAddrZ rfl rfl rD lT)) rfl rfl sT kR kR kR xQP ?_
    refine WPD.take 3 rfl (by first | exact (Op1.load rfl mM (by rfl)) | exact (Op1.loadI rfl rD lT) | exact (Op1.loadAll rfl mM (by rfl)) | exact (Op1.loadE rfl rD lT (by rfl)) | exact (Op1.loadEAgg rfl rD lT (by rfl))) rfl rfl sT kR kR kR xQP ?_
    refine WPD.take 7 rfl (by first | exact (Op1.load rfl mM (by rfl)) | exact (Op1.loadI rfl rD lT) | exact (Op1.loadAll rfl mM (by rfl)) | exact (Op1.loadE rfl rD lT (by rfl)) | exact (Op1.loadEAgg rfl rD lT (by rfl))) rfl rfl sT kR kR kR xQP ?_
    refine WPD.take 8 rfl (by first | exact (Op1.eqI rfl rfl) | exact (Op1.eqB rfl rfl) | exact (Op1.eqE rfl rfl) | exact (Op1.eqNil rfl rD)) rfl rfl sT kR kR kR xQP ?_
    refine WPD.done kR ?_
    try refine go ⟨?_⟩
    refine WP.condD rfl (fun heq => ?_) (fun heq => ?_)
    · try refine go ⟨?_⟩
      refine WPL.eff (OpE.buildSlice [(k : Int)] pA rfl (by decide)) rfl rfl ?_; rintro s1 _ rfl
      try refine go ⟨?_⟩
      refine WPL.eff (OpE.append rfl rfl pM rD lN) rfl rfl ?_; rintro v1 _ rfl
      try refine go ⟨?_⟩
      have e1 : (iota (k + 1)).filter (fun j => decide (lab n es j = lab n es x)) = (iota k).filter (fun j => decide (lab n es j = lab n es x)) ++ [(k : Int)] := by
        rw [iota_succ, List.filter_append]
        have : decide (lab n es (k : Int) = lab n es x) = true := decide_eq_true heq
        simp only [List.filter_cons, this, if_true, List.filter_nil]
      rw [← e1]
      refine PE.again (k + 1, v1) ?_ ?_ sE sT
      · dsimp only; omega
      · dsimp only; omega
    · try refine go ⟨?_⟩
      have e1 : (iota (k + 1)).filter (fun j => decide (lab n es j = lab n es x)) = (iota k).filter (fun j => decide (lab n es j = lab n es x)) := by
        rw [iota_succ, List.filter_append]
        have : decide (lab n es (k : Int) = lab n es x) = false := decide_eq_false heq
        simp only [List.filter_cons, this, Bool.false_eq_true, if_false, List.filter_nil, List.append_nil]
      rw [← e1]
      refine PE.again (k + 1, v) ?_ ?_ sE sT
      · dsimp only; omega
      · dsimp only; omega
  · have hkn : k = n.toNat := by omega
    subst hkn
    try refine go ⟨?_⟩
    refine PE.ret1 (T := []) (T' := [Tok.own v (pns n es x)]) rfl rV ?_ sT
    exact .inl ⟨hg, rfl⟩

theorem s_Forest (w : World) (n : Int) (vE : Value) (es : List E) (hE : RL w vE es) (hg : NE n es) :
    Tri Try.prog 149 [.int .i64 n, vE] w [] fun r T => T = [Tok.own r (forestL n es)] := by
  have hl := hg.le
  refine Tri.intro (hf := Try.func149) (hb := rfl) (hn := Try.ntmps149) (Nat.le_of_ble_eq_true rfl) ?_
  try refine go ⟨?_⟩
  refine WPL.eff (OpE.buildSlice ([] : List E) pA rfl (by decide)) rfl rfl ?_; rintro s _ rfl
  try refine go ⟨?_⟩
  refine WP.loop (σ := Nat × Value) (fun k => [(0, .int .i64 n), (1, vE), (5, k.2), (6, .int .i64 k.1)]) (fun k => [Tok.own k.2 ((es.take k.1).foldl (fstep n) [])]) (fun k => k.1 ≤ es.length) (fun k => es.length - k.1) (0, s) (Nat.zero_le _) sE sT ?_
  rintro ⟨k, v⟩ hk
  dsimp only at hk ⊢
  try refine go ⟨?_⟩
  refine WP.condD rfl (fun hc => ?_) (fun hc => ?_)
  · have hk' : k < es.length := by omega
    have hs := foldl_takeS eD (fstep n) [] hk'
    have hF := hg.fold k
    have hF2 := hF.le
    obtain ⟨out, ho⟩ : ∃ out, out = (es.take k).foldl (fstep n) [] := ⟨_, rfl⟩
    rw [← ho] at hs hF hF2 ⊢
    obtain ⟨hA, hB⟩ := hg.ok (es.getD k eD) (getD_memI hk')
    try refine go ⟨?_⟩
    refine WP.draw [Tok.own v out] mixed ?_
    refine WPD.take 0 rfl (Op1.move rfl) rfl rfl sT kR kR kR xQP ?_
    refine WPD.take 1 rfl (Op1.move rfl) rfl rfl sT kR kR kR xQP ?_
    refine WPD.take 3 rfl (Op1.move rfl) rfl rfl sT kR kR kR xQP ?_
    refine WPD.take 4 rfl (Op1.move rfl) rfl rfl sT kR kR kR xQP ?_
    refine WPD.take 8 rfl (Op1.move rfl) rfl rfl sT kR kR kR xQP ?_
    refine WPD.take 9 rfl (Op1.move rfl) rfl rfl sT kR kR kR xQP ?_
    refine WPD.take 2 rfl (Op1.build xBP (by rfl)) rfl rfl sT kR kR kR xQP ?_
    refine WPD.take 5 rfl (by first | exact (Op1.indexAddr rfl rfl rD lT) | exact (Op1.indexAddrZ rfl rfl rD lT)) rfl rfl sT kR kR kR xQP ?_
    refine WPD.take 10 rfl (by first | exact (Op1.indexAddr rfl rfl rD lT) | exact (Op1.indexAddrZ rfl rfl rD lT)) rfl rfl sT kR kR kR xQP ?_
    refine WPD.take 6 rfl (by first | exact (Op1.fieldAddr rfl) | exact (Op1.fieldAddrE rfl rD lT)) rfl rfl sT kR kR kR xQP ?_
    refine WPD.take 11 rfl (by first | exact (Op1.fieldAddr rfl) | exact (Op1.fieldAddrE rfl rD lT)) rfl rfl sT kR kR kR xQP ?_
    refine WPD.take 7 rfl (by first | exact (Op1.load rfl mM (by rfl)) | exact (Op1.loadI rfl rD lT) | exact (Op1.loadAll rfl mM (by rfl)) | exact (Op1.loadE rfl rD lT (by rfl)) | exact (Op1.loadEAgg rfl rD lT (by rfl))) rfl rfl sT kR kR kR xQP ?_
    refine WPD.take 12 rfl (by first | exact (Op1.load rfl mM (by rfl)) | exact (Op1.loadI rfl rD lT) | exact (Op1.loadAll rfl mM (by rfl)) | exact (Op1.loadE rfl rD lT (by rfl)) | exact (Op1.loadEAgg rfl rD lT (by rfl))) rfl rfl sT kR kR kR xQP ?_
    refine WPD.eff 13 kR rfl (OpE.call lO (fun w hw => s_Joined _ n v out (es.getD k eD).A (es.getD k eD).B (Rd.at rD hw) hF hA hB)) rfl rfl ?_
    rintro r _ ⟨T, ⟨rfl, rfl⟩, rfl⟩
    refine ⟨sT, ?_⟩
    refine WPD.take 14 rfl (by first | exact (Op1.notD rfl) | exact (Op1.not rfl)) rfl rfl sT kR kR kR xQP ?_
    refine WPD.done kR ?_
    repeat' (first | exact absurd rfl hc | refine go ⟨?_⟩ | (refine isCond ?_; refine WP.condD rfl (fun hc => ?_) (fun hc => ?_)) | (refine isGuard ?_; refine WPL.splitD rfl rfl (fun hc => ?_) (fun hc => ?_)))
    · refine WPL.eff (OpE.buildSlice [es.getD k eD] pA rfl (by decide)) rfl rfl ?_; rintro s1 _ rfl
      try refine go ⟨?_⟩
      refine WPL.eff (OpE.append rfl rfl pM rD lN) rfl rfl ?_; rintro v1 _ rfl
      try refine go ⟨?_⟩
      have e1 : out ++ [es.getD k eD] = (es.take (k + 1)).foldl (fstep n) [] := by rw [hs, fstep, if_neg hc]
      rw [e1]
      refine PE.again (k + 1, v1) ?_ ?_ sE sT
      · dsimp only; omega
      · dsimp only; omega
    · have e1 : out = (es.take (k + 1)).foldl (fstep n) [] := by rw [hs, fstep, if_pos (Decidable.not_not.1 hc)]
      rw [e1]
      refine PE.again (k + 1, v) ?_ ?_ sE sT
      · dsimp only; omega
      · dsimp only; omega
  · have hkn : k = es.length := by omega
    subst hkn
    rw [List.take_length]
    try refine go ⟨?_⟩
    refine PE.ret1 (T := []) (T' := [Tok.own v (forestL n es)]) rfl rV ?_ sT
    rfl

end Go.Proofs.Ytfigegmgopnfhaa
/- Graphs: the walks of the second program's bridges and safe parts. Conditions: those of each contract. -/
namespace Go.Proofs.Ytfigegmgopnfhaa
open Go
set_option linter.unusedVariables false set_option linter.unusedSimpArgs false attribute [local irreducible] Tok.own Tok.blk RL Rd eptr WP WPL PE WPD WPO Op1 OpE Tri Again Mid Exit.then Exit.inBlock bodyPost RP Code.wp wpList isOwn OneM One
set_option maxHeartbeats 8000000

/-- A slice of new memory (empty), and false. -/
def noO {α : Type} [Enc α] (α' : List α) (r : Value) (T : List Tok) : Prop := ∃ v, r = .tuple #[v, .bool false] ∧ T = [Tok.own v (α'.take 0)]

end Go.Proofs.Ytfigegmgopnfhaa
/- Graphs: the walks of GraphSame, bridgesOnly and LostBy. Conditions: those of each contract. -/
namespace Go.Proofs.Ytfigegmgopnfhaa
open Go
set_option linter.unusedVariables false set_option linter.unusedSimpArgs false attribute [local irreducible] Tok.own Tok.blk RL Rd eptr WP WPL PE WPD WPO Op1 OpE Tri Again Mid Exit.then Exit.inBlock bodyPost RP Code.wp wpList isOwn OneM One
attribute [local irreducible] Pred
set_option maxHeartbeats 8000000

theorem c_EqualE (w : World) (v u : Value) (xs ys : List E) (h : RL w v xs) (h' : RL w u ys) (hl : xs.length ≤ 1099511627776) (hl' : ys.length ≤ 1099511627776) :
    Tri Try.prog 80 [v, u] w [] fun r T => T = [] ∧ r = .bool (decide (xs = ys)) := by
  refine Tri.intro (hf := Try.func80) (hb := rfl) (hn := Try.ntmps80) (Nat.le_of_ble_eq_true rfl) ?_
  repeat' (first | refine go ⟨?_⟩ | (refine isCond ?_; refine WP.condD rfl (fun hc => ?_) (fun hc => ?_)) | (refine isGuard ?_; refine WPL.splitD rfl rfl (fun hc => ?_) (fun hc => ?_)))
  · refine PE.ret1 (T := []) (T' := []) rfl rV ?_ sT
    refine ⟨rfl, ?_⟩
    rw [decide_eq_false]
    rintro rfl
    exact absurd rfl ‹_›
  have hll : xs.length = ys.length := by omega
  refine WP.loop (σ := Nat) (fun k => [(0, v), (1, u), (12, .int .i64 xs.length), (13, .int .i64 k)]) (fun _ => []) (fun k => k ≤ xs.length ∧ ∀ m, m < k → xs.getD m eD = ys.getD m eD) (fun k => xs.length - k) 0 ⟨Nat.zero_le _, by omega⟩ sE sT ?_
  rintro k ⟨hk, hm⟩
  repeat' (first | refine go ⟨?_⟩ | (refine isCond ?_; refine WP.condD rfl (fun hc => ?_) (fun hc => ?_)) | (refine isGuard ?_; refine WPL.splitD rfl rfl (fun hc => ?_) (fun hc => ?_)))
  · have hk' : k < xs.length := by omega
    refine WP.draw [] mixed ?_
    refine WPD.take 0 rfl (Op1.move rfl) rfl rfl sT kR kR kR xQP ?_
    refine WPD.take 1 rfl (Op1.move rfl) rfl rfl sT kR kR kR xQP ?_
    refine WPD.take 4 rfl (Op1.move rfl) rfl rfl sT kR kR kR xQP ?_
    refine WPD.take 5 rfl (Op1.move rfl) rfl rfl sT kR kR kR xQP ?_
    refine WPD.take 2 rfl (by first | exact (Op1.indexAddr rfl rfl rD lT) | exact (Op1.indexAddrZ rfl rfl rD lT)) rfl rfl sT kR kR kR xQP ?_
    refine WPD.take 6 rfl (by first | exact (Op1.indexAddr rfl rfl rD lT) | exact (Op1.indexAddrZ rfl rfl rD lT)) rfl rfl sT kR kR kR xQP ?_
    refine WPD.take 3 rfl (by first | exact (Op1.load rfl mM (by rfl)) | exact (Op1.loadI rfl rD lT) | exact (Op1.loadAll rfl mM (by rfl)) | exact (Op1.loadE rfl rD lT (by rfl)) | exact (Op1.loadEAgg rfl rD lT (by rfl))) rfl rfl sT kR kR kR xQP ?_
    refine WPD.take 7 rfl (by first | exact (Op1.load rfl mM (by rfl)) | exact (Op1.loadI rfl rD lT) | exact (Op1.loadAll rfl mM (by rfl)) | exact (Op1.loadE rfl rD lT (by rfl)) | exact (Op1.loadEAgg rfl rD lT (by rfl))) rfl rfl sT kR kR kR xQP ?_
    refine WPD.take 8 rfl (by first | exact (Op1.neI rfl rfl) | exact (Op1.neB rfl rfl) | exact (Op1.neE rfl rfl)) rfl rfl sT kR kR kR xQP ?_
    refine WPD.done kR ?_
    repeat' (first | refine go ⟨?_⟩ | (refine isCond ?_; refine WP.condD rfl (fun hc => ?_) (fun hc => ?_)) | (refine isGuard ?_; refine WPL.splitD rfl rfl (fun hc => ?_) (fun hc => ?_)))
    · refine PE.ret1 (T := []) (T' := []) rfl rV ?_ sT
      refine ⟨rfl, ?_⟩
      rw [decide_eq_false]
      rintro rfl
      exact absurd rfl ‹_›
    · refine PE.again (k + 1) ?_ ?_ sE sT
      · exact ⟨by omega, fun m hm' => by
          rcases Nat.lt_succ_iff_lt_or_eq.1 hm' with h' | rfl
          · exact hm m h'
          · exact Decidable.not_not.1 ‹_›⟩
      · omega
  · refine PE.ret1 (T := []) (T' := []) rfl rV ?_ sT
    refine ⟨rfl, ?_⟩
    rw [decide_eq_true]
    exact List.ext_getElem hll (fun i h1 h2 => by
      have := hm i (by omega)
      rwa [List.getD_eq_getElem?_getD, List.getD_eq_getElem?_getD, List.getElem?_eq_getElem h1, List.getElem?_eq_getElem h2] at this)

theorem c_GraphSame (w : World) (n m : Int) (v u : Value) (xs ys : List E) (h : RL w v xs) (h' : RL w u ys) (hl : xs.length ≤ 1099511627776) (hl' : ys.length ≤ 1099511627776) :
    Tri Try.prog 33 [.agg #[.int .i64 n, v], .agg #[.int .i64 m, u]] w [] fun r T => T = [] ∧ r = .bool (decide (n = m ∧ xs = ys)) := by
  refine Tri.intro (hf := Try.func33) (hb := rfl) (hn := Try.ntmps33) (Nat.le_of_ble_eq_true rfl) ?_
  try refine go ⟨?_⟩
  refine WPL.eff (OpE.box rfl) rfl rfl ?_; rintro _ _ ⟨b, rfl, rfl⟩
  refine WPL.eff (OpE.box rfl) rfl rfl ?_; rintro _ _ ⟨b2, rfl, rfl⟩
  repeat' (first | exact absurd rfl hc | refine go ⟨?_⟩ | (refine isCond ?_; refine WP.condD rfl (fun hc => ?_) (fun hc => ?_)) | (refine isGuard ?_; refine WPL.splitD rfl rfl (fun hc => ?_) (fun hc => ?_)))
  · refine WPL.eff (OpE.call lO (fun w hw => c_EqualE _ v u xs ys (Rd.at rD hw) (Rd.at rD hw) hl hl')) rfl rfl ?_
    rintro r _ ⟨T, ⟨rfl, rfl⟩, rfl⟩
    repeat' (first | exact absurd rfl hc | refine go ⟨?_⟩ | (refine isCond ?_; refine WP.condD rfl (fun hc => ?_) (fun hc => ?_)) | (refine isGuard ?_; refine WPL.splitD rfl rfl (fun hc => ?_) (fun hc => ?_)))
    refine PE.ret1 (T := []) (T' := []) rfl rV ?_ sT
    refine ⟨rfl, ?_⟩
    congr 1; rw [decide_eq_decide]
    exact ⟨fun h => ⟨by assumption, h⟩, fun h => h.2⟩
  · refine PE.ret1 (T := []) (T' := []) rfl rV ?_ sT
    refine ⟨rfl, ?_⟩
    rw [decide_eq_false]
    exact fun h => absurd h.1 ‹_›

end Go.Proofs.Ytfigegmgopnfhaa
/- The helpers of the laws: comparisons. Conditions: those of each contract. -/
namespace Go.Proofs.Ytfigegmgopnfhaa
open Go
set_option linter.unusedVariables false set_option linter.unusedSimpArgs false attribute [local irreducible] Tok.own Tok.blk RL Rd eptr WP WPL PE WPD WPO Op1 OpE Tri Again Mid Exit.then Exit.inBlock bodyPost RP Code.wp wpList isOwn OneM One
set_option maxHeartbeats 8000000

theorem y_Edges (w : World) (v u : Value) (xs ys : List E) (h : RL w v xs) (h' : RL w u ys) (hl : xs.length ≤ 1099511627776) (hl' : ys.length ≤ 1099511627776) :
    Tri Try.prog 68 [v, u] w [] fun r T => T = [] ∧ r = .bool (decide (xs = ys)) := by
  refine Tri.intro (hf := Try.func68) (hb := rfl) (hn := Try.ntmps68) (Nat.le_of_ble_eq_true rfl) ?_
  repeat' (first | refine go ⟨?_⟩ | (refine isCond ?_; refine WP.condD rfl (fun hc => ?_) (fun hc => ?_)) | (refine isGuard ?_; refine WPL.splitD rfl rfl (fun hc => ?_) (fun hc => ?_)))
  · refine PE.ret1 (T := []) (T' := []) rfl rV ?_ sT
    refine ⟨rfl, ?_⟩
    rw [decide_eq_false]
    rintro rfl
    exact absurd rfl ‹_›
  have hll : xs.length = ys.length := by omega
  refine WP.loop (σ := Nat) (fun k => [(0, v), (1, u), (5, .int .i64 k)]) (fun _ => []) (fun k => k ≤ xs.length ∧ ∀ m, m < k → xs.getD m eD = ys.getD m eD) (fun k => xs.length - k) 0 ⟨Nat.zero_le _, by omega⟩ sE sT ?_
  rintro k ⟨hk, hm⟩
  repeat' (first | refine go ⟨?_⟩ | (refine isCond ?_; refine WP.condD rfl (fun hc => ?_) (fun hc => ?_)) | (refine isGuard ?_; refine WPL.splitD rfl rfl (fun hc => ?_) (fun hc => ?_)))
  · have hk' : k < xs.length := by omega
    refine WP.draw [] mixed ?_
    refine WPD.take 0 rfl (Op1.move rfl) rfl rfl sT kR kR kR xQP ?_
    refine WPD.take 1 rfl (Op1.move rfl) rfl rfl sT kR kR kR xQP ?_
    refine WPD.take 4 rfl (Op1.move rfl) rfl rfl sT kR kR kR xQP ?_
    refine WPD.take 5 rfl (Op1.move rfl) rfl rfl sT kR kR kR xQP ?_
    refine WPD.take 2 rfl (by first | exact (Op1.indexAddr rfl rfl rD lT) | exact (Op1.indexAddrZ rfl rfl rD lT)) rfl rfl sT kR kR kR xQP ?_
    refine WPD.take 6 rfl (by first | exact (Op1.indexAddr rfl rfl rD lT) | exact (Op1.indexAddrZ rfl rfl rD lT)) rfl rfl sT kR kR kR xQP ?_
    refine WPD.take 3 rfl (by first | exact (Op1.load rfl mM (by rfl)) | exact (Op1.loadI rfl rD lT) | exact (Op1.loadAll rfl mM (by rfl)) | exact (Op1.loadE rfl rD lT (by rfl)) | exact (Op1.loadEAgg rfl rD lT (by rfl))) rfl rfl sT kR kR kR xQP ?_
    refine WPD.take 7 rfl (by first | exact (Op1.load rfl mM (by rfl)) | exact (Op1.loadI rfl rD lT) | exact (Op1.loadAll rfl mM (by rfl)) | exact (Op1.loadE rfl rD lT (by rfl)) | exact (Op1.loadEAgg rfl rD lT (by rfl))) rfl rfl sT kR kR kR xQP ?_
    refine WPD.take 8 rfl (by first | exact (Op1.neI rfl rfl) | exact (Op1.neB rfl rfl) | exact (Op1.neE rfl rfl)) rfl rfl sT kR kR kR xQP ?_
    refine WPD.done kR ?_
    repeat' (first | refine go ⟨?_⟩ | (refine isCond ?_; refine WP.condD rfl (fun hc => ?_) (fun hc => ?_)) | (refine isGuard ?_; refine WPL.splitD rfl rfl (fun hc => ?_) (fun hc => ?_)))
    · refine PE.ret1 (T := []) (T' := []) rfl rV ?_ sT
      refine ⟨rfl, ?_⟩
      rw [decide_eq_false]
      rintro rfl
      exact absurd rfl ‹_›
    · refine PE.again (k + 1) ?_ ?_ sE sT
      · exact ⟨by omega, fun m hm' => by
          rcases Nat.lt_succ_iff_lt_or_eq.1 hm' with h' | rfl
          · exact hm m h'
          · exact Decidable.not_not.1 ‹_›⟩
      · omega
  · refine PE.ret1 (T := []) (T' := []) rfl rV ?_ sT
    refine ⟨rfl, ?_⟩
    rw [decide_eq_true]
    exact List.ext_getElem hll (fun i h1 h2 => by
      have := hm i (by omega)
      rwa [List.getD_eq_getElem?_getD, List.getD_eq_getElem?_getD, List.getElem?_eq_getElem h1, List.getElem?_eq_getElem h2] at this)

end Go.Proofs.Ytfigegmgopnfhaa
/- The helpers of the laws over operations: comparisons. Conditions: those of each contract. -/
namespace Go.Proofs.Ytfigegmgopnfhaa
open Go
theorem bneF {a b : Bool} (h : (a != b) = false) : a = b := by cases a <;> cases b <;> first | rfl | exact absurd h (by decide)
set_option linter.unusedVariables false set_option linter.unusedSimpArgs false attribute [local irreducible] Tok.own Tok.blk RL Rd eptr WP WPL PE WPD WPO Op1 OpE Tri Again Mid Exit.then Exit.inBlock bodyPost RP Code.wp wpList isOwn OneM One
set_option maxHeartbeats 8000000

theorem y_Bools (w : World) (v u : Value) (xs ys : List Bool) (h : RL w v xs) (h' : RL w u ys) (hl : xs.length ≤ 1099511627776) (hl' : ys.length ≤ 1099511627776) :
    Tri Try.prog 23 [v, u] w [] fun r T => T = [] ∧ r = .bool (decide (xs = ys)) := by
  refine Tri.intro (hf := Try.func23) (hb := rfl) (hn := Try.ntmps23) (Nat.le_of_ble_eq_true rfl) ?_
  repeat' (first | refine go ⟨?_⟩ | (refine isCond ?_; refine WP.condD rfl (fun hc => ?_) (fun hc => ?_)) | (refine isGuard ?_; refine WPL.splitD rfl rfl (fun hc => ?_) (fun hc => ?_)))
  · refine PE.ret1 (T := []) (T' := []) rfl rV ?_ sT
    refine ⟨rfl, ?_⟩
    rw [decide_eq_false]
    rintro rfl
    exact absurd rfl ‹_›
  have hll : xs.length = ys.length := by omega
  refine WP.loop (σ := Nat) (fun k => [(0, v), (1, u), (5, .int .i64 k)]) (fun _ => []) (fun k => k ≤ xs.length ∧ ∀ m, m < k → xs.getD m false = ys.getD m false) (fun k => xs.length - k) 0 ⟨Nat.zero_le _, by omega⟩ sE sT ?_
  rintro k ⟨hk, hm⟩
  repeat' (first | refine go ⟨?_⟩ | (refine isCond ?_; refine WP.condD rfl (fun hc => ?_) (fun hc => ?_)) | (refine isGuard ?_; refine WPL.splitD rfl rfl (fun hc => ?_) (fun hc => ?_)))
  · have hk' : k < xs.length := by omega
    refine WP.draw [] mixed ?_
    refine WPD.take 0 rfl (Op1.move rfl) rfl rfl sT kR kR kR xQP ?_
    refine WPD.take 1 rfl (Op1.move rfl) rfl rfl sT kR kR kR xQP ?_
    refine WPD.take 4 rfl (Op1.move rfl) rfl rfl sT kR kR kR xQP ?_
    refine WPD.take 5 rfl (Op1.move rfl) rfl rfl sT kR kR kR xQP ?_
    refine WPD.take 2 rfl (by first | exact (Op1.indexAddr rfl rfl rD lT) | exact (Op1.indexAddrZ rfl rfl rD lT)) rfl rfl sT kR kR kR xQP ?_
    refine WPD.take 6 rfl (by first | exact (Op1.indexAddr rfl rfl rD lT) | exact (Op1.indexAddrZ rfl rfl rD lT)) rfl rfl sT kR kR kR xQP ?_
    refine WPD.take 3 rfl (by first | exact (Op1.load rfl mM (by rfl)) | exact (Op1.loadI rfl rD lT) | exact (Op1.loadAll rfl mM (by rfl)) | exact (Op1.loadE rfl rD lT (by rfl)) | exact (Op1.loadEAgg rfl rD lT (by rfl))) rfl rfl sT kR kR kR xQP ?_
    refine WPD.take 7 rfl (by first | exact (Op1.load rfl mM (by rfl)) | exact (Op1.loadI rfl rD lT) | exact (Op1.loadAll rfl mM (by rfl)) | exact (Op1.loadE rfl rD lT (by rfl)) | exact (Op1.loadEAgg rfl rD lT (by rfl))) rfl rfl sT kR kR kR xQP ?_
    refine WPD.take 8 rfl (by first | exact (Op1.neI rfl rfl) | exact (Op1.neB rfl rfl) | exact (Op1.neE rfl rfl)) rfl rfl sT kR kR kR xQP ?_
    refine WPD.done kR ?_
    try refine go ⟨?_⟩
    refine WP.cond rfl (fun he => ?_) (fun he => ?_)
    · try refine go ⟨?_⟩
      refine PE.ret1 (T := []) (T' := []) rfl rV ?_ sT
      refine ⟨rfl, ?_⟩
      rw [decide_eq_false]
      rintro rfl
      rw [bne_self_eq_false] at he
      exact absurd he (by decide)
    · try refine go ⟨?_⟩
      refine PE.again (k + 1) ?_ ?_ sE sT
      · exact ⟨by omega, fun m hm' => by
          rcases Nat.lt_succ_iff_lt_or_eq.1 hm' with h' | rfl
          · exact hm m h'
          · exact bneF he⟩
      · omega
  · refine PE.ret1 (T := []) (T' := []) rfl rV ?_ sT
    refine ⟨rfl, ?_⟩
    rw [decide_eq_true]
    exact List.ext_getElem hll (fun i h1 h2 => by
      have := hm i (by omega)
      rwa [List.getD_eq_getElem?_getD, List.getD_eq_getElem?_getD, List.getElem?_eq_getElem h1, List.getElem?_eq_getElem h2] at this)

end Go.Proofs.Ytfigegmgopnfhaa
/- The helpers of the laws over lives: comparisons. Conditions: those of each contract. -/
namespace Go.Proofs.Ytfigegmgopnfhaa
open Go
def lfD : Lif := ⟨0, 0, 0, 0⟩
instance eqLife1 : TEqL Try.prog 57 := ⟨by kernel_rfl⟩
set_option linter.unusedVariables false set_option linter.unusedSimpArgs false attribute [local irreducible] Tok.own Tok.blk RL Rd eptr WP WPL PE WPD WPO Op1 OpE Tri Again Mid Exit.then Exit.inBlock bodyPost RP Code.wp wpList isOwn OneM One
set_option maxHeartbeats 8000000

theorem y_Lives (w : World) (v u : Value) (xs ys : List Lif) (h : RL w v xs) (h' : RL w u ys) (hl : xs.length ≤ 1099511627776) (hl' : ys.length ≤ 1099511627776) :
    Tri Try.prog 40 [v, u] w [] fun r T => T = [] ∧ r = .bool (decide (xs = ys)) := by
  refine Tri.intro (hf := Try.func40) (hb := rfl) (hn := Try.ntmps40) (Nat.le_of_ble_eq_true rfl) ?_
  repeat' (first | refine go ⟨?_⟩ | (refine isCond ?_; refine WP.condD rfl (fun hc => ?_) (fun hc => ?_)) | (refine isGuard ?_; refine WPL.splitD rfl rfl (fun hc => ?_) (fun hc => ?_)))
  · refine PE.ret1 (T := []) (T' := []) rfl rV ?_ sT
    refine ⟨rfl, ?_⟩
    rw [decide_eq_false]
    rintro rfl
    exact absurd rfl ‹_›
  have hll : xs.length = ys.length := by omega
  refine WP.loop (σ := Nat) (fun k => [(0, v), (1, u), (5, .int .i64 k)]) (fun _ => []) (fun k => k ≤ xs.length ∧ ∀ m, m < k → xs.getD m ⟨0, 0, 0, 0⟩ = ys.getD m ⟨0, 0, 0, 0⟩) (fun k => xs.length - k) 0 ⟨Nat.zero_le _, by omega⟩ sE sT ?_
  rintro k ⟨hk, hm⟩
  try refine go ⟨?_⟩
  refine WP.condD rfl (fun hc => ?_) (fun hc => ?_)
  · have hk' : k < xs.length := by omega
    try refine go ⟨?_⟩
    refine WP.draw [] mixed ?_
    refine WPD.take 0 rfl (Op1.move rfl) rfl rfl sT kR kR kR xQP ?_
    refine WPD.take 1 rfl (Op1.move rfl) rfl rfl sT kR kR kR xQP ?_
    refine WPD.take 4 rfl (Op1.move rfl) rfl rfl sT kR kR kR xQP ?_
    refine WPD.take 5 rfl (Op1.move rfl) rfl rfl sT kR kR kR xQP ?_
    refine WPD.take 2 rfl (by first | exact (Op1.indexAddr rfl rfl rD lT) | exact (Op1.indexAddrZ rfl rfl rD lT)) rfl rfl sT kR kR kR xQP ?_
    refine WPD.take 6 rfl (by first | exact (Op1.indexAddr rfl rfl rD lT) | exact (Op1.indexAddrZ rfl rfl rD lT)) rfl rfl sT kR kR kR xQP ?_
    refine WPD.take 3 rfl (Op1.loadLif rfl rD lT) rfl rfl sT kR kR kR xQP ?_
    refine WPD.take 7 rfl (Op1.loadLif rfl rD lT) rfl rfl sT kR kR kR xQP ?_
    refine WPD.take 8 rfl (Op1.neL rfl rfl) rfl rfl sT kR kR kR xQP ?_
    refine WPD.done kR ?_
    try refine go ⟨?_⟩
    refine WP.condD rfl (fun he => ?_) (fun he => ?_)
    · try refine go ⟨?_⟩
      refine PE.ret1 (T := []) (T' := []) rfl rV ?_ sT
      refine ⟨rfl, ?_⟩
      rw [decide_eq_false]
      rintro rfl
      exact absurd rfl he
    · try refine go ⟨?_⟩
      refine PE.again (k + 1) ?_ ?_ sE sT
      · exact ⟨by omega, fun m hm' => by
          rcases Nat.lt_succ_iff_lt_or_eq.1 hm' with h' | rfl
          · exact hm m h'
          · exact Decidable.not_not.1 he⟩
      · omega
  · try refine go ⟨?_⟩
    refine PE.ret1 (T := []) (T' := []) rfl rV ?_ sT
    refine ⟨rfl, ?_⟩
    rw [decide_eq_true]
    exact List.ext_getElem hll (fun i h1 h2 => by
      have := hm i (by omega)
      rwa [List.getD_eq_getElem?_getD, List.getD_eq_getElem?_getD, List.getElem?_eq_getElem h1, List.getElem?_eq_getElem h2] at this)
end Go.Proofs.Ytfigegmgopnfhaa
