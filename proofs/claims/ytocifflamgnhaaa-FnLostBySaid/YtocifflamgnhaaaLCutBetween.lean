/- The law FnCutBetween: its walk. Conditions: those of the theorem. -/
import Derived.Test.YtocifflamgnhaaaLPartsOf
namespace Go.Proofs.Ytocifflamgnhaaa
open Go
theorem CN_symm {n : Int} {es : List E} {x y : Int} (h : CN n es x y) : CN n es y x := ⟨h.1, h.2.2.1, h.2.1, h.2.2.2.symm⟩
theorem cutb_len (n : Int) (es : List E) (x y : Int) : (cutb n es x y).length ≤ n.toNat := by
  have := List.length_filter_le (fun k => decide (k ≠ x ∧ k ≠ y ∧ ¬ cn n (alone es k) x y)) (iota n.toNat)
  rw [iota_length] at this; exact this
theorem beq_not (d : Bool) : (d == !d) = false := by cases d <;> rfl
theorem cutb_dec {n : Int} {es : List E} {x y : Int} (hc : CN n es x y) {k : Int} (hk : Nd n k) (h1 : k ≠ x) (h2 : k ≠ y) : decide (CN n (alone es k) x y) = !decide (k ∈ cutb n es x y) := by
  have e1 : CN n (alone es k) x y ↔ cn n (alone es k) x y := ⟨fun h => h.2.2.2, fun h => ⟨hc.1.filter _, hc.2.1, hc.2.2.1, h⟩⟩
  have e2 : k ∈ cutb n es x y ↔ ¬ cn n (alone es k) x y := by
    unfold cutb
    rw [List.mem_filter, decide_eq_true_eq, mem_iota]
    exact ⟨fun h => h.2.2.2, fun h => ⟨⟨hk.1, by have := hk.2; omega⟩, h1, h2, h⟩⟩
  by_cases hb : cn n (alone es k) x y
  · rw [decide_eq_true (e1.2 hb), decide_eq_false fun h => e2.1 h hb]; rfl
  · rw [decide_eq_false fun h => hb (e1.1 h), decide_eq_true (e2.2 hb)]; rfl
set_option linter.unusedVariables false set_option linter.unusedSimpArgs false attribute [local irreducible] Tok.own Tok.blk RL Rd eptr WP WPL PE WPD WPO Op1 OpE Tri Again Mid Exit.then Exit.inBlock bodyPost RP Code.wp wpList isOwn OneM One
attribute [local irreducible] CN
set_option maxHeartbeats 8000000

theorem l_CutBetween (w : World) (v : Value) (bs : List UInt8) (h : RL w v bs) (hl : bs.length ≤ 9223372036854775807) :
    Tri Try.prog 15 [v] w [] fun r T => r = .bool true := by
  have gvOf : ∀ {n : Int} {es : List E} {x y : Int}, CN n es x y → GV n es := fun h => by unfold CN at h; exact h.1
  refine Tri.intro (hf := Try.func15) (hb := rfl) (hn := Try.ntmps15) (Nat.le_of_ble_eq_true rfl) ?_
  repeat' (first | exact absurd rfl hc | refine go ⟨?_⟩ | (refine isCond ?_; refine WP.condD rfl (fun hc => ?_) (fun hc => ?_)) | (refine isGuard ?_; refine WPL.splitD rfl rfl (fun hc => ?_) (fun hc => ?_)))
  · refine PE.ret1 (T := []) (T' := []) rfl rV ?_ sT
    rfl
  refine WPL.eff (OpE.call lO (fun w hw => g_CutNodesBetween _ v bs (Rd.at rD hw) hl)) rfl rfl ?_
  rintro r _ ⟨T, ⟨u, n, es, x, y, rfl, rfl, hle⟩, rfl⟩
  try refine go ⟨?_⟩
  refine WPL.eff OpE.alloc rfl rfl ?_; rintro _ _ ⟨bt, rfl, rfl⟩
  try refine go ⟨?_⟩
  refine WPL.eff (OpE.call lO (fun w hw => u_CutNodesBetween _ n u es x y (Rd.at rD hw) (by omega))) rfl rfl ?_
  rintro _ _ ⟨T, ⟨q, rfl, rfl⟩, rfl⟩
  try refine go ⟨?_⟩
  refine WPL.eff (OpE.call lO (fun w hw => v_CutNodesBetween _ n u es x y (Rd.at rD hw) (by omega))) rfl rfl ?_
  rintro _ _ ⟨T, ⟨q2, rfl, rfl⟩, rfl⟩
  by_cases hc : CN n es x y
  case neg =>
    rw [if_neg hc, decide_eq_false hc]
    try refine go ⟨?_⟩
    refine WPL.eff (OpE.call lO (fun w hw => y_Ints _ q q2 [] [] (Rd.at rD hw) (Rd.at rD hw) (by decide) (by decide))) rfl rfl ?_
    rintro _ _ ⟨T, ⟨rfl, rfl⟩, rfl⟩
    rw [deq_int]
    try refine go ⟨?_⟩
    refine WPL.eff (OpE.call lO (fun w hw => y_Ints _ q q2 [] [] (Rd.at rD hw) (Rd.at rD hw) (by decide) (by decide))) rfl rfl ?_
    rintro _ _ ⟨T, ⟨rfl, rfl⟩, rfl⟩
    rw [deq_int]
    try refine go ⟨?_⟩
    refine PE.ret1 (T := []) (T' := []) rfl rV ?_ sT
    rfl
  have hg := gvOf hc
  have hn1 := hg.ne.n1
  have hn2 := hg.ne.n2
  have hcl := cutb_len n es x y
  rw [if_pos hc, decide_eq_true hc]
  try refine go ⟨?_⟩
  refine WPL.eff (OpE.call lO (fun w hw => y_Ints _ q q2 (cutb n es x y) (cutb n es x y) (Rd.at rD hw) (Rd.at rD hw) (by omega) (by omega))) rfl rfl ?_
  rintro _ _ ⟨T, ⟨rfl, rfl⟩, rfl⟩
  rw [deq_int]
  try refine go ⟨?_⟩
  refine WP.loop (σ := Nat) (fun k => [(3, ptrV bt), (4, .int .i64 x), (5, .int .i64 y), (6, q), (10, .int .i64 k)]) (fun _ => [Tok.own q (cutb n es x y), Tok.blk bt [.int .i64 n, u], Tok.own u es]) (fun k => k ≤ n.toNat) (fun k => n.toNat - k) 0 (Nat.zero_le _) sE sT2 ?_
  rintro k hk
  try refine go ⟨?_⟩
  refine WP.condD rfl (fun hi => ?_) (fun hi => ?_)
  · have hk' : k < n.toNat := by omega
    have hgk : GN n es k := ⟨hg, by omega, by omega⟩
    have hal : (alone es k).length ≤ es.length := List.length_filter_le _ _
    try refine go ⟨?_⟩
    refine WPL.eff (OpE.call lO (fun w hw => u_CutNode _ n u es k (Rd.at rD hw) (by omega))) rfl rfl ?_
    rintro _ _ ⟨T, ⟨q3, rfl, rfl⟩, rfl⟩
    rw [if_pos hgk, if_pos hgk, decide_eq_true hgk]
    try refine go ⟨?_⟩
    refine WPL.eff OpE.alloc rfl rfl ?_; rintro _ _ ⟨b11, rfl, rfl⟩
    try refine go ⟨?_⟩
    refine WP.draw [Tok.own q (cutb n es x y), Tok.blk b11 [.int .i64 n, q3], Tok.own q3 (alone es k)] mixed ?_
    refine WPD.take 0 rfl (Op1.move rfl) rfl rfl sT kR kR kR xQP ?_
    refine WPD.take 1 rfl (by first | exact (Op1.notD rfl) | exact (Op1.not rfl)) rfl rfl sT kR kR kR xQP ?_
    refine WPD.take 2 rfl (Op1.move rfl) rfl rfl sT kR kR kR xQP ?_
    first | refine WPD.splitD 73 rfl (fun h73 => ?t1) (fun h73 => ?f1) | refine WPD.split 73 rfl (fun h73 => ?t1) (fun h73 => ?f1)
    case' t1 =>
      refine WPD.skip 3 rfl rfl rfl sT kR kR kR xQP ?_
      refine WPD.skip 4 rfl rfl rfl sT kR kR kR xQP ?_
      refine WPD.skip 5 rfl rfl rfl sT kR kR kR xQP ?_
      refine WPD.skip 6 rfl rfl rfl sT kR kR kR xQP ?_
      refine WPD.skip 7 rfl rfl rfl sT kR kR kR xQP ?_
      refine WPD.skip 8 rfl rfl rfl sT kR kR kR xQP ?_
      refine WPD.skip 9 rfl rfl rfl sT kR kR kR xQP ?_
      refine WPD.skip 10 rfl rfl rfl sT kR kR kR xQP ?_
      refine WPD.skip 11 rfl rfl rfl sT kR kR kR xQP ?_
      refine WPD.skip 12 rfl rfl rfl sT kR kR kR xQP ?_
      refine WPD.skip 13 rfl rfl rfl sT kR kR kR xQP ?_
      refine WPD.skip 15 rfl rfl rfl sT kR kR kR xQP ?_
      refine WPD.skip 16 rfl rfl rfl sT kR kR kR xQP ?_
      refine WPD.skip 17 rfl rfl rfl sT kR kR kR xQP ?_
      refine WPD.skip 14 rfl rfl rfl sT kR kR kR xQP ?_
      refine WPD.skip 18 rfl rfl rfl sT kR kR kR xQP ?_
      refine WPD.skip 19 rfl rfl rfl sT kR kR kR xQP ?_
      refine WPD.skip 20 rfl rfl rfl sT kR kR kR xQP ?_
      refine WPD.eff 21 kR rfl (OpE.ofPure (by first | exact (Op1.pickT rfl rfl) | exact (Op1.pickF rfl rfl))) rfl rfl ?_
      rintro _ _ ⟨rfl, rfl⟩
      refine ⟨sT, ?_⟩
      refine WPD.done kR ?_
    case' f1 =>
      refine WPD.take 3 rfl (Op1.move rfl) rfl rfl sT kR kR kR xQP ?_
      refine WPD.take 4 rfl (Op1.move rfl) rfl rfl sT kR kR kR xQP ?_
      refine WPD.take 5 rfl (by first | exact (Op1.neI rfl rfl) | exact (Op1.neB rfl rfl) | exact (Op1.neE rfl rfl)) rfl rfl sT kR kR kR xQP ?_
      refine WPD.take 6 rfl (Op1.move rfl) rfl rfl sT kR kR kR xQP ?_
      first | refine WPD.splitD 77 rfl (fun h77 => ?t2) (fun h77 => ?f2) | refine WPD.split 77 rfl (fun h77 => ?t2) (fun h77 => ?f2)
      case' t2 =>
        refine WPD.take 7 rfl (Op1.move rfl) rfl rfl sT kR kR kR xQP ?_
        refine WPD.take 8 rfl (Op1.move rfl) rfl rfl sT kR kR kR xQP ?_
        refine WPD.take 9 rfl (by first | exact (Op1.neI rfl rfl) | exact (Op1.neB rfl rfl) | exact (Op1.neE rfl rfl)) rfl rfl sT kR kR kR xQP ?_
        refine WPD.take 10 rfl (by first | exact (Op1.pickT rfl rfl) | exact (Op1.pickF rfl rfl)) rfl rfl sT kR kR kR xQP ?_
        refine WPD.take 11 rfl (Op1.move rfl) rfl rfl sT kR kR kR xQP ?_
        first | refine WPD.splitD 82 rfl (fun h82 => ?t3) (fun h82 => ?f3) | refine WPD.split 82 rfl (fun h82 => ?t3) (fun h82 => ?f3)
        case' t3 =>
          refine WPD.take 12 rfl (Op1.move rfl) rfl rfl sT kR kR kR xQP ?_
          refine WPD.take 13 rfl (Op1.move rfl) rfl rfl sT kR kR kR xQP ?_
          refine WPD.take 15 rfl (by first | exact (Op1.load rfl mM (by rfl)) | exact (Op1.loadI rfl rD lT) | exact (Op1.loadAll rfl mM (by rfl)) | exact (Op1.loadE rfl rD lT (by rfl)) | exact (Op1.loadEAgg rfl rD lT (by rfl))) rfl rfl sT kR kR kR xQP ?_
          refine WPD.take 16 rfl (Op1.move rfl) rfl rfl sT kR kR kR xQP ?_
          refine WPD.take 17 rfl (Op1.move rfl) rfl rfl sT kR kR kR xQP ?_
          refine WPD.eff 14 kR rfl (OpE.call lO (fun w hw => y_In _ q k (cutb n es x y) (Rd.at rD hw) (by omega))) rfl rfl ?_
          rintro r _ ⟨T, ⟨rfl, rfl⟩, rfl⟩
          refine ⟨sT, ?_⟩
          refine WPD.eff 18 kR rfl (OpE.call lO (fun w hw => c_Connected _ n q3 (alone es k) x y (Rd.at rD hw) (by omega))) rfl rfl ?_
          rintro r _ ⟨T, ⟨rfl, rfl⟩, rfl⟩
          rw [cutb_dec hc hgk.2 h77 h82]
          refine ⟨sT, ?_⟩
          refine WPD.eff 19 kR rfl (OpE.ofPure (by first | exact (Op1.eqI rfl rfl) | exact (Op1.eqB rfl rfl) | exact (Op1.eqE rfl rfl) | exact (Op1.eqNil rfl rD))) rfl rfl ?_
          rintro _ _ ⟨rfl, rfl⟩
          refine ⟨sT, ?_⟩
          refine WPD.eff 20 kR rfl (OpE.ofPure (by first | exact (Op1.pickT rfl rfl) | exact (Op1.pickF rfl rfl))) rfl rfl ?_
          rintro _ _ ⟨rfl, rfl⟩
          refine ⟨sT, ?_⟩
          refine WPD.eff 21 kR rfl (OpE.ofPure (by first | exact (Op1.pickT rfl rfl) | exact (Op1.pickF rfl rfl))) rfl rfl ?_
          rintro _ _ ⟨rfl, rfl⟩
          refine ⟨sT, ?_⟩
          refine WPD.done kR ?_
        case' f3 =>
          refine WPD.skip 12 rfl rfl rfl sT kR kR kR xQP ?_
          refine WPD.skip 13 rfl rfl rfl sT kR kR kR xQP ?_
          refine WPD.skip 15 rfl rfl rfl sT kR kR kR xQP ?_
          refine WPD.skip 16 rfl rfl rfl sT kR kR kR xQP ?_
          refine WPD.skip 17 rfl rfl rfl sT kR kR kR xQP ?_
          refine WPD.skip 14 rfl rfl rfl sT kR kR kR xQP ?_
          refine WPD.skip 18 rfl rfl rfl sT kR kR kR xQP ?_
          refine WPD.skip 19 rfl rfl rfl sT kR kR kR xQP ?_
          refine WPD.eff 20 kR rfl (OpE.ofPure (by first | exact (Op1.pickT rfl rfl) | exact (Op1.pickF rfl rfl))) rfl rfl ?_
          rintro _ _ ⟨rfl, rfl⟩
          refine ⟨sT, ?_⟩
          refine WPD.eff 21 kR rfl (OpE.ofPure (by first | exact (Op1.pickT rfl rfl) | exact (Op1.pickF rfl rfl))) rfl rfl ?_
          rintro _ _ ⟨rfl, rfl⟩
          refine ⟨sT, ?_⟩
          refine WPD.done kR ?_
      case' f2 =>
        refine WPD.skip 7 rfl rfl rfl sT kR kR kR xQP ?_
        refine WPD.skip 8 rfl rfl rfl sT kR kR kR xQP ?_
        refine WPD.skip 9 rfl rfl rfl sT kR kR kR xQP ?_
        refine WPD.take 10 rfl (by first | exact (Op1.pickT rfl rfl) | exact (Op1.pickF rfl rfl)) rfl rfl sT kR kR kR xQP ?_
        refine WPD.take 11 rfl (Op1.move rfl) rfl rfl sT kR kR kR xQP ?_
        refine WPD.skip 12 rfl rfl rfl sT kR kR kR xQP ?_
        refine WPD.skip 13 rfl rfl rfl sT kR kR kR xQP ?_
        refine WPD.skip 15 rfl rfl rfl sT kR kR kR xQP ?_
        refine WPD.skip 16 rfl rfl rfl sT kR kR kR xQP ?_
        refine WPD.skip 17 rfl rfl rfl sT kR kR kR xQP ?_
        refine WPD.skip 14 rfl rfl rfl sT kR kR kR xQP ?_
        refine WPD.skip 18 rfl rfl rfl sT kR kR kR xQP ?_
        refine WPD.skip 19 rfl rfl rfl sT kR kR kR xQP ?_
        refine WPD.eff 20 kR rfl (OpE.ofPure (by first | exact (Op1.pickT rfl rfl) | exact (Op1.pickF rfl rfl))) rfl rfl ?_
        rintro _ _ ⟨rfl, rfl⟩
        refine ⟨sT, ?_⟩
        refine WPD.eff 21 kR rfl (OpE.ofPure (by first | exact (Op1.pickT rfl rfl) | exact (Op1.pickF rfl rfl))) rfl rfl ?_
        rintro _ _ ⟨rfl, rfl⟩
        refine ⟨sT, ?_⟩
        refine WPD.done kR ?_
    all_goals first
      | exact absurd ‹(!true) = true› (by decide)
      | ((try rw [beq_not])
         try refine go ⟨?_⟩
         refine PE.again (k + 1) ?_ ?_ sE sT2
         · (try dsimp only); omega
         · (try dsimp only); omega)
  try refine go ⟨?_⟩
  refine WPL.eff (OpE.call lO (fun w hw => u_CutNodesBetween _ n u es y x (Rd.at rD hw) (by omega))) rfl rfl ?_
  rintro _ _ ⟨T, ⟨q4, rfl, rfl⟩, rfl⟩
  rw [if_pos (CN_symm hc), decide_eq_true (CN_symm hc), cutb_symm n es y x]
  try refine go ⟨?_⟩
  refine WPL.eff (OpE.call lO (fun w hw => y_Ints _ q4 q (cutb n es x y) (cutb n es x y) (Rd.at rD hw) (Rd.at rD hw) (by omega) (by omega))) rfl rfl ?_
  rintro _ _ ⟨T, ⟨rfl, rfl⟩, rfl⟩
  rw [deq_int]
  try refine go ⟨?_⟩
  refine PE.ret1 (T := []) (T' := []) rfl rV ?_ sT
  rfl
end Go.Proofs.Ytocifflamgnhaaa
