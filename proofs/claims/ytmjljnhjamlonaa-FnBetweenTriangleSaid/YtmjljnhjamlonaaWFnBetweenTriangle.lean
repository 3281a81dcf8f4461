/- The given statement FnBetweenTriangleSaid, out of its walk (LBetweenTriangle). Written by fin.py. No conditions. -/
import Derived.Test.YtmjljnhjamlonaaInit
import Derived.Test.YtmjljnhjamlonaaV3
import Derived.Test.YtmjljnhjamlonaaV4
set_option linter.unusedVariables false
set_option linter.unusedSimpArgs false
/- The law FnPartsOf: its walk. Conditions: those of the theorem. -/
namespace Go.Proofs.Ytmjljnhjamlonaa
open Go
theorem deq_int (l : List Int) : decide (l = l) = true := decide_eq_true rfl
theorem deq_E (l : List E) : decide (l = l) = true := decide_eq_true rfl
set_option linter.unusedVariables false set_option linter.unusedSimpArgs false attribute [local irreducible] Tok.own Tok.blk RL Rd eptr WP WPL PE WPD WPO Op1 OpE Tri Again Mid Exit.then Exit.inBlock bodyPost RP Code.wp wpList isOwn OneM One
set_option maxHeartbeats 8000000

theorem l_PartsOf (w : World) (v : Value) (bs : List UInt8) (h : RL w v bs) (hl : bs.length ≤ 9223372036854775807) :
    Tri Try.prog 4 [v] w [] fun r T => r = .bool true := by
  refine Tri.intro (hf := Try.func4) (hb := rfl) (hn := Try.ntmps4) (Nat.le_of_ble_eq_true rfl) ?_
  repeat' (first | exact absurd rfl hc | refine go ⟨?_⟩ | (refine isCond ?_; refine WP.condD rfl (fun hc => ?_) (fun hc => ?_)) | (refine isGuard ?_; refine WPL.splitD rfl rfl (fun hc => ?_) (fun hc => ?_)))
  · refine PE.ret1 (T := []) (T' := []) rfl rV ?_ sT
    rfl
  refine WPL.eff (OpE.call lO (fun w hw => g_PartsOf _ v bs (Rd.at rD hw) hl)) rfl rfl ?_
  rintro r _ ⟨T, ⟨u, n, es, rfl, rfl, hle⟩, rfl⟩
  try refine go ⟨?_⟩
  refine WPL.eff OpE.alloc rfl rfl ?_; rintro _ _ ⟨bt, rfl, rfl⟩
  try refine go ⟨?_⟩
  refine WPL.eff (OpE.call lO (fun w hw => u_PartsOf _ n u es (Rd.at rD hw) (by omega))) rfl rfl ?_
  rintro r _ ⟨T, rfl, rfl⟩
  try refine go ⟨?_⟩
  refine WPL.eff (OpE.call lO (fun w hw => v_PartsOf _ n u es (Rd.at rD hw) (by omega))) rfl rfl ?_
  rintro r2 _ ⟨T, rfl, rfl⟩
  by_cases hg : GV n es
  case neg =>
    rw [if_neg hg]
    try refine go ⟨?_⟩
    refine WPL.eff (OpE.call lO (fun w hw => y_Ints _ r r2 [] [] (Rd.at rD hw) (Rd.at rD hw) (by decide) (by decide))) rfl rfl ?_
    rintro _ _ ⟨T, ⟨rfl, rfl⟩, rfl⟩
    rw [deq_int]
    repeat' (first | exact absurd rfl hc | refine go ⟨?_⟩ | (refine isCond ?_; refine WP.condD rfl (fun hc => ?_) (fun hc => ?_)) | (refine isGuard ?_; refine WPL.splitD rfl rfl (fun hc => ?_) (fun hc => ?_)))
    refine WPL.eff (OpE.call lO (fun w hw => c_GraphValid _ n u es (Rd.at rD hw) (by omega))) rfl rfl ?_
    rintro _ _ ⟨T, ⟨rfl, rfl⟩, rfl⟩
    rw [decide_eq_false hg]
    repeat' (first | exact absurd rfl hc | refine go ⟨?_⟩ | (refine isCond ?_; refine WP.condD rfl (fun hc => ?_) (fun hc => ?_)) | (refine isGuard ?_; refine WPL.splitD rfl rfl (fun hc => ?_) (fun hc => ?_)))
    refine WPL.eff (OpE.call lO (fun w hw => v_PartsOf _ n u es (Rd.at rD hw) (by omega))) rfl rfl ?_
    rintro r3 _ ⟨T, rfl, rfl⟩
    rw [if_neg hg]
    try refine go ⟨?_⟩
    refine WPL.eff (OpE.call lO (fun w hw => y_Ints _ r r3 [] [] (Rd.at rD hw) (Rd.at rD hw) (by decide) (by decide))) rfl rfl ?_
    rintro _ _ ⟨T, ⟨rfl, rfl⟩, rfl⟩
    rw [deq_int]
    repeat' (first | exact absurd rfl hc | refine go ⟨?_⟩ | (refine isCond ?_; refine WP.condD rfl (fun hc => ?_) (fun hc => ?_)) | (refine isGuard ?_; refine WPL.splitD rfl rfl (fun hc => ?_) (fun hc => ?_)))
    refine PE.ret1 (T := []) (T' := []) rfl rV ?_ sT
    rfl
  have hll := labs_length n es
  have hn1 := hg.ne.n1
  have hn2 := hg.ne.n2
  rw [if_pos hg]
  try refine go ⟨?_⟩
  refine WPL.eff (OpE.call lO (fun w hw => y_Ints _ r r2 (labs n es) (labs n es) (Rd.at rD hw) (Rd.at rD hw) (by omega) (by omega))) rfl rfl ?_
  rintro _ _ ⟨T, ⟨rfl, rfl⟩, rfl⟩
  rw [deq_int]
  repeat' (first | exact absurd rfl hc | refine go ⟨?_⟩ | (refine isCond ?_; refine WP.condD rfl (fun hc => ?_) (fun hc => ?_)) | (refine isGuard ?_; refine WPL.splitD rfl rfl (fun hc => ?_) (fun hc => ?_)))
  refine WPL.eff (OpE.call lO (fun w hw => c_GraphValid _ n u es (Rd.at rD hw) (by omega))) rfl rfl ?_
  rintro _ _ ⟨T, ⟨rfl, rfl⟩, rfl⟩
  rw [decide_eq_true hg]
  repeat' (first | exact absurd rfl hc | refine go ⟨?_⟩ | (refine isCond ?_; refine WP.condD rfl (fun hc => ?_) (fun hc => ?_)) | (refine isGuard ?_; refine WPL.splitD rfl rfl (fun hc => ?_) (fun hc => ?_)))
  refine WP.loop (σ := Nat) (fun k => [(3, ptrV bt), (4, r), (5, .int .i64 k)]) (fun _ => [Tok.own r (labs n es), Tok.blk bt [.int .i64 n, u], Tok.own u es]) (fun k => k ≤ es.length) (fun k => es.length - k) 0 (Nat.zero_le _) sE sT2 ?_
  rintro k hk
  try refine go ⟨?_⟩
  refine WP.condD rfl (fun hc => ?_) (fun hc => ?_)
  · have hk' : k < es.length := by omega
    have hm := getD_memI (d := (Enc.d : E)) hk'
    obtain ⟨⟨a1, a2⟩, a3, a4⟩ := hg.okE _ hm
    have hst := labs_stab hg.okE _ hm
    try refine go ⟨?_⟩
    refine WP.draw [Tok.own r (labs n es), Tok.blk bt [.int .i64 n, u], Tok.own u es] mixed ?_
    refine WPD.take 0 rfl (Op1.move rfl) rfl rfl sT kR kR kR xQP ?_
    refine WPD.take 1 rfl (by first | exact (Op1.fieldAddr rfl) | exact (Op1.fieldAddrE rfl rD lT)) rfl rfl sT kR kR kR xQP ?_
    refine WPD.take 3 rfl (Op1.move rfl) rfl rfl sT kR kR kR xQP ?_
    refine WPD.take 9 rfl (Op1.move rfl) rfl rfl sT kR kR kR xQP ?_
    refine WPD.take 10 rfl (by first | exact (Op1.fieldAddr rfl) | exact (Op1.fieldAddrE rfl rD lT)) rfl rfl sT kR kR kR xQP ?_
    refine WPD.take 12 rfl (Op1.move rfl) rfl rfl sT kR kR kR xQP ?_
    refine WPD.take 2 rfl (by first | exact (Op1.load rfl mM (by rfl)) | exact (Op1.loadI rfl rD lT) | exact (Op1.loadAll rfl mM (by rfl)) | exact (Op1.loadE rfl rD lT (by rfl)) | exact (Op1.loadEAgg rfl rD lT (by rfl))) rfl rfl sT kR kR kR xQP ?_
    refine WPD.take 11 rfl (by first | exact (Op1.load rfl mM (by rfl)) | exact (Op1.loadI rfl rD lT) | exact (Op1.loadAll rfl mM (by rfl)) | exact (Op1.loadE rfl rD lT (by rfl)) | exact (Op1.loadEAgg rfl rD lT (by rfl))) rfl rfl sT kR kR kR xQP ?_
    refine WPD.take 4 rfl (by first | exact (Op1.indexAddr rfl rfl rD lT) | exact (Op1.indexAddrZ rfl rfl rD lT)) rfl rfl sT kR kR kR xQP ?_
    refine WPD.take 13 rfl (by first | exact (Op1.indexAddr rfl rfl rD lT) | exact (Op1.indexAddrZ rfl rfl rD lT)) rfl rfl sT kR kR kR xQP ?_
    refine WPD.take 5 rfl (by first | exact (Op1.fieldAddr rfl) | exact (Op1.fieldAddrE rfl rD lT)) rfl rfl sT kR kR kR xQP ?_
    refine WPD.take 14 rfl (by first | exact (Op1.fieldAddr rfl) | exact (Op1.fieldAddrE rfl rD lT)) rfl rfl sT kR kR kR xQP ?_
    refine WPD.take 6 rfl (by first | exact (Op1.load rfl mM (by rfl)) | exact (Op1.loadI rfl rD lT) | exact (Op1.loadAll rfl mM (by rfl)) | exact (Op1.loadE rfl rD lT (by rfl)) | exact (Op1.loadEAgg rfl rD lT (by rfl))) rfl rfl sT kR kR kR xQP ?_
    refine WPD.take 15 rfl (by first | exact (Op1.load rfl mM (by rfl)) | exact (Op1.loadI rfl rD lT) | exact (Op1.loadAll rfl mM (by rfl)) | exact (Op1.loadE rfl rD lT (by rfl)) | exact (Op1.loadEAgg rfl rD lT (by rfl))) rfl rfl sT kR kR kR xQP ?_
    refine WPD.take 7 rfl (by first | exact (Op1.indexAddr rfl rfl rD lT) | exact (Op1.indexAddrZ rfl rfl rD lT)) rfl rfl sT kR kR kR xQP ?_
    refine WPD.take 16 rfl (by first | exact (Op1.indexAddr rfl rfl rD lT) | exact (Op1.indexAddrZ rfl rfl rD lT)) rfl rfl sT kR kR kR xQP ?_
    refine WPD.take 8 rfl (by first | exact (Op1.load rfl mM (by rfl)) | exact (Op1.loadI rfl rD lT) | exact (Op1.loadAll rfl mM (by rfl)) | exact (Op1.loadE rfl rD lT (by rfl)) | exact (Op1.loadEAgg rfl rD lT (by rfl))) rfl rfl sT kR kR kR xQP ?_
    refine WPD.take 17 rfl (by first | exact (Op1.load rfl mM (by rfl)) | exact (Op1.loadI rfl rD lT) | exact (Op1.loadAll rfl mM (by rfl)) | exact (Op1.loadE rfl rD lT (by rfl)) | exact (Op1.loadEAgg rfl rD lT (by rfl))) rfl rfl sT kR kR kR xQP ?_
    refine WPD.take 18 rfl (by first | exact (Op1.neI rfl rfl) | exact (Op1.neB rfl rfl) | exact (Op1.neE rfl rfl)) rfl rfl sT kR kR kR xQP ?_
    refine WPD.done kR ?_
    try refine go ⟨?_⟩
    refine WP.condD rfl (fun he => ?_) (fun he => ?_)
    · exact absurd hst he
    · try refine go ⟨?_⟩
      refine PE.again (k + 1) ?_ ?_ sE sT2
      · (try dsimp only); omega
      · (try dsimp only); omega
  try refine go ⟨?_⟩
  refine WP.loop (σ := Nat) (fun k => [(3, ptrV bt), (4, r), (6, .int .i64 k)]) (fun _ => [Tok.own r (labs n es), Tok.blk bt [.int .i64 n, u], Tok.own u es]) (fun k => k ≤ n.toNat) (fun k => n.toNat - k) 0 (Nat.zero_le _) sE sT2 ?_
  rintro k hk
  try refine go ⟨?_⟩
  refine WP.condD rfl (fun hc => ?_) (fun hc => ?_)
  · have hk' : k < n.toNat := by omega
    have hgn : GN n es k := ⟨hg, by omega, by omega⟩
    try refine go ⟨?_⟩
    refine WPL.eff (OpE.call lO (fun w hw => u_PartNodes _ n u es k (Rd.at rD hw) (by omega))) rfl rfl ?_
    rintro p _ ⟨T, rfl, rfl⟩
    rw [if_pos hgn]
    have hmem : (k : Int) ∈ pns n es k := (mem_pns (by omega)).2 ⟨hgn.2, rfl⟩
    have hpl : 0 < (pns n es k).length := List.length_pos_of_mem hmem
    have hpu : (pns n es k).length ≤ n.toNat := by
      have := List.length_filter_le (fun j => decide (lab n es j = lab n es k)) (iota n.toNat)
      rw [iota_length] at this; exact this
    have hh : (labs n es).getD k 0 = (pns n es k).getD 0 0 := (pns_head hg.okE hgn.2).symm
    try refine go ⟨?_⟩
    refine WP.draw [Tok.own p (pns n es k), Tok.own r (labs n es), Tok.blk bt [.int .i64 n, u], Tok.own u es] mixed ?_
    refine WPD.take 0 rfl (Op1.move rfl) rfl rfl sT kR kR kR xQP ?_
    refine WPD.take 1 rfl (Op1.move rfl) rfl rfl sT kR kR kR xQP ?_
    refine WPD.take 4 rfl (Op1.move rfl) rfl rfl sT kR kR kR xQP ?_
    refine WPD.take 2 rfl (by first | exact (Op1.indexAddr rfl rfl rD lT) | exact (Op1.indexAddrZ rfl rfl rD lT)) rfl rfl sT kR kR kR xQP ?_
    refine WPD.take 5 rfl (by first | exact (Op1.indexAddr rfl rfl rD lT) | exact (Op1.indexAddrZ rfl rfl rD lT)) rfl rfl sT kR kR kR xQP ?_
    refine WPD.take 3 rfl (by first | exact (Op1.load rfl mM (by rfl)) | exact (Op1.loadI rfl rD lT) | exact (Op1.loadAll rfl mM (by rfl)) | exact (Op1.loadE rfl rD lT (by rfl)) | exact (Op1.loadEAgg rfl rD lT (by rfl))) rfl rfl sT kR kR kR xQP ?_
    refine WPD.take 6 rfl (by first | exact (Op1.load rfl mM (by rfl)) | exact (Op1.loadI rfl rD lT) | exact (Op1.loadAll rfl mM (by rfl)) | exact (Op1.loadE rfl rD lT (by rfl)) | exact (Op1.loadEAgg rfl rD lT (by rfl))) rfl rfl sT kR kR kR xQP ?_
    refine WPD.take 7 rfl (by first | exact (Op1.neI rfl rfl) | exact (Op1.neB rfl rfl) | exact (Op1.neE rfl rfl)) rfl rfl sT kR kR kR xQP ?_
    refine WPD.take 8 rfl (Op1.move rfl) rfl rfl sT kR kR kR xQP ?_
    first | refine WPD.splitD 77 rfl (fun h77 => ?t37) (fun h77 => ?f37) | refine WPD.split 77 rfl (fun h77 => ?t37) (fun h77 => ?f37)
    case' t37 =>
      refine WPD.skip 9 rfl rfl rfl sT kR kR kR xQP ?_
      refine WPD.skip 10 rfl rfl rfl sT kR kR kR xQP ?_
      refine WPD.skip 11 rfl rfl rfl sT kR kR kR xQP ?_
      refine WPD.skip 12 rfl rfl rfl sT kR kR kR xQP ?_
      refine WPD.eff 13 kR rfl (OpE.ofPure (by first | exact (Op1.pickT rfl rfl) | exact (Op1.pickF rfl rfl))) rfl rfl ?_
      rintro _ _ ⟨rfl, rfl⟩
      refine ⟨sT, ?_⟩
      refine WPD.done kR ?_
    case' f37 =>
      refine WPD.take 9 rfl (Op1.move rfl) rfl rfl sT kR kR kR xQP ?_
      refine WPD.take 10 rfl (Op1.move rfl) rfl rfl sT kR kR kR xQP ?_
      refine WPD.eff 11 kR rfl (OpE.call lO (fun w hw => y_In _ p k (pns n es k) (Rd.at rD hw) (by omega))) rfl rfl ?_
      rintro r _ ⟨T, ⟨rfl, rfl⟩, rfl⟩
      refine ⟨sT, ?_⟩
      refine WPD.eff 12 kR rfl (OpE.ofPure (by first | exact (Op1.notD rfl) | exact (Op1.not rfl))) rfl rfl ?_
      rintro _ _ ⟨rfl, rfl⟩
      refine ⟨sT, ?_⟩
      refine WPD.eff 13 kR rfl (OpE.ofPure (by first | exact (Op1.pickT rfl rfl) | exact (Op1.pickF rfl rfl))) rfl rfl ?_
      rintro _ _ ⟨rfl, rfl⟩
      refine ⟨sT, ?_⟩
      refine WPD.done kR ?_
    · try refine go ⟨?_⟩
      refine WP.condD rfl (fun hq => ?_) (fun hq => ?_)
      · exact absurd hmem hq
      try refine go ⟨?_⟩
      refine PE.again (k + 1) ?_ ?_ sE sT2
      · (try dsimp only); omega
      · (try dsimp only); omega
    · exact absurd hh ‹_›
  try refine go ⟨?_⟩
  refine PE.ret1 (T := []) (T' := []) rfl rV ?_ sT
  exact congrArg Value.bool (decide_eq_true (by omega))
end Go.Proofs.Ytmjljnhjamlonaa
/- The law FnCutBetween: its walk. Conditions: those of the theorem. -/
namespace Go.Proofs.Ytmjljnhjamlonaa
open Go
theorem CN_symm {n : Int} {es : List E} {x y : Int} (h : CN n es x y) : CN n es y x := ⟨h.1, h.2.2.1, h.2.1, h.2.2.2.symm⟩
theorem cutb_len (n : Int) (es : List E) (x y : Int) : (cutb n es x y).length ≤ n.toNat := by
  have := List.length_filter_le (fun k => decide (k ≠ x ∧ k ≠ y ∧ ¬ cn n (alone es k) x y)) (iota n.toNat)
  rw [iota_length] at this; exact this
theorem beq_not (d : Bool) : (d == !d) = false := by cases d <;> rfl
theorem cutb_dec {n : Int} {es : List E} {x y : Int} (hc : CN n es x y) {k : Int} (hk : Nd n k) (h1 : k ≠ x) (h2 : k ≠ y) : decide (CN n (alone es k) x y) = !decide (k ∈ cutb n es x y) := by
  have e1 : CN n (alone es k) x y ↔ cn n (alone es k) x y := ⟨fun h => h.2.2.2, fun h => ⟨hc.1.filter _, hc.2.1, hc.2.2.1, h⟩⟩
  have e2 : k ∈ cutb n es x y ↔ ¬ cn n (alone es k) x y := by
    unfold cutb
    rw [List.mem_filter, decide_eq_true_eq, mem_iota]
    exact ⟨fun h => h.2.2.2, fun h => ⟨⟨hk.1, by have := hk.2; omega⟩, h1, h2, h⟩⟩
  by_cases hb : cn n (alone es k) x y
  · rw [decide_eq_true (e1.2 hb), decide_eq_false fun h => e2.1 h hb]; rfl
  · rw [decide_eq_false fun h => hb (e1.1 h), decide_eq_true (e2.2 hb)]; rfl
set_option linter.unusedVariables false set_option linter.unusedSimpArgs false attribute [local irreducible] Tok.own Tok.blk RL Rd eptr WP WPL PE WPD WPO Op1 OpE Tri Again Mid Exit.then Exit.inBlock bodyPost RP Code.wp wpList isOwn OneM One
attribute [local irreducible] CN
set_option maxHeartbeats 8000000

theorem l_CutBetween (w : World) (v : Value) (bs : List UInt8) (h : RL w v bs) (hl : bs.length ≤ 9223372036854775807) :
    Tri Try.prog 11 [v] w [] fun r T => r = .bool true := by
  have gvOf : ∀ {n : Int} {es : List E} {x y : Int}, CN n es x y → GV n es := fun h => by unfold CN at h; exact h.1
  refine Tri.intro (hf := Try.func11) (hb := rfl) (hn := Try.ntmps11) (Nat.le_of_ble_eq_true rfl) ?_
  repeat' (first | exact absurd rfl hc | refine go ⟨?_⟩ | (refine isCond ?_; refine WP.condD rfl (fun hc => ?_) (fun hc => ?_)) | (refine isGuard ?_; refine WPL.splitD rfl rfl (fun hc => ?_) (fun hc => ?_)))
  · refine PE.ret1 (T := []) (T' := []) rfl rV ?_ sT
    rfl
  refine WPL.eff (OpE.call lO (fun w hw => g_CutNodesBetween _ v bs (Rd.at rD hw) hl)) rfl rfl ?_
  rintro r _ ⟨T, ⟨u, n, es, x, y, rfl, rfl, hle⟩, rfl⟩
  try refine go ⟨?_⟩
  refine WPL.eff OpE.alloc rfl rfl ?_; rintro _ _ ⟨bt, rfl, rfl⟩
  try refine go ⟨?_⟩
  refine WPL.eff (OpE.call lO (fun w hw => u_CutNodesBetween _ n u es x y (Rd.at rD hw) (by omega))) rfl rfl ?_
  rintro _ _ ⟨T, ⟨q, rfl, rfl⟩, rfl⟩
  try refine go ⟨?_⟩
  refine WPL.eff (OpE.call lO (fun w hw => v_CutNodesBetween _ n u es x y (Rd.at rD hw) (by omega))) rfl rfl ?_
  rintro _ _ ⟨T, ⟨q2, rfl, rfl⟩, rfl⟩
  by_cases hc : CN n es x y
  case neg =>
    rw [if_neg hc, decide_eq_false hc]
    try refine go ⟨?_⟩
    refine WPL.eff (OpE.call lO (fun w hw => y_Ints _ q q2 [] [] (Rd.at rD hw) (Rd.at rD hw) (by decide) (by decide))) rfl rfl ?_
    rintro _ _ ⟨T, ⟨rfl, rfl⟩, rfl⟩
    rw [deq_int]
    try refine go ⟨?_⟩
    refine WPL.eff (OpE.call lO (fun w hw => y_Ints _ q q2 [] [] (Rd.at rD hw) (Rd.at rD hw) (by decide) (by decide))) rfl rfl ?_
    rintro _ _ ⟨T, ⟨rfl, rfl⟩, rfl⟩
    rw [deq_int]
    try refine go ⟨?_⟩
    refine PE.ret1 (T := []) (T' := []) rfl rV ?_ sT
    rfl
  have hg := gvOf hc
  have hn1 := hg.ne.n1
  have hn2 := hg.ne.n2
  have hcl := cutb_len n es x y
  rw [if_pos hc, decide_eq_true hc]
  try refine go ⟨?_⟩
  refine WPL.eff (OpE.call lO (fun w hw => y_Ints _ q q2 (cutb n es x y) (cutb n es x y) (Rd.at rD hw) (Rd.at rD hw) (by omega) (by omega))) rfl rfl ?_
  rintro _ _ ⟨T, ⟨rfl, rfl⟩, rfl⟩
  rw [deq_int]
  try refine go ⟨?_⟩
  refine WP.loop (σ := Nat) (fun k => [(3, ptrV bt), (4, .int .i64 x), (5, .int .i64 y), (6, q), (10, .int .i64 k)]) (fun _ => [Tok.own q (cutb n es x y), Tok.blk bt [.int .i64 n, u], Tok.own u es]) (fun k => k ≤ n.toNat) (fun k => n.toNat - k) 0 (Nat.zero_le _) sE sT2 ?_
  rintro k hk
  try refine go ⟨?_⟩
  refine WP.condD rfl (fun hi => ?_) (fun hi => ?_)
  · have hk' : k < n.toNat := by omega
    have hgk : GN n es k := ⟨hg, by omega, by omega⟩
    have hal : (alone es k).length ≤ es.length := List.length_filter_le _ _
    try refine go ⟨?_⟩
    refine WPL.eff (OpE.call lO (fun w hw => u_CutNode _ n u es k (Rd.at rD hw) (by omega))) rfl rfl ?_
    rintro _ _ ⟨T, ⟨q3, rfl, rfl⟩, rfl⟩
    rw [if_pos hgk, if_pos hgk, decide_eq_true hgk]
    try refine go ⟨?_⟩
    refine WPL.eff OpE.alloc rfl rfl ?_; rintro _ _ ⟨b11, rfl, rfl⟩
    try refine go ⟨?_⟩
    refine WP.draw [Tok.own q (cutb n es x y), Tok.blk b11 [.int .i64 n, q3], Tok.own q3 (alone es k)] mixed ?_
    refine WPD.take 0 rfl (Op1.move rfl) rfl rfl sT kR kR kR xQP ?_
    refine WPD.take 1 rfl (by first | exact (Op1.notD rfl) | exact (Op1.not rfl)) rfl rfl sT kR kR kR xQP ?_
    refine WPD.take 2 rfl (Op1.move rfl) rfl rfl sT kR kR kR xQP ?_
    first | refine WPD.splitD 73 rfl (fun h73 => ?t40) (fun h73 => ?f40) | refine WPD.split 73 rfl (fun h73 => ?t40) (fun h73 => ?f40)
    case' t40 =>
      refine WPD.skip 3 rfl rfl rfl sT kR kR kR xQP ?_
      refine WPD.skip 4 rfl rfl rfl sT kR kR kR xQP ?_
      refine WPD.skip 5 rfl rfl rfl sT kR kR kR xQP ?_
      refine WPD.skip 6 rfl rfl rfl sT kR kR kR xQP ?_
      refine WPD.skip 7 rfl rfl rfl sT kR kR kR xQP ?_
      refine WPD.skip 8 rfl rfl rfl sT kR kR kR xQP ?_
      refine WPD.skip 9 rfl rfl rfl sT kR kR kR xQP ?_
      refine WPD.skip 10 rfl rfl rfl sT kR kR kR xQP ?_
      refine WPD.skip 11 rfl rfl rfl sT kR kR kR xQP ?_
      refine WPD.skip 12 rfl rfl rfl sT kR kR kR xQP ?_
      refine WPD.skip 13 rfl rfl rfl sT kR kR kR xQP ?_
      refine WPD.skip 15 rfl rfl rfl sT kR kR kR xQP ?_
      refine WPD.skip 16 rfl rfl rfl sT kR kR kR xQP ?_
      refine WPD.skip 17 rfl rfl rfl sT kR kR kR xQP ?_
      refine WPD.skip 14 rfl rfl rfl sT kR kR kR xQP ?_
      refine WPD.skip 18 rfl rfl rfl sT kR kR kR xQP ?_
      refine WPD.skip 19 rfl rfl rfl sT kR kR kR xQP ?_
      refine WPD.skip 20 rfl rfl rfl sT kR kR kR xQP ?_
      refine WPD.eff 21 kR rfl (OpE.ofPure (by first | exact (Op1.pickT rfl rfl) | exact (Op1.pickF rfl rfl))) rfl rfl ?_
      rintro _ _ ⟨rfl, rfl⟩
      refine ⟨sT, ?_⟩
      refine WPD.done kR ?_
    case' f40 =>
      refine WPD.take 3 rfl (Op1.move rfl) rfl rfl sT kR kR kR xQP ?_
      refine WPD.take 4 rfl (Op1.move rfl) rfl rfl sT kR kR kR xQP ?_
      refine WPD.take 5 rfl (by first | exact (Op1.neI rfl rfl) | exact (Op1.neB rfl rfl) | exact (Op1.neE rfl rfl)) rfl rfl sT kR kR kR xQP ?_
      refine WPD.take 6 rfl (Op1.move rfl) rfl rfl sT kR kR kR xQP ?_
      first | refine WPD.splitD 77 rfl (fun h77 => ?t41) (fun h77 => ?f41) | refine WPD.split 77 rfl (fun h77 => ?t41) (fun h77 => ?f41)
      case' t41 =>
        refine WPD.take 7 rfl (Op1.move rfl) rfl rfl sT kR kR kR xQP ?_
        refine WPD.take 8 rfl (Op1.move rfl) rfl rfl sT kR kR kR xQP ?_
        refine WPD.take 9 rfl (by first | exact (Op1.neI rfl rfl) | exact (Op1.neB rfl rfl) | exact (Op1.neE rfl rfl)) rfl rfl sT kR kR kR xQP ?_
        refine WPD.take 10 rfl (by first | exact (Op1.pickT rfl rfl) | exact (Op1.pickF rfl rfl)) rfl rfl sT kR kR kR xQP ?_
        refine WPD.take 11 rfl (Op1.move rfl) rfl rfl sT kR kR kR xQP ?_
        first | refine WPD.splitD 82 rfl (fun h82 => ?t42) (fun h82 => ?f42) | refine WPD.split 82 rfl (fun h82 => ?t42) (fun h82 => ?f42)
        case' t42 =>
          refine WPD.take 12 rfl (Op1.move rfl) rfl rfl sT kR kR kR xQP ?_
          refine WPD.take 13 rfl (Op1.move rfl) rfl rfl sT kR kR kR xQP ?_
          refine WPD.take 15 rfl (by first | exact (Op1.load rfl mM (by rfl)) | exact (Op1.loadI rfl rD lT) | exact (Op1.loadAll rfl mM (by rfl)) | exact (Op1.loadE rfl rD lT (by rfl)) | exact (Op1.loadEAgg rfl rD lT (by rfl))) rfl rfl sT kR kR kR xQP ?_
          refine WPD.take 16 rfl (Op1.move rfl) rfl rfl sT kR kR kR xQP ?_
          refine WPD.take 17 rfl (Op1.move rfl) rfl rfl sT kR kR kR xQP ?_
          refine WPD.eff 14 kR rfl (OpE.call lO (fun w hw => y_In _ q k (cutb n es x y) (Rd.at rD hw) (by omega))) rfl rfl ?_
          rintro r _ ⟨T, ⟨rfl, rfl⟩, rfl⟩
          refine ⟨sT, ?_⟩
          refine WPD.eff 18 kR rfl (OpE.call lO (fun w hw => c_Connected _ n q3 (alone es k) x y (Rd.at rD hw) (by omega))) rfl rfl ?_
          rintro r _ ⟨T, ⟨rfl, rfl⟩, rfl⟩
          rw [cutb_dec hc hgk.2 h77 h82]
          refine ⟨sT, ?_⟩
          refine WPD.eff 19 kR rfl (OpE.ofPure (by first | exact (Op1.eqI rfl rfl) | exact (Op1.eqB rfl rfl) | exact (Op1.eqE rfl rfl) | exact (Op1.eqNil rfl rD))) rfl rfl ?_
          rintro _ _ ⟨rfl, rfl⟩
          refine ⟨sT, ?_⟩
          refine WPD.eff 20 kR rfl (OpE.ofPure (by first | exact (Op1.pickT rfl rfl) | exact (Op1.pickF rfl rfl))) rfl rfl ?_
          rintro _ _ ⟨rfl, rfl⟩
          refine ⟨sT, ?_⟩
          refine WPD.eff 21 kR rfl (OpE.ofPure (by first | exact (Op1.pickT rfl rfl) | exact (Op1.pickF rfl rfl))) rfl rfl ?_
          rintro _ _ ⟨rfl, rfl⟩
          refine ⟨sT, ?_⟩
          refine WPD.done kR ?_
        case' f42 =>
          refine WPD.skip 12 rfl rfl rfl sT kR kR kR xQP ?_
          refine WPD.skip 13 rfl rfl rfl sT kR kR kR xQP ?_
          refine WPD.skip 15 rfl rfl rfl sT kR kR kR xQP ?_
          refine WPD.skip 16 rfl rfl rfl sT kR kR kR xQP ?_
          refine WPD.skip 17 rfl rfl rfl sT kR kR kR xQP ?_
          refine WPD.skip 14 rfl rfl rfl sT kR kR kR xQP ?_
          refine WPD.skip 18 rfl rfl rfl sT kR kR kR xQP ?_
          refine WPD.skip 19 rfl rfl rfl sT kR kR kR xQP ?_
          refine WPD.eff 20 kR rfl (OpE.ofPure (by first | exact (Op1.pickT rfl rfl) | exact (Op1.pickF rfl rfl))) rfl rfl ?_
          rintro _ _ ⟨rfl, rfl⟩
          refine ⟨sT, ?_⟩
          refine WPD.eff 21 kR rfl (OpE.ofPure (by first | exact (Op1.pickT rfl rfl) | exact (Op1.pickF rfl rfl))) rfl rfl ?_
          rintro _ _ ⟨rfl, rfl⟩
          refine ⟨sT, ?_⟩
          refine WPD.done kR ?_
      case' f41 =>
        refine WPD.skip 7 rfl rfl rfl sT kR kR kR xQP ?_
        refine WPD.skip 8 rfl rfl rfl sT kR kR kR xQP ?_
        refine WPD.skip 9 rfl rfl rfl sT kR kR kR xQP ?_
        refine WPD.take 10 rfl (by first | exact (Op1.pickT rfl rfl) | exact (Op1.pickF rfl rfl)) rfl rfl sT kR kR kR xQP ?_
        refine WPD.take 11 rfl (Op1.move rfl) rfl rfl sT kR kR kR xQP ?_
        refine WPD.skip 12 rfl rfl rfl sT kR kR kR xQP ?_
        refine WPD.skip 13 rfl rfl rfl sT kR kR kR xQP ?_
        refine WPD.skip 15 rfl rfl rfl sT kR kR kR xQP ?_
        refine WPD.skip 16 rfl rfl rfl sT kR kR kR xQP ?_
        refine WPD.skip 17 rfl rfl rfl sT kR kR kR xQP ?_
        refine WPD.skip 14 rfl rfl rfl sT kR kR kR xQP ?_
        refine WPD.skip 18 rfl rfl rfl sT kR kR kR xQP ?_
        refine WPD.skip 19 rfl rfl rfl sT kR kR kR xQP ?_
        refine WPD.eff 20 kR rfl (OpE.ofPure (by first | exact (Op1.pickT rfl rfl) | exact (Op1.pickF rfl rfl))) rfl rfl ?_
        rintro _ _ ⟨rfl, rfl⟩
        refine ⟨sT, ?_⟩
        refine WPD.eff 21 kR rfl (OpE.ofPure (by first | exact (Op1.pickT rfl rfl) | exact (Op1.pickF rfl rfl))) rfl rfl ?_
        rintro _ _ ⟨rfl, rfl⟩
        refine ⟨sT, ?_⟩
        refine WPD.done kR ?_
    all_goals first
      | exact absurd ‹(!true) = true› (by decide)
      | ((try rw [beq_not])
         try refine go ⟨?_⟩
         refine PE.again (k + 1) ?_ ?_ sE sT2
         · (try dsimp only); omega
         · (try dsimp only); omega)
  try refine go ⟨?_⟩
  refine WPL.eff (OpE.call lO (fun w hw => u_CutNodesBetween _ n u es y x (Rd.at rD hw) (by omega))) rfl rfl ?_
  rintro _ _ ⟨T, ⟨q4, rfl, rfl⟩, rfl⟩
  rw [if_pos (CN_symm hc), decide_eq_true (CN_symm hc), cutb_symm n es y x]
  try refine go ⟨?_⟩
  refine WPL.eff (OpE.call lO (fun w hw => y_Ints _ q4 q (cutb n es x y) (cutb n es x y) (Rd.at rD hw) (Rd.at rD hw) (by omega) (by omega))) rfl rfl ?_
  rintro _ _ ⟨T, ⟨rfl, rfl⟩, rfl⟩
  rw [deq_int]
  try refine go ⟨?_⟩
  refine PE.ret1 (T := []) (T' := []) rfl rV ?_ sT
  rfl
end Go.Proofs.Ytmjljnhjamlonaa
/- The law FnBetweenTriangle: its walk. Conditions: those of the theorem. -/
namespace Go.Proofs.Ytmjljnhjamlonaa
open Go
theorem btw_len (n : Int) (es : List E) (x y : Int) : (btw n es x y).length ≤ es.length := List.length_filter_le _ _
theorem CN_nd {n : Int} {es : List E} {x y : Int} (h : CN n es x y) : GV n es ∧ Nd n x ∧ Nd n y ∧ Conn es x y := ⟨h.1, h.2.1, h.2.2.1, (cn_iff h.1.okE h.2.1 h.2.2.1).1 h.2.2.2⟩
theorem CN_of {n : Int} {es : List E} {x y : Int} (hg : GV n es) (hx : Nd n x) (hy : Nd n y) (h : Conn es x y) : CN n es x y := ⟨hg, hx, hy, (cn_iff hg.okE hx hy).2 h⟩
theorem CN_tri {n : Int} {es : List E} {x y z : Int} (h : CN n es x y) (hz : Nd n z) : CN n es x z ↔ CN n es z y := by
  obtain ⟨hg, hx, hy, hc⟩ := CN_nd h
  exact ⟨fun k => CN_of hg hz hy ((CN_nd k).2.2.2.symm.trans hc), fun k => CN_of hg hx hz (hc.trans (CN_nd k).2.2.2.symm)⟩
theorem btw_tri {n : Int} {es : List E} {x y z : Int} (h : CN n es x y) (h1 : CN n es x z) (h2 : CN n es z y) {e : E} (he : e ∈ btw n es x y) : decide (e ∈ btw n es z y) = !decide (e ∈ btw n es x z) := by
  obtain ⟨hg, hx, hy, hc⟩ := CN_nd h
  obtain ⟨_, _, hz, c1⟩ := CN_nd h1
  obtain ⟨_, _, _, c2⟩ := CN_nd h2
  have m0 := (mem_btw hg.okE hx hy).1 he
  have m1 := mem_btw hg.okE hx hz (e := e)
  have m2 := mem_btw hg.okE hz hy (e := e)
  have ht := conn_tri m0.1 c1 c2 m0.2
  by_cases hb : Conn (rem es e) x z
  · rw [decide_eq_false fun k => (m1.1 k).2 hb, decide_eq_true (m2.2 ⟨m0.1, ht.1 hb⟩)]; rfl
  · rw [decide_eq_true (m1.2 ⟨m0.1, hb⟩), decide_eq_false fun k => hb (ht.2 (m2.1 k).2)]; rfl
set_option linter.unusedVariables false set_option linter.unusedSimpArgs false attribute [local irreducible] Tok.own Tok.blk RL Rd eptr WP WPL PE WPD WPO Op1 OpE Tri Again Mid Exit.then Exit.inBlock bodyPost RP Code.wp wpList isOwn OneM One
attribute [local irreducible] CN
set_option maxHeartbeats 8000000

theorem l_BetweenTriangle (w : World) (v v2 : Value) (bs bs2 : List UInt8) (h : RL w v bs) (hl : bs.length ≤ 9223372036854775807) (h2 : RL w v2 bs2) (hl2 : bs2.length ≤ 9223372036854775807) :
    Tri Try.prog 9 [v, v2] w [] fun r T => r = .bool true := by
  refine Tri.intro (hf := Try.func9) (hb := rfl) (hn := Try.ntmps9) (Nat.le_of_ble_eq_true rfl) ?_
  repeat' (first | exact absurd rfl hc | refine go ⟨?_⟩ | (refine isCond ?_; refine WP.condD rfl (fun hc => ?_) (fun hc => ?_)) | (refine isGuard ?_; refine WPL.splitD rfl rfl (fun hc => ?_) (fun hc => ?_)))
  · refine PE.ret1 (T := []) (T' := []) rfl rV ?_ sT
    rfl
  · refine PE.ret1 (T := []) (T' := []) rfl rV ?_ sT
    rfl
  refine WPL.eff (OpE.call lO (fun w hw => g_BridgesBetween _ v bs (Rd.at rD hw) hl)) rfl rfl ?_
  rintro r _ ⟨T, ⟨u, n, es, x, y, rfl, rfl, hle⟩, rfl⟩
  try refine go ⟨?_⟩
  refine WPL.eff OpE.alloc rfl rfl ?_; rintro _ _ ⟨bt, rfl, rfl⟩
  try refine go ⟨?_⟩
  refine WPL.eff (OpE.call lO (fun w hw => u_BridgesBetween _ n u es x y (Rd.at rD hw) (by omega))) rfl rfl ?_
  rintro _ _ ⟨T, ⟨q, rfl, rfl⟩, rfl⟩
  try refine go ⟨?_⟩
  refine WPL.eff (OpE.call lO (fun w hw => v_BridgesBetween _ n u es x y (Rd.at rD hw) (by omega))) rfl rfl ?_
  rintro _ _ ⟨T, ⟨q2, rfl, rfl⟩, rfl⟩
  by_cases hc : CN n es x y
  case neg =>
    rw [if_neg hc, decide_eq_false hc]
    try refine go ⟨?_⟩
    refine WPL.eff (OpE.call lO (fun w hw => y_Edges _ q q2 [] [] (Rd.at rD hw) (Rd.at rD hw) (by decide) (by decide))) rfl rfl ?_
    rintro _ _ ⟨T, ⟨rfl, rfl⟩, rfl⟩
    rw [deq_E]
    try refine go ⟨?_⟩
    refine WPL.eff (OpE.call lO (fun w hw => y_Edges _ q q2 [] [] (Rd.at rD hw) (Rd.at rD hw) (by decide) (by decide))) rfl rfl ?_
    rintro _ _ ⟨T, ⟨rfl, rfl⟩, rfl⟩
    rw [deq_E]
    try refine go ⟨?_⟩
    refine PE.ret1 (T := []) (T' := []) rfl rV ?_ sT
    rfl
  obtain ⟨hg, hx, hy, hcc⟩ := CN_nd hc
  have hn1 := (GV_iff.1 hg).1
  have hn2 := hg.ne.n2
  have hcl := btw_len n es x y
  have hxy := hc
  rw [if_pos hc, decide_eq_true hc]
  try refine go ⟨?_⟩
  refine WPL.eff (OpE.call lO (fun w hw => y_Edges _ q q2 (btw n es x y) (btw n es x y) (Rd.at rD hw) (Rd.at rD hw) (by omega) (by omega))) rfl rfl ?_
  rintro _ _ ⟨T, ⟨rfl, rfl⟩, rfl⟩
  rw [deq_E]
  try refine go ⟨?_⟩
  refine WPL.eff (OpE.call lO (fun w hw => u_BridgesBetween _ n u es y x (Rd.at rD hw) (by omega))) rfl rfl ?_
  rintro _ _ ⟨T, ⟨q3, rfl, rfl⟩, rfl⟩
  rw [if_pos (CN_symm hc), decide_eq_true (CN_symm hc), btw_symm n es y x]
  have hz0 := Int.emod_nonneg (bs2.length : Int) (b := n) (by omega)
  have hz1 := Int.emod_lt_of_pos (bs2.length : Int) (b := n) (by omega)
  try refine go ⟨?_⟩
  generalize (bs2.length : Int) % n = z at *
  have hz : Nd n z := ⟨hz0, hz1⟩
  have ht := CN_tri hc hz
  have l1 := btw_len n es x z
  have l2 := btw_len n es z y
  refine WPL.eff (OpE.call lO (fun w hw => u_BridgesBetween _ n u es x z (Rd.at rD hw) (by omega))) rfl rfl ?_
  rintro _ _ ⟨T, ⟨qa, rfl, rfl⟩, rfl⟩
  try refine go ⟨?_⟩
  refine WPL.eff (OpE.call lO (fun w hw => u_BridgesBetween _ n u es z y (Rd.at rD hw) (by omega))) rfl rfl ?_
  rintro _ _ ⟨T, ⟨qb, rfl, rfl⟩, rfl⟩
  by_cases hp : CN n es x z
  case neg =>
    rw [if_neg hp, if_neg fun k => hp (ht.2 k), decide_eq_false hp, decide_eq_false fun k => hp (ht.2 k)]
    try refine go ⟨?_⟩
    refine WP.loop (σ := Nat) (fun k => [(8, q), (12, q3), (13, .bool true), (15, qa), (16, .bool false), (17, qb), (18, .bool false), (19, .int .i64 k)]) (fun _ => [Tok.own q (btw n es x y), Tok.own q3 (btw n es x y)]) (fun k => k ≤ (btw n es x y).length) (fun k => (btw n es x y).length - k) 0 (Nat.zero_le _) sE sT2 ?_
    rintro k hk
    repeat' (first | exact absurd rfl hc | refine go ⟨?_⟩ | (refine isCond ?_; refine WP.condD rfl (fun hc => ?_) (fun hc => ?_)) | (refine isGuard ?_; refine WPL.splitD rfl rfl (fun hc => ?_) (fun hc => ?_)))
    all_goals (
      refine WPL.eff (OpE.call lO (fun w hw => y_Edges _ q3 q (btw n es x y) (btw n es x y) (Rd.at rD hw) (Rd.at rD hw) (by omega) (by omega))) rfl rfl ?_
      rintro _ _ ⟨T, ⟨rfl, rfl⟩, rfl⟩
      rw [deq_E]
      try refine go ⟨?_⟩
      refine PE.ret1 (T := []) (T' := []) rfl rV ?_ sT
      rfl)
  rw [if_pos hp, if_pos (ht.1 hp), decide_eq_true hp, decide_eq_true (ht.1 hp)]
  try refine go ⟨?_⟩
  refine WP.loop (σ := Nat) (fun k => [(8, q), (12, q3), (13, .bool true), (15, qa), (16, .bool true), (17, qb), (18, .bool true), (19, .int .i64 k)]) (fun _ => [Tok.own q (btw n es x y), Tok.own q3 (btw n es x y), Tok.own qa (btw n es x z), Tok.own qb (btw n es z y)]) (fun k => k ≤ (btw n es x y).length) (fun k => (btw n es x y).length - k) 0 (Nat.zero_le _) sE sT2 ?_
  rintro k hk
  repeat' (first | exact absurd rfl hc | refine go ⟨?_⟩ | (refine isCond ?_; refine WP.condD rfl (fun hc => ?_) (fun hc => ?_)) | (refine isGuard ?_; refine WPL.splitD rfl rfl (fun hc => ?_) (fun hc => ?_)))
  · have hk' : k < (btw n es x y).length := by omega
    have hm := getD_memI (d := (Enc.d : E)) hk'
    have hb := btw_tri hxy hp (ht.1 hp) hm
    refine WP.draw [Tok.own q (btw n es x y), Tok.own qa (btw n es x z), Tok.own qb (btw n es z y)] mixed ?_
    refine WPD.take 0 rfl (Op1.move rfl) rfl rfl sT kR kR kR xQP ?_
    refine WPD.take 1 rfl (Op1.move rfl) rfl rfl sT kR kR kR xQP ?_
    refine WPD.take 2 rfl (Op1.move rfl) rfl rfl sT kR kR kR xQP ?_
    refine WPD.take 6 rfl (Op1.move rfl) rfl rfl sT kR kR kR xQP ?_
    refine WPD.take 7 rfl (Op1.move rfl) rfl rfl sT kR kR kR xQP ?_
    refine WPD.take 8 rfl (Op1.move rfl) rfl rfl sT kR kR kR xQP ?_
    refine WPD.take 3 rfl (by first | exact (Op1.indexAddr rfl rfl rD lT) | exact (Op1.indexAddrZ rfl rfl rD lT)) rfl rfl sT kR kR kR xQP ?_
    refine WPD.take 9 rfl (by first | exact (Op1.indexAddr rfl rfl rD lT) | exact (Op1.indexAddrZ rfl rfl rD lT)) rfl rfl sT kR kR kR xQP ?_
    refine WPD.take 4 rfl (by first | exact (Op1.load rfl mM (by rfl)) | exact (Op1.loadI rfl rD lT) | exact (Op1.loadAll rfl mM (by rfl)) | exact (Op1.loadE rfl rD lT (by rfl)) | exact (Op1.loadEAgg rfl rD lT (by rfl))) rfl rfl sT kR kR kR xQP ?_
    refine WPD.take 10 rfl (by first | exact (Op1.load rfl mM (by rfl)) | exact (Op1.loadI rfl rD lT) | exact (Op1.loadAll rfl mM (by rfl)) | exact (Op1.loadE rfl rD lT (by rfl)) | exact (Op1.loadEAgg rfl rD lT (by rfl))) rfl rfl sT kR kR kR xQP ?_
    refine WPD.eff 5 kR rfl (OpE.call lO (fun w hw => y_Has _ qa ((btw n es x y).getD k (Enc.d : E)) (btw n es x z) (Rd.at rD hw) (by omega))) rfl rfl ?_
    rintro r _ ⟨T, ⟨rfl, rfl⟩, rfl⟩
    refine ⟨sT, ?_⟩
    refine WPD.eff 11 kR rfl (OpE.call lO (fun w hw => y_Has _ qb ((btw n es x y).getD k (Enc.d : E)) (btw n es z y) (Rd.at rD hw) (by omega))) rfl rfl ?_
    rintro r _ ⟨T, ⟨rfl, rfl⟩, rfl⟩
    rw [hb]
    refine ⟨sT, ?_⟩
    refine WPD.eff 12 kR rfl (OpE.ofPure (by first | exact (Op1.eqI rfl rfl) | exact (Op1.eqB rfl rfl) | exact (Op1.eqE rfl rfl) | exact (Op1.eqNil rfl rD))) rfl rfl ?_
    rintro _ _ ⟨rfl, rfl⟩
    refine ⟨sT, ?_⟩
    refine WPD.done kR ?_
    rw [beq_not]
    try refine go ⟨?_⟩
    refine PE.again (k + 1) ?_ ?_ sE sT2
    · (try dsimp only); omega
    · (try dsimp only); omega
  refine WPL.eff (OpE.call lO (fun w hw => y_Edges _ q3 q (btw n es x y) (btw n es x y) (Rd.at rD hw) (Rd.at rD hw) (by omega) (by omega))) rfl rfl ?_
  rintro _ _ ⟨T, ⟨rfl, rfl⟩, rfl⟩
  rw [deq_E]
  try refine go ⟨?_⟩
  refine PE.ret1 (T := []) (T' := []) rfl rV ?_ sT
  rfl
end Go.Proofs.Ytmjljnhjamlonaa
/- The given statement FnBetweenTriangleSaid, out of its walk (LBetweenTriangle). Written by fin.py. No conditions. -/
namespace Go.Proofs.Ytmjljnhjamlonaa.ZfnBetweenTriangle
open Go Go.ChangeShapes Go.WideShapes Go.ChangeAt Go.RowKit Go.Joins
theorem own : ownKnob Try.prog.godebug = none := by kernel_rfl
theorem laidOut : laidOutB Try.prog = true := by kernel_rfl
theorem cells5 : Try.prog.cellsOf 5 = 1 := by kernel_rfl
set_option maxRecDepth 100000 in
theorem lifted (os : Os) (started : os.Started) (H : Type) (enc : TypeId × Value → H) :
    ReturnsInHanded {} Try.checked os 9 .any (Rows.fnBetweenTriangleSpec.pre6 enc Try.prog Try.f9 Rows.fnBetweenTriangleRow.domain false) (Rows.fnBetweenTriangleSpec.post enc Try.prog Try.f9 false true false false) := by
  refine returnsInHanded_of_change (C := Try.checked) own started (by kernel_rfl) Try.func9
    (ChangeSpec.witness6 (enc := enc) (C := Try.checked) false ⟨#[], #[.slice none 0 0, .slice none 0 0], []⟩ 8 (by kernel_rfl) (by kernel_rfl) (by kernel_rfl) (by kernel_rfl)) ?_
  intro W base args ds gs before hval0 hW hcnd _
  have hval : ∀ (j : Nat) t v, Try.f9.params[j]? = some t → args[j]? = some v → Value.okWide Try.prog W .any base t v := hval0
  have hW' := hW
  obtain ⟨p, q, hA0, hV, rfl, hfz, hnd⟩ := hW
  have hA : DataW.TrodAll enc Try.prog W 0 (fun _ => true) true Try.f9.params.toList args.toList ds p := hA0
  rw [Try.params9] at hA hval
  obtain ⟨v0, vs0, d0, ds0, p0, q0, hargs, rfl, rfl, h0, r0⟩ := trodAll_cons hA
  obtain ⟨v1, vs1, d1, ds1, p1, q1, rfl, rfl, rfl, h1, r1⟩ := trodAll_cons r0
  obtain ⟨rfl, rfl, rfl⟩ := trodAll_nil r1
  obtain rfl : args = #[v0, v1] := by cases args; simp_all
  obtain ⟨rfl, rfl⟩ := trodVars_none hV
  have k0 := h0
  have lt0 : ∀ x ∈ p0, x.block < W.heap.size := by obtain ⟨m, hm⟩ := k0; exact DataW.trod_lt m _ _ _ hm
  obtain ⟨xs0, rl0, ll0⟩ : ∃ xs : List UInt8, RL W v0 xs ∧ xs.length ≤ 9223372036854775807 := by
    have hv := hval 0 22 v0 rfl rfl
    simp only [Value.okWide, Try.underlying22] at hv
    obtain ⟨a, l, c, rfl⟩ := okWide_slice Try.underlying22 (hval 0 22 v0 rfl rfl)
    obtain ⟨m, hm⟩ := k0
    exact rl_bytes Try.underlying22 Try.underlying5 cells5 hv (by simpa [Value.cells] using hm)
  have k1 := h1
  have lt1 : ∀ x ∈ p1, x.block < W.heap.size := by obtain ⟨m, hm⟩ := k1; exact DataW.trod_lt m _ _ _ hm
  obtain ⟨xs1, rl1, ll1⟩ : ∃ xs : List UInt8, RL W v1 xs ∧ xs.length ≤ 9223372036854775807 := by
    have hv := hval 1 22 v1 rfl rfl
    simp only [Value.okWide, Try.underlying22] at hv
    obtain ⟨a, l, c, rfl⟩ := okWide_slice Try.underlying22 (hval 1 22 v1 rfl rfl)
    obtain ⟨m, hm⟩ := k1
    exact rl_bytes Try.underlying22 Try.underlying5 cells5 hv (by simpa [Value.cells] using hm)
  clear hA0 hval0
  refine (Tri.holds0 (v := .bool true) (l_BetweenTriangle W v0 v1 xs0 xs1 rl0 ll0 rl1 ll1) (fun _ _ h => h)).mono fun e W' ⟨he, bel⟩ => ?_
  subst he
  exact ⟨_, rfl, _, _, _, [], _, [], hW', trodAll_mk1 (shut_bool Try.underlying4 _), (trodAll_cons_mk (Below.trod laidOut (by kernel_rfl) (of_decide_eq_true (by kernel_rfl)) k0 bel lt0) (trodAll_cons_mk (Below.trod laidOut (by kernel_rfl) (of_decide_eq_true (by kernel_rfl)) k1 bel lt1) trodAll_mk0)), rfl, bel.frame _, fun h => by cases h⟩
theorem over : Rows.fnBetweenTriangleRow.holds Try.pinned (OpenSpec.ofChange Rows.fnBetweenTriangleSpec) :=
  OpenClaim.holds_of_wide 9 Try.f9 rfl rfl rfl rfl rfl rfl rfl ⟨rfl, rfl, rfl, rfl, rfl⟩ rfl rfl rfl rfl rfl (by kernel_rfl) Try.func9 (by unfold joinedFacts; rw [initMay, initLift, initMake]; kernel_rfl)
    (of_decide_eq_true (by kernel_rfl)) (by unfold Func.isWrapper; first | (rw [if_pos (by decide +kernel)]; kernel_rfl) | (rw [if_neg (by decide +kernel)]; exact ⟨rfl, rfl⟩))
    (fun os started H enc _ => lifted os started H enc)
/-- The statement. -/
theorem proved : Rows.FnBetweenTriangleSaid := over
end Go.Proofs.Ytmjljnhjamlonaa.ZfnBetweenTriangle
