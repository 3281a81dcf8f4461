/- The given statement FnCutBetweenSaid, out of its walk (LCutBetween). Written by fin.py. No conditions. -/
import Derived.Test.YtmjljnhjamlonaaInit
import Derived.Test.YtmjljnhjamlonaaV3
import Derived.Test.YtmjljnhjamlonaaV4
set_option linter.unusedVariables false
set_option linter.unusedSimpArgs false
/- The law FnPartsOf: its walk. Conditions: those of the theorem. -/
namespace Go.Proofs.Ytmjljnhjamlonaa
open Go
theorem deq_int (l : List Int) : decide (l = l) = true := decide_eq_true rfl
theorem deq_E (l : List E) : decide (l = l) = true := decide_eq_true rfl
set_option linter.unusedVariables false set_option linter.unusedSimpArgs false attribute [local irreducible] Tok.own Tok.blk RL Rd eptr WP WPL PE WPD WPO Op1 OpE Tri Again Mid Exit.then Exit.inBlock bodyPost RP Code.wp wpList isOwn OneM One
set_option maxHeartbeats 8000000

theorem l_PartsOf (w : World) (v : Value) (bs : List UInt8) (h : RL w v bs) (hl : bs.length ≤ 9223372036854775807) :
    Tri Try.prog 4 [v] w [] fun r T => r = .bool true := by
  refine Tri.intro (hf := Try.func4) (hb := rfl) (hn := Try.ntmps4) (Nat.le_of_ble_eq_true rfl) ?_
  repeat' (first | exact absurd rfl hc | refine go ⟨?_⟩ | (refine isCond ?_; refine WP.condD rfl (fun hc => ?_) (fun hc => ?_)) | (refine isGuard ?_; refine WPL.splitD rfl rfl (fun hc => ?_) (fun hc => ?_)))
  · refine PE.ret1 (T := []) (T' := []) rfl rV ?_ sT
    rfl
  refine WPL.eff (OpE.call lO (fun w hw => g_PartsOf _ v bs (Rd.at rD hw) hl)) rfl rfl ?_
  rintro r _ ⟨T, ⟨u, n, es, rfl, rfl, hle⟩, rfl⟩
  try refine go ⟨?_⟩
  refine WPL.eff OpE.alloc rfl rfl ?_; rintro _ _ ⟨bt, rfl, rfl⟩
  try refine go ⟨?_⟩
  refine WPL.eff (OpE.call lO (fun w hw => u_PartsOf _ n u es (Rd.at rD hw) (by omega))) rfl rfl ?_
  rintro r _ ⟨T, rfl, rfl⟩
  try refine go ⟨?_⟩
  refine WPL.eff (OpE.call lO (fun w hw => v_PartsOf _ n u es (Rd.at rD hw) (by omega))) rfl rfl ?_
  rintro r2 _ ⟨T, rfl, rfl⟩
  by_cases hg : GV n es
  case neg =>
    rw [if_neg hg]
    try refine go ⟨?_⟩
    refine WPL.eff (OpE.call lO (fun w hw => y_Ints _ r r2 [] [] (Rd.at rD hw) (Rd.at rD hw) (by decide) (by decide))) rfl rfl ?_
    rintro _ _ ⟨T, ⟨rfl, rfl⟩, rfl⟩
    rw [deq_int]
    repeat' (first | exact absurd rfl hc | refine go ⟨?_⟩ | (refine isCond ?_; refine WP.condD rfl (fun hc => ?_) (fun hc => ?_)) | (refine isGuard ?_; refine WPL.splitD rfl rfl (fun hc => ?_) (fun hc => ?_)))
    refine WPL.eff (OpE.call lO (fun w hw => c_GraphValid _ n u es (Rd.at rD hw) (by omega))) rfl rfl ?_
    rintro _ _ ⟨T, ⟨rfl, rfl⟩, rfl⟩
    rw [decide_eq_false hg]
    repeat' (first | exact absurd rfl hc | refine go ⟨?_⟩ | (refine isCond ?_; refine WP.condD rfl (fun hc => ?_) (fun hc => ?_)) | (refine isGuard ?_; refine WPL.splitD rfl rfl (fun hc => ?_) (fun hc => ?_)))
    refine WPL.eff (OpE.call lO (fun w hw => v_PartsOf _ n u es (Rd.at rD hw) (by omega))) rfl rfl ?_
    rintro r3 _ ⟨T, rfl, rfl⟩
    rw [if_neg hg]
    try refine go ⟨?_⟩
    refine WPL.eff (OpE.call lO (fun w hw => y_Ints _ r r3 [] [] (Rd.at rD hw) (Rd.at rD hw) (by decide) (by decide))) rfl rfl ?_
    rintro _ _ ⟨T, ⟨rfl, rfl⟩, rfl⟩
    rw [deq_int]
    repeat' (first | exact absurd rfl hc | refine go ⟨?_⟩ | (refine isCond ?_; refine WP.condD rfl (fun hc => ?_) (fun hc => ?_)) | (refine isGuard ?_; refine WPL.splitD rfl rfl (fun hc => ?_) (fun hc => ?_)))
    refine PE.ret1 (T := []) (T' := []) rfl rV ?_ sT
    rfl
  have hll := labs_length n es
  have hn1 := hg.ne.n1
  have hn2 := hg.ne.n2
  rw [if_pos hg]
  try refine go ⟨?_⟩
  refine WPL.eff (OpE.call lO (fun w hw => y_Ints _ r r2 (labs n es) (labs n es) (Rd.at rD hw) (Rd.at rD hw) (by omega) (by omega))) rfl rfl ?_
  rintro _ _ ⟨T, ⟨rfl, rfl⟩, rfl⟩
  rw [deq_int]
  repeat' (first | exact absurd rfl hc | refine go ⟨?_⟩ | (refine isCond ?_; refine WP.condD rfl (fun hc => ?_) (fun hc => ?_)) | (refine isGuard ?_; refine WPL.splitD rfl rfl (fun hc => ?_) (fun hc => ?_)))
  refine WPL.eff (OpE.call lO (fun w hw => c_GraphValid _ n u es (Rd.at rD hw) (by omega))) rfl rfl ?_
  rintro _ _ ⟨T, ⟨rfl, rfl⟩, rfl⟩
  rw [decide_eq_true hg]
  repeat' (first | exact absurd rfl hc | refine go ⟨?_⟩ | (refine isCond ?_; refine WP.condD rfl (fun hc => ?_) (fun hc => ?_)) | (refine isGuard ?_; refine WPL.splitD rfl rfl (fun hc => ?_) (fun hc => ?_)))
  refine WP.loop (σ := Nat) (fun k => [(3, ptrV bt), (4, r), (5, .int .i64 k)]) (fun _ => [Tok.own r (labs n es), Tok.blk bt [.int .i64 n, u], Tok.own u es]) (fun k => k ≤ es.length) (fun k => es.length - k) 0 (Nat.zero_le _) sE sT2 ?_
  rintro k hk
  try refine go ⟨?_⟩
  refine WP.condD rfl (fun hc => ?_) (fun hc => ?_)
  · have hk' : k < es.length := by omega
    have hm := getD_memI (d := (Enc.d : E)) hk'
    obtain ⟨⟨a1, a2⟩, a3, a4⟩ := hg.okE _ hm
    have hst := labs_stab hg.okE _ hm
    try refine go ⟨?_⟩
    refine WP.draw [Tok.own r (labs n es), Tok.blk bt [.int .i64 n, u], Tok.own u es] mixed ?_
    refine WPD.take 0 rfl (Op1.move rfl) rfl rfl sT kR kR kR xQP ?_
    refine WPD.take 1 rfl (by first | exact (Op1.fieldAddr rfl) | exact (Op1.fieldAddrE rfl rD lT)) rfl rfl sT kR kR kR xQP ?_
    refine WPD.take 3 rfl (Op1.move rfl) rfl rfl sT kR kR kR xQP ?_
    refine WPD.take 9 rfl (Op1.move rfl) rfl rfl sT kR kR kR xQP ?_
    refine WPD.take 10 rfl (by first | exact (Op1.fieldAddr rfl) | exact (Op1.fieldAddrE rfl rD lT)) rfl rfl sT kR kR kR xQP ?_
    refine WPD.take 12 rfl (Op1.move rfl) rfl rfl sT kR kR kR xQP ?_
    refine WPD.take 2 rfl (by first | exact (Op1.load rfl mM (by rfl)) | exact (Op1.loadI rfl rD lT) | exact (Op1.loadAll rfl mM (by rfl)) | exact (Op1.loadE rfl rD lT (by rfl)) | exact (Op1.loadEAgg rfl rD lT (by rfl))) rfl rfl sT kR kR kR xQP ?_
    refine WPD.take 11 rfl (by first | exact (Op1.load rfl mM (by rfl)) | exact (Op1.loadI rfl rD lT) | exact (Op1.loadAll rfl mM (by rfl)) | exact (Op1.loadE rfl rD lT (by rfl)) | exact (Op1.loadEAgg rfl rD lT (by rfl))) rfl rfl sT kR kR kR xQP ?_
    refine WPD.take 4 rfl (by first | exact (Op1.indexAddr rfl rfl rD lT) | exact (Op1.indexAddrZ rfl rfl rD lT)) rfl rfl sT kR kR kR xQP ?_
    refine WPD.take 13 rfl (by first | exact (Op1.indexAddr rfl rfl rD lT) | exact (Op1.indexAddrZ rfl rfl rD lT)) rfl rfl sT kR kR kR xQP ?_
    refine WPD.take 5 rfl (by first | exact (Op1.fieldAddr rfl) | exact (Op1.fieldAddrE rfl rD lT)) rfl rfl sT kR kR kR xQP ?_
    refine WPD.take 14 rfl (by first | exact (Op1.fieldAddr rfl) | exact (Op1.fieldAddrE rfl rD lT)) rfl rfl sT kR kR kR xQP ?_
    refine WPD.take 6 rfl (by first | exact (Op1.load rfl mM (by rfl)) | exact (Op1.loadI rfl rD lT) | exact (Op1.loadAll rfl mM (by rfl)) | exact (Op1.loadE rfl rD lT (by rfl)) | exact (Op1.loadEAgg rfl rD lT (by rfl))) rfl rfl sT kR kR kR xQP ?_
    refine WPD.take 15 rfl (by first | exact (Op1.load rfl mM (by rfl)) | exact (Op1.loadI rfl rD lT) | exact (Op1.loadAll rfl mM (by rfl)) | exact (Op1.loadE rfl rD lT (by rfl)) | exact (Op1.loadEAgg rfl rD lT (by rfl))) rfl rfl sT kR kR kR xQP ?_
    refine WPD.take 7 rfl (by first | exact (Op1.indexAddr rfl rfl rD lT) | exact (Op1.indexAddrZ rfl rfl rD lT)) rfl rfl sT kR kR kR xQP ?_
    refine WPD.take 16 rfl (by first | exact (Op1.indexAddr rfl rfl rD lT) | exact (Op1.indexAddrZ rfl rfl rD lT)) rfl rfl sT kR kR kR xQP ?_
    refine WPD.take 8 rfl (by first | exact (Op1.load rfl mM (by rfl)) | exact (Op1.loadI rfl rD lT) | exact (Op1.loadAll rfl mM (by rfl)) | exact (Op1.loadE rfl rD lT (by rfl)) | exact (Op1.loadEAgg rfl rD lT (by rfl))) rfl rfl sT kR kR kR xQP ?_
    refine WPD.take 17 rfl (by first | exact (Op1.load rfl mM (by rfl)) | exact (Op1.loadI rfl rD lT) | exact (Op1.loadAll rfl mM (by rfl)) | exact (Op1.loadE rfl rD lT (by rfl)) | exact (Op1.loadEAgg rfl rD lT (by rfl))) rfl rfl sT kR kR kR xQP ?_
    refine WPD.take 18 rfl (by first | exact (Op1.neI rfl rfl) | exact (Op1.neB rfl rfl) | exact (Op1.neE rfl rfl)) rfl rfl sT kR kR kR xQP ?_
    refine WPD.done kR ?_
    try refine go ⟨?_⟩
    refine WP.condD rfl (fun he => ?_) (fun he => ?_)
    · exact absurd hst he
    · try refine go ⟨?_⟩
      refine PE.again (k + 1) ?_ ?_ sE sT2
      · (try dsimp only); omega
      · (try dsimp only); omega
  try refine go ⟨?_⟩
  refine WP.loop (σ := Nat) (fun k => [(3, ptrV bt), (4, r), (6, .int .i64 k)]) (fun _ => [Tok.own r (labs n es), Tok.blk bt [.int .i64 n, u], Tok.own u es]) (fun k => k ≤ n.toNat) (fun k => n.toNat - k) 0 (Nat.zero_le _) sE sT2 ?_
  rintro k hk
  try refine go ⟨?_⟩
  refine WP.condD rfl (fun hc => ?_) (fun hc => ?_)
  · have hk' : k < n.toNat := by omega
    have hgn : GN n es k := ⟨hg, by omega, by omega⟩
    try refine go ⟨?_⟩
    refine WPL.eff (OpE.call lO (fun w hw => u_PartNodes _ n u es k (Rd.at rD hw) (by omega))) rfl rfl ?_
    rintro p _ ⟨T, rfl, rfl⟩
    rw [if_pos hgn]
    have hmem : (k : Int) ∈ pns n es k := (mem_pns (by omega)).2 ⟨hgn.2, rfl⟩
    have hpl : 0 < (pns n es k).length := List.length_pos_of_mem hmem
    have hpu : (pns n es k).length ≤ n.toNat := by
      have := List.length_filter_le (fun j => decide (lab n es j = lab n es k)) (iota n.toNat)
      rw [iota_length] at this; exact this
    have hh : (labs n es).getD k 0 = (pns n es k).getD 0 0 := (pns_head hg.okE hgn.2).symm
    try refine go ⟨?_⟩
    refine WP.draw [Tok.own p (pns n es k), Tok.own r (labs n es), Tok.blk bt [.int .i64 n, u], Tok.own u es] mixed ?_
    refine WPD.take 0 rfl (Op1.move rfl) rfl rfl sT kR kR kR xQP ?_
    refine WPD.take 1 rfl (Op1.move rfl) rfl rfl sT kR kR kR xQP ?_
    refine WPD.take 4 rfl (Op1.move rfl) rfl rfl sT kR kR kR xQP ?_
    refine WPD.take 2 rfl (by first | exact (Op1.indexAddr rfl rfl rD lT) | exact (Op1.indexAddrZ rfl rfl rD lT)) rfl rfl sT kR kR kR xQP ?_
    refine WPD.take 5 rfl (by first | exact (Op1.indexAddr rfl rfl rD lT) | exact (Op1.indexAddrZ rfl rfl rD lT)) rfl rfl sT kR kR kR xQP ?_
    refine WPD.take 3 rfl (by first | exact (Op1.load rfl mM (by rfl)) | exact (Op1.loadI rfl rD lT) | exact (Op1.loadAll rfl mM (by rfl)) | exact (Op1.loadE rfl rD lT (by rfl)) | exact (Op1.loadEAgg rfl rD lT (by rfl))) rfl rfl sT kR kR kR xQP ?_
    refine WPD.take 6 rfl (by first | exact (Op1.load rfl mM (by rfl)) | exact (Op1.loadI rfl rD lT) | exact (Op1.loadAll rfl mM (by rfl)) | exact (Op1.loadE rfl rD lT (by rfl)) | exact (Op1.loadEAgg rfl rD lT (by rfl))) rfl rfl sT kR kR kR xQP ?_
    refine WPD.take 7 rfl (by first | exact (Op1.neI rfl rfl) | exact (Op1.neB rfl rfl) | exact (Op1.neE rfl rfl)) rfl rfl sT kR kR kR xQP ?_
    refine WPD.take 8 rfl (Op1.move rfl) rfl rfl sT kR kR kR xQP ?_
    first | refine WPD.splitD 77 rfl (fun h77 => ?t37) (fun h77 => ?f37) | refine WPD.split 77 rfl (fun h77 => ?t37) (fun h77 => ?f37)
    case' t37 =>
      refine WPD.skip 9 rfl rfl rfl sT kR kR kR xQP ?_
      refine WPD.skip 10 rfl rfl rfl sT kR kR kR xQP ?_
      refine WPD.skip 11 rfl rfl rfl sT kR kR kR xQP ?_
      refine WPD.skip 12 rfl rfl rfl sT kR kR kR xQP ?_
      refine WPD.eff 13 kR rfl (OpE.ofPure (by first | exact (Op1.pickT rfl rfl) | exact (Op1.pickF rfl rfl))) rfl rfl ?_
      rintro _ _ ⟨rfl, rfl⟩
      refine ⟨sT, ?_⟩
      refine WPD.done kR ?_
    case' f37 =>
      refine WPD.take 9 rfl (Op1.move rfl) rfl rfl sT kR kR kR xQP ?_
      refine WPD.take 10 rfl (Op1.move rfl) rfl rfl sT kR kR kR xQP ?_
      refine WPD.eff 11 kR rfl (OpE.call lO (fun w hw => y_In _ p k (pns n es k) (Rd.at rD hw) (by omega))) rfl rfl ?_
      rintro r _ ⟨T, ⟨rfl, rfl⟩, rfl⟩
      refine ⟨sT, ?_⟩
      refine WPD.eff 12 kR rfl (OpE.ofPure (by first | exact (Op1.notD rfl) | exact (Op1.not rfl))) rfl rfl ?_
      rintro _ _ ⟨rfl, rfl⟩
      refine ⟨sT, ?_⟩
      refine WPD.eff 13 kR rfl (OpE.ofPure (by first | exact (Op1.pickT rfl rfl) | exact (Op1.pickF rfl rfl))) rfl rfl ?_
      rintro _ _ ⟨rfl, rfl⟩
      refine ⟨sT, ?_⟩
      refine WPD.done kR ?_
    · try refine go ⟨?_⟩
      refine WP.condD rfl (fun hq => ?_) (fun hq => ?_)
      · exact absurd hmem hq
      try refine go ⟨?_⟩
      refine PE.again (k + 1) ?_ ?_ sE sT2
      · (try dsimp only); omega
      · (try dsimp only); omega
    · exact absurd hh ‹_›
  try refine go ⟨?_⟩
  refine PE.ret1 (T := []) (T' := []) rfl rV ?_ sT
  exact congrArg Value.bool (decide_eq_true (by omega))
end Go.Proofs.Ytmjljnhjamlonaa
/- The law FnCutBetween: its walk. Conditions: those of the theorem. -/
namespace Go.Proofs.Ytmjljnhjamlonaa
open Go
theorem CN_symm {n : Int} {es : List E} {x y : Int} (h : CN n es x y) : CN n es y x := ⟨h.1, h.2.2.1, h.2.1, h.2.2.2.symm⟩
theorem cutb_len (n : Int) (es : List E) (x y : Int) : (cutb n es x y).length ≤ n.toNat := by
  have := List.length_filter_le (fun k => decide (k ≠ x ∧ k ≠ y ∧ ¬ cn n (alone es k) x y)) (iota n.toNat)
  rw [iota_length] at this; exact this
theorem beq_not (d : Bool) : (d == !d) = false := by cases d <;> rfl
theorem cutb_dec {n : Int} {es : List E} {x y : Int} (hc : CN n es x y) {k : Int} (hk : Nd n k) (h1 : k ≠ x) (h2 : k ≠ y) : decide (CN n (alone es k) x y) = !decide (k ∈ cutb n es x y) := by
  have e1 : CN n (alone es k) x y ↔ cn n (alone es k) x y := ⟨fun h => h.2.2.2, fun h => ⟨hc.1.filter _, hc.2.1, hc.2.2.1, h⟩⟩
  have e2 : k ∈ cutb n es x y ↔ ¬ cn n (alone es k) x y := by
    unfold cutb
    rw [List.mem_filter, decide_eq_true_eq, mem_iota]
    exact ⟨fun h => h.2.2.2, fun h => ⟨⟨hk.1, by have := hk.2; omega⟩, h1, h2, h⟩⟩
  by_cases hb : cn n (alone es k) x y
  · rw [decide_eq_true (e1.2 hb), decide_eq_false fun h => e2.1 h hb]; rfl
  · rw [decide_eq_false fun h => hb (e1.1 h), decide_eq_true (e2.2 hb)]; rfl
set_option linter.unusedVariables false set_option linter.unusedSimpArgs false attribute [local irreducible] Tok.own Tok.blk RL Rd eptr WP WPL PE WPD WPO Op1 OpE Tri Again Mid Exit.then Exit.inBlock bodyPost RP Code.wp wpList isOwn OneM One
attribute [local irreducible] CN
set_option maxHeartbeats 8000000

theorem l_CutBetween (w : World) (v : Value) (bs : List UInt8) (h : RL w v bs) (hl : bs.length ≤ 9223372036854775807) :
    Tri Try.prog 11 [v] w [] fun r T => r = .bool true := by
  have gvOf : ∀ {n : Int} {es : List E} {x y : Int}, CN n es x y → GV n es := fun h => by unfold CN at h; exact h.1
  refine Tri.intro (hf := Try.func11) (hb := rfl) (hn := Try.ntmps11) (Nat.le_of_ble_eq_true rfl) ?_
  repeat' (first | exact absurd rfl hc | refine go ⟨?_⟩ | (refine isCond ?_; refine WP.condD rfl (fun hc => ?_) (fun hc => ?_)) | (refine isGuard ?_; refine WPL.splitD rfl rfl (fun hc => ?_) (fun hc => ?_)))
  · refine PE.ret1 (T := []) (T' := []) rfl rV ?_ sT
    rfl
  refine WPL.eff (OpE.call lO (fun w hw => g_CutNodesBetween _ v bs (Rd.at rD hw) hl)) rfl rfl ?_
  rintro r _ ⟨T, ⟨u, n, es, x, y, rfl, rfl, hle⟩, rfl⟩
  try refine go ⟨?_⟩
  refine WPL.eff OpE.alloc rfl rfl ?_; rintro _ _ ⟨bt, rfl, rfl⟩
  try refine go ⟨?_⟩
  refine WPL.eff (OpE.call lO (fun w hw => u_CutNodesBetween _ n u es x y (Rd.at rD hw) (by omega))) rfl rfl ?_
  rintro _ _ ⟨T, ⟨q, rfl, rfl⟩, rfl⟩
  try refine go ⟨?_⟩
  refine WPL.eff (OpE.call lO (fun w hw => v_CutNodesBetween _ n u es x y (Rd.at rD hw) (by omega))) rfl rfl ?_
  rintro _ _ ⟨T, ⟨q2, rfl, rfl⟩, rfl⟩
  by_cases hc : CN n es x y
  case neg =>
    rw [if_neg hc, decide_eq_false hc]
    try refine go ⟨?_⟩
    refine WPL.eff (OpE.call lO (fun w hw => y_Ints _ q q2 [] [] (Rd.at rD hw) (Rd.at rD hw) (by decide) (by decide))) rfl rfl ?_
    rintro _ _ ⟨T, ⟨rfl, rfl⟩, rfl⟩
    rw [deq_int]
    try refine go ⟨?_⟩
    refine WPL.eff (OpE.call lO (fun w hw => y_Ints _ q q2 [] [] (Rd.at rD hw) (Rd.at rD hw) (by decide) (by decide))) rfl rfl ?_
    rintro _ _ ⟨T, ⟨rfl, rfl⟩, rfl⟩
    rw [deq_int]
    try refine go ⟨?_⟩
    refine PE.ret1 (T := []) (T' := []) rfl rV ?_ sT
    rfl
  have hg := gvOf hc
  have hn1 := hg.ne.n1
  have hn2 := hg.ne.n2
  have hcl := cutb_len n es x y
  rw [if_pos hc, decide_eq_true hc]
  try refine go ⟨?_⟩
  refine WPL.eff (OpE.call lO (fun w hw => y_Ints _ q q2 (cutb n es x y) (cutb n es x y) (Rd.at rD hw) (Rd.at rD hw) (by omega) (by omega))) rfl rfl ?_
  rintro _ _ ⟨T, ⟨rfl, rfl⟩, rfl⟩
  rw [deq_int]
  try refine go ⟨?_⟩
  refine WP.loop (σ := Nat) (fun k => [(3, ptrV bt), (4, .int .i64 x), (5, .int .i64 y), (6, q), (10, .int .i64 k)]) (fun _ => [Tok.own q (cutb n es x y), Tok.blk bt [.int .i64 n, u], Tok.own u es]) (fun k => k ≤ n.toNat) (fun k => n.toNat - k) 0 (Nat.zero_le _) sE sT2 ?_
  rintro k hk
  try refine go ⟨?_⟩
  refine WP.condD rfl (fun hi => ?_) (fun hi => ?_)
  · have hk' : k < n.toNat := by omega
    have hgk : GN n es k := ⟨hg, by omega, by omega⟩
    have hal : (alone es k).length ≤ es.length := List.length_filter_le _ _
    try refine go ⟨?_⟩
    refine WPL.eff (OpE.call lO (fun w hw => u_CutNode _ n u es k (Rd.at rD hw) (by omega))) rfl rfl ?_
    rintro _ _ ⟨T, ⟨q3, rfl, rfl⟩, rfl⟩
    rw [if_pos hgk, if_pos hgk, decide_eq_true hgk]
    try refine go ⟨?_⟩
    refine WPL.eff OpE.alloc rfl rfl ?_; rintro _ _ ⟨b11, rfl, rfl⟩
    try refine go ⟨?_⟩
    refine WP.draw [Tok.own q (cutb n es x y), Tok.blk b11 [.int .i64 n, q3], Tok.own q3 (alone es k)] mixed ?_
    refine WPD.take 0 rfl (Op1.move rfl) rfl rfl sT kR kR kR xQP ?_
    refine WPD.take 1 rfl (by first | exact (Op1.notD rfl) | exact (Op1.not rfl)) rfl rfl sT kR kR kR xQP ?_
    refine WPD.take 2 rfl (Op1.move rfl) rfl rfl sT kR kR kR xQP ?_
    first | refine WPD.splitD 73 rfl (fun h73 => ?t40) (fun h73 => ?f40) | refine WPD.split 73 rfl (fun h73 => ?t40) (fun h73 => ?f40)
    case' t40 =>
      refine WPD.skip 3 rfl rfl rfl sT kR kR kR xQP ?_
      refine WPD.skip 4 rfl rfl rfl sT kR kR kR xQP ?_
      refine WPD.skip 5 rfl rfl rfl sT kR kR kR xQP ?_
      refine WPD.skip 6 rfl rfl rfl sT kR kR kR xQP ?_
      refine WPD.skip 7 rfl rfl rfl sT kR kR kR xQP ?_
      refine WPD.skip 8 rfl rfl rfl sT kR kR kR xQP ?_
      refine WPD.skip 9 rfl rfl rfl sT kR kR kR xQP ?_
      refine WPD.skip 10 rfl rfl rfl sT kR kR kR xQP ?_
      refine WPD.skip 11 rfl rfl rfl sT kR kR kR xQP ?_
      refine WPD.skip 12 rfl rfl rfl sT kR kR kR xQP ?_
      refine WPD.skip 13 rfl rfl rfl sT kR kR kR xQP ?_
      refine WPD.skip 15 rfl rfl rfl sT kR kR kR xQP ?_
      refine WPD.skip 16 rfl rfl rfl sT kR kR kR xQP ?_
      refine WPD.skip 17 rfl rfl rfl sT kR kR kR xQP ?_
      refine WPD.skip 14 rfl rfl rfl sT kR kR kR xQP ?_
      refine WPD.skip 18 rfl rfl rfl sT kR kR kR xQP ?_
      refine WPD.skip 19 rfl rfl rfl sT kR kR kR xQP ?_
      refine WPD.skip 20 rfl rfl rfl sT kR kR kR xQP ?_
      refine WPD.eff 21 kR rfl (OpE.ofPure (by first | exact (Op1.pickT rfl rfl) | exact (Op1.pickF rfl rfl))) rfl rfl ?_
      rintro _ _ ⟨rfl, rfl⟩
      refine ⟨sT, ?_⟩
      refine WPD.done kR ?_
    case' f40 =>
      refine WPD.take 3 rfl (Op1.move rfl) rfl rfl sT kR kR kR xQP ?_
      refine WPD.take 4 rfl (Op1.move rfl) rfl rfl sT kR kR kR xQP ?_
      refine WPD.take 5 rfl (by first | exact (Op1.neI rfl rfl) | exact (Op1.neB rfl rfl) | exact (Op1.neE rfl rfl)) rfl rfl sT kR kR kR xQP ?_
      refine WPD.take 6 rfl (Op1.move rfl) rfl rfl sT kR kR kR xQP ?_
      first | refine WPD.splitD 77 rfl (fun h77 => ?t41) (fun h77 => ?f41) | refine WPD.split 77 rfl (fun h77 => ?t41) (fun h77 => ?f41)
      case' t41 =>
        refine WPD.take 7 rfl (Op1.move rfl) rfl rfl sT kR kR kR xQP ?_
        refine WPD.take 8 rfl (Op1.move rfl) rfl rfl sT kR kR kR xQP ?_
        refine WPD.take 9 rfl (by first | exact (Op1.neI rfl rfl) | exact (Op1.neB rfl rfl) | exact (Op1.neE rfl rfl)) rfl rfl sT kR kR kR xQP ?_
        refine WPD.take 10 rfl (by first | exact (Op1.pickT rfl rfl) | exact (Op1.pickF rfl rfl)) rfl rfl sT kR kR kR xQP ?_
        refine WPD.take 11 rfl (Op1.move rfl) rfl rfl sT kR kR kR xQP ?_
        first | refine WPD.splitD 82 rfl (fun h82 => ?t42) (fun h82 => ?f42) | refine WPD.split 82 rfl (fun h82 => ?t42) (fun h82 => ?f42)
        case' t42 =>
          refine WPD.take 12 rfl (Op1.move rfl) rfl rfl sT kR kR kR xQP ?_
          refine WPD.take 13 rfl (Op1.move rfl) rfl rfl sT kR kR kR xQP ?_
          refine WPD.take 15 rfl (by first | exact (Op1.load rfl mM (by rfl)) | exact (Op1.loadI rfl rD lT) | exact (Op1.loadAll rfl mM (by rfl)) | exact (Op1.loadE rfl rD lT (by rfl)) | exact (Op1.loadEAgg rfl rD lT (by rfl))) rfl rfl sT kR kR kR xQP ?_
          refine WPD.take 16 rfl (Op1.move rfl) rfl rfl sT kR kR kR xQP ?_
          refine WPD.take 17 rfl (Op1.move rfl) rfl rfl sT kR kR kR xQP ?_
          refine WPD.eff 14 kR rfl (OpE.call lO (fun w hw => y_In _ q k (cutb n es x y) (Rd.at rD hw) (by omega))) rfl rfl ?_
          rintro r _ ⟨T, ⟨rfl, rfl⟩, rfl⟩
          refine ⟨sT, ?_⟩
          refine WPD.eff 18 kR rfl (OpE.call lO (fun w hw => c_Connected _ n q3 (alone es k) x y (Rd.at rD hw) (by omega))) rfl rfl ?_
          rintro r _ ⟨T, ⟨rfl, rfl⟩, rfl⟩
          rw [cutb_dec hc hgk.2 h77 h82]
          refine ⟨sT, ?_⟩
          refine WPD.eff 19 kR rfl (OpE.ofPure (by first | exact (Op1.eqI rfl rfl) | exact (Op1.eqB rfl rfl) | exact (Op1.eqE rfl rfl) | exact (Op1.eqNil rfl rD))) rfl rfl ?_
          rintro _ _ ⟨rfl, rfl⟩
          refine ⟨sT, ?_⟩
          refine WPD.eff 20 kR rfl (OpE.ofPure (by first | exact (Op1.pickT rfl rfl) | exact (Op1.pickF rfl rfl))) rfl rfl ?_
          rintro _ _ ⟨rfl, rfl⟩
          refine ⟨sT, ?_⟩
          refine WPD.eff 21 kR rfl (OpE.ofPure (by first | exact (Op1.pickT rfl rfl) | exact (Op1.pickF rfl rfl))) rfl rfl ?_
          rintro _ _ ⟨rfl, rfl⟩
          refine ⟨sT, ?_⟩
          refine WPD.done kR ?_
        case' f42 =>
          refine WPD.skip 12 rfl rfl rfl sT kR kR kR xQP ?_
          refine WPD.skip 13 rfl rfl rfl sT kR kR kR xQP ?_
          refine WPD.skip 15 rfl rfl rfl sT kR kR kR xQP ?_
          refine WPD.skip 16 rfl rfl rfl sT kR kR kR xQP ?_
          refine WPD.skip 17 rfl rfl rfl sT kR kR kR xQP ?_
          refine WPD.skip 14 rfl rfl rfl sT kR kR kR xQP ?_
          refine WPD.skip 18 rfl rfl rfl sT kR kR kR xQP ?_
          refine WPD.skip 19 rfl rfl rfl sT kR kR kR xQP ?_
          refine WPD.eff 20 kR rfl (OpE.ofPure (by first | exact (Op1.pickT rfl rfl) | exact (Op1.pickF rfl rfl))) rfl rfl ?_
          rintro _ _ ⟨rfl, rfl⟩
          refine ⟨sT, ?_⟩
          refine WPD.eff 21 kR rfl (OpE.ofPure (by first | exact (Op1.pickT rfl rfl) | exact (Op1.pickF rfl rfl))) rfl rfl ?_
          rintro _ _ ⟨rfl, rfl⟩
          refine ⟨sT, ?_⟩
          refine WPD.done kR ?_
      case' f41 =>
        refine WPD.skip 7 rfl rfl rfl sT kR kR kR xQP ?_
        refine WPD.skip 8 rfl rfl rfl sT kR kR kR xQP ?_
        refine WPD.skip 9 rfl rfl rfl sT kR kR kR xQP ?_
        refine WPD.take 10 rfl (by first | exact (Op1.pickT rfl rfl) | exact (Op1.pickF rfl rfl)) rfl rfl sT kR kR kR xQP ?_
        refine WPD.take 11 rfl (Op1.move rfl) rfl rfl sT kR kR kR xQP ?_
        refine WPD.skip 12 rfl rfl rfl sT kR kR kR xQP ?_
        refine WPD.skip 13 rfl rfl rfl sT kR kR kR xQP ?_
        refine WPD.skip 15 rfl rfl rfl sT kR kR kR xQP ?_
        refine WPD.skip 16 rfl rfl rfl sT kR kR kR xQP ?_
        refine WPD.skip 17 rfl rfl rfl sT kR kR kR xQP ?_
        refine WPD.skip 14 rfl rfl rfl sT kR kR kR xQP ?_
        refine WPD.skip 18 rfl rfl rfl sT kR kR kR xQP ?_
        refine WPD.skip 19 rfl rfl rfl sT kR kR kR xQP ?_
        refine WPD.eff 20 kR rfl (OpE.ofPure (by first | exact (Op1.pickT rfl rfl) | exact (Op1.pickF rfl rfl))) rfl rfl ?_
        rintro _ _ ⟨rfl, rfl⟩
        refine ⟨sT, ?_⟩
        refine WPD.eff 21 kR rfl (OpE.ofPure (by first | exact (Op1.pickT rfl rfl) | exact (Op1.pickF rfl rfl))) rfl rfl ?_
        rintro _ _ ⟨rfl, rfl⟩
        refine ⟨sT, ?_⟩
        refine WPD.done kR ?_
    all_goals first
      | exact absurd ‹(!true) = true› (by decide)
      | ((try rw [beq_not])
         try refine go ⟨?_⟩
         refine PE.again (k + 1) ?_ ?_ sE sT2
         · (try dsimp only); omega
         · (try dsimp only); omega)
  try refine go ⟨?_⟩
  refine WPL.eff (OpE.call lO (fun w hw => u_CutNodesBetween _ n u es y x (Rd.at rD hw) (by omega))) rfl rfl ?_
  rintro _ _ ⟨T, ⟨q4, rfl, rfl⟩, rfl⟩
  rw [if_pos (CN_symm hc), decide_eq_true (CN_symm hc), cutb_symm n es y x]
  try refine go ⟨?_⟩
  refine WPL.eff (OpE.call lO (fun w hw => y_Ints _ q4 q (cutb n es x y) (cutb n es x y) (Rd.at rD hw) (Rd.at rD hw) (by omega) (by omega))) rfl rfl ?_
  rintro _ _ ⟨T, ⟨rfl, rfl⟩, rfl⟩
  rw [deq_int]
  try refine go ⟨?_⟩
  refine PE.ret1 (T := []) (T' := []) rfl rV ?_ sT
  rfl
end Go.Proofs.Ytmjljnhjamlonaa
/- The given statement FnCutBetweenSaid, out of its walk (LCutBetween). Written by fin.py. No conditions. -/
namespace Go.Proofs.Ytmjljnhjamlonaa.ZfnCutBetween
open Go Go.ChangeShapes Go.WideShapes Go.ChangeAt Go.RowKit Go.Joins
theorem own : ownKnob Try.prog.godebug = none := by kernel_rfl
theorem laidOut : laidOutB Try.prog = true := by kernel_rfl
theorem cells5 : Try.prog.cellsOf 5 = 1 := by kernel_rfl
set_option maxRecDepth 100000 in
theorem lifted (os : Os) (started : os.Started) (H : Type) (enc : TypeId × Value → H) :
    ReturnsInHanded {} Try.checked os 11 .any (Rows.fnCutBetweenSpec.pre6 enc Try.prog Try.f11 Rows.fnCutBetweenRow.domain false) (Rows.fnCutBetweenSpec.post enc Try.prog Try.f11 false true false false) := by
  refine returnsInHanded_of_change (C := Try.checked) own started (by kernel_rfl) Try.func11
    (ChangeSpec.witness6 (enc := enc) (C := Try.checked) false ⟨#[], #[.slice none 0 0], []⟩ 8 (by kernel_rfl) (by kernel_rfl) (by kernel_rfl) (by kernel_rfl)) ?_
  intro W base args ds gs before hval0 hW hcnd _
  have hval : ∀ (j : Nat) t v, Try.f11.params[j]? = some t → args[j]? = some v → Value.okWide Try.prog W .any base t v := hval0
  have hW' := hW
  obtain ⟨p, q, hA0, hV, rfl, hfz, hnd⟩ := hW
  have hA : DataW.TrodAll enc Try.prog W 0 (fun _ => true) true Try.f11.params.toList args.toList ds p := hA0
  rw [Try.params11] at hA hval
  obtain ⟨v0, vs0, d0, ds0, p0, q0, hargs, rfl, rfl, h0, r0⟩ := trodAll_cons hA
  obtain ⟨rfl, rfl, rfl⟩ := trodAll_nil r0
  obtain rfl : args = #[v0] := by cases args; simp_all
  obtain ⟨rfl, rfl⟩ := trodVars_none hV
  have k0 := h0
  have lt0 : ∀ x ∈ p0, x.block < W.heap.size := by obtain ⟨m, hm⟩ := k0; exact DataW.trod_lt m _ _ _ hm
  obtain ⟨xs0, rl0, ll0⟩ : ∃ xs : List UInt8, RL W v0 xs ∧ xs.length ≤ 9223372036854775807 := by
    have hv := hval 0 22 v0 rfl rfl
    simp only [Value.okWide, Try.underlying22] at hv
    obtain ⟨a, l, c, rfl⟩ := okWide_slice Try.underlying22 (hval 0 22 v0 rfl rfl)
    obtain ⟨m, hm⟩ := k0
    exact rl_bytes Try.underlying22 Try.underlying5 cells5 hv (by simpa [Value.cells] using hm)
  clear hA0 hval0
  refine (Tri.holds0 (v := .bool true) (l_CutBetween W v0 xs0 rl0 ll0) (fun _ _ h => h)).mono fun e W' ⟨he, bel⟩ => ?_
  subst he
  exact ⟨_, rfl, _, _, _, [], _, [], hW', trodAll_mk1 (shut_bool Try.underlying4 _), (trodAll_cons_mk (Below.trod laidOut (by kernel_rfl) (of_decide_eq_true (by kernel_rfl)) k0 bel lt0) trodAll_mk0), rfl, bel.frame _, fun h => by cases h⟩
theorem over : Rows.fnCutBetweenRow.holds Try.pinned (OpenSpec.ofChange Rows.fnCutBetweenSpec) :=
  OpenClaim.holds_of_wide 11 Try.f11 rfl rfl rfl rfl rfl rfl rfl ⟨rfl, rfl, rfl, rfl, rfl⟩ rfl rfl rfl rfl rfl (by kernel_rfl) Try.func11 (by unfold joinedFacts; rw [initMay, initLift, initMake]; kernel_rfl)
    (of_decide_eq_true (by kernel_rfl)) (by unfold Func.isWrapper; first | (rw [if_pos (by decide +kernel)]; kernel_rfl) | (rw [if_neg (by decide +kernel)]; exact ⟨rfl, rfl⟩))
    (fun os started H enc _ => lifted os started H enc)
/-- The statement. -/
theorem proved : Rows.FnCutBetweenSaid := over
end Go.Proofs.Ytmjljnhjamlonaa.ZfnCutBetween
