/- The given statement FnNeighborsOfSaid, out of its walk (LNeighborsOf). Written by fin.py. No conditions. -/
import Derived.Test.YtmjljnhjamlonaaInit
import Derived.Test.YtmjljnhjamlonaaV1
import Derived.Test.YtmjljnhjamlonaaV3
import Derived.Test.YtmjljnhjamlonaaV4
import Derived.Test.YtmjljnhjamlonaaV19
set_option linter.unusedVariables false
set_option linter.unusedSimpArgs false
/- Graphs: the walk of EdgeOf. Conditions: those of the contract. -/
namespace Go.Proofs.Ytmjljnhjamlonaa
open Go
set_option linter.unusedVariables false set_option linter.unusedSimpArgs false attribute [local irreducible] Tok.own Tok.blk RL Rd eptr WP WPL PE WPD WPO Op1 OpE Tri Again Mid Exit.then Exit.inBlock bodyPost RP Code.wp wpList isOwn OneM One
set_option maxHeartbeats 8000000

theorem c_isNode (w : World) (x : Int) : Tri Try.prog 112 [.int .i64 x] w [] fun r T => r = .bool (decide (Nd 16 x)) ∧ T = [] := by
  refine Tri.intro (hf := Try.func112) (hb := rfl) (hn := Try.ntmps112) (Nat.le_of_ble_eq_true rfl) ?_
  repeat' (first | exact absurd rfl hc | refine go ⟨?_⟩ | (refine isCond ?_; refine WP.condD rfl (fun hc => ?_) (fun hc => ?_)) | (refine isGuard ?_; refine WPL.splitD rfl rfl (fun hc => ?_) (fun hc => ?_)))
  all_goals (refine PE.ret1 (T := []) (T' := []) rfl rV ?_ sT)
  · refine ⟨?_, rfl⟩
    congr 1; rw [decide_eq_decide]; unfold Nd; omega
  · refine ⟨?_, rfl⟩
    rw [decide_eq_false]; unfold Nd; omega
/-- The edge between two different nodes. -/
def mkE (x y : Int) : E := ⟨min x y, max x y⟩
def edOk (x y : Int) : Prop := x ≠ y ∧ Nd 16 x ∧ Nd 16 y
instance (x y : Int) : Decidable (edOk x y) := by unfold edOk; infer_instance
theorem c_EdgeOf (w : World) (x y : Int) :
    Tri Try.prog 68 [.int .i64 x, .int .i64 y] w [] fun r T => T = [] ∧ ((edOk x y ∧ r = .tuple #[ep (mkE x y), .bool true]) ∨ (¬ edOk x y ∧ r = .tuple #[ep eD, .bool false])) := by
  refine Tri.intro (hf := Try.func68) (hb := rfl) (hn := Try.ntmps68) (Nat.le_of_ble_eq_true rfl) ?_
  try refine go ⟨?_⟩
  refine WPL.eff OpE.alloc rfl rfl ?_; rintro _ _ ⟨b, rfl, rfl⟩
  repeat' (first | exact absurd rfl hc | refine go ⟨?_⟩ | (refine isCond ?_; refine WP.condD rfl (fun hc => ?_) (fun hc => ?_)) | (refine isGuard ?_; refine WPL.splitD rfl rfl (fun hc => ?_) (fun hc => ?_)))
  · refine PE.ret2 (T := []) (T' := []) rfl rV ?_ sT
    exact ⟨rfl, .inr ⟨fun h => h.1 ‹_›, rfl⟩⟩
  · refine WPL.eff (OpE.call lO (fun w hw => c_isNode _ x)) rfl rfl ?_
    rintro r _ ⟨T, ⟨rfl, rfl⟩, rfl⟩
    repeat' (first | exact absurd rfl hc | refine go ⟨?_⟩ | (refine isCond ?_; refine WP.condD rfl (fun hc => ?_) (fun hc => ?_)) | (refine isGuard ?_; refine WPL.splitD rfl rfl (fun hc => ?_) (fun hc => ?_)))
    · refine PE.ret2 (T := []) (T' := []) rfl rV ?_ sT
      exact ⟨rfl, .inr ⟨fun h => absurd h.2.1 ‹_›, rfl⟩⟩
    · refine WPL.eff (OpE.call lO (fun w hw => c_isNode _ y)) rfl rfl ?_
      rintro r _ ⟨T, ⟨rfl, rfl⟩, rfl⟩
      repeat' (first | exact absurd rfl hc | refine go ⟨?_⟩ | (refine isCond ?_; refine WP.condD rfl (fun hc => ?_) (fun hc => ?_)) | (refine isGuard ?_; refine WPL.splitD rfl rfl (fun hc => ?_) (fun hc => ?_)))
      · refine PE.ret2 (T := []) (T' := []) rfl rV ?_ sT
        exact ⟨rfl, .inr ⟨fun h => absurd h.2.2 ‹_›, rfl⟩⟩
      · refine PE.ret2 (T := []) (T' := []) rfl rV ?_ sT
        exact ⟨rfl, .inl ⟨⟨‹_›, Decidable.not_not.1 ‹¬¬Nd 16 x›, Decidable.not_not.1 ‹¬¬Nd 16 y›⟩, rfl⟩⟩
end Go.Proofs.Ytmjljnhjamlonaa
/- The law FnPartsOf: its walk. Conditions: those of the theorem. -/
namespace Go.Proofs.Ytmjljnhjamlonaa
open Go
theorem deq_int (l : List Int) : decide (l = l) = true := decide_eq_true rfl
theorem deq_E (l : List E) : decide (l = l) = true := decide_eq_true rfl
set_option linter.unusedVariables false set_option linter.unusedSimpArgs false attribute [local irreducible] Tok.own Tok.blk RL Rd eptr WP WPL PE WPD WPO Op1 OpE Tri Again Mid Exit.then Exit.inBlock bodyPost RP Code.wp wpList isOwn OneM One
set_option maxHeartbeats 8000000

theorem l_PartsOf (w : World) (v : Value) (bs : List UInt8) (h : RL w v bs) (hl : bs.length ≤ 9223372036854775807) :
    Tri Try.prog 4 [v] w [] fun r T => r = .bool true := by
  refine Tri.intro (hf := Try.func4) (hb := rfl) (hn := Try.ntmps4) (Nat.le_of_ble_eq_true rfl) ?_
  repeat' (first | exact absurd rfl hc | refine go ⟨?_⟩ | (refine isCond ?_; refine WP.condD rfl (fun hc => ?_) (fun hc => ?_)) | (refine isGuard ?_; refine WPL.splitD rfl rfl (fun hc => ?_) (fun hc => ?_)))
  · refine PE.ret1 (T := []) (T' := []) rfl rV ?_ sT
    rfl
  refine WPL.eff (OpE.call lO (fun w hw => g_PartsOf _ v bs (Rd.at rD hw) hl)) rfl rfl ?_
  rintro r _ ⟨T, ⟨u, n, es, rfl, rfl, hle⟩, rfl⟩
  try refine go ⟨?_⟩
  refine WPL.eff OpE.alloc rfl rfl ?_; rintro _ _ ⟨bt, rfl, rfl⟩
  try refine go ⟨?_⟩
  refine WPL.eff (OpE.call lO (fun w hw => u_PartsOf _ n u es (Rd.at rD hw) (by omega))) rfl rfl ?_
  rintro r _ ⟨T, rfl, rfl⟩
  try refine go ⟨?_⟩
  refine WPL.eff (OpE.call lO (fun w hw => v_PartsOf _ n u es (Rd.at rD hw) (by omega))) rfl rfl ?_
  rintro r2 _ ⟨T, rfl, rfl⟩
  by_cases hg : GV n es
  case neg =>
    rw [if_neg hg]
    try refine go ⟨?_⟩
    refine WPL.eff (OpE.call lO (fun w hw => y_Ints _ r r2 [] [] (Rd.at rD hw) (Rd.at rD hw) (by decide) (by decide))) rfl rfl ?_
    rintro _ _ ⟨T, ⟨rfl, rfl⟩, rfl⟩
    rw [deq_int]
    repeat' (first | exact absurd rfl hc | refine go ⟨?_⟩ | (refine isCond ?_; refine WP.condD rfl (fun hc => ?_) (fun hc => ?_)) | (refine isGuard ?_; refine WPL.splitD rfl rfl (fun hc => ?_) (fun hc => ?_)))
    refine WPL.eff (OpE.call lO (fun w hw => c_GraphValid _ n u es (Rd.at rD hw) (by omega))) rfl rfl ?_
    rintro _ _ ⟨T, ⟨rfl, rfl⟩, rfl⟩
    rw [decide_eq_false hg]
    repeat' (first | exact absurd rfl hc | refine go ⟨?_⟩ | (refine isCond ?_; refine WP.condD rfl (fun hc => ?_) (fun hc => ?_)) | (refine isGuard ?_; refine WPL.splitD rfl rfl (fun hc => ?_) (fun hc => ?_)))
    refine WPL.eff (OpE.call lO (fun w hw => v_PartsOf _ n u es (Rd.at rD hw) (by omega))) rfl rfl ?_
    rintro r3 _ ⟨T, rfl, rfl⟩
    rw [if_neg hg]
    try refine go ⟨?_⟩
    refine WPL.eff (OpE.call lO (fun w hw => y_Ints _ r r3 [] [] (Rd.at rD hw) (Rd.at rD hw) (by decide) (by decide))) rfl rfl ?_
    rintro _ _ ⟨T, ⟨rfl, rfl⟩, rfl⟩
    rw [deq_int]
    repeat' (first | exact absurd rfl hc | refine go ⟨?_⟩ | (refine isCond ?_; refine WP.condD rfl (fun hc => ?_) (fun hc => ?_)) | (refine isGuard ?_; refine WPL.splitD rfl rfl (fun hc => ?_) (fun hc => ?_)))
    refine PE.ret1 (T := []) (T' := []) rfl rV ?_ sT
    rfl
  have hll := labs_length n es
  have hn1 := hg.ne.n1
  have hn2 := hg.ne.n2
  rw [if_pos hg]
  try refine go ⟨?_⟩
  refine WPL.eff (OpE.call lO (fun w hw => y_Ints _ r r2 (labs n es) (labs n es) (Rd.at rD hw) (Rd.at rD hw) (by omega) (by omega))) rfl rfl ?_
  rintro _ _ ⟨T, ⟨rfl, rfl⟩, rfl⟩
  rw [deq_int]
  repeat' (first | exact absurd rfl hc | refine go ⟨?_⟩ | (refine isCond ?_; refine WP.condD rfl (fun hc => ?_) (fun hc => ?_)) | (refine isGuard ?_; refine WPL.splitD rfl rfl (fun hc => ?_) (fun hc => ?_)))
  refine WPL.eff (OpE.call lO (fun w hw => c_GraphValid _ n u es (Rd.at rD hw) (by omega))) rfl rfl ?_
  rintro _ _ ⟨T, ⟨rfl, rfl⟩, rfl⟩
  rw [decide_eq_true hg]
  repeat' (first | exact absurd rfl hc | refine go ⟨?_⟩ | (refine isCond ?_; refine WP.condD rfl (fun hc => ?_) (fun hc => ?_)) | (refine isGuard ?_; refine WPL.splitD rfl rfl (fun hc => ?_) (fun hc => ?_)))
  refine WP.loop (σ := Nat) (fun k => [(3, ptrV bt), (4, r), (5, .int .i64 k)]) (fun _ => [Tok.own r (labs n es), Tok.blk bt [.int .i64 n, u], Tok.own u es]) (fun k => k ≤ es.length) (fun k => es.length - k) 0 (Nat.zero_le _) sE sT2 ?_
  rintro k hk
  try refine go ⟨?_⟩
  refine WP.condD rfl (fun hc => ?_) (fun hc => ?_)
  · have hk' : k < es.length := by omega
    have hm := getD_memI (d := (Enc.d : E)) hk'
    obtain ⟨⟨a1, a2⟩, a3, a4⟩ := hg.okE _ hm
    have hst := labs_stab hg.okE _ hm
    try refine go ⟨?_⟩
    refine WP.draw [Tok.own r (labs n es), Tok.blk bt [.int .i64 n, u], Tok.own u es] mixed ?_
    refine WPD.take 0 rfl (Op1.move rfl) rfl rfl sT kR kR kR xQP ?_
    refine WPD.take 1 rfl (by first | exact (Op1.fieldAddr rfl) | exact (Op1.fieldAddrE rfl rD lT)) rfl rfl sT kR kR kR xQP ?_
    refine WPD.take 3 rfl (Op1.move rfl) rfl rfl sT kR kR kR xQP ?_
    refine WPD.take 9 rfl (Op1.move rfl) rfl rfl sT kR kR kR xQP ?_
    refine WPD.take 10 rfl (by first | exact (Op1.fieldAddr rfl) | exact (Op1.fieldAddrE rfl rD lT)) rfl rfl sT kR kR kR xQP ?_
    refine WPD.take 12 rfl (Op1.move rfl) rfl rfl sT kR kR kR xQP ?_
    refine WPD.take 2 rfl (by first | exact (Op1.load rfl mM (by rfl)) | exact (Op1.loadI rfl rD lT) | exact (Op1.loadAll rfl mM (by rfl)) | exact (Op1.loadE rfl rD lT (by rfl)) | exact (Op1.loadEAgg rfl rD lT (by rfl))) rfl rfl sT kR kR kR xQP ?_
    refine WPD.take 11 rfl (by first | exact (Op1.load rfl mM (by rfl)) | exact (Op1.loadI rfl rD lT) | exact (Op1.loadAll rfl mM (by rfl)) | exact (Op1.loadE rfl rD lT (by rfl)) | exact (Op1.loadEAgg rfl rD lT (by rfl))) rfl rfl sT kR kR kR xQP ?_
    refine WPD.take 4 rfl (by first | exact (Op1.indexAddr rfl rfl rD lT) | exact (Op1.indexAddrZ rfl rfl rD lT)) rfl rfl sT kR kR kR xQP ?_
    refine WPD.take 13 rfl (by first | exact (Op1.indexAddr rfl rfl rD lT) | exact (Op1.indexAddrZ rfl rfl rD lT)) rfl rfl sT kR kR kR xQP ?_
    refine WPD.take 5 rfl (by first | exact (Op1.fieldAddr rfl) | exact (Op1.fieldAddrE rfl rD lT)) rfl rfl sT kR kR kR xQP ?_
    refine WPD.take 14 rfl (by first | exact (Op1.fieldAddr rfl) | exact (Op1.fieldAddrE rfl rD lT)) rfl rfl sT kR kR kR xQP ?_
    refine WPD.take 6 rfl (by first | exact (Op1.load rfl mM (by rfl)) | exact (Op1.loadI rfl rD lT) | exact (Op1.loadAll rfl mM (by rfl)) | exact (Op1.loadE rfl rD lT (by rfl)) | exact (Op1.loadEAgg rfl rD lT (by rfl))) rfl rfl sT kR kR kR xQP ?_
    refine WPD.take 15 rfl (by first | exact (Op1.load rfl mM (by rfl)) | exact (Op1.loadI rfl rD lT) | exact (Op1.loadAll rfl mM (by rfl)) | exact (Op1.loadE rfl rD lT (by rfl)) | exact (Op1.loadEAgg rfl rD lT (by rfl))) rfl rfl sT kR kR kR xQP ?_
    refine WPD.take 7 rfl (by first | exact (Op1.indexAddr rfl rfl rD lT) | exact (Op1.indexAddrZ rfl rfl rD lT)) rfl rfl sT kR kR kR xQP ?_
    refine WPD.take 16 rfl (by first | exact (Op1.indexAddr rfl rfl rD lT) | exact (Op1.indexAddrZ rfl rfl rD lT)) rfl rfl sT kR kR kR xQP ?_
    refine WPD.take 8 rfl (by first | exact (Op1.load rfl mM (by rfl)) | exact (Op1.loadI rfl rD lT) | exact (Op1.loadAll rfl mM (by rfl)) | exact (Op1.loadE rfl rD lT (by rfl)) | exact (Op1.loadEAgg rfl rD lT (by rfl))) rfl rfl sT kR kR kR xQP ?_
    refine WPD.take 17 rfl (by first | exact (Op1.load rfl mM (by rfl)) | exact (Op1.loadI rfl rD lT) | exact (Op1.loadAll rfl mM (by rfl)) | exact (Op1.loadE rfl rD lT (by rfl)) | exact (Op1.loadEAgg rfl rD lT (by rfl))) rfl rfl sT kR kR kR xQP ?_
    refine WPD.take 18 rfl (by first | exact (Op1.neI rfl rfl) | exact (Op1.neB rfl rfl) | exact (Op1.neE rfl rfl)) rfl rfl sT kR kR kR xQP ?_
    refine WPD.done kR ?_
    try refine go ⟨?_⟩
    refine WP.condD rfl (fun he => ?_) (fun he => ?_)
    · exact absurd hst he
    · try refine go ⟨?_⟩
      refine PE.again (k + 1) ?_ ?_ sE sT2
      · (try dsimp only); omega
      · (try dsimp only); omega
  try refine go ⟨?_⟩
  refine WP.loop (σ := Nat) (fun k => [(3, ptrV bt), (4, r), (6, .int .i64 k)]) (fun _ => [Tok.own r (labs n es), Tok.blk bt [.int .i64 n, u], Tok.own u es]) (fun k => k ≤ n.toNat) (fun k => n.toNat - k) 0 (Nat.zero_le _) sE sT2 ?_
  rintro k hk
  try refine go ⟨?_⟩
  refine WP.condD rfl (fun hc => ?_) (fun hc => ?_)
  · have hk' : k < n.toNat := by omega
    have hgn : GN n es k := ⟨hg, by omega, by omega⟩
    try refine go ⟨?_⟩
    refine WPL.eff (OpE.call lO (fun w hw => u_PartNodes _ n u es k (Rd.at rD hw) (by omega))) rfl rfl ?_
    rintro p _ ⟨T, rfl, rfl⟩
    rw [if_pos hgn]
    have hmem : (k : Int) ∈ pns n es k := (mem_pns (by omega)).2 ⟨hgn.2, rfl⟩
    have hpl : 0 < (pns n es k).length := List.length_pos_of_mem hmem
    have hpu : (pns n es k).length ≤ n.toNat := by
      have := List.length_filter_le (fun j => decide (lab n es j = lab n es k)) (iota n.toNat)
      rw [iota_length] at this; exact this
    have hh : (labs n es).getD k 0 = (pns n es k).getD 0 0 := (pns_head hg.okE hgn.2).symm
    try refine go ⟨?_⟩
    refine WP.draw [Tok.own p (pns n es k), Tok.own r (labs n es), Tok.blk bt [.int .i64 n, u], Tok.own u es] mixed ?_
    refine WPD.take 0 rfl (Op1.move rfl) rfl rfl sT kR kR kR xQP ?_
    refine WPD.take 1 rfl (Op1.move rfl) rfl rfl sT kR kR kR xQP ?_
    refine WPD.take 4 rfl (Op1.move rfl) rfl rfl sT kR kR kR xQP ?_
    refine WPD.take 2 rfl (by first | exact (Op1.indexAddr rfl rfl rD lT) | exact (Op1.indexAddrZ rfl rfl rD lT)) rfl rfl sT kR kR kR xQP ?_
    refine WPD.take 5 rfl (by first | exact (Op1.indexAddr rfl rfl rD lT) | exact (Op1.indexAddrZ rfl rfl rD lT)) rfl rfl sT kR kR kR xQP ?_
    refine WPD.take 3 rfl (by first | exact (Op1.load rfl mM (by rfl)) | exact (Op1.loadI rfl rD lT) | exact (Op1.loadAll rfl mM (by rfl)) | exact (Op1.loadE rfl rD lT (by rfl)) | exact (Op1.loadEAgg rfl rD lT (by rfl))) rfl rfl sT kR kR kR xQP ?_
    refine WPD.take 6 rfl (by first | exact (Op1.load rfl mM (by rfl)) | exact (Op1.loadI rfl rD lT) | exact (Op1.loadAll rfl mM (by rfl)) | exact (Op1.loadE rfl rD lT (by rfl)) | exact (Op1.loadEAgg rfl rD lT (by rfl))) rfl rfl sT kR kR kR xQP ?_
    refine WPD.take 7 rfl (by first | exact (Op1.neI rfl rfl) | exact (Op1.neB rfl rfl) | exact (Op1.neE rfl rfl)) rfl rfl sT kR kR kR xQP ?_
    refine WPD.take 8 rfl (Op1.move rfl) rfl rfl sT kR kR kR xQP ?_
    first | refine WPD.splitD 77 rfl (fun h77 => ?t37) (fun h77 => ?f37) | refine WPD.split 77 rfl (fun h77 => ?t37) (fun h77 => ?f37)
    case' t37 =>
      refine WPD.skip 9 rfl rfl rfl sT kR kR kR xQP ?_
      refine WPD.skip 10 rfl rfl rfl sT kR kR kR xQP ?_
      refine WPD.skip 11 rfl rfl rfl sT kR kR kR xQP ?_
      refine WPD.skip 12 rfl rfl rfl sT kR kR kR xQP ?_
      refine WPD.eff 13 kR rfl (OpE.ofPure (by first | exact (Op1.pickT rfl rfl) | exact (Op1.pickF rfl rfl))) rfl rfl ?_
      rintro _ _ ⟨rfl, rfl⟩
      refine ⟨sT, ?_⟩
      refine WPD.done kR ?_
    case' f37 =>
      refine WPD.take 9 rfl (Op1.move rfl) rfl rfl sT kR kR kR xQP ?_
      refine WPD.take 10 rfl (Op1.move rfl) rfl rfl sT kR kR kR xQP ?_
      refine WPD.eff 11 kR rfl (OpE.call lO (fun w hw => y_In _ p k (pns n es k) (Rd.at rD hw) (by omega))) rfl rfl ?_
      rintro r _ ⟨T, ⟨rfl, rfl⟩, rfl⟩
      refine ⟨sT, ?_⟩
      refine WPD.eff 12 kR rfl (OpE.ofPure (by first | exact (Op1.notD rfl) | exact (Op1.not rfl))) rfl rfl ?_
      rintro _ _ ⟨rfl, rfl⟩
      refine ⟨sT, ?_⟩
      refine WPD.eff 13 kR rfl (OpE.ofPure (by first | exact (Op1.pickT rfl rfl) | exact (Op1.pickF rfl rfl))) rfl rfl ?_
      rintro _ _ ⟨rfl, rfl⟩
      refine ⟨sT, ?_⟩
      refine WPD.done kR ?_
    · try refine go ⟨?_⟩
      refine WP.condD rfl (fun hq => ?_) (fun hq => ?_)
      · exact absurd hmem hq
      try refine go ⟨?_⟩
      refine PE.again (k + 1) ?_ ?_ sE sT2
      · (try dsimp only); omega
      · (try dsimp only); omega
    · exact absurd hh ‹_›
  try refine go ⟨?_⟩
  refine PE.ret1 (T := []) (T' := []) rfl rV ?_ sT
  exact congrArg Value.bool (decide_eq_true (by omega))
end Go.Proofs.Ytmjljnhjamlonaa
/- The law FnNeighborsOf: its walk. Conditions: those of the theorem. -/
namespace Go.Proofs.Ytmjljnhjamlonaa
open Go
theorem mkE_jnE (x y : Int) : mkE x y = jnE x y := by
  unfold mkE jnE
  by_cases h : x < y
  · rw [if_pos h, Int.min_eq_left (by omega), Int.max_eq_right (by omega)]
  · rw [if_neg h, Int.min_eq_right (by omega), Int.max_eq_left (by omega)]
set_option linter.unusedVariables false set_option linter.unusedSimpArgs false attribute [local irreducible] Tok.own Tok.blk RL Rd eptr WP WPL PE WPD WPO Op1 OpE Tri Again Mid Exit.then Exit.inBlock bodyPost RP Code.wp wpList isOwn OneM One
attribute [local irreducible] GV GN HE
set_option maxHeartbeats 8000000

theorem l_NeighborsOf (w : World) (v : Value) (bs : List UInt8) (h : RL w v bs) (hl : bs.length ≤ 9223372036854775807) :
    Tri Try.prog 16 [v] w [] fun r T => r = .bool true := by
  have hGN : ∀ (n : Int) (es : List E) (x : Int), GN n es x ↔ GV n es ∧ 0 ≤ x ∧ x < n := fun n es x => by unfold GN Nd; exact Iff.rfl
  have hHE : ∀ (n : Int) (es : List E) (e : E), HE n es e ↔ GV n es ∧ e ∈ es := fun n es e => by unfold HE; exact Iff.rfl
  have hGV : ∀ (n : Int) (es : List E), GV n es → 1 ≤ n ∧ n ≤ 16 := fun n es h => by unfold GV at h; exact ⟨h.1, h.2.1⟩
  refine Tri.intro (hf := Try.func16) (hb := rfl) (hn := Try.ntmps16) (Nat.le_of_ble_eq_true rfl) ?_
  repeat' (first | exact absurd rfl hc | refine go ⟨?_⟩ | (refine isCond ?_; refine WP.condD rfl (fun hc => ?_) (fun hc => ?_)) | (refine isGuard ?_; refine WPL.splitD rfl rfl (fun hc => ?_) (fun hc => ?_)))
  · refine PE.ret1 (T := []) (T' := []) rfl rV ?_ sT
    rfl
  refine WPL.eff (OpE.call lO (fun w hw => g_DNeighborsOf _ v bs (Rd.at rD hw) hl)) rfl rfl ?_
  rintro r _ ⟨T, ⟨u, n, es, x, rfl, rfl, hle, _⟩, rfl⟩
  try refine go ⟨?_⟩
  refine WPL.eff OpE.alloc rfl rfl ?_; rintro _ _ ⟨bt, rfl, rfl⟩
  try refine go ⟨?_⟩
  refine WPL.eff (OpE.call lO (fun w hw => c_NeighborsOf _ n u es x (Rd.at rD hw) (by omega))) rfl rfl ?_
  rintro r _ ⟨T, rfl, rfl⟩
  try refine go ⟨?_⟩
  refine WPL.eff (OpE.call lO (fun w hw => s_NeighborsOf _ n u es x (Rd.at rD hw) (by omega))) rfl rfl ?_
  rintro r2 _ ⟨T, rfl, rfl⟩
  have hll := nbR_len n es x
  by_cases hgn : GN n es x
  case neg =>
    have hne : nbR n es x = [] := if_neg hgn
    rw [hne]
    try refine go ⟨?_⟩
    refine WPL.eff (OpE.call lO (fun w hw => y_Ints _ r r2 [] [] (Rd.at rD hw) (Rd.at rD hw) (by decide) (by decide))) rfl rfl ?_
    rintro _ _ ⟨T, ⟨rfl, rfl⟩, rfl⟩
    rw [deq_int]
    repeat' (first | exact absurd rfl hc | refine go ⟨?_⟩ | (refine isCond ?_; refine WP.condD rfl (fun hc => ?_) (fun hc => ?_)) | (refine isGuard ?_; refine WPL.splitD rfl rfl (fun hc => ?_) (fun hc => ?_)))
    refine WPL.eff (OpE.call lO (fun w hw => c_GraphValid _ n u es (Rd.at rD hw) (by omega))) rfl rfl ?_
    rintro _ _ ⟨T, ⟨rfl, rfl⟩, rfl⟩
    by_cases hg : GV n es
    · rw [decide_eq_true hg]
      try refine go ⟨?_⟩
      by_cases hx0 : x < 0
      · rw [decide_eq_true hx0]
        try refine go ⟨?_⟩
        refine WPL.eff (OpE.call lO (fun w hw => s_NeighborsOf _ n u es x (Rd.at rD hw) (by omega))) rfl rfl ?_
        rintro r3 _ ⟨T, rfl, rfl⟩
        rw [hne]
        try refine go ⟨?_⟩
        refine WPL.eff (OpE.call lO (fun w hw => y_Ints _ r r3 [] [] (Rd.at rD hw) (Rd.at rD hw) (by decide) (by decide))) rfl rfl ?_
        rintro _ _ ⟨T, ⟨rfl, rfl⟩, rfl⟩
        rw [deq_int]
        try refine go ⟨?_⟩
        refine PE.ret1 (T := []) (T' := []) rfl rV ?_ sT
        rfl
      · rw [decide_eq_false hx0]
        try refine go ⟨?_⟩
        rw [decide_eq_true (show x ≥ n from Classical.byContradiction fun h => hgn ((hGN _ _ _).2 ⟨hg, by omega, by omega⟩))]
        try refine go ⟨?_⟩
        refine WPL.eff (OpE.call lO (fun w hw => s_NeighborsOf _ n u es x (Rd.at rD hw) (by omega))) rfl rfl ?_
        rintro r3 _ ⟨T, rfl, rfl⟩
        rw [hne]
        try refine go ⟨?_⟩
        refine WPL.eff (OpE.call lO (fun w hw => y_Ints _ r r3 [] [] (Rd.at rD hw) (Rd.at rD hw) (by decide) (by decide))) rfl rfl ?_
        rintro _ _ ⟨T, ⟨rfl, rfl⟩, rfl⟩
        rw [deq_int]
        try refine go ⟨?_⟩
        refine PE.ret1 (T := []) (T' := []) rfl rV ?_ sT
        rfl
    · rw [decide_eq_false hg]
      try refine go ⟨?_⟩
      refine WPL.eff (OpE.call lO (fun w hw => s_NeighborsOf _ n u es x (Rd.at rD hw) (by omega))) rfl rfl ?_
      rintro r3 _ ⟨T, rfl, rfl⟩
      rw [hne]
      try refine go ⟨?_⟩
      refine WPL.eff (OpE.call lO (fun w hw => y_Ints _ r r3 [] [] (Rd.at rD hw) (Rd.at rD hw) (by decide) (by decide))) rfl rfl ?_
      rintro _ _ ⟨T, ⟨rfl, rfl⟩, rfl⟩
      rw [deq_int]
      try refine go ⟨?_⟩
      refine PE.ret1 (T := []) (T' := []) rfl rV ?_ sT
      rfl
  have hne : nbR n es x = nb es x := if_pos hgn
  obtain ⟨hg, hx1, hx2⟩ := (hGN _ _ _).1 hgn
  obtain ⟨hn1, hn2⟩ := hGV _ _ hg
  rw [hne] at hll ⊢
  try refine go ⟨?_⟩
  refine WPL.eff (OpE.call lO (fun w hw => y_Ints _ r r2 (nb es x) (nb es x) (Rd.at rD hw) (Rd.at rD hw) (by omega) (by omega))) rfl rfl ?_
  rintro _ _ ⟨T, ⟨rfl, rfl⟩, rfl⟩
  rw [deq_int]
  repeat' (first | exact absurd rfl hc | refine go ⟨?_⟩ | (refine isCond ?_; refine WP.condD rfl (fun hc => ?_) (fun hc => ?_)) | (refine isGuard ?_; refine WPL.splitD rfl rfl (fun hc => ?_) (fun hc => ?_)))
  refine WPL.eff (OpE.call lO (fun w hw => c_GraphValid _ n u es (Rd.at rD hw) (by omega))) rfl rfl ?_
  rintro _ _ ⟨T, ⟨rfl, rfl⟩, rfl⟩
  rw [decide_eq_true hg]
  try refine go ⟨?_⟩
  rw [decide_eq_false (show ¬ x < 0 by omega)]
  try refine go ⟨?_⟩
  rw [decide_eq_false (show ¬ x ≥ n by omega)]
  repeat' (first | exact absurd rfl hc | refine go ⟨?_⟩ | (refine isCond ?_; refine WP.condD rfl (fun hc => ?_) (fun hc => ?_)) | (refine isGuard ?_; refine WPL.splitD rfl rfl (fun hc => ?_) (fun hc => ?_)))
  refine WP.loop (σ := Nat) (fun k => [(3, ptrV bt), (4, .int .i64 x), (5, r), (6, .int .i64 k)]) (fun _ => [Tok.own r (nb es x), Tok.blk bt [.int .i64 n, u], Tok.own u es]) (fun k => k ≤ n.toNat) (fun k => n.toNat - k) 0 (Nat.zero_le _) sE sT2 ?_
  rintro k hk
  try refine go ⟨?_⟩
  refine WP.condD rfl (fun hc => ?_) (fun hc => ?_)
  · have hk' : k < n.toNat := by omega
    have hgk : GN n es k := (hGN _ _ _).2 ⟨hg, by omega, by omega⟩
    have hnk : nbR n es k = nb es k := if_pos hgk
    have hlk := nbR_len n es k
    rw [hnk] at hlk
    have q1 : (k : Int) ∈ nb es x ↔ (k : Int) ≠ x ∧ jnE k x ∈ es := jnE_mem hg
    have q2 : x ∈ nb es k ↔ (k : Int) ∈ nb es x := nb_symm hg
    have e2 : decide (x ∈ nb es k) = decide ((k : Int) ∈ nb es x) := by rw [decide_eq_decide]; exact q2
    try refine go ⟨?_⟩
    refine WPL.eff (OpE.call lO (fun w hw => c_EdgeOf _ (k : Int) x)) rfl rfl ?_
    rintro _ _ ⟨T, ⟨rfl, hr⟩, rfl⟩
    rcases hr with ⟨hok, rfl⟩ | ⟨hok, rfl⟩
    · have e3 : decide (HE n es (mkE k x)) = decide ((k : Int) ∈ nb es x) := by
        rw [decide_eq_decide, hHE, mkE_jnE]; exact ⟨fun h => q1.2 ⟨hok.1, h.2⟩, fun h => ⟨hg, (q1.1 h).2⟩⟩
      try refine go ⟨?_⟩
      refine WPL.eff OpE.alloc rfl rfl ?_; rintro _ _ ⟨b7, rfl, rfl⟩
      try refine go ⟨?_⟩
      cases hd : decide ((k : Int) ∈ nb es x)
      · rw [hd] at e2 e3
        refine WP.draw [Tok.blk b7 [.int .i64 (mkE k x).A, .int .i64 (mkE k x).B], Tok.own r (nb es x), Tok.blk bt [.int .i64 n, u], Tok.own u es] mixed ?_
        refine WPD.take 0 rfl (Op1.move rfl) rfl rfl sT kR kR kR xQP ?_
        refine WPD.take 1 rfl (Op1.move rfl) rfl rfl sT kR kR kR xQP ?_
        refine WPD.take 3 rfl (Op1.move rfl) rfl rfl sT kR kR kR xQP ?_
        refine WPD.eff 2 kR rfl (OpE.call lO (fun w hw => y_In _ r k (nb es x) (Rd.at rD hw) (by omega))) rfl rfl ?_
        rintro r _ ⟨T, ⟨rfl, rfl⟩, rfl⟩
        rw [hd]
        refine ⟨sT, ?_⟩
        refine WPD.take 4 rfl (Op1.move rfl) rfl rfl sT kR kR kR xQP ?_
        first | refine WPD.splitD 67 rfl (fun h67 => ?t1) (fun h67 => ?f1) | refine WPD.split 67 rfl (fun h67 => ?t1) (fun h67 => ?f1)
        case' t1 =>
          refine WPD.take 5 rfl (by first | exact (Op1.load rfl mM (by rfl)) | exact (Op1.loadI rfl rD lT) | exact (Op1.loadAll rfl mM (by rfl)) | exact (Op1.loadE rfl rD lT (by rfl)) | exact (Op1.loadEAgg rfl rD lT (by rfl))) rfl rfl sT kR kR kR xQP ?_
          refine WPD.take 6 rfl (by first | exact (Op1.load rfl mM (by rfl)) | exact (Op1.loadI rfl rD lT) | exact (Op1.loadAll rfl mM (by rfl)) | exact (Op1.loadE rfl rD lT (by rfl)) | exact (Op1.loadEAgg rfl rD lT (by rfl))) rfl rfl sT kR kR kR xQP ?_
          refine WPD.eff 7 kR rfl (OpE.call lO (fun w hw => c_HasEdge _ n u es (mkE k x) (Rd.at rD hw) (by omega))) rfl rfl ?_
          rintro r _ ⟨T, ⟨rfl, rfl⟩, rfl⟩
          rw [e3]
          refine ⟨sT, ?_⟩
          refine WPD.take 8 rfl (by first | exact (Op1.pickT rfl rfl) | exact (Op1.pickF rfl rfl)) rfl rfl sT kR kR kR xQP ?_
          refine WPD.take 9 rfl (by first | exact (Op1.neI rfl rfl) | exact (Op1.neB rfl rfl) | exact (Op1.neE rfl rfl)) rfl rfl sT kR kR kR xQP ?_
          refine WPD.take 10 rfl (Op1.move rfl) rfl rfl sT kR kR kR xQP ?_
          first | refine WPD.splitD 73 rfl (fun h73 => ?t2) (fun h73 => ?f2) | refine WPD.split 73 rfl (fun h73 => ?t2) (fun h73 => ?f2)
          case' t2 =>
            refine WPD.skip 11 rfl rfl rfl sT kR kR kR xQP ?_
            refine WPD.skip 12 rfl rfl rfl sT kR kR kR xQP ?_
            refine WPD.skip 13 rfl rfl rfl sT kR kR kR xQP ?_
            refine WPD.skip 14 rfl rfl rfl sT kR kR kR xQP ?_
            refine WPD.skip 16 rfl rfl rfl sT kR kR kR xQP ?_
            refine WPD.skip 17 rfl rfl rfl sT kR kR kR xQP ?_
            refine WPD.skip 19 rfl rfl rfl sT kR kR kR xQP ?_
            refine WPD.skip 15 rfl rfl rfl sT kR kR kR xQP ?_
            refine WPD.skip 18 rfl rfl rfl sT kR kR kR xQP ?_
            refine WPD.skip 20 rfl rfl rfl sT kR kR kR xQP ?_
            refine WPD.skip 21 rfl rfl rfl sT kR kR kR xQP ?_
            refine WPD.skip 22 rfl rfl rfl sT kR kR kR xQP ?_
            refine WPD.eff 23 kR rfl (OpE.ofPure (by first | exact (Op1.pickT rfl rfl) | exact (Op1.pickF rfl rfl))) rfl rfl ?_
            rintro _ _ ⟨rfl, rfl⟩
            refine ⟨sT, ?_⟩
            refine WPD.done kR ?_
          case' f2 =>
            refine WPD.take 11 rfl (Op1.move rfl) rfl rfl sT kR kR kR xQP ?_
            refine WPD.take 12 rfl (Op1.move rfl) rfl rfl sT kR kR kR xQP ?_
            first | refine WPD.splitD 75 rfl (fun h75 => ?t3) (fun h75 => ?f3) | refine WPD.split 75 rfl (fun h75 => ?t3) (fun h75 => ?f3)
            case' t3 =>
              refine WPD.take 13 rfl (Op1.move rfl) rfl rfl sT kR kR kR xQP ?_
              refine WPD.take 14 rfl (Op1.move rfl) rfl rfl sT kR kR kR xQP ?_
              refine WPD.take 16 rfl (by first | exact (Op1.load rfl mM (by rfl)) | exact (Op1.loadI rfl rD lT) | exact (Op1.loadAll rfl mM (by rfl)) | exact (Op1.loadE rfl rD lT (by rfl)) | exact (Op1.loadEAgg rfl rD lT (by rfl))) rfl rfl sT kR kR kR xQP ?_
              refine WPD.take 17 rfl (Op1.move rfl) rfl rfl sT kR kR kR xQP ?_
              refine WPD.take 19 rfl (Op1.move rfl) rfl rfl sT kR kR kR xQP ?_
              refine WPD.eff 15 kR rfl (OpE.call lO (fun w hw => y_In _ r k (nb es x) (Rd.at rD hw) (by omega))) rfl rfl ?_
              rintro r _ ⟨T, ⟨rfl, rfl⟩, rfl⟩
              rw [hd]
              refine ⟨sT, ?_⟩
              refine WPD.eff 18 kR rfl (OpE.call lO (fun w hw => c_NeighborsOf _ n u es k (Rd.at rD hw) (by omega))) rfl rfl ?_
              rintro p _ ⟨T, rfl, rfl⟩
              rw [hnk]
              refine ⟨sT, ?_⟩
              refine WPD.eff 20 kR rfl (OpE.call lO (fun w hw => y_In _ p x (nb es k) (Rd.at rD hw) (by omega))) rfl rfl ?_
              rintro r _ ⟨T, ⟨rfl, rfl⟩, rfl⟩
              rw [e2]
              refine ⟨sT, ?_⟩
              refine WPD.eff 21 kR rfl (OpE.ofPure (by first | exact (Op1.neI rfl rfl) | exact (Op1.neB rfl rfl) | exact (Op1.neE rfl rfl))) rfl rfl ?_
              rintro _ _ ⟨rfl, rfl⟩
              refine ⟨sT, ?_⟩
              refine WPD.eff 22 kR rfl (OpE.ofPure (by first | exact (Op1.pickT rfl rfl) | exact (Op1.pickF rfl rfl))) rfl rfl ?_
              rintro _ _ ⟨rfl, rfl⟩
              refine ⟨sT, ?_⟩
              refine WPD.eff 23 kR rfl (OpE.ofPure (by first | exact (Op1.pickT rfl rfl) | exact (Op1.pickF rfl rfl))) rfl rfl ?_
              rintro _ _ ⟨rfl, rfl⟩
              refine ⟨sT, ?_⟩
              refine WPD.done kR ?_
            case' f3 =>
              refine WPD.skip 13 rfl rfl rfl sT kR kR kR xQP ?_
              refine WPD.skip 14 rfl rfl rfl sT kR kR kR xQP ?_
              refine WPD.skip 16 rfl rfl rfl sT kR kR kR xQP ?_
              refine WPD.skip 17 rfl rfl rfl sT kR kR kR xQP ?_
              refine WPD.skip 19 rfl rfl rfl sT kR kR kR xQP ?_
              refine WPD.skip 15 rfl rfl rfl sT kR kR kR xQP ?_
              refine WPD.skip 18 rfl rfl rfl sT kR kR kR xQP ?_
              refine WPD.skip 20 rfl rfl rfl sT kR kR kR xQP ?_
              refine WPD.skip 21 rfl rfl rfl sT kR kR kR xQP ?_
              refine WPD.eff 22 kR rfl (OpE.ofPure (by first | exact (Op1.pickT rfl rfl) | exact (Op1.pickF rfl rfl))) rfl rfl ?_
              rintro _ _ ⟨rfl, rfl⟩
              refine ⟨sT, ?_⟩
              refine WPD.eff 23 kR rfl (OpE.ofPure (by first | exact (Op1.pickT rfl rfl) | exact (Op1.pickF rfl rfl))) rfl rfl ?_
              rintro _ _ ⟨rfl, rfl⟩
              refine ⟨sT, ?_⟩
              refine WPD.done kR ?_
        case' f1 =>
          refine WPD.skip 5 rfl rfl rfl sT kR kR kR xQP ?_
          refine WPD.skip 6 rfl rfl rfl sT kR kR kR xQP ?_
          refine WPD.skip 7 rfl rfl rfl sT kR kR kR xQP ?_
          refine WPD.take 8 rfl (by first | exact (Op1.pickT rfl rfl) | exact (Op1.pickF rfl rfl)) rfl rfl sT kR kR kR xQP ?_
          refine WPD.take 9 rfl (by first | exact (Op1.neI rfl rfl) | exact (Op1.neB rfl rfl) | exact (Op1.neE rfl rfl)) rfl rfl sT kR kR kR xQP ?_
          refine WPD.take 10 rfl (Op1.move rfl) rfl rfl sT kR kR kR xQP ?_
          first | refine WPD.splitD 73 rfl (fun h73 => ?t4) (fun h73 => ?f4) | refine WPD.split 73 rfl (fun h73 => ?t4) (fun h73 => ?f4)
          case' t4 =>
            refine WPD.skip 11 rfl rfl rfl sT kR kR kR xQP ?_
            refine WPD.skip 12 rfl rfl rfl sT kR kR kR xQP ?_
            refine WPD.skip 13 rfl rfl rfl sT kR kR kR xQP ?_
            refine WPD.skip 14 rfl rfl rfl sT kR kR kR xQP ?_
            refine WPD.skip 16 rfl rfl rfl sT kR kR kR xQP ?_
            refine WPD.skip 17 rfl rfl rfl sT kR kR kR xQP ?_
            refine WPD.skip 19 rfl rfl rfl sT kR kR kR xQP ?_
            refine WPD.skip 15 rfl rfl rfl sT kR kR kR xQP ?_
            refine WPD.skip 18 rfl rfl rfl sT kR kR kR xQP ?_
            refine WPD.skip 20 rfl rfl rfl sT kR kR kR xQP ?_
            refine WPD.skip 21 rfl rfl rfl sT kR kR kR xQP ?_
            refine WPD.skip 22 rfl rfl rfl sT kR kR kR xQP ?_
            refine WPD.eff 23 kR rfl (OpE.ofPure (by first | exact (Op1.pickT rfl rfl) | exact (Op1.pickF rfl rfl))) rfl rfl ?_
            rintro _ _ ⟨rfl, rfl⟩
            refine ⟨sT, ?_⟩
            refine WPD.done kR ?_
          case' f4 =>
            refine WPD.take 11 rfl (Op1.move rfl) rfl rfl sT kR kR kR xQP ?_
            refine WPD.take 12 rfl (Op1.move rfl) rfl rfl sT kR kR kR xQP ?_
            first | refine WPD.splitD 75 rfl (fun h75 => ?t5) (fun h75 => ?f5) | refine WPD.split 75 rfl (fun h75 => ?t5) (fun h75 => ?f5)
            case' t5 =>
              refine WPD.take 13 rfl (Op1.move rfl) rfl rfl sT kR kR kR xQP ?_
              refine WPD.take 14 rfl (Op1.move rfl) rfl rfl sT kR kR kR xQP ?_
              refine WPD.take 16 rfl (by first | exact (Op1.load rfl mM (by rfl)) | exact (Op1.loadI rfl rD lT) | exact (Op1.loadAll rfl mM (by rfl)) | exact (Op1.loadE rfl rD lT (by rfl)) | exact (Op1.loadEAgg rfl rD lT (by rfl))) rfl rfl sT kR kR kR xQP ?_
              refine WPD.take 17 rfl (Op1.move rfl) rfl rfl sT kR kR kR xQP ?_
              refine WPD.take 19 rfl (Op1.move rfl) rfl rfl sT kR kR kR xQP ?_
              refine WPD.eff 15 kR rfl (OpE.call lO (fun w hw => y_In _ r k (nb es x) (Rd.at rD hw) (by omega))) rfl rfl ?_
              rintro r _ ⟨T, ⟨rfl, rfl⟩, rfl⟩
              rw [hd]
              refine ⟨sT, ?_⟩
              refine WPD.eff 18 kR rfl (OpE.call lO (fun w hw => c_NeighborsOf _ n u es k (Rd.at rD hw) (by omega))) rfl rfl ?_
              rintro p _ ⟨T, rfl, rfl⟩
              rw [hnk]
              refine ⟨sT, ?_⟩
              refine WPD.eff 20 kR rfl (OpE.call lO (fun w hw => y_In _ p x (nb es k) (Rd.at rD hw) (by omega))) rfl rfl ?_
              rintro r _ ⟨T, ⟨rfl, rfl⟩, rfl⟩
              rw [e2]
              refine ⟨sT, ?_⟩
              refine WPD.eff 21 kR rfl (OpE.ofPure (by first | exact (Op1.neI rfl rfl) | exact (Op1.neB rfl rfl) | exact (Op1.neE rfl rfl))) rfl rfl ?_
              rintro _ _ ⟨rfl, rfl⟩
              refine ⟨sT, ?_⟩
              refine WPD.eff 22 kR rfl (OpE.ofPure (by first | exact (Op1.pickT rfl rfl) | exact (Op1.pickF rfl rfl))) rfl rfl ?_
              rintro _ _ ⟨rfl, rfl⟩
              refine ⟨sT, ?_⟩
              refine WPD.eff 23 kR rfl (OpE.ofPure (by first | exact (Op1.pickT rfl rfl) | exact (Op1.pickF rfl rfl))) rfl rfl ?_
              rintro _ _ ⟨rfl, rfl⟩
              refine ⟨sT, ?_⟩
              refine WPD.done kR ?_
            case' f5 =>
              refine WPD.skip 13 rfl rfl rfl sT kR kR kR xQP ?_
              refine WPD.skip 14 rfl rfl rfl sT kR kR kR xQP ?_
              refine WPD.skip 16 rfl rfl rfl sT kR kR kR xQP ?_
              refine WPD.skip 17 rfl rfl rfl sT kR kR kR xQP ?_
              refine WPD.skip 19 rfl rfl rfl sT kR kR kR xQP ?_
              refine WPD.skip 15 rfl rfl rfl sT kR kR kR xQP ?_
              refine WPD.skip 18 rfl rfl rfl sT kR kR kR xQP ?_
              refine WPD.skip 20 rfl rfl rfl sT kR kR kR xQP ?_
              refine WPD.skip 21 rfl rfl rfl sT kR kR kR xQP ?_
              refine WPD.eff 22 kR rfl (OpE.ofPure (by first | exact (Op1.pickT rfl rfl) | exact (Op1.pickF rfl rfl))) rfl rfl ?_
              rintro _ _ ⟨rfl, rfl⟩
              refine ⟨sT, ?_⟩
              refine WPD.eff 23 kR rfl (OpE.ofPure (by first | exact (Op1.pickT rfl rfl) | exact (Op1.pickF rfl rfl))) rfl rfl ?_
              rintro _ _ ⟨rfl, rfl⟩
              refine ⟨sT, ?_⟩
              refine WPD.done kR ?_
        all_goals try (exfalso; first | exact absurd ‹true = false› (by decide) | exact absurd ‹false = true› (by decide))
        repeat' (first | exact absurd rfl hc | refine go ⟨?_⟩ | (refine isCond ?_; refine WP.condD rfl (fun hc => ?_) (fun hc => ?_)) | (refine isGuard ?_; refine WPL.splitD rfl rfl (fun hc => ?_) (fun hc => ?_)))
        refine PE.again (k + 1) ?_ ?_ sE sT2
        · (try dsimp only); omega
        · (try dsimp only); omega
      · rw [hd] at e2 e3
        refine WP.draw [Tok.blk b7 [.int .i64 (mkE k x).A, .int .i64 (mkE k x).B], Tok.own r (nb es x), Tok.blk bt [.int .i64 n, u], Tok.own u es] mixed ?_
        refine WPD.take 0 rfl (Op1.move rfl) rfl rfl sT kR kR kR xQP ?_
        refine WPD.take 1 rfl (Op1.move rfl) rfl rfl sT kR kR kR xQP ?_
        refine WPD.take 3 rfl (Op1.move rfl) rfl rfl sT kR kR kR xQP ?_
        refine WPD.eff 2 kR rfl (OpE.call lO (fun w hw => y_In _ r k (nb es x) (Rd.at rD hw) (by omega))) rfl rfl ?_
        rintro r _ ⟨T, ⟨rfl, rfl⟩, rfl⟩
        rw [hd]
        refine ⟨sT, ?_⟩
        refine WPD.take 4 rfl (Op1.move rfl) rfl rfl sT kR kR kR xQP ?_
        first | refine WPD.splitD 67 rfl (fun h67 => ?t6) (fun h67 => ?f6) | refine WPD.split 67 rfl (fun h67 => ?t6) (fun h67 => ?f6)
        case' t6 =>
          refine WPD.take 5 rfl (by first | exact (Op1.load rfl mM (by rfl)) | exact (Op1.loadI rfl rD lT) | exact (Op1.loadAll rfl mM (by rfl)) | exact (Op1.loadE rfl rD lT (by rfl)) | exact (Op1.loadEAgg rfl rD lT (by rfl))) rfl rfl sT kR kR kR xQP ?_
          refine WPD.take 6 rfl (by first | exact (Op1.load rfl mM (by rfl)) | exact (Op1.loadI rfl rD lT) | exact (Op1.loadAll rfl mM (by rfl)) | exact (Op1.loadE rfl rD lT (by rfl)) | exact (Op1.loadEAgg rfl rD lT (by rfl))) rfl rfl sT kR kR kR xQP ?_
          refine WPD.eff 7 kR rfl (OpE.call lO (fun w hw => c_HasEdge _ n u es (mkE k x) (Rd.at rD hw) (by omega))) rfl rfl ?_
          rintro r _ ⟨T, ⟨rfl, rfl⟩, rfl⟩
          rw [e3]
          refine ⟨sT, ?_⟩
          refine WPD.take 8 rfl (by first | exact (Op1.pickT rfl rfl) | exact (Op1.pickF rfl rfl)) rfl rfl sT kR kR kR xQP ?_
          refine WPD.take 9 rfl (by first | exact (Op1.neI rfl rfl) | exact (Op1.neB rfl rfl) | exact (Op1.neE rfl rfl)) rfl rfl sT kR kR kR xQP ?_
          refine WPD.take 10 rfl (Op1.move rfl) rfl rfl sT kR kR kR xQP ?_
          first | refine WPD.splitD 73 rfl (fun h73 => ?t7) (fun h73 => ?f7) | refine WPD.split 73 rfl (fun h73 => ?t7) (fun h73 => ?f7)
          case' t7 =>
            refine WPD.skip 11 rfl rfl rfl sT kR kR kR xQP ?_
            refine WPD.skip 12 rfl rfl rfl sT kR kR kR xQP ?_
            refine WPD.skip 13 rfl rfl rfl sT kR kR kR xQP ?_
            refine WPD.skip 14 rfl rfl rfl sT kR kR kR xQP ?_
            refine WPD.skip 16 rfl rfl rfl sT kR kR kR xQP ?_
            refine WPD.skip 17 rfl rfl rfl sT kR kR kR xQP ?_
            refine WPD.skip 19 rfl rfl rfl sT kR kR kR xQP ?_
            refine WPD.skip 15 rfl rfl rfl sT kR kR kR xQP ?_
            refine WPD.skip 18 rfl rfl rfl sT kR kR kR xQP ?_
            refine WPD.skip 20 rfl rfl rfl sT kR kR kR xQP ?_
            refine WPD.skip 21 rfl rfl rfl sT kR kR kR xQP ?_
            refine WPD.skip 22 rfl rfl rfl sT kR kR kR xQP ?_
            refine WPD.eff 23 kR rfl (OpE.ofPure (by first | exact (Op1.pickT rfl rfl) | exact (Op1.pickF rfl rfl))) rfl rfl ?_
            rintro _ _ ⟨rfl, rfl⟩
            refine ⟨sT, ?_⟩
            refine WPD.done kR ?_
          case' f7 =>
            refine WPD.take 11 rfl (Op1.move rfl) rfl rfl sT kR kR kR xQP ?_
            refine WPD.take 12 rfl (Op1.move rfl) rfl rfl sT kR kR kR xQP ?_
            first | refine WPD.splitD 75 rfl (fun h75 => ?t8) (fun h75 => ?f8) | refine WPD.split 75 rfl (fun h75 => ?t8) (fun h75 => ?f8)
            case' t8 =>
              refine WPD.take 13 rfl (Op1.move rfl) rfl rfl sT kR kR kR xQP ?_
              refine WPD.take 14 rfl (Op1.move rfl) rfl rfl sT kR kR kR xQP ?_
              refine WPD.take 16 rfl (by first | exact (Op1.load rfl mM (by rfl)) | exact (Op1.loadI rfl rD lT) | exact (Op1.loadAll rfl mM (by rfl)) | exact (Op1.loadE rfl rD lT (by rfl)) | exact (Op1.loadEAgg rfl rD lT (by rfl))) rfl rfl sT kR kR kR xQP ?_
              refine WPD.take 17 rfl (Op1.move rfl) rfl rfl sT kR kR kR xQP ?_
              refine WPD.take 19 rfl (Op1.move rfl) rfl rfl sT kR kR kR xQP ?_
              refine WPD.eff 15 kR rfl (OpE.call lO (fun w hw => y_In _ r k (nb es x) (Rd.at rD hw) (by omega))) rfl rfl ?_
              rintro r _ ⟨T, ⟨rfl, rfl⟩, rfl⟩
              rw [hd]
              refine ⟨sT, ?_⟩
              refine WPD.eff 18 kR rfl (OpE.call lO (fun w hw => c_NeighborsOf _ n u es k (Rd.at rD hw) (by omega))) rfl rfl ?_
              rintro p _ ⟨T, rfl, rfl⟩
              rw [hnk]
              refine ⟨sT, ?_⟩
              refine WPD.eff 20 kR rfl (OpE.call lO (fun w hw => y_In _ p x (nb es k) (Rd.at rD hw) (by omega))) rfl rfl ?_
              rintro r _ ⟨T, ⟨rfl, rfl⟩, rfl⟩
              rw [e2]
              refine ⟨sT, ?_⟩
              refine WPD.eff 21 kR rfl (OpE.ofPure (by first | exact (Op1.neI rfl rfl) | exact (Op1.neB rfl rfl) | exact (Op1.neE rfl rfl))) rfl rfl ?_
              rintro _ _ ⟨rfl, rfl⟩
              refine ⟨sT, ?_⟩
              refine WPD.eff 22 kR rfl (OpE.ofPure (by first | exact (Op1.pickT rfl rfl) | exact (Op1.pickF rfl rfl))) rfl rfl ?_
              rintro _ _ ⟨rfl, rfl⟩
              refine ⟨sT, ?_⟩
              refine WPD.eff 23 kR rfl (OpE.ofPure (by first | exact (Op1.pickT rfl rfl) | exact (Op1.pickF rfl rfl))) rfl rfl ?_
              rintro _ _ ⟨rfl, rfl⟩
              refine ⟨sT, ?_⟩
              refine WPD.done kR ?_
            case' f8 =>
              refine WPD.skip 13 rfl rfl rfl sT kR kR kR xQP ?_
              refine WPD.skip 14 rfl rfl rfl sT kR kR kR xQP ?_
              refine WPD.skip 16 rfl rfl rfl sT kR kR kR xQP ?_
              refine WPD.skip 17 rfl rfl rfl sT kR kR kR xQP ?_
              refine WPD.skip 19 rfl rfl rfl sT kR kR kR xQP ?_
              refine WPD.skip 15 rfl rfl rfl sT kR kR kR xQP ?_
              refine WPD.skip 18 rfl rfl rfl sT kR kR kR xQP ?_
              refine WPD.skip 20 rfl rfl rfl sT kR kR kR xQP ?_
              refine WPD.skip 21 rfl rfl rfl sT kR kR kR xQP ?_
              refine WPD.eff 22 kR rfl (OpE.ofPure (by first | exact (Op1.pickT rfl rfl) | exact (Op1.pickF rfl rfl))) rfl rfl ?_
              rintro _ _ ⟨rfl, rfl⟩
              refine ⟨sT, ?_⟩
              refine WPD.eff 23 kR rfl (OpE.ofPure (by first | exact (Op1.pickT rfl rfl) | exact (Op1.pickF rfl rfl))) rfl rfl ?_
              rintro _ _ ⟨rfl, rfl⟩
              refine ⟨sT, ?_⟩
              refine WPD.done kR ?_
        case' f6 =>
          refine WPD.skip 5 rfl rfl rfl sT kR kR kR xQP ?_
          refine WPD.skip 6 rfl rfl rfl sT kR kR kR xQP ?_
          refine WPD.skip 7 rfl rfl rfl sT kR kR kR xQP ?_
          refine WPD.take 8 rfl (by first | exact (Op1.pickT rfl rfl) | exact (Op1.pickF rfl rfl)) rfl rfl sT kR kR kR xQP ?_
          refine WPD.take 9 rfl (by first | exact (Op1.neI rfl rfl) | exact (Op1.neB rfl rfl) | exact (Op1.neE rfl rfl)) rfl rfl sT kR kR kR xQP ?_
          refine WPD.take 10 rfl (Op1.move rfl) rfl rfl sT kR kR kR xQP ?_
          first | refine WPD.splitD 73 rfl (fun h73 => ?t9) (fun h73 => ?f9) | refine WPD.split 73 rfl (fun h73 => ?t9) (fun h73 => ?f9)
          case' t9 =>
            refine WPD.skip 11 rfl rfl rfl sT kR kR kR xQP ?_
            refine WPD.skip 12 rfl rfl rfl sT kR kR kR xQP ?_
            refine WPD.skip 13 rfl rfl rfl sT kR kR kR xQP ?_
            refine WPD.skip 14 rfl rfl rfl sT kR kR kR xQP ?_
            refine WPD.skip 16 rfl rfl rfl sT kR kR kR xQP ?_
            refine WPD.skip 17 rfl rfl rfl sT kR kR kR xQP ?_
            refine WPD.skip 19 rfl rfl rfl sT kR kR kR xQP ?_
            refine WPD.skip 15 rfl rfl rfl sT kR kR kR xQP ?_
            refine WPD.skip 18 rfl rfl rfl sT kR kR kR xQP ?_
            refine WPD.skip 20 rfl rfl rfl sT kR kR kR xQP ?_
            refine WPD.skip 21 rfl rfl rfl sT kR kR kR xQP ?_
            refine WPD.skip 22 rfl rfl rfl sT kR kR kR xQP ?_
            refine WPD.eff 23 kR rfl (OpE.ofPure (by first | exact (Op1.pickT rfl rfl) | exact (Op1.pickF rfl rfl))) rfl rfl ?_
            rintro _ _ ⟨rfl, rfl⟩
            refine ⟨sT, ?_⟩
            refine WPD.done kR ?_
          case' f9 =>
            refine WPD.take 11 rfl (Op1.move rfl) rfl rfl sT kR kR kR xQP ?_
            refine WPD.take 12 rfl (Op1.move rfl) rfl rfl sT kR kR kR xQP ?_
            first | refine WPD.splitD 75 rfl (fun h75 => ?t10) (fun h75 => ?f10) | refine WPD.split 75 rfl (fun h75 => ?t10) (fun h75 => ?f10)
            case' t10 =>
              refine WPD.take 13 rfl (Op1.move rfl) rfl rfl sT kR kR kR xQP ?_
              refine WPD.take 14 rfl (Op1.move rfl) rfl rfl sT kR kR kR xQP ?_
              refine WPD.take 16 rfl (by first | exact (Op1.load rfl mM (by rfl)) | exact (Op1.loadI rfl rD lT) | exact (Op1.loadAll rfl mM (by rfl)) | exact (Op1.loadE rfl rD lT (by rfl)) | exact (Op1.loadEAgg rfl rD lT (by rfl))) rfl rfl sT kR kR kR xQP ?_
              refine WPD.take 17 rfl (Op1.move rfl) rfl rfl sT kR kR kR xQP ?_
              refine WPD.take 19 rfl (Op1.move rfl) rfl rfl sT kR kR kR xQP ?_
              refine WPD.eff 15 kR rfl (OpE.call lO (fun w hw => y_In _ r k (nb es x) (Rd.at rD hw) (by omega))) rfl rfl ?_
              rintro r _ ⟨T, ⟨rfl, rfl⟩, rfl⟩
              rw [hd]
              refine ⟨sT, ?_⟩
              refine WPD.eff 18 kR rfl (OpE.call lO (fun w hw => c_NeighborsOf _ n u es k (Rd.at rD hw) (by omega))) rfl rfl ?_
              rintro p _ ⟨T, rfl, rfl⟩
              rw [hnk]
              refine ⟨sT, ?_⟩
              refine WPD.eff 20 kR rfl (OpE.call lO (fun w hw => y_In _ p x (nb es k) (Rd.at rD hw) (by omega))) rfl rfl ?_
              rintro r _ ⟨T, ⟨rfl, rfl⟩, rfl⟩
              rw [e2]
              refine ⟨sT, ?_⟩
              refine WPD.eff 21 kR rfl (OpE.ofPure (by first | exact (Op1.neI rfl rfl) | exact (Op1.neB rfl rfl) | exact (Op1.neE rfl rfl))) rfl rfl ?_
              rintro _ _ ⟨rfl, rfl⟩
              refine ⟨sT, ?_⟩
              refine WPD.eff 22 kR rfl (OpE.ofPure (by first | exact (Op1.pickT rfl rfl) | exact (Op1.pickF rfl rfl))) rfl rfl ?_
              rintro _ _ ⟨rfl, rfl⟩
              refine ⟨sT, ?_⟩
              refine WPD.eff 23 kR rfl (OpE.ofPure (by first | exact (Op1.pickT rfl rfl) | exact (Op1.pickF rfl rfl))) rfl rfl ?_
              rintro _ _ ⟨rfl, rfl⟩
              refine ⟨sT, ?_⟩
              refine WPD.done kR ?_
            case' f10 =>
              refine WPD.skip 13 rfl rfl rfl sT kR kR kR xQP ?_
              refine WPD.skip 14 rfl rfl rfl sT kR kR kR xQP ?_
              refine WPD.skip 16 rfl rfl rfl sT kR kR kR xQP ?_
              refine WPD.skip 17 rfl rfl rfl sT kR kR kR xQP ?_
              refine WPD.skip 19 rfl rfl rfl sT kR kR kR xQP ?_
              refine WPD.skip 15 rfl rfl rfl sT kR kR kR xQP ?_
              refine WPD.skip 18 rfl rfl rfl sT kR kR kR xQP ?_
              refine WPD.skip 20 rfl rfl rfl sT kR kR kR xQP ?_
              refine WPD.skip 21 rfl rfl rfl sT kR kR kR xQP ?_
              refine WPD.eff 22 kR rfl (OpE.ofPure (by first | exact (Op1.pickT rfl rfl) | exact (Op1.pickF rfl rfl))) rfl rfl ?_
              rintro _ _ ⟨rfl, rfl⟩
              refine ⟨sT, ?_⟩
              refine WPD.eff 23 kR rfl (OpE.ofPure (by first | exact (Op1.pickT rfl rfl) | exact (Op1.pickF rfl rfl))) rfl rfl ?_
              rintro _ _ ⟨rfl, rfl⟩
              refine ⟨sT, ?_⟩
              refine WPD.done kR ?_
        all_goals try (exfalso; first | exact absurd ‹true = false› (by decide) | exact absurd ‹false = true› (by decide))
        repeat' (first | exact absurd rfl hc | refine go ⟨?_⟩ | (refine isCond ?_; refine WP.condD rfl (fun hc => ?_) (fun hc => ?_)) | (refine isGuard ?_; refine WPL.splitD rfl rfl (fun hc => ?_) (fun hc => ?_)))
        refine PE.again (k + 1) ?_ ?_ sE sT2
        · (try dsimp only); omega
        · (try dsimp only); omega
    · have hkx : (k : Int) = x := Classical.byContradiction fun h => hok ⟨h, ⟨by omega, by omega⟩, ⟨by omega, by omega⟩⟩
      have hd : decide ((k : Int) ∈ nb es x) = false := decide_eq_false fun h => (q1.1 h).1 hkx
      rw [hd] at e2
      try refine go ⟨?_⟩
      refine WPL.eff OpE.alloc rfl rfl ?_; rintro _ _ ⟨b7, rfl, rfl⟩
      try refine go ⟨?_⟩
      refine WP.draw [Tok.blk b7 [.int .i64 eD.A, .int .i64 eD.B], Tok.own r (nb es x), Tok.blk bt [.int .i64 n, u], Tok.own u es] mixed ?_
      refine WPD.take 0 rfl (Op1.move rfl) rfl rfl sT kR kR kR xQP ?_
      refine WPD.take 1 rfl (Op1.move rfl) rfl rfl sT kR kR kR xQP ?_
      refine WPD.take 3 rfl (Op1.move rfl) rfl rfl sT kR kR kR xQP ?_
      refine WPD.eff 2 kR rfl (OpE.call lO (fun w hw => y_In _ r k (nb es x) (Rd.at rD hw) (by omega))) rfl rfl ?_
      rintro r _ ⟨T, ⟨rfl, rfl⟩, rfl⟩
      rw [hd]
      refine ⟨sT, ?_⟩
      refine WPD.take 4 rfl (Op1.move rfl) rfl rfl sT kR kR kR xQP ?_
      first | refine WPD.splitD 67 rfl (fun h67 => ?t11) (fun h67 => ?f11) | refine WPD.split 67 rfl (fun h67 => ?t11) (fun h67 => ?f11)
      case' t11 =>
        refine WPD.take 5 rfl (by first | exact (Op1.load rfl mM (by rfl)) | exact (Op1.loadI rfl rD lT) | exact (Op1.loadAll rfl mM (by rfl)) | exact (Op1.loadE rfl rD lT (by rfl)) | exact (Op1.loadEAgg rfl rD lT (by rfl))) rfl rfl sT kR kR kR xQP ?_
        refine WPD.take 6 rfl (by first | exact (Op1.load rfl mM (by rfl)) | exact (Op1.loadI rfl rD lT) | exact (Op1.loadAll rfl mM (by rfl)) | exact (Op1.loadE rfl rD lT (by rfl)) | exact (Op1.loadEAgg rfl rD lT (by rfl))) rfl rfl sT kR kR kR xQP ?_
        refine WPD.eff 7 kR rfl (OpE.call lO (fun w hw => c_HasEdge _ n u es eD (Rd.at rD hw) (by omega))) rfl rfl ?_
        rintro r _ ⟨T, ⟨rfl, rfl⟩, rfl⟩
        refine ⟨sT, ?_⟩
        refine WPD.take 8 rfl (by first | exact (Op1.pickT rfl rfl) | exact (Op1.pickF rfl rfl)) rfl rfl sT kR kR kR xQP ?_
        refine WPD.take 9 rfl (by first | exact (Op1.neI rfl rfl) | exact (Op1.neB rfl rfl) | exact (Op1.neE rfl rfl)) rfl rfl sT kR kR kR xQP ?_
        refine WPD.take 10 rfl (Op1.move rfl) rfl rfl sT kR kR kR xQP ?_
        first | refine WPD.splitD 73 rfl (fun h73 => ?t12) (fun h73 => ?f12) | refine WPD.split 73 rfl (fun h73 => ?t12) (fun h73 => ?f12)
        case' t12 =>
          refine WPD.skip 11 rfl rfl rfl sT kR kR kR xQP ?_
          refine WPD.skip 12 rfl rfl rfl sT kR kR kR xQP ?_
          refine WPD.skip 13 rfl rfl rfl sT kR kR kR xQP ?_
          refine WPD.skip 14 rfl rfl rfl sT kR kR kR xQP ?_
          refine WPD.skip 16 rfl rfl rfl sT kR kR kR xQP ?_
          refine WPD.skip 17 rfl rfl rfl sT kR kR kR xQP ?_
          refine WPD.skip 19 rfl rfl rfl sT kR kR kR xQP ?_
          refine WPD.skip 15 rfl rfl rfl sT kR kR kR xQP ?_
          refine WPD.skip 18 rfl rfl rfl sT kR kR kR xQP ?_
          refine WPD.skip 20 rfl rfl rfl sT kR kR kR xQP ?_
          refine WPD.skip 21 rfl rfl rfl sT kR kR kR xQP ?_
          refine WPD.skip 22 rfl rfl rfl sT kR kR kR xQP ?_
          refine WPD.eff 23 kR rfl (OpE.ofPure (by first | exact (Op1.pickT rfl rfl) | exact (Op1.pickF rfl rfl))) rfl rfl ?_
          rintro _ _ ⟨rfl, rfl⟩
          refine ⟨sT, ?_⟩
          refine WPD.done kR ?_
        case' f12 =>
          refine WPD.take 11 rfl (Op1.move rfl) rfl rfl sT kR kR kR xQP ?_
          refine WPD.take 12 rfl (Op1.move rfl) rfl rfl sT kR kR kR xQP ?_
          first | refine WPD.splitD 75 rfl (fun h75 => ?t13) (fun h75 => ?f13) | refine WPD.split 75 rfl (fun h75 => ?t13) (fun h75 => ?f13)
          case' t13 =>
            refine WPD.take 13 rfl (Op1.move rfl) rfl rfl sT kR kR kR xQP ?_
            refine WPD.take 14 rfl (Op1.move rfl) rfl rfl sT kR kR kR xQP ?_
            refine WPD.take 16 rfl (by first | exact (Op1.load rfl mM (by rfl)) | exact (Op1.loadI rfl rD lT) | exact (Op1.loadAll rfl mM (by rfl)) | exact (Op1.loadE rfl rD lT (by rfl)) | exact (Op1.loadEAgg rfl rD lT (by rfl))) rfl rfl sT kR kR kR xQP ?_
            refine WPD.take 17 rfl (Op1.move rfl) rfl rfl sT kR kR kR xQP ?_
            refine WPD.take 19 rfl (Op1.move rfl) rfl rfl sT kR kR kR xQP ?_
            refine WPD.eff 15 kR rfl (OpE.call lO (fun w hw => y_In _ r k (nb es x) (Rd.at rD hw) (by omega))) rfl rfl ?_
            rintro r _ ⟨T, ⟨rfl, rfl⟩, rfl⟩
            rw [hd]
            refine ⟨sT, ?_⟩
            refine WPD.eff 18 kR rfl (OpE.call lO (fun w hw => c_NeighborsOf _ n u es k (Rd.at rD hw) (by omega))) rfl rfl ?_
            rintro p _ ⟨T, rfl, rfl⟩
            rw [hnk]
            refine ⟨sT, ?_⟩
            refine WPD.eff 20 kR rfl (OpE.call lO (fun w hw => y_In _ p x (nb es k) (Rd.at rD hw) (by omega))) rfl rfl ?_
            rintro r _ ⟨T, ⟨rfl, rfl⟩, rfl⟩
            rw [e2]
            refine ⟨sT, ?_⟩
            refine WPD.eff 21 kR rfl (OpE.ofPure (by first | exact (Op1.neI rfl rfl) | exact (Op1.neB rfl rfl) | exact (Op1.neE rfl rfl))) rfl rfl ?_
            rintro _ _ ⟨rfl, rfl⟩
            refine ⟨sT, ?_⟩
            refine WPD.eff 22 kR rfl (OpE.ofPure (by first | exact (Op1.pickT rfl rfl) | exact (Op1.pickF rfl rfl))) rfl rfl ?_
            rintro _ _ ⟨rfl, rfl⟩
            refine ⟨sT, ?_⟩
            refine WPD.eff 23 kR rfl (OpE.ofPure (by first | exact (Op1.pickT rfl rfl) | exact (Op1.pickF rfl rfl))) rfl rfl ?_
            rintro _ _ ⟨rfl, rfl⟩
            refine ⟨sT, ?_⟩
            refine WPD.done kR ?_
          case' f13 =>
            refine WPD.skip 13 rfl rfl rfl sT kR kR kR xQP ?_
            refine WPD.skip 14 rfl rfl rfl sT kR kR kR xQP ?_
            refine WPD.skip 16 rfl rfl rfl sT kR kR kR xQP ?_
            refine WPD.skip 17 rfl rfl rfl sT kR kR kR xQP ?_
            refine WPD.skip 19 rfl rfl rfl sT kR kR kR xQP ?_
            refine WPD.skip 15 rfl rfl rfl sT kR kR kR xQP ?_
            refine WPD.skip 18 rfl rfl rfl sT kR kR kR xQP ?_
            refine WPD.skip 20 rfl rfl rfl sT kR kR kR xQP ?_
            refine WPD.skip 21 rfl rfl rfl sT kR kR kR xQP ?_
            refine WPD.eff 22 kR rfl (OpE.ofPure (by first | exact (Op1.pickT rfl rfl) | exact (Op1.pickF rfl rfl))) rfl rfl ?_
            rintro _ _ ⟨rfl, rfl⟩
            refine ⟨sT, ?_⟩
            refine WPD.eff 23 kR rfl (OpE.ofPure (by first | exact (Op1.pickT rfl rfl) | exact (Op1.pickF rfl rfl))) rfl rfl ?_
            rintro _ _ ⟨rfl, rfl⟩
            refine ⟨sT, ?_⟩
            refine WPD.done kR ?_
      case' f11 =>
        refine WPD.skip 5 rfl rfl rfl sT kR kR kR xQP ?_
        refine WPD.skip 6 rfl rfl rfl sT kR kR kR xQP ?_
        refine WPD.skip 7 rfl rfl rfl sT kR kR kR xQP ?_
        refine WPD.take 8 rfl (by first | exact (Op1.pickT rfl rfl) | exact (Op1.pickF rfl rfl)) rfl rfl sT kR kR kR xQP ?_
        refine WPD.take 9 rfl (by first | exact (Op1.neI rfl rfl) | exact (Op1.neB rfl rfl) | exact (Op1.neE rfl rfl)) rfl rfl sT kR kR kR xQP ?_
        refine WPD.take 10 rfl (Op1.move rfl) rfl rfl sT kR kR kR xQP ?_
        first | refine WPD.splitD 73 rfl (fun h73 => ?t14) (fun h73 => ?f14) | refine WPD.split 73 rfl (fun h73 => ?t14) (fun h73 => ?f14)
        case' t14 =>
          refine WPD.skip 11 rfl rfl rfl sT kR kR kR xQP ?_
          refine WPD.skip 12 rfl rfl rfl sT kR kR kR xQP ?_
          refine WPD.skip 13 rfl rfl rfl sT kR kR kR xQP ?_
          refine WPD.skip 14 rfl rfl rfl sT kR kR kR xQP ?_
          refine WPD.skip 16 rfl rfl rfl sT kR kR kR xQP ?_
          refine WPD.skip 17 rfl rfl rfl sT kR kR kR xQP ?_
          refine WPD.skip 19 rfl rfl rfl sT kR kR kR xQP ?_
          refine WPD.skip 15 rfl rfl rfl sT kR kR kR xQP ?_
          refine WPD.skip 18 rfl rfl rfl sT kR kR kR xQP ?_
          refine WPD.skip 20 rfl rfl rfl sT kR kR kR xQP ?_
          refine WPD.skip 21 rfl rfl rfl sT kR kR kR xQP ?_
          refine WPD.skip 22 rfl rfl rfl sT kR kR kR xQP ?_
          refine WPD.eff 23 kR rfl (OpE.ofPure (by first | exact (Op1.pickT rfl rfl) | exact (Op1.pickF rfl rfl))) rfl rfl ?_
          rintro _ _ ⟨rfl, rfl⟩
          refine ⟨sT, ?_⟩
          refine WPD.done kR ?_
        case' f14 =>
          refine WPD.take 11 rfl (Op1.move rfl) rfl rfl sT kR kR kR xQP ?_
          refine WPD.take 12 rfl (Op1.move rfl) rfl rfl sT kR kR kR xQP ?_
          first | refine WPD.splitD 75 rfl (fun h75 => ?t15) (fun h75 => ?f15) | refine WPD.split 75 rfl (fun h75 => ?t15) (fun h75 => ?f15)
          case' t15 =>
            refine WPD.take 13 rfl (Op1.move rfl) rfl rfl sT kR kR kR xQP ?_
            refine WPD.take 14 rfl (Op1.move rfl) rfl rfl sT kR kR kR xQP ?_
            refine WPD.take 16 rfl (by first | exact (Op1.load rfl mM (by rfl)) | exact (Op1.loadI rfl rD lT) | exact (Op1.loadAll rfl mM (by rfl)) | exact (Op1.loadE rfl rD lT (by rfl)) | exact (Op1.loadEAgg rfl rD lT (by rfl))) rfl rfl sT kR kR kR xQP ?_
            refine WPD.take 17 rfl (Op1.move rfl) rfl rfl sT kR kR kR xQP ?_
            refine WPD.take 19 rfl (Op1.move rfl) rfl rfl sT kR kR kR xQP ?_
            refine WPD.eff 15 kR rfl (OpE.call lO (fun w hw => y_In _ r k (nb es x) (Rd.at rD hw) (by omega))) rfl rfl ?_
            rintro r _ ⟨T, ⟨rfl, rfl⟩, rfl⟩
            rw [hd]
            refine ⟨sT, ?_⟩
            refine WPD.eff 18 kR rfl (OpE.call lO (fun w hw => c_NeighborsOf _ n u es k (Rd.at rD hw) (by omega))) rfl rfl ?_
            rintro p _ ⟨T, rfl, rfl⟩
            rw [hnk]
            refine ⟨sT, ?_⟩
            refine WPD.eff 20 kR rfl (OpE.call lO (fun w hw => y_In _ p x (nb es k) (Rd.at rD hw) (by omega))) rfl rfl ?_
            rintro r _ ⟨T, ⟨rfl, rfl⟩, rfl⟩
            rw [e2]
            refine ⟨sT, ?_⟩
            refine WPD.eff 21 kR rfl (OpE.ofPure (by first | exact (Op1.neI rfl rfl) | exact (Op1.neB rfl rfl) | exact (Op1.neE rfl rfl))) rfl rfl ?_
            rintro _ _ ⟨rfl, rfl⟩
            refine ⟨sT, ?_⟩
            refine WPD.eff 22 kR rfl (OpE.ofPure (by first | exact (Op1.pickT rfl rfl) | exact (Op1.pickF rfl rfl))) rfl rfl ?_
            rintro _ _ ⟨rfl, rfl⟩
            refine ⟨sT, ?_⟩
            refine WPD.eff 23 kR rfl (OpE.ofPure (by first | exact (Op1.pickT rfl rfl) | exact (Op1.pickF rfl rfl))) rfl rfl ?_
            rintro _ _ ⟨rfl, rfl⟩
            refine ⟨sT, ?_⟩
            refine WPD.done kR ?_
          case' f15 =>
            refine WPD.skip 13 rfl rfl rfl sT kR kR kR xQP ?_
            refine WPD.skip 14 rfl rfl rfl sT kR kR kR xQP ?_
            refine WPD.skip 16 rfl rfl rfl sT kR kR kR xQP ?_
            refine WPD.skip 17 rfl rfl rfl sT kR kR kR xQP ?_
            refine WPD.skip 19 rfl rfl rfl sT kR kR kR xQP ?_
            refine WPD.skip 15 rfl rfl rfl sT kR kR kR xQP ?_
            refine WPD.skip 18 rfl rfl rfl sT kR kR kR xQP ?_
            refine WPD.skip 20 rfl rfl rfl sT kR kR kR xQP ?_
            refine WPD.skip 21 rfl rfl rfl sT kR kR kR xQP ?_
            refine WPD.eff 22 kR rfl (OpE.ofPure (by first | exact (Op1.pickT rfl rfl) | exact (Op1.pickF rfl rfl))) rfl rfl ?_
            rintro _ _ ⟨rfl, rfl⟩
            refine ⟨sT, ?_⟩
            refine WPD.eff 23 kR rfl (OpE.ofPure (by first | exact (Op1.pickT rfl rfl) | exact (Op1.pickF rfl rfl))) rfl rfl ?_
            rintro _ _ ⟨rfl, rfl⟩
            refine ⟨sT, ?_⟩
            refine WPD.done kR ?_
      all_goals try (exfalso; first | exact absurd ‹true = false› (by decide) | exact absurd ‹false = true› (by decide))
      repeat' (first | exact absurd rfl hc | refine go ⟨?_⟩ | (refine isCond ?_; refine WP.condD rfl (fun hc => ?_) (fun hc => ?_)) | (refine isGuard ?_; refine WPL.splitD rfl rfl (fun hc => ?_) (fun hc => ?_)))
      refine PE.again (k + 1) ?_ ?_ sE sT2
      · (try dsimp only); omega
      · (try dsimp only); omega
  repeat' (first | exact absurd rfl hc | refine go ⟨?_⟩ | (refine isCond ?_; refine WP.condD rfl (fun hc => ?_) (fun hc => ?_)) | (refine isGuard ?_; refine WPL.splitD rfl rfl (fun hc => ?_) (fun hc => ?_)))
  refine PE.ret1 (T := []) (T' := []) rfl rV ?_ sT
  rfl
end Go.Proofs.Ytmjljnhjamlonaa
/- The given statement FnNeighborsOfSaid, out of its walk (LNeighborsOf). Written by fin.py. No conditions. -/
namespace Go.Proofs.Ytmjljnhjamlonaa.ZfnNeighborsOf
open Go Go.ChangeShapes Go.WideShapes Go.ChangeAt Go.RowKit Go.Joins
theorem own : ownKnob Try.prog.godebug = none := by kernel_rfl
theorem laidOut : laidOutB Try.prog = true := by kernel_rfl
theorem cells5 : Try.prog.cellsOf 5 = 1 := by kernel_rfl
set_option maxRecDepth 100000 in
theorem lifted (os : Os) (started : os.Started) (H : Type) (enc : TypeId × Value → H) :
    ReturnsInHanded {} Try.checked os 16 .any (Rows.fnNeighborsOfSpec.pre6 enc Try.prog Try.f16 Rows.fnNeighborsOfRow.domain false) (Rows.fnNeighborsOfSpec.post enc Try.prog Try.f16 false true false false) := by
  refine returnsInHanded_of_change (C := Try.checked) own started (by kernel_rfl) Try.func16
    (ChangeSpec.witness6 (enc := enc) (C := Try.checked) false ⟨#[], #[.slice none 0 0], []⟩ 8 (by kernel_rfl) (by kernel_rfl) (by kernel_rfl) (by kernel_rfl)) ?_
  intro W base args ds gs before hval0 hW hcnd _
  have hval : ∀ (j : Nat) t v, Try.f16.params[j]? = some t → args[j]? = some v → Value.okWide Try.prog W .any base t v := hval0
  have hW' := hW
  obtain ⟨p, q, hA0, hV, rfl, hfz, hnd⟩ := hW
  have hA : DataW.TrodAll enc Try.prog W 0 (fun _ => true) true Try.f16.params.toList args.toList ds p := hA0
  rw [Try.params16] at hA hval
  obtain ⟨v0, vs0, d0, ds0, p0, q0, hargs, rfl, rfl, h0, r0⟩ := trodAll_cons hA
  obtain ⟨rfl, rfl, rfl⟩ := trodAll_nil r0
  obtain rfl : args = #[v0] := by cases args; simp_all
  obtain ⟨rfl, rfl⟩ := trodVars_none hV
  have k0 := h0
  have lt0 : ∀ x ∈ p0, x.block < W.heap.size := by obtain ⟨m, hm⟩ := k0; exact DataW.trod_lt m _ _ _ hm
  obtain ⟨xs0, rl0, ll0⟩ : ∃ xs : List UInt8, RL W v0 xs ∧ xs.length ≤ 9223372036854775807 := by
    have hv := hval 0 22 v0 rfl rfl
    simp only [Value.okWide, Try.underlying22] at hv
    obtain ⟨a, l, c, rfl⟩ := okWide_slice Try.underlying22 (hval 0 22 v0 rfl rfl)
    obtain ⟨m, hm⟩ := k0
    exact rl_bytes Try.underlying22 Try.underlying5 cells5 hv (by simpa [Value.cells] using hm)
  clear hA0 hval0
  refine (Tri.holds0 (v := .bool true) (l_NeighborsOf W v0 xs0 rl0 ll0) (fun _ _ h => h)).mono fun e W' ⟨he, bel⟩ => ?_
  subst he
  exact ⟨_, rfl, _, _, _, [], _, [], hW', trodAll_mk1 (shut_bool Try.underlying4 _), (trodAll_cons_mk (Below.trod laidOut (by kernel_rfl) (of_decide_eq_true (by kernel_rfl)) k0 bel lt0) trodAll_mk0), rfl, bel.frame _, fun h => by cases h⟩
theorem over : Rows.fnNeighborsOfRow.holds Try.pinned (OpenSpec.ofChange Rows.fnNeighborsOfSpec) :=
  OpenClaim.holds_of_wide 16 Try.f16 rfl rfl rfl rfl rfl rfl rfl ⟨rfl, rfl, rfl, rfl, rfl⟩ rfl rfl rfl rfl rfl (by kernel_rfl) Try.func16 (by unfold joinedFacts; rw [initMay, initLift, initMake]; kernel_rfl)
    (of_decide_eq_true (by kernel_rfl)) (by unfold Func.isWrapper; first | (rw [if_pos (by decide +kernel)]; kernel_rfl) | (rw [if_neg (by decide +kernel)]; exact ⟨rfl, rfl⟩))
    (fun os started H enc _ => lifted os started H enc)
/-- The statement. -/
theorem proved : Rows.FnNeighborsOfSaid := over
end Go.Proofs.Ytmjljnhjamlonaa.ZfnNeighborsOf
