/- The second program's drawn graphs. Conditions: those of each contract. -/
import Derived.Test.YthlgbeakcobeoaaRnd
import Derived.Test.YthlgbeakcobeoaaSpG3
namespace Go.Proofs.Ythlgbeakcobeoaa
open Go
theorem insP_len (es : List E) (e : E) : (insP es e).length = es.length + 1 := by
  have h := congrArg List.length (List.takeWhile_append_dropWhile (p := fun f => !decide (ltE e f)) (l := es))
  rw [List.length_append] at h
  unfold insP
  rw [List.length_append, List.length_cons]; omega
/-- Drawn values: new memory, and short. -/
def dG (r : Value) (T : List Tok) : Prop := ∃ v n, ∃ es : List E, r = .agg #[.int .i64 n, v] ∧ T = [Tok.own v es] ∧ es.length ≤ 60
def dGx (r : Value) (T : List Tok) : Prop := ∃ v n, ∃ es : List E, ∃ x : Int, r = .tuple #[.agg #[.int .i64 n, v], .int .i64 x] ∧ T = [Tok.own v es] ∧ es.length ≤ 60 ∧ n ≤ 17
def dGxy (r : Value) (T : List Tok) : Prop := ∃ v n, ∃ es : List E, ∃ x y : Int, r = .tuple #[.agg #[.int .i64 n, v], .int .i64 x, .int .i64 y] ∧ T = [Tok.own v es] ∧ es.length ≤ 60
def dGe (r : Value) (T : List Tok) : Prop := ∃ v n, ∃ es : List E, ∃ e : E, r = .tuple #[.agg #[.int .i64 n, v], ep e] ∧ T = [Tok.own v es] ∧ es.length ≤ 60
theorem s_FindI (w : World) (v : Value) (e : E) (es : List E) (h : RL w v es) (hl : es.length ≤ 1099511627776) :
    Tri Try.prog 135 [v, ep e] w [] fun r T => T = [] ∧ ∃ k : Int, r = .int .i64 k :=
  fun hn hh => (s_Find w v e es h hl hn hh).mono fun _ w' ⟨r, T, h1, h2, h3⟩ => ⟨r, T, h1, ⟨h2.1, by
    rcases h2.2 with ⟨_, n, _, rfl, _⟩ | ⟨_, rfl⟩
    · exact ⟨_, rfl⟩
    · exact ⟨_, rfl⟩⟩, h3⟩

set_option linter.unusedVariables false set_option linter.unusedSimpArgs false attribute [local irreducible] Tok.own Tok.blk RL Rd eptr WP WPL PE WPD WPO Op1 OpE Tri Again Mid Exit.then Exit.inBlock bodyPost RP Code.wp wpList isOwn OneM One
set_option maxHeartbeats 8000000

theorem g_Edge (w : World) (x y : Int) : Tri Try.prog 134 [.int .i64 x, .int .i64 y] w [] fun r T => T = [] ∧ ∃ e : E, r = ep e := by
  refine Tri.intro (hf := Try.func134) (hb := rfl) (hn := Try.ntmps134) (Nat.le_of_ble_eq_true rfl) ?_
  try refine go ⟨?_⟩
  refine WPL.eff OpE.alloc rfl rfl ?_; rintro _ _ ⟨b, rfl, rfl⟩
  repeat' (first | exact absurd rfl hc | refine go ⟨?_⟩ | (refine isCond ?_; refine WP.condD rfl (fun hc => ?_) (fun hc => ?_)) | (refine isGuard ?_; refine WPL.splitD rfl rfl (fun hc => ?_) (fun hc => ?_)))
  all_goals (refine PE.ret1 (T := []) (T' := []) rfl rV ?_ sT)
  · exact ⟨rfl, ⟨x, y⟩, rfl⟩
  · exact ⟨rfl, ⟨y, x⟩, rfl⟩

theorem g_Copy (w : World) (n : Int) (vE : Value) (es : List E) (hE : RL w vE es) (hl : es.length ≤ 1000000) :
    Tri Try.prog 136 [.agg #[.int .i64 n, vE]] w [] fun r T => ∃ v, r = .agg #[.int .i64 n, v] ∧ T = [Tok.own v es] := by
  refine Tri.intro (hf := Try.func136) (hb := rfl) (hn := Try.ntmps136) (Nat.le_of_ble_eq_true rfl) ?_
  try refine go ⟨?_⟩
  refine WPL.eff (OpE.box rfl) rfl rfl ?_; rintro _ _ ⟨b, rfl, rfl⟩
  refine WPL.eff OpE.alloc rfl rfl ?_; rintro _ _ ⟨b2, rfl, rfl⟩
  try refine go ⟨?_⟩
  refine WP.draw [Tok.blk b [.int .i64 n, vE]] mixed ?_
  refine WPD.take 0 rfl (by first | exact (Op1.fieldAddr rfl) | exact (Op1.fieldAddrE rfl rD lT)) rfl rfl sT kR kR kR xQP ?_
  refine WPD.take 3 rfl (by first | exact (Op1.fieldAddr rfl) | exact (Op1.fieldAddrE rfl rD lT)) rfl rfl sT kR kR kR xQP ?_
  refine WPD.take 1 rfl (by first | exact (Op1.load rfl mM (by rfl)) | exact (Op1.loadI rfl rD lT) | exact (Op1.loadAll rfl mM (by rfl)) | exact (Op1.loadE rfl rD lT (by rfl)) | exact (Op1.loadEAgg rfl rD lT (by rfl))) rfl rfl sT kR kR kR xQP ?_
  refine WPD.take 4 rfl (by first | exact (Op1.load rfl mM (by rfl)) | exact (Op1.loadI rfl rD lT) | exact (Op1.loadAll rfl mM (by rfl)) | exact (Op1.loadE rfl rD lT (by rfl)) | exact (Op1.loadEAgg rfl rD lT (by rfl))) rfl rfl sT kR kR kR xQP ?_
  refine WPD.eff 2 kR rfl (OpE.buildSlice (([] : List E)) pA rfl (by decide)) rfl rfl ?_
  rintro s _ rfl
  refine ⟨sT, ?_⟩
  refine WPD.eff 5 kR rfl (OpE.append rfl rfl pM rD lN) rfl rfl ?_
  rintro v _ rfl
  refine ⟨sT, ?_⟩
  refine WPD.eff 6 kR rfl (OpE.ofPure (Op1.build xBP (by rfl))) rfl rfl ?_
  rintro _ _ ⟨rfl, rfl⟩
  refine ⟨sT, ?_⟩
  refine WPD.eff0 7 kR rfl (OpE.storeAll rfl rfl pM (by rfl) (by rfl) oN) rfl ?_
  rintro _ _ rfl
  refine ⟨sT, ?_⟩
  refine WPD.done kR ?_
  all_goals (
    try refine go ⟨?_⟩
    refine PE.ret1 (T := []) (T' := [Tok.own v es]) rfl rV ?_ sT
    exact ⟨v, rfl, rfl⟩)

theorem g_Draw (w : World) (rb : Nat) (cv : Value) (bs : List UInt8) (h : RL w cv bs) (hd : ∀ b ∈ vfp cv, b ≠ rb) (hl : bs.length ≤ 2000) :
    Tri Try.prog 123 [ptrV rb] w [Tok.blk rb [cv, .int .i64 0]] fun r T => ∃ v n p, ∃ es : List E, r = .agg #[.int .i64 n, v] ∧ T = [Tok.own v es, Tok.blk rb [cv, .int .i64 p]] ∧ es.length ≤ 30 ∧ 1 ≤ n ∧ n ≤ 16 ∧ 0 ≤ p ∧ p ≤ 100 := by
  have hA : RdA ⟨65, w, fps [Tok.blk rb [cv, .int .i64 0]]⟩ cv bs := RdA.mk h (fun b hb => by
    have := hd b hb
    rw [fps_blk]; simpa using this)
  refine Tri.intro (hf := Try.func123) (hb := rfl) (hn := Try.ntmps123) (Nat.le_of_ble_eq_true rfl) ?_
  try refine goA ⟨?_⟩
  refine WPL.eff OpE.alloc rfl rfl ?_; rintro _ _ ⟨br, rfl, rfl⟩
  try refine goA ⟨?_⟩
  refine WPL.eff (OpE.buildSlice [6, 5, 7, 4, 8, 10, 3, 1, 16] pA rfl (by decide)) rfl rfl ?_; rintro s0 _ rfl
  try refine goA ⟨?_⟩
  refine WPL.eff (OpE.callT (T := [Tok.blk rb [cv, .int .i64 0]]) lO pM2 (fun w hw => d_num _ rb cv s0 bs [6, 5, 7, 4, 8, 10, 3, 1, 16] 0 (Rd.at rDA hw) hd (Rd.at rDA hw) (hw.own_ne pM mM) hl (by omega) (by decide))) rfl rfl ?_
  rintro r _ ⟨T, ⟨rfl, n, rfl, hn⟩, rfl⟩
  have hn1 : 1 ≤ n ∧ n ≤ 16 := by
    simp only [List.mem_cons, List.mem_nil_iff, or_false] at hn
    omega
  try refine goA ⟨?_⟩
  refine WPL.eff OpE.alloc rfl rfl ?_; rintro _ _ ⟨bo, rfl, rfl⟩
  try refine goA ⟨?_⟩
  refine WP.nilTok E ?_
  refine WP.loop (σ := Nat × Nat × Value × List E) (fun s => [(0, ptrV rb), (2, ptrV br), (3, ptrV bo), (4, .int .i64 s.1)])
    (fun s => [Tok.blk bo [.int .i64 n, s.2.2.1], Tok.own s.2.2.1 s.2.2.2, Tok.blk rb [cv, .int .i64 s.2.1], Tok.blk br [.int .i64 0, .slice none 0 0]])
    (fun s => 1 ≤ s.1 ∧ s.1 ≤ n ∧ s.2.1 ≤ 1 + 2 * s.1 ∧ s.2.2.2.length ≤ s.1) (fun s => n.toNat - s.1) (1, 1, .slice none 0 0, []) ⟨by decide, by dsimp only; omega, by decide, by decide⟩ sE sT2 ?_
  rintro ⟨i, q, v, es⟩ ⟨h1, h2, h3, h4⟩
  dsimp only at h1 h2 h3 h4 ⊢
  try refine goA ⟨?_⟩
  refine WP.condD rfl (fun hc => ?_) (fun hc => ?_)
  · have hi' : (i : Int) < n := hc
    try refine goA ⟨?_⟩
    refine WPL.eff (OpE.callT (T := [Tok.blk rb [cv, .int .i64 q]]) lO pM2 (fun w hw => d_pick _ rb cv bs q 4 (Rd.at rDA hw) hd hl (by omega) (by omega))) rfl rfl ?_
    rintro r _ ⟨T, ⟨rfl, k, rfl, k0, k1⟩, rfl⟩
    repeat' (first | exact absurd rfl hc | refine goA ⟨?_⟩ | (refine isCond ?_; refine WP.condD rfl (fun hc => ?_) (fun hc => ?_)) | (refine isGuard ?_; refine WPL.splitD rfl rfl (fun hc => ?_) (fun hc => ?_)))
    · refine WP.draw [Tok.own v es] mixed ?_
      refine WPD.take 0 rfl (by first | exact (Op1.fieldAddr rfl) | exact (Op1.fieldAddrE rfl rDA lT)) rfl rfl sT kR kR kR xQP ?_
      refine WPD.take 2 rfl (Op1.move rfl) rfl rfl sT kR kR kR xQP ?_
      refine WPD.take 3 rfl (Op1.move rfl) rfl rfl sT kR kR kR xQP ?_
      refine WPD.take 5 rfl (Op1.move rfl) rfl rfl sT kR kR kR xQP ?_
      refine WPD.two 1 4 kR ?e9_1 ?e9_4
      case' e9_1 =>
        refine WPO.eff rfl (OpE.ofPure (by first | exact (Op1.load rfl mM (by rfl)) | exact (Op1.loadI rfl rDA lT) | exact (Op1.loadAll rfl mM (by rfl)) | exact (Op1.loadE rfl rDA lT (by rfl)) | exact (Op1.loadEAgg rfl rDA lT (by rfl)))) rfl rfl ?_
        rintro _ _ ⟨eP, rfl⟩; have eP := eP.symm; subst eP
        refine ⟨sT, ?_⟩
        refine WPD.eff 4 kR rfl (OpE.callT (T := [Tok.blk rb [cv, .int .i64 ((q : Int) + 1)]]) lO pM2 (fun w hw => d_pick _ rb cv bs ((q : Int) + 1) i (Rd.at rDA hw) hd hl (by omega) (by omega))) rfl rfl ?_
        rintro r _ ⟨T, ⟨rfl, k2, rfl, _, _⟩, rfl⟩
        refine ⟨sT, ?_⟩
        refine WPD.eff 6 kR rfl (OpE.call lO (fun w hw => g_Edge _ k2 i)) rfl rfl ?_
        rintro r _ ⟨T, ⟨rfl, e, rfl⟩, rfl⟩
        refine ⟨sT, ?_⟩
        refine WPD.eff 7 kR rfl (OpE.call lO (fun w hw => s_Put _ v e es (Rd.at rDA hw) (by omega))) rfl rfl ?_
        rintro v1 _ ⟨T, rfl, rfl⟩
        refine ⟨sT, ?_⟩
        refine WPD.take 8 rfl (by first | exact (Op1.fieldAddr rfl) | exact (Op1.fieldAddrE rfl rDA lT)) rfl rfl sT kR kR kR xQP ?_
        refine WPD.eff0 9 kR rfl (OpE.store rfl rfl pM (by rfl) oN) rfl ?_
        rintro _ _ rfl
        refine ⟨sT, ?_⟩
        refine WPD.done kR ?_
      case' e9_4 =>
        refine WPO.eff rfl (OpE.callT (T := [Tok.blk rb [cv, .int .i64 ((q : Int) + 1)]]) lO pM2 (fun w hw => d_pick _ rb cv bs ((q : Int) + 1) i (Rd.at rDA hw) hd hl (by omega) (by omega))) rfl rfl ?_
        rintro r _ ⟨T, ⟨rfl, k2, rfl, _, _⟩, rfl⟩
        refine ⟨sT, ?_⟩
        refine WPD.two 1 6 kR ?e10_1 ?e10_6
        case' e10_1 =>
          refine WPO.eff rfl (OpE.ofPure (by first | exact (Op1.load rfl mM (by rfl)) | exact (Op1.loadI rfl rDA lT) | exact (Op1.loadAll rfl mM (by rfl)) | exact (Op1.loadE rfl rDA lT (by rfl)) | exact (Op1.loadEAgg rfl rDA lT (by rfl)))) rfl rfl ?_
          rintro _ _ ⟨eP, rfl⟩; have eP := eP.symm; subst eP
          refine ⟨sT, ?_⟩
          refine WPD.eff 6 kR rfl (OpE.call lO (fun w hw => g_Edge _ k2 i)) rfl rfl ?_
          rintro r _ ⟨T, ⟨rfl, e, rfl⟩, rfl⟩
          refine ⟨sT, ?_⟩
          refine WPD.eff 7 kR rfl (OpE.call lO (fun w hw => s_Put _ v e es (Rd.at rDA hw) (by omega))) rfl rfl ?_
          rintro v1 _ ⟨T, rfl, rfl⟩
          refine ⟨sT, ?_⟩
          refine WPD.take 8 rfl (by first | exact (Op1.fieldAddr rfl) | exact (Op1.fieldAddrE rfl rDA lT)) rfl rfl sT kR kR kR xQP ?_
          refine WPD.eff0 9 kR rfl (OpE.store rfl rfl pM (by rfl) oN) rfl ?_
          rintro _ _ rfl
          refine ⟨sT, ?_⟩
          refine WPD.done kR ?_
        case' e10_6 =>
          refine WPO.eff rfl (OpE.call lO (fun w hw => g_Edge _ k2 i)) rfl rfl ?_
          rintro r _ ⟨T, ⟨rfl, e, rfl⟩, rfl⟩
          refine ⟨sT, ?_⟩
          refine WPD.eff 1 kR rfl (OpE.ofPure (by first | exact (Op1.load rfl mM (by rfl)) | exact (Op1.loadI rfl rDA lT) | exact (Op1.loadAll rfl mM (by rfl)) | exact (Op1.loadE rfl rDA lT (by rfl)) | exact (Op1.loadEAgg rfl rDA lT (by rfl)))) rfl rfl ?_
          rintro _ _ ⟨eP, rfl⟩; have eP := eP.symm; subst eP
          refine ⟨sT, ?_⟩
          refine WPD.eff 7 kR rfl (OpE.call lO (fun w hw => s_Put _ v e es (Rd.at rDA hw) (by omega))) rfl rfl ?_
          rintro v1 _ ⟨T, rfl, rfl⟩
          refine ⟨sT, ?_⟩
          refine WPD.take 8 rfl (by first | exact (Op1.fieldAddr rfl) | exact (Op1.fieldAddrE rfl rDA lT)) rfl rfl sT kR kR kR xQP ?_
          refine WPD.eff0 9 kR rfl (OpE.store rfl rfl pM (by rfl) oN) rfl ?_
          rintro _ _ rfl
          refine ⟨sT, ?_⟩
          refine WPD.done kR ?_
      all_goals (
        try refine goA ⟨?_⟩
        have hil := insP_len es e
        refine PE.again (i + 1, q + 2, v1, insP es e) ?_ ?_ sE sT2
        · dsimp only; omega
        · dsimp only; omega)
    · refine PE.again (i + 1, q + 1, v, es) ?_ ?_ sE sT2
      · dsimp only; omega
      · dsimp only; omega
  have hin : (i : Int) = n := by omega
  try refine goA ⟨?_⟩
  refine WPL.eff (OpE.buildSlice [2, 1, 3, 0, 5, 8] pA rfl (by decide)) rfl rfl ?_; rintro s1 _ rfl
  try refine goA ⟨?_⟩
  refine WPL.eff (OpE.callT (T := [Tok.blk rb [cv, .int .i64 q]]) lO pM2 (fun w hw => d_num _ rb cv s1 bs [2, 1, 3, 0, 5, 8] q (Rd.at rDA hw) hd (Rd.at rDA hw) (hw.own_ne pM mM) hl (by omega) (by decide))) rfl rfl ?_
  rintro r _ ⟨T, ⟨rfl, m, rfl, hm⟩, rfl⟩
  have hm1 : 0 ≤ m ∧ m ≤ 8 := by
    simp only [List.mem_cons, List.mem_nil_iff, or_false] at hm
    omega
  obtain ⟨j, rfl⟩ := Int.eq_ofNat_of_zero_le hm1.1
  try refine goA ⟨?_⟩
  refine WP.loop (σ := Nat × Nat × Value × List E) (fun s => [(0, ptrV rb), (2, ptrV br), (3, ptrV bo), (5, .int .i64 s.1)])
    (fun s => [Tok.blk bo [.int .i64 n, s.2.2.1], Tok.own s.2.2.1 s.2.2.2, Tok.blk rb [cv, .int .i64 s.2.1], Tok.blk br [.int .i64 0, .slice none 0 0]])
    (fun s => s.1 ≤ 8 ∧ s.2.1 + 2 * s.1 ≤ 60 ∧ s.2.2.2.length + s.1 ≤ 30) (fun s => s.1) (j, q + 1, v, es) ⟨by dsimp only; omega, by dsimp only; omega, by dsimp only; omega⟩ sE sT2 ?_
  rintro ⟨j, q, v, es⟩ ⟨h1, h2, h3⟩
  dsimp only at h1 h2 h3 ⊢
  try refine goA ⟨?_⟩
  refine WP.condD rfl (fun hc => ?_) (fun hc => ?_)
  · have hj' : 0 < (j : Int) := hc
    have ej : (j : Int) - 1 = ((j - 1 : Nat) : Int) := by omega
    try refine goA ⟨?_⟩
    refine WPL.eff (OpE.callT (T := [Tok.blk rb [cv, .int .i64 q]]) lO pM2 (fun w hw => d_pick _ rb cv bs q n (Rd.at rDA hw) hd hl (by omega) (by omega))) rfl rfl ?_
    rintro r _ ⟨T, ⟨rfl, x, rfl, _, _⟩, rfl⟩
    try refine goA ⟨?_⟩
    refine WPL.eff (OpE.callT (T := [Tok.blk rb [cv, .int .i64 ((q : Int) + 1)]]) lO pM2 (fun w hw => d_pick _ rb cv bs ((q : Int) + 1) n (Rd.at rDA hw) hd hl (by omega) (by omega))) rfl rfl ?_
    rintro r _ ⟨T, ⟨rfl, y, rfl, _, _⟩, rfl⟩
    try refine goA ⟨?_⟩
    refine WP.draw [Tok.own v es, Tok.blk bo [.int .i64 n, v]] mixed ?_
    refine WPD.take 0 rfl (Op1.move rfl) rfl rfl sT kR kR kR xQP ?_
    refine WPD.take 1 rfl (Op1.move rfl) rfl rfl sT kR kR kR xQP ?_
    refine WPD.take 2 rfl (by first | exact (Op1.neI rfl rfl) | exact (Op1.neB rfl rfl) | exact (Op1.neE rfl rfl)) rfl rfl sT kR kR kR xQP ?_
    refine WPD.take 3 rfl (Op1.move rfl) rfl rfl sT kR kR kR xQP ?_
    first | refine WPD.splitD 48 rfl (fun h48 => ?t11) (fun h48 => ?f11) | refine WPD.split 48 rfl (fun h48 => ?t11) (fun h48 => ?f11)
    case' t11 =>
      refine WPD.take 4 rfl (by first | exact (Op1.fieldAddr rfl) | exact (Op1.fieldAddrE rfl rDA lT)) rfl rfl sT kR kR kR xQP ?_
      refine WPD.take 6 rfl (Op1.move rfl) rfl rfl sT kR kR kR xQP ?_
      refine WPD.take 7 rfl (Op1.move rfl) rfl rfl sT kR kR kR xQP ?_
      refine WPD.take 5 rfl (by first | exact (Op1.load rfl mM (by rfl)) | exact (Op1.loadI rfl rDA lT) | exact (Op1.loadAll rfl mM (by rfl)) | exact (Op1.loadE rfl rDA lT (by rfl)) | exact (Op1.loadEAgg rfl rDA lT (by rfl))) rfl rfl sT kR kR kR xQP ?_
      refine WPD.eff 8 kR rfl (OpE.call lO (fun w hw => g_Edge _ x y)) rfl rfl ?_
      rintro r _ ⟨T, ⟨rfl, e, rfl⟩, rfl⟩
      refine ⟨sT, ?_⟩
      refine WPD.eff 9 kR rfl (OpE.call lO (fun w hw => s_FindI _ v e es (Rd.at rDA hw) (by omega))) rfl rfl ?_
      rintro r _ ⟨T, ⟨rfl, k, rfl⟩, rfl⟩
      refine ⟨sT, ?_⟩
      refine WPD.take 10 rfl (Op1.ltI rfl rfl) rfl rfl sT kR kR kR xQP ?_
      refine WPD.take 11 rfl (by first | exact (Op1.pickT rfl rfl) | exact (Op1.pickF rfl rfl)) rfl rfl sT kR kR kR xQP ?_
      refine WPD.done kR ?_
    case' f11 =>
      refine WPD.skip 4 rfl rfl rfl sT kR kR kR xQP ?_
      refine WPD.skip 6 rfl rfl rfl sT kR kR kR xQP ?_
      refine WPD.skip 7 rfl rfl rfl sT kR kR kR xQP ?_
      refine WPD.skip 5 rfl rfl rfl sT kR kR kR xQP ?_
      refine WPD.skip 8 rfl rfl rfl sT kR kR kR xQP ?_
      refine WPD.skip 9 rfl rfl rfl sT kR kR kR xQP ?_
      refine WPD.skip 10 rfl rfl rfl sT kR kR kR xQP ?_
      refine WPD.take 11 rfl (by first | exact (Op1.pickT rfl rfl) | exact (Op1.pickF rfl rfl)) rfl rfl sT kR kR kR xQP ?_
      refine WPD.done kR ?_
    · try refine goA ⟨?_⟩
      rw [ej]
      refine PE.again (j - 1, q + 2, v, es) ?_ ?_ sE sT2
      · dsimp only; omega
      · dsimp only; omega
    · repeat' (first | exact absurd rfl hc | refine goA ⟨?_⟩ | (refine isCond ?_; refine WP.condD rfl (fun hc => ?_) (fun hc => ?_)) | (refine isGuard ?_; refine WPL.splitD rfl rfl (fun hc => ?_) (fun hc => ?_)))
      · refine WP.draw [Tok.own v es] mixed ?_
        refine WPD.take 0 rfl (by first | exact (Op1.fieldAddr rfl) | exact (Op1.fieldAddrE rfl rDA lT)) rfl rfl sT kR kR kR xQP ?_
        refine WPD.take 2 rfl (Op1.move rfl) rfl rfl sT kR kR kR xQP ?_
        refine WPD.take 3 rfl (Op1.move rfl) rfl rfl sT kR kR kR xQP ?_
        refine WPD.two 1 4 kR ?e12_1 ?e12_4
        case' e12_1 =>
          refine WPO.eff rfl (OpE.ofPure (by first | exact (Op1.load rfl mM (by rfl)) | exact (Op1.loadI rfl rDA lT) | exact (Op1.loadAll rfl mM (by rfl)) | exact (Op1.loadE rfl rDA lT (by rfl)) | exact (Op1.loadEAgg rfl rDA lT (by rfl)))) rfl rfl ?_
          rintro _ _ ⟨eP, rfl⟩; have eP := eP.symm; subst eP
          refine ⟨sT, ?_⟩
          refine WPD.eff 4 kR rfl (OpE.call lO (fun w hw => g_Edge _ x y)) rfl rfl ?_
          rintro r _ ⟨T, ⟨rfl, e2, rfl⟩, rfl⟩
          refine ⟨sT, ?_⟩
          refine WPD.eff 5 kR rfl (OpE.call lO (fun w hw => s_Put _ v e2 es (Rd.at rDA hw) (by omega))) rfl rfl ?_
          rintro v1 _ ⟨T, rfl, rfl⟩
          refine ⟨sT, ?_⟩
          refine WPD.take 6 rfl (by first | exact (Op1.fieldAddr rfl) | exact (Op1.fieldAddrE rfl rDA lT)) rfl rfl sT kR kR kR xQP ?_
          refine WPD.eff0 7 kR rfl (OpE.store rfl rfl pM (by rfl) oN) rfl ?_
          rintro _ _ rfl
          refine ⟨sT, ?_⟩
          refine WPD.done kR ?_
        case' e12_4 =>
          refine WPO.eff rfl (OpE.call lO (fun w hw => g_Edge _ x y)) rfl rfl ?_
          rintro r _ ⟨T, ⟨rfl, e2, rfl⟩, rfl⟩
          refine ⟨sT, ?_⟩
          refine WPD.eff 1 kR rfl (OpE.ofPure (by first | exact (Op1.load rfl mM (by rfl)) | exact (Op1.loadI rfl rDA lT) | exact (Op1.loadAll rfl mM (by rfl)) | exact (Op1.loadE rfl rDA lT (by rfl)) | exact (Op1.loadEAgg rfl rDA lT (by rfl)))) rfl rfl ?_
          rintro _ _ ⟨eP, rfl⟩; have eP := eP.symm; subst eP
          refine ⟨sT, ?_⟩
          refine WPD.eff 5 kR rfl (OpE.call lO (fun w hw => s_Put _ v e2 es (Rd.at rDA hw) (by omega))) rfl rfl ?_
          rintro v1 _ ⟨T, rfl, rfl⟩
          refine ⟨sT, ?_⟩
          refine WPD.take 6 rfl (by first | exact (Op1.fieldAddr rfl) | exact (Op1.fieldAddrE rfl rDA lT)) rfl rfl sT kR kR kR xQP ?_
          refine WPD.eff0 7 kR rfl (OpE.store rfl rfl pM (by rfl) oN) rfl ?_
          rintro _ _ rfl
          refine ⟨sT, ?_⟩
          refine WPD.done kR ?_
        all_goals (
          try refine goA ⟨?_⟩
          have hil := insP_len es e2
          rw [ej]
          refine PE.again (j - 1, q + 2, v1, insP es e2) ?_ ?_ sE sT2
          · dsimp only; omega
          · dsimp only; omega)
      · rw [ej]
        refine PE.again (j - 1, q + 2, v, es) ?_ ?_ sE sT2
        · dsimp only; omega
        · dsimp only; omega
  try refine goA ⟨?_⟩
  refine PE.ret1 (T := [Tok.blk rb [cv, .int .i64 0]]) (T' := [Tok.own v es, Tok.blk rb [cv, .int .i64 q]]) rfl rV ?_ sT2
  exact ⟨v, n, q, es, rfl, rfl, by omega, by omega, by omega, by omega, by omega⟩
end Go.Proofs.Ythlgbeakcobeoaa
