/- Graphs: the walk of PutEdge. Conditions: those of each contract. -/
import Derived.Test.YtocifflamgnhaaaGra4
namespace Go.Proofs.Ytocifflamgnhaaa
open Go
set_option linter.unusedVariables false set_option linter.unusedSimpArgs false attribute [local irreducible] Tok.own Tok.blk RL Rd eptr WP WPL PE WPD WPO Op1 OpE Tri Again Mid Exit.then Exit.inBlock bodyPost RP Code.wp wpList isOwn OneM One
set_option maxHeartbeats 8000000

def nilG : Value := .agg #[.int .i64 0, .slice none 0 0]
/-- A graph in new memory, and true. -/
def yesG (n : Int) (es : List E) (r : Value) (T : List Tok) : Prop := ∃ v, r = .tuple #[.agg #[.int .i64 n, v], .bool true] ∧ T = [Tok.own v es]
def noG (r : Value) (T : List Tok) : Prop := r = .tuple #[nilG, .bool false] ∧ T = []

theorem c_PutEdge (w : World) (n : Int) (vE : Value) (es : List E) (e : E) (hE : RL w vE es) (hl : es.length ≤ 1099511627776) :
    Tri Try.prog 67 [.agg #[.int .i64 n, vE], ep e] w [] fun r T => (putOk n es e ∧ yesG n (insE es e) r T) ∨ (¬ putOk n es e ∧ noG r T) := by
  refine Tri.intro (hf := Try.func67) (hb := rfl) (hn := Try.ntmps67) (Nat.le_of_ble_eq_true rfl) ?_
  try refine go ⟨?_⟩
  refine WPL.eff (OpE.box rfl) rfl rfl ?_; rintro _ _ ⟨b, rfl, rfl⟩
  try refine go ⟨?_⟩
  refine WPL.eff (OpE.box rfl) rfl rfl ?_; rintro _ _ ⟨b2, rfl, rfl⟩
  refine WPL.eff OpE.alloc rfl rfl ?_; rintro _ _ ⟨b4, rfl, rfl⟩
  try refine go ⟨?_⟩
  refine WPL.eff (OpE.call lO (fun w hw => c_GraphValid _ n vE es (Rd.at rD hw) hl)) rfl rfl ?_
  rintro r _ ⟨T, ⟨rfl, rfl⟩, rfl⟩
  repeat' (first | exact absurd rfl hc | refine go ⟨?_⟩ | (refine isCond ?_; refine WP.condD rfl (fun hc => ?_) (fun hc => ?_)) | (refine isGuard ?_; refine WPL.splitD rfl rfl (fun hc => ?_) (fun hc => ?_)))
  · refine PE.ret2 (T := []) (T' := []) rfl rV ?_ sT
    exact .inr ⟨fun h => hc h.1, rfl, rfl⟩
  have hg : GV n es := Decidable.not_not.1 hc
  refine WPL.eff (OpE.call lO (fun w hw => c_has _ n vE es e (Rd.at rD hw) hl)) rfl rfl ?_
  rintro r _ ⟨T, ⟨rfl, rfl⟩, rfl⟩
  repeat' (first | exact absurd rfl hc | refine go ⟨?_⟩ | (refine isCond ?_; refine WP.condD rfl (fun hc => ?_) (fun hc => ?_)) | (refine isGuard ?_; refine WPL.splitD rfl rfl (fun hc => ?_) (fun hc => ?_)))
  · refine PE.ret2 (T := []) (T' := []) rfl rV ?_ sT
    exact .inr ⟨fun h => h.2.1 hc, rfl, rfl⟩
  have hne : e ∉ es := hc
  have hle : es.length ≤ 1000 := hg.ne.le
  refine WPL.eff (OpE.call lO (fun w hw => c_BinE _ vE es e (Rd.at rD hw) hle hg.srt)) rfl rfl ?_
  rintro r _ ⟨T, ⟨rfl, k, bb, rfl, hk, hk1, hk2⟩, rfl⟩
  have hins := insE_at hk1 (fun h => hk2 k (Nat.le_refl _) h) hk
  have hil : (insE es e).length ≤ 1099511627776 := by rw [hins, List.length_append, List.length_take, List.length_cons, List.length_drop]; omega
  try refine go ⟨?_⟩
  refine WP.cutK (σ := Value × Nat) (fun s => [(4, .pointer (some ⟨b4, 0, none⟩)), (8, .pointer (some ⟨s.2, 0, none⟩))]) (fun s => [Tok.own s.1 (insE es e), Tok.blk s.2 [.int .i64 n, s.1], Tok.blk b4 [.int .i64 0, .slice none 0 0]]) (fun _ => True) ?_ ?_
  · refine WP.draw [Tok.blk b4 [.int .i64 0, .slice none 0 0], Tok.blk b2 [.int .i64 e.A, .int .i64 e.B], Tok.blk b [.int .i64 n, vE]] mixed ?_
    refine WPD.take 0 rfl (by first | exact (Op1.fieldAddr rfl) | exact (Op1.fieldAddrE rfl rD lT)) rfl rfl sT kR kR kR xQP ?_
    refine WPD.take 2 rfl (by first | exact (Op1.fieldAddr rfl) | exact (Op1.fieldAddrE rfl rD lT)) rfl rfl sT kR kR kR xQP ?_
    refine WPD.take 5 rfl (Op1.move rfl) rfl rfl sT kR kR kR xQP ?_
    refine WPD.take 6 rfl (by first | exact (Op1.load rfl mM (by rfl)) | exact (Op1.loadI rfl rD lT) | exact (Op1.loadAll rfl mM (by rfl)) | exact (Op1.loadE rfl rD lT (by rfl)) | exact (Op1.loadEAgg rfl rD lT (by rfl))) rfl rfl sT kR kR kR xQP ?_
    refine WPD.take 1 rfl (by first | exact (Op1.load rfl mM (by rfl)) | exact (Op1.loadI rfl rD lT) | exact (Op1.loadAll rfl mM (by rfl)) | exact (Op1.loadE rfl rD lT (by rfl)) | exact (Op1.loadEAgg rfl rD lT (by rfl))) rfl rfl sT kR kR kR xQP ?_
    refine WPD.take 3 rfl (by first | exact (Op1.load rfl mM (by rfl)) | exact (Op1.loadI rfl rD lT) | exact (Op1.loadAll rfl mM (by rfl)) | exact (Op1.loadE rfl rD lT (by rfl)) | exact (Op1.loadEAgg rfl rD lT (by rfl))) rfl rfl sT kR kR kR xQP ?_
    refine WPD.three 4 7 10 kR ?e2_4 ?e2_7 ?e2_10
    case' e2_4 =>
      refine WPO.eff rfl (OpE.call lO (fun w hw => c_CloneE _ vE es (Rd.at rD hw) hl)) rfl rfl ?_
      rintro cl _ ⟨T, rfl, rfl⟩
      refine ⟨sT, ?_⟩
      refine WPD.two 7 10 kR ?e3_7 ?e3_10
      case' e3_7 =>
        refine WPO.eff rfl (OpE.buildSlice ([e]) pA rfl (by decide)) rfl rfl ?_
        rintro s1 _ rfl
        refine ⟨sT, ?_⟩
        refine WPD.two 8 10 kR ?e4_8 ?e4_10
        case' e4_8 =>
          refine WPO.eff rfl (OpE.callT (T := [Tok.own cl es, Tok.own s1 [e]]) lO pM2 (fun w hw => c_InsertE _ cl s1 es k e hk hle)) rfl rfl ?_
          rintro v _ ⟨T, rfl, rfl⟩
          refine ⟨sT, ?_⟩
          refine WPD.two 9 10 kR ?e5_9 ?e5_10
          case' e5_9 =>
            refine WPO.eff rfl (OpE.ofPure (Op1.build xBP (by rfl))) rfl rfl ?_
            rintro _ _ ⟨rfl, rfl⟩
            refine ⟨sT, ?_⟩
            refine WPD.eff 10 kR rfl OpE.alloc rfl rfl ?_
            rintro _ _ ⟨bo, rfl, rfl⟩
            refine ⟨sT, ?_⟩
            refine WPD.eff0 11 kR rfl (OpE.storeAll rfl rfl pM (by rfl) (by rfl) oN) rfl ?_
            rintro _ _ rfl
            refine ⟨sT, ?_⟩
            refine WPD.done kR ?_
          case' e5_10 =>
            refine WPO.eff rfl OpE.alloc rfl rfl ?_
            rintro _ _ ⟨bo, rfl, rfl⟩
            refine ⟨sT, ?_⟩
            refine WPD.eff 9 kR rfl (OpE.ofPure (Op1.build xBP (by rfl))) rfl rfl ?_
            rintro _ _ ⟨rfl, rfl⟩
            refine ⟨sT, ?_⟩
            refine WPD.eff0 11 kR rfl (OpE.storeAll rfl rfl pM (by rfl) (by rfl) oN) rfl ?_
            rintro _ _ rfl
            refine ⟨sT, ?_⟩
            refine WPD.done kR ?_
        case' e4_10 =>
          refine WPO.eff rfl OpE.alloc rfl rfl ?_
          rintro _ _ ⟨bo, rfl, rfl⟩
          refine ⟨sT, ?_⟩
          refine WPD.eff 8 kR rfl (OpE.callT (T := [Tok.own cl es, Tok.own s1 [e]]) lO pM2 (fun w hw => c_InsertE _ cl s1 es k e hk hle)) rfl rfl ?_
          rintro v _ ⟨T, rfl, rfl⟩
          refine ⟨sT, ?_⟩
          refine WPD.eff 9 kR rfl (OpE.ofPure (Op1.build xBP (by rfl))) rfl rfl ?_
          rintro _ _ ⟨rfl, rfl⟩
          refine ⟨sT, ?_⟩
          refine WPD.eff0 11 kR rfl (OpE.storeAll rfl rfl pM (by rfl) (by rfl) oN) rfl ?_
          rintro _ _ rfl
          refine ⟨sT, ?_⟩
          refine WPD.done kR ?_
      case' e3_10 =>
        refine WPO.eff rfl OpE.alloc rfl rfl ?_
        rintro _ _ ⟨bo, rfl, rfl⟩
        refine ⟨sT, ?_⟩
        refine WPD.eff 7 kR rfl (OpE.buildSlice ([e]) pA rfl (by decide)) rfl rfl ?_
        rintro s1 _ rfl
        refine ⟨sT, ?_⟩
        refine WPD.eff 8 kR rfl (OpE.callT (T := [Tok.own cl es, Tok.own s1 [e]]) lO pM2 (fun w hw => c_InsertE _ cl s1 es k e hk hle)) rfl rfl ?_
        rintro v _ ⟨T, rfl, rfl⟩
        refine ⟨sT, ?_⟩
        refine WPD.eff 9 kR rfl (OpE.ofPure (Op1.build xBP (by rfl))) rfl rfl ?_
        rintro _ _ ⟨rfl, rfl⟩
        refine ⟨sT, ?_⟩
        refine WPD.eff0 11 kR rfl (OpE.storeAll rfl rfl pM (by rfl) (by rfl) oN) rfl ?_
        rintro _ _ rfl
        refine ⟨sT, ?_⟩
        refine WPD.done kR ?_
    case' e2_7 =>
      refine WPO.eff rfl (OpE.buildSlice ([e]) pA rfl (by decide)) rfl rfl ?_
      rintro s1 _ rfl
      refine ⟨sT, ?_⟩
      refine WPD.two 4 10 kR ?e6_4 ?e6_10
      case' e6_4 =>
        refine WPO.eff rfl (OpE.call lO (fun w hw => c_CloneE _ vE es (Rd.at rD hw) hl)) rfl rfl ?_
        rintro cl _ ⟨T, rfl, rfl⟩
        refine ⟨sT, ?_⟩
        refine WPD.two 8 10 kR ?e7_8 ?e7_10
        case' e7_8 =>
          refine WPO.eff rfl (OpE.callT (T := [Tok.own cl es, Tok.own s1 [e]]) lO pM2 (fun w hw => c_InsertE _ cl s1 es k e hk hle)) rfl rfl ?_
          rintro v _ ⟨T, rfl, rfl⟩
          refine ⟨sT, ?_⟩
          refine WPD.two 9 10 kR ?e8_9 ?e8_10
          case' e8_9 =>
            refine WPO.eff rfl (OpE.ofPure (Op1.build xBP (by rfl))) rfl rfl ?_
            rintro _ _ ⟨rfl, rfl⟩
            refine ⟨sT, ?_⟩
            refine WPD.eff 10 kR rfl OpE.alloc rfl rfl ?_
            rintro _ _ ⟨bo, rfl, rfl⟩
            refine ⟨sT, ?_⟩
            refine WPD.eff0 11 kR rfl (OpE.storeAll rfl rfl pM (by rfl) (by rfl) oN) rfl ?_
            rintro _ _ rfl
            refine ⟨sT, ?_⟩
            refine WPD.done kR ?_
          case' e8_10 =>
            refine WPO.eff rfl OpE.alloc rfl rfl ?_
            rintro _ _ ⟨bo, rfl, rfl⟩
            refine ⟨sT, ?_⟩
            refine WPD.eff 9 kR rfl (OpE.ofPure (Op1.build xBP (by rfl))) rfl rfl ?_
            rintro _ _ ⟨rfl, rfl⟩
            refine ⟨sT, ?_⟩
            refine WPD.eff0 11 kR rfl (OpE.storeAll rfl rfl pM (by rfl) (by rfl) oN) rfl ?_
            rintro _ _ rfl
            refine ⟨sT, ?_⟩
            refine WPD.done kR ?_
        case' e7_10 =>
          refine WPO.eff rfl OpE.alloc rfl rfl ?_
          rintro _ _ ⟨bo, rfl, rfl⟩
          refine ⟨sT, ?_⟩
          refine WPD.eff 8 kR rfl (OpE.callT (T := [Tok.own cl es, Tok.own s1 [e]]) lO pM2 (fun w hw => c_InsertE _ cl s1 es k e hk hle)) rfl rfl ?_
          rintro v _ ⟨T, rfl, rfl⟩
          refine ⟨sT, ?_⟩
          refine WPD.eff 9 kR rfl (OpE.ofPure (Op1.build xBP (by rfl))) rfl rfl ?_
          rintro _ _ ⟨rfl, rfl⟩
          refine ⟨sT, ?_⟩
          refine WPD.eff0 11 kR rfl (OpE.storeAll rfl rfl pM (by rfl) (by rfl) oN) rfl ?_
          rintro _ _ rfl
          refine ⟨sT, ?_⟩
          refine WPD.done kR ?_
      case' e6_10 =>
        refine WPO.eff rfl OpE.alloc rfl rfl ?_
        rintro _ _ ⟨bo, rfl, rfl⟩
        refine ⟨sT, ?_⟩
        refine WPD.eff 4 kR rfl (OpE.call lO (fun w hw => c_CloneE _ vE es (Rd.at rD hw) hl)) rfl rfl ?_
        rintro cl _ ⟨T, rfl, rfl⟩
        refine ⟨sT, ?_⟩
        refine WPD.eff 8 kR rfl (OpE.callT (T := [Tok.own cl es, Tok.own s1 [e]]) lO pM2 (fun w hw => c_InsertE _ cl s1 es k e hk hle)) rfl rfl ?_
        rintro v _ ⟨T, rfl, rfl⟩
        refine ⟨sT, ?_⟩
        refine WPD.eff 9 kR rfl (OpE.ofPure (Op1.build xBP (by rfl))) rfl rfl ?_
        rintro _ _ ⟨rfl, rfl⟩
        refine ⟨sT, ?_⟩
        refine WPD.eff0 11 kR rfl (OpE.storeAll rfl rfl pM (by rfl) (by rfl) oN) rfl ?_
        rintro _ _ rfl
        refine ⟨sT, ?_⟩
        refine WPD.done kR ?_
    case' e2_10 =>
      refine WPO.eff rfl OpE.alloc rfl rfl ?_
      rintro _ _ ⟨bo, rfl, rfl⟩
      refine ⟨sT, ?_⟩
      refine WPD.two 4 7 kR ?e9_4 ?e9_7
      case' e9_4 =>
        refine WPO.eff rfl (OpE.call lO (fun w hw => c_CloneE _ vE es (Rd.at rD hw) hl)) rfl rfl ?_
        rintro cl _ ⟨T, rfl, rfl⟩
        refine ⟨sT, ?_⟩
        refine WPD.eff 7 kR rfl (OpE.buildSlice ([e]) pA rfl (by decide)) rfl rfl ?_
        rintro s1 _ rfl
        refine ⟨sT, ?_⟩
        refine WPD.eff 8 kR rfl (OpE.callT (T := [Tok.own cl es, Tok.own s1 [e]]) lO pM2 (fun w hw => c_InsertE _ cl s1 es k e hk hle)) rfl rfl ?_
        rintro v _ ⟨T, rfl, rfl⟩
        refine ⟨sT, ?_⟩
        refine WPD.eff 9 kR rfl (OpE.ofPure (Op1.build xBP (by rfl))) rfl rfl ?_
        rintro _ _ ⟨rfl, rfl⟩
        refine ⟨sT, ?_⟩
        refine WPD.eff0 11 kR rfl (OpE.storeAll rfl rfl pM (by rfl) (by rfl) oN) rfl ?_
        rintro _ _ rfl
        refine ⟨sT, ?_⟩
        refine WPD.done kR ?_
      case' e9_7 =>
        refine WPO.eff rfl (OpE.buildSlice ([e]) pA rfl (by decide)) rfl rfl ?_
        rintro s1 _ rfl
        refine ⟨sT, ?_⟩
        refine WPD.eff 4 kR rfl (OpE.call lO (fun w hw => c_CloneE _ vE es (Rd.at rD hw) hl)) rfl rfl ?_
        rintro cl _ ⟨T, rfl, rfl⟩
        refine ⟨sT, ?_⟩
        refine WPD.eff 8 kR rfl (OpE.callT (T := [Tok.own cl es, Tok.own s1 [e]]) lO pM2 (fun w hw => c_InsertE _ cl s1 es k e hk hle)) rfl rfl ?_
        rintro v _ ⟨T, rfl, rfl⟩
        refine ⟨sT, ?_⟩
        refine WPD.eff 9 kR rfl (OpE.ofPure (Op1.build xBP (by rfl))) rfl rfl ?_
        rintro _ _ ⟨rfl, rfl⟩
        refine ⟨sT, ?_⟩
        refine WPD.eff0 11 kR rfl (OpE.storeAll rfl rfl pM (by rfl) (by rfl) oN) rfl ?_
        rintro _ _ rfl
        refine ⟨sT, ?_⟩
        refine WPD.done kR ?_
    all_goals (rw [← hins]; refine PE.mid (v, bo) trivial sE sT)
  rintro ⟨v, bo⟩ _
  dsimp only
  try refine go ⟨?_⟩
  refine WPL.eff (OpE.call lO (fun w hw => c_GraphValid _ n v (insE es e) (Rd.at rD hw) hil)) rfl rfl ?_
  rintro r _ ⟨T, ⟨rfl, rfl⟩, rfl⟩
  repeat' (first | exact absurd rfl hc | refine go ⟨?_⟩ | (refine isCond ?_; refine WP.condD rfl (fun hc => ?_) (fun hc => ?_)) | (refine isGuard ?_; refine WPL.splitD rfl rfl (fun hc => ?_) (fun hc => ?_)))
  · refine PE.ret2 (T := []) (T' := []) rfl rV ?_ sT
    exact .inr ⟨fun h => absurd h.2.2 ‹_›, rfl, rfl⟩
  · refine PE.ret2 (T := []) (T' := [Tok.own v (insE es e)]) rfl rV ?_ sT
    exact .inl ⟨⟨hg, hne, Decidable.not_not.1 ‹¬¬GV n (insE es e)›⟩, v, rfl, rfl⟩

end Go.Proofs.Ytocifflamgnhaaa
