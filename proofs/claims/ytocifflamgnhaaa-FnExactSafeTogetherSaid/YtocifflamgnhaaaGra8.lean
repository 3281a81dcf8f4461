/- Graphs: the walks of HasEdge, CutEdge, CutNode, isBridge, edgesBy, BridgesOf, safe parts, BridgesBetween. Conditions: those of each contract. -/
import Derived.Test.YtocifflamgnhaaaGra5
import Derived.Test.YtocifflamgnhaaaGra7
namespace Go.Proofs.Ytocifflamgnhaaa
open Go
theorem RL.inb {α : Type} [Enc α] {w : World} {v : Value} {xs : List α} (h : RL w v xs) : ∀ b ∈ vfp v, b < w.heap.size := rdAt_inb h
theorem blk_fp {b c : Nat} {cs : List Value} : b ∈ (Tok.blk c cs).fp ↔ b = c := by show b ∈ [c] ↔ b = c; simp
theorem NE.filter {n : Int} {es : List E} (h : NE n es) (p : E → Bool) : NE n (es.filter p) := ⟨h.n1, h.n2, h.ok.sub fun e he => (List.mem_filter.1 he).1, Nat.le_trans (List.length_filter_le _ _) h.le⟩
theorem NE.rem {n : Int} {es : List E} (h : NE n es) (e : E) : NE n (rem es e) := h.filter _
theorem NE.bare {n : Int} {es : List E} (h : NE n es) : NE n (bare n es) := h.filter _
theorem NE.alone {n : Int} {es : List E} (h : NE n es) (k : Int) : NE n (alone es k) := h.filter _
theorem filter_nn (es : List E) (p : E → Bool) : (es.filter fun e => !!p e) = es.filter p := by congr 1; funext e; simp
def HE (n : Int) (es : List E) (e : E) : Prop := GV n es ∧ e ∈ es
instance (n : Int) (es : List E) (e : E) : Decidable (HE n es e) := by unfold HE; infer_instance
set_option linter.unusedVariables false set_option linter.unusedSimpArgs false attribute [local irreducible] Tok.own Tok.blk RL Rd eptr WP WPL PE WPD WPO Op1 OpE Tri Again Mid Exit.then Exit.inBlock bodyPost RP Code.wp wpList isOwn OneM One
attribute [local irreducible] Pred
set_option maxHeartbeats 8000000

theorem c_HasEdge (w : World) (n : Int) (vE : Value) (es : List E) (e : E) (hE : RL w vE es) (hl : es.length ≤ 1099511627776) :
    Tri Try.prog 101 [.agg #[.int .i64 n, vE], ep e] w [] fun r T => r = .bool (decide (HE n es e)) ∧ T = [] := by
  refine Tri.intro (hf := Try.func101) (hb := rfl) (hn := Try.ntmps101) (Nat.le_of_ble_eq_true rfl) ?_
  try refine go ⟨?_⟩
  refine WPL.eff (OpE.box rfl) rfl rfl ?_; rintro _ _ ⟨b, rfl, rfl⟩
  try refine go ⟨?_⟩
  refine WPL.eff (OpE.box rfl) rfl rfl ?_; rintro _ _ ⟨b2, rfl, rfl⟩
  try refine go ⟨?_⟩
  refine WPL.eff (OpE.call lO (fun w hw => c_GraphValid _ n vE es (Rd.at rD hw) hl)) rfl rfl ?_
  rintro r _ ⟨T, ⟨rfl, rfl⟩, rfl⟩
  repeat' (first | exact absurd rfl hc | refine go ⟨?_⟩ | (refine isCond ?_; refine WP.condD rfl (fun hc => ?_) (fun hc => ?_)) | (refine isGuard ?_; refine WPL.splitD rfl rfl (fun hc => ?_) (fun hc => ?_)))
  · refine WPL.eff (OpE.call lO (fun w hw => c_has _ n vE es e (Rd.at rD hw) hl)) rfl rfl ?_
    rintro r _ ⟨T, ⟨rfl, rfl⟩, rfl⟩
    repeat' (first | exact absurd rfl hc | refine go ⟨?_⟩ | (refine isCond ?_; refine WP.condD rfl (fun hc => ?_) (fun hc => ?_)) | (refine isGuard ?_; refine WPL.splitD rfl rfl (fun hc => ?_) (fun hc => ?_)))
    refine PE.ret1 (T := []) (T' := []) rfl rV ?_ sT
    refine ⟨?_, rfl⟩
    congr 1; rw [decide_eq_decide]
    exact ⟨fun h => ⟨hc, h⟩, fun h => h.2⟩
  · refine PE.ret1 (T := []) (T' := []) rfl rV ?_ sT
    refine ⟨?_, rfl⟩
    rw [decide_eq_false]; exact fun h => hc h.1

theorem c_CutEdge (w : World) (n : Int) (vE : Value) (es : List E) (e : E) (hE : RL w vE es) (hl : es.length ≤ 1099511627776) :
    Tri Try.prog 55 [.agg #[.int .i64 n, vE], ep e] w [] fun r T => (HE n es e ∧ yesG n (rem es e) r T) ∨ (¬ HE n es e ∧ noG r T) := by
  refine Tri.intro (hf := Try.func55) (hb := rfl) (hn := Try.ntmps55) (Nat.le_of_ble_eq_true rfl) ?_
  try refine go ⟨?_⟩
  refine WPL.eff (OpE.box rfl) rfl rfl ?_; rintro _ _ ⟨b, rfl, rfl⟩
  try refine go ⟨?_⟩
  refine WPL.eff (OpE.box rfl) rfl rfl ?_; rintro _ _ ⟨b2, rfl, rfl⟩
  refine WPL.eff OpE.alloc rfl rfl ?_; rintro _ _ ⟨b4, rfl, rfl⟩
  try refine go ⟨?_⟩
  refine WPL.eff (OpE.call lO (fun w hw => c_HasEdge _ n vE es e (Rd.at rD hw) hl)) rfl rfl ?_
  rintro r _ ⟨T, ⟨rfl, rfl⟩, rfl⟩
  repeat' (first | exact absurd rfl hc | refine go ⟨?_⟩ | (refine isCond ?_; refine WP.condD rfl (fun hc => ?_) (fun hc => ?_)) | (refine isGuard ?_; refine WPL.splitD rfl rfl (fun hc => ?_) (fun hc => ?_)))
  · refine PE.ret2 (T := []) (T' := []) rfl rV ?_ sT
    exact .inr ⟨hc, rfl, rfl⟩
  · have hg : HE n es e := Decidable.not_not.1 hc
    refine WPL.eff (OpE.call lO (fun w hw => c_cut _ n vE es e (Rd.at rD hw) hg.1.ne.le)) rfl rfl ?_
    rintro r _ ⟨T, ⟨v, rfl, rfl⟩, rfl⟩
    repeat' (first | exact absurd rfl hc | refine go ⟨?_⟩ | (refine isCond ?_; refine WP.condD rfl (fun hc => ?_) (fun hc => ?_)) | (refine isGuard ?_; refine WPL.splitD rfl rfl (fun hc => ?_) (fun hc => ?_)))
    refine PE.ret2 (T := []) (T' := [Tok.own v (rem es e)]) rfl rV ?_ sT
    exact .inl ⟨hg, v, rfl, rfl⟩

theorem c_CutNode (w : World) (n : Int) (vE : Value) (es : List E) (k : Int) (hE : RL w vE es) (hl : es.length ≤ 1099511627776) :
    Tri Try.prog 26 [.agg #[.int .i64 n, vE], .int .i64 k] w [] fun r T => (GN n es k ∧ yesG n (alone es k) r T) ∨ (¬ GN n es k ∧ noG r T) := by
  refine Tri.intro (hf := Try.func26) (hb := rfl) (hn := Try.ntmps26) (Nat.le_of_ble_eq_true rfl) ?_
  try refine go ⟨?_⟩
  refine WPL.eff (OpE.box rfl) rfl rfl ?_; rintro _ _ ⟨b, rfl, rfl⟩
  refine WPL.eff OpE.alloc rfl rfl ?_; rintro _ _ ⟨b4, rfl, rfl⟩
  try refine go ⟨?_⟩
  refine WPL.eff (OpE.call lO (fun w hw => c_hasNodeG _ n vE es k (Rd.at rD hw) hl)) rfl rfl ?_
  rintro r _ ⟨T, ⟨rfl, rfl⟩, rfl⟩
  repeat' (first | exact absurd rfl hc | refine go ⟨?_⟩ | (refine isCond ?_; refine WP.condD rfl (fun hc => ?_) (fun hc => ?_)) | (refine isGuard ?_; refine WPL.splitD rfl rfl (fun hc => ?_) (fun hc => ?_)))
  · refine PE.ret2 (T := []) (T' := []) rfl rV ?_ sT
    exact .inr ⟨hc, rfl, rfl⟩
  · have hg : GN n es k := Decidable.not_not.1 hc
    refine WPL.eff (OpE.call lO (fun w hw => c_cutNode _ n vE es k (Rd.at rD hw) hg.1.ne.le)) rfl rfl ?_
    rintro r _ ⟨T, ⟨v, rfl, rfl⟩, rfl⟩
    repeat' (first | exact absurd rfl hc | refine go ⟨?_⟩ | (refine isCond ?_; refine WP.condD rfl (fun hc => ?_) (fun hc => ?_)) | (refine isGuard ?_; refine WPL.splitD rfl rfl (fun hc => ?_) (fun hc => ?_)))
    refine PE.ret2 (T := []) (T' := [Tok.own v (alone es k)]) rfl rV ?_ sT
    exact .inl ⟨hg, v, rfl, rfl⟩

theorem c_isBridge (w : World) (n : Int) (vE : Value) (es : List E) (e : E) (hE : RL w vE es) (hg : NE n es) (hA : Nd n e.A) (hB : Nd n e.B) :
    Tri Try.prog 110 [.agg #[.int .i64 n, vE], ep e] w [] fun r T => r = .bool (brB n es e) ∧ T = [] := by
  refine Tri.intro (hf := Try.func110) (hb := rfl) (hn := Try.ntmps110) (Nat.le_of_ble_eq_true rfl) ?_
  try refine go ⟨?_⟩
  refine WPL.eff (OpE.box rfl) rfl rfl ?_; rintro _ _ ⟨b, rfl, rfl⟩
  try refine go ⟨?_⟩
  refine WPL.eff (OpE.box rfl) rfl rfl ?_; rintro _ _ ⟨b2, rfl, rfl⟩
  try refine go ⟨?_⟩
  refine WP.draw [Tok.blk b2 [.int .i64 e.A, .int .i64 e.B], Tok.blk b [.int .i64 n, vE]] mixed ?_
  refine WPD.take 0 rfl (by first | exact (Op1.load rfl mM (by rfl)) | exact (Op1.loadI rfl rD lT) | exact (Op1.loadAll rfl mM (by rfl)) | exact (Op1.loadE rfl rD lT (by rfl)) | exact (Op1.loadEAgg rfl rD lT (by rfl))) rfl rfl sT kR kR kR xQP ?_
  refine WPD.take 1 rfl (by first | exact (Op1.load rfl mM (by rfl)) | exact (Op1.loadI rfl rD lT) | exact (Op1.loadAll rfl mM (by rfl)) | exact (Op1.loadE rfl rD lT (by rfl)) | exact (Op1.loadEAgg rfl rD lT (by rfl))) rfl rfl sT kR kR kR xQP ?_
  refine WPD.take 3 rfl (by first | exact (Op1.fieldAddr rfl) | exact (Op1.fieldAddrE rfl rD lT)) rfl rfl sT kR kR kR xQP ?_
  refine WPD.take 5 rfl (by first | exact (Op1.fieldAddr rfl) | exact (Op1.fieldAddrE rfl rD lT)) rfl rfl sT kR kR kR xQP ?_
  refine WPD.take 4 rfl (by first | exact (Op1.load rfl mM (by rfl)) | exact (Op1.loadI rfl rD lT) | exact (Op1.loadAll rfl mM (by rfl)) | exact (Op1.loadE rfl rD lT (by rfl)) | exact (Op1.loadEAgg rfl rD lT (by rfl))) rfl rfl sT kR kR kR xQP ?_
  refine WPD.take 6 rfl (by first | exact (Op1.load rfl mM (by rfl)) | exact (Op1.loadI rfl rD lT) | exact (Op1.loadAll rfl mM (by rfl)) | exact (Op1.loadE rfl rD lT (by rfl)) | exact (Op1.loadEAgg rfl rD lT (by rfl))) rfl rfl sT kR kR kR xQP ?_
  refine WPD.eff 2 kR rfl (OpE.call lO (fun w hw => c_cut _ n vE es e (Rd.at rD hw) hg.le)) rfl rfl ?_
  rintro r _ ⟨T, ⟨v, rfl, rfl⟩, rfl⟩
  refine ⟨sT, ?_⟩
  refine WPD.eff 7 kR rfl (OpE.call lO (fun w hw => c_connected _ n v (rem es e) e.A e.B (Rd.at rD hw) (hg.rem e) hA hB)) rfl rfl ?_
  rintro r _ ⟨T, ⟨rfl, rfl⟩, rfl⟩
  refine ⟨sT, ?_⟩
  refine WPD.take 8 rfl (by first | exact (Op1.notD rfl) | exact (Op1.not rfl)) rfl rfl sT kR kR kR xQP ?_
  refine WPD.eff 9 kR rfl (OpE.ofPure (Op1.assign rfl)) rfl rfl ?_
  rintro _ _ ⟨rfl, rfl⟩
  refine ⟨sT, ?_⟩
  refine WPD.done kR ?_
  try refine go ⟨?_⟩
  refine PE.ret1 (T := []) (T' := []) rfl rV ?_ sT
  refine ⟨?_, rfl⟩
  unfold brB
  rw [decide_not]

theorem c_IsBridge (w : World) (n : Int) (vE : Value) (es : List E) (e : E) (hE : RL w vE es) (hl : es.length ≤ 1099511627776) :
    Tri Try.prog 74 [.agg #[.int .i64 n, vE], ep e] w [] fun r T => r = .bool (decide (HE n es e) && brB n es e) ∧ T = [] := by
  refine Tri.intro (hf := Try.func74) (hb := rfl) (hn := Try.ntmps74) (Nat.le_of_ble_eq_true rfl) ?_
  try refine go ⟨?_⟩
  refine WPL.eff (OpE.box rfl) rfl rfl ?_; rintro _ _ ⟨b, rfl, rfl⟩
  try refine go ⟨?_⟩
  refine WPL.eff (OpE.box rfl) rfl rfl ?_; rintro _ _ ⟨b2, rfl, rfl⟩
  try refine go ⟨?_⟩
  refine WPL.eff (OpE.call lO (fun w hw => c_HasEdge _ n vE es e (Rd.at rD hw) hl)) rfl rfl ?_
  rintro r _ ⟨T, ⟨rfl, rfl⟩, rfl⟩
  repeat' (first | exact absurd rfl hc | refine go ⟨?_⟩ | (refine isCond ?_; refine WP.condD rfl (fun hc => ?_) (fun hc => ?_)) | (refine isGuard ?_; refine WPL.splitD rfl rfl (fun hc => ?_) (fun hc => ?_)))
  · have hg : HE n es e := hc
    refine WPL.eff (OpE.call lO (fun w hw => c_isBridge _ n vE es e (Rd.at rD hw) hg.1.ne (hg.1.nd hg.2).1 (hg.1.nd hg.2).2)) rfl rfl ?_
    rintro r _ ⟨T, ⟨rfl, rfl⟩, rfl⟩
    repeat' (first | exact absurd rfl hc | refine go ⟨?_⟩ | (refine isCond ?_; refine WP.condD rfl (fun hc => ?_) (fun hc => ?_)) | (refine isGuard ?_; refine WPL.splitD rfl rfl (fun hc => ?_) (fun hc => ?_)))
    refine PE.ret1 (T := []) (T' := []) rfl rV ?_ sT
    refine ⟨?_, rfl⟩
    rw [decide_eq_true hg, Bool.true_and]
  · refine PE.ret1 (T := []) (T' := []) rfl rV ?_ sT
    refine ⟨?_, rfl⟩
    rw [decide_eq_false hc, Bool.false_and]

theorem c_edgesBy1 (w : World) (b : Nat) (fv : Value) (T : List Tok) (p : E → Bool) (es : List E) (e : E) (he : e ∈ es) (hp : Pred Try.prog w (fps (Tok.blk b [fv] :: T)) fv T ep p es) :
    Tri Try.prog 124 [ep e, ptrV b] w (Tok.blk b [fv] :: T) fun r T' => r = .bool (!p e) ∧ T' = Tok.blk b [fv] :: T := by
  refine Tri.intro (hf := Try.func124) (hb := rfl) (hn := Try.ntmps124) (Nat.le_of_ble_eq_true rfl) ?_
  try refine go ⟨?_⟩
  refine WPL.eff (OpE.box rfl) rfl rfl ?_; rintro _ _ ⟨b2, rfl, rfl⟩
  try refine go ⟨?_⟩
  refine WPL.eff (OpE.callP (x := e) hp rfl rfl he rot2) rfl rfl ?_
  rintro _ _ ⟨rfl, rfl⟩
  refine WPL.perm rot2.symm ?_
  refine WPL.pure (Op1.not rfl) rfl rfl ?_
  try refine go ⟨?_⟩
  refine PE.ret1 (T := Tok.blk b [fv] :: T) (T' := Tok.blk b [fv] :: T) rfl rV ?_ (SubT.skip (SubT.refl _))
  exact ⟨rfl, rfl⟩

theorem c_edgesBy (w : World) (n : Int) (vE fv : Value) (es : List E) (T : List Tok) (p : E → Bool) (hE : RL w vE es) (hd : ∀ b ∈ vfp vE, b ∉ fps T) (hl : es.length ≤ 1000) (hp : Pred Try.prog w (fps T) fv T ep p es) :
    Tri Try.prog 93 [.agg #[.int .i64 n, vE], fv] w T fun r T' => T' = Tok.own r (es.filter p) :: T := by
  have hA : RdA ⟨9, w, fps T⟩ vE es := RdA.mk hE hd
  refine Tri.intro (hf := Try.func93) (hb := rfl) (hn := Try.ntmps93) (Nat.le_of_ble_eq_true rfl) ?_
  try refine goA ⟨?_⟩
  refine WPL.eff (OpE.box rfl) rfl rfl ?_; rintro _ _ ⟨b2, rfl, rfl⟩
  refine WPL.eff (OpE.boxI rfl hp.one) rfl rfl ?_
  rintro _ _ ⟨b3, rfl, rfl⟩
  try refine goA ⟨?_⟩
  refine WPL.pure (Op1.mkFn (bnd := []) (caps := [ptrV b3]) lO lO) rfl rfl ?_
  refine WPL.eff (OpE.callT (T := Tok.blk b3 [fv] :: T) lO (List.Perm.cons _ rot1) (fun w1 hw => c_without _ n vE (fV 124 [] [ptrV b3]) es (Tok.blk b3 [fv] :: T) (fun e => !p e) (Rd.at rDA hw) ?_ hl
    (Pred.mk [] [ptrV b3] fun w2 hw2 x hx => c_edgesBy1 w2 b3 fv T p es x hx ((hp.at hw (SubT.cons (SubT.skip (SubT.refl _)))).after hw2)))) rfl rfl ?_
  · intro b hb hm
    rw [fps_cons, List.mem_append] at hm
    rcases hm with hm | hm
    · have hbb : b = b3 := blk_fp.1 hm
      subst hbb
      have h1 : b < w.heap.size := hE.inb b hb
      rcases hw.base b (List.mem_flatMap.2 ⟨_, List.mem_cons_self, blk_fp.2 rfl⟩) with h2 | h2
      · exact hd b hb h2
      · have h2 : w.heap.size ≤ b := h2
        omega
    · exact hd b hb hm
  rintro r _ ⟨T', ⟨v, rfl, rfl⟩, rfl⟩
  rw [filter_nn]
  refine WPL.pure (Op1.fieldS 1 (by kernel_rfl) rfl rfl) rfl rfl ?_
  try refine goA ⟨?_⟩
  refine PE.ret1 (T := T) (T' := Tok.own v (es.filter p) :: T) rfl rV ?_ (SubT.cons (SubT.skip SubT.appL))
  rfl

theorem c_BridgesOf (w : World) (n : Int) (vE : Value) (es : List E) (hE : RL w vE es) (hl : es.length ≤ 1099511627776) :
    Tri Try.prog 70 [.agg #[.int .i64 n, vE]] w [] fun r T => (GV n es ∧ T = [Tok.own r (brs n es)]) ∨ (¬ GV n es ∧ r = .slice none 0 0 ∧ T = []) := by
  refine Tri.intro (hf := Try.func70) (hb := rfl) (hn := Try.ntmps70) (Nat.le_of_ble_eq_true rfl) ?_
  try refine go ⟨?_⟩
  refine WPL.eff (OpE.box rfl) rfl rfl ?_; rintro _ _ ⟨b, rfl, rfl⟩
  try refine go ⟨?_⟩
  refine WPL.eff (OpE.call lO (fun w hw => c_GraphValid _ n vE es (Rd.at rD hw) hl)) rfl rfl ?_
  rintro r _ ⟨T, ⟨rfl, rfl⟩, rfl⟩
  repeat' (first | exact absurd rfl hc | refine go ⟨?_⟩ | (refine isCond ?_; refine WP.condD rfl (fun hc => ?_) (fun hc => ?_)) | (refine isGuard ?_; refine WPL.splitD rfl rfl (fun hc => ?_) (fun hc => ?_)))
  · refine PE.ret1 (T := []) (T' := []) rfl rV ?_ sT
    exact .inr ⟨hc, rfl, rfl⟩
  · have hg : GV n es := Decidable.not_not.1 hc
    refine WPL.pure (Op1.mkFn (bnd := [.agg #[.int .i64 n, vE]]) (caps := []) lO lO) rfl rfl ?_
    refine WPL.eff (OpE.callT (T := []) lO pM (fun w hw => c_edgesBy _ n vE (fV 110 [.agg #[.int .i64 n, vE]] []) es [] (brB n es) (Rd.at rD hw) (fun _ _ h => by cases h) hg.ne.le (Pred.mk [.agg #[.int .i64 n, vE]] [] (fun w2 hw2 x hx => c_isBridge w2 n vE es x (hw2.rl (Rd.at rD hw) (fun _ _ h => by cases h)) hg.ne (hg.nd hx).1 (hg.nd hx).2)))) rfl rfl ?_
    rintro r _ ⟨T, rfl, rfl⟩
    repeat' (first | exact absurd rfl hc | refine go ⟨?_⟩ | (refine isCond ?_; refine WP.condD rfl (fun hc => ?_) (fun hc => ?_)) | (refine isGuard ?_; refine WPL.splitD rfl rfl (fun hc => ?_) (fun hc => ?_)))
    refine PE.ret1 (T := []) (T' := [Tok.own r (brs n es)]) rfl rV ?_ sT
    exact .inl ⟨hg, rfl⟩

theorem c_safeParts (w : World) (n : Int) (vE : Value) (es : List E) (hE : RL w vE es) (hg : NE n es) :
    Tri Try.prog 91 [.agg #[.int .i64 n, vE]] w [] fun r T => T = [Tok.own r (labs n (bare n es))] := by
  refine Tri.intro (hf := Try.func91) (hb := rfl) (hn := Try.ntmps91) (Nat.le_of_ble_eq_true rfl) ?_
  try refine go ⟨?_⟩
  refine WPL.eff (OpE.box rfl) rfl rfl ?_; rintro _ _ ⟨b, rfl, rfl⟩
  try refine go ⟨?_⟩
  refine WPL.pure (Op1.mkFn (bnd := [.agg #[.int .i64 n, vE]]) (caps := []) lO lO) rfl rfl ?_
  refine WPL.eff (OpE.callT (T := []) lO pM (fun w hw => c_without _ n vE (fV 110 [.agg #[.int .i64 n, vE]] []) es [] (brB n es) (Rd.at rD hw) (fun _ _ h => by cases h) hg.le (Pred.mk [.agg #[.int .i64 n, vE]] [] (fun w2 hw2 x hx => c_isBridge w2 n vE es x (hw2.rl (Rd.at rD hw) (fun _ _ h => by cases h)) hg (hg.ok x hx).1 (hg.ok x hx).2)))) rfl rfl ?_
  rintro r _ ⟨T, ⟨v, rfl, rfl⟩, rfl⟩
  refine WPL.eff (OpE.call lO (fun w hw => c_parts _ n v (bare n es) (Rd.at rD hw) hg.bare)) rfl rfl ?_
  rintro r _ ⟨T, rfl, rfl⟩
  try refine go ⟨?_⟩
  refine PE.ret1 (T := []) (T' := [Tok.own r (labs n (bare n es))]) rfl rV ?_ sT
  rfl
end Go.Proofs.Ytocifflamgnhaaa
