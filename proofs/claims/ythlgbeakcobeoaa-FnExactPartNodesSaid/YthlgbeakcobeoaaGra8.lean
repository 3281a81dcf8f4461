/- Graphs: the walks of HasEdge, CutEdge, CutNode, isBridge, edgesBy, BridgesOf, safe parts, BridgesBetween. Conditions: those of each contract. -/
import Derived.Test.YthlgbeakcobeoaaGra5
import Derived.Test.YthlgbeakcobeoaaGra7
namespace Go.Proofs.Ythlgbeakcobeoaa
open Go
theorem RL.inb {α : Type} [Enc α] {w : World} {v : Value} {xs : List α} (h : RL w v xs) : ∀ b ∈ vfp v, b < w.heap.size := rdAt_inb h
theorem blk_fp {b c : Nat} {cs : List Value} : b ∈ (Tok.blk c cs).fp ↔ b = c := by show b ∈ [c] ↔ b = c; simp
theorem NE.filter {n : Int} {es : List E} (h : NE n es) (p : E → Bool) : NE n (es.filter p) := ⟨h.n1, h.n2, h.ok.sub fun e he => (List.mem_filter.1 he).1, Nat.le_trans (List.length_filter_le _ _) h.le⟩
theorem NE.rem {n : Int} {es : List E} (h : NE n es) (e : E) : NE n (rem es e) := h.filter _
theorem NE.bare {n : Int} {es : List E} (h : NE n es) : NE n (bare n es) := h.filter _
theorem NE.alone {n : Int} {es : List E} (h : NE n es) (k : Int) : NE n (alone es k) := h.filter _
theorem filter_nn (es : List E) (p : E → Bool) : (es.filter fun e => !!p e) = es.filter p := by congr 1; funext e; simp
def HE (n : Int) (es : List E) (e : E) : Prop := GV n es ∧ e ∈ es
instance (n : Int) (es : List E) (e : E) : Decidable (HE n es e) := by unfold HE; infer_instance
set_option linter.unusedVariables false set_option linter.unusedSimpArgs false attribute [local irreducible] Tok.own Tok.blk RL Rd eptr WP WPL PE WPD WPO Op1 OpE Tri Again Mid Exit.then Exit.inBlock bodyPost RP Code.wp wpList isOwn OneM One
attribute [local irreducible] Pred
set_option maxHeartbeats 8000000

theorem c_CutNode (w : World) (n : Int) (vE : Value) (es : List E) (k : Int) (hE : RL w vE es) (hl : es.length ≤ 1099511627776) :
    Tri Try.prog 37 [.agg #[.int .i64 n, vE], .int .i64 k] w [] fun r T => (GN n es k ∧ yesG n (alone es k) r T) ∨ (¬ GN n es k ∧ noG r T) := by
  refine Tri.intro (hf := Try.func37) (hb := rfl) (hn := Try.ntmps37) (Nat.le_of_ble_eq_true rfl) ?_
  try refine go ⟨?_⟩
  refine WPL.eff (OpE.box rfl) rfl rfl ?_; rintro _ _ ⟨b, rfl, rfl⟩
  refine WPL.eff OpE.alloc rfl rfl ?_; rintro _ _ ⟨b4, rfl, rfl⟩
  try refine go ⟨?_⟩
  refine WPL.eff (OpE.call lO (fun w hw => c_hasNodeG _ n vE es k (Rd.at rD hw) hl)) rfl rfl ?_
  rintro r _ ⟨T, ⟨rfl, rfl⟩, rfl⟩
  repeat' (first | exact absurd rfl hc | refine go ⟨?_⟩ | (refine isCond ?_; refine WP.condD rfl (fun hc => ?_) (fun hc => ?_)) | (refine isGuard ?_; refine WPL.splitD rfl rfl (fun hc => ?_) (fun hc => ?_)))
  · refine PE.ret2 (T := []) (T' := []) rfl rV ?_ sT
    exact .inr ⟨hc, rfl, rfl⟩
  · have hg : GN n es k := Decidable.not_not.1 hc
    refine WPL.eff (OpE.call lO (fun w hw => c_cutNode _ n vE es k (Rd.at rD hw) hg.1.ne.le)) rfl rfl ?_
    rintro r _ ⟨T, ⟨v, rfl, rfl⟩, rfl⟩
    repeat' (first | exact absurd rfl hc | refine go ⟨?_⟩ | (refine isCond ?_; refine WP.condD rfl (fun hc => ?_) (fun hc => ?_)) | (refine isGuard ?_; refine WPL.splitD rfl rfl (fun hc => ?_) (fun hc => ?_)))
    refine PE.ret2 (T := []) (T' := [Tok.own v (alone es k)]) rfl rV ?_ sT
    exact .inl ⟨hg, v, rfl, rfl⟩

theorem c_edgesBy1 (w : World) (b : Nat) (fv : Value) (T : List Tok) (p : E → Bool) (es : List E) (e : E) (he : e ∈ es) (hp : Pred Try.prog w (fps (Tok.blk b [fv] :: T)) fv T ep p es) :
    Tri Try.prog 115 [ep e, ptrV b] w (Tok.blk b [fv] :: T) fun r T' => r = .bool (!p e) ∧ T' = Tok.blk b [fv] :: T := by
  refine Tri.intro (hf := Try.func115) (hb := rfl) (hn := Try.ntmps115) (Nat.le_of_ble_eq_true rfl) ?_
  try refine go ⟨?_⟩
  refine WPL.eff (OpE.box rfl) rfl rfl ?_; rintro _ _ ⟨b2, rfl, rfl⟩
  try refine go ⟨?_⟩
  refine WPL.eff (OpE.callP (x := e) hp rfl rfl he rot2) rfl rfl ?_
  rintro _ _ ⟨rfl, rfl⟩
  refine WPL.perm rot2.symm ?_
  refine WPL.pure (Op1.not rfl) rfl rfl ?_
  try refine go ⟨?_⟩
  refine PE.ret1 (T := Tok.blk b [fv] :: T) (T' := Tok.blk b [fv] :: T) rfl rV ?_ (SubT.skip (SubT.refl _))
  exact ⟨rfl, rfl⟩

theorem c_edgesBy (w : World) (n : Int) (vE fv : Value) (es : List E) (T : List Tok) (p : E → Bool) (hE : RL w vE es) (hd : ∀ b ∈ vfp vE, b ∉ fps T) (hl : es.length ≤ 1000) (hp : Pred Try.prog w (fps T) fv T ep p es) :
    Tri Try.prog 82 [.agg #[.int .i64 n, vE], fv] w T fun r T' => T' = Tok.own r (es.filter p) :: T := by
  have hA : RdA ⟨9, w, fps T⟩ vE es := RdA.mk hE hd
  refine Tri.intro (hf := Try.func82) (hb := rfl) (hn := Try.ntmps82) (Nat.le_of_ble_eq_true rfl) ?_
  try refine goA ⟨?_⟩
  refine WPL.eff (OpE.box rfl) rfl rfl ?_; rintro _ _ ⟨b2, rfl, rfl⟩
  refine WPL.eff (OpE.boxI rfl hp.one) rfl rfl ?_
  rintro _ _ ⟨b3, rfl, rfl⟩
  try refine goA ⟨?_⟩
  refine WPL.pure (Op1.mkFn (bnd := []) (caps := [ptrV b3]) lO lO) rfl rfl ?_
  refine WPL.eff (OpE.callT (T := Tok.blk b3 [fv] :: T) lO (List.Perm.cons _ rot1) (fun w1 hw => c_without _ n vE (fV 115 [] [ptrV b3]) es (Tok.blk b3 [fv] :: T) (fun e => !p e) (Rd.at rDA hw) ?_ hl
    (Pred.mk [] [ptrV b3] fun w2 hw2 x hx => c_edgesBy1 w2 b3 fv T p es x hx ((hp.at hw (SubT.cons (SubT.skip (SubT.refl _)))).after hw2)))) rfl rfl ?_
  · intro b hb hm
    rw [fps_cons, List.mem_append] at hm
    rcases hm with hm | hm
    · have hbb : b = b3 := blk_fp.1 hm
      subst hbb
      have h1 : b < w.heap.size := hE.inb b hb
      rcases hw.base b (List.mem_flatMap.2 ⟨_, List.mem_cons_self, blk_fp.2 rfl⟩) with h2 | h2
      · exact hd b hb h2
      · have h2 : w.heap.size ≤ b := h2
        omega
    · exact hd b hb hm
  rintro r _ ⟨T', ⟨v, rfl, rfl⟩, rfl⟩
  rw [filter_nn]
  refine WPL.pure (Op1.fieldS 1 (by kernel_rfl) rfl rfl) rfl rfl ?_
  try refine goA ⟨?_⟩
  refine PE.ret1 (T := T) (T' := Tok.own v (es.filter p) :: T) rfl rV ?_ (SubT.cons (SubT.skip SubT.appL))
  rfl

end Go.Proofs.Ythlgbeakcobeoaa
