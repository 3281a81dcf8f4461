/- The second program's drawn rooted trees. Conditions: those of each contract. -/
import Derived.Test.YtjmbnhohfhpopaaDrw0
namespace Go.Proofs.Ytjmbnhohfhpopaa
open Go
theorem PE.turn {G : Ctx} {l : List (Nat × Value)} {F : List Tok} {Q : Exit → Act → World → Prop} {e : Exit} {F0 : List Tok} {t t' : Tok} (hp : F.Perm (t :: F0)) (hf : t'.fp = t.fp) (hh : ∀ w, t.holds w → t'.holds w)
    (h : PE G e l (t' :: F0) Q) : PE G e l F Q := fun a w ha hw => h a w ha (hw.turn hp hf hh)
theorem WP.slc {P : Program} {G : Ctx} {l : List (Nat × Value)} {F : List Tok} {Q : Exit → Act → World → Prop} {c : Code} {α : Type} [Enc α] {v : Value} {xs : List α} (n : Nat) (h : Tok.own v xs ∈ F) (k : (slcV v n).oneCell' = true → WP P G c l F Q) : WP P G c l F Q :=
  fun a w ha hw => k (by rcases (hw.own h).2 with ⟨rfl, _⟩ | ⟨b, cap, post, rfl, _⟩ <;> rfl) a w ha hw
set_option linter.unusedVariables false set_option linter.unusedSimpArgs false attribute [local irreducible] Tok.own Tok.blk RL Rd eptr WP WPL PE WPD WPO Op1 OpE Tri Again Mid Exit.then Exit.inBlock bodyPost RP Code.wp wpList isOwn OneM One
set_option maxHeartbeats 8000000

/-- The drawn rooted trees: new, and short. -/
def drawnR (r : Value) (T : List Tok) : Prop := ∃ uP uW, ∃ ps ws : List Int, r = .agg #[uP, uW] ∧ T = [Tok.own uP ps, Tok.own uW ws] ∧ 1 ≤ ps.length ∧ ps.length ≤ 10 ∧ ws.length ≤ 10

theorem d_Draw (w : World) (v : Value) (bs : List UInt8) (h : RL w v bs) (hl : bs.length ≤ 9223372036854775807) :
    Tri Try.prog 66 [v] w [] drawnR := by
  refine Tri.intro (hf := Try.func66) (hb := rfl) (hn := Try.ntmps66) (Nat.le_of_ble_eq_true rfl) ?_
  try refine go ⟨?_⟩
  refine WPL.eff OpE.alloc rfl rfl ?_; rintro _ _ ⟨br, rfl, rfl⟩
  try refine go ⟨?_⟩
  refine WPL.eff (OpE.call lO (fun w hw => d_Open _ v bs (Rd.at rD hw) hl)) rfl rfl ?_
  rintro r _ ⟨T, ⟨rb, rfl, rfl⟩, rfl⟩
  have hcv := h.cvOf
  have hl2 := bsOf_le bs
  generalize cvOf v bs = cv at *
  generalize bsOf bs = bs' at *
  try refine go ⟨?_⟩
  refine WPL.eff (OpE.buildSlice [6, 5, 8, 4, 3, 10, 1] pA rfl (by decide)) rfl rfl ?_; rintro s0 _ rfl
  try refine go ⟨?_⟩
  refine WPL.eff (OpE.callT (T := [Tok.blk rb [cv, .int .i64 0]]) lO pM (fun w hw => d_num _ rb cv s0 bs' [6, 5, 8, 4, 3, 10, 1] 0 (Rd.at rD hw) (hw.ne (by repeat (first | exact List.Mem.head _ | apply List.Mem.tail)) hcv) (Rd.at rD hw) (hw.own_ne pM mM) hl2 (by omega) (by decide))) rfl rfl ?_
  rintro r _ ⟨T, ⟨rfl, n, rfl, hn⟩, rfl⟩
  have hn1 : 1 ≤ n ∧ n ≤ 10 := by
    simp only [List.mem_cons, List.mem_nil_iff, or_false] at hn
    omega
  try refine go ⟨?_⟩
  refine WPL.eff OpE.alloc rfl rfl ?_; rintro _ _ ⟨bo, rfl, rfl⟩
  try refine go ⟨?_⟩
  refine WP.nilTok Int ?_
  refine WP.nilTok Int ?_
  refine WP.loop (σ := Nat × Nat × Value × Value × List Int × List Int) (fun s => [(2, .pointer (some ⟨br, 0, none⟩)), (3, .pointer (some ⟨rb, 0, none⟩)), (4, .int .i64 n), (5, .pointer (some ⟨bo, 0, none⟩)), (6, .int .i64 s.1)])
    (fun s => [Tok.blk bo [s.2.2.1, s.2.2.2.1], Tok.own s.2.2.1 s.2.2.2.2.1, Tok.own s.2.2.2.1 s.2.2.2.2.2, Tok.blk rb [cv, .int .i64 s.2.1], Tok.blk br [.slice none 0 0, .slice none 0 0]])
    (fun s => s.1 ≤ n ∧ s.2.1 ≤ 1 + 3 * s.1 ∧ s.2.2.2.2.1.length = s.1 ∧ s.2.2.2.2.2.length = s.1) (fun s => n.toNat - s.1) (0, 1, .slice none 0 0, .slice none 0 0, [], []) ⟨by dsimp only; omega, by decide, rfl, rfl⟩ sE sT ?_
  rintro ⟨i, q, aP, aW, ps, ws⟩ ⟨hi, hq, hlP, hlW⟩
  dsimp only at hi hq hlP hlW ⊢
  try refine go ⟨?_⟩
  refine WP.condD rfl (fun hc => ?_) (fun hc => ?_)
  · have hi' : (i : Int) < n := hc
    have g1 : (ps ++ [(-1 : Int)]).length = i + 1 := by rw [List.length_append, hlP]; rfl
    have g2 : (ws ++ [(0 : Int)]).length = i + 1 := by rw [List.length_append, hlW]; rfl
    try refine go ⟨?_⟩
    refine WPL.eff (OpE.buildSlice [-1] pA rfl (by decide)) rfl rfl ?_; rintro sa _ rfl
    try refine go ⟨?_⟩
    refine WPL.eff (OpE.append rfl rfl pM rD lN) rfl rfl ?_; rintro aP1 _ rfl
    try refine go ⟨?_⟩
    refine WPL.eff (OpE.buildSlice [0] pA rfl (by decide)) rfl rfl ?_; rintro sb _ rfl
    try refine go ⟨?_⟩
    refine WPL.eff (OpE.append rfl rfl pM rD lN) rfl rfl ?_; rintro aW1 _ rfl
    try refine go ⟨?_⟩
    refine WPL.tok (F' := [Tok.blk bo [aP1, aW1], Tok.own aP1 (ps ++ [-1]), Tok.own aW1 (ws ++ [0]), Tok.blk rb [cv, .int .i64 q], Tok.blk br [.slice none 0 0, .slice none 0 0]]) sT ?_
    repeat' (first | exact absurd rfl hc | refine go ⟨?_⟩ | (refine isCond ?_; refine WP.condD rfl (fun hc => ?_) (fun hc => ?_)) | (refine isGuard ?_; refine WPL.splitD rfl rfl (fun hc => ?_) (fun hc => ?_)))
    · refine WPL.eff (OpE.callT (T := [Tok.blk rb [cv, .int .i64 ((q : Int))]]) lO pM (fun w hw => d_pick _ rb cv bs' ((q : Int)) 5 (Rd.at rD hw) (hw.ne mM hcv) hl2 (by omega) (by omega))) rfl rfl ?_
      rintro r _ ⟨T, ⟨rfl, k, rfl, k0, k1⟩, rfl⟩
      repeat' (first | exact absurd rfl hc | refine go ⟨?_⟩ | (refine isCond ?_; refine WP.condD rfl (fun hc => ?_) (fun hc => ?_)) | (refine isGuard ?_; refine WPL.splitD rfl rfl (fun hc => ?_) (fun hc => ?_)))
      · refine WP.draw [Tok.blk bo [aP1, aW1]] mixed ?_
        refine WPD.take 0 rfl oP rfl rfl sT kR kR kR xQP ?_
        refine WPD.take 1 rfl oP rfl rfl sT kR kR kR xQP ?_
        refine WPD.take 2 rfl oP rfl rfl sT kR kR kR xQP ?_
        refine WPD.take 3 rfl oP rfl rfl sT kR kR kR xQP ?_
        refine WPD.take 4 rfl oP rfl rfl sT kR kR kR xQP ?_
        refine WPD.eff 5 kR rfl (OpE.callT (T := [Tok.blk rb [cv, .int .i64 ((q : Int) + 1)]]) lO pM (fun w hw => d_pick _ rb cv bs' ((q : Int) + 1) i (Rd.at rD hw) (hw.ne mM hcv) hl2 (by omega) (by omega))) rfl rfl ?_
        rintro r _ ⟨T, ⟨rfl, k2, rfl, k3, k4⟩, rfl⟩
        refine ⟨sT, ?_⟩
        refine WPD.eff 6 kR rfl (OpE.ofPure oP) rfl rfl ?_; rintro _ _ ⟨rfl, rfl⟩; refine ⟨sT, ?_⟩
        refine WPD.eff0 7 kR rfl (OpE.store1 (_) rfl rfl pM (by omega) rfl) rfl ?_; rintro _ _ rfl; refine ⟨sT, ?_⟩
        refine WPD.done kR ?_
        try refine go ⟨?_⟩
        refine WP.draw [Tok.blk bo [aP1, aW1]] mixed ?_
        refine WPD.take 0 rfl oP rfl rfl sT kR kR kR xQP ?_
        refine WPD.take 1 rfl oP rfl rfl sT kR kR kR xQP ?_
        refine WPD.take 2 rfl oP rfl rfl sT kR kR kR xQP ?_
        refine WPD.take 3 rfl oP rfl rfl sT kR kR kR xQP ?_
        refine WPD.eff 4 kR rfl (OpE.buildSlice [1, 5, 3, 0, 20] pA rfl (by decide)) rfl rfl ?_; rintro sc _ rfl; refine ⟨sT, ?_⟩
        refine WPD.eff 5 kR rfl (OpE.callT (T := [Tok.blk rb [cv, .int .i64 ((q : Int) + 1 + 1)]]) lO pM (fun w hw => d_num _ rb cv sc bs' [1, 5, 3, 0, 20] ((q : Int) + 1 + 1) (Rd.at rD hw) (hw.ne mM hcv) (Rd.at rD hw) (hw.own_ne pM mM) hl2 (by omega) (by decide))) rfl rfl ?_
        rintro r _ ⟨T, ⟨rfl, k5, rfl, k6⟩, rfl⟩
        refine ⟨sT, ?_⟩
        refine WPD.eff 6 kR rfl (OpE.ofPure oP) rfl rfl ?_; rintro _ _ ⟨rfl, rfl⟩; refine ⟨sT, ?_⟩
        refine WPD.eff0 7 kR rfl (OpE.store1 (_) rfl rfl pM (by omega) rfl) rfl ?_; rintro _ _ rfl; refine ⟨sT, ?_⟩
        refine WPD.done kR ?_
        try refine go ⟨?_⟩
        refine PE.again (i + 1, q + 3, aP1, aW1, (ps ++ [-1]).set i k2, (ws ++ [0]).set i k5) ?_ ?_ sE sT
        · dsimp only
          simp only [List.length_set, List.length_append, List.length_cons, List.length_nil]
          omega
        · dsimp only; omega
      · refine PE.again (i + 1, q + 1, aP1, aW1, ps ++ [-1], ws ++ [0]) ?_ ?_ sE sT
        · dsimp only
          simp only [List.length_append, List.length_cons, List.length_nil]
          omega
        · dsimp only; omega
    · refine PE.again (i + 1, q, aP1, aW1, ps ++ [-1], ws ++ [0]) ?_ ?_ sE sT
      · dsimp only
        simp only [List.length_append, List.length_cons, List.length_nil]
        omega
      · dsimp only; omega
  have hin : (i : Int) = n := by omega
  refine WP.slc (v := aW) (xs := ws) (n - 1).toNat mM (fun o2 => ?_)
  try refine go ⟨?_⟩
  refine WPL.eff (OpE.callT (T := [Tok.blk rb [cv, .int .i64 ((q : Int))]]) lO pM (fun w hw => d_pick _ rb cv bs' ((q : Int)) 24 (Rd.at rD hw) (hw.ne mM hcv) hl2 (by omega) (by omega))) rfl rfl ?_
  rintro r _ ⟨T, ⟨rfl, k, rfl, k0, k1⟩, rfl⟩
  repeat' (first | exact absurd rfl hc | refine go ⟨?_⟩ | (refine isCond ?_; refine WP.condD rfl (fun hc => ?_) (fun hc => ?_)) | (refine isGuard ?_; refine WPL.splitD rfl rfl (fun hc => ?_) (fun hc => ?_)))
  · refine WP.draw [Tok.blk bo [aP, aW]] mixed ?_
    refine WPD.take 0 rfl oP rfl rfl sT kR kR kR xQP ?_
    refine WPD.take 1 rfl oP rfl rfl sT kR kR kR xQP ?_
    refine WPD.take 2 rfl oP rfl rfl sT kR kR kR xQP ?_
    refine WPD.take 3 rfl oP rfl rfl sT kR kR kR xQP ?_
    refine WPD.take 5 rfl oP rfl rfl sT kR kR kR xQP ?_
    refine WPD.take 6 rfl oP rfl rfl sT kR kR kR xQP ?_
    refine WPD.take 7 rfl oP rfl rfl sT kR kR kR xQP ?_
    refine WPD.two 4 8 kR ?_ ?_
    · refine WPO.eff rfl (OpE.callT (T := [Tok.blk rb [cv, .int .i64 ((q : Int) + 1)]]) lO pM (fun w hw => d_pick _ rb cv bs' ((q : Int) + 1) n (Rd.at rD hw) (hw.ne mM hcv) hl2 (by omega) (by omega))) rfl rfl ?_
      rintro r _ ⟨T, ⟨rfl, k2, rfl, k3, k4⟩, rfl⟩
      refine ⟨sT, ?_⟩
      have k5 := k4 (by omega)
      refine WPD.eff 8 kR rfl (OpE.buildSlice [-2, 0, 16, n - 1] pA rfl (by decide)) rfl rfl ?_; rintro sd _ rfl; refine ⟨sT, ?_⟩
      refine WPD.eff 9 kR rfl (OpE.callT (T := [Tok.blk rb [cv, .int .i64 ((q : Int) + 1 + 1)]]) lO pM (fun w hw => d_num _ rb cv sd bs' [-2, 0, 16, n - 1] ((q : Int) + 1 + 1) (Rd.at rD hw) (hw.ne mM hcv) (Rd.at rD hw) (hw.own_ne pM mM) hl2 (by omega) (by simp))) rfl rfl ?_
      rintro r _ ⟨T, ⟨rfl, k6, rfl, k7⟩, rfl⟩
      refine ⟨sT, ?_⟩
      refine WPD.eff 10 kR rfl (OpE.ofPure oP) rfl rfl ?_; rintro _ _ ⟨rfl, rfl⟩; refine ⟨sT, ?_⟩
      refine WPD.eff0 11 kR rfl (OpE.store1 (_) rfl rfl pM (by omega) rfl) rfl ?_; rintro _ _ rfl; refine ⟨sT, ?_⟩
      refine WPD.done kR ?_
      try refine go ⟨?_⟩
      refine PE.ret1 (T := []) (T' := [Tok.own aP (ps.set k2.toNat k6), Tok.own aW (ws)]) rfl rV ?_ sT
      exact ⟨aP, aW, _, _, rfl, rfl, by (try simp only [List.length_set]); omega, by (try simp only [List.length_set]); omega, by (try simp only [List.length_set]); omega⟩
    · refine WPO.eff rfl (OpE.buildSlice [-2, 0, 16, n - 1] pA rfl (by decide)) rfl rfl ?_; rintro sd _ rfl; refine ⟨sT, ?_⟩
      refine WPD.eff 4 kR rfl (OpE.callT (T := [Tok.blk rb [cv, .int .i64 ((q : Int) + 1)]]) lO pM (fun w hw => d_pick _ rb cv bs' ((q : Int) + 1) n (Rd.at rD hw) (hw.ne mM hcv) hl2 (by omega) (by omega))) rfl rfl ?_
      rintro r _ ⟨T, ⟨rfl, k2, rfl, k3, k4⟩, rfl⟩
      refine ⟨sT, ?_⟩
      have k5 := k4 (by omega)
      refine WPD.eff 9 kR rfl (OpE.callT (T := [Tok.blk rb [cv, .int .i64 ((q : Int) + 1 + 1)]]) lO pM (fun w hw => d_num _ rb cv sd bs' [-2, 0, 16, n - 1] ((q : Int) + 1 + 1) (Rd.at rD hw) (hw.ne mM hcv) (Rd.at rD hw) (hw.own_ne pM mM) hl2 (by omega) (by simp))) rfl rfl ?_
      rintro r _ ⟨T, ⟨rfl, k6, rfl, k7⟩, rfl⟩
      refine ⟨sT, ?_⟩
      refine WPD.eff 10 kR rfl (OpE.ofPure oP) rfl rfl ?_; rintro _ _ ⟨rfl, rfl⟩; refine ⟨sT, ?_⟩
      refine WPD.eff0 11 kR rfl (OpE.store1 (_) rfl rfl pM (by omega) rfl) rfl ?_; rintro _ _ rfl; refine ⟨sT, ?_⟩
      refine WPD.done kR ?_
      try refine go ⟨?_⟩
      refine PE.ret1 (T := []) (T' := [Tok.own aP (ps.set k2.toNat k6), Tok.own aW (ws)]) rfl rV ?_ sT
      exact ⟨aP, aW, _, _, rfl, rfl, by (try simp only [List.length_set]); omega, by (try simp only [List.length_set]); omega, by (try simp only [List.length_set]); omega⟩
  · refine WP.draw [Tok.blk bo [aP, aW]] mixed ?_
    refine WPD.take 0 rfl oP rfl rfl sT kR kR kR xQP ?_
    refine WPD.take 1 rfl oP rfl rfl sT kR kR kR xQP ?_
    refine WPD.take 2 rfl oP rfl rfl sT kR kR kR xQP ?_
    refine WPD.take 3 rfl oP rfl rfl sT kR kR kR xQP ?_
    refine WPD.take 5 rfl oP rfl rfl sT kR kR kR xQP ?_
    refine WPD.two 4 6 kR ?_ ?_
    · refine WPO.eff rfl (OpE.callT (T := [Tok.blk rb [cv, .int .i64 ((q : Int) + 1)]]) lO pM (fun w hw => d_pick _ rb cv bs' ((q : Int) + 1) n (Rd.at rD hw) (hw.ne mM hcv) hl2 (by omega) (by omega))) rfl rfl ?_
      rintro r _ ⟨T, ⟨rfl, k2, rfl, k3, k4⟩, rfl⟩
      refine ⟨sT, ?_⟩
      have k5 := k4 (by omega)
      refine WPD.eff 6 kR rfl (OpE.buildSlice [-1, 1000, 1] pA rfl (by decide)) rfl rfl ?_; rintro sd _ rfl; refine ⟨sT, ?_⟩
      refine WPD.eff 7 kR rfl (OpE.callT (T := [Tok.blk rb [cv, .int .i64 ((q : Int) + 1 + 1)]]) lO pM (fun w hw => d_num _ rb cv sd bs' [-1, 1000, 1] ((q : Int) + 1 + 1) (Rd.at rD hw) (hw.ne mM hcv) (Rd.at rD hw) (hw.own_ne pM mM) hl2 (by omega) (by simp))) rfl rfl ?_
      rintro r _ ⟨T, ⟨rfl, k6, rfl, k7⟩, rfl⟩
      refine ⟨sT, ?_⟩
      refine WPD.eff 8 kR rfl (OpE.ofPure oP) rfl rfl ?_; rintro _ _ ⟨rfl, rfl⟩; refine ⟨sT, ?_⟩
      refine WPD.eff0 9 kR rfl (OpE.store1 (_) rfl rfl pM (by omega) rfl) rfl ?_; rintro _ _ rfl; refine ⟨sT, ?_⟩
      refine WPD.done kR ?_
      try refine go ⟨?_⟩
      refine PE.ret1 (T := []) (T' := [Tok.own aP (ps), Tok.own aW (ws.set k2.toNat k6)]) rfl rV ?_ sT
      exact ⟨aP, aW, _, _, rfl, rfl, by (try simp only [List.length_set]); omega, by (try simp only [List.length_set]); omega, by (try simp only [List.length_set]); omega⟩
    · refine WPO.eff rfl (OpE.buildSlice [-1, 1000, 1] pA rfl (by decide)) rfl rfl ?_; rintro sd _ rfl; refine ⟨sT, ?_⟩
      refine WPD.eff 4 kR rfl (OpE.callT (T := [Tok.blk rb [cv, .int .i64 ((q : Int) + 1)]]) lO pM (fun w hw => d_pick _ rb cv bs' ((q : Int) + 1) n (Rd.at rD hw) (hw.ne mM hcv) hl2 (by omega) (by omega))) rfl rfl ?_
      rintro r _ ⟨T, ⟨rfl, k2, rfl, k3, k4⟩, rfl⟩
      refine ⟨sT, ?_⟩
      have k5 := k4 (by omega)
      refine WPD.eff 7 kR rfl (OpE.callT (T := [Tok.blk rb [cv, .int .i64 ((q : Int) + 1 + 1)]]) lO pM (fun w hw => d_num _ rb cv sd bs' [-1, 1000, 1] ((q : Int) + 1 + 1) (Rd.at rD hw) (hw.ne mM hcv) (Rd.at rD hw) (hw.own_ne pM mM) hl2 (by omega) (by simp))) rfl rfl ?_
      rintro r _ ⟨T, ⟨rfl, k6, rfl, k7⟩, rfl⟩
      refine ⟨sT, ?_⟩
      refine WPD.eff 8 kR rfl (OpE.ofPure oP) rfl rfl ?_; rintro _ _ ⟨rfl, rfl⟩; refine ⟨sT, ?_⟩
      refine WPD.eff0 9 kR rfl (OpE.store1 (_) rfl rfl pM (by omega) rfl) rfl ?_; rintro _ _ rfl; refine ⟨sT, ?_⟩
      refine WPD.done kR ?_
      try refine go ⟨?_⟩
      refine PE.ret1 (T := []) (T' := [Tok.own aP (ps), Tok.own aW (ws.set k2.toNat k6)]) rfl rV ?_ sT
      exact ⟨aP, aW, _, _, rfl, rfl, by (try simp only [List.length_set]); omega, by (try simp only [List.length_set]); omega, by (try simp only [List.length_set]); omega⟩
  · refine PE.turn (t := Tok.own aW ws) (t' := Tok.own (slcV aW (n - 1).toNat) (ws.take (n - 1).toNat)) pM own_take_fp (own_take (by omega)) ?_
    refine PE.ret1 (T := []) (T' := [Tok.own aP ps, Tok.own (slcV aW (n - 1).toNat) (ws.take (n - 1).toNat)]) rfl rV ?_ sT
    exact ⟨aP, _, _, _, rfl, rfl, by omega, by omega, by rw [List.length_take]; omega⟩
  · refine PE.ret1 (T := []) (T' := [Tok.own aP ps, Tok.own aW ws]) rfl rV ?_ sT
    exact ⟨aP, aW, _, _, rfl, rfl, by omega, by omega, by omega⟩
end Go.Proofs.Ytjmbnhohfhpopaa
