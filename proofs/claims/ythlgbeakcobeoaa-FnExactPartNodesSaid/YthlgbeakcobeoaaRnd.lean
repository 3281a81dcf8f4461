/- The second program's source of drawn numbers. Conditions: those of each contract. -/
import Derived.Test.YthlgbeakcobeoaaGra5
import Derived.Test.YthlgbeakcobeoaaR4
import Derived.Test.YthlgbeakcobeoaaTacA
namespace Go.Proofs.Ythlgbeakcobeoaa
open Go
theorem fps_blk (b : Nat) (cs : List Value) : fps [Tok.blk b cs] = [b] := rfl
theorem rl_inb {α : Type} [Enc α] {w : World} {v : Value} {xs : List α} (h : RL w v xs) : ∀ b ∈ vfp v, b < w.heap.size := rdAt_inb h
theorem mem_fps {b : Nat} {cs : List Value} {F : List Tok} (h : Tok.blk b cs ∈ F) : b ∈ fps F := List.mem_flatMap.2 ⟨_, h, by show b ∈ [b]; simp⟩
theorem own_mem_fps {α : Type} [Enc α] {F : List Tok} {v : Value} {xs : List α} (h : Tok.own v xs ∈ F) {b : Nat} (hb : b ∈ vfp v) : b ∈ fps F := List.mem_flatMap.2 ⟨_, h, hb⟩
theorem blk_mem_fp {b : Nat} {cs : List Value} : b ∈ (Tok.blk b cs).fp := by show b ∈ [b]; simp
set_option linter.unusedVariables false set_option linter.unusedSimpArgs false attribute [local irreducible] Tok.own Tok.blk RL Rd eptr WP WPL PE WPD WPO Op1 OpE Tri Again Mid Exit.then Exit.inBlock bodyPost RP Code.wp wpList isOwn OneM One
set_option maxHeartbeats 8000000

def ptr (b : Nat) : Value := .pointer (some ⟨b, 0, none⟩)

/-- What a source keeps of a code. -/
def cvOf (v : Value) (bs : List UInt8) : Value := if 2000 < bs.length then slcV v (2000 : Int).toNat else v
def bsOf (bs : List UInt8) : List UInt8 := if 2000 < bs.length then bs.take (2000 : Int).toNat else bs
theorem RL.cvOf {w : World} {v : Value} {bs : List UInt8} (h : RL w v bs) : RL w (cvOf v bs) (bsOf bs) := by
  unfold Proofs.Ythlgbeakcobeoaa.cvOf bsOf
  split
  · exact h.take (by omega)
  · exact h
theorem bsOf_le (bs : List UInt8) : (bsOf bs).length ≤ 2000 := by
  unfold bsOf
  split
  · rw [List.length_take]; omega
  · omega

theorem d_Open (w : World) (v : Value) (bs : List UInt8) (h : RL w v bs) (hl : bs.length ≤ 9223372036854775807) :
    Tri Try.prog 87 [v] w [] fun r T => ∃ rb, r = .pointer (some ⟨rb, 0, none⟩) ∧ T = [Tok.blk rb [cvOf v bs, .int .i64 0]] := by
  by_cases hb : 2000 < (bs.length : Int)
  · have hq : RL w (slcV v (2000 : Int).toNat) (bs.take (2000 : Int).toNat) := h.take (by omega)
    have o1 := hq.oneG
    have e1 : cvOf v bs = slcV v (2000 : Int).toNat := if_pos (by omega)
    refine Tri.intro (hf := Try.func87) (hb := rfl) (hn := Try.ntmps87) (Nat.le_of_ble_eq_true rfl) ?_
    repeat' (first | refine go ⟨?_⟩ | (refine isCond ?_; refine WP.condD rfl (fun hc => ?_) (fun hc => ?_)) | (refine isGuard ?_; refine WPL.splitD rfl rfl (fun hc => ?_) (fun hc => ?_)))
    · refine WPL.eff (OpE.box rfl) rfl rfl ?_; rintro _ _ ⟨rb, rfl, rfl⟩
      repeat' (first | refine go ⟨?_⟩ | (refine isCond ?_; refine WP.condD rfl (fun hc => ?_) (fun hc => ?_)) | (refine isGuard ?_; refine WPL.splitD rfl rfl (fun hc => ?_) (fun hc => ?_)))
      refine PE.ret1 (T := []) (T' := [Tok.blk rb [slcV v (2000 : Int).toNat, .int .i64 0]]) rfl rV ?_ sT
      exact ⟨rb, rfl, by rw [e1]⟩
    · omega
  · have e1 : cvOf v bs = v := if_neg (by omega)
    refine Tri.intro (hf := Try.func87) (hb := rfl) (hn := Try.ntmps87) (Nat.le_of_ble_eq_true rfl) ?_
    try refine go ⟨?_⟩
    rw [decide_eq_false hb]
    try refine go ⟨?_⟩
    refine WPL.eff (OpE.box rfl) rfl rfl ?_; rintro _ _ ⟨rb, rfl, rfl⟩
    try refine go ⟨?_⟩
    refine PE.ret1 (T := []) (T' := [Tok.blk rb [v, .int .i64 0]]) rfl rV ?_ sT
    exact ⟨rb, rfl, by rw [e1]⟩

theorem d_pick (w : World) (rb : Nat) (cv : Value) (bs : List UInt8) (p n : Int) (h : RL w cv bs) (hd : ∀ b ∈ vfp cv, b ≠ rb) (hl : bs.length ≤ 2000) (hp : 0 ≤ p ∧ p ≤ 1000000) (hn : n ≤ 1000000) :
    Tri Try.prog 118 [.pointer (some ⟨rb, 0, none⟩), .int .i64 n] w [Tok.blk rb [cv, .int .i64 p]] fun r T =>
      T = [Tok.blk rb [cv, .int .i64 (p + 1)]] ∧ ∃ k : Int, r = .int .i64 k ∧ 0 ≤ k ∧ (1 ≤ n → k < n) := by
  have hA : RdA ⟨99, w, fps [Tok.blk rb [cv, .int .i64 p]]⟩ cv bs := RdA.mk h (fun b hb => by
    have := hd b hb
    rw [fps_blk]; simpa using this)
  refine Tri.intro (hf := Try.func118) (hb := rfl) (hn := Try.ntmps118) (Nat.le_of_ble_eq_true rfl) ?_
  have ek : p + 1 - 1 = p := by omega
  have b1 := UInt8.toNat_lt (bs.getD (p + 1 - 1).toNat Enc.d)
  have m1 := Int.emod_nonneg (((bs.getD (p + 1 - 1).toNat Enc.d).toNat : Nat) : Int) (b := n)
  have m2 := Int.emod_lt_of_pos (((bs.getD (p + 1 - 1).toNat Enc.d).toNat : Nat) : Int) (b := n)
  repeat' (first | exact absurd rfl hc | refine goA ⟨?_⟩ | (refine isCond ?_; refine WP.condD rfl (fun hc => ?_) (fun hc => ?_)) | (refine isGuard ?_; refine WPL.splitD rfl rfl (fun hc => ?_) (fun hc => ?_)))
  · refine PE.ret1 (T := [Tok.blk rb [cv, .int .i64 p]]) (T' := [Tok.blk rb [cv, .int .i64 (p + 1)]]) rfl rV ?_ sT
    exact ⟨rfl, 0, rfl, by omega, by omega⟩
  · refine PE.ret1 (T := [Tok.blk rb [cv, .int .i64 p]]) (T' := [Tok.blk rb [cv, .int .i64 (p + 1)]]) rfl rV ?_ sT
    exact ⟨rfl, 0, rfl, by omega, by omega⟩
  · refine PE.ret1 (T := [Tok.blk rb [cv, .int .i64 p]]) (T' := [Tok.blk rb [cv, .int .i64 (p + 1)]]) rfl rV ?_ sT
    exact ⟨rfl, _, rfl, m1 (by omega), fun _ => m2 (by omega)⟩
  rw [ek]
  have hlen : 0 < (bs.length : Int) := by omega
  have i1 := Int.emod_nonneg p (b := bs.length) (by omega)
  have i2 := Int.emod_lt_of_pos p hlen
  have i3 := Int.emod_nonneg (p * 7 + 3) (b := bs.length) (by omega)
  have i4 := Int.emod_lt_of_pos (p * 7 + 3) hlen
  have c1 := UInt8.toNat_lt (bs.getD (p % bs.length).toNat Enc.d)
  have c2 := UInt8.toNat_lt (bs.getD ((p * 7 + 3) % bs.length).toNat Enc.d)
  have q1 := Int.ediv_nonneg (a := p) (b := bs.length) (by omega) (by omega)
  have q2 := Int.ediv_le_self (a := p) bs.length (by omega)
  refine WP.draw [Tok.blk rb [cv, .int .i64 (p + 1)]] mixed ?_
  refine WPD.take 0 rfl (Op1.move rfl) rfl rfl sT kR kR kR xQP ?_
  refine WPD.take 4 rfl (Op1.move rfl) rfl rfl sT kR kR kR xQP ?_
  refine WPD.take 5 rfl (Op1.move rfl) rfl rfl sT kR kR kR xQP ?_
  refine WPD.take 15 rfl (Op1.move rfl) rfl rfl sT kR kR kR xQP ?_
  refine WPD.take 19 rfl (Op1.move rfl) rfl rfl sT kR kR kR xQP ?_
  refine WPD.take 22 rfl (Op1.move rfl) rfl rfl sT kR kR kR xQP ?_
  refine WPD.take 33 rfl (Op1.move rfl) rfl rfl sT kR kR kR xQP ?_
  refine WPD.take 36 rfl (Op1.move rfl) rfl rfl sT kR kR kR xQP ?_
  refine WPD.take 37 rfl (Op1.move rfl) rfl rfl sT kR kR kR xQP ?_
  refine WPD.take 1 rfl (Op1.nilCheck rfl) rfl rfl sT kR kR kR xQP ?_
  refine WPD.take 6 rfl (Op1.nilCheck rfl) rfl rfl sT kR kR kR xQP ?_
  refine WPD.take 16 rfl (Op1.nilCheck rfl) rfl rfl sT kR kR kR xQP ?_
  refine WPD.take 20 rfl (Op1.mul rfl rfl (by omega)) rfl rfl sT kR kR kR xQP ?_
  refine WPD.take 23 rfl (Op1.nilCheck rfl) rfl rfl sT kR kR kR xQP ?_
  refine WPD.take 34 rfl (Op1.mul rfl rfl (by omega)) rfl rfl sT kR kR kR xQP ?_
  refine WPD.take 38 rfl (Op1.nilCheck rfl) rfl rfl sT kR kR kR xQP ?_
  refine WPD.take 2 rfl (by first | exact (Op1.fieldAddr rfl) | exact (Op1.fieldAddrE rfl rDA lT)) rfl rfl sT kR kR kR xQP ?_
  refine WPD.take 7 rfl (by first | exact (Op1.fieldAddr rfl) | exact (Op1.fieldAddrE rfl rDA lT)) rfl rfl sT kR kR kR xQP ?_
  refine WPD.take 17 rfl (by first | exact (Op1.fieldAddr rfl) | exact (Op1.fieldAddrE rfl rDA lT)) rfl rfl sT kR kR kR xQP ?_
  refine WPD.take 21 rfl (Op1.add rfl rfl (by omega)) rfl rfl sT kR kR kR xQP ?_
  refine WPD.take 24 rfl (by first | exact (Op1.fieldAddr rfl) | exact (Op1.fieldAddrE rfl rDA lT)) rfl rfl sT kR kR kR xQP ?_
  refine WPD.take 39 rfl (by first | exact (Op1.fieldAddr rfl) | exact (Op1.fieldAddrE rfl rDA lT)) rfl rfl sT kR kR kR xQP ?_
  refine WPD.take 3 rfl (by first | exact (Op1.load rfl mM (by rfl)) | exact (Op1.loadI rfl rDA lT) | exact (Op1.loadAll rfl mM (by rfl)) | exact (Op1.loadE rfl rDA lT (by rfl)) | exact (Op1.loadEAgg rfl rDA lT (by rfl))) rfl rfl sT kR kR kR xQP ?_
  refine WPD.take 8 rfl (by first | exact (Op1.load rfl mM (by rfl)) | exact (Op1.loadI rfl rDA lT) | exact (Op1.loadAll rfl mM (by rfl)) | exact (Op1.loadE rfl rDA lT (by rfl)) | exact (Op1.loadEAgg rfl rDA lT (by rfl))) rfl rfl sT kR kR kR xQP ?_
  refine WPD.take 18 rfl (by first | exact (Op1.load rfl mM (by rfl)) | exact (Op1.loadI rfl rDA lT) | exact (Op1.loadAll rfl mM (by rfl)) | exact (Op1.loadE rfl rDA lT (by rfl)) | exact (Op1.loadEAgg rfl rDA lT (by rfl))) rfl rfl sT kR kR kR xQP ?_
  refine WPD.take 25 rfl (by first | exact (Op1.load rfl mM (by rfl)) | exact (Op1.loadI rfl rDA lT) | exact (Op1.loadAll rfl mM (by rfl)) | exact (Op1.loadE rfl rDA lT (by rfl)) | exact (Op1.loadEAgg rfl rDA lT (by rfl))) rfl rfl sT kR kR kR xQP ?_
  refine WPD.take 40 rfl (by first | exact (Op1.load rfl mM (by rfl)) | exact (Op1.loadI rfl rDA lT) | exact (Op1.loadAll rfl mM (by rfl)) | exact (Op1.loadE rfl rDA lT (by rfl)) | exact (Op1.loadEAgg rfl rDA lT (by rfl))) rfl rfl sT kR kR kR xQP ?_
  refine WPD.take 9 rfl (Op1.len rfl rDA) rfl rfl sT kR kR kR xQP ?_
  refine WPD.take 26 rfl (Op1.len rfl rDA) rfl rfl sT kR kR kR xQP ?_
  refine WPD.take 41 rfl (Op1.len rfl rDA) rfl rfl sT kR kR kR xQP ?_
  refine WPD.take 10 rfl (Op1.rem rfl rfl (by omega)) rfl rfl sT kR kR kR xQP ?_
  refine WPD.take 27 rfl (Op1.rem rfl rfl (by omega)) rfl rfl sT kR kR kR xQP ?_
  refine WPD.take 42 rfl (Op1.quo rfl rfl (by omega)) rfl rfl sT kR kR kR xQP ?_
  refine WPD.take 11 rfl (by first | exact (Op1.indexAddr rfl rfl rDA lT) | exact (Op1.indexAddrZ rfl rfl rDA lT)) rfl rfl sT kR kR kR xQP ?_
  refine WPD.take 28 rfl (by first | exact (Op1.indexAddr rfl rfl rDA lT) | exact (Op1.indexAddrZ rfl rfl rDA lT)) rfl rfl sT kR kR kR xQP ?_
  refine WPD.take 43 rfl (Op1.mul rfl rfl (by omega)) rfl rfl sT kR kR kR xQP ?_
  refine WPD.take 12 rfl (by first | exact (Op1.load rfl mM (by rfl)) | exact (Op1.loadI rfl rDA lT) | exact (Op1.loadAll rfl mM (by rfl)) | exact (Op1.loadE rfl rDA lT (by rfl)) | exact (Op1.loadEAgg rfl rDA lT (by rfl))) rfl rfl sT kR kR kR xQP ?_
  refine WPD.take 29 rfl (by first | exact (Op1.load rfl mM (by rfl)) | exact (Op1.loadI rfl rDA lT) | exact (Op1.loadAll rfl mM (by rfl)) | exact (Op1.loadE rfl rDA lT (by rfl)) | exact (Op1.loadEAgg rfl rDA lT (by rfl))) rfl rfl sT kR kR kR xQP ?_
  refine WPD.take 13 rfl oPA rfl rfl sT kR kR kR xQP ?_
  refine WPD.take 30 rfl oPA rfl rfl sT kR kR kR xQP ?_
  refine WPD.take 14 rfl (Op1.mul rfl rfl (by omega)) rfl rfl sT kR kR kR xQP ?_
  refine WPD.take 31 rfl (Op1.mul rfl rfl (by omega)) rfl rfl sT kR kR kR xQP ?_
  refine WPD.take 32 rfl (Op1.add rfl rfl (by omega)) rfl rfl sT kR kR kR xQP ?_
  refine WPD.take 35 rfl (Op1.add rfl rfl (by omega)) rfl rfl sT kR kR kR xQP ?_
  refine WPD.take 44 rfl (Op1.add rfl rfl (by omega)) rfl rfl sT kR kR kR xQP ?_
  refine WPD.take 45 rfl (Op1.assign rfl) rfl rfl sT kR kR kR xQP ?_
  refine WPD.done kR ?_
  obtain ⟨X, hX⟩ : ∃ X : Int, X = (((bs.getD (p % bs.length).toNat Enc.d).toNat : Nat) : Int) * 131 + (((bs.getD ((p * 7 + 3) % bs.length).toNat Enc.d).toNat : Nat) : Int) * 1117 + p * 29 + p / bs.length * 53 := ⟨_, rfl⟩
  have hX0 : 0 ≤ X ∧ X ≤ 1000000000000 := by omega
  rw [← hX]
  try refine goA ⟨?_⟩
  have m3 := Int.emod_nonneg (((X.toNat ^^^ (X / 64).toNat : Nat)) : Int) (b := n) (by omega)
  have m4 := Int.emod_lt_of_pos (((X.toNat ^^^ (X / 64).toNat : Nat)) : Int) (b := n) (by omega)
  refine PE.ret1 (T := [Tok.blk rb [cv, .int .i64 p]]) (T' := [Tok.blk rb [cv, .int .i64 (p + 1)]]) rfl rV ?_ sT
  exact ⟨rfl, _, rfl, m3, fun _ => m4⟩

theorem St.ne {W w : World} {F : List Tok} {rb : Nat} {cs : List Value} {α : Type} [Enc α] {v : Value} {xs : List α} (hw : St W [] F w) (hm : Tok.blk rb cs ∈ F) (h : RL W v xs) : ∀ b ∈ vfp v, b ≠ rb := by
  intro b hb e
  subst e
  have h1 : b < W.heap.size := rl_inb h b hb
  rcases hw.base b (mem_fps hm) with h2 | h2
  · cases h2
  · omega

theorem St.own_ne {W w : World} {M : List Nat} {F F0 : List Tok} {rb : Nat} {cs : List Value} {α : Type} [Enc α] {v : Value} {xs : List α} (hw : St W M F w) (hp : F.Perm (Tok.blk rb cs :: F0)) (h : Tok.own v xs ∈ F0) : ∀ b ∈ vfp v, b ≠ rb := by
  intro b hb e
  subst e
  have h1 := (hw.sub ⟨[], by simpa using hp⟩).nodup
  rw [fps_cons] at h1
  have h2 : b ∈ fps F0 := own_mem_fps h hb
  exact (List.nodup_append.1 h1).2.2 b blk_mem_fp b h2 rfl

theorem d_num (w : World) (rb : Nat) (cv s : Value) (bs : List UInt8) (xs : List Int) (p : Int) (h : RL w cv bs) (hd : ∀ b ∈ vfp cv, b ≠ rb) (hs : RL w s xs) (hds : ∀ b ∈ vfp s, b ≠ rb) (hl : bs.length ≤ 2000) (hp : 0 ≤ p ∧ p ≤ 1000000) (hn : 1 ≤ xs.length ∧ xs.length ≤ 1000000) :
    Tri Try.prog 88 [.pointer (some ⟨rb, 0, none⟩), s] w [Tok.blk rb [cv, .int .i64 p]] fun r T =>
      T = [Tok.blk rb [cv, .int .i64 (p + 1)]] ∧ ∃ k : Int, r = .int .i64 k ∧ k ∈ xs := by
  have hA : RdA ⟨12, w, fps [Tok.blk rb [cv, .int .i64 p]]⟩ s xs := RdA.mk hs (fun b hb => by
    have := hds b hb
    rw [fps_blk]; simpa using this)
  have hB : RdA ⟨12, w, fps [Tok.blk rb [cv, .int .i64 p]]⟩ cv bs := RdA.mk h (fun b hb => by
    have := hd b hb
    rw [fps_blk]; simpa using this)
  refine Tri.intro (hf := Try.func88) (hb := rfl) (hn := Try.ntmps88) (Nat.le_of_ble_eq_true rfl) ?_
  try refine goA ⟨?_⟩
  refine WPL.eff (OpE.callT (T := [Tok.blk rb [cv, .int .i64 p]]) lO pM (fun w hw => d_pick _ rb cv bs p xs.length (Rd.at (Rd.ofA hB) hw) hd hl hp (by omega))) rfl rfl ?_
  rintro r _ ⟨T, ⟨rfl, k, rfl, k0, k1⟩, rfl⟩
  have k2 := k1 (by omega)
  try refine goA ⟨?_⟩
  refine PE.ret1 (T := [Tok.blk rb [cv, .int .i64 p]]) (T' := [Tok.blk rb [cv, .int .i64 (p + 1)]]) rfl rV ?_ sT
  exact ⟨rfl, _, rfl, getD_memI (by omega)⟩
end Go.Proofs.Ythlgbeakcobeoaa
