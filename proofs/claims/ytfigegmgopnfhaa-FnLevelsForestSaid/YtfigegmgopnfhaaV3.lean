/- Texts put together: Rnd, DrwG. Conditions: those of each theorem. -/
import Derived.Test.YtfigegmgopnfhaaV0
import Derived.Test.YtfigegmgopnfhaaV1
import Derived.Test.YtfigegmgopnfhaaV2
set_option linter.unusedVariables false
set_option linter.unusedSimpArgs false
/- The second program's source of drawn numbers. Conditions: those of each contract. -/
namespace Go.Proofs.Ytfigegmgopnfhaa
open Go
theorem fps_blk (b : Nat) (cs : List Value) : fps [Tok.blk b cs] = [b] := rfl
theorem rl_inb {α : Type} [Enc α] {w : World} {v : Value} {xs : List α} (h : RL w v xs) : ∀ b ∈ vfp v, b < w.heap.size := rdAt_inb h
theorem mem_fps {b : Nat} {cs : List Value} {F : List Tok} (h : Tok.blk b cs ∈ F) : b ∈ fps F := List.mem_flatMap.2 ⟨_, h, by show b ∈ [b]; simp⟩
theorem own_mem_fps {α : Type} [Enc α] {F : List Tok} {v : Value} {xs : List α} (h : Tok.own v xs ∈ F) {b : Nat} (hb : b ∈ vfp v) : b ∈ fps F := List.mem_flatMap.2 ⟨_, h, hb⟩
theorem blk_mem_fp {b : Nat} {cs : List Value} : b ∈ (Tok.blk b cs).fp := by show b ∈ [b]; simp
set_option linter.unusedVariables false set_option linter.unusedSimpArgs false attribute [local irreducible] Tok.own Tok.blk RL Rd eptr WP WPL PE WPD WPO Op1 OpE Tri Again Mid Exit.then Exit.inBlock bodyPost RP Code.wp wpList isOwn OneM One
set_option maxHeartbeats 8000000

def ptr (b : Nat) : Value := .pointer (some ⟨b, 0, none⟩)

/-- What a source keeps of a code. -/
def cvOf (v : Value) (bs : List UInt8) : Value := if 2000 < bs.length then slcV v (2000 : Int).toNat else v
def bsOf (bs : List UInt8) : List UInt8 := if 2000 < bs.length then bs.take (2000 : Int).toNat else bs
theorem RL.cvOf {w : World} {v : Value} {bs : List UInt8} (h : RL w v bs) : RL w (cvOf v bs) (bsOf bs) := by
  unfold Proofs.Ytfigegmgopnfhaa.cvOf bsOf
  split
  · exact h.take (by omega)
  · exact h
theorem bsOf_le (bs : List UInt8) : (bsOf bs).length ≤ 2000 := by
  unfold bsOf
  split
  · rw [List.length_take]; omega
  · omega

theorem d_Open (w : World) (v : Value) (bs : List UInt8) (h : RL w v bs) (hl : bs.length ≤ 9223372036854775807) :
    Tri Try.prog 81 [v] w [] fun r T => ∃ rb, r = .pointer (some ⟨rb, 0, none⟩) ∧ T = [Tok.blk rb [cvOf v bs, .int .i64 0]] := by
  by_cases hb : 2000 < (bs.length : Int)
  · have hq : RL w (slcV v (2000 : Int).toNat) (bs.take (2000 : Int).toNat) := h.take (by omega)
    have o1 := hq.oneG
    have e1 : cvOf v bs = slcV v (2000 : Int).toNat := if_pos (by omega)
    refine Tri.intro (hf := Try.func81) (hb := rfl) (hn := Try.ntmps81) (Nat.le_of_ble_eq_true rfl) ?_
    repeat' (first | refine go ⟨?_⟩ | (refine isCond ?_; refine WP.condD rfl (fun hc => ?_) (fun hc => ?_)) | (refine isGuard ?_; refine WPL.splitD rfl rfl (fun hc => ?_) (fun hc => ?_)))
    · refine WPL.eff (OpE.box rfl) rfl rfl ?_; rintro _ _ ⟨rb, rfl, rfl⟩
      repeat' (first | refine go ⟨?_⟩ | (refine isCond ?_; refine WP.condD rfl (fun hc => ?_) (fun hc => ?_)) | (refine isGuard ?_; refine WPL.splitD rfl rfl (fun hc => ?_) (fun hc => ?_)))
      refine PE.ret1 (T := []) (T' := [Tok.blk rb [slcV v (2000 : Int).toNat, .int .i64 0]]) rfl rV ?_ sT
      exact ⟨rb, rfl, by rw [e1]⟩
    · omega
  · have e1 : cvOf v bs = v := if_neg (by omega)
    refine Tri.intro (hf := Try.func81) (hb := rfl) (hn := Try.ntmps81) (Nat.le_of_ble_eq_true rfl) ?_
    try refine go ⟨?_⟩
    rw [decide_eq_false hb]
    try refine go ⟨?_⟩
    refine WPL.eff (OpE.box rfl) rfl rfl ?_; rintro _ _ ⟨rb, rfl, rfl⟩
    try refine go ⟨?_⟩
    refine PE.ret1 (T := []) (T' := [Tok.blk rb [v, .int .i64 0]]) rfl rV ?_ sT
    exact ⟨rb, rfl, by rw [e1]⟩

theorem d_pick (w : World) (rb : Nat) (cv : Value) (bs : List UInt8) (p n : Int) (h : RL w cv bs) (hd : ∀ b ∈ vfp cv, b ≠ rb) (hl : bs.length ≤ 2000) (hp : 0 ≤ p ∧ p ≤ 1000000) (hn : n ≤ 1000000) :
    Tri Try.prog 82 [.pointer (some ⟨rb, 0, none⟩), .int .i64 n] w [Tok.blk rb [cv, .int .i64 p]] fun r T =>
      T = [Tok.blk rb [cv, .int .i64 (p + 1)]] ∧ ∃ k : Int, r = .int .i64 k ∧ 0 ≤ k ∧ (1 ≤ n → k < n) := by
  have hA : RdA ⟨99, w, fps [Tok.blk rb [cv, .int .i64 p]]⟩ cv bs := RdA.mk h (fun b hb => by
    have := hd b hb
    rw [fps_blk]; simpa using this)
  refine Tri.intro (hf := Try.func82) (hb := rfl) (hn := Try.ntmps82) (Nat.le_of_ble_eq_true rfl) ?_
  have ek : p + 1 - 1 = p := by omega
  have b1 := UInt8.toNat_lt (bs.getD (p + 1 - 1).toNat Enc.d)
  have m1 := Int.emod_nonneg (((bs.getD (p + 1 - 1).toNat Enc.d).toNat : Nat) : Int) (b := n)
  have m2 := Int.emod_lt_of_pos (((bs.getD (p + 1 - 1).toNat Enc.d).toNat : Nat) : Int) (b := n)
  repeat' (first | exact absurd rfl hc | refine goA ⟨?_⟩ | (refine isCond ?_; refine WP.condD rfl (fun hc => ?_) (fun hc => ?_)) | (refine isGuard ?_; refine WPL.splitD rfl rfl (fun hc => ?_) (fun hc => ?_)))
  · refine PE.ret1 (T := [Tok.blk rb [cv, .int .i64 p]]) (T' := [Tok.blk rb [cv, .int .i64 (p + 1)]]) rfl rV ?_ sT
    exact ⟨rfl, 0, rfl, by omega, by omega⟩
  · refine PE.ret1 (T := [Tok.blk rb [cv, .int .i64 p]]) (T' := [Tok.blk rb [cv, .int .i64 (p + 1)]]) rfl rV ?_ sT
    exact ⟨rfl, 0, rfl, by omega, by omega⟩
  · refine PE.ret1 (T := [Tok.blk rb [cv, .int .i64 p]]) (T' := [Tok.blk rb [cv, .int .i64 (p + 1)]]) rfl rV ?_ sT
    exact ⟨rfl, _, rfl, m1 (by omega), fun _ => m2 (by omega)⟩
  rw [ek]
  have hlen : 0 < (bs.length : Int) := by omega
  have i1 := Int.emod_nonneg p (b := bs.length) (by omega)
  have i2 := Int.emod_lt_of_pos p hlen
  have i3 := Int.emod_nonneg (p * 7 + 3) (b := bs.length) (by omega)
  have i4 := Int.emod_lt_of_pos (p * 7 + 3) hlen
  have c1 := UInt8.toNat_lt (bs.getD (p % bs.length).toNat Enc.d)
  have c2 := UInt8.toNat_lt (bs.getD ((p * 7 + 3) % bs.length).toNat Enc.d)
  have q1 := Int.ediv_nonneg (a := p) (b := bs.length) (by omega) (by omega)
  have q2 := Int.ediv_le_self (a := p) bs.length (by omega)
  refine WP.draw [Tok.blk rb [cv, .int .i64 (p + 1)]] mixed ?_
  refine WPD.take 0 rfl (Op1.move rfl) rfl rfl sT kR kR kR xQP ?_
  refine WPD.take 4 rfl (Op1.move rfl) rfl rfl sT kR kR kR xQP ?_
  refine WPD.take 5 rfl (Op1.move rfl) rfl rfl sT kR kR kR xQP ?_
  refine WPD.take 15 rfl (Op1.move rfl) rfl rfl sT kR kR kR xQP ?_
  refine WPD.take 19 rfl (Op1.move rfl) rfl rfl sT kR kR kR xQP ?_
  refine WPD.take 22 rfl (Op1.move rfl) rfl rfl sT kR kR kR xQP ?_
  refine WPD.take 33 rfl (Op1.move rfl) rfl rfl sT kR kR kR xQP ?_
  refine WPD.take 36 rfl (Op1.move rfl) rfl rfl sT kR kR kR xQP ?_
  refine WPD.take 37 rfl (Op1.move rfl) rfl rfl sT kR kR kR xQP ?_
  refine WPD.take 1 rfl (Op1.nilCheck rfl) rfl rfl sT kR kR kR xQP ?_
  refine WPD.take 6 rfl (Op1.nilCheck rfl) rfl rfl sT kR kR kR xQP ?_
  refine WPD.take 16 rfl (Op1.nilCheck rfl) rfl rfl sT kR kR kR xQP ?_
  refine WPD.take 20 rfl (Op1.mul rfl rfl (by omega)) rfl rfl sT kR kR kR xQP ?_
  refine WPD.take 23 rfl (Op1.nilCheck rfl) rfl rfl sT kR kR kR xQP ?_
  refine WPD.take 34 rfl (Op1.mul rfl rfl (by omega)) rfl rfl sT kR kR kR xQP ?_
  refine WPD.take 38 rfl (Op1.nilCheck rfl) rfl rfl sT kR kR kR xQP ?_
  refine WPD.take 2 rfl (by first | exact (Op1.fieldAddr rfl) | exact (Op1.fieldAddrE rfl rDA lT)) rfl rfl sT kR kR kR xQP ?_
  refine WPD.take 7 rfl (by first | exact (Op1.fieldAddr rfl) | exact (Op1.fieldAddrE rfl rDA lT)) rfl rfl sT kR kR kR xQP ?_
  refine WPD.take 17 rfl (by first | exact (Op1.fieldAddr rfl) | exact (Op1.fieldAddrE rfl rDA lT)) rfl rfl sT kR kR kR xQP ?_
  refine WPD.take 21 rfl (Op1.add rfl rfl (by omega)) rfl rfl sT kR kR kR xQP ?_
  refine WPD.take 24 rfl (by first | exact (Op1.fieldAddr rfl) | exact (Op1.fieldAddrE rfl rDA lT)) rfl rfl sT kR kR kR xQP ?_
  refine WPD.take 39 rfl (by first | exact (Op1.fieldAddr rfl) | exact (Op1.fieldAddrE rfl rDA lT)) rfl rfl sT kR kR kR xQP ?_
  refine WPD.take 3 rfl (by first | exact (Op1.load rfl mM (by rfl)) | exact (Op1.loadI rfl rDA lT) | exact (Op1.loadAll rfl mM (by rfl)) | exact (Op1.loadE rfl rDA lT (by rfl)) | exact (Op1.loadEAgg rfl rDA lT (by rfl))) rfl rfl sT kR kR kR xQP ?_
  refine WPD.take 8 rfl (by first | exact (Op1.load rfl mM (by rfl)) | exact (Op1.loadI rfl rDA lT) | exact (Op1.loadAll rfl mM (by rfl)) | exact (Op1.loadE rfl rDA lT (by rfl)) | exact (Op1.loadEAgg rfl rDA lT (by rfl))) rfl rfl sT kR kR kR xQP ?_
  refine WPD.take 18 rfl (by first | exact (Op1.load rfl mM (by rfl)) | exact (Op1.loadI rfl rDA lT) | exact (Op1.loadAll rfl mM (by rfl)) | exact (Op1.loadE rfl rDA lT (by rfl)) | exact (Op1.loadEAgg rfl rDA lT (by rfl))) rfl rfl sT kR kR kR xQP ?_
  refine WPD.take 25 rfl (by first | exact (Op1.load rfl mM (by rfl)) | exact (Op1.loadI rfl rDA lT) | exact (Op1.loadAll rfl mM (by rfl)) | exact (Op1.loadE rfl rDA lT (by rfl)) | exact (Op1.loadEAgg rfl rDA lT (by rfl))) rfl rfl sT kR kR kR xQP ?_
  refine WPD.take 40 rfl (by first | exact (Op1.load rfl mM (by rfl)) | exact (Op1.loadI rfl rDA lT) | exact (Op1.loadAll rfl mM (by rfl)) | exact (Op1.loadE rfl rDA lT (by rfl)) | exact (Op1.loadEAgg rfl rDA lT (by rfl))) rfl rfl sT kR kR kR xQP ?_
  refine WPD.take 9 rfl (Op1.len rfl rDA) rfl rfl sT kR kR kR xQP ?_
  refine WPD.take 26 rfl (Op1.len rfl rDA) rfl rfl sT kR kR kR xQP ?_
  refine WPD.take 41 rfl (Op1.len rfl rDA) rfl rfl sT kR kR kR xQP ?_
  refine WPD.take 10 rfl (Op1.rem rfl rfl (by omega)) rfl rfl sT kR kR kR xQP ?_
  refine WPD.take 27 rfl (Op1.rem rfl rfl (by omega)) rfl rfl sT kR kR kR xQP ?_
  refine WPD.take 42 rfl (Op1.quo rfl rfl (by omega)) rfl rfl sT kR kR kR xQP ?_
  refine WPD.take 11 rfl (by first | exact (Op1.indexAddr rfl rfl rDA lT) | exact (Op1.indexAddrZ rfl rfl rDA lT)) rfl rfl sT kR kR kR xQP ?_
  refine WPD.take 28 rfl (by first | exact (Op1.indexAddr rfl rfl rDA lT) | exact (Op1.indexAddrZ rfl rfl rDA lT)) rfl rfl sT kR kR kR xQP ?_
  refine WPD.take 43 rfl (Op1.mul rfl rfl (by omega)) rfl rfl sT kR kR kR xQP ?_
  refine WPD.take 12 rfl (by first | exact (Op1.load rfl mM (by rfl)) | exact (Op1.loadI rfl rDA lT) | exact (Op1.loadAll rfl mM (by rfl)) | exact (Op1.loadE rfl rDA lT (by rfl)) | exact (Op1.loadEAgg rfl rDA lT (by rfl))) rfl rfl sT kR kR kR xQP ?_
  refine WPD.take 29 rfl (by first | exact (Op1.load rfl mM (by rfl)) | exact (Op1.loadI rfl rDA lT) | exact (Op1.loadAll rfl mM (by rfl)) | exact (Op1.loadE rfl rDA lT (by rfl)) | exact (Op1.loadEAgg rfl rDA lT (by rfl))) rfl rfl sT kR kR kR xQP ?_
  refine WPD.take 13 rfl oPA rfl rfl sT kR kR kR xQP ?_
  refine WPD.take 30 rfl oPA rfl rfl sT kR kR kR xQP ?_
  refine WPD.take 14 rfl (Op1.mul rfl rfl (by omega)) rfl rfl sT kR kR kR xQP ?_
  refine WPD.take 31 rfl (Op1.mul rfl rfl (by omega)) rfl rfl sT kR kR kR xQP ?_
  refine WPD.take 32 rfl (Op1.add rfl rfl (by omega)) rfl rfl sT kR kR kR xQP ?_
  refine WPD.take 35 rfl (Op1.add rfl rfl (by omega)) rfl rfl sT kR kR kR xQP ?_
  refine WPD.take 44 rfl (Op1.add rfl rfl (by omega)) rfl rfl sT kR kR kR xQP ?_
  refine WPD.take 45 rfl (Op1.assign rfl) rfl rfl sT kR kR kR xQP ?_
  refine WPD.done kR ?_
  obtain ⟨X, hX⟩ : ∃ X : Int, X = (((bs.getD (p % bs.length).toNat Enc.d).toNat : Nat) : Int) * 131 + (((bs.getD ((p * 7 + 3) % bs.length).toNat Enc.d).toNat : Nat) : Int) * 1117 + p * 29 + p / bs.length * 53 := ⟨_, rfl⟩
  have hX0 : 0 ≤ X ∧ X ≤ 1000000000000 := by omega
  rw [← hX]
  try refine goA ⟨?_⟩
  have m3 := Int.emod_nonneg (((X.toNat ^^^ (X / 64).toNat : Nat)) : Int) (b := n) (by omega)
  have m4 := Int.emod_lt_of_pos (((X.toNat ^^^ (X / 64).toNat : Nat)) : Int) (b := n) (by omega)
  refine PE.ret1 (T := [Tok.blk rb [cv, .int .i64 p]]) (T' := [Tok.blk rb [cv, .int .i64 (p + 1)]]) rfl rV ?_ sT
  exact ⟨rfl, _, rfl, m3, fun _ => m4⟩

theorem St.ne {W w : World} {F : List Tok} {rb : Nat} {cs : List Value} {α : Type} [Enc α] {v : Value} {xs : List α} (hw : St W [] F w) (hm : Tok.blk rb cs ∈ F) (h : RL W v xs) : ∀ b ∈ vfp v, b ≠ rb := by
  intro b hb e
  subst e
  have h1 : b < W.heap.size := rl_inb h b hb
  rcases hw.base b (mem_fps hm) with h2 | h2
  · cases h2
  · omega

theorem St.own_ne {W w : World} {M : List Nat} {F F0 : List Tok} {rb : Nat} {cs : List Value} {α : Type} [Enc α] {v : Value} {xs : List α} (hw : St W M F w) (hp : F.Perm (Tok.blk rb cs :: F0)) (h : Tok.own v xs ∈ F0) : ∀ b ∈ vfp v, b ≠ rb := by
  intro b hb e
  subst e
  have h1 := (hw.sub ⟨[], by simpa using hp⟩).nodup
  rw [fps_cons] at h1
  have h2 : b ∈ fps F0 := own_mem_fps h hb
  exact (List.nodup_append.1 h1).2.2 b blk_mem_fp b h2 rfl

theorem d_num (w : World) (rb : Nat) (cv s : Value) (bs : List UInt8) (xs : List Int) (p : Int) (h : RL w cv bs) (hd : ∀ b ∈ vfp cv, b ≠ rb) (hs : RL w s xs) (hds : ∀ b ∈ vfp s, b ≠ rb) (hl : bs.length ≤ 2000) (hp : 0 ≤ p ∧ p ≤ 1000000) (hn : 1 ≤ xs.length ∧ xs.length ≤ 1000000) :
    Tri Try.prog 83 [.pointer (some ⟨rb, 0, none⟩), s] w [Tok.blk rb [cv, .int .i64 p]] fun r T =>
      T = [Tok.blk rb [cv, .int .i64 (p + 1)]] ∧ ∃ k : Int, r = .int .i64 k ∧ k ∈ xs := by
  have hA : RdA ⟨12, w, fps [Tok.blk rb [cv, .int .i64 p]]⟩ s xs := RdA.mk hs (fun b hb => by
    have := hds b hb
    rw [fps_blk]; simpa using this)
  have hB : RdA ⟨12, w, fps [Tok.blk rb [cv, .int .i64 p]]⟩ cv bs := RdA.mk h (fun b hb => by
    have := hd b hb
    rw [fps_blk]; simpa using this)
  refine Tri.intro (hf := Try.func83) (hb := rfl) (hn := Try.ntmps83) (Nat.le_of_ble_eq_true rfl) ?_
  try refine goA ⟨?_⟩
  refine WPL.eff (OpE.callT (T := [Tok.blk rb [cv, .int .i64 p]]) lO pM (fun w hw => d_pick _ rb cv bs p xs.length (Rd.at (Rd.ofA hB) hw) hd hl hp (by omega))) rfl rfl ?_
  rintro r _ ⟨T, ⟨rfl, k, rfl, k0, k1⟩, rfl⟩
  have k2 := k1 (by omega)
  try refine goA ⟨?_⟩
  refine PE.ret1 (T := [Tok.blk rb [cv, .int .i64 p]]) (T' := [Tok.blk rb [cv, .int .i64 (p + 1)]]) rfl rV ?_ sT
  exact ⟨rfl, _, rfl, getD_memI (by omega)⟩
end Go.Proofs.Ytfigegmgopnfhaa
/- The second program's drawn graphs. Conditions: those of each contract. -/
namespace Go.Proofs.Ytfigegmgopnfhaa
open Go
theorem insP_len (es : List E) (e : E) : (insP es e).length = es.length + 1 := by
  have h := congrArg List.length (List.takeWhile_append_dropWhile (p := fun f => !decide (ltE e f)) (l := es))
  rw [List.length_append] at h
  unfold insP
  rw [List.length_append, List.length_cons]; omega
/-- Drawn values: new memory, and short. -/
def dG (r : Value) (T : List Tok) : Prop := ∃ v n, ∃ es : List E, r = .agg #[.int .i64 n, v] ∧ T = [Tok.own v es] ∧ es.length ≤ 60
def dGx (r : Value) (T : List Tok) : Prop := ∃ v n, ∃ es : List E, ∃ x : Int, r = .tuple #[.agg #[.int .i64 n, v], .int .i64 x] ∧ T = [Tok.own v es] ∧ es.length ≤ 60 ∧ n ≤ 17
def dGxy (r : Value) (T : List Tok) : Prop := ∃ v n, ∃ es : List E, ∃ x y : Int, r = .tuple #[.agg #[.int .i64 n, v], .int .i64 x, .int .i64 y] ∧ T = [Tok.own v es] ∧ es.length ≤ 60
def dGe (r : Value) (T : List Tok) : Prop := ∃ v n, ∃ es : List E, ∃ e : E, r = .tuple #[.agg #[.int .i64 n, v], ep e] ∧ T = [Tok.own v es] ∧ es.length ≤ 60
theorem s_FindI (w : World) (v : Value) (e : E) (es : List E) (h : RL w v es) (hl : es.length ≤ 1099511627776) :
    Tri Try.prog 151 [v, ep e] w [] fun r T => T = [] ∧ ∃ k : Int, r = .int .i64 k :=
  fun hn hh => (s_Find w v e es h hl hn hh).mono fun _ w' ⟨r, T, h1, h2, h3⟩ => ⟨r, T, h1, ⟨h2.1, by
    rcases h2.2 with ⟨_, n, _, rfl, _⟩ | ⟨_, rfl⟩
    · exact ⟨_, rfl⟩
    · exact ⟨_, rfl⟩⟩, h3⟩

set_option linter.unusedVariables false set_option linter.unusedSimpArgs false attribute [local irreducible] Tok.own Tok.blk RL Rd eptr WP WPL PE WPD WPO Op1 OpE Tri Again Mid Exit.then Exit.inBlock bodyPost RP Code.wp wpList isOwn OneM One
set_option maxHeartbeats 8000000

theorem g_Edge (w : World) (x y : Int) : Tri Try.prog 146 [.int .i64 x, .int .i64 y] w [] fun r T => T = [] ∧ ∃ e : E, r = ep e := by
  refine Tri.intro (hf := Try.func146) (hb := rfl) (hn := Try.ntmps146) (Nat.le_of_ble_eq_true rfl) ?_
  try refine go ⟨?_⟩
  refine WPL.eff OpE.alloc rfl rfl ?_; rintro _ _ ⟨b, rfl, rfl⟩
  repeat' (first | exact absurd rfl hc | refine go ⟨?_⟩ | (refine isCond ?_; refine WP.condD rfl (fun hc => ?_) (fun hc => ?_)) | (refine isGuard ?_; refine WPL.splitD rfl rfl (fun hc => ?_) (fun hc => ?_)))
  all_goals (refine PE.ret1 (T := []) (T' := []) rfl rV ?_ sT)
  · exact ⟨rfl, ⟨x, y⟩, rfl⟩
  · exact ⟨rfl, ⟨y, x⟩, rfl⟩

theorem g_Copy (w : World) (n : Int) (vE : Value) (es : List E) (hE : RL w vE es) (hl : es.length ≤ 1000000) :
    Tri Try.prog 84 [.agg #[.int .i64 n, vE]] w [] fun r T => ∃ v, r = .agg #[.int .i64 n, v] ∧ T = [Tok.own v es] := by
  refine Tri.intro (hf := Try.func84) (hb := rfl) (hn := Try.ntmps84) (Nat.le_of_ble_eq_true rfl) ?_
  try refine go ⟨?_⟩
  refine WPL.eff (OpE.box rfl) rfl rfl ?_; rintro _ _ ⟨b, rfl, rfl⟩
  refine WPL.eff OpE.alloc rfl rfl ?_; rintro _ _ ⟨b2, rfl, rfl⟩
  try refine go ⟨?_⟩
  refine WP.draw [Tok.blk b [.int .i64 n, vE]] mixed ?_
  refine WPD.take 0 rfl (by first | exact (Op1.fieldAddr rfl) | exact (Op1.fieldAddrE rfl rD lT)) rfl rfl sT kR kR kR xQP ?_
  refine WPD.take 3 rfl (by first | exact (Op1.fieldAddr rfl) | exact (Op1.fieldAddrE rfl rD lT)) rfl rfl sT kR kR kR xQP ?_
  refine WPD.take 1 rfl (by first | exact (Op1.load rfl mM (by rfl)) | exact (Op1.loadI rfl rD lT) | exact (Op1.loadAll rfl mM (by rfl)) | exact (Op1.loadE rfl rD lT (by rfl)) | exact (Op1.loadEAgg rfl rD lT (by rfl))) rfl rfl sT kR kR kR xQP ?_
  refine WPD.take 4 rfl (by first | exact (Op1.load rfl mM (by rfl)) | exact (Op1.loadI rfl rD lT) | exact (Op1.loadAll rfl mM (by rfl)) | exact (Op1.loadE rfl rD lT (by rfl)) | exact (Op1.loadEAgg rfl rD lT (by rfl))) rfl rfl sT kR kR kR xQP ?_
  refine WPD.eff 2 kR rfl (OpE.buildSlice (([] : List E)) pA rfl (by decide)) rfl rfl ?_
  rintro s _ rfl
  refine ⟨sT, ?_⟩
  refine WPD.eff 5 kR rfl (OpE.append rfl rfl pM rD lN) rfl rfl ?_
  rintro v _ rfl
  refine ⟨sT, ?_⟩
  refine WPD.eff 6 kR rfl (OpE.ofPure (Op1.build xBP (by rfl))) rfl rfl ?_
  rintro _ _ ⟨rfl, rfl⟩
  refine ⟨sT, ?_⟩
  refine WPD.eff0 7 kR rfl (OpE.storeAll rfl rfl pM (by rfl) (by rfl) oN) rfl ?_
  rintro _ _ rfl
  refine ⟨sT, ?_⟩
  refine WPD.done kR ?_
  all_goals (
    try refine go ⟨?_⟩
    refine PE.ret1 (T := []) (T' := [Tok.own v es]) rfl rV ?_ sT
    exact ⟨v, rfl, rfl⟩)

theorem g_Draw (w : World) (rb : Nat) (cv : Value) (bs : List UInt8) (h : RL w cv bs) (hd : ∀ b ∈ vfp cv, b ≠ rb) (hl : bs.length ≤ 2000) :
    Tri Try.prog 143 [ptrV rb] w [Tok.blk rb [cv, .int .i64 0]] fun r T => ∃ v n p, ∃ es : List E, r = .agg #[.int .i64 n, v] ∧ T = [Tok.own v es, Tok.blk rb [cv, .int .i64 p]] ∧ es.length ≤ 30 ∧ 1 ≤ n ∧ n ≤ 16 ∧ 0 ≤ p ∧ p ≤ 100 := by
  have hA : RdA ⟨65, w, fps [Tok.blk rb [cv, .int .i64 0]]⟩ cv bs := RdA.mk h (fun b hb => by
    have := hd b hb
    rw [fps_blk]; simpa using this)
  refine Tri.intro (hf := Try.func143) (hb := rfl) (hn := Try.ntmps143) (Nat.le_of_ble_eq_true rfl) ?_
  try refine goA ⟨?_⟩
  refine WPL.eff OpE.alloc rfl rfl ?_; rintro _ _ ⟨br, rfl, rfl⟩
  try refine goA ⟨?_⟩
  refine WPL.eff (OpE.buildSlice [6, 5, 7, 4, 8, 10, 3, 1, 16] pA rfl (by decide)) rfl rfl ?_; rintro s0 _ rfl
  try refine goA ⟨?_⟩
  refine WPL.eff (OpE.callT (T := [Tok.blk rb [cv, .int .i64 0]]) lO pM2 (fun w hw => d_num _ rb cv s0 bs [6, 5, 7, 4, 8, 10, 3, 1, 16] 0 (Rd.at rDA hw) hd (Rd.at rDA hw) (hw.own_ne pM mM) hl (by omega) (by decide))) rfl rfl ?_
  rintro r _ ⟨T, ⟨rfl, n, rfl, hn⟩, rfl⟩
  have hn1 : 1 ≤ n ∧ n ≤ 16 := by
    simp only [List.mem_cons, List.mem_nil_iff, or_false] at hn
    omega
  try refine goA ⟨?_⟩
  refine WPL.eff OpE.alloc rfl rfl ?_; rintro _ _ ⟨bo, rfl, rfl⟩
  try refine goA ⟨?_⟩
  refine WP.nilTok E ?_
  refine WP.loop (σ := Nat × Nat × Value × List E) (fun s => [(0, ptrV rb), (2, ptrV br), (3, ptrV bo), (4, .int .i64 s.1)])
    (fun s => [Tok.blk bo [.int .i64 n, s.2.2.1], Tok.own s.2.2.1 s.2.2.2, Tok.blk rb [cv, .int .i64 s.2.1], Tok.blk br [.int .i64 0, .slice none 0 0]])
    (fun s => 1 ≤ s.1 ∧ s.1 ≤ n ∧ s.2.1 ≤ 1 + 2 * s.1 ∧ s.2.2.2.length ≤ s.1) (fun s => n.toNat - s.1) (1, 1, .slice none 0 0, []) ⟨by decide, by dsimp only; omega, by decide, by decide⟩ sE sT2 ?_
  rintro ⟨i, q, v, es⟩ ⟨h1, h2, h3, h4⟩
  dsimp only at h1 h2 h3 h4 ⊢
  try refine goA ⟨?_⟩
  refine WP.condD rfl (fun hc => ?_) (fun hc => ?_)
  · have hi' : (i : Int) < n := hc
    try refine goA ⟨?_⟩
    refine WPL.eff (OpE.callT (T := [Tok.blk rb [cv, .int .i64 q]]) lO pM2 (fun w hw => d_pick _ rb cv bs q 4 (Rd.at rDA hw) hd hl (by omega) (by omega))) rfl rfl ?_
    rintro r _ ⟨T, ⟨rfl, k, rfl, k0, k1⟩, rfl⟩
    repeat' (first | exact absurd rfl hc | refine goA ⟨?_⟩ | (refine isCond ?_; refine WP.condD rfl (fun hc => ?_) (fun hc => ?_)) | (refine isGuard ?_; refine WPL.splitD rfl rfl (fun hc => ?_) (fun hc => ?_)))
    · refine WP.draw [Tok.own v es] mixed ?_
      refine WPD.take 0 rfl (by first | exact (Op1.fieldAddr rfl) | exact (Op1.fieldAddrE rfl rDA lT)) rfl rfl sT kR kR kR xQP ?_
      refine WPD.take 2 rfl (Op1.move rfl) rfl rfl sT kR kR kR xQP ?_
      refine WPD.take 3 rfl (Op1.move rfl) rfl rfl sT kR kR kR xQP ?_
      refine WPD.take 5 rfl (Op1.move rfl) rfl rfl sT kR kR kR xQP ?_
      refine WPD.two 1 4 kR ?e1_1 ?e1_4
      case' e1_1 =>
        refine WPO.eff rfl (OpE.ofPure (by first | exact (Op1.load rfl mM (by rfl)) | exact (Op1.loadI rfl rDA lT) | exact (Op1.loadAll rfl mM (by rfl)) | exact (Op1.loadE rfl rDA lT (by rfl)) | exact (Op1.loadEAgg rfl rDA lT (by rfl)))) rfl rfl ?_
        rintro _ _ ⟨eP, rfl⟩; have eP := eP.symm; subst eP
        refine ⟨sT, ?_⟩
        refine WPD.eff 4 kR rfl (OpE.callT (T := [Tok.blk rb [cv, .int .i64 ((q : Int) + 1)]]) lO pM2 (fun w hw => d_pick _ rb cv bs ((q : Int) + 1) i (Rd.at rDA hw) hd hl (by omega) (by omega))) rfl rfl ?_
        rintro r _ ⟨T, ⟨rfl, k2, rfl, _, _⟩, rfl⟩
        refine ⟨sT, ?_⟩
        refine WPD.eff 6 kR rfl (OpE.call lO (fun w hw => g_Edge _ k2 i)) rfl rfl ?_
        rintro r _ ⟨T, ⟨rfl, e, rfl⟩, rfl⟩
        refine ⟨sT, ?_⟩
        refine WPD.eff 7 kR rfl (OpE.call lO (fun w hw => s_Put _ v e es (Rd.at rDA hw) (by omega))) rfl rfl ?_
        rintro v1 _ ⟨T, rfl, rfl⟩
        refine ⟨sT, ?_⟩
        refine WPD.take 8 rfl (by first | exact (Op1.fieldAddr rfl) | exact (Op1.fieldAddrE rfl rDA lT)) rfl rfl sT kR kR kR xQP ?_
        refine WPD.eff0 9 kR rfl (OpE.store rfl rfl pM (by rfl) oN) rfl ?_
        rintro _ _ rfl
        refine ⟨sT, ?_⟩
        refine WPD.done kR ?_
      case' e1_4 =>
        refine WPO.eff rfl (OpE.callT (T := [Tok.blk rb [cv, .int .i64 ((q : Int) + 1)]]) lO pM2 (fun w hw => d_pick _ rb cv bs ((q : Int) + 1) i (Rd.at rDA hw) hd hl (by omega) (by omega))) rfl rfl ?_
        rintro r _ ⟨T, ⟨rfl, k2, rfl, _, _⟩, rfl⟩
        refine ⟨sT, ?_⟩
        refine WPD.two 1 6 kR ?e2_1 ?e2_6
        case' e2_1 =>
          refine WPO.eff rfl (OpE.ofPure (by first | exact (Op1.load rfl mM (by rfl)) | exact (Op1.loadI rfl rDA lT) | exact (Op1.loadAll rfl mM (by rfl)) | exact (Op1.loadE rfl rDA lT (by rfl)) | exact (Op1.loadEAgg rfl rDA lT (by rfl)))) rfl rfl ?_
          rintro _ _ ⟨eP, rfl⟩; have eP := eP.symm; subst eP
          refine ⟨sT, ?_⟩
          refine WPD.eff 6 kR rfl (OpE.call lO (fun w hw => g_Edge _ k2 i)) rfl rfl ?_
          rintro r _ ⟨T, ⟨rfl, e, rfl⟩, rfl⟩
          refine ⟨sT, ?_⟩
          refine WPD.eff 7 kR rfl (OpE.call lO (fun w hw => s_Put _ v e es (Rd.at rDA hw) (by omega))) rfl rfl ?_
          rintro v1 _ ⟨T, rfl, rfl⟩
          refine ⟨sT, ?_⟩
          refine WPD.take 8 rfl (by first | exact (Op1.fieldAddr rfl) | exact (Op1.fieldAddrE rfl rDA lT)) rfl rfl sT kR kR kR xQP ?_
          refine WPD.eff0 9 kR rfl (OpE.store rfl rfl pM (by rfl) oN) rfl ?_
          rintro _ _ rfl
          refine ⟨sT, ?_⟩
          refine WPD.done kR ?_
        case' e2_6 =>
          refine WPO.eff rfl (OpE.call lO (fun w hw => g_Edge _ k2 i)) rfl rfl ?_
          rintro r _ ⟨T, ⟨rfl, e, rfl⟩, rfl⟩
          refine ⟨sT, ?_⟩
          refine WPD.eff 1 kR rfl (OpE.ofPure (by first | exact (Op1.load rfl mM (by rfl)) | exact (Op1.loadI rfl rDA lT) | exact (Op1.loadAll rfl mM (by rfl)) | exact (Op1.loadE rfl rDA lT (by rfl)) | exact (Op1.loadEAgg rfl rDA lT (by rfl)))) rfl rfl ?_
          rintro _ _ ⟨eP, rfl⟩; have eP := eP.symm; subst eP
          refine ⟨sT, ?_⟩
          refine WPD.eff 7 kR rfl (OpE.call lO (fun w hw => s_Put _ v e es (Rd.at rDA hw) (by omega))) rfl rfl ?_
          rintro v1 _ ⟨T, rfl, rfl⟩
          refine ⟨sT, ?_⟩
          refine WPD.take 8 rfl (by first | exact (Op1.fieldAddr rfl) | exact (Op1.fieldAddrE rfl rDA lT)) rfl rfl sT kR kR kR xQP ?_
          refine WPD.eff0 9 kR rfl (OpE.store rfl rfl pM (by rfl) oN) rfl ?_
          rintro _ _ rfl
          refine ⟨sT, ?_⟩
          refine WPD.done kR ?_
      all_goals (
        try refine goA ⟨?_⟩
        have hil := insP_len es e
        refine PE.again (i + 1, q + 2, v1, insP es e) ?_ ?_ sE sT2
        · dsimp only; omega
        · dsimp only; omega)
    · refine PE.again (i + 1, q + 1, v, es) ?_ ?_ sE sT2
      · dsimp only; omega
      · dsimp only; omega
  have hin : (i : Int) = n := by omega
  try refine goA ⟨?_⟩
  refine WPL.eff (OpE.buildSlice [2, 1, 3, 0, 5, 8] pA rfl (by decide)) rfl rfl ?_; rintro s1 _ rfl
  try refine goA ⟨?_⟩
  refine WPL.eff (OpE.callT (T := [Tok.blk rb [cv, .int .i64 q]]) lO pM2 (fun w hw => d_num _ rb cv s1 bs [2, 1, 3, 0, 5, 8] q (Rd.at rDA hw) hd (Rd.at rDA hw) (hw.own_ne pM mM) hl (by omega) (by decide))) rfl rfl ?_
  rintro r _ ⟨T, ⟨rfl, m, rfl, hm⟩, rfl⟩
  have hm1 : 0 ≤ m ∧ m ≤ 8 := by
    simp only [List.mem_cons, List.mem_nil_iff, or_false] at hm
    omega
  obtain ⟨j, rfl⟩ := Int.eq_ofNat_of_zero_le hm1.1
  try refine goA ⟨?_⟩
  refine WP.loop (σ := Nat × Nat × Value × List E) (fun s => [(0, ptrV rb), (2, ptrV br), (3, ptrV bo), (5, .int .i64 s.1)])
    (fun s => [Tok.blk bo [.int .i64 n, s.2.2.1], Tok.own s.2.2.1 s.2.2.2, Tok.blk rb [cv, .int .i64 s.2.1], Tok.blk br [.int .i64 0, .slice none 0 0]])
    (fun s => s.1 ≤ 8 ∧ s.2.1 + 2 * s.1 ≤ 60 ∧ s.2.2.2.length + s.1 ≤ 30) (fun s => s.1) (j, q + 1, v, es) ⟨by dsimp only; omega, by dsimp only; omega, by dsimp only; omega⟩ sE sT2 ?_
  rintro ⟨j, q, v, es⟩ ⟨h1, h2, h3⟩
  dsimp only at h1 h2 h3 ⊢
  try refine goA ⟨?_⟩
  refine WP.condD rfl (fun hc => ?_) (fun hc => ?_)
  · have hj' : 0 < (j : Int) := hc
    have ej : (j : Int) - 1 = ((j - 1 : Nat) : Int) := by omega
    try refine goA ⟨?_⟩
    refine WPL.eff (OpE.callT (T := [Tok.blk rb [cv, .int .i64 q]]) lO pM2 (fun w hw => d_pick _ rb cv bs q n (Rd.at rDA hw) hd hl (by omega) (by omega))) rfl rfl ?_
    rintro r _ ⟨T, ⟨rfl, x, rfl, _, _⟩, rfl⟩
    try refine goA ⟨?_⟩
    refine WPL.eff (OpE.callT (T := [Tok.blk rb [cv, .int .i64 ((q : Int) + 1)]]) lO pM2 (fun w hw => d_pick _ rb cv bs ((q : Int) + 1) n (Rd.at rDA hw) hd hl (by omega) (by omega))) rfl rfl ?_
    rintro r _ ⟨T, ⟨rfl, y, rfl, _, _⟩, rfl⟩
    try refine goA ⟨?_⟩
    refine WP.draw [Tok.own v es, Tok.blk bo [.int .i64 n, v]] mixed ?_
    refine WPD.take 0 rfl (Op1.move rfl) rfl rfl sT kR kR kR xQP ?_
    refine WPD.take 1 rfl (Op1.move rfl) rfl rfl sT kR kR kR xQP ?_
    refine WPD.take 2 rfl (by first | exact (Op1.neI rfl rfl) | exact (Op1.neB rfl rfl) | exact (Op1.neE rfl rfl)) rfl rfl sT kR kR kR xQP ?_
    refine WPD.take 3 rfl (Op1.move rfl) rfl rfl sT kR kR kR xQP ?_
    first | refine WPD.splitD 48 rfl (fun h48 => ?t3) (fun h48 => ?f3) | refine WPD.split 48 rfl (fun h48 => ?t3) (fun h48 => ?f3)
    case' t3 =>
      refine WPD.take 4 rfl (by first | exact (Op1.fieldAddr rfl) | exact (Op1.fieldAddrE rfl rDA lT)) rfl rfl sT kR kR kR xQP ?_
      refine WPD.take 6 rfl (Op1.move rfl) rfl rfl sT kR kR kR xQP ?_
      refine WPD.take 7 rfl (Op1.move rfl) rfl rfl sT kR kR kR xQP ?_
      refine WPD.take 5 rfl (by first | exact (Op1.load rfl mM (by rfl)) | exact (Op1.loadI rfl rDA lT) | exact (Op1.loadAll rfl mM (by rfl)) | exact (Op1.loadE rfl rDA lT (by rfl)) | exact (Op1.loadEAgg rfl rDA lT (by rfl))) rfl rfl sT kR kR kR xQP ?_
      refine WPD.eff 8 kR rfl (OpE.call lO (fun w hw => g_Edge _ x y)) rfl rfl ?_
      rintro r _ ⟨T, ⟨rfl, e, rfl⟩, rfl⟩
      refine ⟨sT, ?_⟩
      refine WPD.eff 9 kR rfl (OpE.call lO (fun w hw => s_FindI _ v e es (Rd.at rDA hw) (by omega))) rfl rfl ?_
      rintro r _ ⟨T, ⟨rfl, k, rfl⟩, rfl⟩
      refine ⟨sT, ?_⟩
      refine WPD.take 10 rfl (Op1.ltI rfl rfl) rfl rfl sT kR kR kR xQP ?_
      refine WPD.take 11 rfl (by first | exact (Op1.pickT rfl rfl) | exact (Op1.pickF rfl rfl)) rfl rfl sT kR kR kR xQP ?_
      refine WPD.done kR ?_
    case' f3 =>
      refine WPD.skip 4 rfl rfl rfl sT kR kR kR xQP ?_
      refine WPD.skip 6 rfl rfl rfl sT kR kR kR xQP ?_
      refine WPD.skip 7 rfl rfl rfl sT kR kR kR xQP ?_
      refine WPD.skip 5 rfl rfl rfl sT kR kR kR xQP ?_
      refine WPD.skip 8 rfl rfl rfl sT kR kR kR xQP ?_
      refine WPD.skip 9 rfl rfl rfl sT kR kR kR xQP ?_
      refine WPD.skip 10 rfl rfl rfl sT kR kR kR xQP ?_
      refine WPD.take 11 rfl (by first | exact (Op1.pickT rfl rfl) | exact (Op1.pickF rfl rfl)) rfl rfl sT kR kR kR xQP ?_
      refine WPD.done kR ?_
    · try refine goA ⟨?_⟩
      rw [ej]
      refine PE.again (j - 1, q + 2, v, es) ?_ ?_ sE sT2
      · dsimp only; omega
      · dsimp only; omega
    · repeat' (first | exact absurd rfl hc | refine goA ⟨?_⟩ | (refine isCond ?_; refine WP.condD rfl (fun hc => ?_) (fun hc => ?_)) | (refine isGuard ?_; refine WPL.splitD rfl rfl (fun hc => ?_) (fun hc => ?_)))
      · refine WP.draw [Tok.own v es] mixed ?_
        refine WPD.take 0 rfl (by first | exact (Op1.fieldAddr rfl) | exact (Op1.fieldAddrE rfl rDA lT)) rfl rfl sT kR kR kR xQP ?_
        refine WPD.take 2 rfl (Op1.move rfl) rfl rfl sT kR kR kR xQP ?_
        refine WPD.take 3 rfl (Op1.move rfl) rfl rfl sT kR kR kR xQP ?_
        refine WPD.two 1 4 kR ?e4_1 ?e4_4
        case' e4_1 =>
          refine WPO.eff rfl (OpE.ofPure (by first | exact (Op1.load rfl mM (by rfl)) | exact (Op1.loadI rfl rDA lT) | exact (Op1.loadAll rfl mM (by rfl)) | exact (Op1.loadE rfl rDA lT (by rfl)) | exact (Op1.loadEAgg rfl rDA lT (by rfl)))) rfl rfl ?_
          rintro _ _ ⟨eP, rfl⟩; have eP := eP.symm; subst eP
          refine ⟨sT, ?_⟩
          refine WPD.eff 4 kR rfl (OpE.call lO (fun w hw => g_Edge _ x y)) rfl rfl ?_
          rintro r _ ⟨T, ⟨rfl, e2, rfl⟩, rfl⟩
          refine ⟨sT, ?_⟩
          refine WPD.eff 5 kR rfl (OpE.call lO (fun w hw => s_Put _ v e2 es (Rd.at rDA hw) (by omega))) rfl rfl ?_
          rintro v1 _ ⟨T, rfl, rfl⟩
          refine ⟨sT, ?_⟩
          refine WPD.take 6 rfl (by first | exact (Op1.fieldAddr rfl) | exact (Op1.fieldAddrE rfl rDA lT)) rfl rfl sT kR kR kR xQP ?_
          refine WPD.eff0 7 kR rfl (OpE.store rfl rfl pM (by rfl) oN) rfl ?_
          rintro _ _ rfl
          refine ⟨sT, ?_⟩
          refine WPD.done kR ?_
        case' e4_4 =>
          refine WPO.eff rfl (OpE.call lO (fun w hw => g_Edge _ x y)) rfl rfl ?_
          rintro r _ ⟨T, ⟨rfl, e2, rfl⟩, rfl⟩
          refine ⟨sT, ?_⟩
          refine WPD.eff 1 kR rfl (OpE.ofPure (by first | exact (Op1.load rfl mM (by rfl)) | exact (Op1.loadI rfl rDA lT) | exact (Op1.loadAll rfl mM (by rfl)) | exact (Op1.loadE rfl rDA lT (by rfl)) | exact (Op1.loadEAgg rfl rDA lT (by rfl)))) rfl rfl ?_
          rintro _ _ ⟨eP, rfl⟩; have eP := eP.symm; subst eP
          refine ⟨sT, ?_⟩
          refine WPD.eff 5 kR rfl (OpE.call lO (fun w hw => s_Put _ v e2 es (Rd.at rDA hw) (by omega))) rfl rfl ?_
          rintro v1 _ ⟨T, rfl, rfl⟩
          refine ⟨sT, ?_⟩
          refine WPD.take 6 rfl (by first | exact (Op1.fieldAddr rfl) | exact (Op1.fieldAddrE rfl rDA lT)) rfl rfl sT kR kR kR xQP ?_
          refine WPD.eff0 7 kR rfl (OpE.store rfl rfl pM (by rfl) oN) rfl ?_
          rintro _ _ rfl
          refine ⟨sT, ?_⟩
          refine WPD.done kR ?_
        all_goals (
          try refine goA ⟨?_⟩
          have hil := insP_len es e2
          rw [ej]
          refine PE.again (j - 1, q + 2, v1, insP es e2) ?_ ?_ sE sT2
          · dsimp only; omega
          · dsimp only; omega)
      · rw [ej]
        refine PE.again (j - 1, q + 2, v, es) ?_ ?_ sE sT2
        · dsimp only; omega
        · dsimp only; omega
  try refine goA ⟨?_⟩
  refine PE.ret1 (T := [Tok.blk rb [cv, .int .i64 0]]) (T' := [Tok.own v es, Tok.blk rb [cv, .int .i64 q]]) rfl rV ?_ sT2
  exact ⟨v, n, q, es, rfl, rfl, by omega, by omega, by omega, by omega, by omega⟩
end Go.Proofs.Ytfigegmgopnfhaa
