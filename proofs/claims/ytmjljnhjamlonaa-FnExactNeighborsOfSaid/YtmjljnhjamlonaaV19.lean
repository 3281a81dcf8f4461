/- Texts put together: Nb0, Nb1, Nb2. Conditions: those of each theorem. -/
import Derived.Laws.Strings
import Derived.Test.YtmjljnhjamlonaaV1
import Derived.Test.YtmjljnhjamlonaaV3
set_option linter.unusedVariables false
set_option linter.unusedSimpArgs false
/- Neighbours of a node: plain facts. Conditions: none. -/
namespace Go.Proofs.Ytmjljnhjamlonaa
open Go
/-- What an edge gives to the neighbours of x. -/
def nbE (x : Int) (e : E) : List Int := if x = e.A then [e.B] else if x = e.B then [e.A] else []
def nb (es : List E) (x : Int) : List Int := es.flatMap (nbE x)
/-- The edge between two nodes. -/
def jnE (x y : Int) : E := if x < y then ⟨x, y⟩ else ⟨y, x⟩
def nxt (n : Int) (es : List E) (x : Int) : List Int := (iota n.toNat).filter fun i => decide (i ≠ x ∧ jnE i x ∈ es)

theorem sorted_ext : ∀ {l l' : List Int}, l.Pairwise (· < ·) → l'.Pairwise (· < ·) → (∀ x, x ∈ l ↔ x ∈ l') → l = l'
  | [], [], _, _, _ => rfl
  | [], b :: l', _, _, h => absurd ((h b).2 (by simp)) (by simp)
  | a :: l, [], _, _, h => absurd ((h a).1 (by simp)) (by simp)
  | a :: l, b :: l', h1, h2, h => by
    obtain ⟨g1, g2⟩ := List.pairwise_cons.1 h1
    obtain ⟨k1, k2⟩ := List.pairwise_cons.1 h2
    have e : a = b := by
      rcases List.mem_cons.1 ((h a).1 (by simp)) with q | q
      · exact q
      · rcases List.mem_cons.1 ((h b).2 (by simp)) with p | p
        · exact p.symm
        · have := k1 a q; have := g1 b p; omega
    subst e
    have : l = l' := sorted_ext g2 k2 fun x => by
      constructor
      · intro hx
        have := g1 x hx
        rcases List.mem_cons.1 ((h x).1 (List.mem_cons_of_mem _ hx)) with q | q
        · omega
        · exact q
      · intro hx
        have := k1 x hx
        rcases List.mem_cons.1 ((h x).2 (List.mem_cons_of_mem _ hx)) with q | q
        · omega
        · exact q
    rw [this]
theorem mem_nbE {x y : Int} {e : E} : y ∈ nbE x e ↔ (x = e.A ∧ y = e.B) ∨ (x ≠ e.A ∧ x = e.B ∧ y = e.A) := by
  unfold nbE
  split
  · rename_i h; simp [h]
  · split
    · rename_i h1 h2; rw [List.mem_singleton]; exact ⟨fun h => .inr ⟨h1, h2, h⟩, fun h => h.elim (fun q => absurd q.1 h1) fun q => q.2.2⟩
    · rename_i h1 h2; simp [h1, h2]
theorem mem_nb {es : List E} {x y : Int} : y ∈ nb es x ↔ ∃ e ∈ es, (x = e.A ∧ y = e.B) ∨ (x ≠ e.A ∧ x = e.B ∧ y = e.A) := by
  unfold nb; rw [List.mem_flatMap]
  exact ⟨fun ⟨e, h1, h2⟩ => ⟨e, h1, mem_nbE.1 h2⟩, fun ⟨e, h1, h2⟩ => ⟨e, h1, mem_nbE.2 h2⟩⟩
theorem jnE_mem {n : Int} {es : List E} (hg : GV n es) {x y : Int} : y ∈ nb es x ↔ y ≠ x ∧ jnE y x ∈ es := by
  rw [mem_nb]
  unfold jnE
  constructor
  · rintro ⟨⟨A, B⟩, he, h⟩
    have ho := hg.okN he
    unfold okN at ho
    dsimp only at ho h
    rcases h with ⟨h1, h2⟩ | ⟨h0, h1, h2⟩
    · subst h1 h2
      exact ⟨by omega, by rw [if_neg (by omega)]; exact he⟩
    · subst h1 h2
      exact ⟨by omega, by rw [if_pos (by omega)]; exact he⟩
  · rintro ⟨hne, h⟩
    split at h
    · exact ⟨_, h, .inr ⟨by dsimp only; omega, rfl, rfl⟩⟩
    · exact ⟨_, h, .inl ⟨rfl, rfl⟩⟩
theorem jnE_symm {x y : Int} (h : x ≠ y) : jnE x y = jnE y x := by
  unfold jnE
  split
  · rw [if_neg (by omega)]
  · rw [if_pos (by omega)]
theorem nb_symm {n : Int} {es : List E} (hg : GV n es) {x y : Int} : y ∈ nb es x ↔ x ∈ nb es y := by
  rw [jnE_mem hg, jnE_mem hg]
  constructor
  · rintro ⟨h1, h2⟩; exact ⟨Ne.symm h1, by rw [jnE_symm (Ne.symm h1)]; exact h2⟩
  · rintro ⟨h1, h2⟩; exact ⟨Ne.symm h1, by rw [jnE_symm (Ne.symm h1)]; exact h2⟩
theorem nb_sorted {n : Int} {es : List E} (hg : GV n es) (x : Int) : (nb es x).Pairwise (· < ·) := by
  unfold nb
  rw [List.pairwise_flatMap]
  constructor
  · intro e _
    unfold nbE
    split
    · exact List.pairwise_singleton _ _
    · split
      · exact List.pairwise_singleton _ _
      · exact List.Pairwise.nil
  · have hok : ∀ e ∈ es, okN n e := fun e he => hg.okN he
    refine List.Pairwise.imp_of_mem (fun {e f} he hf hlt => ?_) hg.pw
    intro a ha b hb
    rw [mem_nbE] at ha hb
    have o1 := hok e he
    have o2 := hok f hf
    unfold okN at o1 o2
    unfold ltE at hlt
    omega
theorem nxt_sorted (n : Int) (es : List E) (x : Int) : (nxt n es x).Pairwise (· < ·) := List.Pairwise.filter _ (iota_pairwise _)
theorem mem_nxt {n : Int} {es : List E} {x i : Int} (hn : 0 ≤ n) : i ∈ nxt n es x ↔ Nd n i ∧ i ≠ x ∧ jnE i x ∈ es := by
  unfold nxt
  rw [List.mem_filter, mem_iota, Int.toNat_of_nonneg hn]
  unfold Nd; simp
theorem nb_nd {n : Int} {es : List E} (hg : GV n es) {x y : Int} (h : y ∈ nb es x) : Nd n y := by
  obtain ⟨e, he, h1⟩ := mem_nb.1 h
  have ho := hg.okE e he
  rcases h1 with ⟨_, rfl⟩ | ⟨_, _, rfl⟩
  · exact ho.2
  · exact ho.1
theorem nb_eq {n : Int} {es : List E} (hg : GV n es) (x : Int) : nb es x = nxt n es x :=
  sorted_ext (nb_sorted hg x) (nxt_sorted n es x) fun y => by
    rw [mem_nxt (by have := hg.1; omega)]
    exact ⟨fun h => ⟨nb_nd hg h, (jnE_mem hg).1 h⟩, fun h => (jnE_mem hg).2 h.2⟩
theorem nxt_le (n : Int) (es : List E) (x : Int) : (nxt n es x).length ≤ n.toNat := by
  have := List.length_filter_le (fun i => decide (i ≠ x ∧ jnE i x ∈ es)) (iota n.toNat)
  rw [iota_length] at this; exact this
theorem nb_le {n : Int} {es : List E} (hg : GV n es) (x : Int) : (nb es x).length ≤ 16 := by
  rw [nb_eq hg]
  have := nxt_le n es x
  have := hg.2.1
  omega
theorem nb_take {es : List E} {x : Int} {k : Nat} (hk : k < es.length) : nb (es.take (k + 1)) x = nb (es.take k) x ++ nbE x (es.getD k eD) := by
  unfold nb; rw [take_succD eD hk, List.flatMap_append]; simp
theorem nb_short (es : List E) (x : Int) : (nb es x).length ≤ es.length := by
  induction es with
  | nil => exact Nat.le_refl _
  | cons e es ih =>
    unfold nb at *
    rw [List.flatMap_cons, List.length_append, List.length_cons]
    have : (nbE x e).length ≤ 1 := by unfold nbE; split; exact Nat.le_refl _; split; exact Nat.le_refl _; exact Nat.zero_le _
    omega

/-! ### Degrees -/
def dgE (k : Int) (e : E) : Nat := (if e.A < k then 1 else 0) + (if e.B < k then 1 else 0)
def dg (es : List E) (k : Int) : Nat := (es.map (dgE k)).sum
theorem dg_zero {n : Int} {es : List E} (hg : GV n es) : dg es 0 = 0 := by
  have : ∀ l : List E, (∀ e ∈ l, e ∈ es) → dg l 0 = 0 := by
    intro l
    induction l with
    | nil => intro _; rfl
    | cons e l ih =>
      intro h
      have := ih fun f hf => h f (by simp [hf])
      have ho := hg.okN (h e (by simp))
      unfold okN at ho
      unfold dg at *
      rw [List.map_cons, List.sum_cons, this]
      unfold dgE; rw [if_neg (by omega), if_neg (by omega)]
  exact this es fun _ h => h
theorem dg_all {n : Int} {es : List E} (hg : GV n es) : dg es n = 2 * es.length := by
  have : ∀ l : List E, (∀ e ∈ l, e ∈ es) → dg l n = 2 * l.length := by
    intro l
    induction l with
    | nil => intro _; rfl
    | cons e l ih =>
      intro h
      have := ih fun f hf => h f (by simp [hf])
      have ho := hg.okN (h e (by simp))
      unfold okN at ho
      unfold dg at *
      rw [List.map_cons, List.sum_cons, this]
      unfold dgE; rw [if_pos (by omega), if_pos (by omega), List.length_cons]; omega
  exact this es fun _ h => h
theorem dg_step {n : Int} {es : List E} (hg : GV n es) (k : Int) : dg es k + (nb es k).length = dg es (k + 1) := by
  have : ∀ l : List E, (∀ e ∈ l, e ∈ es) → dg l k + (nb l k).length = dg l (k + 1) := by
    intro l
    induction l with
    | nil => intro _; rfl
    | cons e l ih =>
      intro h
      have := ih fun f hf => h f (by simp [hf])
      have ho := hg.okN (h e (by simp))
      unfold okN at ho
      unfold dg nb at *
      rw [List.map_cons, List.sum_cons, List.map_cons, List.sum_cons, List.flatMap_cons, List.length_append]
      have h1 : dgE k e + (nbE k e).length = dgE (k + 1) e := by
        unfold dgE nbE
        by_cases hA : k = e.A
        · rw [if_pos hA, if_neg (by omega), if_neg (by omega), if_pos (by omega), if_neg (by omega)]; rfl
        · rw [if_neg hA]
          by_cases hB : k = e.B
          · rw [if_pos hB, if_pos (by omega), if_neg (by omega), if_pos (by omega), if_pos (by omega)]; rfl
          · rw [if_neg hB]
            have e1 : (e.A < k) = (e.A < k + 1) := propext ⟨fun _ => by omega, fun _ => by omega⟩
            have e2 : (e.B < k) = (e.B < k + 1) := propext ⟨fun _ => by omega, fun _ => by omega⟩
            simp only [e1, e2, List.length_nil, Nat.add_zero]
      omega
  exact this es fun _ h => h
end Go.Proofs.Ytmjljnhjamlonaa
/- The walk of slices.Sort over a list that is in order: it stays as it is. Conditions: those of each contract. -/
namespace Go.Proofs.Ytmjljnhjamlonaa
open Go
def srtI (xs : List Int) : Prop := ∀ i, 0 < i → i < xs.length → xs.getD (i - 1) 0 ≤ xs.getD i 0
theorem srt_le {xs : List Int} (h : srtI xs) : ∀ j i, i ≤ j → j < xs.length → xs.getD i 0 ≤ xs.getD j 0 := by
  intro j
  induction j with
  | zero => intro i hi _; have : i = 0 := by omega
            subst this; exact Int.le_refl _
  | succ j ih =>
    intro i hi hj
    by_cases e : i = j + 1
    · subst e; exact Int.le_refl _
    · have h1 := ih i (by omega) (by omega)
      have h2 := h (j + 1) (by omega) hj
      simp only [Nat.add_sub_cancel] at h2
      omega
section
variable {P : Program} {G : Ctx} {l : List (Nat × Value)} {F : List Tok}
theorem Op1.idxStr {t : TypeId} {s : ByteArray} {y : Operand} {k : IntKind} {i : Int} (ht : P.underlying t = some .string) (hy : look l y = some (.int k i)) (hi : 0 ≤ i ∧ i < s.size) :
    Op1 P G (.index t (.const (.string s)) y) l F (.int .u8 ((s[i.toNat]'(by omega)).toNat : Nat)) := fun o ho c w hc _ => by
  have hn : c.eval (.const (.string s)) = .string s := rfl
  have h := run_index_string (P := P) w t s k i ht
  rw [dif_pos hi] at h
  simp only [execOp, ho, hc.eval hy, hn, Sem.run_bind, Sem.run_pure, h, Result.andThen_ok]
/-- The library's table of lengths: no zero from place 13 to 15. -/
def tabOk (s : ByteArray) : Bool := Nat.ble 16 s.size && (s.data.getD 13 0 != 0) && (s.data.getD 14 0 != 0) && (s.data.getD 15 0 != 0)
theorem OpE.idxTab {t : TypeId} {s : ByteArray} {y : Operand} {n : Int} (ht : P.underlying t = some .string) (hy : look l y = some (.int .u8 n)) (hn : 0 ≤ n ∧ n < 16) (hs : tabOk s = true) :
    OpE P G (.index t (.const (.string s)) y) l F fun v F' => F' = F ∧ ∃ m : Int, v = .int .u8 m ∧ 0 ≤ m ∧ m ≤ 255 ∧ (13 ≤ n → 1 ≤ m) := by
  unfold tabOk at hs
  simp only [Bool.and_eq_true, bne_iff_ne, ne_eq] at hs
  obtain ⟨⟨⟨h0, h13⟩, h14⟩, h15⟩ := hs
  have hsz : 16 ≤ s.size := Nat.le_of_ble_eq_true h0
  refine OpE.weaken (OpE.ofPure (Op1.idxStr ht hy (by omega))) ?_
  rintro v F' ⟨rfl, rfl⟩
  refine ⟨rfl, _, rfl, by omega, ?_, fun h => ?_⟩
  · have := UInt8.toNat_lt (s[n.toNat]'(by omega)); omega
  · have key : ∀ (k : Nat) (hk : k < s.size), s.data.getD k 0 ≠ 0 → 1 ≤ ((s[k]'hk).toNat : Int) := fun k hk hz => by
      have e : s.data.getD k 0 = s[k]'hk := by
        rw [Array.getD_eq_getD_getElem?, Array.getElem?_eq_getElem hk]; rfl
      rw [e] at hz
      have : (s[k]'hk).toNat ≠ 0 := fun h => hz (UInt8.toNat_inj.1 h)
      omega
    obtain ⟨k, rfl⟩ := Int.eq_ofNat_of_zero_le hn.1
    refine key k (by omega) ?_
    rcases (by omega : k = 13 ∨ k = 14 ∨ k = 15) with rfl | rfl | rfl
    · exact h13
    · exact h14
    · exact h15
theorem Op1.convU8 {a d : TypeId} [hs : TInt P a] {x : Operand} {n : Int} (hx : look l x = some (.int .u64 n)) (hd : P.underlying d = some (.int .u8)) (h : 0 ≤ n ∧ n ≤ 255) :
    Op1 P G (.convert a d x) l F (.int .u8 n) := fun o ho c w hc _ => by
  obtain ⟨k', h1⟩ := hs.out
  have e : IntKind.u8.wrap n = n := by
    simp only [IntKind.wrap, IntKind.bits, IntKind.signed]
    try simp
    omega
  simp [execOp, ho, hc.eval hx, convert, run_underlying h1, run_underlying hd, Conv.intToInt, e]
end
set_option linter.unusedVariables false set_option linter.unusedSimpArgs false attribute [local irreducible] Tok.own Tok.blk RL Rd eptr WP WPL PE WPD WPO Op1 OpE Tri Again Mid Exit.then Exit.inBlock bodyPost RP Code.wp wpList isOwn OneM One
set_option maxHeartbeats 8000000

theorem c_Less (w : World) (x y : Int) : Tri Try.prog 151 [.int .i64 x, .int .i64 y] w [] fun r T => r = .bool (decide (x < y)) ∧ T = [] := by
  refine Tri.intro (hf := Try.func151) (hb := rfl) (hn := Try.ntmps151) (Nat.le_of_ble_eq_true rfl) ?_
  try refine go ⟨?_⟩
  refine WPL.eff (OpE.call lO (fun w hw => c_isNaN _ x)) rfl rfl ?_
  rintro r _ ⟨T, ⟨rfl, rfl⟩, rfl⟩
  try refine go ⟨?_⟩
  refine PE.ret1 (T := []) (T' := []) rfl rV ?_ sT
  exact ⟨rfl, rfl⟩

theorem c_Len64 (w : World) (n : Int) (hn : 0 ≤ n ∧ n < 16) : Tri Try.prog 155 [.int .u64 n] w [] fun r T => T = [] ∧ ∃ m : Int, r = .int .i64 m ∧ 0 ≤ m ∧ m ≤ 255 ∧ (13 ≤ n → 1 ≤ m) := by
  refine Tri.intro (hf := Try.func155) (hb := rfl) (hn := Try.ntmps155) (Nat.le_of_ble_eq_true rfl) ?_
  try refine go ⟨?_⟩
  rw [decide_eq_false (show ¬ (4294967296 : Int) ≤ n by omega)]
  try refine go ⟨?_⟩
  rw [decide_eq_false (show ¬ (65536 : Int) ≤ n by omega)]
  try refine go ⟨?_⟩
  rw [decide_eq_false (show ¬ (256 : Int) ≤ n by omega)]
  have hbox : Nonempty (PLift (0 ≤ n ∧ n < 16)) := ⟨⟨hn⟩⟩
  clear hn
  try refine go ⟨?_⟩
  obtain ⟨⟨hn⟩⟩ := hbox
  refine WPL.pure (Op1.convU8 (n := n) rfl (by kernel_rfl) (by omega)) rfl rfl ?_
  refine WPL.eff (OpE.idxTab (n := n) (by kernel_rfl) rfl hn (by kernel_rfl)) rfl rfl ?_
  rintro r _ ⟨rfl, m, rfl, m1, m2, m3⟩
  try refine go ⟨?_⟩
  refine PE.ret1 (T := []) (T' := []) rfl rV ?_ sT
  exact ⟨rfl, _, rfl, by omega, by omega, fun h => by have := m3 h; omega⟩

theorem c_Len (w : World) (n : Int) (hn : 0 ≤ n ∧ n < 16) : Tri Try.prog 142 [.int .u64 n] w [] fun r T => T = [] ∧ ∃ m : Int, r = .int .i64 m ∧ 0 ≤ m ∧ m ≤ 255 ∧ (13 ≤ n → 1 ≤ m) := by
  refine Tri.intro (hf := Try.func142) (hb := rfl) (hn := Try.ntmps142) (Nat.le_of_ble_eq_true rfl) ?_
  try refine go ⟨?_⟩
  refine WPL.eff (OpE.call lO (fun w hw => c_Len64 _ n hn)) rfl rfl ?_
  rintro r _ ⟨T, ⟨rfl, m, rfl, m1⟩, rfl⟩
  try refine go ⟨?_⟩
  refine PE.ret1 (T := []) (T' := []) rfl rV ?_ sT
  exact ⟨rfl, m, rfl, m1⟩

theorem c_insSort (w : World) (v : Value) (xs : List Int) (h : RL w v xs) (hs : srtI xs) (hl : xs.length ≤ 1000) :
    Tri Try.prog 145 [v, .int .i64 0, .int .i64 xs.length] w [] fun r T => T = [] := by
  refine Tri.intro (hf := Try.func145) (hb := rfl) (hn := Try.ntmps145) (Nat.le_of_ble_eq_true rfl) ?_
  try refine go ⟨?_⟩
  refine WP.loop (σ := Nat) (fun k => [(0, v), (1, .int .i64 0), (2, .int .i64 xs.length), (6, .int .i64 k)]) (fun _ => []) (fun k => 1 ≤ k) (fun k => xs.length - k) 1 (Nat.le_refl _) sE sT ?_
  rintro k hk
  try refine go ⟨?_⟩
  refine WP.condD rfl (fun hc => ?_) (fun hc => ?_)
  · have hk' : k < xs.length := by omega
    have h1 := hs k (by omega) hk'
    have ek : ((k : Int) - 1).toNat = k - 1 := by omega
    try refine go ⟨?_⟩
    refine WP.loop (σ := Unit) (fun _ => [(0, v), (1, .int .i64 0), (2, .int .i64 xs.length), (6, .int .i64 k), (7, .int .i64 k)]) (fun _ => []) (fun _ => True) (fun _ => 0) () trivial sE sT ?_
    rintro _ _
    try refine go ⟨?_⟩
    refine WP.draw [] mixed ?_
    refine WPD.take 0 rfl (Op1.move rfl) rfl rfl sT kR kR kR xQP ?_
    refine WPD.take 1 rfl (Op1.move rfl) rfl rfl sT kR kR kR xQP ?_
    refine WPD.take 2 rfl (Op1.gtI rfl rfl) rfl rfl sT kR kR kR xQP ?_
    refine WPD.take 3 rfl (Op1.move rfl) rfl rfl sT kR kR kR xQP ?_
    first | refine WPD.splitD 19 rfl (fun h19 => ?t1) (fun h19 => ?f1) | refine WPD.split 19 rfl (fun h19 => ?t1) (fun h19 => ?f1)
    case' t1 =>
      refine WPD.take 4 rfl (Op1.move rfl) rfl rfl sT kR kR kR xQP ?_
      refine WPD.take 5 rfl (Op1.move rfl) rfl rfl sT kR kR kR xQP ?_
      refine WPD.take 8 rfl (Op1.move rfl) rfl rfl sT kR kR kR xQP ?_
      refine WPD.take 9 rfl (Op1.move rfl) rfl rfl sT kR kR kR xQP ?_
      refine WPD.take 6 rfl (by first | exact (Op1.indexAddr rfl rfl rD lT) | exact (Op1.indexAddrZ rfl rfl rD lT)) rfl rfl sT kR kR kR xQP ?_
      refine WPD.take 10 rfl (Op1.sub rfl rfl (by omega)) rfl rfl sT kR kR kR xQP ?_
      refine WPD.take 7 rfl (by first | exact (Op1.load rfl mM (by rfl)) | exact (Op1.loadI rfl rD lT) | exact (Op1.loadAll rfl mM (by rfl)) | exact (Op1.loadE rfl rD lT (by rfl)) | exact (Op1.loadEAgg rfl rD lT (by rfl))) rfl rfl sT kR kR kR xQP ?_
      refine WPD.take 11 rfl (by first | exact (Op1.indexAddr rfl rfl rD lT) | exact (Op1.indexAddrZ rfl rfl rD lT)) rfl rfl sT kR kR kR xQP ?_
      refine WPD.take 12 rfl (by first | exact (Op1.load rfl mM (by rfl)) | exact (Op1.loadI rfl rD lT) | exact (Op1.loadAll rfl mM (by rfl)) | exact (Op1.loadE rfl rD lT (by rfl)) | exact (Op1.loadEAgg rfl rD lT (by rfl))) rfl rfl sT kR kR kR xQP ?_
      refine WPD.eff 13 kR rfl (OpE.call lO (fun w hw => c_Less _ (xs.getD k 0) (xs.getD ((k : Int) - 1).toNat 0))) rfl rfl ?_
      rintro r _ ⟨T, ⟨rfl, rfl⟩, rfl⟩
      rw [ek, decide_eq_false (show ¬ xs.getD k 0 < xs.getD (k - 1) 0 by omega)]
      refine ⟨sT, ?_⟩
      refine WPD.take 14 rfl (by first | exact (Op1.pickT rfl rfl) | exact (Op1.pickF rfl rfl)) rfl rfl sT kR kR kR xQP ?_
      refine WPD.done kR ?_
    case' f1 =>
      refine WPD.skip 4 rfl rfl rfl sT kR kR kR xQP ?_
      refine WPD.skip 5 rfl rfl rfl sT kR kR kR xQP ?_
      refine WPD.skip 8 rfl rfl rfl sT kR kR kR xQP ?_
      refine WPD.skip 9 rfl rfl rfl sT kR kR kR xQP ?_
      refine WPD.skip 6 rfl rfl rfl sT kR kR kR xQP ?_
      refine WPD.skip 10 rfl rfl rfl sT kR kR kR xQP ?_
      refine WPD.skip 7 rfl rfl rfl sT kR kR kR xQP ?_
      refine WPD.skip 11 rfl rfl rfl sT kR kR kR xQP ?_
      refine WPD.skip 12 rfl rfl rfl sT kR kR kR xQP ?_
      refine WPD.skip 13 rfl rfl rfl sT kR kR kR xQP ?_
      refine WPD.take 14 rfl (by first | exact (Op1.pickT rfl rfl) | exact (Op1.pickF rfl rfl)) rfl rfl sT kR kR kR xQP ?_
      refine WPD.done kR ?_
    all_goals (
      try refine go ⟨?_⟩
      refine PE.again (k + 1) ?_ ?_ sE sT2
      · (try dsimp only); omega
      · (try dsimp only); omega)
  · try refine go ⟨?_⟩
    refine PE.end0 (T := []) (T' := []) rfl rfl sT2

theorem c_order2 (w : World) (v : Value) (xs : List Int) (a b pb : Nat) (u : Value) (h : RL w v xs) (hd : ∀ c ∈ vfp v, c ≠ pb) (hb : b < xs.length) (ha : a < xs.length) (hle : xs.getD a 0 ≤ xs.getD b 0) :
    Tri Try.prog 161 [v, .int .i64 a, .int .i64 b, .pointer (some ⟨pb, 0, none⟩)] w [Tok.blk pb [u]] fun r T => r = .tuple #[.int .i64 a, .int .i64 b] ∧ T = [Tok.blk pb [u]] := by
  have hA : RdA ⟨28, w, fps [Tok.blk pb [u]]⟩ v xs := RdA.mk h (fun c hc => by
    have := hd c hc
    rw [fps_blk]; simpa using this)
  refine Tri.intro (hf := Try.func161) (hb := rfl) (hn := Try.ntmps161) (Nat.le_of_ble_eq_true rfl) ?_
  try refine goA ⟨?_⟩
  refine WP.draw [Tok.blk pb [u]] mixed ?_
  refine WPD.take 0 rfl (Op1.move rfl) rfl rfl sT kR kR kR xQP ?_
  refine WPD.take 1 rfl (Op1.move rfl) rfl rfl sT kR kR kR xQP ?_
  refine WPD.take 4 rfl (Op1.move rfl) rfl rfl sT kR kR kR xQP ?_
  refine WPD.take 5 rfl (Op1.move rfl) rfl rfl sT kR kR kR xQP ?_
  refine WPD.take 2 rfl (by first | exact (Op1.indexAddr rfl rfl rDA lT) | exact (Op1.indexAddrZ rfl rfl rDA lT)) rfl rfl sT kR kR kR xQP ?_
  refine WPD.take 6 rfl (by first | exact (Op1.indexAddr rfl rfl rDA lT) | exact (Op1.indexAddrZ rfl rfl rDA lT)) rfl rfl sT kR kR kR xQP ?_
  refine WPD.take 3 rfl (by first | exact (Op1.load rfl mM (by rfl)) | exact (Op1.loadI rfl rDA lT) | exact (Op1.loadAll rfl mM (by rfl)) | exact (Op1.loadE rfl rDA lT (by rfl)) | exact (Op1.loadEAgg rfl rDA lT (by rfl))) rfl rfl sT kR kR kR xQP ?_
  refine WPD.take 7 rfl (by first | exact (Op1.load rfl mM (by rfl)) | exact (Op1.loadI rfl rDA lT) | exact (Op1.loadAll rfl mM (by rfl)) | exact (Op1.loadE rfl rDA lT (by rfl)) | exact (Op1.loadEAgg rfl rDA lT (by rfl))) rfl rfl sT kR kR kR xQP ?_
  refine WPD.eff 8 kR rfl (OpE.call lO (fun w hw => c_Less _ (xs.getD b 0) (xs.getD a 0))) rfl rfl ?_
  rintro r _ ⟨T, ⟨rfl, rfl⟩, rfl⟩
  rw [decide_eq_false (show ¬ xs.getD b 0 < xs.getD a 0 by omega)]
  refine ⟨sT, ?_⟩
  refine WPD.done kR ?_
  try refine goA ⟨?_⟩
  refine PE.ret2 (T := [Tok.blk pb [u]]) (T' := [Tok.blk pb [u]]) rfl rV ?_ sT2
  exact ⟨rfl, rfl⟩

theorem c_median (w : World) (v : Value) (xs : List Int) (a b c pb : Nat) (u : Value) (h : RL w v xs) (hd : ∀ c ∈ vfp v, c ≠ pb) (hs : srtI xs) (h1 : a ≤ b) (h2 : b ≤ c) (h3 : c < xs.length) :
    Tri Try.prog 160 [v, .int .i64 a, .int .i64 b, .int .i64 c, .pointer (some ⟨pb, 0, none⟩)] w [Tok.blk pb [u]] fun r T => r = .int .i64 b ∧ T = [Tok.blk pb [u]] := by
  have hA : RdA ⟨36, w, fps [Tok.blk pb [u]]⟩ v xs := RdA.mk h (fun c hc => by
    have := hd c hc
    rw [fps_blk]; simpa using this)
  have l1 := srt_le hs b a h1 (by omega)
  have l2 := srt_le hs c b h2 h3
  refine Tri.intro (hf := Try.func160) (hb := rfl) (hn := Try.ntmps160) (Nat.le_of_ble_eq_true rfl) ?_
  try refine goA ⟨?_⟩
  refine WPL.eff (OpE.callT (T := [Tok.blk pb [u]]) lO pM2 (fun w hw => c_order2 _ v xs a b pb u (Rd.at rDA hw) hd (by omega) (by omega) l1)) rfl rfl ?_
  rintro r _ ⟨T, ⟨rfl, rfl⟩, rfl⟩
  try refine goA ⟨?_⟩
  refine WPL.eff (OpE.callT (T := [Tok.blk pb [u]]) lO pM2 (fun w hw => c_order2 _ v xs b c pb u (Rd.at rDA hw) hd (by omega) (by omega) l2)) rfl rfl ?_
  rintro r _ ⟨T, ⟨rfl, rfl⟩, rfl⟩
  try refine goA ⟨?_⟩
  refine WPL.eff (OpE.callT (T := [Tok.blk pb [u]]) lO pM2 (fun w hw => c_order2 _ v xs a b pb u (Rd.at rDA hw) hd (by omega) (by omega) l1)) rfl rfl ?_
  rintro r _ ⟨T, ⟨rfl, rfl⟩, rfl⟩
  try refine goA ⟨?_⟩
  refine PE.ret1 (T := [Tok.blk pb [u]]) (T' := [Tok.blk pb [u]]) rfl rV ?_ sT2
  exact ⟨rfl, rfl⟩

theorem c_pivot (w : World) (v : Value) (xs : List Int) (h : RL w v xs) (hs : srtI xs) (hl : 13 ≤ xs.length ∧ xs.length ≤ 15) :
    Tri Try.prog 148 [v, .int .i64 0, .int .i64 xs.length] w [] fun r T => T = [] ∧ ∃ k : Int, r = .tuple #[.int .i64 k, .int .i64 1] := by
  have e4 : ((xs.length : Nat) : Int) / 4 = 3 := by omega
  refine Tri.intro (hf := Try.func148) (hb := rfl) (hn := Try.ntmps148) (Nat.le_of_ble_eq_true rfl) ?_
  try refine go ⟨?_⟩
  rw [Int.sub_zero]
  refine WPL.eff OpE.alloc rfl rfl ?_; rintro _ _ ⟨b9, rfl, rfl⟩
  try refine go ⟨?_⟩
  rw [e4]
  try refine go ⟨?_⟩
  rw [decide_eq_true (show (8 : Int) ≤ ((xs.length : Nat) : Int) by omega)]
  try refine go ⟨?_⟩
  rw [decide_eq_false (show ¬ (50 : Int) ≤ ((xs.length : Nat) : Int) by omega)]
  try refine go ⟨?_⟩
  refine WPL.eff (OpE.callT (T := [Tok.blk b9 [.int .i64 0]]) lO pM2 (fun w hw => c_median _ v xs 3 6 9 b9 (.int .i64 0) (Rd.at rD hw) (hw.ne mM h) hs (by omega) (by omega) (by omega))) rfl rfl ?_
  rintro r _ ⟨T, ⟨rfl, rfl⟩, rfl⟩
  try refine go ⟨?_⟩
  refine PE.ret2 (T := []) (T' := []) rfl rV ?_ sT2
  exact ⟨rfl, _, rfl⟩

theorem c_partial (w : World) (v : Value) (xs : List Int) (h : RL w v xs) (hs : srtI xs) (hl : 1 ≤ xs.length ∧ xs.length ≤ 1000) :
    Tri Try.prog 150 [v, .int .i64 0, .int .i64 xs.length] w [] fun r T => T = [] ∧ r = .bool true := by
  refine Tri.intro (hf := Try.func150) (hb := rfl) (hn := Try.ntmps150) (Nat.le_of_ble_eq_true rfl) ?_
  try refine go ⟨?_⟩
  refine WP.loop (σ := Unit) (fun _ => [(0, v), (1, .int .i64 0), (2, .int .i64 xs.length), (7, .int .i64 1), (8, .int .i64 0)]) (fun _ => []) (fun _ => True) (fun _ => 0) () trivial sE sT ?_
  rintro _ _
  try refine go ⟨?_⟩
  refine WP.loop (σ := Nat) (fun k => [(0, v), (1, .int .i64 0), (2, .int .i64 xs.length), (7, .int .i64 k), (8, .int .i64 0)]) (fun _ => []) (fun k => 1 ≤ k ∧ k ≤ xs.length) (fun k => xs.length - k) 1 ⟨Nat.le_refl _, hl.1⟩ sE sT ?_
  rintro k ⟨hk, hk2⟩
  have ek : ((k : Int) - 1).toNat = k - 1 := by omega
  try refine go ⟨?_⟩
  refine WP.draw [] mixed ?_
  refine WPD.take 0 rfl (Op1.move rfl) rfl rfl sT kR kR kR xQP ?_
  refine WPD.take 1 rfl (Op1.move rfl) rfl rfl sT kR kR kR xQP ?_
  refine WPD.take 2 rfl (Op1.ltI rfl rfl) rfl rfl sT kR kR kR xQP ?_
  refine WPD.take 3 rfl (Op1.move rfl) rfl rfl sT kR kR kR xQP ?_
  first | refine WPD.splitD 20 rfl (fun h20 => ?t2) (fun h20 => ?f2) | refine WPD.split 20 rfl (fun h20 => ?t2) (fun h20 => ?f2)
  case' t2 =>
    refine WPD.take 4 rfl (Op1.move rfl) rfl rfl sT kR kR kR xQP ?_
    refine WPD.take 5 rfl (Op1.move rfl) rfl rfl sT kR kR kR xQP ?_
    refine WPD.take 8 rfl (Op1.move rfl) rfl rfl sT kR kR kR xQP ?_
    refine WPD.take 9 rfl (Op1.move rfl) rfl rfl sT kR kR kR xQP ?_
    refine WPD.take 6 rfl (by first | exact (Op1.indexAddr rfl rfl rD lT) | exact (Op1.indexAddrZ rfl rfl rD lT)) rfl rfl sT kR kR kR xQP ?_
    refine WPD.take 10 rfl (Op1.sub rfl rfl (by omega)) rfl rfl sT kR kR kR xQP ?_
    refine WPD.take 7 rfl (by first | exact (Op1.load rfl mM (by rfl)) | exact (Op1.loadI rfl rD lT) | exact (Op1.loadAll rfl mM (by rfl)) | exact (Op1.loadE rfl rD lT (by rfl)) | exact (Op1.loadEAgg rfl rD lT (by rfl))) rfl rfl sT kR kR kR xQP ?_
    refine WPD.take 11 rfl (by first | exact (Op1.indexAddr rfl rfl rD lT) | exact (Op1.indexAddrZ rfl rfl rD lT)) rfl rfl sT kR kR kR xQP ?_
    refine WPD.take 12 rfl (by first | exact (Op1.load rfl mM (by rfl)) | exact (Op1.loadI rfl rD lT) | exact (Op1.loadAll rfl mM (by rfl)) | exact (Op1.loadE rfl rD lT (by rfl)) | exact (Op1.loadEAgg rfl rD lT (by rfl))) rfl rfl sT kR kR kR xQP ?_
    refine WPD.eff 13 kR rfl (OpE.call lO (fun w hw => c_Less _ (xs.getD k 0) (xs.getD ((k : Int) - 1).toNat 0))) rfl rfl ?_
    rintro r _ ⟨T, ⟨rfl, rfl⟩, rfl⟩
    rw [ek, decide_eq_false (show ¬ xs.getD k 0 < xs.getD (k - 1) 0 by have := hs k (by omega) (by omega); omega)]
    refine ⟨sT, ?_⟩
    refine WPD.take 14 rfl (by first | exact (Op1.notD rfl) | exact (Op1.not rfl)) rfl rfl sT kR kR kR xQP ?_
    refine WPD.take 15 rfl (by first | exact (Op1.pickT rfl rfl) | exact (Op1.pickF rfl rfl)) rfl rfl sT kR kR kR xQP ?_
    refine WPD.done kR ?_
  case' f2 =>
    refine WPD.skip 4 rfl rfl rfl sT kR kR kR xQP ?_
    refine WPD.skip 5 rfl rfl rfl sT kR kR kR xQP ?_
    refine WPD.skip 8 rfl rfl rfl sT kR kR kR xQP ?_
    refine WPD.skip 9 rfl rfl rfl sT kR kR kR xQP ?_
    refine WPD.skip 6 rfl rfl rfl sT kR kR kR xQP ?_
    refine WPD.skip 10 rfl rfl rfl sT kR kR kR xQP ?_
    refine WPD.skip 7 rfl rfl rfl sT kR kR kR xQP ?_
    refine WPD.skip 11 rfl rfl rfl sT kR kR kR xQP ?_
    refine WPD.skip 12 rfl rfl rfl sT kR kR kR xQP ?_
    refine WPD.skip 13 rfl rfl rfl sT kR kR kR xQP ?_
    refine WPD.skip 14 rfl rfl rfl sT kR kR kR xQP ?_
    refine WPD.take 15 rfl (by first | exact (Op1.pickT rfl rfl) | exact (Op1.pickF rfl rfl)) rfl rfl sT kR kR kR xQP ?_
    refine WPD.done kR ?_
  · have hkn : k = xs.length := by omega
    subst hkn
    try refine go ⟨?_⟩
    rw [decide_eq_true rfl]
    try refine go ⟨?_⟩
    refine PE.ret1 (T := []) (T' := []) rfl rV ?_ sT
    exact ⟨rfl, rfl⟩
  · try refine go ⟨?_⟩
    refine PE.again (k + 1) ?_ ?_ sE sT2
    · (try dsimp only); omega
    · (try dsimp only); omega

theorem c_pdq (w : World) (v : Value) (xs : List Int) (m : Int) (h : RL w v xs) (hs : srtI xs) (hl : xs.length ≤ 15) (hm : 13 ≤ xs.length → m ≠ 0) :
    Tri Try.prog 141 [v, .int .i64 0, .int .i64 xs.length, .int .i64 m] w [] fun r T => T = [] := by
  refine Tri.intro (hf := Try.func141) (hb := rfl) (hn := Try.ntmps141) (Nat.le_of_ble_eq_true rfl) ?_
  try refine go ⟨?_⟩
  refine WP.loop (σ := Unit) (fun _ => [(0, v), (1, .int .i64 0), (2, .int .i64 xs.length), (3, .int .i64 m), (8, .bool true), (9, .bool true)]) (fun _ => []) (fun _ => True) (fun _ => 0) () trivial sE sT ?_
  rintro _ _
  try refine go ⟨?_⟩
  rw [Int.sub_zero]
  try refine go ⟨?_⟩
  refine WP.condD rfl (fun hc => ?_) (fun hc => ?_)
  · try refine go ⟨?_⟩
    refine WPL.eff (OpE.call lO (fun w hw => c_insSort _ v xs (Rd.at rD hw) hs (by omega))) rfl rfl ?_
    rintro r _ ⟨T, rfl, rfl⟩
    try refine go ⟨?_⟩
    refine PE.ret0 (T := []) (T' := []) rfl rfl sT2
  try refine go ⟨?_⟩
  rw [decide_eq_false (hm (by omega))]
  try refine go ⟨?_⟩
  refine WPL.eff (OpE.call lO (fun w hw => c_pivot _ v xs (Rd.at rD hw) hs (by omega))) rfl rfl ?_
  rintro r _ ⟨T, ⟨rfl, k, rfl⟩, rfl⟩
  try refine go ⟨?_⟩
  refine WPL.eff (OpE.call lO (fun w hw => c_partial _ v xs (Rd.at rD hw) hs (by omega))) rfl rfl ?_
  rintro r _ ⟨T, ⟨rfl, rfl⟩, rfl⟩
  try refine go ⟨?_⟩
  refine PE.ret0 (T := []) (T' := []) rfl rfl sT2

theorem c_Sort (w : World) (v : Value) (xs : List Int) (h : RL w v xs) (hs : srtI xs) (hl : xs.length ≤ 15) :
    Tri Try.prog 134 [v] w [] fun r T => T = [] := by
  obtain ⟨n, hn⟩ : ∃ n, n = xs.length := ⟨_, rfl⟩
  rw [← hn] at hl
  have hbox : Nonempty (PLift (n ≤ 15)) := ⟨⟨hl⟩⟩
  clear hl
  refine Tri.intro (hf := Try.func134) (hb := rfl) (hn := Try.ntmps134) (Nat.le_of_ble_eq_true rfl) ?_
  try refine go ⟨?_⟩
  rw [← hn]
  try refine go ⟨?_⟩
  obtain ⟨⟨hl⟩⟩ := hbox
  refine WPL.pure (Op1.convU (n := (n : Int)) rfl (by kernel_rfl) (by omega)) rfl rfl ?_
  refine WPL.eff (OpE.call lO (fun w hw => c_Len _ n (by omega))) rfl rfl ?_
  rintro r _ ⟨T, ⟨rfl, m, rfl, m1, m2, m3⟩, rfl⟩
  rw [hn] at m3 ⊢
  try refine go ⟨?_⟩
  refine WPL.eff (OpE.call lO (fun w hw => c_pdq _ v xs m (Rd.at rD hw) hs (by omega) (fun h => by have := m3 (by omega); omega))) rfl rfl ?_
  rintro r _ ⟨T, rfl, rfl⟩
  try refine go ⟨?_⟩
  refine PE.end0 (T := []) (T' := []) rfl rfl sT2
end Go.Proofs.Ytmjljnhjamlonaa
/- Neighbours: the walks of both programs. Conditions: those of each contract. -/
namespace Go.Proofs.Ytmjljnhjamlonaa
open Go
theorem srtI_of {xs : List Int} (h : xs.Pairwise (· < ·)) : srtI xs := fun i h1 h2 => by
  have := List.pairwise_iff_getElem.1 h (i - 1) i (by omega) h2 (by omega)
  rw [List.getD_eq_getElem?_getD, List.getD_eq_getElem?_getD, List.getElem?_eq_getElem h2, List.getElem?_eq_getElem (by omega)]
  show xs[i - 1] ≤ xs[i]
  omega
theorem nb_len15 {n : Int} {es : List E} (hg : GV n es) {x : Int} (hx : Nd n x) : (nb es x).length ≤ 15 := by
  rw [nb_eq hg]
  have h1 : x ∉ nxt n es x := fun h => ((mem_nxt (by have := hg.1; omega)).1 h).2.1 rfl
  have hsub : (x :: nxt n es x).Nodup := List.nodup_cons.2 ⟨h1, (iota_nodup _).sublist List.filter_sublist⟩
  have hin : ∀ a ∈ x :: nxt n es x, 0 ≤ a ∧ a < ((n.toNat : Nat) : Int) := fun a ha => by
    have e : ((n.toNat : Nat) : Int) = n := Int.toNat_of_nonneg (by have := hg.1; omega)
    rcases List.mem_cons.1 ha with rfl | ha
    · rw [e]; exact hx
    · rw [e]; exact ((mem_nxt (by have := hg.1; omega)).1 ha).1
  have := pigeonI hin hsub
  have := hg.2.1
  rw [List.length_cons] at *
  omega
theorem nxt_take {n : Int} {es : List E} {x : Int} {k : Nat} (hk : k < n.toNat) : ((iota n.toNat).take (k + 1)).filter (fun i => decide (i ≠ x ∧ jnE i x ∈ es)) = if (k : Int) ≠ x ∧ jnE k x ∈ es then ((iota n.toNat).take k).filter (fun i => decide (i ≠ x ∧ jnE i x ∈ es)) ++ [(k : Int)] else ((iota n.toNat).take k).filter (fun i => decide (i ≠ x ∧ jnE i x ∈ es)) := by
  rw [take_succD 0 (by rw [iota_length]; exact hk), List.filter_append, iota_get hk]
  by_cases h : (k : Int) ≠ x ∧ jnE k x ∈ es
  · rw [if_pos h, List.filter_cons, if_pos (decide_eq_true h), List.filter_nil]
  · rw [if_neg h, List.filter_cons, if_neg (fun hh => h (of_decide_eq_true hh)), List.filter_nil, List.append_nil]
def nbR (n : Int) (es : List E) (x : Int) : List Int := if GN n es x then nb es x else []
theorem nbR_len (n : Int) (es : List E) (x : Int) : (nbR n es x).length ≤ 16 := by
  unfold nbR
  split
  · rename_i h; exact nb_le h.1 x
  · exact Nat.zero_le _
theorem s_FindJ (w : World) (v : Value) (e : E) (es : List E) (h : RL w v es) (hl : es.length ≤ 1099511627776) :
    Tri Try.prog 105 [v, ep e] w [] fun r T => T = [] ∧ ∃ k : Int, r = .int .i64 k ∧ (0 ≤ k ↔ e ∈ es) :=
  fun hn hh => (s_Find w v e es h hl hn hh).mono fun _ w' ⟨r, T, h1, h2, h3⟩ => ⟨r, T, h1, ⟨h2.1, by
    rcases h2.2 with ⟨q, n, _, rfl, _⟩ | ⟨q, rfl⟩
    · exact ⟨_, rfl, fun _ => q, fun _ => Int.natCast_nonneg n⟩
    · exact ⟨_, rfl, fun hh => absurd hh (by decide), fun hh => absurd hh q⟩⟩, h3⟩

set_option linter.unusedVariables false set_option linter.unusedSimpArgs false attribute [local irreducible] Tok.own Tok.blk RL Rd eptr WP WPL PE WPD WPO Op1 OpE Tri Again Mid Exit.then Exit.inBlock bodyPost RP Code.wp wpList isOwn OneM One
attribute [local irreducible] GV
set_option maxHeartbeats 8000000

theorem c_neighbors (w : World) (n : Int) (vE : Value) (es : List E) (x : Int) (hE : RL w vE es) (hg : GV n es) (hx : Nd n x) (hl : es.length ≤ 40) :
    Tri Try.prog 110 [.agg #[.int .i64 n, vE], .int .i64 x] w [] fun r T => T = [Tok.own r (nb es x)] := by
  have hsrt := srtI_of (nb_sorted hg x)
  have h15 := nb_len15 hg hx
  refine Tri.intro (hf := Try.func110) (hb := rfl) (hn := Try.ntmps110) (Nat.le_of_ble_eq_true rfl) ?_
  try refine go ⟨?_⟩
  refine WPL.eff (OpE.box rfl) rfl rfl ?_; rintro _ _ ⟨b, rfl, rfl⟩
  try refine go ⟨?_⟩
  refine WPL.eff (OpE.buildSlice ([] : List Int) pA rfl (by decide)) rfl rfl ?_; rintro v0 _ rfl
  try refine go ⟨?_⟩
  refine WP.loop (σ := Nat × Value) (fun q => [(1, .int .i64 x), (2, ptrV b), (5, q.2), (10, vE), (11, .int .i64 es.length), (12, .int .i64 q.1)]) (fun q => [Tok.own q.2 (nb (es.take q.1) x), Tok.blk b [.int .i64 n, vE]]) (fun q => q.1 ≤ es.length) (fun q => es.length - q.1) (0, v0) (Nat.zero_le _) sE sT2 ?_
  rintro ⟨k, v⟩ hk
  dsimp only at hk ⊢
  have hnl := nb_short (es.take k) x
  rw [List.length_take] at hnl
  try refine go ⟨?_⟩
  refine WP.condD rfl (fun hc => ?_) (fun hc => ?_)
  · have hk' : k < es.length := by omega
    have hstep := nb_take (x := x) hk'
    try refine go ⟨?_⟩
    refine WPL.eff OpE.alloc rfl rfl ?_; rintro _ _ ⟨b7, rfl, rfl⟩
    try refine go ⟨?_⟩
    refine WP.condD rfl (fun hA => ?_) (fun hA => ?_)
    · have hA : x = (es.getD k eD).A := hA
      have e1 : nbE x (es.getD k eD) = [(es.getD k eD).B] := if_pos hA
      try refine go ⟨?_⟩
      refine WPL.eff (OpE.buildSlice [(es.getD k eD).B] pA rfl (by decide)) rfl rfl ?_; rintro s1 _ rfl
      try refine go ⟨?_⟩
      refine WPL.eff (OpE.append rfl rfl pM rD lN) rfl rfl ?_; rintro v1 _ rfl
      rw [← e1, ← hstep]
      try refine go ⟨?_⟩
      refine PE.again (k + 1, v1) ?_ ?_ sE sT2
      · (try dsimp only); omega
      · (try dsimp only); omega
    have hA : ¬ x = (es.getD k eD).A := hA
    try refine go ⟨?_⟩
    refine WP.condD rfl (fun hB => ?_) (fun hB => ?_)
    · have hB : x = (es.getD k eD).B := hB
      have e1 : nbE x (es.getD k eD) = [(es.getD k eD).A] := by unfold nbE; rw [if_neg hA, if_pos hB]
      try refine go ⟨?_⟩
      refine WPL.eff (OpE.buildSlice [(es.getD k eD).A] pA rfl (by decide)) rfl rfl ?_; rintro s1 _ rfl
      try refine go ⟨?_⟩
      refine WPL.eff (OpE.append rfl rfl pM rD lN) rfl rfl ?_; rintro v1 _ rfl
      rw [← e1, ← hstep]
      try refine go ⟨?_⟩
      refine PE.again (k + 1, v1) ?_ ?_ sE sT2
      · (try dsimp only); omega
      · (try dsimp only); omega
    have hB : ¬ x = (es.getD k eD).B := hB
    have e1 : nbE x (es.getD k eD) = [] := by unfold nbE; rw [if_neg hA, if_neg hB]
    rw [e1, List.append_nil] at hstep
    rw [← hstep]
    try refine go ⟨?_⟩
    refine PE.again (k + 1, v) ?_ ?_ sE sT2
    · (try dsimp only); omega
    · (try dsimp only); omega
  · have hkn : k = es.length := by omega
    subst hkn
    rw [List.take_length]
    try refine go ⟨?_⟩
    refine WPL.eff (OpE.call lO (fun w hw => c_Sort _ v (nb es x) (Rd.at rD hw) hsrt h15)) rfl rfl ?_
    rintro r _ ⟨T, rfl, rfl⟩
    try refine go ⟨?_⟩
    refine PE.ret1 (T := []) (T' := [Tok.own v (nb es x)]) rfl rV ?_ sT2
    rfl

theorem c_NeighborsOf (w : World) (n : Int) (vE : Value) (es : List E) (x : Int) (hE : RL w vE es) (hl : es.length ≤ 1099511627776) :
    Tri Try.prog 66 [.agg #[.int .i64 n, vE], .int .i64 x] w [] fun r T => T = [Tok.own r (nbR n es x)] := by
  have hGN : GN n es x → GV n es ∧ Nd n x ∧ es.length ≤ 40 := fun h => ⟨h.1, h.2, by have := h.1; unfold GV at this; exact this.2.2.1⟩
  refine Tri.intro (hf := Try.func66) (hb := rfl) (hn := Try.ntmps66) (Nat.le_of_ble_eq_true rfl) ?_
  try refine go ⟨?_⟩
  refine WPL.eff (OpE.box rfl) rfl rfl ?_; rintro _ _ ⟨b, rfl, rfl⟩
  try refine go ⟨?_⟩
  refine WPL.eff (OpE.call lO (fun w hw => c_hasNodeG _ n vE es x (Rd.at rD hw) hl)) rfl rfl ?_
  rintro r _ ⟨T, ⟨rfl, rfl⟩, rfl⟩
  by_cases h : GN n es x
  · have e : nbR n es x = nb es x := if_pos h
    rw [decide_eq_true h, e]
    obtain ⟨h1, h2, h3⟩ := hGN h
    try refine go ⟨?_⟩
    refine WPL.eff (OpE.call lO (fun w hw => c_neighbors _ n vE es x (Rd.at rD hw) h1 h2 h3)) rfl rfl ?_
    rintro r _ ⟨T, rfl, rfl⟩
    try refine go ⟨?_⟩
    refine PE.ret1 (T := []) (T' := [Tok.own r (nb es x)]) rfl rV ?_ sT2
    rfl
  · have e : nbR n es x = [] := if_neg h
    rw [decide_eq_false h, e]
    try refine go ⟨?_⟩
    refine PE.nilTok Int ?_
    refine PE.ret1 (T := []) (T' := [Tok.own (.slice none 0 0) ([] : List Int)]) rfl rV ?_ sT2
    rfl

theorem s_EdgeJ (w : World) (x y : Int) : Tri Try.prog 129 [.int .i64 x, .int .i64 y] w [] fun r T => T = [] ∧ r = ep (jnE x y) := by
  refine Tri.intro (hf := Try.func129) (hb := rfl) (hn := Try.ntmps129) (Nat.le_of_ble_eq_true rfl) ?_
  try refine go ⟨?_⟩
  refine WPL.eff OpE.alloc rfl rfl ?_; rintro _ _ ⟨b, rfl, rfl⟩
  repeat' (first | exact absurd rfl hc | refine go ⟨?_⟩ | (refine isCond ?_; refine WP.condD rfl (fun hc => ?_) (fun hc => ?_)) | (refine isGuard ?_; refine WPL.splitD rfl rfl (fun hc => ?_) (fun hc => ?_)))
  all_goals (refine PE.ret1 (T := []) (T' := []) rfl rV ?_ sT)
  · exact ⟨rfl, by unfold jnE; rw [if_pos ‹_›]; rfl⟩
  · exact ⟨rfl, by unfold jnE; rw [if_neg ‹_›]; rfl⟩
theorem s_Next (w : World) (n : Int) (vE : Value) (es : List E) (x : Int) (hE : RL w vE es) (hn : 0 ≤ n ∧ n ≤ 16) (hl : es.length ≤ 1000) :
    Tri Try.prog 111 [.agg #[.int .i64 n, vE], .int .i64 x] w [] fun r T => T = [Tok.own r (nxt n es x)] := by
  have hnx : nxt n es x = ((iota n.toNat).take n.toNat).filter (fun i => decide (i ≠ x ∧ jnE i x ∈ es)) := by
    have := List.take_length (l := iota n.toNat)
    rw [iota_length] at this
    rw [this]; rfl
  refine Tri.intro (hf := Try.func111) (hb := rfl) (hn := Try.ntmps111) (Nat.le_of_ble_eq_true rfl) ?_
  try refine go ⟨?_⟩
  refine WPL.eff (OpE.box rfl) rfl rfl ?_; rintro _ _ ⟨b, rfl, rfl⟩
  try refine go ⟨?_⟩
  refine WPL.eff (OpE.buildSlice ([] : List Int) pA rfl (by decide)) rfl rfl ?_; rintro v0 _ rfl
  try refine go ⟨?_⟩
  refine WP.loop (σ := Nat × Value) (fun q => [(1, .int .i64 x), (2, ptrV b), (5, q.2), (6, .int .i64 q.1)]) (fun q => [Tok.own q.2 (((iota n.toNat).take q.1).filter (fun i => decide (i ≠ x ∧ jnE i x ∈ es))), Tok.blk b [.int .i64 n, vE]]) (fun q => q.1 ≤ n.toNat) (fun q => n.toNat - q.1) (0, v0) (Nat.zero_le _) sE sT2 ?_
  rintro ⟨k, v⟩ hk
  dsimp only at hk ⊢
  have hfl := filt_le (iota n.toNat) k (fun i => decide (i ≠ x ∧ jnE i x ∈ es))
  rw [iota_length] at hfl
  try refine go ⟨?_⟩
  refine WP.condD rfl (fun hc => ?_) (fun hc => ?_)
  · have hk' : k < n.toNat := by omega
    have hstep := nxt_take (es := es) (x := x) hk'
    try refine go ⟨?_⟩
    refine WP.cutK (σ := Unit) (fun _ => [(1, .int .i64 x), (2, ptrV b), (5, v), (6, .int .i64 k), (25, .bool (decide ((k : Int) ≠ x ∧ jnE k x ∈ es)))]) (fun _ => [Tok.own v (((iota n.toNat).take k).filter (fun i => decide (i ≠ x ∧ jnE i x ∈ es))), Tok.blk b [.int .i64 n, vE]]) (fun _ => True) ?_ ?_
    · refine WP.draw [Tok.own v (((iota n.toNat).take k).filter (fun i => decide (i ≠ x ∧ jnE i x ∈ es))), Tok.blk b [.int .i64 n, vE]] mixed ?_
      refine WPD.take 0 rfl (Op1.move rfl) rfl rfl sT kR kR kR xQP ?_
      refine WPD.take 1 rfl (Op1.move rfl) rfl rfl sT kR kR kR xQP ?_
      refine WPD.take 2 rfl (by first | exact (Op1.neI rfl rfl) | exact (Op1.neB rfl rfl) | exact (Op1.neE rfl rfl)) rfl rfl sT kR kR kR xQP ?_
      refine WPD.take 3 rfl (Op1.move rfl) rfl rfl sT kR kR kR xQP ?_
      first | refine WPD.splitD 17 rfl (fun h17 => ?t1) (fun h17 => ?f1) | refine WPD.split 17 rfl (fun h17 => ?t1) (fun h17 => ?f1)
      case' t1 =>
        refine WPD.take 4 rfl (by first | exact (Op1.fieldAddr rfl) | exact (Op1.fieldAddrE rfl rD lT)) rfl rfl sT kR kR kR xQP ?_
        refine WPD.take 6 rfl (Op1.move rfl) rfl rfl sT kR kR kR xQP ?_
        refine WPD.take 7 rfl (Op1.move rfl) rfl rfl sT kR kR kR xQP ?_
        refine WPD.take 5 rfl (by first | exact (Op1.load rfl mM (by rfl)) | exact (Op1.loadI rfl rD lT) | exact (Op1.loadAll rfl mM (by rfl)) | exact (Op1.loadE rfl rD lT (by rfl)) | exact (Op1.loadEAgg rfl rD lT (by rfl))) rfl rfl sT kR kR kR xQP ?_
        refine WPD.eff 8 kR rfl (OpE.call lO (fun w hw => s_EdgeJ _ k x)) rfl rfl ?_
        rintro r _ ⟨T, ⟨rfl, rfl⟩, rfl⟩
        refine ⟨sT, ?_⟩
        refine WPD.eff 9 kR rfl (OpE.call lO (fun w hw => s_FindJ _ vE (jnE k x) es (Rd.at rD hw) (by omega))) rfl rfl ?_
        rintro r _ ⟨T, ⟨rfl, m, rfl, hm⟩, rfl⟩
        refine ⟨sT, ?_⟩
        refine WPD.take 10 rfl (Op1.geI rfl rfl) rfl rfl sT kR kR kR xQP ?_
        refine WPD.take 11 rfl (by first | exact (Op1.pickT rfl rfl) | exact (Op1.pickF rfl rfl)) rfl rfl sT kR kR kR xQP ?_
        refine WPD.done kR ?_
      case' f1 =>
        refine WPD.skip 4 rfl rfl rfl sT kR kR kR xQP ?_
        refine WPD.skip 6 rfl rfl rfl sT kR kR kR xQP ?_
        refine WPD.skip 7 rfl rfl rfl sT kR kR kR xQP ?_
        refine WPD.skip 5 rfl rfl rfl sT kR kR kR xQP ?_
        refine WPD.skip 8 rfl rfl rfl sT kR kR kR xQP ?_
        refine WPD.skip 9 rfl rfl rfl sT kR kR kR xQP ?_
        refine WPD.skip 10 rfl rfl rfl sT kR kR kR xQP ?_
        refine WPD.take 11 rfl (by first | exact (Op1.pickT rfl rfl) | exact (Op1.pickF rfl rfl)) rfl rfl sT kR kR kR xQP ?_
        refine WPD.done kR ?_
      · rw [decide_eq_false (show ¬ ((k : Int) ≠ x ∧ jnE k x ∈ es) from fun h => ‹¬ ((k : Int) ≠ x)› h.1)]
        refine PE.mid () trivial sE sT2
      · have e : decide (0 ≤ m) = decide ((k : Int) ≠ x ∧ jnE k x ∈ es) := by
          rw [decide_eq_decide, hm]; exact ⟨fun h => ⟨by assumption, h⟩, fun h => h.2⟩
        rw [e]
        refine PE.mid () trivial sE sT2
    rintro _ _
    refine WP.condD rfl (fun he => ?_) (fun he => ?_)
    · rw [if_pos he] at hstep
      try refine go ⟨?_⟩
      refine WPL.eff (OpE.buildSlice [(k : Int)] pA rfl (by decide)) rfl rfl ?_; rintro s1 _ rfl
      try refine go ⟨?_⟩
      refine WPL.eff (OpE.append rfl rfl pM rD lN) rfl rfl ?_; rintro v1 _ rfl
      rw [← hstep]
      try refine go ⟨?_⟩
      refine PE.again (k + 1, v1) ?_ ?_ sE sT2
      · (try dsimp only); omega
      · (try dsimp only); omega
    · rw [if_neg he] at hstep
      rw [← hstep]
      try refine go ⟨?_⟩
      refine PE.again (k + 1, v) ?_ ?_ sE sT2
      · (try dsimp only); omega
      · (try dsimp only); omega
  · have hkn : k = n.toNat := by omega
    subst hkn
    try refine go ⟨?_⟩
    refine PE.ret1 (T := []) (T' := [Tok.own v (((iota n.toNat).take n.toNat).filter (fun i => decide (i ≠ x ∧ jnE i x ∈ es)))]) rfl rV ?_ sT2
    rw [hnx]

theorem s_NeighborsOf (w : World) (n : Int) (vE : Value) (es : List E) (x : Int) (hE : RL w vE es) (hl : es.length ≤ 1099511627776) :
    Tri Try.prog 67 [.agg #[.int .i64 n, vE], .int .i64 x] w [] fun r T => T = [Tok.own r (nbR n es x)] := by
  have hGV : GV n es → (1 ≤ n ∧ n ≤ 16 ∧ es.length ≤ 40) := fun h => by unfold GV at h; exact ⟨h.1, h.2.1, h.2.2.1⟩
  have hGN : GN n es x ↔ GV n es ∧ 0 ≤ x ∧ x < n := by unfold GN Nd; exact Iff.rfl
  have neg : ¬ GN n es x → nbR n es x = [] := fun h => if_neg h
  refine Tri.intro (hf := Try.func67) (hb := rfl) (hn := Try.ntmps67) (Nat.le_of_ble_eq_true rfl) ?_
  try refine go ⟨?_⟩
  refine WPL.eff (OpE.box rfl) rfl rfl ?_; rintro _ _ ⟨b, rfl, rfl⟩
  try refine go ⟨?_⟩
  refine WPL.eff (OpE.call lO (fun w hw => s_GraphValid _ n vE es (Rd.at rD hw) hl)) rfl rfl ?_
  rintro r _ ⟨T, ⟨rfl, rfl⟩, rfl⟩
  by_cases hg : GV n es
  case neg =>
    rw [decide_eq_false hg, neg fun h => hg (hGN.1 h).1]
    try refine go ⟨?_⟩
    refine WPL.eff (OpE.buildSlice ([] : List Int) pA rfl (by decide)) rfl rfl ?_; rintro v0 _ rfl
    try refine go ⟨?_⟩
    refine PE.ret1 (T := []) (T' := [Tok.own v0 ([] : List Int)]) rfl rV ?_ sT2
    rfl
  obtain ⟨g1, g2, g3⟩ := hGV hg
  rw [decide_eq_true hg]
  try refine go ⟨?_⟩
  by_cases c1 : x < 0
  · rw [decide_eq_true c1, neg fun h => by have := (hGN.1 h).2.1; omega]
    try refine go ⟨?_⟩
    refine WPL.eff (OpE.buildSlice ([] : List Int) pA rfl (by decide)) rfl rfl ?_; rintro v0 _ rfl
    try refine go ⟨?_⟩
    refine PE.ret1 (T := []) (T' := [Tok.own v0 ([] : List Int)]) rfl rV ?_ sT2
    rfl
  rw [decide_eq_false c1]
  try refine go ⟨?_⟩
  by_cases c2 : n ≤ x
  · rw [decide_eq_true c2, neg fun h => by have := (hGN.1 h).2.2; omega]
    try refine go ⟨?_⟩
    refine WPL.eff (OpE.buildSlice ([] : List Int) pA rfl (by decide)) rfl rfl ?_; rintro v0 _ rfl
    try refine go ⟨?_⟩
    refine PE.ret1 (T := []) (T' := [Tok.own v0 ([] : List Int)]) rfl rV ?_ sT2
    rfl
  rw [decide_eq_false c2]
  have e : nbR n es x = nxt n es x := (if_pos (hGN.2 ⟨hg, by omega, by omega⟩)).trans (nb_eq hg x)
  rw [e]
  try refine go ⟨?_⟩
  refine WPL.eff (OpE.call lO (fun w hw => s_Next _ n vE es x (Rd.at rD hw) (by omega) (by omega))) rfl rfl ?_
  rintro r _ ⟨T, rfl, rfl⟩
  try refine go ⟨?_⟩
  refine PE.ret1 (T := []) (T' := [Tok.own r (nxt n es x)]) rfl rV ?_ sT2
  rfl
theorem g_DNeighborsOf (w : World) (v : Value) (bs : List UInt8) (h : RL w v bs) (hl : bs.length ≤ 9223372036854775807) :
    Tri Try.prog 65 [v] w [] dGx := by
  refine Tri.intro (hf := Try.func65) (hb := rfl) (hn := Try.ntmps65) (Nat.le_of_ble_eq_true rfl) ?_
  try refine go ⟨?_⟩
  refine WPL.eff OpE.alloc rfl rfl ?_; rintro _ _ ⟨br, rfl, rfl⟩
  try refine go ⟨?_⟩
  refine WPL.eff (OpE.call lO (fun w hw => g_Node _ v bs (Rd.at rD hw) hl)) rfl rfl ?_
  rintro r _ ⟨T, ⟨v1, n1, es1, x, rfl, rfl, q1, q2⟩, rfl⟩
  try refine go ⟨?_⟩
  refine PE.ret2 (T := []) (T' := [Tok.own v1 es1]) rfl rV ?_ sT2
  exact ⟨v1, n1, es1, x, rfl, rfl, q1, q2⟩
end Go.Proofs.Ytmjljnhjamlonaa
