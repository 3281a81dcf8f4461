/- Texts put together: Lv0, Lv1, Lv2, Lv3, Lv4. Conditions: those of each theorem. -/
import Derived.Test.YtfigegmgopnfhaaV1
set_option linter.unusedVariables false
set_option linter.unusedSimpArgs false
/- Graphs with levels: plain facts. Conditions: none. -/
namespace Go.Proofs.Ytfigegmgopnfhaa
open Go

structure LV where
  n : Int
  es : List E
  lv : List Int
  tr : List Bool
  deriving DecidableEq
def abP (l : LV) (k : Int) (f : Bool) (i : Nat) : Prop := k ≤ l.lv.getD i 0 ∧ (f = true → l.tr.getD i false = true)
instance (l : LV) (k : Int) (f : Bool) (i : Nat) : Decidable (abP l k f i) := by unfold abP; infer_instance
/-- The edges so far with at least a level, of the forest alone or all. -/
def abvL (l : LV) (k : Int) (f : Bool) : Nat → List E
  | 0 => []
  | i + 1 => if abP l k f i then abvL l k f i ++ [l.es.getD i eD] else abvL l k f i
def abv' (l : LV) (k : Int) (f : Bool) : List E := abvL l k f l.es.length
def szOf (n : Int) (es : List E) (x : Int) : Nat := (pns n es x).length
/-- What is asked of a level. -/
def lvOk (l : LV) (k : Nat) : Prop := (forestL l.n (abv' l k true)).length = (abv' l k true).length ∧ labs l.n (abv' l k true) = labs l.n (abv' l k false) ∧ ∀ x ∈ iota l.n.toNat, (szOf l.n (abv' l k false) x : Int) ≤ 1 ∨ (szOf l.n (abv' l k false) x : Int) ≤ l.n / 2 ^ k
instance (l : LV) (k : Nat) : Decidable (lvOk l k) := by unfold lvOk; infer_instance
def LVok (l : LV) : Prop := GV l.n l.es ∧ l.lv.length = l.es.length ∧ l.tr.length = l.es.length ∧ (∀ x ∈ l.lv, 0 ≤ x ∧ x ≤ 4) ∧ ∀ k, k < 5 → lvOk l k
instance (l : LV) : Decidable (LVok l) := by unfold LVok; infer_instance

theorem abvL_sub (l : LV) (k : Int) (f : Bool) : ∀ i, i ≤ l.es.length → (abvL l k f i).Sublist (l.es.take i)
  | 0, _ => by simp [abvL]
  | i + 1, h => by
    have ih := abvL_sub l k f i (by omega)
    rw [take_succD eD (by omega)]
    unfold abvL
    split
    · exact ih.append (List.Sublist.refl _)
    · exact ih.trans (List.sublist_append_left _ _)
theorem abv_sub (l : LV) (k : Int) (f : Bool) : (abv' l k f).Sublist l.es := by
  have := abvL_sub l k f l.es.length (Nat.le_refl _)
  rwa [List.take_length] at this
theorem abvL_len (l : LV) (k : Int) (f : Bool) : ∀ i, (abvL l k f i).length ≤ i
  | 0 => Nat.le_refl _
  | i + 1 => by
    have := abvL_len l k f i
    unfold abvL
    split
    · rw [List.length_append, List.length_singleton]; omega
    · omega
theorem mem_abvL {l : LV} {k : Int} {f : Bool} {e : E} : ∀ {i : Nat}, i ≤ l.es.length → (e ∈ abvL l k f i ↔ ∃ j, j < i ∧ abP l k f j ∧ l.es.getD j eD = e)
  | 0, _ => by simp [abvL]
  | i + 1, h => by
    have ih := mem_abvL (l := l) (k := k) (f := f) (e := e) (i := i) (by omega)
    unfold abvL
    split
    · rename_i hp
      rw [List.mem_append, ih, List.mem_singleton]
      constructor
      · rintro (⟨j, h1, h2, h3⟩ | h1)
        · exact ⟨j, by omega, h2, h3⟩
        · exact ⟨i, by omega, hp, h1.symm⟩
      · rintro ⟨j, h1, h2, h3⟩
        by_cases hj : j = i
        · subst hj; exact .inr h3.symm
        · exact .inl ⟨j, by omega, h2, h3⟩
    · rename_i hp
      rw [ih]
      constructor
      · rintro ⟨j, h1, h2, h3⟩; exact ⟨j, by omega, h2, h3⟩
      · rintro ⟨j, h1, h2, h3⟩
        by_cases hj : j = i
        · subst hj; exact absurd h2 hp
        · exact ⟨j, by omega, h2, h3⟩
theorem abv_mem {l : LV} {k : Int} {f : Bool} {j : Nat} (hj : j < l.es.length) (h : abP l k f j) : l.es.getD j eD ∈ abv' l k f := (mem_abvL (Nat.le_refl _)).2 ⟨j, hj, h, rfl⟩
theorem abvL_all {l : LV} (h : ∀ j, j < l.es.length → 0 ≤ l.lv.getD j 0) : ∀ i, i ≤ l.es.length → abvL l 0 false i = l.es.take i
  | 0, _ => by simp [abvL]
  | i + 1, hi => by
    have ih := abvL_all h i (by omega)
    unfold abvL
    rw [if_pos ⟨h i (by omega), fun q => by cases q⟩, ih, take_succD eD (by omega)]
theorem LVok.gv {l : LV} (h : LVok l) : GV l.n l.es := h.1
theorem LVok.lev {l : LV} (h : LVok l) {j : Nat} (hj : j < l.es.length) : 0 ≤ l.lv.getD j 0 ∧ l.lv.getD j 0 ≤ 4 := h.2.2.2.1 _ (getD_memI (by rw [h.2.1]; exact hj))
theorem LVok.all {l : LV} (h : LVok l) : abv' l 0 false = l.es := by
  have := abvL_all (l := l) (fun j hj => (h.lev hj).1) l.es.length (Nat.le_refl _)
  rwa [List.take_length] at this
theorem LVok.gvA {l : LV} (h : LVok l) (k : Int) (f : Bool) : GV l.n (abv' l k f) := h.gv.sublist (abv_sub l k f)
theorem LVok.same {l : LV} (h : LVok l) {k : Nat} (hk : k < 5) : labs l.n (abv' l k true) = labs l.n (abv' l k false) := (h.2.2.2.2 k hk).2.1
theorem LVok.lab {l : LV} (h : LVok l) {k : Nat} (hk : k < 5) (x : Int) : Proofs.Ytfigegmgopnfhaa.lab l.n (abv' l k true) x = Proofs.Ytfigegmgopnfhaa.lab l.n (abv' l k false) x := by
  unfold Proofs.Ytfigegmgopnfhaa.lab; rw [h.same hk]
theorem forest_len_eq {n : Int} {es : List E} (hE : okE n es) (h : (forestL n es).length = es.length) : forestL n es = es := (forest_sub hE).eq_of_length h
theorem LVok.indep {l : LV} (h : LVok l) {k : Nat} (hk : k < 5) : Indep (abv' l k true) := by
  have e := forest_len_eq (h.gvA k true).okE (h.2.2.2.2 k hk).1
  have := forest_indep (n := l.n) (h.gvA k true).okE
  rwa [e] at this
/-- Each edge's nodes are connected in the forest of its level. -/
theorem LVok.tree {l : LV} (h : LVok l) {j : Nat} (hj : j < l.es.length) : cn l.n (abv' l (l.lv.getD j 0) true) (l.es.getD j eD).A (l.es.getD j eD).B := by
  obtain ⟨h1, h2⟩ := h.lev hj
  obtain ⟨k, hk⟩ := Int.eq_ofNat_of_zero_le h1
  have hm : l.es.getD j eD ∈ abv' l (l.lv.getD j 0) false := abv_mem hj ⟨Int.le_refl _, fun q => by cases q⟩
  rw [hk] at hm ⊢
  have he := h.gv.okE _ (getD_memI (d := eD) hj)
  unfold cn
  rw [h.lab (by omega), h.lab (by omega)]
  exact (lab_iff (h.gvA k false).okE he.1 he.2).2 (.edge hm)
theorem LVok.conn {l : LV} (h : LVok l) {x y : Int} : cn l.n (abv' l 0 true) x y ↔ cn l.n l.es x y := by
  have e1 := h.lab (k := 0) (by omega)
  have e2 := h.all
  unfold cn
  have a : (((0 : Nat) : Int)) = 0 := rfl
  rw [a, e2] at e1
  rw [e1, e1]
theorem LVok.count {l : LV} (h : LVok l) : pcnt l.n l.es + (abv' l 0 true).length = l.n.toNat := by
  have e1 := h.same (k := 0) (by omega)
  have a : (((0 : Nat) : Int)) = 0 := rfl
  rw [a, h.all] at e1
  have e2 : pcnt l.n (abv' l 0 true) = pcnt l.n l.es := by unfold pcnt Proofs.Ytfigegmgopnfhaa.lab; rw [e1]
  rw [← e2]
  have hi := h.indep (k := 0) (by omega)
  exact pcnt_indep (h.gvA 0 true).okE hi (h.gvA 0 true).nodup
/-- Parts of a level are small. -/
theorem LVok.small {l : LV} (h : LVok l) {k : Nat} (hk : k < 5) {e : E} (he : e ∈ abv' l k true) : (szOf l.n (abv' l k true) e.A : Int) ≤ l.n / 2 ^ k := by
  have hg := h.gvA k true
  have hok := hg.okN he
  unfold okN at hok
  have hnd := hg.okE e he
  have e1 : szOf l.n (abv' l k true) e.A = szOf l.n (abv' l k false) e.A := by
    unfold szOf pns Proofs.Ytfigegmgopnfhaa.lab; rw [h.same hk]
  rw [e1]
  rcases (h.2.2.2.2 k hk).2.2 e.A (mem_iota.2 ⟨hnd.1.1, by have := hnd.1.2; omega⟩) with h1 | h1
  · exfalso
    rw [← e1] at h1
    have m1 : e.A ∈ pns l.n (abv' l k true) e.A := (mem_pns (by have := hg.1; omega)).2 ⟨hnd.1, rfl⟩
    have m2 : e.B ∈ pns l.n (abv' l k true) e.A := (mem_pns (by have := hg.1; omega)).2 ⟨hnd.2, (lab_iff hg.okE hnd.2 hnd.1).2 (.edge' he)⟩
    unfold szOf at h1
    match hp : pns l.n (abv' l k true) e.A, m1, m2 with
    | [], q, _ => simp at q
    | [a], q1, q2 =>
      have := List.mem_singleton.1 q1
      have := List.mem_singleton.1 q2
      omega
    | a :: b :: t, _, _ => rw [hp] at h1; simp only [List.length_cons] at h1; omega
  · exact h1
theorem indep_brs {n : Int} {es : List E} (hE : okE n es) (hi : Indep es) : brs n es = es := by
  unfold brs
  rw [List.filter_eq_self]
  intro e he
  have := (mem_brs hE (e := e)).2 ⟨he, hi e he⟩
  unfold brs at this
  exact (List.mem_filter.1 this).2
end Go.Proofs.Ytfigegmgopnfhaa
/- Graphs with levels: counts of parts, and rules. Conditions: none. -/
namespace Go.Proofs.Ytfigegmgopnfhaa
open Go
section
variable {P : Program} {G : Ctx} {l : List (Nat × Value)} {F : List Tok}
theorem Op1.shrK {t u : TypeId} {x y : Operand} {n : Int} {k : Nat} (hx : look l x = some (.int .i64 n)) (hy : look l y = some (.int .i64 (k : Int))) (hk : k ≤ 63) :
    Op1 P G (.binOp .shr t x y u) l F (.int .i64 (n / 2 ^ k)) := fun o ho c w hc _ => by
  have e : Op.shift .shr .i64 n .i64 (k : Int) = pure (.int .i64 (n / 2 ^ k)) := by
    rw [shift_shr_any _ _ _ _ (by omega), Int.toNat_natCast, Nat.min_eq_left (by simp only [IntKind.bits]; omega)]
  simp [execOp, ho, hc.eval hx, hc.eval hy, eqGuard_shr, binOp_shr, e]
end
/-- How many of the first j of a list are r. -/
def cntR (L : List Int) (j : Nat) (r : Int) : Nat := ((L.take j).filter fun x => decide (x = r)).length
theorem cntR_zero (L : List Int) (r : Int) : cntR L 0 r = 0 := rfl
theorem cntR_succ {L : List Int} {j : Nat} (hj : j < L.length) (r : Int) : cntR L (j + 1) r = if L.getD j 0 = r then cntR L j r + 1 else cntR L j r := by
  unfold cntR
  rw [take_succD (0 : Int) hj, List.filter_append, List.length_append]
  split
  · rename_i h; rw [List.filter_cons, if_pos (decide_eq_true h)]; simp
  · rename_i h; rw [List.filter_cons, if_neg (by simpa using h)]; simp
theorem cntR_le (L : List Int) (j : Nat) (r : Int) : cntR L j r ≤ j := by
  unfold cntR
  refine Nat.le_trans (List.length_filter_le _ _) ?_
  rw [List.length_take]; exact Nat.min_le_left _ _
theorem iota_map {L : List Int} : (iota L.length).map (fun k => L.getD k.toNat 0) = L := by
  refine list_extD (by simp [iota]) fun i hi => ?_
  have hi' : i < L.length := by simpa [iota] using hi
  simp [iota, List.getD_eq_getElem?_getD, List.getElem?_map, List.getElem?_range hi']
theorem cntR_iota {L : List Int} {m : Nat} (hm : L.length = m) (r : Int) : cntR L L.length r = ((iota m).filter fun k => decide (L.getD k.toNat 0 = r)).length := by
  subst hm
  unfold cntR
  rw [List.take_length]
  conv => lhs; rw [← iota_map (L := L), List.filter_map, List.length_map]
  rfl
theorem szOf_cnt {n : Int} {es : List E} {x : Int} : szOf n es x = cntR (labs n es) (labs n es).length (lab n es x) := by
  rw [cntR_iota (labs_length n es)]; rfl
theorem small_iff {n : Int} {es : List E} (hE : okE n es) (M : Int) : (∀ x ∈ iota n.toNat, (szOf n es x : Int) ≤ 1 ∨ (szOf n es x : Int) ≤ M) ↔ ∀ r : Nat, r < n.toNat → (cntR (labs n es) (labs n es).length r : Int) ≤ 1 ∨ (cntR (labs n es) (labs n es).length r : Int) ≤ M := by
  constructor
  · intro h r hr
    by_cases h0 : cntR (labs n es) (labs n es).length r = 0
    · left; omega
    · have : ∃ x, x ∈ ((iota n.toNat).filter fun k => decide ((labs n es).getD k.toNat 0 = (r : Int))) := by
        rw [cntR_iota (labs_length n es)] at h0
        exact List.exists_mem_of_length_pos (by omega)
      obtain ⟨x, hx⟩ := this
      obtain ⟨h1, h2⟩ := List.mem_filter.1 hx
      have h2 : lab n es x = r := of_decide_eq_true h2
      have := h x h1
      rw [szOf_cnt, h2] at this
      exact this
  · intro h x hx
    obtain ⟨h1, h2⟩ := mem_iota.1 hx
    have hn := lab_nd hE (x := x) ⟨h1, by omega⟩
    rw [szOf_cnt]
    have := h (lab n es x).toNat (by have := hn.1; have := hn.2; omega)
    rw [Int.toNat_of_nonneg hn.1] at this
    exact this
theorem forestL_le {n : Int} (es : List E) : (forestL n es).length ≤ es.length := by
  have := ffold_len (n := n) es []
  simpa [forestL] using this
end Go.Proofs.Ytfigegmgopnfhaa
/- Graphs with levels: the walks of the program's above, ContainsFunc and Equal of ints, LevelsValid, LevelForest, LeveledConnected. Conditions: those of each contract. -/
namespace Go.Proofs.Ytfigegmgopnfhaa
open Go
theorem abvL_succ (l : LV) (k : Int) (f : Bool) (i : Nat) : abvL l k f (i + 1) = if abP l k f i then abvL l k f i ++ [l.es.getD i (Enc.d : E)] else abvL l k f i := rfl
theorem abP_iff (l : LV) (k : Int) (f : Bool) (i : Nat) : abP l k f i ↔ k ≤ l.lv.getD i 0 ∧ (f = true → l.tr.getD i false = true) := Iff.rfl
theorem any_iff {xs : List Int} {p : Int → Bool} : xs.any p = true ↔ ∃ k : Nat, k < xs.length ∧ p (xs.getD k 0) = true := by
  rw [List.any_eq_true]
  constructor
  · rintro ⟨x, hx, hp⟩
    obtain ⟨k, hk, rfl⟩ := mem_getD (d := (0 : Int)) hx
    exact ⟨k, hk, hp⟩
  · rintro ⟨k, hk, hp⟩
    exact ⟨_, getD_memI hk, hp⟩
set_option linter.unusedVariables false set_option linter.unusedSimpArgs false attribute [local irreducible] Tok.own Tok.blk RL Rd eptr WP WPL PE WPD WPO Op1 OpE Tri Again Mid Exit.then Exit.inBlock bodyPost RP Code.wp wpList isOwn OneM One
attribute [local irreducible] abvL abP Pred
set_option maxHeartbeats 8000000

theorem c_above (w : World) (l : LV) (vE vL vT : Value) (k : Int) (f : Bool) (hE : RL w vE l.es) (hL : RL w vL l.lv) (hT : RL w vT l.tr) (h1 : l.lv.length = l.es.length) (h2 : l.tr.length = l.es.length) (hl : l.es.length ≤ 1000) :
    Tri Try.prog 107 [.agg #[.int .i64 l.n, vE, vL, vT], .int .i64 k, .bool f] w [] fun r T => ∃ v, r = .agg #[.int .i64 l.n, v] ∧ T = [Tok.own v (abv' l k f)] := by
  have hal := abvL_len l k f
  have hS := abvL_succ l k f
  have hP := abP_iff l k f
  have h0 : abvL l k f 0 = [] := by unfold abvL; rfl
  have hend : abvL l k f l.es.length = abv' l k f := rfl
  refine Tri.intro (hf := Try.func107) (hb := rfl) (hn := Try.ntmps107) (Nat.le_of_ble_eq_true rfl) ?_
  try refine go ⟨?_⟩
  refine WPL.eff (OpE.box rfl) rfl rfl ?_; rintro _ _ ⟨b3, rfl, rfl⟩
  refine WPL.eff OpE.alloc rfl rfl ?_; rintro _ _ ⟨b6, rfl, rfl⟩
  try refine go ⟨?_⟩
  refine WPL.eff OpE.alloc rfl rfl ?_; rintro _ _ ⟨b7, rfl, rfl⟩
  try refine go ⟨?_⟩
  refine WP.nilTok E ?_
  refine WP.loop (σ := Nat × Value) (fun q => [(1, .int .i64 k), (2, .bool f), (3, ptrV b3), (6, ptrV b6), (7, ptrV b7), (16, vE), (17, .int .i64 l.es.length), (18, .int .i64 q.1)])
    (fun q => [Tok.blk b7 [.int .i64 l.n, q.2], Tok.own q.2 (abvL l k f q.1), Tok.blk b6 [.int .i64 0, .slice none 0 0], Tok.blk b3 [.int .i64 l.n, vE, vL, vT]]) (fun q => q.1 ≤ l.es.length) (fun q => l.es.length - q.1) (0, .slice none 0 0) (Nat.zero_le _) sE (by rw [h0]; exact sT2) ?_
  rintro ⟨i, v⟩ hi
  dsimp only at hi ⊢
  have hai := hal i
  have hSi := hS i
  have hPi := hP i
  try refine go ⟨?_⟩
  refine WP.condD rfl (fun hc => ?_) (fun hc => ?_)
  · have hi' : i < l.es.length := by omega
    try refine go ⟨?_⟩
    refine WPL.eff OpE.alloc rfl rfl ?_; rintro _ _ ⟨b9, rfl, rfl⟩
    try refine go ⟨?_⟩
    refine WPL.splitD rfl rfl (fun c1 => ?_) (fun c1 => ?_)
    · have c1 : l.lv.getD i 0 ≥ k := c1
      cases f
      · rw [if_pos (hPi.2 ⟨c1, fun q => by cases q⟩)] at hSi
        try refine go ⟨?_⟩
        refine WPL.eff (OpE.buildSlice [l.es.getD i (Enc.d : E)] pA rfl (by decide)) rfl rfl ?_; rintro s1 _ rfl
        try refine go ⟨?_⟩
        refine WPL.eff (OpE.append rfl rfl pM rD lN) rfl rfl ?_; rintro v1 _ rfl
        rw [← hSi]
        try refine go ⟨?_⟩
        refine PE.again (i + 1, v1) ?_ ?_ sE sT2
        · (try dsimp only); omega
        · (try dsimp only); omega
      · try refine go ⟨?_⟩
        refine WP.cond rfl (fun c2 => ?_) (fun c2 => ?_)
        · have c2 : l.tr.getD i false = true := c2
          rw [if_pos (hPi.2 ⟨c1, fun _ => c2⟩)] at hSi
          try refine go ⟨?_⟩
          refine WPL.eff (OpE.buildSlice [l.es.getD i (Enc.d : E)] pA rfl (by decide)) rfl rfl ?_; rintro s1 _ rfl
          try refine go ⟨?_⟩
          refine WPL.eff (OpE.append rfl rfl pM rD lN) rfl rfl ?_; rintro v1 _ rfl
          rw [← hSi]
          try refine go ⟨?_⟩
          refine PE.again (i + 1, v1) ?_ ?_ sE sT2
          · (try dsimp only); omega
          · (try dsimp only); omega
        · have c2 : l.tr.getD i false = false := c2
          rw [if_neg (fun q => by have := (hPi.1 q).2 rfl; rw [c2] at this; cases this)] at hSi
          rw [← hSi]
          try refine go ⟨?_⟩
          refine PE.again (i + 1, v) ?_ ?_ sE sT2
          · (try dsimp only); omega
          · (try dsimp only); omega
    · have c1 : ¬ l.lv.getD i 0 ≥ k := c1
      rw [if_neg (fun q => c1 (hPi.1 q).1)] at hSi
      rw [← hSi]
      try refine go ⟨?_⟩
      refine PE.again (i + 1, v) ?_ ?_ sE sT2
      · (try dsimp only); omega
      · (try dsimp only); omega
  · have hin : i = l.es.length := by omega
    subst hin
    rw [hend]
    try refine go ⟨?_⟩
    refine PE.ret1 (T := []) (T' := [Tok.own v (abv' l k f)]) rfl rV ?_ sT2
    exact ⟨v, rfl, rfl⟩

theorem c_IndexFuncI (w : World) (v fv : Value) (xs : List Int) (T : List Tok) (p : Int → Bool) (h : RL w v xs) (hd : ∀ b ∈ vfp v, b ∉ fps T) (hl : xs.length ≤ 1099511627776) (hp : Pred Try.prog w (fps T) fv T (fun k : Int => .int .i64 k) p xs) :
    Tri Try.prog 147 [v, fv] w T fun r T' => T' = T ∧ ((∃ k : Nat, k < xs.length ∧ r = .int .i64 k ∧ p (xs.getD k 0) = true) ∨ (r = .int .i64 (-1) ∧ ∀ m, m < xs.length → p (xs.getD m 0) = false)) := by
  have hA : RdA ⟨19, w, fps T⟩ v xs := RdA.mk h hd
  refine Tri.intro (hf := Try.func147) (hb := rfl) (hn := Try.ntmps147) (Nat.le_of_ble_eq_true rfl) ?_
  try refine goA ⟨?_⟩
  refine WP.loop (σ := Nat) (fun k => [(0, v), (1, fv), (7, .int .i64 xs.length), (8, .int .i64 k)]) (fun _ => T) (fun k => k ≤ xs.length ∧ ∀ m, m < k → p (xs.getD m 0) = false) (fun k => xs.length - k) 0 ⟨Nat.zero_le _, by omega⟩ sE (SubT.refl _) ?_
  rintro k ⟨hk, hm⟩
  try refine goA ⟨?_⟩
  refine WP.condD rfl (fun hc => ?_) (fun hc => ?_)
  · have hk' : k < xs.length := by omega
    try refine goA ⟨?_⟩
    refine WPL.eff (OpE.callP (x := xs.getD k 0) hp rfl rfl (getD_memI hk') rot0) rfl rfl ?_
    rintro _ _ ⟨rfl, rfl⟩
    rw [List.append_nil]
    try refine goA ⟨?_⟩
    refine WP.cond rfl (fun hpk => ?_) (fun hpk => ?_)
    · try refine goA ⟨?_⟩
      refine PE.ret1 (T := T) (T' := T) rfl rV ?_ (SubT.refl _)
      exact ⟨rfl, .inl ⟨k, hk', rfl, hpk⟩⟩
    · try refine goA ⟨?_⟩
      refine PE.again (k + 1) ?_ ?_ sE (SubT.refl _)
      · refine ⟨by omega, fun m hm' => ?_⟩
        rcases Nat.lt_succ_iff_lt_or_eq.1 hm' with h' | rfl
        · exact hm m h'
        · exact hpk
      · omega
  · try refine goA ⟨?_⟩
    refine PE.ret1 (T := T) (T' := T) rfl rV ?_ (SubT.refl _)
    exact ⟨rfl, .inr ⟨rfl, fun m hml => hm m (by omega)⟩⟩

theorem c_ContainsFuncI (w : World) (v fv : Value) (xs : List Int) (T : List Tok) (p : Int → Bool) (h : RL w v xs) (hd : ∀ b ∈ vfp v, b ∉ fps T) (hl : xs.length ≤ 1099511627776) (hp : Pred Try.prog w (fps T) fv T (fun k : Int => .int .i64 k) p xs) :
    Tri Try.prog 110 [v, fv] w T fun r T' => T' = T ∧ r = .bool (xs.any p) := by
  have hA : RdA ⟨9, w, fps T⟩ v xs := RdA.mk h hd
  refine Tri.intro (hf := Try.func110) (hb := rfl) (hn := Try.ntmps110) (Nat.le_of_ble_eq_true rfl) ?_
  try refine goA ⟨?_⟩
  refine WPL.eff (OpE.callT (T := T) lO rot0 (fun w' hw => c_IndexFuncI _ v fv xs T p (Rd.at rDA hw) hd hl (hp.at hw (SubT.refl _)))) rfl rfl ?_
  rintro r _ ⟨T, ⟨rfl, hr⟩, rfl⟩
  rw [List.append_nil]
  rcases hr with ⟨k, hk, rfl, hk1⟩ | ⟨rfl, hall⟩
  · try refine goA ⟨?_⟩
    refine PE.ret1 (T := T) (T' := T) rfl rV ?_ (SubT.refl _)
    refine ⟨rfl, ?_⟩
    rw [any_iff.2 ⟨k, hk, hk1⟩, decide_eq_true (by omega)]
  · try refine goA ⟨?_⟩
    refine PE.ret1 (T := T) (T' := T) rfl rV ?_ (SubT.refl _)
    refine ⟨rfl, ?_⟩
    have : xs.any p = false := by
      cases hb : xs.any p
      · rfl
      · obtain ⟨k, hk, hk1⟩ := any_iff.1 hb
        rw [hall k hk] at hk1; cases hk1
    rw [this, decide_eq_false (by omega)]

theorem c_EqualI (w : World) (v u : Value) (xs ys : List Int) (h : RL w v xs) (h' : RL w u ys) (hl : xs.length ≤ 1099511627776) (hl' : ys.length ≤ 1099511627776) :
    Tri Try.prog 114 [v, u] w [] fun r T => T = [] ∧ r = .bool (decide (xs = ys)) := by
  refine Tri.intro (hf := Try.func114) (hb := rfl) (hn := Try.ntmps114) (Nat.le_of_ble_eq_true rfl) ?_
  try refine go ⟨?_⟩
  by_cases hll : xs.length = ys.length
  case neg =>
    rw [decide_eq_true (show (xs.length : Int) ≠ (ys.length : Int) by omega)]
    try refine go ⟨?_⟩
    refine PE.ret1 (T := []) (T' := []) rfl rV ?_ sT
    refine ⟨rfl, ?_⟩
    rw [decide_eq_false]
    rintro rfl
    exact hll rfl
  rw [decide_eq_false (show ¬ (xs.length : Int) ≠ (ys.length : Int) by omega)]
  try refine go ⟨?_⟩
  refine WP.loop (σ := Nat) (fun k => [(0, v), (1, u), (12, .int .i64 xs.length), (13, .int .i64 k)]) (fun _ => []) (fun k => k ≤ xs.length ∧ ∀ m, m < k → xs.getD m 0 = ys.getD m 0) (fun k => xs.length - k) 0 ⟨Nat.zero_le _, by omega⟩ sE sT ?_
  rintro k ⟨hk, hm⟩
  try refine go ⟨?_⟩
  refine WP.condD rfl (fun hc => ?_) (fun hc => ?_)
  · have hk' : k < xs.length := by omega
    try refine go ⟨?_⟩
    refine WP.draw [] mixed ?_
    refine WPD.take 0 rfl (Op1.move rfl) rfl rfl sT kR kR kR xQP ?_
    refine WPD.take 1 rfl (Op1.move rfl) rfl rfl sT kR kR kR xQP ?_
    refine WPD.take 4 rfl (Op1.move rfl) rfl rfl sT kR kR kR xQP ?_
    refine WPD.take 5 rfl (Op1.move rfl) rfl rfl sT kR kR kR xQP ?_
    refine WPD.take 2 rfl (by first | exact (Op1.indexAddr rfl rfl rD lT) | exact (Op1.indexAddrZ rfl rfl rD lT)) rfl rfl sT kR kR kR xQP ?_
    refine WPD.take 6 rfl (by first | exact (Op1.indexAddr rfl rfl rD lT) | exact (Op1.indexAddrZ rfl rfl rD lT)) rfl rfl sT kR kR kR xQP ?_
    refine WPD.take 3 rfl (by first | exact (Op1.load rfl mM (by rfl)) | exact (Op1.loadI rfl rD lT) | exact (Op1.loadAll rfl mM (by rfl)) | exact (Op1.loadE rfl rD lT (by rfl)) | exact (Op1.loadEAgg rfl rD lT (by rfl))) rfl rfl sT kR kR kR xQP ?_
    refine WPD.take 7 rfl (by first | exact (Op1.load rfl mM (by rfl)) | exact (Op1.loadI rfl rD lT) | exact (Op1.loadAll rfl mM (by rfl)) | exact (Op1.loadE rfl rD lT (by rfl)) | exact (Op1.loadEAgg rfl rD lT (by rfl))) rfl rfl sT kR kR kR xQP ?_
    refine WPD.take 8 rfl (by first | exact (Op1.neI rfl rfl) | exact (Op1.neB rfl rfl) | exact (Op1.neE rfl rfl)) rfl rfl sT kR kR kR xQP ?_
    refine WPD.done kR ?_
    try refine go ⟨?_⟩
    refine WP.condD rfl (fun he => ?_) (fun he => ?_)
    · try refine go ⟨?_⟩
      refine PE.ret1 (T := []) (T' := []) rfl rV ?_ sT
      refine ⟨rfl, ?_⟩
      rw [decide_eq_false]
      rintro rfl
      exact absurd rfl he
    · try refine go ⟨?_⟩
      refine PE.again (k + 1) ?_ ?_ sE sT
      · exact ⟨by omega, fun m hm' => by
          rcases Nat.lt_succ_iff_lt_or_eq.1 hm' with h' | rfl
          · exact hm m h'
          · exact Decidable.not_not.1 he⟩
      · omega
  · try refine go ⟨?_⟩
    refine PE.ret1 (T := []) (T' := []) rfl rV ?_ sT
    refine ⟨rfl, ?_⟩
    rw [decide_eq_true (list_extD hll fun i hi => hm i (by omega))]

theorem c_LV1 (w : World) (x : Int) : Tri Try.prog 111 [.int .i64 x] w [] fun r T' => r = .bool (decide (x < 0 ∨ x > 4)) ∧ T' = [] := by
  refine Tri.intro (hf := Try.func111) (hb := rfl) (hn := Try.ntmps111) (Nat.le_of_ble_eq_true rfl) ?_
  try refine go ⟨?_⟩
  by_cases h : x < 0
  · rw [decide_eq_true h]
    try refine go ⟨?_⟩
    refine PE.ret1 (T := []) (T' := []) rfl rV ?_ sT
    exact ⟨by rw [decide_eq_true (Or.inl h)], rfl⟩
  · rw [decide_eq_false h]
    try refine go ⟨?_⟩
    refine PE.ret1 (T := []) (T' := []) rfl rV ?_ sT
    refine ⟨?_, rfl⟩
    congr 1; rw [decide_eq_decide]
    exact ⟨.inr, fun q => q.resolve_left h⟩

theorem c_LV2 (w : World) (b1 b3 : Nat) (n : Int) (vE vL vT : Value) (k : Nat) (hk : k ≤ 63) (x : Int) : Tri Try.prog 115 [.int .i64 x, ptrV b1, ptrV b3] w [Tok.blk b3 [.int .i64 k], Tok.blk b1 [.int .i64 n, vE, vL, vT]] fun r T' => r = .bool (decide (x > 1 ∧ x > n / 2 ^ k)) ∧ T' = [Tok.blk b3 [.int .i64 k], Tok.blk b1 [.int .i64 n, vE, vL, vT]] := by
  refine Tri.intro (hf := Try.func115) (hb := rfl) (hn := Try.ntmps115) (Nat.le_of_ble_eq_true rfl) ?_
  try refine go ⟨?_⟩
  by_cases h : x > 1
  · rw [decide_eq_true h]
    try refine go ⟨?_⟩
    refine WPL.pure (Op1.shrK rfl rfl hk) rfl rfl ?_
    try refine go ⟨?_⟩
    refine PE.ret1 (T := [Tok.blk b3 [.int .i64 k], Tok.blk b1 [.int .i64 n, vE, vL, vT]]) (T' := [Tok.blk b3 [.int .i64 k], Tok.blk b1 [.int .i64 n, vE, vL, vT]]) rfl rV ?_ sT
    refine ⟨?_, rfl⟩
    congr 1; rw [decide_eq_decide]
    exact ⟨fun q => ⟨h, q⟩, fun q => q.2⟩
  · rw [decide_eq_false h]
    try refine go ⟨?_⟩
    refine PE.ret1 (T := [Tok.blk b3 [.int .i64 k], Tok.blk b1 [.int .i64 n, vE, vL, vT]]) (T' := [Tok.blk b3 [.int .i64 k], Tok.blk b1 [.int .i64 n, vE, vL, vT]]) rfl rV ?_ sT
    exact ⟨by rw [decide_eq_false (fun q => h q.1)], rfl⟩
end Go.Proofs.Ytfigegmgopnfhaa
/- Graphs with levels: the walks of the program's LevelsValid, LevelForest, LeveledConnected. Conditions: those of each contract. -/
namespace Go.Proofs.Ytfigegmgopnfhaa
open Go
theorem LVok_iff (l : LV) : LVok l ↔ GV l.n l.es ∧ l.lv.length = l.es.length ∧ l.tr.length = l.es.length ∧ (∀ x ∈ l.lv, 0 ≤ x ∧ x ≤ 4) ∧ ∀ k, k < 5 → lvOk l k := Iff.rfl
theorem lvOk_iff (l : LV) (k : Nat) : lvOk l k ↔ (forestL l.n (abv' l k true)).length = (abv' l k true).length ∧ labs l.n (abv' l k true) = labs l.n (abv' l k false) ∧ ∀ x ∈ iota l.n.toNat, (szOf l.n (abv' l k false) x : Int) ≤ 1 ∨ (szOf l.n (abv' l k false) x : Int) ≤ l.n / 2 ^ k := Iff.rfl
theorem sizes_iff {n : Int} {es : List E} {S : List Int} (hE : okE n es) (hSl : S.length = n.toNat) (hS : ∀ r : Nat, r < n.toNat → S.getD r 0 = (cntR (labs n es) (labs n es).length r : Int)) (M : Int) :
    (S.any fun x => decide (x > 1 ∧ x > M)) = true ↔ ¬ ∀ x ∈ iota n.toNat, (szOf n es x : Int) ≤ 1 ∨ (szOf n es x : Int) ≤ M := by
  rw [small_iff hE, any_iff]
  constructor
  · rintro ⟨k, hk, hp⟩ h
    have hp := of_decide_eq_true hp
    have := h k (by omega)
    rw [← hS k (by omega)] at this
    omega
  · intro h
    have ⟨r, hr⟩ := Classical.not_forall.1 h
    have ⟨h1, h2⟩ := Classical.not_imp.1 hr
    refine ⟨r, by omega, decide_eq_true ?_⟩
    rw [hS r h1]
    omega
theorem lev_any {xs : List Int} : (xs.any fun x => decide (x < 0 ∨ x > 4)) = true ↔ ¬ ∀ x ∈ xs, 0 ≤ x ∧ x ≤ 4 := by
  rw [List.any_eq_true]
  constructor
  · rintro ⟨x, hx, hp⟩ h
    have := h x hx
    have := of_decide_eq_true hp
    omega
  · intro h
    have ⟨x, hx⟩ := Classical.not_forall.1 h
    have ⟨h1, h2⟩ := Classical.not_imp.1 hx
    exact ⟨x, h1, decide_eq_true (by omega)⟩
theorem lev_none {xs : List Int} (h : ∀ x ∈ xs, 0 ≤ x ∧ x ≤ 4) : (xs.any fun x => decide (x < 0 ∨ x > 4)) = false := by
  cases hb : (xs.any fun x => decide (x < 0 ∨ x > 4))
  · rfl
  · exact absurd h (lev_any.1 hb)
theorem any_no {xs : List Int} {p : Int → Bool} (h : ¬ xs.any p = true) : xs.any p = false := by cases hb : xs.any p <;> first | rfl | exact absurd hb h
def cntS (L : List Int) (j : Nat) (S : List Int) (m : Nat) : Prop := S.length = m ∧ ∀ r : Nat, r < m → S.getD r 0 = (cntR L j r : Int)
theorem cntS_zero (L : List Int) (m : Nat) : cntS L 0 (List.replicate m (0 : Int)) m := ⟨List.length_replicate, fun r hr => by rw [List.getD_eq_getElem?_getD, List.getElem?_replicate, if_pos hr]; rfl⟩
theorem cntS_step {L S : List Int} {j m : Nat} (h : cntS L j S m) (hj : j < L.length) (hr : Nd m (L.getD j 0)) : cntS L (j + 1) (S.set (L.getD j 0).toNat (S.getD (L.getD j 0).toNat 0 + 1)) m := by
  obtain ⟨h1, h2⟩ := h
  refine ⟨by rw [List.length_set, h1], fun r hrm => ?_⟩
  have hr1 := hr.1
  have hr2 := hr.2
  rw [getD_setI, cntR_succ hj]
  by_cases e : L.getD j 0 = r
  · rw [if_pos e, e, Int.toNat_natCast, if_pos ⟨rfl, by omega⟩, h2 r hrm]; omega
  · rw [if_neg e, if_neg (by omega), h2 r hrm]
theorem cntS_at {L S : List Int} {j m : Nat} (h : cntS L j S m) {x : Int} (hr : Nd m x) : S.getD x.toNat 0 = (cntR L j x : Int) := by
  have := h.2 x.toNat (by have := hr.1; have := hr.2; omega)
  rw [Int.toNat_of_nonneg hr.1] at this
  exact this
set_option linter.unusedVariables false set_option linter.unusedSimpArgs false attribute [local irreducible] Tok.own Tok.blk RL Rd eptr WP WPL PE WPD WPO Op1 OpE Tri Again Mid Exit.then Exit.inBlock bodyPost RP Code.wp wpList isOwn OneM One
attribute [local irreducible] abv' Pred LVok lvOk GV cntS cntR labs forestL szOf
set_option maxHeartbeats 16000000

theorem c_LevelsValid (w : World) (l : LV) (vE vL vT : Value) (hE : RL w vE l.es) (hL : RL w vL l.lv) (hT : RL w vT l.tr) (hl1 : l.es.length ≤ 1099511627776) (hl2 : l.lv.length ≤ 1099511627776) (hl3 : l.tr.length ≤ 1099511627776) :
    Tri Try.prog 61 [.agg #[.int .i64 l.n, vE, vL, vT]] w [] fun r T => r = .bool (decide (LVok l)) ∧ T = [] := by
  have hLV := LVok_iff l
  have hOK := lvOk_iff l
  have bad : ¬ LVok l → Value.bool false = .bool (decide (LVok l)) := fun h => by rw [decide_eq_false h]
  refine Tri.intro (hf := Try.func61) (hb := rfl) (hn := Try.ntmps61) (Nat.le_of_ble_eq_true rfl) ?_
  try refine go ⟨?_⟩
  refine WPL.eff (OpE.box rfl) rfl rfl ?_; rintro _ _ ⟨b1, rfl, rfl⟩
  try refine go ⟨?_⟩
  refine WPL.pure (Op1.loadAgg (us := [.int .i64 l.n, vE]) rfl mM rfl rfl) rfl rfl ?_
  try refine go ⟨?_⟩
  refine WPL.eff (OpE.call lO (fun w hw => c_GraphValid _ l.n vE l.es (Rd.at rD hw) hl1)) rfl rfl ?_
  rintro _ _ ⟨T, ⟨rfl, rfl⟩, rfl⟩
  by_cases hg : GV l.n l.es
  case neg =>
    rw [decide_eq_false hg]
    try refine go ⟨?_⟩
    refine PE.ret1 (T := []) (T' := []) rfl rV ?_ sT
    exact ⟨bad fun h => hg (hLV.1 h).1, rfl⟩
  rw [decide_eq_true hg]
  try refine go ⟨?_⟩
  by_cases h1 : l.lv.length = l.es.length
  case neg =>
    rw [decide_eq_true (show (l.lv.length : Int) ≠ (l.es.length : Int) by omega)]
    try refine go ⟨?_⟩
    refine PE.ret1 (T := []) (T' := []) rfl rV ?_ sT
    exact ⟨bad fun h => h1 (hLV.1 h).2.1, rfl⟩
  rw [decide_eq_false (show ¬ (l.lv.length : Int) ≠ (l.es.length : Int) by omega)]
  try refine go ⟨?_⟩
  by_cases h2 : l.tr.length = l.es.length
  case neg =>
    rw [decide_eq_true (show (l.tr.length : Int) ≠ (l.es.length : Int) by omega)]
    try refine go ⟨?_⟩
    refine PE.ret1 (T := []) (T' := []) rfl rV ?_ sT
    exact ⟨bad fun h => h2 (hLV.1 h).2.2.1, rfl⟩
  rw [decide_eq_false (show ¬ (l.tr.length : Int) ≠ (l.es.length : Int) by omega)]
  have hne := hg.ne
  have hle := hne.le
  have hn1 := hne.n1
  have hn2 := hne.n2
  try refine go ⟨?_⟩
  refine WPL.eff (OpE.callT (T := []) lO pM2 (fun w hw => c_ContainsFuncI _ vL (fV 111 [] []) l.lv [] (fun x => decide (x < 0 ∨ x > 4)) (Rd.at rD hw) (by intro b _ q; cases q) hl2 (Pred.mk [] [] (fun w _ x _ => c_LV1 w x)))) rfl rfl ?_
  rintro _ _ ⟨T, ⟨rfl, rfl⟩, rfl⟩
  by_cases h3 : ∀ x ∈ l.lv, 0 ≤ x ∧ x ≤ 4
  case neg =>
    rw [lev_any.2 h3]
    try refine go ⟨?_⟩
    refine PE.ret1 (T := []) (T' := []) rfl rV ?_ sT
    exact ⟨bad fun h => h3 (hLV.1 h).2.2.2.1, rfl⟩
  rw [lev_none h3]
  try refine go ⟨?_⟩
  refine WP.loop (σ := Nat) (fun k => [(1, ptrV b1), (36, .int .i64 k)]) (fun _ => [Tok.blk b1 [.int .i64 l.n, vE, vL, vT]]) (fun k => k ≤ 5 ∧ ∀ j, j < k → lvOk l j) (fun k => 5 - k) 0 ⟨by decide, fun j hj => absurd hj (Nat.not_lt_zero _)⟩ sE sT2 ?_
  rintro k ⟨hk5, hkj⟩
  try refine go ⟨?_⟩
  refine WP.condD rfl (fun hc => ?_) (fun hc => ?_)
  · have hk' : k < 5 := by omega
    have hgA : GV l.n (abv' l k true) := hg.sublist (abv_sub l k true)
    have hgB : GV l.n (abv' l k false) := hg.sublist (abv_sub l k false)
    have hOk := hOK k
    have hfle := forestL_le (n := l.n) (abv' l k true)
    have hAle := hgA.ne.le
    have hLA := labs_length l.n (abv' l k true)
    have hLB := labs_length l.n (abv' l k false)
    have hBok := hgB.okE
    have hNA := hgA.ne
    have hNB := hgB.ne
    have hnd : ∀ j : Nat, j < l.n.toNat → Nd l.n ((labs l.n (abv' l k false)).getD j 0) := fun j hj => by
      have := lab_nd hBok (x := (j : Int)) ⟨by omega, by omega⟩
      unfold lab at this
      rwa [Int.toNat_natCast] at this
    have hszi := fun (S : List Int) (a : S.length = l.n.toNat) b => sizes_iff (S := S) hBok a b (l.n / 2 ^ k)
    have hno : ¬ lvOk l k → ¬ LVok l := fun h q => h ((hLV.1 q).2.2.2.2 k hk')
    try refine go ⟨?_⟩
    refine WPL.eff OpE.alloc rfl rfl ?_; rintro _ _ ⟨b3, rfl, rfl⟩
    try refine go ⟨?_⟩
    refine WP.cutK (σ := Value × Value × Nat) (fun q => [(1, ptrV b1), (3, ptrV b3), (4, ptrV q.2.2), (5, q.2.1), (36, .int .i64 k)]) (fun q => [Tok.blk q.2.2 [.int .i64 l.n, q.1], Tok.own q.1 (abv' l k true), Tok.own q.2.1 (labs l.n (abv' l k false)), Tok.blk b3 [.int .i64 k], Tok.blk b1 [.int .i64 l.n, vE, vL, vT]]) (fun _ => True) ?_ ?_
    · refine WP.draw [Tok.blk b3 [.int .i64 k], Tok.blk b1 [.int .i64 l.n, vE, vL, vT]] mixed ?_
      refine WPD.take 0 rfl (by first | exact (Op1.load rfl mM (by rfl)) | exact (Op1.loadI rfl rD lT) | exact (Op1.loadAll rfl mM (by rfl)) | exact (Op1.loadE rfl rD lT (by rfl)) | exact (Op1.loadEAgg rfl rD lT (by rfl))) rfl rfl sT kR kR kR xQP ?_
      refine WPD.take 1 rfl (by first | exact (Op1.load rfl mM (by rfl)) | exact (Op1.loadI rfl rD lT) | exact (Op1.loadAll rfl mM (by rfl)) | exact (Op1.loadE rfl rD lT (by rfl)) | exact (Op1.loadEAgg rfl rD lT (by rfl))) rfl rfl sT kR kR kR xQP ?_
      refine WPD.take 3 rfl (by first | exact (Op1.load rfl mM (by rfl)) | exact (Op1.loadI rfl rD lT) | exact (Op1.loadAll rfl mM (by rfl)) | exact (Op1.loadE rfl rD lT (by rfl)) | exact (Op1.loadEAgg rfl rD lT (by rfl))) rfl rfl sT kR kR kR xQP ?_
      refine WPD.take 4 rfl (by first | exact (Op1.load rfl mM (by rfl)) | exact (Op1.loadI rfl rD lT) | exact (Op1.loadAll rfl mM (by rfl)) | exact (Op1.loadE rfl rD lT (by rfl)) | exact (Op1.loadEAgg rfl rD lT (by rfl))) rfl rfl sT kR kR kR xQP ?_
      refine WPD.two 2 7 kR ?e1_2 ?e1_7
      case' e1_2 =>
        refine WPO.eff rfl (OpE.call lO (fun w hw => c_above _ l vE vL vT k true (Rd.at rD hw) (Rd.at rD hw) (Rd.at rD hw) h1 h2 hle)) rfl rfl ?_
        rintro r _ ⟨T, ⟨v1, rfl, rfl⟩, rfl⟩
        refine ⟨sT, ?_⟩
        refine WPD.two 5 7 kR ?e2_5 ?e2_7
        case' e2_5 =>
          refine WPO.eff rfl (OpE.call lO (fun w hw => c_above _ l vE vL vT k false (Rd.at rD hw) (Rd.at rD hw) (Rd.at rD hw) h1 h2 hle)) rfl rfl ?_
          rintro r _ ⟨T, ⟨v2, rfl, rfl⟩, rfl⟩
          refine ⟨sT, ?_⟩
          refine WPD.two 6 7 kR ?e3_6 ?e3_7
          case' e3_6 =>
            refine WPO.eff rfl (OpE.call lO (fun w hw => c_parts _ l.n v2 (abv' l k false) (Rd.at rD hw) hNB)) rfl rfl ?_
            rintro v3 _ ⟨T, rfl, rfl⟩
            refine ⟨sT, ?_⟩
            refine WPD.eff 7 kR rfl OpE.alloc rfl rfl ?_
            rintro _ _ ⟨b4, rfl, rfl⟩
            refine ⟨sT, ?_⟩
            refine WPD.eff0 8 kR rfl (OpE.storeAll rfl rfl pM (by rfl) (by rfl) oN) rfl ?_
            rintro _ _ rfl
            refine ⟨sT, ?_⟩
            refine WPD.take 9 rfl (Op1.assign rfl) rfl rfl sT kR kR kR xQP ?_
            refine WPD.done kR ?_
          case' e3_7 =>
            refine WPO.eff rfl OpE.alloc rfl rfl ?_
            rintro _ _ ⟨b4, rfl, rfl⟩
            refine ⟨sT, ?_⟩
            refine WPD.eff 6 kR rfl (OpE.call lO (fun w hw => c_parts _ l.n v2 (abv' l k false) (Rd.at rD hw) hNB)) rfl rfl ?_
            rintro v3 _ ⟨T, rfl, rfl⟩
            refine ⟨sT, ?_⟩
            refine WPD.eff0 8 kR rfl (OpE.storeAll rfl rfl pM (by rfl) (by rfl) oN) rfl ?_
            rintro _ _ rfl
            refine ⟨sT, ?_⟩
            refine WPD.take 9 rfl (Op1.assign rfl) rfl rfl sT kR kR kR xQP ?_
            refine WPD.done kR ?_
        case' e2_7 =>
          refine WPO.eff rfl OpE.alloc rfl rfl ?_
          rintro _ _ ⟨b4, rfl, rfl⟩
          refine ⟨sT, ?_⟩
          refine WPD.eff 5 kR rfl (OpE.call lO (fun w hw => c_above _ l vE vL vT k false (Rd.at rD hw) (Rd.at rD hw) (Rd.at rD hw) h1 h2 hle)) rfl rfl ?_
          rintro r _ ⟨T, ⟨v2, rfl, rfl⟩, rfl⟩
          refine ⟨sT, ?_⟩
          refine WPD.eff 6 kR rfl (OpE.call lO (fun w hw => c_parts _ l.n v2 (abv' l k false) (Rd.at rD hw) hNB)) rfl rfl ?_
          rintro v3 _ ⟨T, rfl, rfl⟩
          refine ⟨sT, ?_⟩
          refine WPD.eff0 8 kR rfl (OpE.storeAll rfl rfl pM (by rfl) (by rfl) oN) rfl ?_
          rintro _ _ rfl
          refine ⟨sT, ?_⟩
          refine WPD.take 9 rfl (Op1.assign rfl) rfl rfl sT kR kR kR xQP ?_
          refine WPD.done kR ?_
      case' e1_7 =>
        refine WPO.eff rfl OpE.alloc rfl rfl ?_
        rintro _ _ ⟨b4, rfl, rfl⟩
        refine ⟨sT, ?_⟩
        refine WPD.eff 2 kR rfl (OpE.call lO (fun w hw => c_above _ l vE vL vT k true (Rd.at rD hw) (Rd.at rD hw) (Rd.at rD hw) h1 h2 hle)) rfl rfl ?_
        rintro r _ ⟨T, ⟨v1, rfl, rfl⟩, rfl⟩
        refine ⟨sT, ?_⟩
        refine WPD.eff 5 kR rfl (OpE.call lO (fun w hw => c_above _ l vE vL vT k false (Rd.at rD hw) (Rd.at rD hw) (Rd.at rD hw) h1 h2 hle)) rfl rfl ?_
        rintro r _ ⟨T, ⟨v2, rfl, rfl⟩, rfl⟩
        refine ⟨sT, ?_⟩
        refine WPD.eff 6 kR rfl (OpE.call lO (fun w hw => c_parts _ l.n v2 (abv' l k false) (Rd.at rD hw) hNB)) rfl rfl ?_
        rintro v3 _ ⟨T, rfl, rfl⟩
        refine ⟨sT, ?_⟩
        refine WPD.eff0 8 kR rfl (OpE.storeAll rfl rfl pM (by rfl) (by rfl) oN) rfl ?_
        rintro _ _ rfl
        refine ⟨sT, ?_⟩
        refine WPD.take 9 rfl (Op1.assign rfl) rfl rfl sT kR kR kR xQP ?_
        refine WPD.done kR ?_
      all_goals (refine PE.mid (v1, v3, b4) trivial sE sT)
    rintro ⟨v1, v3, b4⟩ _
    dsimp only
    try refine go ⟨?_⟩
    by_cases hF : (forestL l.n (abv' l k true)).length = (abv' l k true).length
    case neg =>
      refine WP.draw [Tok.blk b4 [.int .i64 l.n, v1], Tok.own v1 (abv' l k true), Tok.own v3 (labs l.n (abv' l k false)), Tok.blk b3 [.int .i64 k], Tok.blk b1 [.int .i64 l.n, vE, vL, vT]] mixed ?_
      refine WPD.take 0 rfl (by first | exact (Op1.load rfl mM (by rfl)) | exact (Op1.loadI rfl rD lT) | exact (Op1.loadAll rfl mM (by rfl)) | exact (Op1.loadE rfl rD lT (by rfl)) | exact (Op1.loadEAgg rfl rD lT (by rfl))) rfl rfl sT kR kR kR xQP ?_
      refine WPD.take 3 rfl (by first | exact (Op1.fieldAddr rfl) | exact (Op1.fieldAddrE rfl rD lT)) rfl rfl sT kR kR kR xQP ?_
      refine WPD.take 4 rfl (by first | exact (Op1.load rfl mM (by rfl)) | exact (Op1.loadI rfl rD lT) | exact (Op1.loadAll rfl mM (by rfl)) | exact (Op1.loadE rfl rD lT (by rfl)) | exact (Op1.loadEAgg rfl rD lT (by rfl))) rfl rfl sT kR kR kR xQP ?_
      refine WPD.take 5 rfl (Op1.len rfl rD) rfl rfl sT kR kR kR xQP ?_
      refine WPD.eff 1 kR rfl (OpE.call lO (fun w hw => c_forest _ l.n v1 (abv' l k true) (Rd.at rD hw) hNA)) rfl rfl ?_
      rintro v4 _ ⟨T, rfl, rfl⟩
      refine ⟨sT, ?_⟩
      refine WPD.eff 2 kR rfl (OpE.ofPure (Op1.len rfl rD)) rfl rfl ?_
      rintro _ _ ⟨rfl, rfl⟩
      refine ⟨sT, ?_⟩
      refine WPD.take 6 rfl (Op1.ltI rfl rfl) rfl rfl sT kR kR kR xQP ?_
      rw [decide_eq_true (show ((forestL l.n (abv' l k true)).length : Int) < ((abv' l k true).length : Int) by omega)]
      refine WPD.take 7 rfl (Op1.move rfl) rfl rfl sT kR kR kR xQP ?_
      refine WPD.skip 8 rfl rfl rfl sT kR kR kR xQP ?_
      refine WPD.skip 10 rfl rfl rfl sT kR kR kR xQP ?_
      refine WPD.skip 9 rfl rfl rfl sT kR kR kR xQP ?_
      refine WPD.skip 11 rfl rfl rfl sT kR kR kR xQP ?_
      refine WPD.skip 12 rfl rfl rfl sT kR kR kR xQP ?_
      refine WPD.take 13 rfl (by first | exact (Op1.pickT rfl rfl) | exact (Op1.pickF rfl rfl)) rfl rfl sT kR kR kR xQP ?_
      refine WPD.done kR ?_
      all_goals (
        try refine go ⟨?_⟩
        refine PE.ret1 (T := []) (T' := []) rfl rV ?_ sT
        exact ⟨bad (hno fun q => hF (hOk.1 q).1), rfl⟩)
    by_cases hLb : labs l.n (abv' l k true) = labs l.n (abv' l k false)
    case neg =>
      refine WP.draw [Tok.blk b4 [.int .i64 l.n, v1], Tok.own v1 (abv' l k true), Tok.own v3 (labs l.n (abv' l k false)), Tok.blk b3 [.int .i64 k], Tok.blk b1 [.int .i64 l.n, vE, vL, vT]] mixed ?_
      refine WPD.take 0 rfl (by first | exact (Op1.load rfl mM (by rfl)) | exact (Op1.loadI rfl rD lT) | exact (Op1.loadAll rfl mM (by rfl)) | exact (Op1.loadE rfl rD lT (by rfl)) | exact (Op1.loadEAgg rfl rD lT (by rfl))) rfl rfl sT kR kR kR xQP ?_
      refine WPD.take 3 rfl (by first | exact (Op1.fieldAddr rfl) | exact (Op1.fieldAddrE rfl rD lT)) rfl rfl sT kR kR kR xQP ?_
      refine WPD.take 4 rfl (by first | exact (Op1.load rfl mM (by rfl)) | exact (Op1.loadI rfl rD lT) | exact (Op1.loadAll rfl mM (by rfl)) | exact (Op1.loadE rfl rD lT (by rfl)) | exact (Op1.loadEAgg rfl rD lT (by rfl))) rfl rfl sT kR kR kR xQP ?_
      refine WPD.take 5 rfl (Op1.len rfl rD) rfl rfl sT kR kR kR xQP ?_
      refine WPD.eff 1 kR rfl (OpE.call lO (fun w hw => c_forest _ l.n v1 (abv' l k true) (Rd.at rD hw) hNA)) rfl rfl ?_
      rintro v4 _ ⟨T, rfl, rfl⟩
      refine ⟨sT, ?_⟩
      refine WPD.eff 2 kR rfl (OpE.ofPure (Op1.len rfl rD)) rfl rfl ?_
      rintro _ _ ⟨rfl, rfl⟩
      refine ⟨sT, ?_⟩
      refine WPD.take 6 rfl (Op1.ltI rfl rfl) rfl rfl sT kR kR kR xQP ?_
      rw [decide_eq_false (show ¬ ((forestL l.n (abv' l k true)).length : Int) < ((abv' l k true).length : Int) by omega)]
      refine WPD.take 7 rfl (Op1.move rfl) rfl rfl sT kR kR kR xQP ?_
      refine WPD.take 8 rfl (by first | exact (Op1.load rfl mM (by rfl)) | exact (Op1.loadI rfl rD lT) | exact (Op1.loadAll rfl mM (by rfl)) | exact (Op1.loadE rfl rD lT (by rfl)) | exact (Op1.loadEAgg rfl rD lT (by rfl))) rfl rfl sT kR kR kR xQP ?_
      refine WPD.take 10 rfl (Op1.move rfl) rfl rfl sT kR kR kR xQP ?_
      refine WPD.eff 9 kR rfl (OpE.call lO (fun w hw => c_parts _ l.n v1 (abv' l k true) (Rd.at rD hw) hNA)) rfl rfl ?_
      rintro v5 _ ⟨T, rfl, rfl⟩
      refine ⟨sT, ?_⟩
      refine WPD.eff 11 kR rfl (OpE.call lO (fun w hw => c_EqualI _ v5 v3 (labs l.n (abv' l k true)) (labs l.n (abv' l k false)) (Rd.at rD hw) (Rd.at rD hw) (by omega) (by omega))) rfl rfl ?_
      rintro r _ ⟨T, ⟨rfl, rfl⟩, rfl⟩
      rw [decide_eq_false hLb]
      refine ⟨sT, ?_⟩
      refine WPD.eff 12 kR rfl (OpE.ofPure (by first | exact (Op1.notD rfl) | exact (Op1.not rfl))) rfl rfl ?_
      rintro _ _ ⟨rfl, rfl⟩
      refine ⟨sT, ?_⟩
      refine WPD.take 13 rfl (by first | exact (Op1.pickT rfl rfl) | exact (Op1.pickF rfl rfl)) rfl rfl sT kR kR kR xQP ?_
      refine WPD.done kR ?_
      all_goals first
        | exact absurd ‹(!false) = false› (by decide)
        | (try refine go ⟨?_⟩
           refine PE.ret1 (T := []) (T' := []) rfl rV ?_ sT
           exact ⟨bad (hno fun q => hLb (hOk.1 q).2.1), rfl⟩)
    refine WP.draw [Tok.blk b4 [.int .i64 l.n, v1], Tok.own v1 (abv' l k true), Tok.own v3 (labs l.n (abv' l k false)), Tok.blk b3 [.int .i64 k], Tok.blk b1 [.int .i64 l.n, vE, vL, vT]] mixed ?_
    refine WPD.take 0 rfl (by first | exact (Op1.load rfl mM (by rfl)) | exact (Op1.loadI rfl rD lT) | exact (Op1.loadAll rfl mM (by rfl)) | exact (Op1.loadE rfl rD lT (by rfl)) | exact (Op1.loadEAgg rfl rD lT (by rfl))) rfl rfl sT kR kR kR xQP ?_
    refine WPD.take 3 rfl (by first | exact (Op1.fieldAddr rfl) | exact (Op1.fieldAddrE rfl rD lT)) rfl rfl sT kR kR kR xQP ?_
    refine WPD.take 4 rfl (by first | exact (Op1.load rfl mM (by rfl)) | exact (Op1.loadI rfl rD lT) | exact (Op1.loadAll rfl mM (by rfl)) | exact (Op1.loadE rfl rD lT (by rfl)) | exact (Op1.loadEAgg rfl rD lT (by rfl))) rfl rfl sT kR kR kR xQP ?_
    refine WPD.take 5 rfl (Op1.len rfl rD) rfl rfl sT kR kR kR xQP ?_
    refine WPD.eff 1 kR rfl (OpE.call lO (fun w hw => c_forest _ l.n v1 (abv' l k true) (Rd.at rD hw) hNA)) rfl rfl ?_
    rintro v4 _ ⟨T, rfl, rfl⟩
    refine ⟨sT, ?_⟩
    refine WPD.eff 2 kR rfl (OpE.ofPure (Op1.len rfl rD)) rfl rfl ?_
    rintro _ _ ⟨rfl, rfl⟩
    refine ⟨sT, ?_⟩
    refine WPD.take 6 rfl (Op1.ltI rfl rfl) rfl rfl sT kR kR kR xQP ?_
    rw [decide_eq_false (show ¬ ((forestL l.n (abv' l k true)).length : Int) < ((abv' l k true).length : Int) by omega)]
    refine WPD.take 7 rfl (Op1.move rfl) rfl rfl sT kR kR kR xQP ?_
    refine WPD.take 8 rfl (by first | exact (Op1.load rfl mM (by rfl)) | exact (Op1.loadI rfl rD lT) | exact (Op1.loadAll rfl mM (by rfl)) | exact (Op1.loadE rfl rD lT (by rfl)) | exact (Op1.loadEAgg rfl rD lT (by rfl))) rfl rfl sT kR kR kR xQP ?_
    refine WPD.take 10 rfl (Op1.move rfl) rfl rfl sT kR kR kR xQP ?_
    refine WPD.eff 9 kR rfl (OpE.call lO (fun w hw => c_parts _ l.n v1 (abv' l k true) (Rd.at rD hw) hNA)) rfl rfl ?_
    rintro v5 _ ⟨T, rfl, rfl⟩
    refine ⟨sT, ?_⟩
    refine WPD.eff 11 kR rfl (OpE.call lO (fun w hw => c_EqualI _ v5 v3 (labs l.n (abv' l k true)) (labs l.n (abv' l k false)) (Rd.at rD hw) (Rd.at rD hw) (by omega) (by omega))) rfl rfl ?_
    rintro r _ ⟨T, ⟨rfl, rfl⟩, rfl⟩
    rw [decide_eq_true hLb]
    refine ⟨sT, ?_⟩
    refine WPD.eff 12 kR rfl (OpE.ofPure (by first | exact (Op1.notD rfl) | exact (Op1.not rfl))) rfl rfl ?_
    rintro _ _ ⟨rfl, rfl⟩
    refine ⟨sT, ?_⟩
    refine WPD.take 13 rfl (by first | exact (Op1.pickT rfl rfl) | exact (Op1.pickF rfl rfl)) rfl rfl sT kR kR kR xQP ?_
    refine WPD.done kR ?_
    all_goals first
      | exact absurd ‹(!true) = true› (by decide)
      | skip
    try refine go ⟨?_⟩
    refine WPL.eff (OpE.make (α := Int) rfl rfl (by omega)) rfl rfl ?_
    rintro v6 _ rfl
    try refine go ⟨?_⟩
    refine WP.loop (σ := Nat × List Int) (fun q => [(1, ptrV b1), (3, ptrV b3), (5, v3), (6, v6), (36, .int .i64 k), (63, v3), (64, .int .i64 (labs l.n (abv' l k false)).length), (65, .int .i64 q.1)])
      (fun q => [Tok.own v6 q.2, Tok.own v3 (labs l.n (abv' l k false)), Tok.blk b3 [.int .i64 k], Tok.blk b1 [.int .i64 l.n, vE, vL, vT]]) (fun q => q.1 ≤ (labs l.n (abv' l k false)).length ∧ cntS (labs l.n (abv' l k false)) q.1 q.2 (labs l.n (abv' l k false)).length) (fun q => (labs l.n (abv' l k false)).length - q.1) (0, List.replicate (labs l.n (abv' l k false)).length (0 : Int)) ⟨Nat.zero_le _, cntS_zero _ _⟩ sE sT2 ?_
    rintro ⟨j, S⟩ ⟨hj, hS⟩
    dsimp only at hj hS ⊢
    have hSl : S.length = (labs l.n (abv' l k false)).length := by unfold cntS at hS; exact hS.1
    try refine go ⟨?_⟩
    refine WP.condD rfl (fun hd => ?_) (fun hd => ?_)
    · have hj' : j < (labs l.n (abv' l k false)).length := by omega
      have hr := hnd j (by omega)
      have hr' : Nd (labs l.n (abv' l k false)).length ((labs l.n (abv' l k false)).getD j 0) := by unfold Nd at hr ⊢; omega
      have hst := cntS_step hS hj' hr'
      have hat := cntS_at hS hr'
      have hcl := cntR_le (labs l.n (abv' l k false)) j ((labs l.n (abv' l k false)).getD j 0)
      have hr1 := hr.1
      have hr2 := hr.2
      try refine go ⟨?_⟩
      refine WPL.eff0 (OpE.store1 (S.getD ((labs l.n (abv' l k false)).getD j 0).toNat 0 + 1) rfl rfl pM2 lT rfl) rfl ?_
      rintro _ _ rfl
      try refine go ⟨?_⟩
      refine PE.again (j + 1, S.set ((labs l.n (abv' l k false)).getD j 0).toNat (S.getD ((labs l.n (abv' l k false)).getD j 0).toNat 0 + 1)) ?_ ?_ sE sT2
      · exact ⟨by (try dsimp only); omega, hst⟩
      · (try dsimp only); omega
    · have hjn : j = (labs l.n (abv' l k false)).length := by omega
      subst hjn
      have hiff := hszi S (by omega) (fun r hr => by unfold cntS at hS; exact hS.2 r (by omega))
      try refine go ⟨?_⟩
      refine WPL.pure (Op1.mkFn (bnd := []) (caps := [ptrV b1, ptrV b3]) lO lO) rfl rfl ?_
      refine WPL.eff (OpE.callT (T := [Tok.blk b3 [.int .i64 k], Tok.blk b1 [.int .i64 l.n, vE, vL, vT]]) lO pM2 (fun w hw => c_ContainsFuncI _ v6 (fV 115 [] [ptrV b1, ptrV b3]) S [Tok.blk b3 [.int .i64 k], Tok.blk b1 [.int .i64 l.n, vE, vL, vT]] (fun x => decide (x > 1 ∧ x > l.n / 2 ^ k)) (Rd.at rD hw) (own_disj hw sT) (by omega) (Pred.mk [] [ptrV b1, ptrV b3] (fun w _ x _ => c_LV2 w b1 b3 l.n vE vL vT k (by omega) x)))) rfl rfl ?_
      rintro _ _ ⟨T, ⟨rfl, rfl⟩, rfl⟩
      by_cases hany : (S.any fun x => decide (x > 1 ∧ x > l.n / 2 ^ k)) = true
      · rw [hany]
        try refine go ⟨?_⟩
        refine PE.ret1 (T := []) (T' := []) rfl rV ?_ sT
        exact ⟨bad (hno fun q => hiff.1 hany (hOk.1 q).2.2), rfl⟩
      · rw [any_no hany]
        have hgood : lvOk l k := hOk.2 ⟨hF, hLb, Classical.byContradiction fun q => hany (hiff.2 q)⟩
        try refine go ⟨?_⟩
        refine PE.again (k + 1) ?_ ?_ sE sT2
        · refine ⟨by (try dsimp only); omega, fun j hj => ?_⟩
          rcases Nat.lt_succ_iff_lt_or_eq.1 hj with h | rfl
          · exact hkj j h
          · exact hgood
        · (try dsimp only); omega
  · have hk5' : k = 5 := by omega
    subst hk5'
    have hyes : LVok l := hLV.2 ⟨hg, h1, h2, h3, hkj⟩
    try refine go ⟨?_⟩
    refine PE.ret1 (T := []) (T' := []) rfl rV ?_ sT
    exact ⟨by rw [decide_eq_true hyes], rfl⟩
end Go.Proofs.Ytfigegmgopnfhaa
/- Graphs with levels: the walks of the program's LevelForest, LeveledConnected. Conditions: those of each contract. -/
namespace Go.Proofs.Ytfigegmgopnfhaa
open Go
def lfOk (l : LV) (k : Int) : Prop := LVok l ∧ 0 ≤ k ∧ k ≤ 4
instance (l : LV) (k : Int) : Decidable (lfOk l k) := by unfold lfOk; infer_instance
def lfL (l : LV) (k : Int) : List E := if lfOk l k then abv' l k true else []
theorem lfL_le (l : LV) (k : Int) : (lfL l k).length ≤ l.es.length := by
  unfold lfL
  split
  · exact (abv_sub l k true).length_le
  · exact Nat.zero_le _
def LCN (l : LV) (x y : Int) : Prop := LVok l ∧ Nd l.n x ∧ Nd l.n y ∧ cn l.n (abv' l 0 true) x y
instance (l : LV) (x y : Int) : Decidable (LCN l x y) := by unfold LCN; infer_instance
theorem LVok_len {l : LV} (h : LVok l) : GV l.n l.es ∧ l.lv.length = l.es.length ∧ l.tr.length = l.es.length := ⟨h.1, h.2.1, h.2.2.1⟩
set_option linter.unusedVariables false set_option linter.unusedSimpArgs false attribute [local irreducible] Tok.own Tok.blk RL Rd eptr WP WPL PE WPD WPO Op1 OpE Tri Again Mid Exit.then Exit.inBlock bodyPost RP Code.wp wpList isOwn OneM One
attribute [local irreducible] abv' LVok GV GN
set_option maxHeartbeats 16000000

theorem c_LevelForest (w : World) (l : LV) (vE vL vT : Value) (k : Int) (hE : RL w vE l.es) (hL : RL w vL l.lv) (hT : RL w vT l.tr) (hl1 : l.es.length ≤ 1099511627776) (hl2 : l.lv.length ≤ 1099511627776) (hl3 : l.tr.length ≤ 1099511627776) :
    Tri Try.prog 63 [.agg #[.int .i64 l.n, vE, vL, vT], .int .i64 k] w [] fun r T => ∃ v, r = .tuple #[v, .bool (decide (lfOk l k))] ∧ T = [Tok.own v (lfL l k)] := by
  have bad : ¬ lfOk l k → lfL l k = [] := fun h => if_neg h
  have good : lfOk l k → lfL l k = abv' l k true := fun h => if_pos h
  have hle : LVok l → l.es.length ≤ 1000 := fun h => (LVok_len h).1.ne.le
  refine Tri.intro (hf := Try.func63) (hb := rfl) (hn := Try.ntmps63) (Nat.le_of_ble_eq_true rfl) ?_
  try refine go ⟨?_⟩
  refine WPL.eff (OpE.box rfl) rfl rfl ?_; rintro _ _ ⟨b2, rfl, rfl⟩
  try refine go ⟨?_⟩
  refine WPL.eff (OpE.call lO (fun w hw => c_LevelsValid _ l vE vL vT (Rd.at rD hw) (Rd.at rD hw) (Rd.at rD hw) hl1 hl2 hl3)) rfl rfl ?_
  rintro _ _ ⟨T, ⟨rfl, rfl⟩, rfl⟩
  by_cases hv : LVok l
  case neg =>
    have hno : ¬ lfOk l k := fun q => hv q.1
    rw [decide_eq_false hv, decide_eq_false hno, bad hno]
    try refine go ⟨?_⟩
    refine PE.nilTok E ?_
    refine PE.ret2 (T := []) (T' := [Tok.own (.slice none 0 0) ([] : List E)]) rfl rV ?_ sT2
    exact ⟨_, rfl, rfl⟩
  rw [decide_eq_true hv]
  try refine go ⟨?_⟩
  by_cases h0 : k < 0
  · have hno : ¬ lfOk l k := fun q => by have := q.2.1; omega
    rw [decide_eq_true h0, decide_eq_false hno, bad hno]
    try refine go ⟨?_⟩
    refine PE.nilTok E ?_
    refine PE.ret2 (T := []) (T' := [Tok.own (.slice none 0 0) ([] : List E)]) rfl rV ?_ sT2
    exact ⟨_, rfl, rfl⟩
  rw [decide_eq_false h0]
  try refine go ⟨?_⟩
  by_cases h4 : k > 4
  · have hno : ¬ lfOk l k := fun q => by have := q.2.2; omega
    rw [decide_eq_true h4, decide_eq_false hno, bad hno]
    try refine go ⟨?_⟩
    refine PE.nilTok E ?_
    refine PE.ret2 (T := []) (T' := [Tok.own (.slice none 0 0) ([] : List E)]) rfl rV ?_ sT2
    exact ⟨_, rfl, rfl⟩
  have hyes : lfOk l k := ⟨hv, by omega, by omega⟩
  obtain ⟨q1, q2, q3⟩ := LVok_len hv
  rw [decide_eq_false h4, decide_eq_true hyes, good hyes]
  try refine go ⟨?_⟩
  refine WPL.eff (OpE.call lO (fun w hw => c_above _ l vE vL vT k true (Rd.at rD hw) (Rd.at rD hw) (Rd.at rD hw) q2 q3 (hle hv))) rfl rfl ?_
  rintro _ _ ⟨T, ⟨v, rfl, rfl⟩, rfl⟩
  try refine go ⟨?_⟩
  refine WPL.pure (Op1.fieldS 1 (by kernel_rfl) rfl rfl) rfl rfl ?_
  try refine go ⟨?_⟩
  refine PE.ret2 (T := []) (T' := [Tok.own v (abv' l k true)]) rfl rV ?_ sT2
  exact ⟨_, rfl, rfl⟩

theorem c_LeveledConnected (w : World) (l : LV) (vE vL vT : Value) (x y : Int) (hE : RL w vE l.es) (hL : RL w vL l.lv) (hT : RL w vT l.tr) (hl1 : l.es.length ≤ 1099511627776) (hl2 : l.lv.length ≤ 1099511627776) (hl3 : l.tr.length ≤ 1099511627776) :
    Tri Try.prog 58 [.agg #[.int .i64 l.n, vE, vL, vT], .int .i64 x, .int .i64 y] w [] fun r T => r = .bool (decide (LCN l x y)) ∧ T = [] := by
  have hle : LVok l → l.es.length ≤ 1000 := fun h => (LVok_len h).1.ne.le
  have hgn : ∀ z, GV l.n l.es → (GN l.n l.es z ↔ Nd l.n z) := fun z h => by unfold GN; exact ⟨fun q => q.2, fun q => ⟨h, q⟩⟩
  have hgA : LVok l → NE l.n (abv' l 0 true) := fun h => (h.gvA 0 true).ne
  have hL1 : LCN l x y ↔ LVok l ∧ Nd l.n x ∧ Nd l.n y ∧ cn l.n (abv' l 0 true) x y := Iff.rfl
  refine Tri.intro (hf := Try.func58) (hb := rfl) (hn := Try.ntmps58) (Nat.le_of_ble_eq_true rfl) ?_
  try refine go ⟨?_⟩
  refine WPL.eff (OpE.box rfl) rfl rfl ?_; rintro _ _ ⟨b3, rfl, rfl⟩
  try refine go ⟨?_⟩
  refine WPL.eff (OpE.call lO (fun w hw => c_LevelsValid _ l vE vL vT (Rd.at rD hw) (Rd.at rD hw) (Rd.at rD hw) hl1 hl2 hl3)) rfl rfl ?_
  rintro _ _ ⟨T, ⟨rfl, rfl⟩, rfl⟩
  by_cases hv : LVok l
  case neg =>
    rw [decide_eq_false hv]
    try refine go ⟨?_⟩
    refine PE.ret1 (T := []) (T' := []) rfl rV ?_ sT
    exact ⟨by rw [decide_eq_false fun q => hv (hL1.1 q).1], rfl⟩
  obtain ⟨q1, q2, q3⟩ := LVok_len hv
  rw [decide_eq_true hv]
  try refine go ⟨?_⟩
  refine WPL.pure (Op1.loadAgg (us := [.int .i64 l.n, vE]) rfl mM rfl rfl) rfl rfl ?_
  try refine go ⟨?_⟩
  refine WPL.eff (OpE.call lO (fun w hw => c_hasNodeG _ l.n vE l.es x (Rd.at rD hw) hl1)) rfl rfl ?_
  rintro _ _ ⟨T, ⟨rfl, rfl⟩, rfl⟩
  by_cases hx : Nd l.n x
  case neg =>
    rw [decide_eq_false fun q => hx ((hgn x q1).1 q)]
    try refine go ⟨?_⟩
    refine PE.ret1 (T := []) (T' := []) rfl rV ?_ sT
    exact ⟨by rw [decide_eq_false fun q => hx (hL1.1 q).2.1], rfl⟩
  rw [decide_eq_true ((hgn x q1).2 hx)]
  try refine go ⟨?_⟩
  refine WPL.pure (Op1.loadAgg (us := [.int .i64 l.n, vE]) rfl mM rfl rfl) rfl rfl ?_
  try refine go ⟨?_⟩
  refine WPL.eff (OpE.call lO (fun w hw => c_hasNodeG _ l.n vE l.es y (Rd.at rD hw) hl1)) rfl rfl ?_
  rintro _ _ ⟨T, ⟨rfl, rfl⟩, rfl⟩
  by_cases hy : Nd l.n y
  case neg =>
    rw [decide_eq_false fun q => hy ((hgn y q1).1 q)]
    try refine go ⟨?_⟩
    refine PE.ret1 (T := []) (T' := []) rfl rV ?_ sT
    exact ⟨by rw [decide_eq_false fun q => hy (hL1.1 q).2.2.1], rfl⟩
  rw [decide_eq_true ((hgn y q1).2 hy)]
  try refine go ⟨?_⟩
  refine WPL.eff (OpE.call lO (fun w hw => c_above _ l vE vL vT 0 true (Rd.at rD hw) (Rd.at rD hw) (Rd.at rD hw) q2 q3 (hle hv))) rfl rfl ?_
  rintro _ _ ⟨T, ⟨v, rfl, rfl⟩, rfl⟩
  try refine go ⟨?_⟩
  refine WPL.eff (OpE.call lO (fun w hw => c_connected _ l.n v (abv' l 0 true) x y (Rd.at rD hw) (hgA hv) hx hy)) rfl rfl ?_
  rintro _ _ ⟨T, ⟨rfl, rfl⟩, rfl⟩
  try refine go ⟨?_⟩
  refine PE.ret1 (T := []) (T' := []) rfl rV ?_ sT
  refine ⟨?_, rfl⟩
  congr 1; rw [decide_eq_decide]
  exact ⟨fun q => hL1.2 ⟨hv, hx, hy, q⟩, fun q => (hL1.1 q).2.2.2⟩
end Go.Proofs.Ytfigegmgopnfhaa
