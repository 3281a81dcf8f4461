/- Rooted trees as graphs: plain facts. No conditions. -/
import Derived.Test.YtjmbnhohfhpopaaGm1
import Derived.Test.YtjmbnhohfhpopaaGra5
import Derived.Test.YtjmbnhohfhpopaaMath1
namespace Go.Proofs.Ytjmbnhohfhpopaa
open Go

/-- The edges of the first k nodes to their parents. -/
def gE (ps : List Int) : Nat → List E
  | 0 => []
  | k + 1 => if 0 ≤ ps.getD k 0 then insE (gE ps k) (mkE k (ps.getD k 0)) else gE ps k
theorem mem_gE {ps : List Int} {e : E} : ∀ {k : Nat}, e ∈ gE ps k ↔ ∃ i, i < k ∧ 0 ≤ ps.getD i 0 ∧ e = mkE i (ps.getD i 0)
  | 0 => by simp [gE]
  | k + 1 => by
    unfold gE
    split
    · rename_i h
      rw [mem_insE, mem_gE]
      constructor
      · rintro (rfl | ⟨i, h1, h2⟩)
        · exact ⟨k, by omega, h, rfl⟩
        · exact ⟨i, by omega, h2⟩
      · rintro ⟨i, h1, h2, h3⟩
        by_cases hik : i = k
        · subst hik; exact .inl h3
        · exact .inr ⟨i, by omega, h2, h3⟩
    · rename_i h
      rw [mem_gE]
      constructor
      · rintro ⟨i, h1, h2⟩; exact ⟨i, by omega, h2⟩
      · rintro ⟨i, h1, h2, h3⟩
        have hik : i ≠ k := fun hik => h (hik ▸ h2)
        exact ⟨i, by omega, h2, h3⟩
theorem gE_length (ps : List Int) : ∀ k, (gE ps k).length ≤ k
  | 0 => Nat.le_refl _
  | k + 1 => by
    have := gE_length ps k
    unfold gE
    split
    · rw [insE_length]; omega
    · omega

/-- How many nodes there are up to the root. -/
def dep (ps : List Int) (x : Int) : Nat := (up ps ps.length x).length
theorem up_par {ps ws : List Int} {x : Int} (h : NV ps ws x) : up ps ps.length x = x :: up ps ps.length (ps.getD x.toNat 0) := by
  rw [h.up_cons]
  congr 1
  have h1 : 1 ≤ ps.length := h.1.1
  have h3 : x ≠ -1 := by have := h.2.1; omega
  have h4 := h.ends
  have h5 := ends_step (ps := ps) (n := ps.length) (k := 0) (y := x) (by omega) h3
  rw [Nat.sub_zero] at h5
  rw [h5] at h4
  exact (up_stab (by omega) h4).symm
theorem dep_par {ps ws : List Int} {x : Int} (h : NV ps ws x) : dep ps x = dep ps (ps.getD x.toNat 0) + 1 := by
  unfold dep; rw [up_par h, List.length_cons]
theorem NV.par {ps ws : List Int} {x : Int} (h : NV ps ws x) (hp : 0 ≤ ps.getD x.toNat 0) : NV ps ws (ps.getD x.toNat 0) := by
  have := h.1.allN x.toNat (by have := h.2.1; have := h.2.2; omega)
  exact ⟨h.1, hp, this.2⟩
theorem RV.nv {ps ws : List Int} (h : RV ps ws) {i : Nat} (hi : i < ps.length) : NV ps ws i := ⟨h, by omega, by omega⟩
theorem mkE_nodes {x y : Int} {e : E} (h : e = mkE x y) : (e.A = x ∧ e.B = y) ∨ (e.A = y ∧ e.B = x) := by
  subst h; unfold mkE; dsimp only; omega
theorem mkE_inj {ps ws : List Int} (hv : RV ps ws) {i j : Nat} (hi : i < ps.length) (hj : j < ps.length) (pi : 0 ≤ ps.getD i 0) (pj : 0 ≤ ps.getD j 0) (h : mkE i (ps.getD i 0) = mkE j (ps.getD j 0)) : i = j := by
  have h1 := mkE_nodes (x := (i : Int)) (y := ps.getD i 0) rfl
  have h2 := mkE_nodes (x := (j : Int)) (y := ps.getD j 0) rfl
  rw [h] at h1
  have d1 := dep_par (hv.nv hi)
  have d2 := dep_par (hv.nv hj)
  simp only [Int.toNat_natCast] at d1 d2
  rcases Decidable.em (i = j) with h3 | h3
  · exact h3
  · have e1 : ps.getD i 0 = j := by omega
    have e2 : ps.getD j 0 = i := by omega
    rw [e1] at d1
    rw [e2] at d2
    omega
theorem par_ne {ps ws : List Int} (hv : RV ps ws) {i : Nat} (hi : i < ps.length) : ps.getD i 0 ≠ i := by
  intro h
  have d1 := dep_par (hv.nv hi)
  simp only [Int.toNat_natCast] at d1
  rw [h] at d1; omega
theorem edOk_par {ps ws : List Int} (hv : RV ps ws) {i : Nat} (hi : i < ps.length) (hp : 0 ≤ ps.getD i 0) : edOk i (ps.getD i 0) := by
  have h1 := par_ne hv hi
  have h2 := (hv.allN i hi).2
  have h3 := hv.2.1
  unfold edOk Nd
  omega
theorem gE_valid {ps ws : List Int} (hv : RV ps ws) : ∀ k, k ≤ ps.length → GV ps.length (gE ps k)
  | 0, _ => GV.nil (by have := hv.1; omega) (by have := hv.2.1; omega)
  | k + 1, hk => by
    have h1 := gE_valid hv k (by omega)
    have h2 := gE_length ps k
    unfold gE
    split
    · rename_i hp
      have h3 := par_ne hv (i := k) (by omega)
      have h4 := (hv.allN k (by omega)).2
      have h5 := hv.2.1
      refine h1.ins (fun hm => ?_) ?_ (by omega)
      · obtain ⟨i, hi, pi, he⟩ := mem_gE.1 hm
        have := mkE_inj hv (by omega) (by omega) pi hp he.symm
        omega
      · unfold okN mkE; dsimp only; omega
    · exact h1
theorem gE_put {ps ws : List Int} (hv : RV ps ws) {k : Nat} (hk : k < ps.length) (hp : 0 ≤ ps.getD k 0) : putOk ps.length (gE ps k) (mkE k (ps.getD k 0)) := by
  have h1 := gE_valid hv k (by omega)
  refine ⟨h1, fun hm => ?_, ?_⟩
  · obtain ⟨i, hi, pi, he⟩ := mem_gE.1 hm
    have := mkE_inj hv (by omega) (by omega) pi hp he.symm
    omega
  · have := gE_valid hv (k + 1) hk
    rw [gE, if_pos hp] at this
    exact this
theorem rootV_par {ps ws : List Int} {x : Int} (h : NV ps ws x) (hp : 0 ≤ ps.getD x.toNat 0) : rootV ps x = rootV ps (ps.getD x.toNat 0) := by
  have h2 := (h.par hp).up_pos
  unfold rootV
  rw [up_par h, List.length_cons]
  have : (up ps ps.length (ps.getD x.toNat 0)).length + 1 - 1 = (up ps ps.length (ps.getD x.toNat 0)).length - 1 + 1 := by omega
  rw [this]; rfl
theorem rootV_top {ps ws : List Int} {x : Int} (h : NV ps ws x) (hp : ps.getD x.toNat 0 = -1) : rootV ps x = x := by
  unfold rootV
  rw [h.up_top hp]; rfl
theorem gE_root {ps ws : List Int} (hv : RV ps ws) : ∀ (d : Nat) (x : Int), dep ps x = d → NV ps ws x → Conn (gE ps ps.length) x (rootV ps x) ∧ NV ps ws (rootV ps x) := by
  intro d
  induction d using Nat.strongRecOn with
  | _ d ih =>
    intro x hd hx
    have h0 := hx.2.1
    have h1 := hx.2.2
    by_cases hp : 0 ≤ ps.getD x.toNat 0
    · have hd' := dep_par hx
      obtain ⟨h2, h3⟩ := ih (dep ps (ps.getD x.toNat 0)) (by omega) _ rfl (hx.par hp)
      rw [rootV_par hx hp]
      refine ⟨?_, h3⟩
      have h4 : mkE (x.toNat : Int) (ps.getD x.toNat 0) ∈ gE ps ps.length := mem_gE.2 ⟨x.toNat, by omega, hp, rfl⟩
      rw [Int.toNat_of_nonneg h0] at h4
      refine Conn.trans (.adj ⟨_, h4, mkE_nodes rfl⟩) h2
    · have h5 := (hv.allN x.toNat (by omega)).1
      have h6 : ps.getD x.toNat 0 = -1 := by omega
      rw [rootV_top hx h6]
      exact ⟨.refl, hx⟩
theorem gE_indep {ps ws : List Int} (hv : RV ps ws) : Indep (gE ps ps.length) := by
  intro e he hc
  obtain ⟨i, hi, pi, rfl⟩ := mem_gE.1 he
  have hni := hv.nv hi
  have hE := (gE_valid hv _ (Nat.le_refl _)).okE
  -- whether i is on the way up
  have key : ∀ x y, Conn (rem (gE ps ps.length) (mkE i (ps.getD i 0))) x y → Nd ps.length x → ((i : Int) ∈ up ps ps.length x ↔ (i : Int) ∈ up ps ps.length y) := by
    intro x y h hx
    induction h with
    | refl => exact Iff.rfl
    | step h1 h2 ih =>
      rw [ih]
      obtain ⟨f, hf, h3⟩ := h2
      obtain ⟨h4, h5⟩ := mem_rem.1 hf
      obtain ⟨j, hj, pj, rfl⟩ := mem_gE.1 h4
      have hij : i ≠ j := fun h => h5 (by rw [h])
      have hup := up_par (hv.nv hj)
      simp only [Int.toNat_natCast] at hup
      have h6 : (i : Int) ∈ up ps ps.length (j : Int) ↔ (i : Int) ∈ up ps ps.length (ps.getD j 0) := by
        rw [hup, List.mem_cons]
        constructor
        · rintro (h | h)
          · omega
          · exact h
        · exact .inr
      rcases mkE_nodes (x := (j : Int)) (y := ps.getD j 0) rfl with ⟨h7, h8⟩ | ⟨h7, h8⟩
      · rw [h7, h8] at h3
        rcases h3 with ⟨rfl, rfl⟩ | ⟨rfl, rfl⟩
        · exact h6
        · exact h6.symm
      · rw [h7, h8] at h3
        rcases h3 with ⟨rfl, rfl⟩ | ⟨rfl, rfl⟩
        · exact h6.symm
        · exact h6
  have hup := up_par hni
  simp only [Int.toNat_natCast] at hup
  have hnd := up_nodup hni.ends
  have h1 : (i : Int) ∈ up ps ps.length (i : Int) := by rw [hup]; simp
  have h2 : (i : Int) ∉ up ps ps.length (ps.getD i 0) := by
    rw [hup] at hnd
    exact (List.nodup_cons.1 hnd).1
  have h3 : Nd ps.length (i : Int) := ⟨by omega, by omega⟩
  have h4 : Nd ps.length (ps.getD i 0) := ⟨pi, (hv.allN i hi).2⟩
  rcases mkE_nodes (x := (i : Int)) (y := ps.getD i 0) rfl with ⟨h7, h8⟩ | ⟨h7, h8⟩
  · rw [h7, h8] at hc
    exact h2 ((key _ _ hc h3).1 h1)
  · rw [h7, h8] at hc
    exact h2 ((key _ _ hc h4).2 h1)
theorem gE_forest {ps ws : List Int} (hv : RV ps ws) : forestL ps.length (gE ps ps.length) = gE ps ps.length :=
  forest_self (gE_valid hv _ (Nat.le_refl _)).okE (gE_indep hv) (gE_valid hv _ (Nat.le_refl _)).nodup
end Go.Proofs.Ytjmbnhohfhpopaa
