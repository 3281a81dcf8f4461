/- Rooted trees: plain facts about meeting. -/
import Derived.Test.YtjmbnhohfhpopaaMath1
import Derived.Test.YtjmbnhohfhpopaaRoot5
namespace Go.Proofs.Ytjmbnhohfhpopaa
open Go

def meetG (ps ws : List Int) (x y : Int) : Option Int := if NV ps ws x ∧ NV ps ws y then meetF ps x y else none
theorem meetV.val {ps ws : List Int} {x y : Int} {r : Value} (h : meetV ps ws x y r) : r = .tuple #[.int .i64 ((meetG ps ws x y).getD 0), .bool (meetG ps ws x y).isSome] := by
  unfold meetG
  rcases h with ⟨m, h1, h2, rfl⟩ | ⟨h1, rfl⟩
  · rw [if_pos (show NV ps ws x ∧ NV ps ws y from h1), h2]; rfl
  · split
    · next h2 =>
      have : meetF ps x y = none := by
        cases e : meetF ps x y with
        | none => rfl
        | some m => exact absurd ⟨h2, by rw [e]; rfl⟩ h1
      rw [this]; rfl
    · rfl

theorem getD_append_last (l s : List Int) (h : 0 < s.length) : (l ++ s).getD ((l ++ s).length - 1) 0 = s.getD (s.length - 1) 0 := by
  rw [List.getD_eq_getElem?_getD, List.getD_eq_getElem?_getD, List.length_append, List.getElem?_append_right (by omega)]
  congr 2; omega
theorem NV.of_up {ps ws : List Int} {x m : Int} (h : NV ps ws x) (hm : m ∈ up ps ps.length x) : NV ps ws m :=
  ⟨h.1, up_node h.1.allN ps.length x h.inN m hm⟩
theorem rootV_up {ps ws : List Int} {x m : Int} (h : NV ps ws x) (hm : m ∈ up ps ps.length x) : rootV ps x = rootV ps m := by
  obtain ⟨_, l, e⟩ := up_suf h.ends hm
  unfold rootV
  rw [e, getD_append_last _ _ (h.of_up hm).up_pos]
theorem NV.root {ps ws : List Int} {x : Int} (h : NV ps ws x) : NV ps ws (rootV ps x) := h.of_up (rootV_mem h)
theorem up_eq_nil {ps : List Int} : ∀ {k : Nat} {x : Int}, up ps k x = [] → ends ps k x = true → x = -1
  | 0, x, _, h => by simpa [ends] using h
  | k + 1, x, h, _ => by
    unfold up at h
    by_cases hx : x = -1
    · exact hx
    · rw [if_neg hx] at h; cases h
theorem root_top {ps ws : List Int} {x : Int} (h : NV ps ws x) : ps.getD (rootV ps x).toNat 0 = -1 := by
  have ha := h.root
  have hc := ha.up_cons
  have hnd := up_nodup ha.ends
  have hr : rootV ps (rootV ps x) = rootV ps x := (rootV_up h (rootV_mem h)).symm
  have he : ends ps (ps.length - 1) (ps.getD (rootV ps x).toNat 0) = true := by
    have h1 : 1 ≤ ps.length := h.1.1
    have h3 : rootV ps x ≠ -1 := by have := ha.2.1; omega
    have := ends_step (ps := ps) (n := ps.length) (k := 0) (y := rootV ps x) (by omega) h3
    simp only [Nat.sub_zero, Nat.zero_add] at this
    rw [← this]; exact ha.ends
  refine up_eq_nil (k := ps.length - 1) ?_ he
  generalize hs : up ps (ps.length - 1) (ps.getD (rootV ps x).toNat 0) = s at *
  cases s with
  | nil => rfl
  | cons b t =>
    exfalso
    rw [hc] at hnd
    have h1 : rootV ps (rootV ps x) ∈ b :: t := by
      have : rootV ps (rootV ps x) = (b :: t).getD ((b :: t).length - 1) 0 := by
        have := getD_append_last [rootV ps x] (b :: t) (by simp)
        rw [← this]
        unfold rootV at hc ⊢
        rw [hc]; rfl
      rw [this]; exact getD_mem (by simp)
    rw [hr] at h1
    exact (List.nodup_cons.1 hnd).1 h1
theorem up_root_one {ps ws : List Int} {x : Int} (h : NV ps ws x) : up ps ps.length (rootV ps x) = [rootV ps x] := h.root.up_top (root_top h)

theorem meet_iff {ps ws : List Int} {x y : Int} (hx : NV ps ws x) (hy : NV ps ws y) : (meetF ps x y).isSome = true ↔ rootV ps x = rootV ps y := by
  unfold meetF
  rw [List.find?_isSome]
  constructor
  · rintro ⟨m, h1, h2⟩
    have h2' : m ∈ up ps ps.length y := by simpa using h2
    rw [rootV_up hx h1, rootV_up hy h2']
  · intro h
    exact ⟨rootV ps x, rootV_mem hx, by rw [h]; simpa using rootV_mem hy⟩
theorem meet_self {ps ws : List Int} {x : Int} (hx : NV ps ws x) : meetF ps x x = some x := by
  have h1 := hx.up_cons
  unfold meetF
  have h2 : x ∈ up ps ps.length x := by rw [h1]; simp
  generalize up ps ps.length x = l at *
  rw [h1] at h2 ⊢
  rw [List.find?_cons_of_pos (by simp)]
theorem meet_root {ps ws : List Int} {x : Int} (hx : NV ps ws x) : meetF ps x (rootV ps x) = some (rootV ps x) := by
  have h1 : (meetF ps x (rootV ps x)).isSome = true := (meet_iff hx hx.root).2 (rootV_up hx (rootV_mem hx))
  obtain ⟨m, hm⟩ := Option.isSome_iff_exists.1 h1
  have h2 := (List.find?_some hm)
  rw [up_root_one hx] at h2
  have : m = rootV ps x := by simpa using h2
  rw [hm, this]
end Go.Proofs.Ytjmbnhohfhpopaa
