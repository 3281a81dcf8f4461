/- Rooted trees: plain facts about turning. -/
import Derived.Test.YtjmbnhohfhpopaaMath3
import Derived.Test.YtjmbnhohfhpopaaMath4
namespace Go.Proofs.Ytjmbnhohfhpopaa
open Go

theorem getD_inj {l : List Int} (hd : l.Nodup) {i j : Nat} (hi : i < l.length) (hj : j < l.length) (h : l.getD i 0 = l.getD j 0) : i = j := by
  rw [List.getD_eq_getElem?_getD, List.getD_eq_getElem?_getD, List.getElem?_eq_getElem hi, List.getElem?_eq_getElem hj] at h
  have h : l[i] = l[j] := h
  have hp := List.pairwise_iff_getElem.1 hd
  rcases Nat.lt_trichotomy i j with h1 | h1 | h1
  · exact absurd h (hp i j hi hj h1)
  · exact h1
  · exact absurd h.symm (hp j i hj hi h1)

/-- What stands where behind a turn. -/
theorem turnP_get {ps l : List Int} (hd : l.Nodup) (h0 : ∀ a ∈ l, 0 ≤ a ∧ a < ps.length) : ∀ k, k < l.length →
    (turnP ps l k).getD (l.getD 0 0).toNat 0 = -1 ∧ (∀ j, j + 1 ≤ k → (turnP ps l k).getD (l.getD (j + 1) 0).toNat 0 = l.getD j 0) ∧
    ∀ z : Int, 0 ≤ z → (∀ j, j ≤ k → l.getD j 0 ≠ z) → (turnP ps l k).getD z.toNat 0 = ps.getD z.toNat 0
  | 0, h => by
    have hm := h0 _ (getD_mem h)
    refine ⟨getD_set_eq (by omega), fun j hj => by omega, fun z hz hne => ?_⟩
    have := hne 0 (by omega)
    exact getD_set_ne (by omega)
  | k + 1, h => by
    obtain ⟨i1, i2, i3⟩ := turnP_get hd h0 k (by omega)
    have hm := h0 _ (getD_mem h)
    have hz := h0 _ (getD_mem (l := l) (i := 0) (by omega))
    have hl := turnP_length ps l k
    unfold turnP
    have ne : ∀ j, j ≤ k → (l.getD (k + 1) 0).toNat ≠ (l.getD j 0).toNat := fun j hj e => by
      have hj' := h0 _ (getD_mem (l := l) (i := j) (by omega))
      have := getD_inj hd h (by omega : j < l.length) (by omega)
      omega
    refine ⟨?_, fun j hj => ?_, fun z hz' hne => ?_⟩
    · rw [getD_set_ne (ne 0 (by omega))]; exact i1
    · by_cases e : j = k
      · subst e; exact getD_set_eq (by omega)
      · rw [getD_set_ne (ne (j + 1) (by omega))]; exact i2 j (by omega)
    · have := hne (k + 1) (by omega)
      rw [getD_set_ne (by omega)]; exact i3 z hz' (fun j hj => hne j (by omega))
theorem turnW_get {ws l : List Int} (hd : l.Nodup) (h0 : ∀ a ∈ l, 0 ≤ a ∧ a < ws.length) : ∀ k, k < l.length →
    (turnW ws l k).getD (l.getD 0 0).toNat 0 = 0 ∧ (∀ j, j + 1 ≤ k → (turnW ws l k).getD (l.getD (j + 1) 0).toNat 0 = ws.getD (l.getD j 0).toNat 0) ∧
    ∀ z : Int, 0 ≤ z → (∀ j, j ≤ k → l.getD j 0 ≠ z) → (turnW ws l k).getD z.toNat 0 = ws.getD z.toNat 0
  | 0, h => by
    have hm := h0 _ (getD_mem h)
    refine ⟨getD_set_eq (by omega), fun j hj => by omega, fun z hz hne => ?_⟩
    have := hne 0 (by omega)
    exact getD_set_ne (by omega)
  | k + 1, h => by
    obtain ⟨i1, i2, i3⟩ := turnW_get hd h0 k (by omega)
    have hm := h0 _ (getD_mem h)
    have hl := turnW_length ws l k
    unfold turnW
    have ne : ∀ j, j ≤ k → (l.getD (k + 1) 0).toNat ≠ (l.getD j 0).toNat := fun j hj e => by
      have hj' := h0 _ (getD_mem (l := l) (i := j) (by omega))
      have := getD_inj hd h (by omega : j < l.length) (by omega)
      omega
    refine ⟨?_, fun j hj => ?_, fun z hz' hne => ?_⟩
    · rw [getD_set_ne (ne 0 (by omega))]; exact i1
    · by_cases e : j = k
      · subst e; exact getD_set_eq (by omega)
      · rw [getD_set_ne (ne (j + 1) (by omega))]; exact i2 j (by omega)
    · have := hne (k + 1) (by omega)
      rw [getD_set_ne (by omega)]; exact i3 z hz' (fun j hj => hne j (by omega))

/-- A valid forest, turned to x: pointwise. -/
structure Turned (ps ws ps' ws' l : List Int) (x : Int) : Prop where
  len : ps'.length = ps.length
  lenw : ws'.length = ws.length
  nodup : l.Nodup
  nodes : ∀ a ∈ l, 0 ≤ a ∧ a < ps.length
  pos : 0 < l.length
  head : l.getD 0 0 = x
  top : ps'.getD x.toNat 0 = -1
  topw : ws'.getD x.toNat 0 = 0
  on : ∀ j, j + 1 < l.length → ps'.getD (l.getD (j + 1) 0).toNat 0 = l.getD j 0
  onw : ∀ j, j + 1 < l.length → ws'.getD (l.getD (j + 1) 0).toNat 0 = ws.getD (l.getD j 0).toNat 0
  off : ∀ z : Int, 0 ≤ z → z ∉ l → ps'.getD z.toNat 0 = ps.getD z.toNat 0
  offw : ∀ z : Int, 0 ≤ z → z ∉ l → ws'.getD z.toNat 0 = ws.getD z.toNat 0

theorem turned {ps ws : List Int} {x : Int} (h : NV ps ws x) :
    Turned ps ws (turnP ps (up ps ps.length x) ((up ps ps.length x).length - 1)) (turnW ws (up ps ps.length x) ((up ps ps.length x).length - 1)) (up ps ps.length x) x := by
  have hp := h.up_pos
  have hd := up_nodup h.ends
  have hn := up_node h.1.allN ps.length x h.inN
  have hw := h.1.2.2.1
  have hh := h.up_head
  have off : ∀ z : Int, z ∉ up ps ps.length x → ∀ j, j ≤ (up ps ps.length x).length - 1 → (up ps ps.length x).getD j 0 ≠ z := fun z hz j hj e => hz (e ▸ getD_mem (by omega))
  obtain ⟨a1, a2, a3⟩ := turnP_get (ps := ps) hd hn ((up ps ps.length x).length - 1) (by omega)
  obtain ⟨b1, b2, b3⟩ := turnW_get (ws := ws) hd (by rw [hw]; exact hn) ((up ps ps.length x).length - 1) (by omega)
  rw [hh] at a1 b1
  exact ⟨turnP_length _ _ _, turnW_length _ _ _, hd, hn, hp, hh, a1, b1, fun j hj => a2 j (by omega), fun j hj => b2 j (by omega), fun z hz hm => a3 z hz (off z hm), fun z hz hm => b3 z hz (off z hm)⟩

/-- The way up from a node of the turned way leads back along it. -/
theorem Turned.back {ps ws ps' ws' l : List Int} {x : Int} (T : Turned ps ws ps' ws' l x) : ∀ (j : Nat), j < l.length → ∀ k, j + 1 ≤ k → up ps' k (l.getD j 0) = (l.take (j + 1)).reverse ∧ ends ps' k (l.getD j 0) = true
  | 0, hj, k + 1, _ => by
    have hn := T.nodes _ (getD_mem hj)
    have h1 : l.getD 0 0 ≠ -1 := by omega
    have e : l.take 1 = [l.getD 0 0] := by
      have := take_snoc (l := l) (k := 0) hj
      simpa using this
    rw [T.head] at *
    refine ⟨?_, ?_⟩
    · rw [up, if_neg h1, T.top, up_root, e]; rfl
    · unfold ends; rw [T.top, ends_root, Bool.or_true]
  | j + 1, hj, k + 1, hk => by
    have hn := T.nodes _ (getD_mem hj)
    have h1 : l.getD (j + 1) 0 ≠ -1 := by omega
    obtain ⟨i1, i2⟩ := T.back j (by omega) k (by omega)
    refine ⟨?_, ?_⟩
    · rw [up, if_neg h1, T.on j hj, i1, take_snoc hj, List.reverse_append]; rfl
    · unfold ends; rw [T.on j hj, i2, Bool.or_true]
end Go.Proofs.Ytjmbnhohfhpopaa
