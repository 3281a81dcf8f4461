/- Rooted trees: turning keeps the weights between nodes; turning to a root. -/
import Derived.Test.YtjmbnhohfhpopaaMath10
namespace Go.Proofs.Ytjmbnhohfhpopaa
open Go

theorem maxW_cons (ws : List Int) (a : Int) (l : List Int) : maxW ws (a :: l) = max (max 0 (ws.getD a.toNat 0)) (maxW ws l) := maxW_append ws [a] l
theorem Turned.backMax {ps ws ps' ws' l : List Int} {x : Int} (T : Turned ps ws ps' ws' l x) : ∀ (j : Nat), j < l.length → maxW ws' (l.take (j + 1)).reverse = maxW ws (l.take j)
  | 0, hj => by
    have e : l.take (0 + 1) = [x] := by rw [take_snoc hj, T.head]; rfl
    rw [e]
    have : maxW ws' [x].reverse = max 0 (ws'.getD x.toNat 0) := rfl
    rw [this, T.topw]; rfl
  | j + 1, hj => by
    have i1 := T.backMax j (by omega)
    have e : (l.take (j + 1 + 1)).reverse = l.getD (j + 1) 0 :: (l.take (j + 1)).reverse := by rw [take_snoc hj, List.reverse_append]; rfl
    rw [e, maxW_cons, i1, T.onw j hj, take_snoc (by omega : j < l.length), maxW_append, Int.max_comm]
    rfl
theorem maxW_congr {ws ws' : List Int} : ∀ {l : List Int}, (∀ n ∈ l, ws'.getD n.toNat 0 = ws.getD n.toNat 0) → maxW ws' l = maxW ws l
  | [], _ => rfl
  | a :: l, h => by rw [maxW_cons, maxW_cons, h a (by simp), maxW_congr (fun n hn => h n (by simp [hn]))]

theorem Turned.max {ps ws ps' ws' : List Int} {x y m : Int} (h : NV ps ws x) (T : Turned ps ws ps' ws' (up ps ps.length x) x) (hy : NV ps ws y) (hm : meetF ps x y = some m) :
    maxW ws' (up ps' ps'.length y) = maxW ws (wayL ps x y m) := by
  have hm' := meet_symm h hy hm
  have hu := (T.ups h hy).1 m hm'
  have hf := hm'
  unfold meetF at hf
  obtain ⟨p1, A, B, e1, e2⟩ := List.find?_eq_some_iff_append.1 hf
  obtain ⟨j, hj, ej, ejn⟩ := first_at (l := up ps ps.length x) (m := m) (by simpa using p1)
  have e4 : pre (up ps ps.length x) m = (up ps ps.length x).take j := pre_take hj ejn ej
  have hnd := up_nodup hy.ends
  have e3 : pre (up ps ps.length y) m = A := by
    rw [e1] at hnd ⊢
    have hA : ∀ a ∈ A, a ≠ m := fun a ha => (List.nodup_append.1 hnd).2.2 a ha m (by simp)
    unfold pre
    rw [List.takeWhile_append_of_pos (by simpa using hA), List.takeWhile_cons, if_neg (by simp), List.append_nil]
  have e5 : m :: (pre (up ps ps.length x) m).reverse = ((up ps ps.length x).take (j + 1)).reverse := by rw [e4, take_snoc hj, List.reverse_append, ej]; rfl
  rw [e5, e3] at hu
  have hAn : ∀ a ∈ A, 0 ≤ a := fun a ha => (up_node hy.1.allN ps.length y hy.inN a (by rw [e1]; simp [ha])).1
  have hAo : ∀ a ∈ A, ws'.getD a.toNat 0 = ws.getD a.toNat 0 := fun a ha => T.offw a (hAn a ha) (by simpa using e2 a ha)
  unfold wayL
  rw [e3, e4, hu, maxW_append, maxW_append, T.backMax j hj, maxW_congr hAo, Int.max_comm]

theorem Turned.wb {ps ws ps' ws' : List Int} {x y : Int} (h : NV ps ws x) (T : Turned ps ws ps' ws' (up ps ps.length x) x) (hy : NV ps ws y) : wbG ps' ws' x y = wbG ps ws x y := by
  have hx' := T.nv h h
  have hy' := T.nv h hy
  cases hm : meetF ps x y with
  | none =>
    have hne : rootV ps x ≠ rootV ps y := fun e => by have := (meet_iff h hy).2 e; rw [hm] at this; cases this
    rw [wbG_none (ps := ps) (fun h' => by rw [hm] at h'; cases h'.2)]
    refine wbG_none fun h' => ?_
    have e := (meet_iff hx' hy').1 h'.2
    have e0 : meetF ps y x = none := by
      cases e0 : meetF ps y x with
      | none => rfl
      | some m => have := meet_symm hy h e0; rw [hm] at this; cases this
    have e1 := (T.ups h hy).2 e0
    have e2 : rootV ps' y = rootV ps y := by unfold rootV; rw [e1]
    rw [rootV_top hx' T.top, e2] at e
    exact hne (rootV_up hy (e ▸ rootV_mem hy)).symm
  | some m =>
    have hp := T.path h hy hm
    have hmx := T.max h hy hm
    have hxm : x ∈ up ps' ps'.length y := by rw [← hp.2.2]; exact rootV_mem hy'
    rw [wbG_some h hy hm, wbG_some hx' hy' (meet_down hx' hxm)]
    obtain ⟨_, l, e⟩ := up_suf hy'.ends hxm
    rw [hx'.up_top T.top] at e
    have hnd := up_nodup hy'.ends
    rw [e] at hnd
    have hl : ∀ a ∈ l, a ≠ x := fun a ha => (List.nodup_append.1 hnd).2.2 a ha x (by simp)
    have ep : pre (up ps' ps'.length y) x = l := by
      rw [e]; unfold pre
      rw [List.takeWhile_append_of_pos (by simpa using hl), List.takeWhile_cons, if_neg (by simp), List.append_nil]
    have ew : wayL ps' x y x = l := by unfold wayL; rw [pre_self hx', ep]; rfl
    have s1 : sumW ws' (up ps' ps'.length y) = sumW ws' l := by rw [e, sumW_snoc, T.topw]; omega
    have s2 : maxW ws' (up ps' ps'.length y) = maxW ws' l := by
      have := maxW_nonneg ws' l
      rw [e, maxW_snoc, T.topw]; omega
    rw [ew, ← s1, ← s2, hp.1, hmx]

theorem turned_root {ps ws p w : List Int} {x : Int} (h : NV ps ws x) (hp : ps.getD x.toNat 0 = -1) (T : Turned ps ws p w (up ps ps.length x) x) : p = ps ∧ w = ws := by
  have hw0 := (h.1.2.2.2.1 x.toNat (by have := h.2.1; have := h.2.2; omega)).2.2.2.2 hp
  have hl := h.up_top hp
  refine ⟨list_eq_of_getD T.len fun i hi => ?_, list_eq_of_getD T.lenw fun i hi => ?_⟩
  · by_cases e : (i : Int) = x
    · have a := T.top
      rw [← e] at a hp
      simp only [Int.toNat_natCast] at a hp
      rw [a, hp]
    · have := T.off i (by omega) (by rw [hl]; simpa using e)
      simpa only [Int.toNat_natCast] using this
  · by_cases e : (i : Int) = x
    · have a := T.topw
      rw [← e] at a hw0
      simp only [Int.toNat_natCast] at a hw0
      rw [a, hw0]
    · have := T.offw i (by omega) (by rw [hl]; simpa using e)
      simpa only [Int.toNat_natCast] using this
end Go.Proofs.Ytjmbnhohfhpopaa
