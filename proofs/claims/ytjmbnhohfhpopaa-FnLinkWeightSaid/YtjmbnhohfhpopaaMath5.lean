/- Rooted trees: plain facts about linking. -/
import Derived.Test.YtjmbnhohfhpopaaMath3
import Derived.Test.YtjmbnhohfhpopaaMath4
namespace Go.Proofs.Ytjmbnhohfhpopaa
open Go

theorem link_out {ps : List Int} {x y : Int} (hN : allN ps) (hx : 0 ≤ x ∧ x < ps.length) : ∀ {k : Nat} {i : Int}, inN ps i → ends ps k i = true → x ∉ up ps k i →
    ends (ps.set x.toNat y) k i = true ∧ up (ps.set x.toNat y) k i = up ps k i
  | 0, i, _, h, _ => ⟨h, by simp [up]⟩
  | k + 1, i, hi, h, hm => by
    by_cases h1 : i = -1
    · subst h1
      exact ⟨ends_root _ _, by rw [up_root, up_root]⟩
    · have h' := h
      unfold ends at h'
      rw [decide_eq_false h1, Bool.false_or] at h'
      rw [up, if_neg h1] at hm
      have h2 : i ≠ x := fun e => hm (by rw [e]; simp)
      have hi0 : 0 ≤ i := by have := hi.1; omega
      have e : (ps.set x.toNat y).getD i.toNat 0 = ps.getD i.toNat 0 := getD_set_ne (by omega)
      obtain ⟨i1, i2⟩ := link_out (y := y) hN hx (hN.step hi h1) h' (fun h => hm (List.mem_cons_of_mem _ h))
      exact ⟨by unfold ends; rw [e, i1, Bool.or_true], by rw [up, if_neg h1, e, i2, up, if_neg h1]⟩

theorem link_in {ps ws : List Int} {x y : Int} (hx : NV ps ws x) (hy : NV ps ws y) (hr : ps.getD x.toNat 0 = -1) (hxy : x ∉ up ps ps.length y) : ∀ {k : Nat} {i : Int}, inN ps i → ends ps k i = true → x ∈ up ps k i →
    ends (ps.set x.toNat y) (k + ps.length) i = true ∧ up (ps.set x.toNat y) (k + ps.length) i = up ps k i ++ up ps ps.length y
  | 0, i, _, _, hm => by simp [up] at hm
  | k + 1, i, hi, h, hm => by
    have hN := hx.1.allN
    by_cases h1 : i = -1
    · subst h1; rw [up_root] at hm; cases hm
    · have h' := h
      unfold ends at h'
      rw [decide_eq_false h1, Bool.false_or] at h'
      have hk : k + 1 + ps.length = (k + ps.length) + 1 := by omega
      by_cases h2 : i = x
      · subst h2
        have e : (ps.set i.toNat y).getD i.toNat 0 = y := getD_set_eq (by have := hx.2.1; have := hx.2.2; omega)
        obtain ⟨o1, o2⟩ := link_out (y := y) hN ⟨hx.2.1, hx.2.2⟩ hy.inN hy.ends hxy
        rw [hk]
        refine ⟨by unfold ends; rw [e, ends_mono (by omega) o1, Bool.or_true], ?_⟩
        rw [up, if_neg h1, e, up_stab (by omega) o1, o2, up, if_neg h1, hr, up_root]; rfl
      · have hi0 : 0 ≤ i := by have := hi.1; omega
        have hx0 := hx.2.1
        have e : (ps.set x.toNat y).getD i.toNat 0 = ps.getD i.toNat 0 := getD_set_ne (by omega)
        rw [up, if_neg h1] at hm
        have hm' : x ∈ up ps k (ps.getD i.toNat 0) := by
          rcases List.mem_cons.1 hm with h | h
          · exact absurd h.symm h2
          · exact h
        obtain ⟨i1, i2⟩ := link_in hx hy hr hxy (hN.step hi h1) h' hm'
        rw [hk]
        exact ⟨by unfold ends; rw [e, i1, Bool.or_true], by rw [up, if_neg h1, e, i2, up, if_neg h1]; rfl⟩

structure Linked (ps ws ps' ws' : List Int) (x y q : Int) : Prop where
  rv : RV ps' ws'
  len : ps'.length = ps.length
  lenw : ws'.length = ws.length
  nx : NV ps' ws' x
  ny : NV ps' ws' y
  par : ps'.getD x.toNat 0 = y
  upx : up ps' ps'.length x = x :: up ps ps.length y
  upy : up ps' ps'.length y = up ps ps.length y
  hno : x ∉ up ps ps.length y
  back : ps'.set x.toNat (-1) = ps
  backw : ws'.set x.toNat 0 = ws
  wt : ws'.getD x.toNat 0 = q

theorem set_back {l : List Int} {i : Nat} {v u : Int} (hi : i < l.length) (h : l.getD i 0 = u) : (l.set i v).set i u = l := by
  rw [List.set_set]
  apply List.ext_getElem (by simp)
  intro n h1 h2
  rw [List.getElem_set]
  split
  · next e =>
    subst e
    rw [List.getD_eq_getElem?_getD, List.getElem?_eq_getElem h2] at h
    exact h.symm
  · rfl

theorem linked {ps ws : List Int} {x y q : Int} (h : linkOk ps ws x y q) : Linked ps ws (ps.set x.toNat y) (ws.set x.toNat q) x y q := by
  obtain ⟨hx, hy, hr, hne, q0, q1⟩ := h
  have hN := hx.1.allN
  have hno : x ∉ up ps ps.length y := fun hm => hne ((root_iff hx hy hr).1 hm)
  have hx0 := hx.2.1
  have hx1 := hx.2.2
  have hw := hx.1.2.2.1
  have e : (ps.set x.toNat y).getD x.toNat 0 = y := getD_set_eq (by omega)
  have ew : (ws.set x.toNat q).getD x.toNat 0 = q := getD_set_eq (by omega)
  have hl : (ps.set x.toNat y).length = ps.length := List.length_set
  have hlw : (ws.set x.toNat q).length = ws.length := List.length_set
  have hN' : allN (ps.set x.toNat y) := fun i hi => by
    unfold inN
    rw [hl] at hi ⊢
    by_cases e2 : x.toNat = i
    · subst e2; rw [e]; have := hy.2.1; have := hy.2.2; omega
    · rw [getD_set_ne e2]; exact hN i hi
  have hE : ∀ i : Nat, i < ps.length → ends (ps.set x.toNat y) ps.length (i : Int) = true := fun i hi => by
    have hin : inN ps (i : Int) := ⟨by omega, by omega⟩
    have hin' : inN (ps.set x.toNat y) (i : Int) := ⟨by omega, by rw [hl]; omega⟩
    have he := hx.1.2.2.2.2 i hi
    by_cases hm : x ∈ up ps ps.length (i : Int)
    · have := ends_all hN' hin' (link_in hx hy hr hno hin he hm).1
      rwa [hl] at this
    · exact (link_out hN ⟨hx0, hx1⟩ hin he hm).1
  have hRV : RV (ps.set x.toNat y) (ws.set x.toNat q) := by
    obtain ⟨r1, r2, r3, r4, r5⟩ := hx.1
    refine ⟨by rw [hl]; exact r1, by rw [hl]; exact r2, by rw [hl, hlw]; exact r3, fun i hi => ?_, fun i hi => ?_⟩
    · rw [hl] at hi
      have := hN' i (by rw [hl]; exact hi)
      unfold inN at this
      unfold okAt
      by_cases e2 : x.toNat = i
      · subst e2; rw [e] at this ⊢; rw [ew]; have := hy.2.1; omega
      · rw [getD_set_ne e2] at this ⊢; rw [getD_set_ne e2]; have := r4 i hi; unfold okAt at this; omega
    · rw [hl] at hi ⊢; exact hE i hi
  have nx : NV (ps.set x.toNat y) (ws.set x.toNat q) x := ⟨hRV, hx0, by rw [hl]; exact hx1⟩
  have ny : NV (ps.set x.toNat y) (ws.set x.toNat q) y := ⟨hRV, hy.2.1, by rw [hl]; exact hy.2.2⟩
  have ux : x ∈ up ps ps.length x := by rw [hx.up_top hr]; simp
  obtain ⟨i1, i2⟩ := link_in hx hy hr hno hx.inN hx.ends ux
  refine ⟨hRV, hl, hlw, nx, ny, e, ?_, ?_, hno, set_back (by omega) hr, set_back (by omega) ?_, ew⟩
  · have := up_stab (m := ps.length + ps.length) (by omega) nx.ends
    rw [hl] at this
    rw [hl, ← this, i2, hx.up_top hr]; rfl
  · rw [hl]; exact (link_out hN ⟨hx0, hx1⟩ hy.inN hy.ends hno).2
  · have := (hx.1.2.2.2.1 x.toNat (by omega)).2.2.2.2
    exact this hr

theorem Linked.root {ps ws ps' ws' : List Int} {x y q : Int} (h : Linked ps ws ps' ws' x y q) (hy : NV ps ws y) : rootV ps' x = rootV ps y := by
  unfold rootV
  rw [h.upx]
  exact getD_append_last [x] (up ps ps.length y) hy.up_pos
theorem Linked.cut {ps ws ps' ws' : List Int} {x y q : Int} (h : Linked ps ws ps' ws' x y q) (hy : NV ps ws y) : cutOk ps' ws' x := ⟨h.nx, by rw [h.par]; have := hy.2.1; omega⟩
theorem Linked.meet {ps ws ps' ws' : List Int} {x y q : Int} (h : Linked ps ws ps' ws' x y q) (hy : NV ps ws y) (q0 : 0 ≤ q) : wbG ps' ws' x y = (q, q, true) := by
  have hm : y ∈ up ps' ps'.length x := by rw [h.upx, hy.up_cons]; simp
  rw [wbG_some h.nx h.ny (meet_up h.nx hm)]
  have hxy : x ≠ y := fun e => h.hno (by rw [e, hy.up_cons]; simp)
  have e1 : pre (up ps' ps'.length x) y = [x] := by
    rw [h.upx, hy.up_cons]
    unfold pre
    rw [List.takeWhile_cons, if_pos (by simpa using hxy), List.takeWhile_cons, if_neg (by simp)]
  unfold wayL
  rw [pre_self h.ny, e1]
  have : sumW ws' ([x] ++ []) = ws'.getD x.toNat 0 := by simp [sumW]
  have e2 : maxW ws' ([x] ++ []) = max 0 (ws'.getD x.toNat 0) := rfl
  rw [this, e2, h.wt]
  congr 2
  omega
end Go.Proofs.Ytjmbnhohfhpopaa
