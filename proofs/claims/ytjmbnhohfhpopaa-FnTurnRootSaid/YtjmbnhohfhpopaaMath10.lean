/- Rooted trees: turning twice is turning once. -/
import Derived.Test.YtjmbnhohfhpopaaMath9
namespace Go.Proofs.Ytjmbnhohfhpopaa
open Go

theorem rootV_top {ps ws : List Int} {z : Int} (h : NV ps ws z) (hp : ps.getD z.toNat 0 = -1) : rootV ps z = z := by
  unfold rootV; rw [h.up_top hp]; rfl
theorem Turned.nv {ps ws ps' ws' : List Int} {x z : Int} (h : NV ps ws x) (T : Turned ps ws ps' ws' (up ps ps.length x) x) (hz : NV ps ws z) : NV ps' ws' z := ⟨T.rv h, hz.2.1, by rw [T.len]; exact hz.2.2⟩
theorem Turned.same {ps ws ps' ws' : List Int} {x z : Int} (h : NV ps ws x) (T : Turned ps ws ps' ws' (up ps ps.length x) x) (hz : NV ps ws z) (e : rootV ps z = rootV ps x) : rootV ps' z = x := by
  obtain ⟨m, hm⟩ := Option.isSome_iff_exists.1 ((meet_iff h hz).2 e.symm)
  exact (T.path h hz hm).2.2
theorem Turned.roots {ps ws ps' ws' : List Int} {x z : Int} (h : NV ps ws x) (T : Turned ps ws ps' ws' (up ps ps.length x) x) (hz : NV ps ws z) :
    ps'.getD z.toNat 0 = -1 ↔ z = x ∨ (ps.getD z.toNat 0 = -1 ∧ rootV ps z ≠ rootV ps x) := by
  constructor
  · intro hp
    by_cases hm : z ∈ up ps ps.length x
    · obtain ⟨j, hj, e⟩ := mem_index hm
      cases j with
      | zero => exact .inl (by rw [← e]; exact T.head)
      | succ j =>
        have o := T.on j hj
        rw [e, hp] at o
        have := T.nodes _ (getD_mem (l := up ps ps.length x) (i := j) (by omega))
        omega
    · rw [T.off z hz.2.1 hm] at hp
      refine .inr ⟨hp, fun e => hm ?_⟩
      rw [rootV_top hz hp] at e
      rw [e]; exact rootV_mem h
  · rintro (rfl | ⟨hp, hne⟩)
    · exact T.top
    · rw [T.off z hz.2.1 (fun hm => hne (rootV_up h hm).symm)]; exact hp

theorem turn_twice {ps ws p1 w1 p2 w2 p3 w3 : List Int} {x i : Int} (hx : NV ps ws x) (hi : NV ps ws i) (T1 : Turned ps ws p1 w1 (up ps ps.length x) x) (T2 : Turned p1 w1 p2 w2 (up p1 p1.length i) i) (T3 : Turned ps ws p3 w3 (up ps ps.length i) i)
    (e : rootV ps i = rootV ps x) : p2 = p3 ∧ w2 = w3 := by
  have hi1 : NV p1 w1 i := T1.nv hx hi
  have r2 := T2.rv hi1
  have r3 := T3.rv hi
  have l2 : p2.length = ps.length := by rw [T2.len, T1.len]
  refine forest_eq r2 r3 (by rw [l2, T3.len]) (fun a b v ha hb h => ?_) (fun z hz0 hz1 => ?_)
  · exact T3.ew hi ha hb (T1.ew' hx ha hb (T2.ew' hi1 ha hb h))
  · have hz : NV ps ws z := ⟨hx.1, hz0, by rw [l2] at hz1; exact hz1⟩
    have hz' : NV p1 w1 z := T1.nv hx hz
    rw [T2.roots hi1 hz', T3.roots hi hz, T1.roots hx hz, T1.same hx hi e]
    constructor
    · rintro (h | ⟨h | h, hne⟩)
      · exact .inl h
      · exact absurd (by rw [h]; exact rootV_top (T1.nv hx hx) T1.top) hne
      · exact .inr ⟨h.1, by rw [e]; exact h.2⟩
    · rintro (h | ⟨h1, h2⟩)
      · exact .inl h
      · rw [e] at h2
        have hp1 : p1.getD z.toNat 0 = -1 := (T1.roots hx hz).2 (.inr ⟨h1, h2⟩)
        refine .inr ⟨.inr ⟨h1, h2⟩, fun hr => ?_⟩
        rw [rootV_top hz' hp1] at hr
        exact h2 (by rw [hr])
end Go.Proofs.Ytjmbnhohfhpopaa
