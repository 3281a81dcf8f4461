/- Graphs: plain facts on the number of parts. No conditions. -/
import Derived.Test.YthlgbeakcobeoaaGm2
namespace Go.Proofs.Ythlgbeakcobeoaa
open Go

theorem filter_one {l : List Int} (hd : l.Nodup) {p : Int → Bool} {m : Int} (hm : m ∈ l) (hp : p m = true) : (l.filter fun x => p x && !decide (x = m)).length + 1 = (l.filter p).length := by
  induction l with
  | nil => cases hm
  | cons a l ih =>
    obtain ⟨h1, h2⟩ := List.nodup_cons.1 hd
    by_cases ha : a = m
    · subst ha
      have h3 : (l.filter fun x => p x && !decide (x = a)) = l.filter p := by
        refine List.filter_congr fun x hx => ?_
        have : x ≠ a := fun h => h1 (h ▸ hx)
        simp [this]
      simp [hp, h3]
    · have hml : m ∈ l := (List.mem_cons.1 hm).resolve_left fun h => ha h.symm
      have := ih h2 hml
      by_cases hpa : p a = true
      · simp [hpa, ha]; exact this
      · simp only [Bool.not_eq_true] at hpa
        simp [hpa]; exact this

theorem labs_congr {n : Int} {es es' : List E} (hE : okE n es) (hE' : okE n es') (h : ∀ x y, Conn es x y ↔ Conn es' x y) : labs n es' = labs n es := by
  have h1 := labs_lab hE'
  have h2 := labs_stab hE'
  refine labs_unique hE ⟨h1.len, h1.low, fun x hx => (h _ _).2 (h1.con x hx)⟩ fun e he => ?_
  obtain ⟨hA, hB⟩ := hE e he
  exact (lab_iff hE' hA hB).2 ((h _ _).1 (.edge he))
theorem lab_self {n : Int} {es : List E} (hE : okE n es) {x : Int} (hx : Nd n x) : lab n es (lab n es x) = lab n es x := ((lab_iff hE hx (lab_nd hE hx)).2 (lab_conn hE hx)).symm

theorem root_ins {n : Int} {es : List E} {e : E} (hE : okE n es) (he : Nd n e.A ∧ Nd n e.B) (hc : ¬ Conn es e.A e.B) {x : Int} (hx : Nd n x) :
    lab n (e :: es) x = x ↔ lab n es x = x ∧ x ≠ max (lab n es e.A) (lab n es e.B) := by
  have hE' : okE n (e :: es) := fun f hf => by
    rcases List.mem_cons.1 hf with rfl | hf
    · exact he
    · exact hE f hf
  have hs : ∀ f ∈ es, f ∈ e :: es := fun f hf => List.mem_cons_of_mem _ hf
  have ee : Conn (e :: es) e.A e.B := .edge (by simp)
  have hne : lab n es e.A ≠ lab n es e.B := fun h => hc ((lab_iff hE he.1 he.2).1 h)
  have cA := lab_conn hE he.1
  have cB := lab_conn hE he.2
  constructor
  · intro h
    have h1 : lab n es x = x := by
      have h2 := lab_le hE' hx ((lab_conn hE hx).mono hs)
      have h3 := lab_le hE hx (.refl : Conn es x x)
      omega
    refine ⟨h1, fun hm => ?_⟩
    rcases Int.le_total (lab n es e.A) (lab n es e.B) with h2 | h2
    · rw [Int.max_eq_right h2] at hm
      have h3 : Conn (e :: es) x (lab n es e.A) := by
        rw [hm]; exact ((cB.mono hs).symm.trans ee.symm).trans (cA.mono hs)
      have := lab_le hE' hx h3
      omega
    · rw [Int.max_eq_left h2] at hm
      have h3 : Conn (e :: es) x (lab n es e.B) := by
        rw [hm]; exact ((cA.mono hs).symm.trans ee).trans (cB.mono hs)
      have := lab_le hE' hx h3
      omega
  · rintro ⟨h1, h2⟩
    have h3 := lab_le hE' hx (.refl : Conn (e :: es) x x)
    rcases conn_cons.1 (lab_conn hE' hx) with h4 | ⟨h4, h5⟩ | ⟨h4, h5⟩
    · have := lab_le hE hx h4
      omega
    · have h6 := (lab_iff hE hx he.1).2 h4
      have h7 := lab_le hE he.2 h5
      omega
    · have h6 := (lab_iff hE hx he.2).2 h4
      have h7 := lab_le hE he.1 h5
      omega

theorem pcnt_cons {n : Int} {es : List E} {e : E} (hE : okE n es) (he : Nd n e.A ∧ Nd n e.B) (hc : ¬ Conn es e.A e.B) : pcnt n (e :: es) + 1 = pcnt n es := by
  unfold pcnt
  have hm : max (lab n es e.A) (lab n es e.B) ∈ iota n.toNat := by
    have h1 := lab_nd hE he.1
    have h2 := lab_nd hE he.2
    rw [mem_iota]; unfold Nd at h1 h2; omega
  have hp : decide (lab n es (max (lab n es e.A) (lab n es e.B)) = max (lab n es e.A) (lab n es e.B)) = true := by
    rw [decide_eq_true_eq]
    rcases Int.le_total (lab n es e.A) (lab n es e.B) with h2 | h2
    · rw [Int.max_eq_right h2]; exact lab_self hE he.2
    · rw [Int.max_eq_left h2]; exact lab_self hE he.1
  rw [← filter_one (p := fun k => decide (lab n es k = k)) (iota_nodup _) hm hp]
  congr 2
  refine List.filter_congr fun x hx => ?_
  rw [mem_iota] at hx
  have hx' : Nd n x := by unfold Nd; omega
  rw [← decide_not, ← Bool.decide_and, decide_eq_decide]
  exact root_ins hE he hc hx'
theorem pcnt_congr {n : Int} {es es' : List E} (hE : okE n es) (hE' : okE n es') (h : ∀ x y, Conn es x y ↔ Conn es' x y) : pcnt n es = pcnt n es' := by
  unfold pcnt lab
  rw [labs_congr hE hE' h]
theorem conn_cons_same {es : List E} {e : E} (hc : Conn es e.A e.B) {x y : Int} : Conn (e :: es) x y ↔ Conn es x y := by
  rw [conn_cons]
  constructor
  · rintro (h | ⟨h1, h2⟩ | ⟨h1, h2⟩)
    · exact h
    · exact (h1.trans hc).trans h2
    · exact (h1.trans hc.symm).trans h2
  · exact .inl
theorem pcnt_pos {n : Int} {es : List E} (hE : okE n es) (hn : 1 ≤ n) : 1 ≤ pcnt n es := by
  have h0 : Nd n 0 := ⟨by omega, by omega⟩
  have h1 := lab_le hE h0 (.refl : Conn es 0 0)
  have h2 := lab_nd hE h0
  have : (0 : Int) ∈ (iota n.toNat).filter fun k => decide (lab n es k = k) := by
    rw [List.mem_filter, mem_iota, decide_eq_true_eq]
    unfold Nd at h2
    exact ⟨by omega, by omega⟩
  exact List.length_pos_of_mem this
theorem pcnt_nil {n : Int} : pcnt n [] = n.toNat := by
  unfold pcnt
  rw [List.filter_eq_self.2, iota_length]
  intro x hx
  rw [mem_iota] at hx
  have hx' : Nd n x := by unfold Nd; omega
  have hE : okE n [] := fun e he => by cases he
  rw [decide_eq_true_eq]
  exact (conn_nil.1 (lab_conn hE hx')).symm
/-- As many edges as a forest has, as many parts are fewer than nodes. -/
theorem pcnt_indep {n : Int} : ∀ {es : List E}, okE n es → Indep es → es.Nodup → pcnt n es + es.length = n.toNat
  | [], _, _, _ => by rw [pcnt_nil]; simp
  | e :: es, hE, hi, hn => by
    obtain ⟨h1, h2⟩ := List.nodup_cons.1 hn
    have hE' : okE n es := fun f hf => hE f (List.mem_cons_of_mem _ hf)
    have h3 := pcnt_indep hE' (hi.sub fun f hf => List.mem_cons_of_mem _ hf) h2
    have hc : ¬ Conn es e.A e.B := fun h => hi e (by simp) (h.mono fun f hf => mem_rem.2 ⟨List.mem_cons_of_mem _ hf, fun h4 => h1 (by rw [← h4]; exact hf)⟩)
    have h4 := pcnt_cons hE' (hE e (by simp)) hc
    rw [List.length_cons]; omega
end Go.Proofs.Ythlgbeakcobeoaa
