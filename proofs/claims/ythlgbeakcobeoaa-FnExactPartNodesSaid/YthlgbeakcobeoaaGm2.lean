/- Graphs: plain facts on bridges, safe parts, cut edges, parts. No conditions. -/
import Derived.Test.YthlgbeakcobeoaaGm1
namespace Go.Proofs.Ythlgbeakcobeoaa
open Go

theorem cn_iff {n : Int} {es : List E} (hE : okE n es) {x y : Int} (hx : Nd n x) (hy : Nd n y) : cn n es x y ↔ Conn es x y := lab_iff hE hx hy
theorem GV.nd {n : Int} {es : List E} (h : GV n es) {e : E} (he : e ∈ es) : Nd n e.A ∧ Nd n e.B := h.okE e he
theorem okE.rem {n : Int} {es : List E} (h : okE n es) (e : E) : okE n (rem es e) := h.sub rem_sub
theorem okN.nd {n : Int} {e : E} (h : Proofs.Ythlgbeakcobeoaa.okN n e) : Nd n e.A ∧ Nd n e.B := by unfold Proofs.Ythlgbeakcobeoaa.okN at h; unfold Nd; omega

/-! ### Edges that lie between -/
def brB (n : Int) (es : List E) (e : E) : Bool := !decide (cn n (rem es e) e.A e.B)
/-- All bridges. -/
def brs (n : Int) (es : List E) : List E := es.filter (brB n es)
/-- The edges without which two nodes are not connected. -/
def btw (n : Int) (es : List E) (x y : Int) : List E := es.filter fun e => !decide (cn n (rem es e) x y)
/-- A graph without its bridges. -/
def bare (n : Int) (es : List E) : List E := es.filter fun e => !brB n es e
/-- A graph without the edges of a node. -/
def alone (es : List E) (k : Int) : List E := es.filter fun e => !decide (e.A = k ∨ e.B = k)
/-- The nodes without whose edges two nodes are not connected. -/
def cutb (n : Int) (es : List E) (x y : Int) : List Int := (iota n.toNat).filter fun k => decide (k ≠ x ∧ k ≠ y ∧ ¬ cn n (alone es k) x y)
/-- The nodes that are connected with a node. -/
def pns (n : Int) (es : List E) (x : Int) : List Int := (iota n.toNat).filter fun k => decide (lab n es k = lab n es x)

theorem bare_sub {n : Int} {es : List E} : ∀ e ∈ bare n es, e ∈ es := fun e h => (List.mem_filter.1 h).1
theorem alone_sub {es : List E} {k : Int} : ∀ e ∈ alone es k, e ∈ es := fun e h => (List.mem_filter.1 h).1
theorem mem_brs {n : Int} {es : List E} (hE : okE n es) {e : E} : e ∈ brs n es ↔ e ∈ es ∧ ¬ Conn (rem es e) e.A e.B := by
  unfold brs brB
  rw [List.mem_filter]
  refine and_congr_right fun he => ?_
  have := cn_iff (hE.rem e) (hE e he).1 (hE e he).2
  rw [← this]; simp
theorem mem_bare {n : Int} {es : List E} (hE : okE n es) {e : E} : e ∈ bare n es ↔ e ∈ es ∧ Conn (rem es e) e.A e.B := by
  unfold bare brB
  rw [List.mem_filter]
  refine and_congr_right fun he => ?_
  have := cn_iff (hE.rem e) (hE e he).1 (hE e he).2
  rw [← this]; simp
theorem mem_btw {n : Int} {es : List E} (hE : okE n es) {x y : Int} (hx : Nd n x) (hy : Nd n y) {e : E} : e ∈ btw n es x y ↔ e ∈ es ∧ ¬ Conn (rem es e) x y := by
  unfold btw
  rw [List.mem_filter]
  refine and_congr_right fun _ => ?_
  rw [← cn_iff (hE.rem e) hx hy]; simp
theorem cn_symm {n : Int} {es : List E} {x y : Int} : cn n es x y ↔ cn n es y x := by unfold cn; exact eq_comm
theorem btw_symm (n : Int) (es : List E) (x y : Int) : btw n es x y = btw n es y x := by
  unfold btw
  congr 1; funext e
  rw [Bool.not_inj_iff, decide_eq_decide]; exact cn_symm
theorem cutb_symm (n : Int) (es : List E) (x y : Int) : cutb n es x y = cutb n es y x := by
  unfold cutb
  congr 1; funext k
  rw [decide_eq_decide, cn_symm]
  constructor
  · rintro ⟨h1, h2, h3⟩; exact ⟨h2, h1, h3⟩
  · rintro ⟨h1, h2, h3⟩; exact ⟨h2, h1, h3⟩

/-- Of three connected nodes an edge lies between two pairs or none. -/
theorem conn_tri {es : List E} {e : E} (he : e ∈ es) {x y z : Int} (h1 : Conn es x z) (h2 : Conn es z y) (h3 : ¬ Conn (rem es e) x y) : Conn (rem es e) x z ↔ ¬ Conn (rem es e) z y := by
  constructor
  · intro h4 h5; exact h3 (h4.trans h5)
  · intro h4
    rcases (conn_rem he).1 h1 with h5 | ⟨h5, h6⟩ | ⟨h5, h6⟩
    · exact h5
    all_goals
      rcases (conn_rem he).1 h2 with h7 | ⟨h7, h8⟩ | ⟨h7, h8⟩
      · exact absurd h7 h4
    · exact absurd (h5.trans (h7.symm.trans (h6.symm.trans h8))) (fun h => h3 h)
    · exact absurd (h5.trans h8) (fun h => h3 h)
    · exact absurd (h5.trans h8) (fun h => h3 h)
    · exact absurd (h5.trans (h7.symm.trans (h6.symm.trans h8))) (fun h => h3 h)

theorem safe_iff {n : Int} {es : List E} (hE : okE n es) {x y : Int} : Conn (bare n es) x y ↔ Conn es x y ∧ ∀ e ∈ es, Conn (rem es e) x y := by
  constructor
  · intro h
    refine ⟨h.mono bare_sub, fun e he => ?_⟩
    by_cases hb : Conn (rem es e) e.A e.B
    · rcases (conn_rem he).1 (h.mono bare_sub) with h1 | ⟨h1, h2⟩ | ⟨h1, h2⟩
      · exact h1
      · exact (h1.trans hb).trans h2
      · exact (h1.trans hb.symm).trans h2
    · exact h.mono fun f hf => mem_rem.2 ⟨bare_sub f hf, fun h1 => hb (by rw [← h1]; exact ((mem_bare hE).1 hf).2)⟩
  · rintro ⟨h1, h2⟩
    have key : ∀ l : List E, (∀ e ∈ l, e ∈ es ∧ ¬ Conn (rem es e) e.A e.B) → Conn (es.filter fun f => decide (f ∉ l)) x y := by
      intro l
      induction l with
      | nil => intro _; exact h1.mono fun f hf => by simp [hf]
      | cons e l ih =>
        intro hl
        have ih := ih fun f hf => hl f (List.mem_cons_of_mem _ hf)
        obtain ⟨h3, h4⟩ := hl e (by simp)
        by_cases he : e ∈ l
        · exact ih.mono fun f hf => by
            simp only [List.mem_filter, decide_eq_true_eq] at hf ⊢
            refine ⟨hf.1, fun h5 => ?_⟩
            rcases List.mem_cons.1 h5 with rfl | h5
            · exact hf.2 he
            · exact hf.2 h5
        · have hem : e ∈ es.filter fun f => decide (f ∉ l) := by simp [h3, he]
          have hsub : ∀ f ∈ rem (es.filter fun f => decide (f ∉ l)) e, f ∈ es.filter fun f => decide (f ∉ e :: l) := by
            intro f hf
            obtain ⟨h5, h6⟩ := mem_rem.1 hf
            simp only [List.mem_filter, decide_eq_true_eq] at h5 ⊢
            refine ⟨h5.1, fun h7 => ?_⟩
            rcases List.mem_cons.1 h7 with rfl | h7
            · exact h6 rfl
            · exact h5.2 h7
          have hsub2 : ∀ f ∈ rem (es.filter fun f => decide (f ∉ l)) e, f ∈ rem es e := by
            intro f hf
            obtain ⟨h5, h6⟩ := mem_rem.1 hf
            exact mem_rem.2 ⟨(List.mem_filter.1 h5).1, h6⟩
          rcases (conn_rem hem).1 ih with h5 | ⟨h5, h6⟩ | ⟨h5, h6⟩
          · exact h5.mono hsub
          · exact absurd (((h5.mono hsub2).symm.trans (h2 e h3)).trans (h6.mono hsub2).symm) h4
          · exact absurd (((h6.mono hsub2).trans (h2 e h3).symm).trans (h5.mono hsub2)) h4
    refine (key (brs n es) fun e he => (mem_brs hE).1 he).mono fun f hf => ?_
    simp only [List.mem_filter, decide_eq_true_eq] at hf
    refine (mem_bare hE).2 ⟨hf.1, Classical.byContradiction fun h => hf.2 ((mem_brs hE).2 ⟨hf.1, h⟩)⟩

/-! ### An edge more -/
theorem conn_ins {es : List E} {e : E} {x y : Int} : Conn (insE es e) x y ↔ Conn (e :: es) x y :=
  ⟨fun h => h.mono fun f hf => by rcases mem_insE.1 hf with rfl | h; exact List.mem_cons_self; exact List.mem_cons_of_mem _ h,
   fun h => h.mono fun f hf => by rcases List.mem_cons.1 hf with rfl | h; exact mem_insE.2 (.inl rfl); exact mem_insE.2 (.inr h)⟩
theorem conn_rem_ins {es : List E} {e : E} (hn : e ∉ es) {x y : Int} : Conn (rem (insE es e) e) x y ↔ Conn es x y :=
  ⟨fun h => h.mono fun f hf => by obtain ⟨h1, h2⟩ := mem_rem.1 hf; exact (mem_insE.1 h1).resolve_left h2,
   fun h => h.mono fun f hf => mem_rem.2 ⟨mem_insE.2 (.inr hf), fun h2 => hn (by rw [← h2]; exact hf)⟩⟩
theorem conn_rem_ins' {es : List E} {e f : E} (hne : f ≠ e) {x y : Int} : Conn (rem (insE es e) f) x y ↔ Conn (e :: rem es f) x y :=
  ⟨fun h => h.mono fun g hg => by
    obtain ⟨h1, h2⟩ := mem_rem.1 hg
    rcases mem_insE.1 h1 with rfl | h1
    · simp
    · exact List.mem_cons_of_mem _ (mem_rem.2 ⟨h1, h2⟩),
   fun h => h.mono fun g hg => by
    rcases List.mem_cons.1 hg with rfl | hg
    · exact mem_rem.2 ⟨mem_insE.2 (.inl rfl), fun h => hne h.symm⟩
    · obtain ⟨h1, h2⟩ := mem_rem.1 hg; exact mem_rem.2 ⟨mem_insE.2 (.inr h1), h2⟩⟩
/-- Which bridges an edge takes away. -/
theorem lost_iff {es : List E} {e f : E} (hf : f ∈ es) (hne : f ≠ e) : (¬ Conn (rem es f) f.A f.B ∧ Conn (rem (insE es e) f) f.A f.B) ↔ (Conn es e.A e.B ∧ ¬ Conn (rem es f) e.A e.B) := by
  rw [conn_rem_ins' hne, conn_cons]
  have ef : Conn es f.A f.B := .edge hf
  have hs : ∀ {x y}, Conn (rem es f) x y → Conn es x y := fun h => h.mono rem_sub
  constructor
  · rintro ⟨h1, h2 | ⟨h2, h3⟩ | ⟨h2, h3⟩⟩
    · exact absurd h2 h1
    · exact ⟨((hs h2).symm.trans ef).trans (hs h3).symm, fun h => h1 ((h2.trans h).trans h3)⟩
    · exact ⟨((hs h3).trans ef.symm).trans (hs h2), fun h => h1 ((h2.trans h.symm).trans h3)⟩
  · rintro ⟨h1, h2⟩
    rcases (conn_rem hf).1 h1 with h3 | ⟨h3, h4⟩ | ⟨h3, h4⟩
    · exact absurd h3 h2
    · exact ⟨fun h => h2 ((h3.trans h).trans h4), .inr (.inl ⟨h3.symm, h4.symm⟩)⟩
    · exact ⟨fun h => h2 ((h3.trans h.symm).trans h4), .inr (.inr ⟨h4, h3⟩)⟩

/-! ### Parts -/
theorem mem_pns {n : Int} {es : List E} {x y : Int} (hn : 0 ≤ n) : y ∈ pns n es x ↔ Nd n y ∧ lab n es y = lab n es x := by
  unfold pns Nd
  rw [List.mem_filter, mem_iota, decide_eq_true_eq]
  constructor
  · rintro ⟨h1, h2⟩; exact ⟨by omega, h2⟩
  · rintro ⟨h1, h2⟩; exact ⟨by omega, h2⟩
theorem iota_pairwise (n : Nat) : (iota n).Pairwise (· < ·) := by
  unfold iota
  refine List.Pairwise.map (R := (· < ·)) _ (fun a b h => by omega) ?_
  exact List.pairwise_lt_range
theorem pns_head {n : Int} {es : List E} (hE : okE n es) {x : Int} (hx : Nd n x) : (pns n es x).getD 0 0 = lab n es x := by
  have hn : 0 ≤ n := by have := hx.1; have := hx.2; omega
  have h1 : lab n es x ∈ pns n es x := (mem_pns hn).2 ⟨lab_nd hE hx, ((lab_iff hE hx (lab_nd hE hx)).2 (lab_conn hE hx)).symm⟩
  have h2 : (pns n es x).Pairwise (· < ·) := (iota_pairwise _).sublist List.filter_sublist
  cases hp : pns n es x with
  | nil => rw [hp] at h1; cases h1
  | cons a l =>
    rw [hp] at h1 h2
    show a = lab n es x
    rcases List.mem_cons.1 h1 with h3 | h3
    · exact h3.symm
    · have h4 := (List.pairwise_cons.1 h2).1 _ h3
      have ha : a ∈ pns n es x := by rw [hp]; simp
      obtain ⟨h5, h6⟩ := (mem_pns hn).1 ha
      have h7 := lab_le hE hx ((lab_iff hE h5 hx).1 h6).symm
      omega
theorem pns_eq_iff {n : Int} {es : List E} {x y : Int} (hx : Nd n x) (_hy : Nd n y) : pns n es x = pns n es y ↔ lab n es x = lab n es y := by
  have hn : 0 ≤ n := by have := hx.1; have := hx.2; omega
  constructor
  · intro h
    have : x ∈ pns n es y := by rw [← h]; exact (mem_pns hn).2 ⟨hx, rfl⟩
    exact ((mem_pns hn).1 this).2
  · intro h; unfold pns; rw [h]
/-- The number of parts. -/
def pcnt (n : Int) (es : List E) : Nat := ((iota n.toNat).filter fun k => decide (lab n es k = k)).length
end Go.Proofs.Ythlgbeakcobeoaa
