/- Graphs: plain facts on edges in order, valid graphs, and forests. No conditions. -/
import Derived.Test.YthlgbeakcobeoaaGra4
namespace Go.Proofs.Ythlgbeakcobeoaa
open Go

/-! ### Insertion -/
theorem insE_nil (e : E) : insE [] e = [e] := rfl
theorem insE_cons (a : E) (es : List E) (e : E) : insE (a :: es) e = if ltE a e then a :: insE es e else e :: a :: es := by
  unfold insE
  by_cases h : ltE a e
  · rw [if_pos h]; simp [List.takeWhile, List.dropWhile, h]
  · rw [if_neg h]; simp [List.takeWhile, List.dropWhile, h]
theorem mem_insE {es : List E} {e f : E} : f ∈ insE es e ↔ f = e ∨ f ∈ es := by
  induction es with
  | nil => rw [insE_nil]; simp
  | cons a es ih =>
    rw [insE_cons]
    split
    · rw [List.mem_cons, ih, List.mem_cons]
      constructor
      · rintro (h | h | h)
        · exact .inr (.inl h)
        · exact .inl h
        · exact .inr (.inr h)
      · rintro (h | h | h)
        · exact .inr (.inl h)
        · exact .inl h
        · exact .inr (.inr h)
    · rw [List.mem_cons]
theorem insE_length (es : List E) (e : E) : (insE es e).length = es.length + 1 := by
  induction es with
  | nil => rfl
  | cons a es ih =>
    rw [insE_cons]
    split
    · rw [List.length_cons, ih, List.length_cons]
    · rfl
theorem insE_pairwise {es : List E} {e : E} (h : es.Pairwise ltE) (hn : e ∉ es) : (insE es e).Pairwise ltE := by
  induction es with
  | nil => rw [insE_nil]; simp
  | cons a es ih =>
    obtain ⟨h1, h2⟩ := List.pairwise_cons.1 h
    have hne : e ≠ a ∧ e ∉ es := by simpa using hn
    rw [insE_cons]
    split
    · rename_i h3
      refine List.pairwise_cons.2 ⟨fun f hf => ?_, ih h2 hne.2⟩
      rcases mem_insE.1 hf with rfl | hf
      · exact h3
      · exact h1 f hf
    · rename_i h3
      have h4 : ltE e a := (ltE_total hne.1).resolve_right h3
      refine List.pairwise_cons.2 ⟨fun f hf => ?_, h⟩
      rcases List.mem_cons.1 hf with rfl | hf
      · exact h4
      · exact ltE_trans h4 (h1 f hf)

/-! ### Valid graphs -/
def okN (n : Int) (e : E) : Prop := 0 ≤ e.A ∧ e.A < e.B ∧ e.B < n
instance (n : Int) (e : E) : Decidable (okN n e) := by unfold okN; infer_instance
theorem Srt.pairwise {es : List E} (h : Srt es) : es.Pairwise ltE := by
  rw [List.pairwise_iff_getElem]
  intro i j hi hj hij
  have := h i j hij hj
  rw [List.getD_eq_getElem?_getD, List.getD_eq_getElem?_getD, List.getElem?_eq_getElem hi, List.getElem?_eq_getElem hj] at this
  exact this
theorem Srt.of_pairwise {es : List E} (h : es.Pairwise ltE) : Srt es := by
  rw [List.pairwise_iff_getElem] at h
  intro i j hij hj
  have hi : i < es.length := by omega
  rw [List.getD_eq_getElem?_getD, List.getD_eq_getElem?_getD, List.getElem?_eq_getElem hi, List.getElem?_eq_getElem hj]
  exact h i j hi hj hij
theorem GV_iff {n : Int} {es : List E} : GV n es ↔ 1 ≤ n ∧ n ≤ 16 ∧ es.length ≤ 40 ∧ (∀ e ∈ es, okN n e) ∧ es.Pairwise ltE := by
  constructor
  · intro h
    refine ⟨h.1, h.2.1, h.2.2.1, fun e he => ?_, h.srt.pairwise⟩
    obtain ⟨i, hi, rfl⟩ := mem_getD (d := eD) he
    have := h.2.2.2 i hi
    unfold okG at this; unfold okN; omega
  · rintro ⟨h1, h2, h3, h4, h5⟩
    refine ⟨h1, h2, h3, fun i hi => ?_⟩
    have h6 := h4 (es.getD i eD) (getD_memI hi)
    exact ⟨h6.1, h6.2.1, h6.2.2, fun h => Srt.of_pairwise h5 (i - 1) i (by omega) hi⟩
theorem GV.okN {n : Int} {es : List E} (h : GV n es) {e : E} (he : e ∈ es) : okN n e := (GV_iff.1 h).2.2.2.1 e he
theorem GV.pw {n : Int} {es : List E} (h : GV n es) : es.Pairwise ltE := (GV_iff.1 h).2.2.2.2
theorem pw_nodup {es : List E} (h : es.Pairwise ltE) : es.Nodup := by
  rw [List.nodup_iff_pairwise_ne]
  exact h.imp fun hab e => by subst e; exact ltE_irrefl _ hab
theorem GV.nodup {n : Int} {es : List E} (h : GV n es) : es.Nodup := pw_nodup h.pw
theorem GV.sublist {n : Int} {es es' : List E} (h : GV n es) (hs : es'.Sublist es) : GV n es' := by
  obtain ⟨h1, h2, h3, h4, h5⟩ := GV_iff.1 h
  exact GV_iff.2 ⟨h1, h2, Nat.le_trans hs.length_le h3, fun e he => h4 e (hs.subset he), h5.sublist hs⟩
theorem GV.filter {n : Int} {es : List E} (h : GV n es) (p : E → Bool) : GV n (es.filter p) := h.sublist List.filter_sublist
theorem GV.nil {n : Int} (h1 : 1 ≤ n) (h2 : n ≤ 16) : GV n [] := GV_iff.2 ⟨h1, h2, by simp, by simp, by simp⟩
theorem GV.ins {n : Int} {es : List E} {e : E} (h : GV n es) (hn : e ∉ es) (ho : Proofs.Ythlgbeakcobeoaa.okN n e) (hl : es.length < 40) : GV n (insE es e) := by
  obtain ⟨h1, h2, h3, h4, h5⟩ := GV_iff.1 h
  refine GV_iff.2 ⟨h1, h2, by rw [insE_length]; omega, fun f hf => ?_, insE_pairwise h5 hn⟩
  rcases mem_insE.1 hf with rfl | hf
  · exact ho
  · exact h4 f hf
/-- What PutEdge asks. -/
theorem putOk_iff {n : Int} {es : List E} {e : E} : putOk n es e ↔ GV n es ∧ e ∉ es ∧ Proofs.Ythlgbeakcobeoaa.okN n e ∧ es.length < 40 := by
  constructor
  · rintro ⟨h1, h2, h3⟩
    refine ⟨h1, h2, h3.okN (mem_insE.2 (.inl rfl)), ?_⟩
    have := h3.2.2.1
    rw [insE_length] at this; omega
  · rintro ⟨h1, h2, h3, h4⟩
    exact ⟨h1, h2, h1.ins h2 h3 h4⟩
/-- The second program's place for a new edge. -/
def insP (es : List E) (e : E) : List E := es.takeWhile (fun f => !decide (ltE e f)) ++ e :: es.dropWhile (fun f => !decide (ltE e f))
theorem insP_eq {es : List E} {e : E} (hn : e ∉ es) : insP es e = insE es e := by
  induction es with
  | nil => rfl
  | cons a es ih =>
    have hne : e ≠ a ∧ e ∉ es := by simpa using hn
    have ih := ih hne.2
    rw [insE_cons]
    by_cases h : ltE a e
    · have h2 : ¬ ltE e a := ltE_asymm h
      rw [if_pos h, ← ih]
      simp [insP, List.takeWhile, List.dropWhile, h2]
    · have h2 : ltE e a := (ltE_total hne.1).resolve_right h
      rw [if_neg h]
      simp [insP, List.takeWhile, List.dropWhile, h2]

/-! ### Forests -/
/-- No edge's nodes are connected without it. -/
def Indep (es : List E) : Prop := ∀ e ∈ es, ¬ Conn (rem es e) e.A e.B
theorem rem_app {es : List E} {e : E} (h : e ∉ es) : rem (es ++ [e]) e = es := by
  unfold rem
  rw [List.filter_append]
  have h1 : es.filter (fun f => decide (f ≠ e)) = es := by
    rw [List.filter_eq_self]; intro f hf; simp; rintro rfl; exact h hf
  rw [h1]; simp
theorem conn_app {es : List E} {e : E} {x y : Int} : Conn (es ++ [e]) x y ↔ Conn (e :: es) x y :=
  ⟨fun h => h.mono (by intro f hf; simp at hf ⊢; exact hf.symm), fun h => h.mono (by intro f hf; simp at hf ⊢; exact hf.symm)⟩
theorem Indep.add {es : List E} {e : E} (h : Indep es) (hc : ¬ Conn es e.A e.B) : Indep (es ++ [e]) := by
  have hn : e ∉ es := fun h1 => hc (.edge h1)
  intro f hf hcf
  rcases List.mem_append.1 hf with hf | hf
  · have hfe : f ≠ e := fun h1 => hn (h1 ▸ hf)
    have h1 : Conn (e :: rem es f) f.A f.B := hcf.mono (by
      intro g hg
      obtain ⟨h2, h3⟩ := mem_rem.1 hg
      rcases List.mem_append.1 h2 with h2 | h2
      · exact List.mem_cons_of_mem _ (mem_rem.2 ⟨h2, h3⟩)
      · simp at h2; simp [h2])
    rcases conn_cons.1 h1 with h2 | ⟨h2, h3⟩ | ⟨h2, h3⟩
    · exact h f hf h2
    · have e1 : Conn es f.A f.B := .edge hf
      exact hc (((h2.mono rem_sub).symm.trans e1).trans (h3.mono rem_sub).symm)
    · have e1 : Conn es f.A f.B := .edge hf
      exact hc (((h3.mono rem_sub).trans e1.symm).trans (h2.mono rem_sub))
  · have : f = e := by simpa using hf
    subst this
    rw [rem_app hn] at hcf
    exact hc hcf
theorem Indep.sub {es es' : List E} (h : Indep es) (hs : ∀ e ∈ es', e ∈ es) : Indep es' := fun e he hc => h e (hs e he) (hc.mono fun f hf => by
  obtain ⟨h1, h2⟩ := mem_rem.1 hf
  exact mem_rem.2 ⟨hs f h1, h2⟩)
/-- The edges so far of a forest: independent, and they connect as much as all edges so far. -/
theorem ffold_spec {n : Int} {es : List E} (hE : okE n es) : Indep (es.foldl (fstep n) []) ∧ (∀ x y, Conn (es.foldl (fstep n) []) x y ↔ Conn es x y) ∧ (es.foldl (fstep n) []).Sublist es := by
  have key : ∀ (l p : List E) (out : List E), okE n (p ++ l) → Indep out → (∀ x y, Conn out x y ↔ Conn p x y) → out.Sublist p →
      Indep (l.foldl (fstep n) out) ∧ (∀ x y, Conn (l.foldl (fstep n) out) x y ↔ Conn (p ++ l) x y) ∧ (l.foldl (fstep n) out).Sublist (p ++ l) := by
    intro l
    induction l with
    | nil => intro p out _ h1 h2 h3; simpa using ⟨h1, h2, h3⟩
    | cons e l ih =>
      intro p out h0 h1 h2 h3
      rw [List.foldl_cons]
      have ea : p ++ e :: l = (p ++ [e]) ++ l := by simp
      have ho : okE n out := fun f hf => h0 f (by simp [h3.subset hf])
      have he := h0 e (by simp)
      rw [ea] at h0 ⊢
      refine ih (p ++ [e]) _ h0 ?_ ?_ ?_
      · unfold fstep
        split
        · exact h1
        · rename_i h4
          exact h1.add fun h5 => h4 ((lab_iff ho he.1 he.2).2 h5)
      · intro x y
        unfold fstep
        rw [conn_app, conn_cons, ← h2, ← h2, ← h2, ← h2, ← h2]
        split
        · rename_i h4
          have h5 := (lab_iff ho he.1 he.2).1 h4
          constructor
          · exact .inl
          · rintro (h | ⟨h6, h7⟩ | ⟨h6, h7⟩)
            · exact h
            · exact (h6.trans h5).trans h7
            · exact (h6.trans h5.symm).trans h7
        · rw [conn_app, conn_cons]
      · unfold fstep
        split
        · exact h3.trans (List.sublist_append_left _ _)
        · exact h3.append (List.Sublist.refl _)
  have := key es [] [] (by simpa using hE) (fun e he => by cases he) (fun _ _ => Iff.rfl) (List.Sublist.refl _)
  simpa using this
theorem forest_indep {n : Int} {es : List E} (hE : okE n es) : Indep (forestL n es) := (ffold_spec hE).1
theorem forest_conn {n : Int} {es : List E} (hE : okE n es) {x y : Int} : Conn (forestL n es) x y ↔ Conn es x y := (ffold_spec hE).2.1 x y
theorem forest_sub {n : Int} {es : List E} (hE : okE n es) : (forestL n es).Sublist es := (ffold_spec hE).2.2
/-- A forest's own forest is the forest. -/
theorem forest_self {n : Int} {es : List E} (hE : okE n es) (hi : Indep es) (hn : es.Nodup) : forestL n es = es := by
  have key : ∀ (l p : List E), p ++ l = es → l.foldl (fstep n) p = p ++ l := by
    intro l
    induction l with
    | nil => intro p _; simp
    | cons e l ih =>
      intro p hp
      rw [List.foldl_cons]
      have hpe : ∀ f ∈ p, f ∈ es := fun f hf => by rw [← hp]; simp [hf]
      have hem : e ∈ es := by rw [← hp]; simp
      have hne : e ∉ p := by
        rw [← hp, List.nodup_append] at hn
        intro h; exact hn.2.2 e h e (by simp) rfl
      have hst : fstep n p e = p ++ [e] := by
        unfold fstep
        rw [if_neg]
        intro h
        have h1 := (lab_iff (hE.sub hpe) (hE e hem).1 (hE e hem).2).1 h
        exact hi e hem (h1.mono fun f hf => mem_rem.2 ⟨hpe f hf, fun h2 => hne (by rw [← h2]; exact hf)⟩)
      rw [hst, ih (p ++ [e]) (by rw [← hp]; simp)]; simp
  have := key es [] rfl
  simpa [forestL] using this
end Go.Proofs.Ythlgbeakcobeoaa
