/- Texts put together: Om0, Om1, Om2. Conditions: those of each theorem. -/
import Derived.Test.YtfigegmgopnfhaaV1
import Derived.Test.YtfigegmgopnfhaaV5
set_option linter.unusedVariables false
set_option linter.unusedSimpArgs false
/- Operations on graphs and the lives of edges: plain facts. Conditions: none. -/
namespace Go.Proofs.Ytfigegmgopnfhaa
open Go

theorem filt1_yes {α : Type} {p : α → Bool} {x : α} (h : p x = true) : [x].filter p = [x] := by simp only [List.filter_cons, h, if_true, List.filter_nil]
theorem filt1_no {α : Type} {p : α → Bool} {x : α} (h : p x = false) : [x].filter p = [] := by simp only [List.filter_cons, h, Bool.false_eq_true, if_false, List.filter_nil]
def oD : Oper1 := ⟨0, 0, 0⟩
def oE (o : Oper1) : E := ⟨o.A, o.B⟩
/-- What an operation asks of the graph in front of it. -/
def opOk (n : Int) (es : List E) (o : Oper1) : Prop := (o.K = 1 ∧ putOk n es (oE o)) ∨ (o.K = 2 ∧ HE n es (oE o)) ∨ (o.K = 3 ∧ o.A < o.B ∧ GN n es o.A ∧ GN n es o.B)
instance (n : Int) (es : List E) (o : Oper1) : Decidable (opOk n es o) := by unfold opOk putOk HE; infer_instance
def opDo (es : List E) (o : Oper1) : List E := if o.K = 1 then insE es (oE o) else if o.K = 2 then rem es (oE o) else es
def opo (n : Int) (s : Option (List E)) (o : Oper1) : Option (List E) := match s with
  | some es => if opOk n es o then some (opDo es o) else none
  | none => none
/-- The graph behind operations. -/
def opRun (n : Int) (ops : List Oper1) : Option (List E) := ops.foldl (opo n) (some [])
def OV (n : Int) (ops : List Oper1) : Prop := 1 ≤ n ∧ n ≤ 16 ∧ ops.length ≤ 64 ∧ (opRun n ops).isSome = true
instance (n : Int) (ops : List Oper1) : Decidable (OV n ops) := by unfold OV; infer_instance
def gAt (n : Int) (ops : List Oper1) : List E := (opRun n ops).getD []
/-- The answers to the questions. -/
def ans (n : Int) (ops : List Oper1) : Nat → List Bool
  | 0 => []
  | k + 1 => if (ops.getD k oD).K = 3 then ans n ops k ++ [decide (cn n (gAt n (ops.take k)) (ops.getD k oD).A (ops.getD k oD).B)] else ans n ops k

theorem opRun_snoc (n : Int) (ops : List Oper1) (o : Oper1) : opRun n (ops ++ [o]) = opo n (opRun n ops) o := by unfold opRun; rw [List.foldl_append]; rfl
theorem foldl_opo_none (n : Int) (ops : List Oper1) : ops.foldl (opo n) none = none := by
  induction ops with
  | nil => rfl
  | cons t S ih => rw [List.foldl_cons]; exact ih
theorem opRun_take {n : Int} {ops : List Oper1} {es : List E} (h : opRun n ops = some es) (k : Nat) : ∃ fs, opRun n (ops.take k) = some fs := by
  cases hx : opRun n (ops.take k) with
  | some x => exact ⟨x, rfl⟩
  | none =>
    unfold opRun at h hx
    rw [← List.take_append_drop k ops, List.foldl_append, hx, foldl_opo_none] at h
    cases h
theorem opo_some {n : Int} {es : List E} {o : Oper1} (h : opOk n es o) : opo n (some es) o = some (opDo es o) := if_pos h
theorem opo_bad {n : Int} {es : List E} {o : Oper1} (h : ¬ opOk n es o) : opo n (some es) o = none := if_neg h
theorem opo_none (n : Int) (o : Oper1) : opo n none o = none := rfl
theorem opo_iff {n : Int} {es fs : List E} {o : Oper1} : opo n (some es) o = some fs ↔ opOk n es o ∧ fs = opDo es o := by
  unfold opo
  dsimp only
  split
  · rename_i h; simp only [Option.some.injEq]; exact ⟨fun e => ⟨h, e.symm⟩, fun e => e.2.symm⟩
  · rename_i h; exact ⟨fun e => (by cases e), fun e => absurd e.1 h⟩

theorem opDo_GV {n : Int} {es : List E} {o : Oper1} (hg : GV n es) (h : opOk n es o) : GV n (opDo es o) := by
  unfold opDo
  rcases h with ⟨h1, h2⟩ | ⟨h1, h2⟩ | ⟨h1, h2⟩
  · rw [if_pos h1]; exact h2.2.2
  · rw [if_neg (by omega), if_pos h1]; exact hg.filter _
  · rw [if_neg (by omega), if_neg (by omega)]; exact hg

theorem opRun_GV {n : Int} (h1 : 1 ≤ n) (h2 : n ≤ 16) : ∀ (ops : List Oper1) (es : List E), opRun n ops = some es → GV n es := by
  intro ops
  have key : ∀ k, k ≤ ops.length → ∀ es, opRun n (ops.take k) = some es → GV n es := by
    intro k
    induction k with
    | zero => intro _ es h; have : es = [] := by simpa [opRun] using h.symm
              subst this; exact GV.nil h1 h2
    | succ k ih =>
      intro hk es h
      rw [take_succD oD (by omega), opRun_snoc] at h
      cases hp : opRun n (ops.take k) with
      | none => rw [hp, opo_none] at h; cases h
      | some fs =>
        rw [hp, opo_iff] at h
        rw [h.2]
        exact opDo_GV (ih (by omega) fs hp) h.1
  intro es h
  exact key ops.length (Nat.le_refl _) es (by rwa [List.take_length])

theorem OV.n1 {n : Int} {ops : List Oper1} (h : OV n ops) : 1 ≤ n := h.1
theorem OV.n2 {n : Int} {ops : List Oper1} (h : OV n ops) : n ≤ 16 := h.2.1
theorem OV.le {n : Int} {ops : List Oper1} (h : OV n ops) : ops.length ≤ 64 := h.2.2.1
theorem OV.run {n : Int} {ops : List Oper1} (h : OV n ops) : opRun n ops = some (gAt n ops) := by
  have := h.2.2.2
  unfold gAt
  cases hr : opRun n ops with
  | none => rw [hr] at this; cases this
  | some es => rfl
theorem OV.take {n : Int} {ops : List Oper1} (h : OV n ops) (k : Nat) : OV n (ops.take k) := by
  obtain ⟨fs, hf⟩ := opRun_take h.run k
  exact ⟨h.n1, h.n2, by have := h.le; rw [List.length_take]; omega, by rw [hf]; rfl⟩
theorem OV.gv {n : Int} {ops : List Oper1} (h : OV n ops) : GV n (gAt n ops) := opRun_GV h.n1 h.n2 ops _ h.run
theorem OV.at {n : Int} {ops : List Oper1} (h : OV n ops) (k : Nat) : GV n (gAt n (ops.take k)) := (h.take k).gv
/-- One step of valid operations. -/
theorem OV.step {n : Int} {ops : List Oper1} (h : OV n ops) {k : Nat} (hk : k < ops.length) : opOk n (gAt n (ops.take k)) (ops.getD k oD) ∧ gAt n (ops.take (k + 1)) = opDo (gAt n (ops.take k)) (ops.getD k oD) := by
  have h1 := (h.take k).run
  have h2 := (h.take (k + 1)).run
  rw [take_succD oD hk, opRun_snoc, h1, opo_iff] at h2
  rw [take_succD oD hk]
  exact h2
theorem gAt_nil (n : Int) : gAt n [] = [] := rfl
theorem OV_nil {n : Int} (h1 : 1 ≤ n) (h2 : n ≤ 16) : OV n [] := ⟨h1, h2, by simp, rfl⟩
theorem OV_snoc {n : Int} {ops : List Oper1} (h : OV n ops) (hl : ops.length < 64) {o : Oper1} (ho : opOk n (gAt n ops) o) : OV n (ops ++ [o]) ∧ gAt n (ops ++ [o]) = opDo (gAt n ops) o := by
  have : opRun n (ops ++ [o]) = some (opDo (gAt n ops) o) := by rw [opRun_snoc, h.run, opo_some ho]
  refine ⟨⟨h.n1, h.n2, by rw [List.length_append, List.length_singleton]; omega, by rw [this]; rfl⟩, ?_⟩
  show (opRun n (ops ++ [o])).getD [] = _
  rw [this]; rfl
/-- Where the first operations are valid and the next one is not, the whole is not. -/
theorem OV_bad {n : Int} {ops : List Oper1} {k : Nat} (hk : k < ops.length) {es : List E} (h : opRun n (ops.take k) = some es) (hb : ¬ opOk n es (ops.getD k oD)) : ¬ OV n ops := by
  intro hv
  have h1 := (hv.take (k + 1)).run
  rw [take_succD oD hk, opRun_snoc, h, opo_bad hb] at h1
  cases h1

/-! ### Lives -/
/-- Operation number k cuts the edge e. -/
def cutsB (ops : List Oper1) (e : E) (k : Nat) : Bool := decide ((ops.getD k oD).K = 2 ∧ oE (ops.getD k oD) = e)
/-- The first operation from i on, among the next m, that cuts e (i + m: none). -/
def firstC (ops : List Oper1) (e : E) (i : Nat) : Nat → Nat
  | 0 => i
  | m + 1 => if cutsB ops e i then i else firstC ops e (i + 1) m
def toOf (ops : List Oper1) (i : Nat) : Nat := firstC ops (oE (ops.getD i oD)) (i + 1) (ops.length - (i + 1))
def lifeAt (ops : List Oper1) (i : Nat) : Lif := ⟨(ops.getD i oD).A, (ops.getD i oD).B, i, toOf ops i⟩
def puts (ops : List Oper1) (k : Nat) : List Nat := (List.range k).filter fun i => decide ((ops.getD i oD).K = 1)
def livs (ops : List Oper1) : List Lif := (puts ops ops.length).map (lifeAt ops)

theorem firstC_spec (ops : List Oper1) (e : E) : ∀ (m i : Nat), i ≤ firstC ops e i m ∧ firstC ops e i m ≤ i + m ∧ (∀ k, i ≤ k → k < firstC ops e i m → cutsB ops e k = false) ∧ (firstC ops e i m < i + m → cutsB ops e (firstC ops e i m) = true)
  | 0, i => ⟨Nat.le_refl _, Nat.le_refl _, fun k h1 h2 => by unfold firstC at h2; omega, fun h => by unfold firstC at h; omega⟩
  | m + 1, i => by
    unfold firstC
    by_cases hc : cutsB ops e i = true
    · rw [if_pos hc]
      exact ⟨Nat.le_refl _, by omega, fun k h1 h2 => by omega, fun _ => hc⟩
    · rw [if_neg hc]
      obtain ⟨h1, h2, h3, h4⟩ := firstC_spec ops e m (i + 1)
      refine ⟨by omega, by omega, fun k hk1 hk2 => ?_, fun h => h4 (by omega)⟩
      by_cases hki : k = i
      · subst hki; simpa using hc
      · exact h3 k (by omega) hk2
theorem toOf_spec {ops : List Oper1} {i : Nat} (hi : i < ops.length) : i < toOf ops i ∧ toOf ops i ≤ ops.length ∧ (∀ k, i < k → k < toOf ops i → cutsB ops (oE (ops.getD i oD)) k = false) ∧ (toOf ops i < ops.length → cutsB ops (oE (ops.getD i oD)) (toOf ops i) = true) := by
  obtain ⟨h1, h2, h3, h4⟩ := firstC_spec ops (oE (ops.getD i oD)) (ops.length - (i + 1)) (i + 1)
  unfold toOf
  exact ⟨by omega, by omega, fun k hk1 hk2 => h3 k hk1 hk2, fun h => h4 (by omega)⟩
theorem toOf_unique {ops : List Oper1} {i t : Nat} (hi : i < ops.length) (h1 : i < t) (h2 : t ≤ ops.length) (h3 : ∀ k, i < k → k < t → cutsB ops (oE (ops.getD i oD)) k = false) (h4 : t < ops.length → cutsB ops (oE (ops.getD i oD)) t = true) : toOf ops i = t := by
  obtain ⟨g1, g2, g3, g4⟩ := toOf_spec hi
  rcases Nat.lt_trichotomy (toOf ops i) t with h | h | h
  · have := g4 (by omega)
    rw [h3 _ g1 h] at this; cases this
  · exact h
  · have := h4 (by omega)
    rw [g3 _ h1 h] at this; cases this
theorem mem_puts {ops : List Oper1} {k i : Nat} : i ∈ puts ops k ↔ i < k ∧ (ops.getD i oD).K = 1 := by unfold puts; rw [List.mem_filter, List.mem_range]; simp
theorem puts_succ (ops : List Oper1) (k : Nat) : puts ops (k + 1) = if (ops.getD k oD).K = 1 then puts ops k ++ [k] else puts ops k := by
  unfold puts
  rw [List.range_succ, List.filter_append]
  split
  · rename_i h; rw [filt1_yes (p := fun i => decide ((ops.getD i oD).K = 1)) (decide_eq_true h)]
  · rename_i h; rw [filt1_no (p := fun i => decide ((ops.getD i oD).K = 1)) (decide_eq_false h), List.append_nil]
theorem puts_nodup (ops : List Oper1) (k : Nat) : (puts ops k).Nodup := List.Nodup.sublist List.filter_sublist List.nodup_range
theorem puts_le (ops : List Oper1) (k : Nat) : (puts ops k).length ≤ k := by
  have := List.length_filter_le (fun i => decide ((ops.getD i oD).K = 1)) (List.range k)
  rw [List.length_range] at this; exact this

/-- The puts in front of operation number k whose edges are still there. -/
def alive (ops : List Oper1) (k : Nat) : List Nat := (puts ops k).filter fun i => decide (k ≤ toOf ops i)
theorem alive_zero (ops : List Oper1) : alive ops 0 = [] := rfl
theorem toOf_ne {ops : List Oper1} {k i : Nat} (hk : k < ops.length) (hi : i < ops.length) (hc : (ops.getD k oD).K ≠ 2) : toOf ops i ≠ k := by
  intro e
  have := (toOf_spec hi).2.2.2 (by omega)
  rw [e] at this
  unfold cutsB at this
  simp at this
  exact hc this.1
theorem alive_put {ops : List Oper1} {k : Nat} (hk : k < ops.length) (h : (ops.getD k oD).K = 1) : alive ops (k + 1) = alive ops k ++ [k] := by
  unfold alive
  rw [puts_succ, if_pos h, List.filter_append]
  congr 1
  · refine List.filter_congr fun i hi => ?_
    rw [decide_eq_decide]
    have hik := (mem_puts.1 hi).1
    have := toOf_ne hk (i := i) (by omega) (by omega)
    omega
  · have := (toOf_spec hk).1
    simp; omega
theorem alive_ask {ops : List Oper1} {k : Nat} (hk : k < ops.length) (h : (ops.getD k oD).K ≠ 1) (h2 : (ops.getD k oD).K ≠ 2) : alive ops (k + 1) = alive ops k := by
  unfold alive
  rw [puts_succ, if_neg h]
  refine List.filter_congr fun i hi => ?_
  rw [decide_eq_decide]
  have hik := (mem_puts.1 hi).1
  have := toOf_ne hk (i := i) (by omega) h2
  omega
theorem alive_cut {ops : List Oper1} {k : Nat} (hk : k < ops.length) (h : (ops.getD k oD).K = 2) : alive ops (k + 1) = (alive ops k).filter fun i => decide (oE (ops.getD i oD) ≠ oE (ops.getD k oD)) := by
  unfold alive
  rw [puts_succ, if_neg (by omega), List.filter_filter]
  refine List.filter_congr fun i hi => ?_
  rw [← Bool.decide_and, decide_eq_decide]
  have hik := (mem_puts.1 hi).1
  obtain ⟨g1, g2, g3, g4⟩ := toOf_spec (ops := ops) (i := i) (by omega)
  constructor
  · intro h1
    refine ⟨fun e => ?_, by omega⟩
    have := g3 k hik (by omega)
    unfold cutsB at this
    simp at this
    exact this h e.symm
  · rintro ⟨h1, h3⟩
    rcases Nat.lt_or_ge k (toOf ops i) with h4 | h4
    · omega
    · exfalso
      have e : toOf ops i = k := by omega
      have := g4 (by omega)
      rw [e] at this
      unfold cutsB at this
      simp at this
      exact h1 this.2.symm
theorem insE_perm (es : List E) (e : E) : (insE es e).Perm (e :: es) := by
  unfold insE
  refine List.perm_middle.trans ?_
  rw [List.takeWhile_append_dropWhile]
/-- The edges in front of operation number k are those of the puts that are alive there. -/
theorem alive_perm {n : Int} {ops : List Oper1} (h : OV n ops) : ∀ k, k ≤ ops.length → ((alive ops k).map fun i => oE (ops.getD i oD)).Perm (gAt n (ops.take k))
  | 0, _ => by rw [alive_zero, List.take_zero]; exact List.Perm.refl _
  | k + 1, hk => by
    have ih := alive_perm h k (by omega)
    obtain ⟨h1, h2⟩ := h.step (k := k) (by omega)
    rw [h2]
    unfold opDo
    by_cases k1 : (ops.getD k oD).K = 1
    · rw [if_pos k1, alive_put (by omega) k1, List.map_append]
      refine List.Perm.trans ?_ (insE_perm _ _).symm
      exact (List.perm_append_comm).trans (by simpa using ih)
    · rw [if_neg k1]
      by_cases k2 : (ops.getD k oD).K = 2
      · rw [if_pos k2, alive_cut (by omega) k2]
        unfold rem
        have := ih.filter fun f => decide (f ≠ oE (ops.getD k oD))
        rw [List.filter_map] at this
        exact this
      · rw [if_neg k2, alive_ask (by omega) k1 k2]; exact ih
theorem livs_length (ops : List Oper1) : (livs ops).length ≤ ops.length := by
  unfold livs; rw [List.length_map]; exact puts_le _ _

/-- The lives that reach over the place 'at' are as many as the edges there. -/
theorem alive_count {n : Int} {ops : List Oper1} (h : OV n ops) {k : Nat} (hk : k ≤ ops.length) : (alive ops k).length = (gAt n (ops.take k)).length := by
  have := (alive_perm h k hk).length_eq
  simpa using this
theorem alive_eq {ops : List Oper1} {k : Nat} (hk : k ≤ ops.length) : alive ops k = (puts ops ops.length).filter fun i => decide (i < k ∧ k ≤ toOf ops i) := by
  have hr : ∀ m, k ≤ m → (puts ops m).filter (fun i => decide (i < k ∧ k ≤ toOf ops i)) = alive ops k := by
    intro m hm
    induction m with
    | zero =>
      have : k = 0 := by omega
      subst this; rfl
    | succ m ih =>
      rcases Nat.lt_or_ge m k with h | h
      · have : k = m + 1 := by omega
        subst this
        refine List.filter_congr fun i hi => ?_
        rw [decide_eq_decide]
        have := (mem_puts.1 hi).1
        exact ⟨fun h => h.2, fun h => ⟨this, h⟩⟩
      · rw [puts_succ]
        split
        · rw [List.filter_append, ih h]
          have : ([m].filter fun i => decide (i < k ∧ k ≤ toOf ops i)) = [] := by
            rw [List.filter_eq_nil_iff]; intro i hi
            have : i = m := by simpa using hi
            simp; omega
          rw [this, List.append_nil]
        · exact ih h
  exact (hr _ hk).symm
theorem alive_mem {n : Int} {ops : List Oper1} (h : OV n ops) {k i : Nat} (hk : k ≤ ops.length) (hi : i < k) (h1 : (ops.getD i oD).K = 1) (h2 : k ≤ toOf ops i) : oE (ops.getD i oD) ∈ gAt n (ops.take k) :=
  (alive_perm h k hk).subset (List.mem_map.2 ⟨i, List.mem_filter.2 ⟨mem_puts.2 ⟨hi, h1⟩, by simpa using h2⟩, rfl⟩)
theorem of_alive {n : Int} {ops : List Oper1} (h : OV n ops) {k : Nat} (hk : k ≤ ops.length) {e : E} (he : e ∈ gAt n (ops.take k)) : ∃ i, i < k ∧ (ops.getD i oD).K = 1 ∧ k ≤ toOf ops i ∧ oE (ops.getD i oD) = e := by
  have := (alive_perm h k hk).symm.subset he
  obtain ⟨i, hi, e1⟩ := List.mem_map.1 this
  obtain ⟨h1, h2⟩ := List.mem_filter.1 hi
  obtain ⟨h3, h4⟩ := mem_puts.1 h1
  exact ⟨i, h3, h4, by simpa using h2, e1⟩
/-- Two lives of one edge are apart. -/
theorem lives_apart {n : Int} {ops : List Oper1} (h : OV n ops) {k i : Nat} (hi : i < ops.length) (hk : k < i) (h1 : (ops.getD k oD).K = 1) (h2 : (ops.getD i oD).K = 1) (he : oE (ops.getD k oD) = oE (ops.getD i oD)) : toOf ops k < i := by
  rcases Nat.lt_or_ge (toOf ops k) i with h3 | h3
  · exact h3
  · exfalso
    have hm := alive_mem h (k := i) (by omega) hk h1 h3
    rw [he] at hm
    have := (h.step hi).1
    rcases this with ⟨_, h5⟩ | ⟨h5, _⟩ | ⟨h5, _⟩
    · exact h5.2.1 hm
    · omega
    · omega

/-! ### Answers -/
theorem ans_len (n : Int) (ops : List Oper1) : ∀ k, (ans n ops k).length ≤ k
  | 0 => Nat.le_refl _
  | k + 1 => by
    have := ans_len n ops k
    unfold ans
    split
    · rw [List.length_append, List.length_singleton]; omega
    · omega
theorem ans_take (n : Int) (ops : List Oper1) (m : Nat) : ∀ k, k ≤ m → k ≤ ops.length → ans n (ops.take m) k = ans n ops k
  | 0, _, _ => rfl
  | k + 1, hk, hl => by
    have ih := ans_take n ops m k (by omega) (by omega)
    have e1 : (ops.take m).getD k oD = ops.getD k oD := by
      rw [List.getD_eq_getElem?_getD, List.getD_eq_getElem?_getD, List.getElem?_take, if_pos (by omega)]
    have e2 : (ops.take m).take k = ops.take k := by rw [List.take_take]; congr 1; omega
    unfold ans
    rw [ih, e1, e2]
theorem ans_app (n : Int) (ops : List Oper1) (o : Oper1) : ans n (ops ++ [o]) (ops ++ [o]).length = if o.K = 3 then ans n ops ops.length ++ [decide (cn n (gAt n ops) o.A o.B)] else ans n ops ops.length := by
  have e0 : ans n (ops ++ [o]) ops.length = ans n ops ops.length := by
    have := ans_take n (ops ++ [o]) ops.length ops.length (Nat.le_refl _) (by simp)
    rw [List.take_left] at this
    exact this.symm
  have e1 : (ops ++ [o]).getD ops.length oD = o := by
    rw [List.getD_eq_getElem?_getD, List.getElem?_append_right (Nat.le_refl _), Nat.sub_self]; rfl
  rw [List.length_append, List.length_singleton]
  show (if ((ops ++ [o]).getD ops.length oD).K = 3 then ans n (ops ++ [o]) ops.length ++ [_] else ans n (ops ++ [o]) ops.length) = _
  rw [e0, e1, List.take_left]
theorem ans_prefix (n : Int) (ops : List Oper1) : ∀ k m, k ≤ m → ans n ops k <+: ans n ops m := by
  intro k m h
  induction m with
  | zero =>
    have : k = 0 := by omega
    subst this; exact List.prefix_refl _
  | succ m ih =>
    rcases Nat.lt_or_ge m k with h1 | h1
    · have : k = m + 1 := by omega
      subst this; exact List.prefix_refl _
    · refine (ih h1).trans ?_
      show ans n ops m <+: (if (ops.getD m oD).K = 3 then ans n ops m ++ [_] else ans n ops m)
      split
      · exact List.prefix_append _ _
      · exact List.prefix_refl _

/-! ### Operations without the questions -/
def noAsk (ops : List Oper1) : List Oper1 := ops.filter fun o => decide (o.K ≠ 3)
theorem noAsk_run {n : Int} : ∀ (ops : List Oper1) (es : List E), (opRun n ops = some es) → opRun n (noAsk ops) = some es := by
  intro ops
  have key : ∀ k, k ≤ ops.length → ∀ es, opRun n (ops.take k) = some es → opRun n (noAsk (ops.take k)) = some es := by
    intro k
    induction k with
    | zero => intro _ es h; simpa [noAsk] using h
    | succ k ih =>
      intro hk es h
      rw [take_succD oD (by omega), opRun_snoc] at h
      cases hp : opRun n (ops.take k) with
      | none => rw [hp, opo_none] at h; cases h
      | some fs =>
        have h3 := ih (by omega) fs hp
        rw [hp] at h
        obtain ⟨g1, g2⟩ := opo_iff.1 h
        rw [take_succD oD (by omega)]
        unfold noAsk at h3 ⊢
        rw [List.filter_append]
        by_cases ha : (ops.getD k oD).K = 3
        · have : ([ops.getD k oD].filter fun o => decide (o.K ≠ 3)) = [] := filt1_no (p := fun o : Oper1 => decide (o.K ≠ 3)) (decide_eq_false fun h => h ha)
          rw [this, List.append_nil, h3, g2]
          unfold opDo
          rw [if_neg (by omega), if_neg (by omega)]
        · have : ([ops.getD k oD].filter fun o => decide (o.K ≠ 3)) = [ops.getD k oD] := filt1_yes (p := fun o : Oper1 => decide (o.K ≠ 3)) (decide_eq_true ha)
          rw [this, opRun_snoc, h3]; exact h
  intro es h
  have := key ops.length (Nat.le_refl _) es (by rwa [List.take_length])
  rwa [List.take_length] at this
theorem noAsk_le (ops : List Oper1) : (noAsk ops).length ≤ ops.length := List.length_filter_le _ _
end Go.Proofs.Ytfigegmgopnfhaa
/- Spans of time: plain facts. Conditions: none. -/
namespace Go.Proofs.Ytfigegmgopnfhaa
open Go

/-- How many spans a time from f to t is divided into, within the span from lo to hi. -/
def spc (f t : Int) : Nat → Int → Int → Nat
  | 0, lo, hi => if f ≤ lo ∧ hi ≤ t then 1 else 0
  | k + 1, lo, hi => if f ≤ lo ∧ hi ≤ t then 1 else if hi ≤ f ∨ t ≤ lo then 0 else spc f t k lo ((lo + hi) / 2) + spc f t k ((lo + hi) / 2) hi
theorem spc_full {f t lo hi : Int} {d : Nat} (h : f ≤ lo ∧ hi ≤ t) : spc f t d lo hi = 1 := by
  cases d <;> unfold spc <;> rw [if_pos h]
theorem spc_none {f t lo hi : Int} {d : Nat} (hl : lo < hi) (hf : f < t) (h : hi ≤ f ∨ t ≤ lo) : spc f t d lo hi = 0 := by
  cases d <;> unfold spc
  · rw [if_neg (by omega)]
  · rw [if_neg (by omega), if_pos h]
theorem spc_split {f t lo hi : Int} {d : Nat} (h1 : ¬ (f ≤ lo ∧ hi ≤ t)) (h2 : ¬ (hi ≤ f ∨ t ≤ lo)) : spc f t (d + 1) lo hi = spc f t d lo ((lo + hi) / 2) + spc f t d ((lo + hi) / 2) hi := by
  show (if _ then _ else _) = _
  rw [if_neg h1, if_neg h2]
theorem pow_succ2 (d : Nat) : (2 : Int) ^ (d + 1) = 2 * 2 ^ d := by rw [Int.pow_succ]; omega
theorem spc_low {f t : Int} (hf : f < t) : ∀ (d : Nat) (lo hi : Int), lo < hi → hi - lo ≤ 2 ^ d → f ≤ lo → spc f t d lo hi ≤ d + 1
  | 0, lo, hi, h1, h2, h3 => by unfold spc; split <;> omega
  | d + 1, lo, hi, h1, h2, h3 => by
    rw [pow_succ2] at h2
    by_cases c1 : f ≤ lo ∧ hi ≤ t
    · rw [spc_full c1]; omega
    by_cases c2 : hi ≤ f ∨ t ≤ lo
    · rw [spc_none h1 hf c2]; omega
    rw [spc_split c1 c2]
    by_cases hm : lo + 1 = hi
    · omega
    have hp : (0 : Int) < 2 ^ d := Int.pow_pos (by omega)
    rcases Int.lt_or_le t ((lo + hi) / 2) with h5 | h5
    · have := spc_low hf d lo ((lo + hi) / 2) (by omega) (by omega) h3
      rw [spc_none (d := d) (lo := (lo + hi) / 2) (hi := hi) (by omega) hf (by omega)]; omega
    · have := spc_low hf d ((lo + hi) / 2) hi (by omega) (by omega) (by omega)
      rw [spc_full (d := d) (lo := lo) (hi := (lo + hi) / 2) (by omega)]; omega
theorem spc_high {f t : Int} (hf : f < t) : ∀ (d : Nat) (lo hi : Int), lo < hi → hi - lo ≤ 2 ^ d → hi ≤ t → spc f t d lo hi ≤ d + 1
  | 0, lo, hi, h1, h2, h3 => by unfold spc; split <;> omega
  | d + 1, lo, hi, h1, h2, h3 => by
    rw [pow_succ2] at h2
    by_cases c1 : f ≤ lo ∧ hi ≤ t
    · rw [spc_full c1]; omega
    by_cases c2 : hi ≤ f ∨ t ≤ lo
    · rw [spc_none h1 hf c2]; omega
    rw [spc_split c1 c2]
    have hp : (0 : Int) < 2 ^ d := Int.pow_pos (by omega)
    rcases Int.lt_or_le ((lo + hi) / 2) f with h5 | h5
    · have := spc_high hf d ((lo + hi) / 2) hi (by omega) (by omega) h3
      rw [spc_none (d := d) (lo := lo) (hi := (lo + hi) / 2) (by omega) hf (by omega)]; omega
    · have := spc_high hf d lo ((lo + hi) / 2) (by omega) (by omega) (by omega)
      rw [spc_full (d := d) (lo := (lo + hi) / 2) (hi := hi) (by omega)]; omega
theorem spc_le {f t : Int} (hf : f < t) : ∀ (d : Nat) (lo hi : Int), lo < hi → hi - lo ≤ 2 ^ d → spc f t d lo hi ≤ 2 * d + 1 ∧ (1 ≤ d → spc f t d lo hi ≤ 2 * d)
  | 0, lo, hi, h1, h2 => by unfold spc; split <;> omega
  | d + 1, lo, hi, h1, h2 => by
    rw [pow_succ2] at h2
    by_cases c1 : f ≤ lo ∧ hi ≤ t
    · rw [spc_full c1]; omega
    by_cases c2 : hi ≤ f ∨ t ≤ lo
    · rw [spc_none h1 hf c2]; omega
    rw [spc_split c1 c2]
    have hp : (0 : Int) < 2 ^ d := Int.pow_pos (by omega)
    have hm : lo + 1 < hi := by omega
    have i1 := spc_le hf d lo ((lo + hi) / 2) (by omega) (by omega)
    have i2 := spc_le hf d ((lo + hi) / 2) hi (by omega) (by omega)
    rcases Int.lt_or_le f ((lo + hi) / 2) with h5 | h5
    · rcases Int.lt_or_le ((lo + hi) / 2) t with h6 | h6
      · have j1 := spc_high hf d lo ((lo + hi) / 2) (by omega) (by omega) (by omega)
        have j2 := spc_low hf d ((lo + hi) / 2) hi (by omega) (by omega) (by omega)
        omega
      · rw [spc_none (d := d) (lo := (lo + hi) / 2) (hi := hi) (by omega) hf (by omega)]; omega
    · rw [spc_none (d := d) (lo := lo) (hi := (lo + hi) / 2) (by omega) hf (by omega)]; omega
theorem spc_pos {f t : Int} (hf : f < t) : ∀ (d : Nat) (lo hi : Int), lo < hi → hi - lo ≤ 2 ^ d → f < hi → lo < t → 1 ≤ spc f t d lo hi
  | 0, lo, hi, h1, h2, h3, h4 => by
    rw [Int.pow_zero] at h2
    rw [spc_full (by omega)]; omega
  | d + 1, lo, hi, h1, h2, h3, h4 => by
    rw [pow_succ2] at h2
    by_cases c1 : f ≤ lo ∧ hi ≤ t
    · rw [spc_full c1]; omega
    rw [spc_split c1 (by omega)]
    have hp : (0 : Int) < 2 ^ d := Int.pow_pos (by omega)
    have hm : lo + 1 < hi := by omega
    rcases Int.lt_or_le f ((lo + hi) / 2) with h5 | h5
    · have := spc_pos hf d lo ((lo + hi) / 2) (by omega) (by omega) h5 h4
      omega
    · have := spc_pos hf d ((lo + hi) / 2) hi (by omega) (by omega) h3 (by omega)
      omega

/-- All spans of lives. -/
def spsum (L : List Lif) (d : Nat) (lo hi : Int) : Nat := (L.map fun l => spc l.F l.T d lo hi).sum
theorem spsum_nil (d : Nat) (lo hi : Int) : spsum [] d lo hi = 0 := rfl
theorem spsum_snoc (L : List Lif) (l : Lif) (d : Nat) (lo hi : Int) : spsum (L ++ [l]) d lo hi = spsum L d lo hi + spc l.F l.T d lo hi := by
  unfold spsum; rw [List.map_append, List.sum_append]; simp
theorem spsum_le {L : List Lif} {d : Nat} {lo hi : Int} {k m : Nat} (h : ∀ l ∈ L, k ≤ spc l.F l.T d lo hi ∧ spc l.F l.T d lo hi ≤ m) : k * L.length ≤ spsum L d lo hi ∧ spsum L d lo hi ≤ m * L.length := by
  induction L with
  | nil => exact ⟨Nat.le_refl _, Nat.le_refl _⟩
  | cons a L ih =>
    have h1 := h a (by simp)
    have h2 := ih fun l hl => h l (by simp [hl])
    unfold spsum at *
    rw [List.map_cons, List.sum_cons, List.length_cons, Nat.mul_succ, Nat.mul_succ]; omega
end Go.Proofs.Ytfigegmgopnfhaa
/- Questions that are known ahead: plain facts. Conditions: none. -/
namespace Go.Proofs.Ytfigegmgopnfhaa
open Go

def lfE (l : Lif) : E := ⟨l.A, l.B⟩
def fulB (lo hi : Int) (l : Lif) : Bool := decide (l.F ≤ lo ∧ hi ≤ l.T)
def parB (lo hi : Int) (l : Lif) : Bool := decide (¬ (l.F ≤ lo ∧ hi ≤ l.T) ∧ l.F < hi ∧ lo < l.T)
def unis (s : SS) (L : List Lif) : SS := L.foldl (fun s l => uni s l.A l.B) s
def lbC (n : Int) (s : SS) (E0 : List E) : Prop := ∀ x y, Nd n x → Nd n y → ((lb s).getD x.toNat 0 = (lb s).getD y.toNat 0 ↔ Conn E0 x y)

theorem spsum_leaf {L : List Lif} {d : Nat} {lo : Int} (h : ∀ l ∈ L, l.F < l.T) : spsum L d lo (lo + 1) = (L.filter (fulB lo (lo + 1))).length := by
  induction L with
  | nil => rfl
  | cons a L ih =>
    have h1 := h a (by simp)
    have ih := ih fun l hl => h l (by simp [hl])
    unfold spsum at *
    rw [List.map_cons, List.sum_cons, ih, List.filter_cons]
    by_cases hf : a.F ≤ lo ∧ lo + 1 ≤ a.T
    · rw [spc_full hf, if_pos (show fulB lo (lo + 1) a = true from decide_eq_true hf), List.length_cons]; omega
    · rw [spc_none (by omega) h1 (by omega), if_neg (show ¬ fulB lo (lo + 1) a = true from fun h => hf (of_decide_eq_true h))]; omega
theorem spsum_split {L : List Lif} {d : Nat} {lo hi : Int} (h : ∀ l ∈ L, l.F < l.T) (hl : lo + 1 < hi) :
    spsum L (d + 1) lo hi = (L.filter (fulB lo hi)).length + spsum (L.filter (parB lo hi)) d lo ((lo + hi) / 2) + spsum (L.filter (parB lo hi)) d ((lo + hi) / 2) hi := by
  induction L with
  | nil => rfl
  | cons a L ih =>
    have h1 := h a (by simp)
    have ih := ih fun l hl => h l (by simp [hl])
    unfold spsum at *
    rw [List.map_cons, List.sum_cons, ih, List.filter_cons, List.filter_cons]
    by_cases hf : a.F ≤ lo ∧ hi ≤ a.T
    · rw [spc_full hf, if_pos (show fulB lo hi a = true from decide_eq_true hf), if_neg (show ¬ parB lo hi a = true from fun h => (of_decide_eq_true h).1 hf), List.length_cons]; omega
    · rw [if_neg (show ¬ fulB lo hi a = true from fun h => hf (of_decide_eq_true h))]
      by_cases hn : hi ≤ a.F ∨ a.T ≤ lo
      · rw [spc_none (by omega) h1 hn, if_neg (show ¬ parB lo hi a = true from fun h => by have := of_decide_eq_true h; omega)]; omega
      · rw [spc_split hf hn, if_pos (show parB lo hi a = true from decide_eq_true ⟨hf, by omega, by omega⟩), List.map_cons, List.map_cons, List.sum_cons, List.sum_cons]; omega

theorem lbC_uni {n : Int} {s : SS} {E0 : List E} (hv : SV s) (hp : (s.P.length : Int) = n) (hl : s.S.length ≠ 100) (h : lbC n s E0) {a b : Int} (ha : Nd n a) (hb : Nd n b) : lbC n (uni s a b) (E0 ++ [⟨a, b⟩]) := fun x y hx hy => by
  rw [uni_label hv (by rw [hp]; exact ha) (by rw [hp]; exact hb) hl (by rw [hp]; exact hx) (by rw [hp]; exact hy), h x y hx hy, h x a hx ha, h x b hx hb, h b y hb hy, h a y ha hy, conn_app, conn_cons]

/-- What holds ahead of a span of time. -/
structure AH (n : Int) (ops : List Oper1) (lo hi : Int) (L : List Lif) (s : SS) (E0 : List E) : Prop where
  sv : SV s
  pl : (s.P.length : Int) = n
  st : s.S.length + L.length ≤ 64
  lc : lbC n s E0
  lf : ∀ l ∈ L, l.F < l.T ∧ Nd n l.A ∧ Nd n l.B
  me : ∀ p : Nat, lo ≤ p → (p : Int) < hi → (ops.getD p oD).K = 3 → ∀ e, e ∈ gAt n (ops.take p) ↔ e ∈ E0 ∨ ∃ l ∈ L, l.F ≤ p ∧ (p : Int) < l.T ∧ lfE l = e

/-- Uniting the lives of a list one after the other. -/
theorem unis_ok {n : Int} : ∀ (L : List Lif) (s : SS) (E0 : List E), SV s → (s.P.length : Int) = n → s.S.length + L.length ≤ 64 → lbC n s E0 → (∀ l ∈ L, Nd n l.A ∧ Nd n l.B) →
    SV (unis s L) ∧ ((unis s L).P.length : Int) = n ∧ (unis s L).S.length = s.S.length + L.length ∧ lbC n (unis s L) (E0 ++ L.map lfE)
  | [], s, E0, h1, h2, h3, h4, _ => ⟨h1, h2, rfl, by rw [List.map_nil, List.append_nil]; exact h4⟩
  | a :: L, s, E0, h1, h2, h3, h4, h5 => by
    obtain ⟨n1, n2⟩ := h5 a (by simp)
    rw [List.length_cons] at h3
    have n1' : Nd s.P.length a.A := by rw [h2]; exact n1
    have n2' : Nd s.P.length a.B := by rw [h2]; exact n2
    obtain ⟨u1, u2, u3, _⟩ := uni_inv h1 n1' n2' (by omega)
    have ul : (uni s a.A a.B).S.length = s.S.length + 1 := by rw [u3]; simp
    obtain ⟨g1, g2, g3, g4⟩ := unis_ok L (uni s a.A a.B) (E0 ++ [⟨a.A, a.B⟩]) u1 (by rw [u2]; exact h2) (by omega) (lbC_uni h1 h2 (by omega) h4 n1 n2) fun l hl => h5 l (by simp [hl])
    refine ⟨g1, g2, ?_, ?_⟩
    · show (unis (uni s a.A a.B) L).S.length = _
      rw [g3, List.length_cons]; omega
    · have e : E0 ++ (a :: L).map lfE = (E0 ++ [⟨a.A, a.B⟩]) ++ L.map lfE := by simp [lfE]
      rw [e]; exact g4
theorem filt_two {L : List Lif} {lo hi : Int} : (L.filter (fulB lo hi)).length + (L.filter (parB lo hi)).length ≤ L.length := by
  induction L with
  | nil => exact Nat.le_refl _
  | cons a L ih =>
    rw [List.filter_cons, List.filter_cons, List.length_cons]
    by_cases hf : a.F ≤ lo ∧ hi ≤ a.T
    · rw [if_pos (show fulB lo hi a = true from decide_eq_true hf), if_neg (show ¬ parB lo hi a = true from fun h => (of_decide_eq_true h).1 hf), List.length_cons]; omega
    · rw [if_neg (show ¬ fulB lo hi a = true from fun h => hf (of_decide_eq_true h))]
      split
      · rw [List.length_cons]; omega
      · omega
theorem AH.unis {n : Int} {ops : List Oper1} {lo hi : Int} {L : List Lif} {s : SS} {E0 : List E} (h : AH n ops lo hi L s E0) :
    SV (Proofs.Ytfigegmgopnfhaa.unis s (L.filter (fulB lo hi))) ∧ ((Proofs.Ytfigegmgopnfhaa.unis s (L.filter (fulB lo hi))).P.length : Int) = n ∧ (Proofs.Ytfigegmgopnfhaa.unis s (L.filter (fulB lo hi))).S.length = s.S.length + (L.filter (fulB lo hi)).length ∧ lbC n (Proofs.Ytfigegmgopnfhaa.unis s (L.filter (fulB lo hi))) (E0 ++ (L.filter (fulB lo hi)).map lfE) :=
  unis_ok _ _ _ h.sv h.pl (by have := filt_two (L := L) (lo := lo) (hi := hi); have := h.st; omega) h.lc fun l hl => (h.lf l (List.mem_filter.1 hl).1).2
/-- Down into a part of the span. -/
theorem AH.down {n : Int} {ops : List Oper1} {lo hi lo' hi' : Int} {L : List Lif} {s : SS} {E0 : List E} (h : AH n ops lo hi L s E0) (h1 : lo ≤ lo') (h2 : hi' ≤ hi) :
    AH n ops lo' hi' (L.filter (parB lo hi)) (Proofs.Ytfigegmgopnfhaa.unis s (L.filter (fulB lo hi))) (E0 ++ (L.filter (fulB lo hi)).map lfE) := by
  obtain ⟨u1, u2, u3, u4⟩ := h.unis
  have hf2 := filt_two (L := L) (lo := lo) (hi := hi)
  have hst := h.st
  refine ⟨u1, u2, by omega, u4, fun l hl => h.lf l (List.mem_filter.1 hl).1, fun p hp1 hp2 hk e => ?_⟩
  rw [h.me p (by omega) (by omega) hk e]
  constructor
  · rintro (q | ⟨l, q1, q2, q3, q4⟩)
    · exact .inl (by simp [q])
    · by_cases hf : l.F ≤ lo ∧ hi ≤ l.T
      · refine .inl (List.mem_append.2 (.inr (List.mem_map.2 ⟨l, List.mem_filter.2 ⟨q1, decide_eq_true hf⟩, q4⟩)))
      · exact .inr ⟨l, List.mem_filter.2 ⟨q1, decide_eq_true ⟨hf, by omega, by omega⟩⟩, q2, q3, q4⟩
  · rintro (q | ⟨l, q1, q2, q3, q4⟩)
    · rcases List.mem_append.1 q with q | q
      · exact .inl q
      · obtain ⟨l, q1, q2⟩ := List.mem_map.1 q
        obtain ⟨q3, q4⟩ := List.mem_filter.1 q1
        have q4 := of_decide_eq_true q4
        exact .inr ⟨l, q3, by omega, by omega, q2⟩
    · exact .inr ⟨l, (List.mem_filter.1 q1).1, q2, q3, q4⟩
/-- At a question. -/
theorem AH.leaf {n : Int} {ops : List Oper1} {p : Nat} {L : List Lif} {s : SS} {E0 : List E} (h : AH n ops p (p + 1) L s E0) (hg : okE n (gAt n (ops.take p))) (hk : (ops.getD p oD).K = 3) {x y : Int} (hx : Nd n x) (hy : Nd n y) :
    (lb (Proofs.Ytfigegmgopnfhaa.unis s (L.filter (fulB p (p + 1))))).getD x.toNat 0 = (lb (Proofs.Ytfigegmgopnfhaa.unis s (L.filter (fulB p (p + 1))))).getD y.toNat 0 ↔ cn n (gAt n (ops.take p)) x y := by
  obtain ⟨_, _, _, u4⟩ := h.unis
  rw [u4 x y hx hy, cn_iff hg hx hy]
  have hm : ∀ e, e ∈ gAt n (ops.take p) ↔ e ∈ E0 ++ (L.filter (fulB p (p + 1))).map lfE := fun e => by
    rw [h.me p (Int.le_refl _) (by omega) hk e, List.mem_append, List.mem_map]
    constructor
    · rintro (q | ⟨l, q1, q2, q3, q4⟩)
      · exact .inl q
      · exact .inr ⟨l, List.mem_filter.2 ⟨q1, decide_eq_true ⟨q2, by omega⟩⟩, q4⟩
    · rintro (q | ⟨l, q1, q2⟩)
      · exact .inl q
      · obtain ⟨q3, q4⟩ := List.mem_filter.1 q1
        have q4 := of_decide_eq_true q4
        exact .inr ⟨l, q3, q4.1, by omega, q2⟩
  exact ⟨fun h => h.mono fun e he => (hm e).2 he, fun h => h.mono fun e he => (hm e).1 he⟩
/-- The beginning: all lives. -/
theorem AH.start {n : Int} {ops : List Oper1} (h : OV n ops) : AH n ops 0 ops.length (livs ops) (newS n.toNat) [] := by
  have hn1 := h.n1
  have hn2 := h.n2
  have e : ((n.toNat : Nat) : Int) = n := Int.toNat_of_nonneg (by omega)
  refine ⟨newS_SV (by omega) (by omega), by simp [newS]; omega, ?_, fun x y hx hy => ?_, fun l hl => ?_, fun p _ hp2 hk e => ?_⟩
  · have h1 := livs_length ops
    have h2 := h.le
    have : (newS n.toNat).S.length = 0 := rfl
    omega
  · unfold Nd at hx hy
    rw [newS_lb, conn_nil, iota_get (by omega), iota_get (by omega)]; omega
  · unfold livs at hl
    obtain ⟨i, hi, rfl⟩ := List.mem_map.1 hl
    obtain ⟨h1, h2⟩ := mem_puts.1 hi
    have h3 := (toOf_spec h1).1
    refine ⟨by show ((i : Nat) : Int) < ((toOf ops i : Nat) : Int); omega, ?_⟩
    rcases (h.step h1).1 with ⟨_, h5⟩ | ⟨h5, _⟩ | ⟨h5, _⟩
    · have := h5.2.2.okE (oE (ops.getD i oD)) (mem_insE.2 (.inl rfl))
      exact this
    · omega
    · omega
  · have hp : p < ops.length := by omega
    constructor
    · intro he
      obtain ⟨i, q1, q2, q3, q4⟩ := of_alive h (by omega) he
      have q5 := toOf_ne hp (i := i) (by omega) (by omega)
      exact .inr ⟨lifeAt ops i, List.mem_map.2 ⟨i, mem_puts.2 ⟨by omega, q2⟩, rfl⟩, by show ((i : Nat) : Int) ≤ _; omega, by show _ < ((toOf ops i : Nat) : Int); omega, q4⟩
    · rintro (q | ⟨l, q1, q2, q3, q4⟩)
      · cases q
      · obtain ⟨i, hi, rfl⟩ := List.mem_map.1 q1
        obtain ⟨h1, h2⟩ := mem_puts.1 hi
        have q2 : ((i : Nat) : Int) ≤ p := q2
        have q3 : (p : Int) < ((toOf ops i : Nat) : Int) := q3
        have : i ≠ p := fun q => by subst q; omega
        rw [← q4]
        exact alive_mem h (by omega) (by omega) h2 (by omega)
end Go.Proofs.Ytfigegmgopnfhaa
