/- Graphs: the walks of the library's search and insertion, and of PutEdge. Conditions: those of each contract. -/
import Derived.Test.YthlgbeakcobeoaaGra3
import Derived.Test.YthlgbeakcobeoaaR3
namespace Go.Proofs.Ythlgbeakcobeoaa
open Go

/-! ### Edges in order -/
theorem ltE_trans {a b c : E} (h1 : ltE a b) (h2 : ltE b c) : ltE a c := by unfold ltE at *; omega
theorem ltE_irrefl (a : E) : ¬ ltE a a := by unfold ltE; omega
theorem ltE_asymm {a b : E} (h1 : ltE a b) : ¬ ltE b a := by unfold ltE at *; omega
theorem ltE_total {a b : E} (h : a ≠ b) : ltE a b ∨ ltE b a := by
  have : ¬ (a.A = b.A ∧ a.B = b.B) := fun h2 => h (by cases a; cases b; simp at h2; simp [h2])
  unfold ltE; omega
/-- Edges in order. -/
def Srt (es : List E) : Prop := ∀ i j, i < j → j < es.length → ltE (es.getD i eD) (es.getD j eD)
theorem Srt.of {es : List E} (h : ∀ i, i + 1 < es.length → ltE (es.getD i eD) (es.getD (i + 1) eD)) : Srt es := by
  intro i j
  induction j with
  | zero => intro h1; omega
  | succ j ih =>
    intro h1 h2
    rcases Nat.lt_succ_iff_lt_or_eq.1 h1 with h3 | h3
    · exact ltE_trans (ih h3 (by omega)) (h j h2)
    · subst h3; exact h i h2
theorem GV.srt {n : Int} {es : List E} (h : GV n es) : Srt es := Srt.of fun i hi => by
  have := (h.2.2.2 (i + 1) hi).2.2.2 (by omega)
  simpa using this
/-- Edges with one more, in front of the first one that is not less. -/
def insE (es : List E) (e : E) : List E := es.takeWhile (fun f => decide (ltE f e)) ++ e :: es.dropWhile (fun f => decide (ltE f e))
theorem while_split {es : List E} {p : E → Bool} {k : Nat} (h1 : ∀ i, i < k → p (es.getD i eD) = true) (h2 : k < es.length → p (es.getD k eD) = false) (hk : k ≤ es.length) : es.takeWhile p = es.take k ∧ es.dropWhile p = es.drop k := by
  induction es generalizing k with
  | nil => simp
  | cons a es ih =>
    cases k with
    | zero =>
      have : p a = false := h2 (by simp)
      simp [List.takeWhile, List.dropWhile, this]
    | succ k =>
      have ha : p a = true := h1 0 (by omega)
      have := ih (k := k) (fun i hi => h1 (i + 1) (by omega)) (fun h => h2 (by simpa using h)) (by simpa using hk)
      simp [List.takeWhile, List.dropWhile, ha, this.1, this.2]
theorem insE_at {es : List E} {e : E} {k : Nat} (h1 : ∀ i, i < k → ltE (es.getD i eD) e) (h2 : k < es.length → ¬ ltE (es.getD k eD) e) (hk : k ≤ es.length) : insE es e = es.take k ++ e :: es.drop k := by
  obtain ⟨h3, h4⟩ := while_split (p := fun f => decide (ltE f e)) (fun i hi => decide_eq_true (h1 i hi)) (fun h => decide_eq_false (h2 h)) hk
  rw [insE, h3, h4]

/-- What PutEdge asks. -/
def putOk (n : Int) (es : List E) (e : E) : Prop := GV n es ∧ e ∉ es ∧ GV n (insE es e)
instance (n : Int) (es : List E) (e : E) : Decidable (putOk n es e) := by unfold putOk; infer_instance

/-! ### Plain facts on lists of cells -/
theorem ins1 {V : Type} (A Z X : List V) : (A ++ Z).take A.length ++ X ++ (A ++ Z).drop (A.length + X.length) = A ++ X ++ Z.drop X.length := by
  rw [List.take_left, List.drop_length_add_append]
theorem ins2 {V : Type} (A D R X : List V) (h : X.length ≤ (D ++ R).length) :
    ((A ++ (D ++ R)).take (A.length + X.length) ++ D ++ (A ++ (D ++ R)).drop (A.length + X.length + D.length)).take A.length ++ X ++
      ((A ++ (D ++ R)).take (A.length + X.length) ++ D ++ (A ++ (D ++ R)).drop (A.length + X.length + D.length)).drop (A.length + X.length) = A ++ X ++ D ++ (A ++ (D ++ R)).drop (A.length + X.length + D.length) := by
  have h1 : (A ++ (D ++ R)).take (A.length + X.length) = A ++ (D ++ R).take X.length := List.take_length_add_append _
  rw [h1]
  generalize (A ++ (D ++ R)).drop (A.length + X.length + D.length) = S
  have h2 : (A ++ (D ++ R).take X.length).length = A.length + X.length := by
    rw [List.length_append, List.length_take]; omega
  rw [List.append_assoc (A ++ (D ++ R).take X.length), ← h2, List.drop_left, List.append_assoc A, List.take_left]
  simp
set_option linter.unusedVariables false set_option linter.unusedSimpArgs false attribute [local irreducible] Tok.own Tok.blk RL Rd eptr WP WPL PE WPD WPO Op1 OpE Tri Again Mid Exit.then Exit.inBlock bodyPost RP Code.wp wpList isOwn OneM One
set_option maxHeartbeats 8000000

def fnV (f : FuncId) : Value := .func (.func f) #[] #[]

end Go.Proofs.Ythlgbeakcobeoaa
