/- Texts put together: Sm0, St0, St1, St2, St3, St4, St5. Conditions: those of each theorem. -/
import Derived.Test.YthlgbeakcobeoaaV1
import Derived.Test.YthlgbeakcobeoaaV2
set_option linter.unusedVariables false
set_option linter.unusedSimpArgs false
/- Sets that unions make: plain facts. Conditions: none. -/
namespace Go.Proofs.Ythlgbeakcobeoaa
open Go

structure SS where
  P : List Int
  Z : List Int
  S : List E
  deriving DecidableEq

def newS (n : Nat) : SS := ⟨List.replicate n (-1), List.replicate n 1, []⟩
/-- x is a root. -/
def rtB (s : SS) (x : Int) : Prop := 0 ≤ x ∧ x < s.P.length ∧ s.P.getD x.toNat 0 = -1
instance (s : SS) (x : Int) : Decidable (rtB s x) := by unfold rtB; infer_instance
/-- The root x goes above the root y. -/
def abv (s : SS) (x y : Int) : Prop := s.Z.getD y.toNat 0 < s.Z.getD x.toNat 0 ∨ (s.Z.getD x.toNat 0 = s.Z.getD y.toNat 0 ∧ x < y)
instance (s : SS) (x y : Int) : Decidable (abv s x y) := by unfold abv; infer_instance
def stOk (s : SS) (t : E) : Prop := s.S.length ≠ 100 ∧ rtB s t.B ∧ (t.A ≠ -1 → t.A ≠ t.B ∧ rtB s t.A ∧ abv s t.B t.A)
instance (s : SS) (t : E) : Decidable (stOk s t) := by unfold stOk; infer_instance
def stDo (s : SS) (t : E) : SS := if t.A = -1 then ⟨s.P, s.Z, s.S ++ [t]⟩ else ⟨s.P.set t.A.toNat t.B, s.Z.set t.B.toNat (s.Z.getD t.B.toNat 0 + s.Z.getD t.A.toNat 0), s.S ++ [t]⟩
def repo (o : Option SS) (t : E) : Option SS := match o with
  | some s => if stOk s t then some (stDo s t) else none
  | none => none
/-- The sets that steps make. -/
def repl (n : Nat) (S : List E) : Option SS := S.foldl repo (some (newS n))
def SV (s : SS) : Prop := 1 ≤ s.P.length ∧ s.P.length ≤ 16 ∧ repl s.P.length s.S = some s
instance (s : SS) : Decidable (SV s) := by unfold SV; infer_instance

def lbStep (L : List Int) (t : E) : List Int := if t.A = -1 then L else L.map fun r => if r = t.A then t.B else r
/-- Each element's root. -/
def lbs (n : Nat) (S : List E) : List Int := S.foldl lbStep (iota n)
def mbs (n : Nat) (L : List Int) (r : Int) : List Int := (iota n).filter fun y => decide (L.getD y.toNat 0 = r)

theorem stDo_S (s : SS) (t : E) : (stDo s t).S = s.S ++ [t] := by unfold stDo; split <;> rfl
theorem stDo_P (s : SS) (t : E) : (stDo s t).P.length = s.P.length := by unfold stDo; split <;> simp
theorem stDo_Z (s : SS) (t : E) : (stDo s t).Z.length = s.Z.length := by unfold stDo; split <;> simp
theorem repl_snoc (n : Nat) (S : List E) (t : E) : repl n (S ++ [t]) = repo (repl n S) t := by unfold repl; rw [List.foldl_append]; rfl
theorem lbs_snoc (n : Nat) (S : List E) (t : E) : lbs n (S ++ [t]) = lbStep (lbs n S) t := by unfold lbs; rw [List.foldl_append]; rfl
theorem repo_none (t : E) : repo none t = none := rfl
theorem repo_some {s : SS} {t : E} (h : stOk s t) : repo (some s) t = some (stDo s t) := if_pos h
theorem repo_bad {s : SS} {t : E} (h : ¬ stOk s t) : repo (some s) t = none := if_neg h
theorem foldl_repo_none (S : List E) : S.foldl repo none = none := by
  induction S with
  | nil => rfl
  | cons t S ih => rw [List.foldl_cons, repo_none, ih]
theorem lbStep_len (L : List Int) (t : E) : (lbStep L t).length = L.length := by unfold lbStep; split <;> simp
theorem lbStep_get {L : List Int} {t : E} {i : Nat} (h : i < L.length) (ht : t.A ≠ -1) : (lbStep L t).getD i 0 = if L.getD i 0 = t.A then t.B else L.getD i 0 := by
  unfold lbStep
  rw [if_neg ht, List.getD_eq_getElem?_getD, List.getElem?_map, List.getD_eq_getElem?_getD, List.getElem?_eq_getElem h]
  rfl

theorem filter_or {α : Type} (l : List α) (p q : α → Bool) (h : ∀ x ∈ l, ¬ (p x = true ∧ q x = true)) : (l.filter fun x => p x || q x).length = (l.filter p).length + (l.filter q).length := by
  induction l with
  | nil => rfl
  | cons a l ih =>
    have := ih (fun x hx => h x (by simp [hx]))
    have h0 := h a (by simp)
    simp only [List.filter_cons]
    cases hp : p a <;> cases hq : q a <;> simp [hp, hq] at h0 ⊢ <;> omega

theorem mem_mbs {n : Nat} {L : List Int} {r y : Int} : y ∈ mbs n L r ↔ Nd n y ∧ L.getD y.toNat 0 = r := by
  unfold mbs Nd; rw [List.mem_filter, mem_iota]; simp
theorem mbs_le (n : Nat) (L : List Int) (r : Int) : (mbs n L r).length ≤ n := by
  have := List.length_filter_le (fun y : Int => decide (L.getD y.toNat 0 = r)) (iota n)
  rw [iota_length] at this; exact this
theorem mbs_congr {n : Nat} {L L' : List Int} {r r' : Int} (h : ∀ y, Nd n y → (L.getD y.toNat 0 = r ↔ L'.getD y.toNat 0 = r')) : mbs n L r = mbs n L' r' := by
  unfold mbs
  refine List.filter_congr fun y hy => ?_
  rw [decide_eq_decide]
  exact h y (mem_iota.1 hy)

structure Inv (n : Nat) (s : SS) (L : List Int) : Prop where
  lp : s.P.length = n
  lz : s.Z.length = n
  ll : L.length = n
  cs : s.S.length ≤ 100
  nd : ∀ x : Nat, x < n → Nd n (L.getD x 0)
  id : ∀ x : Nat, x < n → L.getD (L.getD x 0).toNat 0 = L.getD x 0
  rt : ∀ x : Nat, x < n → s.P.getD x 0 = -1 → L.getD x 0 = x ∧ s.Z.getD x 0 = (mbs n L x).length
  up : ∀ x : Nat, x < n → s.P.getD x 0 ≠ -1 → Nd n (s.P.getD x 0) ∧ L.getD x 0 = L.getD (s.P.getD x 0).toNat 0 ∧ s.Z.getD x 0 < s.Z.getD (s.P.getD x 0).toNat 0 ∧ L.getD x 0 ≠ x
  zb : ∀ x : Nat, x < n → 1 ≤ s.Z.getD x 0 ∧ s.Z.getD x 0 ≤ n

theorem getD_rep {n x : Nat} (v : Int) (h : x < n) : (List.replicate n v).getD x 0 = v := by
  rw [List.getD_eq_getElem?_getD, List.getElem?_replicate, if_pos h]; rfl
theorem mbs_iota {n : Nat} {x : Nat} (h : x < n) : (mbs n (iota n) x).length = 1 := by
  have e : mbs n (iota n) x = (iota n).filter fun y => decide (y = (x : Int)) := by
    refine List.filter_congr fun y hy => ?_
    rw [decide_eq_decide]
    have := mem_iota.1 hy
    rw [iota_get (by omega)]; omega
  have h1 := filter_one (l := iota n) (iota_nodup n) (p := fun y => decide (y = (x : Int))) (m := x) (mem_iota.2 ⟨by omega, by omega⟩) (by simp)
  have h2 : ((iota n).filter fun y => decide (y = (x : Int)) && !decide (y = (x : Int))) = [] := by
    rw [List.filter_eq_nil_iff]; intro y _; cases decide (y = (x : Int)) <;> simp
  rw [h2] at h1
  rw [e]; simpa using h1.symm

theorem Inv.new {n : Nat} : Inv n (newS n) (iota n) := by
  refine ⟨by simp [newS], by simp [newS], iota_length n, by simp [newS], fun x hx => ?_, fun x hx => ?_, fun x hx _ => ?_, fun x hx h => ?_, fun x hx => ?_⟩
  · rw [iota_get hx]; unfold Nd; omega
  · rw [iota_get hx, Int.toNat_natCast, iota_get hx]
  · rw [iota_get hx]
    exact ⟨rfl, by show (List.replicate n 1).getD x 0 = _; rw [getD_rep 1 hx, mbs_iota hx]; rfl⟩
  · exact absurd (show (List.replicate n (-1)).getD x 0 = -1 from getD_rep _ hx) h
  · show 1 ≤ (List.replicate n 1).getD x 0 ∧ (List.replicate n 1).getD x 0 ≤ _
    rw [getD_rep 1 hx]; omega

theorem Inv.step {n : Nat} {s : SS} {L : List Int} {t : E} (h : Inv n s L) (ho : stOk s t) : Inv n (stDo s t) (lbStep L t) := by
  obtain ⟨h1, ⟨b1, b2, b3⟩, h3⟩ := ho
  by_cases hA : t.A = -1
  · have e1 : lbStep L t = L := by unfold lbStep; rw [if_pos hA]
    have e2 : stDo s t = ⟨s.P, s.Z, s.S ++ [t]⟩ := by unfold stDo; rw [if_pos hA]
    rw [e1, e2]
    have hcs := h.cs
    exact ⟨h.lp, h.lz, h.ll, by show (s.S ++ [t]).length ≤ 100; rw [List.length_append, List.length_singleton]; omega, h.nd, h.id, h.rt, h.up, h.zb⟩
  obtain ⟨hne, ⟨a1, a2, a3⟩, _⟩ := h3 hA
  have lp := h.lp
  have lz := h.lz
  have ll := h.ll
  rw [lp] at a2 b2
  obtain ⟨A, B⟩ := t
  dsimp only at *
  obtain ⟨a, rfl⟩ := Int.eq_ofNat_of_zero_le a1
  obtain ⟨b, rfl⟩ := Int.eq_ofNat_of_zero_le b1
  simp only [Int.toNat_natCast] at a3 b3
  have han : a < n := by omega
  have hbn : b < n := by omega
  have hab : a ≠ b := fun e => hne (by rw [e])
  obtain ⟨ra1, ra2⟩ := h.rt a han a3
  obtain ⟨rb1, rb2⟩ := h.rt b hbn b3
  have za := h.zb a han
  have zb := h.zb b hbn
  have e2 : stDo s ⟨a, b⟩ = ⟨s.P.set a b, s.Z.set b (s.Z.getD b 0 + s.Z.getD a 0), s.S ++ [⟨a, b⟩]⟩ := by
    unfold stDo; rw [if_neg hA]; simp only [Int.toNat_natCast]
  have hL : ∀ x : Nat, x < n → (lbStep L ⟨a, b⟩).getD x 0 = if L.getD x 0 = (a : Int) then (b : Int) else L.getD x 0 := fun x hx => lbStep_get (t := ⟨a, b⟩) (by omega) hA
  have hP : ∀ x : Nat, (s.P.set a b).getD x 0 = if a = x then (b : Int) else s.P.getD x 0 := fun x => by
    rw [getD_setI]
    by_cases hx : a = x
    · rw [if_pos ⟨hx, by omega⟩, if_pos hx]
    · rw [if_neg (fun hh => hx hh.1), if_neg hx]
  have hZ : ∀ x : Nat, (s.Z.set b (s.Z.getD b 0 + s.Z.getD a 0)).getD x 0 = if b = x then s.Z.getD b 0 + s.Z.getD a 0 else s.Z.getD x 0 := fun x => by
    rw [getD_setI]
    by_cases hx : b = x
    · rw [if_pos ⟨hx, by omega⟩, if_pos hx]
    · rw [if_neg (fun hh => hx hh.1), if_neg hx]
  have hLn : ∀ y : Int, Nd n y → (lbStep L ⟨a, b⟩).getD y.toNat 0 = if L.getD y.toNat 0 = (a : Int) then (b : Int) else L.getD y.toNat 0 := fun y hy => hL y.toNat (by unfold Nd at hy; omega)
  have cntB : (mbs n (lbStep L ⟨a, b⟩) b).length = (mbs n L b).length + (mbs n L a).length := by
    unfold mbs
    rw [← filter_or]
    · congr 1
      refine List.filter_congr fun y hy => ?_
      rw [hLn y (mem_iota.1 hy)]
      by_cases hy : L.getD y.toNat 0 = (a : Int)
      · rw [if_pos hy, decide_eq_true rfl, decide_eq_true hy, Bool.or_true]
      · rw [if_neg hy, decide_eq_false hy, Bool.or_false]
    · intro y _ hh
      simp only [decide_eq_true_eq] at hh
      omega
  have cntO : ∀ x : Nat, x ≠ a → x ≠ b → mbs n (lbStep L ⟨a, b⟩) x = mbs n L x := fun x hxa hxb => mbs_congr fun y hy => by
    rw [hLn y hy]
    split
    · omega
    · exact Iff.rfl
  have hcB := mbs_le n (lbStep L ⟨a, b⟩) b
  have hcs := h.cs
  rw [e2]
  refine ⟨?_, ?_, ?_, ?_, ?_, ?_, ?_, ?_, ?_⟩
  · simp [lp]
  · simp [lz]
  · rw [lbStep_len, ll]
  · show (s.S ++ _).length ≤ 100
    rw [List.length_append, List.length_singleton]; omega
  · intro x hx
    rw [hL x hx]
    split
    · unfold Nd; omega
    · exact h.nd x hx
  · intro x hx
    have hnd := h.nd x hx
    rw [hL x hx]
    split
    · rw [Int.toNat_natCast, hL b hbn, rb1, if_neg (by omega)]
    · rw [hLn _ hnd, h.id x hx, if_neg ‹_›]
  · intro x hx hx1
    dsimp only at hx1 ⊢
    rw [hP] at hx1
    by_cases hxa : a = x
    · rw [if_pos hxa] at hx1; omega
    · rw [if_neg hxa] at hx1
      obtain ⟨q1, q2⟩ := h.rt x hx hx1
      rw [hL x hx, q1, if_neg (by omega), hZ]
      refine ⟨rfl, ?_⟩
      by_cases hxb : b = x
      · subst hxb
        rw [if_pos rfl, cntB]; omega
      · rw [if_neg hxb, cntO x (fun e => hxa e.symm) (fun e => hxb e.symm), q2]
  · intro x hx hx1
    dsimp only at hx1 ⊢
    rw [hP] at hx1
    rw [hP]
    by_cases hxa : a = x
    · subst hxa
      rw [if_pos rfl, Int.toNat_natCast, hL a hx, ra1, if_pos rfl, hL b hbn, rb1, if_neg (by omega), hZ, if_neg (by omega), hZ, if_pos rfl]
      exact ⟨by unfold Nd; omega, rfl, by omega, by omega⟩
    · rw [if_neg hxa] at hx1 ⊢
      obtain ⟨q1, q2, q3, q4⟩ := h.up x hx hx1
      refine ⟨q1, ?_, ?_, ?_⟩
      · rw [hL x hx, hLn _ q1, q2]
      · rw [hZ, hZ, if_neg (fun e => hx1 (by rw [← e]; exact b3))]
        by_cases hxb : b = (s.P.getD x 0).toNat
        · rw [if_pos hxb]; rw [← hxb] at q3; omega
        · rw [if_neg hxb]; exact q3
      · rw [hL x hx]
        split
        · intro e
          have : b = x := by omega
          subst this
          exact hx1 b3
        · exact q4
  · intro x hx
    dsimp only
    rw [hZ]
    split
    · rw [rb2, ra2] at *; omega
    · exact h.zb x hx

theorem list_snoc {α : Type} (p : List α → Prop) (h0 : p []) (h1 : ∀ l x, p l → p (l ++ [x])) : ∀ l, p l := by
  intro l
  have : ∀ k, k ≤ l.length → p (l.take k) := by
    intro k
    induction k with
    | zero => intro _; simpa using h0
    | succ k ih =>
      intro hk
      rw [List.take_succ_eq_append_getElem (by omega)]
      exact h1 _ _ (ih (by omega))
  have := this l.length (Nat.le_refl _)
  rwa [List.take_length] at this

theorem repl_inv (n : Nat) : ∀ (S : List E) (s : SS), repl n S = some s → Inv n s (lbs n S) ∧ s.S = S := by
  intro S
  refine list_snoc (fun S => ∀ s, repl n S = some s → Inv n s (lbs n S) ∧ s.S = S) ?_ ?_ S
  · intro s h
    have : newS n = s := by simpa [repl] using h
    subst this
    exact ⟨Inv.new, rfl⟩
  · intro S t ih s h
    rw [repl_snoc] at h
    cases hs : repl n S with
    | none => rw [hs, repo_none] at h; cases h
    | some s0 =>
      rw [hs] at h
      obtain ⟨h1, h2⟩ := ih s0 hs
      by_cases ho : stOk s0 t
      · rw [repo_some ho] at h
        simp only [Option.some.injEq] at h
        subst h
        rw [lbs_snoc, stDo_S, h2]
        exact ⟨h1.step ho, rfl⟩
      · rw [repo_bad ho] at h; cases h

/-- The labels of sets. -/
def lb (s : SS) : List Int := lbs s.P.length s.S
theorem SV.inv {s : SS} (h : SV s) : Inv s.P.length s (lb s) := (repl_inv _ _ _ h.2.2).1
theorem SV.take {s : SS} (h : SV s) (k : Nat) : ∃ x, repl s.P.length (s.S.take k) = some x := by
  cases hx : repl s.P.length (s.S.take k) with
  | some x => exact ⟨x, rfl⟩
  | none =>
    have := h.2.2
    unfold repl at this hx
    rw [← List.take_append_drop k s.S, List.foldl_append, hx, foldl_repo_none] at this
    cases this
theorem repl_SV {n : Nat} {S : List E} {s : SS} (h : repl n S = some s) (h1 : 1 ≤ n) (h2 : n ≤ 16) : SV s ∧ s.P.length = n ∧ s.S = S := by
  obtain ⟨hi, hS⟩ := repl_inv n S s h
  have hp := hi.lp
  refine ⟨⟨by omega, by omega, ?_⟩, hp, hS⟩
  rw [hp, hS, h]

theorem Inv.root {n : Nat} {s : SS} {L : List Int} (h : Inv n s L) {x : Int} (hx : Nd n x) : rtB s (L.getD x.toNat 0) := by
  obtain ⟨h1, h2⟩ := hx
  have hn := h.nd x.toNat (by omega)
  have hid := h.id x.toNat (by omega)
  refine ⟨hn.1, by rw [h.lp]; exact hn.2, ?_⟩
  by_cases hp : s.P.getD (L.getD x.toNat 0).toNat 0 = -1
  · exact hp
  · have := (h.up _ (by have := hn.1; have := hn.2; omega) hp).2.2.2
    rw [hid] at this
    have := hn.1
    omega
theorem Inv.of_root {n : Nat} {s : SS} {L : List Int} (h : Inv n s L) {x : Int} (hx : rtB s x) : L.getD x.toNat 0 = x ∧ s.Z.getD x.toNat 0 = (mbs n L x).length ∧ Nd n x := by
  obtain ⟨h1, h2, h3⟩ := hx
  rw [h.lp] at h2
  have := h.rt x.toNat (by omega) h3
  rw [Int.toNat_of_nonneg h1] at this
  exact ⟨this.1, this.2, h1, h2⟩

/-! ### Unions -/
def unS (s : SS) (x y : Int) : E :=
  if (lb s).getD x.toNat 0 = (lb s).getD y.toNat 0 then ⟨-1, (lb s).getD x.toNat 0⟩
  else if abv s ((lb s).getD x.toNat 0) ((lb s).getD y.toNat 0) then ⟨(lb s).getD y.toNat 0, (lb s).getD x.toNat 0⟩ else ⟨(lb s).getD x.toNat 0, (lb s).getD y.toNat 0⟩
def uni (s : SS) (x y : Int) : SS := stDo s (unS s x y)
theorem abv_total {s : SS} {x y : Int} (h : x ≠ y) (hn : ¬ abv s x y) : abv s y x := by unfold abv at *; omega
theorem abv_asymm {s : SS} {x y : Int} (h : abv s x y) : ¬ abv s y x := by unfold abv at *; omega
theorem unS_symm (s : SS) (x y : Int) : unS s x y = unS s y x := by
  unfold unS
  by_cases h : (lb s).getD x.toNat 0 = (lb s).getD y.toNat 0
  · rw [if_pos h, if_pos h.symm, h]
  · rw [if_neg h, if_neg (Ne.symm h)]
    by_cases h2 : abv s ((lb s).getD x.toNat 0) ((lb s).getD y.toNat 0)
    · rw [if_pos h2, if_neg (abv_asymm h2)]
    · rw [if_neg h2, if_pos (abv_total h h2)]
theorem uni_symm (s : SS) (x y : Int) : uni s x y = uni s y x := by unfold uni; rw [unS_symm]
theorem unS_ok {s : SS} (hi : Inv s.P.length s (lb s)) {x y : Int} (hx : Nd s.P.length x) (hy : Nd s.P.length y) (hl : s.S.length ≠ 100) : stOk s (unS s x y) := by
  have r1 := hi.root hx
  have r2 := hi.root hy
  unfold unS
  split
  · exact ⟨hl, r1, fun h => absurd rfl h⟩
  · split
    · exact ⟨hl, r1, fun _ => ⟨by dsimp only; omega, r2, ‹_›⟩⟩
    · exact ⟨hl, r2, fun _ => ⟨by dsimp only; omega, r1, abv_total ‹_› ‹_›⟩⟩
theorem unS_le {s : SS} (hl : s.S.length = 100) (t : E) : ¬ stOk s t := fun h => h.1 hl
theorem uni_inv {s : SS} (h : SV s) {x y : Int} (hx : Nd s.P.length x) (hy : Nd s.P.length y) (hl : s.S.length ≠ 100) : SV (uni s x y) ∧ (uni s x y).P.length = s.P.length ∧ (uni s x y).S = s.S ++ [unS s x y] ∧ lb (uni s x y) = lbStep (lb s) (unS s x y) := by
  have ho := unS_ok h.inv hx hy hl
  have hr : repl s.P.length (s.S ++ [unS s x y]) = some (uni s x y) := by rw [repl_snoc, h.2.2, repo_some ho]; rfl
  obtain ⟨h1, h2, h3⟩ := repl_SV hr h.1 h.2.1
  refine ⟨h1, h2, h3, ?_⟩
  unfold lb
  rw [h2, h3, lbs_snoc]
theorem uni_label {s : SS} (h : SV s) {x y : Int} (hx : Nd s.P.length x) (hy : Nd s.P.length y) (hl : s.S.length ≠ 100) {z w : Int} (hz : Nd s.P.length z) (hw : Nd s.P.length w) :
    (lb (uni s x y)).getD z.toNat 0 = (lb (uni s x y)).getD w.toNat 0 ↔ (lb s).getD z.toNat 0 = (lb s).getD w.toNat 0 ∨ ((lb s).getD z.toNat 0 = (lb s).getD x.toNat 0 ∧ (lb s).getD y.toNat 0 = (lb s).getD w.toNat 0) ∨ ((lb s).getD z.toNat 0 = (lb s).getD y.toNat 0 ∧ (lb s).getD x.toNat 0 = (lb s).getD w.toNat 0) := by
  have hi := h.inv
  obtain ⟨_, _, _, e⟩ := uni_inv h hx hy hl
  rw [e]
  have hnx := (hi.root hx).1
  have hny := (hi.root hy).1
  have hll := hi.ll
  obtain ⟨hz1, hz2⟩ := hz
  obtain ⟨hw1, hw2⟩ := hw
  have gz : ∀ t : E, t.A ≠ -1 → (lbStep (lb s) t).getD z.toNat 0 = if (lb s).getD z.toNat 0 = t.A then t.B else (lb s).getD z.toNat 0 := fun t ht => lbStep_get (by omega) ht
  have gw : ∀ t : E, t.A ≠ -1 → (lbStep (lb s) t).getD w.toNat 0 = if (lb s).getD w.toNat 0 = t.A then t.B else (lb s).getD w.toNat 0 := fun t ht => lbStep_get (by omega) ht
  unfold unS
  split
  · rename_i h1
    have : ∀ r : Int, lbStep (lb s) ⟨-1, r⟩ = lb s := fun r => by unfold lbStep; rw [if_pos rfl]
    rw [this]; omega
  · split
    · rw [gz _ (by dsimp only; omega), gw _ (by dsimp only; omega)]
      dsimp only
      split <;> split <;> omega
    · rw [gz _ (by dsimp only; omega), gw _ (by dsimp only; omega)]
      dsimp only
      split <;> split <;> omega
/-- Sets taken back to what they were. -/
theorem uni_undo {s : SS} (h : SV s) {x y : Int} (hx : Nd s.P.length x) (hy : Nd s.P.length y) (hl : s.S.length ≠ 100) : repl (uni s x y).P.length ((uni s x y).S.take ((uni s x y).S.length - 1)) = some s := by
  obtain ⟨_, h2, h3, _⟩ := uni_inv h hx hy hl
  rw [h2, h3, List.length_append, List.length_singleton, Nat.add_sub_cancel, List.take_left]
  exact h.2.2

/-- The second program's test of a step. -/
theorem step_iff {s : SS} (hi : Inv s.P.length s (lb s)) (hl : s.S.length ≠ 100) {t : E} {a : Int} (ha : a = if t.A < 0 then t.B else t.A) :
    stOk s t ↔ Nd s.P.length a ∧ Nd s.P.length t.B ∧ (lb s).getD t.B.toNat 0 = t.B ∧ unS s a t.B = t := by
  obtain ⟨A, B⟩ := t
  dsimp only at *
  constructor
  · rintro ⟨_, h2, h3⟩
    dsimp only at h2 h3
    obtain ⟨b1, b2, b3⟩ := hi.of_root h2
    by_cases hA : A = -1
    · rw [if_pos (by omega)] at ha
      subst ha
      refine ⟨b3, b3, b1, ?_⟩
      unfold unS
      rw [if_pos rfl, b1, hA]
    · obtain ⟨q1, q2, q3⟩ := h3 hA
      obtain ⟨a1, a2, a3⟩ := hi.of_root q2
      rw [if_neg (by have := a3.1; omega)] at ha
      subst ha
      refine ⟨a3, b3, b1, ?_⟩
      unfold unS
      rw [a1, b1, if_neg q1, if_neg (abv_asymm q3)]
  · rintro ⟨h1, h2, h3, h4⟩
    rw [← h4]
    exact unS_ok hi h1 h2 hl

/-! ### Sets of a graph -/
def ofS (n : Nat) (es : List E) : SS := es.foldl (fun s e => uni s e.A e.B) (newS n)
theorem newS_SV {n : Nat} (h1 : 1 ≤ n) (h2 : n ≤ 16) : SV (newS n) := by
  have : (newS n).P.length = n := by simp [newS]
  refine ⟨by omega, by omega, ?_⟩
  rw [this]; rfl
theorem newS_lb {n : Nat} : lb (newS n) = iota n := by
  unfold lb
  have : (newS n).P.length = n := by simp [newS]
  rw [this]; rfl
theorem ofS_spec {n : Nat} (h1 : 1 ≤ n) (h2 : n ≤ 16) : ∀ es : List E, okE n es → es.length ≤ 100 → SV (ofS n es) ∧ (ofS n es).P.length = n ∧ (ofS n es).S.length = es.length ∧ (∀ x y, Nd n x → Nd n y → ((lb (ofS n es)).getD x.toNat 0 = (lb (ofS n es)).getD y.toNat 0 ↔ Conn es x y)) := by
  intro es
  refine list_snoc (fun es => okE n es → es.length ≤ 100 → SV (ofS n es) ∧ (ofS n es).P.length = n ∧ (ofS n es).S.length = es.length ∧ (∀ x y, Nd n x → Nd n y → ((lb (ofS n es)).getD x.toNat 0 = (lb (ofS n es)).getD y.toNat 0 ↔ Conn es x y))) ?_ ?_ es
  · intro _ _
    refine ⟨newS_SV h1 h2, by simp [ofS, newS], rfl, fun x y hx hy => ?_⟩
    show (lb (newS n)).getD _ 0 = (lb (newS n)).getD _ 0 ↔ _
    rw [newS_lb, conn_nil]
    unfold Nd at hx hy
    rw [iota_get (by omega), iota_get (by omega)]; omega
  · intro es e ih hE hl
    rw [List.length_append, List.length_singleton] at hl
    obtain ⟨i1, i2, i3, i4⟩ := ih (hE.sub fun f hf => by simp [hf]) (by omega)
    have he := hE e (by simp)
    have e1 : ofS n (es ++ [e]) = uni (ofS n es) e.A e.B := by unfold ofS; rw [List.foldl_append]; rfl
    have hnA : Nd (ofS n es).P.length e.A := by rw [i2]; exact he.1
    have hnB : Nd (ofS n es).P.length e.B := by rw [i2]; exact he.2
    obtain ⟨u1, u2, u3, _⟩ := uni_inv i1 hnA hnB (by omega)
    rw [e1]
    refine ⟨u1, by rw [u2, i2], by rw [u3, List.length_append, List.length_append, i3]; rfl, fun x y hx hy => ?_⟩
    rw [uni_label i1 hnA hnB (by omega) (by rw [i2]; exact hx) (by rw [i2]; exact hy), i4 x y hx hy, i4 x e.A hx he.1, i4 x e.B hx he.2, i4 e.B y he.2 hy, i4 e.A y he.1 hy, conn_app, conn_cons]
/-- What step number i of a graph's sets tells: whether the edge joins two parts. -/
theorem ofS_step {n : Nat} (h1 : 1 ≤ n) (h2 : n ≤ 16) {es : List E} (hE : okE n es) (hl : es.length ≤ 100) {i : Nat} (hi : i < es.length) :
    (ofS n es).S.take (i + 1) = (ofS n (es.take (i + 1))).S ∧ (0 ≤ ((ofS n es).S.getD i eD).A ↔ ¬ Conn (es.take i) (es.getD i eD).A (es.getD i eD).B) := by
  have key : ∀ es : List E, okE n es → es.length ≤ 100 → ∀ i, i ≤ es.length → (ofS n es).S.take i = (ofS n (es.take i)).S := by
    intro es
    refine list_snoc (fun es => okE n es → es.length ≤ 100 → ∀ i, i ≤ es.length → (ofS n es).S.take i = (ofS n (es.take i)).S) ?_ ?_ es
    · intro _ _ i hi
      have : i = 0 := by simpa using hi
      subst this; rfl
    · intro es e ih hE hl i hi
      rw [List.length_append, List.length_singleton] at hl hi
      have hE' : okE n es := hE.sub fun f hf => by simp [hf]
      have he := hE e (by simp)
      obtain ⟨i1, i2, i3, i4⟩ := ofS_spec h1 h2 es hE' (by omega)
      have e1 : ofS n (es ++ [e]) = uni (ofS n es) e.A e.B := by unfold ofS; rw [List.foldl_append]; rfl
      obtain ⟨u1, u2, u3, _⟩ := uni_inv i1 (x := e.A) (y := e.B) (by rw [i2]; exact he.1) (by rw [i2]; exact he.2) (by omega)
      rcases Nat.lt_or_ge es.length i with h | h
      · have : i = es.length + 1 := by omega
        subst this
        rw [List.take_of_length_le (by rw [e1, u3, List.length_append, i3]; simp), List.take_of_length_le (by simp)]
      · rw [List.take_append_of_le_length h, e1, u3, List.take_append_of_le_length (by omega)]
        exact ih hE' (by omega) i h
  have hk := key es hE hl (i + 1) hi
  refine ⟨hk, ?_⟩
  have hE' : okE n (es.take i) := hE.sub fun f hf => List.mem_of_mem_take hf
  have hl' : (es.take i).length ≤ 100 := by rw [List.length_take]; omega
  have hli : (es.take i).length = i := by rw [List.length_take]; omega
  obtain ⟨i1, i2, i3, i4⟩ := ofS_spec h1 h2 _ hE' hl'
  have he := hE _ (getD_memI (d := eD) hi)
  have e1 : ofS n (es.take (i + 1)) = uni (ofS n (es.take i)) (es.getD i eD).A (es.getD i eD).B := by
    rw [take_succD eD hi]; unfold ofS; rw [List.foldl_append]; rfl
  have hnA : Nd (ofS n (es.take i)).P.length (es.getD i eD).A := by rw [i2]; exact he.1
  have hnB : Nd (ofS n (es.take i)).P.length (es.getD i eD).B := by rw [i2]; exact he.2
  obtain ⟨u1, u2, u3, _⟩ := uni_inv i1 hnA hnB (by omega)
  have e2 : (ofS n es).S.getD i eD = unS (ofS n (es.take i)) (es.getD i eD).A (es.getD i eD).B := by
    have e3 : ((ofS n es).S.take (i + 1)).getD i eD = (ofS n es).S.getD i eD := by
      rw [List.getD_eq_getElem?_getD, List.getD_eq_getElem?_getD, List.getElem?_take, if_pos (by omega)]
    rw [← e3, hk, e1, u3, List.getD_eq_getElem?_getD, List.getElem?_append_right (by omega), i3, hli, Nat.sub_self]; rfl
  rw [e2, ← i4 _ _ he.1 he.2]
  have r1 := i1.inv.root hnA
  have r2 := i1.inv.root hnB
  unfold unS
  split
  · rename_i h; exact ⟨fun h' => absurd (show (0 : Int) ≤ -1 from h') (by decide), fun h' => absurd h h'⟩
  · split
    · exact ⟨fun _ => by assumption, fun _ => r2.1⟩
    · exact ⟨fun _ => by assumption, fun _ => r1.1⟩
end Go.Proofs.Ythlgbeakcobeoaa
/- Sets: the walks of the library's Mul, Repeat, Equal, and of isRoot, isAbove, NewSets. Conditions: those of each contract. -/
namespace Go.Proofs.Ythlgbeakcobeoaa
open Go
theorem encsI (xs : List Int) : encs xs = xs.map fun x => Value.int .i64 x := by
  induction xs with
  | nil => rfl
  | cons x xs ih => rw [encs_cons, ih]; rfl
theorem encs_lenI (xs : List Int) : (encs xs).length = xs.length := by rw [encsI, List.length_map]
theorem cpI (L B : List Int) (post : List Value) (o : Nat) (h : o + B.length ≤ L.length) : (encs L ++ post).take o ++ encs B ++ (encs L ++ post).drop (o + (encs B).length) = encs (L.take o ++ B ++ L.drop (o + B.length)) ++ post := by
  have hl := encs_lenI L
  rw [encs_lenI, List.take_append_of_le_length (by omega), List.drop_append_of_le_length (by omega), encs_append, encs_append, ← List.append_assoc]
  have e1 : (encs L).take o = encs (L.take o) := by rw [encsI, encsI, List.map_take]
  have e2 : (encs L).drop (o + B.length) = encs (L.drop (o + B.length)) := by rw [encsI, encsI, List.map_drop]
  rw [e1, e2]
def rpz (x : Int) (n k : Nat) : List Int := List.replicate k x ++ List.replicate (n - k) 0
theorem rpz_len (x : Int) {n k : Nat} (h : k ≤ n) : (rpz x n k).length = n := by unfold rpz; rw [List.length_append, List.length_replicate, List.length_replicate]; omega
theorem rpz_zero (x : Int) (n : Nat) : rpz x n 0 = List.replicate n 0 := by simp [rpz]
theorem rpz_all (x : Int) (n : Nat) : rpz x n n = List.replicate n x := by simp [rpz]
theorem rpz_step (x : Int) {n k m : Nat} (h : k + m ≤ n) : (rpz x n k).take k ++ List.replicate m x ++ (rpz x n k).drop (k + (List.replicate m x).length) = rpz x n (k + m) := by
  unfold rpz
  rw [List.length_replicate, List.take_left' List.length_replicate]
  have e : n - k = m + (n - (k + m)) := by omega
  have e2 : (List.replicate k x ++ List.replicate (n - k) (0 : Int)).drop (k + m) = List.replicate (n - (k + m)) 0 := by
    rw [e, ← List.replicate_append_replicate, ← List.append_assoc]
    exact List.drop_left' (by rw [List.length_append, List.length_replicate, List.length_replicate])
  rw [e2, List.replicate_append_replicate]
theorem rpz_src {x : Int} {n k d j : Nat} {post : List Value} {u : Value} (h : d ≤ k) (hj : (encs (List.replicate d x))[j]? = some u) : (encs (rpz x n k) ++ post)[0 + j]? = some u := by
  have e : rpz x n k = List.replicate d x ++ (List.replicate (k - d) x ++ List.replicate (n - k) 0) := by
    unfold rpz; rw [← List.append_assoc, List.replicate_append_replicate]; congr 2; omega
  rw [e, encs_append, List.append_assoc, Nat.zero_add, List.getElem?_append_left (List.getElem?_eq_some_iff.1 hj).1]; exact hj
set_option linter.unusedVariables false set_option linter.unusedSimpArgs false attribute [local irreducible] Tok.own Tok.blk RL Rd eptr WP WPL PE WPD WPO Op1 OpE Tri Again Mid Exit.then Exit.inBlock bodyPost RP Code.wp wpList isOwn OneM One
set_option maxHeartbeats 8000000

theorem c_Mul64 (w : World) (n : Int) (hn : 0 ≤ n ∧ n ≤ 1000) : Tri Try.prog 131 [.int .u64 1, .int .u64 n] w [] fun r T => T = [] ∧ r = .tuple #[.int .u64 0, .int .u64 n] := by
  have e0 : ∀ a : Int, 0 * a = 0 := fun a => Int.zero_mul a
  refine Tri.intro (hf := Try.func131) (hb := rfl) (hn := Try.ntmps131) (Nat.le_of_ble_eq_true rfl) ?_
  try refine go ⟨?_⟩
  refine WPL.pure (Op1.andU rfl (by omega)) rfl rfl ?_
  try refine go ⟨?_⟩
  refine WPL.pure (Op1.shr32 rfl (by omega)) rfl rfl ?_
  try refine go ⟨?_⟩
  refine WPL.pure (Op1.andU rfl (by omega)) rfl rfl ?_
  try refine go ⟨?_⟩
  refine WPL.pure (Op1.shr32 rfl (by omega)) rfl rfl ?_
  try refine go ⟨?_⟩
  refine WPL.pure (Op1.mulU rfl rfl (by omega)) rfl rfl ?_
  rw [Int.one_mul]
  try refine go ⟨?_⟩
  refine WPL.pure (Op1.mulU rfl rfl (by omega)) rfl rfl ?_
  rw [Int.zero_mul]
  try refine go ⟨?_⟩
  refine WPL.pure (Op1.shr32 rfl (by omega)) rfl rfl ?_
  refine WPL.pure (Op1.addU rfl rfl (by omega)) rfl rfl ?_
  rw [Int.add_zero]
  try refine go ⟨?_⟩
  refine WPL.pure (Op1.andU rfl (by omega)) rfl rfl ?_
  try refine go ⟨?_⟩
  refine WPL.pure (Op1.shr32 rfl (by omega)) rfl rfl ?_
  try refine go ⟨?_⟩
  refine WPL.pure (Op1.mulU rfl rfl (by omega)) rfl rfl ?_
  rw [Int.one_mul]
  refine WPL.pure (Op1.addU rfl rfl (by omega)) rfl rfl ?_
  rw [Int.add_zero]
  try refine go ⟨?_⟩
  refine WPL.pure (Op1.mulU rfl rfl (by omega)) rfl rfl ?_
  rw [Int.zero_mul]
  try refine go ⟨?_⟩
  refine WPL.pure (Op1.addU rfl rfl (by omega)) rfl rfl ?_
  rw [Int.add_zero]
  try refine go ⟨?_⟩
  refine WPL.pure (Op1.shr32 rfl (by omega)) rfl rfl ?_
  refine WPL.pure (Op1.addU rfl rfl (by omega)) rfl rfl ?_
  rw [Int.add_zero]
  try refine go ⟨?_⟩
  refine WPL.pure (Op1.mulU rfl rfl (by omega)) rfl rfl ?_
  rw [Int.one_mul]
  try refine go ⟨?_⟩
  refine PE.ret2 (T := []) (T' := []) rfl rV ?_ sT
  exact ⟨rfl, rfl⟩

theorem c_Mul (w : World) (n : Int) (hn : 0 ≤ n ∧ n ≤ 1000) : Tri Try.prog 119 [.int .u64 1, .int .u64 n] w [] fun r T => T = [] ∧ r = .tuple #[.int .u64 0, .int .u64 n] := by
  refine Tri.intro (hf := Try.func119) (hb := rfl) (hn := Try.ntmps119) (Nat.le_of_ble_eq_true rfl) ?_
  try refine go ⟨?_⟩
  refine WPL.eff (OpE.call lO (fun w hw => c_Mul64 _ n hn)) rfl rfl ?_
  rintro r _ ⟨T, ⟨rfl, rfl⟩, rfl⟩
  try refine go ⟨?_⟩
  refine PE.ret2 (T := []) (T' := []) rfl rV ?_ sT
  exact ⟨rfl, rfl⟩

theorem c_Repeat (w : World) (v : Value) (x : Int) (n : Int) (hn : 1 ≤ n ∧ n ≤ 1000) : Tri Try.prog 89 [v, .int .i64 n] w [Tok.own v [x]] fun r T => T = [Tok.own r (List.replicate n.toNat x)] := by
  obtain ⟨m, rfl⟩ := Int.eq_ofNat_of_zero_le (show 0 ≤ n by omega)
  rw [Int.toNat_natCast]
  have hm : 1 ≤ m ∧ m ≤ 1000 := by omega
  refine Tri.intro (hf := Try.func89) (hb := rfl) (hn := Try.ntmps89) (Nat.le_of_ble_eq_true rfl) ?_
  try refine go ⟨?_⟩
  rw [decide_eq_false (show ¬ ((m : Int) < 0) by omega)]
  try refine go ⟨?_⟩
  refine WPL.pure (Op1.convU (n := 1) rfl (by kernel_rfl) ⟨by decide, by decide⟩) rfl rfl ?_
  have hbox : Nonempty (PLift (1 ≤ m ∧ m ≤ 1000)) := ⟨⟨hm⟩⟩
  clear hm hn
  try refine go ⟨?_⟩
  obtain ⟨⟨hm⟩⟩ := hbox
  refine WPL.pure (Op1.convU (n := (m : Int)) rfl (by kernel_rfl) (by omega)) rfl rfl ?_
  try refine go ⟨?_⟩
  refine WPL.eff (OpE.call lO (fun w hw => c_Mul _ m (by omega))) rfl rfl ?_
  rintro r _ ⟨T, ⟨rfl, rfl⟩, rfl⟩
  try refine go ⟨?_⟩
  rw [decide_eq_false (show ¬ ((0 : Int) < 0) by omega)]
  try refine go ⟨?_⟩
  rw [decide_eq_false (show ¬ ((9223372036854775807 : Int) < (m : Int)) by omega)]
  try refine go ⟨?_⟩
  refine WPL.eff (OpE.make (α := Int) (n := m) rfl rfl (by omega)) rfl rfl ?_; rintro u _ rfl
  try refine go ⟨?_⟩
  refine WPL.unown (v := v) (xs := [x]) pM2 (fun _ h => by cases h) (fun b cap post hv hcap hmx hsz => ?_)
  have hv3 : v = .slice (some ⟨b, 0, none⟩) 1 cap := hv
  subst hv3
  have hul : (List.replicate m (Enc.d : Int)).length = m := List.length_replicate
  refine WPL.unown (v := u) (xs := List.replicate m (Enc.d : Int)) pM2 (fun _ h => by have := congrArg List.length h; rw [hul] at this; simp at this; omega) (fun b2 cap2 post2 hv2 hcap2 hmx2 hsz2 => ?_)
  rw [hul] at hv2 hcap2
  subst hv2
  have hz2 : cap2 = m + post2.length := by
    have h : cap2 * 1 = (encs (List.replicate m (Enc.d : Int)) ++ post2).length := hsz2
    rw [List.length_append, encs_lenI, hul] at h; omega
  have hmin1 : Nat.min 1 m = 1 := Nat.min_eq_left (by omega)
  have hr0 : List.replicate m (Enc.d : Int) = rpz x m 0 := (rpz_zero x m).symm
  rw [hr0]
  try refine go ⟨?_⟩
  refine WPL.eff (OpE.copyR (α := Int) (us := encs [x]) (cells2 := encs [x] ++ post) rfl rfl pM2 mM (by rw [hmin1]; rfl) (fun j u hj => ?_) (by rw [List.length_append, encs_lenI, encs_lenI, rpz_len x (by omega)]; show 0 + 1 ≤ _; omega) (encs_one _)) rfl rfl ?_
  · rw [Nat.zero_add, List.getElem?_append_left (List.getElem?_eq_some_iff.1 hj).1]; exact hj
  rintro _ _ ⟨rfl, rfl⟩
  have hc1 := cpI (rpz x m 0) [x] post2 0 (by rw [rpz_len x (by omega)]; show 0 + 1 ≤ m; omega)
  have hc2 := rpz_step x (n := m) (k := 0) (m := 1) (by omega)
  rw [show ([x] : List Int) = List.replicate 1 x from rfl] at hc1 ⊢
  rw [hc1, hc2, hmin1]
  try refine go ⟨?_⟩
  refine WP.loop (σ := Nat) (fun k => [(0, .slice (some ⟨b, 0, none⟩) 1 cap), (7, .slice (some ⟨b2, 0, none⟩) m cap2), (8, .int .i64 k)]) (fun k => [Tok.blk b2 (encs (rpz x m k) ++ post2)]) (fun k => 1 ≤ k ∧ k ≤ m) (fun k => m - k) 1 ⟨Nat.le_refl _, hm.1⟩ ?_ ?_ ?_
  · exact sE
  · exact sT2
  rintro k ⟨hk1, hk2⟩
  try refine go ⟨?_⟩
  refine WPL.pure (Op1.lenR Try.underlying26 rfl) rfl rfl ?_
  try refine go ⟨?_⟩
  refine WP.condD rfl (fun hc => ?_) (fun hc => ?_)
  · have hlt : k < m := by omega
    have ek : ((k : Nat) : Int).toNat = k := Int.toNat_natCast k
    have hoff : (if cap2 = ((k : Nat) : Int).toNat then 0 else 0 + ((k : Nat) : Int).toNat * Enc.sz Int) = k := by
      rw [ek, if_neg (by omega)]; show 0 + k * 1 = k; omega
    obtain ⟨d, hd⟩ : ∃ d, d = Nat.min k (m - k) := ⟨_, rfl⟩
    have hd1 : d ≤ k := by rw [hd]; exact Nat.min_le_left _ _
    have hd2 : d ≤ m - k := by rw [hd]; exact Nat.min_le_right _ _
    have hd3 : 1 ≤ d := by rw [hd]; exact Nat.le_min.2 ⟨hk1, by omega⟩
    have hlen : (rpz x m k).length = m := rpz_len x hk2
    have hld : (List.replicate d x).length = d := List.length_replicate
    have hcc := cpI (rpz x m k) (List.replicate d x) post2 k (by rw [hlen, hld]; omega)
    have hcs := rpz_step x (n := m) (k := k) (m := d) (by omega)
    try refine go ⟨?_⟩
    refine WP.draw [] mixed ?_
    refine WPD.take 0 rfl (Op1.move rfl) rfl rfl sT kR kR kR xQP ?_
    refine WPD.take 1 rfl (Op1.move rfl) rfl rfl sT kR kR kR xQP ?_
    refine WPD.take 2 rfl (Op1.move rfl) rfl rfl sT kR kR kR xQP ?_
    refine WPD.take 4 rfl (Op1.move rfl) rfl rfl sT kR kR kR xQP ?_
    refine WPD.take 5 rfl (Op1.move rfl) rfl rfl sT kR kR kR xQP ?_
    refine WPD.take 3 rfl (Op1.sliceLoR rfl rfl (by omega)) rfl rfl sT kR kR kR xQP ?_
    refine WPD.take 6 rfl (Op1.sliceHiR rfl rfl (by omega)) rfl rfl sT kR kR kR xQP ?_
    refine WPD.eff 7 kR rfl (OpE.copyR (α := Int) (us := encs (List.replicate d x)) (cells2 := encs (rpz x m k) ++ post2) rfl rfl pM2 mM (by rw [ek, ← hd, encs_lenI, hld]; show d = d * 1; omega) (fun j u hj => rpz_src hd1 hj) (by rw [hoff, List.length_append, encs_lenI, encs_lenI, hlen, hld]; omega) (encs_one _)) rfl rfl ?_
    rintro r _ ⟨rfl, rfl⟩
    refine ⟨sT, ?_⟩
    rw [hoff, hcc, hcs, ek, ← hd]
    refine WPD.eff 8 kR rfl (OpE.ofPure (Op1.add rfl rfl (by omega))) rfl rfl ?_
    rintro _ _ ⟨rfl, rfl⟩
    refine ⟨sT, ?_⟩
    refine WPD.eff 9 kR rfl (OpE.ofPure (Op1.assign rfl)) rfl rfl ?_
    rintro _ _ ⟨rfl, rfl⟩
    refine ⟨sT, ?_⟩
    refine WPD.done kR ?_
    have e : (k : Int) + (d : Int) = ((k + d : Nat) : Int) := by omega
    rw [e]
    try refine go ⟨?_⟩
    refine PE.again (k + d) ?_ ?_ sE sT2
    · (try dsimp only); omega
    · (try dsimp only); omega
  · have hkm : k = m := by omega
    subst hkm
    rw [rpz_all]
    try refine go ⟨?_⟩
    refine PE.reown (α := Int) (List.replicate k x) (b := b2) (cap := cap2) (post := post2) pM2 rfl (by rw [List.length_replicate]; omega) hmx2 (by rw [List.length_append, encs_lenI, List.length_replicate]; show cap2 * 1 = _; omega) ?_
    rw [List.length_replicate]
    refine PE.ret1 (T := [Tok.own (.slice (some ⟨b, 0, none⟩) 1 cap) [x]]) (T' := [Tok.own (.slice (some ⟨b2, 0, none⟩) k cap2) (List.replicate k x)]) rfl rV ?_ sT2
    rfl

theorem c_EqualI (w : World) (v u : Value) (xs ys : List Int) (h : RL w v xs) (h' : RL w u ys) (hl : xs.length ≤ 1099511627776) (hl' : ys.length ≤ 1099511627776) :
    Tri Try.prog 94 [v, u] w [] fun r T => T = [] ∧ r = .bool (decide (xs = ys)) := by
  refine Tri.intro (hf := Try.func94) (hb := rfl) (hn := Try.ntmps94) (Nat.le_of_ble_eq_true rfl) ?_
  try refine go ⟨?_⟩
  refine WP.condD rfl (fun hc => ?_) (fun hc => ?_)
  · try refine go ⟨?_⟩
    refine PE.ret1 (T := []) (T' := []) rfl rV ?_ sT
    refine ⟨rfl, ?_⟩
    rw [decide_eq_false]
    rintro rfl
    exact absurd rfl hc
  have hll : xs.length = ys.length := by omega
  try refine go ⟨?_⟩
  refine WP.loop (σ := Nat) (fun k => [(0, v), (1, u), (12, .int .i64 xs.length), (13, .int .i64 k)]) (fun _ => []) (fun k => k ≤ xs.length ∧ ∀ m, m < k → xs.getD m 0 = ys.getD m 0) (fun k => xs.length - k) 0 ⟨Nat.zero_le _, by omega⟩ sE sT ?_
  rintro k ⟨hk, hm⟩
  try refine go ⟨?_⟩
  refine WP.condD rfl (fun hc2 => ?_) (fun hc2 => ?_)
  · have hk' : k < xs.length := by omega
    try refine go ⟨?_⟩
    refine WP.draw [] mixed ?_
    refine WPD.take 0 rfl (Op1.move rfl) rfl rfl sT kR kR kR xQP ?_
    refine WPD.take 1 rfl (Op1.move rfl) rfl rfl sT kR kR kR xQP ?_
    refine WPD.take 4 rfl (Op1.move rfl) rfl rfl sT kR kR kR xQP ?_
    refine WPD.take 5 rfl (Op1.move rfl) rfl rfl sT kR kR kR xQP ?_
    refine WPD.take 2 rfl (by first | exact (Op1.indexAddr rfl rfl rD lT) | exact (Op1.indexAddrZ rfl rfl rD lT)) rfl rfl sT kR kR kR xQP ?_
    refine WPD.take 6 rfl (by first | exact (Op1.indexAddr rfl rfl rD lT) | exact (Op1.indexAddrZ rfl rfl rD lT)) rfl rfl sT kR kR kR xQP ?_
    refine WPD.take 3 rfl (by first | exact (Op1.load rfl mM (by rfl)) | exact (Op1.loadI rfl rD lT) | exact (Op1.loadAll rfl mM (by rfl)) | exact (Op1.loadE rfl rD lT (by rfl)) | exact (Op1.loadEAgg rfl rD lT (by rfl))) rfl rfl sT kR kR kR xQP ?_
    refine WPD.take 7 rfl (by first | exact (Op1.load rfl mM (by rfl)) | exact (Op1.loadI rfl rD lT) | exact (Op1.loadAll rfl mM (by rfl)) | exact (Op1.loadE rfl rD lT (by rfl)) | exact (Op1.loadEAgg rfl rD lT (by rfl))) rfl rfl sT kR kR kR xQP ?_
    refine WPD.take 8 rfl (by first | exact (Op1.neI rfl rfl) | exact (Op1.neB rfl rfl) | exact (Op1.neE rfl rfl)) rfl rfl sT kR kR kR xQP ?_
    refine WPD.done kR ?_
    try refine go ⟨?_⟩
    refine WP.condD rfl (fun hc3 => ?_) (fun hc3 => ?_)
    · try refine go ⟨?_⟩
      refine PE.ret1 (T := []) (T' := []) rfl rV ?_ sT
      refine ⟨rfl, ?_⟩
      rw [decide_eq_false]
      rintro rfl
      exact absurd rfl hc3
    · try refine go ⟨?_⟩
      refine PE.again (k + 1) ?_ ?_ sE sT
      · exact ⟨by omega, fun m hm' => by
          rcases Nat.lt_succ_iff_lt_or_eq.1 hm' with h' | rfl
          · exact hm m h'
          · exact Decidable.not_not.1 hc3⟩
      · omega
  · try refine go ⟨?_⟩
    refine PE.ret1 (T := []) (T' := []) rfl rV ?_ sT
    refine ⟨rfl, ?_⟩
    rw [decide_eq_true]
    exact List.ext_getElem hll (fun i h1 h2 => by
      have := hm i (by omega)
      rwa [List.getD_eq_getElem?_getD, List.getD_eq_getElem?_getD, List.getElem?_eq_getElem h1, List.getElem?_eq_getElem h2] at this)

def setV (a b c : Value) : Value := .agg #[a, b, c]

theorem c_isRoot (w : World) (vP vZ vS : Value) (s : SS) (x : Int) (hP : RL w vP s.P) (hZ : RL w vZ s.Z) (hS : RL w vS s.S) (hl : s.P.length ≤ 1000) :
    Tri Try.prog 132 [setV vP vZ vS, .int .i64 x] w [] fun r T => T = [] ∧ r = .bool (decide (rtB s x)) := by
  refine Tri.intro (hf := Try.func132) (hb := rfl) (hn := Try.ntmps132) (Nat.le_of_ble_eq_true rfl) ?_
  try refine go ⟨?_⟩
  refine WPL.eff (OpE.box rfl) rfl rfl ?_; rintro _ _ ⟨b, rfl, rfl⟩
  repeat' (first | refine go ⟨?_⟩ | (refine isCond ?_; refine WP.condD rfl (fun hc => ?_) (fun hc => ?_)) | (refine isGuard ?_; refine WPL.splitD rfl rfl (fun hc => ?_) (fun hc => ?_)))
  all_goals (refine PE.ret1 (T := []) (T' := []) rfl rV ?_ sT; refine ⟨rfl, ?_⟩)
  · congr 1; rw [decide_eq_decide]; unfold rtB
    exact ⟨fun h => ⟨by omega, by omega, h⟩, fun h => h.2.2⟩
  · rw [decide_eq_false]; unfold rtB; omega
  · rw [decide_eq_false]; unfold rtB; omega
end Go.Proofs.Ythlgbeakcobeoaa
/- Sets: the walks of isAbove, NewSets, step. Conditions: those of each contract. -/
namespace Go.Proofs.Ythlgbeakcobeoaa
open Go
def nilS : Value := .slice none 0 0
set_option linter.unusedVariables false set_option linter.unusedSimpArgs false attribute [local irreducible] Tok.own Tok.blk RL Rd eptr WP WPL PE WPD WPO Op1 OpE Tri Again Mid Exit.then Exit.inBlock bodyPost RP Code.wp wpList isOwn OneM One
set_option maxHeartbeats 8000000

theorem c_isAbove (w : World) (vP vZ vS : Value) (s : SS) (x y : Int) (hP : RL w vP s.P) (hZ : RL w vZ s.Z) (hS : RL w vS s.S) (hx : 0 ≤ x ∧ x < s.Z.length) (hy : 0 ≤ y ∧ y < s.Z.length) :
    Tri Try.prog 125 [setV vP vZ vS, .int .i64 x, .int .i64 y] w [] fun r T => T = [] ∧ r = .bool (decide (abv s x y)) := by
  refine Tri.intro (hf := Try.func125) (hb := rfl) (hn := Try.ntmps125) (Nat.le_of_ble_eq_true rfl) ?_
  try refine go ⟨?_⟩
  refine WPL.eff (OpE.box rfl) rfl rfl ?_; rintro _ _ ⟨b, rfl, rfl⟩
  try refine go ⟨?_⟩
  refine WP.draw [Tok.blk b [vP, vZ, vS]] mixed ?_
  refine WPD.take 0 rfl (by first | exact (Op1.fieldAddr rfl) | exact (Op1.fieldAddrE rfl rD lT)) rfl rfl sT kR kR kR xQP ?_
  refine WPD.take 2 rfl (Op1.move rfl) rfl rfl sT kR kR kR xQP ?_
  refine WPD.take 5 rfl (by first | exact (Op1.fieldAddr rfl) | exact (Op1.fieldAddrE rfl rD lT)) rfl rfl sT kR kR kR xQP ?_
  refine WPD.take 7 rfl (Op1.move rfl) rfl rfl sT kR kR kR xQP ?_
  refine WPD.take 1 rfl (by first | exact (Op1.load rfl mM (by rfl)) | exact (Op1.loadI rfl rD lT) | exact (Op1.loadAll rfl mM (by rfl)) | exact (Op1.loadE rfl rD lT (by rfl)) | exact (Op1.loadEAgg rfl rD lT (by rfl))) rfl rfl sT kR kR kR xQP ?_
  refine WPD.take 6 rfl (by first | exact (Op1.load rfl mM (by rfl)) | exact (Op1.loadI rfl rD lT) | exact (Op1.loadAll rfl mM (by rfl)) | exact (Op1.loadE rfl rD lT (by rfl)) | exact (Op1.loadEAgg rfl rD lT (by rfl))) rfl rfl sT kR kR kR xQP ?_
  refine WPD.take 3 rfl (by first | exact (Op1.indexAddr rfl rfl rD lT) | exact (Op1.indexAddrZ rfl rfl rD lT)) rfl rfl sT kR kR kR xQP ?_
  refine WPD.take 8 rfl (by first | exact (Op1.indexAddr rfl rfl rD lT) | exact (Op1.indexAddrZ rfl rfl rD lT)) rfl rfl sT kR kR kR xQP ?_
  refine WPD.take 4 rfl (by first | exact (Op1.load rfl mM (by rfl)) | exact (Op1.loadI rfl rD lT) | exact (Op1.loadAll rfl mM (by rfl)) | exact (Op1.loadE rfl rD lT (by rfl)) | exact (Op1.loadEAgg rfl rD lT (by rfl))) rfl rfl sT kR kR kR xQP ?_
  refine WPD.take 9 rfl (by first | exact (Op1.load rfl mM (by rfl)) | exact (Op1.loadI rfl rD lT) | exact (Op1.loadAll rfl mM (by rfl)) | exact (Op1.loadE rfl rD lT (by rfl)) | exact (Op1.loadEAgg rfl rD lT (by rfl))) rfl rfl sT kR kR kR xQP ?_
  refine WPD.take 10 rfl (Op1.gtI rfl rfl) rfl rfl sT kR kR kR xQP ?_
  refine WPD.take 11 rfl (Op1.move rfl) rfl rfl sT kR kR kR xQP ?_
  first | refine WPD.splitD 18 rfl (fun h18 => ?t1) (fun h18 => ?f1) | refine WPD.split 18 rfl (fun h18 => ?t1) (fun h18 => ?f1)
  case' t1 =>
    refine WPD.skip 12 rfl rfl rfl sT kR kR kR xQP ?_
    refine WPD.skip 14 rfl rfl rfl sT kR kR kR xQP ?_
    refine WPD.skip 17 rfl rfl rfl sT kR kR kR xQP ?_
    refine WPD.skip 19 rfl rfl rfl sT kR kR kR xQP ?_
    refine WPD.skip 13 rfl rfl rfl sT kR kR kR xQP ?_
    refine WPD.skip 18 rfl rfl rfl sT kR kR kR xQP ?_
    refine WPD.skip 15 rfl rfl rfl sT kR kR kR xQP ?_
    refine WPD.skip 20 rfl rfl rfl sT kR kR kR xQP ?_
    refine WPD.skip 16 rfl rfl rfl sT kR kR kR xQP ?_
    refine WPD.skip 21 rfl rfl rfl sT kR kR kR xQP ?_
    refine WPD.skip 22 rfl rfl rfl sT kR kR kR xQP ?_
    refine WPD.skip 23 rfl rfl rfl sT kR kR kR xQP ?_
    refine WPD.skip 24 rfl rfl rfl sT kR kR kR xQP ?_
    refine WPD.skip 25 rfl rfl rfl sT kR kR kR xQP ?_
    refine WPD.skip 26 rfl rfl rfl sT kR kR kR xQP ?_
    refine WPD.skip 27 rfl rfl rfl sT kR kR kR xQP ?_
    refine WPD.take 28 rfl (by first | exact (Op1.pickT rfl rfl) | exact (Op1.pickF rfl rfl)) rfl rfl sT kR kR kR xQP ?_
    refine WPD.take 29 rfl (Op1.assign rfl) rfl rfl sT kR kR kR xQP ?_
    refine WPD.done kR ?_
  case' f1 =>
    refine WPD.take 12 rfl (by first | exact (Op1.fieldAddr rfl) | exact (Op1.fieldAddrE rfl rD lT)) rfl rfl sT kR kR kR xQP ?_
    refine WPD.take 14 rfl (Op1.move rfl) rfl rfl sT kR kR kR xQP ?_
    refine WPD.take 17 rfl (by first | exact (Op1.fieldAddr rfl) | exact (Op1.fieldAddrE rfl rD lT)) rfl rfl sT kR kR kR xQP ?_
    refine WPD.take 19 rfl (Op1.move rfl) rfl rfl sT kR kR kR xQP ?_
    refine WPD.take 13 rfl (by first | exact (Op1.load rfl mM (by rfl)) | exact (Op1.loadI rfl rD lT) | exact (Op1.loadAll rfl mM (by rfl)) | exact (Op1.loadE rfl rD lT (by rfl)) | exact (Op1.loadEAgg rfl rD lT (by rfl))) rfl rfl sT kR kR kR xQP ?_
    refine WPD.take 18 rfl (by first | exact (Op1.load rfl mM (by rfl)) | exact (Op1.loadI rfl rD lT) | exact (Op1.loadAll rfl mM (by rfl)) | exact (Op1.loadE rfl rD lT (by rfl)) | exact (Op1.loadEAgg rfl rD lT (by rfl))) rfl rfl sT kR kR kR xQP ?_
    refine WPD.take 15 rfl (by first | exact (Op1.indexAddr rfl rfl rD lT) | exact (Op1.indexAddrZ rfl rfl rD lT)) rfl rfl sT kR kR kR xQP ?_
    refine WPD.take 20 rfl (by first | exact (Op1.indexAddr rfl rfl rD lT) | exact (Op1.indexAddrZ rfl rfl rD lT)) rfl rfl sT kR kR kR xQP ?_
    refine WPD.take 16 rfl (by first | exact (Op1.load rfl mM (by rfl)) | exact (Op1.loadI rfl rD lT) | exact (Op1.loadAll rfl mM (by rfl)) | exact (Op1.loadE rfl rD lT (by rfl)) | exact (Op1.loadEAgg rfl rD lT (by rfl))) rfl rfl sT kR kR kR xQP ?_
    refine WPD.take 21 rfl (by first | exact (Op1.load rfl mM (by rfl)) | exact (Op1.loadI rfl rD lT) | exact (Op1.loadAll rfl mM (by rfl)) | exact (Op1.loadE rfl rD lT (by rfl)) | exact (Op1.loadEAgg rfl rD lT (by rfl))) rfl rfl sT kR kR kR xQP ?_
    refine WPD.take 22 rfl (by first | exact (Op1.eqI rfl rfl) | exact (Op1.eqB rfl rfl) | exact (Op1.eqE rfl rfl) | exact (Op1.eqNil rfl rD)) rfl rfl sT kR kR kR xQP ?_
    refine WPD.take 23 rfl (Op1.move rfl) rfl rfl sT kR kR kR xQP ?_
    first | refine WPD.splitD 30 rfl (fun h30 => ?t2) (fun h30 => ?f2) | refine WPD.split 30 rfl (fun h30 => ?t2) (fun h30 => ?f2)
    case' t2 =>
      refine WPD.take 24 rfl (Op1.move rfl) rfl rfl sT kR kR kR xQP ?_
      refine WPD.take 25 rfl (Op1.move rfl) rfl rfl sT kR kR kR xQP ?_
      refine WPD.take 26 rfl (Op1.ltI rfl rfl) rfl rfl sT kR kR kR xQP ?_
      refine WPD.take 27 rfl (by first | exact (Op1.pickT rfl rfl) | exact (Op1.pickF rfl rfl)) rfl rfl sT kR kR kR xQP ?_
      refine WPD.take 28 rfl (by first | exact (Op1.pickT rfl rfl) | exact (Op1.pickF rfl rfl)) rfl rfl sT kR kR kR xQP ?_
      refine WPD.take 29 rfl (Op1.assign rfl) rfl rfl sT kR kR kR xQP ?_
      refine WPD.done kR ?_
    case' f2 =>
      refine WPD.skip 24 rfl rfl rfl sT kR kR kR xQP ?_
      refine WPD.skip 25 rfl rfl rfl sT kR kR kR xQP ?_
      refine WPD.skip 26 rfl rfl rfl sT kR kR kR xQP ?_
      refine WPD.take 27 rfl (by first | exact (Op1.pickT rfl rfl) | exact (Op1.pickF rfl rfl)) rfl rfl sT kR kR kR xQP ?_
      refine WPD.take 28 rfl (by first | exact (Op1.pickT rfl rfl) | exact (Op1.pickF rfl rfl)) rfl rfl sT kR kR kR xQP ?_
      refine WPD.take 29 rfl (Op1.assign rfl) rfl rfl sT kR kR kR xQP ?_
      refine WPD.done kR ?_
  all_goals (
    try refine go ⟨?_⟩
    refine PE.ret1 (T := []) (T' := []) rfl rV ?_ sT
    refine ⟨rfl, ?_⟩)
  · rw [decide_eq_false]; unfold abv; omega
  · congr 1; rw [decide_eq_decide]; unfold abv; omega
  · rw [decide_eq_true]; unfold abv; omega

theorem c_NewSets (w : World) (n : Int) : Tri Try.prog 40 [.int .i64 n] w [] fun r T =>
    ((1 ≤ n ∧ n ≤ 16) ∧ ∃ vP vZ, r = .tuple #[setV vP vZ nilS, .bool true] ∧ T = [Tok.own vP (List.replicate n.toNat (-1 : Int)), Tok.own vZ (List.replicate n.toNat (1 : Int))]) ∨ (¬ (1 ≤ n ∧ n ≤ 16) ∧ r = .tuple #[setV nilS nilS nilS, .bool false] ∧ T = []) := by
  refine Tri.intro (hf := Try.func40) (hb := rfl) (hn := Try.ntmps40) (Nat.le_of_ble_eq_true rfl) ?_
  try refine go ⟨?_⟩
  refine WPL.eff OpE.alloc rfl rfl ?_; rintro _ _ ⟨b, rfl, rfl⟩
  try refine go ⟨?_⟩
  by_cases h1 : n < 1
  · rw [decide_eq_true h1]
    try refine go ⟨?_⟩
    refine PE.ret2 (T := []) (T' := []) rfl rV ?_ sT
    exact .inr ⟨by omega, rfl, rfl⟩
  rw [decide_eq_false h1]
  try refine go ⟨?_⟩
  by_cases h2 : 16 < n
  · rw [decide_eq_true h2]
    try refine go ⟨?_⟩
    refine PE.ret2 (T := []) (T' := []) rfl rV ?_ sT
    exact .inr ⟨by omega, rfl, rfl⟩
  rw [decide_eq_false h2]
  try refine go ⟨?_⟩
  refine WPL.eff (OpE.buildSlice [(-1 : Int)] pA rfl (by decide)) rfl rfl ?_; rintro s1 _ rfl
  try refine go ⟨?_⟩
  refine WPL.eff (OpE.callT (T := [Tok.own s1 [(-1 : Int)]]) lO pM2 (fun w hw => c_Repeat _ s1 (-1) n (by omega))) rfl rfl ?_
  rintro vP _ ⟨T, rfl, rfl⟩
  try refine go ⟨?_⟩
  refine WPL.eff (OpE.buildSlice [(1 : Int)] pA rfl (by decide)) rfl rfl ?_; rintro s2 _ rfl
  try refine go ⟨?_⟩
  refine WPL.eff (OpE.callT (T := [Tok.own s2 [(1 : Int)]]) lO pM2 (fun w hw => c_Repeat _ s2 1 n (by omega))) rfl rfl ?_
  rintro vZ _ ⟨T, rfl, rfl⟩
  try refine go ⟨?_⟩
  refine PE.ret2 (T := []) (T' := [Tok.own vP (List.replicate n.toNat (-1 : Int)), Tok.own vZ (List.replicate n.toNat (1 : Int))]) rfl rV ?_ sT2
  exact .inl ⟨by omega, vP, vZ, rfl, rfl⟩

theorem c_step (w : World) (b : Nat) (vP vZ vS : Value) (s : SS) (t : E) (h1 : s.P.length = s.Z.length) (hlp : s.P.length ≤ 1000) (hz : ∀ x : Nat, x < s.Z.length → 0 ≤ s.Z.getD x 0 ∧ s.Z.getD x 0 ≤ 1000) (hls : s.S.length ≤ 1000) :
    Tri Try.prog 120 [.pointer (some ⟨b, 0, none⟩), ep t] w [Tok.blk b [vP, vZ, vS], Tok.own vP s.P, Tok.own vZ s.Z, Tok.own vS s.S] fun r T =>
      (stOk s t ∧ r = .bool true ∧ ∃ vS', T = [Tok.blk b [vP, vZ, vS'], Tok.own vP (stDo s t).P, Tok.own vZ (stDo s t).Z, Tok.own vS' (stDo s t).S]) ∨ (¬ stOk s t ∧ r = .bool false ∧ T = [Tok.blk b [vP, vZ, vS], Tok.own vP s.P, Tok.own vZ s.Z, Tok.own vS s.S]) := by
  refine Tri.intro (hf := Try.func120) (hb := rfl) (hn := Try.ntmps120) (Nat.le_of_ble_eq_true rfl) ?_
  try refine go ⟨?_⟩
  refine WPL.eff (OpE.box rfl) rfl rfl ?_; rintro _ _ ⟨b3, rfl, rfl⟩
  try refine go ⟨?_⟩
  refine WP.draw [Tok.blk b3 [.int .i64 t.A, .int .i64 t.B], Tok.blk b [vP, vZ, vS], Tok.own vP s.P, Tok.own vZ s.Z, Tok.own vS s.S] mixed ?_
  refine WPD.take 0 rfl (Op1.move rfl) rfl rfl sT kR kR kR xQP ?_
  refine WPD.take 1 rfl (Op1.nilCheck rfl) rfl rfl sT kR kR kR xQP ?_
  refine WPD.take 2 rfl (by first | exact (Op1.fieldAddr rfl) | exact (Op1.fieldAddrE rfl rD lT)) rfl rfl sT kR kR kR xQP ?_
  refine WPD.take 3 rfl (by first | exact (Op1.load rfl mM (by rfl)) | exact (Op1.loadI rfl rD lT) | exact (Op1.loadAll rfl mM (by rfl)) | exact (Op1.loadE rfl rD lT (by rfl)) | exact (Op1.loadEAgg rfl rD lT (by rfl))) rfl rfl sT kR kR kR xQP ?_
  refine WPD.take 4 rfl (Op1.len rfl rD) rfl rfl sT kR kR kR xQP ?_
  refine WPD.take 5 rfl (by first | exact (Op1.eqI rfl rfl) | exact (Op1.eqB rfl rfl) | exact (Op1.eqE rfl rfl) | exact (Op1.eqNil rfl rD)) rfl rfl sT kR kR kR xQP ?_
  refine WPD.take 6 rfl (Op1.move rfl) rfl rfl sT kR kR kR xQP ?_
  first | refine WPD.splitD 11 rfl (fun h11 => ?t3) (fun h11 => ?f3) | refine WPD.split 11 rfl (fun h11 => ?t3) (fun h11 => ?f3)
  case' t3 =>
    refine WPD.skip 7 rfl rfl rfl sT kR kR kR xQP ?_
    refine WPD.skip 10 rfl rfl rfl sT kR kR kR xQP ?_
    refine WPD.skip 8 rfl rfl rfl sT kR kR kR xQP ?_
    refine WPD.skip 11 rfl rfl rfl sT kR kR kR xQP ?_
    refine WPD.skip 9 rfl rfl rfl sT kR kR kR xQP ?_
    refine WPD.skip 12 rfl rfl rfl sT kR kR kR xQP ?_
    refine WPD.skip 13 rfl rfl rfl sT kR kR kR xQP ?_
    refine WPD.eff 14 kR rfl (OpE.ofPure (by first | exact (Op1.pickT rfl rfl) | exact (Op1.pickF rfl rfl))) rfl rfl ?_
    rintro _ _ ⟨rfl, rfl⟩
    refine ⟨sT, ?_⟩
    refine WPD.done kR ?_
  case' f3 =>
    refine WPD.take 7 rfl (Op1.move rfl) rfl rfl sT kR kR kR xQP ?_
    refine WPD.take 10 rfl (by first | exact (Op1.fieldAddr rfl) | exact (Op1.fieldAddrE rfl rD lT)) rfl rfl sT kR kR kR xQP ?_
    refine WPD.take 8 rfl (Op1.nilCheck rfl) rfl rfl sT kR kR kR xQP ?_
    refine WPD.take 11 rfl (by first | exact (Op1.load rfl mM (by rfl)) | exact (Op1.loadI rfl rD lT) | exact (Op1.loadAll rfl mM (by rfl)) | exact (Op1.loadE rfl rD lT (by rfl)) | exact (Op1.loadEAgg rfl rD lT (by rfl))) rfl rfl sT kR kR kR xQP ?_
    refine WPD.take 9 rfl (by first | exact (Op1.load rfl mM (by rfl)) | exact (Op1.loadI rfl rD lT) | exact (Op1.loadAll rfl mM (by rfl)) | exact (Op1.loadE rfl rD lT (by rfl)) | exact (Op1.loadEAgg rfl rD lT (by rfl))) rfl rfl sT kR kR kR xQP ?_
    refine WPD.eff 12 kR rfl (OpE.call lO (fun w hw => c_isRoot _ vP vZ vS s t.B (Rd.at rD hw) (Rd.at rD hw) (Rd.at rD hw) hlp)) rfl rfl ?_
    rintro r _ ⟨T, ⟨rfl, rfl⟩, rfl⟩
    refine ⟨sT, ?_⟩
    refine WPD.eff 13 kR rfl (OpE.ofPure (by first | exact (Op1.notD rfl) | exact (Op1.not rfl))) rfl rfl ?_
    rintro _ _ ⟨rfl, rfl⟩
    refine ⟨sT, ?_⟩
    refine WPD.eff 14 kR rfl (OpE.ofPure (by first | exact (Op1.pickT rfl rfl) | exact (Op1.pickF rfl rfl))) rfl rfl ?_
    rintro _ _ ⟨rfl, rfl⟩
    refine ⟨sT, ?_⟩
    refine WPD.done kR ?_
  · try refine go ⟨?_⟩
    refine WP.condD rfl (fun hr => ?_) (fun hr => ?_)
    · try refine go ⟨?_⟩
      refine PE.ret1 (T := [Tok.blk b [vP, vZ, vS], Tok.own vP s.P, Tok.own vZ s.Z, Tok.own vS s.S]) (T' := [Tok.blk b [vP, vZ, vS], Tok.own vP s.P, Tok.own vZ s.Z, Tok.own vS s.S]) rfl rV ?_ sT2
      exact .inr ⟨fun h => hr h.2.1, rfl, rfl⟩
    have hr : rtB s t.B := Decidable.not_not.1 hr
    have hB1 : 0 ≤ t.B := hr.1
    have hB2 : t.B < s.P.length := hr.2.1
    try refine go ⟨?_⟩
    refine WP.cutK (σ := List Int × List Int) (fun q => [(0, .pointer (some ⟨b, 0, none⟩)), (3, .pointer (some ⟨b3, 0, none⟩))]) (fun q => [Tok.own vP q.1, Tok.own vZ q.2, Tok.blk b [vP, vZ, vS], Tok.own vS s.S, Tok.blk b3 [.int .i64 t.A, .int .i64 t.B]]) (fun q => stOk s t ∧ (stDo s t).P = q.1 ∧ (stDo s t).Z = q.2) ?_ ?_
    · refine WP.condD rfl (fun hA => ?_) (fun hA => ?_)
      · have hA : t.A ≠ -1 := hA
        try refine go ⟨?_⟩
        refine WP.draw [Tok.blk b3 [.int .i64 t.A, .int .i64 t.B], Tok.blk b [vP, vZ, vS], Tok.own vP s.P, Tok.own vZ s.Z, Tok.own vS s.S] mixed ?_
        refine WPD.take 0 rfl (by first | exact (Op1.fieldAddr rfl) | exact (Op1.fieldAddrE rfl rD lT)) rfl rfl sT kR kR kR xQP ?_
        refine WPD.take 2 rfl (by first | exact (Op1.fieldAddr rfl) | exact (Op1.fieldAddrE rfl rD lT)) rfl rfl sT kR kR kR xQP ?_
        refine WPD.take 1 rfl (by first | exact (Op1.load rfl mM (by rfl)) | exact (Op1.loadI rfl rD lT) | exact (Op1.loadAll rfl mM (by rfl)) | exact (Op1.loadE rfl rD lT (by rfl)) | exact (Op1.loadEAgg rfl rD lT (by rfl))) rfl rfl sT kR kR kR xQP ?_
        refine WPD.take 3 rfl (by first | exact (Op1.load rfl mM (by rfl)) | exact (Op1.loadI rfl rD lT) | exact (Op1.loadAll rfl mM (by rfl)) | exact (Op1.loadE rfl rD lT (by rfl)) | exact (Op1.loadEAgg rfl rD lT (by rfl))) rfl rfl sT kR kR kR xQP ?_
        refine WPD.take 4 rfl (by first | exact (Op1.eqI rfl rfl) | exact (Op1.eqB rfl rfl) | exact (Op1.eqE rfl rfl) | exact (Op1.eqNil rfl rD)) rfl rfl sT kR kR kR xQP ?_
        refine WPD.take 5 rfl (Op1.move rfl) rfl rfl sT kR kR kR xQP ?_
        first | refine WPD.splitD 28 rfl (fun h28 => ?t4) (fun h28 => ?f4) | refine WPD.split 28 rfl (fun h28 => ?t4) (fun h28 => ?f4)
        case' t4 =>
          refine WPD.skip 6 rfl rfl rfl sT kR kR kR xQP ?_
          refine WPD.skip 9 rfl rfl rfl sT kR kR kR xQP ?_
          refine WPD.skip 7 rfl rfl rfl sT kR kR kR xQP ?_
          refine WPD.skip 10 rfl rfl rfl sT kR kR kR xQP ?_
          refine WPD.skip 8 rfl rfl rfl sT kR kR kR xQP ?_
          refine WPD.skip 11 rfl rfl rfl sT kR kR kR xQP ?_
          refine WPD.skip 12 rfl rfl rfl sT kR kR kR xQP ?_
          refine WPD.take 13 rfl (by first | exact (Op1.pickT rfl rfl) | exact (Op1.pickF rfl rfl)) rfl rfl sT kR kR kR xQP ?_
          refine WPD.take 14 rfl (Op1.move rfl) rfl rfl sT kR kR kR xQP ?_
          refine WPD.skip 15 rfl rfl rfl sT kR kR kR xQP ?_
          refine WPD.skip 18 rfl rfl rfl sT kR kR kR xQP ?_
          refine WPD.skip 20 rfl rfl rfl sT kR kR kR xQP ?_
          refine WPD.skip 16 rfl rfl rfl sT kR kR kR xQP ?_
          refine WPD.skip 19 rfl rfl rfl sT kR kR kR xQP ?_
          refine WPD.skip 21 rfl rfl rfl sT kR kR kR xQP ?_
          refine WPD.skip 17 rfl rfl rfl sT kR kR kR xQP ?_
          refine WPD.skip 22 rfl rfl rfl sT kR kR kR xQP ?_
          refine WPD.skip 23 rfl rfl rfl sT kR kR kR xQP ?_
          refine WPD.take 24 rfl (by first | exact (Op1.pickT rfl rfl) | exact (Op1.pickF rfl rfl)) rfl rfl sT kR kR kR xQP ?_
          refine WPD.done kR ?_
        case' f4 =>
          refine WPD.take 6 rfl (Op1.move rfl) rfl rfl sT kR kR kR xQP ?_
          refine WPD.take 9 rfl (by first | exact (Op1.fieldAddr rfl) | exact (Op1.fieldAddrE rfl rD lT)) rfl rfl sT kR kR kR xQP ?_
          refine WPD.take 7 rfl (Op1.nilCheck rfl) rfl rfl sT kR kR kR xQP ?_
          refine WPD.take 10 rfl (by first | exact (Op1.load rfl mM (by rfl)) | exact (Op1.loadI rfl rD lT) | exact (Op1.loadAll rfl mM (by rfl)) | exact (Op1.loadE rfl rD lT (by rfl)) | exact (Op1.loadEAgg rfl rD lT (by rfl))) rfl rfl sT kR kR kR xQP ?_
          refine WPD.take 8 rfl (by first | exact (Op1.load rfl mM (by rfl)) | exact (Op1.loadI rfl rD lT) | exact (Op1.loadAll rfl mM (by rfl)) | exact (Op1.loadE rfl rD lT (by rfl)) | exact (Op1.loadEAgg rfl rD lT (by rfl))) rfl rfl sT kR kR kR xQP ?_
          refine WPD.eff 11 kR rfl (OpE.call lO (fun w hw => c_isRoot _ vP vZ vS s t.A (Rd.at rD hw) (Rd.at rD hw) (Rd.at rD hw) hlp)) rfl rfl ?_
          rintro r _ ⟨T, ⟨rfl, rfl⟩, rfl⟩
          refine ⟨sT, ?_⟩
          refine WPD.take 12 rfl (by first | exact (Op1.notD rfl) | exact (Op1.not rfl)) rfl rfl sT kR kR kR xQP ?_
          refine WPD.take 13 rfl (by first | exact (Op1.pickT rfl rfl) | exact (Op1.pickF rfl rfl)) rfl rfl sT kR kR kR xQP ?_
          refine WPD.take 14 rfl (Op1.move rfl) rfl rfl sT kR kR kR xQP ?_
          first | refine WPD.splitD 37 rfl (fun h37 => ?t5) (fun h37 => ?f5) | refine WPD.split 37 rfl (fun h37 => ?t5) (fun h37 => ?f5)
          case' t5 =>
            refine WPD.skip 15 rfl rfl rfl sT kR kR kR xQP ?_
            refine WPD.skip 18 rfl rfl rfl sT kR kR kR xQP ?_
            refine WPD.skip 20 rfl rfl rfl sT kR kR kR xQP ?_
            refine WPD.skip 16 rfl rfl rfl sT kR kR kR xQP ?_
            refine WPD.skip 19 rfl rfl rfl sT kR kR kR xQP ?_
            refine WPD.skip 21 rfl rfl rfl sT kR kR kR xQP ?_
            refine WPD.skip 17 rfl rfl rfl sT kR kR kR xQP ?_
            refine WPD.skip 22 rfl rfl rfl sT kR kR kR xQP ?_
            refine WPD.skip 23 rfl rfl rfl sT kR kR kR xQP ?_
            refine WPD.take 24 rfl (by first | exact (Op1.pickT rfl rfl) | exact (Op1.pickF rfl rfl)) rfl rfl sT kR kR kR xQP ?_
            refine WPD.done kR ?_
          case' f5 =>
            refine WPD.take 15 rfl (Op1.move rfl) rfl rfl sT kR kR kR xQP ?_
            refine WPD.take 18 rfl (by first | exact (Op1.fieldAddr rfl) | exact (Op1.fieldAddrE rfl rD lT)) rfl rfl sT kR kR kR xQP ?_
            refine WPD.take 20 rfl (by first | exact (Op1.fieldAddr rfl) | exact (Op1.fieldAddrE rfl rD lT)) rfl rfl sT kR kR kR xQP ?_
            refine WPD.take 16 rfl (Op1.nilCheck rfl) rfl rfl sT kR kR kR xQP ?_
            refine WPD.take 19 rfl (by first | exact (Op1.load rfl mM (by rfl)) | exact (Op1.loadI rfl rD lT) | exact (Op1.loadAll rfl mM (by rfl)) | exact (Op1.loadE rfl rD lT (by rfl)) | exact (Op1.loadEAgg rfl rD lT (by rfl))) rfl rfl sT kR kR kR xQP ?_
            refine WPD.take 21 rfl (by first | exact (Op1.load rfl mM (by rfl)) | exact (Op1.loadI rfl rD lT) | exact (Op1.loadAll rfl mM (by rfl)) | exact (Op1.loadE rfl rD lT (by rfl)) | exact (Op1.loadEAgg rfl rD lT (by rfl))) rfl rfl sT kR kR kR xQP ?_
            refine WPD.take 17 rfl (by first | exact (Op1.load rfl mM (by rfl)) | exact (Op1.loadI rfl rD lT) | exact (Op1.loadAll rfl mM (by rfl)) | exact (Op1.loadE rfl rD lT (by rfl)) | exact (Op1.loadEAgg rfl rD lT (by rfl))) rfl rfl sT kR kR kR xQP ?_
            refine WPD.eff 22 kR rfl (OpE.call lO (fun w hw => c_isAbove _ vP vZ vS s t.B t.A (Rd.at rD hw) (Rd.at rD hw) (Rd.at rD hw) (by omega) (by have hrA := Decidable.not_not.1 h37; have := hrA.1; have := hrA.2.1; omega))) rfl rfl ?_
            rintro r _ ⟨T, ⟨rfl, rfl⟩, rfl⟩
            refine ⟨sT, ?_⟩
            refine WPD.take 23 rfl (by first | exact (Op1.notD rfl) | exact (Op1.not rfl)) rfl rfl sT kR kR kR xQP ?_
            refine WPD.take 24 rfl (by first | exact (Op1.pickT rfl rfl) | exact (Op1.pickF rfl rfl)) rfl rfl sT kR kR kR xQP ?_
            refine WPD.done kR ?_
        · try refine go ⟨?_⟩
          refine WP.condD rfl (fun hab => ?_) (fun hab => ?_)
          · try refine go ⟨?_⟩
            refine PE.ret1 (T := [Tok.blk b [vP, vZ, vS], Tok.own vP s.P, Tok.own vZ s.Z, Tok.own vS s.S]) (T' := [Tok.blk b [vP, vZ, vS], Tok.own vP s.P, Tok.own vZ s.Z, Tok.own vS s.S]) rfl rV ?_ sT2
            exact .inr ⟨fun h => hab (h.2.2 hA).2.2, rfl, rfl⟩
          have hab : abv s t.B t.A := Decidable.not_not.1 hab
          have hrA : rtB s t.A := Decidable.not_not.1 h37
          have hA1 : 0 ≤ t.A := hrA.1
          have hA2 : t.A < s.P.length := hrA.2.1
          have hok : stOk s t := ⟨by omega, hr, fun _ => ⟨h28, hrA, hab⟩⟩
          have zA := hz t.A.toNat (by omega)
          have zB := hz t.B.toNat (by omega)
          try refine go ⟨?_⟩
          refine WP.draw [Tok.blk b3 [.int .i64 t.A, .int .i64 t.B], Tok.blk b [vP, vZ, vS], Tok.own vZ s.Z, Tok.own vS s.S] mixed ?_
          refine WPD.take 0 rfl (Op1.move rfl) rfl rfl sT kR kR kR xQP ?_
          refine WPD.take 4 rfl (by first | exact (Op1.fieldAddr rfl) | exact (Op1.fieldAddrE rfl rD lT)) rfl rfl sT kR kR kR xQP ?_
          refine WPD.take 6 rfl (by first | exact (Op1.fieldAddr rfl) | exact (Op1.fieldAddrE rfl rD lT)) rfl rfl sT kR kR kR xQP ?_
          refine WPD.take 1 rfl (Op1.nilCheck rfl) rfl rfl sT kR kR kR xQP ?_
          refine WPD.take 5 rfl (by first | exact (Op1.load rfl mM (by rfl)) | exact (Op1.loadI rfl rD lT) | exact (Op1.loadAll rfl mM (by rfl)) | exact (Op1.loadE rfl rD lT (by rfl)) | exact (Op1.loadEAgg rfl rD lT (by rfl))) rfl rfl sT kR kR kR xQP ?_
          refine WPD.take 7 rfl (by first | exact (Op1.load rfl mM (by rfl)) | exact (Op1.loadI rfl rD lT) | exact (Op1.loadAll rfl mM (by rfl)) | exact (Op1.loadE rfl rD lT (by rfl)) | exact (Op1.loadEAgg rfl rD lT (by rfl))) rfl rfl sT kR kR kR xQP ?_
          refine WPD.take 2 rfl (by first | exact (Op1.fieldAddr rfl) | exact (Op1.fieldAddrE rfl rD lT)) rfl rfl sT kR kR kR xQP ?_
          refine WPD.take 3 rfl (by first | exact (Op1.load rfl mM (by rfl)) | exact (Op1.loadI rfl rD lT) | exact (Op1.loadAll rfl mM (by rfl)) | exact (Op1.loadE rfl rD lT (by rfl)) | exact (Op1.loadEAgg rfl rD lT (by rfl))) rfl rfl sT kR kR kR xQP ?_
          refine WPD.eff 8 kR rfl (OpE.ofPure (by first | exact (Op1.indexAddr rfl rfl rD lT) | exact (Op1.indexAddrZ rfl rfl rD lT))) rfl rfl ?_
          rintro _ _ ⟨rfl, rfl⟩
          refine ⟨sT, ?_⟩
          refine WPD.eff0 9 kR rfl (OpE.store1 (_) rfl rfl pM lT rfl) rfl ?_
          rintro _ _ rfl
          refine ⟨sT, ?_⟩
          refine WPD.done kR ?_
          try refine go ⟨?_⟩
          refine WP.draw [Tok.blk b3 [.int .i64 t.A, .int .i64 t.B], Tok.blk b [vP, vZ, vS], Tok.own vP (s.P.set t.A.toNat t.B), Tok.own vS s.S] mixed ?_
          refine WPD.take 0 rfl (Op1.move rfl) rfl rfl sT kR kR kR xQP ?_
          refine WPD.take 4 rfl (by first | exact (Op1.fieldAddr rfl) | exact (Op1.fieldAddrE rfl rD lT)) rfl rfl sT kR kR kR xQP ?_
          refine WPD.take 8 rfl (Op1.move rfl) rfl rfl sT kR kR kR xQP ?_
          refine WPD.take 12 rfl (by first | exact (Op1.fieldAddr rfl) | exact (Op1.fieldAddrE rfl rD lT)) rfl rfl sT kR kR kR xQP ?_
          refine WPD.take 1 rfl (Op1.nilCheck rfl) rfl rfl sT kR kR kR xQP ?_
          refine WPD.take 5 rfl (by first | exact (Op1.load rfl mM (by rfl)) | exact (Op1.loadI rfl rD lT) | exact (Op1.loadAll rfl mM (by rfl)) | exact (Op1.loadE rfl rD lT (by rfl)) | exact (Op1.loadEAgg rfl rD lT (by rfl))) rfl rfl sT kR kR kR xQP ?_
          refine WPD.take 9 rfl (Op1.nilCheck rfl) rfl rfl sT kR kR kR xQP ?_
          refine WPD.take 13 rfl (by first | exact (Op1.load rfl mM (by rfl)) | exact (Op1.loadI rfl rD lT) | exact (Op1.loadAll rfl mM (by rfl)) | exact (Op1.loadE rfl rD lT (by rfl)) | exact (Op1.loadEAgg rfl rD lT (by rfl))) rfl rfl sT kR kR kR xQP ?_
          refine WPD.take 2 rfl (by first | exact (Op1.fieldAddr rfl) | exact (Op1.fieldAddrE rfl rD lT)) rfl rfl sT kR kR kR xQP ?_
          refine WPD.take 10 rfl (by first | exact (Op1.fieldAddr rfl) | exact (Op1.fieldAddrE rfl rD lT)) rfl rfl sT kR kR kR xQP ?_
          refine WPD.take 3 rfl (by first | exact (Op1.load rfl mM (by rfl)) | exact (Op1.loadI rfl rD lT) | exact (Op1.loadAll rfl mM (by rfl)) | exact (Op1.loadE rfl rD lT (by rfl)) | exact (Op1.loadEAgg rfl rD lT (by rfl))) rfl rfl sT kR kR kR xQP ?_
          refine WPD.take 11 rfl (by first | exact (Op1.load rfl mM (by rfl)) | exact (Op1.loadI rfl rD lT) | exact (Op1.loadAll rfl mM (by rfl)) | exact (Op1.loadE rfl rD lT (by rfl)) | exact (Op1.loadEAgg rfl rD lT (by rfl))) rfl rfl sT kR kR kR xQP ?_
          refine WPD.two 6 14 kR ?e6_6 ?e6_14
          case' e6_6 =>
            refine WPO.eff rfl (OpE.ofPure (by first | exact (Op1.indexAddr rfl rfl rD lT) | exact (Op1.indexAddrZ rfl rfl rD lT))) rfl rfl ?_
            rintro _ _ ⟨rfl, rfl⟩
            refine ⟨sT, ?_⟩
            refine WPD.two 7 14 kR ?e7_7 ?e7_14
            case' e7_7 =>
              refine WPO.eff rfl (OpE.ofPure (by first | exact (Op1.load rfl mM (by rfl)) | exact (Op1.loadI rfl rD lT) | exact (Op1.loadAll rfl mM (by rfl)) | exact (Op1.loadE rfl rD lT (by rfl)) | exact (Op1.loadEAgg rfl rD lT (by rfl)))) rfl rfl ?_
              rintro _ _ ⟨rfl, rfl⟩
              refine ⟨sT, ?_⟩
              refine WPD.eff 14 kR rfl (OpE.ofPure (by first | exact (Op1.indexAddr rfl rfl rD lT) | exact (Op1.indexAddrZ rfl rfl rD lT))) rfl rfl ?_
              rintro _ _ ⟨rfl, rfl⟩
              refine ⟨sT, ?_⟩
              refine WPD.eff 15 kR rfl (OpE.ofPure (by first | exact (Op1.load rfl mM (by rfl)) | exact (Op1.loadI rfl rD lT) | exact (Op1.loadAll rfl mM (by rfl)) | exact (Op1.loadE rfl rD lT (by rfl)) | exact (Op1.loadEAgg rfl rD lT (by rfl)))) rfl rfl ?_
              rintro _ _ ⟨rfl, rfl⟩
              refine ⟨sT, ?_⟩
              refine WPD.eff 16 kR rfl (OpE.ofPure (Op1.add rfl rfl (by omega))) rfl rfl ?_
              rintro _ _ ⟨rfl, rfl⟩
              refine ⟨sT, ?_⟩
              refine WPD.eff 17 kR rfl (OpE.ofPure (by first | exact (Op1.indexAddr rfl rfl rD lT) | exact (Op1.indexAddrZ rfl rfl rD lT))) rfl rfl ?_
              rintro _ _ ⟨rfl, rfl⟩
              refine ⟨sT, ?_⟩
              refine WPD.eff0 18 kR rfl (OpE.store1 (_) rfl rfl pM lT rfl) rfl ?_
              rintro _ _ rfl
              refine ⟨sT, ?_⟩
              refine WPD.done kR ?_
            case' e7_14 =>
              refine WPO.eff rfl (OpE.ofPure (by first | exact (Op1.indexAddr rfl rfl rD lT) | exact (Op1.indexAddrZ rfl rfl rD lT))) rfl rfl ?_
              rintro _ _ ⟨rfl, rfl⟩
              refine ⟨sT, ?_⟩
              refine WPD.two 7 15 kR ?e8_7 ?e8_15
              case' e8_7 =>
                refine WPO.eff rfl (OpE.ofPure (by first | exact (Op1.load rfl mM (by rfl)) | exact (Op1.loadI rfl rD lT) | exact (Op1.loadAll rfl mM (by rfl)) | exact (Op1.loadE rfl rD lT (by rfl)) | exact (Op1.loadEAgg rfl rD lT (by rfl)))) rfl rfl ?_
                rintro _ _ ⟨rfl, rfl⟩
                refine ⟨sT, ?_⟩
                refine WPD.eff 15 kR rfl (OpE.ofPure (by first | exact (Op1.load rfl mM (by rfl)) | exact (Op1.loadI rfl rD lT) | exact (Op1.loadAll rfl mM (by rfl)) | exact (Op1.loadE rfl rD lT (by rfl)) | exact (Op1.loadEAgg rfl rD lT (by rfl)))) rfl rfl ?_
                rintro _ _ ⟨rfl, rfl⟩
                refine ⟨sT, ?_⟩
                refine WPD.eff 16 kR rfl (OpE.ofPure (Op1.add rfl rfl (by omega))) rfl rfl ?_
                rintro _ _ ⟨rfl, rfl⟩
                refine ⟨sT, ?_⟩
                refine WPD.eff 17 kR rfl (OpE.ofPure (by first | exact (Op1.indexAddr rfl rfl rD lT) | exact (Op1.indexAddrZ rfl rfl rD lT))) rfl rfl ?_
                rintro _ _ ⟨rfl, rfl⟩
                refine ⟨sT, ?_⟩
                refine WPD.eff0 18 kR rfl (OpE.store1 (_) rfl rfl pM lT rfl) rfl ?_
                rintro _ _ rfl
                refine ⟨sT, ?_⟩
                refine WPD.done kR ?_
              case' e8_15 =>
                refine WPO.eff rfl (OpE.ofPure (by first | exact (Op1.load rfl mM (by rfl)) | exact (Op1.loadI rfl rD lT) | exact (Op1.loadAll rfl mM (by rfl)) | exact (Op1.loadE rfl rD lT (by rfl)) | exact (Op1.loadEAgg rfl rD lT (by rfl)))) rfl rfl ?_
                rintro _ _ ⟨rfl, rfl⟩
                refine ⟨sT, ?_⟩
                refine WPD.eff 7 kR rfl (OpE.ofPure (by first | exact (Op1.load rfl mM (by rfl)) | exact (Op1.loadI rfl rD lT) | exact (Op1.loadAll rfl mM (by rfl)) | exact (Op1.loadE rfl rD lT (by rfl)) | exact (Op1.loadEAgg rfl rD lT (by rfl)))) rfl rfl ?_
                rintro _ _ ⟨rfl, rfl⟩
                refine ⟨sT, ?_⟩
                refine WPD.eff 16 kR rfl (OpE.ofPure (Op1.add rfl rfl (by omega))) rfl rfl ?_
                rintro _ _ ⟨rfl, rfl⟩
                refine ⟨sT, ?_⟩
                refine WPD.eff 17 kR rfl (OpE.ofPure (by first | exact (Op1.indexAddr rfl rfl rD lT) | exact (Op1.indexAddrZ rfl rfl rD lT))) rfl rfl ?_
                rintro _ _ ⟨rfl, rfl⟩
                refine ⟨sT, ?_⟩
                refine WPD.eff0 18 kR rfl (OpE.store1 (_) rfl rfl pM lT rfl) rfl ?_
                rintro _ _ rfl
                refine ⟨sT, ?_⟩
                refine WPD.done kR ?_
          case' e6_14 =>
            refine WPO.eff rfl (OpE.ofPure (by first | exact (Op1.indexAddr rfl rfl rD lT) | exact (Op1.indexAddrZ rfl rfl rD lT))) rfl rfl ?_
            rintro _ _ ⟨rfl, rfl⟩
            refine ⟨sT, ?_⟩
            refine WPD.two 6 15 kR ?e9_6 ?e9_15
            case' e9_6 =>
              refine WPO.eff rfl (OpE.ofPure (by first | exact (Op1.indexAddr rfl rfl rD lT) | exact (Op1.indexAddrZ rfl rfl rD lT))) rfl rfl ?_
              rintro _ _ ⟨rfl, rfl⟩
              refine ⟨sT, ?_⟩
              refine WPD.two 7 15 kR ?e10_7 ?e10_15
              case' e10_7 =>
                refine WPO.eff rfl (OpE.ofPure (by first | exact (Op1.load rfl mM (by rfl)) | exact (Op1.loadI rfl rD lT) | exact (Op1.loadAll rfl mM (by rfl)) | exact (Op1.loadE rfl rD lT (by rfl)) | exact (Op1.loadEAgg rfl rD lT (by rfl)))) rfl rfl ?_
                rintro _ _ ⟨rfl, rfl⟩
                refine ⟨sT, ?_⟩
                refine WPD.eff 15 kR rfl (OpE.ofPure (by first | exact (Op1.load rfl mM (by rfl)) | exact (Op1.loadI rfl rD lT) | exact (Op1.loadAll rfl mM (by rfl)) | exact (Op1.loadE rfl rD lT (by rfl)) | exact (Op1.loadEAgg rfl rD lT (by rfl)))) rfl rfl ?_
                rintro _ _ ⟨rfl, rfl⟩
                refine ⟨sT, ?_⟩
                refine WPD.eff 16 kR rfl (OpE.ofPure (Op1.add rfl rfl (by omega))) rfl rfl ?_
                rintro _ _ ⟨rfl, rfl⟩
                refine ⟨sT, ?_⟩
                refine WPD.eff 17 kR rfl (OpE.ofPure (by first | exact (Op1.indexAddr rfl rfl rD lT) | exact (Op1.indexAddrZ rfl rfl rD lT))) rfl rfl ?_
                rintro _ _ ⟨rfl, rfl⟩
                refine ⟨sT, ?_⟩
                refine WPD.eff0 18 kR rfl (OpE.store1 (_) rfl rfl pM lT rfl) rfl ?_
                rintro _ _ rfl
                refine ⟨sT, ?_⟩
                refine WPD.done kR ?_
              case' e10_15 =>
                refine WPO.eff rfl (OpE.ofPure (by first | exact (Op1.load rfl mM (by rfl)) | exact (Op1.loadI rfl rD lT) | exact (Op1.loadAll rfl mM (by rfl)) | exact (Op1.loadE rfl rD lT (by rfl)) | exact (Op1.loadEAgg rfl rD lT (by rfl)))) rfl rfl ?_
                rintro _ _ ⟨rfl, rfl⟩
                refine ⟨sT, ?_⟩
                refine WPD.eff 7 kR rfl (OpE.ofPure (by first | exact (Op1.load rfl mM (by rfl)) | exact (Op1.loadI rfl rD lT) | exact (Op1.loadAll rfl mM (by rfl)) | exact (Op1.loadE rfl rD lT (by rfl)) | exact (Op1.loadEAgg rfl rD lT (by rfl)))) rfl rfl ?_
                rintro _ _ ⟨rfl, rfl⟩
                refine ⟨sT, ?_⟩
                refine WPD.eff 16 kR rfl (OpE.ofPure (Op1.add rfl rfl (by omega))) rfl rfl ?_
                rintro _ _ ⟨rfl, rfl⟩
                refine ⟨sT, ?_⟩
                refine WPD.eff 17 kR rfl (OpE.ofPure (by first | exact (Op1.indexAddr rfl rfl rD lT) | exact (Op1.indexAddrZ rfl rfl rD lT))) rfl rfl ?_
                rintro _ _ ⟨rfl, rfl⟩
                refine ⟨sT, ?_⟩
                refine WPD.eff0 18 kR rfl (OpE.store1 (_) rfl rfl pM lT rfl) rfl ?_
                rintro _ _ rfl
                refine ⟨sT, ?_⟩
                refine WPD.done kR ?_
            case' e9_15 =>
              refine WPO.eff rfl (OpE.ofPure (by first | exact (Op1.load rfl mM (by rfl)) | exact (Op1.loadI rfl rD lT) | exact (Op1.loadAll rfl mM (by rfl)) | exact (Op1.loadE rfl rD lT (by rfl)) | exact (Op1.loadEAgg rfl rD lT (by rfl)))) rfl rfl ?_
              rintro _ _ ⟨rfl, rfl⟩
              refine ⟨sT, ?_⟩
              refine WPD.eff 6 kR rfl (OpE.ofPure (by first | exact (Op1.indexAddr rfl rfl rD lT) | exact (Op1.indexAddrZ rfl rfl rD lT))) rfl rfl ?_
              rintro _ _ ⟨rfl, rfl⟩
              refine ⟨sT, ?_⟩
              refine WPD.eff 7 kR rfl (OpE.ofPure (by first | exact (Op1.load rfl mM (by rfl)) | exact (Op1.loadI rfl rD lT) | exact (Op1.loadAll rfl mM (by rfl)) | exact (Op1.loadE rfl rD lT (by rfl)) | exact (Op1.loadEAgg rfl rD lT (by rfl)))) rfl rfl ?_
              rintro _ _ ⟨rfl, rfl⟩
              refine ⟨sT, ?_⟩
              refine WPD.eff 16 kR rfl (OpE.ofPure (Op1.add rfl rfl (by omega))) rfl rfl ?_
              rintro _ _ ⟨rfl, rfl⟩
              refine ⟨sT, ?_⟩
              refine WPD.eff 17 kR rfl (OpE.ofPure (by first | exact (Op1.indexAddr rfl rfl rD lT) | exact (Op1.indexAddrZ rfl rfl rD lT))) rfl rfl ?_
              rintro _ _ ⟨rfl, rfl⟩
              refine ⟨sT, ?_⟩
              refine WPD.eff0 18 kR rfl (OpE.store1 (_) rfl rfl pM lT rfl) rfl ?_
              rintro _ _ rfl
              refine ⟨sT, ?_⟩
              refine WPD.done kR ?_
          all_goals (
            try refine go ⟨?_⟩
            refine PE.mid (s.P.set t.A.toNat t.B, s.Z.set t.B.toNat (s.Z.getD t.B.toNat 0 + s.Z.getD t.A.toNat 0)) ⟨hok, ?_, ?_⟩ sE sT2
            · unfold stDo; rw [if_neg hA]
            · unfold stDo; rw [if_neg hA])
        · try refine go ⟨?_⟩
          refine PE.ret1 (T := [Tok.blk b [vP, vZ, vS], Tok.own vP s.P, Tok.own vZ s.Z, Tok.own vS s.S]) (T' := [Tok.blk b [vP, vZ, vS], Tok.own vP s.P, Tok.own vZ s.Z, Tok.own vS s.S]) rfl rV ?_ sT2
          exact .inr ⟨fun h => h37 (h.2.2 hA).2.1, rfl, rfl⟩
        · try refine go ⟨?_⟩
          refine PE.ret1 (T := [Tok.blk b [vP, vZ, vS], Tok.own vP s.P, Tok.own vZ s.Z, Tok.own vS s.S]) (T' := [Tok.blk b [vP, vZ, vS], Tok.own vP s.P, Tok.own vZ s.Z, Tok.own vS s.S]) rfl rV ?_ sT2
          exact .inr ⟨fun h => (h.2.2 hA).1 h28, rfl, rfl⟩
      · have hA : t.A = -1 := Decidable.not_not.1 hA
        try refine go ⟨?_⟩
        refine PE.mid (s.P, s.Z) ⟨⟨by omega, hr, fun h => absurd hA h⟩, ?_, ?_⟩ sE sT2
        · unfold stDo; rw [if_pos hA]
        · unfold stDo; rw [if_pos hA]
    · rintro ⟨P', Z'⟩ ⟨hok, e1, e2⟩
      dsimp only at e1 e2 ⊢
      subst e1 e2
      try refine go ⟨?_⟩
      refine WP.draw [Tok.blk b3 [.int .i64 t.A, .int .i64 t.B], Tok.own vP (stDo s t).P, Tok.own vZ (stDo s t).Z] mixed ?_
      refine WPD.take 0 rfl (Op1.move rfl) rfl rfl sT kR kR kR xQP ?_
      refine WPD.take 1 rfl (Op1.move rfl) rfl rfl sT kR kR kR xQP ?_
      refine WPD.take 5 rfl (by first | exact (Op1.load rfl mM (by rfl)) | exact (Op1.loadI rfl rD lT) | exact (Op1.loadAll rfl mM (by rfl)) | exact (Op1.loadE rfl rD lT (by rfl)) | exact (Op1.loadEAgg rfl rD lT (by rfl))) rfl rfl sT kR kR kR xQP ?_
      refine WPD.two 2 6 kR ?e11_2 ?e11_6
      case' e11_2 =>
        refine WPO.eff rfl (OpE.ofPure (Op1.nilCheck rfl)) rfl rfl ?_
        rintro _ _ ⟨rfl, rfl⟩
        refine ⟨sT, ?_⟩
        refine WPD.two 3 6 kR ?e12_3 ?e12_6
        case' e12_3 =>
          refine WPO.eff rfl (OpE.ofPure (by first | exact (Op1.fieldAddr rfl) | exact (Op1.fieldAddrE rfl rD lT))) rfl rfl ?_
          rintro _ _ ⟨rfl, rfl⟩
          refine ⟨sT, ?_⟩
          refine WPD.two 4 6 kR ?e13_4 ?e13_6
          case' e13_4 =>
            refine WPO.eff rfl (OpE.ofPure (by first | exact (Op1.load rfl mM (by rfl)) | exact (Op1.loadI rfl rD lT) | exact (Op1.loadAll rfl mM (by rfl)) | exact (Op1.loadE rfl rD lT (by rfl)) | exact (Op1.loadEAgg rfl rD lT (by rfl)))) rfl rfl ?_
            rintro _ _ ⟨eP, rfl⟩; have eP := eP.symm; subst eP
            refine ⟨sT, ?_⟩
            refine WPD.eff 6 kR rfl (OpE.buildSlice ([t]) pA rfl (by decide)) rfl rfl ?_
            rintro s1 _ rfl
            refine ⟨sT, ?_⟩
            refine WPD.eff 7 kR rfl (OpE.append rfl rfl pM rD lN) rfl rfl ?_
            rintro vS' _ rfl
            refine ⟨sT, ?_⟩
            refine WPD.eff 8 kR rfl (OpE.ofPure (Op1.nilCheck rfl)) rfl rfl ?_
            rintro _ _ ⟨rfl, rfl⟩
            refine ⟨sT, ?_⟩
            refine WPD.eff 9 kR rfl (OpE.ofPure (by first | exact (Op1.fieldAddr rfl) | exact (Op1.fieldAddrE rfl rD lT))) rfl rfl ?_
            rintro _ _ ⟨rfl, rfl⟩
            refine ⟨sT, ?_⟩
            refine WPD.eff0 10 kR rfl (OpE.store rfl rfl pM (by rfl) oN) rfl ?_
            rintro _ _ rfl
            refine ⟨sT, ?_⟩
            refine WPD.done kR ?_
          case' e13_6 =>
            refine WPO.eff rfl (OpE.buildSlice ([t]) pA rfl (by decide)) rfl rfl ?_
            rintro s1 _ rfl
            refine ⟨sT, ?_⟩
            refine WPD.eff 4 kR rfl (OpE.ofPure (by first | exact (Op1.load rfl mM (by rfl)) | exact (Op1.loadI rfl rD lT) | exact (Op1.loadAll rfl mM (by rfl)) | exact (Op1.loadE rfl rD lT (by rfl)) | exact (Op1.loadEAgg rfl rD lT (by rfl)))) rfl rfl ?_
            rintro _ _ ⟨eP, rfl⟩; have eP := eP.symm; subst eP
            refine ⟨sT, ?_⟩
            refine WPD.eff 7 kR rfl (OpE.append rfl rfl pM rD lN) rfl rfl ?_
            rintro vS' _ rfl
            refine ⟨sT, ?_⟩
            refine WPD.eff 8 kR rfl (OpE.ofPure (Op1.nilCheck rfl)) rfl rfl ?_
            rintro _ _ ⟨rfl, rfl⟩
            refine ⟨sT, ?_⟩
            refine WPD.eff 9 kR rfl (OpE.ofPure (by first | exact (Op1.fieldAddr rfl) | exact (Op1.fieldAddrE rfl rD lT))) rfl rfl ?_
            rintro _ _ ⟨rfl, rfl⟩
            refine ⟨sT, ?_⟩
            refine WPD.eff0 10 kR rfl (OpE.store rfl rfl pM (by rfl) oN) rfl ?_
            rintro _ _ rfl
            refine ⟨sT, ?_⟩
            refine WPD.done kR ?_
        case' e12_6 =>
          refine WPO.eff rfl (OpE.buildSlice ([t]) pA rfl (by decide)) rfl rfl ?_
          rintro s1 _ rfl
          refine ⟨sT, ?_⟩
          refine WPD.eff 3 kR rfl (OpE.ofPure (by first | exact (Op1.fieldAddr rfl) | exact (Op1.fieldAddrE rfl rD lT))) rfl rfl ?_
          rintro _ _ ⟨rfl, rfl⟩
          refine ⟨sT, ?_⟩
          refine WPD.eff 4 kR rfl (OpE.ofPure (by first | exact (Op1.load rfl mM (by rfl)) | exact (Op1.loadI rfl rD lT) | exact (Op1.loadAll rfl mM (by rfl)) | exact (Op1.loadE rfl rD lT (by rfl)) | exact (Op1.loadEAgg rfl rD lT (by rfl)))) rfl rfl ?_
          rintro _ _ ⟨eP, rfl⟩; have eP := eP.symm; subst eP
          refine ⟨sT, ?_⟩
          refine WPD.eff 7 kR rfl (OpE.append rfl rfl pM rD lN) rfl rfl ?_
          rintro vS' _ rfl
          refine ⟨sT, ?_⟩
          refine WPD.eff 8 kR rfl (OpE.ofPure (Op1.nilCheck rfl)) rfl rfl ?_
          rintro _ _ ⟨rfl, rfl⟩
          refine ⟨sT, ?_⟩
          refine WPD.eff 9 kR rfl (OpE.ofPure (by first | exact (Op1.fieldAddr rfl) | exact (Op1.fieldAddrE rfl rD lT))) rfl rfl ?_
          rintro _ _ ⟨rfl, rfl⟩
          refine ⟨sT, ?_⟩
          refine WPD.eff0 10 kR rfl (OpE.store rfl rfl pM (by rfl) oN) rfl ?_
          rintro _ _ rfl
          refine ⟨sT, ?_⟩
          refine WPD.done kR ?_
      case' e11_6 =>
        refine WPO.eff rfl (OpE.buildSlice ([t]) pA rfl (by decide)) rfl rfl ?_
        rintro s1 _ rfl
        refine ⟨sT, ?_⟩
        refine WPD.eff 2 kR rfl (OpE.ofPure (Op1.nilCheck rfl)) rfl rfl ?_
        rintro _ _ ⟨rfl, rfl⟩
        refine ⟨sT, ?_⟩
        refine WPD.eff 3 kR rfl (OpE.ofPure (by first | exact (Op1.fieldAddr rfl) | exact (Op1.fieldAddrE rfl rD lT))) rfl rfl ?_
        rintro _ _ ⟨rfl, rfl⟩
        refine ⟨sT, ?_⟩
        refine WPD.eff 4 kR rfl (OpE.ofPure (by first | exact (Op1.load rfl mM (by rfl)) | exact (Op1.loadI rfl rD lT) | exact (Op1.loadAll rfl mM (by rfl)) | exact (Op1.loadE rfl rD lT (by rfl)) | exact (Op1.loadEAgg rfl rD lT (by rfl)))) rfl rfl ?_
        rintro _ _ ⟨eP, rfl⟩; have eP := eP.symm; subst eP
        refine ⟨sT, ?_⟩
        refine WPD.eff 7 kR rfl (OpE.append rfl rfl pM rD lN) rfl rfl ?_
        rintro vS' _ rfl
        refine ⟨sT, ?_⟩
        refine WPD.eff 8 kR rfl (OpE.ofPure (Op1.nilCheck rfl)) rfl rfl ?_
        rintro _ _ ⟨rfl, rfl⟩
        refine ⟨sT, ?_⟩
        refine WPD.eff 9 kR rfl (OpE.ofPure (by first | exact (Op1.fieldAddr rfl) | exact (Op1.fieldAddrE rfl rD lT))) rfl rfl ?_
        rintro _ _ ⟨rfl, rfl⟩
        refine ⟨sT, ?_⟩
        refine WPD.eff0 10 kR rfl (OpE.store rfl rfl pM (by rfl) oN) rfl ?_
        rintro _ _ rfl
        refine ⟨sT, ?_⟩
        refine WPD.done kR ?_
      all_goals (
        try refine go ⟨?_⟩
        refine PE.ret1 (T := [Tok.blk b [vP, vZ, vS], Tok.own vP s.P, Tok.own vZ s.Z, Tok.own vS s.S]) (T' := [Tok.blk b [vP, vZ, vS'], Tok.own vP (stDo s t).P, Tok.own vZ (stDo s t).Z, Tok.own vS' (stDo s t).S]) rfl rV ?_ (by rw [stDo_S]; exact sT2)
        exact .inl ⟨hok, rfl, vS', rfl⟩)
  · try refine go ⟨?_⟩
    refine PE.ret1 (T := [Tok.blk b [vP, vZ, vS], Tok.own vP s.P, Tok.own vZ s.Z, Tok.own vS s.S]) (T' := [Tok.blk b [vP, vZ, vS], Tok.own vP s.P, Tok.own vZ s.Z, Tok.own vS s.S]) rfl rV ?_ sT2
    exact .inr ⟨fun h => h.1 (by omega), rfl, rfl⟩
end Go.Proofs.Ythlgbeakcobeoaa
/- Sets: the walks of root, replay, SetsValid, hasElement, FindRoot. Conditions: those of each contract. -/
namespace Go.Proofs.Ythlgbeakcobeoaa
open Go
/-- The steps can be made. -/
def RPok (n : Int) (S : List E) : Prop := (1 ≤ n ∧ n ≤ 16) ∧ (repl n.toNat S).isSome = true
instance (n : Int) (S : List E) : Decidable (RPok n S) := by unfold RPok; infer_instance
def EL (s : SS) (x : Int) : Prop := SV s ∧ 0 ≤ x ∧ x < s.P.length
instance (s : SS) (x : Int) : Decidable (EL s x) := by unfold EL; infer_instance
theorem SV_iff {s : SS} {s' : SS} (h : RPok s.P.length s.S → repl s.P.length s.S = some s') : SV s ↔ RPok s.P.length s.S ∧ s'.P = s.P ∧ s'.Z = s.Z := by
  have e : ((s.P.length : Nat) : Int).toNat = s.P.length := Int.toNat_natCast _
  constructor
  · rintro ⟨h1, h2, h3⟩
    have hr : RPok s.P.length s.S := ⟨by omega, by rw [e, h3]; rfl⟩
    have := h hr
    rw [h3] at this
    simp only [Option.some.injEq] at this
    subst this
    exact ⟨hr, rfl, rfl⟩
  · rintro ⟨h1, h2, h3⟩
    have hr := h h1
    have hS := (repl_inv _ _ _ hr).2
    have : s' = s := by cases s; cases s'; simp_all
    subst this
    exact ⟨by have := h1.1.1; omega, by have := h1.1.2; omega, hr⟩
theorem replay_bad {n : Nat} {S : List E} {k : Nat} (h : repl n (S.take k) = none) : repl n S = none := by
  unfold repl at *
  rw [← List.take_append_drop k S, List.foldl_append, h, foldl_repo_none]
theorem Inv.z1 {n : Nat} {s : SS} {L : List Int} (h : Inv n s L) (hn : n ≤ 16) : ∀ x : Nat, x < s.Z.length → 0 ≤ s.Z.getD x 0 ∧ s.Z.getD x 0 ≤ 1000 := fun x hx => by
  have := h.zb x (by rw [h.lz] at hx; exact hx)
  omega
/-- What NewSets returns. -/
def nsS (n : Int) : SS := if 1 ≤ n ∧ n ≤ 16 then newS n.toNat else ⟨[], [], []⟩
theorem own_nilA {α : Type} [Enc α] (w : World) : (Tok.own (.slice none 0 0) ([] : List α)).holds w := ⟨by show _ = 0 * _; rw [Nat.zero_mul]; rfl, .inl ⟨rfl, rfl⟩⟩
theorem Upd.nilL {α : Type} [Enc α] {w w' : World} {T A B : List Tok} (h : Upd w w' T (A ++ B)) : Upd w w' T (A ++ Tok.own (.slice none 0 0) ([] : List α) :: B) := by
  have e : fps (A ++ Tok.own (.slice none 0 0) ([] : List α) :: B) = fps (A ++ B) := by
    rw [fps_append, fps_append, fps_cons]; rfl
  refine ⟨by rw [e]; exact h.nodup, fun t ht => ?_, by rw [e]; exact h.base, h.keep, h.size, h.os, h.tape, h.output⟩
  rcases List.mem_append.1 ht with ht | ht
  · exact h.holds t (by simp [ht])
  · rcases List.mem_cons.1 ht with rfl | ht
    · exact own_nilA w'
    · exact h.holds t (by simp [ht])
theorem c_NewS (w : World) (n : Int) : Tri Try.prog 40 [.int .i64 n] w [] fun r T =>
    ∃ a b c, r = .tuple #[setV a b c, .bool (decide (1 ≤ n ∧ n ≤ 16))] ∧ T = [Tok.own a (nsS n).P, Tok.own b (nsS n).Z, Tok.own c (nsS n).S] :=
  fun hn hh => (c_NewSets w n hn hh).mono fun e w' ⟨v, T', he, hv, hu⟩ => by
    rcases hv with ⟨ha, vP, vZ, rfl, rfl⟩ | ⟨ha, rfl, rfl⟩
    · refine ⟨_, _, he, ⟨vP, vZ, nilS, by rw [decide_eq_true ha], rfl⟩, ?_⟩
      have e1 : nsS n = newS n.toNat := if_pos ha
      rw [e1]
      exact hu.nilL (A := [Tok.own vP (List.replicate n.toNat (-1 : Int)), Tok.own vZ (List.replicate n.toNat (1 : Int))]) (B := []) (α := E)
    · refine ⟨_, _, he, ⟨nilS, nilS, nilS, by rw [decide_eq_false ha], rfl⟩, ?_⟩
      have e1 : nsS n = ⟨[], [], []⟩ := if_neg ha
      rw [e1]
      have h1 := hu.nilL (A := []) (B := []) (α := E)
      have h2 := h1.nilL (A := []) (α := Int)
      exact h2.nilL (A := []) (α := Int)
set_option linter.unusedVariables false set_option linter.unusedSimpArgs false attribute [local irreducible] Tok.own Tok.blk RL Rd eptr WP WPL PE WPD WPO Op1 OpE Tri Again Mid Exit.then Exit.inBlock bodyPost RP Code.wp wpList isOwn OneM One
attribute [local irreducible] SV RPok
set_option maxHeartbeats 8000000

theorem c_root (w : World) (vP vZ vS : Value) (n : Nat) (s : SS) (L : List Int) (x : Int) (hP : RL w vP s.P) (hZ : RL w vZ s.Z) (hS : RL w vS s.S) (hi : Inv n s L) (hn : n ≤ 16) (hx : Nd n x) :
    Tri Try.prog 92 [setV vP vZ vS, .int .i64 x] w [] fun r T => T = [] ∧ r = .int .i64 (L.getD x.toNat 0) := by
  have hlp := hi.lp
  refine Tri.intro (hf := Try.func92) (hb := rfl) (hn := Try.ntmps92) (Nat.le_of_ble_eq_true rfl) ?_
  try refine go ⟨?_⟩
  refine WPL.eff (OpE.box rfl) rfl rfl ?_; rintro _ _ ⟨b, rfl, rfl⟩
  try refine go ⟨?_⟩
  refine WP.loop (σ := Nat) (fun y => [(1, .int .i64 y), (2, .pointer (some ⟨b, 0, none⟩))]) (fun _ => [Tok.blk b [vP, vZ, vS]]) (fun y => y < n ∧ L.getD y 0 = L.getD x.toNat 0) (fun y => 20 - (s.Z.getD y 0).toNat) x.toNat ⟨by unfold Nd at hx; omega, rfl⟩ ?_ ?_ ?_
  · rw [Int.toNat_of_nonneg hx.1]; exact sE
  · exact sT2
  rintro y ⟨hy, hL⟩
  have hzy := hi.zb y hy
  try refine go ⟨?_⟩
  refine WP.condD rfl (fun hc => ?_) (fun hc => ?_)
  · obtain ⟨h1, h2, h3, h4⟩ := hi.up y hy hc
    have hz2 := hi.zb (s.P.getD y 0).toNat (by have := h1.1; have := h1.2; omega)
    obtain ⟨q, hq⟩ := Int.eq_ofNat_of_zero_le h1.1
    try refine go ⟨?_⟩
    refine PE.again (s.P.getD y 0).toNat ?_ ?_ ?_ sT2
    · exact ⟨by have := h1.1; have := h1.2; omega, h2.symm.trans hL⟩
    · (try dsimp only); omega
    · rw [Int.toNat_of_nonneg h1.1]; exact sE
  · have hr := (hi.rt y hy (Decidable.not_not.1 hc)).1
    try refine go ⟨?_⟩
    refine PE.ret1 (T := []) (T' := []) rfl rV ?_ sT
    exact ⟨rfl, by rw [← hL, hr]⟩

theorem c_replay (w : World) (n : Int) (vL : Value) (S : List E) (hL : RL w vL S) (hl : S.length ≤ 1099511627776) :
    Tri Try.prog 93 [.int .i64 n, vL] w [] fun r T => ∃ a b c, ∃ s : SS, r = .tuple #[setV a b c, .bool (decide (RPok n S))] ∧ T = [Tok.own a s.P, Tok.own b s.Z, Tok.own c s.S] ∧ (RPok n S → repl n.toNat S = some s) := by
  refine Tri.intro (hf := Try.func93) (hb := rfl) (hn := Try.ntmps93) (Nat.le_of_ble_eq_true rfl) ?_
  try refine go ⟨?_⟩
  refine WPL.eff OpE.alloc rfl rfl ?_; rintro _ _ ⟨b4, rfl, rfl⟩
  try refine go ⟨?_⟩
  refine WPL.eff (OpE.call lO (fun w hw => c_NewS _ n)) rfl rfl ?_
  rintro r _ ⟨T, ⟨vP, vZ, vS, rfl, rfl⟩, rfl⟩
  try refine go ⟨?_⟩
  refine WPL.eff OpE.alloc rfl rfl ?_; rintro _ _ ⟨b6, rfl, rfl⟩
  try refine go ⟨?_⟩
  refine WP.loop (σ := Nat × Bool × Value × SS) (fun q => [(0, .int .i64 n), (1, vL), (4, .pointer (some ⟨b4, 0, none⟩)), (6, .pointer (some ⟨b6, 0, none⟩)), (7, .bool q.2.1), (15, vL), (16, .int .i64 S.length), (17, .int .i64 q.1)])
    (fun q => [Tok.blk b6 [vP, vZ, q.2.2.1], Tok.own vP q.2.2.2.P, Tok.own vZ q.2.2.2.Z, Tok.own q.2.2.1 q.2.2.2.S, Tok.blk b4 [.slice none 0 0, .slice none 0 0, .slice none 0 0]])
    (fun q => q.1 ≤ S.length ∧ (q.2.1 = true → (1 ≤ n ∧ n ≤ 16) ∧ repl n.toNat (S.take q.1) = some q.2.2.2) ∧ (q.2.1 = false → ¬ RPok n S)) (fun q => S.length - q.1) (0, decide (1 ≤ n ∧ n ≤ 16), vS, nsS n) ⟨Nat.zero_le _, fun h => ?_, fun h => ?_⟩ sE sT2 ?_
  · have h := of_decide_eq_true h
    refine ⟨h, ?_⟩
    show some (newS n.toNat) = some (nsS n)
    unfold nsS; rw [if_pos h]
  · have h := of_decide_eq_false h
    unfold RPok; exact fun h' => h h'.1
  rintro ⟨k, ok, vS', s⟩ ⟨hk, h1, h2⟩
  dsimp only at hk h1 h2 ⊢
  try refine go ⟨?_⟩
  refine WP.condD rfl (fun hc => ?_) (fun hc => ?_)
  · have hk' : k < S.length := by omega
    try refine go ⟨?_⟩
    refine WPL.eff OpE.alloc rfl rfl ?_; rintro _ _ ⟨b9, rfl, rfl⟩
    try refine go ⟨?_⟩
    cases ok
    · try refine go ⟨?_⟩
      refine PE.again (k + 1, false, vS', s) ?_ ?_ sE sT2
      · exact ⟨hk', fun h => (by cases h), fun _ => h2 rfl⟩
      · (try dsimp only); omega
    · obtain ⟨hn, hr⟩ := h1 rfl
      obtain ⟨hi, hS⟩ := repl_inv _ _ _ hr
      have hn16 : n.toNat ≤ 16 := by omega
      have e0 : repl n.toNat (S.take (k + 1)) = repo (some s) (S.getD k eD) := by rw [take_succD eD hk', repl_snoc, hr]
      try refine go ⟨?_⟩
      refine WPL.eff (OpE.callT (T := [Tok.blk b6 [vP, vZ, vS'], Tok.own vP s.P, Tok.own vZ s.Z, Tok.own vS' s.S]) lO pM2 (fun w hw => c_step _ b6 vP vZ vS' s (S.getD k eD) (by rw [hi.lp, hi.lz]) (by rw [hi.lp]; omega) (hi.z1 hn16) (by have := hi.cs; omega))) rfl rfl ?_
      rintro r _ ⟨T, hr2, rfl⟩
      rcases hr2 with ⟨hok, rfl, vS2, rfl⟩ | ⟨hno, rfl, rfl⟩
      · try refine go ⟨?_⟩
        refine PE.again (k + 1, true, vS2, stDo s (S.getD k eD)) ?_ ?_ sE sT2
        · exact ⟨hk', fun _ => ⟨hn, by rw [e0, repo_some hok]⟩, fun h => by cases h⟩
        · (try dsimp only); omega
      · try refine go ⟨?_⟩
        refine PE.again (k + 1, false, vS', s) ?_ ?_ sE sT2
        · refine ⟨hk', fun h => (by cases h), fun _ => ?_⟩
          have := replay_bad (by rw [e0, repo_bad hno])
          unfold RPok; rw [this]; exact fun h => by cases h.2
        · (try dsimp only); omega
  · have hkn : k = S.length := by omega
    subst hkn
    rw [List.take_length] at h1
    try refine go ⟨?_⟩
    refine PE.ret2 (T := []) (T' := [Tok.own vP s.P, Tok.own vZ s.Z, Tok.own vS' s.S]) rfl rV ?_ sT2
    refine ⟨vP, vZ, vS', s, ?_, rfl, fun h => ?_⟩
    · cases ok
      · rw [decide_eq_false (h2 rfl)]; rfl
      · obtain ⟨hn, hr⟩ := h1 rfl
        rw [decide_eq_true]; rfl
        unfold RPok; rw [hr]; exact ⟨hn, rfl⟩
    · cases ok
      · exact absurd h (h2 rfl)
      · exact (h1 rfl).2
end Go.Proofs.Ythlgbeakcobeoaa
/- Sets: the walks of SetsValid, hasElement, FindRoot, MembersOf, unite. Conditions: those of each contract. -/
namespace Go.Proofs.Ythlgbeakcobeoaa
open Go
theorem EL.sv {s : SS} {x : Int} (h : EL s x) : SV s := h.1
theorem EL.nd {s : SS} {x : Int} (h : EL s x) : Nd s.P.length x := h.2
theorem SV.le {s : SS} (h : SV s) : s.P.length ≤ 16 := h.2.1
theorem SV.pos {s : SS} (h : SV s) : 1 ≤ s.P.length := h.1
def mem (s : SS) (x : Int) : List Int := mbs s.P.length (lb s) ((lb s).getD x.toNat 0)
theorem mbs_take {n : Nat} {L : List Int} {r : Int} {k : Nat} (hk : k < n) : ((iota n).take (k + 1)).filter (fun y => decide (L.getD y.toNat 0 = r)) = if L.getD k 0 = r then ((iota n).take k).filter (fun y => decide (L.getD y.toNat 0 = r)) ++ [(k : Int)] else ((iota n).take k).filter (fun y => decide (L.getD y.toNat 0 = r)) := by
  rw [take_succD 0 (by rw [iota_length]; exact hk), List.filter_append, iota_get hk]
  split
  · rename_i h; simp only [List.filter_cons, List.filter_nil, Int.toNat_natCast, h, decide_true, if_true]
  · rename_i h; simp only [List.filter_cons, List.filter_nil, Int.toNat_natCast, h, decide_false, Bool.false_eq_true, if_false, List.append_nil]
set_option linter.unusedVariables false set_option linter.unusedSimpArgs false attribute [local irreducible] Tok.own Tok.blk RL Rd eptr WP WPL PE WPD WPO Op1 OpE Tri Again Mid Exit.then Exit.inBlock bodyPost RP Code.wp wpList isOwn OneM One
attribute [local irreducible] SV RPok EL
set_option maxHeartbeats 8000000

theorem c_SetsValid (w : World) (vP vZ vS : Value) (s : SS) (hP : RL w vP s.P) (hZ : RL w vZ s.Z) (hS : RL w vS s.S) (l1 : s.P.length ≤ 1099511627776) (l2 : s.Z.length ≤ 1099511627776) (l3 : s.S.length ≤ 1099511627776) :
    Tri Try.prog 45 [setV vP vZ vS] w [] fun r T => T = [] ∧ r = .bool (decide (SV s)) := by
  refine Tri.intro (hf := Try.func45) (hb := rfl) (hn := Try.ntmps45) (Nat.le_of_ble_eq_true rfl) ?_
  try refine go ⟨?_⟩
  refine WPL.eff (OpE.box rfl) rfl rfl ?_; rintro _ _ ⟨b, rfl, rfl⟩
  try refine go ⟨?_⟩
  refine WPL.eff (OpE.call lO (fun w hw => c_replay _ s.P.length vS s.S (Rd.at rD hw) l3)) rfl rfl ?_
  rintro r _ ⟨T, ⟨a, b', c, s', rfl, rfl, hr⟩, rfl⟩
  try refine go ⟨?_⟩
  refine WPL.eff OpE.alloc rfl rfl ?_; rintro _ _ ⟨b3, rfl, rfl⟩
  try refine go ⟨?_⟩
  have hiff := SV_iff (s := s) (s' := s') (fun h => by have := hr h; rwa [Int.toNat_natCast] at this)
  by_cases hok : RPok s.P.length s.S
  · rw [decide_eq_true hok]
    have hrr := hr hok
    obtain ⟨hi, _⟩ := repl_inv _ _ _ hrr
    have q1 := hi.lp
    have q2 := hi.lz
    rw [Int.toNat_natCast] at q1 q2
    try refine go ⟨?_⟩
    refine WPL.eff (OpE.call lO (fun w hw => c_EqualI _ a vP s'.P s.P (Rd.at rD hw) (Rd.at rD hw) (by omega) (by omega))) rfl rfl ?_
    rintro r _ ⟨T, ⟨rfl, rfl⟩, rfl⟩
    by_cases e1 : s'.P = s.P
    · rw [decide_eq_true e1]
      try refine go ⟨?_⟩
      refine WPL.eff (OpE.call lO (fun w hw => c_EqualI _ b' vZ s'.Z s.Z (Rd.at rD hw) (Rd.at rD hw) (by omega) (by omega))) rfl rfl ?_
      rintro r _ ⟨T, ⟨rfl, rfl⟩, rfl⟩
      try refine go ⟨?_⟩
      refine PE.ret1 (T := []) (T' := []) rfl rV ?_ sT
      refine ⟨rfl, ?_⟩
      congr 1; rw [decide_eq_decide, hiff]; exact ⟨fun h => ⟨hok, e1, h⟩, fun h => h.2.2⟩
    · rw [decide_eq_false e1]
      try refine go ⟨?_⟩
      refine PE.ret1 (T := []) (T' := []) rfl rV ?_ sT
      refine ⟨rfl, ?_⟩
      rw [decide_eq_false]; rw [hiff]; exact fun h => e1 h.2.1
  · rw [decide_eq_false hok]
    try refine go ⟨?_⟩
    refine PE.ret1 (T := []) (T' := []) rfl rV ?_ sT
    refine ⟨rfl, ?_⟩
    rw [decide_eq_false]; rw [hiff]; exact fun h => hok h.1

theorem c_hasElement (w : World) (vP vZ vS : Value) (s : SS) (x : Int) (hP : RL w vP s.P) (hZ : RL w vZ s.Z) (hS : RL w vS s.S) (l1 : s.P.length ≤ 1099511627776) (l2 : s.Z.length ≤ 1099511627776) (l3 : s.S.length ≤ 1099511627776) :
    Tri Try.prog 91 [setV vP vZ vS, .int .i64 x] w [] fun r T => T = [] ∧ r = .bool (decide (EL s x)) := by
  have hE : EL s x ↔ SV s ∧ 0 ≤ x ∧ x < s.P.length := by unfold EL; exact Iff.rfl
  refine Tri.intro (hf := Try.func91) (hb := rfl) (hn := Try.ntmps91) (Nat.le_of_ble_eq_true rfl) ?_
  try refine go ⟨?_⟩
  refine WPL.eff (OpE.box rfl) rfl rfl ?_; rintro _ _ ⟨b, rfl, rfl⟩
  try refine go ⟨?_⟩
  refine WPL.eff (OpE.call lO (fun w hw => c_SetsValid _ vP vZ vS s (Rd.at rD hw) (Rd.at rD hw) (Rd.at rD hw) l1 l2 l3)) rfl rfl ?_
  rintro r _ ⟨T, ⟨rfl, rfl⟩, rfl⟩
  repeat' (first | refine go ⟨?_⟩ | (refine isCond ?_; refine WP.condD rfl (fun hc => ?_) (fun hc => ?_)) | (refine isGuard ?_; refine WPL.splitD rfl rfl (fun hc => ?_) (fun hc => ?_)))
  all_goals (refine PE.ret1 (T := []) (T' := []) rfl rV ?_ sT; refine ⟨rfl, ?_⟩)
  · congr 1; rw [decide_eq_decide, hE]; exact ⟨fun h => ⟨by assumption, by omega, h⟩, fun h => h.2.2⟩
  · rw [decide_eq_false]; rw [hE]; omega
  · rw [decide_eq_false]; rw [hE]; exact fun h => absurd h.1 ‹_›

theorem c_FindRoot (w : World) (vP vZ vS : Value) (s : SS) (x : Int) (hP : RL w vP s.P) (hZ : RL w vZ s.Z) (hS : RL w vS s.S) (l1 : s.P.length ≤ 1099511627776) (l2 : s.Z.length ≤ 1099511627776) (l3 : s.S.length ≤ 1099511627776) :
    Tri Try.prog 44 [setV vP vZ vS, .int .i64 x] w [] fun r T => T = [] ∧ r = .tuple #[.int .i64 (if EL s x then (lb s).getD x.toNat 0 else 0), .bool (decide (EL s x))] := by
  refine Tri.intro (hf := Try.func44) (hb := rfl) (hn := Try.ntmps44) (Nat.le_of_ble_eq_true rfl) ?_
  try refine go ⟨?_⟩
  refine WPL.eff (OpE.box rfl) rfl rfl ?_; rintro _ _ ⟨b, rfl, rfl⟩
  try refine go ⟨?_⟩
  refine WPL.eff (OpE.call lO (fun w hw => c_hasElement _ vP vZ vS s x (Rd.at rD hw) (Rd.at rD hw) (Rd.at rD hw) l1 l2 l3)) rfl rfl ?_
  rintro r _ ⟨T, ⟨rfl, rfl⟩, rfl⟩
  by_cases h : EL s x
  · rw [decide_eq_true h, if_pos h]
    try refine go ⟨?_⟩
    refine WPL.eff (OpE.call lO (fun w hw => c_root _ vP vZ vS s.P.length s (lb s) x (Rd.at rD hw) (Rd.at rD hw) (Rd.at rD hw) h.sv.inv h.sv.le h.nd)) rfl rfl ?_
    rintro r _ ⟨T, ⟨rfl, rfl⟩, rfl⟩
    try refine go ⟨?_⟩
    refine PE.ret2 (T := []) (T' := []) rfl rV ?_ sT
    exact ⟨rfl, rfl⟩
  · rw [decide_eq_false h, if_neg h]
    try refine go ⟨?_⟩
    refine PE.ret2 (T := []) (T' := []) rfl rV ?_ sT
    exact ⟨rfl, rfl⟩

theorem c_MembersOf (w : World) (vP vZ vS : Value) (s : SS) (x : Int) (hP : RL w vP s.P) (hZ : RL w vZ s.Z) (hS : RL w vS s.S) (l1 : s.P.length ≤ 1099511627776) (l2 : s.Z.length ≤ 1099511627776) (l3 : s.S.length ≤ 1099511627776) :
    Tri Try.prog 43 [setV vP vZ vS, .int .i64 x] w [] fun r T => ∃ v, r = .tuple #[v, .bool (decide (EL s x))] ∧ T = [Tok.own v (if EL s x then mem s x else [])] := by
  refine Tri.intro (hf := Try.func43) (hb := rfl) (hn := Try.ntmps43) (Nat.le_of_ble_eq_true rfl) ?_
  try refine go ⟨?_⟩
  refine WPL.eff (OpE.box rfl) rfl rfl ?_; rintro _ _ ⟨b, rfl, rfl⟩
  try refine go ⟨?_⟩
  refine WPL.eff (OpE.call lO (fun w hw => c_hasElement _ vP vZ vS s x (Rd.at rD hw) (Rd.at rD hw) (Rd.at rD hw) l1 l2 l3)) rfl rfl ?_
  rintro r _ ⟨T, ⟨rfl, rfl⟩, rfl⟩
  by_cases h : EL s x
  · rw [decide_eq_true h, if_pos h]
    have hle := h.sv.le
    have hi := h.sv.inv
    have hnd := h.nd
    obtain ⟨n, hn⟩ : ∃ n, n = s.P.length := ⟨_, rfl⟩
    have hmem : mem s x = ((iota n).take n).filter (fun y => decide ((lb s).getD y.toNat 0 = (lb s).getD x.toNat 0)) := by
      have := List.take_length (l := iota n)
      rw [iota_length] at this
      rw [this, hn]; rfl
    try refine go ⟨?_⟩
    refine WPL.eff (OpE.buildSlice ([] : List Int) pA rfl (by decide)) rfl rfl ?_; rintro v0 _ rfl
    try refine go ⟨?_⟩
    refine WP.loop (σ := Nat × Value) (fun q => [(1, .int .i64 x), (2, .pointer (some ⟨b, 0, none⟩)), (6, q.2), (15, .int .i64 s.P.length), (16, .int .i64 q.1)]) (fun q => [Tok.own q.2 (((iota n).take q.1).filter (fun y => decide ((lb s).getD y.toNat 0 = (lb s).getD x.toNat 0))), Tok.blk b [vP, vZ, vS]]) (fun q => q.1 ≤ n) (fun q => n - q.1) (0, v0) (Nat.zero_le _) sE sT2 ?_
    rintro ⟨k, v⟩ hk
    dsimp only at hk ⊢
    try refine go ⟨?_⟩
    refine WP.condD rfl (fun hc => ?_) (fun hc => ?_)
    · have hk' : k < n := by omega
      have hkd : Nd s.P.length (k : Int) := ⟨by omega, hc⟩
      have hfl := filt_le (iota n) k (fun y => decide ((lb s).getD y.toNat 0 = (lb s).getD x.toNat 0))
      rw [iota_length] at hfl
      have hmt := mbs_take (n := n) (L := lb s) (r := (lb s).getD x.toNat 0) hk'
      try refine go ⟨?_⟩
      refine WP.draw [Tok.own v (((iota n).take k).filter (fun y => decide ((lb s).getD y.toNat 0 = (lb s).getD x.toNat 0))), Tok.blk b [vP, vZ, vS]] mixed ?_
      refine WPD.take 0 rfl (by first | exact (Op1.load rfl mM (by rfl)) | exact (Op1.loadI rfl rD lT) | exact (Op1.loadAll rfl mM (by rfl)) | exact (Op1.loadE rfl rD lT (by rfl)) | exact (Op1.loadEAgg rfl rD lT (by rfl))) rfl rfl sT kR kR kR xQP ?_
      refine WPD.take 1 rfl (Op1.move rfl) rfl rfl sT kR kR kR xQP ?_
      refine WPD.take 3 rfl (by first | exact (Op1.load rfl mM (by rfl)) | exact (Op1.loadI rfl rD lT) | exact (Op1.loadAll rfl mM (by rfl)) | exact (Op1.loadE rfl rD lT (by rfl)) | exact (Op1.loadEAgg rfl rD lT (by rfl))) rfl rfl sT kR kR kR xQP ?_
      refine WPD.take 4 rfl (Op1.move rfl) rfl rfl sT kR kR kR xQP ?_
      refine WPD.eff 2 kR rfl (OpE.call lO (fun w hw => c_root _ vP vZ vS s.P.length s (lb s) k (Rd.at rD hw) (Rd.at rD hw) (Rd.at rD hw) hi hle hkd)) rfl rfl ?_
      rintro r _ ⟨T, ⟨rfl, rfl⟩, rfl⟩
      refine ⟨sT, ?_⟩
      refine WPD.eff 5 kR rfl (OpE.call lO (fun w hw => c_root _ vP vZ vS s.P.length s (lb s) x (Rd.at rD hw) (Rd.at rD hw) (Rd.at rD hw) hi hle hnd)) rfl rfl ?_
      rintro r _ ⟨T, ⟨rfl, rfl⟩, rfl⟩
      refine ⟨sT, ?_⟩
      refine WPD.take 6 rfl (by first | exact (Op1.eqI rfl rfl) | exact (Op1.eqB rfl rfl) | exact (Op1.eqE rfl rfl) | exact (Op1.eqNil rfl rD)) rfl rfl sT kR kR kR xQP ?_
      refine WPD.done kR ?_
      rw [Int.toNat_natCast]
      try refine go ⟨?_⟩
      refine WP.condD rfl (fun he => ?_) (fun he => ?_)
      · rw [if_pos he] at hmt
        try refine go ⟨?_⟩
        refine WPL.eff (OpE.buildSlice [(k : Int)] pA rfl (by decide)) rfl rfl ?_; rintro s1 _ rfl
        try refine go ⟨?_⟩
        refine WPL.eff (OpE.append rfl rfl pM rD lN) rfl rfl ?_; rintro v1 _ rfl
        try refine go ⟨?_⟩
        rw [← hmt]
        refine PE.again (k + 1, v1) ?_ ?_ sE sT2
        · (try dsimp only); omega
        · (try dsimp only); omega
      · rw [if_neg he] at hmt
        try refine go ⟨?_⟩
        rw [← hmt]
        refine PE.again (k + 1, v) ?_ ?_ sE sT2
        · (try dsimp only); omega
        · (try dsimp only); omega
    · have hkn : k = n := by omega
      subst hkn
      try refine go ⟨?_⟩
      refine PE.ret2 (T := []) (T' := [Tok.own v (((iota k).take k).filter (fun y => decide ((lb s).getD y.toNat 0 = (lb s).getD x.toNat 0)))]) rfl rV ?_ sT2
      exact ⟨v, rfl, by rw [hmem]⟩
  · rw [decide_eq_false h, if_neg h]
    try refine go ⟨?_⟩
    refine PE.nilTok Int ?_
    refine PE.ret2 (T := []) (T' := [Tok.own (.slice none 0 0) ([] : List Int)]) rfl rV ?_ sT2
    exact ⟨_, rfl, rfl⟩
end Go.Proofs.Ythlgbeakcobeoaa
/- Sets: the walks of unite, UniteSets, UndoSets, SetsOf. Conditions: those of each contract. -/
namespace Go.Proofs.Ythlgbeakcobeoaa
open Go
theorem unS_eq {s : SS} {x y : Int} (h : (lb s).getD x.toNat 0 = (lb s).getD y.toNat 0) : unS s x y = ⟨-1, (lb s).getD x.toNat 0⟩ := by unfold unS; rw [if_pos h]
theorem unS_abv {s : SS} {x y : Int} (h : (lb s).getD x.toNat 0 ≠ (lb s).getD y.toNat 0) (h2 : abv s ((lb s).getD x.toNat 0) ((lb s).getD y.toNat 0)) : unS s x y = ⟨(lb s).getD y.toNat 0, (lb s).getD x.toNat 0⟩ := by unfold unS; rw [if_neg h, if_pos h2]
theorem unS_bel {s : SS} {x y : Int} (h : (lb s).getD x.toNat 0 ≠ (lb s).getD y.toNat 0) (h2 : ¬ abv s ((lb s).getD x.toNat 0) ((lb s).getD y.toNat 0)) : unS s x y = ⟨(lb s).getD x.toNat 0, (lb s).getD y.toNat 0⟩ := by unfold unS; rw [if_neg h, if_neg h2]
/-- What UniteSets asks for. -/
def UNok (s : SS) (x y : Int) : Prop := EL s x ∧ EL s y ∧ s.S.length ≠ 100
instance (s : SS) (x y : Int) : Decidable (UNok s x y) := by unfold UNok; infer_instance
def noSS : SS := ⟨[], [], []⟩
def uniR (s : SS) (x y : Int) : SS := if UNok s x y then uni s x y else noSS
def UDok (s : SS) (k : Int) : Prop := SV s ∧ 0 ≤ k ∧ k ≤ s.S.length
instance (s : SS) (k : Int) : Decidable (UDok s k) := by unfold UDok; infer_instance
set_option linter.unusedVariables false set_option linter.unusedSimpArgs false attribute [local irreducible] Tok.own Tok.blk RL Rd eptr WP WPL PE WPD WPO Op1 OpE Tri Again Mid Exit.then Exit.inBlock bodyPost RP Code.wp wpList isOwn OneM One
attribute [local irreducible] SV RPok EL
set_option maxHeartbeats 8000000

theorem c_unite (w : World) (b : Nat) (vP vZ vS : Value) (s : SS) (x y : Int) (h : SV s) (hx : Nd s.P.length x) (hy : Nd s.P.length y) :
    Tri Try.prog 104 [.pointer (some ⟨b, 0, none⟩), .int .i64 x, .int .i64 y] w [Tok.blk b [vP, vZ, vS], Tok.own vP s.P, Tok.own vZ s.Z, Tok.own vS s.S] fun r T =>
      (s.S.length ≠ 100 ∧ r = .bool true ∧ ∃ vS', T = [Tok.blk b [vP, vZ, vS'], Tok.own vP (uni s x y).P, Tok.own vZ (uni s x y).Z, Tok.own vS' (uni s x y).S]) ∨ (s.S.length = 100 ∧ r = .bool false ∧ T = [Tok.blk b [vP, vZ, vS], Tok.own vP s.P, Tok.own vZ s.Z, Tok.own vS s.S]) := by
  have hle := h.le
  have hi := h.inv
  have lp := hi.lp
  have lz := hi.lz
  have hz1 := hi.z1 hle
  have hcs := hi.cs
  have rx := hi.root hx
  have ry := hi.root hy
  have hok : ∀ t, unS s x y = t → (stOk s t ↔ s.S.length ≠ 100) := fun t e => ⟨fun h => h.1, fun h => by rw [← e]; exact unS_ok hi hx hy h⟩
  have hdo : ∀ t, unS s x y = t → stDo s t = uni s x y := fun t e => by unfold uni; rw [e]
  have fin : ∀ (t : E) (r : Value) (T : List Tok), unS s x y = t → ((stOk s t ∧ r = .bool true ∧ ∃ vS', T = [Tok.blk b [vP, vZ, vS'], Tok.own vP (stDo s t).P, Tok.own vZ (stDo s t).Z, Tok.own vS' (stDo s t).S]) ∨ (¬ stOk s t ∧ r = .bool false ∧ T = [Tok.blk b [vP, vZ, vS], Tok.own vP s.P, Tok.own vZ s.Z, Tok.own vS s.S])) →
      ((s.S.length ≠ 100 ∧ r = .bool true ∧ ∃ vS', T = [Tok.blk b [vP, vZ, vS'], Tok.own vP (uni s x y).P, Tok.own vZ (uni s x y).Z, Tok.own vS' (uni s x y).S]) ∨ (s.S.length = 100 ∧ r = .bool false ∧ T = [Tok.blk b [vP, vZ, vS], Tok.own vP s.P, Tok.own vZ s.Z, Tok.own vS s.S])) := by
    intro t r T e hh
    rw [hok t e, hdo t e] at hh
    rcases hh with h1 | ⟨h1, h2⟩
    · exact .inl h1
    · exact .inr ⟨Decidable.not_not.1 h1, h2⟩
  refine Tri.intro (hf := Try.func104) (hb := rfl) (hn := Try.ntmps104) (Nat.le_of_ble_eq_true rfl) ?_
  try refine go ⟨?_⟩
  refine WP.draw [Tok.blk b [vP, vZ, vS], Tok.own vP s.P, Tok.own vZ s.Z, Tok.own vS s.S] mixed ?_
  refine WPD.take 0 rfl (Op1.move rfl) rfl rfl sT kR kR kR xQP ?_
  refine WPD.take 3 rfl (Op1.move rfl) rfl rfl sT kR kR kR xQP ?_
  refine WPD.take 5 rfl (Op1.move rfl) rfl rfl sT kR kR kR xQP ?_
  refine WPD.take 8 rfl (Op1.move rfl) rfl rfl sT kR kR kR xQP ?_
  refine WPD.take 1 rfl (Op1.nilCheck rfl) rfl rfl sT kR kR kR xQP ?_
  refine WPD.take 6 rfl (Op1.nilCheck rfl) rfl rfl sT kR kR kR xQP ?_
  refine WPD.take 2 rfl (by first | exact (Op1.load rfl mM (by rfl)) | exact (Op1.loadI rfl rD lT) | exact (Op1.loadAll rfl mM (by rfl)) | exact (Op1.loadE rfl rD lT (by rfl)) | exact (Op1.loadEAgg rfl rD lT (by rfl))) rfl rfl sT kR kR kR xQP ?_
  refine WPD.take 7 rfl (by first | exact (Op1.load rfl mM (by rfl)) | exact (Op1.loadI rfl rD lT) | exact (Op1.loadAll rfl mM (by rfl)) | exact (Op1.loadE rfl rD lT (by rfl)) | exact (Op1.loadEAgg rfl rD lT (by rfl))) rfl rfl sT kR kR kR xQP ?_
  refine WPD.eff 4 kR rfl (OpE.call lO (fun w hw => c_root _ vP vZ vS s.P.length s (lb s) x (Rd.at rD hw) (Rd.at rD hw) (Rd.at rD hw) hi hle hx)) rfl rfl ?_
  rintro r _ ⟨T, ⟨rfl, rfl⟩, rfl⟩
  refine ⟨sT, ?_⟩
  refine WPD.eff 9 kR rfl (OpE.call lO (fun w hw => c_root _ vP vZ vS s.P.length s (lb s) y (Rd.at rD hw) (Rd.at rD hw) (Rd.at rD hw) hi hle hy)) rfl rfl ?_
  rintro r _ ⟨T, ⟨rfl, rfl⟩, rfl⟩
  refine ⟨sT, ?_⟩
  refine WPD.take 10 rfl (Op1.assign rfl) rfl rfl sT kR kR kR xQP ?_
  refine WPD.take 11 rfl (Op1.assign rfl) rfl rfl sT kR kR kR xQP ?_
  refine WPD.done kR ?_
  obtain ⟨A, hA⟩ : ∃ A, A = (lb s).getD x.toNat 0 := ⟨_, rfl⟩
  obtain ⟨B, hB⟩ : ∃ B, B = (lb s).getD y.toNat 0 := ⟨_, rfl⟩
  rw [← hA] at rx
  rw [← hB] at ry
  rw [← hA, ← hB]
  by_cases e1 : A = B
  · have ht : unS s x y = ⟨-1, A⟩ := by rw [hA]; exact unS_eq (by rw [← hA, ← hB]; exact e1)
    try refine go ⟨?_⟩
    rw [decide_eq_true e1]
    try refine go ⟨?_⟩
    refine WPL.eff (OpE.callT (T := [Tok.blk b [vP, vZ, vS], Tok.own vP s.P, Tok.own vZ s.Z, Tok.own vS s.S]) lO pM2 (fun w hw => c_step _ b vP vZ vS s ⟨-1, A⟩ (by omega) (by omega) hz1 (by omega))) rfl rfl ?_
    rintro r _ ⟨T, hr, rfl⟩
    have hf := fin _ _ _ ht hr
    clear hr
    rcases hf with ⟨h1, rfl, vS2, rfl⟩ | ⟨h1, rfl, rfl⟩
    · try refine go ⟨?_⟩
      refine PE.ret1 (T := [Tok.blk b [vP, vZ, vS], Tok.own vP s.P, Tok.own vZ s.Z, Tok.own vS s.S]) (T' := [Tok.blk b [vP, vZ, vS2], Tok.own vP (uni s x y).P, Tok.own vZ (uni s x y).Z, Tok.own vS2 (uni s x y).S]) rfl rV ?_ sT2
      exact .inl ⟨h1, rfl, vS2, rfl⟩
    · try refine go ⟨?_⟩
      refine PE.ret1 (T := [Tok.blk b [vP, vZ, vS], Tok.own vP s.P, Tok.own vZ s.Z, Tok.own vS s.S]) (T' := [Tok.blk b [vP, vZ, vS], Tok.own vP s.P, Tok.own vZ s.Z, Tok.own vS s.S]) rfl rV ?_ sT2
      exact .inr ⟨h1, rfl, rfl⟩
  have rx1 := rx.1
  have rx2 := rx.2.1
  have ry1 := ry.1
  have ry2 := ry.2.1
  try refine go ⟨?_⟩
  rw [decide_eq_false e1]
  try refine go ⟨?_⟩
  refine WPL.eff (OpE.call lO (fun w hw => c_isAbove _ vP vZ vS s A B (Rd.at rD hw) (Rd.at rD hw) (Rd.at rD hw) (by omega) (by omega))) rfl rfl ?_
  rintro r _ ⟨T, ⟨rfl, rfl⟩, rfl⟩
  by_cases e2 : abv s A B
  · have ht : unS s x y = ⟨B, A⟩ := by rw [hA, hB]; exact unS_abv (by rw [← hA, ← hB]; exact e1) (by rw [← hA, ← hB]; exact e2)
    rw [decide_eq_true e2]
    try refine go ⟨?_⟩
    refine WPL.eff (OpE.callT (T := [Tok.blk b [vP, vZ, vS], Tok.own vP s.P, Tok.own vZ s.Z, Tok.own vS s.S]) lO pM2 (fun w hw => c_step _ b vP vZ vS s ⟨B, A⟩ (by omega) (by omega) hz1 (by omega))) rfl rfl ?_
    rintro r _ ⟨T, hr, rfl⟩
    have hf := fin _ _ _ ht hr
    clear hr
    rcases hf with ⟨h1, rfl, vS2, rfl⟩ | ⟨h1, rfl, rfl⟩
    · try refine go ⟨?_⟩
      refine PE.ret1 (T := [Tok.blk b [vP, vZ, vS], Tok.own vP s.P, Tok.own vZ s.Z, Tok.own vS s.S]) (T' := [Tok.blk b [vP, vZ, vS2], Tok.own vP (uni s x y).P, Tok.own vZ (uni s x y).Z, Tok.own vS2 (uni s x y).S]) rfl rV ?_ sT2
      exact .inl ⟨h1, rfl, vS2, rfl⟩
    · try refine go ⟨?_⟩
      refine PE.ret1 (T := [Tok.blk b [vP, vZ, vS], Tok.own vP s.P, Tok.own vZ s.Z, Tok.own vS s.S]) (T' := [Tok.blk b [vP, vZ, vS], Tok.own vP s.P, Tok.own vZ s.Z, Tok.own vS s.S]) rfl rV ?_ sT2
      exact .inr ⟨h1, rfl, rfl⟩
  · have ht : unS s x y = ⟨A, B⟩ := by rw [hA, hB]; exact unS_bel (by rw [← hA, ← hB]; exact e1) (by rw [← hA, ← hB]; exact e2)
    rw [decide_eq_false e2]
    try refine go ⟨?_⟩
    refine WPL.eff (OpE.callT (T := [Tok.blk b [vP, vZ, vS], Tok.own vP s.P, Tok.own vZ s.Z, Tok.own vS s.S]) lO pM2 (fun w hw => c_step _ b vP vZ vS s ⟨A, B⟩ (by omega) (by omega) hz1 (by omega))) rfl rfl ?_
    rintro r _ ⟨T, hr, rfl⟩
    have hf := fin _ _ _ ht hr
    clear hr
    rcases hf with ⟨h1, rfl, vS2, rfl⟩ | ⟨h1, rfl, rfl⟩
    · try refine go ⟨?_⟩
      refine PE.ret1 (T := [Tok.blk b [vP, vZ, vS], Tok.own vP s.P, Tok.own vZ s.Z, Tok.own vS s.S]) (T' := [Tok.blk b [vP, vZ, vS2], Tok.own vP (uni s x y).P, Tok.own vZ (uni s x y).Z, Tok.own vS2 (uni s x y).S]) rfl rV ?_ sT2
      exact .inl ⟨h1, rfl, vS2, rfl⟩
    · try refine go ⟨?_⟩
      refine PE.ret1 (T := [Tok.blk b [vP, vZ, vS], Tok.own vP s.P, Tok.own vZ s.Z, Tok.own vS s.S]) (T' := [Tok.blk b [vP, vZ, vS], Tok.own vP s.P, Tok.own vZ s.Z, Tok.own vS s.S]) rfl rV ?_ sT2
      exact .inr ⟨h1, rfl, rfl⟩
end Go.Proofs.Ythlgbeakcobeoaa
/- Sets: the walks of UniteSets, UndoSets, SetsOf. Conditions: those of each contract. -/
namespace Go.Proofs.Ythlgbeakcobeoaa
open Go
theorem nsS_yes {n : Int} (h : 1 ≤ n ∧ n ≤ 16) : nsS n = newS n.toNat := if_pos h
theorem RPok_of {s : SS} (h : SV s) : RPok s.P.length s.S ∧ repl ((s.P.length : Nat) : Int).toNat s.S = some s := by
  have e : ((s.P.length : Nat) : Int).toNat = s.P.length := Int.toNat_natCast _
  have h3 := h.2.2
  refine ⟨⟨⟨by have := h.1; omega, by have := h.2.1; omega⟩, by rw [e, h3]; rfl⟩, by rw [e, h3]⟩
/-- What UndoSets returns. -/
def undR (s : SS) (k : Int) : SS := if UDok s k then ((repl s.P.length (s.S.take (s.S.length - k.toNat))).getD noSS) else noSS
theorem undo_ok {s : SS} {k : Int} (h : UDok s k) {s' : SS} (h' : RPok s.P.length (s.S.take (s.S.length - k.toNat)) → repl ((s.P.length : Nat) : Int).toNat (s.S.take (s.S.length - k.toNat)) = some s') : s' = undR s k ∧ RPok s.P.length (s.S.take (s.S.length - k.toNat)) := by
  have e : ((s.P.length : Nat) : Int).toNat = s.P.length := Int.toNat_natCast _
  obtain ⟨x, hx⟩ := h.1.take (s.S.length - k.toNat)
  have hr : RPok s.P.length (s.S.take (s.S.length - k.toNat)) := ⟨⟨by have := h.1.1; omega, by have := h.1.2.1; omega⟩, by rw [e, hx]; rfl⟩
  have h2 := h' hr
  rw [e] at h2
  refine ⟨?_, hr⟩
  unfold undR
  rw [if_pos h, h2]; rfl
theorem ofS_take {n : Nat} {es : List E} {k : Nat} (hk : k < es.length) : ofS n (es.take (k + 1)) = uni (ofS n (es.take k)) (es.getD k eD).A (es.getD k eD).B := by
  rw [take_succD eD hk]; unfold ofS; rw [List.foldl_append]; rfl
def ofR (n : Int) (es : List E) : SS := if GV n es then ofS n.toNat es else noSS
set_option linter.unusedVariables false set_option linter.unusedSimpArgs false attribute [local irreducible] Tok.own Tok.blk RL Rd eptr WP WPL PE WPD WPO Op1 OpE Tri Again Mid Exit.then Exit.inBlock bodyPost RP Code.wp wpList isOwn OneM One
attribute [local irreducible] SV RPok EL
set_option maxHeartbeats 8000000

theorem c_UniteSets (w : World) (vP vZ vS : Value) (s : SS) (x y : Int) (hP : RL w vP s.P) (hZ : RL w vZ s.Z) (hS : RL w vS s.S) (l1 : s.P.length ≤ 1099511627776) (l2 : s.Z.length ≤ 1099511627776) (l3 : s.S.length ≤ 1099511627776) :
    Tri Try.prog 52 [setV vP vZ vS, .int .i64 x, .int .i64 y] w [] fun r T => ∃ a b c, r = .tuple #[setV a b c, .bool (decide (UNok s x y))] ∧ T = [Tok.own a (uniR s x y).P, Tok.own b (uniR s x y).Z, Tok.own c (uniR s x y).S] := by
  have bad : ¬ UNok s x y → decide (UNok s x y) = false ∧ uniR s x y = noSS := fun h => ⟨decide_eq_false h, if_neg h⟩
  refine Tri.intro (hf := Try.func52) (hb := rfl) (hn := Try.ntmps52) (Nat.le_of_ble_eq_true rfl) ?_
  try refine go ⟨?_⟩
  refine WPL.eff (OpE.box rfl) rfl rfl ?_; rintro _ _ ⟨b, rfl, rfl⟩
  refine WPL.eff OpE.alloc rfl rfl ?_; rintro _ _ ⟨b6, rfl, rfl⟩
  try refine go ⟨?_⟩
  refine WPL.eff (OpE.call lO (fun w hw => c_hasElement _ vP vZ vS s x (Rd.at rD hw) (Rd.at rD hw) (Rd.at rD hw) l1 l2 l3)) rfl rfl ?_
  rintro r _ ⟨T, ⟨rfl, rfl⟩, rfl⟩
  by_cases hx : EL s x
  case neg =>
    obtain ⟨q1, q2⟩ := bad fun h => hx h.1
    rw [decide_eq_false hx]
    try refine go ⟨?_⟩
    refine PE.nilTok E ?_
    refine PE.nilTok Int ?_
    refine PE.nilTok Int ?_
    refine PE.ret2 (T := []) (T' := [Tok.own (.slice none 0 0) ([] : List Int), Tok.own (.slice none 0 0) ([] : List Int), Tok.own (.slice none 0 0) ([] : List E)]) rfl rV ?_ sT2
    exact ⟨_, _, _, by rw [q1]; rfl, by rw [q2]; rfl⟩
  rw [decide_eq_true hx]
  try refine go ⟨?_⟩
  refine WPL.eff (OpE.call lO (fun w hw => c_hasElement _ vP vZ vS s y (Rd.at rD hw) (Rd.at rD hw) (Rd.at rD hw) l1 l2 l3)) rfl rfl ?_
  rintro r _ ⟨T, ⟨rfl, rfl⟩, rfl⟩
  by_cases hy : EL s y
  case neg =>
    obtain ⟨q1, q2⟩ := bad fun h => hy h.2.1
    rw [decide_eq_false hy]
    try refine go ⟨?_⟩
    refine PE.nilTok E ?_
    refine PE.nilTok Int ?_
    refine PE.nilTok Int ?_
    refine PE.ret2 (T := []) (T' := [Tok.own (.slice none 0 0) ([] : List Int), Tok.own (.slice none 0 0) ([] : List Int), Tok.own (.slice none 0 0) ([] : List E)]) rfl rV ?_ sT2
    exact ⟨_, _, _, by rw [q1]; rfl, by rw [q2]; rfl⟩
  rw [decide_eq_true hy]
  obtain ⟨ok1, ok2⟩ := RPok_of hx.sv
  try refine go ⟨?_⟩
  refine WPL.eff (OpE.call lO (fun w hw => c_replay _ s.P.length vS s.S (Rd.at rD hw) l3)) rfl rfl ?_
  rintro r _ ⟨T, ⟨a, b', c, s', rfl, rfl, hr⟩, rfl⟩
  have es : s' = s := by
    have := hr ok1
    rw [ok2] at this
    simpa using this.symm
  subst es
  try refine go ⟨?_⟩
  refine WPL.eff OpE.alloc rfl rfl ?_; rintro _ _ ⟨b8, rfl, rfl⟩
  try refine go ⟨?_⟩
  refine WPL.eff (OpE.callT (T := [Tok.blk b8 [a, b', c], Tok.own a s'.P, Tok.own b' s'.Z, Tok.own c s'.S]) lO pM2 (fun w hw => c_unite _ b8 a b' c s' x y hx.sv hx.nd hy.nd)) rfl rfl ?_
  rintro r _ ⟨T, hr2, rfl⟩
  rcases hr2 with ⟨h1, rfl, c', rfl⟩ | ⟨h1, rfl, rfl⟩
  · have hu : UNok s' x y := ⟨hx, hy, h1⟩
    have q2 : uniR s' x y = uni s' x y := if_pos hu
    try refine go ⟨?_⟩
    refine PE.ret2 (T := []) (T' := [Tok.own a (uni s' x y).P, Tok.own b' (uni s' x y).Z, Tok.own c' (uni s' x y).S]) rfl rV ?_ sT2
    exact ⟨a, b', c', by rw [decide_eq_true hu]; rfl, by rw [q2]⟩
  · obtain ⟨q1, q2⟩ := bad fun h => h.2.2 h1
    try refine go ⟨?_⟩
    refine PE.nilTok E ?_
    refine PE.nilTok Int ?_
    refine PE.nilTok Int ?_
    refine PE.ret2 (T := []) (T' := [Tok.own (.slice none 0 0) ([] : List Int), Tok.own (.slice none 0 0) ([] : List Int), Tok.own (.slice none 0 0) ([] : List E)]) rfl rV ?_ sT2
    exact ⟨_, _, _, by rw [q1]; rfl, by rw [q2]; rfl⟩

theorem c_UndoSets (w : World) (vP vZ vS : Value) (s : SS) (k : Int) (hP : RL w vP s.P) (hZ : RL w vZ s.Z) (hS : RL w vS s.S) (l1 : s.P.length ≤ 1099511627776) (l2 : s.Z.length ≤ 1099511627776) (l3 : s.S.length ≤ 1099511627776) :
    Tri Try.prog 61 [setV vP vZ vS, .int .i64 k] w [] fun r T => ∃ a b c, r = .tuple #[setV a b c, .bool (decide (UDok s k))] ∧ T = [Tok.own a (undR s k).P, Tok.own b (undR s k).Z, Tok.own c (undR s k).S] := by
  have bad : ¬ UDok s k → decide (UDok s k) = false ∧ undR s k = noSS := fun h => ⟨decide_eq_false h, if_neg h⟩
  refine Tri.intro (hf := Try.func61) (hb := rfl) (hn := Try.ntmps61) (Nat.le_of_ble_eq_true rfl) ?_
  try refine go ⟨?_⟩
  refine WPL.eff (OpE.box rfl) rfl rfl ?_; rintro _ _ ⟨b, rfl, rfl⟩
  refine WPL.eff OpE.alloc rfl rfl ?_; rintro _ _ ⟨b4, rfl, rfl⟩
  try refine go ⟨?_⟩
  refine WPL.eff (OpE.call lO (fun w hw => c_SetsValid _ vP vZ vS s (Rd.at rD hw) (Rd.at rD hw) (Rd.at rD hw) l1 l2 l3)) rfl rfl ?_
  rintro r _ ⟨T, ⟨rfl, rfl⟩, rfl⟩
  by_cases hk : UDok s k
  case neg =>
    obtain ⟨q1, q2⟩ := bad hk
    by_cases hv : SV s
    · rw [decide_eq_true hv]
      try refine go ⟨?_⟩
      by_cases hk0 : k < 0
      · rw [decide_eq_true hk0]
        try refine go ⟨?_⟩
        refine PE.nilTok E ?_
        refine PE.nilTok Int ?_
        refine PE.nilTok Int ?_
        refine PE.ret2 (T := []) (T' := [Tok.own (.slice none 0 0) ([] : List Int), Tok.own (.slice none 0 0) ([] : List Int), Tok.own (.slice none 0 0) ([] : List E)]) rfl rV ?_ sT2
        exact ⟨_, _, _, by rw [q1]; rfl, by rw [q2]; rfl⟩
      · rw [decide_eq_false hk0]
        try refine go ⟨?_⟩
        rw [decide_eq_true (show ((s.S.length : Nat) : Int) < k by rcases Int.lt_or_le ((s.S.length : Nat) : Int) k with h | h; exact h; exact absurd ⟨hv, by omega, h⟩ hk)]
        try refine go ⟨?_⟩
        refine PE.nilTok E ?_
        refine PE.nilTok Int ?_
        refine PE.nilTok Int ?_
        refine PE.ret2 (T := []) (T' := [Tok.own (.slice none 0 0) ([] : List Int), Tok.own (.slice none 0 0) ([] : List Int), Tok.own (.slice none 0 0) ([] : List E)]) rfl rV ?_ sT2
        exact ⟨_, _, _, by rw [q1]; rfl, by rw [q2]; rfl⟩
    · rw [decide_eq_false hv]
      try refine go ⟨?_⟩
      refine PE.nilTok E ?_
      refine PE.nilTok Int ?_
      refine PE.nilTok Int ?_
      refine PE.ret2 (T := []) (T' := [Tok.own (.slice none 0 0) ([] : List Int), Tok.own (.slice none 0 0) ([] : List Int), Tok.own (.slice none 0 0) ([] : List E)]) rfl rV ?_ sT2
      exact ⟨_, _, _, by rw [q1]; rfl, by rw [q2]; rfl⟩
  obtain ⟨hv, hk0, hk1⟩ := id hk
  have hq : RL w (slcV vS (((s.S.length : Nat) : Int) - k).toNat) (s.S.take (((s.S.length : Nat) : Int) - k).toNat) := hS.take (by omega)
  have et : (((s.S.length : Nat) : Int) - k).toNat = s.S.length - k.toNat := by omega
  have htl := take_le s.S (((s.S.length : Nat) : Int) - k).toNat
  rw [decide_eq_true hv]
  try refine go ⟨?_⟩
  rw [decide_eq_false (show ¬ k < 0 by omega)]
  try refine go ⟨?_⟩
  rw [decide_eq_false (show ¬ ((s.S.length : Nat) : Int) < k by omega)]
  try refine go ⟨?_⟩
  refine WP.draw [Tok.blk b [vP, vZ, vS]] mixed ?_
  refine WPD.take 0 rfl (by first | exact (Op1.fieldAddr rfl) | exact (Op1.fieldAddrE rfl rD lT)) rfl rfl sT kR kR kR xQP ?_
  refine WPD.take 3 rfl (by first | exact (Op1.fieldAddr rfl) | exact (Op1.fieldAddrE rfl rD lT)) rfl rfl sT kR kR kR xQP ?_
  refine WPD.take 5 rfl (by first | exact (Op1.fieldAddr rfl) | exact (Op1.fieldAddrE rfl rD lT)) rfl rfl sT kR kR kR xQP ?_
  refine WPD.take 8 rfl (Op1.move rfl) rfl rfl sT kR kR kR xQP ?_
  refine WPD.take 1 rfl (by first | exact (Op1.load rfl mM (by rfl)) | exact (Op1.loadI rfl rD lT) | exact (Op1.loadAll rfl mM (by rfl)) | exact (Op1.loadE rfl rD lT (by rfl)) | exact (Op1.loadEAgg rfl rD lT (by rfl))) rfl rfl sT kR kR kR xQP ?_
  refine WPD.take 4 rfl (by first | exact (Op1.load rfl mM (by rfl)) | exact (Op1.loadI rfl rD lT) | exact (Op1.loadAll rfl mM (by rfl)) | exact (Op1.loadE rfl rD lT (by rfl)) | exact (Op1.loadEAgg rfl rD lT (by rfl))) rfl rfl sT kR kR kR xQP ?_
  refine WPD.take 6 rfl (by first | exact (Op1.load rfl mM (by rfl)) | exact (Op1.loadI rfl rD lT) | exact (Op1.loadAll rfl mM (by rfl)) | exact (Op1.loadE rfl rD lT (by rfl)) | exact (Op1.loadEAgg rfl rD lT (by rfl))) rfl rfl sT kR kR kR xQP ?_
  refine WPD.take 2 rfl (Op1.len rfl rD) rfl rfl sT kR kR kR xQP ?_
  refine WPD.take 7 rfl (Op1.len rfl rD) rfl rfl sT kR kR kR xQP ?_
  refine WPD.take 9 rfl (Op1.sub rfl rfl (by omega)) rfl rfl sT kR kR kR xQP ?_
  refine WPD.take 10 rfl (by first | exact (Op1.sliceHiZ rfl rfl rD lT) | exact (Op1.sliceLo rfl rfl rD lT)) rfl rfl sT kR kR kR xQP ?_
  refine WPD.eff 11 kR rfl (OpE.call lO (fun w hw => c_replay _ s.P.length (slcV vS (((s.S.length : Nat) : Int) - k).toNat) (s.S.take (((s.S.length : Nat) : Int) - k).toNat) (Rd.at rD hw) (by omega))) rfl rfl ?_
  rintro r _ ⟨T, ⟨a, b', c, s', rfl, rfl, hr⟩, rfl⟩
  refine ⟨sT, ?_⟩
  refine WPD.take 12 rfl (Op1.extract rfl (by rfl)) rfl rfl sT kR kR kR xQP ?_
  refine WPD.take 13 rfl (Op1.extract rfl (by rfl)) rfl rfl sT kR kR kR xQP ?_
  refine WPD.eff0 14 kR rfl (OpE.storeAll rfl rfl pM (by rfl) (by rfl) oN) rfl ?_
  rintro _ _ rfl
  refine ⟨sT, ?_⟩
  refine WPD.eff 15 kR rfl (OpE.ofPure (Op1.assign rfl)) rfl rfl ?_
  rintro _ _ ⟨rfl, rfl⟩
  refine ⟨sT, ?_⟩
  refine WPD.done kR ?_
  all_goals (
    try refine go ⟨?_⟩
    rw [et] at hr ⊢
    obtain ⟨e1, e2⟩ := undo_ok hk hr
    refine PE.ret2 (T := []) (T' := [Tok.own a s'.P, Tok.own b' s'.Z, Tok.own c s'.S]) rfl rV ?_ sT2
    exact ⟨a, b', c, by rw [decide_eq_true e2, decide_eq_true hk]; rfl, by rw [e1]⟩)

theorem c_SetsOf (w : World) (n : Int) (vE : Value) (es : List E) (hE : RL w vE es) (hl : es.length ≤ 1099511627776) :
    Tri Try.prog 63 [.agg #[.int .i64 n, vE]] w [] fun r T => ∃ a b c, r = .tuple #[setV a b c, .bool (decide (GV n es))] ∧ T = [Tok.own a (ofR n es).P, Tok.own b (ofR n es).Z, Tok.own c (ofR n es).S] := by
  refine Tri.intro (hf := Try.func63) (hb := rfl) (hn := Try.ntmps63) (Nat.le_of_ble_eq_true rfl) ?_
  try refine go ⟨?_⟩
  refine WPL.eff (OpE.box rfl) rfl rfl ?_; rintro _ _ ⟨b1, rfl, rfl⟩
  refine WPL.eff OpE.alloc rfl rfl ?_; rintro _ _ ⟨b2, rfl, rfl⟩
  try refine go ⟨?_⟩
  refine WPL.eff (OpE.call lO (fun w hw => c_GraphValid _ n vE es (Rd.at rD hw) hl)) rfl rfl ?_
  rintro r _ ⟨T, ⟨rfl, rfl⟩, rfl⟩
  by_cases hg : GV n es
  case neg =>
    have q2 : ofR n es = noSS := if_neg hg
    rw [decide_eq_false hg, q2]
    try refine go ⟨?_⟩
    refine PE.nilTok E ?_
    refine PE.nilTok Int ?_
    refine PE.nilTok Int ?_
    refine PE.ret2 (T := []) (T' := [Tok.own (.slice none 0 0) ([] : List Int), Tok.own (.slice none 0 0) ([] : List Int), Tok.own (.slice none 0 0) ([] : List E)]) rfl rV ?_ sT2
    exact ⟨_, _, _, rfl, rfl⟩
  have q2 : ofR n es = ofS n.toNat es := if_pos hg
  rw [decide_eq_true hg, q2]
  have hn : 1 ≤ n ∧ n ≤ 16 := ⟨hg.1, hg.2.1⟩
  have hok : okE (n.toNat : Int) es := by rw [Int.toNat_of_nonneg (by omega)]; exact hg.okE
  have hle : es.length ≤ 40 := hg.2.2.1
  try refine go ⟨?_⟩
  refine WPL.eff (OpE.call lO (fun w hw => c_NewS _ n)) rfl rfl ?_
  rintro r _ ⟨T, ⟨vP, vZ, vS, rfl, rfl⟩, rfl⟩
  rw [nsS_yes hn]
  try refine go ⟨?_⟩
  refine WPL.eff OpE.alloc rfl rfl ?_; rintro _ _ ⟨b4, rfl, rfl⟩
  try refine go ⟨?_⟩
  refine WP.loop (σ := Nat × Value) (fun q => [(2, .pointer (some ⟨b2, 0, none⟩)), (4, .pointer (some ⟨b4, 0, none⟩)), (19, vE), (20, .int .i64 es.length), (21, .int .i64 q.1)])
    (fun q => [Tok.blk b4 [vP, vZ, q.2], Tok.own vP (ofS n.toNat (es.take q.1)).P, Tok.own vZ (ofS n.toNat (es.take q.1)).Z, Tok.own q.2 (ofS n.toNat (es.take q.1)).S, Tok.blk b2 [.slice none 0 0, .slice none 0 0, .slice none 0 0]]) (fun q => q.1 ≤ es.length) (fun q => es.length - q.1) (0, vS) (Nat.zero_le _) sE sT2 ?_
  rintro ⟨k, c⟩ hk
  dsimp only at hk ⊢
  have htk : (es.take k).length ≤ es.length := take_le es k
  obtain ⟨i1, i2, i3, _⟩ := ofS_spec (n := n.toNat) (by omega) (by omega) (es.take k) (hok.sub fun f hf => List.mem_of_mem_take hf) (by omega)
  try refine go ⟨?_⟩
  refine WP.condD rfl (fun hc => ?_) (fun hc => ?_)
  · have hk' : k < es.length := by omega
    have he := hok _ (getD_memI (d := eD) hk')
    rw [← i2] at he
    have e1 := ofS_take (n := n.toNat) hk'
    try refine go ⟨?_⟩
    refine WPL.eff OpE.alloc rfl rfl ?_; rintro _ _ ⟨b7, rfl, rfl⟩
    try refine go ⟨?_⟩
    refine WPL.eff (OpE.callT (T := [Tok.blk b4 [vP, vZ, c], Tok.own vP (ofS n.toNat (es.take k)).P, Tok.own vZ (ofS n.toNat (es.take k)).Z, Tok.own c (ofS n.toNat (es.take k)).S]) lO pM2 (fun w hw => c_unite _ b4 vP vZ c (ofS n.toNat (es.take k)) (es.getD k eD).A (es.getD k eD).B i1 he.1 he.2)) rfl rfl ?_
    rintro r _ ⟨T, hr2, rfl⟩
    rcases hr2 with ⟨h1, rfl, c', rfl⟩ | ⟨h1, rfl, rfl⟩
    · rw [← e1]
      try refine go ⟨?_⟩
      refine PE.again (k + 1, c') ?_ ?_ sE sT2
      · (try dsimp only); omega
      · (try dsimp only); omega
    · exfalso; omega
  · have hkn : k = es.length := by omega
    subst hkn
    rw [List.take_length]
    try refine go ⟨?_⟩
    refine PE.ret2 (T := []) (T' := [Tok.own vP (ofS n.toNat es).P, Tok.own vZ (ofS n.toNat es).Z, Tok.own c (ofS n.toNat es).S]) rfl rV ?_ sT2
    exact ⟨vP, vZ, c, rfl, rfl⟩
end Go.Proofs.Ythlgbeakcobeoaa
