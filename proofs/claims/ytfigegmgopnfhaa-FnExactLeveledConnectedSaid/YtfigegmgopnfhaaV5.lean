/- Texts put together: Sm0. Conditions: those of each theorem. -/
import Derived.Test.YtfigegmgopnfhaaV1
set_option linter.unusedVariables false
set_option linter.unusedSimpArgs false
/- Sets that unions make: plain facts. Conditions: none. -/
namespace Go.Proofs.Ytfigegmgopnfhaa
open Go

structure SS where
  P : List Int
  Z : List Int
  S : List E
  deriving DecidableEq

def newS (n : Nat) : SS := ⟨List.replicate n (-1), List.replicate n 1, []⟩
/-- x is a root. -/
def rtB (s : SS) (x : Int) : Prop := 0 ≤ x ∧ x < s.P.length ∧ s.P.getD x.toNat 0 = -1
instance (s : SS) (x : Int) : Decidable (rtB s x) := by unfold rtB; infer_instance
/-- The root x goes above the root y. -/
def abv (s : SS) (x y : Int) : Prop := s.Z.getD y.toNat 0 < s.Z.getD x.toNat 0 ∨ (s.Z.getD x.toNat 0 = s.Z.getD y.toNat 0 ∧ x < y)
instance (s : SS) (x y : Int) : Decidable (abv s x y) := by unfold abv; infer_instance
def stOk (s : SS) (t : E) : Prop := s.S.length ≠ 100 ∧ rtB s t.B ∧ (t.A ≠ -1 → t.A ≠ t.B ∧ rtB s t.A ∧ abv s t.B t.A)
instance (s : SS) (t : E) : Decidable (stOk s t) := by unfold stOk; infer_instance
def stDo (s : SS) (t : E) : SS := if t.A = -1 then ⟨s.P, s.Z, s.S ++ [t]⟩ else ⟨s.P.set t.A.toNat t.B, s.Z.set t.B.toNat (s.Z.getD t.B.toNat 0 + s.Z.getD t.A.toNat 0), s.S ++ [t]⟩
def repo (o : Option SS) (t : E) : Option SS := match o with
  | some s => if stOk s t then some (stDo s t) else none
  | none => none
/-- The sets that steps make. -/
def repl (n : Nat) (S : List E) : Option SS := S.foldl repo (some (newS n))
def SV (s : SS) : Prop := 1 ≤ s.P.length ∧ s.P.length ≤ 16 ∧ repl s.P.length s.S = some s
instance (s : SS) : Decidable (SV s) := by unfold SV; infer_instance

def lbStep (L : List Int) (t : E) : List Int := if t.A = -1 then L else L.map fun r => if r = t.A then t.B else r
/-- Each element's root. -/
def lbs (n : Nat) (S : List E) : List Int := S.foldl lbStep (iota n)
def mbs (n : Nat) (L : List Int) (r : Int) : List Int := (iota n).filter fun y => decide (L.getD y.toNat 0 = r)

theorem stDo_S (s : SS) (t : E) : (stDo s t).S = s.S ++ [t] := by unfold stDo; split <;> rfl
theorem stDo_P (s : SS) (t : E) : (stDo s t).P.length = s.P.length := by unfold stDo; split <;> simp
theorem stDo_Z (s : SS) (t : E) : (stDo s t).Z.length = s.Z.length := by unfold stDo; split <;> simp
theorem repl_snoc (n : Nat) (S : List E) (t : E) : repl n (S ++ [t]) = repo (repl n S) t := by unfold repl; rw [List.foldl_append]; rfl
theorem lbs_snoc (n : Nat) (S : List E) (t : E) : lbs n (S ++ [t]) = lbStep (lbs n S) t := by unfold lbs; rw [List.foldl_append]; rfl
theorem repo_none (t : E) : repo none t = none := rfl
theorem repo_some {s : SS} {t : E} (h : stOk s t) : repo (some s) t = some (stDo s t) := if_pos h
theorem repo_bad {s : SS} {t : E} (h : ¬ stOk s t) : repo (some s) t = none := if_neg h
theorem foldl_repo_none (S : List E) : S.foldl repo none = none := by
  induction S with
  | nil => rfl
  | cons t S ih => rw [List.foldl_cons, repo_none, ih]
theorem lbStep_len (L : List Int) (t : E) : (lbStep L t).length = L.length := by unfold lbStep; split <;> simp
theorem lbStep_get {L : List Int} {t : E} {i : Nat} (h : i < L.length) (ht : t.A ≠ -1) : (lbStep L t).getD i 0 = if L.getD i 0 = t.A then t.B else L.getD i 0 := by
  unfold lbStep
  rw [if_neg ht, List.getD_eq_getElem?_getD, List.getElem?_map, List.getD_eq_getElem?_getD, List.getElem?_eq_getElem h]
  rfl

theorem filter_or {α : Type} (l : List α) (p q : α → Bool) (h : ∀ x ∈ l, ¬ (p x = true ∧ q x = true)) : (l.filter fun x => p x || q x).length = (l.filter p).length + (l.filter q).length := by
  induction l with
  | nil => rfl
  | cons a l ih =>
    have := ih (fun x hx => h x (by simp [hx]))
    have h0 := h a (by simp)
    simp only [List.filter_cons]
    cases hp : p a <;> cases hq : q a <;> simp [hp, hq] at h0 ⊢ <;> omega

theorem mem_mbs {n : Nat} {L : List Int} {r y : Int} : y ∈ mbs n L r ↔ Nd n y ∧ L.getD y.toNat 0 = r := by
  unfold mbs Nd; rw [List.mem_filter, mem_iota]; simp
theorem mbs_le (n : Nat) (L : List Int) (r : Int) : (mbs n L r).length ≤ n := by
  have := List.length_filter_le (fun y : Int => decide (L.getD y.toNat 0 = r)) (iota n)
  rw [iota_length] at this; exact this
theorem mbs_congr {n : Nat} {L L' : List Int} {r r' : Int} (h : ∀ y, Nd n y → (L.getD y.toNat 0 = r ↔ L'.getD y.toNat 0 = r')) : mbs n L r = mbs n L' r' := by
  unfold mbs
  refine List.filter_congr fun y hy => ?_
  rw [decide_eq_decide]
  exact h y (mem_iota.1 hy)

structure Inv (n : Nat) (s : SS) (L : List Int) : Prop where
  lp : s.P.length = n
  lz : s.Z.length = n
  ll : L.length = n
  cs : s.S.length ≤ 100
  nd : ∀ x : Nat, x < n → Nd n (L.getD x 0)
  id : ∀ x : Nat, x < n → L.getD (L.getD x 0).toNat 0 = L.getD x 0
  rt : ∀ x : Nat, x < n → s.P.getD x 0 = -1 → L.getD x 0 = x ∧ s.Z.getD x 0 = (mbs n L x).length
  up : ∀ x : Nat, x < n → s.P.getD x 0 ≠ -1 → Nd n (s.P.getD x 0) ∧ L.getD x 0 = L.getD (s.P.getD x 0).toNat 0 ∧ s.Z.getD x 0 < s.Z.getD (s.P.getD x 0).toNat 0 ∧ L.getD x 0 ≠ x
  zb : ∀ x : Nat, x < n → 1 ≤ s.Z.getD x 0 ∧ s.Z.getD x 0 ≤ n

theorem getD_rep {n x : Nat} (v : Int) (h : x < n) : (List.replicate n v).getD x 0 = v := by
  rw [List.getD_eq_getElem?_getD, List.getElem?_replicate, if_pos h]; rfl
theorem mbs_iota {n : Nat} {x : Nat} (h : x < n) : (mbs n (iota n) x).length = 1 := by
  have e : mbs n (iota n) x = (iota n).filter fun y => decide (y = (x : Int)) := by
    refine List.filter_congr fun y hy => ?_
    rw [decide_eq_decide]
    have := mem_iota.1 hy
    rw [iota_get (by omega)]; omega
  have h1 := filter_one (l := iota n) (iota_nodup n) (p := fun y => decide (y = (x : Int))) (m := x) (mem_iota.2 ⟨by omega, by omega⟩) (by simp)
  have h2 : ((iota n).filter fun y => decide (y = (x : Int)) && !decide (y = (x : Int))) = [] := by
    rw [List.filter_eq_nil_iff]; intro y _; cases decide (y = (x : Int)) <;> simp
  rw [h2] at h1
  rw [e]; simpa using h1.symm

theorem Inv.new {n : Nat} : Inv n (newS n) (iota n) := by
  refine ⟨by simp [newS], by simp [newS], iota_length n, by simp [newS], fun x hx => ?_, fun x hx => ?_, fun x hx _ => ?_, fun x hx h => ?_, fun x hx => ?_⟩
  · rw [iota_get hx]; unfold Nd; omega
  · rw [iota_get hx, Int.toNat_natCast, iota_get hx]
  · rw [iota_get hx]
    exact ⟨rfl, by show (List.replicate n 1).getD x 0 = _; rw [getD_rep 1 hx, mbs_iota hx]; rfl⟩
  · exact absurd (show (List.replicate n (-1)).getD x 0 = -1 from getD_rep _ hx) h
  · show 1 ≤ (List.replicate n 1).getD x 0 ∧ (List.replicate n 1).getD x 0 ≤ _
    rw [getD_rep 1 hx]; omega

theorem Inv.step {n : Nat} {s : SS} {L : List Int} {t : E} (h : Inv n s L) (ho : stOk s t) : Inv n (stDo s t) (lbStep L t) := by
  obtain ⟨h1, ⟨b1, b2, b3⟩, h3⟩ := ho
  by_cases hA : t.A = -1
  · have e1 : lbStep L t = L := by unfold lbStep; rw [if_pos hA]
    have e2 : stDo s t = ⟨s.P, s.Z, s.S ++ [t]⟩ := by unfold stDo; rw [if_pos hA]
    rw [e1, e2]
    have hcs := h.cs
    exact ⟨h.lp, h.lz, h.ll, by show (s.S ++ [t]).length ≤ 100; rw [List.length_append, List.length_singleton]; omega, h.nd, h.id, h.rt, h.up, h.zb⟩
  obtain ⟨hne, ⟨a1, a2, a3⟩, _⟩ := h3 hA
  have lp := h.lp
  have lz := h.lz
  have ll := h.ll
  rw [lp] at a2 b2
  obtain ⟨A, B⟩ := t
  dsimp only at *
  obtain ⟨a, rfl⟩ := Int.eq_ofNat_of_zero_le a1
  obtain ⟨b, rfl⟩ := Int.eq_ofNat_of_zero_le b1
  simp only [Int.toNat_natCast] at a3 b3
  have han : a < n := by omega
  have hbn : b < n := by omega
  have hab : a ≠ b := fun e => hne (by rw [e])
  obtain ⟨ra1, ra2⟩ := h.rt a han a3
  obtain ⟨rb1, rb2⟩ := h.rt b hbn b3
  have za := h.zb a han
  have zb := h.zb b hbn
  have e2 : stDo s ⟨a, b⟩ = ⟨s.P.set a b, s.Z.set b (s.Z.getD b 0 + s.Z.getD a 0), s.S ++ [⟨a, b⟩]⟩ := by
    unfold stDo; rw [if_neg hA]; simp only [Int.toNat_natCast]
  have hL : ∀ x : Nat, x < n → (lbStep L ⟨a, b⟩).getD x 0 = if L.getD x 0 = (a : Int) then (b : Int) else L.getD x 0 := fun x hx => lbStep_get (t := ⟨a, b⟩) (by omega) hA
  have hP : ∀ x : Nat, (s.P.set a b).getD x 0 = if a = x then (b : Int) else s.P.getD x 0 := fun x => by
    rw [getD_setI]
    by_cases hx : a = x
    · rw [if_pos ⟨hx, by omega⟩, if_pos hx]
    · rw [if_neg (fun hh => hx hh.1), if_neg hx]
  have hZ : ∀ x : Nat, (s.Z.set b (s.Z.getD b 0 + s.Z.getD a 0)).getD x 0 = if b = x then s.Z.getD b 0 + s.Z.getD a 0 else s.Z.getD x 0 := fun x => by
    rw [getD_setI]
    by_cases hx : b = x
    · rw [if_pos ⟨hx, by omega⟩, if_pos hx]
    · rw [if_neg (fun hh => hx hh.1), if_neg hx]
  have hLn : ∀ y : Int, Nd n y → (lbStep L ⟨a, b⟩).getD y.toNat 0 = if L.getD y.toNat 0 = (a : Int) then (b : Int) else L.getD y.toNat 0 := fun y hy => hL y.toNat (by unfold Nd at hy; omega)
  have cntB : (mbs n (lbStep L ⟨a, b⟩) b).length = (mbs n L b).length + (mbs n L a).length := by
    unfold mbs
    rw [← filter_or]
    · congr 1
      refine List.filter_congr fun y hy => ?_
      rw [hLn y (mem_iota.1 hy)]
      by_cases hy : L.getD y.toNat 0 = (a : Int)
      · rw [if_pos hy, decide_eq_true rfl, decide_eq_true hy, Bool.or_true]
      · rw [if_neg hy, decide_eq_false hy, Bool.or_false]
    · intro y _ hh
      simp only [decide_eq_true_eq] at hh
      omega
  have cntO : ∀ x : Nat, x ≠ a → x ≠ b → mbs n (lbStep L ⟨a, b⟩) x = mbs n L x := fun x hxa hxb => mbs_congr fun y hy => by
    rw [hLn y hy]
    split
    · omega
    · exact Iff.rfl
  have hcB := mbs_le n (lbStep L ⟨a, b⟩) b
  have hcs := h.cs
  rw [e2]
  refine ⟨?_, ?_, ?_, ?_, ?_, ?_, ?_, ?_, ?_⟩
  · simp [lp]
  · simp [lz]
  · rw [lbStep_len, ll]
  · show (s.S ++ _).length ≤ 100
    rw [List.length_append, List.length_singleton]; omega
  · intro x hx
    rw [hL x hx]
    split
    · unfold Nd; omega
    · exact h.nd x hx
  · intro x hx
    have hnd := h.nd x hx
    rw [hL x hx]
    split
    · rw [Int.toNat_natCast, hL b hbn, rb1, if_neg (by omega)]
    · rw [hLn _ hnd, h.id x hx, if_neg ‹_›]
  · intro x hx hx1
    dsimp only at hx1 ⊢
    rw [hP] at hx1
    by_cases hxa : a = x
    · rw [if_pos hxa] at hx1; omega
    · rw [if_neg hxa] at hx1
      obtain ⟨q1, q2⟩ := h.rt x hx hx1
      rw [hL x hx, q1, if_neg (by omega), hZ]
      refine ⟨rfl, ?_⟩
      by_cases hxb : b = x
      · subst hxb
        rw [if_pos rfl, cntB]; omega
      · rw [if_neg hxb, cntO x (fun e => hxa e.symm) (fun e => hxb e.symm), q2]
  · intro x hx hx1
    dsimp only at hx1 ⊢
    rw [hP] at hx1
    rw [hP]
    by_cases hxa : a = x
    · subst hxa
      rw [if_pos rfl, Int.toNat_natCast, hL a hx, ra1, if_pos rfl, hL b hbn, rb1, if_neg (by omega), hZ, if_neg (by omega), hZ, if_pos rfl]
      exact ⟨by unfold Nd; omega, rfl, by omega, by omega⟩
    · rw [if_neg hxa] at hx1 ⊢
      obtain ⟨q1, q2, q3, q4⟩ := h.up x hx hx1
      refine ⟨q1, ?_, ?_, ?_⟩
      · rw [hL x hx, hLn _ q1, q2]
      · rw [hZ, hZ, if_neg (fun e => hx1 (by rw [← e]; exact b3))]
        by_cases hxb : b = (s.P.getD x 0).toNat
        · rw [if_pos hxb]; rw [← hxb] at q3; omega
        · rw [if_neg hxb]; exact q3
      · rw [hL x hx]
        split
        · intro e
          have : b = x := by omega
          subst this
          exact hx1 b3
        · exact q4
  · intro x hx
    dsimp only
    rw [hZ]
    split
    · rw [rb2, ra2] at *; omega
    · exact h.zb x hx

theorem list_snoc {α : Type} (p : List α → Prop) (h0 : p []) (h1 : ∀ l x, p l → p (l ++ [x])) : ∀ l, p l := by
  intro l
  have : ∀ k, k ≤ l.length → p (l.take k) := by
    intro k
    induction k with
    | zero => intro _; simpa using h0
    | succ k ih =>
      intro hk
      rw [List.take_succ_eq_append_getElem (by omega)]
      exact h1 _ _ (ih (by omega))
  have := this l.length (Nat.le_refl _)
  rwa [List.take_length] at this

theorem repl_inv (n : Nat) : ∀ (S : List E) (s : SS), repl n S = some s → Inv n s (lbs n S) ∧ s.S = S := by
  intro S
  refine list_snoc (fun S => ∀ s, repl n S = some s → Inv n s (lbs n S) ∧ s.S = S) ?_ ?_ S
  · intro s h
    have : newS n = s := by simpa [repl] using h
    subst this
    exact ⟨Inv.new, rfl⟩
  · intro S t ih s h
    rw [repl_snoc] at h
    cases hs : repl n S with
    | none => rw [hs, repo_none] at h; cases h
    | some s0 =>
      rw [hs] at h
      obtain ⟨h1, h2⟩ := ih s0 hs
      by_cases ho : stOk s0 t
      · rw [repo_some ho] at h
        simp only [Option.some.injEq] at h
        subst h
        rw [lbs_snoc, stDo_S, h2]
        exact ⟨h1.step ho, rfl⟩
      · rw [repo_bad ho] at h; cases h

/-- The labels of sets. -/
def lb (s : SS) : List Int := lbs s.P.length s.S
theorem SV.inv {s : SS} (h : SV s) : Inv s.P.length s (lb s) := (repl_inv _ _ _ h.2.2).1
theorem SV.take {s : SS} (h : SV s) (k : Nat) : ∃ x, repl s.P.length (s.S.take k) = some x := by
  cases hx : repl s.P.length (s.S.take k) with
  | some x => exact ⟨x, rfl⟩
  | none =>
    have := h.2.2
    unfold repl at this hx
    rw [← List.take_append_drop k s.S, List.foldl_append, hx, foldl_repo_none] at this
    cases this
theorem repl_SV {n : Nat} {S : List E} {s : SS} (h : repl n S = some s) (h1 : 1 ≤ n) (h2 : n ≤ 16) : SV s ∧ s.P.length = n ∧ s.S = S := by
  obtain ⟨hi, hS⟩ := repl_inv n S s h
  have hp := hi.lp
  refine ⟨⟨by omega, by omega, ?_⟩, hp, hS⟩
  rw [hp, hS, h]

theorem Inv.root {n : Nat} {s : SS} {L : List Int} (h : Inv n s L) {x : Int} (hx : Nd n x) : rtB s (L.getD x.toNat 0) := by
  obtain ⟨h1, h2⟩ := hx
  have hn := h.nd x.toNat (by omega)
  have hid := h.id x.toNat (by omega)
  refine ⟨hn.1, by rw [h.lp]; exact hn.2, ?_⟩
  by_cases hp : s.P.getD (L.getD x.toNat 0).toNat 0 = -1
  · exact hp
  · have := (h.up _ (by have := hn.1; have := hn.2; omega) hp).2.2.2
    rw [hid] at this
    have := hn.1
    omega
theorem Inv.of_root {n : Nat} {s : SS} {L : List Int} (h : Inv n s L) {x : Int} (hx : rtB s x) : L.getD x.toNat 0 = x ∧ s.Z.getD x.toNat 0 = (mbs n L x).length ∧ Nd n x := by
  obtain ⟨h1, h2, h3⟩ := hx
  rw [h.lp] at h2
  have := h.rt x.toNat (by omega) h3
  rw [Int.toNat_of_nonneg h1] at this
  exact ⟨this.1, this.2, h1, h2⟩

/-! ### Unions -/
def unS (s : SS) (x y : Int) : E :=
  if (lb s).getD x.toNat 0 = (lb s).getD y.toNat 0 then ⟨-1, (lb s).getD x.toNat 0⟩
  else if abv s ((lb s).getD x.toNat 0) ((lb s).getD y.toNat 0) then ⟨(lb s).getD y.toNat 0, (lb s).getD x.toNat 0⟩ else ⟨(lb s).getD x.toNat 0, (lb s).getD y.toNat 0⟩
def uni (s : SS) (x y : Int) : SS := stDo s (unS s x y)
theorem abv_total {s : SS} {x y : Int} (h : x ≠ y) (hn : ¬ abv s x y) : abv s y x := by unfold abv at *; omega
theorem abv_asymm {s : SS} {x y : Int} (h : abv s x y) : ¬ abv s y x := by unfold abv at *; omega
theorem unS_symm (s : SS) (x y : Int) : unS s x y = unS s y x := by
  unfold unS
  by_cases h : (lb s).getD x.toNat 0 = (lb s).getD y.toNat 0
  · rw [if_pos h, if_pos h.symm, h]
  · rw [if_neg h, if_neg (Ne.symm h)]
    by_cases h2 : abv s ((lb s).getD x.toNat 0) ((lb s).getD y.toNat 0)
    · rw [if_pos h2, if_neg (abv_asymm h2)]
    · rw [if_neg h2, if_pos (abv_total h h2)]
theorem uni_symm (s : SS) (x y : Int) : uni s x y = uni s y x := by unfold uni; rw [unS_symm]
theorem unS_ok {s : SS} (hi : Inv s.P.length s (lb s)) {x y : Int} (hx : Nd s.P.length x) (hy : Nd s.P.length y) (hl : s.S.length ≠ 100) : stOk s (unS s x y) := by
  have r1 := hi.root hx
  have r2 := hi.root hy
  unfold unS
  split
  · exact ⟨hl, r1, fun h => absurd rfl h⟩
  · split
    · exact ⟨hl, r1, fun _ => ⟨by dsimp only; omega, r2, ‹_›⟩⟩
    · exact ⟨hl, r2, fun _ => ⟨by dsimp only; omega, r1, abv_total ‹_› ‹_›⟩⟩
theorem unS_le {s : SS} (hl : s.S.length = 100) (t : E) : ¬ stOk s t := fun h => h.1 hl
theorem uni_inv {s : SS} (h : SV s) {x y : Int} (hx : Nd s.P.length x) (hy : Nd s.P.length y) (hl : s.S.length ≠ 100) : SV (uni s x y) ∧ (uni s x y).P.length = s.P.length ∧ (uni s x y).S = s.S ++ [unS s x y] ∧ lb (uni s x y) = lbStep (lb s) (unS s x y) := by
  have ho := unS_ok h.inv hx hy hl
  have hr : repl s.P.length (s.S ++ [unS s x y]) = some (uni s x y) := by rw [repl_snoc, h.2.2, repo_some ho]; rfl
  obtain ⟨h1, h2, h3⟩ := repl_SV hr h.1 h.2.1
  refine ⟨h1, h2, h3, ?_⟩
  unfold lb
  rw [h2, h3, lbs_snoc]
theorem uni_label {s : SS} (h : SV s) {x y : Int} (hx : Nd s.P.length x) (hy : Nd s.P.length y) (hl : s.S.length ≠ 100) {z w : Int} (hz : Nd s.P.length z) (hw : Nd s.P.length w) :
    (lb (uni s x y)).getD z.toNat 0 = (lb (uni s x y)).getD w.toNat 0 ↔ (lb s).getD z.toNat 0 = (lb s).getD w.toNat 0 ∨ ((lb s).getD z.toNat 0 = (lb s).getD x.toNat 0 ∧ (lb s).getD y.toNat 0 = (lb s).getD w.toNat 0) ∨ ((lb s).getD z.toNat 0 = (lb s).getD y.toNat 0 ∧ (lb s).getD x.toNat 0 = (lb s).getD w.toNat 0) := by
  have hi := h.inv
  obtain ⟨_, _, _, e⟩ := uni_inv h hx hy hl
  rw [e]
  have hnx := (hi.root hx).1
  have hny := (hi.root hy).1
  have hll := hi.ll
  obtain ⟨hz1, hz2⟩ := hz
  obtain ⟨hw1, hw2⟩ := hw
  have gz : ∀ t : E, t.A ≠ -1 → (lbStep (lb s) t).getD z.toNat 0 = if (lb s).getD z.toNat 0 = t.A then t.B else (lb s).getD z.toNat 0 := fun t ht => lbStep_get (by omega) ht
  have gw : ∀ t : E, t.A ≠ -1 → (lbStep (lb s) t).getD w.toNat 0 = if (lb s).getD w.toNat 0 = t.A then t.B else (lb s).getD w.toNat 0 := fun t ht => lbStep_get (by omega) ht
  unfold unS
  split
  · rename_i h1
    have : ∀ r : Int, lbStep (lb s) ⟨-1, r⟩ = lb s := fun r => by unfold lbStep; rw [if_pos rfl]
    rw [this]; omega
  · split
    · rw [gz _ (by dsimp only; omega), gw _ (by dsimp only; omega)]
      dsimp only
      split <;> split <;> omega
    · rw [gz _ (by dsimp only; omega), gw _ (by dsimp only; omega)]
      dsimp only
      split <;> split <;> omega
/-- Sets taken back to what they were. -/
theorem uni_undo {s : SS} (h : SV s) {x y : Int} (hx : Nd s.P.length x) (hy : Nd s.P.length y) (hl : s.S.length ≠ 100) : repl (uni s x y).P.length ((uni s x y).S.take ((uni s x y).S.length - 1)) = some s := by
  obtain ⟨_, h2, h3, _⟩ := uni_inv h hx hy hl
  rw [h2, h3, List.length_append, List.length_singleton, Nat.add_sub_cancel, List.take_left]
  exact h.2.2

/-- The second program's test of a step. -/
theorem step_iff {s : SS} (hi : Inv s.P.length s (lb s)) (hl : s.S.length ≠ 100) {t : E} {a : Int} (ha : a = if t.A < 0 then t.B else t.A) :
    stOk s t ↔ Nd s.P.length a ∧ Nd s.P.length t.B ∧ (lb s).getD t.B.toNat 0 = t.B ∧ unS s a t.B = t := by
  obtain ⟨A, B⟩ := t
  dsimp only at *
  constructor
  · rintro ⟨_, h2, h3⟩
    dsimp only at h2 h3
    obtain ⟨b1, b2, b3⟩ := hi.of_root h2
    by_cases hA : A = -1
    · rw [if_pos (by omega)] at ha
      subst ha
      refine ⟨b3, b3, b1, ?_⟩
      unfold unS
      rw [if_pos rfl, b1, hA]
    · obtain ⟨q1, q2, q3⟩ := h3 hA
      obtain ⟨a1, a2, a3⟩ := hi.of_root q2
      rw [if_neg (by have := a3.1; omega)] at ha
      subst ha
      refine ⟨a3, b3, b1, ?_⟩
      unfold unS
      rw [a1, b1, if_neg q1, if_neg (abv_asymm q3)]
  · rintro ⟨h1, h2, h3, h4⟩
    rw [← h4]
    exact unS_ok hi h1 h2 hl

/-! ### Sets of a graph -/
def ofS (n : Nat) (es : List E) : SS := es.foldl (fun s e => uni s e.A e.B) (newS n)
theorem newS_SV {n : Nat} (h1 : 1 ≤ n) (h2 : n ≤ 16) : SV (newS n) := by
  have : (newS n).P.length = n := by simp [newS]
  refine ⟨by omega, by omega, ?_⟩
  rw [this]; rfl
theorem newS_lb {n : Nat} : lb (newS n) = iota n := by
  unfold lb
  have : (newS n).P.length = n := by simp [newS]
  rw [this]; rfl
theorem ofS_spec {n : Nat} (h1 : 1 ≤ n) (h2 : n ≤ 16) : ∀ es : List E, okE n es → es.length ≤ 100 → SV (ofS n es) ∧ (ofS n es).P.length = n ∧ (ofS n es).S.length = es.length ∧ (∀ x y, Nd n x → Nd n y → ((lb (ofS n es)).getD x.toNat 0 = (lb (ofS n es)).getD y.toNat 0 ↔ Conn es x y)) := by
  intro es
  refine list_snoc (fun es => okE n es → es.length ≤ 100 → SV (ofS n es) ∧ (ofS n es).P.length = n ∧ (ofS n es).S.length = es.length ∧ (∀ x y, Nd n x → Nd n y → ((lb (ofS n es)).getD x.toNat 0 = (lb (ofS n es)).getD y.toNat 0 ↔ Conn es x y))) ?_ ?_ es
  · intro _ _
    refine ⟨newS_SV h1 h2, by simp [ofS, newS], rfl, fun x y hx hy => ?_⟩
    show (lb (newS n)).getD _ 0 = (lb (newS n)).getD _ 0 ↔ _
    rw [newS_lb, conn_nil]
    unfold Nd at hx hy
    rw [iota_get (by omega), iota_get (by omega)]; omega
  · intro es e ih hE hl
    rw [List.length_append, List.length_singleton] at hl
    obtain ⟨i1, i2, i3, i4⟩ := ih (hE.sub fun f hf => by simp [hf]) (by omega)
    have he := hE e (by simp)
    have e1 : ofS n (es ++ [e]) = uni (ofS n es) e.A e.B := by unfold ofS; rw [List.foldl_append]; rfl
    have hnA : Nd (ofS n es).P.length e.A := by rw [i2]; exact he.1
    have hnB : Nd (ofS n es).P.length e.B := by rw [i2]; exact he.2
    obtain ⟨u1, u2, u3, _⟩ := uni_inv i1 hnA hnB (by omega)
    rw [e1]
    refine ⟨u1, by rw [u2, i2], by rw [u3, List.length_append, List.length_append, i3]; rfl, fun x y hx hy => ?_⟩
    rw [uni_label i1 hnA hnB (by omega) (by rw [i2]; exact hx) (by rw [i2]; exact hy), i4 x y hx hy, i4 x e.A hx he.1, i4 x e.B hx he.2, i4 e.B y he.2 hy, i4 e.A y he.1 hy, conn_app, conn_cons]
/-- What step number i of a graph's sets tells: whether the edge joins two parts. -/
theorem ofS_step {n : Nat} (h1 : 1 ≤ n) (h2 : n ≤ 16) {es : List E} (hE : okE n es) (hl : es.length ≤ 100) {i : Nat} (hi : i < es.length) :
    (ofS n es).S.take (i + 1) = (ofS n (es.take (i + 1))).S ∧ (0 ≤ ((ofS n es).S.getD i eD).A ↔ ¬ Conn (es.take i) (es.getD i eD).A (es.getD i eD).B) := by
  have key : ∀ es : List E, okE n es → es.length ≤ 100 → ∀ i, i ≤ es.length → (ofS n es).S.take i = (ofS n (es.take i)).S := by
    intro es
    refine list_snoc (fun es => okE n es → es.length ≤ 100 → ∀ i, i ≤ es.length → (ofS n es).S.take i = (ofS n (es.take i)).S) ?_ ?_ es
    · intro _ _ i hi
      have : i = 0 := by simpa using hi
      subst this; rfl
    · intro es e ih hE hl i hi
      rw [List.length_append, List.length_singleton] at hl hi
      have hE' : okE n es := hE.sub fun f hf => by simp [hf]
      have he := hE e (by simp)
      obtain ⟨i1, i2, i3, i4⟩ := ofS_spec h1 h2 es hE' (by omega)
      have e1 : ofS n (es ++ [e]) = uni (ofS n es) e.A e.B := by unfold ofS; rw [List.foldl_append]; rfl
      obtain ⟨u1, u2, u3, _⟩ := uni_inv i1 (x := e.A) (y := e.B) (by rw [i2]; exact he.1) (by rw [i2]; exact he.2) (by omega)
      rcases Nat.lt_or_ge es.length i with h | h
      · have : i = es.length + 1 := by omega
        subst this
        rw [List.take_of_length_le (by rw [e1, u3, List.length_append, i3]; simp), List.take_of_length_le (by simp)]
      · rw [List.take_append_of_le_length h, e1, u3, List.take_append_of_le_length (by omega)]
        exact ih hE' (by omega) i h
  have hk := key es hE hl (i + 1) hi
  refine ⟨hk, ?_⟩
  have hE' : okE n (es.take i) := hE.sub fun f hf => List.mem_of_mem_take hf
  have hl' : (es.take i).length ≤ 100 := by rw [List.length_take]; omega
  have hli : (es.take i).length = i := by rw [List.length_take]; omega
  obtain ⟨i1, i2, i3, i4⟩ := ofS_spec h1 h2 _ hE' hl'
  have he := hE _ (getD_memI (d := eD) hi)
  have e1 : ofS n (es.take (i + 1)) = uni (ofS n (es.take i)) (es.getD i eD).A (es.getD i eD).B := by
    rw [take_succD eD hi]; unfold ofS; rw [List.foldl_append]; rfl
  have hnA : Nd (ofS n (es.take i)).P.length (es.getD i eD).A := by rw [i2]; exact he.1
  have hnB : Nd (ofS n (es.take i)).P.length (es.getD i eD).B := by rw [i2]; exact he.2
  obtain ⟨u1, u2, u3, _⟩ := uni_inv i1 hnA hnB (by omega)
  have e2 : (ofS n es).S.getD i eD = unS (ofS n (es.take i)) (es.getD i eD).A (es.getD i eD).B := by
    have e3 : ((ofS n es).S.take (i + 1)).getD i eD = (ofS n es).S.getD i eD := by
      rw [List.getD_eq_getElem?_getD, List.getD_eq_getElem?_getD, List.getElem?_take, if_pos (by omega)]
    rw [← e3, hk, e1, u3, List.getD_eq_getElem?_getD, List.getElem?_append_right (by omega), i3, hli, Nat.sub_self]; rfl
  rw [e2, ← i4 _ _ he.1 he.2]
  have r1 := i1.inv.root hnA
  have r2 := i1.inv.root hnB
  unfold unS
  split
  · rename_i h; exact ⟨fun h' => absurd (show (0 : Int) ≤ -1 from h') (by decide), fun h' => absurd h h'⟩
  · split
    · exact ⟨fun _ => by assumption, fun _ => r2.1⟩
    · exact ⟨fun _ => by assumption, fun _ => r1.1⟩
end Go.Proofs.Ytfigegmgopnfhaa
