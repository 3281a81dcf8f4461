/- Rooted trees: plain facts about ways between nodes. -/
import Derived.Test.YtjmbnhohfhpopaaMath2
import Derived.Test.YtjmbnhohfhpopaaRoot6
namespace Go.Proofs.Ytjmbnhohfhpopaa
open Go

theorem up_mid {ps : List Int} : ∀ {aa bs : List Int} {k : Nat} {x m : Int}, ends ps k x = true → up ps k x = aa ++ m :: bs → up ps k m = m :: bs
  | [], bs, k, x, m, he, h => by
    cases k with
    | zero => simp [up] at h
    | succ k =>
      have h' := h
      unfold up at h'
      by_cases h1 : x = -1
      · rw [if_pos h1] at h'; simp at h'
      · rw [if_neg h1] at h'
        simp only [List.nil_append, List.cons.injEq] at h'
        obtain ⟨rfl, _⟩ := h'
        simpa using h
  | a :: aa, bs, k, x, m, he, h => by
    cases k with
    | zero => simp [up] at h
    | succ k =>
      have h' := h
      unfold up at h'
      by_cases h1 : x = -1
      · rw [if_pos h1] at h'; simp at h'
      · rw [if_neg h1] at h'
        simp only [List.cons_append, List.cons.injEq] at h'
        unfold ends at he
        rw [decide_eq_false h1, Bool.false_or] at he
        have ih := up_mid he h'.2
        have hm : m ∈ up ps k (ps.getD x.toNat 0) := by rw [h'.2]; simp
        rw [up_stab (Nat.le_succ k) (up_suf he hm).1, ih]

theorem up_anti {ps ws : List Int} {a b : Int} (ha : NV ps ws a) (hb : NV ps ws b) (h1 : a ∈ up ps ps.length b) (h2 : b ∈ up ps ps.length a) : a = b := by
  obtain ⟨_, l1, e1⟩ := up_suf hb.ends h1
  obtain ⟨_, l2, e2⟩ := up_suf ha.ends h2
  have n1 := congrArg List.length e1
  have n2 := congrArg List.length e2
  rw [List.length_append] at n1 n2
  have : l1 = [] := List.length_eq_zero_iff.1 (by omega)
  subst this
  have c1 := ha.up_cons
  have c2 := hb.up_cons
  rw [List.nil_append] at e1
  rw [c1, c2] at e1
  exact (List.cons.inj e1).1.symm

theorem meet_symm {ps ws : List Int} {x y m : Int} (hx : NV ps ws x) (hy : NV ps ws y) (h : meetF ps x y = some m) : meetF ps y x = some m := by
  have hs : (meetF ps y x).isSome = true := (meet_iff hy hx).2 ((meet_iff hx hy).1 (by rw [h]; rfl)).symm
  obtain ⟨m', h'⟩ := Option.isSome_iff_exists.1 hs
  obtain ⟨a1, a2⟩ := meetF_mem h
  obtain ⟨b1, b2⟩ := meetF_mem h'
  have g := h
  have g' := h'
  unfold meetF at g g'
  obtain ⟨_, aa, bs, e1, e2⟩ := List.find?_eq_some_iff_append.1 g
  obtain ⟨_, aa', bs', e1', e2'⟩ := List.find?_eq_some_iff_append.1 g'
  have u1 := up_mid hx.ends e1
  have u2 := up_mid hy.ends e1'
  have q1 : m ∈ up ps ps.length m' := by
    rw [u2]
    rw [e1'] at a2
    rcases List.mem_append.1 a2 with h3 | h3
    · have := e2' m h3; simp [a1] at this
    · exact h3
  have q2 : m' ∈ up ps ps.length m := by
    rw [u1]
    rw [e1] at b2
    rcases List.mem_append.1 b2 with h3 | h3
    · have := e2 m' h3; simp [b1] at this
    · exact h3
  rw [h', up_anti (hx.of_up a1) (hy.of_up b1) q1 q2]

theorem meet_up {ps ws : List Int} {x m : Int} (hx : NV ps ws x) (hm : m ∈ up ps ps.length x) : meetF ps x m = some m := by
  obtain ⟨aa, bs, e⟩ := List.append_of_mem hm
  have u := up_mid hx.ends e
  have hnd := up_nodup hx.ends
  unfold meetF
  rw [List.find?_eq_some_iff_append]
  refine ⟨by rw [u]; simp, aa, bs, e, fun a ha => ?_⟩
  rw [e] at hnd
  have := (List.nodup_append.1 hnd).2.2 a ha
  rw [u]
  simp only [Bool.not_eq_true', decide_eq_false_iff_not]
  exact fun h => this a h rfl
theorem meet_down {ps ws : List Int} {y m : Int} (hm : NV ps ws m) (hu : m ∈ up ps ps.length y) : meetF ps m y = some m := by
  unfold meetF
  rw [hm.up_cons, List.find?_cons_of_pos (by simpa using hu)]
theorem pre_self {ps ws : List Int} {m : Int} (hm : NV ps ws m) : pre (up ps ps.length m) m = [] := by
  unfold pre
  rw [hm.up_cons]; simp

theorem sumW_append (ws a b : List Int) : sumW ws (a ++ b) = sumW ws a + sumW ws b := by simp [sumW]
theorem maxW_from (ws : List Int) : ∀ (l : List Int) (c : Int), 0 ≤ c → l.foldl (fun a n => max a (ws.getD n.toNat 0)) c = max c (maxW ws l)
  | [], c, h => by simp only [maxW, List.foldl_nil]; omega
  | n :: l, c, h => by
    have h1 := maxW_from ws l (max c (ws.getD n.toNat 0)) (by omega)
    have h2 := maxW_from ws l (max 0 (ws.getD n.toNat 0)) (by omega)
    unfold maxW
    rw [List.foldl_cons, List.foldl_cons, h1, h2]
    omega
theorem maxW_nonneg (ws : List Int) (l : List Int) : 0 ≤ maxW ws l := by
  have := maxW_from ws l 0 (by omega)
  have h : maxW ws l = max 0 (maxW ws l) := this
  omega
theorem maxW_append (ws a b : List Int) : maxW ws (a ++ b) = max (maxW ws a) (maxW ws b) := by
  have := maxW_from ws b (maxW ws a) (maxW_nonneg ws a)
  unfold maxW at this ⊢
  rw [List.foldl_append]; exact this
theorem maxW_le {ws : List Int} : ∀ {l : List Int}, (∀ n ∈ l, 0 ≤ ws.getD n.toNat 0 ∧ ws.getD n.toNat 0 ≤ 999) → maxW ws l ≤ sumW ws l
  | [], _ => by simp [maxW, sumW]
  | n :: l, h => by
    have h1 := h n (by simp)
    have h2 := maxW_le (l := l) (fun m hm => h m (by simp [hm]))
    have h3 := sumW_bound (ws := ws) (l := l) (fun m hm => h m (by simp [hm]))
    have e1 : sumW ws (n :: l) = ws.getD n.toNat 0 + sumW ws l := by simp [sumW]
    have e2 : maxW ws (n :: l) = max (maxW ws [n]) (maxW ws l) := maxW_append ws [n] l
    have e3 : maxW ws [n] = max 0 (ws.getD n.toNat 0) := rfl
    omega

/-- What WeightBetween gives. -/
def wbG (ps ws : List Int) (x y : Int) : Int × Int × Bool :=
  if NV ps ws x ∧ NV ps ws y then
    match meetF ps x y with
    | some m => (sumW ws (wayL ps x y m), maxW ws (wayL ps x y m), true)
    | none => (0, 0, false)
  else (0, 0, false)
theorem wbG_some {ps ws : List Int} {x y m : Int} (hx : NV ps ws x) (hy : NV ps ws y) (h : meetF ps x y = some m) : wbG ps ws x y = (sumW ws (wayL ps x y m), maxW ws (wayL ps x y m), true) := by
  unfold wbG; rw [if_pos ⟨hx, hy⟩, h]
theorem wbG_none {ps ws : List Int} {x y : Int} (h : ¬ ((NV ps ws x ∧ NV ps ws y) ∧ (meetF ps x y).isSome = true)) : wbG ps ws x y = (0, 0, false) := by
  unfold wbG
  split
  · next h1 =>
    cases e : meetF ps x y with
    | none => rfl
    | some m => exact absurd ⟨h1, by rw [e]; rfl⟩ h
  · rfl
theorem wbV.val {ps ws : List Int} {x y : Int} {r : Value} (h : wbV ps ws x y r) : r = .tuple #[.int .i64 (wbG ps ws x y).1, .int .i64 (wbG ps ws x y).2.1, .bool (wbG ps ws x y).2.2] := by
  rcases h with ⟨m, h1, h2, rfl⟩ | ⟨h1, rfl⟩
  · rw [wbG_some h1.1 h1.2 h2]
  · rw [wbG_none h1]
theorem wbG_symm (ps ws : List Int) (x y : Int) : wbG ps ws y x = wbG ps ws x y := by
  by_cases h : (NV ps ws x ∧ NV ps ws y) ∧ (meetF ps x y).isSome = true
  · obtain ⟨⟨hx, hy⟩, hs⟩ := h
    obtain ⟨m, hm⟩ := Option.isSome_iff_exists.1 hs
    rw [wbG_some hx hy hm, wbG_some hy hx (meet_symm hx hy hm)]
    unfold wayL
    rw [sumW_append, sumW_append, maxW_append, maxW_append, Int.add_comm, Int.max_comm]
  · rw [wbG_none h, wbG_none (fun h' => h ⟨⟨h'.1.2, h'.1.1⟩, (meet_iff h'.1.2 h'.1.1).2 ((meet_iff h'.1.1 h'.1.2).1 h'.2).symm⟩)]
theorem wb_split {ps ws : List Int} {x y m : Int} (hx : NV ps ws x) (hy : NV ps ws y) (h : meetF ps x y = some m) :
    ∃ a b c p q, wbG ps ws x m = (a, p, true) ∧ wbG ps ws m y = (b, q, true) ∧ wbG ps ws x y = (a + b, c, true) ∧ c ≤ a + b ∧ 0 ≤ a ∧ a ≤ 100000 ∧ 0 ≤ b ∧ b ≤ 100000 := by
  obtain ⟨a1, a2⟩ := meetF_mem h
  have hm := hx.of_up a1
  have w1 := wbG_some hx hm (meet_up hx a1)
  have w2 := wbG_some hm hy (meet_down hm a2)
  have w3 := wbG_some hx hy h
  unfold wayL at w1 w2 w3
  rw [pre_self hm] at w1 w2
  rw [List.append_nil] at w1
  rw [List.nil_append] at w2
  have g1 : ∀ n ∈ pre (up ps ps.length x) m, 0 ≤ ws.getD n.toNat 0 ∧ ws.getD n.toNat 0 ≤ 999 := fun n hn => hx.wt n ((List.takeWhile_sublist _).subset hn)
  have g2 : ∀ n ∈ pre (up ps ps.length y) m, 0 ≤ ws.getD n.toNat 0 ∧ ws.getD n.toNat 0 ≤ 999 := fun n hn => hy.wt n ((List.takeWhile_sublist _).subset hn)
  have s1 := sumW_bound g1
  have s2 := sumW_bound g2
  have t1 : (pre (up ps ps.length x) m).length ≤ (up ps ps.length x).length := (List.takeWhile_prefix _).length_le
  have t2 : (pre (up ps ps.length y) m).length ≤ (up ps ps.length y).length := (List.takeWhile_prefix _).length_le
  have l1 := up_length ps ps.length x
  have l2 := up_length ps ps.length y
  have hn := hx.1.2.1
  have hle := maxW_le (ws := ws) (l := pre (up ps ps.length x) m ++ pre (up ps ps.length y) m) (fun n hn => by
    rcases List.mem_append.1 hn with h | h
    · exact g1 n h
    · exact g2 n h)
  rw [sumW_append] at w3 hle
  exact ⟨_, _, _, _, _, w1, w2, w3, hle, s1.1, by omega, s2.1, by omega⟩
end Go.Proofs.Ytjmbnhohfhpopaa
