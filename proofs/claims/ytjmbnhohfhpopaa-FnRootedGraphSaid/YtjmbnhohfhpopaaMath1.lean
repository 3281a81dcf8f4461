/- Rooted trees: plain facts about roots and turns. -/
import Derived.Test.YtjmbnhohfhpopaaMath0
namespace Go.Proofs.Ytjmbnhohfhpopaa
open Go

theorem NV.up_cons {ps ws : List Int} {x : Int} (h : NV ps ws x) : up ps ps.length x = x :: up ps (ps.length - 1) (ps.getD x.toNat 0) := by
  have h1 : 1 ≤ ps.length := h.1.1
  have h3 : x ≠ -1 := by have := h.2.1; omega
  have := up_step (ps := ps) (n := ps.length) (k := 0) (y := x) (by omega) h3
  simpa using this
theorem NV.up_top {ps ws : List Int} {x : Int} (h : NV ps ws x) (hr : ps.getD x.toNat 0 = -1) : up ps ps.length x = [x] := by
  rw [h.up_cons, hr, up_root]
theorem rootV_mem {ps ws : List Int} {x : Int} (h : NV ps ws x) : rootV ps x ∈ up ps ps.length x := getD_mem (by have := h.up_pos; omega)
theorem getD_last_append (l : List Int) (x : Int) : (l ++ [x]).getD ((l ++ [x]).length - 1) 0 = x := by
  rw [List.getD_eq_getElem?_getD, List.length_append, List.length_singleton, Nat.add_sub_cancel, List.getElem?_append_right (Nat.le_refl _), Nat.sub_self]; rfl
theorem root_iff {ps ws : List Int} {x y : Int} (hx : NV ps ws x) (hy : NV ps ws y) (hr : ps.getD x.toNat 0 = -1) : x ∈ up ps ps.length y ↔ rootV ps y = x := by
  constructor
  · intro h
    obtain ⟨_, l, e⟩ := up_suf hy.ends h
    rw [hx.up_top hr] at e
    unfold rootV
    rw [e]; exact getD_last_append l x
  · rintro rfl; exact rootV_mem hy

/-- As turnP, but without the first step. -/
def turnP' (ps l : List Int) : Nat → List Int
  | 0 => ps
  | k + 1 => (turnP' ps l k).set (l.getD (k + 1) 0).toNat (l.getD k 0)
def turnW' (ws l : List Int) : Nat → List Int
  | 0 => ws
  | k + 1 => (turnW' ws l k).set (l.getD (k + 1) 0).toNat (ws.getD (l.getD k 0).toNat 0)
theorem turnP'_length (ps l : List Int) : ∀ k, (turnP' ps l k).length = ps.length
  | 0 => rfl
  | k + 1 => by simp [turnP', turnP'_length ps l k]
theorem turnW'_length (ws l : List Int) : ∀ k, (turnW' ws l k).length = ws.length
  | 0 => rfl
  | k + 1 => by simp [turnW', turnW'_length ws l k]
theorem head_ne {l : List Int} (hd : l.Nodup) (h0 : ∀ a ∈ l, 0 ≤ a) {k : Nat} (hk : k + 1 < l.length) : (l.getD (k + 1) 0).toNat ≠ (l.getD 0 0).toNat := by
  cases l with
  | nil => simp at hk
  | cons a t =>
    have hk' : k < t.length := by simpa using hk
    have h1 : t.getD k 0 ∈ t := getD_mem hk'
    have h2 : (a :: t).getD (k + 1) 0 = t.getD k 0 := rfl
    have h3 : (a :: t).getD 0 0 = a := rfl
    rw [h2, h3]
    have h4 := h0 a (by simp)
    have h5 := h0 _ (List.mem_cons_of_mem a h1)
    have h6 : a ∉ t := (List.nodup_cons.1 hd).1
    intro e
    have : t.getD k 0 = a := by omega
    exact h6 (this ▸ h1)
theorem turnP_eq {ps l : List Int} (hd : l.Nodup) (h0 : ∀ a ∈ l, 0 ≤ a) : ∀ k, k < l.length → (turnP' ps l k).set (l.getD 0 0).toNat (-1) = turnP ps l k
  | 0, _ => rfl
  | k + 1, h => by
    rw [turnP, ← turnP_eq hd h0 k (by omega), turnP', List.set_comm _ _ (head_ne hd h0 h)]
theorem turnW_eq {ws l : List Int} (hd : l.Nodup) (h0 : ∀ a ∈ l, 0 ≤ a) : ∀ k, k < l.length → (turnW' ws l k).set (l.getD 0 0).toNat 0 = turnW ws l k
  | 0, _ => rfl
  | k + 1, h => by
    rw [turnW, ← turnW_eq hd h0 k (by omega), turnW', List.set_comm _ _ (head_ne hd h0 h)]
end Go.Proofs.Ytjmbnhohfhpopaa
