/- Texts put together: St0, St1, St2, St3, St4, St5. Conditions: those of each theorem. -/
import Derived.Test.YtfigegmgopnfhaaV1
import Derived.Test.YtfigegmgopnfhaaV2
import Derived.Test.YtfigegmgopnfhaaV5
set_option linter.unusedVariables false
set_option linter.unusedSimpArgs false
/- Sets: the walks of the library's Mul, Repeat, Equal, and of isRoot, isAbove, NewSets. Conditions: those of each contract. -/
namespace Go.Proofs.Ytfigegmgopnfhaa
open Go
theorem encsI (xs : List Int) : encs xs = xs.map fun x => Value.int .i64 x := by
  induction xs with
  | nil => rfl
  | cons x xs ih => rw [encs_cons, ih]; rfl
theorem encs_lenI (xs : List Int) : (encs xs).length = xs.length := by rw [encsI, List.length_map]
theorem cpI (L B : List Int) (post : List Value) (o : Nat) (h : o + B.length ≤ L.length) : (encs L ++ post).take o ++ encs B ++ (encs L ++ post).drop (o + (encs B).length) = encs (L.take o ++ B ++ L.drop (o + B.length)) ++ post := by
  have hl := encs_lenI L
  rw [encs_lenI, List.take_append_of_le_length (by omega), List.drop_append_of_le_length (by omega), encs_append, encs_append, ← List.append_assoc]
  have e1 : (encs L).take o = encs (L.take o) := by rw [encsI, encsI, List.map_take]
  have e2 : (encs L).drop (o + B.length) = encs (L.drop (o + B.length)) := by rw [encsI, encsI, List.map_drop]
  rw [e1, e2]
def rpz (x : Int) (n k : Nat) : List Int := List.replicate k x ++ List.replicate (n - k) 0
theorem rpz_len (x : Int) {n k : Nat} (h : k ≤ n) : (rpz x n k).length = n := by unfold rpz; rw [List.length_append, List.length_replicate, List.length_replicate]; omega
theorem rpz_zero (x : Int) (n : Nat) : rpz x n 0 = List.replicate n 0 := by simp [rpz]
theorem rpz_all (x : Int) (n : Nat) : rpz x n n = List.replicate n x := by simp [rpz]
theorem rpz_step (x : Int) {n k m : Nat} (h : k + m ≤ n) : (rpz x n k).take k ++ List.replicate m x ++ (rpz x n k).drop (k + (List.replicate m x).length) = rpz x n (k + m) := by
  unfold rpz
  rw [List.length_replicate, List.take_left' List.length_replicate]
  have e : n - k = m + (n - (k + m)) := by omega
  have e2 : (List.replicate k x ++ List.replicate (n - k) (0 : Int)).drop (k + m) = List.replicate (n - (k + m)) 0 := by
    rw [e, ← List.replicate_append_replicate, ← List.append_assoc]
    exact List.drop_left' (by rw [List.length_append, List.length_replicate, List.length_replicate])
  rw [e2, List.replicate_append_replicate]
theorem rpz_src {x : Int} {n k d j : Nat} {post : List Value} {u : Value} (h : d ≤ k) (hj : (encs (List.replicate d x))[j]? = some u) : (encs (rpz x n k) ++ post)[0 + j]? = some u := by
  have e : rpz x n k = List.replicate d x ++ (List.replicate (k - d) x ++ List.replicate (n - k) 0) := by
    unfold rpz; rw [← List.append_assoc, List.replicate_append_replicate]; congr 2; omega
  rw [e, encs_append, List.append_assoc, Nat.zero_add, List.getElem?_append_left (List.getElem?_eq_some_iff.1 hj).1]; exact hj
set_option linter.unusedVariables false set_option linter.unusedSimpArgs false attribute [local irreducible] Tok.own Tok.blk RL Rd eptr WP WPL PE WPD WPO Op1 OpE Tri Again Mid Exit.then Exit.inBlock bodyPost RP Code.wp wpList isOwn OneM One
set_option maxHeartbeats 8000000

theorem c_EqualI (w : World) (v u : Value) (xs ys : List Int) (h : RL w v xs) (h' : RL w u ys) (hl : xs.length ≤ 1099511627776) (hl' : ys.length ≤ 1099511627776) :
    Tri Try.prog 114 [v, u] w [] fun r T => T = [] ∧ r = .bool (decide (xs = ys)) := by
  refine Tri.intro (hf := Try.func114) (hb := rfl) (hn := Try.ntmps114) (Nat.le_of_ble_eq_true rfl) ?_
  try refine go ⟨?_⟩
  refine WP.condD rfl (fun hc => ?_) (fun hc => ?_)
  · try refine go ⟨?_⟩
    refine PE.ret1 (T := []) (T' := []) rfl rV ?_ sT
    refine ⟨rfl, ?_⟩
    rw [decide_eq_false]
    rintro rfl
    exact absurd rfl hc
  have hll : xs.length = ys.length := by omega
  try refine go ⟨?_⟩
  refine WP.loop (σ := Nat) (fun k => [(0, v), (1, u), (12, .int .i64 xs.length), (13, .int .i64 k)]) (fun _ => []) (fun k => k ≤ xs.length ∧ ∀ m, m < k → xs.getD m 0 = ys.getD m 0) (fun k => xs.length - k) 0 ⟨Nat.zero_le _, by omega⟩ sE sT ?_
  rintro k ⟨hk, hm⟩
  try refine go ⟨?_⟩
  refine WP.condD rfl (fun hc2 => ?_) (fun hc2 => ?_)
  · have hk' : k < xs.length := by omega
    try refine go ⟨?_⟩
    refine WP.draw [] mixed ?_
    refine WPD.take 0 rfl (Op1.move rfl) rfl rfl sT kR kR kR xQP ?_
    refine WPD.take 1 rfl (Op1.move rfl) rfl rfl sT kR kR kR xQP ?_
    refine WPD.take 4 rfl (Op1.move rfl) rfl rfl sT kR kR kR xQP ?_
    refine WPD.take 5 rfl (Op1.move rfl) rfl rfl sT kR kR kR xQP ?_
    refine WPD.take 2 rfl (by first | exact (Op1.indexAddr rfl rfl rD lT) | exact (Op1.indexAddrZ rfl rfl rD lT)) rfl rfl sT kR kR kR xQP ?_
    refine WPD.take 6 rfl (by first | exact (Op1.indexAddr rfl rfl rD lT) | exact (Op1.indexAddrZ rfl rfl rD lT)) rfl rfl sT kR kR kR xQP ?_
    refine WPD.take 3 rfl (by first | exact (Op1.load rfl mM (by rfl)) | exact (Op1.loadI rfl rD lT) | exact (Op1.loadAll rfl mM (by rfl)) | exact (Op1.loadE rfl rD lT (by rfl)) | exact (Op1.loadEAgg rfl rD lT (by rfl))) rfl rfl sT kR kR kR xQP ?_
    refine WPD.take 7 rfl (by first | exact (Op1.load rfl mM (by rfl)) | exact (Op1.loadI rfl rD lT) | exact (Op1.loadAll rfl mM (by rfl)) | exact (Op1.loadE rfl rD lT (by rfl)) | exact (Op1.loadEAgg rfl rD lT (by rfl))) rfl rfl sT kR kR kR xQP ?_
    refine WPD.take 8 rfl (by first | exact (Op1.neI rfl rfl) | exact (Op1.neB rfl rfl) | exact (Op1.neE rfl rfl)) rfl rfl sT kR kR kR xQP ?_
    refine WPD.done kR ?_
    try refine go ⟨?_⟩
    refine WP.condD rfl (fun hc3 => ?_) (fun hc3 => ?_)
    · try refine go ⟨?_⟩
      refine PE.ret1 (T := []) (T' := []) rfl rV ?_ sT
      refine ⟨rfl, ?_⟩
      rw [decide_eq_false]
      rintro rfl
      exact absurd rfl hc3
    · try refine go ⟨?_⟩
      refine PE.again (k + 1) ?_ ?_ sE sT
      · exact ⟨by omega, fun m hm' => by
          rcases Nat.lt_succ_iff_lt_or_eq.1 hm' with h' | rfl
          · exact hm m h'
          · exact Decidable.not_not.1 hc3⟩
      · omega
  · try refine go ⟨?_⟩
    refine PE.ret1 (T := []) (T' := []) rfl rV ?_ sT
    refine ⟨rfl, ?_⟩
    rw [decide_eq_true]
    exact List.ext_getElem hll (fun i h1 h2 => by
      have := hm i (by omega)
      rwa [List.getD_eq_getElem?_getD, List.getD_eq_getElem?_getD, List.getElem?_eq_getElem h1, List.getElem?_eq_getElem h2] at this)

def setV (a b c : Value) : Value := .agg #[a, b, c]

end Go.Proofs.Ytfigegmgopnfhaa
/- Sets: the walks of isAbove, NewSets, step. Conditions: those of each contract. -/
namespace Go.Proofs.Ytfigegmgopnfhaa
open Go
def nilS : Value := .slice none 0 0
set_option linter.unusedVariables false set_option linter.unusedSimpArgs false attribute [local irreducible] Tok.own Tok.blk RL Rd eptr WP WPL PE WPD WPO Op1 OpE Tri Again Mid Exit.then Exit.inBlock bodyPost RP Code.wp wpList isOwn OneM One
set_option maxHeartbeats 8000000

end Go.Proofs.Ytfigegmgopnfhaa
/- Sets: the walks of root, replay, SetsValid, hasElement, FindRoot. Conditions: those of each contract. -/
namespace Go.Proofs.Ytfigegmgopnfhaa
open Go
/-- The steps can be made. -/
def RPok (n : Int) (S : List E) : Prop := (1 ≤ n ∧ n ≤ 16) ∧ (repl n.toNat S).isSome = true
instance (n : Int) (S : List E) : Decidable (RPok n S) := by unfold RPok; infer_instance
def EL (s : SS) (x : Int) : Prop := SV s ∧ 0 ≤ x ∧ x < s.P.length
instance (s : SS) (x : Int) : Decidable (EL s x) := by unfold EL; infer_instance
theorem SV_iff {s : SS} {s' : SS} (h : RPok s.P.length s.S → repl s.P.length s.S = some s') : SV s ↔ RPok s.P.length s.S ∧ s'.P = s.P ∧ s'.Z = s.Z := by
  have e : ((s.P.length : Nat) : Int).toNat = s.P.length := Int.toNat_natCast _
  constructor
  · rintro ⟨h1, h2, h3⟩
    have hr : RPok s.P.length s.S := ⟨by omega, by rw [e, h3]; rfl⟩
    have := h hr
    rw [h3] at this
    simp only [Option.some.injEq] at this
    subst this
    exact ⟨hr, rfl, rfl⟩
  · rintro ⟨h1, h2, h3⟩
    have hr := h h1
    have hS := (repl_inv _ _ _ hr).2
    have : s' = s := by cases s; cases s'; simp_all
    subst this
    exact ⟨by have := h1.1.1; omega, by have := h1.1.2; omega, hr⟩
theorem replay_bad {n : Nat} {S : List E} {k : Nat} (h : repl n (S.take k) = none) : repl n S = none := by
  unfold repl at *
  rw [← List.take_append_drop k S, List.foldl_append, h, foldl_repo_none]
theorem Inv.z1 {n : Nat} {s : SS} {L : List Int} (h : Inv n s L) (hn : n ≤ 16) : ∀ x : Nat, x < s.Z.length → 0 ≤ s.Z.getD x 0 ∧ s.Z.getD x 0 ≤ 1000 := fun x hx => by
  have := h.zb x (by rw [h.lz] at hx; exact hx)
  omega
/-- What NewSets returns. -/
def nsS (n : Int) : SS := if 1 ≤ n ∧ n ≤ 16 then newS n.toNat else ⟨[], [], []⟩
theorem own_nilA {α : Type} [Enc α] (w : World) : (Tok.own (.slice none 0 0) ([] : List α)).holds w := ⟨by show _ = 0 * _; rw [Nat.zero_mul]; rfl, .inl ⟨rfl, rfl⟩⟩
theorem Upd.nilL {α : Type} [Enc α] {w w' : World} {T A B : List Tok} (h : Upd w w' T (A ++ B)) : Upd w w' T (A ++ Tok.own (.slice none 0 0) ([] : List α) :: B) := by
  have e : fps (A ++ Tok.own (.slice none 0 0) ([] : List α) :: B) = fps (A ++ B) := by
    rw [fps_append, fps_append, fps_cons]; rfl
  refine ⟨by rw [e]; exact h.nodup, fun t ht => ?_, by rw [e]; exact h.base, h.keep, h.size, h.os, h.tape, h.output⟩
  rcases List.mem_append.1 ht with ht | ht
  · exact h.holds t (by simp [ht])
  · rcases List.mem_cons.1 ht with rfl | ht
    · exact own_nilA w'
    · exact h.holds t (by simp [ht])
set_option linter.unusedVariables false set_option linter.unusedSimpArgs false attribute [local irreducible] Tok.own Tok.blk RL Rd eptr WP WPL PE WPD WPO Op1 OpE Tri Again Mid Exit.then Exit.inBlock bodyPost RP Code.wp wpList isOwn OneM One
attribute [local irreducible] SV RPok
set_option maxHeartbeats 8000000

end Go.Proofs.Ytfigegmgopnfhaa
/- Sets: the walks of SetsValid, hasElement, FindRoot, MembersOf, unite. Conditions: those of each contract. -/
namespace Go.Proofs.Ytfigegmgopnfhaa
open Go
theorem EL.sv {s : SS} {x : Int} (h : EL s x) : SV s := h.1
theorem EL.nd {s : SS} {x : Int} (h : EL s x) : Nd s.P.length x := h.2
theorem SV.le {s : SS} (h : SV s) : s.P.length ≤ 16 := h.2.1
theorem SV.pos {s : SS} (h : SV s) : 1 ≤ s.P.length := h.1
def mem (s : SS) (x : Int) : List Int := mbs s.P.length (lb s) ((lb s).getD x.toNat 0)
theorem mbs_take {n : Nat} {L : List Int} {r : Int} {k : Nat} (hk : k < n) : ((iota n).take (k + 1)).filter (fun y => decide (L.getD y.toNat 0 = r)) = if L.getD k 0 = r then ((iota n).take k).filter (fun y => decide (L.getD y.toNat 0 = r)) ++ [(k : Int)] else ((iota n).take k).filter (fun y => decide (L.getD y.toNat 0 = r)) := by
  rw [take_succD 0 (by rw [iota_length]; exact hk), List.filter_append, iota_get hk]
  split
  · rename_i h; simp only [List.filter_cons, List.filter_nil, Int.toNat_natCast, h, decide_true, if_true]
  · rename_i h; simp only [List.filter_cons, List.filter_nil, Int.toNat_natCast, h, decide_false, Bool.false_eq_true, if_false, List.append_nil]
set_option linter.unusedVariables false set_option linter.unusedSimpArgs false attribute [local irreducible] Tok.own Tok.blk RL Rd eptr WP WPL PE WPD WPO Op1 OpE Tri Again Mid Exit.then Exit.inBlock bodyPost RP Code.wp wpList isOwn OneM One
attribute [local irreducible] SV RPok EL
set_option maxHeartbeats 8000000

end Go.Proofs.Ytfigegmgopnfhaa
/- Sets: the walks of unite, UniteSets, UndoSets, SetsOf. Conditions: those of each contract. -/
namespace Go.Proofs.Ytfigegmgopnfhaa
open Go
theorem unS_eq {s : SS} {x y : Int} (h : (lb s).getD x.toNat 0 = (lb s).getD y.toNat 0) : unS s x y = ⟨-1, (lb s).getD x.toNat 0⟩ := by unfold unS; rw [if_pos h]
theorem unS_abv {s : SS} {x y : Int} (h : (lb s).getD x.toNat 0 ≠ (lb s).getD y.toNat 0) (h2 : abv s ((lb s).getD x.toNat 0) ((lb s).getD y.toNat 0)) : unS s x y = ⟨(lb s).getD y.toNat 0, (lb s).getD x.toNat 0⟩ := by unfold unS; rw [if_neg h, if_pos h2]
theorem unS_bel {s : SS} {x y : Int} (h : (lb s).getD x.toNat 0 ≠ (lb s).getD y.toNat 0) (h2 : ¬ abv s ((lb s).getD x.toNat 0) ((lb s).getD y.toNat 0)) : unS s x y = ⟨(lb s).getD x.toNat 0, (lb s).getD y.toNat 0⟩ := by unfold unS; rw [if_neg h, if_neg h2]
/-- What UniteSets asks for. -/
def UNok (s : SS) (x y : Int) : Prop := EL s x ∧ EL s y ∧ s.S.length ≠ 100
instance (s : SS) (x y : Int) : Decidable (UNok s x y) := by unfold UNok; infer_instance
def noSS : SS := ⟨[], [], []⟩
def uniR (s : SS) (x y : Int) : SS := if UNok s x y then uni s x y else noSS
def UDok (s : SS) (k : Int) : Prop := SV s ∧ 0 ≤ k ∧ k ≤ s.S.length
instance (s : SS) (k : Int) : Decidable (UDok s k) := by unfold UDok; infer_instance
set_option linter.unusedVariables false set_option linter.unusedSimpArgs false attribute [local irreducible] Tok.own Tok.blk RL Rd eptr WP WPL PE WPD WPO Op1 OpE Tri Again Mid Exit.then Exit.inBlock bodyPost RP Code.wp wpList isOwn OneM One
attribute [local irreducible] SV RPok EL
set_option maxHeartbeats 8000000

end Go.Proofs.Ytfigegmgopnfhaa
/- Sets: the walks of UniteSets, UndoSets, SetsOf. Conditions: those of each contract. -/
namespace Go.Proofs.Ytfigegmgopnfhaa
open Go
theorem nsS_yes {n : Int} (h : 1 ≤ n ∧ n ≤ 16) : nsS n = newS n.toNat := if_pos h
theorem RPok_of {s : SS} (h : SV s) : RPok s.P.length s.S ∧ repl ((s.P.length : Nat) : Int).toNat s.S = some s := by
  have e : ((s.P.length : Nat) : Int).toNat = s.P.length := Int.toNat_natCast _
  have h3 := h.2.2
  refine ⟨⟨⟨by have := h.1; omega, by have := h.2.1; omega⟩, by rw [e, h3]; rfl⟩, by rw [e, h3]⟩
/-- What UndoSets returns. -/
def undR (s : SS) (k : Int) : SS := if UDok s k then ((repl s.P.length (s.S.take (s.S.length - k.toNat))).getD noSS) else noSS
theorem undo_ok {s : SS} {k : Int} (h : UDok s k) {s' : SS} (h' : RPok s.P.length (s.S.take (s.S.length - k.toNat)) → repl ((s.P.length : Nat) : Int).toNat (s.S.take (s.S.length - k.toNat)) = some s') : s' = undR s k ∧ RPok s.P.length (s.S.take (s.S.length - k.toNat)) := by
  have e : ((s.P.length : Nat) : Int).toNat = s.P.length := Int.toNat_natCast _
  obtain ⟨x, hx⟩ := h.1.take (s.S.length - k.toNat)
  have hr : RPok s.P.length (s.S.take (s.S.length - k.toNat)) := ⟨⟨by have := h.1.1; omega, by have := h.1.2.1; omega⟩, by rw [e, hx]; rfl⟩
  have h2 := h' hr
  rw [e] at h2
  refine ⟨?_, hr⟩
  unfold undR
  rw [if_pos h, h2]; rfl
theorem ofS_take {n : Nat} {es : List E} {k : Nat} (hk : k < es.length) : ofS n (es.take (k + 1)) = uni (ofS n (es.take k)) (es.getD k eD).A (es.getD k eD).B := by
  rw [take_succD eD hk]; unfold ofS; rw [List.foldl_append]; rfl
def ofR (n : Int) (es : List E) : SS := if GV n es then ofS n.toNat es else noSS
set_option linter.unusedVariables false set_option linter.unusedSimpArgs false attribute [local irreducible] Tok.own Tok.blk RL Rd eptr WP WPL PE WPD WPO Op1 OpE Tri Again Mid Exit.then Exit.inBlock bodyPost RP Code.wp wpList isOwn OneM One
attribute [local irreducible] SV RPok EL
set_option maxHeartbeats 8000000

end Go.Proofs.Ytfigegmgopnfhaa
