/- append, make; calls of functions; the beginning and the end of a function; regions that draw their order. Conditions: none. -/
import Derived.Test.YthlgbeakcobeoaaEff
namespace Go.Proofs.Ythlgbeakcobeoaa
open Go

section
variable {P : Program} {G : Ctx} {l : List (Nat × Value)} {F : List Tok} {Q : Exit → Act → World → Prop}

section
variable {α : Type} [Enc α]

theorem run_append_room' {t ty e e' : TypeId} {i : TypeInfo} (w : World) (ht : P.underlying t = some (.slice e)) (hi : P.info? e = some i)
    (g sLen sCap : Nat) (cur : Array Value) (hg : w.heap[g]? = some (.cells cur e' (0, 0)))
    (a : Addr) (m c : Nat) (news : List Value) (hl : news.length = m * i.size) (hnews : ∀ j u, news[j]? = some u → w.cell? (a.add j) = some u) (h1 : ∀ u ∈ news, u.oneCell' = true)
    (hroom : sLen + m ≤ sCap) (hfit : sLen * i.size + news.length ≤ cur.size) :
    (Builtin.append_ #[t, t] ty #[.slice (some ⟨g, 0, none⟩) sLen sCap, .slice (some a) m c]).run P w =
      .ok (.slice (some ⟨g, 0, none⟩) (sLen + m) sCap) (w.setRow g (cur.toList.take (sLen * i.size) ++ news ++ cur.toList.drop (sLen * i.size + news.length)).toArray) := by
  have hf := run_firstCells_some (P := P) w i.size m a m c news hl hnews
  have hst := run_storeCells_at P g (sLen * i.size) e' news 0 cur w hg (by simpa using hfit) h1
  simp only [Nat.add_zero] at hst
  simp [Builtin.append_, run_underlying ht, sizeOf, typeInfo, hi, Builtin.lenOf, hroom, hf, Addr.add_lit, hst]

theorem upd_same {w : World} {v : Value} {xs : List α} (h : ownAt w (Enc.sz α) v xs.length (encs xs)) (ys : List α) (he : ys = xs) : Upd w w [Tok.own v xs] [Tok.own v ys] := by
  subst he
  refine ⟨by simp [Tok.own, vfp_nodup], ?_, fun _ hb => .inl hb, fun _ _ _ => rfl, Nat.le_refl _, rfl, rfl, rfl⟩
  intro t ht
  simp only [List.mem_singleton] at ht
  subst ht
  exact h

theorem upd_grow {w : World} {v : Value} {xs : List α} (_h : ownAt w (Enc.sz α) v xs.length (encs xs)) (ys : List α) (post : List Value) (cap : Nat) (e : TypeId) (hn : ys.length ≤ cap) (hcm : cap ≤ maxLen) (hs : cap * Enc.sz α = (encs ys ++ post).length) :
    Upd w (w.drew.alloc (.cells (encs ys ++ post).toArray e (0, 0))) [Tok.own v xs] [Tok.own (.slice (some ⟨w.heap.size, 0, none⟩) ys.length cap) ys] := by
  have u := upd_newSl w.drew ys post cap e hn hcm hs
  refine ⟨u.nodup, u.holds, fun b hb => .inr ?_, fun b hb _ => u.keep b hb (by simp), u.size, u.os, u.tape, u.output⟩
  rcases u.base b hb with h | h
  · simp at h
  · exact h

theorem OpE.append [Val α] {t : TypeId} [ht : TSlice P t α] {x y : Operand} {v v2 : Value} {xs ys : List α} {F0 : List Tok} (hx : look l x = some v) (hy : look l y = some v2)
    (hp : F.Perm (Tok.own v xs :: F0)) (hr : Rd G F v2 ys) (hsm : xs.length + ys.length ≤ 1099511627776) :
    OpE P G (.call { callee := .builtin .append, args := #[x, y], argTypes := #[t, t] }) l F fun v' F' => F' = Tok.own v' (xs ++ ys) :: F0 :=
  OpE.of_run (T := [Tok.own v xs]) (T0 := F0) hp fun o ho a w ha hw => by
    obtain ⟨e, i, z, h1, h2, h3, h4, h5, h6⟩ := ht.out
    have hb64 : i.bytes ≤ 64 := Nat.le_of_ble_eq_true h4
    have hzs : z.cells.size = Enc.sz α := by rw [h6, List.size_toArray, Enc.len]
    have hown := hw.own (v := v) (xs := xs) (by simp)
    have hrd := hr w (hw.perm hp.symm)
    have hops : ∀ s, execOp a.eval o = s → True := fun _ _ => trivial
    suffices h : ∃ v' w', (Builtin.append_ #[t, t] o.type #[v, v2]).run P w = .ok v' w' ∧ Upd w w' [Tok.own v xs] [Tok.own v' (xs ++ ys)] by
      obtain ⟨v', w', hrun, hu⟩ := h
      exact ⟨v', w', [Tok.own v' (xs ++ ys)], .inl (by simp [execOp, ho, resolve, invoke, builtin, ha.eval hx, ha.eval hy, hrun]), hu, rfl⟩
    have hm1 : (xs.length + ys.length) * i.bytes ≤ 140737488355328 := Nat.le_trans (Nat.mul_le_mul hsm hb64) (by decide)
    have hmx : xs.length + ys.length ≤ maxLen := by simp only [maxLen]; omega
    -- a new row
    have grown : ∀ old : Nat, ∃ post, grownCap w (xs.length + ys.length) old e * Enc.sz α = (encs (xs ++ ys) ++ post).length ∧
        ((encs xs).toArray ++ (encs ys).toArray ++ Builtin.zeroCells z.cells (grownCap w (xs.length + ys.length) old e - (xs.length + ys.length))) = (encs (xs ++ ys) ++ post).toArray ∧
        xs.length + ys.length ≤ grownCap w (xs.length + ys.length) old e ∧ grownCap w (xs.length + ys.length) old e ≤ maxLen := by
      intro old
      have hge := grownCap_ge w (xs.length + ys.length) old e
      refine ⟨(Builtin.zeroCells z.cells (grownCap w (xs.length + ys.length) old e - (xs.length + ys.length))).toList, ?_, ?_, hge, grownCap_le_maxLen w _ old e hmx⟩
      · have hz : (Builtin.zeroCells z.cells (grownCap w (xs.length + ys.length) old e - (xs.length + ys.length))).toList.length = (grownCap w (xs.length + ys.length) old e - (xs.length + ys.length)) * Enc.sz α := by
          rw [Array.length_toList, size_zeroCells, hzs]
        rw [List.length_append, encs_length, hz, List.length_append, ← Nat.add_mul]
        congr 1; omega
      · apply Array.ext'; simp
    rcases hrd.2 with ⟨rfl, h0⟩ | ⟨b2, off2, cap2, rfl, hn2, hb2, hc2⟩
    · -- nothing is appended
      have hys : ys = [] := List.eq_nil_of_length_eq_zero h0
      subst hys
      refine ⟨v, w, ?_, upd_same hown _ (by simp)⟩
      rcases hown.2 with ⟨rfl, _⟩ | ⟨b, cap, post, rfl, hn, _⟩
      · simp [Builtin.append_, run_underlying h1, sizeOf, typeInfo, h2, Builtin.lenOf, Builtin.firstCells]
      · simp [Builtin.append_, run_underlying h1, sizeOf, typeInfo, h2, Builtin.lenOf, Builtin.firstCells, hn, storeCells]
    · have hnews : ∀ j u, (encs ys)[j]? = some u → w.cell? ((⟨b2, off2, none⟩ : Addr).add j) = some u := fun j u hu => by
        rw [addr_add, hc2 j (List.getElem?_eq_some_iff.1 hu).1, hu]
      have hl : (encs ys).length = ys.length * i.size := by rw [encs_length, h3]
      by_cases hm0 : ys.length = 0
      · have hys : ys = [] := List.eq_nil_of_length_eq_zero hm0
        subst hys
        refine ⟨v, w, ?_, upd_same hown _ (by simp)⟩
        rcases hown.2 with ⟨rfl, _⟩ | ⟨b, cap, post, rfl, hn, _⟩
        · simp [Builtin.append_, run_underlying h1, sizeOf, typeInfo, h2, Builtin.lenOf, Builtin.firstCells, loadCells, loadCellsFrom]
        · simp [Builtin.append_, run_underlying h1, sizeOf, typeInfo, h2, Builtin.lenOf, Builtin.firstCells, hn, storeCells, loadCells, loadCellsFrom]
      rcases hown.2 with ⟨rfl, hx0⟩ | ⟨b, cap, post, rfl, hn, hcm, hs, hblk⟩
      · have hxs : xs = [] := List.eq_nil_of_length_eq_zero hx0
        subst hxs
        have hrun := run_append_nil (P := P) w t o.type e i z h1 h2 h5 ⟨b2, off2, none⟩ ys.length cap2 (encs ys) hl hnews (by omega) (by simp only [maxLen] at hmx; simp at hmx; omega) (by simp at hm1; omega)
        obtain ⟨post, g1, g2, g3, g4⟩ := grown 0
        simp only [List.length_nil, Nat.zero_add, List.nil_append, encs_nil] at g1 g2 g3 g4
        have g2' : ((encs ys).toArray ++ Builtin.zeroCells z.cells (grownCap w ys.length 0 e - ys.length)) = (encs ys ++ post).toArray := by rw [← g2]; simp
        refine ⟨_, _, hrun, ?_⟩
        rw [g2']
        exact upd_grow hown ys post _ e g3 g4 g1
      · obtain ⟨e', hg⟩ := hblk
        by_cases hroom : xs.length + ys.length ≤ cap
        · have hfit : xs.length * i.size + (encs ys).length ≤ (encs xs ++ post).length := by
            rw [hl, h3, ← hs, ← Nat.add_mul]; exact Nat.mul_le_mul_right _ hroom
          have hrun := run_append_room' (P := P) (ty := o.type) w h1 h2 b xs.length cap (encs xs ++ post).toArray hg ⟨b2, off2, none⟩ ys.length cap2 (encs ys) hl hnews (encs_one ys) hroom (by simpa using hfit)
          have hxl : (encs xs).length = xs.length * i.size := by rw [encs_length, h3]
          have hrow : ((encs xs ++ post).toArray.toList.take (xs.length * i.size) ++ encs ys ++ (encs xs ++ post).toArray.toList.drop (xs.length * i.size + (encs ys).length)) = encs (xs ++ ys) ++ post.drop (encs ys).length := by
            rw [← hxl, List.take_left, List.drop_length_add_append, encs_append]
          rw [hrow] at hrun
          refine ⟨_, _, hrun, ?_⟩
          refine upd_ownRow (xs := xs) (ys := xs ++ ys) (post' := post.drop (encs ys).length) rfl ⟨e', hg⟩ hcm _ _ (by simp) (by simpa using hroom) ?_ rfl
          rw [hs, List.length_append, List.length_append, List.length_drop, encs_length, encs_length, List.length_append, Nat.add_mul] at *
          rw [encs_length] at *
          simp only [hl, h3] at hfit
          omega
        · have holds : ∀ j u, (encs xs)[j]? = some u → w.cell? ((⟨b, 0, none⟩ : Addr).add j) = some u := fun j u hu => by
            rw [addr_add, blkAt_cell ⟨e', hg⟩, Nat.zero_add, List.getElem?_append_left (List.getElem?_eq_some_iff.1 hu).1, hu]
          have hrun := run_append_grow (P := P) w t o.type e i z h1 h2 h5 ⟨b, 0, none⟩ xs.length cap (encs xs) (by rw [encs_length, h3]) holds ⟨b2, off2, none⟩ ys.length cap2 (encs ys) hl hnews (by omega)
            (by simp only [maxLen] at hmx; omega) (growslice_fits (by omega) hm1)
          obtain ⟨post', g1, g2, g3, g4⟩ := grown cap
          rw [g2] at hrun
          refine ⟨_, _, hrun, ?_⟩
          have := upd_grow hown (xs ++ ys) post' (grownCap w (xs.length + ys.length) cap e) e (by simpa using g3) g4 g1
          simpa using this

/-- A nil slice's token is to be had for nothing. -/
theorem St.nilTok {W : World} {M : List Nat} {F : List Tok} {w : World} (hw : St W M F w) (α : Type) [Enc α] : St W M (Tok.own (.slice none 0 0) ([] : List α) :: F) w := by
  refine ⟨by simpa [Tok.own, vfp] using hw.nodup, ?_, by simpa [Tok.own, vfp] using hw.base, hw.keep, hw.size, hw.os, hw.tape, hw.output⟩
  intro t ht
  rcases List.mem_cons.1 ht with rfl | ht
  · exact ⟨by simp [encs], .inl ⟨rfl, rfl⟩⟩
  · exact hw.holds t ht
theorem WP.nilTok {c : Code} (α : Type) [Enc α] (h : WP P G c l (Tok.own (.slice none 0 0) ([] : List α) :: F) Q) : WP P G c l F Q := fun a w ha hw => h a w ha (hw.nilTok α)
theorem WPL.nilTok {ops : Array Oper} {rest : List Oper} (α : Type) [Enc α] (h : WPL P G ops rest l (Tok.own (.slice none 0 0) ([] : List α) :: F) Q) : WPL P G ops rest l F Q := fun a w ha hw => h a w ha (hw.nilTok α)
theorem PE.nilTok {e : Exit} (α : Type) [Enc α] (h : PE G e l (Tok.own (.slice none 0 0) ([] : List α) :: F) Q) : PE G e l F Q := fun a w ha hw => h a w ha (hw.nilTok α)

/-- append onto a nil slice that no token is known of. -/
theorem OpE.appendNil [Val α] {t : TypeId} [TSlice P t α] {x y : Operand} {v2 : Value} {ys : List α} (hx : look l x = some (.slice none 0 0)) (hy : look l y = some v2)
    (hr : Rd G F v2 ys) (hsm : ys.length ≤ 1099511627776) :
    OpE P G (.call { callee := .builtin .append, args := #[x, y], argTypes := #[t, t] }) l F fun v' F' => F' = Tok.own v' ys :: F := by
  intro o ho a w ha hw K Q hK
  have hw' : St G.W G.M (Tok.own (.slice none 0 0) ([] : List α) :: F) w := hw.nilTok α
  have hr' : Rd G (Tok.own (.slice none 0 0) ([] : List α) :: F) v2 ys := fun w' h => hr w' (h.sub (SubT.skip (SubT.refl F)))
  have := OpE.append (P := P) (G := G) (l := l) (F := Tok.own (.slice none 0 0) ([] : List α) :: F) (xs := ([] : List α)) hx hy (List.Perm.refl _) hr' (by simp only [List.length_nil]; omega) (t := t)
  exact this o ho a w ha hw' K Q fun v F' w' h => hK v F' w' (by rw [h, List.nil_append])

/-- 'make([]T, n)'. -/
theorem OpE.make [Val α] {t : TypeId} [ht : TSlice P t α] {x y : Operand} {n : Nat} (hx : look l x = some (.int .i64 n)) (hy : look l y = some (.int .i64 n)) (hsm : n ≤ 1099511627776) :
    OpE P G (.makeSlice t x y) l F fun v F' => F' = Tok.own v (List.replicate n (Enc.d : α)) :: F :=
  OpE.of_run (T := []) (T0 := F) (by simp) fun o ho a w ha _ => by
    obtain ⟨e, i, z, h1, h2, h3, h4, h5, h6⟩ := ht.out
    have hb64 : i.bytes ≤ 64 := Nat.le_of_ble_eq_true h4
    have hzs : z.cells.size = Enc.sz α := by rw [h6, List.size_toArray, Enc.len]
    have hw : IntKind.i64.wrap (n : Int) = n := i64_fits (by omega) (by omega)
    have hm1 : i.bytes * n ≤ 140737488355328 := Nat.le_trans (Nat.mul_le_mul hb64 hsm) (by decide)
    have hbig : ¬ ((2 : Int) ^ 48 < (i.bytes : Int) * (n : Int)) := by
      have : ((i.bytes * n : Nat) : Int) ≤ 140737488355328 := Int.ofNat_le.2 hm1
      rw [Int.natCast_mul] at this
      omega
    have hneg : ¬ ((n : Int) < 0) := by omega
    have hrow : (Array.range (n * Enc.sz α)).map (z.cells[· % z.cells.size]!) = (encs (List.replicate n (Enc.d : α)) ++ []).toArray := by
      apply Array.ext
      · simp [encs_length]
      · intro k hk1 hk2
        have hk : k < n * Enc.sz α := by simpa using hk1
        have hpos := Enc.pos (α := α)
        have hq : k / Enc.sz α < n := by rw [Nat.div_lt_iff_lt_mul hpos]; exact hk
        have hr := Nat.mod_lt k hpos
        have hg := encs_get (List.replicate n (Enc.d : α)) (k / Enc.sz α) (k % Enc.sz α) (by simpa using hq) hr
        rw [Nat.div_add_mod'] at hg
        have hd : (List.replicate n (Enc.d : α)).getD (k / Enc.sz α) Enc.d = Enc.d := by
          rw [List.getD_eq_getElem?_getD, List.getElem?_replicate, if_pos hq]; rfl
        rw [hd] at hg
        have hkl : k < (encs (List.replicate n (Enc.d : α))).length := by rw [encs_length]; simpa using hk
        rw [List.getElem?_eq_getElem hkl, List.getElem?_eq_getElem (by rw [Enc.len]; exact hr)] at hg
        simp only [Option.some.injEq] at hg
        simp only [Array.getElem_map, Array.getElem_range, List.append_nil, List.getElem_toArray, hg, hzs]
        have : z.cells[k % Enc.sz α]! = (Enc.enc (Enc.d : α)).toArray[k % Enc.sz α]! := by rw [h6]
        rw [this, getElem!_pos _ _ (by rw [List.size_toArray, Enc.len]; exact hr)]
        simp
    by_cases h0 : n * Enc.sz α = 0
    · have hn0 : n = 0 := by
        rcases Nat.mul_eq_zero.1 h0 with h | h
        · exact h
        · have := Enc.pos (α := α); omega
      subst hn0
      refine ⟨.slice (some ⟨w.heap.size, 0, none⟩) 0 0, w.alloc (.cells (encs ([] : List α) ++ []).toArray e (0, 0)), [Tok.own (.slice (some ⟨w.heap.size, 0, none⟩) 0 0) ([] : List α)], .inl ?_,
        upd_newSl w [] [] 0 e (Nat.le_refl _) (by decide) (by simp), rfl⟩
      have hw0 : IntKind.i64.wrap 0 = 0 := by decide
      have hr0 : Array.range 0 = #[] := by apply Array.ext <;> simp
      simp [execOp, ho, ha.eval hx, ha.eval hy, Instr.makeSlice, run_underlying h1, asInt, asIntOf, typeInfo, h2, run_sizeOf' h2, newRow, hw0]
      simp [hr0]
    · refine ⟨.slice (some ⟨w.heap.size, 0, none⟩) n n, w.alloc (.cells (encs (List.replicate n (Enc.d : α)) ++ []).toArray e (0, 0)), [Tok.own (.slice (some ⟨w.heap.size, 0, none⟩) n n) (List.replicate n (Enc.d : α))], .inl ?_, ?_, rfl⟩
      · rw [← hrow]
        have hbig' : ¬ (281474976710656 < (i.bytes : Int) * (n : Int)) := by simpa using hbig
        have hor : ¬ (((n : Int) < 0 ∨ 281474976710656 < (i.bytes : Int) * (n : Int)) ∨ (n : Int) < 0) := by omega
        simp [execOp, ho, ha.eval hx, ha.eval hy, Instr.makeSlice, run_underlying h1, asInt, asIntOf, hw, run_sizeOf' h2, h3, zeroValue, typeInfo, h2, h5, newRow, h0]
        intro h
        exact absurd h hor
      · have := upd_newSl w (List.replicate n (Enc.d : α)) [] n e (by simp) (by simp only [maxLen]; omega) (by simp [encs_length])
        simpa using this
end
end
end Go.Proofs.Ythlgbeakcobeoaa
