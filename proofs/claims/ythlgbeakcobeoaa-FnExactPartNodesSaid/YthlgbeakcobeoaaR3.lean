/- Rules for memory that is looked at cell by cell: copy, append of zeros, slices of a known block. Conditions: none. -/
import Derived.Test.YthlgbeakcobeoaaTypes2
import Derived.Lib.AppendZerosOnto
import Derived.Lib.Overlaps
import Derived.Laws.Externs
namespace Go.Proofs.Ythlgbeakcobeoaa
open Go

section
variable {P : Program} {G : Ctx} {l : List (Nat × Value)} {F : List Tok} {Q : Exit → Act → World → Prop} {α : Type} [Enc α]

theorem WP.unown {c : Code} {v : Value} {xs : List α} {F0 : List Tok} (hp : F.Perm (Tok.own v xs :: F0)) (hnil : v = .slice none 0 0 → xs = [] → WP P G c l F Q)
    (h : ∀ b cap (post : List Value), v = .slice (some ⟨b, 0, none⟩) xs.length cap → xs.length ≤ cap → cap ≤ maxLen → cap * Enc.sz α = (encs xs ++ post).length → WP P G c l (Tok.blk b (encs xs ++ post) :: F0) Q) :
    WP P G c l F Q := fun a w ha hw => by
  have hown := (hw.perm hp).own (v := v) (xs := xs) (by simp)
  rcases hown.2 with ⟨h1, h2⟩ | ⟨b, cap, post, h1, h2, h3, h4, h5⟩
  · exact hnil h1 (List.eq_nil_of_length_eq_zero h2) a w ha hw
  · refine h b cap post h1 h2 h3 h4 a w ha ?_
    have hs := hw.perm hp
    refine ⟨?_, ?_, ?_, hs.keep, hs.size, hs.os, hs.tape, hs.output⟩
    · have := hs.nodup; simpa [Tok.own, Tok.blk, h1, vfp] using this
    · intro t ht
      rcases List.mem_cons.1 ht with rfl | ht
      · exact h5
      · exact hs.holds t (by simp [ht])
    · have := hs.base; simpa [Tok.own, Tok.blk, h1, vfp] using this

theorem PE.reown {e : Exit} {b cap : Nat} {cells post : List Value} (xs : List α) {F0 : List Tok} (hp : F.Perm (Tok.blk b cells :: F0)) (hc : cells = encs xs ++ post) (hn : xs.length ≤ cap) (hm : cap ≤ maxLen)
    (hz : cap * Enc.sz α = cells.length) (h : PE G e l (Tok.own (.slice (some ⟨b, 0, none⟩) xs.length cap) xs :: F0) Q) : PE G e l F Q := fun a w ha hw => by
  have hs := hw.perm hp
  have hb := hs.blk (b := b) (cs := cells) (by simp)
  refine h a w ha ⟨?_, ?_, ?_, hs.keep, hs.size, hs.os, hs.tape, hs.output⟩
  · have := hs.nodup; simpa [Tok.own, Tok.blk, vfp] using this
  · intro t ht
    rcases List.mem_cons.1 ht with rfl | ht
    · exact ⟨encs_length xs, .inr ⟨b, cap, post, rfl, hn, hm, by rw [hz, hc], hc ▸ hb⟩⟩
    · exact hs.holds t (by simp [ht])
  · have := hs.base; simpa [Tok.own, Tok.blk, vfp] using this

/-- A call of a function value. -/
theorem OpE.callC (vs caps : List Value) {fx : Operand} {fid : FuncId} {xs : List Operand} {at_ : Array TypeId} {T T0 : List Tok} {post : Value → List Tok → Prop} [TFun P fid]
    (hfx : look l fx = some (.func (.func fid) #[] caps.toArray)) (hxs : looks l xs vs) (hp : F.Perm (T ++ T0)) (ht : ∀ w, St G.W G.M F w → Tri P fid (vs ++ caps) w T post) :
    OpE P G (.call { callee := .value fx, args := xs.toArray, argTypes := at_ }) l F fun v F' => ∃ T', post v T' ∧ F' = T' ++ T0 := OpE.callV hfx hxs hp ht

/-! ### A slice value that is known whole -/
theorem Op1.lenR {t e : TypeId} (h1 : P.underlying t = some (.slice e)) {x : Operand} {s : Option Addr} {n c : Nat} (hx : look l x = some (.slice s n c)) :
    Op1 P G (.call { callee := .builtin .len, args := #[x], argTypes := #[t] }) l F (.int .i64 n) := fun o ho w' w hc hw => by
  simp [execOp, ho, hc.eval hx, resolve, invoke, builtin, Builtin.len_, run_underlying h1, Builtin.lenOf, goInt]
theorem Op1.capR {t e : TypeId} (h1 : P.underlying t = some (.slice e)) {x : Operand} {s : Option Addr} {n c : Nat} (hx : look l x = some (.slice s n c)) :
    Op1 P G (.call { callee := .builtin .cap, args := #[x], argTypes := #[t] }) l F (.int .i64 c) := fun o ho w' w hc hw => by
  simp [execOp, ho, hc.eval hx, resolve, invoke, builtin, Builtin.cap_, run_underlying h1, goInt]
theorem Op1.sliceLoR {t : TypeId} [ht : TSlice P t α] {x y : Operand} {b off n c : Nat} {i : Int} (hx : look l x = some (.slice (some ⟨b, off, none⟩) n c)) (hy : look l y = some (.int .i64 i)) (hi : 0 ≤ i ∧ i ≤ n) :
    Op1 P G (.slice t x (some y) none none) l F (.slice (some ⟨b, if c = i.toNat then off else off + i.toNat * Enc.sz α, none⟩) (n - i.toNat) (c - i.toNat)) := fun o ho w' w hc hw => by
  obtain ⟨e, ii, z, h1, h2, h3, _⟩ := ht.out
  obtain ⟨j, rfl⟩ : ∃ j : Nat, i = j := ⟨i.toNat, by omega⟩
  have hle : (j : Int) ≤ (n : Int) := hi.2
  have hle' : j ≤ n := by omega
  by_cases hcn : c = j <;>
  simp [execOp, ho, hc.eval hx, hc.eval hy, Instr.sliceAt, run_underlying h1, Instr.slice, Instr.sliceBounds, Instr.sliceBound, asIntOf, hle, hle', run_sizeOf' h2, addr_add, h3, hcn]
theorem Op1.sliceHiR {t : TypeId} [ht : TSlice P t α] {x y : Operand} {b off n c : Nat} {i : Int} (hx : look l x = some (.slice (some ⟨b, off, none⟩) n c)) (hy : look l y = some (.int .i64 i)) (hi : 0 ≤ i ∧ i ≤ c) :
    Op1 P G (.slice t x none (some y) none) l F (.slice (some ⟨b, off, none⟩) i.toNat c) := fun o ho w' w hc hw => by
  obtain ⟨e, ii, z, h1, h2, h3, _⟩ := ht.out
  obtain ⟨j, rfl⟩ : ∃ j : Nat, i = j := ⟨i.toNat, by omega⟩
  have hle : (j : Int) ≤ (c : Int) := hi.2
  have hle' : j ≤ c := by omega
  simp [execOp, ho, hc.eval hx, hc.eval hy, Instr.sliceAt, run_underlying h1, Instr.slice, Instr.sliceBounds, Instr.sliceBound, asIntOf, hle, hle', run_sizeOf' h2, addr_add]

/-! ### copy -/
theorem run_copy_rowN (w : World) (dT sT ty elem : TypeId) (g o dLen dCap : Nat) (a : Addr) (sLen sCap : Nat) (cur : Array Value) (t : TypeId) (cs : List Value) {i : TypeInfo}
    (hu : P.underlying dT = some (.slice elem)) (hi : P.info? elem = some i)
    (hg : w.heap[g]? = some (.cells cur t (0, 0))) (hn : cs.length = Nat.min sLen dLen * i.size)
    (hsrc : ∀ j v, cs[j]? = some v → w.cell? (a.add j) = some v) (hfit : o + cs.length ≤ cur.size) (h1 : ∀ v ∈ cs, v.oneCell' = true) :
    (Builtin.copy_ #[dT, sT] ty #[.slice (some ⟨g, o, none⟩) dLen dCap, .slice (some a) sLen sCap]).run P w =
      .ok (goInt (Nat.min sLen dLen)) (w.setRow g (cur.toList.take o ++ cs ++ cur.toList.drop (o + cs.length)).toArray) := by
  have hl := run_loadCells_list (P := P) w a cs hsrc
  have hst := run_storeCells_at P g o t cs 0 cur w hg (by simpa using hfit) h1
  simp [Builtin.copy_, run_underlying hu, Builtin.lenOf, Builtin.firstCells, sizeOf, typeInfo, hi, ← hn, hl, hst]

/-- copy(dst, src) of k elements: us are the cells that are copied; they lie in a known block (the target's own, too). -/
theorem OpE.copyR {dT sT : TypeId} [ht : TSlice P dT α] {x y : Operand} {b o dn dc b2 o2 sn sc : Nat} {cells cells2 us : List Value} {F0 : List Tok}
    (hx : look l x = some (.slice (some ⟨b, o, none⟩) dn dc)) (hy : look l y = some (.slice (some ⟨b2, o2, none⟩) sn sc)) (hp : F.Perm (Tok.blk b cells :: F0)) (h2 : Tok.blk b2 cells2 ∈ F)
    (hn : us.length = Nat.min sn dn * Enc.sz α) (hs : ∀ (j : Nat) (u : Value), us[j]? = some u → cells2[o2 + j]? = some u) (hfit : o + us.length ≤ cells.length) (h1 : ∀ u ∈ us, u.oneCell' = true) :
    OpE P G (.call { callee := .builtin .copy, args := #[x, y], argTypes := #[dT, sT] }) l F fun v F' => v = .int .i64 (Nat.min sn dn : Nat) ∧ F' = Tok.blk b (cells.take o ++ us ++ cells.drop (o + us.length)) :: F0 :=
  OpE.of_run (T := [Tok.blk b cells]) (T0 := F0) hp fun o' ho a w ha hw => by
    obtain ⟨e, i, z, e1, e2, e3, _⟩ := ht.out
    have hb := hw.blk (b := b) (cs := cells) (by simp)
    have hb2 := (hw.perm hp.symm).blk h2
    obtain ⟨et, hg⟩ := hb
    have hr := run_copy_rowN (P := P) w dT sT o'.type e b o dn dc ⟨b2, o2, none⟩ sn sc cells.toArray et us e1 e2 hg (by rw [hn, e3])
      (fun (j : Nat) (u : Value) (hu : us[j]? = some u) => by rw [addr_add, blkAt_cell hb2]; exact hs j u hu) (by simpa using hfit) h1
    refine ⟨_, w.setRow b (cells.take o ++ us ++ cells.drop (o + us.length)).toArray, [Tok.blk b (cells.take o ++ us ++ cells.drop (o + us.length))], .inl ?_, upd_row ⟨et, hg⟩ _, rfl, rfl⟩
    simp [execOp, ho, resolve, invoke, builtin, ha.eval hx, ha.eval hy, hr, goInt]

/-! ### append(s[:m], make([]T, k)...) where there is no room -/
theorem OpE.appendZ {t tn : TypeId} [ht : TSlice P t α] [hk : TInt P tn] {x y : Operand} {b m c k : Nat} {kk : Int} {olds cells : List Value} (hx : look l x = some (.slice (some ⟨b, 0, none⟩) m c)) (hy : look l y = some (.int .i64 kk)) (hkk : kk = k)
    (hb : Tok.blk b cells ∈ F) (ho : olds.length = m * Enc.sz α) (hs : ∀ (j : Nat) (u : Value), olds[j]? = some u → cells[j]? = some u) (h0 : 0 < k) (hroom : c < m + k) (hsm : m + k ≤ 1099511627776) :
    OpE P G (.call { callee := .builtin .append, args := #[x, y], argTypes := #[t, tn] }) l F fun v F' => ∃ (b' cap : Nat) (Z : List Value), v = .slice (some ⟨b', 0, none⟩) (m + k) cap ∧ m + k ≤ cap ∧ cap ≤ maxLen ∧ cap * Enc.sz α = (olds ++ Z).length ∧ F' = Tok.blk b' (olds ++ Z) :: F :=
  OpE.of_run (T := []) (T0 := F) (by simp) fun o' ho' a w ha hw => by
    obtain ⟨e, i, z, h1, h2, h3, h4, h5, h6⟩ := ht.out
    obtain ⟨kn, hkn⟩ := hk.out
    subst hkk
    have hb64 : i.bytes ≤ 64 := Nat.le_of_ble_eq_true h4
    have hzs : z.cells.size = Enc.sz α := by rw [h6, List.size_toArray, Enc.len]
    have hbk := hw.blk hb
    have hm1 : (m + k) * i.bytes ≤ 140737488355328 := Nat.le_trans (Nat.mul_le_mul hsm hb64) (by decide)
    have hmx : m + k ≤ maxLen := by simp only [maxLen]; omega
    have hold : (Builtin.firstCells i.size m (.slice (some ⟨b, 0, none⟩) m c)).run P w.drew = .ok olds.toArray w.drew :=
      run_firstCells_some (P := P) w.drew i.size m ⟨b, 0, none⟩ m c olds (by rw [ho, h3]) (fun (j : Nat) (u : Value) (hu : olds[j]? = some u) => by
        rw [addr_add, Nat.zero_add]
        have := blkAt_cell (i := j) hbk
        have e1 := hs j u hu
        rw [e1] at this
        exact this)
    have hkb : k * i.bytes ≤ 281474976710656 := by
      have : k * i.bytes ≤ (m + k) * i.bytes := Nat.mul_le_mul_right _ (by omega)
      omega
    have hrun := Lib.run_append_grow_zeros (P := P) w t tn o'.type e i z .i64 kn h1 hkn h2 h5 (some ⟨b, 0, none⟩) m c olds hold k h0 (by rw [h3]; exact Enc.pos) hroom (by simp only [maxLen] at hmx; omega) hkb
      (growslice_fits (by omega) hm1)
    have hge := grownCap_ge w (m + k) c e
    obtain ⟨W', hW'⟩ : ∃ W', W' = w.drew.alloc (.cells (olds.toArray ++ Builtin.zeroCells z.cells k ++ Builtin.zeroCells z.cells (grownCap w (m + k) c e - (m + k))) e) := ⟨_, rfl⟩
    rw [← hW'] at hrun
    refine ⟨.slice (some ⟨w.heap.size, 0, none⟩) (m + k) (grownCap w (m + k) c e), W', [Tok.blk w.heap.size (olds ++ ((Builtin.zeroCells z.cells k).toList ++ (Builtin.zeroCells z.cells (grownCap w (m + k) c e - (m + k))).toList))], .inl (by simp [execOp, ho', resolve, invoke, builtin, ha.eval hx, ha.eval hy, hrun]), ?_, _, _, _, rfl, hge, grownCap_le_maxLen w _ c e hmx, ?_, rfl⟩
    · subst hW'
      have u := upd_new w.drew (olds ++ ((Builtin.zeroCells z.cells k).toList ++ (Builtin.zeroCells z.cells (grownCap w (m + k) c e - (m + k))).toList)) e
      have ea : (olds ++ ((Builtin.zeroCells z.cells k).toList ++ (Builtin.zeroCells z.cells (grownCap w (m + k) c e - (m + k))).toList)).toArray = olds.toArray ++ Builtin.zeroCells z.cells k ++ Builtin.zeroCells z.cells (grownCap w (m + k) c e - (m + k)) := by
        apply Array.ext'; simp
      rw [ea] at u
      refine ⟨u.nodup, u.holds, u.base, u.keep, u.size, u.os, u.tape, u.output⟩
    · rw [List.length_append, List.length_append, ho, Array.length_toList, Array.length_toList, size_zeroCells, size_zeroCells, hzs, ← Nat.add_mul, ← Nat.add_mul]
      congr 1; omega

/-! ### slices.overlaps, which the model answers itself -/
theorem St.blk_ne {W : World} {M : List Nat} {w : World} {b c : Nat} {cs ds : List Value} {F0 : List Tok} (hw : St W M F w) (hp : F.Perm (Tok.blk b cs :: F0)) (hm : Tok.blk c ds ∈ F0) : b ≠ c := by
  have h := (hw.perm hp).nodup
  rw [fps_cons, List.nodup_append] at h
  intro e
  subst e
  exact h.2.2 b (by simp [Tok.blk]) b (List.mem_flatMap.2 ⟨_, hm, by simp [Tok.blk]⟩) rfl
theorem blkAt_shape {w : World} {b : Nat} {cs : List Value} (h : blkAt w b cs) : ∃ t, w.shape? b = some (t, cs.length) := by
  obtain ⟨e, h⟩ := h
  exact ⟨e, by simp [World.shape?, h]⟩
theorem Op1.overlaps {f : FuncId} {fn : Func} {tS tR : TypeId} [ht : TSlice P tS α] (hf : P.funcs[f]? = some fn) (hname : (fn.name == "runtime.NumGoroutine") = false) (hb : fn.body.isNone = true) (hn : Extern.findNext fn = none)
    (he : Extern.find fn = some (Extern.SlicesOverlaps.overlaps #[tS, tS] #[tR])) {x y : Operand} {ats : Array TypeId} {b o n c b2 o2 n2 c2 : Nat} {cs ds : List Value} {F0 : List Tok}
    (hx : look l x = some (.slice (some ⟨b, o, none⟩) n c)) (hy : look l y = some (.slice (some ⟨b2, o2, none⟩) n2 c2)) (hp : F.Perm (Tok.blk b cs :: F0)) (hm : Tok.blk b2 ds ∈ F0) (hd : ds ≠ []) :
    Op1 P G (.call { callee := .value (.func f), args := #[x, y], argTypes := ats }) l F (.bool false) := fun op ho a w ha hw => by
  obtain ⟨e, i, z, h1, h2, h3, h4, h5, h6⟩ := ht.out
  have hw' := hw.perm hp
  have k1 := hw'.blk (b := b) (cs := cs) (by simp)
  have k2 := hw'.blk (b := b2) (cs := ds) (by simp [hm])
  obtain ⟨t1, s1⟩ := blkAt_shape k1
  obtain ⟨t2, s2⟩ := blkAt_shape k2
  have hov := Lib.run_overlaps_apart (P := P) w tS tR e h1 i.size (run_sizeOf' h2) ⟨b, o, none⟩ ⟨b2, o2, none⟩ n c n2 c2 (hw.blk_ne hp hm) t1 t2 _ _ s1 s2 (by
    intro h; exact hd (List.eq_nil_of_length_eq_zero h)) (blkAt_frozen k1) (blkAt_frozen k1)
  have hc := run_callFunc_extern (P := P) hf hname hb hn he #[.slice (some ⟨b, o, none⟩) n c, .slice (some ⟨b2, o2, none⟩) n2 c2] w
  rw [hov] at hc
  have hfx : a.eval (.func f) = .func (.func f) #[] #[] := rfl
  simp [execOp, ho, resolve, hfx, Deferred.ofValue, invoke, ha.eval hx, ha.eval hy, hc]
end
end Go.Proofs.Ythlgbeakcobeoaa
