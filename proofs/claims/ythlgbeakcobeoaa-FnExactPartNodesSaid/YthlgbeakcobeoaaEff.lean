/- Operations that make or write memory; calls; the beginning and the end of a function; regions that draw their order. Conditions: none. -/
import Derived.Test.YthlgbeakcobeoaaOps
namespace Go.Proofs.Ythlgbeakcobeoaa
open Go

section
variable {P : Program} {G : Ctx} {l : List (Nat × Value)} {F : List Tok} {Q : Exit → Act → World → Prop}

/-! ### A struct literal -/
def fillL (places : List (Nat × Nat)) : List Value → List (Nat × List Value) → Option (List Value)
  | z, [] => some z
  | z, (i, us) :: ps => match places[i]? with
    | some (off, size) => bif Nat.beq us.length size && Nat.ble (off + us.length) z.length then fillL places (z.take off ++ us ++ z.drop (off + us.length)) ps else none
    | none => none

/-- The parts of a struct literal. -/
def BP (G : Ctx) (l : List (Nat × Value)) (F : List Tok) : List (Nat × Operand) → List (Nat × List Value) → Prop
  | [], [] => True
  | (i, y) :: ps, (j, us) :: qs => i = j ∧ (∃ u, look l y = some u ∧ (u = .agg us.toArray ∨ (us = [u] ∧ One G F [u]))) ∧ BP G l F ps qs
  | _, _ => False

theorem BP.nil : BP G l F [] [] := trivial
theorem BP.agg {i : Nat} {y : Operand} {us : List Value} {ps : List (Nat × Operand)} {qs : List (Nat × List Value)} (hy : look l y = some (.agg us.toArray)) (k : BP G l F ps qs) : BP G l F ((i, y) :: ps) ((i, us) :: qs) :=
  ⟨rfl, ⟨_, hy, .inl rfl⟩, k⟩
theorem BP.one {i : Nat} {y : Operand} {u : Value} {ps : List (Nat × Operand)} {qs : List (Nat × List Value)} (hy : look l y = some u) (h : One G F [u]) (k : BP G l F ps qs) : BP G l F ((i, y) :: ps) ((i, [u]) :: qs) :=
  ⟨rfl, ⟨_, hy, .inr ⟨rfl, h⟩⟩, k⟩

theorem fill_seg (us : List Value) (off : Nat) (rest : List Value) : ∀ (old pre : List Value) (k : Nat), us.length = old.length → pre.length = off + k →
    List.foldl (fun (cs : Array Value) (x : Value × Nat) => cs.setIfInBounds (off + x.2) x.1) (pre ++ old ++ rest).toArray (us.zipIdx k) = (pre ++ us ++ rest).toArray := by
  induction us with
  | nil => intro old pre k h1 _; cases old with
    | nil => simp
    | cons => simp at h1
  | cons x us ih =>
    intro old pre k h1 h2
    cases old with
    | nil => simp at h1
    | cons y old =>
      have h3 := ih old (pre ++ [x]) (k + 1) (by simpa using h1) (by simp [h2]; omega)
      have h4 : (pre ++ y :: old ++ rest).toArray.setIfInBounds (off + k) x = (pre ++ [x] ++ old ++ rest).toArray := by
        rw [← h2]; simp
      rw [List.zipIdx_cons, List.foldl_cons, h4, h3]
      simp

theorem fillL_fill {places : List (Nat × Nat)} {a : Act} {w : World} (ha : Has G.n l a) (hw : St G.W G.M F w) : ∀ (ps : List (Nat × Operand)) (qs : List (Nat × List Value)) (z cs : List Value), BP G l F ps qs → fillL places z qs = some cs →
    Instr.fill (places.toArray[·]?) z.toArray (ps.map fun p => (p.1, a.eval p.2)) = some cs.toArray
  | [], [], z, cs, _, h => by simp only [fillL, Option.some.injEq] at h; subst h; rfl
  | (i, y) :: ps, (j, us) :: qs, z, cs, ⟨hij, ⟨u, hy, hu⟩, hb⟩, h => by
    subst hij
    have hc : u.cells = us.toArray := by
      rcases hu with rfl | ⟨rfl, h1⟩
      · rfl
      · have := h1 w hw u (by simp)
        cases u <;> simp [Value.oneCell', Value.cells] at this ⊢
    simp only [fillL] at h
    cases hp : places[i]? with
    | none => rw [hp] at h; simp at h
    | some q =>
      obtain ⟨off, size⟩ := q
      rw [hp] at h
      simp only at h
      by_cases hb1 : (Nat.beq us.length size && Nat.ble (off + us.length) z.length) = true
      · rw [hb1] at h
        simp only [Bool.and_eq_true] at hb1
        have e1 := Nat.eq_of_beq_eq_true hb1.1
        have e2 := Nat.le_of_ble_eq_true hb1.2
        have ih := fillL_fill ha hw ps qs _ cs hb (by simpa using h)
        rw [List.map_cons, ha.eval hy]
        have hp' : places.toArray[i]? = some (off, size) := by simpa using hp
        simp only [Instr.fill, hp', hc, List.size_toArray]
        have h1 : ¬ ((decide (us.length ≠ size) || decide (off + us.length > z.length)) = true) := by simp [e1]; omega
        rw [if_neg h1, ← ih]
        congr 1
        have hz : z = z.take off ++ (z.drop off).take us.length ++ z.drop (off + us.length) := by
          rw [List.append_assoc, ← List.drop_drop, List.take_append_drop, List.take_append_drop]
        have := fill_seg us off (z.drop (off + us.length)) ((z.drop off).take us.length) (z.take off) 0 (by rw [List.length_take, List.length_drop]; omega) (by rw [List.length_take]; omega)
        rw [← hz] at this
        rw [← Array.foldl_toList, Array.toList_zipIdx]
        refine Eq.trans this ?_
        rw [List.append_assoc]
      · simp only [Bool.not_eq_true] at hb1
        rw [hb1] at h
        simp at h
  | [], _ :: _, _, _, h, _ => h.elim
  | _ :: _, [], _, _, h, _ => h.elim

class TStruct (P : Program) (t : TypeId) (places : outParam (List (Nat × Nat))) : Prop where
  out : ∃ fs, P.underlying t = some (.struct fs) ∧ ∀ w, (fs.mapM fun f => do pure (f.offset, ← sizeOf f.type) : Sem (Array (Nat × Nat))).run P w = .ok places.toArray w

theorem Op1.build {t : TypeId} {places : List (Nat × Nat)} {z : List Value} [ht : TStruct P t places] [hz : TZero P t z] {ps : List (Nat × Operand)} {qs : List (Nat × List Value)} {cs : List Value} (hb : BP G l F ps qs) (hf : fillL places z qs = some cs) :
    Op1 P G (.build t ps.toArray) l F (.agg cs.toArray) := fun o ho a w ha hw => by
  obtain ⟨fs, h1, h2⟩ := ht.out
  obtain ⟨i, v, h3, h4, h5⟩ := hz.out
  have := fillL_fill ha hw ps qs z cs hb hf
  have hparts : (ps.toArray.map fun (x : Nat × Operand) => (x.1, a.eval x.2)).toList = ps.map fun p => (p.1, a.eval p.2) := by simp
  simp only [execOp, ho, Instr.build, Sem.run_bind, zeroValue, typeInfo, run_program, Result.andThen_ok, h3, Sem.run_pure, h4, run_underlying h1, h2 w, hparts, h5, this]

/-! ### From an update of the world to an operation's rule -/
theorem OpE.of_run {op : Op} {T T0 : List Tok} {post : Value → List Tok → Prop} (hp : F.Perm (T ++ T0))
    (h : ∀ o : Oper, o.op = op → ∀ a w, Has G.n l a → St G.W G.M (T ++ T0) w → ∃ v w' T', ((execOp a.eval o).run P w = .ok (.value v) w' ∨ ((execOp a.eval o).run P w = .ok .skip w' ∧ v = undef)) ∧ Upd w w' T T' ∧ post v (T' ++ T0)) :
    OpE P G op l F post := by
  intro o ho a w ha hw K Q hK
  obtain ⟨v, w', T', hr, hu, hpost⟩ := h o ho a w ha (hw.perm hp)
  have hst := (hw.perm hp).upd hu
  unfold Oper.wp
  rcases hr with hr | ⟨hr, rfl⟩
  · rw [hr]; exact hK _ _ _ hpost hst
  · rw [hr]; exact hK _ _ _ hpost hst

theorem OpE.ofPure {op : Op} {v : Value} (h : Op1 P G op l F v) : OpE P G op l F fun v' F' => v' = v ∧ F' = F := fun o ho a w ha hw K Q hK => by
  unfold Oper.wp
  rw [h o ho a w ha hw]
  exact hK v F w ⟨rfl, rfl⟩ hw
theorem OpE.weaken {op : Op} {post post' : Value → List Tok → Prop} (h : OpE P G op l F post) (hp : ∀ v F', post v F' → post' v F') : OpE P G op l F post' :=
  fun o ho a w ha hw K Q hK => h o ho a w ha hw K Q fun v F' w' hv hs => hK v F' w' (hp v F' hv) hs

theorem WPL.eff {ops : Array Oper} {d : Nat} {op : Op} {ty : TypeId} {pos : String} {after : Array Edge} {g : Option (Nat × Bool)} {rest : List Oper} {post : Value → List Tok → Prop}
    (h : OpE P G op l F post) (hg : asked ops l g = some true) (hd : Nat.blt d G.n = true) (k : ∀ v F', post v F' → WPL P G ops rest ((d, v) :: l) F' Q) :
    WPL P G ops (⟨some d, op, ty, pos, after, g⟩ :: rest) l F Q := fun a w ha hw => by
  have hwt := asked_wanted (o := ⟨some d, op, ty, pos, after, g⟩) ha hg
  unfold wpList
  rw [if_pos hwt]
  exact .inl (h _ rfl a w ha hw _ _ fun v F' w' hv hs => k v F' hv _ _ (ha.put hd v) hs)

theorem WPL.eff0 {ops : Array Oper} {op : Op} {ty : TypeId} {pos : String} {after : Array Edge} {g : Option (Nat × Bool)} {rest : List Oper} {post : Value → List Tok → Prop}
    (h : OpE P G op l F post) (hg : asked ops l g = some true) (k : ∀ v F', post v F' → WPL P G ops rest l F' Q) :
    WPL P G ops (⟨none, op, ty, pos, after, g⟩ :: rest) l F Q := fun a w ha hw => by
  have hwt := asked_wanted (o := ⟨none, op, ty, pos, after, g⟩) ha hg
  unfold wpList
  rw [if_pos hwt]
  exact .inl (h _ rfl a w ha hw _ _ fun v F' w' hv hs => k v F' hv _ _ ha hs)

/-! ### New blocks -/
theorem upd_new (w : World) (cs : List Value) (e : TypeId) : Upd w (w.alloc (.cells cs.toArray e (0, 0))) [] [Tok.blk w.heap.size cs] := by
  refine ⟨by simp [Tok.blk], ?_, ?_, ?_, by simp, rfl, rfl, rfl⟩
  · intro t ht
    simp only [List.mem_singleton] at ht
    subst ht
    exact ⟨e, heap_alloc_new w _⟩
  · intro b hb
    simp [Tok.blk] at hb
    right; omega
  · intro b hb _
    exact heap_alloc_old w _ hb

theorem OpE.box {t : TypeId} {x : Operand} {cs : List Value} (hx : look l x = some (.agg cs.toArray)) :
    OpE P G (.box t x) l F fun v F' => ∃ b, v = .pointer (some ⟨b, 0, none⟩) ∧ F' = Tok.blk b cs :: F :=
  OpE.of_run (T := []) (T0 := F) (by simp) fun o ho a w ha _ =>
    ⟨.pointer (some ⟨w.heap.size, 0, none⟩), w.alloc (.cells cs.toArray t (0, 0)), [Tok.blk w.heap.size cs],
      .inl (by simp [execOp, ho, ha.eval hx, Instr.box, newVar, newRow, Value.cells]), upd_new w cs t, _, rfl, rfl⟩

theorem OpE.boxI {t : TypeId} {x : Operand} {u : Value} (hx : look l x = some u) (hu : u.oneCell' = true) :
    OpE P G (.box t x) l F fun v F' => ∃ b, v = .pointer (some ⟨b, 0, none⟩) ∧ F' = Tok.blk b [u] :: F :=
  OpE.of_run (T := []) (T0 := F) (by simp) fun o ho a w ha _ =>
    ⟨.pointer (some ⟨w.heap.size, 0, none⟩), w.alloc (.cells [u].toArray t (0, 0)), [Tok.blk w.heap.size [u]],
      .inl (by
        have : u.cells = #[u] := by cases u <;> simp [Value.oneCell', Value.cells] at hu ⊢
        simp [execOp, ho, ha.eval hx, Instr.box, newVar, newRow, this]), upd_new w [u] t, _, rfl, rfl⟩

theorem OpE.alloc {t : TypeId} {z : List Value} [ht : TZero P t z] :
    OpE P G (.alloc t) l F fun v F' => ∃ b, v = .pointer (some ⟨b, 0, none⟩) ∧ F' = Tok.blk b z :: F :=
  OpE.of_run (T := []) (T0 := F) (by simp) fun o ho a w _ _ =>
    ⟨.pointer (some ⟨w.heap.size, 0, none⟩), w.alloc (.cells z.toArray t (0, 0)), [Tok.blk w.heap.size z],
      .inl (by
        obtain ⟨i, v, h1, h2, h3⟩ := ht.out
        simp [execOp, ho, Instr.alloc, zeroValue, typeInfo, h1, h2, newVar, newRow, h3]), upd_new w z t, _, rfl, rfl⟩

/-! ### Stores -/
theorem upd_row {w : World} {b : Nat} {cs : List Value} (h : blkAt w b cs) (cs' : List Value) : Upd w (w.setRow b cs'.toArray) [Tok.blk b cs] [Tok.blk b cs'] := by
  obtain ⟨e, he⟩ := h
  refine ⟨by simp [Tok.blk], ?_, ?_, ?_, by simp, rfl, rfl, rfl⟩
  · intro t ht
    simp only [List.mem_singleton] at ht
    subst ht
    exact ⟨e, setRow_heap w b cs.toArray cs'.toArray e (0, 0) he⟩
  · intro c hc; left; exact hc
  · intro c _ hc
    refine setRow_other w b c _ fun e => hc ?_
    simp [Tok.blk, e]

theorem run_storeVar' {t : TypeId} {i : TypeInfo} (hi : P.info? t = some i) {b o : Nat} {u : Value} {us cs : List Value} {w : World} (h : blkAt w b cs) (hc : u.cells = us.toArray) (hl : us.length = i.size)
    (hfit : o + us.length ≤ cs.length) (h1 : ∀ v ∈ us, v.oneCell' = true) :
    (storeVar t ⟨b, o, none⟩ u).run P w = .ok () (w.setRow b (cs.take o ++ us ++ cs.drop (o + us.length)).toArray) := by
  obtain ⟨e, he⟩ := h
  have := run_storeCells_at P b o e us 0 cs.toArray w he (by simpa using hfit) h1
  simp only [Nat.add_zero] at this
  unfold storeVar
  simp only [Sem.run_bind, run_sizeOf' hi, Result.andThen_ok, hc]
  rw [if_neg (by simp [hl])]
  simp [this]

theorem OpE.storeV {t : TypeId} {x y : Operand} {b o : Nat} {u : Value} {us cs : List Value} {F0 : List Tok} {i : TypeInfo} (hi : P.info? t = some i) (hp : F.Perm (Tok.blk b cs :: F0)) (hx : look l x = some (.pointer (some ⟨b, o, none⟩)))
    (hy : look l y = some u) (hc : u.cells = us.toArray) (hl : us.length = i.size) (hfit : o + us.length ≤ cs.length) (h1 : One G F us) :
    OpE P G (.store t x y) l F fun _ F' => F' = Tok.blk b (cs.take o ++ us ++ cs.drop (o + us.length)) :: F0 :=
  OpE.of_run (T := [Tok.blk b cs]) (T0 := F0) hp fun o' ho a w ha hw => by
    have hb := hw.blk (b := b) (cs := cs) (by simp)
    have hs := run_storeVar' (P := P) (t := t) hi (o := o) hb hc hl hfit (h1 w (hw.perm hp.symm))
    exact ⟨undef, w.setRow b (cs.take o ++ us ++ cs.drop (o + us.length)).toArray, [Tok.blk b (cs.take o ++ us ++ cs.drop (o + us.length))],
      .inr ⟨by simp [execOp, ho, ha.eval hx, ha.eval hy, Instr.storeAt, Instr.sureAddr, hs], rfl⟩, upd_row hb _, rfl⟩

theorem take_set_drop {α : Type} (cs : List α) (o : Nat) (u : α) (h : o < cs.length) : cs.take o ++ [u] ++ cs.drop (o + [u].length) = cs.set o u := by
  rw [List.set_eq_take_append_cons_drop, if_pos h]; simp

/-- A store of one cell's value. -/
theorem OpE.store {t : TypeId} [ht : TScal P t] {x y : Operand} {b o : Nat} {u : Value} {cs : List Value} {F0 : List Tok} (hx : look l x = some (.pointer (some ⟨b, o, none⟩))) (hy : look l y = some u)
    (hp : F.Perm (Tok.blk b cs :: F0)) (hfit : Nat.blt o cs.length = true) (h1 : One G F [u]) :
    OpE P G (.store t x y) l F fun _ F' => F' = Tok.blk b (cs.set o u) :: F0 := by
  obtain ⟨d, i, _, _, h3, h4⟩ := ht.out
  have hfit' : o < cs.length := Nat.lt_of_succ_le (by simpa [Nat.blt] using hfit)
  intro o' ho a w ha hw
  have hu : u.oneCell' = true := h1 w hw u (by simp)
  have hc : u.cells = [u].toArray := by cases u <;> simp [Value.oneCell', Value.cells] at hu ⊢
  have := OpE.storeV (P := P) (G := G) (l := l) (F := F) h3 hp hx hy hc (by simp [h4]) (by simp only [List.length_singleton]; omega) h1
  rw [take_set_drop cs o u hfit'] at this
  exact this o' ho a w ha hw

/-- A store into a whole struct variable. -/
theorem OpE.storeAll {t : TypeId} {k : Nat} [ht : TAgg P t k] {x y : Operand} {b : Nat} {us cs : List Value} {F0 : List Tok} (hx : look l x = some (.pointer (some ⟨b, 0, none⟩))) (hy : look l y = some (.agg us.toArray))
    (hp : F.Perm (Tok.blk b cs :: F0)) (hl : us.length = k) (hk : cs.length = k) (h1 : One G F us) :
    OpE P G (.store t x y) l F fun _ F' => F' = Tok.blk b us :: F0 := by
  obtain ⟨fs, i, _, h2, h3⟩ := ht.out
  have := OpE.storeV (P := P) (G := G) (l := l) (F := F) h2 hp hx hy rfl (by rw [hl, h3]) (by omega) h1
  have h4 : cs.drop (0 + us.length) = [] := List.drop_eq_nil_of_le (by omega)
  rw [h4] at this
  simpa using this

/-- A store of a struct into a part of a variable. -/
theorem OpE.storeAgg {t : TypeId} {k : Nat} [ht : TAgg P t k] {x y : Operand} {b o : Nat} {us cs : List Value} {F0 : List Tok} (hx : look l x = some (.pointer (some ⟨b, o, none⟩))) (hy : look l y = some (.agg us.toArray))
    (hp : F.Perm (Tok.blk b cs :: F0)) (hl : us.length = k) (hk : o + us.length ≤ cs.length) (h1 : One G F us) :
    OpE P G (.store t x y) l F fun _ F' => F' = Tok.blk b (cs.take o ++ us ++ cs.drop (o + us.length)) :: F0 := by
  obtain ⟨fs, i, _, h2, h3⟩ := ht.out
  exact OpE.storeV (P := P) (G := G) (l := l) (F := F) h2 hp hx hy rfl (by rw [hl, h3]) hk h1

section
variable {α : Type} [Enc α]

theorem upd_ownRow {w : World} {b cap : Nat} {v : Value} {xs ys : List α} {post post' : List Value} (hv : v = .slice (some ⟨b, 0, none⟩) xs.length cap) (h : blkAt w b (encs xs ++ post))
    (hc : cap ≤ maxLen) (n' : Nat) (v' : Value) (hv' : v' = .slice (some ⟨b, 0, none⟩) ys.length cap) (hn : ys.length ≤ cap) (hs : cap * Enc.sz α = (encs ys ++ post').length) (_h0 : n' = ys.length) :
    Upd w (w.setRow b (encs ys ++ post').toArray) [Tok.own v xs] [Tok.own v' ys] := by
  obtain ⟨e, he⟩ := h
  subst hv hv'
  refine ⟨by simp [Tok.own, vfp], ?_, ?_, ?_, by simp, rfl, rfl, rfl⟩
  · intro t ht
    simp only [List.mem_singleton] at ht
    subst ht
    exact ⟨encs_length ys, .inr ⟨b, cap, post', rfl, hn, hc, hs, e, setRow_heap w b _ _ e (0, 0) he⟩⟩
  · intro c hc; left; simpa [Tok.own, vfp] using hc
  · intro c _ hc
    refine setRow_other w b c _ fun e => hc ?_
    simp [Tok.own, vfp, e]

/-- A store into an element of an owned slice (the whole element, or one cell of it: y is the element behind it). -/
theorem OpE.storeE {t : TypeId} {i : TypeInfo} (hi : P.info? t = some i) {x y : Operand} {v u : Value} {xs : List α} {us : List Value} {F0 : List Tok} {j r : Nat} (z : α) (hx : look l x = some (eptr v (Enc.sz α) j r)) (hy : look l y = some u)
    (hp : F.Perm (Tok.own v xs :: F0)) (hj : j < xs.length) (hc : u.cells = us.toArray) (hl : us.length = i.size) (hr : r + us.length ≤ Enc.sz α) (h1 : One G F us)
    (hz : Enc.enc z = (Enc.enc (xs.getD j Enc.d)).take r ++ us ++ (Enc.enc (xs.getD j Enc.d)).drop (r + us.length)) :
    OpE P G (.store t x y) l F fun _ F' => F' = Tok.own v (xs.set j z) :: F0 :=
  OpE.of_run (T := [Tok.own v xs]) (T0 := F0) hp fun o' ho a w ha hw => by
    have hown := hw.own (v := v) (xs := xs) (by simp)
    rcases hown.2 with ⟨rfl, h0⟩ | ⟨b, cap, post, hv, hn, hcm, hs, hb⟩
    · omega
    have hlen := encs_length xs
    have hjb : (j + 1) * Enc.sz α ≤ xs.length * Enc.sz α := Nat.mul_le_mul_right _ hj
    rw [Nat.add_mul, Nat.one_mul] at hjb
    have hx' := hx
    rw [hv] at hx'
    simp only [eptr, Nat.zero_add] at hx'
    have hst := run_storeVar' (P := P) (t := t) hi (o := j * Enc.sz α + r) hb hc hl (by rw [List.length_append]; omega) (h1 w (hw.perm hp.symm))
    have hd : xs.getD j Enc.d = xs[j] := by rw [List.getD_eq_getElem?_getD, List.getElem?_eq_getElem hj]; rfl
    have hsplit : encs xs = (encs xs).take (j * Enc.sz α) ++ Enc.enc (xs.getD j Enc.d) ++ (encs xs).drop (j * Enc.sz α + Enc.sz α) := by
      rw [hd, ← encs_set xs j xs[j] hj, List.set_getElem_self]
    have hE : (Enc.enc (xs.getD j Enc.d)).length = Enc.sz α := Enc.len _
    have key : (encs xs ++ post).take (j * Enc.sz α + r) ++ us ++ (encs xs ++ post).drop (j * Enc.sz α + r + us.length) = encs (xs.set j z) ++ post := by
      rw [encs_set xs j z hj, hz]
      generalize hA : (encs xs).take (j * Enc.sz α) = A at *
      generalize hB : (encs xs).drop (j * Enc.sz α + Enc.sz α) = B at *
      generalize Enc.enc (xs.getD j Enc.d) = C at *
      have hAl : A.length = j * Enc.sz α := by rw [← hA, List.length_take]; omega
      have e1 : j * Enc.sz α + r + us.length = A.length + (r + us.length) := by omega
      have e2 : j * Enc.sz α + r = A.length + r := by omega
      rw [hsplit, e1, e2]
      simp only [List.append_assoc, List.take_length_add_append, List.drop_length_add_append]
      rw [List.take_append_of_le_length (by omega), List.drop_append_of_le_length (by omega)]
      try simp
    rw [key] at hst
    refine ⟨undef, _, [Tok.own v (xs.set j z)], .inr ⟨by simp [execOp, ho, ha.eval hx', ha.eval hy, Instr.storeAt, Instr.sureAddr, hst], rfl⟩,
      upd_ownRow (post' := post) hv hb hcm _ v (by simpa using hv) (by simpa using hn) ?_ rfl, rfl⟩
    rw [hs, List.length_append, List.length_append, hlen, encs_length]
    simp

/-- 's[j] = x' at elements of one cell. -/
theorem OpE.store1 {t : TypeId} [ht : TScal P t] [Val α] {x y : Operand} {v : Value} {xs : List α} {F0 : List Tok} {j : Nat} (z : α) (hx : look l x = some (eptr v (Enc.sz α) j 0)) (hy : look l y = some (Val.val z))
    (hp : F.Perm (Tok.own v xs :: F0)) (hj : j < xs.length) (hs : Enc.sz α = 1) :
    OpE P G (.store t x y) l F fun _ F' => F' = Tok.own v (xs.set j z) :: F0 := by
  obtain ⟨d, i, _, _, h3, h4⟩ := ht.out
  refine OpE.storeE (P := P) h3 z hx hy hp hj (Val.cells z) (by rw [Enc.len, hs, h4]) (by rw [Enc.len]; omega) (fun _ _ => Val.one z) ?_
  have h1 := Enc.len z
  have h2 := Enc.len (xs.getD j (Enc.d : α))
  rw [List.take_zero, List.nil_append, List.drop_eq_nil_of_le (by omega), List.append_nil]

/-- 's[j] = e' at elements of a struct type. -/
theorem OpE.storeS {t : TypeId} {k : Nat} [ht : TAgg P t k] [Val α] {x y : Operand} {v : Value} {xs : List α} {F0 : List Tok} {j : Nat} (z : α) (hx : look l x = some (eptr v (Enc.sz α) j 0)) (hy : look l y = some (.agg (Enc.enc z).toArray))
    (hp : F.Perm (Tok.own v xs :: F0)) (hj : j < xs.length) (hs : Enc.sz α = k) :
    OpE P G (.store t x y) l F fun _ F' => F' = Tok.own v (xs.set j z) :: F0 := by
  obtain ⟨fs, i, _, h3, h4⟩ := ht.out
  refine OpE.storeE (P := P) h3 z hx hy hp hj rfl (by rw [Enc.len, hs, h4]) (by rw [Enc.len]; omega) (fun _ _ => Val.one z) ?_
  have h1 := Enc.len z
  have h2 := Enc.len (xs.getD j (Enc.d : α))
  rw [List.take_zero, List.nil_append, List.drop_eq_nil_of_le (by omega), List.append_nil]

/-- 's[j].f = x' (one cell of an element). -/
theorem OpE.storeF {t : TypeId} [ht : TScal P t] {x y : Operand} {v u : Value} {xs : List α} {F0 : List Tok} {j r : Nat} (z : α) (hx : look l x = some (eptr v (Enc.sz α) j r)) (hy : look l y = some u)
    (hp : F.Perm (Tok.own v xs :: F0)) (hj : j < xs.length) (hr : r < Enc.sz α) (h1 : One G F [u]) (hu : u.cells = #[u])
    (hz : Enc.enc z = (Enc.enc (xs.getD j Enc.d)).set r u) :
    OpE P G (.store t x y) l F fun _ F' => F' = Tok.own v (xs.set j z) :: F0 := by
  obtain ⟨d, i, _, _, h3, h4⟩ := ht.out
  refine OpE.storeE (P := P) h3 z hx hy hp hj (us := [u]) hu (by simp [h4]) (by simp only [List.length_singleton]; omega) h1 ?_
  rw [hz, take_set_drop _ _ _ (by rw [Enc.len]; exact hr)]

/-! ### New slices -/
theorem upd_newSl (w : World) (xs : List α) (post : List Value) (cap : Nat) (e : TypeId) (hn : xs.length ≤ cap) (hcm : cap ≤ maxLen) (hs : cap * Enc.sz α = (encs xs ++ post).length) :
    Upd w (w.alloc (.cells (encs xs ++ post).toArray e (0, 0))) [] [Tok.own (.slice (some ⟨w.heap.size, 0, none⟩) xs.length cap) xs] := by
  refine ⟨by simp [Tok.own, vfp], ?_, ?_, ?_, by simp, rfl, rfl, rfl⟩
  · intro t ht
    simp only [List.mem_singleton] at ht
    subst ht
    exact ⟨encs_length xs, .inr ⟨w.heap.size, cap, post, rfl, hn, hcm, hs, e, heap_alloc_new w _⟩⟩
  · intro b hb
    simp [Tok.own, vfp] at hb
    right; omega
  · intro b hb _
    exact heap_alloc_old w _ hb

/-- The parts of a slice literal, from number i on. -/
def BParts [Val α] (l : List (Nat × Value)) : List (Nat × Operand) → List α → Nat → Prop
  | [], [], _ => True
  | (j, y) :: ps, x :: xs, i => j = i ∧ look l y = some (Val.val x) ∧ BParts l ps xs (i + 1)
  | _, _, _ => False

theorem fill_one (sz : Nat) (u : List Value) (pre old rest : List Value) (hu : u.length = sz) (ho : old.length = sz) (more : List (Nat × Value)) (v : Value) (hv : v.cells = u.toArray) (i : Nat) (hp : pre.length = i * sz) :
    Instr.fill (fun i => some (i * sz, sz)) (pre ++ old ++ rest).toArray ((i, v) :: more) = Instr.fill (fun i => some (i * sz, sz)) (pre ++ u ++ rest).toArray more := by
  simp only [Instr.fill, hv]
  have h1 : ¬ ((decide (u.toArray.size ≠ sz) || decide (i * sz + u.toArray.size > (pre ++ old ++ rest).toArray.size)) = true) := by
    simp [hu, ho, hp]
  rw [if_neg h1]
  congr 1
  have key : ∀ (u old' pre' : List Value) (k : Nat), u.length = old'.length → pre'.length = i * sz + k →
      List.foldl (fun (cs : Array Value) (x : Value × Nat) => cs.setIfInBounds (i * sz + x.2) x.1) (pre' ++ old' ++ rest).toArray (u.zipIdx k) = (pre' ++ u ++ rest).toArray := by
    intro u
    induction u with
    | nil => intro old' pre' k h1 _; cases old' with
      | nil => simp
      | cons => simp at h1
    | cons x u ih =>
      intro old' pre' k h1 h2
      cases old' with
      | nil => simp at h1
      | cons y old' =>
        have h3 := ih old' (pre' ++ [x]) (k + 1) (by simpa using h1) (by simp [h2]; omega)
        have h4 : (pre' ++ y :: old' ++ rest).toArray.setIfInBounds (i * sz + k) x = (pre' ++ [x] ++ old' ++ rest).toArray := by
          rw [← h2]; simp
        rw [List.zipIdx_cons, List.foldl_cons, h4, h3]
        simp
  have := key u old pre 0 (by omega) (by omega)
  rw [← Array.foldl_toList, Array.toList_zipIdx]
  exact this

theorem fill_parts [Val α] {l : List (Nat × Value)} {a : Act} {n : Nat} (ha : Has n l a) : ∀ (ps : List (Nat × Operand)) (xs : List α) (pre old : List Value) (i : Nat), BParts l ps xs i → pre.length = i * Enc.sz α → old.length = xs.length * Enc.sz α →
    Instr.fill (fun i => some (i * Enc.sz α, Enc.sz α)) (pre ++ old).toArray (ps.map fun p => (p.1, a.eval p.2)) = some (pre ++ encs xs).toArray
  | [], [], pre, old, i, _, _, ho => by
    have : old = [] := List.eq_nil_of_length_eq_zero (by simpa using ho)
    simp [Instr.fill, this]
  | (j, y) :: ps, x :: xs, pre, old, i, h, hp, ho => by
    obtain ⟨rfl, hy, hb⟩ := h
    have hl : old = old.take (Enc.sz α) ++ old.drop (Enc.sz α) := (List.take_append_drop _ _).symm
    rw [List.length_cons, Nat.add_mul, Nat.one_mul] at ho
    rw [List.map_cons, ha.eval hy, hl, ← List.append_assoc, fill_one (Enc.sz α) (Enc.enc x) pre (old.take (Enc.sz α)) (old.drop (Enc.sz α)) (Enc.len x) (by rw [List.length_take]; omega) _ _ (Val.cells x) j hp]
    rw [fill_parts ha ps xs (pre ++ Enc.enc x) (old.drop (Enc.sz α)) (j + 1) hb (by rw [List.length_append, hp, Enc.len, Nat.add_mul, Nat.one_mul]) (by rw [List.length_drop, ho]; omega)]
    rw [encs_cons, List.append_assoc]
  | [], _ :: _, _, _, _, h, _, _ => h.elim
  | _ :: _, [], _, _, _, h, _, _ => h.elim

theorem OpE.buildSlice [Val α] {t : TypeId} [ht : TSlice P t α] {n : Nat} {ps : List (Nat × Operand)} (xs : List α) (hps : BParts l ps xs 0) (hn : xs.length = n) (hsm : n * Enc.sz α ≤ 1000) :
    OpE P G (.buildSlice t n ps.toArray) l F fun v F' => F' = Tok.own v xs :: F :=
  OpE.of_run (T := []) (T0 := F) (by simp) fun o ho a w ha _ => by
    obtain ⟨e, i, z, h1, h2, h3, _, h5, h6⟩ := ht.out
    subst hn
    have hzs : z.cells.size = Enc.sz α := by rw [h6, List.size_toArray, Enc.len]
    have hsmall : ¬ (xs.length * Enc.sz α > 2 ^ 24) := by omega
    have hcap : xs.length ≤ maxLen := by
      have := Nat.le_mul_of_pos_right xs.length (Enc.pos (α := α))
      simp only [maxLen]; omega
    have hfill : ∀ zc : Array Value, Instr.fill (fun i => some (i * Enc.sz α, Enc.sz α)) ((Array.range (xs.length * Enc.sz α)).map (zc[· % zc.size]!)) (ps.map fun p => (p.1, a.eval p.2)) = some (encs xs).toArray := by
      intro zc
      have := fill_parts ha ps xs [] ((Array.range (xs.length * Enc.sz α)).map (zc[· % zc.size]!)).toList 0 hps (by simp) (by simp)
      rw [List.nil_append, List.nil_append, Array.toArray_toList] at this
      exact this
    refine ⟨.slice (some ⟨w.heap.size, 0, none⟩) xs.length xs.length, w.alloc (.cells (encs xs ++ []).toArray e (0, 0)), [Tok.own (.slice (some ⟨w.heap.size, 0, none⟩) xs.length xs.length) xs], .inl ?_,
      upd_newSl w xs [] xs.length e (Nat.le_refl _) hcap (by simp [encs_length]), rfl⟩
    have hparts : (ps.toArray.map fun (x : Nat × Operand) => (x.1, a.eval x.2)).toList = ps.map fun p => (p.1, a.eval p.2) := by simp
    simp only [execOp, ho, Instr.buildSlice, Sem.run_bind, run_underlying h1, Result.andThen_ok, run_sizeOf' h2, h3, if_neg hsmall, Sem.run_pure]
    by_cases hz0 : xs.length * Enc.sz α = 0
    · rw [if_pos hz0]
      simp only [Sem.run_bind, Sem.run_pure, Result.andThen_ok]
      have := hfill #[]
      rw [← hparts] at this
      simp only [hz0] at this ⊢
      rw [this]
      simp [newRow]
    · rw [if_neg hz0]
      simp only [zeroValue, typeInfo, Sem.run_bind, run_program, Result.andThen_ok, h2, Sem.run_pure, h5]
      have := hfill z.cells
      rw [← hparts] at this
      rw [this]
      simp [newRow]
end
end
end Go.Proofs.Ythlgbeakcobeoaa
