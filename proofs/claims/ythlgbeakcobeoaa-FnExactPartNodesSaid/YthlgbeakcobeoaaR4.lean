/- Rules for function values, for clear, and for tokens that are not named one by one. Conditions: none. -/
import Derived.Test.YthlgbeakcobeoaaR3
namespace Go.Proofs.Ythlgbeakcobeoaa
open Go

section
variable {P : Program} {G : Ctx} {l : List (Nat × Value)} {F : List Tok} {Q : Exit → Act → World → Prop} {α : Type}

/-! ### Function values -/
def fV (f : FuncId) (bnd caps : List Value) : Value := .func (.func f) bnd.toArray caps.toArray

theorem OpE.callB (vs bnd caps : List Value) {fx : Operand} {fid : FuncId} {xs : List Operand} {at_ : Array TypeId} {T T0 : List Tok} {post : Value → List Tok → Prop} [hf : TFun P fid]
    (hfx : look l fx = some (fV fid bnd caps)) (hxs : looks l xs vs) (hp : F.Perm (T ++ T0))
    (ht : ∀ w, St G.W G.M F w → Tri P fid (bnd ++ vs ++ caps) w T post) :
    OpE P G (.call { callee := .value fx, args := xs.toArray, argTypes := at_ }) l F fun v F' => ∃ T', post v T' ∧ F' = T' ++ T0 := by
  intro o ho a w ha hw K Q hK
  have hst := hw.perm hp
  have hn := hst.nodup
  rw [fps_append, List.nodup_append] at hn
  have htri := ht w hw hn.1 (fun t h => hst.holds t (by simp [h]))
  obtain ⟨fn, h1, h2, h3⟩ := hf.out
  have hargs : (xs.toArray.map a.eval) = vs.toArray := by
    rw [List.map_toArray, looks.map ha hxs]
  unfold fV at hfx
  unfold Oper.wp execOp
  simp only [ho, resolve, ha.eval hfx, Deferred.ofValue, invoke, callFunc, Sem.run_bind, Sem.run_pure, Result.andThen_ok, run_program, h1, h2, h3, hargs, Bool.false_eq_true, if_false, List.append_toArray]
  rw [Oper.upon_enter]
  refine htri.mono fun e w' ⟨v, T', he, hpost, hu⟩ => ?_
  subst he
  exact hK v (T' ++ T0) w' ⟨T', hpost, rfl⟩ (hst.upd hu)

/-- From w0 to w only the blocks M, and new ones, have turned. -/
structure Ext (w0 : World) (M : List Nat) (w : World) : Prop where
  keep : ∀ b, b < w0.heap.size → b ∉ M → w.heap[b]? = w0.heap[b]?
  size : w0.heap.size ≤ w.heap.size
theorem St.ext {W : World} {M : List Nat} {w : World} (h : St W M F w) : Ext W M w := ⟨h.keep, h.size⟩
theorem Ext.refl (w : World) (M : List Nat) : Ext w M w := ⟨fun _ _ _ => rfl, Nat.le_refl _⟩
theorem Ext.rl {β : Type} [Enc β] {w0 w : World} {M : List Nat} {v : Value} {xs : List β} (h : Ext w0 M w) (hr : RL w0 v xs) (hd : ∀ b ∈ vfp v, b ∉ M) : RL w v xs :=
  rdAt_same (fun b hb => h.keep b (rdAt_inb hr b hb) (hd b hb)) h.size hr

/-- A function value that answers p at each x of xs, in every world that comes out of w0 by changes of M; it holds the tokens T, and leaves them as they are. -/
def Pred (P : Program) (w0 : World) (M : List Nat) (fv : Value) (T : List Tok) (enc : α → Value) (p : α → Bool) (xs : List α) : Prop :=
  ∃ (fid : FuncId) (bnd caps : List Value), fv = fV fid bnd caps ∧ TFun P fid ∧ ∀ w, Ext w0 M w → ∀ x ∈ xs, Tri P fid (bnd ++ [enc x] ++ caps) w T fun r T' => r = .bool (p x) ∧ T' = T

theorem Pred.mk {w0 : World} {M : List Nat} {T : List Tok} {enc : α → Value} {p : α → Bool} {xs : List α} {fid : FuncId} [hf : TFun P fid] (bnd caps : List Value)
    (h : ∀ w, Ext w0 M w → ∀ x ∈ xs, Tri P fid (bnd ++ [enc x] ++ caps) w T fun r T' => r = .bool (p x) ∧ T' = T) : Pred P w0 M (fV fid bnd caps) T enc p xs := ⟨fid, bnd, caps, rfl, hf, h⟩
theorem Pred.one {w0 : World} {M : List Nat} {fv : Value} {T : List Tok} {enc : α → Value} {p : α → Bool} {xs : List α} (h : Pred P w0 M fv T enc p xs) : fv.oneCell' = true := by
  obtain ⟨fid, bnd, caps, rfl, _⟩ := h; rfl
theorem Pred.sub {w0 : World} {M : List Nat} {fv : Value} {T : List Tok} {enc : α → Value} {p : α → Bool} {xs ys : List α} (h : Pred P w0 M fv T enc p xs) (hs : ∀ x ∈ ys, x ∈ xs) : Pred P w0 M fv T enc p ys := by
  obtain ⟨fid, bnd, caps, h1, h2, h3⟩ := h
  exact ⟨fid, bnd, caps, h1, h2, fun w hw x hx => h3 w hw x (hs x hx)⟩
/-- A function value is handed on: from the world of a call on. -/
theorem Pred.at {W w : World} {M : List Nat} {fv : Value} {T X : List Tok} {enc : α → Value} {p : α → Bool} {xs : List α} (h : Pred P W M fv T enc p xs) (hw : St W M F w) (hX : SubT X F) : Pred P w (fps X) fv T enc p xs := by
  obtain ⟨fid, bnd, caps, h1, h2, h3⟩ := h
  refine ⟨fid, bnd, caps, h1, h2, fun w' hw' x hx => h3 w' ⟨fun b hb hM => ?_, Nat.le_trans hw.size hw'.size⟩ x hx⟩
  have hbase := (hw.sub hX).base
  rw [hw'.keep b (Nat.lt_of_lt_of_le hb hw.size) fun hbX => ?_, hw.keep b hb hM]
  rcases hbase b hbX with h4 | h4
  · exact hM h4
  · omega

theorem Ext.trans {a b c : World} {M : List Nat} (h1 : Ext a M b) (h2 : Ext b M c) : Ext a M c :=
  ⟨fun x hx hM => (h2.keep x (Nat.lt_of_lt_of_le hx h1.size) hM).trans (h1.keep x hx hM), Nat.le_trans h1.size h2.size⟩
theorem Pred.after {w w2 : World} {M : List Nat} {fv : Value} {T : List Tok} {enc : α → Value} {p : α → Bool} {xs : List α} (h : Pred P w M fv T enc p xs) (h2 : Ext w M w2) : Pred P w2 M fv T enc p xs := by
  obtain ⟨fid, bnd, caps, e1, e2, e3⟩ := h
  exact ⟨fid, bnd, caps, e1, e2, fun w' hw' x hx => e3 w' (h2.trans hw') x hx⟩

theorem OpE.callP {fx y : Operand} {at_ : Array TypeId} {T T0 : List Tok} {fv : Value} {enc : α → Value} {p : α → Bool} {xs : List α} {x : α} (hp : Pred P G.W G.M fv T enc p xs) (hfx : look l fx = some fv) (hy : look l y = some (enc x)) (hx : x ∈ xs) (hpm : F.Perm (T ++ T0)) :
    OpE P G (.call { callee := .value fx, args := #[y], argTypes := at_ }) l F fun v F' => v = .bool (p x) ∧ F' = T ++ T0 := by
  obtain ⟨fid, bnd, caps, rfl, h2, h3⟩ := hp
  have := h2
  refine OpE.weaken (OpE.callB (P := P) (G := G) (l := l) (F := F) (at_ := at_) [enc x] bnd caps (xs := [y]) hfx ⟨hy, trivial⟩ hpm (fun w hw => h3 w hw.ext x hx)) ?_
  rintro v F' ⟨T', ⟨rfl, rfl⟩, rfl⟩
  exact ⟨rfl, rfl⟩

theorem Op1.mkFn {f : FuncId} {bx cx : List Operand} {bnd caps : List Value} (hb : looks l bx bnd) (hc : looks l cx caps) : Op1 P G (.makeFunc (.func f) bx.toArray cx.toArray) l F (fV f bnd caps) := fun o ho a w ha _ => by
  have h1 : (bx.toArray.map a.eval) = bnd.toArray := by rw [List.map_toArray, looks.map ha hb]
  have h2 : (cx.toArray.map a.eval) = caps.toArray := by rw [List.map_toArray, looks.map ha hc]
  simp [execOp, ho, Instr.makeFunc, h1, h2, fV]

/-- A field of a struct value, if it is a slice. -/
def fieldSB (P : Program) (s : TypeId) (f off : Nat) : Bool :=
  match P.underlying s with
  | some (.struct fs) => match fs[f]? with
    | some fd => Nat.beq fd.offset off && (match P.underlying fd.type with | some (.slice _) => true | _ => false)
    | none => false
  | _ => false
theorem Op1.fieldS {s : TypeId} {f : Nat} (off : Nat) (h : fieldSB P s f off = true) {x : Operand} {cs : Array Value} {u : Value} (hx : look l x = some (.agg cs)) (hc : cs[off]? = some u) :
    Op1 P G (.field s x f) l F u := fun o ho c w hc' _ => by
  unfold fieldSB at h
  cases hu : P.underlying s with
  | none => rw [hu] at h; simp at h
  | some d =>
    rw [hu] at h
    cases d with
    | struct fs =>
      simp only at h
      cases hf : fs[f]? with
      | none => rw [hf] at h; simp at h
      | some fd =>
        rw [hf] at h
        simp only [Bool.and_eq_true] at h
        have h1 := Nat.eq_of_beq_eq_true h.1
        cases ht : P.underlying fd.type with
        | none => rw [ht] at h; simp at h
        | some e =>
          rw [ht] at h
          cases e with
          | slice e => simp [execOp, ho, hc'.eval hx, Instr.field, run_underlying hu, hf, asAgg, part, isAgg, run_underlying ht, h1, hc]
          | _ => simp at h
    | _ => simp at h

/-! ### clear -/
section
variable [Enc α]
theorem zero_encs {z : Array Value} (hz : z = (Enc.enc (Enc.d : α)).toArray) (n : Nat) : Builtin.zeroCells z n = (encs (List.replicate n (Enc.d : α))).toArray := by
  have hzs : z.size = Enc.sz α := by rw [hz, List.size_toArray, Enc.len]
  unfold Builtin.zeroCells
  apply Array.ext
  · simp [encs_length, hzs]
  · intro k hk1 hk2
    have hk : k < n * Enc.sz α := by simpa [hzs] using hk1
    have hpos := Enc.pos (α := α)
    have hq : k / Enc.sz α < n := by rw [Nat.div_lt_iff_lt_mul hpos]; exact hk
    have hr := Nat.mod_lt k hpos
    have hg := encs_get (List.replicate n (Enc.d : α)) (k / Enc.sz α) (k % Enc.sz α) (by simpa using hq) hr
    rw [Nat.div_add_mod'] at hg
    have hd : (List.replicate n (Enc.d : α)).getD (k / Enc.sz α) Enc.d = Enc.d := by
      rw [List.getD_eq_getElem?_getD, List.getElem?_replicate, if_pos hq]; rfl
    rw [hd] at hg
    have hkl : k < (encs (List.replicate n (Enc.d : α))).length := by rw [encs_length]; simpa using hk
    rw [List.getElem?_eq_getElem hkl, List.getElem?_eq_getElem (by rw [Enc.len]; exact hr)] at hg
    simp only [Option.some.injEq] at hg
    simp only [Array.getElem_map, Array.getElem_range, List.getElem_toArray, hg, hzs]
    have : z[k % Enc.sz α]! = (Enc.enc (Enc.d : α)).toArray[k % Enc.sz α]! := by rw [hz]
    rw [this, getElem!_pos _ _ (by rw [List.size_toArray, Enc.len]; exact hr)]
    simp

/-- clear(s[i:]) of an owned slice. -/
theorem OpE.clear [Val α] {t : TypeId} [ht : TSlice P t α] {x : Operand} {v : Value} {xs : List α} {i : Nat} {F0 : List Tok} (hx : look l x = some (drpV v (Enc.sz α) i)) (hp : F.Perm (Tok.own v xs :: F0)) (hi : i ≤ xs.length) :
    OpE P G (.call { callee := .builtin .clear, args := #[x], argTypes := #[t] }) l F fun _ F' => F' = Tok.own v (xs.take i ++ List.replicate (xs.length - i) Enc.d) :: F0 :=
  OpE.of_run (T := [Tok.own v xs]) (T0 := F0) hp fun o ho a w ha hw => by
    obtain ⟨e, ii, z, h1, h2, h3, h4, h5, h6⟩ := ht.out
    have hown := hw.own (v := v) (xs := xs) (by simp)
    have hlen : (xs.take i ++ List.replicate (xs.length - i) (Enc.d : α)).length = xs.length := by
      rw [List.length_append, List.length_take, List.length_replicate]; omega
    by_cases hil : i = xs.length
    · have hxx : xs.take i ++ List.replicate (xs.length - i) (Enc.d : α) = xs := by subst hil; simp
      refine ⟨.tuple #[], w, [Tok.own v (xs.take i ++ List.replicate (xs.length - i) Enc.d)], .inl ?_, upd_same hown _ hxx, rfl⟩
      rcases hown.2 with ⟨rfl, h0⟩ | ⟨b, cap, post, rfl, hn, _⟩
      · simp [execOp, ho, resolve, invoke, builtin, ha.eval hx, drpV, Builtin.clear_, run_underlying h1]
      · have hz : xs.length - i = 0 := by omega
        by_cases hc : cap = i
        · simp [execOp, ho, resolve, invoke, builtin, ha.eval hx, drpV, Builtin.clear_, run_underlying h1, hz]
        · simp [execOp, ho, resolve, invoke, builtin, ha.eval hx, drpV, Builtin.clear_, run_underlying h1, hz]
    · rcases hown.2 with ⟨rfl, h0⟩ | ⟨b, cap, post, rfl, hn, hcm, hs, hb⟩
      · omega
      have hci : ¬ cap = i := by omega
      have hz : ¬ xs.length - i = 0 := by omega
      obtain ⟨k, hk⟩ : ∃ k, xs.length - i = k + 1 := ⟨xs.length - i - 1, by omega⟩
      obtain ⟨et, hg⟩ := hb
      have hlx := encs_length xs
      have hkz : i * Enc.sz α + (k + 1) * Enc.sz α = xs.length * Enc.sz α := by rw [← Nat.add_mul]; congr 1; omega
      have hzl : (encs (List.replicate (k + 1) (Enc.d : α))).length = (k + 1) * Enc.sz α := by rw [encs_length, List.length_replicate]
      have hst := run_storeCells_at P b (i * Enc.sz α) et (encs (List.replicate (k + 1) (Enc.d : α))) 0 (encs xs ++ post).toArray w hg
        (by rw [hzl]; simp only [Nat.add_zero, List.size_toArray, List.length_append, hlx]; omega) (encs_one _)
      simp only [Nat.add_zero] at hst
      have hrow : (encs xs ++ post).take (i * Enc.sz α) ++ encs (List.replicate (k + 1) (Enc.d : α)) ++ (encs xs ++ post).drop (i * Enc.sz α + (encs (List.replicate (k + 1) (Enc.d : α))).length) = encs (xs.take i ++ List.replicate (xs.length - i) (Enc.d : α)) ++ post := by
        rw [hk, encs_append, encs_take, hzl, hkz, ← hlx, List.drop_left, List.take_append_of_le_length (by rw [hlx]; omega)]
      rw [hrow] at hst
      refine ⟨.tuple #[], w.setRow b (encs (xs.take i ++ List.replicate (xs.length - i) Enc.d) ++ post).toArray, [Tok.own (.slice (some ⟨b, 0, none⟩) xs.length cap) (xs.take i ++ List.replicate (xs.length - i) Enc.d)], .inl ?_,
        upd_ownRow (post' := post) rfl ⟨et, hg⟩ hcm _ _ (by rw [hlen]) (by rw [hlen]; exact hn) (by rw [hs, List.length_append, List.length_append, encs_length, encs_length, hlen]) rfl, rfl⟩
      have hzv : (zeroValue e).run P w = .ok z w := by simp [zeroValue, typeInfo, h2, h5]
      simp [execOp, ho, resolve, invoke, builtin, ha.eval hx, drpV, hci, Builtin.clear_, run_underlying h1, hk, hzv, zero_encs h6, hst]
end

/-! ### Tokens that are not named one by one -/
theorem sT2 {p : Prop} (h : p := by repeat (first | exact SubT.refl _ | exact SubT.nil _ | refine SubT.cons ?_ | refine SubT.pick1 ?_ | refine SubT.pick2 ?_ | refine SubT.pick3 ?_ | refine SubT.pick4 ?_ | refine SubT.pick5 ?_ | refine SubT.pick6 ?_ | refine SubT.skip ?_)) : p := h
theorem PE.turnG {e : Exit} {F0 : List Tok} {t t' : Tok} (hp : F.Perm (t :: F0)) (hf : t'.fp = t.fp) (hh : ∀ w, t.holds w → t'.holds w) (h : PE G e l (t' :: F0) Q) : PE G e l F Q := fun a w ha hw => h a w ha (hw.turn hp hf hh)
theorem WP.tokG {c : Code} {F' : List Tok} (hF : SubT F' F) (h : WP P G c l F' Q) : WP P G c l F Q := fun a w ha hw => h a w ha (hw.sub hF)
theorem WPL.tokG {ops : Array Oper} {rest : List Oper} {F' : List Tok} (hF : SubT F' F) (h : WPL P G ops rest l F' Q) : WPL P G ops rest l F Q := fun a w ha hw => h a w ha (hw.sub hF)
theorem WPD.tokG {Fs : List Tok} {ops : Array Oper} {fuel : Nat} {listed : Array Bool} {F' : List Tok} (hF : SubT F' F) (h : WPD P G Fs ops fuel listed l F' Q) : WPD P G Fs ops fuel listed l F Q := fun a w ha hw => h a w ha (hw.sub hF)
theorem SubT.inr {A B T : List Tok} (h : SubT A B) : SubT A (T ++ B) := by
  obtain ⟨C, h⟩ := h
  exact ⟨T ++ C, (List.Perm.append_left T h).trans (by
    rw [← List.append_assoc, ← List.append_assoc]
    exact List.Perm.append_right C List.perm_append_comm)⟩
theorem St.neG [Enc α] {W w : World} {T : List Tok} {v : Value} {xs : List α} (hw : St W [] F w) (hs : SubT T F) (h : RL W v xs) : ∀ b ∈ vfp v, b ∉ fps T := by
  intro b hb hT
  have h1 : b < W.heap.size := rdAt_inb h b hb
  rcases (hw.sub hs).base b hT with h2 | h2
  · cases h2
  · omega
theorem SubT.appL {T R : List Tok} : SubT T (T ++ R) := ⟨R, List.Perm.refl _⟩
theorem SubT.of_perm {F F' : List Tok} (h : F.Perm F') : SubT F' F := ⟨[], by simpa using h⟩
theorem own_disj [Enc α] {W w : World} {M : List Nat} {v : Value} {xs : List α} {T : List Tok} (hw : St W M F w) (hs : SubT (Tok.own v xs :: T) F) : ∀ b ∈ vfp v, b ∉ fps T := by
  intro b hb hT
  have h := (hw.sub hs).nodup
  rw [fps_cons, List.nodup_append] at h
  exact h.2.2 b hb b hT rfl
theorem rot1 {a : Tok} {T : List Tok} : (a :: T).Perm (T ++ [a]) := (List.perm_append_comm (l₁ := [a]))
theorem rot2 {a b : Tok} {T : List Tok} : (a :: b :: T).Perm (T ++ [a, b]) := (List.perm_append_comm (l₁ := [a, b]))
theorem rot3 {a b c : Tok} {T : List Tok} : (a :: b :: c :: T).Perm (T ++ [a, b, c]) := (List.perm_append_comm (l₁ := [a, b, c]))
theorem rot0 {T : List Tok} : T.Perm (T ++ []) := by simp
end
end Go.Proofs.Ythlgbeakcobeoaa
