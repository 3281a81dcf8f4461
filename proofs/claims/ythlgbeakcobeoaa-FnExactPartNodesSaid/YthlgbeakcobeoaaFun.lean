/- Calls of functions; the beginning and the end of a function; regions that draw their order. Conditions: none. -/
import Derived.Test.YthlgbeakcobeoaaCall
namespace Go.Proofs.Ythlgbeakcobeoaa
open Go

/-- A contract: called in the world w, with the tokens T, the function returns a value v and tokens T' that meet 'post'. -/
def Tri (P : Program) (f : FuncId) (args : List Value) (w : World) (T : List Tok) (post : Value → List Tok → Prop) : Prop :=
  (fps T).Nodup → (∀ t ∈ T, t.holds w) → Calls P f args.toArray w fun e w' => ∃ v T', e = .returned v ∧ post v T' ∧ Upd w w' T T'

theorem Tri.weaken {P : Program} {f : FuncId} {args : List Value} {w : World} {T : List Tok} {post post' : Value → List Tok → Prop} (h : Tri P f args w T post) (hp : ∀ v T', post v T' → post' v T') : Tri P f args w T post' :=
  fun hn hh => (h hn hh).mono fun _ _ ⟨v, T', he, hv, hu⟩ => ⟨v, T', he, hp v T' hv, hu⟩

def RP (w : World) (T : List Tok) (post : Value → List Tok → Prop) (e : Ending) (w' : World) : Prop :=
  ∃ v T', e = .returned v ∧ post v T' ∧ Upd w w' T T'

def argE : Nat → List Value → List (Nat × Value)
  | _, [] => []
  | k, v :: vs => (k, v) :: argE (k + 1) vs

theorem argE_get : ∀ (vs : List Value) (k t : Nat) (v : Value), lk (argE k vs) t = some v → k ≤ t ∧ vs[t - k]? = some v
  | [], k, t, v, h => by simp [argE, lk] at h
  | u :: vs, k, t, v, h => by
    simp only [argE, lk] at h
    by_cases e : Nat.beq k t = true
    · rw [e] at h
      have := Nat.eq_of_beq_eq_true e
      subst this
      simpa using h
    · simp only [Bool.not_eq_true] at e
      rw [e] at h
      obtain ⟨h1, h2⟩ := argE_get vs (k + 1) t v (by simpa using h)
      refine ⟨by omega, ?_⟩
      have : t - k = t - (k + 1) + 1 := by omega
      rw [this]; simpa using h2

theorem Tri.intro {P : Program} {f : FuncId} {fn : Func} {c : Code} {n : Nat} {args : List Value} {w : World} {T : List Tok} {post : Value → List Tok → Prop} (hf : P.funcs[f]? = some fn) (hb : fn.body = some c) (hn : fn.ntmps = n)
    (hle : args.length ≤ n) (h : WP P ⟨n, w, fps T⟩ c (argE 0 args) T (bodyPost P fn (RP w T post))) : Tri P f args w T post := by
  intro hnd hh
  refine calls_of_wp hf hb ?_
  refine h _ w ⟨?_, rfl, ?_⟩ (St.start hnd hh)
  · simp [hn]; omega
  · intro t v ht
    have := (argE_get args 0 t v ht).2
    simp only [Nat.sub_zero] at this
    have hlt : t < args.length := (List.getElem?_eq_some_iff.1 this).1
    rw [Array.getElem?_append_left (by simpa using hlt)]
    simpa using this

/-! ### Calls -/
def looks (l : List (Nat × Value)) : List Operand → List Value → Prop
  | [], [] => True
  | x :: xs, v :: vs => look l x = some v ∧ looks l xs vs
  | _, _ => False

theorem looks.map {l : List (Nat × Value)} {n : Nat} {a : Act} (ha : Has n l a) : ∀ {xs : List Operand} {vs : List Value}, looks l xs vs → xs.map a.eval = vs
  | [], [], _ => rfl
  | x :: xs, v :: vs, ⟨h, k⟩ => by rw [List.map_cons, ha.eval h, looks.map ha k]
  | [], _ :: _, h => h.elim
  | _ :: _, [], h => h.elim

section
variable {P : Program} {G : Ctx} {l : List (Nat × Value)} {F : List Tok} {Q : Exit → Act → World → Prop}

theorem OpE.callV {fx : Operand} {fid : FuncId} {caps : List Value} {xs : List Operand} {vs : List Value} {at_ : Array TypeId} {T T0 : List Tok} {post : Value → List Tok → Prop} [hf : TFun P fid]
    (hfx : look l fx = some (.func (.func fid) #[] caps.toArray)) (hxs : looks l xs vs) (hp : F.Perm (T ++ T0))
    (ht : ∀ w, St G.W G.M F w → Tri P fid (vs ++ caps) w T post) :
    OpE P G (.call { callee := .value fx, args := xs.toArray, argTypes := at_ }) l F fun v F' => ∃ T', post v T' ∧ F' = T' ++ T0 := by
  intro o ho a w ha hw K Q hK
  have hst := hw.perm hp
  have hn := hst.nodup
  rw [fps_append, List.nodup_append] at hn
  have htri := ht w hw hn.1 (fun t h => hst.holds t (by simp [h]))
  obtain ⟨fn, h1, h2, h3⟩ := hf.out
  have hargs : (xs.toArray.map a.eval) = vs.toArray := by
    rw [List.map_toArray, looks.map ha hxs]
  unfold Oper.wp execOp
  simp only [ho, resolve, ha.eval hfx, Deferred.ofValue, invoke, callFunc, Sem.run_bind, Sem.run_pure, Result.andThen_ok, run_program, h1, h2, h3, hargs, Bool.false_eq_true, if_false, List.append_toArray, List.nil_append]
  rw [Oper.upon_enter]
  refine htri.mono fun e w' ⟨v, T', he, hpost, hu⟩ => ?_
  subst he
  exact hK v (T' ++ T0) w' ⟨T', hpost, rfl⟩ (hst.upd hu)

/-- A call of a function that asks for no token. -/
theorem OpE.call {fid : FuncId} {xs : List Operand} {vs : List Value} {at_ : Array TypeId} {post : Value → List Tok → Prop} [TFun P fid]
    (hxs : looks l xs vs) (ht : ∀ w, St G.W G.M F w → Tri P fid vs w [] post) :
    OpE P G (.call { callee := .value (.func fid), args := xs.toArray, argTypes := at_ }) l F fun v F' => ∃ T', post v T' ∧ F' = T' ++ F :=
  OpE.callV (caps := []) (T := []) (T0 := F) rfl hxs (by simp) (by simpa using ht)

/-- A call of a function that takes tokens. -/
theorem OpE.callT {fid : FuncId} {xs : List Operand} {vs : List Value} {at_ : Array TypeId} {T T0 : List Tok} {post : Value → List Tok → Prop} [TFun P fid]
    (hxs : looks l xs vs) (hp : F.Perm (T ++ T0)) (ht : ∀ w, St G.W G.M F w → Tri P fid vs w T post) :
    OpE P G (.call { callee := .value (.func fid), args := xs.toArray, argTypes := at_ }) l F fun v F' => ∃ T', post v T' ∧ F' = T' ++ T0 :=
  OpE.callV (caps := []) rfl hxs hp (by simpa using ht)

/-! ### The end of a function -/
def resV (P : Program) (l : List (Nat × Value)) (F : List Tok) : List ResultVar → List Value → Prop
  | [], [] => True
  | .tmp t :: rs, v :: vs => lk l t = some v ∧ resV P l F rs vs
  | .cell a t :: rs, v :: vs => (∃ b cs, lk l a = some (.pointer (some ⟨b, 0, none⟩)) ∧ Tok.blk b cs ∈ F ∧ ((∃ k, TAgg P t k ∧ cs.length = k ∧ v = .agg cs.toArray) ∨ (TScal P t ∧ cs = [v]))) ∧ resV P l F rs vs
  | _, _ => False

def resF (tmps : Array Value) : ResultVar → Sem Value
  | .tmp t => pure (tmps.getD t undef)
  | .cell b t => do loadVar t (← asAddr (tmps.getD b undef))

theorem results_eq (fn : Func) (tmps : Array Value) : results fn tmps = (fn.results.mapM (resF tmps) >>= fun vs => pure (if h : vs.size = 1 then vs[0] else .tuple vs)) := by
  rfl

theorem resV_run {W : World} {M : List Nat} {n : Nat} {a : Act} {w : World} (ha : Has n l a) (hw : St W M F w) : ∀ (rs : List ResultVar) (vs : List Value), resV P l F rs vs →
    (rs.mapM (resF a.tmps)).run P w = .ok vs w
  | [], [], _ => by simp
  | .tmp t :: rs, v :: vs, ⟨h, k⟩ => by
    have h1 : a.tmps.getD t undef = v := by have := ha.get t v h; simp [Array.getD_eq_getD_getElem?, this]
    have h2 : (resF a.tmps (.tmp t)).run P w = .ok v w := by simp [resF, h1]
    simp only [List.mapM_cons, Sem.run_bind, Sem.run_pure, h2, Result.andThen_ok, resV_run ha hw rs vs k]
  | .cell b t :: rs, v :: vs, ⟨⟨bb, cs, h, hm, hor⟩, k⟩ => by
    have h1 : a.tmps.getD b undef = .pointer (some ⟨bb, 0, none⟩) := by have := ha.get b _ h; simp [Array.getD_eq_getD_getElem?, this]
    have hb := hw.blk hm
    have hl : (loadVar t ⟨bb, 0, none⟩).run P w = .ok v w := by
      rcases hor with ⟨k, hk, hlen, rfl⟩ | ⟨hk, rfl⟩
      · exact run_loadVar_agg (us := cs) hlen (fun j hj => by rw [Nat.zero_add, blkAt_cell hb])
      · exact run_loadVar_scal (by rw [blkAt_cell hb]; rfl)
    have h2 : (resF a.tmps (.cell b t)).run P w = .ok v w := by
      have h3 : (asAddr (a.tmps.getD b undef)).run P w = .ok ⟨bb, 0, none⟩ w := by rw [h1]; rfl
      show ((asAddr (a.tmps.getD b undef)) >>= fun x => loadVar t x).run P w = _
      rw [Sem.run_bind, h3]
      exact hl
    simp only [List.mapM_cons, Sem.run_bind, Sem.run_pure, h2, Result.andThen_ok, resV_run ha hw rs vs k]
  | [], _ :: _, h => h.elim
  | .tmp _ :: _, [], h => h.elim
  | .cell _ _ :: _, [], h => h.elim

theorem PE.ret {n : Nat} {fn : Func} {W : World} {T T' : List Tok} {post : Value → List Tok → Prop} {rs : List ResultVar} {vs : List Value} {v : Value} (hr : fn.results = rs.toArray) (hv : resV P l F rs vs)
    (hone : (if h : vs.toArray.size = 1 then vs.toArray[0] else .tuple vs.toArray) = v) (hpost : post v T') (hT : SubT T' F) :
    PE ⟨n, W, fps T⟩ .ret l F (bodyPost P fn (RP W T post)) := fun a w ha hw => by
  refine ⟨ha.defers, v, ?_, v, T', rfl, hpost, ?_⟩
  · have := resV_run (P := P) ha hw rs vs hv
    rw [results_eq, hr]
    simp only [List.mapM_toArray, Sem.run_bind, Sem.run_map, this, Result.andThen_ok, Sem.run_pure]
    rw [← hone]
  · exact (hw.sub hT).toUpd

theorem PE.ret1 {n : Nat} {fn : Func} {W : World} {T T' : List Tok} {post : Value → List Tok → Prop} {r : ResultVar} {v : Value} (hr : fn.results = #[r]) (hv : resV P l F [r] [v])
    (hpost : post v T') (hT : SubT T' F) : PE ⟨n, W, fps T⟩ .ret l F (bodyPost P fn (RP W T post)) :=
  PE.ret (rs := [r]) (vs := [v]) hr hv rfl hpost hT
theorem PE.ret2 {n : Nat} {fn : Func} {W : World} {T T' : List Tok} {post : Value → List Tok → Prop} {r s : ResultVar} {u v : Value} (hr : fn.results = #[r, s]) (hv : resV P l F [r, s] [u, v])
    (hpost : post (.tuple #[u, v]) T') (hT : SubT T' F) : PE ⟨n, W, fps T⟩ .ret l F (bodyPost P fn (RP W T post)) :=
  PE.ret (rs := [r, s]) (vs := [u, v]) hr hv rfl hpost hT
theorem PE.ret3 {n : Nat} {fn : Func} {W : World} {T T' : List Tok} {post : Value → List Tok → Prop} {r s q : ResultVar} {u v x : Value} (hr : fn.results = #[r, s, q]) (hv : resV P l F [r, s, q] [u, v, x])
    (hpost : post (.tuple #[u, v, x]) T') (hT : SubT T' F) : PE ⟨n, W, fps T⟩ .ret l F (bodyPost P fn (RP W T post)) :=
  PE.ret (rs := [r, s, q]) (vs := [u, v, x]) hr hv rfl hpost hT
theorem PE.ret4 {n : Nat} {fn : Func} {W : World} {T T' : List Tok} {post : Value → List Tok → Prop} {r s q p : ResultVar} {u v x y : Value} (hr : fn.results = #[r, s, q, p]) (hv : resV P l F [r, s, q, p] [u, v, x, y])
    (hpost : post (.tuple #[u, v, x, y]) T') (hT : SubT T' F) : PE ⟨n, W, fps T⟩ .ret l F (bodyPost P fn (RP W T post)) :=
  PE.ret (rs := [r, s, q, p]) (vs := [u, v, x, y]) hr hv rfl hpost hT
theorem PE.end0 {n : Nat} {fn : Func} {W : World} {T T' : List Tok} {post : Value → List Tok → Prop} (hr : fn.results = #[])
    (hpost : post (.tuple #[]) T') (hT : SubT T' F) : PE ⟨n, W, fps T⟩ .normal l F (bodyPost P fn (RP W T post)) := fun a w ha hw =>
  PE.ret (P := P) (n := n) (rs := []) (vs := []) (v := .tuple #[]) hr trivial rfl hpost hT a w ha hw
theorem PE.ret0 {n : Nat} {fn : Func} {W : World} {T T' : List Tok} {post : Value → List Tok → Prop} (hr : fn.results = #[])
    (hpost : post (.tuple #[]) T') (hT : SubT T' F) : PE ⟨n, W, fps T⟩ .ret l F (bodyPost P fn (RP W T post)) :=
  PE.ret (P := P) (n := n) (rs := []) (vs := []) (v := .tuple #[]) hr trivial rfl hpost hT

/-! ### Regions that draw their order -/
/-- At a panic the post does not look at the slots. -/
def QP (Q : Exit → Act → World → Prop) : Prop := ∀ (d : Nat) (v : Value) c a w, Q (.panic c) (a.put (some d) v) w → Q (.panic c) a w
theorem QP.then {K : Act → World → Prop} (h : QP Q) : QP (Exit.then K Q) := h
theorem QP.inBlock {id : Nat} (h : QP Q) : QP (Exit.inBlock id Q) := h
theorem QP.body {fn : Func} {R : Ending → World → Prop} : QP (bodyPost P fn R) := fun _ _ _ _ _ h => h

def WPD (P : Program) (G : Ctx) (Fs : List Tok) (ops : Array Oper) (fuel : Nat) (listed : Array Bool) (l : List (Nat × Value)) (F : List Tok) (Q : Exit → Act → World → Prop) : Prop :=
  ∀ a w, Has G.n l a → St G.W G.M F w → wpAnyH P .any ops Q (St G.W G.M Fs) fuel listed a w

/-- Fs: the tokens that stay as they are from the region's beginning to its end. -/
theorem WP.draw {id : Nat} {L : List Oper} (Fs : List Tok) (hm : P.follows .mixedOrders = true) (h : WPD P G Fs L.toArray L.length (Array.replicate L.length false) l F Q) :
    WP P G (.region id L.toArray true) l F Q := fun a w ha hw => by
  refine wp_region_held (S := St G.W G.M Fs) hm ?_
  have := h a _ ha hw.drew
  simpa using this

/-- Operation number i is pure and may come up: it is taken now. -/
theorem WPD.take {Fs : List Tok} {ops : Array Oper} {fuel : Nat} {listed : Array Bool} (i : Nat) {d : Nat} {op : Op} {ty : TypeId} {pos : String} {after : Array Edge} {g : Option (Nat × Bool)} {v : Value}
    (hi : ops[i]? = some ⟨some d, op, ty, pos, after, g⟩) (h : Op1 P G op l Fs v) (hg : asked ops l g = some true) (hd : Nat.blt d G.n = true) (hsub : SubT Fs F)
    (hs : Region.noSelect ops = true) (hf : Region.free .any ops listed i = true) (hr : (Region.ready .any ops listed).contains i = true)
    (hQ : QP Q)
    (k : WPD P G Fs ops fuel (listed.setIfInBounds i true) ((d, v) :: l) F Q) : WPD P G Fs ops (fuel + 1) listed l F Q := fun _ _ ha hw =>
  wpAnyH_take hi hs hf hr (hQ _ _) (.inl ⟨asked_wanted ha hg, fun w' hS => h _ rfl _ w' ha hS⟩) (hw.sub hsub) (k _ _ (ha.put hd v) hw)

theorem WPD.skip {Fs : List Tok} {ops : Array Oper} {fuel : Nat} {listed : Array Bool} (i : Nat) {d : Nat} {op : Op} {ty : TypeId} {pos : String} {after : Array Edge} {g : Option (Nat × Bool)}
    (hi : ops[i]? = some ⟨some d, op, ty, pos, after, g⟩) (hg : asked ops l g = some false) (hd : Nat.blt d G.n = true) (hsub : SubT Fs F)
    (hs : Region.noSelect ops = true) (hf : Region.free .any ops listed i = true) (hr : (Region.ready .any ops listed).contains i = true)
    (hQ : QP Q)
    (k : WPD P G Fs ops fuel (listed.setIfInBounds i true) ((d, undef) :: l) F Q) : WPD P G Fs ops (fuel + 1) listed l F Q := fun _ _ ha hw =>
  wpAnyH_take hi hs hf hr (hQ _ _) (.inr ⟨asked_wanted ha hg, rfl⟩) (hw.sub hsub) (k _ _ (ha.put hd undef) hw)

/-- A slot that holds a Bool is decided now. -/
theorem WPD.split {Fs : List Tok} {ops : Array Oper} {fuel : Nat} {listed : Array Bool} (d : Nat) {b : Bool} (hb : lk l d = some (.bool b))
    (ht : b = true → WPD P G Fs ops fuel listed ((d, .bool true) :: l) F Q) (hf : b = false → WPD P G Fs ops fuel listed ((d, .bool false) :: l) F Q) :
    WPD P G Fs ops fuel listed l F Q := fun a w ha hw => by
  cases b with
  | true => exact ht rfl a w (ha.know hb) hw
  | false => exact hf rfl a w (ha.know hb) hw

def WPO (P : Program) (G : Ctx) (Fs : List Tok) (ops : Array Oper) (fuel : Nat) (listed : Array Bool) (l : List (Nat × Value)) (F : List Tok) (Q : Exit → Act → World → Prop) (i : Nat) : Prop :=
  ∀ a w, Has G.n l a → St G.W G.M F w → wpOp P ops Q i (fun a' w' => St G.W G.M Fs w' ∧ wpAnyH P .any ops Q (St G.W G.M Fs) fuel (listed.setIfInBounds i true) a' w') a w

/-- Whichever of those that may come up comes up. -/
theorem WPD.ready {Fs : List Tok} {ops : Array Oper} {fuel : Nat} {listed : Array Bool} (rs : List Nat) (hr : Region.ready .any ops listed = rs) (hne : rs ≠ [])
    (h : ∀ i ∈ rs, WPO P G Fs ops fuel listed l F Q i) : WPD P G Fs ops (fuel + 1) listed l F Q := fun a w ha hw =>
  wpAnyH_all hr hne fun i hi => h i hi a w ha hw

theorem WPO.eff {Fs : List Tok} {ops : Array Oper} {fuel : Nat} {listed : Array Bool} {i d : Nat} {op : Op} {ty : TypeId} {pos : String} {after : Array Edge} {g : Option (Nat × Bool)} {post : Value → List Tok → Prop}
    (hi : ops[i]? = some ⟨some d, op, ty, pos, after, g⟩) (h : OpE P G op l F post) (hg : asked ops l g = some true) (hd : Nat.blt d G.n = true)
    (k : ∀ v F', post v F' → SubT Fs F' ∧ WPD P G Fs ops fuel (listed.setIfInBounds i true) ((d, v) :: l) F' Q) : WPO P G Fs ops fuel listed l F Q i := fun a w ha hw => by
  unfold wpOp
  simp only [hi]
  rw [if_pos (asked_wanted (o := ⟨some d, op, ty, pos, after, g⟩) ha hg)]
  exact .inl (h _ rfl a w ha hw _ _ fun v F' w' hv hs => ⟨hs.sub (k v F' hv).1, (k v F' hv).2 _ _ (ha.put hd v) hs⟩)

theorem WPO.eff0 {Fs : List Tok} {ops : Array Oper} {fuel : Nat} {listed : Array Bool} {i : Nat} {op : Op} {ty : TypeId} {pos : String} {after : Array Edge} {g : Option (Nat × Bool)} {post : Value → List Tok → Prop}
    (hi : ops[i]? = some ⟨none, op, ty, pos, after, g⟩) (h : OpE P G op l F post) (hg : asked ops l g = some true)
    (k : ∀ v F', post v F' → SubT Fs F' ∧ WPD P G Fs ops fuel (listed.setIfInBounds i true) l F' Q) : WPO P G Fs ops fuel listed l F Q i := fun a w ha hw => by
  unfold wpOp
  simp only [hi]
  rw [if_pos (asked_wanted (o := ⟨none, op, ty, pos, after, g⟩) ha hg)]
  exact .inl (h _ rfl a w ha hw _ _ fun v F' w' hv hs => ⟨hs.sub (k v F' hv).1, (k v F' hv).2 _ _ ha hs⟩)

/-- Only operation number i may come up. -/
theorem WPD.eff {Fs : List Tok} {ops : Array Oper} {fuel : Nat} {listed : Array Bool} (i : Nat) {d : Nat} {op : Op} {ty : TypeId} {pos : String} {after : Array Edge} {g : Option (Nat × Bool)} {post : Value → List Tok → Prop}
    (hr : Region.ready .any ops listed = [i]) (hi : ops[i]? = some ⟨some d, op, ty, pos, after, g⟩) (h : OpE P G op l F post) (hg : asked ops l g = some true) (hd : Nat.blt d G.n = true)
    (k : ∀ v F', post v F' → SubT Fs F' ∧ WPD P G Fs ops fuel (listed.setIfInBounds i true) ((d, v) :: l) F' Q) : WPD P G Fs ops (fuel + 1) listed l F Q :=
  WPD.ready [i] hr (by simp) fun j hj => by
    simp only [List.mem_singleton] at hj; subst hj
    exact WPO.eff hi h hg hd k
theorem WPD.eff0 {Fs : List Tok} {ops : Array Oper} {fuel : Nat} {listed : Array Bool} (i : Nat) {op : Op} {ty : TypeId} {pos : String} {after : Array Edge} {g : Option (Nat × Bool)} {post : Value → List Tok → Prop}
    (hr : Region.ready .any ops listed = [i]) (hi : ops[i]? = some ⟨none, op, ty, pos, after, g⟩) (h : OpE P G op l F post) (hg : asked ops l g = some true)
    (k : ∀ v F', post v F' → SubT Fs F' ∧ WPD P G Fs ops fuel (listed.setIfInBounds i true) l F' Q) : WPD P G Fs ops (fuel + 1) listed l F Q :=
  WPD.ready [i] hr (by simp) fun j hj => by
    simp only [List.mem_singleton] at hj; subst hj
    exact WPO.eff0 hi h hg k

theorem OneM.out {u : Value} {w : World} (h : OneM F u) (hw : St G.W G.M F w) : u.oneCell' = true := by
  obtain ⟨t, ht, h⟩ := h; exact h w (hw.holds t ht)
/-- What a token tells of a value, as a plain fact. -/
theorem WPD.one1 {Fs : List Tok} {ops : Array Oper} {fuel : Nat} {listed : Array Bool} (u : Value) (h : OneM F u) (k : u.oneCell' = true → WPD P G Fs ops fuel listed l F Q) : WPD P G Fs ops fuel listed l F Q :=
  fun a w ha hw => k (h.out hw) a w ha hw
theorem WP.one1 {c : Code} (u : Value) (h : OneM F u) (k : u.oneCell' = true → WP P G c l F Q) : WP P G c l F Q :=
  fun a w ha hw => k (h.out hw) a w ha hw
theorem WPL.one1 {ops : Array Oper} {rest : List Oper} (u : Value) (h : OneM F u) (k : u.oneCell' = true → WPL P G ops rest l F Q) : WPL P G ops rest l F Q :=
  fun a w ha hw => k (h.out hw) a w ha hw
theorem WPD.two {Fs : List Tok} {ops : Array Oper} {fuel : Nat} {listed : Array Bool} (i j : Nat) (hr : Region.ready .any ops listed = [i, j]) (hi : WPO P G Fs ops fuel listed l F Q i) (hj : WPO P G Fs ops fuel listed l F Q j) :
    WPD P G Fs ops (fuel + 1) listed l F Q :=
  WPD.ready [i, j] hr (by simp) fun k hk => by
    simp only [List.mem_cons, List.not_mem_nil, or_false] at hk
    rcases hk with rfl | rfl
    · exact hi
    · exact hj
theorem WPD.three {Fs : List Tok} {ops : Array Oper} {fuel : Nat} {listed : Array Bool} (i j m : Nat) (hr : Region.ready .any ops listed = [i, j, m]) (hi : WPO P G Fs ops fuel listed l F Q i) (hj : WPO P G Fs ops fuel listed l F Q j) (hm : WPO P G Fs ops fuel listed l F Q m) :
    WPD P G Fs ops (fuel + 1) listed l F Q :=
  WPD.ready [i, j, m] hr (by simp) fun k hk => by
    simp only [List.mem_cons, List.not_mem_nil, or_false] at hk
    rcases hk with rfl | rfl | rfl
    · exact hi
    · exact hj
    · exact hm

theorem WPD.done {Fs : List Tok} {ops : Array Oper} {fuel : Nat} {listed : Array Bool} (hr : Region.ready .any ops listed = []) (h : PE G .normal l F Q) : WPD P G Fs ops fuel listed l F Q :=
  fun a w ha hw => wpAnyH_done hr (h a w ha hw) fuel
end
end Go.Proofs.Ythlgbeakcobeoaa
