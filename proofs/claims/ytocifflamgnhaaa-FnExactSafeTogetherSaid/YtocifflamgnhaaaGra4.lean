/- Graphs: the walks of the library's search and insertion, and of PutEdge. Conditions: those of each contract. -/
import Derived.Test.YtocifflamgnhaaaGra3
import Derived.Test.YtocifflamgnhaaaR3
namespace Go.Proofs.Ytocifflamgnhaaa
open Go

/-! ### Edges in order -/
theorem ltE_trans {a b c : E} (h1 : ltE a b) (h2 : ltE b c) : ltE a c := by unfold ltE at *; omega
theorem ltE_irrefl (a : E) : ¬ ltE a a := by unfold ltE; omega
theorem ltE_asymm {a b : E} (h1 : ltE a b) : ¬ ltE b a := by unfold ltE at *; omega
theorem ltE_total {a b : E} (h : a ≠ b) : ltE a b ∨ ltE b a := by
  have : ¬ (a.A = b.A ∧ a.B = b.B) := fun h2 => h (by cases a; cases b; simp at h2; simp [h2])
  unfold ltE; omega
/-- Edges in order. -/
def Srt (es : List E) : Prop := ∀ i j, i < j → j < es.length → ltE (es.getD i eD) (es.getD j eD)
theorem Srt.of {es : List E} (h : ∀ i, i + 1 < es.length → ltE (es.getD i eD) (es.getD (i + 1) eD)) : Srt es := by
  intro i j
  induction j with
  | zero => intro h1; omega
  | succ j ih =>
    intro h1 h2
    rcases Nat.lt_succ_iff_lt_or_eq.1 h1 with h3 | h3
    · exact ltE_trans (ih h3 (by omega)) (h j h2)
    · subst h3; exact h i h2
theorem GV.srt {n : Int} {es : List E} (h : GV n es) : Srt es := Srt.of fun i hi => by
  have := (h.2.2.2 (i + 1) hi).2.2.2 (by omega)
  simpa using this
/-- Edges with one more, in front of the first one that is not less. -/
def insE (es : List E) (e : E) : List E := es.takeWhile (fun f => decide (ltE f e)) ++ e :: es.dropWhile (fun f => decide (ltE f e))
theorem while_split {es : List E} {p : E → Bool} {k : Nat} (h1 : ∀ i, i < k → p (es.getD i eD) = true) (h2 : k < es.length → p (es.getD k eD) = false) (hk : k ≤ es.length) : es.takeWhile p = es.take k ∧ es.dropWhile p = es.drop k := by
  induction es generalizing k with
  | nil => simp
  | cons a es ih =>
    cases k with
    | zero =>
      have : p a = false := h2 (by simp)
      simp [List.takeWhile, List.dropWhile, this]
    | succ k =>
      have ha : p a = true := h1 0 (by omega)
      have := ih (k := k) (fun i hi => h1 (i + 1) (by omega)) (fun h => h2 (by simpa using h)) (by simpa using hk)
      simp [List.takeWhile, List.dropWhile, ha, this.1, this.2]
theorem insE_at {es : List E} {e : E} {k : Nat} (h1 : ∀ i, i < k → ltE (es.getD i eD) e) (h2 : k < es.length → ¬ ltE (es.getD k eD) e) (hk : k ≤ es.length) : insE es e = es.take k ++ e :: es.drop k := by
  obtain ⟨h3, h4⟩ := while_split (p := fun f => decide (ltE f e)) (fun i hi => decide_eq_true (h1 i hi)) (fun h => decide_eq_false (h2 h)) hk
  rw [insE, h3, h4]

/-- What PutEdge asks. -/
def putOk (n : Int) (es : List E) (e : E) : Prop := GV n es ∧ e ∉ es ∧ GV n (insE es e)
instance (n : Int) (es : List E) (e : E) : Decidable (putOk n es e) := by unfold putOk; infer_instance

/-! ### Plain facts on lists of cells -/
theorem ins1 {V : Type} (A Z X : List V) : (A ++ Z).take A.length ++ X ++ (A ++ Z).drop (A.length + X.length) = A ++ X ++ Z.drop X.length := by
  rw [List.take_left, List.drop_length_add_append]
theorem ins2 {V : Type} (A D R X : List V) (h : X.length ≤ (D ++ R).length) :
    ((A ++ (D ++ R)).take (A.length + X.length) ++ D ++ (A ++ (D ++ R)).drop (A.length + X.length + D.length)).take A.length ++ X ++
      ((A ++ (D ++ R)).take (A.length + X.length) ++ D ++ (A ++ (D ++ R)).drop (A.length + X.length + D.length)).drop (A.length + X.length) = A ++ X ++ D ++ (A ++ (D ++ R)).drop (A.length + X.length + D.length) := by
  have h1 : (A ++ (D ++ R)).take (A.length + X.length) = A ++ (D ++ R).take X.length := List.take_length_add_append _
  rw [h1]
  generalize (A ++ (D ++ R)).drop (A.length + X.length + D.length) = S
  have h2 : (A ++ (D ++ R).take X.length).length = A.length + X.length := by
    rw [List.length_append, List.length_take]; omega
  rw [List.append_assoc (A ++ (D ++ R).take X.length), ← h2, List.drop_left, List.append_assoc A, List.take_left]
  simp
set_option linter.unusedVariables false set_option linter.unusedSimpArgs false attribute [local irreducible] Tok.own Tok.blk RL Rd eptr WP WPL PE WPD WPO Op1 OpE Tri Again Mid Exit.then Exit.inBlock bodyPost RP Code.wp wpList isOwn OneM One
set_option maxHeartbeats 8000000

def fnV (f : FuncId) : Value := .func (.func f) #[] #[]

theorem c_BinE (w : World) (vE : Value) (es : List E) (e : E) (hE : RL w vE es) (hl : es.length ≤ 1000) (hs : Srt es) :
    Tri Try.prog 104 [vE, ep e, fnV 88] w [] fun r T =>
      T = [] ∧ ∃ (k : Nat) (bb : Bool), r = .tuple #[.int .i64 k, .bool bb] ∧ k ≤ es.length ∧ (∀ i, i < k → ltE (es.getD i eD) e) ∧ (∀ i, k ≤ i → i < es.length → ¬ ltE (es.getD i eD) e) := by
  refine Tri.intro (hf := Try.func104) (hb := rfl) (hn := Try.ntmps104) (Nat.le_of_ble_eq_true rfl) ?_
  try refine go ⟨?_⟩
  refine WPL.eff (OpE.box rfl) rfl rfl ?_; rintro _ _ ⟨b, rfl, rfl⟩
  try refine go ⟨?_⟩
  refine WP.loop (σ := Nat × Nat) (fun s => [(0, vE), (2, fnV 88), (4, .pointer (some ⟨b, 0, none⟩)), (8, .int .i64 es.length), (9, .int .i64 s.1), (10, .int .i64 s.2)]) (fun _ => [Tok.blk b [.int .i64 e.A, .int .i64 e.B]])
    (fun s => s.1 ≤ s.2 ∧ s.2 ≤ es.length ∧ (∀ i, i < s.1 → ltE (es.getD i eD) e) ∧ (∀ i, s.2 ≤ i → i < es.length → ¬ ltE (es.getD i eD) e)) (fun s => s.2 - s.1) (0, es.length) ⟨Nat.zero_le _, Nat.le_refl _, by omega, by omega⟩ sE sT ?_
  rintro ⟨i, j⟩ ⟨h1, h2, h3, h4⟩
  dsimp only at h1 h2 h3 h4 ⊢
  try refine go ⟨?_⟩
  refine WP.condD rfl (fun hc => ?_) (fun hc => ?_)
  · obtain ⟨h, hh⟩ : ∃ h : Nat, h = (i + j) / 2 := ⟨_, rfl⟩
    have eh : ((i : Int) + (j : Int)) / 2 = (h : Int) := by omega
    have hbox : Nonempty (PLift (j ≤ es.length ∧ es.length ≤ 1000)) := ⟨⟨h2, hl⟩⟩
    clear h2 hl
    try refine go ⟨?_⟩
    obtain ⟨⟨h2, hl⟩⟩ := hbox
    refine WPL.pure (Op1.add rfl rfl (by omega)) rfl rfl ?_
    refine WPL.pure (Op1.convU (n := (i : Int) + (j : Int)) rfl (by kernel_rfl) (by omega)) rfl rfl ?_
    refine WPL.pure (Op1.shr1 rfl (by omega)) rfl rfl ?_
    rw [eh]
    try refine go ⟨?_⟩
    refine WP.draw [Tok.blk b [.int .i64 e.A, .int .i64 e.B]] mixed ?_
    refine WPD.take 0 rfl (Op1.move rfl) rfl rfl sT kR kR kR xQP ?_
    refine WPD.take 1 rfl (Op1.move rfl) rfl rfl sT kR kR kR xQP ?_
    refine WPD.take 2 rfl (Op1.move rfl) rfl rfl sT kR kR kR xQP ?_
    refine WPD.take 5 rfl (by first | exact (Op1.load rfl mM (by rfl)) | exact (Op1.loadI rfl rD lT) | exact (Op1.loadAll rfl mM (by rfl)) | exact (Op1.loadE rfl rD lT (by rfl)) | exact (Op1.loadEAgg rfl rD lT (by rfl))) rfl rfl sT kR kR kR xQP ?_
    refine WPD.take 3 rfl (by first | exact (Op1.indexAddr rfl rfl rD lT) | exact (Op1.indexAddrZ rfl rfl rD lT)) rfl rfl sT kR kR kR xQP ?_
    refine WPD.take 4 rfl (by first | exact (Op1.load rfl mM (by rfl)) | exact (Op1.loadI rfl rD lT) | exact (Op1.loadAll rfl mM (by rfl)) | exact (Op1.loadE rfl rD lT (by rfl)) | exact (Op1.loadEAgg rfl rD lT (by rfl))) rfl rfl sT kR kR kR xQP ?_
    refine WPD.eff 6 kR rfl (OpE.callC [ep (es.getD h eD), ep e] [] (T := []) rfl lO pM (fun w hw => c_cmpE _ (es.getD h eD) e)) rfl rfl ?_
    rintro _ _ ⟨T, ⟨rfl, rfl⟩, rfl⟩
    refine ⟨sT, ?_⟩
    refine WPD.take 7 rfl (Op1.ltI rfl rfl) rfl rfl sT kR kR kR xQP ?_
    refine WPD.done kR ?_
    try refine go ⟨?_⟩
    refine WP.condD rfl (fun hlt => ?_) (fun hlt => ?_)
    · try refine go ⟨?_⟩
      refine PE.again (h + 1, j) ?_ ?_ sE sT
      · rw [cmpE_neg] at hlt
        refine ⟨by dsimp only; omega, h2, fun m hm => ?_, h4⟩
        dsimp only at hm
        by_cases hmh : m = h
        · subst hmh; exact hlt
        · exact ltE_trans (hs m h (by omega) (by omega)) hlt
      · dsimp only; omega
    · try refine go ⟨?_⟩
      refine PE.again (i, h) ?_ ?_ sE sT
      · rw [cmpE_neg] at hlt
        refine ⟨by dsimp only; omega, by dsimp only; omega, h3, fun m hm hml => ?_⟩
        dsimp only at hm
        by_cases hmh : m = h
        · subst hmh; exact hlt
        · exact fun h5 => hlt (ltE_trans (hs h m (by omega) hml) h5)
      · dsimp only; omega
  · have hij : i = j := by omega
    subst hij
    try refine go ⟨?_⟩
    refine WP.draw [Tok.blk b [.int .i64 e.A, .int .i64 e.B]] mixed ?_
    refine WPD.take 0 rfl (Op1.move rfl) rfl rfl sT kR kR kR xQP ?_
    refine WPD.take 1 rfl (Op1.move rfl) rfl rfl sT kR kR kR xQP ?_
    refine WPD.take 2 rfl (Op1.move rfl) rfl rfl sT kR kR kR xQP ?_
    refine WPD.take 3 rfl (Op1.ltI rfl rfl) rfl rfl sT kR kR kR xQP ?_
    refine WPD.take 4 rfl (Op1.move rfl) rfl rfl sT kR kR kR xQP ?_
    refine WPD.splitD 39 rfl (fun h39 => ?t1) (fun h39 => ?f1)
    case' t1 =>
      refine WPD.take 5 rfl (Op1.move rfl) rfl rfl sT kR kR kR xQP ?_
      refine WPD.take 6 rfl (Op1.move rfl) rfl rfl sT kR kR kR xQP ?_
      refine WPD.take 7 rfl (Op1.move rfl) rfl rfl sT kR kR kR xQP ?_
      refine WPD.take 10 rfl (by first | exact (Op1.load rfl mM (by rfl)) | exact (Op1.loadI rfl rD lT) | exact (Op1.loadAll rfl mM (by rfl)) | exact (Op1.loadE rfl rD lT (by rfl)) | exact (Op1.loadEAgg rfl rD lT (by rfl))) rfl rfl sT kR kR kR xQP ?_
      refine WPD.take 8 rfl (by first | exact (Op1.indexAddr rfl rfl rD lT) | exact (Op1.indexAddrZ rfl rfl rD lT)) rfl rfl sT kR kR kR xQP ?_
      refine WPD.take 9 rfl (by first | exact (Op1.load rfl mM (by rfl)) | exact (Op1.loadI rfl rD lT) | exact (Op1.loadAll rfl mM (by rfl)) | exact (Op1.loadE rfl rD lT (by rfl)) | exact (Op1.loadEAgg rfl rD lT (by rfl))) rfl rfl sT kR kR kR xQP ?_
      refine WPD.eff 11 kR rfl (OpE.callC [ep (es.getD i eD), ep e] [] (T := []) rfl lO pM (fun w hw => c_cmpE _ (es.getD i eD) e)) rfl rfl ?_
      rintro _ _ ⟨T, ⟨rfl, rfl⟩, rfl⟩
      refine ⟨sT, ?_⟩
      refine WPD.take 12 rfl (by first | exact (Op1.eqI rfl rfl) | exact (Op1.eqB rfl rfl) | exact (Op1.eqE rfl rfl) | exact (Op1.eqNil rfl rD)) rfl rfl sT kR kR kR xQP ?_
      refine WPD.take 13 rfl (by first | exact (Op1.pickT rfl rfl) | exact (Op1.pickF rfl rfl)) rfl rfl sT kR kR kR xQP ?_
      refine WPD.eff 14 kR rfl (OpE.ofPure (Op1.assign rfl)) rfl rfl ?_
      rintro _ _ ⟨rfl, rfl⟩
      refine ⟨sT, ?_⟩
      refine WPD.eff 15 kR rfl (OpE.ofPure (Op1.assign rfl)) rfl rfl ?_
      rintro _ _ ⟨rfl, rfl⟩
      refine ⟨sT, ?_⟩
      refine WPD.done kR ?_
    case' f1 =>
      refine WPD.skip 5 rfl rfl rfl sT kR kR kR xQP ?_
      refine WPD.skip 6 rfl rfl rfl sT kR kR kR xQP ?_
      refine WPD.skip 7 rfl rfl rfl sT kR kR kR xQP ?_
      refine WPD.skip 10 rfl rfl rfl sT kR kR kR xQP ?_
      refine WPD.skip 8 rfl rfl rfl sT kR kR kR xQP ?_
      refine WPD.skip 9 rfl rfl rfl sT kR kR kR xQP ?_
      refine WPD.skip 11 rfl rfl rfl sT kR kR kR xQP ?_
      refine WPD.skip 12 rfl rfl rfl sT kR kR kR xQP ?_
      refine WPD.take 13 rfl (by first | exact (Op1.pickT rfl rfl) | exact (Op1.pickF rfl rfl)) rfl rfl sT kR kR kR xQP ?_
      refine WPD.eff 14 kR rfl (OpE.ofPure (Op1.assign rfl)) rfl rfl ?_
      rintro _ _ ⟨rfl, rfl⟩
      refine ⟨sT, ?_⟩
      refine WPD.eff 15 kR rfl (OpE.ofPure (Op1.assign rfl)) rfl rfl ?_
      rintro _ _ ⟨rfl, rfl⟩
      refine ⟨sT, ?_⟩
      refine WPD.done kR ?_
    all_goals (try refine go ⟨?_⟩; refine PE.ret2 (T := []) (T' := []) rfl rV ?_ sT; exact ⟨rfl, i, _, rfl, h2, h3, h4⟩)

theorem c_InsertE (w : World) (vs vv : Value) (es : List E) (k : Nat) (e : E) (hk : k ≤ es.length) (hl : es.length ≤ 1000) :
    Tri Try.prog 105 [vs, .int .i64 k, vv] w [Tok.own vs es, Tok.own vv [e]] fun r T => T = [Tok.own r (es.take k ++ e :: es.drop k)] := by
  have hlen : (es.take k ++ e :: es.drop k).length = es.length + 1 := by
    rw [List.length_append, List.length_take, List.length_cons, List.length_drop]; omega
  refine Tri.intro (hf := Try.func105) (hb := rfl) (hn := Try.ntmps105) (Nat.le_of_ble_eq_true rfl) ?_
  by_cases hkn : k = es.length
  · subst hkn
    repeat' (first | exact absurd rfl hc | refine go ⟨?_⟩ | (refine isCond ?_; refine WP.condD rfl (fun hc => ?_) (fun hc => ?_)) | (refine isGuard ?_; refine WPL.splitD rfl rfl (fun hc => ?_) (fun hc => ?_)))
    refine WPL.eff (OpE.append rfl rfl pM rD lN) rfl rfl ?_; rintro r _ rfl
    try refine go ⟨?_⟩
    refine PE.ret1 (T := [Tok.own vs es, Tok.own vv [e]]) (T' := [Tok.own r (es ++ [e])]) rfl rV ?_ sT
    simp
  have hkl : k < es.length := by omega
  refine WP.unown (v := vs) (xs := es) pM (fun _ h => by subst h; simp at hkl) (fun b cap post hv hcap hmx hsz => ?_)
  subst hv
  refine WP.unown (v := vv) (xs := [e]) pM (fun _ h => by cases h) (fun vb vcap vpost hv2 hvcap hvmx hvsz => ?_)
  have hv3 : vv = .slice (some ⟨vb, 0, none⟩) 1 vcap := hv2
  subst hv3
  -- the cells
  obtain ⟨A, hA⟩ : ∃ A, A = encs (es.take k) := ⟨_, rfl⟩
  obtain ⟨D, hD⟩ : ∃ D, D = encs (es.drop k) := ⟨_, rfl⟩
  obtain ⟨X, hX⟩ : ∃ X, X = encs [e] := ⟨_, rfl⟩
  have hAl : A.length = k * 2 := by rw [hA, encs_length, List.length_take, Nat.min_eq_left hk]; rfl
  have hDl : D.length = (es.length - k) * 2 := by rw [hD, encs_length, List.length_drop]; rfl
  have hXl : X.length = 2 := by rw [hX]; rfl
  have hAD : encs es = A ++ D := by rw [hA, hD, ← encs_append, List.take_append_drop]
  have hnew : encs (es.take k ++ e :: es.drop k) = A ++ X ++ D := by
    rw [hA, hD, hX, ← encs_append, ← encs_append]; simp
  have oA : ∀ u ∈ A, u.oneCell' = true := by rw [hA]; exact encs_one _
  have oD : ∀ u ∈ D, u.oneCell' = true := by rw [hD]; exact encs_one _
  have oX : ∀ u ∈ X, u.oneCell' = true := by rw [hX]; exact encs_one _
  have hsz2 : cap * 2 = A.length + D.length + post.length := by
    have h : cap * 2 = (encs es ++ post).length := hsz
    rw [hAD, List.length_append, List.length_append] at h; exact h
  rw [hAD, ← hX]
  rw [hAD] at hsz
  try refine go ⟨?_⟩
  refine WPL.pure (Op1.sliceLoR rfl rfl (by omega)) rfl rfl ?_
  try refine go ⟨?_⟩
  refine WPL.pure (Op1.lenR Try.underlying23 rfl) rfl rfl ?_
  try refine go ⟨?_⟩
  refine WPL.pure (Op1.lenR Try.underlying23 rfl) rfl rfl ?_
  try refine go ⟨?_⟩
  refine WP.condD rfl (fun h1 => ?_) (fun h1 => ?_)
  · omega
  try refine go ⟨?_⟩
  refine WPL.pure (Op1.capR Try.underlying23 rfl) rfl rfl ?_
  try refine go ⟨?_⟩
  refine WP.condD rfl (fun hroom => ?_) (fun hroom => ?_)
  · try refine go ⟨?_⟩
    refine WPL.pure (Op1.sliceHiR rfl rfl (by omega)) rfl rfl ?_
    try refine go ⟨?_⟩
    have ek : ((k : Nat) : Int).toNat = k := Int.toNat_natCast k
    rw [ek]
    refine WPL.eff (OpE.appendZ (α := E) (k := es.length + 1 - k) (olds := A) rfl rfl (by omega) mM (by rw [hAl]; rfl) (fun j u hj => ?_) (by omega) (by omega) (by omega)) rfl rfl ?_
    · rw [List.append_assoc, List.getElem?_append_left (List.getElem?_eq_some_iff.1 hj).1]; exact hj
    rintro _ _ ⟨b', cap', Z, rfl, g1, g2, g3, rfl⟩
    have g3' : cap' * 2 = A.length + Z.length := by rw [List.length_append] at g3; exact g3
    have el : k + (es.length + 1 - k) = es.length + 1 := by omega
    rw [el] at g1 ⊢
    try refine go ⟨?_⟩
    refine WPL.pure (Op1.sliceLoR rfl rfl (by omega)) rfl rfl ?_
    rw [ek, if_neg (by omega)]
    have ea : 0 + k * Enc.sz E = A.length := by rw [hAl, Nat.zero_add]; rfl
    rw [ea]
    try refine go ⟨?_⟩
    have hmin1 : Nat.min 1 (es.length + 1 - k) = 1 := Nat.min_eq_left (by omega)
    refine WPL.eff (OpE.copyR (α := E) (us := X) (cells2 := X ++ vpost) rfl rfl pM mM (by rw [hXl, hmin1]; rfl) (fun j u hj => ?_) (by rw [List.length_append]; omega) oX) rfl rfl ?_
    · rw [Nat.zero_add, List.getElem?_append_left (List.getElem?_eq_some_iff.1 hj).1]; exact hj
    rintro _ _ ⟨rfl, rfl⟩
    rw [ins1]
    try refine go ⟨?_⟩
    have ek1 : ((k : Int) + ((1 : Nat) : Int)).toNat = k + 1 := by omega
    have ea1 : 0 + (k + 1) * Enc.sz E = (A ++ X).length := by rw [List.length_append, hAl, hXl, Nat.zero_add]; show (k + 1) * 2 = k * 2 + 2; omega
    have en : es.length + 1 - (k + 1) = es.length - k := by omega
    have hm1 : Nat.min (es.length - k) (es.length - k) = es.length - k := Nat.min_self _
    have hcl : (A ++ X ++ Z.drop X.length).length = cap' * 2 := by
      rw [List.length_append, List.length_append, List.length_drop]; omega
    refine WP.draw [Tok.blk b (A ++ D ++ post)] mixed ?_
    refine WPD.take 0 rfl (Op1.move rfl) rfl rfl sT kR kR kR xQP ?_
    refine WPD.take 1 rfl (Op1.move rfl) rfl rfl sT kR kR kR xQP ?_
    refine WPD.take 2 rfl (Op1.move rfl) rfl rfl sT kR kR kR xQP ?_
    refine WPD.take 5 rfl (Op1.move rfl) rfl rfl sT kR kR kR xQP ?_
    refine WPD.take 6 rfl (Op1.move rfl) rfl rfl sT kR kR kR xQP ?_
    refine WPD.take 3 rfl (Op1.add rfl rfl (by omega)) rfl rfl sT kR kR kR xQP ?_
    refine WPD.take 7 rfl (Op1.sliceLoR rfl rfl (by omega)) rfl rfl sT kR kR kR xQP ?_
    refine WPD.take 4 rfl (Op1.sliceLoR rfl rfl (by omega)) rfl rfl sT kR kR kR xQP ?_
    refine WPD.eff 8 kR rfl (OpE.copyR (α := E) (us := D) (cells2 := A ++ D ++ post) rfl rfl pM mM (by rw [hDl, ek1, ek, en, hm1]; rfl) (fun j u hj => by rw [ek, if_neg (by omega), ea, List.append_assoc, List.getElem?_append_right (Nat.le_add_right _ _), Nat.add_sub_cancel_left, List.getElem?_append_left (List.getElem?_eq_some_iff.1 hj).1]; exact hj) (by rw [hcl, ek1, if_neg (by omega), ea1, List.length_append]; omega) oD) rfl rfl ?_
    rintro _ _ ⟨rfl, rfl⟩
    refine ⟨sT, ?_⟩
    rw [ek1, if_neg (by omega), ea1, ins1]
    refine WPD.done kR ?_
    try refine go ⟨?_⟩
    refine PE.reown (α := E) (es.take k ++ e :: es.drop k) (b := b') (cap := cap') (post := (Z.drop X.length).drop D.length) pM (by rw [hnew]) (by omega) g2 (by simp only [List.length_append, List.length_drop]; show cap' * 2 = _; omega) ?_
    rw [hlen]
    refine PE.ret1 (T := [Tok.own (.slice (some ⟨b, 0, none⟩) es.length cap) es, Tok.own (.slice (some ⟨vb, 0, none⟩) 1 vcap) [e]]) (T' := [Tok.own (.slice (some ⟨b', 0, none⟩) (es.length + 1) cap') (es.take k ++ e :: es.drop k)]) rfl rV ?_ sT
    rfl
  · try refine go ⟨?_⟩
    refine WPL.pure (Op1.sliceHiR rfl rfl (by omega)) rfl rfl ?_
    have en1 : ((es.length : Int) + ((1 : Nat) : Int)).toNat = es.length + 1 := by omega
    have ek : ((k : Nat) : Int).toNat = k := Int.toNat_natCast k
    have ek1 : ((k : Int) + ((1 : Nat) : Int)).toNat = k + 1 := by omega
    have ea : 0 + k * Enc.sz E = A.length := by rw [hAl, Nat.zero_add]; rfl
    have ea1 : 0 + (k + 1) * Enc.sz E = A.length + X.length := by rw [hAl, hXl, Nat.zero_add]; show (k + 1) * 2 = k * 2 + 2; omega
    rw [en1, List.append_assoc A D post]
    have hds : A ++ (D ++ post) ≠ [] := fun h => by
      have := congrArg List.length h
      simp only [List.length_append, List.length_nil] at this
      omega
    have en : es.length + 1 - (k + 1) = es.length - k := by omega
    have hm1 : Nat.min (es.length + 1 - k) (es.length - k) = es.length - k := Nat.min_eq_right (by omega)
    have hmin1 : Nat.min 1 (es.length + 1 - k) = 1 := Nat.min_eq_left (by omega)
    try refine go ⟨?_⟩
    refine WPL.pure (Op1.sliceLoR rfl rfl (by omega)) rfl rfl ?_
    refine WPL.pure (Op1.overlaps (α := E) (tS := 23) (tR := 4) Try.func128 (by kernel_rfl) (by kernel_rfl) (by kernel_rfl) (by kernel_rfl) rfl rfl pM mM hds) rfl rfl ?_
    try refine go ⟨?_⟩
    refine WP.draw [Tok.blk vb (X ++ vpost)] mixed ?_
    refine WPD.take 0 rfl (Op1.move rfl) rfl rfl sT kR kR kR xQP ?_
    refine WPD.take 1 rfl (Op1.move rfl) rfl rfl sT kR kR kR xQP ?_
    refine WPD.take 2 rfl (Op1.move rfl) rfl rfl sT kR kR kR xQP ?_
    refine WPD.take 5 rfl (Op1.move rfl) rfl rfl sT kR kR kR xQP ?_
    refine WPD.take 6 rfl (Op1.move rfl) rfl rfl sT kR kR kR xQP ?_
    refine WPD.take 3 rfl (Op1.add rfl rfl (by omega)) rfl rfl sT kR kR kR xQP ?_
    refine WPD.take 7 rfl (Op1.sliceLoR rfl rfl (by omega)) rfl rfl sT kR kR kR xQP ?_
    refine WPD.take 4 rfl (Op1.sliceLoR rfl rfl (by omega)) rfl rfl sT kR kR kR xQP ?_
    refine WPD.eff 8 kR rfl (OpE.copyR (α := E) (us := D) (cells2 := A ++ (D ++ post)) rfl rfl pM mM (by rw [hDl, ek1, ek, en, hm1]; rfl) (fun j u hj => by rw [ek, if_neg (by omega), ea, List.getElem?_append_right (Nat.le_add_right _ _), Nat.add_sub_cancel_left, List.getElem?_append_left (List.getElem?_eq_some_iff.1 hj).1]; exact hj) (by rw [ek1, if_neg (by omega), ea1]; simp only [List.length_append]; omega) oD) rfl rfl ?_
    rintro _ _ ⟨rfl, rfl⟩
    refine ⟨sT, ?_⟩
    rw [ek1, if_neg (by omega), ea1]
    refine WPD.done kR ?_
    try refine go ⟨?_⟩
    refine WPL.pure (Op1.sliceLoR rfl rfl (by omega)) rfl rfl ?_
    rw [ek, if_neg (by omega), ea]
    try refine go ⟨?_⟩
    refine WPL.eff (OpE.copyR (α := E) (us := X) (cells2 := X ++ vpost) rfl rfl pM mM (by rw [hXl, hmin1]; rfl) (fun j u hj => ?_) (by simp only [List.length_append, List.length_take, List.length_drop]; omega) oX) rfl rfl ?_
    · rw [Nat.zero_add, List.getElem?_append_left (List.getElem?_eq_some_iff.1 hj).1]; exact hj
    rintro _ _ ⟨rfl, rfl⟩
    rw [ins2 A D post X (by rw [List.length_append]; omega)]
    try refine go ⟨?_⟩
    refine PE.reown (α := E) (es.take k ++ e :: es.drop k) (b := b) (cap := cap) (post := (A ++ (D ++ post)).drop (A.length + X.length + D.length)) pM (by rw [hnew]) (by omega) hmx (by simp only [List.length_append, List.length_drop]; show cap * 2 = _; omega) ?_
    rw [hlen]
    refine PE.ret1 (T := [Tok.own (.slice (some ⟨b, 0, none⟩) es.length cap) es, Tok.own (.slice (some ⟨vb, 0, none⟩) 1 vcap) [e]]) (T' := [Tok.own (.slice (some ⟨b, 0, none⟩) (es.length + 1) cap) (es.take k ++ e :: es.drop k)]) rfl rV ?_ sT
    rfl
end Go.Proofs.Ytocifflamgnhaaa
