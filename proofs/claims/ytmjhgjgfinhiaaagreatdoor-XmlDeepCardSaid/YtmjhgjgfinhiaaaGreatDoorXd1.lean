/- YtmjhgjgfinhiaaaGreatDoorXd1: a part of the interpreter by which the claim is shown, and of the walks: no conditions of its own: every theorem states its own. -/
import Derived.Test.YtmjhgjgfinhiaaaGreatDoorXw3
import Derived.Test.YtmjhgjgfinhiaaaGreatDoorXl1
set_option linter.unusedVariables false
set_option linter.unusedSimpArgs false
set_option linter.unusedSectionVars false
set_option maxHeartbeats 8000000
set_option maxRecDepth 100000
section
namespace Go.Abs
section
variable {P : Program} {t : TypeId} {k : IntKind}
theorem bin_rem (a b : Int) (h : b ≠ 0) : binA P .rem t (.v (.int k a)) (.v (.int k b)) = some (.v (.int k (a.tmod b))) := by
  simp [binA, binS, binOp, Op.intDiv, plainV, h]; rfl
attribute [go_sem] bin_rem
end
section
variable {P : Program} {α β γ : Type} {H : Type} {e : TypeId × Value → H} {W : World} {v : Value} {d : DataW H} {ps : List MemPlace} {t : TypeId} {enc : α → List AV} {ok : α → Prop} {ts : List TypeId} {ds : List (DataW H)} {j : Nat}
theorem arg_one (ho : ∀ k, Opens P k t enc ok) (h : DataW.Trod e P W 0 (fun _ => true) true t v d ps) (hw : ∀ n ∈ d.weights P t, n ≤ reachBytes) (hv : v.cells.toList = [v]) (he : ∀ x, ∃ y, enc x = [y]) :
    ∃ x y, ok x ∧ enc x = [y] ∧ Rel (fun _ => .nil) (oldS W) W 0 y v := by
  obtain ⟨k, hk⟩ := h
  obtain ⟨x, h1, ⟨h2, h3⟩, h4⟩ := ho k H e W _ d ps hk hw
  obtain ⟨y, hy⟩ := he x
  refine ⟨x, y, h1, hy, ?_⟩
  rw [hv, hy] at h3
  exact h3 0 y v rfl rfl
end
end Go.Abs
namespace Go.Abs.SA
open Go.Proofs
theorem fns_8 : XX.fns.contains 8 = true := nr (by kernel_rfl)
theorem res_8 : Go.Proofs.Tryz.f8.results.toList = [.tmp 4] := nr rfl
theorem live_8 : XX.live 8 = [] := nr (by kernel_rfl)
theorem own_8 : XX.own 8 = [] := nr (by kernel_rfl)
theorem tr_8_8 : XX.trim 8 8 = some ([0, 1, 5, 21, 22], []) := nr (by kernel_rfl)
theorem trim_8_8 (d : AV) (l : List (Nat × AV)) (h : List Blk) (n : Nat) : trimA XX 8 8 n ⟨mkT 80 d l, h⟩ = gcK n (mkT 80 .junk [(0, lk d l 0), (1, lk d l 1), (5, lk d l 5), (21, lk d l 21), (22, lk d l 22)]) h := (trimA_keep tr_8_8 n _ h).trans (by rw [keep_mkT]; kernel_rfl)
abbrev S_8_8 (x0 x1 x5 x21 x22 : AV) (h : List Blk) : St := ⟨mkT 80 .junk [(0, x0), (1, x1), (5, x5), (21, x21), (22, x22)], h⟩
theorem tr_8_12 : XX.trim 8 12 = some ([0, 1, 5, 30, 31], []) := nr (by kernel_rfl)
theorem trim_8_12 (d : AV) (l : List (Nat × AV)) (h : List Blk) (n : Nat) : trimA XX 8 12 n ⟨mkT 80 d l, h⟩ = gcK n (mkT 80 .junk [(0, lk d l 0), (1, lk d l 1), (5, lk d l 5), (30, lk d l 30), (31, lk d l 31)]) h := (trimA_keep tr_8_12 n _ h).trans (by rw [keep_mkT]; kernel_rfl)
abbrev S_8_12 (x0 x1 x5 x30 x31 : AV) (h : List Blk) : St := ⟨mkT 80 .junk [(0, x0), (1, x1), (5, x5), (30, x30), (31, x31)], h⟩
theorem tr_8_19 : XX.trim 8 19 = some ([1, 6, 7, 54, 55], []) := nr (by kernel_rfl)
theorem trim_8_19 (d : AV) (l : List (Nat × AV)) (h : List Blk) (n : Nat) : trimA XX 8 19 n ⟨mkT 80 d l, h⟩ = gcK n (mkT 80 .junk [(1, lk d l 1), (6, lk d l 6), (7, lk d l 7), (54, lk d l 54), (55, lk d l 55)]) h := (trimA_keep tr_8_19 n _ h).trans (by rw [keep_mkT]; kernel_rfl)
abbrev S_8_19 (x1 x6 x7 x54 x55 : AV) (h : List Blk) : St := ⟨mkT 80 .junk [(1, x1), (6, x6), (7, x7), (54, x54), (55, x55)], h⟩
theorem mode_45 : XX.mode 45 = .pure := nr (by kernel_rfl)
theorem fns_45 : XX.fns.contains 45 = true := nr (by kernel_rfl)
theorem res_45 : Go.Proofs.Tryz.f45.results.toList = [.tmp 2] := nr rfl
theorem tr_45_4 : XX.trim 45 4 = some ([0, 3], []) := nr (by kernel_rfl)
theorem trim_45_4 (d : AV) (l : List (Nat × AV)) (h : List Blk) (n : Nat) : trimA XX 45 4 n ⟨mkT 66 d l, h⟩ = gcK n (mkT 66 .junk [(0, lk d l 0), (3, lk d l 3)]) h := (trimA_keep tr_45_4 n _ h).trans (by rw [keep_mkT]; kernel_rfl)
abbrev S_45_4 (x0 x3 : AV) (h : List Blk) : St := ⟨mkT 66 .junk [(0, x0), (3, x3)], h⟩
attribute [go_sem] res_8 live_8 own_8 trim_8_8 trim_8_12 trim_8_19 mode_45 res_45 trim_45_4
theorem o_str (k : Nat) : Opens Tryz.prog k 9 eS (fun s => s.size ≤ 140737488355328) :=
  (Opens.string k Tryz.underlying9).map id (fun _ => rfl) (fun s h => by rw [reach_s] at h; simp only [id]; omega)
theorem o_int (k : Nat) : Opens Tryz.prog k 3 (fun n : Int => [vI n]) (fun n => (Lit.int .i64 n).wf = true) := Opens.int k Tryz.underlying3
theorem returns_both {H : Type} {enc : TypeId × Value → H} {a : Assume} {C : Checked} {os : Os} {f : FuncId} {fn : Func} {s : ChangeSpec} {conds : List PathCond} {apart fresh handsOn again : Bool} {X : World → Array Value → Prop}
    (hX : ∀ (w w' : World) (args : Array Value), w.heap = w'.heap → X w args → X w' args)
    (own : ownKnob C.prog.godebug = none) (started : os.Started) (noInit : C.prog.inits.idxOf? f = none) (hfn : C.prog.funcs[f]? = some fn)
    (witness : ∃ (w : World) (tape : Tape) (i : Input), w.os = os ∧ (w.forCall tape i).Shaped C.prog ∧ i.vars = [] ∧ Input.okWide C.prog (w.forCall tape i) .any w.heap.size f i ∧
      ((s.pre enc C.prog fn conds apart (w.forCall tape i).memory i.args ∧ X (w.forCall tape i).memory i.args) ∧ sizedMet enc C.prog fn (OpenSpec.ofChange s) apart (w.forCall tape i).memory i.args) ∧ a.holds C.prog (lone (Frame.enter C.prog f i.args .normal) [] (w.forCall tape i)))
    (contract : ∀ (W : World) (base : Nat) (args : Array Value) (ds gs : List (DataW H)) (before : List MemPlace),
      (∀ (j : Nat) t v, fn.params[j]? = some t → args[j]? = some v → Value.okWide C.prog W .any base t v) →
      DataW.Whole enc C.prog fn.params.toList s.vars apart W args.toList ds gs before →
      conds.all (PathCond.test C.prog ⟨fn.params.toList, ds, s.plain.varTypes C.prog, gs⟩) = true →
      (DataW.weightsEach C.prog (fn.params.toList ++ s.plain.varTypes C.prog) (ds ++ gs)).all (· ≤ reachBytes) = true → X W args → W.ShapedOpen C.prog →
      a.holds C.prog (lone (Frame.enter C.prog f args .normal) [] W) →
      Calls C.prog f args W fun e W' => ∃ v, e = .returned v ∧ s.post enc C.prog fn apart fresh handsOn again W args v W') :
    ReturnsInHanded a C os f .any (fun w args => (s.pre enc C.prog fn conds apart w args ∧ X w args) ∧ sizedMet enc C.prog fn (OpenSpec.ofChange s) apart w args) (s.post enc C.prog fn apart fresh handsOn again) := by
  refine returnsInHanded_of_calls own started noInit witness ?_
  intro w tape i _ hsh _ hok hpre hholds
  obtain ⟨_, _, _, fn', hfn', _, _, _, _, hval⟩ := hok
  have e : fn' = fn := Option.some.inj (hfn'.symm.trans hfn)
  subst e
  obtain ⟨⟨⟨ds, gs, before, hw, hc⟩, hx⟩, hz⟩ := hpre
  have hw' := DataW.Whole.of_heap (w' := w.forCall tape i) (by rfl) hw
  refine (contract (w.forCall tape i) w.heap.size i.args ds gs before hval hw' hc (hz.weights hw) (hX _ _ _ (by rfl) hx) hsh hholds).mono fun e W' ⟨v, he, hp⟩ => ?_
  subst he
  exact ChangeSpec.post_blind hp
end Go.Abs.SA
end
section
namespace Go.Abs.SA
open Go.Proofs
theorem refNameX (s : Str) (hs : s.size ≤ 140737488355328) : pureW XX 45 [vS s] = some (vB (okNm (lS8 s))) := by
  rw [okNm_iff]
  refine pureW_in 66 Tryz.func45 Tryz.ntmps45 (by simp) (rfl : Tryz.f45.body = some _) fns_45 ?_
  by_cases h1 : s.size < 1
  · have e1 : ((s.size : Int) < 1) = True := eq_true (by omega)
    simp (maxSteps := 200000) (disch := first | omega | (simp only [go_sem, Nat.reduceAdd, Nat.reduceSub, Nat.reduceMul, Nat.reduceLeDiff, Nat.reduceEqDiff, Nat.reduceLT, Nat.reduceBEq, Nat.reduceBNe, Nat.reducePow, ↓reduceIte] <;> omega) | fail) only [go_sem, Nat.reduceAdd, Nat.reduceSub, Nat.reduceMul, Nat.reduceLeDiff, Nat.reduceEqDiff, Nat.reduceLT, Nat.reduceBEq, Nat.reduceBNe, Nat.reducePow, ↓reduceIte, nat_int, e1]
    have : ¬ s.size ≠ 0 := by omega
    simp [this]
  have e1 : ((s.size : Int) < 1) = False := eq_false (by omega)
  by_cases h2 : 32 < s.size
  · have e2 : ((32 : Int) < (s.size : Int)) = True := eq_true (by omega)
    simp (maxSteps := 200000) (disch := first | omega | (simp only [go_sem, Nat.reduceAdd, Nat.reduceSub, Nat.reduceMul, Nat.reduceLeDiff, Nat.reduceEqDiff, Nat.reduceLT, Nat.reduceBEq, Nat.reduceBNe, Nat.reducePow, ↓reduceIte] <;> omega) | fail) only [go_sem, Nat.reduceAdd, Nat.reduceSub, Nat.reduceMul, Nat.reduceLeDiff, Nat.reduceEqDiff, Nat.reduceLT, Nat.reduceBEq, Nat.reduceBNe, Nat.reducePow, ↓reduceIte, nat_int, e1, e2]
    have : ¬ s.size ≤ 32 := by omega
    simp [this]
  have e2 : ((32 : Int) < (s.size : Int)) = False := eq_false (by omega)
  simp (maxSteps := 200000) (disch := first | omega | (simp only [go_sem, Nat.reduceAdd, Nat.reduceSub, Nat.reduceMul, Nat.reduceLeDiff, Nat.reduceEqDiff, Nat.reduceLT, Nat.reduceBEq, Nat.reduceBNe, Nat.reducePow, ↓reduceIte] <;> omega) | fail) only [go_sem, Nat.reduceAdd, Nat.reduceSub, Nat.reduceMul, Nat.reduceLeDiff, Nat.reduceEqDiff, Nat.reduceLT, Nat.reduceBEq, Nat.reduceBNe, Nat.reducePow, ↓reduceIte, nat_int, e1, e2]
  refine WP_range 4 0 s.size (fun i => S_45_4 (vS s) (vI i) []) (fun i => ∀ j, j < i → okC j (byteAt s j)) rfl rfl ?_ ?_ ?_ ?_
  · simp (maxSteps := 200000) (disch := first | omega | (simp only [go_sem, Nat.reduceAdd, Nat.reduceSub, Nat.reduceMul, Nat.reduceLeDiff, Nat.reduceEqDiff, Nat.reduceLT, Nat.reduceBEq, Nat.reduceBNe, Nat.reducePow, ↓reduceIte] <;> omega) | fail) only [go_sem, Nat.reduceAdd, Nat.reduceSub, Nat.reduceMul, Nat.reduceLeDiff, Nat.reduceEqDiff, Nat.reduceLT, Nat.reduceBEq, Nat.reduceBNe, Nat.reducePow, ↓reduceIte]; rfl
  · intro j hj; exact absurd hj (Nat.not_lt_zero _)
  · intro i h hall
    have hle : i < s.size := h
    have bad : ¬ okC i (byteAt s i) → decide ((∀ j, j < s.size → okC j (byteAt s j)) ∧ s.size ≠ 0 ∧ s.size ≤ 32) = false := by
      intro hb
      simp only [decide_eq_false_iff_not]
      rintro ⟨h1, _⟩
      exact hb (h1 i h)
    have good : okC i (byteAt s i) → ∀ j, j < i + 1 → okC j (byteAt s j) := by
      intro hg j hj
      rcases Nat.lt_succ_iff_lt_or_eq.1 hj with h | rfl
      · exact hall j h
      · exact hg
    have hw := wrap_succ h (show s.size ≤ 140737488355328 from hs)
    obtain ⟨c, hc⟩ : ∃ c, byteAt s i = c := ⟨_, rfl⟩
    rw [hc] at bad good
    have p0 : (i : Int) = 0 ∨ (i : Int) ≠ 0 := by omega
    have tri : c < 45 ∨ c = 45 ∨ c = 46 ∨ c = 47 ∨ (48 ≤ c ∧ c ≤ 57) ∨ (58 ≤ c ∧ c ≤ 64) ∨ (65 ≤ c ∧ c ≤ 90) ∨ (91 ≤ c ∧ c ≤ 94) ∨ c = 95 ∨ c = 96 ∨ (97 ≤ c ∧ c ≤ 122) ∨ 123 ≤ c := by omega
    rcases p0 with p0 | p0 <;> rcases tri with t | t | t | t | t | t | t | t | t | t | t | t <;> (
      first | have e1 : (97 ≤ c) = True := eq_true (by omega) | have e1 : (97 ≤ c) = False := eq_false (by omega)
      first | have e2 : (c ≤ 122) = True := eq_true (by omega) | have e2 : (c ≤ 122) = False := eq_false (by omega)
      first | have e3 : (65 ≤ c) = True := eq_true (by omega) | have e3 : (65 ≤ c) = False := eq_false (by omega)
      first | have e4 : (c ≤ 90) = True := eq_true (by omega) | have e4 : (c ≤ 90) = False := eq_false (by omega)
      first | have e5 : (c = 95) = True := eq_true (by omega) | have e5 : (c = 95) = False := eq_false (by omega)
      first | have e6 : (48 ≤ c) = True := eq_true (by omega) | have e6 : (48 ≤ c) = False := eq_false (by omega)
      first | have e7 : (c ≤ 57) = True := eq_true (by omega) | have e7 : (c ≤ 57) = False := eq_false (by omega)
      first | have e8 : (c = 45) = True := eq_true (by omega) | have e8 : (c = 45) = False := eq_false (by omega)
      first | have e9 : (c = 46) = True := eq_true (by omega) | have e9 : (c = 46) = False := eq_false (by omega)
      first | have e0 : ((i : Int) = 0) = True := eq_true (by omega) | have e0 : ((i : Int) = 0) = False := eq_false (by omega)
      simp (maxSteps := 200000) (disch := first | omega | (simp only [go_sem, Nat.reduceAdd, Nat.reduceSub, Nat.reduceMul, Nat.reduceLeDiff, Nat.reduceEqDiff, Nat.reduceLT, Nat.reduceBEq, Nat.reduceBNe, Nat.reducePow, ↓reduceIte] <;> omega) | fail) only [go_sem, Nat.reduceAdd, Nat.reduceSub, Nat.reduceMul, Nat.reduceLeDiff, Nat.reduceEqDiff, Nat.reduceLT, Nat.reduceBEq, Nat.reduceBNe, Nat.reducePow, ↓reduceIte, nat_int, h, hle, hc, hw, e1, e2, e3, e4, e5, e6, e7, e8, e9, e0]
      first
      | exact good (by omega)
      | (rw [bad (by omega)]))
  · intro hI
    simp (maxSteps := 200000) (disch := first | omega | (simp only [go_sem, Nat.reduceAdd, Nat.reduceSub, Nat.reduceMul, Nat.reduceLeDiff, Nat.reduceEqDiff, Nat.reduceLT, Nat.reduceBEq, Nat.reduceBNe, Nat.reducePow, ↓reduceIte] <;> omega) | fail) only [go_sem, Nat.reduceAdd, Nat.reduceSub, Nat.reduceMul, Nat.reduceLeDiff, Nat.reduceEqDiff, Nat.reduceLT, Nat.reduceBEq, Nat.reduceBNe, Nat.reducePow, ↓reduceIte, nat_int, Nat.lt_irrefl]
    have h3 : s.size ≠ 0 := by omega
    have h4 : s.size ≤ 32 := by omega
    simp [h3, h4]
    exact hI
end Go.Abs.SA
end
section
namespace Go.Abs.SA
open Go.Proofs
def opB (nm : B8) : Nat → B8
  | 0 => []
  | n + 1 => 60 :: (nm ++ 62 :: opB nm n)
def clB2 (nm : B8) : Nat → B8
  | 0 => []
  | n + 1 => 60 :: 47 :: (nm ++ 62 :: clB2 nm n)
def nestE (nm : B8) : Nat → Elem
  | 0 => .mk ⟨#[]⟩ (mkS nm) [] ⟨#[]⟩ []
  | n + 1 => .mk ⟨#[]⟩ (mkS nm) [] ⟨#[]⟩ [nestE nm n]
theorem okNm_chars {nm : B8} (h : okNm nm = true) : ∀ c ∈ nm, stpB c = false ∧ c ≠ 58 ∧ c ≠ 60 ∧ c ≠ 47 ∧ c ≠ 33 ∧ c ≠ 63 ∧ clB c = true := by
  have key : ∀ c : UInt8, (letB c || moreB c) = true → stpB c = false ∧ c ≠ 58 ∧ c ≠ 60 ∧ c ≠ 47 ∧ c ≠ 33 ∧ c ≠ 63 ∧ clB c = true := by
    have : ∀ n : _root_.Fin 256, (letB (UInt8.ofNat n.val) || moreB (UInt8.ofNat n.val)) = true → (stpB (UInt8.ofNat n.val) = false ∧ UInt8.ofNat n.val ≠ 58 ∧ UInt8.ofNat n.val ≠ 60 ∧ UInt8.ofNat n.val ≠ 47 ∧ UInt8.ofNat n.val ≠ 33 ∧ UInt8.ofNat n.val ≠ 63 ∧ clB (UInt8.ofNat n.val) = true) := by decide +kernel
    intro c hc
    have h2 := this ⟨c.toNat, c.toNat_lt⟩
    simp only [UInt8.ofNat_toNat] at h2
    exact h2 hc
  cases nm with
  | nil => intro c hc; cases hc
  | cons a r =>
    simp only [okNm, Bool.and_eq_true, List.all_eq_true] at h
    intro c hc
    rcases List.mem_cons.1 hc with rfl | hc
    · exact key c (by simp [h.1.1])
    · exact key c (h.1.2 c hc)
theorem okNm_ne {nm : B8} (h : okNm nm = true) : nm ≠ [] := by rintro rfl; cases h
theorem takeW {p : UInt8 → Bool} {nm : B8} {x : UInt8} {r : B8} (h : ∀ c ∈ nm, p c = true) (hx : p x = false) : (nm ++ x :: r).takeWhile p = nm ∧ (nm ++ x :: r).dropWhile p = x :: r := by
  induction nm with
  | nil => simp [hx]
  | cons a t ih =>
    have h1 := h a (by simp)
    have := ih (fun c hc => h c (by simp [hc]))
    simp [h1, this]
theorem idx_no {nm : B8} (h : ∀ c ∈ nm, c ≠ 58) : Lib.index nm [58] = -1 := by
  induction nm with
  | nil => rfl
  | cons a t ih =>
    have h1 := h a (by simp)
    have := ih (fun c hc => h c (by simp [hc]))
    rw [Lib.index]
    have h2 : Lib.hasPrefix (a :: t) [58] = false := by
      have h3 := Ne.symm h1
      simpa [Lib.hasPrefix, List.isPrefixOf] using h3
    simp [h2, this]
    exact fun e => h1 e.symm
theorem nmM_ok {nm : B8} (h : okNm nm = true) : nmM nm = ([], nm, true) := by
  have hi := idx_no (nm := nm) (fun c hc => (okNm_chars h c hc).2.1)
  unfold nmM Lib.cut
  rw [hi]
  simp [h]
theorem attM_end (n : Nat) (r : B8) : attM (n + 1) [] (62 :: r) = (some [], 62 :: r) := by
  rw [attM]
  have : (62 :: r : B8).dropWhile blkB = 62 :: r := by
    rw [List.dropWhile_cons, if_neg (by decide)]
  rw [this]; simp
theorem plM_nil : plM 1 [] [] = ([], true) := by kernel_rfl
theorem trimS_nil : Lib.trimS [] [32, 9, 13, 10] = [] := by kernel_rfl
theorem idx60 (r : B8) : Lib.indexByte (60 :: r) 60 = 0 := by rw [Lib.indexByte]; simp
def backF (nm : B8) : (Int × B8 × List Elem) × B8 → (Int × Elem) × B8
  | ((e, t, ks), q2) =>
    if e ≠ 0 then ((e, E0), q2)
    else if Lib.hasPrefix q2 nm then
      if Lib.hasPrefix ((q2.drop nm.length).dropWhile blkB) [62] then ((0, .mk (mkS []) (mkS nm) [] (mkS t) ks), ((q2.drop nm.length).dropWhile blkB).drop 1)
      else ((3, E0), (q2.drop nm.length).dropWhile blkB)
    else ((3, E0), q2)
theorem elem_step {nm : B8} (h : okNm nm = true) (f : Nat) (d : Int) (hd : ¬ 16 < d) (r : B8) :
    elemM (f + 1) [] d (60 :: (nm ++ 62 :: r)) = backF nm (insM f [] d [] false [] r) := by
  have ht := takeW (p := fun c => !stpB c) (nm := nm) (x := 62) (r := r) (fun c hc => by simp [(okNm_chars h c hc).1]) (by decide)
  rw [elemM]
  rw [if_pos (by simp [Lib.hasPrefix, List.isPrefixOf]), if_neg hd]
  simp only [List.drop_succ_cons, List.drop_zero, ht.1, ht.2, nmM_ok h, if_true, List.length_cons, attM_end, scpM, findM, decide_true, pickM]
  rw [if_neg (by simp [Lib.hasPrefix, List.isPrefixOf]), if_pos (by simp [Lib.hasPrefix, List.isPrefixOf])]
  rfl
theorem ins_end (f : Nat) (d : Int) (ks : List Elem) (r : B8) : insM (f + 1) [] d ks false [] (60 :: 47 :: r) = ((0, [], ks), r) := by
  rw [insM]
  simp only [idx60, Int.toNat_zero, List.take_zero, List.length_nil, Nat.zero_add, plM_nil, List.drop_zero, List.append_nil, trimS_nil, ne_eq, not_true, decide_false, Bool.or_false]
  rw [if_neg (by decide)]
  rw [if_pos (by trivial), if_pos (by simp [Lib.hasPrefix, List.isPrefixOf])]
  simp
theorem ins_kid {nm : B8} (h : okNm nm = true) (f : Nat) (d : Int) (r : B8) : insM (f + 1) [] d [] false [] (60 :: (nm ++ r)) = (match elemM f [] (d + 1) (60 :: (nm ++ r)) with
    | ((e, x), q) => if e ≠ 0 then ((e, [], []), q) else insM f [] d [x] false [] q) := by
  obtain ⟨a, t, rfl⟩ : ∃ a t, nm = a :: t := by cases nm with
    | nil => exact absurd rfl (okNm_ne h)
    | cons a t => exact ⟨a, t, rfl⟩
  have hc := okNm_chars h a (by simp)
  rw [insM]
  simp only [idx60, Int.toNat_zero, List.take_zero, List.length_nil, Nat.zero_add, plM_nil, List.drop_zero, List.append_nil, trimS_nil, ne_eq, not_true, decide_false, Bool.or_false]
  rw [if_neg (by decide)]
  rw [if_pos (by trivial), if_neg (by simp [Lib.hasPrefix, List.isPrefixOf, Ne.symm hc.2.2.2.1]), if_neg (by simp [Lib.hasPrefix, List.isPrefixOf, Ne.symm hc.2.2.2.2.1]), if_neg (by simp [Lib.hasPrefix, List.isPrefixOf, Ne.symm hc.2.2.2.2.1])]
  simp
theorem back_ok (nm r : B8) (ks : List Elem) : backF nm ((0, [], ks), nm ++ 62 :: r) = ((0, .mk (mkS []) (mkS nm) [] (mkS []) ks), r) := by
  have h1 : Lib.hasPrefix (nm ++ 62 :: r) nm = true := by
    unfold Lib.hasPrefix; rw [List.isPrefixOf_iff_prefix]; exact List.prefix_append _ _
  have h2 : (62 :: r : B8).dropWhile blkB = 62 :: r := by rw [List.dropWhile_cons, if_neg (by decide)]
  unfold backF
  simp only [ne_eq, not_true, if_false, h1, if_true, List.drop_left, h2]
  rw [if_pos (by simp [Lib.hasPrefix, List.isPrefixOf])]
  simp
theorem clB2_app (nm : B8) : ∀ (n : Nat) (r : B8), clB2 nm (n + 1) ++ r = clB2 nm n ++ 60 :: 47 :: (nm ++ 62 :: r)
  | 0, r => by simp [clB2]
  | n + 1, r => by
    rw [clB2]
    simp only [List.cons_append, List.append_assoc]
    rw [clB2_app nm n r]
    conv => rhs; rw [clB2]
    simp
theorem deep_ok {nm : B8} (h : okNm nm = true) : ∀ (n f : Nat) (d : Int) (r : B8), d + n ≤ 16 → 2 * n + 2 ≤ f → elemM f [] d (opB nm (n + 1) ++ clB2 nm (n + 1) ++ r) = ((0, nestE nm n), r) := by
  intro n
  induction n with
  | zero =>
    intro f d r hd hf
    obtain ⟨f, rfl⟩ : ∃ k, f = k + 2 := ⟨f - 2, by omega⟩
    simp only [opB, clB2, List.cons_append, List.append_assoc, List.nil_append]
    rw [elem_step h _ _ (by omega), ins_end, back_ok]
    rfl
  | succ n ih =>
    intro f d r hd hf
    obtain ⟨f, rfl⟩ : ∃ k, f = k + 3 := ⟨f - 3, by omega⟩
    rw [opB]
    simp only [List.cons_append, List.append_assoc]
    rw [elem_step h _ _ (by omega), clB2_app, opB]
    simp only [List.cons_append, List.append_assoc]
    rw [ins_kid h]
    have e := ih (f + 1) (d + 1) (60 :: 47 :: (nm ++ 62 :: r)) (by omega) (by omega)
    rw [opB] at e
    simp only [List.cons_append, List.append_assoc] at e
    rw [e]
    simp only [ne_eq, not_true, if_false]
    rw [ins_end, back_ok]
    rfl
theorem deep_no {nm : B8} (h : okNm nm = true) : ∀ (n f : Nat) (d : Int) (r : B8), 16 < d + n → d ≤ 17 → 2 * n + 2 ≤ f → ∃ q, elemM f [] d (opB nm (n + 1) ++ r) = ((10, E0), q) := by
  intro n
  induction n with
  | zero =>
    intro f d r hd hd2 hf
    obtain ⟨f, rfl⟩ : ∃ k, f = k + 1 := ⟨f - 1, by omega⟩
    rw [opB]
    simp only [List.cons_append]
    rw [elemM, if_pos (by simp [Lib.hasPrefix, List.isPrefixOf]), if_pos (by omega)]
    exact ⟨_, rfl⟩
  | succ n ih =>
    intro f d r hd hd2 hf
    obtain ⟨f, rfl⟩ : ∃ k, f = k + 3 := ⟨f - 3, by omega⟩
    by_cases h16 : 16 < d
    · rw [opB]
      simp only [List.cons_append]
      rw [elemM, if_pos (by simp [Lib.hasPrefix, List.isPrefixOf]), if_pos h16]
      exact ⟨_, rfl⟩
    · rw [opB]
      simp only [List.cons_append, List.append_assoc]
      rw [elem_step h _ _ h16, opB]
      simp only [List.cons_append, List.append_assoc]
      rw [ins_kid h]
      obtain ⟨q, e⟩ := ih (f + 1) (d + 1) r (by omega) (by omega) (by omega)
      rw [opB] at e
      simp only [List.cons_append, List.append_assoc] at e
      rw [e]
      exact ⟨q, by simp [backF]⟩
end Go.Abs.SA
end
section
namespace Go.Abs.SA
open Go.Proofs
theorem opB_app (nm : B8) : ∀ (n : Nat) , opB nm (n + 1) = opB nm n ++ 60 :: (nm ++ [62])
  | 0 => by simp [opB]
  | n + 1 => by
    conv => lhs; rw [opB, opB_app nm n]
    conv => rhs; rw [opB]
    simp
theorem clB2_app' (nm : B8) (n : Nat) : clB2 nm (n + 1) = clB2 nm n ++ 60 :: 47 :: (nm ++ [62]) := by
  have := clB2_app nm n []
  simpa using this
theorem opB_len (nm : B8) : ∀ n : Nat, (opB nm n).length = n * (nm.length + 2)
  | 0 => by simp [opB]
  | n + 1 => by simp only [opB, List.length_cons, List.length_append, opB_len nm n, Nat.succ_mul]; omega
theorem clB2_len (nm : B8) : ∀ n : Nat, (clB2 nm n).length = n * (nm.length + 3)
  | 0 => by simp [clB2]
  | n + 1 => by simp only [clB2, List.length_cons, List.length_append, clB2_len nm n, Nat.succ_mul]; omega
theorem opB_all {nm : B8} (h : okNm nm = true) : ∀ n : Nat, (opB nm n).all clB = true
  | 0 => rfl
  | n + 1 => by
    have h1 : nm.all clB = true := List.all_eq_true.2 fun c hc => (okNm_chars h c hc).2.2.2.2.2.2
    simp only [opB, List.all_cons, List.all_append, opB_all h n, h1, Bool.true_and, Bool.and_true]
    decide
theorem clB2_all {nm : B8} (h : okNm nm = true) : ∀ n : Nat, (clB2 nm n).all clB = true
  | 0 => rfl
  | n + 1 => by
    have h1 : nm.all clB = true := List.all_eq_true.2 fun c hc => (okNm_chars h c hc).2.2.2.2.2.2
    simp only [clB2, List.all_cons, List.all_append, clB2_all h n, h1, Bool.true_and, Bool.and_true]
    decide
theorem okNm_len {nm : B8} (h : okNm nm = true) : nm.length ≤ 32 := by
  cases nm with
  | nil => simp
  | cons a r =>
    simp only [okNm, Bool.and_eq_true, decide_eq_true_eq] at h
    simp only [List.length_cons]; omega
theorem parse_deep {nm : B8} (h : okNm nm = true) (m : Nat) (hm : m ≤ 24) : parseM (mkS (opB nm (m + 1) ++ clB2 nm (m + 1))) = if m < 16 then (0, nestE nm m) else (10, E0) := by
  have hl := okNm_len h
  have h1 := opB_len nm (m + 1)
  have h2 := clB2_len nm (m + 1)
  have hb1 : (m + 1) * (nm.length + 2) ≤ 25 * 34 := Nat.mul_le_mul (by omega) (by omega)
  have hb2 : (m + 1) * (nm.length + 3) ≤ 25 * 35 := Nat.mul_le_mul (by omega) (by omega)
  have hb3 : (m + 1) * 2 ≤ (m + 1) * (nm.length + 2) := Nat.mul_le_mul_left _ (by omega)
  obtain ⟨a, t, rfl⟩ : ∃ a t, nm = a :: t := by cases nm with
    | nil => exact absurd rfl (okNm_ne h)
    | cons a t => exact ⟨a, t, rfl⟩
  have hc := okNm_chars h a (by simp)
  rw [parseM_s, if_neg (by rw [mk_size, List.length_append]; omega), lS8_mk, if_pos (by rw [List.all_append, opB_all h, clB2_all h]; rfl)]
  have hr : ∃ w, opB (a :: t) (m + 1) ++ clB2 (a :: t) (m + 1) = 60 :: a :: w := ⟨_, by rw [opB]; rfl⟩
  have hlen : (opB (a :: t) (m + 1) ++ clB2 (a :: t) (m + 1)).length = (m + 1) * ((a :: t).length + 2) + (m + 1) * ((a :: t).length + 3) := by rw [List.length_append, h1, h2]
  have hok := deep_ok h m
  have hno := deep_no h m
  obtain ⟨s, hs⟩ : ∃ s, opB (a :: t) (m + 1) ++ clB2 (a :: t) (m + 1) = s := ⟨_, rfl⟩
  rw [hs] at hlen hr
  obtain ⟨w, hw⟩ := hr
  have hhead : headM (mkS (opB (a :: t) (m + 1) ++ clB2 (a :: t) (m + 1))) = some s := by
    unfold headM
    rw [lS8_mk, hs, if_neg]
    rw [hw]
    simp [Lib.hasPrefix, List.isPrefixOf, Ne.symm hc.2.2.2.2.2.1]
  rw [hhead]
  have hcom : comM (s.length + 1) s = (true, s) := by
    rw [comM]
    have : s.dropWhile blkB = s := by rw [hw, List.dropWhile_cons, if_neg (by decide)]
    rw [this, if_neg]
    rw [hw]
    simp [Lib.hasPrefix, List.isPrefixOf, Ne.symm hc.2.2.2.2.1]
  unfold parseR
  simp only [hcom]
  by_cases hm16 : m < 16
  · have e := hok (2 * s.length + 2) 1 [] (by omega) (by omega)
    rw [List.append_nil, hs] at e
    rw [if_pos hm16]
    simp only [e]
    rfl
  · obtain ⟨q, e⟩ := hno (2 * s.length + 2) 1 (clB2 (a :: t) (m + 1)) (by omega) (by omega) (by omega)
    rw [hs] at e
    rw [if_neg hm16]
    simp only [e]
    rfl
end Go.Abs.SA
end
section
namespace Go.Abs.SA
open Go.Proofs
instance smO {nm : B8} {n : Nat} [h : Sm 32 nm] : Sm (n * 34) (opB nm n) := ⟨by rw [opB_len]; exact Nat.mul_le_mul_left _ (by have := h.h; omega)⟩
theorem nest_s (nm : B8) (n : Nat) : eElem (nestE nm n) = [vS ⟨#[]⟩, vS (mkS nm), .fs [] false, vS ⟨#[]⟩, .fs ((nestE nm n).kids.map eElem) false] := by
  cases n <;> rw [eElem_s] <;> rfl
theorem nest_succ (nm : B8) (k : Nat) : eElem (nestE nm (k + 1)) = [vS ⟨#[]⟩, vS (mkS nm), .fs [] false, vS ⟨#[]⟩, .fs [eElem (nestE nm k)] false] := by
  rw [eElem_s]; rfl
theorem nest_zero (nm : B8) : eElem (nestE nm 0) = [vS ⟨#[]⟩, vS (mkS nm), .fs [] false, vS ⟨#[]⟩, .fs [] false] := by
  rw [eElem_s]; rfl
theorem xmlDeep_law (n : Int) (name : Str) (hs : name.size ≤ 140737488355328) (hn : (Lit.int .i64 n).wf = true) : pureW XX 8 [vI n, vS name] = some (vB true) := by
  obtain ⟨nm, rfl⟩ : ∃ l, name = mkS l := ⟨lS8 name, (mk_lS8 _).symm⟩
  have h1 := refNameX (mkS nm) hs
  have h2 := name_spec (mkS nm) hs
  rw [lS8_mk] at h1 h2
  obtain ⟨m, hm⟩ : ∃ m : Nat, (Int.tmod (Int.tmod n 25 + 25) 25) = (m : Int) ∧ m ≤ 24 := by
    have a1 := Int.lt_tmod_of_pos n (show (0 : Int) < 25 by decide)
    have a2 := Int.tmod_lt_of_pos n (show (0 : Int) < 25 by decide)
    have a3 := Int.tmod_nonneg 25 (show 0 ≤ Int.tmod n 25 + 25 by omega)
    have a4 := Int.tmod_lt_of_pos (Int.tmod n 25 + 25) (show (0 : Int) < 25 by decide)
    exact ⟨(Int.tmod (Int.tmod n 25 + 25) 25).toNat, by omega, by omega⟩
  obtain ⟨hm, hm24⟩ := hm
  have a1 := Int.lt_tmod_of_pos n (show (0 : Int) < 25 by decide)
  have a2 := Int.tmod_lt_of_pos n (show (0 : Int) < 25 by decide)
  have e1 : IntKind.i64.wrap (Int.tmod n 25) = Int.tmod n 25 := IntWalk.i64_in _ (by omega)
  have e2 : IntKind.i64.wrap (Int.tmod n 25 + 25) = Int.tmod n 25 + 25 := IntWalk.i64_in _ (by omega)
  have e3 : IntKind.i64.wrap ((m : Nat) : Int) = ((m : Nat) : Int) := IntWalk.i64_in _ (by omega)
  have e4 : IntKind.i64.wrap (((m : Nat) : Int) + 1) = ((m + 1 : Nat) : Int) := by rw [IntWalk.i64_in _ (by omega)]; omega
  by_cases hk : okNm nm = true
  · rw [hk] at h1 h2
    have hl := okNm_len hk
    have hp := parse_spec (mkS (opB nm (m + 1) ++ clB2 nm (m + 1))) (by
      rw [mk_size, List.length_append, opB_len, clB2_len]
      have hb1 : (m + 1) * (nm.length + 2) ≤ 25 * 34 := Nat.mul_le_mul (by omega) (by omega)
      have hb2 : (m + 1) * (nm.length + 3) ≤ 25 * 35 := Nat.mul_le_mul (by omega) (by omega)
      omega)
    rw [parse_deep hk m hm24] at hp
    refine pureW_in 80 Tryz.func8 Tryz.ntmps8 (by simp) (rfl : Tryz.f8.body = some _) fns_8 ?_
    simp (maxSteps := 200000) (disch := first | omega | (simp only [go_sem, Nat.reduceAdd, Nat.reduceSub, Nat.reduceMul, Nat.reduceLeDiff, Nat.reduceEqDiff, Nat.reduceLT, Nat.reduceBEq, Nat.reduceBNe, Nat.reducePow, ↓reduceIte] <;> omega) | fail) only [go_sem, Nat.reduceAdd, Nat.reduceSub, Nat.reduceMul, Nat.reduceLeDiff, Nat.reduceEqDiff, Nat.reduceLT, Nat.reduceBEq, Nat.reduceBNe, Nat.reducePow, ↓reduceIte, nat_int, callA_pure mode_41, fit13_spec, callA_pure mode_45, h1, callA_pure mode_46, h2, e1, e2, hm, e3, e4]
    haveI : Sm 32 nm := ⟨hl⟩
    refine WP_range 8 0 (m + 1) (fun i => S_8_8 (vI (m + 1 : Nat)) (vS (mkS nm)) (vS (mkS (opB nm i))) (vI (m + 1 : Nat)) (vI i) []) (fun _ => True) rfl rfl ?_ ?_ ?_ ?_
    · simp (maxSteps := 200000) (disch := first | omega | (simp only [go_sem, Nat.reduceAdd, Nat.reduceSub, Nat.reduceMul, Nat.reduceLeDiff, Nat.reduceEqDiff, Nat.reduceLT, Nat.reduceBEq, Nat.reduceBNe, Nat.reducePow, ↓reduceIte] <;> omega) | fail) only [go_sem, Nat.reduceAdd, Nat.reduceSub, Nat.reduceMul, Nat.reduceLeDiff, Nat.reduceEqDiff, Nat.reduceLT, Nat.reduceBEq, Nat.reduceBNe, Nat.reducePow, ↓reduceIte, opB]; rfl
    · trivial
    · intro i h _
      have hws := wrap_succ h (show m + 1 ≤ 140737488355328 by omega)
      rw [opB_app]
      have hlo := opB_len nm i
      have hb1 : i * (nm.length + 2) ≤ 25 * 34 := Nat.mul_le_mul (by omega) (by omega)
      obtain ⟨p, hp⟩ : ∃ p, opB nm i = p := ⟨_, rfl⟩
      rw [hp] at hlo ⊢
      haveI : Sm 850 p := ⟨by omega⟩
      simp (maxSteps := 200000) (disch := first | omega | (simp only [go_sem, Nat.reduceAdd, Nat.reduceSub, Nat.reduceMul, Nat.reduceLeDiff, Nat.reduceEqDiff, Nat.reduceLT, Nat.reduceBEq, Nat.reduceBNe, Nat.reducePow, ↓reduceIte] <;> omega) | fail) only [go_sem, Nat.reduceAdd, Nat.reduceSub, Nat.reduceMul, Nat.reduceLeDiff, Nat.reduceEqDiff, Nat.reduceLT, Nat.reduceBEq, Nat.reduceBNe, Nat.reducePow, ↓reduceIte, nat_int, h, cat, hws]
      try rfl
    · intro _
      have hb1 : (m + 1) * (nm.length + 2) ≤ 25 * 34 := Nat.mul_le_mul (by omega) (by omega)
      have hlo := opB_len nm (m + 1)
      obtain ⟨O, hO⟩ : ∃ O, opB nm (m + 1) = O := ⟨_, rfl⟩
      rw [hO] at hlo hp ⊢
      haveI : Sm 850 O := ⟨by omega⟩
      simp (maxSteps := 200000) (disch := first | omega | (simp only [go_sem, Nat.reduceAdd, Nat.reduceSub, Nat.reduceMul, Nat.reduceLeDiff, Nat.reduceEqDiff, Nat.reduceLT, Nat.reduceBEq, Nat.reduceBNe, Nat.reducePow, ↓reduceIte] <;> omega) | fail) only [go_sem, Nat.reduceAdd, Nat.reduceSub, Nat.reduceMul, Nat.reduceLeDiff, Nat.reduceEqDiff, Nat.reduceLT, Nat.reduceBEq, Nat.reduceBNe, Nat.reducePow, ↓reduceIte, nat_int, Nat.lt_irrefl]
      refine WP_range 12 0 (m + 1) (fun i => S_8_12 (vI (m + 1 : Nat)) (vS (mkS nm)) (vS (mkS (O ++ clB2 nm i))) (vI (m + 1 : Nat)) (vI i) []) (fun _ => True) rfl rfl ?_ ?_ ?_ ?_
      · simp (maxSteps := 200000) (disch := first | omega | (simp only [go_sem, Nat.reduceAdd, Nat.reduceSub, Nat.reduceMul, Nat.reduceLeDiff, Nat.reduceEqDiff, Nat.reduceLT, Nat.reduceBEq, Nat.reduceBNe, Nat.reducePow, ↓reduceIte] <;> omega) | fail) only [go_sem, Nat.reduceAdd, Nat.reduceSub, Nat.reduceMul, Nat.reduceLeDiff, Nat.reduceEqDiff, Nat.reduceLT, Nat.reduceBEq, Nat.reduceBNe, Nat.reducePow, ↓reduceIte, clB2, List.append_nil]; rfl
      · trivial
      · intro i h _
        have hws := wrap_succ h (show m + 1 ≤ 140737488355328 by omega)
        rw [clB2_app', ← List.append_assoc]
        have hlo := clB2_len nm i
        have hb1 : i * (nm.length + 3) ≤ 25 * 35 := Nat.mul_le_mul (by omega) (by omega)
        obtain ⟨p, hp⟩ : ∃ p, clB2 nm i = p := ⟨_, rfl⟩
        rw [hp] at hlo ⊢
        haveI : Sm 875 p := ⟨by omega⟩
        simp (maxSteps := 200000) (disch := first | omega | (simp only [go_sem, Nat.reduceAdd, Nat.reduceSub, Nat.reduceMul, Nat.reduceLeDiff, Nat.reduceEqDiff, Nat.reduceLT, Nat.reduceBEq, Nat.reduceBNe, Nat.reducePow, ↓reduceIte] <;> omega) | fail) only [go_sem, Nat.reduceAdd, Nat.reduceSub, Nat.reduceMul, Nat.reduceLeDiff, Nat.reduceEqDiff, Nat.reduceLT, Nat.reduceBEq, Nat.reduceBNe, Nat.reducePow, ↓reduceIte, nat_int, h, cat, hws]
        try rfl
      · intro _
        by_cases hm16 : m < 16
        · have hgt : (16 < m + 1) = False := eq_false (by omega)
          have hgt2 : ((16 : Int) < ((m + 1 : Nat) : Int)) = False := eq_false (by omega)
          rw [if_pos hm16] at hp
          simp only at hp
          have e5 : IntKind.i64.wrap (((m + 1 : Nat) : Int) - 1) = ((m : Nat) : Int) := by rw [IntWalk.i64_in _ (by omega)]; omega
          have ze : ((0 : Int) = 0) = True := eq_true rfl
          have ze1 : (((1 : Nat) : Int) = 1) = True := eq_true rfl
          have ze0 : (((0 : Nat) : Int) = 0) = True := eq_true rfl
          simp (maxSteps := 200000) (disch := first | omega | (simp only [go_sem, Nat.reduceAdd, Nat.reduceSub, Nat.reduceMul, Nat.reduceLeDiff, Nat.reduceEqDiff, Nat.reduceLT, Nat.reduceBEq, Nat.reduceBNe, Nat.reducePow, ↓reduceIte] <;> omega) | fail) only [go_sem, Nat.reduceAdd, Nat.reduceSub, Nat.reduceMul, Nat.reduceLeDiff, Nat.reduceEqDiff, Nat.reduceLT, Nat.reduceBEq, Nat.reduceBNe, Nat.reducePow, ↓reduceIte, nat_int, Nat.lt_irrefl, callA_data mode_27, hp, hgt, hgt2, e5]
          refine WP_range 19 1 m (fun i => S_8_19 (vS (mkS nm)) (.ptr 0 0) (vI 0) (vI m) (vI i) [.var (eElem (nestE nm (m - i)))]) (fun _ => True) rfl rfl ?_ ?_ ?_ ?_
          · simp (maxSteps := 200000) (disch := first | omega | (simp only [go_sem, Nat.reduceAdd, Nat.reduceSub, Nat.reduceMul, Nat.reduceLeDiff, Nat.reduceEqDiff, Nat.reduceLT, Nat.reduceBEq, Nat.reduceBNe, Nat.reducePow, ↓reduceIte] <;> omega) | fail) only [go_sem, Nat.reduceAdd, Nat.reduceSub, Nat.reduceMul, Nat.reduceLeDiff, Nat.reduceEqDiff, Nat.reduceLT, Nat.reduceBEq, Nat.reduceBNe, Nat.reducePow, ↓reduceIte, Nat.sub_zero]; rfl
          · trivial
          · intro i h _
            have hws := wrap_succ h (show m ≤ 140737488355328 by omega)
            obtain ⟨k, hk1⟩ : ∃ k, m - i = k + 1 := ⟨m - i - 1, by omega⟩
            have hk2 : m - (i + 1) = k := by omega
            rw [hk1, hk2, nest_succ, nest_s nm k]
            simp (maxSteps := 200000) (disch := first | omega | (simp only [go_sem, Nat.reduceAdd, Nat.reduceSub, Nat.reduceMul, Nat.reduceLeDiff, Nat.reduceEqDiff, Nat.reduceLT, Nat.reduceBEq, Nat.reduceBNe, Nat.reducePow, ↓reduceIte] <;> omega) | fail) only [go_sem, Nat.reduceAdd, Nat.reduceSub, Nat.reduceMul, Nat.reduceLeDiff, Nat.reduceEqDiff, Nat.reduceLT, Nat.reduceBEq, Nat.reduceBNe, Nat.reducePow, ↓reduceIte, nat_int, h, ze1, ne_eq, not_true, idxE0, hws]
            try rfl
          · intro _
            rw [Nat.sub_self, nest_zero]
            simp (maxSteps := 200000) (disch := first | omega | (simp only [go_sem, Nat.reduceAdd, Nat.reduceSub, Nat.reduceMul, Nat.reduceLeDiff, Nat.reduceEqDiff, Nat.reduceLT, Nat.reduceBEq, Nat.reduceBNe, Nat.reducePow, ↓reduceIte] <;> omega) | fail) only [go_sem, Nat.reduceAdd, Nat.reduceSub, Nat.reduceMul, Nat.reduceLeDiff, Nat.reduceEqDiff, Nat.reduceLT, Nat.reduceBEq, Nat.reduceBNe, Nat.reducePow, ↓reduceIte, nat_int, Nat.lt_irrefl, ze, ze0]
        · have hgt : (16 < m + 1) = True := eq_true (by omega)
          have hgt2 : ((16 : Int) < ((m + 1 : Nat) : Int)) = True := eq_true (by omega)
          have ze : ((10 : Int) = 10) = True := eq_true rfl
          rw [if_neg hm16] at hp
          simp only at hp
          rw [eElem_s] at hp
          simp (maxSteps := 200000) (disch := first | omega | (simp only [go_sem, Nat.reduceAdd, Nat.reduceSub, Nat.reduceMul, Nat.reduceLeDiff, Nat.reduceEqDiff, Nat.reduceLT, Nat.reduceBEq, Nat.reduceBNe, Nat.reducePow, ↓reduceIte] <;> omega) | fail) only [go_sem, Nat.reduceAdd, Nat.reduceSub, Nat.reduceMul, Nat.reduceLeDiff, Nat.reduceEqDiff, Nat.reduceLT, Nat.reduceBEq, Nat.reduceBNe, Nat.reducePow, ↓reduceIte, nat_int, Nat.lt_irrefl, callA_data mode_27, hp, hgt, hgt2, ze, Elem.name, Elem.space, Elem.text, Elem.attrs, Elem.kids, List.map_nil]
  · rw [Bool.not_eq_true] at hk
    rw [hk] at h1 h2
    refine pureW_in 80 Tryz.func8 Tryz.ntmps8 (by simp) (rfl : Tryz.f8.body = some _) fns_8 ?_
    simp (maxSteps := 200000) (disch := first | omega | (simp only [go_sem, Nat.reduceAdd, Nat.reduceSub, Nat.reduceMul, Nat.reduceLeDiff, Nat.reduceEqDiff, Nat.reduceLT, Nat.reduceBEq, Nat.reduceBNe, Nat.reducePow, ↓reduceIte] <;> omega) | fail) only [go_sem, Nat.reduceAdd, Nat.reduceSub, Nat.reduceMul, Nat.reduceLeDiff, Nat.reduceEqDiff, Nat.reduceLT, Nat.reduceBEq, Nat.reduceBNe, Nat.reducePow, ↓reduceIte, nat_int, callA_pure mode_41, fit13_spec, callA_pure mode_45, h1, callA_pure mode_46, h2, e1, e2, hm, e3, e4]
end Go.Abs.SA
end
