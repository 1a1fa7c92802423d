/- YtmjhgjgfinhiaaaGreatDoorXs1: a part of the interpreter by which the claim is shown, and of the walks: no conditions of its own: every theorem states its own. -/
import Derived.Test.YtmjhgjgfinhiaaaGreatDoorXw3
import Derived.Test.YtmjhgjgfinhiaaaGreatDoorXl1
set_option linter.unusedVariables false
set_option linter.unusedSimpArgs false
set_option linter.unusedSectionVars false
set_option maxHeartbeats 8000000
set_option maxRecDepth 100000
section
namespace Go.Abs
section
variable {P : Program} {α β γ : Type} {H : Type} {e : TypeId × Value → H} {W : World} {v : Value} {d : DataW H} {ps : List MemPlace} {t : TypeId} {enc : α → List AV} {ok : α → Prop} {ts : List TypeId} {ds : List (DataW H)} {j : Nat}
theorem arg_one (ho : ∀ k, Opens P k t enc ok) (h : DataW.Trod e P W 0 (fun _ => true) true t v d ps) (hw : ∀ n ∈ d.weights P t, n ≤ reachBytes) (hv : v.cells.toList = [v]) (he : ∀ x, ∃ y, enc x = [y]) :
    ∃ x y, ok x ∧ enc x = [y] ∧ Rel (fun _ => .nil) (oldS W) W 0 y v := by
  obtain ⟨k, hk⟩ := h
  obtain ⟨x, h1, ⟨h2, h3⟩, h4⟩ := ho k H e W _ d ps hk hw
  obtain ⟨y, hy⟩ := he x
  refine ⟨x, y, h1, hy, ?_⟩
  rw [hv, hy] at h3
  exact h3 0 y v rfl rfl
end
end Go.Abs
namespace Go.Abs.SA
open Go.Proofs
section
theorem fns_9 : XX.fns.contains 9 = true := nr (by kernel_rfl)
theorem res_9 : Go.Proofs.Tryz.f9.results.toList = [.tmp 6] := nr rfl
theorem live_9 : XX.live 9 = [] := nr (by kernel_rfl)
theorem own_9 : XX.own 9 = [] := nr (by kernel_rfl)
theorem tr_9_4 : XX.trim 9 4 = some ([0, 1, 2, 20, 21, 22], []) := nr (by kernel_rfl)
theorem trim_9_4 (d : AV) (l : List (Nat × AV)) (h : List Blk) (n : Nat) : trimA XX 9 4 n ⟨mkT 147 d l, h⟩ = gcK n (mkT 147 .junk [(0, lk d l 0), (1, lk d l 1), (2, lk d l 2), (20, lk d l 20), (21, lk d l 21), (22, lk d l 22)]) h := (trimA_keep tr_9_4 n _ h).trans (by rw [keep_mkT]; kernel_rfl)
abbrev S_9_4 (x0 x1 x2 x20 x21 x22 : AV) (h : List Blk) : St := ⟨mkT 147 .junk [(0, x0), (1, x1), (2, x2), (20, x20), (21, x21), (22, x22)], h⟩
theorem tr_9_9 : XX.trim 9 9 = some ([0, 1, 2, 8, 20, 21, 22, 34, 35], []) := nr (by kernel_rfl)
theorem trim_9_9 (d : AV) (l : List (Nat × AV)) (h : List Blk) (n : Nat) : trimA XX 9 9 n ⟨mkT 147 d l, h⟩ = gcK n (mkT 147 .junk [(0, lk d l 0), (1, lk d l 1), (2, lk d l 2), (8, lk d l 8), (20, lk d l 20), (21, lk d l 21), (22, lk d l 22), (34, lk d l 34), (35, lk d l 35)]) h := (trimA_keep tr_9_9 n _ h).trans (by rw [keep_mkT]; kernel_rfl)
abbrev S_9_9 (x0 x1 x2 x8 x20 x21 x22 x34 x35 : AV) (h : List Blk) : St := ⟨mkT 147 .junk [(0, x0), (1, x1), (2, x2), (8, x8), (20, x20), (21, x21), (22, x22), (34, x34), (35, x35)], h⟩
attribute [go_sem] res_9 live_9 own_9 trim_9_4 trim_9_9
end
end Go.Abs.SA
namespace Go.Abs.SA
open Go.Proofs
section
theorem o_str (k : Nat) : Opens Tryz.prog k 9 eS (fun s => s.size ≤ 140737488355328) :=
  (Opens.string k Tryz.underlying9).map id (fun _ => rfl) (fun s h => by rw [reach_s] at h; simp only [id]; omega)
theorem o_bool (k : Nat) : Opens Tryz.prog k 4 (fun n : Bool => [vB n]) (fun n => True) := Opens.bool k Tryz.underlying4
end
end Go.Abs.SA
namespace Go.Abs.SA
open Go.Proofs
section
theorem returns_both {H : Type} {enc : TypeId × Value → H} {a : Assume} {C : Checked} {os : Os} {f : FuncId} {fn : Func} {s : ChangeSpec} {conds : List PathCond} {apart fresh handsOn again : Bool} {X : World → Array Value → Prop}
    (hX : ∀ (w w' : World) (args : Array Value), w.heap = w'.heap → X w args → X w' args)
    (own : ownKnob C.prog.godebug = none) (started : os.Started) (noInit : C.prog.inits.idxOf? f = none) (hfn : C.prog.funcs[f]? = some fn)
    (witness : ∃ (w : World) (tape : Tape) (i : Input), w.os = os ∧ (w.forCall tape i).Shaped C.prog ∧ i.vars = [] ∧ Input.okWide C.prog (w.forCall tape i) .any w.heap.size f i ∧
      ((s.pre enc C.prog fn conds apart (w.forCall tape i).memory i.args ∧ X (w.forCall tape i).memory i.args) ∧ sizedMet enc C.prog fn (OpenSpec.ofChange s) apart (w.forCall tape i).memory i.args) ∧ a.holds C.prog (lone (Frame.enter C.prog f i.args .normal) [] (w.forCall tape i)))
    (contract : ∀ (W : World) (base : Nat) (args : Array Value) (ds gs : List (DataW H)) (before : List MemPlace),
      (∀ (j : Nat) t v, fn.params[j]? = some t → args[j]? = some v → Value.okWide C.prog W .any base t v) →
      DataW.Whole enc C.prog fn.params.toList s.vars apart W args.toList ds gs before →
      conds.all (PathCond.test C.prog ⟨fn.params.toList, ds, s.plain.varTypes C.prog, gs⟩) = true →
      (DataW.weightsEach C.prog (fn.params.toList ++ s.plain.varTypes C.prog) (ds ++ gs)).all (· ≤ reachBytes) = true → X W args → W.ShapedOpen C.prog →
      a.holds C.prog (lone (Frame.enter C.prog f args .normal) [] W) →
      Calls C.prog f args W fun e W' => ∃ v, e = .returned v ∧ s.post enc C.prog fn apart fresh handsOn again W args v W') :
    ReturnsInHanded a C os f .any (fun w args => (s.pre enc C.prog fn conds apart w args ∧ X w args) ∧ sizedMet enc C.prog fn (OpenSpec.ofChange s) apart w args) (s.post enc C.prog fn apart fresh handsOn again) := by
  refine returnsInHanded_of_calls own started noInit witness ?_
  intro w tape i _ hsh _ hok hpre hholds
  obtain ⟨_, _, _, fn', hfn', _, _, _, _, hval⟩ := hok
  have e : fn' = fn := Option.some.inj (hfn'.symm.trans hfn)
  subst e
  obtain ⟨⟨⟨ds, gs, before, hw, hc⟩, hx⟩, hz⟩ := hpre
  have hw' := DataW.Whole.of_heap (w' := w.forCall tape i) (by rfl) hw
  refine (contract (w.forCall tape i) w.heap.size i.args ds gs before hval hw' hc (hz.weights hw) (hX _ _ _ (by rfl) hx) hsh hholds).mono fun e W' ⟨v, he, hp⟩ => ?_
  subst he
  exact ChangeSpec.post_blind hp
end
end Go.Abs.SA
end
section
namespace Go.Abs.SA
open Go.Proofs
theorem takeW {p : UInt8 → Bool} {nm : B8} {x : UInt8} {r : B8} (h : ∀ c ∈ nm, p c = true) (hx : p x = false) : (nm ++ x :: r).takeWhile p = nm ∧ (nm ++ x :: r).dropWhile p = x :: r := by
  induction nm with
  | nil => simp [hx]
  | cons a t ih =>
    have h1 := h a (by simp)
    have := ih (fun c hc => h c (by simp [hc]))
    simp [h1, this]
theorem plM_nil : plM 1 [] [] = ([], true) := by kernel_rfl
theorem trimS_nil : Lib.trimS [] [32, 9, 13, 10] = [] := by kernel_rfl
theorem idx60 (r : B8) : Lib.indexByte (60 :: r) 60 = 0 := by rw [Lib.indexByte]; simp
def backF (nm : B8) : (Int × B8 × List Elem) × B8 → (Int × Elem) × B8
  | ((e, t, ks), q2) =>
    if e ≠ 0 then ((e, E0), q2)
    else if Lib.hasPrefix q2 nm then
      if Lib.hasPrefix ((q2.drop nm.length).dropWhile blkB) [62] then ((0, .mk (mkS []) (mkS nm) [] (mkS t) ks), ((q2.drop nm.length).dropWhile blkB).drop 1)
      else ((3, E0), (q2.drop nm.length).dropWhile blkB)
    else ((3, E0), q2)
end Go.Abs.SA
end
section
namespace Go.Abs.SA
open Go.Proofs
theorem idx_noC {a : B8} {c : UInt8} (h : ∀ x ∈ a, x ≠ c) : Lib.index a [c] = -1 := by
  induction a with
  | nil => rfl
  | cons x t ih =>
    have h1 := h x (by simp)
    have := ih (fun y hy => h y (by simp [hy]))
    rw [Lib.index]
    have h2 : Lib.hasPrefix (x :: t) [c] = false := by
      have h3 := Ne.symm h1
      simpa [Lib.hasPrefix, List.isPrefixOf] using h3
    simp [h2, this]
    try exact fun e => h1 e.symm
theorem idx_atC {a : B8} {c : UInt8} (h : ∀ x ∈ a, x ≠ c) (r : B8) : Lib.index (a ++ c :: r) [c] = (a.length : Int) := by
  induction a with
  | nil =>
    rw [List.nil_append, Lib.index]
    simp [Lib.hasPrefix, List.isPrefixOf]
  | cons x t ih =>
    have h1 := h x (by simp)
    have := ih (fun y hy => h y (by simp [hy]))
    rw [List.cons_append, Lib.index]
    have h2 : Lib.hasPrefix (x :: (t ++ c :: r)) [c] = false := by
      have h3 := Ne.symm h1
      simpa [Lib.hasPrefix, List.isPrefixOf] using h3
    have h4 : [c].isPrefixOf (x :: (t ++ c :: r)) = false := h2
    have h5 : ((t.length : Int) == -1) = false := by simp
    rw [this, h4, h5]
    simp
theorem idxB_noC {a : B8} {c : UInt8} (h : ∀ x ∈ a, x ≠ c) : Lib.indexByte a c = -1 := by
  induction a with
  | nil => simp [Lib.indexByte]
  | cons x t ih =>
    have h1 := h x (by simp)
    have := ih (fun y hy => h y (by simp [hy]))
    rw [Lib.indexByte]
    simp [h1, this]
def nsC (a : B8) : Prop := ∀ x ∈ a, x ≠ 39 ∧ x ≠ 60 ∧ x ≠ 38
theorem val_ok {a : B8} (h : nsC a) (r : B8) : valM (39 :: (a ++ 39 :: r)) = (some a, r) := by
  have h1 := idx_atC (fun x hx => (h x hx).1) r
  have h2 := idx_noC (fun x hx => (h x hx).2.1)
  have h3 : Lib.indexByte a 38 < 0 := by rw [idxB_noC (fun x hx => (h x hx).2.2)]; decide
  have hq : quoM (39 :: (a ++ 39 :: r)) = some ([39], a ++ 39 :: r) := by
    unfold quoM
    rw [if_neg (by simp [Lib.hasPrefix, List.isPrefixOf]), if_pos (by simp [Lib.hasPrefix, List.isPrefixOf])]
    rfl
  have ht : tillM (a ++ 39 :: r) [39] = some (a, r) := by
    unfold tillM
    rw [h1, if_pos (by omega)]
    simp
  have hc : Lib.contains a [60] = false := by
    unfold Lib.contains; rw [h2]; rfl
  unfold valM
  rw [hq]
  simp only [ht, hc, plM, h3, if_true, List.nil_append, Bool.false_eq_true, if_false]
theorem att_one (n : Nat) (acc : List At3) (x : UInt8) (w a r : B8) (hb : blkB x = false) (hx : ¬ (x = 47 ∨ x = 62)) (hw : ∀ c ∈ x :: w, stpB c = false) (p l : B8) (hn : nmM (x :: w) = (p, l, true)) (ha : nsC a) (hh : hasA acc p l = false) (hl : acc.length ≠ 32) :
    attM (n + 1) acc (32 :: (x :: w ++ 61 :: 39 :: (a ++ 39 :: r))) = attM n (acc ++ [(p, l, a)]) r := by
  have ht := takeW (p := fun c => !stpB c) (nm := x :: w) (x := 61) (r := 39 :: (a ++ 39 :: r)) (fun c hc => by simp [hw c hc]) (by decide)
  have h1 : (32 :: (x :: w ++ 61 :: 39 :: (a ++ 39 :: r)) : B8).dropWhile blkB = x :: (w ++ 61 :: 39 :: (a ++ 39 :: r)) := by
    rw [List.dropWhile_cons, if_pos (by decide), List.cons_append, List.dropWhile_cons, if_neg (by simp [hb])]
  have h2 : (32 :: (x :: w ++ 61 :: 39 :: (a ++ 39 :: r)) : B8).takeWhile blkB = [32] := by
    rw [List.takeWhile_cons, if_pos (by decide), List.cons_append, List.takeWhile_cons, if_neg (by simp [hb])]
  rw [List.cons_append] at ht
  have h3 : (61 :: 39 :: (a ++ 39 :: r) : B8).dropWhile blkB = 61 :: 39 :: (a ++ 39 :: r) := by rw [List.dropWhile_cons, if_neg (by decide)]
  have h4 : (39 :: (a ++ 39 :: r) : B8).dropWhile blkB = 39 :: (a ++ 39 :: r) := by rw [List.dropWhile_cons, if_neg (by decide)]
  rw [attM]
  rw [h1, h2]
  simp only [if_neg hx, ht.1, ht.2, hn, h3, List.drop_succ_cons, List.drop_zero, h4, val_ok ha, hh]
  rw [if_pos (by rfl), if_pos (by simp [Lib.hasPrefix, List.isPrefixOf]), if_neg (by simp [hl])]
theorem attM_slash (n : Nat) (acc : List At3) (r : B8) : attM (n + 1) acc (47 :: r) = (some acc, 47 :: r) := by
  rw [attM]
  have : (47 :: r : B8).dropWhile blkB = 47 :: r := by
    rw [List.dropWhile_cons, if_neg (by decide)]
  rw [this]; simp
theorem attM_gt (n : Nat) (acc : List At3) (r : B8) : attM (n + 1) acc (62 :: r) = (some acc, 62 :: r) := by
  rw [attM]
  have : (62 :: r : B8).dropWhile blkB = 62 :: r := by
    rw [List.dropWhile_cons, if_neg (by decide)]
  rw [this]; simp
def backG (w sp l : B8) : (Int × B8 × List Elem) × B8 → (Int × Elem) × B8
  | ((e, t, ks), q2) =>
    if e ≠ 0 then ((e, E0), q2)
    else if Lib.hasPrefix q2 w then
      if Lib.hasPrefix ((q2.drop w.length).dropWhile blkB) [62] then ((0, .mk (mkS sp) (mkS l) [] (mkS t) ks), ((q2.drop w.length).dropWhile blkB).drop 1)
      else ((3, E0), (q2.drop w.length).dropWhile blkB)
    else ((3, E0), q2)
theorem backG_ok (w sp l r : B8) (ks : List Elem) : backG w sp l ((0, [], ks), w ++ 62 :: r) = ((0, .mk (mkS sp) (mkS l) [] (mkS []) ks), r) := by
  have h1 : Lib.hasPrefix (w ++ 62 :: r) w = true := by
    unfold Lib.hasPrefix; rw [List.isPrefixOf_iff_prefix]; exact List.prefix_append _ _
  have h2 : (62 :: r : B8).dropWhile blkB = 62 :: r := by rw [List.dropWhile_cons, if_neg (by decide)]
  unfold backG
  simp only [ne_eq, not_true, if_false, h1, if_true, List.drop_left, h2]
  rw [if_pos (by simp [Lib.hasPrefix, List.isPrefixOf])]
  simp
theorem elem_open {f : Nat} {c c' : Scp} {d : Int} (hd : ¬ 16 < d) {w R : B8} {x : UInt8} {ats : List At3} {p l sp q : B8} (hw : ∀ y ∈ w, stpB y = false) (hx : stpB x = true) (hn : nmM w = (p, l, true))
    (ha : attM ((x :: R).length + 1) [] (x :: R) = (some ats, 62 :: q)) (hs : scpM ats c = some c') (hf : findM c' p = (sp, true)) (hp : pickM c' ats [] = some []) :
    elemM (f + 1) c d (60 :: (w ++ x :: R)) = backG w sp l (insM f c' d [] false [] q) := by
  have ht := takeW (p := fun c => !stpB c) (nm := w) (x := x) (r := R) (fun c hc => by simp [hw c hc]) (by simp [hx])
  rw [elemM]
  rw [if_pos (by simp [Lib.hasPrefix, List.isPrefixOf]), if_neg hd]
  simp only [List.drop_succ_cons, List.drop_zero, ht.1, ht.2, hn, if_true, ha, hs, hf, hp]
  rw [if_neg (by simp [Lib.hasPrefix, List.isPrefixOf]), if_pos (by simp [Lib.hasPrefix, List.isPrefixOf])]
  rfl
theorem elem_self {f : Nat} {c c' : Scp} {d : Int} (hd : ¬ 16 < d) {w R : B8} {x : UInt8} {ats : List At3} {p l sp q : B8} (hw : ∀ y ∈ w, stpB y = false) (hx : stpB x = true) (hn : nmM w = (p, l, true))
    (ha : attM ((x :: R).length + 1) [] (x :: R) = (some ats, 47 :: 62 :: q)) (hs : scpM ats c = some c') (hf : findM c' p = (sp, true)) (hp : pickM c' ats [] = some []) :
    elemM (f + 1) c d (60 :: (w ++ x :: R)) = ((0, .mk (mkS sp) (mkS l) [] ⟨#[]⟩ []), q) := by
  have ht := takeW (p := fun c => !stpB c) (nm := w) (x := x) (r := R) (fun c hc => by simp [hw c hc]) (by simp [hx])
  rw [elemM]
  rw [if_pos (by simp [Lib.hasPrefix, List.isPrefixOf]), if_neg hd]
  simp only [List.drop_succ_cons, List.drop_zero, ht.1, ht.2, hn, if_true, ha, hs, hf, hp]
  rw [if_pos (by simp [Lib.hasPrefix, List.isPrefixOf])]
  rfl
theorem ins_endG (f : Nat) (c : Scp) (d : Int) (ks : List Elem) (r : B8) : insM (f + 1) c d ks false [] (60 :: 47 :: r) = ((0, [], ks), r) := by
  rw [insM]
  simp only [idx60, Int.toNat_zero, List.take_zero, List.length_nil, Nat.zero_add, plM_nil, List.drop_zero, List.append_nil, trimS_nil, ne_eq, not_true, decide_false, Bool.or_false]
  rw [if_neg (by decide)]
  rw [if_pos (by trivial), if_pos (by simp [Lib.hasPrefix, List.isPrefixOf])]
  simp
theorem ins_kidG {f : Nat} {c : Scp} {d : Int} {ks : List Elem} {a : UInt8} {r q : B8} {e : Elem} (h1 : a ≠ 47) (h2 : a ≠ 33) (hk : ks.length ≠ 256) (he : elemM f c (d + 1) (60 :: a :: r) = ((0, e), q)) :
    insM (f + 1) c d ks false [] (60 :: a :: r) = insM f c d (ks ++ [e]) false [] q := by
  rw [insM]
  simp only [idx60, Int.toNat_zero, List.take_zero, List.length_nil, Nat.zero_add, plM_nil, List.drop_zero, List.append_nil, trimS_nil, ne_eq, not_true, decide_false, Bool.or_false]
  rw [if_neg (by decide)]
  rw [if_pos (by trivial), if_neg (by simp [Lib.hasPrefix, List.isPrefixOf, Ne.symm h1]), if_neg (by simp [Lib.hasPrefix, List.isPrefixOf, Ne.symm h2]), if_neg (by simp [Lib.hasPrefix, List.isPrefixOf, Ne.symm h2])]
  rw [he]
  simp [hk]
end Go.Abs.SA
end
section
namespace Go.Abs.SA
open Go.Proofs
abbrev xmpB : B8 := [120, 109, 108, 110, 115, 58, 112]
abbrev tailB : B8 := [62, 60, 122, 47, 62, 60, 112, 58, 122, 47, 62, 60, 47, 121, 62, 60, 119, 47, 62, 60, 47, 120, 62]
def nsA (a q : B8) : B8 := 32 :: (xmlnsB ++ 61 :: 39 :: (a ++ 39 :: 32 :: (xmpB ++ 61 :: 39 :: (a ++ 39 :: q))))
def zE (W : B8) (n : UInt8) : Elem := .mk (mkS W) (mkS [n]) [] ⟨#[]⟩ []
def yE (W : B8) : Elem := .mk (mkS W) (mkS [121]) [] ⟨#[]⟩ [zE W 122, zE W 122]
def xE (a W : B8) : Elem := .mk (mkS a) (mkS [120]) [] ⟨#[]⟩ [yE W, zE a 119]
theorem attM_ns {a : B8} (ha : nsC a) (n : Nat) (q : B8) : attM (n + 3) [] (nsA a (62 :: q)) = (some [([], xmlnsB, a), (xmlnsB, [112], a)], 62 :: q) := by
  have h1 := att_one (n + 2) [] 120 [109, 108, 110, 115] a (32 :: (xmpB ++ 61 :: 39 :: (a ++ 39 :: 62 :: q))) (by decide) (by decide) (by decide) [] xmlnsB (by decide +kernel) ha (by rfl) (by decide)
  have h2 := att_one (n + 1) ([] ++ [([], xmlnsB, a)]) 120 [109, 108, 110, 115, 58, 112] a (62 :: q) (by decide) (by decide) (by decide) xmlnsB [112] (by decide +kernel) ha (by simp [hasA, sameA]) (by simp)
  unfold nsA
  rw [show xmlnsB = (120 :: [109, 108, 110, 115] : B8) from rfl] at h1 ⊢
  rw [h1]
  rw [show xmpB = (120 :: [109, 108, 110, 115, 58, 112] : B8) from rfl]
  rw [h2, attM_gt]
  rfl
theorem scp_ns {a : B8} (hn : a ≠ []) (c : Scp) : scpM [([], xmlnsB, a), (xmlnsB, [112], a)] c = some (([112], a) :: ([], a) :: c) := by
  simp [scpM, hn]
theorem pick_ns (a : B8) (c : Scp) : pickM c [([], xmlnsB, a), (xmlnsB, [112], a)] [] = some [] := by
  simp [pickM]
theorem find_ns0 (a : B8) (c : Scp) : findM (([112], a) :: ([], a) :: c) [] = (a, true) := by simp [findM]
theorem find_ns1 (a : B8) (c : Scp) : findM (([112], a) :: ([], a) :: c) [112] = (a, true) := by simp [findM]
theorem self1 {c : Scp} {W : B8} (h0 : findM c [] = (W, true)) (f : Nat) (d : Int) (hd : ¬ 16 < d) (n : UInt8) (hn : n = 122 ∨ n = 119) (q : B8) : elemM (f + 1) c d (60 :: n :: 47 :: 62 :: q) = ((0, zE W n), q) := by
  have := elem_self (f := f) (c := c) (c' := c) (d := d) hd (w := [n]) (R := 62 :: q) (x := 47) (ats := []) (p := []) (l := [n]) (sp := W) (q := q)
    (by rcases hn with rfl | rfl <;> decide) (by decide) (by rcases hn with rfl | rfl <;> decide +kernel) (attM_slash _ _ _) rfl h0 rfl
  exact this
theorem self2 {c : Scp} {W : B8} (h0 : findM c [112] = (W, true)) (f : Nat) (d : Int) (hd : ¬ 16 < d) (q : B8) : elemM (f + 1) c d (60 :: 112 :: 58 :: 122 :: 47 :: 62 :: q) = ((0, zE W 122), q) := by
  have := elem_self (f := f) (c := c) (c' := c) (d := d) hd (w := [112, 58, 122]) (R := 62 :: q) (x := 47) (ats := []) (p := [112]) (l := [122]) (sp := W) (q := q)
    (by decide) (by decide) (by decide +kernel) (attM_slash _ _ _) rfl h0 rfl
  exact this
theorem zkids {c : Scp} {W : B8} (h0 : findM c [] = (W, true)) (h1 : findM c [112] = (W, true)) (g : Nat) (d : Int) (hd : ¬ 16 < d + 1) (q : B8) :
    insM (g + 4) c d [] false [] (60 :: 122 :: 47 :: 62 :: 60 :: 112 :: 58 :: 122 :: 47 :: 62 :: 60 :: 47 :: 121 :: 62 :: q) = ((0, [], [zE W 122, zE W 122]), 121 :: 62 :: q) := by
  rw [ins_kidG (by decide) (by decide) (by simp) (self1 h0 (g + 2) (d + 1) hd 122 (.inl rfl) _)]
  rw [ins_kidG (by decide) (by decide) (by simp) (self2 h1 (g + 1) (d + 1) hd _)]
  rw [ins_endG]
  rfl
theorem y_ok {c : Scp} {W M : B8} (hM : (M = [] ∧ findM c [] = (W, true) ∧ findM c [112] = (W, true)) ∨ (nsC W ∧ W ≠ [] ∧ ∀ q, M ++ q = nsA W q)) (g : Nat) (d : Int) (hd : ¬ 16 < d + 1) (q : B8) :
    elemM (g + 5) c d (60 :: 121 :: (M ++ 62 :: 60 :: 122 :: 47 :: 62 :: 60 :: 112 :: 58 :: 122 :: 47 :: 62 :: 60 :: 47 :: 121 :: 62 :: q)) = ((0, yE W), q) := by
  rcases hM with ⟨rfl, h0, h1⟩ | ⟨hW, hne, hM⟩
  · have := elem_open (f := g + 4) (c := c) (c' := c) (d := d) (by omega) (w := [121]) (x := 62) (ats := []) (p := []) (l := [121]) (sp := W) (by decide) (by decide) (by decide +kernel) (attM_gt _ [] (60 :: 122 :: 47 :: 62 :: 60 :: 112 :: 58 :: 122 :: 47 :: 62 :: 60 :: 47 :: 121 :: 62 :: q)) rfl h0 rfl
    rw [List.nil_append]
    refine this.trans ?_
    rw [zkids h0 h1 g d hd]
    exact backG_ok [121] W [121] q _
  · rw [hM]
    obtain ⟨k, hk⟩ : ∃ k, (nsA W (62 :: 60 :: 122 :: 47 :: 62 :: 60 :: 112 :: 58 :: 122 :: 47 :: 62 :: 60 :: 47 :: 121 :: 62 :: q)).length + 1 = k + 3 := ⟨(nsA W (62 :: 60 :: 122 :: 47 :: 62 :: 60 :: 112 :: 58 :: 122 :: 47 :: 62 :: 60 :: 47 :: 121 :: 62 :: q)).length - 2, by unfold nsA; simp only [List.length_cons, List.length_append]; omega⟩
    have hA := attM_ns hW k (60 :: 122 :: 47 :: 62 :: 60 :: 112 :: 58 :: 122 :: 47 :: 62 :: 60 :: 47 :: 121 :: 62 :: q)
    rw [← hk] at hA
    unfold nsA at hA ⊢
    have := elem_open (f := g + 4) (c := c) (d := d) (by omega) (w := [121]) (x := 32) (p := []) (l := [121]) (sp := W) (by decide) (by decide) (by decide +kernel) hA (scp_ns hne c) (find_ns0 W c) (pick_ns W _)
    refine this.trans ?_
    rw [zkids (find_ns0 W c) (find_ns1 W c) g d hd]
    exact backG_ok [121] W [121] q _
theorem x_ok {a W M : B8} (ha : nsC a) (hn : a ≠ []) (hM : (M = [] ∧ W = a) ∨ (nsC W ∧ W ≠ [] ∧ ∀ q, M ++ q = nsA W q)) (g : Nat) :
    elemM (g + 8) [] 1 (60 :: 120 :: nsA a (62 :: 60 :: 121 :: (M ++ tailB))) = ((0, xE a W), []) := by
  obtain ⟨k, hk⟩ : ∃ k, (nsA a (62 :: 60 :: 121 :: (M ++ tailB))).length + 1 = k + 3 := ⟨(nsA a (62 :: 60 :: 121 :: (M ++ tailB))).length - 2, by unfold nsA; simp only [List.length_cons, List.length_append]; omega⟩
  have hA := attM_ns ha k (60 :: 121 :: (M ++ tailB))
  rw [← hk] at hA
  unfold nsA at hA ⊢
  have := elem_open (f := g + 7) (c := []) (d := 1) (by omega) (w := [120]) (x := 32) (p := []) (l := [120]) (sp := a) (by decide) (by decide) (by decide +kernel) hA (scp_ns hn []) (find_ns0 a []) (pick_ns a _)
  refine this.trans ?_
  have hy := y_ok (c := ([112], a) :: ([], a) :: []) (W := W) (M := M) (by
    rcases hM with ⟨rfl, rfl⟩ | h
    · exact .inl ⟨rfl, find_ns0 _ _, find_ns1 _ _⟩
    · exact .inr h) (g + 1) (1 + 1) (by omega) (60 :: 119 :: 47 :: 62 :: 60 :: 47 :: 120 :: 62 :: [])
  rw [ins_kidG (f := g + 6) (by decide) (by decide) (by simp) hy]
  rw [ins_kidG (f := g + 5) (by decide) (by decide) (by simp) (self1 (find_ns0 a []) (g + 4) (1 + 1) (by omega) 119 (.inr rfl) _)]
  rw [ins_endG]
  exact backG_ok [120] a [120] [] _
end Go.Abs.SA
end
section
namespace Go.Abs.SA
open Go.Proofs
def okSc (x : UInt8) : Prop := (97 ≤ x.toNat ∧ x.toNat ≤ 122) ∨ x.toNat = 58
theorem okSc_c {x : UInt8} (h : okSc x) : (x ≠ 39 ∧ x ≠ 60 ∧ x ≠ 38) ∧ clB x = true := by
  unfold okSc at h
  refine ⟨⟨?_, ?_, ?_⟩, ?_⟩
  · rintro rfl; revert h; decide
  · rintro rfl; revert h; decide
  · rintro rfl; revert h; decide
  · unfold clB; simp only [Bool.or_eq_true, Bool.and_eq_true, decide_eq_true_eq]; omega
def nsM (b : B8) : B8 := 32 :: (xmlnsB ++ 61 :: 39 :: (b ++ 39 :: 32 :: (xmpB ++ 61 :: 39 :: (b ++ [39]))))
theorem nsM_q (b q : B8) : nsM b ++ q = nsA b q := by simp [nsM, nsA]
theorem parse_ns {a W M : B8} (ha : ∀ x ∈ a, okSc x) (hn : a ≠ []) (hM : (M = [] ∧ W = a) ∨ ((∀ x ∈ W, okSc x) ∧ W ≠ [] ∧ M = nsM W)) (hl : a.length ≤ 30) (hl2 : W.length ≤ 30) :
    parseM (mkS (60 :: 120 :: nsA a (62 :: 60 :: 121 :: (M ++ tailB)))) = (0, xE a W) := by
  have hac : a.all clB = true := List.all_eq_true.2 fun x hx => (okSc_c (ha x hx)).2
  have hns : nsC a := fun x hx => (okSc_c (ha x hx)).1
  have hMl : M.length ≤ 100 ∧ M.all clB = true := by
    rcases hM with ⟨rfl, _⟩ | ⟨hW, _, rfl⟩
    · simp
    · have hwc : W.all clB = true := List.all_eq_true.2 fun x hx => (okSc_c (hW x hx)).2
      constructor
      · simp only [nsM, List.length_cons, List.length_append, List.length_nil]; omega
      · simp only [nsM, List.all_cons, List.all_append, hwc, List.all_nil, Bool.and_true, Bool.true_and]; decide
  have hx := fun g => x_ok (a := a) (W := W) (M := M) hns hn (by
    rcases hM with h | ⟨hW, hne, rfl⟩
    · exact .inl h
    · exact .inr ⟨fun x hx => (okSc_c (hW x hx)).1, hne, nsM_q W⟩) g
  have hlen : (60 :: 120 :: nsA a (62 :: 60 :: 121 :: (M ++ tailB))).length ≤ 1000 ∧ 8 ≤ (60 :: 120 :: nsA a (62 :: 60 :: 121 :: (M ++ tailB))).length := by
    simp only [nsA, List.length_cons, List.length_append, List.length_nil]; omega
  have hall : (60 :: 120 :: nsA a (62 :: 60 :: 121 :: (M ++ tailB))).all clB = true := by
    simp only [nsA, List.all_cons, List.all_append, hac, hMl.2, List.all_nil, Bool.and_true, Bool.true_and]; decide
  obtain ⟨r, hr⟩ : ∃ r, nsA a (62 :: 60 :: 121 :: (M ++ tailB)) = r := ⟨_, rfl⟩
  rw [hr] at hx hlen hall ⊢
  rw [parseM_s, if_neg (by rw [mk_size]; omega), lS8_mk, if_pos hall]
  have hhead : headM (mkS (60 :: 120 :: r)) = some (60 :: 120 :: r) := by
    unfold headM
    rw [lS8_mk, if_neg (by simp [Lib.hasPrefix, List.isPrefixOf])]
  have hcom : comM ((60 :: 120 :: r).length + 1) (60 :: 120 :: r) = (true, 60 :: 120 :: r) := by
    rw [comM]
    have : (60 :: 120 :: r : B8).dropWhile blkB = 60 :: 120 :: r := by rw [List.dropWhile_cons, if_neg (by decide)]
    rw [this, if_neg (by simp [Lib.hasPrefix, List.isPrefixOf])]
  rw [hhead]
  unfold parseR
  simp only [hcom]
  obtain ⟨g, hg⟩ : ∃ g, 2 * (60 :: 120 :: r).length + 2 = g + 8 := ⟨2 * (60 :: 120 :: r).length - 6, by omega⟩
  rw [hg, hx g]
  rfl
def okI (c : Int) : Prop := (97 ≤ c ∧ c ≤ 122) ∨ c = 58
def goodS (s : Str) : Prop := s ≠ ⟨#[]⟩ ∧ s.size ≤ 30 ∧ ∀ t, t < s.size → okI (byteAt s t)
theorem idxS0 {h : List Blk} {x : AV} {r : List (List AV)} {fl : Bool} {k : IntKind} {d : TD} {c : Nat} {z : Option Value} : idxK2 h (.fs ([x] :: r) fl) (.v (.int k 0)) (some ⟨d, 1, c, z⟩) = some (.fp [x]) := nr (by simp [idxK2])
theorem idxS1 {h : List Blk} {x y : AV} {r : List (List AV)} {fl : Bool} {k : IntKind} {d : TD} {c : Nat} {z : Option Value} : idxK2 h (.fs ([y] :: [x] :: r) fl) (.v (.int k 1)) (some ⟨d, 1, c, z⟩) = some (.fp [x]) := nr (by simp [idxK2])
theorem good_of {l : B8} (h : goodS (mkS l)) : l ≠ [] ∧ l.length ≤ 30 ∧ ∀ x ∈ l, okSc x := by
  obtain ⟨h1, h2, h3⟩ := h
  rw [mk_size] at h2 h3
  refine ⟨fun e => h1 (by rw [e]), h2, fun x hx => ?_⟩
  obtain ⟨i, hi, rfl⟩ := List.getElem_of_mem hx
  have h4 := h3 i hi
  have h5 := byteAt_list (mkS l) i (by rw [mk_size]; exact hi)
  simp only [lS8_mk] at h5
  rw [h5] at h4
  unfold okI at h4
  unfold okSc
  omega
theorem eElem_xE (a W : B8) : eElem (xE a W) = [vS (mkS a), vS (mkS [120]), .fs [] false, vS ⟨#[]⟩, .fs [[vS (mkS W), vS (mkS [121]), .fs [] false, vS (mkS []), .fs [[vS (mkS W), vS (mkS [122]), .fs [] false, vS ⟨#[]⟩, .fs [] false], [vS (mkS W), vS (mkS [122]), .fs [] false, vS ⟨#[]⟩, .fs [] false]] false], [vS (mkS a), vS (mkS [119]), .fs [] false, vS ⟨#[]⟩, .fs [] false]] false] := by
  unfold xE yE zE
  rw [eElem_s]
  simp only [Elem.space, Elem.name, Elem.attrs, Elem.text, Elem.kids, List.map_cons, List.map_nil]
  rw [eElem_s, eElem_s]
  simp only [Elem.space, Elem.name, Elem.attrs, Elem.text, Elem.kids, List.map_cons, List.map_nil]
  rw [eElem_s]
  rfl
theorem idxE1 {h : List Blk} {e0 : List AV} {x y q w u : AV} {r : List (List AV)} {fl : Bool} {k : IntKind} {d : TD} {c : Nat} {z : Option Value} : idxK2 h (.fs (e0 :: [x, y, q, w, u] :: r) fl) (.v (.int k 1)) (some ⟨d, 5, c, z⟩) = some (.fp [x, y, q, w, u]) := nr (by simp [idxK2])
theorem xmlSpaces_law (a b : Str) (inn : Bool) (hsa : a.size ≤ 140737488355328) (hsb : b.size ≤ 140737488355328) : pureW XX 9 [vS a, vS b, vB inn] = some (vB true) := by
  have wr0 : IntKind.i64.wrap (0 + 1) = 1 := by decide
  have wr1 : IntKind.i64.wrap (1 + 1) = 2 := by decide
  refine pureW_in 147 Tryz.func9 Tryz.ntmps9 (by simp) (rfl : Tryz.f9.body = some _) fns_9 ?_
  simp (maxSteps := 200000) (disch := first | omega | (simp only [go_sem, Nat.reduceAdd, Nat.reduceSub, Nat.reduceMul, Nat.reduceLeDiff, Nat.reduceEqDiff, Nat.reduceLT, Nat.reduceBEq, Nat.reduceBNe, Nat.reducePow, ↓reduceIte] <;> omega) | fail) only [go_sem, Nat.reduceAdd, Nat.reduceSub, Nat.reduceMul, Nat.reduceLeDiff, Nat.reduceEqDiff, Nat.reduceLT, Nat.reduceBEq, Nat.reduceBNe, Nat.reducePow, ↓reduceIte, nat_int, callA_pure mode_41, fit13_spec]
  refine WP_range 4 0 2 (fun i => S_9_4 (vS a) (vS b) (vB inn) (.fs [[vS a], [vS b]] true) (vI 2) (vI i) []) (fun i => (0 < i → goodS a) ∧ (1 < i → goodS b)) rfl rfl ?_ ?_ ?_ ?_
  · simp (maxSteps := 200000) (disch := first | omega | (simp only [go_sem, Nat.reduceAdd, Nat.reduceSub, Nat.reduceMul, Nat.reduceLeDiff, Nat.reduceEqDiff, Nat.reduceLT, Nat.reduceBEq, Nat.reduceBNe, Nat.reducePow, ↓reduceIte] <;> omega) | fail) only [go_sem, Nat.reduceAdd, Nat.reduceSub, Nat.reduceMul, Nat.reduceLeDiff, Nat.reduceEqDiff, Nat.reduceLT, Nat.reduceBEq, Nat.reduceBNe, Nat.reducePow, ↓reduceIte]; rfl
  · exact ⟨fun h => absurd h (by decide), fun h => absurd h (by decide)⟩
  · intro i h hI
    have c0 : ((0 : Nat) : Int) = 0 := rfl
    have c1 : ((1 : Nat) : Int) = 1 := rfl
    have lt1 : ((0 : Int) < 2) = True := eq_true (by decide)
    have lt2 : ((1 : Int) < 2) = True := eq_true (by decide)
    rcases (show i = 0 ∨ i = 1 by omega) with rfl | rfl
    · by_cases g1 : a = ⟨#[]⟩
      · have q1 : (a = (⟨#[]⟩ : ByteArray)) = True := eq_true g1
        simp (maxSteps := 200000) (disch := first | omega | (simp only [go_sem, Nat.reduceAdd, Nat.reduceSub, Nat.reduceMul, Nat.reduceLeDiff, Nat.reduceEqDiff, Nat.reduceLT, Nat.reduceBEq, Nat.reduceBNe, Nat.reducePow, ↓reduceIte] <;> omega) | fail) only [go_sem, Nat.reduceAdd, Nat.reduceSub, Nat.reduceMul, Nat.reduceLeDiff, Nat.reduceEqDiff, Nat.reduceLT, Nat.reduceBEq, Nat.reduceBNe, Nat.reducePow, ↓reduceIte, nat_int, c0, c1, lt1, lt2, idxS0, idxS1, q1]
      have q1 : (a = (⟨#[]⟩ : ByteArray)) = False := eq_false g1
      by_cases g2 : 30 < a.size
      · have q2 : ((30 : Int) < (a.size : Int)) = True := eq_true (by omega)
        have q3 : (30 < a.size) = True := eq_true g2
        simp (maxSteps := 200000) (disch := first | omega | (simp only [go_sem, Nat.reduceAdd, Nat.reduceSub, Nat.reduceMul, Nat.reduceLeDiff, Nat.reduceEqDiff, Nat.reduceLT, Nat.reduceBEq, Nat.reduceBNe, Nat.reducePow, ↓reduceIte] <;> omega) | fail) only [go_sem, Nat.reduceAdd, Nat.reduceSub, Nat.reduceMul, Nat.reduceLeDiff, Nat.reduceEqDiff, Nat.reduceLT, Nat.reduceBEq, Nat.reduceBNe, Nat.reducePow, ↓reduceIte, nat_int, c0, c1, lt1, lt2, idxS0, idxS1, q1, q2, q3]
      have q2 : ((30 : Int) < (a.size : Int)) = False := eq_false (by omega)
      have q3 : (30 < a.size) = False := eq_false g2
      simp (maxSteps := 200000) (disch := first | omega | (simp only [go_sem, Nat.reduceAdd, Nat.reduceSub, Nat.reduceMul, Nat.reduceLeDiff, Nat.reduceEqDiff, Nat.reduceLT, Nat.reduceBEq, Nat.reduceBNe, Nat.reducePow, ↓reduceIte] <;> omega) | fail) only [go_sem, Nat.reduceAdd, Nat.reduceSub, Nat.reduceMul, Nat.reduceLeDiff, Nat.reduceEqDiff, Nat.reduceLT, Nat.reduceBEq, Nat.reduceBNe, Nat.reducePow, ↓reduceIte, nat_int, c0, c1, lt1, lt2, idxS0, idxS1, q1, q2, q3]
      refine WP_range 9 0 a.size (fun j => S_9_9 (vS a) (vS b) (vB inn) (vS a) (.fs [[vS a], [vS b]] true) (vI 2) (vI 0) (vI a.size) (vI j) []) (fun j => ∀ t, t < j → okI (byteAt a t)) rfl rfl ?_ ?_ ?_ ?_
      · simp (maxSteps := 200000) (disch := first | omega | (simp only [go_sem, Nat.reduceAdd, Nat.reduceSub, Nat.reduceMul, Nat.reduceLeDiff, Nat.reduceEqDiff, Nat.reduceLT, Nat.reduceBEq, Nat.reduceBNe, Nat.reducePow, ↓reduceIte] <;> omega) | fail) only [go_sem, Nat.reduceAdd, Nat.reduceSub, Nat.reduceMul, Nat.reduceLeDiff, Nat.reduceEqDiff, Nat.reduceLT, Nat.reduceBEq, Nat.reduceBNe, Nat.reducePow, ↓reduceIte]; rfl
      · intro t ht; exact absurd ht (Nat.not_lt_zero _)
      · intro j h hall
        have hws := wrap_succ h (show a.size ≤ 140737488355328 by omega)
        have good : okI (byteAt a j) → ∀ t, t < j + 1 → okI (byteAt a t) := by
          intro hg t ht
          rcases Nat.lt_succ_iff_lt_or_eq.1 ht with h | rfl
          · exact hall t h
          · exact hg
        have hle : j < a.size := h
        obtain ⟨c, hc⟩ : ∃ c, byteAt a j = c := ⟨_, rfl⟩
        rw [hc] at good
        have tri : (c < 97 ∧ c ≠ 58) ∨ c = 58 ∨ (97 ≤ c ∧ c ≤ 122) ∨ 122 < c := by omega
        rcases tri with t | t | t | t
        · have e1 : (c < 97) = True := eq_true (by omega)
          have e2 : (122 < c) = False := eq_false (by omega)
          have e3 : (c = 58) = False := eq_false (by omega)
          simp (maxSteps := 200000) (disch := first | omega | (simp only [go_sem, Nat.reduceAdd, Nat.reduceSub, Nat.reduceMul, Nat.reduceLeDiff, Nat.reduceEqDiff, Nat.reduceLT, Nat.reduceBEq, Nat.reduceBNe, Nat.reducePow, ↓reduceIte] <;> omega) | fail) only [go_sem, Nat.reduceAdd, Nat.reduceSub, Nat.reduceMul, Nat.reduceLeDiff, Nat.reduceEqDiff, Nat.reduceLT, Nat.reduceBEq, Nat.reduceBNe, Nat.reducePow, ↓reduceIte, nat_int, h, hle, hc, e1, e2, e3, hws, ne_eq, not_false_eq_true, not_true]
        · have e1 : (c < 97) = True := eq_true (by omega)
          have e2 : (122 < c) = False := eq_false (by omega)
          have e3 : (c = 58) = True := eq_true (by omega)
          have hg := good (.inr t)
          simp (maxSteps := 200000) (disch := first | omega | (simp only [go_sem, Nat.reduceAdd, Nat.reduceSub, Nat.reduceMul, Nat.reduceLeDiff, Nat.reduceEqDiff, Nat.reduceLT, Nat.reduceBEq, Nat.reduceBNe, Nat.reducePow, ↓reduceIte] <;> omega) | fail) only [go_sem, Nat.reduceAdd, Nat.reduceSub, Nat.reduceMul, Nat.reduceLeDiff, Nat.reduceEqDiff, Nat.reduceLT, Nat.reduceBEq, Nat.reduceBNe, Nat.reducePow, ↓reduceIte, nat_int, h, hle, hc, e1, e2, e3, hws, ne_eq, not_false_eq_true, not_true]
          first | exact hg | exact ⟨rfl, hg⟩
        · have e1 : (c < 97) = False := eq_false (by omega)
          have e2 : (122 < c) = False := eq_false (by omega)
          have e3 : (c = 58) = False := eq_false (by omega)
          have hg := good (.inl t)
          simp (maxSteps := 200000) (disch := first | omega | (simp only [go_sem, Nat.reduceAdd, Nat.reduceSub, Nat.reduceMul, Nat.reduceLeDiff, Nat.reduceEqDiff, Nat.reduceLT, Nat.reduceBEq, Nat.reduceBNe, Nat.reducePow, ↓reduceIte] <;> omega) | fail) only [go_sem, Nat.reduceAdd, Nat.reduceSub, Nat.reduceMul, Nat.reduceLeDiff, Nat.reduceEqDiff, Nat.reduceLT, Nat.reduceBEq, Nat.reduceBNe, Nat.reducePow, ↓reduceIte, nat_int, h, hle, hc, e1, e2, e3, hws, ne_eq, not_false_eq_true, not_true]
          first | exact hg | exact ⟨rfl, hg⟩
        · have e1 : (c < 97) = False := eq_false (by omega)
          have e2 : (122 < c) = True := eq_true (by omega)
          have e3 : (c = 58) = False := eq_false (by omega)
          simp (maxSteps := 200000) (disch := first | omega | (simp only [go_sem, Nat.reduceAdd, Nat.reduceSub, Nat.reduceMul, Nat.reduceLeDiff, Nat.reduceEqDiff, Nat.reduceLT, Nat.reduceBEq, Nat.reduceBNe, Nat.reducePow, ↓reduceIte] <;> omega) | fail) only [go_sem, Nat.reduceAdd, Nat.reduceSub, Nat.reduceMul, Nat.reduceLeDiff, Nat.reduceEqDiff, Nat.reduceLT, Nat.reduceBEq, Nat.reduceBNe, Nat.reducePow, ↓reduceIte, nat_int, h, hle, hc, e1, e2, e3, hws, ne_eq, not_false_eq_true, not_true]
      · intro hall
        have hgood : goodS a := ⟨g1, by omega, hall⟩
        simp (maxSteps := 200000) (disch := first | omega | (simp only [go_sem, Nat.reduceAdd, Nat.reduceSub, Nat.reduceMul, Nat.reduceLeDiff, Nat.reduceEqDiff, Nat.reduceLT, Nat.reduceBEq, Nat.reduceBNe, Nat.reducePow, ↓reduceIte] <;> omega) | fail) only [go_sem, Nat.reduceAdd, Nat.reduceSub, Nat.reduceMul, Nat.reduceLeDiff, Nat.reduceEqDiff, Nat.reduceLT, Nat.reduceBEq, Nat.reduceBNe, Nat.reducePow, ↓reduceIte, nat_int, c0, c1, Nat.lt_irrefl, wr0]
        first | exact ⟨fun _ => hgood, fun h => absurd h (by decide)⟩ | exact ⟨fun _ => hgood, fun h => h.elim⟩ | exact ⟨rfl, fun _ => hgood, fun h => absurd h (by decide)⟩
    · by_cases g1 : b = ⟨#[]⟩
      · have q1 : (b = (⟨#[]⟩ : ByteArray)) = True := eq_true g1
        simp (maxSteps := 200000) (disch := first | omega | (simp only [go_sem, Nat.reduceAdd, Nat.reduceSub, Nat.reduceMul, Nat.reduceLeDiff, Nat.reduceEqDiff, Nat.reduceLT, Nat.reduceBEq, Nat.reduceBNe, Nat.reducePow, ↓reduceIte] <;> omega) | fail) only [go_sem, Nat.reduceAdd, Nat.reduceSub, Nat.reduceMul, Nat.reduceLeDiff, Nat.reduceEqDiff, Nat.reduceLT, Nat.reduceBEq, Nat.reduceBNe, Nat.reducePow, ↓reduceIte, nat_int, c0, c1, lt1, lt2, idxS0, idxS1, q1]
      have q1 : (b = (⟨#[]⟩ : ByteArray)) = False := eq_false g1
      by_cases g2 : 30 < b.size
      · have q2 : ((30 : Int) < (b.size : Int)) = True := eq_true (by omega)
        have q3 : (30 < b.size) = True := eq_true g2
        simp (maxSteps := 200000) (disch := first | omega | (simp only [go_sem, Nat.reduceAdd, Nat.reduceSub, Nat.reduceMul, Nat.reduceLeDiff, Nat.reduceEqDiff, Nat.reduceLT, Nat.reduceBEq, Nat.reduceBNe, Nat.reducePow, ↓reduceIte] <;> omega) | fail) only [go_sem, Nat.reduceAdd, Nat.reduceSub, Nat.reduceMul, Nat.reduceLeDiff, Nat.reduceEqDiff, Nat.reduceLT, Nat.reduceBEq, Nat.reduceBNe, Nat.reducePow, ↓reduceIte, nat_int, c0, c1, lt1, lt2, idxS0, idxS1, q1, q2, q3]
      have q2 : ((30 : Int) < (b.size : Int)) = False := eq_false (by omega)
      have q3 : (30 < b.size) = False := eq_false g2
      simp (maxSteps := 200000) (disch := first | omega | (simp only [go_sem, Nat.reduceAdd, Nat.reduceSub, Nat.reduceMul, Nat.reduceLeDiff, Nat.reduceEqDiff, Nat.reduceLT, Nat.reduceBEq, Nat.reduceBNe, Nat.reducePow, ↓reduceIte] <;> omega) | fail) only [go_sem, Nat.reduceAdd, Nat.reduceSub, Nat.reduceMul, Nat.reduceLeDiff, Nat.reduceEqDiff, Nat.reduceLT, Nat.reduceBEq, Nat.reduceBNe, Nat.reducePow, ↓reduceIte, nat_int, c0, c1, lt1, lt2, idxS0, idxS1, q1, q2, q3]
      refine WP_range 9 0 b.size (fun j => S_9_9 (vS a) (vS b) (vB inn) (vS b) (.fs [[vS a], [vS b]] true) (vI 2) (vI 1) (vI b.size) (vI j) []) (fun j => ∀ t, t < j → okI (byteAt b t)) rfl rfl ?_ ?_ ?_ ?_
      · simp (maxSteps := 200000) (disch := first | omega | (simp only [go_sem, Nat.reduceAdd, Nat.reduceSub, Nat.reduceMul, Nat.reduceLeDiff, Nat.reduceEqDiff, Nat.reduceLT, Nat.reduceBEq, Nat.reduceBNe, Nat.reducePow, ↓reduceIte] <;> omega) | fail) only [go_sem, Nat.reduceAdd, Nat.reduceSub, Nat.reduceMul, Nat.reduceLeDiff, Nat.reduceEqDiff, Nat.reduceLT, Nat.reduceBEq, Nat.reduceBNe, Nat.reducePow, ↓reduceIte]; rfl
      · intro t ht; exact absurd ht (Nat.not_lt_zero _)
      · intro j h hall
        have hws := wrap_succ h (show b.size ≤ 140737488355328 by omega)
        have good : okI (byteAt b j) → ∀ t, t < j + 1 → okI (byteAt b t) := by
          intro hg t ht
          rcases Nat.lt_succ_iff_lt_or_eq.1 ht with h | rfl
          · exact hall t h
          · exact hg
        have hle : j < b.size := h
        obtain ⟨c, hc⟩ : ∃ c, byteAt b j = c := ⟨_, rfl⟩
        rw [hc] at good
        have tri : (c < 97 ∧ c ≠ 58) ∨ c = 58 ∨ (97 ≤ c ∧ c ≤ 122) ∨ 122 < c := by omega
        rcases tri with t | t | t | t
        · have e1 : (c < 97) = True := eq_true (by omega)
          have e2 : (122 < c) = False := eq_false (by omega)
          have e3 : (c = 58) = False := eq_false (by omega)
          simp (maxSteps := 200000) (disch := first | omega | (simp only [go_sem, Nat.reduceAdd, Nat.reduceSub, Nat.reduceMul, Nat.reduceLeDiff, Nat.reduceEqDiff, Nat.reduceLT, Nat.reduceBEq, Nat.reduceBNe, Nat.reducePow, ↓reduceIte] <;> omega) | fail) only [go_sem, Nat.reduceAdd, Nat.reduceSub, Nat.reduceMul, Nat.reduceLeDiff, Nat.reduceEqDiff, Nat.reduceLT, Nat.reduceBEq, Nat.reduceBNe, Nat.reducePow, ↓reduceIte, nat_int, h, hle, hc, e1, e2, e3, hws, ne_eq, not_false_eq_true, not_true]
        · have e1 : (c < 97) = True := eq_true (by omega)
          have e2 : (122 < c) = False := eq_false (by omega)
          have e3 : (c = 58) = True := eq_true (by omega)
          have hg := good (.inr t)
          simp (maxSteps := 200000) (disch := first | omega | (simp only [go_sem, Nat.reduceAdd, Nat.reduceSub, Nat.reduceMul, Nat.reduceLeDiff, Nat.reduceEqDiff, Nat.reduceLT, Nat.reduceBEq, Nat.reduceBNe, Nat.reducePow, ↓reduceIte] <;> omega) | fail) only [go_sem, Nat.reduceAdd, Nat.reduceSub, Nat.reduceMul, Nat.reduceLeDiff, Nat.reduceEqDiff, Nat.reduceLT, Nat.reduceBEq, Nat.reduceBNe, Nat.reducePow, ↓reduceIte, nat_int, h, hle, hc, e1, e2, e3, hws, ne_eq, not_false_eq_true, not_true]
          first | exact hg | exact ⟨rfl, hg⟩
        · have e1 : (c < 97) = False := eq_false (by omega)
          have e2 : (122 < c) = False := eq_false (by omega)
          have e3 : (c = 58) = False := eq_false (by omega)
          have hg := good (.inl t)
          simp (maxSteps := 200000) (disch := first | omega | (simp only [go_sem, Nat.reduceAdd, Nat.reduceSub, Nat.reduceMul, Nat.reduceLeDiff, Nat.reduceEqDiff, Nat.reduceLT, Nat.reduceBEq, Nat.reduceBNe, Nat.reducePow, ↓reduceIte] <;> omega) | fail) only [go_sem, Nat.reduceAdd, Nat.reduceSub, Nat.reduceMul, Nat.reduceLeDiff, Nat.reduceEqDiff, Nat.reduceLT, Nat.reduceBEq, Nat.reduceBNe, Nat.reducePow, ↓reduceIte, nat_int, h, hle, hc, e1, e2, e3, hws, ne_eq, not_false_eq_true, not_true]
          first | exact hg | exact ⟨rfl, hg⟩
        · have e1 : (c < 97) = False := eq_false (by omega)
          have e2 : (122 < c) = True := eq_true (by omega)
          have e3 : (c = 58) = False := eq_false (by omega)
          simp (maxSteps := 200000) (disch := first | omega | (simp only [go_sem, Nat.reduceAdd, Nat.reduceSub, Nat.reduceMul, Nat.reduceLeDiff, Nat.reduceEqDiff, Nat.reduceLT, Nat.reduceBEq, Nat.reduceBNe, Nat.reducePow, ↓reduceIte] <;> omega) | fail) only [go_sem, Nat.reduceAdd, Nat.reduceSub, Nat.reduceMul, Nat.reduceLeDiff, Nat.reduceEqDiff, Nat.reduceLT, Nat.reduceBEq, Nat.reduceBNe, Nat.reducePow, ↓reduceIte, nat_int, h, hle, hc, e1, e2, e3, hws, ne_eq, not_false_eq_true, not_true]
      · intro hall
        have hgood : goodS b := ⟨g1, by omega, hall⟩
        simp (maxSteps := 200000) (disch := first | omega | (simp only [go_sem, Nat.reduceAdd, Nat.reduceSub, Nat.reduceMul, Nat.reduceLeDiff, Nat.reduceEqDiff, Nat.reduceLT, Nat.reduceBEq, Nat.reduceBNe, Nat.reducePow, ↓reduceIte] <;> omega) | fail) only [go_sem, Nat.reduceAdd, Nat.reduceSub, Nat.reduceMul, Nat.reduceLeDiff, Nat.reduceEqDiff, Nat.reduceLT, Nat.reduceBEq, Nat.reduceBNe, Nat.reducePow, ↓reduceIte, nat_int, c0, c1, Nat.lt_irrefl, wr1]
        first | exact ⟨fun _ => hI.1 (by decide), fun _ => hgood⟩ | exact ⟨rfl, fun _ => hI.1 (by decide), fun _ => hgood⟩
  · intro hI
    have c2 : ((2 : Nat) : Int) = 2 := rfl
    have lt1 : ((2 : Int) < 2) = False := eq_false (by decide)
    have hga := hI.1 (by decide)
    have hgb := hI.2 (by decide)
    obtain ⟨al, rfl⟩ : ∃ l, a = mkS l := ⟨lS8 a, (mk_lS8 _).symm⟩
    obtain ⟨bl, rfl⟩ : ∃ l, b = mkS l := ⟨lS8 b, (mk_lS8 _).symm⟩
    obtain ⟨a1, a2, a3⟩ := good_of hga
    obtain ⟨b1, b2, b3⟩ := good_of hgb
    haveI : Sm 30 al := ⟨a2⟩
    haveI : Sm 30 bl := ⟨b2⟩
    have z1 : (mkS [122] = (⟨#[122]⟩ : ByteArray)) = True := eq_true rfl
    have z2 : (((2 : Nat) : Int) = 2) = True := eq_true rfl
    have z3 : ((0 : Int) = 0) = True := eq_true rfl
    have z4 : (((0 : Nat) : Int) = 0) = True := eq_true rfl
    cases inn
    · have hp0 := parse_ns (a := al) (W := al) (M := []) a3 a1 (.inl ⟨rfl, rfl⟩) a2 a2
      have hp := parse_spec (mkS (60 :: 120 :: nsA al (62 :: 60 :: 121 :: ([] ++ tailB)))) (by rw [mk_size]; simp only [nsA, List.length_cons, List.length_append, List.length_nil]; omega)
      rw [hp0] at hp
      rw [eElem_xE] at hp
      simp only [nsA, List.cons_append, List.nil_append, List.append_assoc] at hp
      simp (maxSteps := 200000) (disch := first | omega | (simp only [go_sem, Nat.reduceAdd, Nat.reduceSub, Nat.reduceMul, Nat.reduceLeDiff, Nat.reduceEqDiff, Nat.reduceLT, Nat.reduceBEq, Nat.reduceBNe, Nat.reducePow, ↓reduceIte] <;> omega) | fail) only [go_sem, Nat.reduceAdd, Nat.reduceSub, Nat.reduceMul, Nat.reduceLeDiff, Nat.reduceEqDiff, Nat.reduceLT, Nat.reduceBEq, Nat.reduceBNe, Nat.reducePow, ↓reduceIte, nat_int, c2, lt1, cat, List.append_assoc, callA_data mode_27, hp, idxE0, idxE1, z1, z2, z3, z4, ne_eq, not_true, not_false_eq_true]
    · have hp0 := parse_ns (a := al) (W := bl) (M := nsM bl) a3 a1 (.inr ⟨b3, b1, rfl⟩) a2 b2
      have hp := parse_spec (mkS (60 :: 120 :: nsA al (62 :: 60 :: 121 :: (nsM bl ++ tailB)))) (by rw [mk_size]; simp only [nsA, nsM, List.length_cons, List.length_append, List.length_nil]; omega)
      rw [hp0] at hp
      rw [eElem_xE] at hp
      simp only [nsA, nsM, List.cons_append, List.nil_append, List.append_assoc] at hp
      simp (maxSteps := 200000) (disch := first | omega | (simp only [go_sem, Nat.reduceAdd, Nat.reduceSub, Nat.reduceMul, Nat.reduceLeDiff, Nat.reduceEqDiff, Nat.reduceLT, Nat.reduceBEq, Nat.reduceBNe, Nat.reducePow, ↓reduceIte] <;> omega) | fail) only [go_sem, Nat.reduceAdd, Nat.reduceSub, Nat.reduceMul, Nat.reduceLeDiff, Nat.reduceEqDiff, Nat.reduceLT, Nat.reduceBEq, Nat.reduceBNe, Nat.reducePow, ↓reduceIte, nat_int, c2, lt1, cat, List.append_assoc, callA_data mode_27, hp, idxE0, idxE1, z1, z2, z3, z4, ne_eq, not_true, not_false_eq_true]
end Go.Abs.SA
end
