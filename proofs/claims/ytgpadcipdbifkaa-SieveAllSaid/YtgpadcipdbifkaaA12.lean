/- YtgpadcipdbifkaaA12: a part of the interpreter by which the claim is shown, and of the walks: no conditions of its own: every theorem states its own. -/
import Derived.Test.YtgpadcipdbifkaaA11
section
set_option linter.unusedVariables false
set_option linter.unusedSimpArgs false
set_option maxRecDepth 100000
set_option maxHeartbeats 4000000
set_option linter.unusedSimpArgs false
set_option linter.unusedVariables false
namespace Go.Abs.SA
open Go.Proofs

theorem isDef_spec (d : Def) (k : Str) : pureW XX 53 [aDef d, .fp [vS k]] = some (vB (decide (d.name = k))) := by
  refine pureW_in 8 Try.func53 Try.ntmps53 (by simp) (rfl : Try.f53.body = some _) fns_53 ?_
  simp (maxSteps := 200000) (disch := first | (simp only [go_sem, Nat.reduceAdd, Nat.reduceSub, Nat.reduceMul, Nat.reduceLeDiff, Nat.reduceEqDiff, Nat.reduceLT, Nat.reduceBEq, Nat.reduceBNe, Nat.reducePow, ↓reduceIte]; done) | omega | (simp only [go_sem, Nat.reduceAdd, Nat.reduceSub, Nat.reduceMul, Nat.reduceLeDiff, Nat.reduceEqDiff, Nat.reduceLT, Nat.reduceBEq, Nat.reduceBNe, Nat.reducePow, ↓reduceIte] <;> omega) | fail) only [go_sem, Nat.reduceAdd, Nat.reduceSub, Nat.reduceMul, Nat.reduceLeDiff, Nat.reduceEqDiff, Nat.reduceLT, Nat.reduceBEq, Nat.reduceBNe, Nat.reducePow, ↓reduceIte]
theorem indexDef_spec (l : List Def) (k : Str) (hl : l.length ≤ 140737488355328)  : pureW XX 52 [lD l, .fn 53 [.fp [vS k]]] = some (vI (posI (l.findIdx? fun x => decide (x.name = k)))) := by
  refine pureW_in 19 Try.func52 Try.ntmps52 (by simp) (rfl : Try.f52.body = some _) fns_52 ?_
  simp (maxSteps := 200000) (disch := first | (simp only [go_sem, Nat.reduceAdd, Nat.reduceSub, Nat.reduceMul, Nat.reduceLeDiff, Nat.reduceEqDiff, Nat.reduceLT, Nat.reduceBEq, Nat.reduceBNe, Nat.reducePow, ↓reduceIte]; done) | omega | (simp only [go_sem, Nat.reduceAdd, Nat.reduceSub, Nat.reduceMul, Nat.reduceLeDiff, Nat.reduceEqDiff, Nat.reduceLT, Nat.reduceBEq, Nat.reduceBNe, Nat.reducePow, ↓reduceIte] <;> omega) | fail) only [go_sem, Nat.reduceAdd, Nat.reduceSub, Nat.reduceMul, Nat.reduceLeDiff, Nat.reduceEqDiff, Nat.reduceLT, Nat.reduceBEq, Nat.reduceBNe, Nat.reducePow, ↓reduceIte]
  refine WP_range 2 0 l.length (fun i => S_52_2 (lD l) (.fn 53 [.fp [vS k]]) (vI l.length) (vI i) []) (fun i => (l.findIdx? fun x => decide (x.name = k)) = ((l.drop i).findIdx? fun x => decide (x.name = k)).map (· + i)) rfl rfl ?_ ?_ ?_ ?_
  · simp (maxSteps := 200000) (disch := first | (simp only [go_sem, Nat.reduceAdd, Nat.reduceSub, Nat.reduceMul, Nat.reduceLeDiff, Nat.reduceEqDiff, Nat.reduceLT, Nat.reduceBEq, Nat.reduceBNe, Nat.reducePow, ↓reduceIte]; done) | omega | (simp only [go_sem, Nat.reduceAdd, Nat.reduceSub, Nat.reduceMul, Nat.reduceLeDiff, Nat.reduceEqDiff, Nat.reduceLT, Nat.reduceBEq, Nat.reduceBNe, Nat.reducePow, ↓reduceIte] <;> omega) | fail) only [go_sem, Nat.reduceAdd, Nat.reduceSub, Nat.reduceMul, Nat.reduceLeDiff, Nat.reduceEqDiff, Nat.reduceLT, Nat.reduceBEq, Nat.reduceBNe, Nat.reducePow, ↓reduceIte]; rfl
  · simp
  · intro i h hI
    rw [findIdx_step _ _ h] at hI
    have hk := isDef_spec l[i] k
    cases hv : (fun x => decide (x.name = k)) l[i] with
    | true =>
      simp only at hv
      rw [hv] at hk hI
      simp (maxSteps := 200000) (disch := first | (simp only [go_sem, Nat.reduceAdd, Nat.reduceSub, Nat.reduceMul, Nat.reduceLeDiff, Nat.reduceEqDiff, Nat.reduceLT, Nat.reduceBEq, Nat.reduceBNe, Nat.reducePow, ↓reduceIte]; done) | omega | (simp only [go_sem, Nat.reduceAdd, Nat.reduceSub, Nat.reduceMul, Nat.reduceLeDiff, Nat.reduceEqDiff, Nat.reduceLT, Nat.reduceBEq, Nat.reduceBNe, Nat.reducePow, ↓reduceIte] <;> omega) | fail) only [go_sem, Nat.reduceAdd, Nat.reduceSub, Nat.reduceMul, Nat.reduceLeDiff, Nat.reduceEqDiff, Nat.reduceLT, Nat.reduceBEq, Nat.reduceBNe, Nat.reducePow, ↓reduceIte, nat_int, h, eDef_s, callA_pure mode_53, hk]
      rw [hI]
      simp [posI]
    | false =>
      simp only at hv
      rw [hv] at hk hI
      simp (maxSteps := 200000) (disch := first | (simp only [go_sem, Nat.reduceAdd, Nat.reduceSub, Nat.reduceMul, Nat.reduceLeDiff, Nat.reduceEqDiff, Nat.reduceLT, Nat.reduceBEq, Nat.reduceBNe, Nat.reducePow, ↓reduceIte]; done) | omega | (simp only [go_sem, Nat.reduceAdd, Nat.reduceSub, Nat.reduceMul, Nat.reduceLeDiff, Nat.reduceEqDiff, Nat.reduceLT, Nat.reduceBEq, Nat.reduceBNe, Nat.reducePow, ↓reduceIte] <;> omega) | fail) only [go_sem, Nat.reduceAdd, Nat.reduceSub, Nat.reduceMul, Nat.reduceLeDiff, Nat.reduceEqDiff, Nat.reduceLT, Nat.reduceBEq, Nat.reduceBNe, Nat.reducePow, ↓reduceIte, nat_int, h, eDef_s, callA_pure mode_53, hk, wrap_succ h hl]
      rw [hI]
      simp
      congr 1
      funext x
      simp
      omega
  · intro hI
    simp (maxSteps := 200000) (disch := first | (simp only [go_sem, Nat.reduceAdd, Nat.reduceSub, Nat.reduceMul, Nat.reduceLeDiff, Nat.reduceEqDiff, Nat.reduceLT, Nat.reduceBEq, Nat.reduceBNe, Nat.reducePow, ↓reduceIte]; done) | omega | (simp only [go_sem, Nat.reduceAdd, Nat.reduceSub, Nat.reduceMul, Nat.reduceLeDiff, Nat.reduceEqDiff, Nat.reduceLT, Nat.reduceBEq, Nat.reduceBNe, Nat.reducePow, ↓reduceIte] <;> omega) | fail) only [go_sem, Nat.reduceAdd, Nat.reduceSub, Nat.reduceMul, Nat.reduceLeDiff, Nat.reduceEqDiff, Nat.reduceLT, Nat.reduceBEq, Nat.reduceBNe, Nat.reducePow, ↓reduceIte, nat_int]
    rw [hI]
    simp [posI]
theorem find_spec (l : List Def) (k : Str) (hl : l.length ≤ 140737488355328) : pureW XX 31 [lD l, vS k] = some (vI (posI (place l k))) := by
  refine pureW_in 8 Try.func31 Try.ntmps31 (by simp) (rfl : Try.f31.body = some _) fns_31 ?_
  have hi := indexDef_spec l k hl
  simp (maxSteps := 200000) (disch := first | (simp only [go_sem, Nat.reduceAdd, Nat.reduceSub, Nat.reduceMul, Nat.reduceLeDiff, Nat.reduceEqDiff, Nat.reduceLT, Nat.reduceBEq, Nat.reduceBNe, Nat.reducePow, ↓reduceIte]; done) | omega | (simp only [go_sem, Nat.reduceAdd, Nat.reduceSub, Nat.reduceMul, Nat.reduceLeDiff, Nat.reduceEqDiff, Nat.reduceLT, Nat.reduceBEq, Nat.reduceBNe, Nat.reducePow, ↓reduceIte] <;> omega) | fail) only [go_sem, Nat.reduceAdd, Nat.reduceSub, Nat.reduceMul, Nat.reduceLeDiff, Nat.reduceEqDiff, Nat.reduceLT, Nat.reduceBEq, Nat.reduceBNe, Nat.reducePow, ↓reduceIte, callA_pure mode_52, hi]
  rfl

/-! make. -/
def makK2 (h : List Blk) (e : Nat) (n m : Int) : Option TI → Option (List AV) → Option Res
  | some ie, some z => if 0 ≤ n ∧ n ≤ m ∧ ie.bytes * m ≤ 2 ^ 47 ∧ z.length = ie.size ∧ 0 < ie.size ∧ 0 < ie.bytes then
        some (.new (.sl h.length 0 n.toNat false) [.arr e ie.size (List.replicate n.toNat (z.map normC))]) else none
  | _, _ => none
def makK (P : Program) (h : List Blk) (l c : AV) : Option TI → Option Res
  | some ⟨.slice e, _, _, _⟩ => match l, c with
    | .v (.int _ n), .v (.int _ m) => makK2 h e n m (tyOf P e) (zeroA P e)
    | _, _ => none
  | _ => none
theorem makeA_s {P : Program} (ts : List AV) (h : List Blk) (t : Nat) (l c : AV) : makeA P ⟨ts, h⟩ t l c = makK P h l c (tyOf P t) := by
  unfold makeA makK
  cases tyOf P t with
  | none => rfl
  | some q =>
    obtain ⟨d, a, b, z⟩ := q
    cases d with
    | slice e =>
      cases l with
      | v x => cases x <;> first | rfl | (cases c <;> first | rfl | (rename_i y; cases y <;> first | rfl | (dsimp only [makK2]; cases tyOf P e <;> cases zeroA P e <;> rfl)))
      | _ => first | rfl | (cases c <;> first | rfl | (rename_i y; cases y <;> rfl))
    | _ => rfl
theorem makK_slice {P : Program} (h : List Blk) (k k' : IntKind) (n m : Int) (e a b : Nat) (z : Option Value) : makK P h (.v (.int k n)) (.v (.int k' m)) (some ⟨.slice e, a, b, z⟩) = makK2 h e n m (tyOf P e) (zeroA P e) := nr rfl
theorem makK2_some (h : List Blk) (e : Nat) (n : Nat) (d : TD) (a b : Nat) (zz : Option Value) (z : List AV) (h1 : b * n ≤ 140737488355328) (h2 : z.length = a) (h3 : 0 < a) (h4 : 0 < b) :
    makK2 h e (n : Int) (n : Int) (some ⟨d, a, b, zz⟩) (some z) = some (.new (.sl h.length 0 n false) [.arr e a (List.replicate n (z.map normC))]) := by
  simp only [makK2]
  rw [if_pos ⟨by omega, by omega, by rw [← Int.natCast_mul]; omega, h2, h3, h4⟩]
  simp
attribute [go_sem] makeA_s makK_slice makK2_some
/-! Blocks that come of a call. -/
def renSl (off len : Nat) (b : Bool) : Option Nat → AV
  | some i => .sl i off len b
  | none => .junk
def renPtr (off : Nat) : Option Nat → AV
  | some i => .ptr i off
  | none => .junk
def renEp (i o : Nat) : Option Nat → AV
  | some j => .eptr j i o
  | none => .junk
theorem ren_sl (f : Nat → Option Nat) (id off len : Nat) (b : Bool) : AV.ren f (.sl id off len b) = renSl off len b (f id) := by rw [AV.ren]; cases f id <;> rfl
theorem ren_ptr (f : Nat → Option Nat) (id off : Nat) : AV.ren f (.ptr id off) = renPtr off (f id) := by rw [AV.ren]; cases f id <;> rfl
theorem ren_eptr (f : Nat → Option Nat) (id i o : Nat) : AV.ren f (.eptr id i o) = renEp i o (f id) := by rw [AV.ren]; cases f id <;> rfl
theorem renSl_some (off len i : Nat) (b : Bool) : renSl off len b (some i) = .sl i off len b := nr rfl
theorem renPtr_some (off i : Nat) : renPtr off (some i) = .ptr i off := nr rfl
theorem renEp_some (i o j : Nat) : renEp i o (some j) = .eptr j i o := nr rfl
theorem ren_v (f : Nat → Option Nat) (x : Value) : AV.ren f (.v x) = .v x := by rw [AV.ren] <;> simp
theorem ren_fs (f : Nat → Option Nat) (es : List (List AV)) (b : Bool) : AV.ren f (.fs es b) = .fs es b := by rw [AV.ren] <;> simp
theorem ren_fp (f : Nat → Option Nat) (cs : List AV) : AV.ren f (.fp cs) = .fp cs := by rw [AV.ren] <;> simp
theorem ren_junk (f : Nat → Option Nat) : AV.ren f .junk = .junk := by rw [AV.ren] <;> simp
theorem rens_nil (f : Nat → Option Nat) : AV.rens f [] = [] := by rw [AV.rens]
theorem rens_cons (f : Nat → Option Nat) (x : AV) (xs : List AV) : AV.rens f (x :: xs) = x.ren f :: AV.rens f xs := by rw [AV.rens]
theorem ren_agg (f : Nat → Option Nat) (cs : List AV) : AV.ren f (.agg cs) = .agg (AV.rens f cs) := by rw [AV.ren]
theorem bren_var (f : Nat → Option Nat) (cs : List AV) : Blk.ren f (.var cs) = .var (AV.rens f cs) := nr rfl
theorem bren_arr (f : Nat → Option Nat) (e sz : Nat) (es : List (List AV)) : Blk.ren f (.arr e sz es) = .arr e sz es := nr rfl
theorem bren_dead (f : Nat → Option Nat) : Blk.ren f .dead = .dead := nr rfl
attribute [go_sem] ren_sl ren_ptr ren_eptr renSl_some renPtr_some renEp_some ren_v ren_fs ren_fp ren_junk rens_nil rens_cons ren_agg bren_var bren_arr bren_dead
/-! A store into an element. -/
def stEl2 (n id j o : Nat) (t' : List AV) (h' : List Blk) : Option Blk → Option (List AV) → Option St
  | some (.arr e sz es), some new => (match es[j]? with
          | some c => if new.length = n ∧ o + new.length ≤ c.length then some ⟨t', h'.set id (.arr e sz (es.set j (splice c o (new.map normC))))⟩ else none
          | none => none)
  | _, _ => none
def stEl (n id j o : Nat) : Option (List AV × St) → Option St
  | some ([y], s') => stEl2 n id j o s'.t s'.h s'.h[id]? y.cells?
  | _ => none
theorem storeK_eptr (t : List AV) (h : List Blk) (id j o : Nat) (x : AV) (d : TD) (n c : Nat) (z : Option Value) : storeK ⟨t, h⟩ (.eptr id j o) x (some ⟨d, n, c, z⟩) = stEl n id j o (freeze ⟨t, h⟩ [x]) := by
  simp only [storeK, stEl]
  cases hf : freeze ⟨t, h⟩ [x] with
  | none => rfl
  | some p =>
    obtain ⟨ys, s'⟩ := p
    cases ys with
    | nil => rfl
    | cons y r =>
      cases r with
      | nil =>
        obtain ⟨t', h'⟩ := s'
        dsimp only [stEl2]
        cases h'[id]? with
        | none => rfl
        | some b => cases b with
          | arr e sz es => cases y.cells? <;> first | rfl | (dsimp only; cases es[j]? <;> rfl)
          | _ => cases y.cells? <;> rfl
      | cons _ _ => rfl
theorem stEl_some (n id j o : Nat) (y : AV) (t' : List AV) (h' : List Blk) : stEl n id j o (some ([y], ⟨t', h'⟩)) = stEl2 n id j o t' h' h'[id]? y.cells? := nr rfl
theorem stEl2_map {α : Type} {l : List α} {enc : α → List AV} {e id j : Nat} {t' : List AV} {h' : List Blk} {x : AV} [h3 : EL enc 1] (hj : j < l.length) :
    stEl2 1 id j 0 t' h' (some (.arr e 1 (l.map enc))) (some [x]) = some ⟨t', h'.set id (.arr e 1 ((l.map enc).set j [normC x]))⟩ := by
  simp only [stEl2]
  rw [List.getElem?_map, List.getElem?_eq_getElem hj]
  simp only [Option.map_some]
  rw [if_pos ⟨rfl, by rw [h3.len]; simp⟩]
  have h1 : (enc l[j]).length = 1 := h3.len _
  obtain ⟨c, hc⟩ := List.length_eq_one_iff.1 h1
  rw [hc]
  rfl
theorem reachK_if (h : List Blk) (k : Nat) (acc more : List Nat) : reachK h k acc more = if more.length = acc.length then acc else reach h k more := nr rfl
attribute [go_sem] reachK_if storeK_eptr stEl_some stEl2_map

/-! Picks. -/
inductive Pk where
  | nil
  | mk (all : Bool) (kids : List Pk)
  deriving Inhabited
mutual
def aPk : Pk → AV
  | .nil => .v (.pointer none)
  | .mk a k => .fp [vB a, .fs (ePks k) false]
def ePks : List Pk → List (List AV)
  | [] => []
  | p :: r => [aPk p] :: ePks r
end
def ePk (p : Pk) : List AV := [aPk p]
theorem ePks_map : ∀ (l : List Pk), ePks l = l.map ePk
  | [] => by rw [ePks]; rfl
  | p :: r => by rw [ePks, ePks_map r]; rfl
theorem ePk_len (p : Pk) : (ePk p).length = 1 := rfl
theorem ePk_s (p : Pk) : ePk p = [aPk p] := nr rfl
theorem aPk_nil : aPk .nil = .v (.pointer none) := by rw [aPk]
theorem aPk_mk (a : Bool) (k : List Pk) : aPk (.mk a k) = .fp [vB a, .fs (k.map ePk) false] := by rw [aPk, ePks_map]
attribute [go_sem] ePk_len
instance : EL ePk 1 := ⟨ePk_len⟩
abbrev lP (l : List Pk) : AV := .fs (l.map ePk) false
theorem aPk_lt (n : Nat) (p : Pk) : AV.lt n (aPk p) = true := by cases p <;> (rw [aPk]; rfl)
theorem aPk_frz (h : List Blk) (k : Nat) (p : Pk) : frz h k (aPk p) = some (aPk p) := by cases p <;> (rw [aPk]; first | exact frz_v .. | exact frz_fp ..)
theorem aPk_cells (p : Pk) : (aPk p).cells? = some [aPk p] := by cases p <;> (rw [aPk]; rfl)
theorem aPk_norm (p : Pk) : normC (aPk p) = aPk p := by cases p <;> (rw [aPk]; rfl)
theorem aPk_ids (p : Pk) : idsOf (aPk p) = [] := by cases p <;> (rw [aPk]; rfl)
theorem aPk_sub (hm : List Blk) (is : List Nat) (p : Pk) : AV.sub hm is (aPk p) = aPk p := by cases p <;> (rw [aPk]; first | exact sub_v .. | exact sub_fp ..)
theorem aPk_ren (f : Nat → Option Nat) (p : Pk) : AV.ren f (aPk p) = aPk p := by cases p <;> (rw [aPk]; first | exact ren_v .. | exact ren_fp ..)
theorem set_P (l : List Pk) (i : Nat) (p : Pk) : (l.map ePk).set i [aPk p] = (l.set i p).map ePk := by rw [List.map_set]; rfl
theorem mk_P (k : List Pk) : AV.fp [.v (.bool false), .fs (k.map ePk) false] = aPk (.mk false k) := (aPk_mk false k).symm
attribute [go_sem] aPk_lt aPk_frz aPk_cells aPk_norm aPk_ids aPk_sub aPk_ren set_P
abbrev wholeP : Pk := .mk true []
theorem whole_spec : pureW XX 70 [] = some (aPk wholeP) := by
  rw [aPk_mk]
  refine pureW_in 3 Try.func70 Try.ntmps70 (by simp) (rfl : Try.f70.body = some _) fns_70 ?_
  simp (maxSteps := 200000) (disch := first | (simp only [go_sem, Nat.reduceAdd, Nat.reduceSub, Nat.reduceMul, Nat.reduceLeDiff, Nat.reduceEqDiff, Nat.reduceLT, Nat.reduceBEq, Nat.reduceBNe, Nat.reducePow, ↓reduceIte]; done) | omega | (simp only [go_sem, Nat.reduceAdd, Nat.reduceSub, Nat.reduceMul, Nat.reduceLeDiff, Nat.reduceEqDiff, Nat.reduceLT, Nat.reduceBEq, Nat.reduceBNe, Nat.reducePow, ↓reduceIte] <;> omega) | fail) only [go_sem, Nat.reduceAdd, Nat.reduceSub, Nat.reduceMul, Nat.reduceLeDiff, Nat.reduceEqDiff, Nat.reduceLT, Nat.reduceBEq, Nat.reduceBNe, Nat.reducePow, ↓reduceIte]
theorem none_spec (n : Nat) (hn : n ≤ 1099511627776) : loudW XX 62 [vI n] [] = some (.ptr 1 0, [.arr 77 1 ((List.replicate n Pk.nil).map ePk), .var [vB false, .sl 0 0 n false]]) := by
  refine loudW_in 7 Try.func62 Try.ntmps62 (by simp) (rfl : Try.f62.body = some _) fns_62 ?_
  simp (maxSteps := 200000) (disch := first | (simp only [go_sem, Nat.reduceAdd, Nat.reduceSub, Nat.reduceMul, Nat.reduceLeDiff, Nat.reduceEqDiff, Nat.reduceLT, Nat.reduceBEq, Nat.reduceBNe, Nat.reducePow, ↓reduceIte]; done) | omega | (simp only [go_sem, Nat.reduceAdd, Nat.reduceSub, Nat.reduceMul, Nat.reduceLeDiff, Nat.reduceEqDiff, Nat.reduceLT, Nat.reduceBEq, Nat.reduceBNe, Nat.reducePow, ↓reduceIte] <;> omega) | fail) only [go_sem, Nat.reduceAdd, Nat.reduceSub, Nat.reduceMul, Nat.reduceLeDiff, Nat.reduceEqDiff, Nat.reduceLT, Nat.reduceBEq, Nat.reduceBNe, Nat.reducePow, ↓reduceIte]
  simp [ePk, aPk_nil]
end Go.Abs.SA
end

section
set_option linter.unusedVariables false
set_option linter.unusedSimpArgs false
set_option maxRecDepth 100000
set_option maxHeartbeats 4000000
set_option linter.unusedSimpArgs false
set_option linter.unusedVariables false
namespace Go.Abs.SA
open Go.Proofs

mutual
/-- What either chooses. -/
def joinP : Pk → Pk → Pk
  | .nil, q => q
  | .mk a k, .nil => .mk a k
  | .mk a k, .mk b m => if a || b then wholeP else .mk false (joinL k m)
def joinL : List Pk → List Pk → List Pk
  | p :: r, q :: s => joinP p q :: joinL r s
  | _, _ => []
end
/-- Picks of one shape: one that is all has no kids told; two lists of kids are of one length. -/
inductive Shape : Pk → Pk → Prop
  | nil (q : Pk) : Shape .nil q
  | nil' (p : Pk) : Shape p .nil
  | all (a b : Bool) (k m : List Pk) (h : (a || b) = true) : Shape (.mk a k) (.mk b m)
  | some (k m : List Pk) (hl : k.length = m.length) (h : ∀ (i : Nat) (p q : Pk), k[i]? = some p → m[i]? = some q → Shape p q) : Shape (.mk false k) (.mk false m)
theorem join_nil (q : Pk) : loudW XX 63 [aPk .nil, aPk q] [] = some (aPk q, []) := by
  rw [aPk_nil]
  refine loudW_in 64 Try.func63 Try.ntmps63 (by simp) (rfl : Try.f63.body = some _) fns_63 ?_
  simp (maxSteps := 200000) (disch := first | (simp only [go_sem, Nat.reduceAdd, Nat.reduceSub, Nat.reduceMul, Nat.reduceLeDiff, Nat.reduceEqDiff, Nat.reduceLT, Nat.reduceBEq, Nat.reduceBNe, Nat.reducePow, ↓reduceIte]; done) | omega | (simp only [go_sem, Nat.reduceAdd, Nat.reduceSub, Nat.reduceMul, Nat.reduceLeDiff, Nat.reduceEqDiff, Nat.reduceLT, Nat.reduceBEq, Nat.reduceBNe, Nat.reducePow, ↓reduceIte] <;> omega) | fail) only [go_sem, Nat.reduceAdd, Nat.reduceSub, Nat.reduceMul, Nat.reduceLeDiff, Nat.reduceEqDiff, Nat.reduceLT, Nat.reduceBEq, Nat.reduceBNe, Nat.reducePow, ↓reduceIte]
theorem join_nil' (a : Bool) (k : List Pk) : loudW XX 63 [aPk (.mk a k), aPk .nil] [] = some (aPk (.mk a k), []) := by
  rw [aPk_nil, aPk_mk]
  refine loudW_in 64 Try.func63 Try.ntmps63 (by simp) (rfl : Try.f63.body = some _) fns_63 ?_
  simp (maxSteps := 200000) (disch := first | (simp only [go_sem, Nat.reduceAdd, Nat.reduceSub, Nat.reduceMul, Nat.reduceLeDiff, Nat.reduceEqDiff, Nat.reduceLT, Nat.reduceBEq, Nat.reduceBNe, Nat.reducePow, ↓reduceIte]; done) | omega | (simp only [go_sem, Nat.reduceAdd, Nat.reduceSub, Nat.reduceMul, Nat.reduceLeDiff, Nat.reduceEqDiff, Nat.reduceLT, Nat.reduceBEq, Nat.reduceBNe, Nat.reducePow, ↓reduceIte] <;> omega) | fail) only [go_sem, Nat.reduceAdd, Nat.reduceSub, Nat.reduceMul, Nat.reduceLeDiff, Nat.reduceEqDiff, Nat.reduceLT, Nat.reduceBEq, Nat.reduceBNe, Nat.reducePow, ↓reduceIte]
theorem join_all (a b : Bool) (k m : List Pk) (h : (a || b) = true) : loudW XX 63 [aPk (.mk a k), aPk (.mk b m)] [] = some (aPk wholeP, []) := by
  rw [aPk_mk, aPk_mk]
  refine loudW_in 64 Try.func63 Try.ntmps63 (by simp) (rfl : Try.f63.body = some _) fns_63 ?_
  have hw := whole_spec
  cases a with
  | true =>
    simp (maxSteps := 200000) (disch := first | (simp only [go_sem, Nat.reduceAdd, Nat.reduceSub, Nat.reduceMul, Nat.reduceLeDiff, Nat.reduceEqDiff, Nat.reduceLT, Nat.reduceBEq, Nat.reduceBNe, Nat.reducePow, ↓reduceIte]; done) | omega | (simp only [go_sem, Nat.reduceAdd, Nat.reduceSub, Nat.reduceMul, Nat.reduceLeDiff, Nat.reduceEqDiff, Nat.reduceLT, Nat.reduceBEq, Nat.reduceBNe, Nat.reducePow, ↓reduceIte] <;> omega) | fail) only [go_sem, Nat.reduceAdd, Nat.reduceSub, Nat.reduceMul, Nat.reduceLeDiff, Nat.reduceEqDiff, Nat.reduceLT, Nat.reduceBEq, Nat.reduceBNe, Nat.reducePow, ↓reduceIte, callA_data mode_70, hw]
  | false =>
    simp only [Bool.false_or] at h
    subst h
    simp (maxSteps := 200000) (disch := first | (simp only [go_sem, Nat.reduceAdd, Nat.reduceSub, Nat.reduceMul, Nat.reduceLeDiff, Nat.reduceEqDiff, Nat.reduceLT, Nat.reduceBEq, Nat.reduceBNe, Nat.reducePow, ↓reduceIte]; done) | omega | (simp only [go_sem, Nat.reduceAdd, Nat.reduceSub, Nat.reduceMul, Nat.reduceLeDiff, Nat.reduceEqDiff, Nat.reduceLT, Nat.reduceBEq, Nat.reduceBNe, Nat.reducePow, ↓reduceIte] <;> omega) | fail) only [go_sem, Nat.reduceAdd, Nat.reduceSub, Nat.reduceMul, Nat.reduceLeDiff, Nat.reduceEqDiff, Nat.reduceLT, Nat.reduceBEq, Nat.reduceBNe, Nat.reducePow, ↓reduceIte, callA_data mode_70, hw]

theorem joinL_len : ∀ (k m : List Pk), (joinL k m).length = min k.length m.length
  | [], m => by rw [joinL]; simp; intros; simp_all
  | p :: r, [] => by rw [joinL]; simp; intros; simp_all
  | p :: r, q :: s => by rw [joinL, List.length_cons, joinL_len r s]; simp
theorem joinL_get : ∀ (k m : List Pk) (i : Nat) (h1 : i < k.length) (h2 : i < m.length) (h3 : i < (joinL k m).length), (joinL k m)[i] = joinP k[i] m[i]
  | p :: r, q :: s, 0, h1, h2, h3 => by simp [joinL]
  | p :: r, q :: s, i + 1, h1, h2, h3 => by
    simp only [joinL, List.getElem_cons_succ]
    exact joinL_get r s i (by simpa using h1) (by simpa using h2) _
/-- The first i of one list, the rest nothing. -/
def upto (l : List Pk) (i : Nat) : List Pk := l.take i ++ List.replicate (l.length - i) .nil
theorem upto_len (l : List Pk) (i : Nat) : (upto l i).length = l.length := by simp [upto]; omega
theorem upto_zero (l : List Pk) : upto l 0 = List.replicate l.length .nil := by simp [upto]
theorem upto_all (l : List Pk) : upto l l.length = l := by simp [upto]
theorem upto_get (l : List Pk) (i j : Nat) (h : j < l.length) : (upto l i)[j]? = some (if j < i then l[j] else .nil) := by
  unfold upto
  by_cases hj : j < i
  · rw [List.getElem?_append_left (by simp; omega), if_pos hj, List.getElem?_take, if_pos hj, List.getElem?_eq_getElem h]
  · rw [List.getElem?_append_right (by simp; omega), if_neg hj, List.getElem?_replicate, if_pos (by simp; omega)]
theorem upto_set (l : List Pk) {i : Nat} (h : i < l.length) : (upto l i).set i l[i] = upto l (i + 1) := by
  apply List.ext_getElem?
  intro j
  by_cases hj : j < l.length
  · rw [upto_get l (i + 1) j hj, List.getElem?_set, upto_len]
    by_cases he : i = j
    · subst he; simp [h]
    · rw [if_neg he, upto_get l i j hj]
      by_cases hlt : j < i
      · rw [if_pos hlt, if_pos (by omega)]
      · rw [if_neg hlt, if_neg (by omega)]
  · rw [List.getElem?_eq_none (by simp [upto_len]; omega), List.getElem?_eq_none (by simp [upto_len]; omega)]
mutual
def cntP : Pk → Nat
  | .nil => 1
  | .mk _ k => 1 + cntPs k
def cntPs : List Pk → Nat
  | [] => 0
  | p :: r => cntP p + cntPs r
end
theorem cntP_mem : ∀ {l : List Pk} {p : Pk}, p ∈ l → cntP p ≤ cntPs l
  | x :: r, p, h => by
    rw [cntPs]
    rcases List.mem_cons.1 h with rfl | h
    · omega
    · have := cntP_mem h; omega
theorem join_cases {p q : Pk} (h : Shape p q) : loudW XX 63 [aPk p, aPk q] [] = some (aPk (joinP p q), []) ∨ ∃ c c', p = .mk false c ∧ q = .mk false c' := by
  cases h with
  | nil q => left; rw [joinP]; exact join_nil q
  | nil' p =>
    left
    cases p with
    | nil => rw [joinP]; exact join_nil _
    | mk a k => rw [joinP]; exact join_nil' a k
  | all a b k m h => left; rw [joinP, if_pos h]; exact join_all a b k m h
  | some k m hl h => exact .inr ⟨k, m, rfl, rfl⟩
theorem join_spec : ∀ (n : Nat) (k m : List Pk), cntPs k < n → n ≤ 1000000 → Shape (.mk false k) (.mk false m) → k.length ≤ 1099511627776 → 
    loudW XX 63 [aPk (.mk false k), aPk (.mk false m)] [] = some (.ptr 1 0, [.arr 77 1 ((joinL k m).map ePk), .var [vB false, .sl 0 0 (joinL k m).length false]]) := by
  intro n
  induction n with
  | zero => intro k m h; omega
  | succ n ih =>
    intro k m hn hnb hs hk
    have hlm : k.length = m.length := by
      cases hs with
      | all _ _ _ _ h => simp at h
      | some _ _ h _ => exact h
    have hjl : (joinL k m).length = k.length := by rw [joinL_len]; omega
    rw [aPk_mk, aPk_mk, hjl]
    refine loudW_in 64 Try.func63 Try.ntmps63 (by simp) (rfl : Try.f63.body = some _) fns_63 ?_
    have hnn := none_spec k.length hk
    simp (maxSteps := 200000) (disch := first | (simp only [go_sem, Nat.reduceAdd, Nat.reduceSub, Nat.reduceMul, Nat.reduceLeDiff, Nat.reduceEqDiff, Nat.reduceLT, Nat.reduceBEq, Nat.reduceBNe, Nat.reducePow, ↓reduceIte]; done) | omega | (simp only [go_sem, Nat.reduceAdd, Nat.reduceSub, Nat.reduceMul, Nat.reduceLeDiff, Nat.reduceEqDiff, Nat.reduceLT, Nat.reduceBEq, Nat.reduceBNe, Nat.reducePow, ↓reduceIte] <;> omega) | fail) only [go_sem, Nat.reduceAdd, Nat.reduceSub, Nat.reduceMul, Nat.reduceLeDiff, Nat.reduceEqDiff, Nat.reduceLT, Nat.reduceBEq, Nat.reduceBNe, Nat.reducePow, ↓reduceIte, callA_fresh mode_62, hnn]
    refine WP_range 9 2 k.length (fun i => S_63_9 (.fp [vB false, lP k]) (.fp [vB false, lP m]) (.ptr 1 0) (vI k.length) (vI i) [.arr 77 1 ((upto (joinL k m) i).map ePk), .var [vB false, .sl 0 0 k.length false]]) (fun _ => True) rfl rfl ?_ ?_ ?_ ?_
    · simp (maxSteps := 200000) (disch := first | (simp only [go_sem, Nat.reduceAdd, Nat.reduceSub, Nat.reduceMul, Nat.reduceLeDiff, Nat.reduceEqDiff, Nat.reduceLT, Nat.reduceBEq, Nat.reduceBNe, Nat.reducePow, ↓reduceIte]; done) | omega | (simp only [go_sem, Nat.reduceAdd, Nat.reduceSub, Nat.reduceMul, Nat.reduceLeDiff, Nat.reduceEqDiff, Nat.reduceLT, Nat.reduceBEq, Nat.reduceBNe, Nat.reducePow, ↓reduceIte] <;> omega) | fail) only [go_sem, Nat.reduceAdd, Nat.reduceSub, Nat.reduceMul, Nat.reduceLeDiff, Nat.reduceEqDiff, Nat.reduceLT, Nat.reduceBEq, Nat.reduceBNe, Nat.reducePow, ↓reduceIte]
      rw [upto_zero, hjl]
      rfl
    · trivial
    · intro i h _
      have h2 : i < m.length := by omega
      have hls : i < (upto (joinL k m) i).length := by rw [upto_len]; omega
      have hset := upto_set (joinL k m) (i := i) (by omega)
      rw [joinL_get k m i h h2] at hset
      have hul := upto_len (joinL k m) i
      have hsh : Shape k[i] m[i] := by
        cases hs with
        | all _ _ _ _ h => simp at h
        | some _ _ _ hq => exact hq i _ _ (List.getElem?_eq_getElem h) (List.getElem?_eq_getElem h2)
      have hws := wrap_succ h (show k.length ≤ 140737488355328 by omega)
      rcases join_cases hsh with hj | ⟨c, c', e1, e2⟩
      · generalize upto (joinL k m) i = u at *
        simp (maxSteps := 200000) (disch := first | (simp only [go_sem, Nat.reduceAdd, Nat.reduceSub, Nat.reduceMul, Nat.reduceLeDiff, Nat.reduceEqDiff, Nat.reduceLT, Nat.reduceBEq, Nat.reduceBNe, Nat.reducePow, ↓reduceIte]; done) | omega | (simp only [go_sem, Nat.reduceAdd, Nat.reduceSub, Nat.reduceMul, Nat.reduceLeDiff, Nat.reduceEqDiff, Nat.reduceLT, Nat.reduceBEq, Nat.reduceBNe, Nat.reducePow, ↓reduceIte] <;> omega) | fail) only [go_sem, Nat.reduceAdd, Nat.reduceSub, Nat.reduceMul, Nat.reduceLeDiff, Nat.reduceEqDiff, Nat.reduceLT, Nat.reduceBEq, Nat.reduceBNe, Nat.reducePow, ↓reduceIte, nat_int, h, h2, ePk_s, callA_fresh mode_63, hj, hls, hws]
        rw [hset]
      · have hcm := cntP_mem (List.getElem_mem h)
        rw [e1, cntP] at hcm
        rw [e1, e2] at hsh
        have hcl : c.length ≤ 1099511627776 := by
          have : ∀ l : List Pk, l.length ≤ cntPs l := by
            intro l
            induction l with
            | nil => simp
            | cons p r ih2 => rw [cntPs, List.length_cons]; have : 1 ≤ cntP p := by cases p <;> simp [cntP]
                              omega
          have := this c
          omega
        have hj := ih c c' (by omega) (by omega) hsh hcl
        rw [e1, e2, joinP, if_neg (by simp)] at hset
        generalize upto (joinL k m) i = u at *
        generalize joinL c c' = cc at *
        have hcc := mk_P cc
        simp (maxSteps := 200000) (disch := first | (simp only [go_sem, Nat.reduceAdd, Nat.reduceSub, Nat.reduceMul, Nat.reduceLeDiff, Nat.reduceEqDiff, Nat.reduceLT, Nat.reduceBEq, Nat.reduceBNe, Nat.reducePow, ↓reduceIte]; done) | omega | (simp only [go_sem, Nat.reduceAdd, Nat.reduceSub, Nat.reduceMul, Nat.reduceLeDiff, Nat.reduceEqDiff, Nat.reduceLT, Nat.reduceBEq, Nat.reduceBNe, Nat.reducePow, ↓reduceIte] <;> omega) | fail) only [go_sem, Nat.reduceAdd, Nat.reduceSub, Nat.reduceMul, Nat.reduceLeDiff, Nat.reduceEqDiff, Nat.reduceLT, Nat.reduceBEq, Nat.reduceBNe, Nat.reducePow, ↓reduceIte, nat_int, h, h2, ePk_s, e1, e2, callA_fresh mode_63, hj, hls, hws, hcc]
        rw [hset]
    · intro _
      simp (maxSteps := 200000) (disch := first | (simp only [go_sem, Nat.reduceAdd, Nat.reduceSub, Nat.reduceMul, Nat.reduceLeDiff, Nat.reduceEqDiff, Nat.reduceLT, Nat.reduceBEq, Nat.reduceBNe, Nat.reducePow, ↓reduceIte]; done) | omega | (simp only [go_sem, Nat.reduceAdd, Nat.reduceSub, Nat.reduceMul, Nat.reduceLeDiff, Nat.reduceEqDiff, Nat.reduceLT, Nat.reduceBEq, Nat.reduceBNe, Nat.reducePow, ↓reduceIte] <;> omega) | fail) only [go_sem, Nat.reduceAdd, Nat.reduceSub, Nat.reduceMul, Nat.reduceLeDiff, Nat.reduceEqDiff, Nat.reduceLT, Nat.reduceBEq, Nat.reduceBNe, Nat.reducePow, ↓reduceIte, nat_int]
      rw [← hjl, upto_all]
end Go.Abs.SA
end

section
set_option linter.unusedVariables false
set_option linter.unusedSimpArgs false
set_option maxRecDepth 100000
set_option maxHeartbeats 4000000
set_option linter.unusedSimpArgs false
set_option linter.unusedVariables false
namespace Go.Abs.SA
open Go.Proofs

mutual
/-- A pick of a node. -/
def fitP : Pk → Node → Prop
  | .nil, _ => True
  | .mk a k, n => (a = true ∧ k = []) ∨ (a = false ∧ fitL k n.kids)
def fitL : List Pk → List Node → Prop
  | [], [] => True
  | p :: r, n :: s => fitP p n ∧ fitL r s
  | _, _ => False
end
theorem fitL_len : ∀ {k : List Pk} {s : List Node}, fitL k s → k.length = s.length
  | [], [], _ => rfl
  | p :: r, n :: s, h => by rw [fitL] at h; simp [fitL_len h.2]
  | [], n :: s, h => by simp [fitL] at h
  | p :: r, [], h => by simp [fitL] at h
theorem fitL_get : ∀ {k : List Pk} {s : List Node} {i : Nat} (h : fitL k s) (h1 : i < k.length) (h2 : i < s.length), fitP k[i] s[i]
  | p :: r, n :: s, 0, h, h1, h2 => by rw [fitL] at h; exact h.1
  | p :: r, n :: s, i + 1, h, h1, h2 => by
    rw [fitL] at h
    simpa using fitL_get h.2 (by simpa using h1) (by simpa using h2)
theorem fitL_iff : ∀ {k : List Pk} {s : List Node}, fitL k s ↔ k.length = s.length ∧ ∀ (i : Nat) (h1 : i < k.length) (h2 : i < s.length), fitP k[i] s[i]
  | k, s => by
    constructor
    · intro h; exact ⟨fitL_len h, fun i h1 h2 => fitL_get h h1 h2⟩
    · rintro ⟨hl, h⟩
      induction k generalizing s with
      | nil => cases s with
        | nil => rw [fitL]; trivial
        | cons _ _ => simp at hl
      | cons p r ih => cases s with
        | nil => simp at hl
        | cons n s =>
          rw [fitL]
          exact ⟨h 0 (by simp) (by simp), ih s (by simpa using hl) (fun i h1 h2 => h (i + 1) (by simpa using h1) (by simpa using h2))⟩
theorem fit_shape : ∀ (f : Nat) {p q : Pk} {n : Node}, cntN n < f → fitP p n → fitP q n → Shape p q := by
  intro f
  induction f with
  | zero => intro p q n h; omega
  | succ f ih =>
    intro p q n hc hp hq
    cases p with
    | nil => exact .nil q
    | mk a k =>
      cases q with
      | nil => exact .nil' _
      | mk b m =>
        rw [fitP] at hp hq
        rcases hp with ⟨rfl, -⟩ | ⟨rfl, hp⟩
        · exact .all _ _ _ _ (by simp)
        · rcases hq with ⟨rfl, -⟩ | ⟨rfl, hq⟩
          · exact .all _ _ _ _ (by simp)
          · have l1 := fitL_len hp
            have l2 := fitL_len hq
            refine .some k m (by omega) (fun i x y hx hy => ?_)
            obtain ⟨hi, rfl⟩ := List.getElem?_eq_some_iff.1 hx
            obtain ⟨hj, rfl⟩ := List.getElem?_eq_some_iff.1 hy
            have h3 : i < n.kids.length := by omega
            refine ih (n := n.kids[i]) ?_ (fitL_get hp hi h3) (fitL_get hq hj h3)
            have := cnt_mem (List.getElem_mem h3)
            rw [cntN_s] at hc; omega
theorem fit_join : ∀ (f : Nat) {p q : Pk} {n : Node}, cntN n < f → fitP p n → fitP q n → fitP (joinP p q) n := by
  intro f
  induction f with
  | zero => intro p q n h; omega
  | succ f ih =>
    intro p q n hc hp hq
    cases p with
    | nil => rw [joinP]; exact hq
    | mk a k =>
      cases q with
      | nil => rw [joinP]; exact hp
      | mk b m =>
        rw [joinP]
        rw [fitP] at hp hq
        rcases hp with ⟨rfl, -⟩ | ⟨rfl, hp⟩
        · simp [fitP]
        · rcases hq with ⟨rfl, -⟩ | ⟨rfl, hq⟩
          · simp [fitP]
          · simp only [Bool.or_self, Bool.false_eq_true, if_false]
            rw [fitP]
            refine .inr ⟨rfl, ?_⟩
            have l1 := fitL_len hp
            have l2 := fitL_len hq
            rw [fitL_iff]
            refine ⟨by rw [joinL_len]; omega, fun i h1 h2 => ?_⟩
            rw [joinL_get k m i (by omega) (by omega)]
            refine ih ?_ (fitL_get hp (by omega) h2) (fitL_get hq (by omega) h2)
            have := cnt_mem (List.getElem_mem h2)
            rw [cntN_s] at hc; omega
mutual
theorem fit_cnt : ∀ (p : Pk) (n : Node), fitP p n → cntP p ≤ cntN n
  | .nil, n, h => by rw [cntP, cntN_s]; omega
  | .mk a k, n, h => by
    rw [fitP] at h
    rw [cntP, cntN_s]
    rcases h with ⟨-, rfl⟩ | ⟨-, h⟩
    · rw [cntPs]; omega
    · have := fitL_cnt k n.kids h; omega
theorem fitL_cnt : ∀ (k : List Pk) (s : List Node), fitL k s → cntPs k ≤ cntL s
  | [], [], h => by rw [cntPs]; omega
  | p :: r, n :: s, h => by
    rw [fitL] at h
    have h1 := fit_cnt p n h.1
    have h2 := fitL_cnt r s h.2
    rw [cntPs, cntL_cons]; omega
  | [], n :: s, h => by simp [fitL] at h
  | p :: r, [], h => by simp [fitL] at h
end
/-! What is cut. -/
mutual
def cutN : Pk → Node → List Node
  | .nil, _ => []
  | .mk a k, n => [if a then n else .mk n.name n.value (cutL k n.kids)]
def cutL : List Pk → List Node → List Node
  | p :: r, n :: s => cutN p n ++ cutL r s
  | _, _ => []
end
theorem cutL_take : ∀ (k : List Pk) (s : List Node) (i : Nat) (h1 : i < k.length) (h2 : i < s.length), cutL (k.take (i + 1)) (s.take (i + 1)) = cutL (k.take i) (s.take i) ++ cutN k[i] s[i]
  | p :: r, n :: s, 0, h1, h2 => by simp [cutL]
  | p :: r, n :: s, i + 1, h1, h2 => by
    simp only [List.take_succ_cons, List.getElem_cons_succ]
    rw [cutL, cutL, cutL_take r s i (by simpa using h1) (by simpa using h2), List.append_assoc]
theorem cutN_len (p : Pk) (n : Node) : (cutN p n).length ≤ 1 := by cases p <;> simp [cutN]
theorem cutL_len : ∀ (k : List Pk) (s : List Node), (cutL k s).length ≤ s.length
  | p :: r, n :: s => by have := cutL_len r s; have := cutN_len p n; rw [cutL, List.length_append, List.length_cons]; omega
  | [], s => by simp [cutL]
  | p :: r, [] => by simp [cutL]
theorem cut_spec : ∀ (f : Nat) (k : List Pk) (s : List Node), cntL s < f → f ≤ 1000000 → fitL k s → pureW XX 44 [aPk (.mk false k), lN s] = some (lN (cutL k s)) := by
  intro f
  induction f with
  | zero => intro k s h; omega
  | succ f ih =>
    intro k s hc hf hfit
    have hls := len_cnt s
    have hlk := fitL_len hfit
    rw [aPk_mk]
    refine pureW_in 41 Try.func44 Try.ntmps44 (by simp) (rfl : Try.f44.body = some _) fns_44 ?_
    simp (maxSteps := 200000) (disch := first | (simp only [go_sem, Nat.reduceAdd, Nat.reduceSub, Nat.reduceMul, Nat.reduceLeDiff, Nat.reduceEqDiff, Nat.reduceLT, Nat.reduceBEq, Nat.reduceBNe, Nat.reducePow, ↓reduceIte]; done) | omega | (simp only [go_sem, Nat.reduceAdd, Nat.reduceSub, Nat.reduceMul, Nat.reduceLeDiff, Nat.reduceEqDiff, Nat.reduceLT, Nat.reduceBEq, Nat.reduceBNe, Nat.reducePow, ↓reduceIte] <;> omega) | fail) only [go_sem, Nat.reduceAdd, Nat.reduceSub, Nat.reduceMul, Nat.reduceLeDiff, Nat.reduceEqDiff, Nat.reduceLT, Nat.reduceBEq, Nat.reduceBNe, Nat.reducePow, ↓reduceIte]
    refine WP_range 3 1 s.length (fun i => S_44_3 (.fp [vB false, lP k]) (.sl 0 0 (cutL (k.take i) (s.take i)).length false) (lN s) (vI s.length) (vI i) [.arr 59 3 ((cutL (k.take i) (s.take i)).map eNode)]) (fun _ => True) rfl rfl ?_ ?_ ?_ ?_
    · simp (maxSteps := 200000) (disch := first | (simp only [go_sem, Nat.reduceAdd, Nat.reduceSub, Nat.reduceMul, Nat.reduceLeDiff, Nat.reduceEqDiff, Nat.reduceLT, Nat.reduceBEq, Nat.reduceBNe, Nat.reducePow, ↓reduceIte]; done) | omega | (simp only [go_sem, Nat.reduceAdd, Nat.reduceSub, Nat.reduceMul, Nat.reduceLeDiff, Nat.reduceEqDiff, Nat.reduceLT, Nat.reduceBEq, Nat.reduceBNe, Nat.reducePow, ↓reduceIte] <;> omega) | fail) only [go_sem, Nat.reduceAdd, Nat.reduceSub, Nat.reduceMul, Nat.reduceLeDiff, Nat.reduceEqDiff, Nat.reduceLT, Nat.reduceBEq, Nat.reduceBNe, Nat.reducePow, ↓reduceIte]; rfl
    · trivial
    · intro i h _
      have hk : i < k.length := by omega
      have hol := cutL_len (k.take i) (s.take i)
      rw [List.length_take] at hol
      have hfi := fitL_get hfit hk h
      have hws := wrap_succ h (show s.length ≤ 140737488355328 by omega)
      rw [cutL_take k s i hk h]
      generalize cutL (k.take i) (s.take i) = base at *
      cases hki : k[i] with
      | nil =>
        have hkn : aPk k[i] = .v (.pointer none) := by rw [hki, aPk_nil]
        rw [cutN]
        simp (maxSteps := 200000) (disch := first | (simp only [go_sem, Nat.reduceAdd, Nat.reduceSub, Nat.reduceMul, Nat.reduceLeDiff, Nat.reduceEqDiff, Nat.reduceLT, Nat.reduceBEq, Nat.reduceBNe, Nat.reducePow, ↓reduceIte]; done) | omega | (simp only [go_sem, Nat.reduceAdd, Nat.reduceSub, Nat.reduceMul, Nat.reduceLeDiff, Nat.reduceEqDiff, Nat.reduceLT, Nat.reduceBEq, Nat.reduceBNe, Nat.reducePow, ↓reduceIte] <;> omega) | fail) only [go_sem, Nat.reduceAdd, Nat.reduceSub, Nat.reduceMul, Nat.reduceLeDiff, Nat.reduceEqDiff, Nat.reduceLT, Nat.reduceBEq, Nat.reduceBNe, Nat.reducePow, ↓reduceIte, nat_int, h, hk, eNode_s, ePk_s, hkn, hws]
      | mk a c =>
        rw [hki, fitP] at hfi
        have hkn : aPk k[i] = .fp [vB a, lP c] := by rw [hki, aPk_mk]
        rw [cutN]
        cases a with
        | true =>
          simp (maxSteps := 200000) (disch := first | (simp only [go_sem, Nat.reduceAdd, Nat.reduceSub, Nat.reduceMul, Nat.reduceLeDiff, Nat.reduceEqDiff, Nat.reduceLT, Nat.reduceBEq, Nat.reduceBNe, Nat.reducePow, ↓reduceIte]; done) | omega | (simp only [go_sem, Nat.reduceAdd, Nat.reduceSub, Nat.reduceMul, Nat.reduceLeDiff, Nat.reduceEqDiff, Nat.reduceLT, Nat.reduceBEq, Nat.reduceBNe, Nat.reducePow, ↓reduceIte] <;> omega) | fail) only [go_sem, Nat.reduceAdd, Nat.reduceSub, Nat.reduceMul, Nat.reduceLeDiff, Nat.reduceEqDiff, Nat.reduceLT, Nat.reduceBEq, Nat.reduceBNe, Nat.reducePow, ↓reduceIte, nat_int, h, hk, eNode_s, ePk_s, hkn, hws]
          rw [node_mk]
        | false =>
          have hcut := ih c s[i].kids (by have := cnt_kids h; omega) (by omega) (by simpa using hfi)
          rw [aPk_mk] at hcut
          simp (maxSteps := 200000) (disch := first | (simp only [go_sem, Nat.reduceAdd, Nat.reduceSub, Nat.reduceMul, Nat.reduceLeDiff, Nat.reduceEqDiff, Nat.reduceLT, Nat.reduceBEq, Nat.reduceBNe, Nat.reducePow, ↓reduceIte]; done) | omega | (simp only [go_sem, Nat.reduceAdd, Nat.reduceSub, Nat.reduceMul, Nat.reduceLeDiff, Nat.reduceEqDiff, Nat.reduceLT, Nat.reduceBEq, Nat.reduceBNe, Nat.reducePow, ↓reduceIte] <;> omega) | fail) only [go_sem, Nat.reduceAdd, Nat.reduceSub, Nat.reduceMul, Nat.reduceLeDiff, Nat.reduceEqDiff, Nat.reduceLT, Nat.reduceBEq, Nat.reduceBNe, Nat.reducePow, ↓reduceIte, nat_int, h, hk, eNode_s, ePk_s, hkn, hws, callA_data mode_44, hcut]
    · intro _
      rw [← hlk]
      simp (maxSteps := 200000) (disch := first | (simp only [go_sem, Nat.reduceAdd, Nat.reduceSub, Nat.reduceMul, Nat.reduceLeDiff, Nat.reduceEqDiff, Nat.reduceLT, Nat.reduceBEq, Nat.reduceBNe, Nat.reducePow, ↓reduceIte]; done) | omega | (simp only [go_sem, Nat.reduceAdd, Nat.reduceSub, Nat.reduceMul, Nat.reduceLeDiff, Nat.reduceEqDiff, Nat.reduceLT, Nat.reduceBEq, Nat.reduceBNe, Nat.reducePow, ↓reduceIte] <;> omega) | fail) only [go_sem, Nat.reduceAdd, Nat.reduceSub, Nat.reduceMul, Nat.reduceLeDiff, Nat.reduceEqDiff, Nat.reduceLT, Nat.reduceBEq, Nat.reduceBNe, Nat.reducePow, ↓reduceIte, nat_int, List.take_length]
      rw [hlk, List.take_length]
end Go.Abs.SA
end

section
set_option linter.unusedVariables false
set_option linter.unusedSimpArgs false
set_option maxRecDepth 100000
set_option maxHeartbeats 8000000
set_option linter.unusedSimpArgs false
set_option linter.unusedVariables false
namespace Go.Abs.SA
open Go.Proofs

/-- Is an element a test of a leaf's value? -/
def isTest (kd : List Def) (k : Elem) : Bool := match place kd k.name with
  | none => false
  | some i => match kd[i]? with
    | none => false
    | some d => decide (d.kind = 3) && !decide (k.text = ⟨#[]⟩)
/-- The place of a leaf with a value. -/
def leafAt (ns : List Node) (k : Elem) : Option Nat := ns.findIdx? fun x => decide (x.name = k.name) && decide (x.value = k.text)
/-- The tests of an element: what they choose, whether there is one, what is left; none: one fails. -/
def scan (kd : List Def) (ns : List Node) : List Elem → List Pk → Bool → List Elem → Option (List Pk × Bool × List Elem)
  | [], out, m, rest => some (out, m, rest)
  | k :: r, out, m, rest => if isTest kd k then (match leafAt ns k with
      | none => none
      | some i => scan kd ns r (out.set i wholeP) true rest) else scan kd ns r out m (rest ++ [k])
def keyed (keys : List Str) : List Node → List Pk → List Pk
  | n :: s, p :: r => (if has keys n.name then wholeP else p) :: keyed keys s r
  | _, r => r
def isNil : Pk → Bool
  | .nil => true
  | _ => false
mutual
/-- What one element chooses of a node. -/
def fitsD : Def → Node → Elem → Pk
  | .mk nm kind t v ms ks kd, n, f =>
    if kind = 3 then (if f.kids ≠ [] ∨ (f.text ≠ ⟨#[]⟩ ∧ f.text ≠ n.value) then .nil else wholeP)
    else if f.text ≠ ⟨#[]⟩ then .nil
    else if f.kids = [] then wholeP
    else match scan kd n.kids f.kids (List.replicate n.kids.length .nil) false [] with
      | none => .nil
      | some (out, m, rest) =>
        if m = true ∧ rest = [] then wholeP
        else if (joinL out (n.kids.map fun x => pickN kd x rest)).all isNil then .nil
        else .mk false (keyed ks n.kids (joinL out (n.kids.map fun x => pickN kd x rest)))
/-- What elements choose of a node. -/
def pickN : List Def → Node → List Elem → Pk
  | [], _, _ => .nil
  | d :: r, n, fs => if d.name = n.name then fs.foldl (fun p f => if f.name = n.name then joinP p (fitsD d n f) else p) .nil else pickN r n fs
end
theorem fitsD_s (d : Def) (n : Node) (f : Elem) : fitsD d n f = (if d.kind = 3 then (if f.kids ≠ [] ∨ (f.text ≠ ⟨#[]⟩ ∧ f.text ≠ n.value) then .nil else wholeP)
    else if f.text ≠ ⟨#[]⟩ then .nil
    else if f.kids = [] then wholeP
    else match scan d.kids n.kids f.kids (List.replicate n.kids.length .nil) false [] with
      | none => .nil
      | some (out, m, rest) =>
        if m = true ∧ rest = [] then wholeP
        else if (joinL out (n.kids.map fun x => pickN d.kids x rest)).all isNil then .nil
        else .mk false (keyed d.keys n.kids (joinL out (n.kids.map fun x => pickN d.kids x rest)))) := by
  cases d; rw [fitsD]; rfl
theorem pickN_s (l : List Def) (n : Node) (fs : List Elem) : pickN l n fs = match place l n.name with
    | none => .nil
    | some i => match l[i]? with
      | none => .nil
      | some d => fs.foldl (fun p f => if f.name = n.name then joinP p (fitsD d n f) else p) .nil := by
  induction l with
  | nil => rw [pickN]; rfl
  | cons d r ih =>
    rw [pickN]
    by_cases h : d.name = n.name
    · simp [place, List.findIdx?_cons, h]
    · rw [if_neg h, ih]
      simp only [place, List.findIdx?_cons, h, decide_false, Bool.false_eq_true, if_false]
      cases r.findIdx? fun d => decide (d.name = n.name) with
      | none => rfl
      | some i => simp
abbrev aElem (e : Elem) : AV := .agg [vS e.space, vS e.name, .fs (e.attrs.map eAttr) false, vS e.text, lE e.kids]
end Go.Abs.SA
end

section
set_option linter.unusedVariables false
set_option linter.unusedSimpArgs false
set_option maxRecDepth 100000
set_option maxHeartbeats 4000000
set_option linter.unusedSimpArgs false
set_option linter.unusedVariables false
namespace Go.Abs.SA
open Go.Proofs

theorem isLeaf_spec (x : Node) (k : Elem) : pureW XX 71 [aNode x, .fp [vS k.space, vS k.name, .fs (k.attrs.map eAttr) false, vS k.text, lE k.kids]] = some (vB (decide (x.name = k.name) && decide (x.value = k.text))) := by
  refine pureW_in 16 Try.func71 Try.ntmps71 (by simp) (rfl : Try.f71.body = some _) fns_71 ?_
  by_cases h1 : x.name = k.name
  · have h1' := eq_true h1
    simp (maxSteps := 200000) (disch := first | (simp only [go_sem, Nat.reduceAdd, Nat.reduceSub, Nat.reduceMul, Nat.reduceLeDiff, Nat.reduceEqDiff, Nat.reduceLT, Nat.reduceBEq, Nat.reduceBNe, Nat.reducePow, ↓reduceIte]; done) | omega | (simp only [go_sem, Nat.reduceAdd, Nat.reduceSub, Nat.reduceMul, Nat.reduceLeDiff, Nat.reduceEqDiff, Nat.reduceLT, Nat.reduceBEq, Nat.reduceBNe, Nat.reducePow, ↓reduceIte] <;> omega) | fail) only [go_sem, Nat.reduceAdd, Nat.reduceSub, Nat.reduceMul, Nat.reduceLeDiff, Nat.reduceEqDiff, Nat.reduceLT, Nat.reduceBEq, Nat.reduceBNe, Nat.reducePow, ↓reduceIte, h1']
  · simp (maxSteps := 200000) (disch := first | (simp only [go_sem, Nat.reduceAdd, Nat.reduceSub, Nat.reduceMul, Nat.reduceLeDiff, Nat.reduceEqDiff, Nat.reduceLT, Nat.reduceBEq, Nat.reduceBNe, Nat.reducePow, ↓reduceIte]; done) | omega | (simp only [go_sem, Nat.reduceAdd, Nat.reduceSub, Nat.reduceMul, Nat.reduceLeDiff, Nat.reduceEqDiff, Nat.reduceLT, Nat.reduceBEq, Nat.reduceBNe, Nat.reducePow, ↓reduceIte] <;> omega) | fail) only [go_sem, Nat.reduceAdd, Nat.reduceSub, Nat.reduceMul, Nat.reduceLeDiff, Nat.reduceEqDiff, Nat.reduceLT, Nat.reduceBEq, Nat.reduceBNe, Nat.reducePow, ↓reduceIte, h1]
theorem indexLeaf_spec (l : List Node) (k : Elem) (hl : l.length ≤ 140737488355328)  : pureW XX 54 [lN l, .fn 71 [.fp [vS k.space, vS k.name, .fs (k.attrs.map eAttr) false, vS k.text, lE k.kids]]] = some (vI (posI (l.findIdx? fun x => (decide (x.name = k.name) && decide (x.value = k.text))))) := by
  refine pureW_in 19 Try.func54 Try.ntmps54 (by simp) (rfl : Try.f54.body = some _) fns_54 ?_
  simp (maxSteps := 200000) (disch := first | (simp only [go_sem, Nat.reduceAdd, Nat.reduceSub, Nat.reduceMul, Nat.reduceLeDiff, Nat.reduceEqDiff, Nat.reduceLT, Nat.reduceBEq, Nat.reduceBNe, Nat.reducePow, ↓reduceIte]; done) | omega | (simp only [go_sem, Nat.reduceAdd, Nat.reduceSub, Nat.reduceMul, Nat.reduceLeDiff, Nat.reduceEqDiff, Nat.reduceLT, Nat.reduceBEq, Nat.reduceBNe, Nat.reducePow, ↓reduceIte] <;> omega) | fail) only [go_sem, Nat.reduceAdd, Nat.reduceSub, Nat.reduceMul, Nat.reduceLeDiff, Nat.reduceEqDiff, Nat.reduceLT, Nat.reduceBEq, Nat.reduceBNe, Nat.reducePow, ↓reduceIte]
  refine WP_range 2 0 l.length (fun i => S_54_2 (lN l) (.fn 71 [.fp [vS k.space, vS k.name, .fs (k.attrs.map eAttr) false, vS k.text, lE k.kids]]) (vI l.length) (vI i) []) (fun i => (l.findIdx? fun x => (decide (x.name = k.name) && decide (x.value = k.text))) = ((l.drop i).findIdx? fun x => (decide (x.name = k.name) && decide (x.value = k.text))).map (· + i)) rfl rfl ?_ ?_ ?_ ?_
  · simp (maxSteps := 200000) (disch := first | (simp only [go_sem, Nat.reduceAdd, Nat.reduceSub, Nat.reduceMul, Nat.reduceLeDiff, Nat.reduceEqDiff, Nat.reduceLT, Nat.reduceBEq, Nat.reduceBNe, Nat.reducePow, ↓reduceIte]; done) | omega | (simp only [go_sem, Nat.reduceAdd, Nat.reduceSub, Nat.reduceMul, Nat.reduceLeDiff, Nat.reduceEqDiff, Nat.reduceLT, Nat.reduceBEq, Nat.reduceBNe, Nat.reducePow, ↓reduceIte] <;> omega) | fail) only [go_sem, Nat.reduceAdd, Nat.reduceSub, Nat.reduceMul, Nat.reduceLeDiff, Nat.reduceEqDiff, Nat.reduceLT, Nat.reduceBEq, Nat.reduceBNe, Nat.reducePow, ↓reduceIte]; rfl
  · simp
  · intro i h hI
    rw [findIdx_step _ _ h] at hI
    have hk := isLeaf_spec l[i] k
    cases hv : (fun x => (decide (x.name = k.name) && decide (x.value = k.text))) l[i] with
    | true =>
      simp only at hv
      rw [hv] at hk hI
      simp (maxSteps := 200000) (disch := first | (simp only [go_sem, Nat.reduceAdd, Nat.reduceSub, Nat.reduceMul, Nat.reduceLeDiff, Nat.reduceEqDiff, Nat.reduceLT, Nat.reduceBEq, Nat.reduceBNe, Nat.reducePow, ↓reduceIte]; done) | omega | (simp only [go_sem, Nat.reduceAdd, Nat.reduceSub, Nat.reduceMul, Nat.reduceLeDiff, Nat.reduceEqDiff, Nat.reduceLT, Nat.reduceBEq, Nat.reduceBNe, Nat.reducePow, ↓reduceIte] <;> omega) | fail) only [go_sem, Nat.reduceAdd, Nat.reduceSub, Nat.reduceMul, Nat.reduceLeDiff, Nat.reduceEqDiff, Nat.reduceLT, Nat.reduceBEq, Nat.reduceBNe, Nat.reducePow, ↓reduceIte, nat_int, h, eNode_s, callA_pure mode_71, hk]
      rw [hI]
      simp [posI]
    | false =>
      simp only at hv
      rw [hv] at hk hI
      simp (maxSteps := 200000) (disch := first | (simp only [go_sem, Nat.reduceAdd, Nat.reduceSub, Nat.reduceMul, Nat.reduceLeDiff, Nat.reduceEqDiff, Nat.reduceLT, Nat.reduceBEq, Nat.reduceBNe, Nat.reducePow, ↓reduceIte]; done) | omega | (simp only [go_sem, Nat.reduceAdd, Nat.reduceSub, Nat.reduceMul, Nat.reduceLeDiff, Nat.reduceEqDiff, Nat.reduceLT, Nat.reduceBEq, Nat.reduceBNe, Nat.reducePow, ↓reduceIte] <;> omega) | fail) only [go_sem, Nat.reduceAdd, Nat.reduceSub, Nat.reduceMul, Nat.reduceLeDiff, Nat.reduceEqDiff, Nat.reduceLT, Nat.reduceBEq, Nat.reduceBNe, Nat.reducePow, ↓reduceIte, nat_int, h, eNode_s, callA_pure mode_71, hk, wrap_succ h hl]
      rw [hI]
      simp
      congr 1
      funext x
      simp
      omega
  · intro hI
    simp (maxSteps := 200000) (disch := first | (simp only [go_sem, Nat.reduceAdd, Nat.reduceSub, Nat.reduceMul, Nat.reduceLeDiff, Nat.reduceEqDiff, Nat.reduceLT, Nat.reduceBEq, Nat.reduceBNe, Nat.reducePow, ↓reduceIte]; done) | omega | (simp only [go_sem, Nat.reduceAdd, Nat.reduceSub, Nat.reduceMul, Nat.reduceLeDiff, Nat.reduceEqDiff, Nat.reduceLT, Nat.reduceBEq, Nat.reduceBNe, Nat.reducePow, ↓reduceIte] <;> omega) | fail) only [go_sem, Nat.reduceAdd, Nat.reduceSub, Nat.reduceMul, Nat.reduceLeDiff, Nat.reduceEqDiff, Nat.reduceLT, Nat.reduceBEq, Nat.reduceBNe, Nat.reducePow, ↓reduceIte, nat_int]
    rw [hI]
    simp [posI]
theorem isPick_spec (p : Pk) : pureW XX 73 [aPk p] = some (vB (!isNil p)) := by
  cases p with
  | nil =>
    rw [aPk_nil]
    refine pureW_in 5 Try.func73 Try.ntmps73 (by simp) (rfl : Try.f73.body = some _) fns_73 ?_
    simp (maxSteps := 200000) (disch := first | (simp only [go_sem, Nat.reduceAdd, Nat.reduceSub, Nat.reduceMul, Nat.reduceLeDiff, Nat.reduceEqDiff, Nat.reduceLT, Nat.reduceBEq, Nat.reduceBNe, Nat.reducePow, ↓reduceIte]; done) | omega | (simp only [go_sem, Nat.reduceAdd, Nat.reduceSub, Nat.reduceMul, Nat.reduceLeDiff, Nat.reduceEqDiff, Nat.reduceLT, Nat.reduceBEq, Nat.reduceBNe, Nat.reducePow, ↓reduceIte] <;> omega) | fail) only [go_sem, Nat.reduceAdd, Nat.reduceSub, Nat.reduceMul, Nat.reduceLeDiff, Nat.reduceEqDiff, Nat.reduceLT, Nat.reduceBEq, Nat.reduceBNe, Nat.reducePow, ↓reduceIte]
    rfl
  | mk a k =>
    rw [aPk_mk]
    refine pureW_in 5 Try.func73 Try.ntmps73 (by simp) (rfl : Try.f73.body = some _) fns_73 ?_
    simp (maxSteps := 200000) (disch := first | (simp only [go_sem, Nat.reduceAdd, Nat.reduceSub, Nat.reduceMul, Nat.reduceLeDiff, Nat.reduceEqDiff, Nat.reduceLT, Nat.reduceBEq, Nat.reduceBNe, Nat.reducePow, ↓reduceIte]; done) | omega | (simp only [go_sem, Nat.reduceAdd, Nat.reduceSub, Nat.reduceMul, Nat.reduceLeDiff, Nat.reduceEqDiff, Nat.reduceLT, Nat.reduceBEq, Nat.reduceBNe, Nat.reducePow, ↓reduceIte] <;> omega) | fail) only [go_sem, Nat.reduceAdd, Nat.reduceSub, Nat.reduceMul, Nat.reduceLeDiff, Nat.reduceEqDiff, Nat.reduceLT, Nat.reduceBEq, Nat.reduceBNe, Nat.reducePow, ↓reduceIte]
    rfl
theorem indexPick_spec (l : List Pk) (hl : l.length ≤ 140737488355328)  : pureW XX 75 [lP l, .fn 73 []] = some (vI (posI (l.findIdx? fun x => !isNil x))) := by
  refine pureW_in 19 Try.func75 Try.ntmps75 (by simp) (rfl : Try.f75.body = some _) fns_75 ?_
  simp (maxSteps := 200000) (disch := first | (simp only [go_sem, Nat.reduceAdd, Nat.reduceSub, Nat.reduceMul, Nat.reduceLeDiff, Nat.reduceEqDiff, Nat.reduceLT, Nat.reduceBEq, Nat.reduceBNe, Nat.reducePow, ↓reduceIte]; done) | omega | (simp only [go_sem, Nat.reduceAdd, Nat.reduceSub, Nat.reduceMul, Nat.reduceLeDiff, Nat.reduceEqDiff, Nat.reduceLT, Nat.reduceBEq, Nat.reduceBNe, Nat.reducePow, ↓reduceIte] <;> omega) | fail) only [go_sem, Nat.reduceAdd, Nat.reduceSub, Nat.reduceMul, Nat.reduceLeDiff, Nat.reduceEqDiff, Nat.reduceLT, Nat.reduceBEq, Nat.reduceBNe, Nat.reducePow, ↓reduceIte]
  refine WP_range 2 0 l.length (fun i => S_75_2 (lP l) (.fn 73 []) (vI l.length) (vI i) []) (fun i => (l.findIdx? fun x => !isNil x) = ((l.drop i).findIdx? fun x => !isNil x).map (· + i)) rfl rfl ?_ ?_ ?_ ?_
  · simp (maxSteps := 200000) (disch := first | (simp only [go_sem, Nat.reduceAdd, Nat.reduceSub, Nat.reduceMul, Nat.reduceLeDiff, Nat.reduceEqDiff, Nat.reduceLT, Nat.reduceBEq, Nat.reduceBNe, Nat.reducePow, ↓reduceIte]; done) | omega | (simp only [go_sem, Nat.reduceAdd, Nat.reduceSub, Nat.reduceMul, Nat.reduceLeDiff, Nat.reduceEqDiff, Nat.reduceLT, Nat.reduceBEq, Nat.reduceBNe, Nat.reducePow, ↓reduceIte] <;> omega) | fail) only [go_sem, Nat.reduceAdd, Nat.reduceSub, Nat.reduceMul, Nat.reduceLeDiff, Nat.reduceEqDiff, Nat.reduceLT, Nat.reduceBEq, Nat.reduceBNe, Nat.reducePow, ↓reduceIte]; rfl
  · simp
  · intro i h hI
    rw [findIdx_step _ _ h] at hI
    have hk := isPick_spec l[i]
    cases hv : (fun x => !isNil x) l[i] with
    | true =>
      simp only at hv
      rw [hv] at hk hI
      simp (maxSteps := 200000) (disch := first | (simp only [go_sem, Nat.reduceAdd, Nat.reduceSub, Nat.reduceMul, Nat.reduceLeDiff, Nat.reduceEqDiff, Nat.reduceLT, Nat.reduceBEq, Nat.reduceBNe, Nat.reducePow, ↓reduceIte]; done) | omega | (simp only [go_sem, Nat.reduceAdd, Nat.reduceSub, Nat.reduceMul, Nat.reduceLeDiff, Nat.reduceEqDiff, Nat.reduceLT, Nat.reduceBEq, Nat.reduceBNe, Nat.reducePow, ↓reduceIte] <;> omega) | fail) only [go_sem, Nat.reduceAdd, Nat.reduceSub, Nat.reduceMul, Nat.reduceLeDiff, Nat.reduceEqDiff, Nat.reduceLT, Nat.reduceBEq, Nat.reduceBNe, Nat.reducePow, ↓reduceIte, nat_int, h, ePk_s, callA_pure mode_73, hk]
      rw [hI]
      simp [posI]
    | false =>
      simp only at hv
      rw [hv] at hk hI
      simp (maxSteps := 200000) (disch := first | (simp only [go_sem, Nat.reduceAdd, Nat.reduceSub, Nat.reduceMul, Nat.reduceLeDiff, Nat.reduceEqDiff, Nat.reduceLT, Nat.reduceBEq, Nat.reduceBNe, Nat.reducePow, ↓reduceIte]; done) | omega | (simp only [go_sem, Nat.reduceAdd, Nat.reduceSub, Nat.reduceMul, Nat.reduceLeDiff, Nat.reduceEqDiff, Nat.reduceLT, Nat.reduceBEq, Nat.reduceBNe, Nat.reducePow, ↓reduceIte] <;> omega) | fail) only [go_sem, Nat.reduceAdd, Nat.reduceSub, Nat.reduceMul, Nat.reduceLeDiff, Nat.reduceEqDiff, Nat.reduceLT, Nat.reduceBEq, Nat.reduceBNe, Nat.reducePow, ↓reduceIte, nat_int, h, ePk_s, callA_pure mode_73, hk, wrap_succ h hl]
      rw [hI]
      simp
      congr 1
      funext x
      simp
      omega
  · intro hI
    simp (maxSteps := 200000) (disch := first | (simp only [go_sem, Nat.reduceAdd, Nat.reduceSub, Nat.reduceMul, Nat.reduceLeDiff, Nat.reduceEqDiff, Nat.reduceLT, Nat.reduceBEq, Nat.reduceBNe, Nat.reducePow, ↓reduceIte]; done) | omega | (simp only [go_sem, Nat.reduceAdd, Nat.reduceSub, Nat.reduceMul, Nat.reduceLeDiff, Nat.reduceEqDiff, Nat.reduceLT, Nat.reduceBEq, Nat.reduceBNe, Nat.reducePow, ↓reduceIte] <;> omega) | fail) only [go_sem, Nat.reduceAdd, Nat.reduceSub, Nat.reduceMul, Nat.reduceLeDiff, Nat.reduceEqDiff, Nat.reduceLT, Nat.reduceBEq, Nat.reduceBNe, Nat.reducePow, ↓reduceIte, nat_int]
    rw [hI]
    simp [posI]
theorem anyPick_spec (l : List Pk) (hl : l.length ≤ 140737488355328) : pureW XX 72 [lP l, .fn 73 []] = some (vB (!l.all isNil)) := by
  refine pureW_in 9 Try.func72 Try.ntmps72 (by simp) (rfl : Try.f72.body = some _) fns_72 ?_
  have hi := indexPick_spec l hl
  cases hf : l.findIdx? fun x => !isNil x with
  | none =>
    rw [hf] at hi
    rw [List.findIdx?_eq_none_iff] at hf
    have ha : l.all isNil = true := by
      rw [List.all_eq_true]
      intro x hx
      simpa using hf x hx
    rw [ha]
    simp only [posI] at hi
    have n1 : (0 ≤ (-1 : Int)) = False := eq_false (by omega)
    simp (maxSteps := 200000) (disch := first | (simp only [go_sem, Nat.reduceAdd, Nat.reduceSub, Nat.reduceMul, Nat.reduceLeDiff, Nat.reduceEqDiff, Nat.reduceLT, Nat.reduceBEq, Nat.reduceBNe, Nat.reducePow, ↓reduceIte]; done) | omega | (simp only [go_sem, Nat.reduceAdd, Nat.reduceSub, Nat.reduceMul, Nat.reduceLeDiff, Nat.reduceEqDiff, Nat.reduceLT, Nat.reduceBEq, Nat.reduceBNe, Nat.reducePow, ↓reduceIte] <;> omega) | fail) only [go_sem, Nat.reduceAdd, Nat.reduceSub, Nat.reduceMul, Nat.reduceLeDiff, Nat.reduceEqDiff, Nat.reduceLT, Nat.reduceBEq, Nat.reduceBNe, Nat.reducePow, ↓reduceIte, callA_pure mode_75, hi, n1]
  | some i =>
    rw [hf] at hi
    rw [List.findIdx?_eq_some_iff_getElem] at hf
    obtain ⟨h1, h2, -⟩ := hf
    have ha : l.all isNil = false := by
      rw [List.all_eq_false]
      exact ⟨l[i], List.getElem_mem h1, by simpa using h2⟩
    rw [ha]
    simp only [posI] at hi
    have n1 : (0 ≤ (i : Int)) = True := eq_true (by omega)
    simp (maxSteps := 200000) (disch := first | (simp only [go_sem, Nat.reduceAdd, Nat.reduceSub, Nat.reduceMul, Nat.reduceLeDiff, Nat.reduceEqDiff, Nat.reduceLT, Nat.reduceBEq, Nat.reduceBNe, Nat.reducePow, ↓reduceIte]; done) | omega | (simp only [go_sem, Nat.reduceAdd, Nat.reduceSub, Nat.reduceMul, Nat.reduceLeDiff, Nat.reduceEqDiff, Nat.reduceLT, Nat.reduceBEq, Nat.reduceBNe, Nat.reducePow, ↓reduceIte] <;> omega) | fail) only [go_sem, Nat.reduceAdd, Nat.reduceSub, Nat.reduceMul, Nat.reduceLeDiff, Nat.reduceEqDiff, Nat.reduceLT, Nat.reduceBEq, Nat.reduceBNe, Nat.reducePow, ↓reduceIte, callA_pure mode_75, hi, n1]
/-! What is chosen fits. -/
theorem fitL_rep (s : List Node) : fitL (List.replicate s.length .nil) s := by
  rw [fitL_iff]
  refine ⟨by simp, fun i h1 h2 => ?_⟩
  rw [List.getElem_replicate, fitP]
  trivial
theorem fitL_set {k : List Pk} {s : List Node} (h : fitL k s) (i : Nat) (p : Pk) (hp : ∀ (hi : i < s.length), fitP p s[i]) : fitL (k.set i p) s := by
  rw [fitL_iff] at h ⊢
  refine ⟨by simpa using h.1, fun j h1 h2 => ?_⟩
  rw [List.getElem_set]
  split
  · rename_i e; subst e; exact hp h2
  · exact h.2 j (by simpa using h1) h2
theorem fit_whole (n : Node) : fitP wholeP n := by rw [fitP]; exact .inl ⟨rfl, rfl⟩
theorem fit_nil (n : Node) : fitP .nil n := by rw [fitP]; trivial
theorem scan_fit (kd : List Def) (ns : List Node) : ∀ (es : List Elem) (out : List Pk) (m : Bool) (rest : List Elem) (o' : List Pk) (m' : Bool) (r' : List Elem), fitL out ns → scan kd ns es out m rest = some (o', m', r') → fitL o' ns
  | [], out, m, rest, o', m', r', h, hs => by rw [scan] at hs; cases hs; exact h
  | k :: r, out, m, rest, o', m', r', h, hs => by
    rw [scan] at hs
    split at hs
    · split at hs
      · cases hs
      · rename_i i _
        exact scan_fit kd ns r _ _ _ _ _ _ (fitL_set h i wholeP (fun _ => fit_whole _)) hs
    · exact scan_fit kd ns r _ _ _ _ _ _ h hs
theorem keyed_fit (keys : List Str) : ∀ (s : List Node) (k : List Pk), fitL k s → fitL (keyed keys s k) s
  | n :: s, p :: r, h => by
    rw [fitL] at h
    rw [keyed, fitL]
    refine ⟨?_, keyed_fit keys s r h.2⟩
    split
    · exact fit_whole _
    · exact h.1
  | [], [], h => by rw [keyed]; exact h; intros; simp_all
  | [], p :: r, h => by simp [fitL] at h
  | n :: s, [], h => by simp [fitL] at h
theorem joinL_fit {k m : List Pk} {s : List Node} (hk : fitL k s) (hm : fitL m s) : fitL (joinL k m) s := by
  have l1 := fitL_len hk
  have l2 := fitL_len hm
  rw [fitL_iff]
  refine ⟨by rw [joinL_len]; omega, fun i h1 h2 => ?_⟩
  rw [joinL_get k m i (by omega) (by omega)]
  exact fit_join (cntN s[i] + 1) (by omega) (fitL_get hk (by omega) h2) (fitL_get hm (by omega) h2)
theorem mapPick_fit {s : List Node} {g : Node → Pk} (h : ∀ x ∈ s, fitP (g x) x) : fitL (s.map g) s := by
  rw [fitL_iff]
  refine ⟨by simp, fun i h1 h2 => ?_⟩
  rw [List.getElem_map]
  exact h _ (List.getElem_mem h2)
mutual
theorem fits_fit : ∀ (d : Def) (n : Node) (f : Elem), fitP (fitsD d n f) n
  | .mk nm kind t v ms ks kd, n, f => by
    rw [fitsD]
    split
    · split
      · exact fit_nil _
      · exact fit_whole _
    · split
      · exact fit_nil _
      · split
        · exact fit_whole _
        · split
          · exact fit_nil _
          · rename_i out m rest hsc
            split
            · exact fit_whole _
            · split
              · exact fit_nil _
              · rw [fitP]
                exact .inr ⟨rfl, keyed_fit ks _ _ (joinL_fit (scan_fit _ _ _ _ _ _ _ _ _ (fitL_rep _) hsc) (mapPick_fit fun x _ => pick_fit kd x rest))⟩
theorem pick_fit : ∀ (l : List Def) (n : Node) (fs : List Elem), fitP (pickN l n fs) n
  | [], n, fs => by rw [pickN]; exact fit_nil _
  | d :: r, n, fs => by
    rw [pickN]
    split
    · have : ∀ (fs : List Elem) (p : Pk), fitP p n → fitP (fs.foldl (fun p f => if f.name = n.name then joinP p (fitsD d n f) else p) p) n := by
        intro fs
        induction fs with
        | nil => intro p hp; exact hp
        | cons f fs ih =>
          intro p hp
          rw [List.foldl_cons]
          apply ih
          split
          · exact fit_join (cntN n + 1) (by omega) hp (fits_fit d n f)
          · exact hp
      exact this fs _ (fit_nil _)
    · exact pick_fit r n fs
end
end Go.Abs.SA
end

section
set_option linter.unusedVariables false
set_option linter.unusedSimpArgs false
set_option maxRecDepth 100000
set_option maxHeartbeats 8000000
set_option linter.unusedSimpArgs false
set_option linter.unusedVariables false
namespace Go.Abs.SA
open Go.Proofs

theorem scan_cnt (kd : List Def) (ns : List Node) : ∀ (es : List Elem) (out : List Pk) (m : Bool) (rest : List Elem) (o' : List Pk) (m' : Bool) (r' : List Elem), scan kd ns es out m rest = some (o', m', r') → cntEs r' ≤ cntEs rest + cntEs es
  | [], out, m, rest, o', m', r', hs => by rw [scan] at hs; cases hs; omega
  | k :: r, out, m, rest, o', m', r', hs => by
    rw [scan] at hs
    have happ : ∀ (a : List Elem) (k : Elem), cntEs (a ++ [k]) = cntEs a + cntE k := by
      intro a k
      induction a with
      | nil => simp [cntEs]
      | cons x a ih => rw [List.cons_append, cntEs, ih, cntEs]; omega
    split at hs
    · split at hs
      · cases hs
      · have := scan_cnt kd ns r _ _ _ _ _ _ hs; rw [cntEs]; omega
    · have := scan_cnt kd ns r _ _ _ _ _ _ hs; rw [happ] at this; rw [cntEs]; omega
theorem snoc_E (l : List Elem) (e : Elem) : l.map eElem ++ [[vS e.space, vS e.name, .fs (e.attrs.map eAttr) false, vS e.text, .fs (e.kids.map eElem) false]] = (l ++ [e]).map eElem := by
  simp [eElem_s]
/-- Those of the first i places that bear a key's name are chosen whole. -/
def keyTo (keys : List Str) (ns : List Node) (J : List Pk) (i : Nat) : List Pk := J.mapIdx fun j p => if j < i ∧ (ns[j]?).any (fun x => has keys x.name) = true then wholeP else p
theorem keyTo_len (keys : List Str) (ns : List Node) (J : List Pk) (i : Nat) : (keyTo keys ns J i).length = J.length := by simp [keyTo]
theorem keyTo_zero (keys : List Str) (ns : List Node) (J : List Pk) : keyTo keys ns J 0 = J := by
  apply List.ext_getElem?
  intro j
  simp [keyTo, List.getElem?_mapIdx]
theorem keyTo_succ (keys : List Str) (ns : List Node) (J : List Pk) {i : Nat} (h : i < ns.length) (hJ : J.length = ns.length) : keyTo keys ns J (i + 1) = if has keys ns[i].name = true then (keyTo keys ns J i).set i wholeP else keyTo keys ns J i := by
  apply List.ext_getElem?
  intro j
  by_cases hj : j < J.length
  · have hn : ns[j]? = some ns[j] := List.getElem?_eq_getElem (by omega)
    have e1 : (keyTo keys ns J (i + 1))[j]? = some (if j < i + 1 ∧ has keys ns[j].name = true then wholeP else J[j]) := by
      simp [keyTo, List.getElem?_mapIdx, List.getElem?_eq_getElem hj, hn]
    have e2 : (keyTo keys ns J i)[j]? = some (if j < i ∧ has keys ns[j].name = true then wholeP else J[j]) := by
      simp [keyTo, List.getElem?_mapIdx, List.getElem?_eq_getElem hj, hn]
    rw [e1]
    by_cases hh : has keys ns[i].name = true
    · rw [if_pos hh, List.getElem?_set, keyTo_len]
      by_cases he : i = j
      · subst he; simp [hj, hh]
      · rw [if_neg he, e2]
        congr 1
        have : (j < i + 1) = (j < i) := propext (by omega)
        simp only [this]
    · rw [if_neg hh, e2]
      by_cases he : j = i
      · subst he; simp [hh]
      · have : (j < i + 1) = (j < i) := propext (by omega)
        simp only [this]
  · have l1 : (keyTo keys ns J (i + 1))[j]? = none := List.getElem?_eq_none (by rw [keyTo_len]; omega)
    rw [l1]
    split
    · rw [List.getElem?_eq_none (by simp [keyTo_len]; omega)]
    · rw [List.getElem?_eq_none (by rw [keyTo_len]; omega)]
theorem keyed_get (keys : List Str) : ∀ (s : List Node) (k : List Pk) (hl : k.length = s.length) (j : Nat) (hj : j < k.length) (hs : j < s.length), (keyed keys s k)[j]? = some (if has keys s[j].name = true then wholeP else k[j])
  | n :: s, p :: r, hl, 0, hj, hs => by rw [keyed]; rfl
  | n :: s, p :: r, hl, j + 1, hj, hs => by
    rw [keyed, List.getElem?_cons_succ]
    exact keyed_get keys s r (by simpa using hl) j (by simpa using hj) (by simpa using hs)
theorem keyed_len (keys : List Str) : ∀ (s : List Node) (k : List Pk), k.length = s.length → (keyed keys s k).length = k.length
  | n :: s, p :: r, hl => by rw [keyed]; simp [keyed_len keys s r (by simpa using hl)]
  | [], [], hl => by rw [keyed]; intros; simp_all
theorem keyTo_all (keys : List Str) (ns : List Node) (J : List Pk) (hJ : J.length = ns.length) : keyTo keys ns J ns.length = keyed keys ns J := by
  apply List.ext_getElem?
  intro j
  by_cases hj : j < J.length
  · have hn : ns[j]? = some ns[j] := List.getElem?_eq_getElem (by omega)
    rw [keyed_get keys ns J hJ j hj (by omega)]
    simp [keyTo, List.getElem?_mapIdx, List.getElem?_eq_getElem hj, hn]
    have : j < ns.length := by omega
    simp [this]
  · rw [List.getElem?_eq_none (by rw [keyTo_len]; omega), List.getElem?_eq_none (by rw [keyed_len keys ns J hJ]; omega)]
end Go.Abs.SA
end

section
set_option linter.unusedVariables false
set_option linter.unusedSimpArgs false
set_option maxRecDepth 100000
set_option maxHeartbeats 8000000
set_option linter.unusedSimpArgs false
set_option linter.unusedVariables false
namespace Go.Abs.SA
open Go.Proofs

def fitsR (d : Def) (n : Node) : Option (List Pk × Bool × List Elem) → Pk
  | none => .nil
  | some (out, m, rest) =>
        if m = true ∧ rest = [] then wholeP
        else if (joinL out (n.kids.map fun x => pickN d.kids x rest)).all isNil then .nil
        else .mk false (keyed d.keys n.kids (joinL out (n.kids.map fun x => pickN d.kids x rest)))
theorem fitsD_r (d : Def) (n : Node) (f : Elem) : fitsD d n f = (if d.kind = 3 then (if f.kids ≠ [] ∨ (f.text ≠ ⟨#[]⟩ ∧ f.text ≠ n.value) then .nil else wholeP)
    else if f.text ≠ ⟨#[]⟩ then .nil
    else if f.kids = [] then wholeP
    else fitsR d n (scan d.kids n.kids f.kids (List.replicate n.kids.length .nil) false [])) := by
  rw [fitsD_s]
  cases scan d.kids n.kids f.kids (List.replicate n.kids.length .nil) false [] <;> rfl
theorem fits_of (d : Def) (nd : Node) (f : Elem) (hod : okD d) (hcn : cntN nd ≤ 900000) (hcf : cntE f ≤ 900000)
    (hB : ∀ (nodes : List Node) (fs : List Elem), cntL nodes ≤ 900000 → cntEs fs ≤ 900000 → pureW XX 43 [lD d.kids, lN nodes, lE fs] = some (aPk (.mk false (nodes.map fun x => pickN d.kids x fs)))) :
    pureW XX 64 [aDef d, aNode nd, aElem f] = some (aPk (fitsD d nd f)) := by
  obtain ⟨o1, o2, o3, o4⟩ := okD_s hod
  have hkn : nd.kids.length ≤ 900000 := by have := len_cnt nd.kids; rw [cntN_s] at hcn; omega
  have hkf : f.kids.length ≤ 900000 := by have := len_cntEs f.kids; rw [cntE_s] at hcf; omega
  have hw := whole_spec
  rw [fitsD_r]
  refine pureW_in 140 Try.func64 Try.ntmps64 (by simp) (rfl : Try.f64.body = some _) fns_64 ?_
  by_cases hk3 : d.kind = 3
  · have hk3' := eq_true hk3
    rw [if_pos hk3]
    by_cases hkk : (0 : Int) < (f.kids.length : Int)
    · have : f.kids ≠ [] := by intro hh; rw [hh] at hkk; simp at hkk
      rw [if_pos (.inl this), aPk_nil]
      simp (maxSteps := 200000) (disch := first | (simp only [go_sem, Nat.reduceAdd, Nat.reduceSub, Nat.reduceMul, Nat.reduceLeDiff, Nat.reduceEqDiff, Nat.reduceLT, Nat.reduceBEq, Nat.reduceBNe, Nat.reducePow, ↓reduceIte]; done) | omega | (simp only [go_sem, Nat.reduceAdd, Nat.reduceSub, Nat.reduceMul, Nat.reduceLeDiff, Nat.reduceEqDiff, Nat.reduceLT, Nat.reduceBEq, Nat.reduceBNe, Nat.reducePow, ↓reduceIte] <;> omega) | fail) only [go_sem, Nat.reduceAdd, Nat.reduceSub, Nat.reduceMul, Nat.reduceLeDiff, Nat.reduceEqDiff, Nat.reduceLT, Nat.reduceBEq, Nat.reduceBNe, Nat.reducePow, ↓reduceIte, hk3', hkk]
    · have hkz : f.kids = [] := List.eq_nil_iff_length_eq_zero.2 (by omega)
      by_cases ht : f.text = ⟨#[]⟩
      · have ht' := eq_true ht
        rw [if_neg (by simp [hkz, ht])]
        simp (maxSteps := 200000) (disch := first | (simp only [go_sem, Nat.reduceAdd, Nat.reduceSub, Nat.reduceMul, Nat.reduceLeDiff, Nat.reduceEqDiff, Nat.reduceLT, Nat.reduceBEq, Nat.reduceBNe, Nat.reducePow, ↓reduceIte]; done) | omega | (simp only [go_sem, Nat.reduceAdd, Nat.reduceSub, Nat.reduceMul, Nat.reduceLeDiff, Nat.reduceEqDiff, Nat.reduceLT, Nat.reduceBEq, Nat.reduceBNe, Nat.reducePow, ↓reduceIte] <;> omega) | fail) only [go_sem, Nat.reduceAdd, Nat.reduceSub, Nat.reduceMul, Nat.reduceLeDiff, Nat.reduceEqDiff, Nat.reduceLT, Nat.reduceBEq, Nat.reduceBNe, Nat.reducePow, ↓reduceIte, hk3', hkk, ht', ne_eq, not_true, callA_data mode_70, hw]
      · by_cases hv : f.text = nd.value
        · have hv' := eq_true hv
          rw [if_neg (by simp [hkz, hv])]
          simp (maxSteps := 200000) (disch := first | (simp only [go_sem, Nat.reduceAdd, Nat.reduceSub, Nat.reduceMul, Nat.reduceLeDiff, Nat.reduceEqDiff, Nat.reduceLT, Nat.reduceBEq, Nat.reduceBNe, Nat.reducePow, ↓reduceIte]; done) | omega | (simp only [go_sem, Nat.reduceAdd, Nat.reduceSub, Nat.reduceMul, Nat.reduceLeDiff, Nat.reduceEqDiff, Nat.reduceLT, Nat.reduceBEq, Nat.reduceBNe, Nat.reducePow, ↓reduceIte] <;> omega) | fail) only [go_sem, Nat.reduceAdd, Nat.reduceSub, Nat.reduceMul, Nat.reduceLeDiff, Nat.reduceEqDiff, Nat.reduceLT, Nat.reduceBEq, Nat.reduceBNe, Nat.reducePow, ↓reduceIte, hk3', hkk, ht, hv', ne_eq, not_true, not_false_eq_true, callA_data mode_70, hw]
        · rw [if_pos (.inr ⟨ht, hv⟩), aPk_nil]
          simp (maxSteps := 200000) (disch := first | (simp only [go_sem, Nat.reduceAdd, Nat.reduceSub, Nat.reduceMul, Nat.reduceLeDiff, Nat.reduceEqDiff, Nat.reduceLT, Nat.reduceBEq, Nat.reduceBNe, Nat.reducePow, ↓reduceIte]; done) | omega | (simp only [go_sem, Nat.reduceAdd, Nat.reduceSub, Nat.reduceMul, Nat.reduceLeDiff, Nat.reduceEqDiff, Nat.reduceLT, Nat.reduceBEq, Nat.reduceBNe, Nat.reducePow, ↓reduceIte] <;> omega) | fail) only [go_sem, Nat.reduceAdd, Nat.reduceSub, Nat.reduceMul, Nat.reduceLeDiff, Nat.reduceEqDiff, Nat.reduceLT, Nat.reduceBEq, Nat.reduceBNe, Nat.reducePow, ↓reduceIte, hk3', hkk, ht, hv, ne_eq, not_true, not_false_eq_true]
  rw [if_neg hk3]
  by_cases ht : f.text = ⟨#[]⟩
  case neg =>
    rw [if_pos ht, aPk_nil]
    simp (maxSteps := 200000) (disch := first | (simp only [go_sem, Nat.reduceAdd, Nat.reduceSub, Nat.reduceMul, Nat.reduceLeDiff, Nat.reduceEqDiff, Nat.reduceLT, Nat.reduceBEq, Nat.reduceBNe, Nat.reducePow, ↓reduceIte]; done) | omega | (simp only [go_sem, Nat.reduceAdd, Nat.reduceSub, Nat.reduceMul, Nat.reduceLeDiff, Nat.reduceEqDiff, Nat.reduceLT, Nat.reduceBEq, Nat.reduceBNe, Nat.reducePow, ↓reduceIte] <;> omega) | fail) only [go_sem, Nat.reduceAdd, Nat.reduceSub, Nat.reduceMul, Nat.reduceLeDiff, Nat.reduceEqDiff, Nat.reduceLT, Nat.reduceBEq, Nat.reduceBNe, Nat.reducePow, ↓reduceIte, hk3, ht, ne_eq, not_false_eq_true]
  have ht' := eq_true ht
  rw [if_neg (by simp [ht])]
  by_cases hkz : f.kids.length = 0
  · have hkz' : ((f.kids.length : Int) = 0) = True := eq_true (by omega)
    rw [if_pos (List.eq_nil_iff_length_eq_zero.2 hkz)]
    simp (maxSteps := 200000) (disch := first | (simp only [go_sem, Nat.reduceAdd, Nat.reduceSub, Nat.reduceMul, Nat.reduceLeDiff, Nat.reduceEqDiff, Nat.reduceLT, Nat.reduceBEq, Nat.reduceBNe, Nat.reducePow, ↓reduceIte]; done) | omega | (simp only [go_sem, Nat.reduceAdd, Nat.reduceSub, Nat.reduceMul, Nat.reduceLeDiff, Nat.reduceEqDiff, Nat.reduceLT, Nat.reduceBEq, Nat.reduceBNe, Nat.reducePow, ↓reduceIte] <;> omega) | fail) only [go_sem, Nat.reduceAdd, Nat.reduceSub, Nat.reduceMul, Nat.reduceLeDiff, Nat.reduceEqDiff, Nat.reduceLT, Nat.reduceBEq, Nat.reduceBNe, Nat.reducePow, ↓reduceIte, hk3, ht', ne_eq, not_true, hkz', callA_data mode_70, hw]
  have hkz' : ((f.kids.length : Int) = 0) = False := eq_false (by omega)
  rw [if_neg (fun e => hkz (by rw [e]; rfl))]
  have hnn := none_spec nd.kids.length (by omega)
  generalize hR : fitsR d nd (scan d.kids nd.kids f.kids (List.replicate nd.kids.length .nil) false []) = R
  simp (maxSteps := 200000) (disch := first | (simp only [go_sem, Nat.reduceAdd, Nat.reduceSub, Nat.reduceMul, Nat.reduceLeDiff, Nat.reduceEqDiff, Nat.reduceLT, Nat.reduceBEq, Nat.reduceBNe, Nat.reducePow, ↓reduceIte]; done) | omega | (simp only [go_sem, Nat.reduceAdd, Nat.reduceSub, Nat.reduceMul, Nat.reduceLeDiff, Nat.reduceEqDiff, Nat.reduceLT, Nat.reduceBEq, Nat.reduceBNe, Nat.reducePow, ↓reduceIte] <;> omega) | fail) only [go_sem, Nat.reduceAdd, Nat.reduceSub, Nat.reduceMul, Nat.reduceLeDiff, Nat.reduceEqDiff, Nat.reduceLT, Nat.reduceBEq, Nat.reduceBNe, Nat.reducePow, ↓reduceIte, hk3, ht', ne_eq, not_true, hkz', callA_fresh mode_62, hnn]
  refine WP_loopR 12 6 (fun (a : Nat × List Pk × Bool × List Elem) => S_64_12 (.ptr 0 0) (.ptr 1 0) (.sl 3 0 a.2.2.2.length false) (.ptr 5 0) (vB a.2.2.1) (lE f.kids) (vI f.kids.length) (vI a.1)
    [.var [vS d.name, vI d.kind, vI d.type, lS d.values, vB d.must, lS d.keys, lD d.kids], .var [vS nd.name, vS nd.value, lN nd.kids], .var [vS f.space, vS f.name, .fs (f.attrs.map eAttr) false, vS f.text, lE f.kids],
     .arr 57 5 (a.2.2.2.map eElem), .arr 77 1 (a.2.1.map ePk), .var [vB false, .sl 4 0 nd.kids.length false]]) (fun a => f.kids.length - a.1)
    (fun a => a.1 ≤ f.kids.length ∧ a.2.2.2.length ≤ a.1 ∧ fitL a.2.1 nd.kids ∧ scan d.kids nd.kids f.kids (List.replicate nd.kids.length .nil) false [] = scan d.kids nd.kids (f.kids.drop a.1) a.2.1 a.2.2.1 a.2.2.2)
    (0, List.replicate nd.kids.length .nil, false, []) rfl rfl ?_ ?_ ?_
  · simp (maxSteps := 200000) (disch := first | (simp only [go_sem, Nat.reduceAdd, Nat.reduceSub, Nat.reduceMul, Nat.reduceLeDiff, Nat.reduceEqDiff, Nat.reduceLT, Nat.reduceBEq, Nat.reduceBNe, Nat.reducePow, ↓reduceIte]; done) | omega | (simp only [go_sem, Nat.reduceAdd, Nat.reduceSub, Nat.reduceMul, Nat.reduceLeDiff, Nat.reduceEqDiff, Nat.reduceLT, Nat.reduceBEq, Nat.reduceBNe, Nat.reducePow, ↓reduceIte] <;> omega) | fail) only [go_sem, Nat.reduceAdd, Nat.reduceSub, Nat.reduceMul, Nat.reduceLeDiff, Nat.reduceEqDiff, Nat.reduceLT, Nat.reduceBEq, Nat.reduceBNe, Nat.reducePow, ↓reduceIte]; rfl
  · exact ⟨by simp, by simp, fitL_rep _, rfl⟩
  · rintro ⟨i, out, m, rest⟩ ⟨hi, hr, hfit, hsc⟩
    simp only at hi hr hfit hsc
    have hol := fitL_len hfit
    by_cases h : i < f.kids.length
    case neg =>
      rw [List.drop_of_length_le (by omega), scan] at hsc
      rw [hsc] at hR
      simp only [fitsR] at hR
      by_cases hmr : m = true ∧ rest = []
      · obtain ⟨rfl, rfl⟩ := hmr
        have n0 : (((0 : Nat) : Int) = 0) = True := eq_true rfl
        rw [if_pos ⟨rfl, rfl⟩] at hR
        subst hR
        simp (maxSteps := 200000) (disch := first | (simp only [go_sem, Nat.reduceAdd, Nat.reduceSub, Nat.reduceMul, Nat.reduceLeDiff, Nat.reduceEqDiff, Nat.reduceLT, Nat.reduceBEq, Nat.reduceBNe, Nat.reducePow, ↓reduceIte]; done) | omega | (simp only [go_sem, Nat.reduceAdd, Nat.reduceSub, Nat.reduceMul, Nat.reduceLeDiff, Nat.reduceEqDiff, Nat.reduceLT, Nat.reduceBEq, Nat.reduceBNe, Nat.reducePow, ↓reduceIte] <;> omega) | fail) only [go_sem, Nat.reduceAdd, Nat.reduceSub, Nat.reduceMul, Nat.reduceLeDiff, Nat.reduceEqDiff, Nat.reduceLT, Nat.reduceBEq, Nat.reduceBNe, Nat.reducePow, ↓reduceIte, nat_int, h, List.length_nil, n0, callA_data mode_70, hw]
      rw [if_neg hmr] at hR
      have hrc := scan_cnt _ _ _ _ _ _ _ _ _ hsc
      have hsome := hB nd.kids rest (by rw [cntN_s] at hcn; omega) (by simp only [cntEs] at hrc; rw [cntE_s] at hcf; omega)
      have hfs := mapPick_fit (s := nd.kids) (g := fun x => pickN d.kids x rest) (fun x _ => pick_fit d.kids x rest)
      generalize hsl : nd.kids.map (fun x => pickN d.kids x rest) = sl at *
      have hlsl := fitL_len hfs
      have hJf := joinL_fit hfit hfs
      have hJl := fitL_len hJf
      have hcnt := fitL_cnt out nd.kids hfit
      rw [cntN_s] at hcn
      have hjn := join_spec (cntPs out + 1) out sl (by omega) (by omega) (fit_shape (cntN nd + 1) (n := nd) (by omega) (by rw [fitP]; exact .inr ⟨rfl, hfit⟩) (by rw [fitP]; exact .inr ⟨rfl, hfs⟩)) (by omega)
      have hjo := mk_P out
      have hjs := mk_P sl
      have hany := anyPick_spec (joinL out sl) (by omega)
      generalize joinL out sl = J at *
      cases hall : J.all isNil with
      | true =>
        rw [hall] at hany
        rw [hall, if_pos rfl] at hR
        subst hR
        rw [aPk_nil]
        cases m with
        | false =>
          simp (maxSteps := 200000) (disch := first | (simp only [go_sem, Nat.reduceAdd, Nat.reduceSub, Nat.reduceMul, Nat.reduceLeDiff, Nat.reduceEqDiff, Nat.reduceLT, Nat.reduceBEq, Nat.reduceBNe, Nat.reducePow, ↓reduceIte]; done) | omega | (simp only [go_sem, Nat.reduceAdd, Nat.reduceSub, Nat.reduceMul, Nat.reduceLeDiff, Nat.reduceEqDiff, Nat.reduceLT, Nat.reduceBEq, Nat.reduceBNe, Nat.reducePow, ↓reduceIte] <;> omega) | fail) only [go_sem, Nat.reduceAdd, Nat.reduceSub, Nat.reduceMul, Nat.reduceLeDiff, Nat.reduceEqDiff, Nat.reduceLT, Nat.reduceBEq, Nat.reduceBNe, Nat.reducePow, ↓reduceIte, nat_int, h, callA_data mode_43, hsome, callA_fresh mode_63, hjn, hjo, hjs, callA_pure mode_72, hany]
        | true =>
          have hrn : ((rest.length : Int) = 0) = False := eq_false (by
            intro e
            exact hmr ⟨rfl, List.eq_nil_iff_length_eq_zero.2 (by omega)⟩)
          simp (maxSteps := 200000) (disch := first | (simp only [go_sem, Nat.reduceAdd, Nat.reduceSub, Nat.reduceMul, Nat.reduceLeDiff, Nat.reduceEqDiff, Nat.reduceLT, Nat.reduceBEq, Nat.reduceBNe, Nat.reducePow, ↓reduceIte]; done) | omega | (simp only [go_sem, Nat.reduceAdd, Nat.reduceSub, Nat.reduceMul, Nat.reduceLeDiff, Nat.reduceEqDiff, Nat.reduceLT, Nat.reduceBEq, Nat.reduceBNe, Nat.reducePow, ↓reduceIte] <;> omega) | fail) only [go_sem, Nat.reduceAdd, Nat.reduceSub, Nat.reduceMul, Nat.reduceLeDiff, Nat.reduceEqDiff, Nat.reduceLT, Nat.reduceBEq, Nat.reduceBNe, Nat.reducePow, ↓reduceIte, nat_int, h, hrn, callA_data mode_43, hsome, callA_fresh mode_63, hjn, hjo, hjs, callA_pure mode_72, hany]
      | false =>
        rw [hall] at hany
        rw [hall, if_neg (by simp)] at hR
        subst hR
        cases m with
        | false =>
          simp (maxSteps := 200000) (disch := first | (simp only [go_sem, Nat.reduceAdd, Nat.reduceSub, Nat.reduceMul, Nat.reduceLeDiff, Nat.reduceEqDiff, Nat.reduceLT, Nat.reduceBEq, Nat.reduceBNe, Nat.reducePow, ↓reduceIte]; done) | omega | (simp only [go_sem, Nat.reduceAdd, Nat.reduceSub, Nat.reduceMul, Nat.reduceLeDiff, Nat.reduceEqDiff, Nat.reduceLT, Nat.reduceBEq, Nat.reduceBNe, Nat.reducePow, ↓reduceIte] <;> omega) | fail) only [go_sem, Nat.reduceAdd, Nat.reduceSub, Nat.reduceMul, Nat.reduceLeDiff, Nat.reduceEqDiff, Nat.reduceLT, Nat.reduceBEq, Nat.reduceBNe, Nat.reducePow, ↓reduceIte, nat_int, h, callA_data mode_43, hsome, callA_fresh mode_63, hjn, hjo, hjs, callA_pure mode_72, hany]
          refine WP_range 28 8 nd.kids.length (fun i => S_64_28 (.ptr 0 0) (.ptr 7 0) (lN nd.kids) (vI nd.kids.length) (vI i)
            [.var [vS d.name, vI d.kind, vI d.type, lS d.values, vB d.must, lS d.keys, lD d.kids], .var [vS nd.name, vS nd.value, lN nd.kids], .var [vS f.space, vS f.name, .fs (f.attrs.map eAttr) false, vS f.text, lE f.kids],
             .dead, .dead, .dead, .arr 77 1 ((keyTo d.keys nd.kids J i).map ePk), .var [vB false, .sl 6 0 J.length false]]) (fun _ => True) rfl rfl ?_ ?_ ?_ ?_
          · simp (maxSteps := 200000) (disch := first | (simp only [go_sem, Nat.reduceAdd, Nat.reduceSub, Nat.reduceMul, Nat.reduceLeDiff, Nat.reduceEqDiff, Nat.reduceLT, Nat.reduceBEq, Nat.reduceBNe, Nat.reducePow, ↓reduceIte]; done) | omega | (simp only [go_sem, Nat.reduceAdd, Nat.reduceSub, Nat.reduceMul, Nat.reduceLeDiff, Nat.reduceEqDiff, Nat.reduceLT, Nat.reduceBEq, Nat.reduceBNe, Nat.reducePow, ↓reduceIte] <;> omega) | fail) only [go_sem, Nat.reduceAdd, Nat.reduceSub, Nat.reduceMul, Nat.reduceLeDiff, Nat.reduceEqDiff, Nat.reduceLT, Nat.reduceBEq, Nat.reduceBNe, Nat.reducePow, ↓reduceIte, keyTo_zero]; rfl
          · trivial
          · intro j hj _
            have hjk : j < (keyTo d.keys nd.kids J j).length := by rw [keyTo_len]; omega
            have hjJ : j < J.length := by omega
            have hws2 := wrap_succ hj (show nd.kids.length ≤ 140737488355328 by omega)
            have hct := contains_spec d.keys nd.kids[j].name (by omega)
            have hks := keyTo_succ d.keys nd.kids J hj (by omega)
            cases hhas : has d.keys nd.kids[j].name with
            | true =>
              rw [hhas] at hct hks
              rw [if_pos rfl] at hks
              rw [hks]
              generalize keyTo d.keys nd.kids J j = u at *
              simp (maxSteps := 200000) (disch := first | (simp only [go_sem, Nat.reduceAdd, Nat.reduceSub, Nat.reduceMul, Nat.reduceLeDiff, Nat.reduceEqDiff, Nat.reduceLT, Nat.reduceBEq, Nat.reduceBNe, Nat.reducePow, ↓reduceIte]; done) | omega | (simp only [go_sem, Nat.reduceAdd, Nat.reduceSub, Nat.reduceMul, Nat.reduceLeDiff, Nat.reduceEqDiff, Nat.reduceLT, Nat.reduceBEq, Nat.reduceBNe, Nat.reducePow, ↓reduceIte] <;> omega) | fail) only [go_sem, Nat.reduceAdd, Nat.reduceSub, Nat.reduceMul, Nat.reduceLeDiff, Nat.reduceEqDiff, Nat.reduceLT, Nat.reduceBEq, Nat.reduceBNe, Nat.reducePow, ↓reduceIte, nat_int, hj, hjk, hjJ, eNode_s, callA_pure mode_38, hct, callA_data mode_70, hw, hws2]
            | false =>
              rw [hhas] at hct hks
              rw [if_neg (by simp)] at hks
              rw [hks]
              generalize keyTo d.keys nd.kids J j = u at *
              simp (maxSteps := 200000) (disch := first | (simp only [go_sem, Nat.reduceAdd, Nat.reduceSub, Nat.reduceMul, Nat.reduceLeDiff, Nat.reduceEqDiff, Nat.reduceLT, Nat.reduceBEq, Nat.reduceBNe, Nat.reducePow, ↓reduceIte]; done) | omega | (simp only [go_sem, Nat.reduceAdd, Nat.reduceSub, Nat.reduceMul, Nat.reduceLeDiff, Nat.reduceEqDiff, Nat.reduceLT, Nat.reduceBEq, Nat.reduceBNe, Nat.reducePow, ↓reduceIte] <;> omega) | fail) only [go_sem, Nat.reduceAdd, Nat.reduceSub, Nat.reduceMul, Nat.reduceLeDiff, Nat.reduceEqDiff, Nat.reduceLT, Nat.reduceBEq, Nat.reduceBNe, Nat.reducePow, ↓reduceIte, nat_int, hj, hjk, hjJ, eNode_s, callA_pure mode_38, hct, hws2]
          · intro _
            rw [keyTo_all _ _ _ (by omega)]
            have hkl := keyed_len d.keys nd.kids J (by omega)
            generalize keyed d.keys nd.kids J = KK at *
            simp (maxSteps := 200000) (disch := first | (simp only [go_sem, Nat.reduceAdd, Nat.reduceSub, Nat.reduceMul, Nat.reduceLeDiff, Nat.reduceEqDiff, Nat.reduceLT, Nat.reduceBEq, Nat.reduceBNe, Nat.reducePow, ↓reduceIte]; done) | omega | (simp only [go_sem, Nat.reduceAdd, Nat.reduceSub, Nat.reduceMul, Nat.reduceLeDiff, Nat.reduceEqDiff, Nat.reduceLT, Nat.reduceBEq, Nat.reduceBNe, Nat.reducePow, ↓reduceIte] <;> omega) | fail) only [go_sem, Nat.reduceAdd, Nat.reduceSub, Nat.reduceMul, Nat.reduceLeDiff, Nat.reduceEqDiff, Nat.reduceLT, Nat.reduceBEq, Nat.reduceBNe, Nat.reducePow, ↓reduceIte, nat_int, aPk_mk]
        | true =>
          have hrn : ((rest.length : Int) = 0) = False := eq_false (by
            intro e
            exact hmr ⟨rfl, List.eq_nil_iff_length_eq_zero.2 (by omega)⟩)
          simp (maxSteps := 200000) (disch := first | (simp only [go_sem, Nat.reduceAdd, Nat.reduceSub, Nat.reduceMul, Nat.reduceLeDiff, Nat.reduceEqDiff, Nat.reduceLT, Nat.reduceBEq, Nat.reduceBNe, Nat.reducePow, ↓reduceIte]; done) | omega | (simp only [go_sem, Nat.reduceAdd, Nat.reduceSub, Nat.reduceMul, Nat.reduceLeDiff, Nat.reduceEqDiff, Nat.reduceLT, Nat.reduceBEq, Nat.reduceBNe, Nat.reducePow, ↓reduceIte] <;> omega) | fail) only [go_sem, Nat.reduceAdd, Nat.reduceSub, Nat.reduceMul, Nat.reduceLeDiff, Nat.reduceEqDiff, Nat.reduceLT, Nat.reduceBEq, Nat.reduceBNe, Nat.reducePow, ↓reduceIte, nat_int, h, hrn, callA_data mode_43, hsome, callA_fresh mode_63, hjn, hjo, hjs, callA_pure mode_72, hany]
          refine WP_range 28 8 nd.kids.length (fun i => S_64_28 (.ptr 0 0) (.ptr 7 0) (lN nd.kids) (vI nd.kids.length) (vI i)
            [.var [vS d.name, vI d.kind, vI d.type, lS d.values, vB d.must, lS d.keys, lD d.kids], .var [vS nd.name, vS nd.value, lN nd.kids], .var [vS f.space, vS f.name, .fs (f.attrs.map eAttr) false, vS f.text, lE f.kids],
             .dead, .dead, .dead, .arr 77 1 ((keyTo d.keys nd.kids J i).map ePk), .var [vB false, .sl 6 0 J.length false]]) (fun _ => True) rfl rfl ?_ ?_ ?_ ?_
          · simp (maxSteps := 200000) (disch := first | (simp only [go_sem, Nat.reduceAdd, Nat.reduceSub, Nat.reduceMul, Nat.reduceLeDiff, Nat.reduceEqDiff, Nat.reduceLT, Nat.reduceBEq, Nat.reduceBNe, Nat.reducePow, ↓reduceIte]; done) | omega | (simp only [go_sem, Nat.reduceAdd, Nat.reduceSub, Nat.reduceMul, Nat.reduceLeDiff, Nat.reduceEqDiff, Nat.reduceLT, Nat.reduceBEq, Nat.reduceBNe, Nat.reducePow, ↓reduceIte] <;> omega) | fail) only [go_sem, Nat.reduceAdd, Nat.reduceSub, Nat.reduceMul, Nat.reduceLeDiff, Nat.reduceEqDiff, Nat.reduceLT, Nat.reduceBEq, Nat.reduceBNe, Nat.reducePow, ↓reduceIte, keyTo_zero]; rfl
          · trivial
          · intro j hj _
            have hjk : j < (keyTo d.keys nd.kids J j).length := by rw [keyTo_len]; omega
            have hjJ : j < J.length := by omega
            have hws2 := wrap_succ hj (show nd.kids.length ≤ 140737488355328 by omega)
            have hct := contains_spec d.keys nd.kids[j].name (by omega)
            have hks := keyTo_succ d.keys nd.kids J hj (by omega)
            cases hhas : has d.keys nd.kids[j].name with
            | true =>
              rw [hhas] at hct hks
              rw [if_pos rfl] at hks
              rw [hks]
              generalize keyTo d.keys nd.kids J j = u at *
              simp (maxSteps := 200000) (disch := first | (simp only [go_sem, Nat.reduceAdd, Nat.reduceSub, Nat.reduceMul, Nat.reduceLeDiff, Nat.reduceEqDiff, Nat.reduceLT, Nat.reduceBEq, Nat.reduceBNe, Nat.reducePow, ↓reduceIte]; done) | omega | (simp only [go_sem, Nat.reduceAdd, Nat.reduceSub, Nat.reduceMul, Nat.reduceLeDiff, Nat.reduceEqDiff, Nat.reduceLT, Nat.reduceBEq, Nat.reduceBNe, Nat.reducePow, ↓reduceIte] <;> omega) | fail) only [go_sem, Nat.reduceAdd, Nat.reduceSub, Nat.reduceMul, Nat.reduceLeDiff, Nat.reduceEqDiff, Nat.reduceLT, Nat.reduceBEq, Nat.reduceBNe, Nat.reducePow, ↓reduceIte, nat_int, hj, hjk, hjJ, eNode_s, callA_pure mode_38, hct, callA_data mode_70, hw, hws2]
            | false =>
              rw [hhas] at hct hks
              rw [if_neg (by simp)] at hks
              rw [hks]
              generalize keyTo d.keys nd.kids J j = u at *
              simp (maxSteps := 200000) (disch := first | (simp only [go_sem, Nat.reduceAdd, Nat.reduceSub, Nat.reduceMul, Nat.reduceLeDiff, Nat.reduceEqDiff, Nat.reduceLT, Nat.reduceBEq, Nat.reduceBNe, Nat.reducePow, ↓reduceIte]; done) | omega | (simp only [go_sem, Nat.reduceAdd, Nat.reduceSub, Nat.reduceMul, Nat.reduceLeDiff, Nat.reduceEqDiff, Nat.reduceLT, Nat.reduceBEq, Nat.reduceBNe, Nat.reducePow, ↓reduceIte] <;> omega) | fail) only [go_sem, Nat.reduceAdd, Nat.reduceSub, Nat.reduceMul, Nat.reduceLeDiff, Nat.reduceEqDiff, Nat.reduceLT, Nat.reduceBEq, Nat.reduceBNe, Nat.reducePow, ↓reduceIte, nat_int, hj, hjk, hjJ, eNode_s, callA_pure mode_38, hct, hws2]
          · intro _
            rw [keyTo_all _ _ _ (by omega)]
            have hkl := keyed_len d.keys nd.kids J (by omega)
            generalize keyed d.keys nd.kids J = KK at *
            simp (maxSteps := 200000) (disch := first | (simp only [go_sem, Nat.reduceAdd, Nat.reduceSub, Nat.reduceMul, Nat.reduceLeDiff, Nat.reduceEqDiff, Nat.reduceLT, Nat.reduceBEq, Nat.reduceBNe, Nat.reducePow, ↓reduceIte]; done) | omega | (simp only [go_sem, Nat.reduceAdd, Nat.reduceSub, Nat.reduceMul, Nat.reduceLeDiff, Nat.reduceEqDiff, Nat.reduceLT, Nat.reduceBEq, Nat.reduceBNe, Nat.reducePow, ↓reduceIte] <;> omega) | fail) only [go_sem, Nat.reduceAdd, Nat.reduceSub, Nat.reduceMul, Nat.reduceLeDiff, Nat.reduceEqDiff, Nat.reduceLT, Nat.reduceBEq, Nat.reduceBNe, Nat.reducePow, ↓reduceIte, nat_int, aPk_mk]
    have hws := wrap_succ h (show f.kids.length ≤ 140737488355328 by omega)
    rw [List.drop_eq_getElem_cons h, scan] at hsc
    have pl := find_spec d.kids f.kids[i].name (by omega)
    have hnot : isTest d.kids f.kids[i] = false → scan d.kids nd.kids f.kids (List.replicate nd.kids.length .nil) false [] = scan d.kids nd.kids (f.kids.drop (i + 1)) out m (rest ++ [f.kids[i]]) := by
      intro ht; rw [hsc, ht]; rfl
    cases hp : place d.kids f.kids[i].name with
    | none =>
      rw [hp] at pl
      simp only [posI] at pl
      have n1 : ((-1 : Int) < 0) = True := eq_true (by omega)
      simp (maxSteps := 200000) (disch := first | (simp only [go_sem, Nat.reduceAdd, Nat.reduceSub, Nat.reduceMul, Nat.reduceLeDiff, Nat.reduceEqDiff, Nat.reduceLT, Nat.reduceBEq, Nat.reduceBNe, Nat.reducePow, ↓reduceIte]; done) | omega | (simp only [go_sem, Nat.reduceAdd, Nat.reduceSub, Nat.reduceMul, Nat.reduceLeDiff, Nat.reduceEqDiff, Nat.reduceLT, Nat.reduceBEq, Nat.reduceBNe, Nat.reducePow, ↓reduceIte] <;> omega) | fail) only [go_sem, Nat.reduceAdd, Nat.reduceSub, Nat.reduceMul, Nat.reduceLeDiff, Nat.reduceEqDiff, Nat.reduceLT, Nat.reduceBEq, Nat.reduceBNe, Nat.reducePow, ↓reduceIte, nat_int, h, eElem_s, eDef_s, callA_pure mode_31, pl, n1, hws, snoc_E]
      exact ⟨(i + 1, out, m, rest ++ [f.kids[i]]), by simp, ⟨by simp; omega, by simp; omega, hfit, hnot (by simp [isTest, hp])⟩, by simp; omega⟩
    | some q =>
    obtain ⟨hq, hqn⟩ := place_some hp
    rw [hp] at pl
    simp only [posI] at pl
    have n1 : ((q : Int) < 0) = False := eq_false (by omega)
    by_cases hk : d.kids[q].kind = 3
    case neg =>
      simp (maxSteps := 200000) (disch := first | (simp only [go_sem, Nat.reduceAdd, Nat.reduceSub, Nat.reduceMul, Nat.reduceLeDiff, Nat.reduceEqDiff, Nat.reduceLT, Nat.reduceBEq, Nat.reduceBNe, Nat.reducePow, ↓reduceIte]; done) | omega | (simp only [go_sem, Nat.reduceAdd, Nat.reduceSub, Nat.reduceMul, Nat.reduceLeDiff, Nat.reduceEqDiff, Nat.reduceLT, Nat.reduceBEq, Nat.reduceBNe, Nat.reducePow, ↓reduceIte] <;> omega) | fail) only [go_sem, Nat.reduceAdd, Nat.reduceSub, Nat.reduceMul, Nat.reduceLeDiff, Nat.reduceEqDiff, Nat.reduceLT, Nat.reduceBEq, Nat.reduceBNe, Nat.reducePow, ↓reduceIte, nat_int, h, hq, eElem_s, eDef_s, callA_pure mode_31, pl, n1, hws, snoc_E, hk, ne_eq, not_false_eq_true]
      exact ⟨(i + 1, out, m, rest ++ [f.kids[i]]), by simp, ⟨by simp; omega, by simp; omega, hfit, hnot (by simp [isTest, hp, List.getElem?_eq_getElem hq, hk])⟩, by simp; omega⟩
    have hk' := eq_true hk
    by_cases htx : f.kids[i].text = ⟨#[]⟩
    · have htx' := eq_true htx
      simp (maxSteps := 200000) (disch := first | (simp only [go_sem, Nat.reduceAdd, Nat.reduceSub, Nat.reduceMul, Nat.reduceLeDiff, Nat.reduceEqDiff, Nat.reduceLT, Nat.reduceBEq, Nat.reduceBNe, Nat.reducePow, ↓reduceIte]; done) | omega | (simp only [go_sem, Nat.reduceAdd, Nat.reduceSub, Nat.reduceMul, Nat.reduceLeDiff, Nat.reduceEqDiff, Nat.reduceLT, Nat.reduceBEq, Nat.reduceBNe, Nat.reducePow, ↓reduceIte] <;> omega) | fail) only [go_sem, Nat.reduceAdd, Nat.reduceSub, Nat.reduceMul, Nat.reduceLeDiff, Nat.reduceEqDiff, Nat.reduceLT, Nat.reduceBEq, Nat.reduceBNe, Nat.reducePow, ↓reduceIte, nat_int, h, hq, eElem_s, eDef_s, callA_pure mode_31, pl, n1, hws, snoc_E, hk', htx', ne_eq, not_true]
      exact ⟨(i + 1, out, m, rest ++ [f.kids[i]]), by simp, ⟨by simp; omega, by simp; omega, hfit, hnot (by simp [isTest, hp, List.getElem?_eq_getElem hq, htx])⟩, by simp; omega⟩
    have hte : isTest d.kids f.kids[i] = true := by simp [isTest, hp, List.getElem?_eq_getElem hq, hk, htx]
    rw [hte, if_pos rfl] at hsc
    have hix := indexLeaf_spec nd.kids f.kids[i] (by omega)
    cases hat : leafAt nd.kids f.kids[i] with
    | none =>
      rw [hat] at hsc
      simp only at hsc
      rw [hsc] at hR
      simp only [fitsR] at hR
      subst hR
      simp only [leafAt] at hat
      rw [hat] at hix
      simp only [posI] at hix
      have n2 : ((-1 : Int) < 0) = True := eq_true (by omega)
      simp (maxSteps := 200000) (disch := first | (simp only [go_sem, Nat.reduceAdd, Nat.reduceSub, Nat.reduceMul, Nat.reduceLeDiff, Nat.reduceEqDiff, Nat.reduceLT, Nat.reduceBEq, Nat.reduceBNe, Nat.reducePow, ↓reduceIte]; done) | omega | (simp only [go_sem, Nat.reduceAdd, Nat.reduceSub, Nat.reduceMul, Nat.reduceLeDiff, Nat.reduceEqDiff, Nat.reduceLT, Nat.reduceBEq, Nat.reduceBNe, Nat.reducePow, ↓reduceIte] <;> omega) | fail) only [go_sem, Nat.reduceAdd, Nat.reduceSub, Nat.reduceMul, Nat.reduceLeDiff, Nat.reduceEqDiff, Nat.reduceLT, Nat.reduceBEq, Nat.reduceBNe, Nat.reducePow, ↓reduceIte, nat_int, h, hq, eElem_s, eDef_s, callA_pure mode_31, pl, n1, hws, hk', htx, ne_eq, not_true, callA_pure mode_54, hix, n2, aPk_nil]
    | some z =>
      rw [hat] at hsc
      simp only at hsc
      have hz : z < nd.kids.length := by
        simp only [leafAt] at hat
        rw [List.findIdx?_eq_some_iff_getElem] at hat
        exact hat.1
      have hzo : z < out.length := by omega
      simp only [leafAt] at hat
      rw [hat] at hix
      simp only [posI] at hix
      have n2 : ((z : Int) < 0) = False := eq_false (by omega)
      simp (maxSteps := 200000) (disch := first | (simp only [go_sem, Nat.reduceAdd, Nat.reduceSub, Nat.reduceMul, Nat.reduceLeDiff, Nat.reduceEqDiff, Nat.reduceLT, Nat.reduceBEq, Nat.reduceBNe, Nat.reducePow, ↓reduceIte]; done) | omega | (simp only [go_sem, Nat.reduceAdd, Nat.reduceSub, Nat.reduceMul, Nat.reduceLeDiff, Nat.reduceEqDiff, Nat.reduceLT, Nat.reduceBEq, Nat.reduceBNe, Nat.reducePow, ↓reduceIte] <;> omega) | fail) only [go_sem, Nat.reduceAdd, Nat.reduceSub, Nat.reduceMul, Nat.reduceLeDiff, Nat.reduceEqDiff, Nat.reduceLT, Nat.reduceBEq, Nat.reduceBNe, Nat.reducePow, ↓reduceIte, nat_int, h, hq, hz, hzo, eElem_s, eDef_s, callA_pure mode_31, pl, n1, hws, hk', htx, ne_eq, not_true, callA_pure mode_54, hix, n2, callA_data mode_70, hw]
      exact ⟨(i + 1, out.set z wholeP, true, rest), by simp, ⟨by simp; omega, by simp; omega, fitL_set hfit z wholeP (fun _ => fit_whole _), hsc⟩, by simp; omega⟩
end Go.Abs.SA
end

section
set_option linter.unusedVariables false
set_option linter.unusedSimpArgs false
set_option maxRecDepth 100000
set_option maxHeartbeats 8000000
set_option linter.unusedSimpArgs false
set_option linter.unusedVariables false
namespace Go.Abs.SA
open Go.Proofs

def stepP (d : Def) (n : Node) (p : Pk) (f : Elem) : Pk := if f.name = n.name then joinP p (fitsD d n f) else p
theorem pickN_t (l : List Def) (n : Node) (fs : List Elem) {q : Nat} (h : place l n.name = some q) (hq : q < l.length) : pickN l n fs = fs.foldl (stepP l[q] n) .nil := by
  rw [pickN_s, h]; simp only [List.getElem?_eq_getElem hq]; rfl
theorem fold_fit (d : Def) (n : Node) : ∀ (fs : List Elem) (p : Pk), fitP p n → fitP (fs.foldl (stepP d n) p) n
  | [], p, h => h
  | f :: fs, p, h => by
    rw [List.foldl_cons]
    apply fold_fit d n fs
    unfold stepP
    split
    · exact fit_join (cntN n + 1) (by omega) h (fits_fit d n f)
    · exact h
theorem upto_nil (J : List Pk) {i : Nat} (h : i < J.length) : (upto J i).set i .nil = upto J i := by
  apply List.ext_getElem?
  intro j
  rw [List.getElem?_set, upto_len]
  by_cases he : i = j
  · subst he
    rw [if_pos rfl, if_pos h, upto_get J i i h, if_neg (by omega)]
  · rw [if_neg he]
theorem some_spec : ∀ (n : Nat) (l : List Def) (nodes : List Node) (fs : List Elem), cntDs l < n → okDs l → l.length ≤ 1099511627776 → cntL nodes ≤ 900000 → cntEs fs ≤ 900000 →
    pureW XX 43 [lD l, lN nodes, lE fs] = some (aPk (.mk false (nodes.map fun x => pickN l x fs))) := by
  intro n
  induction n with
  | zero => intro l nodes fs h; omega
  | succ n ih =>
    intro l nodes fs hc hod hl hcn hcf
    have hln := len_cnt nodes
    have hlf := len_cntEs fs
    refine pureW_in 66 Try.func43 Try.ntmps43 (by simp) (rfl : Try.f43.body = some _) fns_43 ?_
    have hnn := none_spec nodes.length (by omega)
    simp (maxSteps := 200000) (disch := first | (simp only [go_sem, Nat.reduceAdd, Nat.reduceSub, Nat.reduceMul, Nat.reduceLeDiff, Nat.reduceEqDiff, Nat.reduceLT, Nat.reduceBEq, Nat.reduceBNe, Nat.reducePow, ↓reduceIte]; done) | omega | (simp only [go_sem, Nat.reduceAdd, Nat.reduceSub, Nat.reduceMul, Nat.reduceLeDiff, Nat.reduceEqDiff, Nat.reduceLT, Nat.reduceBEq, Nat.reduceBNe, Nat.reducePow, ↓reduceIte] <;> omega) | fail) only [go_sem, Nat.reduceAdd, Nat.reduceSub, Nat.reduceMul, Nat.reduceLeDiff, Nat.reduceEqDiff, Nat.reduceLT, Nat.reduceBEq, Nat.reduceBNe, Nat.reducePow, ↓reduceIte, callA_fresh mode_62, hnn]
    have hJl : (nodes.map fun x => pickN l x fs).length = nodes.length := by simp
    have hJg : ∀ (i : Nat) (h : i < nodes.length) (h' : i < (nodes.map fun x => pickN l x fs).length), (nodes.map fun x => pickN l x fs)[i] = pickN l nodes[i] fs := by intro i h h'; simp
    generalize (nodes.map fun x => pickN l x fs) = J at *
    refine WP_range 3 2 nodes.length (fun i => S_43_3 (lD l) (lE fs) (.ptr 1 0) (lN nodes) (vI nodes.length) (vI i) [.arr 77 1 ((upto J i).map ePk), .var [vB false, .sl 0 0 nodes.length false]]) (fun _ => True) rfl rfl ?_ ?_ ?_ ?_
    · simp (maxSteps := 200000) (disch := first | (simp only [go_sem, Nat.reduceAdd, Nat.reduceSub, Nat.reduceMul, Nat.reduceLeDiff, Nat.reduceEqDiff, Nat.reduceLT, Nat.reduceBEq, Nat.reduceBNe, Nat.reducePow, ↓reduceIte]; done) | omega | (simp only [go_sem, Nat.reduceAdd, Nat.reduceSub, Nat.reduceMul, Nat.reduceLeDiff, Nat.reduceEqDiff, Nat.reduceLT, Nat.reduceBEq, Nat.reduceBNe, Nat.reducePow, ↓reduceIte] <;> omega) | fail) only [go_sem, Nat.reduceAdd, Nat.reduceSub, Nat.reduceMul, Nat.reduceLeDiff, Nat.reduceEqDiff, Nat.reduceLT, Nat.reduceBEq, Nat.reduceBNe, Nat.reducePow, ↓reduceIte]
      rw [upto_zero, hJl]
      rfl
    · trivial
    · intro i h _
      have hJi : i < J.length := by omega
      have hg := hJg i h hJi
      have hwi := wrap_succ h (show nodes.length ≤ 140737488355328 by omega)
      have pl := find_spec l nodes[i].name (by omega)
      have hfull := upto_set J hJi
      rw [hg] at hfull
      have hni := cnt_mem (List.getElem_mem h)
      cases hp : place l nodes[i].name with
      | none =>
        rw [hp] at pl
        simp only [posI] at pl
        have n1 : (0 ≤ (-1 : Int)) = False := eq_false (by omega)
        have hpk : pickN l nodes[i] fs = .nil := by rw [pickN_s, hp]
        rw [hpk, upto_nil J hJi] at hfull
        simp (maxSteps := 200000) (disch := first | (simp only [go_sem, Nat.reduceAdd, Nat.reduceSub, Nat.reduceMul, Nat.reduceLeDiff, Nat.reduceEqDiff, Nat.reduceLT, Nat.reduceBEq, Nat.reduceBNe, Nat.reducePow, ↓reduceIte]; done) | omega | (simp only [go_sem, Nat.reduceAdd, Nat.reduceSub, Nat.reduceMul, Nat.reduceLeDiff, Nat.reduceEqDiff, Nat.reduceLT, Nat.reduceBEq, Nat.reduceBNe, Nat.reducePow, ↓reduceIte] <;> omega) | fail) only [go_sem, Nat.reduceAdd, Nat.reduceSub, Nat.reduceMul, Nat.reduceLeDiff, Nat.reduceEqDiff, Nat.reduceLT, Nat.reduceBEq, Nat.reduceBNe, Nat.reducePow, ↓reduceIte, nat_int, h, eNode_s, callA_pure mode_31, pl]
        refine WP_range 7 3 fs.length (fun j => S_43_7 (lD l) (lE fs) (.ptr 1 0) (vI i) (.ptr 2 0) (vI (-1)) (lN nodes) (vI nodes.length) (vI i) (lE fs) (vI fs.length) (vI j) [.arr 77 1 ((upto J i).map ePk), .var [vB false, .sl 0 0 nodes.length false], .var [vS nodes[i].name, vS nodes[i].value, lN nodes[i].kids]]) (fun _ => True) rfl rfl ?_ ?_ ?_ ?_
        · simp (maxSteps := 200000) (disch := first | (simp only [go_sem, Nat.reduceAdd, Nat.reduceSub, Nat.reduceMul, Nat.reduceLeDiff, Nat.reduceEqDiff, Nat.reduceLT, Nat.reduceBEq, Nat.reduceBNe, Nat.reducePow, ↓reduceIte]; done) | omega | (simp only [go_sem, Nat.reduceAdd, Nat.reduceSub, Nat.reduceMul, Nat.reduceLeDiff, Nat.reduceEqDiff, Nat.reduceLT, Nat.reduceBEq, Nat.reduceBNe, Nat.reducePow, ↓reduceIte] <;> omega) | fail) only [go_sem, Nat.reduceAdd, Nat.reduceSub, Nat.reduceMul, Nat.reduceLeDiff, Nat.reduceEqDiff, Nat.reduceLT, Nat.reduceBEq, Nat.reduceBNe, Nat.reducePow, ↓reduceIte]; rfl
        · trivial
        · intro j hj _
          simp (maxSteps := 200000) (disch := first | (simp only [go_sem, Nat.reduceAdd, Nat.reduceSub, Nat.reduceMul, Nat.reduceLeDiff, Nat.reduceEqDiff, Nat.reduceLT, Nat.reduceBEq, Nat.reduceBNe, Nat.reducePow, ↓reduceIte]; done) | omega | (simp only [go_sem, Nat.reduceAdd, Nat.reduceSub, Nat.reduceMul, Nat.reduceLeDiff, Nat.reduceEqDiff, Nat.reduceLT, Nat.reduceBEq, Nat.reduceBNe, Nat.reducePow, ↓reduceIte] <;> omega) | fail) only [go_sem, Nat.reduceAdd, Nat.reduceSub, Nat.reduceMul, Nat.reduceLeDiff, Nat.reduceEqDiff, Nat.reduceLT, Nat.reduceBEq, Nat.reduceBNe, Nat.reducePow, ↓reduceIte, nat_int, hj, eElem_s, n1, wrap_succ hj (show fs.length ≤ 140737488355328 by omega)]
        · intro _
          simp (maxSteps := 200000) (disch := first | (simp only [go_sem, Nat.reduceAdd, Nat.reduceSub, Nat.reduceMul, Nat.reduceLeDiff, Nat.reduceEqDiff, Nat.reduceLT, Nat.reduceBEq, Nat.reduceBNe, Nat.reducePow, ↓reduceIte]; done) | omega | (simp only [go_sem, Nat.reduceAdd, Nat.reduceSub, Nat.reduceMul, Nat.reduceLeDiff, Nat.reduceEqDiff, Nat.reduceLT, Nat.reduceBEq, Nat.reduceBNe, Nat.reducePow, ↓reduceIte] <;> omega) | fail) only [go_sem, Nat.reduceAdd, Nat.reduceSub, Nat.reduceMul, Nat.reduceLeDiff, Nat.reduceEqDiff, Nat.reduceLT, Nat.reduceBEq, Nat.reduceBNe, Nat.reducePow, ↓reduceIte, nat_int, hwi]
          rw [hfull]
      | some q =>
        obtain ⟨hq, hqn⟩ := place_some hp
        rw [hp] at pl
        simp only [posI] at pl
        have n1 : (0 ≤ (q : Int)) = True := eq_true (by omega)
        have hod2 := okDs_mem hod (List.getElem_mem hq)
        obtain ⟨o1, o2, o3, o4⟩ := okD_s hod2
        have hcd := cntD_mem (List.getElem_mem hq)
        rw [cntD_s] at hcd
        have hpk := pickN_t l nodes[i] fs hp hq
        simp (maxSteps := 200000) (disch := first | (simp only [go_sem, Nat.reduceAdd, Nat.reduceSub, Nat.reduceMul, Nat.reduceLeDiff, Nat.reduceEqDiff, Nat.reduceLT, Nat.reduceBEq, Nat.reduceBNe, Nat.reducePow, ↓reduceIte]; done) | omega | (simp only [go_sem, Nat.reduceAdd, Nat.reduceSub, Nat.reduceMul, Nat.reduceLeDiff, Nat.reduceEqDiff, Nat.reduceLT, Nat.reduceBEq, Nat.reduceBNe, Nat.reducePow, ↓reduceIte] <;> omega) | fail) only [go_sem, Nat.reduceAdd, Nat.reduceSub, Nat.reduceMul, Nat.reduceLeDiff, Nat.reduceEqDiff, Nat.reduceLT, Nat.reduceBEq, Nat.reduceBNe, Nat.reducePow, ↓reduceIte, nat_int, h, eNode_s, callA_pure mode_31, pl]
        refine WP_range 7 3 fs.length (fun j => S_43_7 (lD l) (lE fs) (.ptr 1 0) (vI i) (.ptr 2 0) (vI q) (lN nodes) (vI nodes.length) (vI i) (lE fs) (vI fs.length) (vI j) [.arr 77 1 (((upto J i).set i ((fs.take j).foldl (stepP l[q] nodes[i]) .nil)).map ePk), .var [vB false, .sl 0 0 nodes.length false], .var [vS nodes[i].name, vS nodes[i].value, lN nodes[i].kids]]) (fun _ => True) rfl rfl ?_ ?_ ?_ ?_
        · simp (maxSteps := 200000) (disch := first | (simp only [go_sem, Nat.reduceAdd, Nat.reduceSub, Nat.reduceMul, Nat.reduceLeDiff, Nat.reduceEqDiff, Nat.reduceLT, Nat.reduceBEq, Nat.reduceBNe, Nat.reducePow, ↓reduceIte]; done) | omega | (simp only [go_sem, Nat.reduceAdd, Nat.reduceSub, Nat.reduceMul, Nat.reduceLeDiff, Nat.reduceEqDiff, Nat.reduceLT, Nat.reduceBEq, Nat.reduceBNe, Nat.reducePow, ↓reduceIte] <;> omega) | fail) only [go_sem, Nat.reduceAdd, Nat.reduceSub, Nat.reduceMul, Nat.reduceLeDiff, Nat.reduceEqDiff, Nat.reduceLT, Nat.reduceBEq, Nat.reduceBNe, Nat.reducePow, ↓reduceIte]
          rw [List.foldl_nil, upto_nil J hJi]
          rfl
        · trivial
        · intro j hj _
          have hws := wrap_succ hj (show fs.length ≤ 140737488355328 by omega)
          have hacc := fold_fit l[q] nodes[i] (fs.take j) .nil (fit_nil _)
          have htk : (fs.take (j + 1)).foldl (stepP l[q] nodes[i]) .nil = stepP l[q] nodes[i] ((fs.take j).foldl (stepP l[q] nodes[i]) .nil) fs[j] := by
            rw [List.take_succ_eq_append_getElem hj, List.foldl_append]; rfl
          rw [htk]
          generalize (fs.take j).foldl (stepP l[q] nodes[i]) .nil = acc at *
          have hset : ∀ x, ((upto J i).set i acc).set i x = (upto J i).set i x := fun x => List.set_set ..
          have hul : ((upto J i).set i acc).length = nodes.length := by rw [List.length_set, upto_len, hJl]
          have hui : ∀ hh : i < ((upto J i).set i acc).length, ((upto J i).set i acc)[i] = acc := fun hh => List.getElem_set_self hh
          obtain ⟨u, hu⟩ : ∃ u, (upto J i).set i acc = u := ⟨_, rfl⟩
          rw [hu] at hul
          simp only [hu] at hset hui
          have hiu : i < u.length := by omega
          have hui := hui hiu
          unfold stepP
          rw [hu]
          by_cases hnm : fs[j].name = nodes[i].name
          case neg =>
            rw [if_neg hnm, hu]
            simp (maxSteps := 200000) (disch := first | (simp only [go_sem, Nat.reduceAdd, Nat.reduceSub, Nat.reduceMul, Nat.reduceLeDiff, Nat.reduceEqDiff, Nat.reduceLT, Nat.reduceBEq, Nat.reduceBNe, Nat.reducePow, ↓reduceIte]; done) | omega | (simp only [go_sem, Nat.reduceAdd, Nat.reduceSub, Nat.reduceMul, Nat.reduceLeDiff, Nat.reduceEqDiff, Nat.reduceLT, Nat.reduceBEq, Nat.reduceBNe, Nat.reducePow, ↓reduceIte] <;> omega) | fail) only [go_sem, Nat.reduceAdd, Nat.reduceSub, Nat.reduceMul, Nat.reduceLeDiff, Nat.reduceEqDiff, Nat.reduceLT, Nat.reduceBEq, Nat.reduceBNe, Nat.reducePow, ↓reduceIte, nat_int, hj, eElem_s, n1, hnm, hws]
          have hnm' := eq_true hnm
          rw [if_pos hnm, ← hset (joinP acc (fitsD l[q] nodes[i] fs[j]))]
          have hfi := fits_of l[q] nodes[i] fs[j] hod2 (by omega) (by have := cntE_mem (List.getElem_mem hj); omega) (fun ns es h1 h2 => ih l[q].kids ns es (by omega) o4 o3 h1 h2)
          have hff := fits_fit l[q] nodes[i] fs[j]
          generalize fitsD l[q] nodes[i] fs[j] = F at *
          have hsh := fit_shape (cntN nodes[i] + 1) (n := nodes[i]) (by omega) hacc hff
          rcases join_cases hsh with hjc | ⟨c, c', e1, e2⟩
          · simp (maxSteps := 200000) (disch := first | (simp only [go_sem, Nat.reduceAdd, Nat.reduceSub, Nat.reduceMul, Nat.reduceLeDiff, Nat.reduceEqDiff, Nat.reduceLT, Nat.reduceBEq, Nat.reduceBNe, Nat.reducePow, ↓reduceIte]; done) | omega | (simp only [go_sem, Nat.reduceAdd, Nat.reduceSub, Nat.reduceMul, Nat.reduceLeDiff, Nat.reduceEqDiff, Nat.reduceLT, Nat.reduceBEq, Nat.reduceBNe, Nat.reducePow, ↓reduceIte] <;> omega) | fail) only [go_sem, Nat.reduceAdd, Nat.reduceSub, Nat.reduceMul, Nat.reduceLeDiff, Nat.reduceEqDiff, Nat.reduceLT, Nat.reduceBEq, Nat.reduceBNe, Nat.reducePow, ↓reduceIte, nat_int, h, hj, hq, eElem_s, eNode_s, eDef_s, n1, hnm', hws, hiu, hui, ePk_s, callA_data mode_64, hfi, callA_fresh mode_63, hjc]
          · have hac := fit_cnt acc nodes[i] hacc
            rw [e1, cntP] at hac
            have hcl : c.length ≤ 1099511627776 := by
              have : ∀ l : List Pk, l.length ≤ cntPs l := by
                intro l
                induction l with
                | nil => simp
                | cons p r ih2 => rw [cntPs, List.length_cons]; have : 1 ≤ cntP p := by cases p <;> simp [cntP]
                                  omega
              have := this c
              omega
            have hjc := join_spec (cntPs c + 1) c c' (by omega) (by omega) (by rw [← e1, ← e2]; exact hsh) hcl
            subst e1
            subst e2
            rw [joinP, if_neg (by simp)]
            generalize joinL c c' = cc at *
            have hcc := mk_P cc
            simp (maxSteps := 200000) (disch := first | (simp only [go_sem, Nat.reduceAdd, Nat.reduceSub, Nat.reduceMul, Nat.reduceLeDiff, Nat.reduceEqDiff, Nat.reduceLT, Nat.reduceBEq, Nat.reduceBNe, Nat.reducePow, ↓reduceIte]; done) | omega | (simp only [go_sem, Nat.reduceAdd, Nat.reduceSub, Nat.reduceMul, Nat.reduceLeDiff, Nat.reduceEqDiff, Nat.reduceLT, Nat.reduceBEq, Nat.reduceBNe, Nat.reducePow, ↓reduceIte] <;> omega) | fail) only [go_sem, Nat.reduceAdd, Nat.reduceSub, Nat.reduceMul, Nat.reduceLeDiff, Nat.reduceEqDiff, Nat.reduceLT, Nat.reduceBEq, Nat.reduceBNe, Nat.reducePow, ↓reduceIte, nat_int, h, hj, hq, eElem_s, eNode_s, eDef_s, n1, hnm', hws, hiu, hui, ePk_s, callA_data mode_64, hfi, callA_fresh mode_63, hjc, hcc]
        · intro _
          rw [List.take_length, ← hpk, hfull]
          simp (maxSteps := 200000) (disch := first | (simp only [go_sem, Nat.reduceAdd, Nat.reduceSub, Nat.reduceMul, Nat.reduceLeDiff, Nat.reduceEqDiff, Nat.reduceLT, Nat.reduceBEq, Nat.reduceBNe, Nat.reducePow, ↓reduceIte]; done) | omega | (simp only [go_sem, Nat.reduceAdd, Nat.reduceSub, Nat.reduceMul, Nat.reduceLeDiff, Nat.reduceEqDiff, Nat.reduceLT, Nat.reduceBEq, Nat.reduceBNe, Nat.reducePow, ↓reduceIte] <;> omega) | fail) only [go_sem, Nat.reduceAdd, Nat.reduceSub, Nat.reduceMul, Nat.reduceLeDiff, Nat.reduceEqDiff, Nat.reduceLT, Nat.reduceBEq, Nat.reduceBNe, Nat.reducePow, ↓reduceIte, nat_int, hwi]
    · intro _
      rw [show upto J nodes.length = J from by rw [← hJl]; exact upto_all J]
      simp (maxSteps := 200000) (disch := first | (simp only [go_sem, Nat.reduceAdd, Nat.reduceSub, Nat.reduceMul, Nat.reduceLeDiff, Nat.reduceEqDiff, Nat.reduceLT, Nat.reduceBEq, Nat.reduceBNe, Nat.reducePow, ↓reduceIte]; done) | omega | (simp only [go_sem, Nat.reduceAdd, Nat.reduceSub, Nat.reduceMul, Nat.reduceLeDiff, Nat.reduceEqDiff, Nat.reduceLT, Nat.reduceBEq, Nat.reduceBNe, Nat.reducePow, ↓reduceIte] <;> omega) | fail) only [go_sem, Nat.reduceAdd, Nat.reduceSub, Nat.reduceMul, Nat.reduceLeDiff, Nat.reduceEqDiff, Nat.reduceLT, Nat.reduceBEq, Nat.reduceBNe, Nat.reducePow, ↓reduceIte, nat_int, aPk_mk]

/-- What a filter leaves. -/
def sieveF (l : List Def) (nodes : List Node) (fs : List Elem) : List Node := cutL (nodes.map fun x => pickN l x fs) nodes
theorem filter_spec (l : List Def) (nodes : List Node) (fs : List Elem) (hod : okDs l) (hl : l.length ≤ 1099511627776) (hcn : cntL nodes ≤ 900000) (hcf : cntEs fs ≤ 900000) :
    pureW XX 26 [lD l, lN nodes, lE fs] = some (lN (sieveF l nodes fs)) := by
  refine pureW_in 13 Try.func26 Try.ntmps26 (by simp) (rfl : Try.f26.body = some _) fns_26 ?_
  have hs := some_spec (cntDs l + 1) l nodes fs (by omega) hod hl hcn hcf
  have hfit := mapPick_fit (s := nodes) (g := fun x => pickN l x fs) (fun x _ => pick_fit l x fs)
  have hc := cut_spec (cntL nodes + 1) _ nodes (by omega) (by omega) hfit
  unfold sieveF
  generalize (nodes.map fun x => pickN l x fs) = J at *
  rw [aPk_mk] at hs hc
  simp (maxSteps := 200000) (disch := first | (simp only [go_sem, Nat.reduceAdd, Nat.reduceSub, Nat.reduceMul, Nat.reduceLeDiff, Nat.reduceEqDiff, Nat.reduceLT, Nat.reduceBEq, Nat.reduceBNe, Nat.reducePow, ↓reduceIte]; done) | omega | (simp only [go_sem, Nat.reduceAdd, Nat.reduceSub, Nat.reduceMul, Nat.reduceLeDiff, Nat.reduceEqDiff, Nat.reduceLT, Nat.reduceBEq, Nat.reduceBNe, Nat.reducePow, ↓reduceIte] <;> omega) | fail) only [go_sem, Nat.reduceAdd, Nat.reduceSub, Nat.reduceMul, Nat.reduceLeDiff, Nat.reduceEqDiff, Nat.reduceLT, Nat.reduceBEq, Nat.reduceBNe, Nat.reducePow, ↓reduceIte, callA_data mode_43, hs, callA_data mode_44, hc]
end Go.Abs.SA
end
