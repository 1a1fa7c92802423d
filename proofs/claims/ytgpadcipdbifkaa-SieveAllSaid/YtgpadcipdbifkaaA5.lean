/- YtgpadcipdbifkaaA5: a part of the interpreter by which the claim is shown, and of the walks: no conditions of its own: every theorem states its own. -/
import Derived.Test.YtgpadcipdbifkaaA4
section
set_option linter.unusedVariables false
set_option linter.unusedSimpArgs false
set_option maxRecDepth 100000
set_option maxHeartbeats 4000000
set_option linter.unusedSimpArgs false
set_option linter.unusedVariables false
namespace Go.Abs.SA
open Go.Proofs

abbrev Str := ByteArray
abbrev vS (s : Str) : AV := .v (.string s)
abbrev vI (n : Int) : AV := .v (.int .i64 n)
abbrev vB (b : Bool) : AV := .v (.bool b)
abbrev eS (s : Str) : List AV := [vS s]
abbrev lS (l : List Str) : AV := .fs (l.map eS) false
theorem eS_len (s : Str) : (eS s).length = 1 := rfl
attribute [go_sem] eS_len
instance : EL eS 1 := ⟨eS_len⟩
theorem snoc_S (l : List Str) (x : Str) : l.map eS ++ [[.v (.string x)]] = (l ++ [x]).map eS := by simp
attribute [go_sem] snoc_S
def posI : Option Nat → Int
  | some i => i
  | none => -1

theorem nat_int {i n : Nat} : ((i : Int) < (n : Int)) = (i < n) := propext (by omega)
theorem nat_int_ne {i n : Nat} : ((i : Int) ≠ (n : Int)) = (i ≠ n) := propext (by omega)
theorem nat_int_gt {i n : Nat} : ((i : Int) > (n : Int)) = (i > n) := propext (by omega)
theorem nat_int_eq {i n : Nat} : ((i : Int) = (n : Int)) = (i = n) := propext (by omega)
/-- Is a text in a list? -/
def has (l : List Str) (v : Str) : Bool := l.any fun x => decide (v = x)
theorem has_iff {l : List Str} {v : Str} : has l v = true ↔ v ∈ l := by simp [has]

theorem index_spec (xs : List Str) (v : Str) (hl : xs.length ≤ 140737488355328) : pureW XX 61 [lS xs, vS v] = some (vI (posI (xs.findIdx? (v = ·)))) := by
  refine pureW_in 19 Try.func61 Try.ntmps61 (by simp) (rfl : Try.f61.body = some _) fns_61 ?_
  simp only [go_sem, Nat.reduceAdd, Nat.reduceSub, Nat.reduceMul, Nat.reduceLeDiff, Nat.reduceEqDiff, Nat.reduceLT, Nat.reduceBEq, Nat.reduceBNe, Nat.reducePow, ↓reduceIte]
  refine WP_range 2 0 xs.length (fun i => S_61_2 (lS xs) (vS v) (vI xs.length) (vI i) []) (fun i => xs.findIdx? (v = ·) = ((xs.drop i).findIdx? (v = ·)).map (· + i)) rfl rfl ?_ ?_ ?_ ?_
  · simp only [go_sem, Nat.reduceAdd, Nat.reduceSub, Nat.reduceMul, Nat.reduceLeDiff, Nat.reduceEqDiff, Nat.reduceLT, Nat.reduceBEq, Nat.reduceBNe, Nat.reducePow, ↓reduceIte]; rfl
  · simp
  · intro i h hI
    rw [List.drop_eq_getElem_cons h, List.findIdx?_cons] at hI
    by_cases hv : v = xs[i]
    · simp only [go_sem, Nat.reduceAdd, Nat.reduceSub, Nat.reduceMul, Nat.reduceLeDiff, Nat.reduceEqDiff, Nat.reduceLT, Nat.reduceBEq, Nat.reduceBNe, Nat.reducePow, ↓reduceIte, nat_int, h, ← hv]
      rw [hI]
      simp [← hv, posI]
    · simp only [go_sem, Nat.reduceAdd, Nat.reduceSub, Nat.reduceMul, Nat.reduceLeDiff, Nat.reduceEqDiff, Nat.reduceLT, Nat.reduceBEq, Nat.reduceBNe, Nat.reducePow, ↓reduceIte, nat_int, h, hv, wrap_succ h hl]
      rw [hI]
      simp [hv]
      congr 1
      funext x
      simp
      omega
  · intro hI
    simp only [go_sem, Nat.reduceAdd, Nat.reduceSub, Nat.reduceMul, Nat.reduceLeDiff, Nat.reduceEqDiff, Nat.reduceLT, Nat.reduceBEq, Nat.reduceBNe, Nat.reducePow, ↓reduceIte, nat_int, Nat.lt_irrefl]
    rw [hI]
    simp [posI]

theorem posI_geq (o : Option Nat) : (0 ≤ posI o) = (o.isSome = true) := by
  cases o <;> simp [posI]

theorem contains_spec (xs : List Str) (v : Str) (hl : xs.length ≤ 140737488355328) : pureW XX 38 [lS xs, vS v] = some (vB (has xs v)) := by
  refine pureW_in 9 Try.func38 Try.ntmps38 (by simp) (rfl : Try.f38.body = some _) fns_38 ?_
  simp only [go_sem, Nat.reduceAdd, Nat.reduceSub, Nat.reduceMul, Nat.reduceLeDiff, Nat.reduceEqDiff, Nat.reduceLT, Nat.reduceBEq, Nat.reduceBNe, Nat.reducePow, ↓reduceIte, callA_pure mode_61, index_spec _ _ hl, pureR, AV.scalar, posI_geq]
  simp [has]

/-- The loop that compares two lists of texts, from i on. -/
theorem drop_eq {α : Type} {xs ys : List α} {i : Nat} (h1 : i < xs.length) (h2 : i < ys.length) : (xs.drop i = ys.drop i) = (xs[i] = ys[i] ∧ xs.drop (i + 1) = ys.drop (i + 1)) := by
  rw [List.drop_eq_getElem_cons h1, List.drop_eq_getElem_cons h2, List.cons.injEq]


theorem equal_spec (xs ys : List Str) (hl : xs.length ≤ 140737488355328) : pureW XX 39 [lS xs, lS ys] = some (vB (decide (xs = ys))) := by
  refine pureW_in 26 Try.func39 Try.ntmps39 (by simp) (rfl : Try.f39.body = some _) fns_39 ?_
  by_cases hn : xs.length = ys.length
  · simp only [go_sem, Nat.reduceAdd, Nat.reduceSub, Nat.reduceMul, Nat.reduceLeDiff, Nat.reduceEqDiff, Nat.reduceLT, Nat.reduceBEq, Nat.reduceBNe, Nat.reducePow, ↓reduceIte, nat_int_ne, hn, ne_eq, not_true]
    refine WP_range 4 0 ys.length (fun i => S_39_4 (lS xs) (lS ys) (vI xs.length) (vI i) []) (fun i => (xs = ys) = (xs.drop i = ys.drop i)) rfl rfl ?_ ?_ ?_ ?_
    · simp only [go_sem, Nat.reduceAdd, Nat.reduceSub, Nat.reduceMul, Nat.reduceLeDiff, Nat.reduceEqDiff, Nat.reduceLT, Nat.reduceBEq, Nat.reduceBNe, Nat.reducePow, ↓reduceIte]; rw [hn]; rfl
    · simp
    · intro i h hI
      rw [drop_eq (by omega) h] at hI
      by_cases hv : xs[i] = ys[i]
      · simp only [go_sem, Nat.reduceAdd, Nat.reduceSub, Nat.reduceMul, Nat.reduceLeDiff, Nat.reduceEqDiff, Nat.reduceLT, Nat.reduceBEq, Nat.reduceBNe, Nat.reducePow, ↓reduceIte, nat_int, h, hn, hv, ne_eq, not_true, wrap_succ h (hn ▸ hl)]
        simp [hI, hv]
      · simp only [go_sem, Nat.reduceAdd, Nat.reduceSub, Nat.reduceMul, Nat.reduceLeDiff, Nat.reduceEqDiff, Nat.reduceLT, Nat.reduceBEq, Nat.reduceBNe, Nat.reducePow, ↓reduceIte, nat_int, h, hn, hv, ne_eq, not_false_eq_true]
        simp [hI, hv]
    · intro hI
      simp only [go_sem, Nat.reduceAdd, Nat.reduceSub, Nat.reduceMul, Nat.reduceLeDiff, Nat.reduceEqDiff, Nat.reduceLT, Nat.reduceBEq, Nat.reduceBNe, Nat.reducePow, ↓reduceIte, nat_int, hn, Nat.lt_irrefl]
      simp [hI, List.drop_of_length_le (Nat.le_of_eq hn)]
  · have hne : xs ≠ ys := fun e => hn (by rw [e])
    simp only [go_sem, Nat.reduceAdd, Nat.reduceSub, Nat.reduceMul, Nat.reduceLeDiff, Nat.reduceEqDiff, Nat.reduceLT, Nat.reduceBEq, Nat.reduceBNe, Nat.reducePow, ↓reduceIte, nat_int_ne, hn, ne_eq, not_false_eq_true, hne]
end Go.Abs.SA
end

section
set_option linter.unusedVariables false
set_option linter.unusedSimpArgs false
set_option maxRecDepth 100000
set_option maxHeartbeats 4000000
set_option linter.unusedSimpArgs false
set_option linter.unusedVariables false
namespace Go.Abs.SA
open Go.Proofs

theorem has_spec (xs : List Str) (v : Str) (hl : xs.length ≤ 140737488355328) : pureW XX 59 [lS xs, vS v] = some (vB (has xs v)) := by
  refine pureW_in 18 Try.func59 Try.ntmps59 (by simp) (rfl : Try.f59.body = some _) fns_59 ?_
  simp only [go_sem, Nat.reduceAdd, Nat.reduceSub, Nat.reduceMul, Nat.reduceLeDiff, Nat.reduceEqDiff, Nat.reduceLT, Nat.reduceBEq, Nat.reduceBNe, Nat.reducePow, ↓reduceIte]
  refine WP_range 2 0 xs.length (fun i => S_59_2 (lS xs) (vS v) (vI i) []) (fun i => has xs v = has (xs.drop i) v) rfl rfl ?_ ?_ ?_ ?_
  · simp only [go_sem, Nat.reduceAdd, Nat.reduceSub, Nat.reduceMul, Nat.reduceLeDiff, Nat.reduceEqDiff, Nat.reduceLT, Nat.reduceBEq, Nat.reduceBNe, Nat.reducePow, ↓reduceIte]; rfl
  · simp
  · intro i h hI
    rw [List.drop_eq_getElem_cons h] at hI
    by_cases hv : xs[i] = v
    · simp only [go_sem, Nat.reduceAdd, Nat.reduceSub, Nat.reduceMul, Nat.reduceLeDiff, Nat.reduceEqDiff, Nat.reduceLT, Nat.reduceBEq, Nat.reduceBNe, Nat.reducePow, ↓reduceIte, nat_int, h, hv]
      rw [hI]; simp [has, hv]
    · simp only [go_sem, Nat.reduceAdd, Nat.reduceSub, Nat.reduceMul, Nat.reduceLeDiff, Nat.reduceEqDiff, Nat.reduceLT, Nat.reduceBEq, Nat.reduceBNe, Nat.reducePow, ↓reduceIte, nat_int, h, hv, wrap_succ h hl]
      rw [hI, has, List.any_cons, decide_eq_false (Ne.symm hv), Bool.false_or]; rfl
  · intro hI
    simp only [go_sem, Nat.reduceAdd, Nat.reduceSub, Nat.reduceMul, Nat.reduceLeDiff, Nat.reduceEqDiff, Nat.reduceLT, Nat.reduceBEq, Nat.reduceBNe, Nat.reducePow, ↓reduceIte, nat_int, Nat.lt_irrefl]
    rw [hI]; simp [has]

theorem begins_spec (path w : List Str) (hl : w.length ≤ 140737488355328) : pureW XX 60 [lS path, lS w] = some (vB (decide (w <+: path))) := by
  refine pureW_in 26 Try.func60 Try.ntmps60 (by simp) (rfl : Try.f60.body = some _) fns_60 ?_
  by_cases hn : w.length > path.length
  · have hne : ¬ w <+: path := fun e => by have := e.length_le; omega
    simp only [go_sem, Nat.reduceAdd, Nat.reduceSub, Nat.reduceMul, Nat.reduceLeDiff, Nat.reduceEqDiff, Nat.reduceLT, Nat.reduceBEq, Nat.reduceBNe, Nat.reducePow, ↓reduceIte, nat_int, hn, hne]
  · simp only [go_sem, Nat.reduceAdd, Nat.reduceSub, Nat.reduceMul, Nat.reduceLeDiff, Nat.reduceEqDiff, Nat.reduceLT, Nat.reduceBEq, Nat.reduceBNe, Nat.reducePow, ↓reduceIte, nat_int, hn]
    refine WP_range 4 0 w.length (fun i => S_60_4 (lS path) (lS w) (vI i) []) (fun i => (w <+: path) = (w.drop i <+: path.drop i)) rfl rfl ?_ ?_ ?_ ?_
    · simp only [go_sem, Nat.reduceAdd, Nat.reduceSub, Nat.reduceMul, Nat.reduceLeDiff, Nat.reduceEqDiff, Nat.reduceLT, Nat.reduceBEq, Nat.reduceBNe, Nat.reducePow, ↓reduceIte]; rfl
    · simp
    · intro i h hI
      have h2 : i < path.length := by omega
      rw [List.drop_eq_getElem_cons h, List.drop_eq_getElem_cons h2, List.cons_prefix_cons] at hI
      by_cases hv : w[i] = path[i]
      · simp only [go_sem, Nat.reduceAdd, Nat.reduceSub, Nat.reduceMul, Nat.reduceLeDiff, Nat.reduceEqDiff, Nat.reduceLT, Nat.reduceBEq, Nat.reduceBNe, Nat.reducePow, ↓reduceIte, nat_int, h, h2, hv, ne_eq, not_true, wrap_succ h hl]
        simp [hI, hv]
      · simp only [go_sem, Nat.reduceAdd, Nat.reduceSub, Nat.reduceMul, Nat.reduceLeDiff, Nat.reduceEqDiff, Nat.reduceLT, Nat.reduceBEq, Nat.reduceBNe, Nat.reducePow, ↓reduceIte, nat_int, h, h2, hv, ne_eq, not_false_eq_true]
        simp [hI, hv]
    · intro hI
      simp only [go_sem, Nat.reduceAdd, Nat.reduceSub, Nat.reduceMul, Nat.reduceLeDiff, Nat.reduceEqDiff, Nat.reduceLT, Nat.reduceBEq, Nat.reduceBNe, Nat.reducePow, ↓reduceIte, nat_int, Nat.lt_irrefl]
      simp [hI]

theorem with_spec (path : List Str) (x : Str) (hl : path.length + 1 ≤ 1099511627776) : pureW XX 36 [lS path, vS x] = some (lS (path ++ [x])) := by
  refine pureW_in 10 Try.func36 Try.ntmps36 (by simp) (rfl : Try.f36.body = some _) fns_36 ?_
  simp (maxSteps := 200000) (disch := first | (simp only [go_sem, Nat.reduceAdd, Nat.reduceSub, Nat.reduceMul, Nat.reduceLeDiff, Nat.reduceEqDiff, Nat.reduceLT, Nat.reduceBEq, Nat.reduceBNe, Nat.reducePow, ↓reduceIte]; done) | omega | (simp only [go_sem, Nat.reduceAdd, Nat.reduceSub, Nat.reduceMul, Nat.reduceLeDiff, Nat.reduceEqDiff, Nat.reduceLT, Nat.reduceBEq, Nat.reduceBNe, Nat.reducePow, ↓reduceIte] <;> omega) | fail) only [go_sem, Nat.reduceAdd, Nat.reduceSub, Nat.reduceMul, Nat.reduceLeDiff, Nat.reduceEqDiff, Nat.reduceLT, Nat.reduceBEq, Nat.reduceBNe, Nat.reducePow, ↓reduceIte]
end Go.Abs.SA
end

section
set_option linter.unusedVariables false
set_option linter.unusedSimpArgs false
set_option maxRecDepth 100000
set_option maxHeartbeats 4000000
set_option linter.unusedSimpArgs false
set_option linter.unusedVariables false
namespace Go.Abs.SA
open Go.Proofs

structure Rule where
  group : Str
  rights : Int
  path : List Str
  permit : Bool
structure Policy where
  rules : List Rule
  read : Bool
  write : Bool
def eRule (r : Rule) : List AV := [vS r.group, vI r.rights, lS r.path, vB r.permit]
abbrev aPolicy (p : Policy) : AV := .agg [.fs (p.rules.map eRule) false, vB p.read, vB p.write]
theorem eRule_len (r : Rule) : (eRule r).length = 4 := rfl
theorem eRule_s (r : Rule) : eRule r = [vS r.group, vI r.rights, lS r.path, vB r.permit] := nr rfl
theorem eS_s (s : Str) : eS s = [vS s] := nr rfl
attribute [go_sem] eRule_len
instance : EL eRule 4 := ⟨eRule_len⟩

inductive Node where
  | mk (name value : Str) (kids : List Node)
def Node.name : Node → Str | .mk n _ _ => n
def Node.value : Node → Str | .mk _ v _ => v
def Node.kids : Node → List Node | .mk _ _ k => k
mutual
def eNode : Node → List AV
  | .mk n v k => [vS n, vS v, .fs (eNodes k) false]
def eNodes : List Node → List (List AV)
  | [] => []
  | n :: r => eNode n :: eNodes r
end
theorem eNodes_map : ∀ (l : List Node), eNodes l = l.map eNode
  | [] => rfl
  | n :: r => by simp [eNodes, eNodes_map r]
theorem eNode_s (n : Node) : eNode n = [vS n.name, vS n.value, .fs (n.kids.map eNode) false] := by
  cases n; simp [eNode, eNodes_map, Node.name, Node.value, Node.kids]
theorem eNode_len (n : Node) : (eNode n).length = 3 := by rw [eNode_s]; rfl
attribute [go_sem] eNode_len
instance : EL eNode 3 := ⟨eNode_len⟩
theorem snoc_N (l : List Node) (a b : Str) (k : List Node) : l.map eNode ++ [[.v (.string a), .v (.string b), .fs (k.map eNode) false]] = (l ++ [Node.mk a b k]).map eNode := by
  simp [eNode_s, Node.name, Node.value, Node.kids]
attribute [go_sem] snoc_N
abbrev lN (l : List Node) : AV := .fs (l.map eNode) false

/-- Does a rule say anything? -/
def Rule.says (groups : List Str) (right : Int) (path : List Str) (r : Rule) : Bool :=
  decide (bitI .and .i64 r.rights right ≠ 0) && (decide (r.group = ⟨#[]⟩) || has groups r.group) && decide (r.path <+: path)
/-- The rules' word. -/
def may (p : Policy) (groups : List Str) (right : Int) (path : List Str) : Bool :=
  match p.rules.find? (Rule.says groups right path) with
  | some r => r.permit
  | none => if right = 1 then p.read else p.write

structure Policy.ok (p : Policy) : Prop where
  len : p.rules.length ≤ 140737488355328
  path : ∀ r ∈ p.rules, r.path.length ≤ 140737488355328

theorem may_spec (p : Policy) (groups : List Str) (right : Int) (path : List Str) (hp : p.ok) (hg : groups.length ≤ 140737488355328) (hl : path.length ≤ 140737488355328) :
    pureW XX 19 [aPolicy p, lS groups, vI right, lS path] = some (vB (may p groups right path)) := by
  refine pureW_in 63 Try.func19 Try.ntmps19 (by simp) (rfl : Try.f19.body = some _) fns_19 ?_
  simp (maxSteps := 200000) (disch := first | (simp only [go_sem, Nat.reduceAdd, Nat.reduceSub, Nat.reduceMul, Nat.reduceLeDiff, Nat.reduceEqDiff, Nat.reduceLT, Nat.reduceBEq, Nat.reduceBNe, Nat.reducePow, ↓reduceIte]; done) | omega | (simp only [go_sem, Nat.reduceAdd, Nat.reduceSub, Nat.reduceMul, Nat.reduceLeDiff, Nat.reduceEqDiff, Nat.reduceLT, Nat.reduceBEq, Nat.reduceBNe, Nat.reducePow, ↓reduceIte] <;> omega) | fail) only [go_sem, Nat.reduceAdd, Nat.reduceSub, Nat.reduceMul, Nat.reduceLeDiff, Nat.reduceEqDiff, Nat.reduceLT, Nat.reduceBEq, Nat.reduceBNe, Nat.reducePow, ↓reduceIte]
  refine WP_range 2 1 p.rules.length (fun i => S_19_2 (lS groups) (vI right) (lS path) (.ptr 0 0) (.fs (p.rules.map eRule) false) (vI p.rules.length) (vI i) [.var [.fs (p.rules.map eRule) false, vB p.read, vB p.write]]) (fun i => p.rules.find? (Rule.says groups right path) = (p.rules.drop i).find? (Rule.says groups right path)) rfl rfl ?_ ?_ ?_ ?_
  · simp (maxSteps := 200000) (disch := first | (simp only [go_sem, Nat.reduceAdd, Nat.reduceSub, Nat.reduceMul, Nat.reduceLeDiff, Nat.reduceEqDiff, Nat.reduceLT, Nat.reduceBEq, Nat.reduceBNe, Nat.reducePow, ↓reduceIte]; done) | omega | (simp only [go_sem, Nat.reduceAdd, Nat.reduceSub, Nat.reduceMul, Nat.reduceLeDiff, Nat.reduceEqDiff, Nat.reduceLT, Nat.reduceBEq, Nat.reduceBNe, Nat.reducePow, ↓reduceIte] <;> omega) | fail) only [go_sem, Nat.reduceAdd, Nat.reduceSub, Nat.reduceMul, Nat.reduceLeDiff, Nat.reduceEqDiff, Nat.reduceLT, Nat.reduceBEq, Nat.reduceBNe, Nat.reducePow, ↓reduceIte]; rfl
  · simp
  · intro i h hI
    rw [List.drop_eq_getElem_cons h] at hI
    by_cases h1 : bitI .and .i64 p.rules[i].rights right = 0
    · have hs : Rule.says groups right path p.rules[i] = false := by simp [Rule.says, h1]
      simp (maxSteps := 200000) (disch := first | (simp only [go_sem, Nat.reduceAdd, Nat.reduceSub, Nat.reduceMul, Nat.reduceLeDiff, Nat.reduceEqDiff, Nat.reduceLT, Nat.reduceBEq, Nat.reduceBNe, Nat.reducePow, ↓reduceIte]; done) | omega | (simp only [go_sem, Nat.reduceAdd, Nat.reduceSub, Nat.reduceMul, Nat.reduceLeDiff, Nat.reduceEqDiff, Nat.reduceLT, Nat.reduceBEq, Nat.reduceBNe, Nat.reducePow, ↓reduceIte] <;> omega) | fail) only [go_sem, Nat.reduceAdd, Nat.reduceSub, Nat.reduceMul, Nat.reduceLeDiff, Nat.reduceEqDiff, Nat.reduceLT, Nat.reduceBEq, Nat.reduceBNe, Nat.reducePow, ↓reduceIte, nat_int, h, eRule_s, h1, wrap_succ h hp.len]
      rw [hI, List.find?_cons, hs]
    by_cases h2 : p.rules[i].group = ⟨#[]⟩ ∨ has groups p.rules[i].group = true
    · by_cases h3 : p.rules[i].path.length > path.length
      · have h4 : ¬ p.rules[i].path <+: path := fun e => by have := e.length_le; omega
        have hs : Rule.says groups right path p.rules[i] = false := by simp [Rule.says, h4]
        rcases h2 with h2 | h2
        · simp (maxSteps := 200000) (disch := first | (simp only [go_sem, Nat.reduceAdd, Nat.reduceSub, Nat.reduceMul, Nat.reduceLeDiff, Nat.reduceEqDiff, Nat.reduceLT, Nat.reduceBEq, Nat.reduceBNe, Nat.reducePow, ↓reduceIte]; done) | omega | (simp only [go_sem, Nat.reduceAdd, Nat.reduceSub, Nat.reduceMul, Nat.reduceLeDiff, Nat.reduceEqDiff, Nat.reduceLT, Nat.reduceBEq, Nat.reduceBNe, Nat.reducePow, ↓reduceIte] <;> omega) | fail) only [go_sem, Nat.reduceAdd, Nat.reduceSub, Nat.reduceMul, Nat.reduceLeDiff, Nat.reduceEqDiff, Nat.reduceLT, Nat.reduceBEq, Nat.reduceBNe, Nat.reducePow, ↓reduceIte, nat_int, h, eRule_s, h1, h2, h3, ne_eq, not_true, not_false_eq_true, wrap_succ h hp.len]
          rw [hI, List.find?_cons, hs]
        · by_cases h2' : p.rules[i].group = ⟨#[]⟩
          · simp (maxSteps := 200000) (disch := first | (simp only [go_sem, Nat.reduceAdd, Nat.reduceSub, Nat.reduceMul, Nat.reduceLeDiff, Nat.reduceEqDiff, Nat.reduceLT, Nat.reduceBEq, Nat.reduceBNe, Nat.reducePow, ↓reduceIte]; done) | omega | (simp only [go_sem, Nat.reduceAdd, Nat.reduceSub, Nat.reduceMul, Nat.reduceLeDiff, Nat.reduceEqDiff, Nat.reduceLT, Nat.reduceBEq, Nat.reduceBNe, Nat.reducePow, ↓reduceIte] <;> omega) | fail) only [go_sem, Nat.reduceAdd, Nat.reduceSub, Nat.reduceMul, Nat.reduceLeDiff, Nat.reduceEqDiff, Nat.reduceLT, Nat.reduceBEq, Nat.reduceBNe, Nat.reducePow, ↓reduceIte, nat_int, h, eRule_s, h1, h2', h3, ne_eq, not_true, not_false_eq_true, wrap_succ h hp.len]
            rw [hI, List.find?_cons, hs]
          · simp (maxSteps := 200000) (disch := first | (simp only [go_sem, Nat.reduceAdd, Nat.reduceSub, Nat.reduceMul, Nat.reduceLeDiff, Nat.reduceEqDiff, Nat.reduceLT, Nat.reduceBEq, Nat.reduceBNe, Nat.reducePow, ↓reduceIte]; done) | omega | (simp only [go_sem, Nat.reduceAdd, Nat.reduceSub, Nat.reduceMul, Nat.reduceLeDiff, Nat.reduceEqDiff, Nat.reduceLT, Nat.reduceBEq, Nat.reduceBNe, Nat.reducePow, ↓reduceIte] <;> omega) | fail) only [go_sem, Nat.reduceAdd, Nat.reduceSub, Nat.reduceMul, Nat.reduceLeDiff, Nat.reduceEqDiff, Nat.reduceLT, Nat.reduceBEq, Nat.reduceBNe, Nat.reducePow, ↓reduceIte, nat_int, h, eRule_s, h1, h2, h2', h3, ne_eq, not_true, not_false_eq_true, wrap_succ h hp.len, callA_pure mode_38, contains_spec _ _ hg]
            rw [hI, List.find?_cons, hs]
      · have hpl := hp.path _ (List.getElem_mem h)
        have hle : p.rules[i].path.length ≤ path.length := by omega
        have key : ∀ b, Rule.says groups right path p.rules[i] = b → decide (p.rules[i].path = path.take p.rules[i].path.length) = b := by
          rintro b rfl
          have : (p.rules[i].path <+: path) = (p.rules[i].path = path.take p.rules[i].path.length) := propext List.prefix_iff_eq_take
          rcases h2 with h2 | h2 <;> simp [Rule.says, h1, h2, this]
        cases hs : Rule.says groups right path p.rules[i] with
        | true =>
          have h5 := key _ hs
          simp only [decide_eq_true_eq] at h5
          have hI2 : p.rules.find? (Rule.says groups right path) = some p.rules[i] := by rw [hI, List.find?_cons, hs]
          by_cases h2' : p.rules[i].group = ⟨#[]⟩
          · simp (maxSteps := 200000) (disch := first | (simp only [go_sem, Nat.reduceAdd, Nat.reduceSub, Nat.reduceMul, Nat.reduceLeDiff, Nat.reduceEqDiff, Nat.reduceLT, Nat.reduceBEq, Nat.reduceBNe, Nat.reducePow, ↓reduceIte]; done) | omega | (simp only [go_sem, Nat.reduceAdd, Nat.reduceSub, Nat.reduceMul, Nat.reduceLeDiff, Nat.reduceEqDiff, Nat.reduceLT, Nat.reduceBEq, Nat.reduceBNe, Nat.reducePow, ↓reduceIte] <;> omega) | fail) only [go_sem, Nat.reduceAdd, Nat.reduceSub, Nat.reduceMul, Nat.reduceLeDiff, Nat.reduceEqDiff, Nat.reduceLT, Nat.reduceBEq, Nat.reduceBNe, Nat.reducePow, ↓reduceIte, nat_int, h, eRule_s, h1, h2', h3, ne_eq, not_true, not_false_eq_true, wrap_succ h hp.len, callA_pure mode_39, equal_spec _ _ hpl, hle, ← h5]
            simp [may, hI2]
          · have h2'' : has groups p.rules[i].group = true := h2.resolve_left h2'
            simp (maxSteps := 200000) (disch := first | (simp only [go_sem, Nat.reduceAdd, Nat.reduceSub, Nat.reduceMul, Nat.reduceLeDiff, Nat.reduceEqDiff, Nat.reduceLT, Nat.reduceBEq, Nat.reduceBNe, Nat.reducePow, ↓reduceIte]; done) | omega | (simp only [go_sem, Nat.reduceAdd, Nat.reduceSub, Nat.reduceMul, Nat.reduceLeDiff, Nat.reduceEqDiff, Nat.reduceLT, Nat.reduceBEq, Nat.reduceBNe, Nat.reducePow, ↓reduceIte] <;> omega) | fail) only [go_sem, Nat.reduceAdd, Nat.reduceSub, Nat.reduceMul, Nat.reduceLeDiff, Nat.reduceEqDiff, Nat.reduceLT, Nat.reduceBEq, Nat.reduceBNe, Nat.reducePow, ↓reduceIte, nat_int, h, eRule_s, h1, h2', h2'', h3, ne_eq, not_true, not_false_eq_true, wrap_succ h hp.len, callA_pure mode_38, contains_spec _ _ hg, callA_pure mode_39, equal_spec _ _ hpl, hle, ← h5]
            simp [may, hI2]
        | false =>
          have h5 := key _ hs
          simp only [decide_eq_false_iff_not] at h5
          by_cases h2' : p.rules[i].group = ⟨#[]⟩
          · simp (maxSteps := 200000) (disch := first | (simp only [go_sem, Nat.reduceAdd, Nat.reduceSub, Nat.reduceMul, Nat.reduceLeDiff, Nat.reduceEqDiff, Nat.reduceLT, Nat.reduceBEq, Nat.reduceBNe, Nat.reducePow, ↓reduceIte]; done) | omega | (simp only [go_sem, Nat.reduceAdd, Nat.reduceSub, Nat.reduceMul, Nat.reduceLeDiff, Nat.reduceEqDiff, Nat.reduceLT, Nat.reduceBEq, Nat.reduceBNe, Nat.reducePow, ↓reduceIte] <;> omega) | fail) only [go_sem, Nat.reduceAdd, Nat.reduceSub, Nat.reduceMul, Nat.reduceLeDiff, Nat.reduceEqDiff, Nat.reduceLT, Nat.reduceBEq, Nat.reduceBNe, Nat.reducePow, ↓reduceIte, nat_int, h, eRule_s, h1, h2', h3, ne_eq, not_true, not_false_eq_true, wrap_succ h hp.len, callA_pure mode_39, equal_spec _ _ hpl, hle, h5]
            rw [hI, List.find?_cons, hs]
          · have h2'' : has groups p.rules[i].group = true := h2.resolve_left h2'
            simp (maxSteps := 200000) (disch := first | (simp only [go_sem, Nat.reduceAdd, Nat.reduceSub, Nat.reduceMul, Nat.reduceLeDiff, Nat.reduceEqDiff, Nat.reduceLT, Nat.reduceBEq, Nat.reduceBNe, Nat.reducePow, ↓reduceIte]; done) | omega | (simp only [go_sem, Nat.reduceAdd, Nat.reduceSub, Nat.reduceMul, Nat.reduceLeDiff, Nat.reduceEqDiff, Nat.reduceLT, Nat.reduceBEq, Nat.reduceBNe, Nat.reducePow, ↓reduceIte] <;> omega) | fail) only [go_sem, Nat.reduceAdd, Nat.reduceSub, Nat.reduceMul, Nat.reduceLeDiff, Nat.reduceEqDiff, Nat.reduceLT, Nat.reduceBEq, Nat.reduceBNe, Nat.reducePow, ↓reduceIte, nat_int, h, eRule_s, h1, h2', h2'', h3, ne_eq, not_true, not_false_eq_true, wrap_succ h hp.len, callA_pure mode_38, contains_spec _ _ hg, callA_pure mode_39, equal_spec _ _ hpl, hle, h5]
            rw [hI, List.find?_cons, hs]
    · simp only [not_or, Bool.not_eq_true] at h2
      obtain ⟨h2, h3⟩ := h2
      have hs : Rule.says groups right path p.rules[i] = false := by simp [Rule.says, h2, h3]
      simp (maxSteps := 200000) (disch := first | (simp only [go_sem, Nat.reduceAdd, Nat.reduceSub, Nat.reduceMul, Nat.reduceLeDiff, Nat.reduceEqDiff, Nat.reduceLT, Nat.reduceBEq, Nat.reduceBNe, Nat.reducePow, ↓reduceIte]; done) | omega | (simp only [go_sem, Nat.reduceAdd, Nat.reduceSub, Nat.reduceMul, Nat.reduceLeDiff, Nat.reduceEqDiff, Nat.reduceLT, Nat.reduceBEq, Nat.reduceBNe, Nat.reducePow, ↓reduceIte] <;> omega) | fail) only [go_sem, Nat.reduceAdd, Nat.reduceSub, Nat.reduceMul, Nat.reduceLeDiff, Nat.reduceEqDiff, Nat.reduceLT, Nat.reduceBEq, Nat.reduceBNe, Nat.reducePow, ↓reduceIte, nat_int, h, eRule_s, h1, h2, h3, ne_eq, not_true, not_false_eq_true, wrap_succ h hp.len, callA_pure mode_38, contains_spec _ _ hg]
      rw [hI, List.find?_cons, hs]
  · intro hI
    have hI2 : p.rules.find? (Rule.says groups right path) = none := by rw [hI, List.drop_length]; rfl
    by_cases h1 : right = 1
    · simp (maxSteps := 200000) (disch := first | (simp only [go_sem, Nat.reduceAdd, Nat.reduceSub, Nat.reduceMul, Nat.reduceLeDiff, Nat.reduceEqDiff, Nat.reduceLT, Nat.reduceBEq, Nat.reduceBNe, Nat.reducePow, ↓reduceIte]; done) | omega | (simp only [go_sem, Nat.reduceAdd, Nat.reduceSub, Nat.reduceMul, Nat.reduceLeDiff, Nat.reduceEqDiff, Nat.reduceLT, Nat.reduceBEq, Nat.reduceBNe, Nat.reducePow, ↓reduceIte] <;> omega) | fail) only [go_sem, Nat.reduceAdd, Nat.reduceSub, Nat.reduceMul, Nat.reduceLeDiff, Nat.reduceEqDiff, Nat.reduceLT, Nat.reduceBEq, Nat.reduceBNe, Nat.reducePow, ↓reduceIte, nat_int, Nat.lt_irrefl, h1]
      rw [h1] at hI2
      simp [may, hI2]
    · simp (maxSteps := 200000) (disch := first | (simp only [go_sem, Nat.reduceAdd, Nat.reduceSub, Nat.reduceMul, Nat.reduceLeDiff, Nat.reduceEqDiff, Nat.reduceLT, Nat.reduceBEq, Nat.reduceBNe, Nat.reducePow, ↓reduceIte]; done) | omega | (simp only [go_sem, Nat.reduceAdd, Nat.reduceSub, Nat.reduceMul, Nat.reduceLeDiff, Nat.reduceEqDiff, Nat.reduceLT, Nat.reduceBEq, Nat.reduceBNe, Nat.reducePow, ↓reduceIte] <;> omega) | fail) only [go_sem, Nat.reduceAdd, Nat.reduceSub, Nat.reduceMul, Nat.reduceLeDiff, Nat.reduceEqDiff, Nat.reduceLT, Nat.reduceBEq, Nat.reduceBNe, Nat.reducePow, ↓reduceIte, nat_int, Nat.lt_irrefl, h1]
      simp [may, hI2, h1]
end Go.Abs.SA
end

section
set_option linter.unusedVariables false
set_option linter.unusedSimpArgs false
set_option maxRecDepth 100000
set_option maxHeartbeats 4000000
set_option linter.unusedSimpArgs false
set_option linter.unusedVariables false
namespace Go.Abs.SA
open Go.Proofs

noncomputable instance : DecidableEq Node := fun a b => Classical.propDecidable (a = b)
mutual
/-- How many nodes. -/
def cntN : Node → Nat
  | .mk _ _ k => 1 + cntL k
def cntL : List Node → Nat
  | [] => 0
  | x :: r => cntN x + cntL r
end
theorem cntN_s (n : Node) : cntN n = 1 + cntL n.kids := by cases n; simp [cntN, Node.kids]
theorem cntL_cons (x : Node) (r : List Node) : cntL (x :: r) = cntN x + cntL r := by simp [cntL]
theorem len_cnt : ∀ (l : List Node), l.length ≤ cntL l
  | [] => Nat.zero_le _
  | x :: r => by have := len_cnt r; have := cntN_s x; rw [cntL_cons, List.length_cons]; omega
theorem cnt_mem : ∀ {l : List Node} {x : Node}, x ∈ l → cntN x ≤ cntL l
  | y :: r, x, h => by
    rw [cntL_cons]
    rcases List.mem_cons.1 h with rfl | h
    · omega
    · have := cnt_mem h; omega
theorem cnt_kids {l : List Node} {i : Nat} (h : i < l.length) : cntL l[i].kids < cntL l := by
  have := cnt_mem (List.getElem_mem h); rw [cntN_s] at this; omega

theorem node_eq (a b : Node) : (a = b) = (a.name = b.name ∧ a.value = b.value ∧ a.kids = b.kids) := by
  cases a; cases b; simp [Node.name, Node.value, Node.kids]

theorem refEqual_spec : ∀ (n : Nat) (a b : List Node), cntL a < n → n ≤ 140737488355328 → pureW XX 15 [lN a, lN b] = some (vB (decide (a = b))) := by
  intro n
  induction n with
  | zero => intro a b h _; omega
  | succ n ih =>
    intro a b hc hB
    have hl : a.length ≤ 140737488355328 := by have := len_cnt a; omega
    refine pureW_in 55 Try.func15 Try.ntmps15 (by simp) (rfl : Try.f15.body = some _) fns_15 ?_
    by_cases hn : a.length = b.length
    · simp (maxSteps := 200000) (disch := first | (simp only [go_sem, Nat.reduceAdd, Nat.reduceSub, Nat.reduceMul, Nat.reduceLeDiff, Nat.reduceEqDiff, Nat.reduceLT, Nat.reduceBEq, Nat.reduceBNe, Nat.reducePow, ↓reduceIte]; done) | omega | (simp only [go_sem, Nat.reduceAdd, Nat.reduceSub, Nat.reduceMul, Nat.reduceLeDiff, Nat.reduceEqDiff, Nat.reduceLT, Nat.reduceBEq, Nat.reduceBNe, Nat.reducePow, ↓reduceIte] <;> omega) | fail) only [go_sem, Nat.reduceAdd, Nat.reduceSub, Nat.reduceMul, Nat.reduceLeDiff, Nat.reduceEqDiff, Nat.reduceLT, Nat.reduceBEq, Nat.reduceBNe, Nat.reducePow, ↓reduceIte, nat_int_ne, hn, ne_eq, not_true]
      refine WP_range 4 0 b.length (fun i => S_15_4 (lN a) (lN b) (vI i) []) (fun i => (a = b) = (a.drop i = b.drop i)) rfl rfl ?_ ?_ ?_ ?_
      · simp (maxSteps := 200000) (disch := first | (simp only [go_sem, Nat.reduceAdd, Nat.reduceSub, Nat.reduceMul, Nat.reduceLeDiff, Nat.reduceEqDiff, Nat.reduceLT, Nat.reduceBEq, Nat.reduceBNe, Nat.reducePow, ↓reduceIte]; done) | omega | (simp only [go_sem, Nat.reduceAdd, Nat.reduceSub, Nat.reduceMul, Nat.reduceLeDiff, Nat.reduceEqDiff, Nat.reduceLT, Nat.reduceBEq, Nat.reduceBNe, Nat.reducePow, ↓reduceIte] <;> omega) | fail) only [go_sem, Nat.reduceAdd, Nat.reduceSub, Nat.reduceMul, Nat.reduceLeDiff, Nat.reduceEqDiff, Nat.reduceLT, Nat.reduceBEq, Nat.reduceBNe, Nat.reducePow, ↓reduceIte]; rfl
      · simp
      · intro i h hI
        have h2 : i < a.length := by omega
        rw [drop_eq h2 h, node_eq a[i] b[i]] at hI
        have hk := ih a[i].kids b[i].kids (by have := cnt_kids h2; omega) (by omega)
        by_cases h3 : a[i].name = b[i].name
        · by_cases h4 : a[i].value = b[i].value
          · by_cases h5 : a[i].kids = b[i].kids
            · rw [decide_eq_true h5] at hk
              simp (maxSteps := 200000) (disch := first | (simp only [go_sem, Nat.reduceAdd, Nat.reduceSub, Nat.reduceMul, Nat.reduceLeDiff, Nat.reduceEqDiff, Nat.reduceLT, Nat.reduceBEq, Nat.reduceBNe, Nat.reducePow, ↓reduceIte]; done) | omega | (simp only [go_sem, Nat.reduceAdd, Nat.reduceSub, Nat.reduceMul, Nat.reduceLeDiff, Nat.reduceEqDiff, Nat.reduceLT, Nat.reduceBEq, Nat.reduceBNe, Nat.reducePow, ↓reduceIte] <;> omega) | fail) only [go_sem, Nat.reduceAdd, Nat.reduceSub, Nat.reduceMul, Nat.reduceLeDiff, Nat.reduceEqDiff, Nat.reduceLT, Nat.reduceBEq, Nat.reduceBNe, Nat.reducePow, ↓reduceIte, nat_int, h, h2, hn, eNode_s, h3, h4, ne_eq, not_true, not_false_eq_true, wrap_succ h2 hl, callA_pure mode_15, hk]
              simp only [hI, h3, h4, h5, true_and]
            · rw [decide_eq_false h5] at hk
              simp (maxSteps := 200000) (disch := first | (simp only [go_sem, Nat.reduceAdd, Nat.reduceSub, Nat.reduceMul, Nat.reduceLeDiff, Nat.reduceEqDiff, Nat.reduceLT, Nat.reduceBEq, Nat.reduceBNe, Nat.reducePow, ↓reduceIte]; done) | omega | (simp only [go_sem, Nat.reduceAdd, Nat.reduceSub, Nat.reduceMul, Nat.reduceLeDiff, Nat.reduceEqDiff, Nat.reduceLT, Nat.reduceBEq, Nat.reduceBNe, Nat.reducePow, ↓reduceIte] <;> omega) | fail) only [go_sem, Nat.reduceAdd, Nat.reduceSub, Nat.reduceMul, Nat.reduceLeDiff, Nat.reduceEqDiff, Nat.reduceLT, Nat.reduceBEq, Nat.reduceBNe, Nat.reducePow, ↓reduceIte, nat_int, h, h2, hn, eNode_s, h3, h4, ne_eq, not_true, not_false_eq_true, wrap_succ h2 hl, callA_pure mode_15, hk]
              simp [hI, h5]
          · simp (maxSteps := 200000) (disch := first | (simp only [go_sem, Nat.reduceAdd, Nat.reduceSub, Nat.reduceMul, Nat.reduceLeDiff, Nat.reduceEqDiff, Nat.reduceLT, Nat.reduceBEq, Nat.reduceBNe, Nat.reducePow, ↓reduceIte]; done) | omega | (simp only [go_sem, Nat.reduceAdd, Nat.reduceSub, Nat.reduceMul, Nat.reduceLeDiff, Nat.reduceEqDiff, Nat.reduceLT, Nat.reduceBEq, Nat.reduceBNe, Nat.reducePow, ↓reduceIte] <;> omega) | fail) only [go_sem, Nat.reduceAdd, Nat.reduceSub, Nat.reduceMul, Nat.reduceLeDiff, Nat.reduceEqDiff, Nat.reduceLT, Nat.reduceBEq, Nat.reduceBNe, Nat.reducePow, ↓reduceIte, nat_int, h, h2, hn, eNode_s, h3, h4, ne_eq, not_true, not_false_eq_true, wrap_succ h2 hl]
            simp [hI, h4]
        · simp (maxSteps := 200000) (disch := first | (simp only [go_sem, Nat.reduceAdd, Nat.reduceSub, Nat.reduceMul, Nat.reduceLeDiff, Nat.reduceEqDiff, Nat.reduceLT, Nat.reduceBEq, Nat.reduceBNe, Nat.reducePow, ↓reduceIte]; done) | omega | (simp only [go_sem, Nat.reduceAdd, Nat.reduceSub, Nat.reduceMul, Nat.reduceLeDiff, Nat.reduceEqDiff, Nat.reduceLT, Nat.reduceBEq, Nat.reduceBNe, Nat.reducePow, ↓reduceIte] <;> omega) | fail) only [go_sem, Nat.reduceAdd, Nat.reduceSub, Nat.reduceMul, Nat.reduceLeDiff, Nat.reduceEqDiff, Nat.reduceLT, Nat.reduceBEq, Nat.reduceBNe, Nat.reducePow, ↓reduceIte, nat_int, h, h2, hn, eNode_s, h3, ne_eq, not_true, not_false_eq_true, wrap_succ h2 hl]
          simp [hI, h3]
      · intro hI
        simp (maxSteps := 200000) (disch := first | (simp only [go_sem, Nat.reduceAdd, Nat.reduceSub, Nat.reduceMul, Nat.reduceLeDiff, Nat.reduceEqDiff, Nat.reduceLT, Nat.reduceBEq, Nat.reduceBNe, Nat.reducePow, ↓reduceIte]; done) | omega | (simp only [go_sem, Nat.reduceAdd, Nat.reduceSub, Nat.reduceMul, Nat.reduceLeDiff, Nat.reduceEqDiff, Nat.reduceLT, Nat.reduceBEq, Nat.reduceBNe, Nat.reducePow, ↓reduceIte] <;> omega) | fail) only [go_sem, Nat.reduceAdd, Nat.reduceSub, Nat.reduceMul, Nat.reduceLeDiff, Nat.reduceEqDiff, Nat.reduceLT, Nat.reduceBEq, Nat.reduceBNe, Nat.reducePow, ↓reduceIte, nat_int, hn, Nat.lt_irrefl]
        simp [hI, List.drop_of_length_le (Nat.le_of_eq hn)]
    · have hne : a ≠ b := fun e => hn (by rw [e])
      simp (maxSteps := 200000) (disch := first | (simp only [go_sem, Nat.reduceAdd, Nat.reduceSub, Nat.reduceMul, Nat.reduceLeDiff, Nat.reduceEqDiff, Nat.reduceLT, Nat.reduceBEq, Nat.reduceBNe, Nat.reducePow, ↓reduceIte]; done) | omega | (simp only [go_sem, Nat.reduceAdd, Nat.reduceSub, Nat.reduceMul, Nat.reduceLeDiff, Nat.reduceEqDiff, Nat.reduceLT, Nat.reduceBEq, Nat.reduceBNe, Nat.reducePow, ↓reduceIte] <;> omega) | fail) only [go_sem, Nat.reduceAdd, Nat.reduceSub, Nat.reduceMul, Nat.reduceLeDiff, Nat.reduceEqDiff, Nat.reduceLT, Nat.reduceBEq, Nat.reduceBNe, Nat.reducePow, ↓reduceIte, nat_int_ne, hn, ne_eq, not_false_eq_true, hne]
end Go.Abs.SA
end

section
set_option linter.unusedVariables false
set_option linter.unusedSimpArgs false
set_option maxRecDepth 100000
set_option maxHeartbeats 4000000
set_option linter.unusedSimpArgs false
set_option linter.unusedVariables false
namespace Go.Abs.SA
open Go.Proofs

mutual
/-- What may be read of nodes. -/
def pruneN (ok : List Str → Bool) (path : List Str) : Node → List Node
  | .mk n v k => if ok (path ++ [n]) then [.mk n v (pruneL ok (path ++ [n]) k)] else []
def pruneL (ok : List Str → Bool) (path : List Str) : List Node → List Node
  | [] => []
  | x :: r => pruneN ok path x ++ pruneL ok path r
end
theorem pruneN_s (ok : List Str → Bool) (path : List Str) (n : Node) : pruneN ok path n = if ok (path ++ [n.name]) then [.mk n.name n.value (pruneL ok (path ++ [n.name]) n.kids)] else [] := by
  cases n; simp only [pruneN, Node.name, Node.value, Node.kids]; rfl
theorem pruneL_flat (ok : List Str → Bool) (path : List Str) : ∀ (l : List Node), pruneL ok path l = l.flatMap (pruneN ok path)
  | [] => by simp [pruneL]
  | x :: r => by simp [pruneL, pruneL_flat ok path r]
theorem pruneL_take (ok : List Str → Bool) (path : List Str) (l : List Node) {i : Nat} (h : i < l.length) : pruneL ok path (l.take (i + 1)) = pruneL ok path (l.take i) ++ pruneN ok path l[i] := by
  simp only [pruneL_flat]
  rw [List.take_succ_eq_append_getElem h, List.flatMap_append]
  simp
theorem pruneN_len (ok : List Str → Bool) (path : List Str) (n : Node) : (pruneN ok path n).length ≤ 1 := by
  rw [pruneN_s]; split <;> simp
theorem pruneL_len (ok : List Str → Bool) (path : List Str) : ∀ (l : List Node), (pruneL ok path l).length ≤ l.length
  | [] => by simp [pruneL]
  | x :: r => by have := pruneL_len ok path r; have := pruneN_len ok path x; simp only [pruneL, List.length_append, List.length_cons]; omega


theorem prune_spec (p : Policy) (groups : List Str) (hp : p.ok) (hg : groups.length ≤ 140737488355328) : ∀ (n : Nat) (nodes : List Node) (path : List Str), cntL nodes < n → path.length + n ≤ 1099511627776 →
    pureW XX 16 [aPolicy p, lS groups, lN nodes, lS path] = some (lN (pruneL (may p groups 1) path nodes)) := by
  intro n
  induction n with
  | zero => intro nodes path h _; omega
  | succ n ih =>
    intro nodes path hc hB
    have hl : nodes.length ≤ n := by have := len_cnt nodes; omega
    refine pureW_in 47 Try.func16 Try.ntmps16 (by simp) (rfl : Try.f16.body = some _) fns_16 ?_
    simp (maxSteps := 200000) (disch := first | (simp only [go_sem, Nat.reduceAdd, Nat.reduceSub, Nat.reduceMul, Nat.reduceLeDiff, Nat.reduceEqDiff, Nat.reduceLT, Nat.reduceBEq, Nat.reduceBNe, Nat.reducePow, ↓reduceIte]; done) | omega | (simp only [go_sem, Nat.reduceAdd, Nat.reduceSub, Nat.reduceMul, Nat.reduceLeDiff, Nat.reduceEqDiff, Nat.reduceLT, Nat.reduceBEq, Nat.reduceBNe, Nat.reducePow, ↓reduceIte] <;> omega) | fail) only [go_sem, Nat.reduceAdd, Nat.reduceSub, Nat.reduceMul, Nat.reduceLeDiff, Nat.reduceEqDiff, Nat.reduceLT, Nat.reduceBEq, Nat.reduceBNe, Nat.reducePow, ↓reduceIte]
    refine WP_range 3 2 nodes.length (fun i => S_16_3 (lS groups) (lS path) (.ptr 0 0) (.sl 1 0 (pruneL (may p groups 1) path (nodes.take i)).length false) (lN nodes) (vI nodes.length) (vI i) [.var [.fs (p.rules.map eRule) false, vB p.read, vB p.write], .arr 59 3 ((pruneL (may p groups 1) path (nodes.take i)).map eNode)]) (fun _ => True) rfl rfl ?_ ?_ ?_ ?_
    · simp (maxSteps := 200000) (disch := first | (simp only [go_sem, Nat.reduceAdd, Nat.reduceSub, Nat.reduceMul, Nat.reduceLeDiff, Nat.reduceEqDiff, Nat.reduceLT, Nat.reduceBEq, Nat.reduceBNe, Nat.reducePow, ↓reduceIte]; done) | omega | (simp only [go_sem, Nat.reduceAdd, Nat.reduceSub, Nat.reduceMul, Nat.reduceLeDiff, Nat.reduceEqDiff, Nat.reduceLT, Nat.reduceBEq, Nat.reduceBNe, Nat.reducePow, ↓reduceIte] <;> omega) | fail) only [go_sem, Nat.reduceAdd, Nat.reduceSub, Nat.reduceMul, Nat.reduceLeDiff, Nat.reduceEqDiff, Nat.reduceLT, Nat.reduceBEq, Nat.reduceBNe, Nat.reducePow, ↓reduceIte]; rfl
    · trivial
    · intro i h _
      have hol := pruneL_len (may p groups 1) path (nodes.take i)
      rw [List.length_take] at hol
      have hk := ih nodes[i].kids (path ++ [nodes[i].name]) (by have := cnt_kids h; omega) (by simp; omega)
      have hm := may_spec p groups 1 (path ++ [nodes[i].name]) hp hg (by simp; omega)
      rw [pruneL_take _ _ _ h, pruneN_s]
      cases hd : may p groups 1 (path ++ [nodes[i].name]) with
      | false =>
        rw [hd] at hm
        simp (maxSteps := 200000) (disch := first | (simp only [go_sem, Nat.reduceAdd, Nat.reduceSub, Nat.reduceMul, Nat.reduceLeDiff, Nat.reduceEqDiff, Nat.reduceLT, Nat.reduceBEq, Nat.reduceBNe, Nat.reducePow, ↓reduceIte]; done) | omega | (simp only [go_sem, Nat.reduceAdd, Nat.reduceSub, Nat.reduceMul, Nat.reduceLeDiff, Nat.reduceEqDiff, Nat.reduceLT, Nat.reduceBEq, Nat.reduceBNe, Nat.reducePow, ↓reduceIte] <;> omega) | fail) only [go_sem, Nat.reduceAdd, Nat.reduceSub, Nat.reduceMul, Nat.reduceLeDiff, Nat.reduceEqDiff, Nat.reduceLT, Nat.reduceBEq, Nat.reduceBNe, Nat.reducePow, ↓reduceIte, nat_int, h, eNode_s, wrap_succ h (show nodes.length ≤ 140737488355328 by omega), callA_pure mode_19, hm]
      | true =>
        rw [hd] at hm
        simp (maxSteps := 200000) (disch := first | (simp only [go_sem, Nat.reduceAdd, Nat.reduceSub, Nat.reduceMul, Nat.reduceLeDiff, Nat.reduceEqDiff, Nat.reduceLT, Nat.reduceBEq, Nat.reduceBNe, Nat.reducePow, ↓reduceIte]; done) | omega | (simp only [go_sem, Nat.reduceAdd, Nat.reduceSub, Nat.reduceMul, Nat.reduceLeDiff, Nat.reduceEqDiff, Nat.reduceLT, Nat.reduceBEq, Nat.reduceBNe, Nat.reducePow, ↓reduceIte] <;> omega) | fail) only [go_sem, Nat.reduceAdd, Nat.reduceSub, Nat.reduceMul, Nat.reduceLeDiff, Nat.reduceEqDiff, Nat.reduceLT, Nat.reduceBEq, Nat.reduceBNe, Nat.reducePow, ↓reduceIte, nat_int, h, eNode_s, wrap_succ h (show nodes.length ≤ 140737488355328 by omega), callA_pure mode_19, hm, callA_data mode_16, hk]
    · intro _
      simp (maxSteps := 200000) (disch := first | (simp only [go_sem, Nat.reduceAdd, Nat.reduceSub, Nat.reduceMul, Nat.reduceLeDiff, Nat.reduceEqDiff, Nat.reduceLT, Nat.reduceBEq, Nat.reduceBNe, Nat.reducePow, ↓reduceIte]; done) | omega | (simp only [go_sem, Nat.reduceAdd, Nat.reduceSub, Nat.reduceMul, Nat.reduceLeDiff, Nat.reduceEqDiff, Nat.reduceLT, Nat.reduceBEq, Nat.reduceBNe, Nat.reducePow, ↓reduceIte] <;> omega) | fail) only [go_sem, Nat.reduceAdd, Nat.reduceSub, Nat.reduceMul, Nat.reduceLeDiff, Nat.reduceEqDiff, Nat.reduceLT, Nat.reduceBEq, Nat.reduceBNe, Nat.reducePow, ↓reduceIte, nat_int, List.take_length]
end Go.Abs.SA
end

section
set_option linter.unusedVariables false
set_option linter.unusedSimpArgs false
set_option maxRecDepth 100000
set_option maxHeartbeats 4000000
set_option linter.unusedSimpArgs false
set_option linter.unusedVariables false
namespace Go.Abs.SA
open Go.Proofs

/-- The document's word on a rule. -/
def Rule.tells (groups : List Str) (right : Int) (path : List Str) (r : Rule) : Bool :=
  (decide (r.group = ⟨#[]⟩) || has groups r.group) && decide (bitI .and .i64 r.rights right > 0) && decide (r.path <+: path)
def refMay (p : Policy) (groups : List Str) (right : Int) (path : List Str) : Bool :=
  match p.rules.find? (Rule.tells groups right path) with
  | some r => r.permit
  | none => if right = 1 then p.read else p.write

theorem refMay_spec (p : Policy) (groups : List Str) (right : Int) (path : List Str) (hp : p.ok) (hg : groups.length ≤ 140737488355328) (hl : path.length ≤ 140737488355328) :
    pureW XX 37 [aPolicy p, lS groups, vI right, lS path] = some (vB (refMay p groups right path)) := by
  refine pureW_in 53 Try.func37 Try.ntmps37 (by simp) (rfl : Try.f37.body = some _) fns_37 ?_
  simp (maxSteps := 200000) (disch := first | (simp only [go_sem, Nat.reduceAdd, Nat.reduceSub, Nat.reduceMul, Nat.reduceLeDiff, Nat.reduceEqDiff, Nat.reduceLT, Nat.reduceBEq, Nat.reduceBNe, Nat.reducePow, ↓reduceIte]; done) | omega | (simp only [go_sem, Nat.reduceAdd, Nat.reduceSub, Nat.reduceMul, Nat.reduceLeDiff, Nat.reduceEqDiff, Nat.reduceLT, Nat.reduceBEq, Nat.reduceBNe, Nat.reducePow, ↓reduceIte] <;> omega) | fail) only [go_sem, Nat.reduceAdd, Nat.reduceSub, Nat.reduceMul, Nat.reduceLeDiff, Nat.reduceEqDiff, Nat.reduceLT, Nat.reduceBEq, Nat.reduceBNe, Nat.reducePow, ↓reduceIte]
  refine WP_range 2 1 p.rules.length (fun i => S_37_2 (lS groups) (vI right) (lS path) (.ptr 0 0) (vI i) [.var [.fs (p.rules.map eRule) false, vB p.read, vB p.write]]) (fun i => p.rules.find? (Rule.tells groups right path) = (p.rules.drop i).find? (Rule.tells groups right path)) rfl rfl ?_ ?_ ?_ ?_
  · simp (maxSteps := 200000) (disch := first | (simp only [go_sem, Nat.reduceAdd, Nat.reduceSub, Nat.reduceMul, Nat.reduceLeDiff, Nat.reduceEqDiff, Nat.reduceLT, Nat.reduceBEq, Nat.reduceBNe, Nat.reducePow, ↓reduceIte]; done) | omega | (simp only [go_sem, Nat.reduceAdd, Nat.reduceSub, Nat.reduceMul, Nat.reduceLeDiff, Nat.reduceEqDiff, Nat.reduceLT, Nat.reduceBEq, Nat.reduceBNe, Nat.reducePow, ↓reduceIte] <;> omega) | fail) only [go_sem, Nat.reduceAdd, Nat.reduceSub, Nat.reduceMul, Nat.reduceLeDiff, Nat.reduceEqDiff, Nat.reduceLT, Nat.reduceBEq, Nat.reduceBNe, Nat.reducePow, ↓reduceIte]; rfl
  · simp
  · intro i h hI
    rw [List.drop_eq_getElem_cons h] at hI
    have hpl := hp.path _ (List.getElem_mem h)
    have hb := begins_spec path p.rules[i].path hpl
    have hh := has_spec groups p.rules[i].group hg
    have hI2 : Rule.tells groups right path p.rules[i] = true → refMay p groups right path = p.rules[i].permit := fun hs => by
      simp only [refMay]; rw [hI, List.find?_cons, hs]
    have hI3 : Rule.tells groups right path p.rules[i] = false → p.rules.find? (Rule.tells groups right path) = (p.rules.drop (i + 1)).find? (Rule.tells groups right path) := fun hs => by
      rw [hI, List.find?_cons, hs]
    by_cases h2 : p.rules[i].group = ⟨#[]⟩ ∨ has groups p.rules[i].group = true
    · by_cases h1 : bitI .and .i64 p.rules[i].rights right > 0
      · cases h3 : decide (p.rules[i].path <+: path) with
        | true =>
          have hs : Rule.tells groups right path p.rules[i] = true := by rcases h2 with h2 | h2 <;> simp [Rule.tells, h1, h2, h3]
          rw [hI2 hs]
          rw [h3] at hb
          by_cases h2' : p.rules[i].group = ⟨#[]⟩
          · simp (maxSteps := 200000) (disch := first | (simp only [go_sem, Nat.reduceAdd, Nat.reduceSub, Nat.reduceMul, Nat.reduceLeDiff, Nat.reduceEqDiff, Nat.reduceLT, Nat.reduceBEq, Nat.reduceBNe, Nat.reducePow, ↓reduceIte]; done) | omega | (simp only [go_sem, Nat.reduceAdd, Nat.reduceSub, Nat.reduceMul, Nat.reduceLeDiff, Nat.reduceEqDiff, Nat.reduceLT, Nat.reduceBEq, Nat.reduceBNe, Nat.reducePow, ↓reduceIte] <;> omega) | fail) only [go_sem, Nat.reduceAdd, Nat.reduceSub, Nat.reduceMul, Nat.reduceLeDiff, Nat.reduceEqDiff, Nat.reduceLT, Nat.reduceBEq, Nat.reduceBNe, Nat.reducePow, ↓reduceIte, nat_int, h, eRule_s, h1, h2', wrap_succ h hp.len, callA_pure mode_60, hb]
          · rw [h2.resolve_left h2'] at hh
            simp (maxSteps := 200000) (disch := first | (simp only [go_sem, Nat.reduceAdd, Nat.reduceSub, Nat.reduceMul, Nat.reduceLeDiff, Nat.reduceEqDiff, Nat.reduceLT, Nat.reduceBEq, Nat.reduceBNe, Nat.reducePow, ↓reduceIte]; done) | omega | (simp only [go_sem, Nat.reduceAdd, Nat.reduceSub, Nat.reduceMul, Nat.reduceLeDiff, Nat.reduceEqDiff, Nat.reduceLT, Nat.reduceBEq, Nat.reduceBNe, Nat.reducePow, ↓reduceIte] <;> omega) | fail) only [go_sem, Nat.reduceAdd, Nat.reduceSub, Nat.reduceMul, Nat.reduceLeDiff, Nat.reduceEqDiff, Nat.reduceLT, Nat.reduceBEq, Nat.reduceBNe, Nat.reducePow, ↓reduceIte, nat_int, h, eRule_s, h1, h2', wrap_succ h hp.len, callA_pure mode_60, hb, callA_pure mode_59, hh]
        | false =>
          have hs : Rule.tells groups right path p.rules[i] = false := by simp [Rule.tells, h3]
          rw [h3] at hb
          by_cases h2' : p.rules[i].group = ⟨#[]⟩
          · simp (maxSteps := 200000) (disch := first | (simp only [go_sem, Nat.reduceAdd, Nat.reduceSub, Nat.reduceMul, Nat.reduceLeDiff, Nat.reduceEqDiff, Nat.reduceLT, Nat.reduceBEq, Nat.reduceBNe, Nat.reducePow, ↓reduceIte]; done) | omega | (simp only [go_sem, Nat.reduceAdd, Nat.reduceSub, Nat.reduceMul, Nat.reduceLeDiff, Nat.reduceEqDiff, Nat.reduceLT, Nat.reduceBEq, Nat.reduceBNe, Nat.reducePow, ↓reduceIte] <;> omega) | fail) only [go_sem, Nat.reduceAdd, Nat.reduceSub, Nat.reduceMul, Nat.reduceLeDiff, Nat.reduceEqDiff, Nat.reduceLT, Nat.reduceBEq, Nat.reduceBNe, Nat.reducePow, ↓reduceIte, nat_int, h, eRule_s, h1, h2', wrap_succ h hp.len, callA_pure mode_60, hb]
            exact hI3 hs
          · rw [h2.resolve_left h2'] at hh
            simp (maxSteps := 200000) (disch := first | (simp only [go_sem, Nat.reduceAdd, Nat.reduceSub, Nat.reduceMul, Nat.reduceLeDiff, Nat.reduceEqDiff, Nat.reduceLT, Nat.reduceBEq, Nat.reduceBNe, Nat.reducePow, ↓reduceIte]; done) | omega | (simp only [go_sem, Nat.reduceAdd, Nat.reduceSub, Nat.reduceMul, Nat.reduceLeDiff, Nat.reduceEqDiff, Nat.reduceLT, Nat.reduceBEq, Nat.reduceBNe, Nat.reducePow, ↓reduceIte] <;> omega) | fail) only [go_sem, Nat.reduceAdd, Nat.reduceSub, Nat.reduceMul, Nat.reduceLeDiff, Nat.reduceEqDiff, Nat.reduceLT, Nat.reduceBEq, Nat.reduceBNe, Nat.reducePow, ↓reduceIte, nat_int, h, eRule_s, h1, h2', wrap_succ h hp.len, callA_pure mode_60, hb, callA_pure mode_59, hh]
            exact hI3 hs
      · have hs : Rule.tells groups right path p.rules[i] = false := by simp [Rule.tells, h1]
        by_cases h2' : p.rules[i].group = ⟨#[]⟩
        · simp (maxSteps := 200000) (disch := first | (simp only [go_sem, Nat.reduceAdd, Nat.reduceSub, Nat.reduceMul, Nat.reduceLeDiff, Nat.reduceEqDiff, Nat.reduceLT, Nat.reduceBEq, Nat.reduceBNe, Nat.reducePow, ↓reduceIte]; done) | omega | (simp only [go_sem, Nat.reduceAdd, Nat.reduceSub, Nat.reduceMul, Nat.reduceLeDiff, Nat.reduceEqDiff, Nat.reduceLT, Nat.reduceBEq, Nat.reduceBNe, Nat.reducePow, ↓reduceIte] <;> omega) | fail) only [go_sem, Nat.reduceAdd, Nat.reduceSub, Nat.reduceMul, Nat.reduceLeDiff, Nat.reduceEqDiff, Nat.reduceLT, Nat.reduceBEq, Nat.reduceBNe, Nat.reducePow, ↓reduceIte, nat_int, h, eRule_s, h1, h2', wrap_succ h hp.len]
          exact hI3 hs
        · rw [h2.resolve_left h2'] at hh
          simp (maxSteps := 200000) (disch := first | (simp only [go_sem, Nat.reduceAdd, Nat.reduceSub, Nat.reduceMul, Nat.reduceLeDiff, Nat.reduceEqDiff, Nat.reduceLT, Nat.reduceBEq, Nat.reduceBNe, Nat.reducePow, ↓reduceIte]; done) | omega | (simp only [go_sem, Nat.reduceAdd, Nat.reduceSub, Nat.reduceMul, Nat.reduceLeDiff, Nat.reduceEqDiff, Nat.reduceLT, Nat.reduceBEq, Nat.reduceBNe, Nat.reducePow, ↓reduceIte] <;> omega) | fail) only [go_sem, Nat.reduceAdd, Nat.reduceSub, Nat.reduceMul, Nat.reduceLeDiff, Nat.reduceEqDiff, Nat.reduceLT, Nat.reduceBEq, Nat.reduceBNe, Nat.reducePow, ↓reduceIte, nat_int, h, eRule_s, h1, h2', wrap_succ h hp.len, callA_pure mode_59, hh]
          exact hI3 hs
    · simp only [not_or, Bool.not_eq_true] at h2
      obtain ⟨h2, h3⟩ := h2
      have hs : Rule.tells groups right path p.rules[i] = false := by simp [Rule.tells, h2, h3]
      rw [h3] at hh
      simp (maxSteps := 200000) (disch := first | (simp only [go_sem, Nat.reduceAdd, Nat.reduceSub, Nat.reduceMul, Nat.reduceLeDiff, Nat.reduceEqDiff, Nat.reduceLT, Nat.reduceBEq, Nat.reduceBNe, Nat.reducePow, ↓reduceIte]; done) | omega | (simp only [go_sem, Nat.reduceAdd, Nat.reduceSub, Nat.reduceMul, Nat.reduceLeDiff, Nat.reduceEqDiff, Nat.reduceLT, Nat.reduceBEq, Nat.reduceBNe, Nat.reducePow, ↓reduceIte] <;> omega) | fail) only [go_sem, Nat.reduceAdd, Nat.reduceSub, Nat.reduceMul, Nat.reduceLeDiff, Nat.reduceEqDiff, Nat.reduceLT, Nat.reduceBEq, Nat.reduceBNe, Nat.reducePow, ↓reduceIte, nat_int, h, eRule_s, h2, wrap_succ h hp.len, callA_pure mode_59, hh]
      exact hI3 hs
  · intro hI
    have hI2 : p.rules.find? (Rule.tells groups right path) = none := by rw [hI, List.drop_length]; rfl
    by_cases h1 : right = 1
    · simp (maxSteps := 200000) (disch := first | (simp only [go_sem, Nat.reduceAdd, Nat.reduceSub, Nat.reduceMul, Nat.reduceLeDiff, Nat.reduceEqDiff, Nat.reduceLT, Nat.reduceBEq, Nat.reduceBNe, Nat.reducePow, ↓reduceIte]; done) | omega | (simp only [go_sem, Nat.reduceAdd, Nat.reduceSub, Nat.reduceMul, Nat.reduceLeDiff, Nat.reduceEqDiff, Nat.reduceLT, Nat.reduceBEq, Nat.reduceBNe, Nat.reducePow, ↓reduceIte] <;> omega) | fail) only [go_sem, Nat.reduceAdd, Nat.reduceSub, Nat.reduceMul, Nat.reduceLeDiff, Nat.reduceEqDiff, Nat.reduceLT, Nat.reduceBEq, Nat.reduceBNe, Nat.reducePow, ↓reduceIte, nat_int, Nat.lt_irrefl, h1]
      rw [h1] at hI2
      simp [refMay, hI2]
    · simp (maxSteps := 200000) (disch := first | (simp only [go_sem, Nat.reduceAdd, Nat.reduceSub, Nat.reduceMul, Nat.reduceLeDiff, Nat.reduceEqDiff, Nat.reduceLT, Nat.reduceBEq, Nat.reduceBNe, Nat.reducePow, ↓reduceIte]; done) | omega | (simp only [go_sem, Nat.reduceAdd, Nat.reduceSub, Nat.reduceMul, Nat.reduceLeDiff, Nat.reduceEqDiff, Nat.reduceLT, Nat.reduceBEq, Nat.reduceBNe, Nat.reducePow, ↓reduceIte] <;> omega) | fail) only [go_sem, Nat.reduceAdd, Nat.reduceSub, Nat.reduceMul, Nat.reduceLeDiff, Nat.reduceEqDiff, Nat.reduceLT, Nat.reduceBEq, Nat.reduceBNe, Nat.reducePow, ↓reduceIte, nat_int, Nat.lt_irrefl, h1]
      simp [refMay, hI2, h1]

theorem refPrune_spec (p : Policy) (groups : List Str) (hp : p.ok) (hg : groups.length ≤ 140737488355328) : ∀ (n : Nat) (nodes : List Node) (path : List Str), cntL nodes < n → path.length + n ≤ 1099511627776 →
    pureW XX 17 [aPolicy p, lS groups, lN nodes, lS path] = some (lN (pruneL (refMay p groups 1) path nodes)) := by
  intro n
  induction n with
  | zero => intro nodes path h _; omega
  | succ n ih =>
    intro nodes path hc hB
    have hl : nodes.length ≤ n := by have := len_cnt nodes; omega
    refine pureW_in 53 Try.func17 Try.ntmps17 (by simp) (rfl : Try.f17.body = some _) fns_17 ?_
    simp (maxSteps := 200000) (disch := first | (simp only [go_sem, Nat.reduceAdd, Nat.reduceSub, Nat.reduceMul, Nat.reduceLeDiff, Nat.reduceEqDiff, Nat.reduceLT, Nat.reduceBEq, Nat.reduceBNe, Nat.reducePow, ↓reduceIte]; done) | omega | (simp only [go_sem, Nat.reduceAdd, Nat.reduceSub, Nat.reduceMul, Nat.reduceLeDiff, Nat.reduceEqDiff, Nat.reduceLT, Nat.reduceBEq, Nat.reduceBNe, Nat.reducePow, ↓reduceIte] <;> omega) | fail) only [go_sem, Nat.reduceAdd, Nat.reduceSub, Nat.reduceMul, Nat.reduceLeDiff, Nat.reduceEqDiff, Nat.reduceLT, Nat.reduceBEq, Nat.reduceBNe, Nat.reducePow, ↓reduceIte]
    refine WP_range 3 2 nodes.length (fun i => S_17_3 (lS groups) (lN nodes) (lS path) (.ptr 0 0) (.sl 1 0 (pruneL (refMay p groups 1) path (nodes.take i)).length false) (vI i) [.var [.fs (p.rules.map eRule) false, vB p.read, vB p.write], .arr 59 3 ((pruneL (refMay p groups 1) path (nodes.take i)).map eNode)]) (fun _ => True) rfl rfl ?_ ?_ ?_ ?_
    · simp (maxSteps := 200000) (disch := first | (simp only [go_sem, Nat.reduceAdd, Nat.reduceSub, Nat.reduceMul, Nat.reduceLeDiff, Nat.reduceEqDiff, Nat.reduceLT, Nat.reduceBEq, Nat.reduceBNe, Nat.reducePow, ↓reduceIte]; done) | omega | (simp only [go_sem, Nat.reduceAdd, Nat.reduceSub, Nat.reduceMul, Nat.reduceLeDiff, Nat.reduceEqDiff, Nat.reduceLT, Nat.reduceBEq, Nat.reduceBNe, Nat.reducePow, ↓reduceIte] <;> omega) | fail) only [go_sem, Nat.reduceAdd, Nat.reduceSub, Nat.reduceMul, Nat.reduceLeDiff, Nat.reduceEqDiff, Nat.reduceLT, Nat.reduceBEq, Nat.reduceBNe, Nat.reducePow, ↓reduceIte]; rfl
    · trivial
    · intro i h _
      have hol := pruneL_len (refMay p groups 1) path (nodes.take i)
      rw [List.length_take] at hol
      have hk := ih nodes[i].kids (path ++ [nodes[i].name]) (by have := cnt_kids h; omega) (by simp; omega)
      have hm := refMay_spec p groups 1 (path ++ [nodes[i].name]) hp hg (by simp; omega)
      have hw := with_spec path nodes[i].name (by omega)
      rw [pruneL_take _ _ _ h, pruneN_s]
      cases hd : refMay p groups 1 (path ++ [nodes[i].name]) with
      | false =>
        rw [hd] at hm
        simp (maxSteps := 200000) (disch := first | (simp only [go_sem, Nat.reduceAdd, Nat.reduceSub, Nat.reduceMul, Nat.reduceLeDiff, Nat.reduceEqDiff, Nat.reduceLT, Nat.reduceBEq, Nat.reduceBNe, Nat.reducePow, ↓reduceIte]; done) | omega | (simp only [go_sem, Nat.reduceAdd, Nat.reduceSub, Nat.reduceMul, Nat.reduceLeDiff, Nat.reduceEqDiff, Nat.reduceLT, Nat.reduceBEq, Nat.reduceBNe, Nat.reducePow, ↓reduceIte] <;> omega) | fail) only [go_sem, Nat.reduceAdd, Nat.reduceSub, Nat.reduceMul, Nat.reduceLeDiff, Nat.reduceEqDiff, Nat.reduceLT, Nat.reduceBEq, Nat.reduceBNe, Nat.reducePow, ↓reduceIte, nat_int, h, eNode_s, wrap_succ h (show nodes.length ≤ 140737488355328 by omega), callA_pure mode_37, hm, callA_data mode_36, hw]
      | true =>
        rw [hd] at hm
        simp (maxSteps := 200000) (disch := first | (simp only [go_sem, Nat.reduceAdd, Nat.reduceSub, Nat.reduceMul, Nat.reduceLeDiff, Nat.reduceEqDiff, Nat.reduceLT, Nat.reduceBEq, Nat.reduceBNe, Nat.reducePow, ↓reduceIte]; done) | omega | (simp only [go_sem, Nat.reduceAdd, Nat.reduceSub, Nat.reduceMul, Nat.reduceLeDiff, Nat.reduceEqDiff, Nat.reduceLT, Nat.reduceBEq, Nat.reduceBNe, Nat.reducePow, ↓reduceIte] <;> omega) | fail) only [go_sem, Nat.reduceAdd, Nat.reduceSub, Nat.reduceMul, Nat.reduceLeDiff, Nat.reduceEqDiff, Nat.reduceLT, Nat.reduceBEq, Nat.reduceBNe, Nat.reducePow, ↓reduceIte, nat_int, h, eNode_s, wrap_succ h (show nodes.length ≤ 140737488355328 by omega), callA_pure mode_37, hm, callA_data mode_17, hk, callA_data mode_36, hw]
    · intro _
      simp (maxSteps := 200000) (disch := first | (simp only [go_sem, Nat.reduceAdd, Nat.reduceSub, Nat.reduceMul, Nat.reduceLeDiff, Nat.reduceEqDiff, Nat.reduceLT, Nat.reduceBEq, Nat.reduceBNe, Nat.reducePow, ↓reduceIte]; done) | omega | (simp only [go_sem, Nat.reduceAdd, Nat.reduceSub, Nat.reduceMul, Nat.reduceLeDiff, Nat.reduceEqDiff, Nat.reduceLT, Nat.reduceBEq, Nat.reduceBNe, Nat.reducePow, ↓reduceIte] <;> omega) | fail) only [go_sem, Nat.reduceAdd, Nat.reduceSub, Nat.reduceMul, Nat.reduceLeDiff, Nat.reduceEqDiff, Nat.reduceLT, Nat.reduceBEq, Nat.reduceBNe, Nat.reducePow, ↓reduceIte, nat_int, List.take_length]
end Go.Abs.SA
end

section
set_option linter.unusedVariables false
set_option linter.unusedSimpArgs false
set_option maxRecDepth 100000
set_option maxHeartbeats 4000000
set_option linter.unusedSimpArgs false
set_option linter.unusedVariables false
namespace Go.Abs.SA
open Go.Proofs

def weigh (l : List Rule) : Nat := (l.map fun r => 1 + r.path.length).sum
theorem weigh_take (l : List Rule) {i : Nat} (h : i < l.length) : weigh (l.take (i + 1)) = weigh (l.take i) + (1 + l[i].path.length) := by
  simp only [weigh]
  rw [List.take_succ_eq_append_getElem h, List.map_append, List.sum_append]
  simp
theorem weigh_le (l : List Rule) (i : Nat) : weigh (l.take i) ≤ weigh l := by
  have : weigh l = weigh (l.take i) + weigh (l.drop i) := by
    simp only [weigh]
    rw [← List.sum_append, ← List.map_append, List.take_append_drop]
  omega
theorem int_lt_lit {a : Nat} : ((200 : Int) < (a : Int)) = (200 < a) := propext (by omega)

theorem light_spec (p : Policy) (hp : p.ok) : pureW XX 14 [aPolicy p] = some (vB (decide (weigh p.rules ≤ 200))) := by
  have hl := hp.len
  refine pureW_in 22 Try.func14 Try.ntmps14 (by simp) (rfl : Try.f14.body = some _) fns_14 ?_
  simp (maxSteps := 200000) (disch := first | (simp only [go_sem, Nat.reduceAdd, Nat.reduceSub, Nat.reduceMul, Nat.reduceLeDiff, Nat.reduceEqDiff, Nat.reduceLT, Nat.reduceBEq, Nat.reduceBNe, Nat.reducePow, ↓reduceIte]; done) | omega | (simp only [go_sem, Nat.reduceAdd, Nat.reduceSub, Nat.reduceMul, Nat.reduceLeDiff, Nat.reduceEqDiff, Nat.reduceLT, Nat.reduceBEq, Nat.reduceBNe, Nat.reducePow, ↓reduceIte] <;> omega) | fail) only [go_sem, Nat.reduceAdd, Nat.reduceSub, Nat.reduceMul, Nat.reduceLeDiff, Nat.reduceEqDiff, Nat.reduceLT, Nat.reduceBEq, Nat.reduceBNe, Nat.reducePow, ↓reduceIte]
  refine WP_range 3 1 p.rules.length (fun i => S_14_3 (vI (weigh (p.rules.take i))) (.fs (p.rules.map eRule) false) (vI p.rules.length) (vI i) [.var [.fs (p.rules.map eRule) false, vB p.read, vB p.write]]) (fun i => weigh (p.rules.take i) ≤ 200) rfl rfl ?_ ?_ ?_ ?_
  · simp (maxSteps := 200000) (disch := first | (simp only [go_sem, Nat.reduceAdd, Nat.reduceSub, Nat.reduceMul, Nat.reduceLeDiff, Nat.reduceEqDiff, Nat.reduceLT, Nat.reduceBEq, Nat.reduceBNe, Nat.reducePow, ↓reduceIte]; done) | omega | (simp only [go_sem, Nat.reduceAdd, Nat.reduceSub, Nat.reduceMul, Nat.reduceLeDiff, Nat.reduceEqDiff, Nat.reduceLT, Nat.reduceBEq, Nat.reduceBNe, Nat.reducePow, ↓reduceIte] <;> omega) | fail) only [go_sem, Nat.reduceAdd, Nat.reduceSub, Nat.reduceMul, Nat.reduceLeDiff, Nat.reduceEqDiff, Nat.reduceLT, Nat.reduceBEq, Nat.reduceBNe, Nat.reducePow, ↓reduceIte]; rfl
  · simp [weigh]
  · intro i h hI
    have hpl := hp.path _ (List.getElem_mem h)
    have h1 := weigh_take p.rules h
    have h2 := weigh_le p.rules (i + 1)
    have e1 : IntKind.i64.wrap (1 + (p.rules[i].path.length : Int)) = ((1 + p.rules[i].path.length : Nat) : Int) := by rw [IntWalk.i64_in _ (by omega)]; omega
    have e2 : IntKind.i64.wrap ((weigh (p.rules.take i) : Int) + ((1 + p.rules[i].path.length : Nat) : Int)) = (weigh (p.rules.take (i + 1)) : Int) := by rw [IntWalk.i64_in _ (by omega)]; omega
    by_cases h3 : 200 < weigh (p.rules.take (i + 1))
    · have h4 : ¬ weigh p.rules ≤ 200 := by omega
      simp (maxSteps := 200000) (disch := first | (simp only [go_sem, Nat.reduceAdd, Nat.reduceSub, Nat.reduceMul, Nat.reduceLeDiff, Nat.reduceEqDiff, Nat.reduceLT, Nat.reduceBEq, Nat.reduceBNe, Nat.reducePow, ↓reduceIte]; done) | omega | (simp only [go_sem, Nat.reduceAdd, Nat.reduceSub, Nat.reduceMul, Nat.reduceLeDiff, Nat.reduceEqDiff, Nat.reduceLT, Nat.reduceBEq, Nat.reduceBNe, Nat.reducePow, ↓reduceIte] <;> omega) | fail) only [go_sem, Nat.reduceAdd, Nat.reduceSub, Nat.reduceMul, Nat.reduceLeDiff, Nat.reduceEqDiff, Nat.reduceLT, Nat.reduceBEq, Nat.reduceBNe, Nat.reducePow, ↓reduceIte, nat_int, h, eRule_s, e1, e2, int_lt_lit, h3, h4]
    · simp (maxSteps := 200000) (disch := first | (simp only [go_sem, Nat.reduceAdd, Nat.reduceSub, Nat.reduceMul, Nat.reduceLeDiff, Nat.reduceEqDiff, Nat.reduceLT, Nat.reduceBEq, Nat.reduceBNe, Nat.reducePow, ↓reduceIte]; done) | omega | (simp only [go_sem, Nat.reduceAdd, Nat.reduceSub, Nat.reduceMul, Nat.reduceLeDiff, Nat.reduceEqDiff, Nat.reduceLT, Nat.reduceBEq, Nat.reduceBNe, Nat.reducePow, ↓reduceIte] <;> omega) | fail) only [go_sem, Nat.reduceAdd, Nat.reduceSub, Nat.reduceMul, Nat.reduceLeDiff, Nat.reduceEqDiff, Nat.reduceLT, Nat.reduceBEq, Nat.reduceBNe, Nat.reducePow, ↓reduceIte, nat_int, h, eRule_s, e1, e2, int_lt_lit, h3, wrap_succ h hl]
      omega
  · intro hI
    rw [List.take_length] at hI
    simp (maxSteps := 200000) (disch := first | (simp only [go_sem, Nat.reduceAdd, Nat.reduceSub, Nat.reduceMul, Nat.reduceLeDiff, Nat.reduceEqDiff, Nat.reduceLT, Nat.reduceBEq, Nat.reduceBNe, Nat.reducePow, ↓reduceIte]; done) | omega | (simp only [go_sem, Nat.reduceAdd, Nat.reduceSub, Nat.reduceMul, Nat.reduceLeDiff, Nat.reduceEqDiff, Nat.reduceLT, Nat.reduceBEq, Nat.reduceBNe, Nat.reducePow, ↓reduceIte] <;> omega) | fail) only [go_sem, Nat.reduceAdd, Nat.reduceSub, Nat.reduceMul, Nat.reduceLeDiff, Nat.reduceEqDiff, Nat.reduceLT, Nat.reduceBEq, Nat.reduceBNe, Nat.reducePow, ↓reduceIte, nat_int, hI]
end Go.Abs.SA
end

section
set_option linter.unusedVariables false
set_option linter.unusedSimpArgs false
set_option maxRecDepth 100000
set_option maxHeartbeats 4000000
set_option linter.unusedSimpArgs false
set_option linter.unusedVariables false
namespace Go.Abs.SA
open Go.Proofs

inductive Elem where
  | mk (space name : Str) (attrs : List (Str × Str)) (text : Str) (kids : List Elem)
def Elem.space : Elem → Str | .mk s _ _ _ _ => s
def Elem.name : Elem → Str | .mk _ n _ _ _ => n
def Elem.attrs : Elem → List (Str × Str) | .mk _ _ a _ _ => a
def Elem.text : Elem → Str | .mk _ _ _ t _ => t
def Elem.kids : Elem → List Elem | .mk _ _ _ _ k => k
def eAttr (a : Str × Str) : List AV := [vS a.1, vS a.2]
mutual
def eElem : Elem → List AV
  | .mk s n a t k => [vS s, vS n, .fs (a.map eAttr) false, vS t, .fs (eElems k) false]
def eElems : List Elem → List (List AV)
  | [] => []
  | e :: r => eElem e :: eElems r
end
theorem eElems_map : ∀ (l : List Elem), eElems l = l.map eElem
  | [] => rfl
  | n :: r => by simp [eElems, eElems_map r]
theorem eElem_s (e : Elem) : eElem e = [vS e.space, vS e.name, .fs (e.attrs.map eAttr) false, vS e.text, .fs (e.kids.map eElem) false] := by
  cases e; simp [eElem, eElems_map, Elem.space, Elem.name, Elem.attrs, Elem.text, Elem.kids]
theorem eElem_len (e : Elem) : (eElem e).length = 5 := by rw [eElem_s]; rfl
attribute [go_sem] eElem_len
instance : EL eElem 5 := ⟨eElem_len⟩
abbrev lE (l : List Elem) : AV := .fs (l.map eElem) false

mutual
/-- Sizes that may be. -/
def okE : Elem → Prop
  | .mk s n a t k => s.size ≤ 140737488355328 ∧ n.size ≤ 140737488355328 ∧ a.length ≤ 140737488355328 ∧ t.size ≤ 140737488355328 ∧ k.length ≤ 140737488355328 ∧ okEs k
def okEs : List Elem → Prop
  | [] => True
  | e :: r => okE e ∧ okEs r
end
theorem okEs_mem : ∀ {l : List Elem} {e : Elem}, okEs l → e ∈ l → okE e
  | x :: r, e, h, hm => by
    simp only [okEs] at h
    rcases List.mem_cons.1 hm with rfl | hm
    · exact h.1
    · exact okEs_mem h.2 hm
theorem okE_s {e : Elem} (h : okE e) : e.space.size ≤ 140737488355328 ∧ e.name.size ≤ 140737488355328 ∧ e.attrs.length ≤ 140737488355328 ∧ e.text.size ≤ 140737488355328 ∧ e.kids.length ≤ 140737488355328 ∧ okEs e.kids := by
  cases e; simpa [okE, Elem.space, Elem.name, Elem.attrs, Elem.text, Elem.kids] using h

/-- An element's own weight. -/
def wE (e : Elem) : Nat := 1 + (e.text.size + e.space.size + e.name.size) / 50 + e.attrs.length
mutual
/-- What is left of n. -/
def smallN (n : Int) : Elem → Int
  | .mk s nm a t k => if n - wE (.mk s nm a t k) < 0 then n - wE (.mk s nm a t k) else smallL (n - wE (.mk s nm a t k)) k
def smallL (n : Int) : List Elem → Int
  | [] => n
  | e :: r => if n - wE e < 0 then n - wE e else smallL (smallN n e) r
end
theorem smallN_s (n : Int) (e : Elem) : smallN n e = if n - wE e < 0 then n - wE e else smallL (n - wE e) e.kids := by
  cases e; simp only [smallN, Elem.kids]
end Go.Abs.SA
end

section
set_option linter.unusedVariables false
set_option linter.unusedSimpArgs false
set_option maxRecDepth 100000
set_option maxHeartbeats 4000000
set_option linter.unusedSimpArgs false
set_option linter.unusedVariables false
namespace Go.Abs.SA
open Go.Proofs

theorem wE_bd {e : Elem} (h : okE e) : 1 ≤ wE e ∧ wE e ≤ 562949953421312 := by
  obtain ⟨h1, h2, h3, h4, _⟩ := okE_s h
  unfold wE; omega
theorem smallL_cons (n : Int) (e : Elem) (r : List Elem) : smallL n (e :: r) = if n - wE e < 0 then n - wE e else smallL (smallN n e) r := by simp only [smallL]
mutual
theorem smallN_bd : ∀ (e : Elem) (m : Int), 0 ≤ m → okE e → -(m + 1) * 562949953421312 ≤ smallN m e ∧ smallN m e ≤ m ∧ (0 ≤ m - wE e → -m * 562949953421312 ≤ smallN m e ∧ smallN m e < m)
  | .mk s nm a t k, m, hm, h => by
    have hw := wE_bd h
    have hk : okEs k := by simp only [okE] at h; exact h.2.2.2.2.2
    simp only [smallN]
    split
    · refine ⟨by omega, by omega, fun h => by omega⟩
    · rename_i hn
      have := smallL_bd k (m - wE (.mk s nm a t k)) (by omega) hk
      refine ⟨by omega, by omega, fun h => by omega⟩
theorem smallL_bd : ∀ (l : List Elem) (m : Int), 0 ≤ m → okEs l → -(m + 1) * 562949953421312 ≤ smallL m l ∧ smallL m l ≤ m
  | [], m, hm, h => by simp only [smallL]; omega
  | e :: r, m, hm, h => by
    simp only [okEs] at h
    have hw := wE_bd h.1
    have h1 := smallN_bd e m hm h.1
    simp only [smallL]
    split
    · omega
    · rename_i hn
      have h2 := h1.2.2 (by omega)
      by_cases h3 : 0 ≤ smallN m e
      · have := smallL_bd r (smallN m e) h3 h.2
        omega
      · cases r with
        | nil => simp only [smallL]; omega
        | cons e' r' =>
          simp only [okEs] at h
          have hw' := wE_bd h.2.1
          rw [smallL_cons, if_pos (by omega)]
          omega
end
mutual
def cntE : Elem → Nat
  | .mk _ _ _ _ k => 1 + cntEs k
def cntEs : List Elem → Nat
  | [] => 0
  | e :: r => cntE e + cntEs r
end
theorem cntE_s (e : Elem) : cntE e = 1 + cntEs e.kids := by cases e; simp [cntE, Elem.kids]
theorem cntE_mem : ∀ {l : List Elem} {x : Elem}, x ∈ l → cntE x ≤ cntEs l
  | y :: r, x, h => by
    simp only [cntEs]
    rcases List.mem_cons.1 h with rfl | h
    · omega
    · have := cntE_mem h; omega
theorem cntE_kids {l : List Elem} {i : Nat} (h : i < l.length) : cntEs l[i].kids < cntEs l := by
  have := cntE_mem (List.getElem_mem h); rw [cntE_s] at this; omega

theorem small_spec : ∀ (k : Nat) (l : List Elem) (n : Int), cntEs l < k → okEs l → l.length ≤ 140737488355328 → 0 ≤ n → n ≤ 300 → pureW XX 24 [lE l, vI n] = some (vI (smallL n l)) := by
  intro k
  induction k with
  | zero => intro l n h; omega
  | succ k ih =>
    intro l n hc hok hl h0 h300
    refine pureW_in 41 Try.func24 Try.ntmps24 (by simp) (rfl : Try.f24.body = some _) fns_24 ?_
    simp (maxSteps := 200000) (disch := first | (simp only [go_sem, Nat.reduceAdd, Nat.reduceSub, Nat.reduceMul, Nat.reduceLeDiff, Nat.reduceEqDiff, Nat.reduceLT, Nat.reduceBEq, Nat.reduceBNe, Nat.reducePow, ↓reduceIte]; done) | omega | (simp only [go_sem, Nat.reduceAdd, Nat.reduceSub, Nat.reduceMul, Nat.reduceLeDiff, Nat.reduceEqDiff, Nat.reduceLT, Nat.reduceBEq, Nat.reduceBNe, Nat.reducePow, ↓reduceIte] <;> omega) | fail) only [go_sem, Nat.reduceAdd, Nat.reduceSub, Nat.reduceMul, Nat.reduceLeDiff, Nat.reduceEqDiff, Nat.reduceLT, Nat.reduceBEq, Nat.reduceBNe, Nat.reducePow, ↓reduceIte]
    refine WP_range 2 0 l.length (fun i => S_24_2 (vI ((l.take i).foldl smallN n)) (lE l) (vI l.length) (vI i) []) (fun i => smallL n l = smallL ((l.take i).foldl smallN n) (l.drop i) ∧ (l.take i).foldl smallN n ≤ 300 ∧ -(301 * 562949953421312) ≤ (l.take i).foldl smallN n) rfl rfl ?_ ?_ ?_ ?_
    · simp (maxSteps := 200000) (disch := first | (simp only [go_sem, Nat.reduceAdd, Nat.reduceSub, Nat.reduceMul, Nat.reduceLeDiff, Nat.reduceEqDiff, Nat.reduceLT, Nat.reduceBEq, Nat.reduceBNe, Nat.reducePow, ↓reduceIte]; done) | omega | (simp only [go_sem, Nat.reduceAdd, Nat.reduceSub, Nat.reduceMul, Nat.reduceLeDiff, Nat.reduceEqDiff, Nat.reduceLT, Nat.reduceBEq, Nat.reduceBNe, Nat.reducePow, ↓reduceIte] <;> omega) | fail) only [go_sem, Nat.reduceAdd, Nat.reduceSub, Nat.reduceMul, Nat.reduceLeDiff, Nat.reduceEqDiff, Nat.reduceLT, Nat.reduceBEq, Nat.reduceBNe, Nat.reducePow, ↓reduceIte]; rfl
    · simp; omega
    · rintro i h ⟨hI, hu, hd⟩
      have hke := okEs_mem hok (List.getElem_mem h)
      obtain ⟨k1, k2, k3, k4, k5, k6⟩ := okE_s hke
      have hw := wE_bd hke
      have ht : (l.take (i + 1)).foldl smallN n = smallN ((l.take i).foldl smallN n) l[i] := by
        rw [List.take_succ_eq_append_getElem h, List.foldl_append]; rfl
      generalize (l.take i).foldl smallN n = m at *
      rw [List.drop_eq_getElem_cons h, smallL_cons] at hI
      have e1 : IntKind.i64.wrap ((l[i].text.size : Int) + (l[i].space.size : Int)) = ((l[i].text.size + l[i].space.size : Nat) : Int) := by rw [IntWalk.i64_in _ (by omega)]; omega
      have e2 : IntKind.i64.wrap (((l[i].text.size + l[i].space.size : Nat) : Int) + (l[i].name.size : Int)) = ((l[i].text.size + l[i].space.size + l[i].name.size : Nat) : Int) := by rw [IntWalk.i64_in _ (by omega)]; omega
      have e3 : IntKind.i64.wrap (((l[i].text.size + l[i].space.size + l[i].name.size : Nat) : Int).tdiv 50) = (((l[i].text.size + l[i].space.size + l[i].name.size) / 50 : Nat) : Int) := by
        rw [Int.tdiv_eq_ediv_of_nonneg (by omega), IntWalk.i64_in _ (by omega)]; omega
      have e4 : IntKind.i64.wrap (1 + (((l[i].text.size + l[i].space.size + l[i].name.size) / 50 : Nat) : Int)) = ((1 + (l[i].text.size + l[i].space.size + l[i].name.size) / 50 : Nat) : Int) := by rw [IntWalk.i64_in _ (by omega)]; omega
      have e5 : IntKind.i64.wrap (((1 + (l[i].text.size + l[i].space.size + l[i].name.size) / 50 : Nat) : Int) + (l[i].attrs.length : Int)) = (wE l[i] : Int) := by rw [IntWalk.i64_in _ (by omega)]; unfold wE; omega
      have e6 : IntKind.i64.wrap (m - (wE l[i] : Int)) = m - (wE l[i] : Int) := IntWalk.i64_in _ (by omega)
      by_cases h3 : m - (wE l[i] : Int) < 0
      · rw [if_pos h3] at hI
        simp (maxSteps := 200000) (disch := first | (simp only [go_sem, Nat.reduceAdd, Nat.reduceSub, Nat.reduceMul, Nat.reduceLeDiff, Nat.reduceEqDiff, Nat.reduceLT, Nat.reduceBEq, Nat.reduceBNe, Nat.reducePow, ↓reduceIte]; done) | omega | (simp only [go_sem, Nat.reduceAdd, Nat.reduceSub, Nat.reduceMul, Nat.reduceLeDiff, Nat.reduceEqDiff, Nat.reduceLT, Nat.reduceBEq, Nat.reduceBNe, Nat.reducePow, ↓reduceIte] <;> omega) | fail) only [go_sem, Nat.reduceAdd, Nat.reduceSub, Nat.reduceMul, Nat.reduceLeDiff, Nat.reduceEqDiff, Nat.reduceLT, Nat.reduceBEq, Nat.reduceBNe, Nat.reducePow, ↓reduceIte, nat_int, h, eElem_s, e1, e2, e3, e4, e5, e6, h3, hI]
      · rw [if_neg h3] at hI
        have hs : smallL (m - wE l[i]) l[i].kids = smallN m l[i] := by rw [smallN_s, if_neg h3]
        have hk := ih l[i].kids (m - wE l[i]) (by have := cntE_kids h; omega) k6 k5 (by omega) (by omega)
        rw [hs] at hk
        have hb := smallN_bd l[i] m (by omega) hke
        simp (maxSteps := 200000) (disch := first | (simp only [go_sem, Nat.reduceAdd, Nat.reduceSub, Nat.reduceMul, Nat.reduceLeDiff, Nat.reduceEqDiff, Nat.reduceLT, Nat.reduceBEq, Nat.reduceBNe, Nat.reducePow, ↓reduceIte]; done) | omega | (simp only [go_sem, Nat.reduceAdd, Nat.reduceSub, Nat.reduceMul, Nat.reduceLeDiff, Nat.reduceEqDiff, Nat.reduceLT, Nat.reduceBEq, Nat.reduceBNe, Nat.reducePow, ↓reduceIte] <;> omega) | fail) only [go_sem, Nat.reduceAdd, Nat.reduceSub, Nat.reduceMul, Nat.reduceLeDiff, Nat.reduceEqDiff, Nat.reduceLT, Nat.reduceBEq, Nat.reduceBNe, Nat.reducePow, ↓reduceIte, nat_int, h, eElem_s, e1, e2, e3, e4, e5, e6, h3, callA_pure mode_24, hk, wrap_succ h hl, ht]
        rw [gcK_mkT (by simp only [go_sem, Nat.reduceAdd, Nat.reduceSub, Nat.reduceMul, Nat.reduceLeDiff, Nat.reduceEqDiff, Nat.reduceLT, Nat.reduceBEq, Nat.reduceBNe, Nat.reducePow, ↓reduceIte]) (by simp only [go_sem, Nat.reduceAdd, Nat.reduceSub, Nat.reduceMul, Nat.reduceLeDiff, Nat.reduceEqDiff, Nat.reduceLT, Nat.reduceBEq, Nat.reduceBNe, Nat.reducePow, ↓reduceIte])]
        exact ⟨rfl, hI, by omega, by omega⟩
    · rintro ⟨hI, _⟩
      rw [List.drop_length, List.take_length] at hI
      simp (maxSteps := 200000) (disch := first | (simp only [go_sem, Nat.reduceAdd, Nat.reduceSub, Nat.reduceMul, Nat.reduceLeDiff, Nat.reduceEqDiff, Nat.reduceLT, Nat.reduceBEq, Nat.reduceBNe, Nat.reducePow, ↓reduceIte]; done) | omega | (simp only [go_sem, Nat.reduceAdd, Nat.reduceSub, Nat.reduceMul, Nat.reduceLeDiff, Nat.reduceEqDiff, Nat.reduceLT, Nat.reduceBEq, Nat.reduceBNe, Nat.reducePow, ↓reduceIte] <;> omega) | fail) only [go_sem, Nat.reduceAdd, Nat.reduceSub, Nat.reduceMul, Nat.reduceLeDiff, Nat.reduceEqDiff, Nat.reduceLT, Nat.reduceBEq, Nat.reduceBNe, Nat.reducePow, ↓reduceIte, nat_int, List.take_length]
      rw [hI]; simp only [smallL]
end Go.Abs.SA
end

section
set_option linter.unusedVariables false
set_option linter.unusedSimpArgs false
set_option maxRecDepth 100000
set_option maxHeartbeats 4000000
set_option linter.unusedSimpArgs false
set_option linter.unusedVariables false
namespace Go.Abs.SA
open Go.Proofs

inductive Def where
  | mk (name : Str) (kind type : Int) (values : List Str) (must : Bool) (keys : List Str) (kids : List Def)
def Def.name : Def → Str | .mk n _ _ _ _ _ _ => n
def Def.kind : Def → Int | .mk _ k _ _ _ _ _ => k
def Def.type : Def → Int | .mk _ _ t _ _ _ _ => t
def Def.values : Def → List Str | .mk _ _ _ v _ _ _ => v
def Def.must : Def → Bool | .mk _ _ _ _ m _ _ => m
def Def.keys : Def → List Str | .mk _ _ _ _ _ k _ => k
def Def.kids : Def → List Def | .mk _ _ _ _ _ _ k => k
mutual
def eDef : Def → List AV
  | .mk n k t v m ks kd => [vS n, vI k, vI t, lS v, vB m, lS ks, .fs (eDefs kd) false]
def eDefs : List Def → List (List AV)
  | [] => []
  | e :: r => eDef e :: eDefs r
end
theorem eDefs_map : ∀ (l : List Def), eDefs l = l.map eDef
  | [] => rfl
  | n :: r => by simp [eDefs, eDefs_map r]
theorem eDef_s (e : Def) : eDef e = [vS e.name, vI e.kind, vI e.type, lS e.values, vB e.must, lS e.keys, .fs (e.kids.map eDef) false] := by
  cases e; simp [eDef, eDefs_map, Def.name, Def.kind, Def.type, Def.values, Def.must, Def.keys, Def.kids]
theorem eDef_len (e : Def) : (eDef e).length = 7 := by rw [eDef_s]; rfl
attribute [go_sem] eDef_len
instance : EL eDef 7 := ⟨eDef_len⟩
abbrev lD (l : List Def) : AV := .fs (l.map eDef) false

def leafD (n : Str) (t : Int) : Def := .mk n 3 t [] false [] []
def sName : Str := ⟨#[110, 97, 109, 101]⟩
def portD : Def := .mk ⟨#[112, 111, 114, 116]⟩ 2 0 [] false [sName] [leafD sName 0, leafD ⟨#[115, 112, 101, 101, 100]⟩ 1, leafD ⟨#[111, 110]⟩ 2]
def schema : List Def := [leafD ⟨#[104, 111, 115, 116]⟩ 0,
  .mk ⟨#[98, 111, 120]⟩ 1 0 [] false [] [leafD ⟨#[116, 105, 116, 108, 101]⟩ 0, .mk ⟨#[99, 111, 108, 111, 114]⟩ 3 3 [⟨#[114, 101, 100]⟩, ⟨#[103, 114, 101, 101, 110]⟩] false [] [], portD,
    .mk ⟨#[100, 101, 101, 112]⟩ 1 0 [] false [] [.mk ⟨#[105, 100]⟩ 3 1 [] true [] [], leafD ⟨#[110, 111, 116, 101]⟩ 0]],
  .mk ⟨#[112, 97, 105, 114]⟩ 2 0 [] false [⟨#[120]⟩, ⟨#[121]⟩] [leafD ⟨#[121]⟩ 0, leafD ⟨#[120]⟩ 1, leafD ⟨#[118]⟩ 0],
  .mk ⟨#[97, 114, 101, 97]⟩ 2 0 [] false [sName] [leafD sName 0, portD]]
theorem schema_spec : pureW XX 25 [] = some (lD schema) := by
  refine pureW_iff.2 ⟨60, ?_⟩
  rw [show lD schema = .fs (eDefs schema) false by rw [eDefs_map]]
  kernel_rfl
theorem fit_spec : pureW XX 12 [] = some (vB true) := pureW_iff.2 ⟨60, by kernel_rfl⟩
end Go.Abs.SA
end
