/- YtmjhgjgfinhiaaaDoorA5: a part of the interpreter by which the claim is shown, and of the walks: no conditions of its own: every theorem states its own. -/
import Derived.Test.YtmjhgjgfinhiaaaDoorA4
section
set_option linter.unusedVariables false
set_option linter.unusedSimpArgs false
set_option linter.unusedSectionVars false
set_option maxRecDepth 100000
set_option maxHeartbeats 4000000
set_option linter.unusedSimpArgs false
set_option linter.unusedVariables false
namespace Go.Abs.SA
open Go.Proofs

abbrev Str := ByteArray
abbrev vS (s : Str) : AV := .v (.string s)
abbrev vI (n : Int) : AV := .v (.int .i64 n)
abbrev vB (b : Bool) : AV := .v (.bool b)
abbrev eS (s : Str) : List AV := [vS s]
abbrev lS (l : List Str) : AV := .fs (l.map eS) false
theorem eS_len (s : Str) : (eS s).length = 1 := rfl
attribute [go_sem] eS_len
instance : EL eS 1 := ⟨eS_len⟩
theorem snoc_S (l : List Str) (x : Str) : l.map eS ++ [[.v (.string x)]] = (l ++ [x]).map eS := by simp
attribute [go_sem] snoc_S
def posI : Option Nat → Int
  | some i => i
  | none => -1

theorem nat_int {i n : Nat} : ((i : Int) < (n : Int)) = (i < n) := propext (by omega)
theorem nat_int_ne {i n : Nat} : ((i : Int) ≠ (n : Int)) = (i ≠ n) := propext (by omega)
theorem nat_int_gt {i n : Nat} : ((i : Int) > (n : Int)) = (i > n) := propext (by omega)
theorem nat_int_eq {i n : Nat} : ((i : Int) = (n : Int)) = (i = n) := propext (by omega)
/-- Is a text in a list? -/
def has (l : List Str) (v : Str) : Bool := l.any fun x => decide (v = x)
theorem has_iff {l : List Str} {v : Str} : has l v = true ↔ v ∈ l := by simp [has]

theorem index_spec (xs : List Str) (v : Str) (hl : xs.length ≤ 140737488355328) : pureW XX 34 [lS xs, vS v] = some (vI (posI (xs.findIdx? (v = ·)))) := by
  refine pureW_in 19 Tryd.func34 Tryd.ntmps34 (by simp) (rfl : Tryd.f34.body = some _) fns_34 ?_
  simp only [go_sem, Nat.reduceAdd, Nat.reduceSub, Nat.reduceMul, Nat.reduceLeDiff, Nat.reduceEqDiff, Nat.reduceLT, Nat.reduceBEq, Nat.reduceBNe, Nat.reducePow, ↓reduceIte]
  refine WP_range 2 0 xs.length (fun i => S_34_2 (lS xs) (vS v) (vI xs.length) (vI i) []) (fun i => xs.findIdx? (v = ·) = ((xs.drop i).findIdx? (v = ·)).map (· + i)) rfl rfl ?_ ?_ ?_ ?_
  · simp only [go_sem, Nat.reduceAdd, Nat.reduceSub, Nat.reduceMul, Nat.reduceLeDiff, Nat.reduceEqDiff, Nat.reduceLT, Nat.reduceBEq, Nat.reduceBNe, Nat.reducePow, ↓reduceIte]; rfl
  · simp
  · intro i h hI
    rw [List.drop_eq_getElem_cons h, List.findIdx?_cons] at hI
    by_cases hv : v = xs[i]
    · simp only [go_sem, Nat.reduceAdd, Nat.reduceSub, Nat.reduceMul, Nat.reduceLeDiff, Nat.reduceEqDiff, Nat.reduceLT, Nat.reduceBEq, Nat.reduceBNe, Nat.reducePow, ↓reduceIte, nat_int, h, ← hv]
      rw [hI]
      simp [← hv, posI]
    · simp only [go_sem, Nat.reduceAdd, Nat.reduceSub, Nat.reduceMul, Nat.reduceLeDiff, Nat.reduceEqDiff, Nat.reduceLT, Nat.reduceBEq, Nat.reduceBNe, Nat.reducePow, ↓reduceIte, nat_int, h, hv, wrap_succ h hl]
      rw [hI]
      simp [hv]
      congr 1
      funext x
      simp
      omega
  · intro hI
    simp only [go_sem, Nat.reduceAdd, Nat.reduceSub, Nat.reduceMul, Nat.reduceLeDiff, Nat.reduceEqDiff, Nat.reduceLT, Nat.reduceBEq, Nat.reduceBNe, Nat.reducePow, ↓reduceIte, nat_int, Nat.lt_irrefl]
    rw [hI]
    simp [posI]

theorem posI_geq (o : Option Nat) : (0 ≤ posI o) = (o.isSome = true) := by
  cases o <;> simp [posI]

theorem contains_spec (xs : List Str) (v : Str) (hl : xs.length ≤ 140737488355328) : pureW XX 37 [lS xs, vS v] = some (vB (has xs v)) := by
  refine pureW_in 9 Tryd.func37 Tryd.ntmps37 (by simp) (rfl : Tryd.f37.body = some _) fns_37 ?_
  simp only [go_sem, Nat.reduceAdd, Nat.reduceSub, Nat.reduceMul, Nat.reduceLeDiff, Nat.reduceEqDiff, Nat.reduceLT, Nat.reduceBEq, Nat.reduceBNe, Nat.reducePow, ↓reduceIte, callA_pure mode_34, index_spec _ _ hl, pureR, AV.scalar, posI_geq]
  simp [has]

/-- The loop that compares two lists of texts, from i on. -/
theorem drop_eq {α : Type} {xs ys : List α} {i : Nat} (h1 : i < xs.length) (h2 : i < ys.length) : (xs.drop i = ys.drop i) = (xs[i] = ys[i] ∧ xs.drop (i + 1) = ys.drop (i + 1)) := by
  rw [List.drop_eq_getElem_cons h1, List.drop_eq_getElem_cons h2, List.cons.injEq]


theorem equal_spec (xs ys : List Str) (hl : xs.length ≤ 140737488355328) : pureW XX 31 [lS xs, lS ys] = some (vB (decide (xs = ys))) := by
  refine pureW_in 26 Tryd.func31 Tryd.ntmps31 (by simp) (rfl : Tryd.f31.body = some _) fns_31 ?_
  by_cases hn : xs.length = ys.length
  · simp only [go_sem, Nat.reduceAdd, Nat.reduceSub, Nat.reduceMul, Nat.reduceLeDiff, Nat.reduceEqDiff, Nat.reduceLT, Nat.reduceBEq, Nat.reduceBNe, Nat.reducePow, ↓reduceIte, nat_int_ne, hn, ne_eq, not_true]
    refine WP_range 4 0 ys.length (fun i => S_31_4 (lS xs) (lS ys) (vI xs.length) (vI i) []) (fun i => (xs = ys) = (xs.drop i = ys.drop i)) rfl rfl ?_ ?_ ?_ ?_
    · simp only [go_sem, Nat.reduceAdd, Nat.reduceSub, Nat.reduceMul, Nat.reduceLeDiff, Nat.reduceEqDiff, Nat.reduceLT, Nat.reduceBEq, Nat.reduceBNe, Nat.reducePow, ↓reduceIte]; rw [hn]; rfl
    · simp
    · intro i h hI
      rw [drop_eq (by omega) h] at hI
      by_cases hv : xs[i] = ys[i]
      · simp only [go_sem, Nat.reduceAdd, Nat.reduceSub, Nat.reduceMul, Nat.reduceLeDiff, Nat.reduceEqDiff, Nat.reduceLT, Nat.reduceBEq, Nat.reduceBNe, Nat.reducePow, ↓reduceIte, nat_int, h, hn, hv, ne_eq, not_true, wrap_succ h (hn ▸ hl)]
        simp [hI, hv]
      · simp only [go_sem, Nat.reduceAdd, Nat.reduceSub, Nat.reduceMul, Nat.reduceLeDiff, Nat.reduceEqDiff, Nat.reduceLT, Nat.reduceBEq, Nat.reduceBNe, Nat.reducePow, ↓reduceIte, nat_int, h, hn, hv, ne_eq, not_false_eq_true]
        simp [hI, hv]
    · intro hI
      simp only [go_sem, Nat.reduceAdd, Nat.reduceSub, Nat.reduceMul, Nat.reduceLeDiff, Nat.reduceEqDiff, Nat.reduceLT, Nat.reduceBEq, Nat.reduceBNe, Nat.reducePow, ↓reduceIte, nat_int, hn, Nat.lt_irrefl]
      simp [hI, List.drop_of_length_le (Nat.le_of_eq hn)]
  · have hne : xs ≠ ys := fun e => hn (by rw [e])
    simp only [go_sem, Nat.reduceAdd, Nat.reduceSub, Nat.reduceMul, Nat.reduceLeDiff, Nat.reduceEqDiff, Nat.reduceLT, Nat.reduceBEq, Nat.reduceBNe, Nat.reducePow, ↓reduceIte, nat_int_ne, hn, ne_eq, not_false_eq_true, hne]
end Go.Abs.SA
end

section
set_option linter.unusedVariables false
set_option linter.unusedSimpArgs false
set_option linter.unusedSectionVars false
set_option maxRecDepth 100000
set_option maxHeartbeats 4000000
set_option linter.unusedSimpArgs false
set_option linter.unusedVariables false
namespace Go.Abs.SA
open Go.Proofs

end Go.Abs.SA
end

section
set_option linter.unusedVariables false
set_option linter.unusedSimpArgs false
set_option linter.unusedSectionVars false
set_option maxRecDepth 100000
set_option maxHeartbeats 4000000
set_option linter.unusedSimpArgs false
set_option linter.unusedVariables false
namespace Go.Abs.SA
open Go.Proofs

structure Rule where
  group : Str
  rights : Int
  path : List Str
  permit : Bool
structure Policy where
  rules : List Rule
  read : Bool
  write : Bool
def eRule (r : Rule) : List AV := [vS r.group, vI r.rights, lS r.path, vB r.permit]
abbrev aPolicy (p : Policy) : AV := .agg [.fs (p.rules.map eRule) false, vB p.read, vB p.write]
theorem eRule_len (r : Rule) : (eRule r).length = 4 := rfl
theorem eRule_s (r : Rule) : eRule r = [vS r.group, vI r.rights, lS r.path, vB r.permit] := nr rfl
theorem eS_s (s : Str) : eS s = [vS s] := nr rfl
attribute [go_sem] eRule_len
instance : EL eRule 4 := ⟨eRule_len⟩

inductive Node where
  | mk (name value : Str) (kids : List Node)
def Node.name : Node → Str | .mk n _ _ => n
def Node.value : Node → Str | .mk _ v _ => v
def Node.kids : Node → List Node | .mk _ _ k => k
mutual
def eNode : Node → List AV
  | .mk n v k => [vS n, vS v, .fs (eNodes k) false]
def eNodes : List Node → List (List AV)
  | [] => []
  | n :: r => eNode n :: eNodes r
end
theorem eNodes_map : ∀ (l : List Node), eNodes l = l.map eNode
  | [] => rfl
  | n :: r => by simp [eNodes, eNodes_map r]
theorem eNode_s (n : Node) : eNode n = [vS n.name, vS n.value, .fs (n.kids.map eNode) false] := by
  cases n; simp [eNode, eNodes_map, Node.name, Node.value, Node.kids]
theorem eNode_len (n : Node) : (eNode n).length = 3 := by rw [eNode_s]; rfl
attribute [go_sem] eNode_len
instance : EL eNode 3 := ⟨eNode_len⟩
theorem snoc_N (l : List Node) (a b : Str) (k : List Node) : l.map eNode ++ [[.v (.string a), .v (.string b), .fs (k.map eNode) false]] = (l ++ [Node.mk a b k]).map eNode := by
  simp [eNode_s, Node.name, Node.value, Node.kids]
attribute [go_sem] snoc_N
abbrev lN (l : List Node) : AV := .fs (l.map eNode) false

/-- Does a rule say anything? -/
def Rule.says (groups : List Str) (right : Int) (path : List Str) (r : Rule) : Bool :=
  decide (bitI .and .i64 r.rights right ≠ 0) && (decide (r.group = ⟨#[]⟩) || has groups r.group) && decide (r.path <+: path)
/-- The rules' word. -/
def may (p : Policy) (groups : List Str) (right : Int) (path : List Str) : Bool :=
  match p.rules.find? (Rule.says groups right path) with
  | some r => r.permit
  | none => if right = 1 then p.read else p.write

structure Policy.ok (p : Policy) : Prop where
  len : p.rules.length ≤ 140737488355328
  path : ∀ r ∈ p.rules, r.path.length ≤ 140737488355328

end Go.Abs.SA
end

section
set_option linter.unusedVariables false
set_option linter.unusedSimpArgs false
set_option linter.unusedSectionVars false
set_option maxRecDepth 100000
set_option maxHeartbeats 4000000
set_option linter.unusedSimpArgs false
set_option linter.unusedVariables false
namespace Go.Abs.SA
open Go.Proofs

noncomputable instance : DecidableEq Node := fun a b => Classical.propDecidable (a = b)
mutual
/-- How many nodes. -/
def cntN : Node → Nat
  | .mk _ _ k => 1 + cntL k
def cntL : List Node → Nat
  | [] => 0
  | x :: r => cntN x + cntL r
end
theorem cntN_s (n : Node) : cntN n = 1 + cntL n.kids := by cases n; simp [cntN, Node.kids]
theorem cntL_cons (x : Node) (r : List Node) : cntL (x :: r) = cntN x + cntL r := by simp [cntL]
theorem len_cnt : ∀ (l : List Node), l.length ≤ cntL l
  | [] => Nat.zero_le _
  | x :: r => by have := len_cnt r; have := cntN_s x; rw [cntL_cons, List.length_cons]; omega
theorem cnt_mem : ∀ {l : List Node} {x : Node}, x ∈ l → cntN x ≤ cntL l
  | y :: r, x, h => by
    rw [cntL_cons]
    rcases List.mem_cons.1 h with rfl | h
    · omega
    · have := cnt_mem h; omega
theorem cnt_kids {l : List Node} {i : Nat} (h : i < l.length) : cntL l[i].kids < cntL l := by
  have := cnt_mem (List.getElem_mem h); rw [cntN_s] at this; omega

theorem node_eq (a b : Node) : (a = b) = (a.name = b.name ∧ a.value = b.value ∧ a.kids = b.kids) := by
  cases a; cases b; simp [Node.name, Node.value, Node.kids]

end Go.Abs.SA
end

section
set_option linter.unusedVariables false
set_option linter.unusedSimpArgs false
set_option linter.unusedSectionVars false
set_option maxRecDepth 100000
set_option maxHeartbeats 4000000
set_option linter.unusedSimpArgs false
set_option linter.unusedVariables false
namespace Go.Abs.SA
open Go.Proofs

mutual
/-- What may be read of nodes. -/
def pruneN (ok : List Str → Bool) (path : List Str) : Node → List Node
  | .mk n v k => if ok (path ++ [n]) then [.mk n v (pruneL ok (path ++ [n]) k)] else []
def pruneL (ok : List Str → Bool) (path : List Str) : List Node → List Node
  | [] => []
  | x :: r => pruneN ok path x ++ pruneL ok path r
end
theorem pruneN_s (ok : List Str → Bool) (path : List Str) (n : Node) : pruneN ok path n = if ok (path ++ [n.name]) then [.mk n.name n.value (pruneL ok (path ++ [n.name]) n.kids)] else [] := by
  cases n; simp only [pruneN, Node.name, Node.value, Node.kids]; rfl
theorem pruneL_flat (ok : List Str → Bool) (path : List Str) : ∀ (l : List Node), pruneL ok path l = l.flatMap (pruneN ok path)
  | [] => by simp [pruneL]
  | x :: r => by simp [pruneL, pruneL_flat ok path r]
theorem pruneL_take (ok : List Str → Bool) (path : List Str) (l : List Node) {i : Nat} (h : i < l.length) : pruneL ok path (l.take (i + 1)) = pruneL ok path (l.take i) ++ pruneN ok path l[i] := by
  simp only [pruneL_flat]
  rw [List.take_succ_eq_append_getElem h, List.flatMap_append]
  simp
theorem pruneN_len (ok : List Str → Bool) (path : List Str) (n : Node) : (pruneN ok path n).length ≤ 1 := by
  rw [pruneN_s]; split <;> simp
theorem pruneL_len (ok : List Str → Bool) (path : List Str) : ∀ (l : List Node), (pruneL ok path l).length ≤ l.length
  | [] => by simp [pruneL]
  | x :: r => by have := pruneL_len ok path r; have := pruneN_len ok path x; simp only [pruneL, List.length_append, List.length_cons]; omega


end Go.Abs.SA
end

section
set_option linter.unusedVariables false
set_option linter.unusedSimpArgs false
set_option linter.unusedSectionVars false
set_option maxRecDepth 100000
set_option maxHeartbeats 4000000
set_option linter.unusedSimpArgs false
set_option linter.unusedVariables false
namespace Go.Abs.SA
open Go.Proofs

/-- The document's word on a rule. -/
def Rule.tells (groups : List Str) (right : Int) (path : List Str) (r : Rule) : Bool :=
  (decide (r.group = ⟨#[]⟩) || has groups r.group) && decide (bitI .and .i64 r.rights right > 0) && decide (r.path <+: path)
def refMay (p : Policy) (groups : List Str) (right : Int) (path : List Str) : Bool :=
  match p.rules.find? (Rule.tells groups right path) with
  | some r => r.permit
  | none => if right = 1 then p.read else p.write

end Go.Abs.SA
end

section
set_option linter.unusedVariables false
set_option linter.unusedSimpArgs false
set_option linter.unusedSectionVars false
set_option maxRecDepth 100000
set_option maxHeartbeats 4000000
set_option linter.unusedSimpArgs false
set_option linter.unusedVariables false
namespace Go.Abs.SA
open Go.Proofs

def weigh (l : List Rule) : Nat := (l.map fun r => 1 + r.path.length).sum
theorem weigh_take (l : List Rule) {i : Nat} (h : i < l.length) : weigh (l.take (i + 1)) = weigh (l.take i) + (1 + l[i].path.length) := by
  simp only [weigh]
  rw [List.take_succ_eq_append_getElem h, List.map_append, List.sum_append]
  simp
theorem weigh_le (l : List Rule) (i : Nat) : weigh (l.take i) ≤ weigh l := by
  have : weigh l = weigh (l.take i) + weigh (l.drop i) := by
    simp only [weigh]
    rw [← List.sum_append, ← List.map_append, List.take_append_drop]
  omega
theorem int_lt_lit {a : Nat} : ((200 : Int) < (a : Int)) = (200 < a) := propext (by omega)

end Go.Abs.SA
end

section
set_option linter.unusedVariables false
set_option linter.unusedSimpArgs false
set_option linter.unusedSectionVars false
set_option maxRecDepth 100000
set_option maxHeartbeats 4000000
set_option linter.unusedSimpArgs false
set_option linter.unusedVariables false
namespace Go.Abs.SA
open Go.Proofs

inductive Elem where
  | mk (space name : Str) (attrs : List (Str × Str)) (text : Str) (kids : List Elem)
def Elem.space : Elem → Str | .mk s _ _ _ _ => s
def Elem.name : Elem → Str | .mk _ n _ _ _ => n
def Elem.attrs : Elem → List (Str × Str) | .mk _ _ a _ _ => a
def Elem.text : Elem → Str | .mk _ _ _ t _ => t
def Elem.kids : Elem → List Elem | .mk _ _ _ _ k => k
def eAttr (a : Str × Str) : List AV := [vS a.1, vS a.2]
mutual
def eElem : Elem → List AV
  | .mk s n a t k => [vS s, vS n, .fs (a.map eAttr) false, vS t, .fs (eElems k) false]
def eElems : List Elem → List (List AV)
  | [] => []
  | e :: r => eElem e :: eElems r
end
theorem eElems_map : ∀ (l : List Elem), eElems l = l.map eElem
  | [] => rfl
  | n :: r => by simp [eElems, eElems_map r]
theorem eElem_s (e : Elem) : eElem e = [vS e.space, vS e.name, .fs (e.attrs.map eAttr) false, vS e.text, .fs (e.kids.map eElem) false] := by
  cases e; simp [eElem, eElems_map, Elem.space, Elem.name, Elem.attrs, Elem.text, Elem.kids]
theorem eElem_len (e : Elem) : (eElem e).length = 5 := by rw [eElem_s]; rfl
attribute [go_sem] eElem_len
instance : EL eElem 5 := ⟨eElem_len⟩
abbrev lE (l : List Elem) : AV := .fs (l.map eElem) false

mutual
/-- Sizes that may be. -/
def okE : Elem → Prop
  | .mk s n a t k => s.size ≤ 140737488355328 ∧ n.size ≤ 140737488355328 ∧ a.length ≤ 140737488355328 ∧ t.size ≤ 140737488355328 ∧ k.length ≤ 140737488355328 ∧ okEs k
def okEs : List Elem → Prop
  | [] => True
  | e :: r => okE e ∧ okEs r
end
theorem okEs_mem : ∀ {l : List Elem} {e : Elem}, okEs l → e ∈ l → okE e
  | x :: r, e, h, hm => by
    simp only [okEs] at h
    rcases List.mem_cons.1 hm with rfl | hm
    · exact h.1
    · exact okEs_mem h.2 hm
theorem okE_s {e : Elem} (h : okE e) : e.space.size ≤ 140737488355328 ∧ e.name.size ≤ 140737488355328 ∧ e.attrs.length ≤ 140737488355328 ∧ e.text.size ≤ 140737488355328 ∧ e.kids.length ≤ 140737488355328 ∧ okEs e.kids := by
  cases e; simpa [okE, Elem.space, Elem.name, Elem.attrs, Elem.text, Elem.kids] using h

/-- An element's own weight. -/
def wE (e : Elem) : Nat := 1 + (e.text.size + e.space.size + e.name.size) / 50 + e.attrs.length
mutual
/-- What is left of n. -/
def smallN (n : Int) : Elem → Int
  | .mk s nm a t k => if n - wE (.mk s nm a t k) < 0 then n - wE (.mk s nm a t k) else smallL (n - wE (.mk s nm a t k)) k
def smallL (n : Int) : List Elem → Int
  | [] => n
  | e :: r => if n - wE e < 0 then n - wE e else smallL (smallN n e) r
end
theorem smallN_s (n : Int) (e : Elem) : smallN n e = if n - wE e < 0 then n - wE e else smallL (n - wE e) e.kids := by
  cases e; simp only [smallN, Elem.kids]
end Go.Abs.SA
end

section
set_option linter.unusedVariables false
set_option linter.unusedSimpArgs false
set_option linter.unusedSectionVars false
set_option maxRecDepth 100000
set_option maxHeartbeats 4000000
set_option linter.unusedSimpArgs false
set_option linter.unusedVariables false
namespace Go.Abs.SA
open Go.Proofs

theorem wE_bd {e : Elem} (h : okE e) : 1 ≤ wE e ∧ wE e ≤ 562949953421312 := by
  obtain ⟨h1, h2, h3, h4, _⟩ := okE_s h
  unfold wE; omega
theorem smallL_cons (n : Int) (e : Elem) (r : List Elem) : smallL n (e :: r) = if n - wE e < 0 then n - wE e else smallL (smallN n e) r := by simp only [smallL]
mutual
theorem smallN_bd : ∀ (e : Elem) (m : Int), 0 ≤ m → okE e → -(m + 1) * 562949953421312 ≤ smallN m e ∧ smallN m e ≤ m ∧ (0 ≤ m - wE e → -m * 562949953421312 ≤ smallN m e ∧ smallN m e < m)
  | .mk s nm a t k, m, hm, h => by
    have hw := wE_bd h
    have hk : okEs k := by simp only [okE] at h; exact h.2.2.2.2.2
    simp only [smallN]
    split
    · refine ⟨by omega, by omega, fun h => by omega⟩
    · rename_i hn
      have := smallL_bd k (m - wE (.mk s nm a t k)) (by omega) hk
      refine ⟨by omega, by omega, fun h => by omega⟩
theorem smallL_bd : ∀ (l : List Elem) (m : Int), 0 ≤ m → okEs l → -(m + 1) * 562949953421312 ≤ smallL m l ∧ smallL m l ≤ m
  | [], m, hm, h => by simp only [smallL]; omega
  | e :: r, m, hm, h => by
    simp only [okEs] at h
    have hw := wE_bd h.1
    have h1 := smallN_bd e m hm h.1
    simp only [smallL]
    split
    · omega
    · rename_i hn
      have h2 := h1.2.2 (by omega)
      by_cases h3 : 0 ≤ smallN m e
      · have := smallL_bd r (smallN m e) h3 h.2
        omega
      · cases r with
        | nil => simp only [smallL]; omega
        | cons e' r' =>
          simp only [okEs] at h
          have hw' := wE_bd h.2.1
          rw [smallL_cons, if_pos (by omega)]
          omega
end
mutual
def cntE : Elem → Nat
  | .mk _ _ _ _ k => 1 + cntEs k
def cntEs : List Elem → Nat
  | [] => 0
  | e :: r => cntE e + cntEs r
end
theorem cntE_s (e : Elem) : cntE e = 1 + cntEs e.kids := by cases e; simp [cntE, Elem.kids]
theorem cntE_mem : ∀ {l : List Elem} {x : Elem}, x ∈ l → cntE x ≤ cntEs l
  | y :: r, x, h => by
    simp only [cntEs]
    rcases List.mem_cons.1 h with rfl | h
    · omega
    · have := cntE_mem h; omega
theorem cntE_kids {l : List Elem} {i : Nat} (h : i < l.length) : cntEs l[i].kids < cntEs l := by
  have := cntE_mem (List.getElem_mem h); rw [cntE_s] at this; omega

theorem small_spec : ∀ (k : Nat) (l : List Elem) (n : Int), cntEs l < k → okEs l → l.length ≤ 140737488355328 → 0 ≤ n → n ≤ 300 → pureW XX 9 [lE l, vI n] = some (vI (smallL n l)) := by
  intro k
  induction k with
  | zero => intro l n h; omega
  | succ k ih =>
    intro l n hc hok hl h0 h300
    refine pureW_in 41 Tryd.func9 Tryd.ntmps9 (by simp) (rfl : Tryd.f9.body = some _) fns_9 ?_
    simp (maxSteps := 200000) (disch := first | (simp only [go_sem, Nat.reduceAdd, Nat.reduceSub, Nat.reduceMul, Nat.reduceLeDiff, Nat.reduceEqDiff, Nat.reduceLT, Nat.reduceBEq, Nat.reduceBNe, Nat.reducePow, ↓reduceIte]; done) | omega | (simp only [go_sem, Nat.reduceAdd, Nat.reduceSub, Nat.reduceMul, Nat.reduceLeDiff, Nat.reduceEqDiff, Nat.reduceLT, Nat.reduceBEq, Nat.reduceBNe, Nat.reducePow, ↓reduceIte] <;> omega) | fail) only [go_sem, Nat.reduceAdd, Nat.reduceSub, Nat.reduceMul, Nat.reduceLeDiff, Nat.reduceEqDiff, Nat.reduceLT, Nat.reduceBEq, Nat.reduceBNe, Nat.reducePow, ↓reduceIte]
    refine WP_range 2 0 l.length (fun i => S_9_2 (vI ((l.take i).foldl smallN n)) (lE l) (vI l.length) (vI i) []) (fun i => smallL n l = smallL ((l.take i).foldl smallN n) (l.drop i) ∧ (l.take i).foldl smallN n ≤ 300 ∧ -(301 * 562949953421312) ≤ (l.take i).foldl smallN n) rfl rfl ?_ ?_ ?_ ?_
    · simp (maxSteps := 200000) (disch := first | (simp only [go_sem, Nat.reduceAdd, Nat.reduceSub, Nat.reduceMul, Nat.reduceLeDiff, Nat.reduceEqDiff, Nat.reduceLT, Nat.reduceBEq, Nat.reduceBNe, Nat.reducePow, ↓reduceIte]; done) | omega | (simp only [go_sem, Nat.reduceAdd, Nat.reduceSub, Nat.reduceMul, Nat.reduceLeDiff, Nat.reduceEqDiff, Nat.reduceLT, Nat.reduceBEq, Nat.reduceBNe, Nat.reducePow, ↓reduceIte] <;> omega) | fail) only [go_sem, Nat.reduceAdd, Nat.reduceSub, Nat.reduceMul, Nat.reduceLeDiff, Nat.reduceEqDiff, Nat.reduceLT, Nat.reduceBEq, Nat.reduceBNe, Nat.reducePow, ↓reduceIte]; rfl
    · simp; omega
    · rintro i h ⟨hI, hu, hd⟩
      have hke := okEs_mem hok (List.getElem_mem h)
      obtain ⟨k1, k2, k3, k4, k5, k6⟩ := okE_s hke
      have hw := wE_bd hke
      have ht : (l.take (i + 1)).foldl smallN n = smallN ((l.take i).foldl smallN n) l[i] := by
        rw [List.take_succ_eq_append_getElem h, List.foldl_append]; rfl
      generalize (l.take i).foldl smallN n = m at *
      rw [List.drop_eq_getElem_cons h, smallL_cons] at hI
      have e1 : IntKind.i64.wrap ((l[i].text.size : Int) + (l[i].space.size : Int)) = ((l[i].text.size + l[i].space.size : Nat) : Int) := by rw [IntWalk.i64_in _ (by omega)]; omega
      have e2 : IntKind.i64.wrap (((l[i].text.size + l[i].space.size : Nat) : Int) + (l[i].name.size : Int)) = ((l[i].text.size + l[i].space.size + l[i].name.size : Nat) : Int) := by rw [IntWalk.i64_in _ (by omega)]; omega
      have e3 : IntKind.i64.wrap (((l[i].text.size + l[i].space.size + l[i].name.size : Nat) : Int).tdiv 50) = (((l[i].text.size + l[i].space.size + l[i].name.size) / 50 : Nat) : Int) := by
        rw [Int.tdiv_eq_ediv_of_nonneg (by omega), IntWalk.i64_in _ (by omega)]; omega
      have e4 : IntKind.i64.wrap (1 + (((l[i].text.size + l[i].space.size + l[i].name.size) / 50 : Nat) : Int)) = ((1 + (l[i].text.size + l[i].space.size + l[i].name.size) / 50 : Nat) : Int) := by rw [IntWalk.i64_in _ (by omega)]; omega
      have e5 : IntKind.i64.wrap (((1 + (l[i].text.size + l[i].space.size + l[i].name.size) / 50 : Nat) : Int) + (l[i].attrs.length : Int)) = (wE l[i] : Int) := by rw [IntWalk.i64_in _ (by omega)]; unfold wE; omega
      have e6 : IntKind.i64.wrap (m - (wE l[i] : Int)) = m - (wE l[i] : Int) := IntWalk.i64_in _ (by omega)
      by_cases h3 : m - (wE l[i] : Int) < 0
      · rw [if_pos h3] at hI
        simp (maxSteps := 200000) (disch := first | (simp only [go_sem, Nat.reduceAdd, Nat.reduceSub, Nat.reduceMul, Nat.reduceLeDiff, Nat.reduceEqDiff, Nat.reduceLT, Nat.reduceBEq, Nat.reduceBNe, Nat.reducePow, ↓reduceIte]; done) | omega | (simp only [go_sem, Nat.reduceAdd, Nat.reduceSub, Nat.reduceMul, Nat.reduceLeDiff, Nat.reduceEqDiff, Nat.reduceLT, Nat.reduceBEq, Nat.reduceBNe, Nat.reducePow, ↓reduceIte] <;> omega) | fail) only [go_sem, Nat.reduceAdd, Nat.reduceSub, Nat.reduceMul, Nat.reduceLeDiff, Nat.reduceEqDiff, Nat.reduceLT, Nat.reduceBEq, Nat.reduceBNe, Nat.reducePow, ↓reduceIte, nat_int, h, eElem_s, e1, e2, e3, e4, e5, e6, h3, hI]
      · rw [if_neg h3] at hI
        have hs : smallL (m - wE l[i]) l[i].kids = smallN m l[i] := by rw [smallN_s, if_neg h3]
        have hk := ih l[i].kids (m - wE l[i]) (by have := cntE_kids h; omega) k6 k5 (by omega) (by omega)
        rw [hs] at hk
        have hb := smallN_bd l[i] m (by omega) hke
        simp (maxSteps := 200000) (disch := first | (simp only [go_sem, Nat.reduceAdd, Nat.reduceSub, Nat.reduceMul, Nat.reduceLeDiff, Nat.reduceEqDiff, Nat.reduceLT, Nat.reduceBEq, Nat.reduceBNe, Nat.reducePow, ↓reduceIte]; done) | omega | (simp only [go_sem, Nat.reduceAdd, Nat.reduceSub, Nat.reduceMul, Nat.reduceLeDiff, Nat.reduceEqDiff, Nat.reduceLT, Nat.reduceBEq, Nat.reduceBNe, Nat.reducePow, ↓reduceIte] <;> omega) | fail) only [go_sem, Nat.reduceAdd, Nat.reduceSub, Nat.reduceMul, Nat.reduceLeDiff, Nat.reduceEqDiff, Nat.reduceLT, Nat.reduceBEq, Nat.reduceBNe, Nat.reducePow, ↓reduceIte, nat_int, h, eElem_s, e1, e2, e3, e4, e5, e6, h3, callA_pure mode_9, hk, wrap_succ h hl, ht]
        rw [gcK_mkT (by simp only [go_sem, Nat.reduceAdd, Nat.reduceSub, Nat.reduceMul, Nat.reduceLeDiff, Nat.reduceEqDiff, Nat.reduceLT, Nat.reduceBEq, Nat.reduceBNe, Nat.reducePow, ↓reduceIte]) (by simp only [go_sem, Nat.reduceAdd, Nat.reduceSub, Nat.reduceMul, Nat.reduceLeDiff, Nat.reduceEqDiff, Nat.reduceLT, Nat.reduceBEq, Nat.reduceBNe, Nat.reducePow, ↓reduceIte])]
        exact ⟨rfl, hI, by omega, by omega⟩
    · rintro ⟨hI, _⟩
      rw [List.drop_length, List.take_length] at hI
      simp (maxSteps := 200000) (disch := first | (simp only [go_sem, Nat.reduceAdd, Nat.reduceSub, Nat.reduceMul, Nat.reduceLeDiff, Nat.reduceEqDiff, Nat.reduceLT, Nat.reduceBEq, Nat.reduceBNe, Nat.reducePow, ↓reduceIte]; done) | omega | (simp only [go_sem, Nat.reduceAdd, Nat.reduceSub, Nat.reduceMul, Nat.reduceLeDiff, Nat.reduceEqDiff, Nat.reduceLT, Nat.reduceBEq, Nat.reduceBNe, Nat.reducePow, ↓reduceIte] <;> omega) | fail) only [go_sem, Nat.reduceAdd, Nat.reduceSub, Nat.reduceMul, Nat.reduceLeDiff, Nat.reduceEqDiff, Nat.reduceLT, Nat.reduceBEq, Nat.reduceBNe, Nat.reducePow, ↓reduceIte, nat_int, List.take_length]
      rw [hI]; simp only [smallL]
end Go.Abs.SA
end

section
set_option linter.unusedVariables false
set_option linter.unusedSimpArgs false
set_option linter.unusedSectionVars false
set_option maxRecDepth 100000
set_option maxHeartbeats 4000000
set_option linter.unusedSimpArgs false
set_option linter.unusedVariables false
namespace Go.Abs.SA
open Go.Proofs

inductive Def where
  | mk (name : Str) (kind type : Int) (values : List Str) (must : Bool) (keys : List Str) (kids : List Def)
def Def.name : Def → Str | .mk n _ _ _ _ _ _ => n
def Def.kind : Def → Int | .mk _ k _ _ _ _ _ => k
def Def.type : Def → Int | .mk _ _ t _ _ _ _ => t
def Def.values : Def → List Str | .mk _ _ _ v _ _ _ => v
def Def.must : Def → Bool | .mk _ _ _ _ m _ _ => m
def Def.keys : Def → List Str | .mk _ _ _ _ _ k _ => k
def Def.kids : Def → List Def | .mk _ _ _ _ _ _ k => k
mutual
def eDef : Def → List AV
  | .mk n k t v m ks kd => [vS n, vI k, vI t, lS v, vB m, lS ks, .fs (eDefs kd) false]
def eDefs : List Def → List (List AV)
  | [] => []
  | e :: r => eDef e :: eDefs r
end
theorem eDefs_map : ∀ (l : List Def), eDefs l = l.map eDef
  | [] => rfl
  | n :: r => by simp [eDefs, eDefs_map r]
theorem eDef_s (e : Def) : eDef e = [vS e.name, vI e.kind, vI e.type, lS e.values, vB e.must, lS e.keys, .fs (e.kids.map eDef) false] := by
  cases e; simp [eDef, eDefs_map, Def.name, Def.kind, Def.type, Def.values, Def.must, Def.keys, Def.kids]
theorem eDef_len (e : Def) : (eDef e).length = 7 := by rw [eDef_s]; rfl
attribute [go_sem] eDef_len
instance : EL eDef 7 := ⟨eDef_len⟩
abbrev lD (l : List Def) : AV := .fs (l.map eDef) false

def leafD (n : Str) (t : Int) : Def := .mk n 3 t [] false [] []
def sName : Str := ⟨#[110, 97, 109, 101]⟩
def portD : Def := .mk ⟨#[112, 111, 114, 116]⟩ 2 0 [] false [sName] [leafD sName 0, leafD ⟨#[115, 112, 101, 101, 100]⟩ 1, leafD ⟨#[111, 110]⟩ 2]
def schema : List Def := [leafD ⟨#[104, 111, 115, 116]⟩ 0,
  .mk ⟨#[98, 111, 120]⟩ 1 0 [] false [] [leafD ⟨#[116, 105, 116, 108, 101]⟩ 0, .mk ⟨#[99, 111, 108, 111, 114]⟩ 3 3 [⟨#[114, 101, 100]⟩, ⟨#[103, 114, 101, 101, 110]⟩] false [] [], portD,
    .mk ⟨#[100, 101, 101, 112]⟩ 1 0 [] false [] [.mk ⟨#[105, 100]⟩ 3 1 [] true [] [], leafD ⟨#[110, 111, 116, 101]⟩ 0]],
  .mk ⟨#[112, 97, 105, 114]⟩ 2 0 [] false [⟨#[120]⟩, ⟨#[121]⟩] [leafD ⟨#[121]⟩ 0, leafD ⟨#[120]⟩ 1, leafD ⟨#[118]⟩ 0],
  .mk ⟨#[97, 114, 101, 97]⟩ 2 0 [] false [sName] [leafD sName 0, portD]]
theorem schema_spec : pureW XX 10 [] = some (lD schema) := by
  refine pureW_iff.2 ⟨60, ?_⟩
  rw [show lD schema = .fs (eDefs schema) false by rw [eDefs_map]]
  kernel_rfl
end Go.Abs.SA
end

section
set_option linter.unusedVariables false
set_option linter.unusedSimpArgs false
set_option linter.unusedSectionVars false
set_option maxRecDepth 100000
set_option maxHeartbeats 4000000
set_option linter.unusedSimpArgs false
set_option linter.unusedVariables false
namespace Go.Abs.SA
open Go.Proofs

/-- The place of a definition. -/
def place (l : List Def) (name : Str) : Option Nat := l.findIdx? fun d => decide (d.name = name)

end Go.Abs.SA
end

section
set_option linter.unusedVariables false
set_option linter.unusedSimpArgs false
set_option linter.unusedSectionVars false
set_option maxRecDepth 100000
set_option maxHeartbeats 4000000
set_option linter.unusedSimpArgs false
set_option linter.unusedVariables false
namespace Go.Abs.SA
open Go.Proofs

/-- Lists of texts against each other. -/
def cmpS : List Str → List Str → Int
  | [], b => -(b.length : Int)
  | a :: r, [] => (r.length : Int) + 1
  | a :: r, b :: q => if sless a b then -1 else if !(sless a b || decide (a = b)) then 1 else cmpS r q
theorem cmpS_end (a b : List Str) (h : a = [] ∨ b = []) : cmpS a b = (a.length : Int) - b.length := by
  cases a with
  | nil => simp [cmpS]
  | cons x r => cases b with
    | nil => simp [cmpS]
    | cons y q => simp at h
end Go.Abs.SA
end

section
set_option linter.unusedVariables false
set_option linter.unusedSimpArgs false
set_option linter.unusedSectionVars false
set_option maxRecDepth 100000
set_option maxHeartbeats 4000000
set_option linter.unusedSimpArgs false
set_option linter.unusedVariables false
namespace Go.Abs.SA
open Go.Proofs

/-- The value of the first leaf of that name. -/
def leafV (l : List Node) (k : Str) : Option Str := (l.find? fun x => decide (x.name = k)).map Node.value
theorem leafV_cons (x : Node) (r : List Node) (k : Str) : leafV (x :: r) k = if x.name = k then some x.value else leafV r k := by
  simp only [leafV, List.find?_cons]
  by_cases h : x.name = k <;> simp [h]
theorem leafV_nil (k : Str) : leafV [] k = none := rfl
/-- The keys of an entry. -/
def keyOf (d : Def) (n : Node) : Option (List Str) := if (d.keys.all fun k => (leafV n.kids k).isSome) = true then some (d.keys.filterMap (leafV n.kids)) else none
abbrev aDef (d : Def) : AV := .agg [vS d.name, vI d.kind, vI d.type, lS d.values, vB d.must, lS d.keys, lD d.kids]
abbrev aNode (n : Node) : AV := .agg [vS n.name, vS n.value, lN n.kids]
abbrev kO (o : Option (List Str)) : AV := .tup [lS (o.getD []), vB o.isSome]

end Go.Abs.SA
end

section
set_option linter.unusedVariables false
set_option linter.unusedSimpArgs false
set_option linter.unusedSectionVars false
set_option maxRecDepth 100000
set_option maxHeartbeats 4000000
set_option linter.unusedSimpArgs false
set_option linter.unusedVariables false
namespace Go.Abs.SA
open Go.Proofs

/-- The keys, none where there are none. -/
def keyD (d : Def) (n : Node) : List Str := (keyOf d n).getD []
/-- Is a node the same one as another? -/
def sameN (d : Def) (n x : Node) : Bool := decide (x.name = n.name) && decide (cmpS (keyD d x) (keyD d n) = 0)
def sameAt (d : Def) (l : List Node) (n : Node) : Option Nat := l.findIdx? (sameN d n)
theorem keyD_fold (d : Def) (n : Node) : (keyOf d n).getD [] = keyD d n := nr rfl
theorem keyD_len (d : Def) (n : Node) : (keyD d n).length ≤ d.keys.length := by
  unfold keyD keyOf
  split
  · exact List.length_filterMap_le _ _
  · simp
end Go.Abs.SA
end

section
set_option linter.unusedVariables false
set_option linter.unusedSimpArgs false
set_option linter.unusedSectionVars false
set_option maxRecDepth 100000
set_option maxHeartbeats 4000000
set_option linter.unusedSimpArgs false
set_option linter.unusedVariables false
namespace Go.Abs.SA
open Go.Proofs

abbrev tx0 : Str := ⟨#[]⟩
/-- All bytes between two. -/
def allB (lo hi : Int) (s : Str) : Prop := ∀ i < s.size, lo ≤ byteAt s i ∧ byteAt s i ≤ hi
instance (lo hi : Int) (s : Str) : Decidable (allB lo hi s) := by unfold allB; infer_instance
def sign (s : Str) : Str := if 0 < s.size ∧ byteAt s 0 = 45 then s.extract 1 s.size else s
def numT (s : Str) : Bool := let t := sign s
  decide (1 ≤ t.size) && decide (t.size ≤ 18) && !(decide (byteAt t 0 = 48) && decide (s ≠ ⟨#[48]⟩)) && decide (allB 48 57 t)
def valueM (d : Def) (s : Str) : Bool :=
  decide (s.size ≤ 128) && decide (allB 32 126 s) &&
    (if d.type = 1 then numT s else if d.type = 2 then decide (s = ⟨#[116, 114, 117, 101]⟩) || decide (s = ⟨#[102, 97, 108, 115, 101]⟩) else if d.type = 3 then has d.values s else true)

end Go.Abs.SA
end

section
set_option linter.unusedVariables false
set_option linter.unusedSimpArgs false
set_option linter.unusedSectionVars false
set_option maxRecDepth 100000
set_option maxHeartbeats 4000000
set_option linter.unusedSimpArgs false
set_option linter.unusedVariables false
namespace Go.Abs.SA
open Go.Proofs

mutual
/-- Sizes of schemas that may be. -/
def okD : Def → Prop
  | .mk _ _ _ v _ ks kd => v.length ≤ 1099511627776 ∧ ks.length ≤ 1099511627776 ∧ kd.length ≤ 1099511627776 ∧ okDs kd
def okDs : List Def → Prop
  | [] => True
  | d :: r => okD d ∧ okDs r
end
theorem okD_s {d : Def} (h : okD d) : d.values.length ≤ 1099511627776 ∧ d.keys.length ≤ 1099511627776 ∧ d.kids.length ≤ 1099511627776 ∧ okDs d.kids := by
  cases d; simpa [okD, Def.values, Def.keys, Def.kids] using h
theorem okDs_mem : ∀ {l : List Def} {d : Def}, okDs l → d ∈ l → okD d
  | x :: r, d, h, hm => by
    simp only [okDs] at h
    rcases List.mem_cons.1 hm with rfl | hm
    · exact h.1
    · exact okDs_mem h.2 hm
theorem place_some {l : List Def} {n : Str} {i : Nat} (h : place l n = some i) : ∃ hi : i < l.length, l[i].name = n := by
  unfold place at h
  rw [List.findIdx?_eq_some_iff_getElem] at h
  obtain ⟨hi, h1, _⟩ := h
  exact ⟨hi, by simpa using h1⟩
/-- Does a node stand ahead of another one? -/
def before (l : List Def) (a b : Node) : Bool :=
  match place l a.name, place l b.name with
  | some i, some j => if i = j then (match l[i]? with
    | some d => decide (cmpS (keyD d a) (keyD d b) < 0)
    | none => false) else decide (i < j)
  | x, y => decide (posI x < posI y)

end Go.Abs.SA
end

section
set_option linter.unusedVariables false
set_option linter.unusedSimpArgs false
set_option linter.unusedSectionVars false
set_option maxRecDepth 100000
set_option maxHeartbeats 4000000
set_option linter.unusedSimpArgs false
set_option linter.unusedVariables false
namespace Go.Abs.SA
open Go.Proofs

/-- The place where a node goes. -/
def insPos (l : List Def) (n : Node) (out : List Node) : Nat → Nat
  | 0 => 0
  | k + 1 => match out[k]? with
    | some x => if before l n x then insPos l n out k else k + 1
    | none => k + 1
def ins (l : List Def) (out : List Node) (n : Node) : List Node := out.take (insPos l n out out.length) ++ n :: out.drop (insPos l n out out.length)
/-- Nodes in order. -/
def order (l : List Def) (nodes : List Node) : List Node := nodes.foldl (ins l) []
theorem insPos_le (l : List Def) (n : Node) (out : List Node) : ∀ k, insPos l n out k ≤ k
  | 0 => by simp [insPos]
  | k + 1 => by
    have := insPos_le l n out k
    unfold insPos
    split
    · split <;> omega
    · omega
theorem ins_len (l : List Def) (out : List Node) (n : Node) : (ins l out n).length = out.length + 1 := by
  have := insPos_le l n out out.length
  simp [ins]; omega
theorem ins_mem {l : List Def} {out : List Node} {n x : Node} : x ∈ ins l out n ↔ x = n ∨ x ∈ out := by
  unfold ins
  constructor
  · intro h
    rcases List.mem_append.1 h with h | h
    · exact .inr (List.mem_of_mem_take h)
    · rcases List.mem_cons.1 h with h | h
      · exact .inl h
      · exact .inr (List.mem_of_mem_drop h)
  · rintro (rfl | h)
    · simp
    · rw [← List.take_append_drop (insPos l n out out.length) out] at h
      rcases List.mem_append.1 h with h | h
      · simp [h]
      · simp [h]
theorem foldl_ins_len (l : List Def) : ∀ (ns out : List Node), (ns.foldl (ins l) out).length = out.length + ns.length
  | [], out => by simp
  | n :: r, out => by simp [foldl_ins_len l r, ins_len]; omega
theorem foldl_ins_mem (l : List Def) {x : Node} : ∀ (ns out : List Node), x ∈ ns.foldl (ins l) out ↔ x ∈ ns ∨ x ∈ out
  | [], out => by simp
  | n :: r, out => by
    rw [List.foldl_cons, foldl_ins_mem l r, ins_mem, List.mem_cons]
    constructor
    · rintro (h | h | h) <;> simp [h]
    · rintro ((h | h) | h) <;> simp [h]
theorem order_len (l : List Def) (nodes : List Node) : (order l nodes).length = nodes.length := by simp [order, foldl_ins_len]
theorem order_mem (l : List Def) (nodes : List Node) {x : Node} : x ∈ order l nodes ↔ x ∈ nodes := by simp [order, foldl_ins_mem]

theorem node_mk (n : Node) : Node.mk n.name n.value n.kids = n := by cases n; rfl
end Go.Abs.SA
end

section
set_option linter.unusedVariables false
set_option linter.unusedSimpArgs false
set_option linter.unusedSectionVars false
set_option maxRecDepth 100000
set_option maxHeartbeats 4000000
set_option linter.unusedSimpArgs false
set_option linter.unusedVariables false
namespace Go.Abs.SA
open Go.Proofs

mutual
/-- One element, by a schema: its definition and its node, or an error. -/
def rdE (l : List Def) : Elem → Except Int (Def × Node)
  | .mk _ n _ t k => match place l n with
    | none => .error 11
    | some i => match l[i]? with
      | none => .error 11
      | some d =>
        if d.kind = 3 then (if k ≠ [] ∨ valueM d t = false then .error 12 else .ok (d, .mk n t []))
        else if t ≠ ⟨#[]⟩ then .error 12 else match rdL d.kids [] [] k with
          | .error e => .error e
          | .ok nodes => if (keyOf d (.mk n ⟨#[]⟩ nodes)).isSome then .ok (d, .mk n ⟨#[]⟩ nodes) else .error 13
/-- Elements, by a schema; what was read before them. -/
def rdL (l : List Def) (out all : List Node) : List Elem → Except Int (List Node)
  | [] => if 256 < out.length then .error 2 else .ok (order l out)
  | e :: r => match rdE l e with
    | .error x => .error x
    | .ok (d, n) => if (sameAt d all n).isSome then .error 15 else rdL l (if d.kind ≠ 1 ∨ n.kids ≠ [] then out ++ [n] else out) (all ++ [n]) r
end
theorem rdE_s (l : List Def) (e : Elem) : rdE l e = match place l e.name with
    | none => .error 11
    | some i => match l[i]? with
      | none => .error 11
      | some d =>
        if d.kind = 3 then (if e.kids ≠ [] ∨ valueM d e.text = false then .error 12 else .ok (d, .mk e.name e.text []))
        else if e.text ≠ ⟨#[]⟩ then .error 12 else match rdL d.kids [] [] e.kids with
          | .error e => .error e
          | .ok nodes => if (keyOf d (.mk e.name ⟨#[]⟩ nodes)).isSome then .ok (d, .mk e.name ⟨#[]⟩ nodes) else .error 13 := by
  cases e; rw [rdE]; rfl
theorem rdL_nil (l : List Def) (out all : List Node) : rdL l out all [] = if 256 < out.length then .error 2 else .ok (order l out) := by rw [rdL]
theorem rdL_cons (l : List Def) (out all : List Node) (e : Elem) (r : List Elem) : rdL l out all (e :: r) = match rdE l e with
    | .error x => .error x
    | .ok (d, n) => if (sameAt d all n).isSome then .error 15 else rdL l (if d.kind ≠ 1 ∨ n.kids ≠ [] then out ++ [n] else out) (all ++ [n]) r := by rw [rdL]
mutual
theorem rdE_err (l : List Def) : ∀ (e : Elem) (x : Int), rdE l e = .error x → x ≠ 0
  | .mk s n a t k, x, h => by
    rw [rdE] at h
    split at h
    · cases h; decide
    · split at h
      · cases h; decide
      · split at h
        · split at h
          · cases h; decide
          · cases h
        · split at h
          · cases h; decide
          · split at h
            · rename_i d _ _ _ e he
              cases h
              exact rdL_err _ _ _ k _ he
            · split at h
              · cases h
              · cases h; decide
theorem rdL_err (l : List Def) (out all : List Node) : ∀ (es : List Elem) (x : Int), rdL l out all es = .error x → x ≠ 0
  | [], x, h => by
    rw [rdL] at h
    split at h
    · cases h; decide
    · cases h
  | e :: r, x, h => by
    rw [rdL] at h
    split at h
    · rename_i y hy
      cases h
      exact rdE_err l e _ hy
    · split at h
      · cases h; decide
      · exact rdL_err l _ _ r x h
end
theorem rdL_len (l : List Def) : ∀ (es : List Elem) (out all nodes : List Node), rdL l out all es = .ok nodes → nodes.length ≤ out.length + es.length
  | [], out, all, nodes, h => by
    rw [rdL_nil] at h
    split at h
    · cases h
    · cases h; simp [order_len]
  | e :: r, out, all, nodes, h => by
    rw [rdL_cons] at h
    split at h
    · cases h
    · split at h
      · cases h
      · have := rdL_len l r _ _ _ h
        simp only [List.length_cons]
        split at this
        · simp at this; omega
        · omega
end Go.Abs.SA
end

section
set_option linter.unusedVariables false
set_option linter.unusedSimpArgs false
set_option linter.unusedSectionVars false
set_option maxRecDepth 100000
set_option maxHeartbeats 8000000
set_option linter.unusedSimpArgs false
set_option linter.unusedVariables false
namespace Go.Abs.SA
open Go.Proofs

theorem len_cntEs : ∀ (l : List Elem), l.length ≤ cntEs l
  | [] => by simp [cntEs]
  | e :: r => by have := len_cntEs r; simp only [cntEs, List.length_cons]; rw [cntE_s]; omega
/-- What Read answers. -/
def aRead : Except Int (List Node) → AV
  | .error x => .tup [lN [], vI x]
  | .ok l => .tup [lN l, vI 0]
end Go.Abs.SA
end

section
set_option linter.unusedVariables false
set_option linter.unusedSimpArgs false
set_option linter.unusedSectionVars false
set_option maxRecDepth 100000
set_option maxHeartbeats 4000000
set_option linter.unusedSimpArgs false
set_option linter.unusedVariables false
namespace Go.Abs.SA
open Go.Proofs

mutual
theorem smallN_cnt : ∀ (e : Elem) (n : Int), 0 ≤ smallN n e → cntE e + smallN n e ≤ n
  | .mk s nm a t k, n, h => by
    have hw : 1 ≤ wE (.mk s nm a t k) := by unfold wE; omega
    rw [smallN] at h ⊢
    rw [cntE]
    split at h
    · omega
    · rename_i hn
      rw [if_neg hn]
      have := smallL_cnt k _ h
      omega
theorem smallL_cnt : ∀ (l : List Elem) (n : Int), 0 ≤ smallL n l → cntEs l + smallL n l ≤ n
  | [], n, h => by simp [cntEs, smallL]
  | e :: r, n, h => by
    rw [smallL] at h ⊢
    rw [cntEs]
    split at h
    · omega
    · rename_i hn
      rw [if_neg hn]
      have h1 := smallL_cnt r _ h
      have h2 := smallN_cnt e n (by omega)
      omega
end
/-- Trees of elements: false: they are none, or too many. -/
def tree (l : List Elem) : Option (List Node) := if smallL 300 l < 0 then none else match rdL schema [] [] l with
  | .error _ => none
  | .ok n => some n
theorem okDs_schema : okDs schema := by simp [okDs, okD, schema, leafD, portD]
/-- What tree answers: nodes, and whether they are a tree; the nodes of a tree that is none don't matter. -/
def aTree (l : List Elem) : AV := .tup [lN ((tree l).getD []), vB (tree l).isSome]
end Go.Abs.SA
end

section
set_option linter.unusedVariables false
set_option linter.unusedSimpArgs false
set_option linter.unusedSectionVars false
set_option maxRecDepth 100000
set_option maxHeartbeats 4000000
set_option linter.unusedSimpArgs false
set_option linter.unusedVariables false
namespace Go.Abs.SA
open Go.Proofs

theorem bit_nat (a r : Int) (h0 : 0 ≤ r) (h1 : r < 4611686018427387904) : 0 ≤ bitI .and .i64 a r := by
  have e : bitI .and .i64 a r = IntKind.i64.wrap ((BitVec.ofInt 64 a &&& BitVec.ofInt 64 r).toNat : Int) := rfl
  have hb : (BitVec.ofInt 64 a &&& BitVec.ofInt 64 r).toNat ≤ (BitVec.ofInt 64 r).toNat := by
    rw [BitVec.toNat_and]; exact Nat.and_le_right
  have hr : (BitVec.ofInt 64 r).toNat = r.toNat := by
    rw [BitVec.toNat_ofInt]; congr 1; exact Int.emod_eq_of_lt h0 (by omega)
  rw [e, IntWalk.i64_in _ (by omega)]
  omega
theorem may_eq (p : Policy) (groups : List Str) (right : Int) (path : List Str) (h0 : 0 ≤ right) (h1 : right < 4611686018427387904) : may p groups right path = refMay p groups right path := by
  have : Rule.says groups right path = Rule.tells groups right path := by
    funext r
    have := bit_nat r.rights right h0 h1
    unfold Rule.says Rule.tells
    have e : decide (bitI .and .i64 r.rights right ≠ 0) = decide (bitI .and .i64 r.rights right > 0) := by
      apply decide_eq_decide.2; omega
    rw [e]
    congr 1
    exact Bool.and_comm _ _
  unfold may refMay
  rw [this] <;> cases List.find? (Rule.tells groups right path) p.rules <;> rfl
theorem cntL_app : ∀ (a b : List Node), cntL (a ++ b) = cntL a + cntL b
  | [], b => by simp [cntL]
  | x :: r, b => by rw [List.cons_append, cntL_cons, cntL_cons, cntL_app r b]; omega
theorem cnt_ins (l : List Def) (out : List Node) (n : Node) : cntL (ins l out n) = cntL out + cntN n := by
  have h := cntL_app (out.take (insPos l n out out.length)) (out.drop (insPos l n out out.length))
  rw [List.take_append_drop] at h
  rw [ins, cntL_app, cntL_cons]; omega
theorem cnt_foldl (l : List Def) : ∀ (ns out : List Node), cntL (ns.foldl (ins l) out) = cntL out + cntL ns
  | [], out => by simp [cntL]
  | n :: r, out => by rw [List.foldl_cons, cnt_foldl l r, cnt_ins, cntL_cons]; omega
theorem cnt_order (l : List Def) (ns : List Node) : cntL (order l ns) = cntL ns := by rw [order, cnt_foldl]; simp [cntL]
mutual
theorem rdE_cnt (l : List Def) : ∀ (e : Elem) (d : Def) (n : Node), rdE l e = .ok (d, n) → cntN n ≤ cntE e
  | .mk s nm a t k, d, n, h => by
    rw [rdE] at h
    split at h
    · cases h
    · split at h
      · cases h
      · split at h
        · split at h
          · cases h
          · cases h; simp [cntN, cntL, cntE]
        · split at h
          · cases h
          · split at h
            · cases h
            · rename_i d' _ _ _ nodes hn
              split at h
              · cases h
                have := rdL_cnt _ k _ _ _ hn
                rw [cntN, cntE]; simp only [cntL] at this; omega
              · cases h
theorem rdL_cnt (l : List Def) : ∀ (es : List Elem) (out all nodes : List Node), rdL l out all es = .ok nodes → cntL nodes ≤ cntL out + cntEs es
  | [], out, all, nodes, h => by
    rw [rdL] at h
    split at h
    · cases h
    · cases h; rw [cnt_order]; omega
  | e :: r, out, all, nodes, h => by
    rw [rdL] at h
    split at h
    · cases h
    · rename_i d n hn
      split at h
      · cases h
      · have h1 := rdL_cnt l r _ _ _ h
        have h2 := rdE_cnt l e d n hn
        rw [cntEs]
        split at h1
        · rw [cntL_app, cntL_cons] at h1; simp only [cntL] at h1; omega
        · omega
end
theorem tree_some {l : List Elem} {n : List Node} (h : tree l = some n) : rdL schema [] [] l = .ok n ∧ cntEs l ≤ 300 ∧ cntL n ≤ 300 := by
  unfold tree at h
  split at h
  · cases h
  · rename_i hs
    have hc := smallL_cnt l 300 (by omega)
    split at h
    · cases h
    · rename_i m hm
      cases h
      have := rdL_cnt _ _ _ _ _ hm
      simp only [cntL] at this
      exact ⟨hm, by omega, by omega⟩
mutual
theorem pruneN_cnt (ok : List Str → Bool) : ∀ (n : Node) (path : List Str), cntL (pruneN ok path n) ≤ cntN n
  | .mk nm v k, path => by
    rw [pruneN]
    split
    · rw [cntL_cons, cntN, cntN]
      have := pruneL_cnt ok k (path ++ [nm])
      simp only [cntL]; omega
    · simp [cntL]
theorem pruneL_cnt (ok : List Str → Bool) : ∀ (l : List Node) (path : List Str), cntL (pruneL ok path l) ≤ cntL l
  | [], path => by simp [pruneL, cntL]
  | x :: r, path => by
    have h1 := pruneN_cnt ok x path
    have h2 := pruneL_cnt ok r path
    rw [pruneL, cntL_app, cntL_cons]; omega
end
def sBox : Str := ⟨#[98, 111, 120]⟩
end Go.Abs.SA
end

section
set_option linter.unusedVariables false
set_option linter.unusedSimpArgs false
set_option linter.unusedSectionVars false
set_option maxRecDepth 100000
set_option maxHeartbeats 4000000
set_option linter.unusedSimpArgs false
set_option linter.unusedVariables false
namespace Go.Abs.SA
open Go.Proofs

theorem XX_ok : XX.ok = true := by kernel_rfl
theorem reach_s : reachBytes = 140737488351232 := rfl
theorem o_str (k : Nat) : Opens Tryd.prog k 9 eS (fun s => s.size ≤ 140737488355328) :=
  (Opens.string k Tryd.underlying9).map id (fun _ => rfl) (fun s h => by rw [reach_s] at h; simp only [id]; omega)
theorem o_int (k : Nat) : Opens Tryd.prog k 3 (fun n : Int => [vI n]) (fun n => (Lit.int .i64 n).wf = true) := Opens.int k Tryd.underlying3
theorem o_bool (k : Nat) : Opens Tryd.prog k 4 (fun n : Bool => [vB n]) (fun n => True) := Opens.bool k Tryd.underlying4
/-- Lists of texts. -/
def okS (l : List Str) : Prop := l.length ≤ 140737488355328 ∧ ∀ s ∈ l, s.size ≤ 140737488355328
theorem by_9 : Tryd.prog.bytesOf 9 = 16 := by kernel_rfl
theorem by_54 : Tryd.prog.bytesOf 54 = 96 := by kernel_rfl
theorem by_57 : Tryd.prog.bytesOf 57 = 32 := by kernel_rfl
theorem ce_9 : Tryd.prog.cellsOf 9 = 1 := by kernel_rfl
theorem ce_3 : Tryd.prog.cellsOf 3 = 1 := by kernel_rfl
theorem ce_4 : Tryd.prog.cellsOf 4 = 1 := by kernel_rfl
theorem ce_43 : Tryd.prog.cellsOf 43 = 1 := by kernel_rfl
theorem ce_22 : Tryd.prog.cellsOf 22 = 1 := by kernel_rfl
theorem ce_52 : Tryd.prog.cellsOf 52 = 1 := by kernel_rfl
theorem ce_54 : Tryd.prog.cellsOf 54 = 5 := by kernel_rfl
theorem ce_57 : Tryd.prog.cellsOf 57 = 2 := by kernel_rfl
theorem o_strs (k : Nat) : Opens Tryd.prog k 43 (fun l : List Str => [lS l]) okS :=
  (Opens.slice' (fun j _ => o_str j) Tryd.underlying43 (fun _ => ce_9.symm)).map id (fun _ => rfl) (fun l h => ⟨by
    have := h.1; rw [by_9, reach_s] at this; simp only [id]; omega, h.2⟩)
theorem o_struct {P : Program} {α β : Type} {t n : Nat} {fs : Array Field} {enc : α → List AV} {ok : α → Prop} {enc' : β → List AV} {ok' : β → Prop} (h : ∀ k, OpensF P k 0 fs.toList n enc ok) (ht : P.underlying t = some (.struct fs)) (hn : P.cellsOf t = n)
    (g : α → β) (hg : ∀ x, enc' (g x) = enc x) (ho : ∀ x, ok x → ok' (g x)) : ∀ k, Opens P k t enc' ok'
  | 0 => Opens.zero _ _ _
  | k + 1 => (Opens.struct (h k) ht hn).map g hg ho
def ePolicy (p : Policy) : List AV := [.fs (p.rules.map eRule) false, vB p.read, vB p.write]
theorem o_attr : ∀ k, Opens Tryd.prog k 57 eAttr (fun _ => True) :=
  o_struct (fun k => OpensF.cons (m := 1) (o_str k) (OpensF.cons (m := 1) (o_str k) (OpensF.nil k 2) rfl ce_9) rfl ce_9) Tryd.underlying57 ce_57
    (fun x => (x.1, x.2.1)) (fun x => rfl) (fun x h => trivial)
theorem o_attrs (k : Nat) : Opens Tryd.prog k 52 (fun l : List (Str × Str) => [.fs (l.map eAttr) false]) (fun l => l.length ≤ 140737488355328) :=
  (Opens.slice' (fun j _ => o_attr j) Tryd.underlying52 (fun x => by rw [ce_57]; rfl)).map id (fun _ => rfl) (fun l h => by
    have := h.1; rw [by_57, reach_s] at this; simp only [id]; omega)
theorem okEs_all : ∀ {l : List Elem}, (∀ e ∈ l, okE e) → okEs l
  | [], _ => by simp [okEs]
  | e :: r, h => by simp only [okEs]; exact ⟨h e (by simp), okEs_all fun x hx => h x (by simp [hx])⟩
theorem o_elems_of {k : Nat} (h : ∀ j, j + 1 ≤ k → Opens Tryd.prog j 54 eElem okE) : Opens Tryd.prog k 22 (fun l : List Elem => [lE l]) (fun l => l.length ≤ 140737488355328 ∧ okEs l) :=
  (Opens.slice' h Tryd.underlying22 (fun x => by rw [ce_54]; exact eElem_len x)).map id (fun _ => rfl) (fun l h => ⟨by
    have := h.1; rw [by_54, reach_s] at this; simp only [id]; omega, okEs_all h.2⟩)
theorem o_elem : ∀ k, Opens Tryd.prog k 54 eElem okE :=
  Opens.rec fun k ih =>
    (Opens.struct (OpensF.cons (m := 1) (o_str k) (OpensF.cons (m := 1) (o_str k) (OpensF.cons (m := 1) (o_attrs k) (OpensF.cons (m := 1) (o_str k) (OpensF.cons (m := 1) (o_elems_of fun j hj => ih j (by omega)) (OpensF.nil k 5) rfl ce_22) rfl ce_9) rfl ce_52) rfl ce_9) rfl ce_9) Tryd.underlying54 ce_54).map
      (fun x => .mk x.1 x.2.1 x.2.2.1 x.2.2.2.1 x.2.2.2.2.1) (fun x => by simp [eElem, eElems_map, eS]) (fun x h => by
        obtain ⟨h1, h2, h3, h4, ⟨h5, h6⟩, -⟩ := h
        exact ⟨h1, h2, h3, h4, h5, h6⟩)
theorem o_elems (k : Nat) : Opens Tryd.prog k 22 (fun l : List Elem => [lE l]) (fun l => l.length ≤ 140737488355328 ∧ okEs l) := o_elems_of fun j _ => o_elem j
end Go.Abs.SA
end

section
set_option linter.unusedVariables false
set_option linter.unusedSimpArgs false
set_option linter.unusedSectionVars false
set_option maxRecDepth 100000
set_option maxHeartbeats 4000000
set_option linter.unusedSimpArgs false
set_option linter.unusedVariables false
namespace Go.Abs.SA
open Go.Proofs

theorem appF_none1 {e n c k : Nat} {x : List AV} {es : List (List AV)} : appF e n c k (x :: es) (some []) = some (.val (.fs (x :: es) true)) := appF_none (by simp)
theorem bne_f' (b : Bool) : (b != false) = b := by cases b <;> rfl
theorem bne_t' (b : Bool) : (b != true) = !b := by cases b <;> rfl
theorem beq_self' (b : Bool) : (b == b) = true := by cases b <;> rfl
attribute [go_sem] bne_f' bne_t' beq_self' appF_none1
abbrev sG : Str := ⟨#[103]⟩
abbrev sH : Str := ⟨#[104]⟩
abbrev sMore : Str := ⟨#[109, 111, 114, 101]⟩
abbrev sNobody : Str := ⟨#[110, 111, 98, 111, 100, 121]⟩
theorem bit15 {r : Int} (h : r = 1 ∨ r = 2 ∨ r = 4 ∨ r = 8) : bitI .and .i64 15 r ≠ 0 ∧ bitI .and .i64 (bitI .andNot .i64 15 r) r = 0 ∧ bitI .and .i64 0 r = 0 := by
  rcases h with rfl | rfl | rfl | rfl <;> decide +kernel
theorem may_first (p : Policy) (gs : List Str) (r : Int) (path : List Str) (x : Rule) (h : Rule.says gs r path x = true) : may ⟨x :: p.rules, p.read, p.write⟩ gs r path = x.permit := by
  simp [may, List.find?_cons, h]
theorem may_skip (p : Policy) (gs : List Str) (r : Int) (path : List Str) (x y : Rule) (h : Rule.says gs r path x = false) (k : Rule.says gs r path y = false) : may ⟨x :: y :: p.rules, p.read, p.write⟩ gs r path = may p gs r path := by
  simp [may, List.find?_cons, h, k]
end Go.Abs.SA
end

section
set_option linter.unusedVariables false
set_option linter.unusedSimpArgs false
set_option linter.unusedSectionVars false
set_option maxRecDepth 100000
set_option maxHeartbeats 8000000
set_option linter.unusedSimpArgs false
set_option linter.unusedVariables false
namespace Go.Abs.SA
open Go.Proofs

abbrev aRule (x : Rule) : AV := .agg [vS x.group, vI x.rights, lS x.path, vB x.permit]
end Go.Abs.SA
end

section
set_option linter.unusedVariables false
set_option linter.unusedSimpArgs false
set_option linter.unusedSectionVars false
set_option maxRecDepth 100000
set_option maxHeartbeats 4000000
set_option linter.unusedSimpArgs false
set_option linter.unusedVariables false
namespace Go.Abs.SA
open Go.Proofs

theorem nodeEq_spec (x y : Node) (ih : pureW XX 15 [lN x.kids, lN y.kids] = some (vB (decide (x.kids = y.kids)))) : pureW XX 28 [aNode x, aNode y] = some (vB (decide (x = y))) := by
  refine pureW_in 24 Tryd.func28 Tryd.ntmps28 (by simp) (rfl : Tryd.f28.body = some _) fns_28 ?_
  rw [show decide (x = y) = decide (x.name = y.name ∧ x.value = y.value ∧ x.kids = y.kids) from decide_eq_decide.2 (by rw [node_eq])]
  by_cases h1 : x.name = y.name
  · have h1' := eq_true h1
    by_cases h2 : x.value = y.value
    · have h2' := eq_true h2
      by_cases h3 : x.kids = y.kids
      · have h3' := eq_true h3
        rw [decide_eq_true h3] at ih
        simp (maxSteps := 200000) (disch := first | (simp only [go_sem, Nat.reduceAdd, Nat.reduceSub, Nat.reduceMul, Nat.reduceLeDiff, Nat.reduceEqDiff, Nat.reduceLT, Nat.reduceBEq, Nat.reduceBNe, Nat.reducePow, ↓reduceIte]; done) | omega | (simp only [go_sem, Nat.reduceAdd, Nat.reduceSub, Nat.reduceMul, Nat.reduceLeDiff, Nat.reduceEqDiff, Nat.reduceLT, Nat.reduceBEq, Nat.reduceBNe, Nat.reducePow, ↓reduceIte] <;> omega) | fail) only [go_sem, Nat.reduceAdd, Nat.reduceSub, Nat.reduceMul, Nat.reduceLeDiff, Nat.reduceEqDiff, Nat.reduceLT, Nat.reduceBEq, Nat.reduceBNe, Nat.reducePow, ↓reduceIte, h1', h2', h3', callA_pure mode_15, ih]
      · rw [decide_eq_false h3] at ih
        simp (maxSteps := 200000) (disch := first | (simp only [go_sem, Nat.reduceAdd, Nat.reduceSub, Nat.reduceMul, Nat.reduceLeDiff, Nat.reduceEqDiff, Nat.reduceLT, Nat.reduceBEq, Nat.reduceBNe, Nat.reducePow, ↓reduceIte]; done) | omega | (simp only [go_sem, Nat.reduceAdd, Nat.reduceSub, Nat.reduceMul, Nat.reduceLeDiff, Nat.reduceEqDiff, Nat.reduceLT, Nat.reduceBEq, Nat.reduceBNe, Nat.reducePow, ↓reduceIte] <;> omega) | fail) only [go_sem, Nat.reduceAdd, Nat.reduceSub, Nat.reduceMul, Nat.reduceLeDiff, Nat.reduceEqDiff, Nat.reduceLT, Nat.reduceBEq, Nat.reduceBNe, Nat.reducePow, ↓reduceIte, h1', h2', h3, callA_pure mode_15, ih]
    · simp (maxSteps := 200000) (disch := first | (simp only [go_sem, Nat.reduceAdd, Nat.reduceSub, Nat.reduceMul, Nat.reduceLeDiff, Nat.reduceEqDiff, Nat.reduceLT, Nat.reduceBEq, Nat.reduceBNe, Nat.reducePow, ↓reduceIte]; done) | omega | (simp only [go_sem, Nat.reduceAdd, Nat.reduceSub, Nat.reduceMul, Nat.reduceLeDiff, Nat.reduceEqDiff, Nat.reduceLT, Nat.reduceBEq, Nat.reduceBNe, Nat.reducePow, ↓reduceIte] <;> omega) | fail) only [go_sem, Nat.reduceAdd, Nat.reduceSub, Nat.reduceMul, Nat.reduceLeDiff, Nat.reduceEqDiff, Nat.reduceLT, Nat.reduceBEq, Nat.reduceBNe, Nat.reducePow, ↓reduceIte, h1', h2]
      simp
  · simp (maxSteps := 200000) (disch := first | (simp only [go_sem, Nat.reduceAdd, Nat.reduceSub, Nat.reduceMul, Nat.reduceLeDiff, Nat.reduceEqDiff, Nat.reduceLT, Nat.reduceBEq, Nat.reduceBNe, Nat.reducePow, ↓reduceIte]; done) | omega | (simp only [go_sem, Nat.reduceAdd, Nat.reduceSub, Nat.reduceMul, Nat.reduceLeDiff, Nat.reduceEqDiff, Nat.reduceLT, Nat.reduceBEq, Nat.reduceBNe, Nat.reducePow, ↓reduceIte] <;> omega) | fail) only [go_sem, Nat.reduceAdd, Nat.reduceSub, Nat.reduceMul, Nat.reduceLeDiff, Nat.reduceEqDiff, Nat.reduceLT, Nat.reduceBEq, Nat.reduceBNe, Nat.reducePow, ↓reduceIte, h1]
    simp
theorem modelEqual_spec : ∀ (n : Nat) (a b : List Node), cntL a < n → n ≤ 140737488355328 → pureW XX 15 [lN a, lN b] = some (vB (decide (a = b))) := by
  intro n
  induction n with
  | zero => intro a b h _; omega
  | succ n ih =>
    intro a b hc hB
    have hl : a.length ≤ 140737488355328 := by have := len_cnt a; omega
    have h40 : pureW XX 27 [lN a, lN b, .fn 28 []] = some (vB (decide (a = b))) := by
      refine pureW_in 32 Tryd.func27 Tryd.ntmps27 (by simp) (rfl : Tryd.f27.body = some _) fns_27 ?_
      by_cases hn : a.length = b.length
      · simp (maxSteps := 200000) (disch := first | (simp only [go_sem, Nat.reduceAdd, Nat.reduceSub, Nat.reduceMul, Nat.reduceLeDiff, Nat.reduceEqDiff, Nat.reduceLT, Nat.reduceBEq, Nat.reduceBNe, Nat.reducePow, ↓reduceIte]; done) | omega | (simp only [go_sem, Nat.reduceAdd, Nat.reduceSub, Nat.reduceMul, Nat.reduceLeDiff, Nat.reduceEqDiff, Nat.reduceLT, Nat.reduceBEq, Nat.reduceBNe, Nat.reducePow, ↓reduceIte] <;> omega) | fail) only [go_sem, Nat.reduceAdd, Nat.reduceSub, Nat.reduceMul, Nat.reduceLeDiff, Nat.reduceEqDiff, Nat.reduceLT, Nat.reduceBEq, Nat.reduceBNe, Nat.reducePow, ↓reduceIte, nat_int_ne, hn, ne_eq, not_true]
        refine WP_range 4 0 b.length (fun i => S_27_4 (lN b) (.fn 28 []) (lN a) (vI b.length) (vI i) []) (fun i => (a = b) = (a.drop i = b.drop i)) rfl rfl ?_ ?_ ?_ ?_
        · simp (maxSteps := 200000) (disch := first | (simp only [go_sem, Nat.reduceAdd, Nat.reduceSub, Nat.reduceMul, Nat.reduceLeDiff, Nat.reduceEqDiff, Nat.reduceLT, Nat.reduceBEq, Nat.reduceBNe, Nat.reducePow, ↓reduceIte]; done) | omega | (simp only [go_sem, Nat.reduceAdd, Nat.reduceSub, Nat.reduceMul, Nat.reduceLeDiff, Nat.reduceEqDiff, Nat.reduceLT, Nat.reduceBEq, Nat.reduceBNe, Nat.reducePow, ↓reduceIte] <;> omega) | fail) only [go_sem, Nat.reduceAdd, Nat.reduceSub, Nat.reduceMul, Nat.reduceLeDiff, Nat.reduceEqDiff, Nat.reduceLT, Nat.reduceBEq, Nat.reduceBNe, Nat.reducePow, ↓reduceIte]; rfl
        · simp
        · intro i h hI
          have h2 : i < a.length := by omega
          rw [drop_eq h2 h] at hI
          have hk := nodeEq_spec a[i] b[i] (ih a[i].kids b[i].kids (by have := cnt_kids h2; omega) (by omega))
          by_cases h3 : a[i] = b[i]
          · rw [decide_eq_true h3] at hk
            simp (maxSteps := 200000) (disch := first | (simp only [go_sem, Nat.reduceAdd, Nat.reduceSub, Nat.reduceMul, Nat.reduceLeDiff, Nat.reduceEqDiff, Nat.reduceLT, Nat.reduceBEq, Nat.reduceBNe, Nat.reducePow, ↓reduceIte]; done) | omega | (simp only [go_sem, Nat.reduceAdd, Nat.reduceSub, Nat.reduceMul, Nat.reduceLeDiff, Nat.reduceEqDiff, Nat.reduceLT, Nat.reduceBEq, Nat.reduceBNe, Nat.reducePow, ↓reduceIte] <;> omega) | fail) only [go_sem, Nat.reduceAdd, Nat.reduceSub, Nat.reduceMul, Nat.reduceLeDiff, Nat.reduceEqDiff, Nat.reduceLT, Nat.reduceBEq, Nat.reduceBNe, Nat.reducePow, ↓reduceIte, nat_int, h, h2, hn, eNode_s, wrap_succ h (show b.length ≤ 140737488355328 by omega), callA_pure mode_28, hk]
            rw [gcK_mkT (by simp only [go_sem, Nat.reduceAdd, Nat.reduceSub, Nat.reduceMul, Nat.reduceLeDiff, Nat.reduceEqDiff, Nat.reduceLT, Nat.reduceBEq, Nat.reduceBNe, Nat.reducePow, ↓reduceIte]) (by simp only [go_sem, Nat.reduceAdd, Nat.reduceSub, Nat.reduceMul, Nat.reduceLeDiff, Nat.reduceEqDiff, Nat.reduceLT, Nat.reduceBEq, Nat.reduceBNe, Nat.reducePow, ↓reduceIte])]
            simp [hI, h3]
          · rw [decide_eq_false h3] at hk
            simp (maxSteps := 200000) (disch := first | (simp only [go_sem, Nat.reduceAdd, Nat.reduceSub, Nat.reduceMul, Nat.reduceLeDiff, Nat.reduceEqDiff, Nat.reduceLT, Nat.reduceBEq, Nat.reduceBNe, Nat.reducePow, ↓reduceIte]; done) | omega | (simp only [go_sem, Nat.reduceAdd, Nat.reduceSub, Nat.reduceMul, Nat.reduceLeDiff, Nat.reduceEqDiff, Nat.reduceLT, Nat.reduceBEq, Nat.reduceBNe, Nat.reducePow, ↓reduceIte] <;> omega) | fail) only [go_sem, Nat.reduceAdd, Nat.reduceSub, Nat.reduceMul, Nat.reduceLeDiff, Nat.reduceEqDiff, Nat.reduceLT, Nat.reduceBEq, Nat.reduceBNe, Nat.reducePow, ↓reduceIte, nat_int, h, h2, hn, eNode_s, wrap_succ h (show b.length ≤ 140737488355328 by omega), callA_pure mode_28, hk]
            simp [hI, h3]
        · intro hI
          simp (maxSteps := 200000) (disch := first | (simp only [go_sem, Nat.reduceAdd, Nat.reduceSub, Nat.reduceMul, Nat.reduceLeDiff, Nat.reduceEqDiff, Nat.reduceLT, Nat.reduceBEq, Nat.reduceBNe, Nat.reducePow, ↓reduceIte]; done) | omega | (simp only [go_sem, Nat.reduceAdd, Nat.reduceSub, Nat.reduceMul, Nat.reduceLeDiff, Nat.reduceEqDiff, Nat.reduceLT, Nat.reduceBEq, Nat.reduceBNe, Nat.reducePow, ↓reduceIte] <;> omega) | fail) only [go_sem, Nat.reduceAdd, Nat.reduceSub, Nat.reduceMul, Nat.reduceLeDiff, Nat.reduceEqDiff, Nat.reduceLT, Nat.reduceBEq, Nat.reduceBNe, Nat.reducePow, ↓reduceIte, nat_int]
          rw [decide_eq_true (by rw [hI, List.drop_of_length_le (by omega), List.drop_of_length_le (by omega)])]
      · have : a ≠ b := fun e => hn (by rw [e])
        simp (maxSteps := 200000) (disch := first | (simp only [go_sem, Nat.reduceAdd, Nat.reduceSub, Nat.reduceMul, Nat.reduceLeDiff, Nat.reduceEqDiff, Nat.reduceLT, Nat.reduceBEq, Nat.reduceBNe, Nat.reducePow, ↓reduceIte]; done) | omega | (simp only [go_sem, Nat.reduceAdd, Nat.reduceSub, Nat.reduceMul, Nat.reduceLeDiff, Nat.reduceEqDiff, Nat.reduceLT, Nat.reduceBEq, Nat.reduceBNe, Nat.reducePow, ↓reduceIte] <;> omega) | fail) only [go_sem, Nat.reduceAdd, Nat.reduceSub, Nat.reduceMul, Nat.reduceLeDiff, Nat.reduceEqDiff, Nat.reduceLT, Nat.reduceBEq, Nat.reduceBNe, Nat.reducePow, ↓reduceIte, nat_int_ne, hn, ne_eq, not_false_eq_true]
        simp [this]
    refine pureW_in 8 Tryd.func15 Tryd.ntmps15 (by simp) (rfl : Tryd.f15.body = some _) fns_15 ?_
    simp (maxSteps := 200000) (disch := first | (simp only [go_sem, Nat.reduceAdd, Nat.reduceSub, Nat.reduceMul, Nat.reduceLeDiff, Nat.reduceEqDiff, Nat.reduceLT, Nat.reduceBEq, Nat.reduceBNe, Nat.reducePow, ↓reduceIte]; done) | omega | (simp only [go_sem, Nat.reduceAdd, Nat.reduceSub, Nat.reduceMul, Nat.reduceLeDiff, Nat.reduceEqDiff, Nat.reduceLT, Nat.reduceBEq, Nat.reduceBNe, Nat.reducePow, ↓reduceIte] <;> omega) | fail) only [go_sem, Nat.reduceAdd, Nat.reduceSub, Nat.reduceMul, Nat.reduceLeDiff, Nat.reduceEqDiff, Nat.reduceLT, Nat.reduceBEq, Nat.reduceBNe, Nat.reducePow, ↓reduceIte, callA_pure mode_27, h40]
end Go.Abs.SA
end

section
set_option linter.unusedVariables false
set_option linter.unusedSimpArgs false
set_option linter.unusedSectionVars false
set_option maxRecDepth 100000
set_option maxHeartbeats 4000000
set_option linter.unusedSimpArgs false
set_option linter.unusedVariables false
namespace Go.Abs.SA
open Go.Proofs

mutual
/-- No value is longer than 128. -/
def vN : Node → Prop
  | .mk _ v k => v.size ≤ 128 ∧ vL k
def vL : List Node → Prop
  | [] => True
  | n :: r => vN n ∧ vL r
end
theorem vN_s {n : Node} : vN n ↔ n.value.size ≤ 128 ∧ vL n.kids := by cases n; simp [vN, Node.value, Node.kids]
theorem vL_iff : ∀ {l : List Node}, vL l ↔ ∀ x ∈ l, vN x
  | [] => by simp [vL]
  | n :: r => by simp [vL, vL_iff (l := r)]
theorem value_size {d : Def} {s : Str} (h : valueM d s = true) : s.size ≤ 128 := by
  simp only [valueM, Bool.and_eq_true, decide_eq_true_eq] at h
  exact h.1.1
mutual
theorem rdE_v (l : List Def) : ∀ (e : Elem) (d : Def) (n : Node), rdE l e = .ok (d, n) → vN n
  | .mk s nm a t k, d, n, h => by
    rw [rdE] at h
    split at h
    · cases h
    · split at h
      · cases h
      · split at h
        · split at h
          · cases h
          · rename_i d' _ _ hv
            cases h
            simp only [not_or, Bool.not_eq_false] at hv
            exact ⟨value_size hv.2, trivial⟩
        · split at h
          · cases h
          · split at h
            · cases h
            · rename_i d' _ _ _ nodes hn
              split at h
              · cases h
                exact ⟨by simp [ByteArray.size], rdL_v _ k _ _ _ (by simp [vL]) hn⟩
              · cases h
theorem rdL_v (l : List Def) : ∀ (es : List Elem) (out all nodes : List Node), vL out → rdL l out all es = .ok nodes → vL nodes
  | [], out, all, nodes, ho, h => by
    rw [rdL] at h
    split at h
    · cases h
    · cases h
      rw [vL_iff] at ho ⊢
      exact fun x hx => ho x ((order_mem l out).1 hx)
  | e :: r, out, all, nodes, ho, h => by
    rw [rdL] at h
    split at h
    · cases h
    · rename_i d n hn
      split at h
      · cases h
      · refine rdL_v l r _ _ _ ?_ h
        have h2 := rdE_v l e d n hn
        split
        · rw [vL_iff] at ho ⊢
          intro x hx
          rcases List.mem_append.1 hx with hx | hx
          · exact ho x hx
          · rw [List.mem_singleton.1 hx]; exact h2
        · exact ho
end
theorem tree_v {l : List Elem} {n : List Node} (h : tree l = some n) : vL n := rdL_v _ _ _ _ _ (by simp [vL]) (tree_some h).1

mutual
/-- Another tree: what may not be read is taken away, or has another value. -/
def hideN (ok : List Str → Bool) (bend : Str) (path : List Str) : Node → List Node
  | .mk n v k => if ok (path ++ [n]) then [.mk n v (hideL ok bend (path ++ [n]) k)] else if bend = ⟨#[]⟩ then [] else [.mk n (v ++ bend) (hideL ok bend (path ++ [n]) k)]
def hideL (ok : List Str → Bool) (bend : Str) (path : List Str) : List Node → List Node
  | [] => []
  | x :: r => hideN ok bend path x ++ hideL ok bend path r
end
theorem hideN_s (ok : List Str → Bool) (bend : Str) (path : List Str) (n : Node) : hideN ok bend path n = if ok (path ++ [n.name]) then [.mk n.name n.value (hideL ok bend (path ++ [n.name]) n.kids)] else if bend = ⟨#[]⟩ then [] else [.mk n.name (n.value ++ bend) (hideL ok bend (path ++ [n.name]) n.kids)] := by
  cases n; simp only [hideN, Node.name, Node.value, Node.kids]; rfl
theorem hideL_flat (ok : List Str → Bool) (bend : Str) (path : List Str) : ∀ (l : List Node), hideL ok bend path l = l.flatMap (hideN ok bend path)
  | [] => by simp [hideL]
  | x :: r => by simp [hideL, hideL_flat ok bend path r]
theorem hideL_take (ok : List Str → Bool) (bend : Str) (path : List Str) (l : List Node) {i : Nat} (h : i < l.length) : hideL ok bend path (l.take (i + 1)) = hideL ok bend path (l.take i) ++ hideN ok bend path l[i] := by
  simp only [hideL_flat]
  rw [List.take_succ_eq_append_getElem h, List.flatMap_append]
  simp
theorem hideN_len (ok : List Str → Bool) (bend : Str) (path : List Str) (n : Node) : (hideN ok bend path n).length ≤ 1 := by
  rw [hideN_s]; split
  · simp
  · split <;> simp
theorem hideL_len (ok : List Str → Bool) (bend : Str) (path : List Str) : ∀ (l : List Node), (hideL ok bend path l).length ≤ l.length
  | [] => by simp [hideL]
  | x :: r => by have := hideL_len ok bend path r; have := hideN_len ok bend path x; simp only [hideL, List.length_append, List.length_cons]; omega
mutual
theorem hideN_cnt (ok : List Str → Bool) (bend : Str) : ∀ (n : Node) (path : List Str), cntL (hideN ok bend path n) ≤ cntN n
  | .mk nm v k, path => by
    have := hideL_cnt ok bend k (path ++ [nm])
    rw [hideN]
    split
    · rw [cntL_cons, cntN, cntN]; simp only [cntL]; omega
    · split
      · simp [cntL]
      · rw [cntL_cons, cntN, cntN]; simp only [cntL]; omega
theorem hideL_cnt (ok : List Str → Bool) (bend : Str) : ∀ (l : List Node) (path : List Str), cntL (hideL ok bend path l) ≤ cntL l
  | [], path => by simp [hideL, cntL]
  | x :: r, path => by
    have h1 := hideN_cnt ok bend x path
    have h2 := hideL_cnt ok bend r path
    rw [hideL, cntL_app, cntL_cons]; omega
end
theorem pruneL_app (ok : List Str → Bool) (path : List Str) (a b : List Node) : pruneL ok path (a ++ b) = pruneL ok path a ++ pruneL ok path b := by
  simp [pruneL_flat]
mutual
theorem prune_hideN (ok : List Str → Bool) (bend : Str) : ∀ (n : Node) (path : List Str), pruneL ok path (hideN ok bend path n) = pruneN ok path n
  | .mk nm v k, path => by
    have h := prune_hideL ok bend k (path ++ [nm])
    rw [hideN, pruneN]
    by_cases ho : ok (path ++ [nm]) = true
    · simp only [ho, if_true, pruneL, pruneN, List.append_nil, h]
    · split
      · rename_i hh; exact absurd hh ho
      · split
        · simp [pruneL]
        · simp [pruneL, pruneN, ho]
theorem prune_hideL (ok : List Str → Bool) (bend : Str) : ∀ (l : List Node) (path : List Str), pruneL ok path (hideL ok bend path l) = pruneL ok path l
  | [], path => by simp [hideL]
  | x :: r, path => by
    rw [hideL, pruneL_app, prune_hideN ok bend x path, prune_hideL ok bend r path, pruneL]
end

end Go.Abs.SA
end

section
set_option linter.unusedVariables false
set_option linter.unusedSimpArgs false
set_option linter.unusedSectionVars false
set_option maxRecDepth 100000
set_option maxHeartbeats 8000000
set_option linter.unusedSimpArgs false
set_option linter.unusedVariables false
namespace Go.Abs.SA
open Go.Proofs

end Go.Abs.SA
end

section
set_option linter.unusedVariables false
set_option linter.unusedSimpArgs false
set_option linter.unusedSectionVars false
set_option maxRecDepth 100000
set_option maxHeartbeats 4000000
set_option linter.unusedSimpArgs false
set_option linter.unusedVariables false
namespace Go.Abs.SA
open Go.Proofs

theorem isKey_spec (x : Node) (k : Str) : pureW XX 44 [aNode x, .fp [vS k]] = some (vB (decide (x.name = k))) := by
  refine pureW_in 8 Tryd.func44 Tryd.ntmps44 (by simp) (rfl : Tryd.f44.body = some _) fns_44 ?_
  simp (maxSteps := 200000) (disch := first | (simp only [go_sem, Nat.reduceAdd, Nat.reduceSub, Nat.reduceMul, Nat.reduceLeDiff, Nat.reduceEqDiff, Nat.reduceLT, Nat.reduceBEq, Nat.reduceBNe, Nat.reducePow, ↓reduceIte]; done) | omega | (simp only [go_sem, Nat.reduceAdd, Nat.reduceSub, Nat.reduceMul, Nat.reduceLeDiff, Nat.reduceEqDiff, Nat.reduceLT, Nat.reduceBEq, Nat.reduceBNe, Nat.reducePow, ↓reduceIte] <;> omega) | fail) only [go_sem, Nat.reduceAdd, Nat.reduceSub, Nat.reduceMul, Nat.reduceLeDiff, Nat.reduceEqDiff, Nat.reduceLT, Nat.reduceBEq, Nat.reduceBNe, Nat.reducePow, ↓reduceIte]
theorem findIdx_step {α : Type} (q : α → Bool) (l : List α) {i : Nat} (h : i < l.length) : (l.drop i).findIdx? q = if q l[i] then some 0 else ((l.drop (i + 1)).findIdx? q).map (· + 1) := by
  rw [List.drop_eq_getElem_cons h, List.findIdx?_cons]
theorem indexKey_spec (l : List Node) (k : Str) (hl : l.length ≤ 140737488355328)  : pureW XX 29 [lN l, .fn 44 [.fp [vS k]]] = some (vI (posI (l.findIdx? fun x => decide (x.name = k)))) := by
  refine pureW_in 19 Tryd.func29 Tryd.ntmps29 (by simp) (rfl : Tryd.f29.body = some _) fns_29 ?_
  simp (maxSteps := 200000) (disch := first | (simp only [go_sem, Nat.reduceAdd, Nat.reduceSub, Nat.reduceMul, Nat.reduceLeDiff, Nat.reduceEqDiff, Nat.reduceLT, Nat.reduceBEq, Nat.reduceBNe, Nat.reducePow, ↓reduceIte]; done) | omega | (simp only [go_sem, Nat.reduceAdd, Nat.reduceSub, Nat.reduceMul, Nat.reduceLeDiff, Nat.reduceEqDiff, Nat.reduceLT, Nat.reduceBEq, Nat.reduceBNe, Nat.reducePow, ↓reduceIte] <;> omega) | fail) only [go_sem, Nat.reduceAdd, Nat.reduceSub, Nat.reduceMul, Nat.reduceLeDiff, Nat.reduceEqDiff, Nat.reduceLT, Nat.reduceBEq, Nat.reduceBNe, Nat.reducePow, ↓reduceIte]
  refine WP_range 2 0 l.length (fun i => S_29_2 (lN l) (.fn 44 [.fp [vS k]]) (vI l.length) (vI i) []) (fun i => (l.findIdx? fun x => decide (x.name = k)) = ((l.drop i).findIdx? fun x => decide (x.name = k)).map (· + i)) rfl rfl ?_ ?_ ?_ ?_
  · simp (maxSteps := 200000) (disch := first | (simp only [go_sem, Nat.reduceAdd, Nat.reduceSub, Nat.reduceMul, Nat.reduceLeDiff, Nat.reduceEqDiff, Nat.reduceLT, Nat.reduceBEq, Nat.reduceBNe, Nat.reducePow, ↓reduceIte]; done) | omega | (simp only [go_sem, Nat.reduceAdd, Nat.reduceSub, Nat.reduceMul, Nat.reduceLeDiff, Nat.reduceEqDiff, Nat.reduceLT, Nat.reduceBEq, Nat.reduceBNe, Nat.reducePow, ↓reduceIte] <;> omega) | fail) only [go_sem, Nat.reduceAdd, Nat.reduceSub, Nat.reduceMul, Nat.reduceLeDiff, Nat.reduceEqDiff, Nat.reduceLT, Nat.reduceBEq, Nat.reduceBNe, Nat.reducePow, ↓reduceIte]; rfl
  · simp
  · intro i h hI
    rw [findIdx_step _ _ h] at hI
    have hk := isKey_spec l[i] k
    cases hv : (fun x => decide (x.name = k)) l[i] with
    | true =>
      simp only at hv
      rw [hv] at hk hI
      simp (maxSteps := 200000) (disch := first | (simp only [go_sem, Nat.reduceAdd, Nat.reduceSub, Nat.reduceMul, Nat.reduceLeDiff, Nat.reduceEqDiff, Nat.reduceLT, Nat.reduceBEq, Nat.reduceBNe, Nat.reducePow, ↓reduceIte]; done) | omega | (simp only [go_sem, Nat.reduceAdd, Nat.reduceSub, Nat.reduceMul, Nat.reduceLeDiff, Nat.reduceEqDiff, Nat.reduceLT, Nat.reduceBEq, Nat.reduceBNe, Nat.reducePow, ↓reduceIte] <;> omega) | fail) only [go_sem, Nat.reduceAdd, Nat.reduceSub, Nat.reduceMul, Nat.reduceLeDiff, Nat.reduceEqDiff, Nat.reduceLT, Nat.reduceBEq, Nat.reduceBNe, Nat.reducePow, ↓reduceIte, nat_int, h, eNode_s, callA_pure mode_44, hk]
      rw [hI]
      simp [posI]
    | false =>
      simp only at hv
      rw [hv] at hk hI
      simp (maxSteps := 200000) (disch := first | (simp only [go_sem, Nat.reduceAdd, Nat.reduceSub, Nat.reduceMul, Nat.reduceLeDiff, Nat.reduceEqDiff, Nat.reduceLT, Nat.reduceBEq, Nat.reduceBNe, Nat.reducePow, ↓reduceIte]; done) | omega | (simp only [go_sem, Nat.reduceAdd, Nat.reduceSub, Nat.reduceMul, Nat.reduceLeDiff, Nat.reduceEqDiff, Nat.reduceLT, Nat.reduceBEq, Nat.reduceBNe, Nat.reducePow, ↓reduceIte] <;> omega) | fail) only [go_sem, Nat.reduceAdd, Nat.reduceSub, Nat.reduceMul, Nat.reduceLeDiff, Nat.reduceEqDiff, Nat.reduceLT, Nat.reduceBEq, Nat.reduceBNe, Nat.reducePow, ↓reduceIte, nat_int, h, eNode_s, callA_pure mode_44, hk, wrap_succ h hl]
      rw [hI]
      simp
      congr 1
      funext x
      simp
      omega
  · intro hI
    simp (maxSteps := 200000) (disch := first | (simp only [go_sem, Nat.reduceAdd, Nat.reduceSub, Nat.reduceMul, Nat.reduceLeDiff, Nat.reduceEqDiff, Nat.reduceLT, Nat.reduceBEq, Nat.reduceBNe, Nat.reducePow, ↓reduceIte]; done) | omega | (simp only [go_sem, Nat.reduceAdd, Nat.reduceSub, Nat.reduceMul, Nat.reduceLeDiff, Nat.reduceEqDiff, Nat.reduceLT, Nat.reduceBEq, Nat.reduceBNe, Nat.reducePow, ↓reduceIte] <;> omega) | fail) only [go_sem, Nat.reduceAdd, Nat.reduceSub, Nat.reduceMul, Nat.reduceLeDiff, Nat.reduceEqDiff, Nat.reduceLT, Nat.reduceBEq, Nat.reduceBNe, Nat.reducePow, ↓reduceIte, nat_int]
    rw [hI]
    simp [posI]
theorem leafV_idx (l : List Node) (k : Str) : leafV l k = match l.findIdx? fun x => decide (x.name = k) with
    | some i => (l[i]?).map Node.value
    | none => none := by
  unfold leafV
  induction l with
  | nil => rfl
  | cons x r ih =>
    rw [List.find?_cons, List.findIdx?_cons]
    by_cases h : x.name = k
    · simp [h]
    · simp only [h, decide_false, Bool.false_eq_true, if_false]
      rw [ih]
      cases r.findIdx? fun x => decide (x.name = k) with
      | none => rfl
      | some i => simp
theorem modelKey_spec (d : Def) (n : Node) (hd : d.keys.length ≤ 1099511627776) (hn : n.kids.length ≤ 140737488355328) : pureW XX 26 [aDef d, aNode n] = some (kO (keyOf d n)) := by
  refine pureW_in 34 Tryd.func26 Tryd.ntmps26 (by simp) (rfl : Tryd.f26.body = some _) fns_26 ?_
  simp (maxSteps := 200000) (disch := first | (simp only [go_sem, Nat.reduceAdd, Nat.reduceSub, Nat.reduceMul, Nat.reduceLeDiff, Nat.reduceEqDiff, Nat.reduceLT, Nat.reduceBEq, Nat.reduceBNe, Nat.reducePow, ↓reduceIte]; done) | omega | (simp only [go_sem, Nat.reduceAdd, Nat.reduceSub, Nat.reduceMul, Nat.reduceLeDiff, Nat.reduceEqDiff, Nat.reduceLT, Nat.reduceBEq, Nat.reduceBNe, Nat.reducePow, ↓reduceIte] <;> omega) | fail) only [go_sem, Nat.reduceAdd, Nat.reduceSub, Nat.reduceMul, Nat.reduceLeDiff, Nat.reduceEqDiff, Nat.reduceLT, Nat.reduceBEq, Nat.reduceBNe, Nat.reducePow, ↓reduceIte]
  refine WP_range 3 3 d.keys.length (fun i => S_26_3 (.ptr 1 0) (.sl 2 0 ((d.keys.take i).filterMap (leafV n.kids)).length false) (lS d.keys) (vI d.keys.length) (vI i) [.var [vS d.name, vI d.kind, vI d.type, lS d.values, vB d.must, lS d.keys, lD d.kids], .var [vS n.name, vS n.value, lN n.kids], .arr 9 1 (((d.keys.take i).filterMap (leafV n.kids)).map eS)]) (fun i => ∀ k ∈ d.keys.take i, (leafV n.kids k).isSome = true) rfl rfl ?_ ?_ ?_ ?_
  · simp (maxSteps := 200000) (disch := first | (simp only [go_sem, Nat.reduceAdd, Nat.reduceSub, Nat.reduceMul, Nat.reduceLeDiff, Nat.reduceEqDiff, Nat.reduceLT, Nat.reduceBEq, Nat.reduceBNe, Nat.reducePow, ↓reduceIte]; done) | omega | (simp only [go_sem, Nat.reduceAdd, Nat.reduceSub, Nat.reduceMul, Nat.reduceLeDiff, Nat.reduceEqDiff, Nat.reduceLT, Nat.reduceBEq, Nat.reduceBNe, Nat.reducePow, ↓reduceIte] <;> omega) | fail) only [go_sem, Nat.reduceAdd, Nat.reduceSub, Nat.reduceMul, Nat.reduceLeDiff, Nat.reduceEqDiff, Nat.reduceLT, Nat.reduceBEq, Nat.reduceBNe, Nat.reducePow, ↓reduceIte]; rfl
  · simp
  · intro i h hI
    have hol : ((d.keys.take i).filterMap (leafV n.kids)).length ≤ i := by
      have := List.length_filterMap_le (leafV n.kids) (d.keys.take i)
      rw [List.length_take] at this; omega
    have hk1 := List.take_succ_eq_append_getElem h
    have hx := indexKey_spec n.kids d.keys[i] hn
    have hlv := leafV_idx n.kids d.keys[i]
    cases hf : n.kids.findIdx? fun x => decide (x.name = d.keys[i]) with
    | none =>
      rw [hf] at hx hlv
      simp only at hlv
      have hkn : keyOf d n = none := by
        unfold keyOf
        rw [if_neg]
        simp only [List.all_eq_true]
        intro hh
        have := hh _ (List.getElem_mem h)
        simp [hlv] at this
      have n1 : ((-1 : Int) < 0) = True := eq_true (by omega)
      simp (maxSteps := 200000) (disch := first | (simp only [go_sem, Nat.reduceAdd, Nat.reduceSub, Nat.reduceMul, Nat.reduceLeDiff, Nat.reduceEqDiff, Nat.reduceLT, Nat.reduceBEq, Nat.reduceBNe, Nat.reducePow, ↓reduceIte]; done) | omega | (simp only [go_sem, Nat.reduceAdd, Nat.reduceSub, Nat.reduceMul, Nat.reduceLeDiff, Nat.reduceEqDiff, Nat.reduceLT, Nat.reduceBEq, Nat.reduceBNe, Nat.reducePow, ↓reduceIte] <;> omega) | fail) only [go_sem, Nat.reduceAdd, Nat.reduceSub, Nat.reduceMul, Nat.reduceLeDiff, Nat.reduceEqDiff, Nat.reduceLT, Nat.reduceBEq, Nat.reduceBNe, Nat.reducePow, ↓reduceIte, nat_int, h, eS_s, callA_pure mode_29, hx, posI, n1, hkn, Option.getD_none]
      rfl
    | some j =>
      rw [hf] at hx hlv
      simp only at hlv
      have hj : j < n.kids.length := by
        rw [List.findIdx?_eq_some_iff_getElem] at hf; exact hf.1
      rw [List.getElem?_eq_getElem hj, Option.map_some] at hlv
      have n1 : ((j : Int) < 0) = False := eq_false (by omega)
      have hall : ∀ k ∈ d.keys.take (i + 1), (leafV n.kids k).isSome = true := by
        rw [hk1]
        intro k hk
        rcases List.mem_append.1 hk with hk | hk
        · exact hI k hk
        · simp at hk; subst hk; simp [hlv]
      have hbs : (d.keys.take (i + 1)).filterMap (leafV n.kids) = (d.keys.take i).filterMap (leafV n.kids) ++ [n.kids[j].value] := by
        rw [hk1, List.filterMap_append]; simp [hlv]
      generalize (d.keys.take i).filterMap (leafV n.kids) = base at *
      simp (maxSteps := 200000) (disch := first | (simp only [go_sem, Nat.reduceAdd, Nat.reduceSub, Nat.reduceMul, Nat.reduceLeDiff, Nat.reduceEqDiff, Nat.reduceLT, Nat.reduceBEq, Nat.reduceBNe, Nat.reducePow, ↓reduceIte]; done) | omega | (simp only [go_sem, Nat.reduceAdd, Nat.reduceSub, Nat.reduceMul, Nat.reduceLeDiff, Nat.reduceEqDiff, Nat.reduceLT, Nat.reduceBEq, Nat.reduceBNe, Nat.reducePow, ↓reduceIte] <;> omega) | fail) only [go_sem, Nat.reduceAdd, Nat.reduceSub, Nat.reduceMul, Nat.reduceLeDiff, Nat.reduceEqDiff, Nat.reduceLT, Nat.reduceBEq, Nat.reduceBNe, Nat.reducePow, ↓reduceIte, nat_int, h, hj, eS_s, eNode_s, callA_pure mode_29, hx, posI, n1, wrap_succ h (show d.keys.length ≤ 140737488355328 by omega), hbs]
      exact hall
  · intro hI
    rw [List.take_length] at hI
    have hk : keyOf d n = some (d.keys.filterMap (leafV n.kids)) := by
      unfold keyOf; rw [if_pos (by simpa using hI)]
    simp (maxSteps := 200000) (disch := first | (simp only [go_sem, Nat.reduceAdd, Nat.reduceSub, Nat.reduceMul, Nat.reduceLeDiff, Nat.reduceEqDiff, Nat.reduceLT, Nat.reduceBEq, Nat.reduceBNe, Nat.reducePow, ↓reduceIte]; done) | omega | (simp only [go_sem, Nat.reduceAdd, Nat.reduceSub, Nat.reduceMul, Nat.reduceLeDiff, Nat.reduceEqDiff, Nat.reduceLT, Nat.reduceBEq, Nat.reduceBNe, Nat.reducePow, ↓reduceIte] <;> omega) | fail) only [go_sem, Nat.reduceAdd, Nat.reduceSub, Nat.reduceMul, Nat.reduceLeDiff, Nat.reduceEqDiff, Nat.reduceLT, Nat.reduceBEq, Nat.reduceBNe, Nat.reducePow, ↓reduceIte, nat_int, List.take_length, hk, Option.getD_some]
    rfl
theorem isSame_spec (d : Def) (n x : Node) (key : List Str) (hd : d.keys.length ≤ 1099511627776) (hx : x.kids.length ≤ 140737488355328) : pureW XX 30 [aNode x, .fp [vS d.name, vI d.kind, vI d.type, lS d.values, vB d.must, lS d.keys, lD d.kids], .fp [vS n.name, vS n.value, lN n.kids], .fp [lS key]] = some (vB (decide (x.name = n.name) && decide (keyD d x = key))) := by
  refine pureW_in 24 Tryd.func30 Tryd.ntmps30 (by simp) (rfl : Tryd.f30.body = some _) fns_30 ?_
  have hk := modelKey_spec d x hd hx
  have he := equal_spec (keyD d x) key (by have := keyD_len d x; omega)
  by_cases h1 : x.name = n.name
  · have h1' := eq_true h1
    simp (maxSteps := 200000) (disch := first | (simp only [go_sem, Nat.reduceAdd, Nat.reduceSub, Nat.reduceMul, Nat.reduceLeDiff, Nat.reduceEqDiff, Nat.reduceLT, Nat.reduceBEq, Nat.reduceBNe, Nat.reducePow, ↓reduceIte]; done) | omega | (simp only [go_sem, Nat.reduceAdd, Nat.reduceSub, Nat.reduceMul, Nat.reduceLeDiff, Nat.reduceEqDiff, Nat.reduceLT, Nat.reduceBEq, Nat.reduceBNe, Nat.reducePow, ↓reduceIte] <;> omega) | fail) only [go_sem, Nat.reduceAdd, Nat.reduceSub, Nat.reduceMul, Nat.reduceLeDiff, Nat.reduceEqDiff, Nat.reduceLT, Nat.reduceBEq, Nat.reduceBNe, Nat.reducePow, ↓reduceIte, callA_data mode_26, hk, keyD_fold, h1', callA_pure mode_31, he]
  · simp (maxSteps := 200000) (disch := first | (simp only [go_sem, Nat.reduceAdd, Nat.reduceSub, Nat.reduceMul, Nat.reduceLeDiff, Nat.reduceEqDiff, Nat.reduceLT, Nat.reduceBEq, Nat.reduceBNe, Nat.reducePow, ↓reduceIte]; done) | omega | (simp only [go_sem, Nat.reduceAdd, Nat.reduceSub, Nat.reduceMul, Nat.reduceLeDiff, Nat.reduceEqDiff, Nat.reduceLT, Nat.reduceBEq, Nat.reduceBNe, Nat.reducePow, ↓reduceIte] <;> omega) | fail) only [go_sem, Nat.reduceAdd, Nat.reduceSub, Nat.reduceMul, Nat.reduceLeDiff, Nat.reduceEqDiff, Nat.reduceLT, Nat.reduceBEq, Nat.reduceBNe, Nat.reducePow, ↓reduceIte, callA_data mode_26, hk, keyD_fold, h1, callA_pure mode_31, he]
theorem indexSame_spec (d : Def) (n : Node) (key : List Str) (l : List Node) (hl : l.length ≤ 140737488355328) (hd : d.keys.length ≤ 1099511627776) (hk : ∀ x ∈ l, x.kids.length ≤ 140737488355328) : pureW XX 29 [lN l, .fn 30 [.fp [vS d.name, vI d.kind, vI d.type, lS d.values, vB d.must, lS d.keys, lD d.kids], .fp [vS n.name, vS n.value, lN n.kids], .fp [lS key]]] = some (vI (posI (l.findIdx? fun x => (decide (x.name = n.name) && decide (keyD d x = key))))) := by
  refine pureW_in 19 Tryd.func29 Tryd.ntmps29 (by simp) (rfl : Tryd.f29.body = some _) fns_29 ?_
  simp (maxSteps := 200000) (disch := first | (simp only [go_sem, Nat.reduceAdd, Nat.reduceSub, Nat.reduceMul, Nat.reduceLeDiff, Nat.reduceEqDiff, Nat.reduceLT, Nat.reduceBEq, Nat.reduceBNe, Nat.reducePow, ↓reduceIte]; done) | omega | (simp only [go_sem, Nat.reduceAdd, Nat.reduceSub, Nat.reduceMul, Nat.reduceLeDiff, Nat.reduceEqDiff, Nat.reduceLT, Nat.reduceBEq, Nat.reduceBNe, Nat.reducePow, ↓reduceIte] <;> omega) | fail) only [go_sem, Nat.reduceAdd, Nat.reduceSub, Nat.reduceMul, Nat.reduceLeDiff, Nat.reduceEqDiff, Nat.reduceLT, Nat.reduceBEq, Nat.reduceBNe, Nat.reducePow, ↓reduceIte]
  refine WP_range 2 0 l.length (fun i => S_29_2 (lN l) (.fn 30 [.fp [vS d.name, vI d.kind, vI d.type, lS d.values, vB d.must, lS d.keys, lD d.kids], .fp [vS n.name, vS n.value, lN n.kids], .fp [lS key]]) (vI l.length) (vI i) []) (fun i => (l.findIdx? fun x => (decide (x.name = n.name) && decide (keyD d x = key))) = ((l.drop i).findIdx? fun x => (decide (x.name = n.name) && decide (keyD d x = key))).map (· + i)) rfl rfl ?_ ?_ ?_ ?_
  · simp (maxSteps := 200000) (disch := first | (simp only [go_sem, Nat.reduceAdd, Nat.reduceSub, Nat.reduceMul, Nat.reduceLeDiff, Nat.reduceEqDiff, Nat.reduceLT, Nat.reduceBEq, Nat.reduceBNe, Nat.reducePow, ↓reduceIte]; done) | omega | (simp only [go_sem, Nat.reduceAdd, Nat.reduceSub, Nat.reduceMul, Nat.reduceLeDiff, Nat.reduceEqDiff, Nat.reduceLT, Nat.reduceBEq, Nat.reduceBNe, Nat.reducePow, ↓reduceIte] <;> omega) | fail) only [go_sem, Nat.reduceAdd, Nat.reduceSub, Nat.reduceMul, Nat.reduceLeDiff, Nat.reduceEqDiff, Nat.reduceLT, Nat.reduceBEq, Nat.reduceBNe, Nat.reducePow, ↓reduceIte]; rfl
  · simp
  · intro i h hI
    rw [findIdx_step _ _ h] at hI
    have hk := isSame_spec d n l[i] key hd (hk _ (List.getElem_mem h))
    cases hv : (fun x => (decide (x.name = n.name) && decide (keyD d x = key))) l[i] with
    | true =>
      simp only at hv
      rw [hv] at hk hI
      simp (maxSteps := 200000) (disch := first | (simp only [go_sem, Nat.reduceAdd, Nat.reduceSub, Nat.reduceMul, Nat.reduceLeDiff, Nat.reduceEqDiff, Nat.reduceLT, Nat.reduceBEq, Nat.reduceBNe, Nat.reducePow, ↓reduceIte]; done) | omega | (simp only [go_sem, Nat.reduceAdd, Nat.reduceSub, Nat.reduceMul, Nat.reduceLeDiff, Nat.reduceEqDiff, Nat.reduceLT, Nat.reduceBEq, Nat.reduceBNe, Nat.reducePow, ↓reduceIte] <;> omega) | fail) only [go_sem, Nat.reduceAdd, Nat.reduceSub, Nat.reduceMul, Nat.reduceLeDiff, Nat.reduceEqDiff, Nat.reduceLT, Nat.reduceBEq, Nat.reduceBNe, Nat.reducePow, ↓reduceIte, nat_int, h, eNode_s, callA_pure mode_30, hk]
      rw [hI]
      simp [posI]
    | false =>
      simp only at hv
      rw [hv] at hk hI
      simp (maxSteps := 200000) (disch := first | (simp only [go_sem, Nat.reduceAdd, Nat.reduceSub, Nat.reduceMul, Nat.reduceLeDiff, Nat.reduceEqDiff, Nat.reduceLT, Nat.reduceBEq, Nat.reduceBNe, Nat.reducePow, ↓reduceIte]; done) | omega | (simp only [go_sem, Nat.reduceAdd, Nat.reduceSub, Nat.reduceMul, Nat.reduceLeDiff, Nat.reduceEqDiff, Nat.reduceLT, Nat.reduceBEq, Nat.reduceBNe, Nat.reducePow, ↓reduceIte] <;> omega) | fail) only [go_sem, Nat.reduceAdd, Nat.reduceSub, Nat.reduceMul, Nat.reduceLeDiff, Nat.reduceEqDiff, Nat.reduceLT, Nat.reduceBEq, Nat.reduceBNe, Nat.reducePow, ↓reduceIte, nat_int, h, eNode_s, callA_pure mode_30, hk, wrap_succ h hl]
      rw [hI]
      simp
      congr 1
      funext x
      simp
      omega
  · intro hI
    simp (maxSteps := 200000) (disch := first | (simp only [go_sem, Nat.reduceAdd, Nat.reduceSub, Nat.reduceMul, Nat.reduceLeDiff, Nat.reduceEqDiff, Nat.reduceLT, Nat.reduceBEq, Nat.reduceBNe, Nat.reducePow, ↓reduceIte]; done) | omega | (simp only [go_sem, Nat.reduceAdd, Nat.reduceSub, Nat.reduceMul, Nat.reduceLeDiff, Nat.reduceEqDiff, Nat.reduceLT, Nat.reduceBEq, Nat.reduceBNe, Nat.reducePow, ↓reduceIte] <;> omega) | fail) only [go_sem, Nat.reduceAdd, Nat.reduceSub, Nat.reduceMul, Nat.reduceLeDiff, Nat.reduceEqDiff, Nat.reduceLT, Nat.reduceBEq, Nat.reduceBNe, Nat.reducePow, ↓reduceIte, nat_int]
    rw [hI]
    simp [posI]
theorem cmpS_zero : ∀ (a b : List Str), cmpS a b = 0 ↔ a = b
  | [], b => by
    simp only [cmpS]
    constructor
    · intro h
      exact (List.eq_nil_iff_length_eq_zero.2 (by omega)).symm
    · rintro rfl; rfl
  | a :: r, [] => by simp [cmpS]; omega
  | a :: r, b :: q => by
    rw [cmpS]
    have hs : ∀ s : Str, sless s s = false := by
      intro s
      have : ∀ l : List UInt8, Op.bytesLess l l = false := by
        intro l
        induction l with
        | nil => rfl
        | cons x l ih => simp [Op.bytesLess, ih]
      exact this _
    by_cases h1 : sless a b = true
    · rw [if_pos h1]
      constructor
      · intro h; cases h
      · intro h; cases h; rw [hs] at h1; cases h1
    · simp only [Bool.not_eq_true] at h1
      rw [if_neg (by simp [h1])]
      by_cases h2 : a = b
      · subst h2
        rw [if_neg (by simp), cmpS_zero r q]
        simp
      · rw [if_pos (by simp [h1, h2])]
        simp [h2]
theorem same_pred (d : Def) (n : Node) : (fun x : Node => decide (x.name = n.name) && decide (keyD d x = keyD d n)) = sameN d n := by
  funext x
  unfold sameN
  congr 1
  exact decide_eq_decide.2 (cmpS_zero _ _).symm
theorem modelSame_spec (d : Def) (l : List Node) (n : Node) (hd : d.keys.length ≤ 1099511627776) (hn : n.kids.length ≤ 140737488355328) (hl : l.length ≤ 140737488355328) (hk : ∀ x ∈ l, x.kids.length ≤ 140737488355328) : pureW XX 16 [aDef d, lN l, aNode n] = some (vI (posI (sameAt d l n))) := by
  refine pureW_in 18 Tryd.func16 Tryd.ntmps16 (by simp) (rfl : Tryd.f16.body = some _) fns_16 ?_
  have hx := modelKey_spec d n hd hn
  have hi := indexSame_spec d n (keyD d n) l hl hd hk
  rw [same_pred] at hi
  simp (maxSteps := 200000) (disch := first | (simp only [go_sem, Nat.reduceAdd, Nat.reduceSub, Nat.reduceMul, Nat.reduceLeDiff, Nat.reduceEqDiff, Nat.reduceLT, Nat.reduceBEq, Nat.reduceBNe, Nat.reducePow, ↓reduceIte]; done) | omega | (simp only [go_sem, Nat.reduceAdd, Nat.reduceSub, Nat.reduceMul, Nat.reduceLeDiff, Nat.reduceEqDiff, Nat.reduceLT, Nat.reduceBEq, Nat.reduceBNe, Nat.reducePow, ↓reduceIte] <;> omega) | fail) only [go_sem, Nat.reduceAdd, Nat.reduceSub, Nat.reduceMul, Nat.reduceLeDiff, Nat.reduceEqDiff, Nat.reduceLT, Nat.reduceBEq, Nat.reduceBNe, Nat.reducePow, ↓reduceIte, callA_data mode_26, hx, keyD_fold, callA_pure mode_29, hi]
  rfl
end Go.Abs.SA
end

section
set_option linter.unusedVariables false
set_option linter.unusedSimpArgs false
set_option linter.unusedSectionVars false
set_option maxRecDepth 100000
set_option maxHeartbeats 4000000
set_option linter.unusedSimpArgs false
set_option linter.unusedVariables false
namespace Go.Abs.SA
open Go.Proofs

mutual
/-- A right at a node, and at all that stands in it. -/
def allN (ok : List Str → Bool) (path : List Str) : Node → Bool
  | .mk _ _ k => ok path && allL ok path k
def allL (ok : List Str → Bool) (path : List Str) : List Node → Bool
  | [] => true
  | x :: r => allN ok (path ++ [x.name]) x && allL ok path r
end
theorem allN_s (ok : List Str → Bool) (path : List Str) (n : Node) : allN ok path n = (ok path && allL ok path n.kids) := by cases n; rw [allN]; rfl
theorem allL_cons (ok : List Str → Bool) (path : List Str) (x : Node) (r : List Node) : allL ok path (x :: r) = (allN ok (path ++ [x.name]) x && allL ok path r) := by rw [allL]
def errI (b : Bool) : Int := if b then 0 else 17
abbrev vE (b : Bool) : AV := .v (.int .i64 (errI b))
end Go.Abs.SA
end

section
set_option linter.unusedVariables false
set_option linter.unusedSimpArgs false
set_option linter.unusedSectionVars false
set_option maxRecDepth 100000
set_option maxHeartbeats 4000000
set_option linter.unusedSimpArgs false
set_option linter.unusedVariables false
namespace Go.Abs.SA
open Go.Proofs

mutual
def cntD : Def → Nat
  | .mk _ _ _ _ _ _ k => 1 + cntDs k
def cntDs : List Def → Nat
  | [] => 0
  | d :: r => cntD d + cntDs r
end
theorem cntD_s (d : Def) : cntD d = 1 + cntDs d.kids := by cases d; rw [cntD]; rfl
theorem cntD_mem : ∀ {l : List Def} {d : Def}, d ∈ l → cntD d ≤ cntDs l
  | x :: r, d, h => by
    rw [cntDs]
    rcases List.mem_cons.1 h with rfl | h
    · omega
    · have := cntD_mem h; omega
/-- What of a node that is there now is asked, by its definition; 'sub': of what stands in it. -/
def nowOk (ok : Int → List Str → Bool) (sub : List Node → List Node → List Str → Bool) (d : Def) (was : List Node) (path : List Str) (n : Node) : Bool :=
  !decide (n.name = d.name) || match sameAt d was n with
    | none => allN (ok 2) (path ++ [d.name]) n
    | some i => match was[i]? with
      | none => false
      | some x => if d.kind = 3 then decide (n.value = x.value) || ok 4 (path ++ [d.name]) else sub x.kids n.kids (path ++ [d.name])
/-- What of a node that was there is asked. -/
def wasOk (ok : Int → List Str → Bool) (d : Def) (now : List Node) (path : List Str) (n : Node) : Bool :=
  !decide (n.name = d.name) || (sameAt d now n).isSome || allN (ok 8) (path ++ [d.name]) n
mutual
/-- May a tree become another one? By one definition. -/
def chD (ok : Int → List Str → Bool) (was now : List Node) (path : List Str) : Def → Bool
  | .mk n k t v m ks kd => now.all (nowOk ok (fun a b q => chDs ok a b q kd) (.mk n k t v m ks kd) was path) && was.all (wasOk ok (.mk n k t v m ks kd) now path)
def chDs (ok : Int → List Str → Bool) (was now : List Node) (path : List Str) : List Def → Bool
  | [] => true
  | d :: r => chD ok was now path d && chDs ok was now path r
end
theorem chD_s (ok : Int → List Str → Bool) (was now : List Node) (path : List Str) (d : Def) : chD ok was now path d = (now.all (nowOk ok (fun a b q => chDs ok a b q d.kids) d was path) && was.all (wasOk ok d now path)) := by
  cases d; rw [chD]; rfl
theorem chDs_cons (ok : Int → List Str → Bool) (was now : List Node) (path : List Str) (d : Def) (r : List Def) : chDs ok was now path (d :: r) = (chD ok was now path d && chDs ok was now path r) := by rw [chDs]
end Go.Abs.SA
end

section
set_option linter.unusedVariables false
set_option linter.unusedSimpArgs false
set_option linter.unusedSectionVars false
set_option maxRecDepth 100000
set_option maxHeartbeats 8000000
set_option linter.unusedSimpArgs false
set_option linter.unusedVariables false
namespace Go.Abs.SA
open Go.Proofs

theorem len_cntDs : ∀ (l : List Def), l.length ≤ cntDs l
  | [] => by simp [cntDs]
  | d :: r => by have := len_cntDs r; rw [cntDs, cntD_s, List.length_cons]; omega
theorem sameAt_lt {d : Def} {l : List Node} {n : Node} {i : Nat} (h : sameAt d l n = some i) : i < l.length := by
  unfold sameAt at h
  rw [List.findIdx?_eq_some_iff_getElem] at h
  exact h.1
theorem kids_le {l : List Node} {x : Node} (h : x ∈ l) : x.kids.length ≤ cntL l := by
  have h1 := cnt_mem h
  have h2 := len_cnt x.kids
  rw [cntN_s] at h1
  omega
end Go.Abs.SA
end

section
set_option linter.unusedVariables false
set_option linter.unusedSimpArgs false
set_option linter.unusedSectionVars false
set_option maxRecDepth 100000
set_option maxHeartbeats 8000000
set_option linter.unusedSimpArgs false
set_option linter.unusedVariables false
namespace Go.Abs.SA
open Go.Proofs

theorem chDs_all (ok : Int → List Str → Bool) (was now : List Node) (path : List Str) : ∀ (l : List Def), chDs ok was now path l = l.all (chD ok was now path)
  | [] => by rw [chDs]; rfl
  | d :: r => by rw [chDs, List.all_cons, chDs_all ok was now path r]
/-! All rights. -/
mutual
theorem allN_true (ok : List Str → Bool) (h : ∀ q, ok q = true) : ∀ (n : Node) (path : List Str), allN ok path n = true
  | .mk a b k, path => by rw [allN, h, allL_true ok h k, Bool.and_self]
theorem allL_true (ok : List Str → Bool) (h : ∀ q, ok q = true) : ∀ (l : List Node) (path : List Str), allL ok path l = true
  | [], path => by rw [allL]
  | x :: r, path => by rw [allL, allN_true ok h x, allL_true ok h r, Bool.and_self]
end
mutual
theorem chD_true (ok : Int → List Str → Bool) (h : ∀ r, r = 2 ∨ r = 4 ∨ r = 8 → ∀ q, ok r q = true) : ∀ (d : Def) (was now : List Node) (path : List Str), chD ok was now path d = true
  | .mk n k t v m ks kd, was, now, path => by
    rw [chD, Bool.and_eq_true, List.all_eq_true, List.all_eq_true]
    refine ⟨fun x hx => ?_, fun x hx => ?_⟩
    · unfold nowOk
      rw [Bool.or_eq_true]
      refine .inr ?_
      cases hs : sameAt (.mk n k t v m ks kd) was x with
      | none => exact allN_true _ (h 2 (by simp)) _ _
      | some i =>
        simp only [List.getElem?_eq_getElem (sameAt_lt hs)]
        split
        · rw [h 4 (by simp), Bool.or_true]
        · exact chDs_true ok h kd _ _ _
    · unfold wasOk
      rw [allN_true _ (h 8 (by simp)), Bool.or_true]
theorem chDs_true (ok : Int → List Str → Bool) (h : ∀ r, r = 2 ∨ r = 4 ∨ r = 8 → ∀ q, ok r q = true) : ∀ (l : List Def) (was now : List Node) (path : List Str), chDs ok was now path l = true
  | [], was, now, path => by rw [chDs]
  | d :: r, was, now, path => by rw [chDs, chD_true ok h d, chDs_true ok h r, Bool.and_self]
end
theorem sameAt_nil (d : Def) (n : Node) : sameAt d [] n = none := rfl
theorem chDs_nil (ok : Int → List Str → Bool) (path : List Str) (l : List Def) : chDs ok [] [] path l = true := by
  rw [chDs_all, List.all_eq_true]
  intro d _
  rw [chD_s]; rfl
theorem chDs_new (ok : Int → List Str → Bool) (now : List Node) (path : List Str) (l : List Def) {x : Node} {d : Def} (hx : x ∈ now) (hd : d ∈ l) (he : x.name = d.name) (ho : ∀ q, ok 2 q = false) : chDs ok [] now path l = false := by
  rw [chDs_all]
  cases hh : l.all (chD ok [] now path) with
  | false => rfl
  | true =>
    have h1 := List.all_eq_true.1 hh d hd
    rw [chD_s, Bool.and_eq_true] at h1
    have h2 := List.all_eq_true.1 h1.1 x hx
    simp [nowOk, sameAt_nil, he, allN_s, ho] at h2
theorem chDs_gone (ok : Int → List Str → Bool) (was : List Node) (path : List Str) (l : List Def) {x : Node} {d : Def} (hx : x ∈ was) (hd : d ∈ l) (he : x.name = d.name) (ho : ∀ q, ok 8 q = false) : chDs ok was [] path l = false := by
  rw [chDs_all]
  cases hh : l.all (chD ok was [] path) with
  | false => rfl
  | true =>
    have h1 := List.all_eq_true.1 hh d hd
    rw [chD_s, Bool.and_eq_true] at h1
    have h2 := List.all_eq_true.1 h1.2 x hx
    simp [wasOk, sameAt_nil, he, allN_s, ho] at h2
/-! What was read has a definition. -/
theorem rdE_place {l : List Def} {e : Elem} {d : Def} {n : Node} (h : rdE l e = .ok (d, n)) : d ∈ l ∧ n.name = d.name := by
  rw [rdE_s] at h
  split at h
  · cases h
  · rename_i i hp
    obtain ⟨hi, hn⟩ := place_some hp
    rw [List.getElem?_eq_getElem hi] at h
    simp only at h
    split at h
    · split at h
      · cases h
      · cases h; exact ⟨List.getElem_mem hi, hn.symm⟩
    · split at h
      · cases h
      · split at h
        · cases h
        · split at h
          · cases h; exact ⟨List.getElem_mem hi, hn.symm⟩
          · cases h
theorem rdL_place (l : List Def) : ∀ (es : List Elem) (out all nodes : List Node), (∀ x ∈ out, ∃ d ∈ l, x.name = d.name) → rdL l out all es = .ok nodes → ∀ x ∈ nodes, ∃ d ∈ l, x.name = d.name
  | [], out, all, nodes, ho, h => by
    rw [rdL] at h
    split at h
    · cases h
    · cases h
      exact fun x hx => ho x ((order_mem l out).1 hx)
  | e :: r, out, all, nodes, ho, h => by
    rw [rdL] at h
    split at h
    · cases h
    · rename_i d n hn
      split at h
      · cases h
      · refine rdL_place l r _ _ _ ?_ h
        have h2 := rdE_place hn
        split
        · intro x hx
          rcases List.mem_append.1 hx with hx | hx
          · exact ho x hx
          · rw [List.mem_singleton.1 hx]; exact ⟨d, h2⟩
        · exact ho
theorem tree_place {l : List Elem} {n : List Node} (h : tree l = some n) : ∀ x ∈ n, ∃ d ∈ schema, x.name = d.name := rdL_place _ _ _ _ _ (by simp) (tree_some h).1
/-! All, or nothing, is read. -/
mutual
theorem pruneN_all (ok : List Str → Bool) (h : ∀ q, ok q = true) : ∀ (n : Node) (path : List Str), pruneN ok path n = [n]
  | .mk a b k, path => by rw [pruneN, if_pos (h _), pruneL_all ok h k]
theorem pruneL_all (ok : List Str → Bool) (h : ∀ q, ok q = true) : ∀ (l : List Node) (path : List Str), pruneL ok path l = l
  | [], path => by rw [pruneL]
  | x :: r, path => by rw [pruneL, pruneN_all ok h x, pruneL_all ok h r]; rfl
end
theorem pruneL_no (ok : List Str → Bool) (h : ∀ q, ok q = false) (path : List Str) : ∀ (l : List Node), pruneL ok path l = []
  | [] => by rw [pruneL]
  | x :: r => by rw [pruneL, pruneL_no ok h path r, pruneN_s, if_neg (by simp [h])]; rfl
theorem may_none (read write : Bool) (gs : List Str) (r : Int) (q : List Str) : may ⟨[], read, write⟩ gs r q = if r = 1 then read else write := rfl
def pAll (read write : Bool) : Policy := ⟨[⟨sG, 15, [], true⟩, ⟨⟨#[]⟩, 15, [], false⟩], read, write⟩
theorem may_all (read write : Bool) (gs : List Str) (r : Int) (q : List Str) (hr : r = 1 ∨ r = 2 ∨ r = 4 ∨ r = 8) : may (pAll read write) gs r q = has gs sG := by
  have h := (bit15 hr).1
  unfold may pAll
  simp only [List.find?_cons]
  cases hg : has gs sG with
  | true => simp [Rule.says, h, hg]
  | false => simp [Rule.says, h, hg]
end Go.Abs.SA
end

section
set_option linter.unusedVariables false
set_option linter.unusedSimpArgs false
set_option linter.unusedSectionVars false
set_option maxRecDepth 100000
set_option maxHeartbeats 8000000
set_option linter.unusedSimpArgs false
set_option linter.unusedVariables false
namespace Go.Abs.SA
open Go.Proofs

theorem cnt_schema : cntDs schema < 100 := by decide
end Go.Abs.SA
end

section
set_option linter.unusedVariables false
set_option linter.unusedSimpArgs false
set_option linter.unusedSectionVars false
set_option maxRecDepth 100000
set_option maxHeartbeats 8000000
set_option linter.unusedSimpArgs false
set_option linter.unusedVariables false
namespace Go.Abs.SA
open Go.Proofs

mutual
/-- No two definitions of a name, at each level. -/
def wfD : Def → Prop
  | .mk _ _ _ _ _ _ k => wfDs k
def wfDs : List Def → Prop
  | [] => True
  | d :: r => (∀ x ∈ r, d.name ≠ x.name) ∧ wfD d ∧ wfDs r
end
theorem wfD_s (d : Def) : wfD d = wfDs d.kids := by cases d; rw [wfD]; rfl
theorem wfDs_mem : ∀ {l : List Def} {d : Def}, wfDs l → d ∈ l → wfD d
  | x :: r, d, h, hm => by
    rw [wfDs] at h
    rcases List.mem_cons.1 hm with rfl | hm
    · exact h.2.1
    · exact wfDs_mem h.2.2 hm
theorem wfDs_inj : ∀ {l : List Def} {a b : Def}, wfDs l → a ∈ l → b ∈ l → a.name = b.name → a = b
  | x :: r, a, b, h, ha, hb, he => by
    rw [wfDs] at h
    rcases List.mem_cons.1 ha with e1 | ha1
    · rcases List.mem_cons.1 hb with e2 | hb1
      · rw [e1, e2]
      · rw [e1] at he; exact absurd he (h.1 b hb1)
    · rcases List.mem_cons.1 hb with e2 | hb1
      · rw [e2] at he; exact absurd he.symm (h.1 a ha1)
      · exact wfDs_inj h.2.2 ha1 hb1 he
theorem place_mem {l : List Def} {d : Def} {n : Str} (hd : d ∈ l) (hn : n = d.name) : ∃ i, place l n = some i := by
  cases h : place l n with
  | some i => exact ⟨i, rfl⟩
  | none =>
    unfold place at h
    rw [List.findIdx?_eq_none_iff] at h
    have := h d hd
    simp [hn] at this
/-- By the place of each node's definition. -/
def byPlace (l : List Def) (f : Def → Node → Bool) (n : Node) : Bool := match place l n.name with
  | none => true
  | some i => match l[i]? with
    | none => true
    | some d => f d n
theorem byPlace_all {l : List Def} (hw : wfDs l) (f : Def → Node → Bool) (g : Def → Node → Bool) (hg : ∀ d n, g d n = (!decide (n.name = d.name) || f d n)) (ns : List Node) : (∀ d ∈ l, ns.all (g d) = true) ↔ ns.all (byPlace l f) = true := by
  rw [List.all_eq_true]
  constructor
  · intro h n hn
    unfold byPlace
    cases hp : place l n.name with
    | none => rfl
    | some i =>
      obtain ⟨hi, he⟩ := place_some hp
      simp only [List.getElem?_eq_getElem hi]
      have := List.all_eq_true.1 (h l[i] (List.getElem_mem hi)) n hn
      rw [hg] at this
      simpa [he] using this
  · intro h d hd
    rw [List.all_eq_true]
    intro n hn
    rw [hg]
    by_cases he : n.name = d.name
    · obtain ⟨i, hp⟩ := place_mem hd he
      obtain ⟨hi, he'⟩ := place_some hp
      have h2 := h n hn
      have : l[i] = d := wfDs_inj hw (List.getElem_mem hi) hd (he'.trans he)
      simp only [byPlace, hp, List.getElem?_eq_getElem hi, this] at h2
      rw [h2, Bool.or_true]
    · simp [he]
def nowF (ok : Int → List Str → Bool) (was : List Node) (path : List Str) (d : Def) (n : Node) : Bool := match sameAt d was n with
    | none => allN (ok 2) (path ++ [d.name]) n
    | some i => match was[i]? with
      | none => false
      | some x => if d.kind = 3 then decide (n.value = x.value) || ok 4 (path ++ [d.name]) else chDs ok x.kids n.kids (path ++ [d.name]) d.kids
def wasF (ok : Int → List Str → Bool) (now : List Node) (path : List Str) (d : Def) (n : Node) : Bool := (sameAt d now n).isSome || allN (ok 8) (path ++ [d.name]) n
theorem chDs_place {l : List Def} (hw : wfDs l) (ok : Int → List Str → Bool) (was now : List Node) (path : List Str) : chDs ok was now path l = (was.all (byPlace l (wasF ok now path)) && now.all (byPlace l (nowF ok was path))) := by
  have h1 := byPlace_all hw (wasF ok now path) (fun d => wasOk ok d now path) (fun d n => by simp [wasOk, wasF, Bool.or_assoc]) was
  have h2 := byPlace_all hw (nowF ok was path) (fun d => nowOk ok (fun a b q => chDs ok a b q d.kids) d was path) (fun d n => rfl) now
  rw [chDs_all, Bool.eq_iff_iff, Bool.and_eq_true, ← h1, ← h2, List.all_eq_true]
  constructor
  · intro h
    exact ⟨fun d hd => by have := h d hd; rw [chD_s, Bool.and_eq_true] at this; exact this.2, fun d hd => by have := h d hd; rw [chD_s, Bool.and_eq_true] at this; exact this.1⟩
  · rintro ⟨ha, hb⟩ d hd
    rw [chD_s, Bool.and_eq_true]
    exact ⟨hb d hd, ha d hd⟩

end Go.Abs.SA
end

section
set_option linter.unusedVariables false
set_option linter.unusedSimpArgs false
set_option linter.unusedSectionVars false
set_option maxRecDepth 100000
set_option maxHeartbeats 8000000
set_option linter.unusedSimpArgs false
set_option linter.unusedVariables false
namespace Go.Abs.SA
open Go.Proofs

mutual
theorem chD_congr (ok ok' : Int → List Str → Bool) (h2 : ok 2 = ok' 2) (h4 : ok 4 = ok' 4) (h8 : ok 8 = ok' 8) : ∀ (d : Def) (was now : List Node) (path : List Str), chD ok was now path d = chD ok' was now path d
  | .mk n k t v m ks kd, was, now, path => by
    have hs : (fun a b q => chDs ok a b q kd) = (fun a b q => chDs ok' a b q kd) := by
      funext a b q; exact chDs_congr ok ok' h2 h4 h8 kd a b q
    have e1 : nowOk ok (fun a b q => chDs ok a b q kd) (.mk n k t v m ks kd) was path = nowOk ok' (fun a b q => chDs ok' a b q kd) (.mk n k t v m ks kd) was path := by
      funext x; unfold nowOk; rw [h2, h4, hs]
    have e2 : wasOk ok (.mk n k t v m ks kd) now path = wasOk ok' (.mk n k t v m ks kd) now path := by
      funext x; unfold wasOk; rw [h8]
    rw [chD, chD, e1, e2]
theorem chDs_congr (ok ok' : Int → List Str → Bool) (h2 : ok 2 = ok' 2) (h4 : ok 4 = ok' 4) (h8 : ok 8 = ok' 8) : ∀ (l : List Def) (was now : List Node) (path : List Str), chDs ok was now path l = chDs ok' was now path l
  | [], was, now, path => by rw [chDs, chDs]
  | d :: r, was, now, path => by rw [chDs, chDs, chD_congr ok ok' h2 h4 h8 d, chDs_congr ok ok' h2 h4 h8 r]
end
theorem chDs_may (p : Policy) (g : List Str) (l : List Def) (was now : List Node) (path : List Str) : chDs (refMay p g) was now path l = chDs (may p g) was now path l := by
  apply chDs_congr <;> (funext q; exact (may_eq p g _ q (by omega) (by omega)).symm)

theorem sameN_iff {d : Def} {n x : Node} : sameN d n x = true ↔ x.name = n.name ∧ keyD d x = keyD d n := by
  simp [sameN, cmpS_zero]
mutual
/-- Each node has a definition, and there is no other one that is the same. -/
def goodN (l : List Def) (a : List Node) : Node → Prop
  | .mk n v k => ∃ d ∈ l, n = d.name ∧ (∀ y ∈ a, sameN d (.mk n v k) y = true → y = .mk n v k) ∧ goodL d.kids k k
def goodL (l : List Def) (a : List Node) : List Node → Prop
  | [] => True
  | x :: r => goodN l a x ∧ goodL l a r
end
theorem goodN_s {l : List Def} {a : List Node} {x : Node} : goodN l a x ↔ ∃ d ∈ l, x.name = d.name ∧ (∀ y ∈ a, sameN d x y = true → y = x) ∧ goodL d.kids x.kids x.kids := by
  cases x; rw [goodN]; rfl
theorem goodL_iff {l : List Def} {a : List Node} : ∀ {b : List Node}, goodL l a b ↔ ∀ x ∈ b, goodN l a x
  | [] => by simp [goodL]
  | x :: r => by rw [goodL, goodL_iff (b := r)]; simp
mutual
theorem rdE_good (l : List Def) (hw : wfDs l) : ∀ (e : Elem) (d : Def) (n : Node), rdE l e = .ok (d, n) → goodL d.kids n.kids n.kids
  | .mk s nm a t k, d, n, h => by
    rw [rdE] at h
    split at h
    · cases h
    · split at h
      · cases h
      · rename_i d' hd'
        split at h
        · split at h
          · cases h
          · cases h; simp [Node.kids, goodL]
        · split at h
          · cases h
          · split at h
            · cases h
            · rename_i nodes hn
              split at h
              · cases h
                have hwd := wfDs_mem hw (List.mem_of_getElem? hd')
                rw [wfD_s] at hwd
                exact rdL_good _ hwd k [] [] _ (by simp) (by simp) (by simp) hn
              · cases h
theorem rdL_good (l : List Def) (hw : wfDs l) : ∀ (es : List Elem) (out all nodes : List Node), (∀ x ∈ out, x ∈ all) → (∀ x ∈ all, ∃ d ∈ l, x.name = d.name ∧ goodL d.kids x.kids x.kids) →
    (∀ x ∈ all, ∀ y ∈ all, ∀ d ∈ l, x.name = d.name → sameN d x y = true → y = x) → rdL l out all es = .ok nodes → goodL l nodes nodes
  | [], out, all, nodes, h1, h2, h3, h => by
    rw [rdL] at h
    split at h
    · cases h
    · cases h
      rw [goodL_iff]
      intro x hx
      have hxa := h1 x ((order_mem l out).1 hx)
      obtain ⟨d, hd, he, hg⟩ := h2 x hxa
      rw [goodN_s]
      exact ⟨d, hd, he, fun y hy hs => h3 x hxa y (h1 y ((order_mem l out).1 hy)) d hd he hs, hg⟩
  | e :: r, out, all, nodes, h1, h2, h3, h => by
    rw [rdL] at h
    split at h
    · cases h
    · rename_i d n hn
      split at h
      · cases h
      · rename_i hsn
        have hpl := rdE_place hn
        have hgd := rdE_good l hw e d n hn
        have hno : ∀ x ∈ all, sameN d n x = false := by
          intro x hx
          have : sameAt d all n = none := by
            cases hq : sameAt d all n with
            | none => rfl
            | some i => rw [hq] at hsn; simp at hsn
          unfold sameAt at this
          rw [List.findIdx?_eq_none_iff] at this
          exact this x hx
        refine rdL_good l hw r _ _ _ ?_ ?_ ?_ h
        · intro x hx
          split at hx
          · rcases List.mem_append.1 hx with hx | hx
            · exact List.mem_append.2 (.inl (h1 x hx))
            · exact List.mem_append.2 (.inr hx)
          · exact List.mem_append.2 (.inl (h1 x hx))
        · intro x hx
          rcases List.mem_append.1 hx with hx | hx
          · exact h2 x hx
          · rw [List.mem_singleton.1 hx]; exact ⟨d, hpl.1, hpl.2, hgd⟩
        · intro x hx y hy d' hd' he hs
          rcases List.mem_append.1 hx with hx | hx
          · rcases List.mem_append.1 hy with hy | hy
            · exact h3 x hx y hy d' hd' he hs
            · rw [List.mem_singleton.1 hy] at hs ⊢
              obtain ⟨s1, s2⟩ := sameN_iff.1 hs
              have : d' = d := wfDs_inj hw hd' hpl.1 (he.symm.trans (s1.symm.trans hpl.2))
              subst this
              have := hno x hx
              rw [sameN_iff.2 ⟨s1.symm, s2.symm⟩] at this
              cases this
          · rw [List.mem_singleton.1 hx] at hs he ⊢
            rcases List.mem_append.1 hy with hy | hy
            · have : d' = d := wfDs_inj hw hd' hpl.1 (he.symm.trans hpl.2)
              subst this
              rw [hno y hy] at hs
              cases hs
            · exact List.mem_singleton.1 hy
end
theorem wf_schema : wfDs schema := by
  simp [wfDs, wfD, schema, leafD, portD, sName, Def.name]
theorem tree_good {l : List Elem} {n : List Node} (h : tree l = some n) : goodL schema n n := rdL_good _ wf_schema _ _ _ _ (by simp) (by simp) (by simp) (tree_some h).1
theorem sameAt_self {d : Def} {a : List Node} {x : Node} (hx : x ∈ a) (hu : ∀ y ∈ a, sameN d x y = true → y = x) : ∃ i, ∃ hi : i < a.length, sameAt d a x = some i ∧ a[i] = x := by
  cases h : sameAt d a x with
  | none =>
    unfold sameAt at h
    rw [List.findIdx?_eq_none_iff] at h
    have := h x hx
    rw [sameN_iff.2 ⟨rfl, rfl⟩] at this
    cases this
  | some i =>
    have hi := sameAt_lt h
    refine ⟨i, hi, rfl, ?_⟩
    unfold sameAt at h
    rw [List.findIdx?_eq_some_iff_getElem] at h
    exact hu _ (List.getElem_mem hi) h.2.1
theorem good_cond {l : List Def} {a : List Node} (hw : wfDs l) (hg : goodL l a a) : ∀ d ∈ l, ∀ x ∈ a, x.name = d.name → (∀ y ∈ a, sameN d x y = true → y = x) ∧ goodL d.kids x.kids x.kids := by
  intro d hd x hx he
  obtain ⟨d', hd', he', h1, h2⟩ := goodN_s.1 (goodL_iff.1 hg x hx)
  have : d' = d := wfDs_inj hw hd' hd (he'.symm.trans he)
  subst this
  exact ⟨h1, h2⟩
mutual
theorem chD_self (ok : Int → List Str → Bool) : ∀ (d : Def) (a : List Node) (path : List Str), wfD d → (∀ x ∈ a, x.name = d.name → (∀ y ∈ a, sameN d x y = true → y = x) ∧ goodL d.kids x.kids x.kids) → chD ok a a path d = true
  | .mk n k t v m ks kd, a, path, hw, hg => by
    rw [chD, Bool.and_eq_true, List.all_eq_true, List.all_eq_true]
    refine ⟨fun x hx => ?_, fun x hx => ?_⟩
    · unfold nowOk
      by_cases he : x.name = Def.name (.mk n k t v m ks kd)
      · obtain ⟨hu, hgk⟩ := hg x hx he
        obtain ⟨i, hi, hs, hai⟩ := sameAt_self hx hu
        rw [wfD] at hw
        simp only [hs, List.getElem?_eq_getElem hi, hai]
        rw [chDs_self ok kd x.kids _ hw (good_cond hw hgk)]
        simp
      · simp [he]
    · unfold wasOk
      by_cases he : x.name = Def.name (.mk n k t v m ks kd)
      · obtain ⟨hu, hgk⟩ := hg x hx he
        obtain ⟨i, hi, hs, hai⟩ := sameAt_self hx hu
        simp [hs]
      · simp [he]
theorem chDs_self (ok : Int → List Str → Bool) : ∀ (l : List Def) (a : List Node) (path : List Str), wfDs l → (∀ d ∈ l, ∀ x ∈ a, x.name = d.name → (∀ y ∈ a, sameN d x y = true → y = x) ∧ goodL d.kids x.kids x.kids) → chDs ok a a path l = true
  | [], a, path, hw, hg => by rw [chDs]
  | d :: r, a, path, hw, hg => by
    rw [wfDs] at hw
    rw [chDs, chD_self ok d a path hw.2.1 (hg d (by simp)), chDs_self ok r a path hw.2.2 (fun d' hd' => hg d' (by simp [hd']))]
    rfl
end
def eG (g : List Str) : List AV := [lS g]
theorem eG_s (g : List Str) : eG g = [lS g] := nr rfl
theorem eG_len (g : List Str) : (eG g).length = 1 := rfl
instance : EL eG 1 := ⟨eG_len⟩
def three : List (List Str) := [[], [sG], [sH, sG]]
end Go.Abs.SA
end

section
set_option linter.unusedVariables false
set_option linter.unusedSimpArgs false
set_option linter.unusedSectionVars false
set_option maxRecDepth 100000
set_option maxHeartbeats 4000000
set_option linter.unusedSimpArgs false
set_option linter.unusedVariables false
namespace Go.Abs.SA
open Go.Proofs

theorem isDef_spec (d : Def) (k : Str) : pureW XX 33 [aDef d, .fp [vS k]] = some (vB (decide (d.name = k))) := by
  refine pureW_in 8 Tryd.func33 Tryd.ntmps33 (by simp) (rfl : Tryd.f33.body = some _) fns_33 ?_
  simp (maxSteps := 200000) (disch := first | (simp only [go_sem, Nat.reduceAdd, Nat.reduceSub, Nat.reduceMul, Nat.reduceLeDiff, Nat.reduceEqDiff, Nat.reduceLT, Nat.reduceBEq, Nat.reduceBNe, Nat.reducePow, ↓reduceIte]; done) | omega | (simp only [go_sem, Nat.reduceAdd, Nat.reduceSub, Nat.reduceMul, Nat.reduceLeDiff, Nat.reduceEqDiff, Nat.reduceLT, Nat.reduceBEq, Nat.reduceBNe, Nat.reducePow, ↓reduceIte] <;> omega) | fail) only [go_sem, Nat.reduceAdd, Nat.reduceSub, Nat.reduceMul, Nat.reduceLeDiff, Nat.reduceEqDiff, Nat.reduceLT, Nat.reduceBEq, Nat.reduceBNe, Nat.reducePow, ↓reduceIte]
theorem indexDef_spec (l : List Def) (k : Str) (hl : l.length ≤ 140737488355328)  : pureW XX 32 [lD l, .fn 33 [.fp [vS k]]] = some (vI (posI (l.findIdx? fun x => decide (x.name = k)))) := by
  refine pureW_in 19 Tryd.func32 Tryd.ntmps32 (by simp) (rfl : Tryd.f32.body = some _) fns_32 ?_
  simp (maxSteps := 200000) (disch := first | (simp only [go_sem, Nat.reduceAdd, Nat.reduceSub, Nat.reduceMul, Nat.reduceLeDiff, Nat.reduceEqDiff, Nat.reduceLT, Nat.reduceBEq, Nat.reduceBNe, Nat.reducePow, ↓reduceIte]; done) | omega | (simp only [go_sem, Nat.reduceAdd, Nat.reduceSub, Nat.reduceMul, Nat.reduceLeDiff, Nat.reduceEqDiff, Nat.reduceLT, Nat.reduceBEq, Nat.reduceBNe, Nat.reducePow, ↓reduceIte] <;> omega) | fail) only [go_sem, Nat.reduceAdd, Nat.reduceSub, Nat.reduceMul, Nat.reduceLeDiff, Nat.reduceEqDiff, Nat.reduceLT, Nat.reduceBEq, Nat.reduceBNe, Nat.reducePow, ↓reduceIte]
  refine WP_range 2 0 l.length (fun i => S_32_2 (lD l) (.fn 33 [.fp [vS k]]) (vI l.length) (vI i) []) (fun i => (l.findIdx? fun x => decide (x.name = k)) = ((l.drop i).findIdx? fun x => decide (x.name = k)).map (· + i)) rfl rfl ?_ ?_ ?_ ?_
  · simp (maxSteps := 200000) (disch := first | (simp only [go_sem, Nat.reduceAdd, Nat.reduceSub, Nat.reduceMul, Nat.reduceLeDiff, Nat.reduceEqDiff, Nat.reduceLT, Nat.reduceBEq, Nat.reduceBNe, Nat.reducePow, ↓reduceIte]; done) | omega | (simp only [go_sem, Nat.reduceAdd, Nat.reduceSub, Nat.reduceMul, Nat.reduceLeDiff, Nat.reduceEqDiff, Nat.reduceLT, Nat.reduceBEq, Nat.reduceBNe, Nat.reducePow, ↓reduceIte] <;> omega) | fail) only [go_sem, Nat.reduceAdd, Nat.reduceSub, Nat.reduceMul, Nat.reduceLeDiff, Nat.reduceEqDiff, Nat.reduceLT, Nat.reduceBEq, Nat.reduceBNe, Nat.reducePow, ↓reduceIte]; rfl
  · simp
  · intro i h hI
    rw [findIdx_step _ _ h] at hI
    have hk := isDef_spec l[i] k
    cases hv : (fun x => decide (x.name = k)) l[i] with
    | true =>
      simp only at hv
      rw [hv] at hk hI
      simp (maxSteps := 200000) (disch := first | (simp only [go_sem, Nat.reduceAdd, Nat.reduceSub, Nat.reduceMul, Nat.reduceLeDiff, Nat.reduceEqDiff, Nat.reduceLT, Nat.reduceBEq, Nat.reduceBNe, Nat.reducePow, ↓reduceIte]; done) | omega | (simp only [go_sem, Nat.reduceAdd, Nat.reduceSub, Nat.reduceMul, Nat.reduceLeDiff, Nat.reduceEqDiff, Nat.reduceLT, Nat.reduceBEq, Nat.reduceBNe, Nat.reducePow, ↓reduceIte] <;> omega) | fail) only [go_sem, Nat.reduceAdd, Nat.reduceSub, Nat.reduceMul, Nat.reduceLeDiff, Nat.reduceEqDiff, Nat.reduceLT, Nat.reduceBEq, Nat.reduceBNe, Nat.reducePow, ↓reduceIte, nat_int, h, eDef_s, callA_pure mode_33, hk]
      rw [hI]
      simp [posI]
    | false =>
      simp only at hv
      rw [hv] at hk hI
      simp (maxSteps := 200000) (disch := first | (simp only [go_sem, Nat.reduceAdd, Nat.reduceSub, Nat.reduceMul, Nat.reduceLeDiff, Nat.reduceEqDiff, Nat.reduceLT, Nat.reduceBEq, Nat.reduceBNe, Nat.reducePow, ↓reduceIte]; done) | omega | (simp only [go_sem, Nat.reduceAdd, Nat.reduceSub, Nat.reduceMul, Nat.reduceLeDiff, Nat.reduceEqDiff, Nat.reduceLT, Nat.reduceBEq, Nat.reduceBNe, Nat.reducePow, ↓reduceIte] <;> omega) | fail) only [go_sem, Nat.reduceAdd, Nat.reduceSub, Nat.reduceMul, Nat.reduceLeDiff, Nat.reduceEqDiff, Nat.reduceLT, Nat.reduceBEq, Nat.reduceBNe, Nat.reducePow, ↓reduceIte, nat_int, h, eDef_s, callA_pure mode_33, hk, wrap_succ h hl]
      rw [hI]
      simp
      congr 1
      funext x
      simp
      omega
  · intro hI
    simp (maxSteps := 200000) (disch := first | (simp only [go_sem, Nat.reduceAdd, Nat.reduceSub, Nat.reduceMul, Nat.reduceLeDiff, Nat.reduceEqDiff, Nat.reduceLT, Nat.reduceBEq, Nat.reduceBNe, Nat.reducePow, ↓reduceIte]; done) | omega | (simp only [go_sem, Nat.reduceAdd, Nat.reduceSub, Nat.reduceMul, Nat.reduceLeDiff, Nat.reduceEqDiff, Nat.reduceLT, Nat.reduceBEq, Nat.reduceBNe, Nat.reducePow, ↓reduceIte] <;> omega) | fail) only [go_sem, Nat.reduceAdd, Nat.reduceSub, Nat.reduceMul, Nat.reduceLeDiff, Nat.reduceEqDiff, Nat.reduceLT, Nat.reduceBEq, Nat.reduceBNe, Nat.reducePow, ↓reduceIte, nat_int]
    rw [hI]
    simp [posI]
theorem find_spec (l : List Def) (k : Str) (hl : l.length ≤ 140737488355328) : pureW XX 17 [lD l, vS k] = some (vI (posI (place l k))) := by
  refine pureW_in 8 Tryd.func17 Tryd.ntmps17 (by simp) (rfl : Tryd.f17.body = some _) fns_17 ?_
  have hi := indexDef_spec l k hl
  simp (maxSteps := 200000) (disch := first | (simp only [go_sem, Nat.reduceAdd, Nat.reduceSub, Nat.reduceMul, Nat.reduceLeDiff, Nat.reduceEqDiff, Nat.reduceLT, Nat.reduceBEq, Nat.reduceBNe, Nat.reducePow, ↓reduceIte]; done) | omega | (simp only [go_sem, Nat.reduceAdd, Nat.reduceSub, Nat.reduceMul, Nat.reduceLeDiff, Nat.reduceEqDiff, Nat.reduceLT, Nat.reduceBEq, Nat.reduceBNe, Nat.reducePow, ↓reduceIte] <;> omega) | fail) only [go_sem, Nat.reduceAdd, Nat.reduceSub, Nat.reduceMul, Nat.reduceLeDiff, Nat.reduceEqDiff, Nat.reduceLT, Nat.reduceBEq, Nat.reduceBNe, Nat.reducePow, ↓reduceIte, callA_pure mode_32, hi]
  rfl

/-! Picks. -/
inductive Pk where
  | nil
  | mk (all : Bool) (kids : List Pk)
  deriving Inhabited
mutual
def aPk : Pk → AV
  | .nil => .v (.pointer none)
  | .mk a k => .fp [vB a, .fs (ePks k) false]
def ePks : List Pk → List (List AV)
  | [] => []
  | p :: r => [aPk p] :: ePks r
end
def ePk (p : Pk) : List AV := [aPk p]
theorem ePks_map : ∀ (l : List Pk), ePks l = l.map ePk
  | [] => by rw [ePks]; rfl
  | p :: r => by rw [ePks, ePks_map r]; rfl
theorem ePk_len (p : Pk) : (ePk p).length = 1 := rfl
theorem ePk_s (p : Pk) : ePk p = [aPk p] := nr rfl
theorem aPk_nil : aPk .nil = .v (.pointer none) := by rw [aPk]
theorem aPk_mk (a : Bool) (k : List Pk) : aPk (.mk a k) = .fp [vB a, .fs (k.map ePk) false] := by rw [aPk, ePks_map]
attribute [go_sem] ePk_len
instance : EL ePk 1 := ⟨ePk_len⟩
abbrev lP (l : List Pk) : AV := .fs (l.map ePk) false
theorem aPk_lt (n : Nat) (p : Pk) : AV.lt n (aPk p) = true := by cases p <;> (rw [aPk]; rfl)
theorem aPk_frz (h : List Blk) (k : Nat) (p : Pk) : frz h k (aPk p) = some (aPk p) := by cases p <;> (rw [aPk]; first | exact frz_v .. | exact frz_fp ..)
theorem aPk_cells (p : Pk) : (aPk p).cells? = some [aPk p] := by cases p <;> (rw [aPk]; rfl)
theorem aPk_norm (p : Pk) : normC (aPk p) = aPk p := by cases p <;> (rw [aPk]; rfl)
theorem aPk_ids (p : Pk) : idsOf (aPk p) = [] := by cases p <;> (rw [aPk]; rfl)
theorem aPk_sub (hm : List Blk) (is : List Nat) (p : Pk) : AV.sub hm is (aPk p) = aPk p := by cases p <;> (rw [aPk]; first | exact sub_v .. | exact sub_fp ..)
theorem aPk_ren (f : Nat → Option Nat) (p : Pk) : AV.ren f (aPk p) = aPk p := by cases p <;> (rw [aPk]; first | exact ren_v .. | exact ren_fp ..)
theorem set_P (l : List Pk) (i : Nat) (p : Pk) : (l.map ePk).set i [aPk p] = (l.set i p).map ePk := by rw [List.map_set]; rfl
theorem mk_P (k : List Pk) : AV.fp [.v (.bool false), .fs (k.map ePk) false] = aPk (.mk false k) := (aPk_mk false k).symm
attribute [go_sem] aPk_lt aPk_frz aPk_cells aPk_norm aPk_ids aPk_sub aPk_ren set_P
abbrev wholeP : Pk := .mk true []
end Go.Abs.SA
end

section
set_option linter.unusedVariables false
set_option linter.unusedSimpArgs false
set_option linter.unusedSectionVars false
set_option maxRecDepth 100000
set_option maxHeartbeats 4000000
set_option linter.unusedSimpArgs false
set_option linter.unusedVariables false
namespace Go.Abs.SA
open Go.Proofs

/-! No node stands twice in a tree that was read. -/
mutual
def ndN : Node → Prop
  | .mk _ _ k => k.Nodup ∧ ndL k
def ndL : List Node → Prop
  | [] => True
  | x :: r => ndN x ∧ ndL r
end
theorem ndN_s {n : Node} : ndN n ↔ n.kids.Nodup ∧ ndL n.kids := by cases n; rw [ndN]; rfl
theorem ndL_iff : ∀ {l : List Node}, ndL l ↔ ∀ x ∈ l, ndN x
  | [] => by simp [ndL]
  | x :: r => by rw [ndL, ndL_iff (l := r)]; simp
theorem ins_perm (l : List Def) (out : List Node) (n : Node) : (ins l out n).Perm (n :: out) := by
  unfold ins
  refine List.perm_middle.trans ?_
  rw [List.take_append_drop]
theorem foldl_ins_perm (l : List Def) : ∀ (ns out : List Node), (ns.foldl (ins l) out).Perm (ns ++ out)
  | [], out => by simp
  | n :: r, out => by
    rw [List.foldl_cons]
    refine (foldl_ins_perm l r _).trans ?_
    refine ((ins_perm l out n).append_left r).trans ?_
    rw [List.cons_append]
    exact List.perm_middle
theorem order_perm (l : List Def) (ns : List Node) : (order l ns).Perm ns := by
  have := foldl_ins_perm l ns []
  rwa [List.append_nil] at this
mutual
theorem rdE_nd (l : List Def) : ∀ (e : Elem) (d : Def) (n : Node), rdE l e = .ok (d, n) → ndN n
  | .mk s nm a t k, d, n, h => by
    rw [rdE] at h
    split at h
    · cases h
    · split at h
      · cases h
      · split at h
        · split at h
          · cases h
          · cases h; simp [ndN, ndL]
        · split at h
          · cases h
          · split at h
            · cases h
            · rename_i d' _ _ _ nodes hn
              split at h
              · cases h
                rw [ndN]
                exact rdL_nd _ k [] [] _ (by simp) (by simp) (by simp [ndL]) hn
              · cases h
theorem rdL_nd (l : List Def) : ∀ (es : List Elem) (out all nodes : List Node), out.Nodup → (∀ x ∈ out, x ∈ all) → ndL out → rdL l out all es = .ok nodes → nodes.Nodup ∧ ndL nodes
  | [], out, all, nodes, h1, h2, h3, h => by
    rw [rdL] at h
    split at h
    · cases h
    · cases h
      refine ⟨(order_perm l out).nodup_iff.2 h1, ?_⟩
      rw [ndL_iff] at h3 ⊢
      exact fun x hx => h3 x ((order_mem l out).1 hx)
  | e :: r, out, all, nodes, h1, h2, h3, h => by
    rw [rdL] at h
    split at h
    · cases h
    · rename_i d n hn
      split at h
      · cases h
      · rename_i hsn
        have hnd := rdE_nd l e d n hn
        have hno : n ∉ all := by
          intro hx
          have : sameAt d all n = none := by
            cases hq : sameAt d all n with
            | none => rfl
            | some i => rw [hq] at hsn; simp at hsn
          unfold sameAt at this
          rw [List.findIdx?_eq_none_iff] at this
          have := this n hx
          rw [sameN_iff.2 ⟨rfl, rfl⟩] at this
          cases this
        refine rdL_nd l r _ _ _ ?_ ?_ ?_ h
        · split
          · rw [List.nodup_append]
            refine ⟨h1, by simp, fun a ha b hb => ?_⟩
            rw [List.mem_singleton] at hb
            subst hb
            rintro rfl
            exact hno (h2 _ ha)
          · exact h1
        · intro x hx
          split at hx
          · rcases List.mem_append.1 hx with hx | hx
            · exact List.mem_append.2 (.inl (h2 x hx))
            · exact List.mem_append.2 (.inr hx)
          · exact List.mem_append.2 (.inl (h2 x hx))
        · split
          · rw [ndL_iff] at h3 ⊢
            intro x hx
            rcases List.mem_append.1 hx with hx | hx
            · exact h3 x hx
            · rw [List.mem_singleton.1 hx]; exact hnd
          · exact h3
end
theorem tree_nd {l : List Elem} {n : List Node} (h : tree l = some n) : n.Nodup ∧ ndL n := rdL_nd _ _ _ _ _ (by simp) (by simp) (by simp [ndL]) (tree_some h).1

/-! Entries have their keys. -/
theorem rdE_key {l : List Def} {e : Elem} {d : Def} {n : Node} (h : rdE l e = .ok (d, n)) (hk : d.kind ≠ 3) : (keyOf d n).isSome = true := by
  rw [rdE_s] at h
  split at h
  · cases h
  · split at h
    · cases h
    · split at h
      · split at h
        · cases h
        · cases h; contradiction
      · split at h
        · cases h
        · split at h
          · cases h
          · split at h
            · rename_i hs; cases h; exact hs
            · cases h
theorem rdL_key (l : List Def) (hw : wfDs l) : ∀ (es : List Elem) (out all nodes : List Node), (∀ x ∈ out, ∀ d ∈ l, x.name = d.name → d.kind ≠ 3 → (keyOf d x).isSome = true) → rdL l out all es = .ok nodes → ∀ x ∈ nodes, ∀ d ∈ l, x.name = d.name → d.kind ≠ 3 → (keyOf d x).isSome = true
  | [], out, all, nodes, h1, h => by
    rw [rdL] at h
    split at h
    · cases h
    · cases h
      exact fun x hx => h1 x ((order_mem l out).1 hx)
  | e :: r, out, all, nodes, h1, h => by
    rw [rdL] at h
    split at h
    · cases h
    · rename_i d n hn
      split at h
      · cases h
      · refine rdL_key l hw r _ _ _ ?_ h
        intro x hx
        split at hx
        · rcases List.mem_append.1 hx with hx | hx
          · exact h1 x hx
          · rw [List.mem_singleton.1 hx]
            intro d' hd' he hk
            have hpl := rdE_place hn
            have := wfDs_inj hw hd' hpl.1 (he.symm.trans hpl.2)
            subst this
            exact rdE_key hn hk
        · exact h1 x hx
theorem tree_key {l : List Elem} {n : List Node} (h : tree l = some n) : ∀ x ∈ n, ∀ d ∈ schema, x.name = d.name → d.kind ≠ 3 → (keyOf d x).isSome = true := rdL_key _ wf_schema _ _ _ _ (by simp) (tree_some h).1
end Go.Abs.SA
end

section
set_option linter.unusedVariables false
set_option linter.unusedSimpArgs false
set_option linter.unusedSectionVars false
set_option maxRecDepth 100000
set_option maxHeartbeats 4000000
set_option linter.unusedSimpArgs false
set_option linter.unusedVariables false
namespace Go.Abs.SA
open Go.Proofs

mutual
/-- A node as an element. -/
def elemN (sp : Str) : Node → Elem
  | .mk n v k => .mk sp n [] v (elemL sp k)
def elemL (sp : Str) : List Node → List Elem
  | [] => []
  | x :: r => elemN sp x :: elemL sp r
end
theorem elemL_map (sp : Str) : ∀ (l : List Node), elemL sp l = l.map (elemN sp)
  | [] => by rw [elemL]; rfl
  | x :: r => by rw [elemL, elemL_map sp r]; rfl
theorem elemN_s (sp : Str) (n : Node) : elemN sp n = .mk sp n.name [] n.value (n.kids.map (elemN sp)) := by cases n; rw [elemN, elemL_map]; rfl
theorem snoc_E0 (l : List Elem) (s n t : Str) (k : List Elem) : l.map eElem ++ [[vS s, vS n, .fs [] false, vS t, .fs (k.map eElem) false]] = (l ++ [Elem.mk s n [] t k]).map eElem := by
  simp [eElem_s, Elem.space, Elem.name, Elem.attrs, Elem.text, Elem.kids]
theorem elems_spec (sp : Str) : ∀ (n : Nat) (l : List Node), cntL l < n → n ≤ 1000000 → pureW XX 14 [lN l, vS sp] = some (lE (l.map (elemN sp))) := by
  intro n
  induction n with
  | zero => intro l h; omega
  | succ n ih =>
    intro l hc hn
    have hl := len_cnt l
    refine pureW_in 29 Tryd.func14 Tryd.ntmps14 (by simp) (rfl : Tryd.f14.body = some _) fns_14 ?_
    simp (maxSteps := 200000) (disch := first | (simp only [go_sem, Nat.reduceAdd, Nat.reduceSub, Nat.reduceMul, Nat.reduceLeDiff, Nat.reduceEqDiff, Nat.reduceLT, Nat.reduceBEq, Nat.reduceBNe, Nat.reducePow, ↓reduceIte]; done) | omega | (simp only [go_sem, Nat.reduceAdd, Nat.reduceSub, Nat.reduceMul, Nat.reduceLeDiff, Nat.reduceEqDiff, Nat.reduceLT, Nat.reduceBEq, Nat.reduceBNe, Nat.reducePow, ↓reduceIte] <;> omega) | fail) only [go_sem, Nat.reduceAdd, Nat.reduceSub, Nat.reduceMul, Nat.reduceLeDiff, Nat.reduceEqDiff, Nat.reduceLT, Nat.reduceBEq, Nat.reduceBNe, Nat.reducePow, ↓reduceIte]
    refine WP_range 3 1 l.length (fun i => S_14_3 (vS sp) (.sl 0 0 i false) (lN l) (vI l.length) (vI i) [.arr 54 5 (((l.take i).map (elemN sp)).map eElem)]) (fun _ => True) rfl rfl ?_ ?_ ?_ ?_
    · simp (maxSteps := 200000) (disch := first | (simp only [go_sem, Nat.reduceAdd, Nat.reduceSub, Nat.reduceMul, Nat.reduceLeDiff, Nat.reduceEqDiff, Nat.reduceLT, Nat.reduceBEq, Nat.reduceBNe, Nat.reducePow, ↓reduceIte]; done) | omega | (simp only [go_sem, Nat.reduceAdd, Nat.reduceSub, Nat.reduceMul, Nat.reduceLeDiff, Nat.reduceEqDiff, Nat.reduceLT, Nat.reduceBEq, Nat.reduceBNe, Nat.reducePow, ↓reduceIte] <;> omega) | fail) only [go_sem, Nat.reduceAdd, Nat.reduceSub, Nat.reduceMul, Nat.reduceLeDiff, Nat.reduceEqDiff, Nat.reduceLT, Nat.reduceBEq, Nat.reduceBNe, Nat.reducePow, ↓reduceIte]; rfl
    · trivial
    · intro i h _
      have hk := ih l[i].kids (by have := cnt_kids h; omega) (by omega)
      have ht : (l.take (i + 1)).map (elemN sp) = (l.take i).map (elemN sp) ++ [Elem.mk sp l[i].name [] l[i].value (l[i].kids.map (elemN sp))] := by
        rw [List.take_succ_eq_append_getElem h, List.map_append, List.map_cons, List.map_nil, elemN_s]
      rw [ht]
      have hbl : ((l.take i).map (elemN sp)).length = i := by simp; omega
      generalize (l.take i).map (elemN sp) = base at *
      simp (maxSteps := 200000) (disch := first | (simp only [go_sem, Nat.reduceAdd, Nat.reduceSub, Nat.reduceMul, Nat.reduceLeDiff, Nat.reduceEqDiff, Nat.reduceLT, Nat.reduceBEq, Nat.reduceBNe, Nat.reducePow, ↓reduceIte]; done) | omega | (simp only [go_sem, Nat.reduceAdd, Nat.reduceSub, Nat.reduceMul, Nat.reduceLeDiff, Nat.reduceEqDiff, Nat.reduceLT, Nat.reduceBEq, Nat.reduceBNe, Nat.reducePow, ↓reduceIte] <;> omega) | fail) only [go_sem, Nat.reduceAdd, Nat.reduceSub, Nat.reduceMul, Nat.reduceLeDiff, Nat.reduceEqDiff, Nat.reduceLT, Nat.reduceBEq, Nat.reduceBNe, Nat.reducePow, ↓reduceIte, nat_int, h, eNode_s, callA_data mode_14, hk, snoc_E0, wrap_succ h (show l.length ≤ 140737488355328 by omega)]
    · intro _
      simp (maxSteps := 200000) (disch := first | (simp only [go_sem, Nat.reduceAdd, Nat.reduceSub, Nat.reduceMul, Nat.reduceLeDiff, Nat.reduceEqDiff, Nat.reduceLT, Nat.reduceBEq, Nat.reduceBNe, Nat.reducePow, ↓reduceIte]; done) | omega | (simp only [go_sem, Nat.reduceAdd, Nat.reduceSub, Nat.reduceMul, Nat.reduceLeDiff, Nat.reduceEqDiff, Nat.reduceLT, Nat.reduceBEq, Nat.reduceBNe, Nat.reducePow, ↓reduceIte] <;> omega) | fail) only [go_sem, Nat.reduceAdd, Nat.reduceSub, Nat.reduceMul, Nat.reduceLeDiff, Nat.reduceEqDiff, Nat.reduceLT, Nat.reduceBEq, Nat.reduceBNe, Nat.reducePow, ↓reduceIte, nat_int, List.take_length]
end Go.Abs.SA
end
