/- YtmjhgjgfinhiaaaGreatDoorA5: a part of the interpreter by which the claim is shown, and of the walks: no conditions of its own: every theorem states its own. -/
import Derived.Test.YtmjhgjgfinhiaaaGreatDoorA4
set_option linter.unusedVariables false
set_option linter.unusedSimpArgs false
set_option linter.unusedSectionVars false
set_option maxHeartbeats 4000000
set_option maxRecDepth 100000
section
namespace Go.Abs.SA
open Go.Proofs
abbrev Str := ByteArray
abbrev vS (s : Str) : AV := .v (.string s)
abbrev vI (n : Int) : AV := .v (.int .i64 n)
abbrev vB (b : Bool) : AV := .v (.bool b)
abbrev eS (s : Str) : List AV := [vS s]
abbrev lS (l : List Str) : AV := .fs (l.map eS) false
theorem eS_len (s : Str) : (eS s).length = 1 := rfl
attribute [go_sem] eS_len
instance : EL eS 1 := ⟨eS_len⟩
theorem snoc_S (l : List Str) (x : Str) : l.map eS ++ [[.v (.string x)]] = (l ++ [x]).map eS := by simp
attribute [go_sem] snoc_S
def posI : Option Nat → Int
  | some i => i
  | none => -1
theorem nat_int {i n : Nat} : ((i : Int) < (n : Int)) = (i < n) := propext (by omega)
theorem nat_int_ne {i n : Nat} : ((i : Int) ≠ (n : Int)) = (i ≠ n) := propext (by omega)
def has (l : List Str) (v : Str) : Bool := l.any fun x => decide (v = x)
theorem has_iff {l : List Str} {v : Str} : has l v = true ↔ v ∈ l := by simp [has]
theorem index_spec (xs : List Str) (v : Str) (hl : xs.length ≤ 140737488355328) : pureW XX 142 [lS xs, vS v] = some (vI (posI (xs.findIdx? (v = ·)))) := by
  refine pureW_in 19 Tryz.func142 Tryz.ntmps142 (by simp) (rfl : Tryz.f142.body = some _) fns_142 ?_
  simp only [go_sem]
  refine WP_range 2 0 xs.length (fun i => S_142_2 (lS xs) (vS v) (vI xs.length) (vI i) []) (fun i => xs.findIdx? (v = ·) = ((xs.drop i).findIdx? (v = ·)).map (· + i)) rfl rfl ?_ ?_ ?_ ?_
  · simp only [go_sem]; rfl
  · simp
  · intro i h hI
    rw [List.drop_eq_getElem_cons h, List.findIdx?_cons] at hI
    by_cases hv : v = xs[i]
    · simp only [go_sem, nat_int, h, ← hv]
      rw [hI]
      simp [← hv, posI]
    · simp only [go_sem, nat_int, h, hv, wrap_succ h hl]
      rw [hI]
      simp [hv]
      congr 1
      funext x
      simp
      omega
  · intro hI
    simp only [go_sem, nat_int, Nat.lt_irrefl]
    rw [hI]
    simp [posI]
theorem posI_geq (o : Option Nat) : (0 ≤ posI o) = (o.isSome = true) := by
  cases o <;> simp [posI]
theorem contains_spec (xs : List Str) (v : Str) (hl : xs.length ≤ 140737488355328) : pureW XX 117 [lS xs, vS v] = some (vB (has xs v)) := by
  refine pureW_in 9 Tryz.func117 Tryz.ntmps117 (by simp) (rfl : Tryz.f117.body = some _) fns_117 ?_
  simp only [go_sem, callA_pure mode_142, index_spec _ _ hl, pureR, AV.scalar, posI_geq]
  simp [has]
theorem drop_eq {α : Type} {xs ys : List α} {i : Nat} (h1 : i < xs.length) (h2 : i < ys.length) : (xs.drop i = ys.drop i) = (xs[i] = ys[i] ∧ xs.drop (i + 1) = ys.drop (i + 1)) := by
  rw [List.drop_eq_getElem_cons h1, List.drop_eq_getElem_cons h2, List.cons.injEq]
theorem equal_spec (xs ys : List Str) (hl : xs.length ≤ 140737488355328) : pureW XX 111 [lS xs, lS ys] = some (vB (decide (xs = ys))) := by
  refine pureW_in 26 Tryz.func111 Tryz.ntmps111 (by simp) (rfl : Tryz.f111.body = some _) fns_111 ?_
  by_cases hn : xs.length = ys.length
  · simp only [go_sem, nat_int_ne, hn, ne_eq, not_true]
    refine WP_range 4 0 ys.length (fun i => S_111_4 (lS xs) (lS ys) (vI xs.length) (vI i) []) (fun i => (xs = ys) = (xs.drop i = ys.drop i)) rfl rfl ?_ ?_ ?_ ?_
    · simp only [go_sem]; rw [hn]; rfl
    · simp
    · intro i h hI
      rw [drop_eq (by omega) h] at hI
      by_cases hv : xs[i] = ys[i]
      · simp only [go_sem, nat_int, h, hn, hv, ne_eq, not_true, wrap_succ h (hn ▸ hl)]
        simp [hI, hv]
      · simp only [go_sem, nat_int, h, hn, hv, ne_eq, not_false_eq_true]
        simp [hI, hv]
    · intro hI
      simp only [go_sem, nat_int, hn, Nat.lt_irrefl]
      simp [hI, List.drop_of_length_le (Nat.le_of_eq hn)]
  · have hne : xs ≠ ys := fun e => hn (by rw [e])
    simp only [go_sem, nat_int_ne, hn, ne_eq, not_false_eq_true, hne]
end Go.Abs.SA
end
section
namespace Go.Abs.SA
open Go.Proofs
theorem has_spec (xs : List Str) (v : Str) (hl : xs.length ≤ 140737488355328) : pureW XX 96 [lS xs, vS v] = some (vB (has xs v)) := by
  refine pureW_in 18 Tryz.func96 Tryz.ntmps96 (by simp) (rfl : Tryz.f96.body = some _) fns_96 ?_
  simp only [go_sem]
  refine WP_range 2 0 xs.length (fun i => S_96_2 (lS xs) (vS v) (vI i) []) (fun i => has xs v = has (xs.drop i) v) rfl rfl ?_ ?_ ?_ ?_
  · simp only [go_sem]; rfl
  · simp
  · intro i h hI
    rw [List.drop_eq_getElem_cons h] at hI
    by_cases hv : xs[i] = v
    · simp only [go_sem, nat_int, h, hv]
      rw [hI]; simp [has, hv]
    · simp only [go_sem, nat_int, h, hv, wrap_succ h hl]
      rw [hI, has, List.any_cons, decide_eq_false (Ne.symm hv), Bool.false_or]; rfl
  · intro hI
    simp only [go_sem, nat_int, Nat.lt_irrefl]
    rw [hI]; simp [has]
end Go.Abs.SA
end
section
namespace Go.Abs.SA
open Go.Proofs
structure Rule where
  group : Str
  rights : Int
  path : List Str
  permit : Bool
structure Policy where
  rules : List Rule
  read : Bool
  write : Bool
def eRule (r : Rule) : List AV := [vS r.group, vI r.rights, lS r.path, vB r.permit]
theorem eRule_len (r : Rule) : (eRule r).length = 4 := rfl
theorem eS_s (s : Str) : eS s = [vS s] := nr rfl
attribute [go_sem] eRule_len
instance : EL eRule 4 := ⟨eRule_len⟩
inductive Node where
  | mk (name value : Str) (kids : List Node)
def Node.name : Node → Str | .mk n _ _ => n
def Node.value : Node → Str | .mk _ v _ => v
def Node.kids : Node → List Node | .mk _ _ k => k
mutual
def eNode : Node → List AV
  | .mk n v k => [vS n, vS v, .fs (eNodes k) false]
def eNodes : List Node → List (List AV)
  | [] => []
  | n :: r => eNode n :: eNodes r
end
theorem eNodes_map : ∀ (l : List Node), eNodes l = l.map eNode
  | [] => rfl
  | n :: r => by simp [eNodes, eNodes_map r]
theorem eNode_s (n : Node) : eNode n = [vS n.name, vS n.value, .fs (n.kids.map eNode) false] := by
  cases n; simp [eNode, eNodes_map, Node.name, Node.value, Node.kids]
theorem eNode_len (n : Node) : (eNode n).length = 3 := by rw [eNode_s]; rfl
attribute [go_sem] eNode_len
instance : EL eNode 3 := ⟨eNode_len⟩
theorem snoc_N (l : List Node) (a b : Str) (k : List Node) : l.map eNode ++ [[.v (.string a), .v (.string b), .fs (k.map eNode) false]] = (l ++ [Node.mk a b k]).map eNode := by
  simp [eNode_s, Node.name, Node.value, Node.kids]
attribute [go_sem] snoc_N
abbrev lN (l : List Node) : AV := .fs (l.map eNode) false
def Rule.says (groups : List Str) (right : Int) (path : List Str) (r : Rule) : Bool :=
  decide (bitI .and .i64 r.rights right ≠ 0) && (decide (r.group = ⟨#[]⟩) || has groups r.group) && decide (r.path <+: path)
def may (p : Policy) (groups : List Str) (right : Int) (path : List Str) : Bool :=
  match p.rules.find? (Rule.says groups right path) with
  | some r => r.permit
  | none => if right = 1 then p.read else p.write
structure Policy.ok (p : Policy) : Prop where
  len : p.rules.length ≤ 140737488355328
  path : ∀ r ∈ p.rules, r.path.length ≤ 140737488355328
end Go.Abs.SA
end
section
namespace Go.Abs.SA
open Go.Proofs
noncomputable instance : DecidableEq Node := fun a b => Classical.propDecidable (a = b)
mutual
def cntN : Node → Nat
  | .mk _ _ k => 1 + cntL k
def cntL : List Node → Nat
  | [] => 0
  | x :: r => cntN x + cntL r
end
theorem cntN_s (n : Node) : cntN n = 1 + cntL n.kids := by cases n; simp [cntN, Node.kids]
theorem cntL_cons (x : Node) (r : List Node) : cntL (x :: r) = cntN x + cntL r := by simp [cntL]
theorem len_cnt : ∀ (l : List Node), l.length ≤ cntL l
  | [] => Nat.zero_le _
  | x :: r => by have := len_cnt r; have := cntN_s x; rw [cntL_cons, List.length_cons]; omega
theorem cnt_mem : ∀ {l : List Node} {x : Node}, x ∈ l → cntN x ≤ cntL l
  | y :: r, x, h => by
    rw [cntL_cons]
    rcases List.mem_cons.1 h with rfl | h
    · omega
    · have := cnt_mem h; omega
theorem cnt_kids {l : List Node} {i : Nat} (h : i < l.length) : cntL l[i].kids < cntL l := by
  have := cnt_mem (List.getElem_mem h); rw [cntN_s] at this; omega
theorem node_eq (a b : Node) : (a = b) = (a.name = b.name ∧ a.value = b.value ∧ a.kids = b.kids) := by
  cases a; cases b; simp [Node.name, Node.value, Node.kids]
theorem refEqual_spec : ∀ (n : Nat) (a b : List Node), cntL a < n → n ≤ 140737488355328 → pureW XX 40 [lN a, lN b] = some (vB (decide (a = b))) := by
  intro n
  induction n with
  | zero => intro a b h _; omega
  | succ n ih =>
    intro a b hc hB
    have hl : a.length ≤ 140737488355328 := by have := len_cnt a; omega
    refine pureW_in 55 Tryz.func40 Tryz.ntmps40 (by simp) (rfl : Tryz.f40.body = some _) fns_40 ?_
    by_cases hn : a.length = b.length
    · simp (maxSteps := 200000) (disch := first | omega | (simp only [go_sem] <;> omega) | fail) only [go_sem, nat_int_ne, hn, ne_eq, not_true]
      refine WP_range 4 0 b.length (fun i => S_40_4 (lN a) (lN b) (vI i) []) (fun i => (a = b) = (a.drop i = b.drop i)) rfl rfl ?_ ?_ ?_ ?_
      · simp (maxSteps := 200000) (disch := first | omega | (simp only [go_sem] <;> omega) | fail) only [go_sem]; rfl
      · simp
      · intro i h hI
        have h2 : i < a.length := by omega
        rw [drop_eq h2 h, node_eq a[i] b[i]] at hI
        have hk := ih a[i].kids b[i].kids (by have := cnt_kids h2; omega) (by omega)
        by_cases h3 : a[i].name = b[i].name
        · by_cases h4 : a[i].value = b[i].value
          · by_cases h5 : a[i].kids = b[i].kids
            · rw [decide_eq_true h5] at hk
              simp (maxSteps := 200000) (disch := first | omega | (simp only [go_sem] <;> omega) | fail) only [go_sem, nat_int, h, h2, hn, eNode_s, h3, h4, ne_eq, not_true, not_false_eq_true, wrap_succ h2 hl, callA_pure mode_40, hk]
              simp only [hI, h3, h4, h5, true_and]
            · rw [decide_eq_false h5] at hk
              simp (maxSteps := 200000) (disch := first | omega | (simp only [go_sem] <;> omega) | fail) only [go_sem, nat_int, h, h2, hn, eNode_s, h3, h4, ne_eq, not_true, not_false_eq_true, wrap_succ h2 hl, callA_pure mode_40, hk]
              simp [hI, h5]
          · simp (maxSteps := 200000) (disch := first | omega | (simp only [go_sem] <;> omega) | fail) only [go_sem, nat_int, h, h2, hn, eNode_s, h3, h4, ne_eq, not_true, not_false_eq_true, wrap_succ h2 hl]
            simp [hI, h4]
        · simp (maxSteps := 200000) (disch := first | omega | (simp only [go_sem] <;> omega) | fail) only [go_sem, nat_int, h, h2, hn, eNode_s, h3, ne_eq, not_true, not_false_eq_true, wrap_succ h2 hl]
          simp [hI, h3]
      · intro hI
        simp (maxSteps := 200000) (disch := first | omega | (simp only [go_sem] <;> omega) | fail) only [go_sem, nat_int, hn, Nat.lt_irrefl]
        simp [hI, List.drop_of_length_le (Nat.le_of_eq hn)]
    · have hne : a ≠ b := fun e => hn (by rw [e])
      simp (maxSteps := 200000) (disch := first | omega | (simp only [go_sem] <;> omega) | fail) only [go_sem, nat_int_ne, hn, ne_eq, not_false_eq_true, hne]
end Go.Abs.SA
end
section
namespace Go.Abs.SA
open Go.Proofs
end Go.Abs.SA
end
section
namespace Go.Abs.SA
open Go.Proofs
end Go.Abs.SA
end
section
namespace Go.Abs.SA
open Go.Proofs
end Go.Abs.SA
end
section
namespace Go.Abs.SA
open Go.Proofs
inductive Elem where
  | mk (space name : Str) (attrs : List (Str × Str)) (text : Str) (kids : List Elem)
def Elem.space : Elem → Str | .mk s _ _ _ _ => s
def Elem.name : Elem → Str | .mk _ n _ _ _ => n
def Elem.attrs : Elem → List (Str × Str) | .mk _ _ a _ _ => a
def Elem.text : Elem → Str | .mk _ _ _ t _ => t
def Elem.kids : Elem → List Elem | .mk _ _ _ _ k => k
def eAttr (a : Str × Str) : List AV := [vS a.1, vS a.2]
mutual
def eElem : Elem → List AV
  | .mk s n a t k => [vS s, vS n, .fs (a.map eAttr) false, vS t, .fs (eElems k) false]
def eElems : List Elem → List (List AV)
  | [] => []
  | e :: r => eElem e :: eElems r
end
theorem eElems_map : ∀ (l : List Elem), eElems l = l.map eElem
  | [] => rfl
  | n :: r => by simp [eElems, eElems_map r]
theorem eElem_s (e : Elem) : eElem e = [vS e.space, vS e.name, .fs (e.attrs.map eAttr) false, vS e.text, .fs (e.kids.map eElem) false] := by
  cases e; simp [eElem, eElems_map, Elem.space, Elem.name, Elem.attrs, Elem.text, Elem.kids]
theorem eElem_len (e : Elem) : (eElem e).length = 5 := by rw [eElem_s]; rfl
attribute [go_sem] eElem_len
instance : EL eElem 5 := ⟨eElem_len⟩
abbrev lE (l : List Elem) : AV := .fs (l.map eElem) false
mutual
def okE : Elem → Prop
  | .mk s n a t k => s.size ≤ 140737488355328 ∧ n.size ≤ 140737488355328 ∧ a.length ≤ 140737488355328 ∧ t.size ≤ 140737488355328 ∧ k.length ≤ 140737488355328 ∧ okEs k
def okEs : List Elem → Prop
  | [] => True
  | e :: r => okE e ∧ okEs r
end
theorem okEs_mem : ∀ {l : List Elem} {e : Elem}, okEs l → e ∈ l → okE e
  | x :: r, e, h, hm => by
    simp only [okEs] at h
    rcases List.mem_cons.1 hm with rfl | hm
    · exact h.1
    · exact okEs_mem h.2 hm
theorem okE_s {e : Elem} (h : okE e) : e.space.size ≤ 140737488355328 ∧ e.name.size ≤ 140737488355328 ∧ e.attrs.length ≤ 140737488355328 ∧ e.text.size ≤ 140737488355328 ∧ e.kids.length ≤ 140737488355328 ∧ okEs e.kids := by
  cases e; simpa [okE, Elem.space, Elem.name, Elem.attrs, Elem.text, Elem.kids] using h
def wE (e : Elem) : Nat := 1 + (e.text.size + e.space.size + e.name.size) / 50 + e.attrs.length
mutual
def smallN (n : Int) : Elem → Int
  | .mk s nm a t k => if n - wE (.mk s nm a t k) < 0 then n - wE (.mk s nm a t k) else smallL (n - wE (.mk s nm a t k)) k
def smallL (n : Int) : List Elem → Int
  | [] => n
  | e :: r => if n - wE e < 0 then n - wE e else smallL (smallN n e) r
end
theorem smallN_s (n : Int) (e : Elem) : smallN n e = if n - wE e < 0 then n - wE e else smallL (n - wE e) e.kids := by
  cases e; simp only [smallN, Elem.kids]
end Go.Abs.SA
end
