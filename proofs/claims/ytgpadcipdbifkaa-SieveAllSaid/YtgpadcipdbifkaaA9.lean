/- YtgpadcipdbifkaaA9: a part of the interpreter by which the claim is shown, and of the walks: no conditions of its own: every theorem states its own. -/
import Derived.Test.YtgpadcipdbifkaaA8
section
set_option linter.unusedVariables false
set_option linter.unusedSimpArgs false
set_option maxRecDepth 100000
set_option maxHeartbeats 4000000
set_option linter.unusedSimpArgs false
set_option linter.unusedVariables false
namespace Go.Abs.SA
open Go.Proofs

theorem nodeEq_spec (x y : Node) (ih : pureW XX 21 [lN x.kids, lN y.kids] = some (vB (decide (x.kids = y.kids)))) : pureW XX 41 [aNode x, aNode y] = some (vB (decide (x = y))) := by
  refine pureW_in 24 Try.func41 Try.ntmps41 (by simp) (rfl : Try.f41.body = some _) fns_41 ?_
  rw [show decide (x = y) = decide (x.name = y.name ∧ x.value = y.value ∧ x.kids = y.kids) from decide_eq_decide.2 (by rw [node_eq])]
  by_cases h1 : x.name = y.name
  · have h1' := eq_true h1
    by_cases h2 : x.value = y.value
    · have h2' := eq_true h2
      by_cases h3 : x.kids = y.kids
      · have h3' := eq_true h3
        rw [decide_eq_true h3] at ih
        simp (maxSteps := 200000) (disch := first | (simp only [go_sem, Nat.reduceAdd, Nat.reduceSub, Nat.reduceMul, Nat.reduceLeDiff, Nat.reduceEqDiff, Nat.reduceLT, Nat.reduceBEq, Nat.reduceBNe, Nat.reducePow, ↓reduceIte]; done) | omega | (simp only [go_sem, Nat.reduceAdd, Nat.reduceSub, Nat.reduceMul, Nat.reduceLeDiff, Nat.reduceEqDiff, Nat.reduceLT, Nat.reduceBEq, Nat.reduceBNe, Nat.reducePow, ↓reduceIte] <;> omega) | fail) only [go_sem, Nat.reduceAdd, Nat.reduceSub, Nat.reduceMul, Nat.reduceLeDiff, Nat.reduceEqDiff, Nat.reduceLT, Nat.reduceBEq, Nat.reduceBNe, Nat.reducePow, ↓reduceIte, h1', h2', h3', callA_pure mode_21, ih]
      · rw [decide_eq_false h3] at ih
        simp (maxSteps := 200000) (disch := first | (simp only [go_sem, Nat.reduceAdd, Nat.reduceSub, Nat.reduceMul, Nat.reduceLeDiff, Nat.reduceEqDiff, Nat.reduceLT, Nat.reduceBEq, Nat.reduceBNe, Nat.reducePow, ↓reduceIte]; done) | omega | (simp only [go_sem, Nat.reduceAdd, Nat.reduceSub, Nat.reduceMul, Nat.reduceLeDiff, Nat.reduceEqDiff, Nat.reduceLT, Nat.reduceBEq, Nat.reduceBNe, Nat.reducePow, ↓reduceIte] <;> omega) | fail) only [go_sem, Nat.reduceAdd, Nat.reduceSub, Nat.reduceMul, Nat.reduceLeDiff, Nat.reduceEqDiff, Nat.reduceLT, Nat.reduceBEq, Nat.reduceBNe, Nat.reducePow, ↓reduceIte, h1', h2', h3, callA_pure mode_21, ih]
    · simp (maxSteps := 200000) (disch := first | (simp only [go_sem, Nat.reduceAdd, Nat.reduceSub, Nat.reduceMul, Nat.reduceLeDiff, Nat.reduceEqDiff, Nat.reduceLT, Nat.reduceBEq, Nat.reduceBNe, Nat.reducePow, ↓reduceIte]; done) | omega | (simp only [go_sem, Nat.reduceAdd, Nat.reduceSub, Nat.reduceMul, Nat.reduceLeDiff, Nat.reduceEqDiff, Nat.reduceLT, Nat.reduceBEq, Nat.reduceBNe, Nat.reducePow, ↓reduceIte] <;> omega) | fail) only [go_sem, Nat.reduceAdd, Nat.reduceSub, Nat.reduceMul, Nat.reduceLeDiff, Nat.reduceEqDiff, Nat.reduceLT, Nat.reduceBEq, Nat.reduceBNe, Nat.reducePow, ↓reduceIte, h1', h2]
      simp
  · simp (maxSteps := 200000) (disch := first | (simp only [go_sem, Nat.reduceAdd, Nat.reduceSub, Nat.reduceMul, Nat.reduceLeDiff, Nat.reduceEqDiff, Nat.reduceLT, Nat.reduceBEq, Nat.reduceBNe, Nat.reducePow, ↓reduceIte]; done) | omega | (simp only [go_sem, Nat.reduceAdd, Nat.reduceSub, Nat.reduceMul, Nat.reduceLeDiff, Nat.reduceEqDiff, Nat.reduceLT, Nat.reduceBEq, Nat.reduceBNe, Nat.reducePow, ↓reduceIte] <;> omega) | fail) only [go_sem, Nat.reduceAdd, Nat.reduceSub, Nat.reduceMul, Nat.reduceLeDiff, Nat.reduceEqDiff, Nat.reduceLT, Nat.reduceBEq, Nat.reduceBNe, Nat.reducePow, ↓reduceIte, h1]
    simp
theorem modelEqual_spec : ∀ (n : Nat) (a b : List Node), cntL a < n → n ≤ 140737488355328 → pureW XX 21 [lN a, lN b] = some (vB (decide (a = b))) := by
  intro n
  induction n with
  | zero => intro a b h _; omega
  | succ n ih =>
    intro a b hc hB
    have hl : a.length ≤ 140737488355328 := by have := len_cnt a; omega
    have h40 : pureW XX 40 [lN a, lN b, .fn 41 []] = some (vB (decide (a = b))) := by
      refine pureW_in 32 Try.func40 Try.ntmps40 (by simp) (rfl : Try.f40.body = some _) fns_40 ?_
      by_cases hn : a.length = b.length
      · simp (maxSteps := 200000) (disch := first | (simp only [go_sem, Nat.reduceAdd, Nat.reduceSub, Nat.reduceMul, Nat.reduceLeDiff, Nat.reduceEqDiff, Nat.reduceLT, Nat.reduceBEq, Nat.reduceBNe, Nat.reducePow, ↓reduceIte]; done) | omega | (simp only [go_sem, Nat.reduceAdd, Nat.reduceSub, Nat.reduceMul, Nat.reduceLeDiff, Nat.reduceEqDiff, Nat.reduceLT, Nat.reduceBEq, Nat.reduceBNe, Nat.reducePow, ↓reduceIte] <;> omega) | fail) only [go_sem, Nat.reduceAdd, Nat.reduceSub, Nat.reduceMul, Nat.reduceLeDiff, Nat.reduceEqDiff, Nat.reduceLT, Nat.reduceBEq, Nat.reduceBNe, Nat.reducePow, ↓reduceIte, nat_int_ne, hn, ne_eq, not_true]
        refine WP_range 4 0 b.length (fun i => S_40_4 (lN b) (.fn 41 []) (lN a) (vI b.length) (vI i) []) (fun i => (a = b) = (a.drop i = b.drop i)) rfl rfl ?_ ?_ ?_ ?_
        · simp (maxSteps := 200000) (disch := first | (simp only [go_sem, Nat.reduceAdd, Nat.reduceSub, Nat.reduceMul, Nat.reduceLeDiff, Nat.reduceEqDiff, Nat.reduceLT, Nat.reduceBEq, Nat.reduceBNe, Nat.reducePow, ↓reduceIte]; done) | omega | (simp only [go_sem, Nat.reduceAdd, Nat.reduceSub, Nat.reduceMul, Nat.reduceLeDiff, Nat.reduceEqDiff, Nat.reduceLT, Nat.reduceBEq, Nat.reduceBNe, Nat.reducePow, ↓reduceIte] <;> omega) | fail) only [go_sem, Nat.reduceAdd, Nat.reduceSub, Nat.reduceMul, Nat.reduceLeDiff, Nat.reduceEqDiff, Nat.reduceLT, Nat.reduceBEq, Nat.reduceBNe, Nat.reducePow, ↓reduceIte]; rfl
        · simp
        · intro i h hI
          have h2 : i < a.length := by omega
          rw [drop_eq h2 h] at hI
          have hk := nodeEq_spec a[i] b[i] (ih a[i].kids b[i].kids (by have := cnt_kids h2; omega) (by omega))
          by_cases h3 : a[i] = b[i]
          · rw [decide_eq_true h3] at hk
            simp (maxSteps := 200000) (disch := first | (simp only [go_sem, Nat.reduceAdd, Nat.reduceSub, Nat.reduceMul, Nat.reduceLeDiff, Nat.reduceEqDiff, Nat.reduceLT, Nat.reduceBEq, Nat.reduceBNe, Nat.reducePow, ↓reduceIte]; done) | omega | (simp only [go_sem, Nat.reduceAdd, Nat.reduceSub, Nat.reduceMul, Nat.reduceLeDiff, Nat.reduceEqDiff, Nat.reduceLT, Nat.reduceBEq, Nat.reduceBNe, Nat.reducePow, ↓reduceIte] <;> omega) | fail) only [go_sem, Nat.reduceAdd, Nat.reduceSub, Nat.reduceMul, Nat.reduceLeDiff, Nat.reduceEqDiff, Nat.reduceLT, Nat.reduceBEq, Nat.reduceBNe, Nat.reducePow, ↓reduceIte, nat_int, h, h2, hn, eNode_s, wrap_succ h (show b.length ≤ 140737488355328 by omega), callA_pure mode_41, hk]
            rw [gcK_mkT (by simp only [go_sem, Nat.reduceAdd, Nat.reduceSub, Nat.reduceMul, Nat.reduceLeDiff, Nat.reduceEqDiff, Nat.reduceLT, Nat.reduceBEq, Nat.reduceBNe, Nat.reducePow, ↓reduceIte]) (by simp only [go_sem, Nat.reduceAdd, Nat.reduceSub, Nat.reduceMul, Nat.reduceLeDiff, Nat.reduceEqDiff, Nat.reduceLT, Nat.reduceBEq, Nat.reduceBNe, Nat.reducePow, ↓reduceIte])]
            simp [hI, h3]
          · rw [decide_eq_false h3] at hk
            simp (maxSteps := 200000) (disch := first | (simp only [go_sem, Nat.reduceAdd, Nat.reduceSub, Nat.reduceMul, Nat.reduceLeDiff, Nat.reduceEqDiff, Nat.reduceLT, Nat.reduceBEq, Nat.reduceBNe, Nat.reducePow, ↓reduceIte]; done) | omega | (simp only [go_sem, Nat.reduceAdd, Nat.reduceSub, Nat.reduceMul, Nat.reduceLeDiff, Nat.reduceEqDiff, Nat.reduceLT, Nat.reduceBEq, Nat.reduceBNe, Nat.reducePow, ↓reduceIte] <;> omega) | fail) only [go_sem, Nat.reduceAdd, Nat.reduceSub, Nat.reduceMul, Nat.reduceLeDiff, Nat.reduceEqDiff, Nat.reduceLT, Nat.reduceBEq, Nat.reduceBNe, Nat.reducePow, ↓reduceIte, nat_int, h, h2, hn, eNode_s, wrap_succ h (show b.length ≤ 140737488355328 by omega), callA_pure mode_41, hk]
            simp [hI, h3]
        · intro hI
          simp (maxSteps := 200000) (disch := first | (simp only [go_sem, Nat.reduceAdd, Nat.reduceSub, Nat.reduceMul, Nat.reduceLeDiff, Nat.reduceEqDiff, Nat.reduceLT, Nat.reduceBEq, Nat.reduceBNe, Nat.reducePow, ↓reduceIte]; done) | omega | (simp only [go_sem, Nat.reduceAdd, Nat.reduceSub, Nat.reduceMul, Nat.reduceLeDiff, Nat.reduceEqDiff, Nat.reduceLT, Nat.reduceBEq, Nat.reduceBNe, Nat.reducePow, ↓reduceIte] <;> omega) | fail) only [go_sem, Nat.reduceAdd, Nat.reduceSub, Nat.reduceMul, Nat.reduceLeDiff, Nat.reduceEqDiff, Nat.reduceLT, Nat.reduceBEq, Nat.reduceBNe, Nat.reducePow, ↓reduceIte, nat_int]
          rw [decide_eq_true (by rw [hI, List.drop_of_length_le (by omega), List.drop_of_length_le (by omega)])]
      · have : a ≠ b := fun e => hn (by rw [e])
        simp (maxSteps := 200000) (disch := first | (simp only [go_sem, Nat.reduceAdd, Nat.reduceSub, Nat.reduceMul, Nat.reduceLeDiff, Nat.reduceEqDiff, Nat.reduceLT, Nat.reduceBEq, Nat.reduceBNe, Nat.reducePow, ↓reduceIte]; done) | omega | (simp only [go_sem, Nat.reduceAdd, Nat.reduceSub, Nat.reduceMul, Nat.reduceLeDiff, Nat.reduceEqDiff, Nat.reduceLT, Nat.reduceBEq, Nat.reduceBNe, Nat.reducePow, ↓reduceIte] <;> omega) | fail) only [go_sem, Nat.reduceAdd, Nat.reduceSub, Nat.reduceMul, Nat.reduceLeDiff, Nat.reduceEqDiff, Nat.reduceLT, Nat.reduceBEq, Nat.reduceBNe, Nat.reducePow, ↓reduceIte, nat_int_ne, hn, ne_eq, not_false_eq_true]
        simp [this]
    refine pureW_in 8 Try.func21 Try.ntmps21 (by simp) (rfl : Try.f21.body = some _) fns_21 ?_
    simp (maxSteps := 200000) (disch := first | (simp only [go_sem, Nat.reduceAdd, Nat.reduceSub, Nat.reduceMul, Nat.reduceLeDiff, Nat.reduceEqDiff, Nat.reduceLT, Nat.reduceBEq, Nat.reduceBNe, Nat.reducePow, ↓reduceIte]; done) | omega | (simp only [go_sem, Nat.reduceAdd, Nat.reduceSub, Nat.reduceMul, Nat.reduceLeDiff, Nat.reduceEqDiff, Nat.reduceLT, Nat.reduceBEq, Nat.reduceBNe, Nat.reducePow, ↓reduceIte] <;> omega) | fail) only [go_sem, Nat.reduceAdd, Nat.reduceSub, Nat.reduceMul, Nat.reduceLeDiff, Nat.reduceEqDiff, Nat.reduceLT, Nat.reduceBEq, Nat.reduceBNe, Nat.reducePow, ↓reduceIte, callA_pure mode_40, h40]
end Go.Abs.SA
end

section
set_option linter.unusedVariables false
set_option linter.unusedSimpArgs false
set_option maxRecDepth 100000
set_option maxHeartbeats 4000000
set_option linter.unusedSimpArgs false
set_option linter.unusedVariables false
namespace Go.Abs.SA
open Go.Proofs

mutual
/-- No value is longer than 128. -/
def vN : Node → Prop
  | .mk _ v k => v.size ≤ 128 ∧ vL k
def vL : List Node → Prop
  | [] => True
  | n :: r => vN n ∧ vL r
end
theorem vN_s {n : Node} : vN n ↔ n.value.size ≤ 128 ∧ vL n.kids := by cases n; simp [vN, Node.value, Node.kids]
theorem vL_iff : ∀ {l : List Node}, vL l ↔ ∀ x ∈ l, vN x
  | [] => by simp [vL]
  | n :: r => by simp [vL, vL_iff (l := r)]
theorem value_size {d : Def} {s : Str} (h : valueM d s = true) : s.size ≤ 128 := by
  simp only [valueM, Bool.and_eq_true, decide_eq_true_eq] at h
  exact h.1.1
mutual
theorem rdE_v (l : List Def) : ∀ (e : Elem) (d : Def) (n : Node), rdE l e = .ok (d, n) → vN n
  | .mk s nm a t k, d, n, h => by
    rw [rdE] at h
    split at h
    · cases h
    · split at h
      · cases h
      · split at h
        · split at h
          · cases h
          · rename_i d' _ _ hv
            cases h
            simp only [not_or, Bool.not_eq_false] at hv
            exact ⟨value_size hv.2, trivial⟩
        · split at h
          · cases h
          · split at h
            · cases h
            · rename_i d' _ _ _ nodes hn
              split at h
              · cases h
                exact ⟨by simp [ByteArray.size], rdL_v _ k _ _ _ (by simp [vL]) hn⟩
              · cases h
theorem rdL_v (l : List Def) : ∀ (es : List Elem) (out all nodes : List Node), vL out → rdL l out all es = .ok nodes → vL nodes
  | [], out, all, nodes, ho, h => by
    rw [rdL] at h
    split at h
    · cases h
    · cases h
      rw [vL_iff] at ho ⊢
      exact fun x hx => ho x ((order_mem l out).1 hx)
  | e :: r, out, all, nodes, ho, h => by
    rw [rdL] at h
    split at h
    · cases h
    · rename_i d n hn
      split at h
      · cases h
      · refine rdL_v l r _ _ _ ?_ h
        have h2 := rdE_v l e d n hn
        split
        · rw [vL_iff] at ho ⊢
          intro x hx
          rcases List.mem_append.1 hx with hx | hx
          · exact ho x hx
          · rw [List.mem_singleton.1 hx]; exact h2
        · exact ho
end
theorem tree_v {l : List Elem} {n : List Node} (h : tree l = some n) : vL n := rdL_v _ _ _ _ _ (by simp [vL]) (tree_some h).1

mutual
/-- Another tree: what may not be read is taken away, or has another value. -/
def hideN (ok : List Str → Bool) (bend : Str) (path : List Str) : Node → List Node
  | .mk n v k => if ok (path ++ [n]) then [.mk n v (hideL ok bend (path ++ [n]) k)] else if bend = ⟨#[]⟩ then [] else [.mk n (v ++ bend) (hideL ok bend (path ++ [n]) k)]
def hideL (ok : List Str → Bool) (bend : Str) (path : List Str) : List Node → List Node
  | [] => []
  | x :: r => hideN ok bend path x ++ hideL ok bend path r
end
theorem hideN_s (ok : List Str → Bool) (bend : Str) (path : List Str) (n : Node) : hideN ok bend path n = if ok (path ++ [n.name]) then [.mk n.name n.value (hideL ok bend (path ++ [n.name]) n.kids)] else if bend = ⟨#[]⟩ then [] else [.mk n.name (n.value ++ bend) (hideL ok bend (path ++ [n.name]) n.kids)] := by
  cases n; simp only [hideN, Node.name, Node.value, Node.kids]; rfl
theorem hideL_flat (ok : List Str → Bool) (bend : Str) (path : List Str) : ∀ (l : List Node), hideL ok bend path l = l.flatMap (hideN ok bend path)
  | [] => by simp [hideL]
  | x :: r => by simp [hideL, hideL_flat ok bend path r]
theorem hideL_take (ok : List Str → Bool) (bend : Str) (path : List Str) (l : List Node) {i : Nat} (h : i < l.length) : hideL ok bend path (l.take (i + 1)) = hideL ok bend path (l.take i) ++ hideN ok bend path l[i] := by
  simp only [hideL_flat]
  rw [List.take_succ_eq_append_getElem h, List.flatMap_append]
  simp
theorem hideN_len (ok : List Str → Bool) (bend : Str) (path : List Str) (n : Node) : (hideN ok bend path n).length ≤ 1 := by
  rw [hideN_s]; split
  · simp
  · split <;> simp
theorem hideL_len (ok : List Str → Bool) (bend : Str) (path : List Str) : ∀ (l : List Node), (hideL ok bend path l).length ≤ l.length
  | [] => by simp [hideL]
  | x :: r => by have := hideL_len ok bend path r; have := hideN_len ok bend path x; simp only [hideL, List.length_append, List.length_cons]; omega
mutual
theorem hideN_cnt (ok : List Str → Bool) (bend : Str) : ∀ (n : Node) (path : List Str), cntL (hideN ok bend path n) ≤ cntN n
  | .mk nm v k, path => by
    have := hideL_cnt ok bend k (path ++ [nm])
    rw [hideN]
    split
    · rw [cntL_cons, cntN, cntN]; simp only [cntL]; omega
    · split
      · simp [cntL]
      · rw [cntL_cons, cntN, cntN]; simp only [cntL]; omega
theorem hideL_cnt (ok : List Str → Bool) (bend : Str) : ∀ (l : List Node) (path : List Str), cntL (hideL ok bend path l) ≤ cntL l
  | [], path => by simp [hideL, cntL]
  | x :: r, path => by
    have h1 := hideN_cnt ok bend x path
    have h2 := hideL_cnt ok bend r path
    rw [hideL, cntL_app, cntL_cons]; omega
end
theorem pruneL_app (ok : List Str → Bool) (path : List Str) (a b : List Node) : pruneL ok path (a ++ b) = pruneL ok path a ++ pruneL ok path b := by
  simp [pruneL_flat]
mutual
theorem prune_hideN (ok : List Str → Bool) (bend : Str) : ∀ (n : Node) (path : List Str), pruneL ok path (hideN ok bend path n) = pruneN ok path n
  | .mk nm v k, path => by
    have h := prune_hideL ok bend k (path ++ [nm])
    rw [hideN, pruneN]
    by_cases ho : ok (path ++ [nm]) = true
    · simp only [ho, if_true, pruneL, pruneN, List.append_nil, h]
    · split
      · rename_i hh; exact absurd hh ho
      · split
        · simp [pruneL]
        · simp [pruneL, pruneN, ho]
theorem prune_hideL (ok : List Str → Bool) (bend : Str) : ∀ (l : List Node) (path : List Str), pruneL ok path (hideL ok bend path l) = pruneL ok path l
  | [], path => by simp [hideL]
  | x :: r, path => by
    rw [hideL, pruneL_app, prune_hideN ok bend x path, prune_hideL ok bend r path, pruneL]
end

theorem hide_spec (p : Policy) (groups : List Str) (bend : Str) (hp : p.ok) (hg : groups.length ≤ 140737488355328) (hbd : bend.size ≤ 140737488355328) : ∀ (n : Nat) (nodes : List Node) (path : List Str), cntL nodes < n → path.length + n ≤ 1099511627776 → vL nodes →
    pureW XX 20 [aPolicy p, lS groups, lN nodes, vS bend, lS path] = some (lN (hideL (refMay p groups 1) bend path nodes)) := by
  intro n
  induction n with
  | zero => intro nodes path h _; omega
  | succ n ih =>
    intro nodes path hc hB hv
    have hl : nodes.length ≤ n := by have := len_cnt nodes; omega
    refine pureW_in 53 Try.func20 Try.ntmps20 (by simp) (rfl : Try.f20.body = some _) fns_20 ?_
    simp (maxSteps := 200000) (disch := first | (simp only [go_sem, Nat.reduceAdd, Nat.reduceSub, Nat.reduceMul, Nat.reduceLeDiff, Nat.reduceEqDiff, Nat.reduceLT, Nat.reduceBEq, Nat.reduceBNe, Nat.reducePow, ↓reduceIte]; done) | omega | (simp only [go_sem, Nat.reduceAdd, Nat.reduceSub, Nat.reduceMul, Nat.reduceLeDiff, Nat.reduceEqDiff, Nat.reduceLT, Nat.reduceBEq, Nat.reduceBNe, Nat.reducePow, ↓reduceIte] <;> omega) | fail) only [go_sem, Nat.reduceAdd, Nat.reduceSub, Nat.reduceMul, Nat.reduceLeDiff, Nat.reduceEqDiff, Nat.reduceLT, Nat.reduceBEq, Nat.reduceBNe, Nat.reducePow, ↓reduceIte]
    refine WP_range 3 2 nodes.length (fun i => S_20_3 (lS groups) (vS bend) (lS path) (.ptr 0 0) (.sl 1 0 (hideL (refMay p groups 1) bend path (nodes.take i)).length false) (lN nodes) (vI nodes.length) (vI i) [.var [.fs (p.rules.map eRule) false, vB p.read, vB p.write], .arr 59 3 ((hideL (refMay p groups 1) bend path (nodes.take i)).map eNode)]) (fun _ => True) rfl rfl ?_ ?_ ?_ ?_
    · simp (maxSteps := 200000) (disch := first | (simp only [go_sem, Nat.reduceAdd, Nat.reduceSub, Nat.reduceMul, Nat.reduceLeDiff, Nat.reduceEqDiff, Nat.reduceLT, Nat.reduceBEq, Nat.reduceBNe, Nat.reducePow, ↓reduceIte]; done) | omega | (simp only [go_sem, Nat.reduceAdd, Nat.reduceSub, Nat.reduceMul, Nat.reduceLeDiff, Nat.reduceEqDiff, Nat.reduceLT, Nat.reduceBEq, Nat.reduceBNe, Nat.reducePow, ↓reduceIte] <;> omega) | fail) only [go_sem, Nat.reduceAdd, Nat.reduceSub, Nat.reduceMul, Nat.reduceLeDiff, Nat.reduceEqDiff, Nat.reduceLT, Nat.reduceBEq, Nat.reduceBNe, Nat.reducePow, ↓reduceIte]; rfl
    · trivial
    · intro i h _
      have hol := hideL_len (refMay p groups 1) bend path (nodes.take i)
      rw [List.length_take] at hol
      have hvi := vN_s.1 (vL_iff.1 hv _ (List.getElem_mem h))
      have hk := ih nodes[i].kids (path ++ [nodes[i].name]) (by have := cnt_kids h; omega) (by simp; omega) hvi.2
      have hm := refMay_spec p groups 1 (path ++ [nodes[i].name]) hp hg (by simp; omega)
      rw [hideL_take _ _ _ _ h, hideN_s]
      cases hd : refMay p groups 1 (path ++ [nodes[i].name]) with
      | true =>
        rw [hd] at hm
        simp (maxSteps := 200000) (disch := first | (simp only [go_sem, Nat.reduceAdd, Nat.reduceSub, Nat.reduceMul, Nat.reduceLeDiff, Nat.reduceEqDiff, Nat.reduceLT, Nat.reduceBEq, Nat.reduceBNe, Nat.reducePow, ↓reduceIte]; done) | omega | (simp only [go_sem, Nat.reduceAdd, Nat.reduceSub, Nat.reduceMul, Nat.reduceLeDiff, Nat.reduceEqDiff, Nat.reduceLT, Nat.reduceBEq, Nat.reduceBNe, Nat.reducePow, ↓reduceIte] <;> omega) | fail) only [go_sem, Nat.reduceAdd, Nat.reduceSub, Nat.reduceMul, Nat.reduceLeDiff, Nat.reduceEqDiff, Nat.reduceLT, Nat.reduceBEq, Nat.reduceBNe, Nat.reducePow, ↓reduceIte, nat_int, h, eNode_s, wrap_succ h (show nodes.length ≤ 140737488355328 by omega), callA_pure mode_37, hm, callA_data mode_20, hk]
      | false =>
        rw [hd] at hm
        by_cases hb : bend = ⟨#[]⟩
        · have hb' := eq_true hb
          simp (maxSteps := 200000) (disch := first | (simp only [go_sem, Nat.reduceAdd, Nat.reduceSub, Nat.reduceMul, Nat.reduceLeDiff, Nat.reduceEqDiff, Nat.reduceLT, Nat.reduceBEq, Nat.reduceBNe, Nat.reducePow, ↓reduceIte]; done) | omega | (simp only [go_sem, Nat.reduceAdd, Nat.reduceSub, Nat.reduceMul, Nat.reduceLeDiff, Nat.reduceEqDiff, Nat.reduceLT, Nat.reduceBEq, Nat.reduceBNe, Nat.reducePow, ↓reduceIte] <;> omega) | fail) only [go_sem, Nat.reduceAdd, Nat.reduceSub, Nat.reduceMul, Nat.reduceLeDiff, Nat.reduceEqDiff, Nat.reduceLT, Nat.reduceBEq, Nat.reduceBNe, Nat.reducePow, ↓reduceIte, nat_int, h, eNode_s, wrap_succ h (show nodes.length ≤ 140737488355328 by omega), callA_pure mode_37, hm, hb']
        · simp (maxSteps := 200000) (disch := first | (simp only [go_sem, Nat.reduceAdd, Nat.reduceSub, Nat.reduceMul, Nat.reduceLeDiff, Nat.reduceEqDiff, Nat.reduceLT, Nat.reduceBEq, Nat.reduceBNe, Nat.reducePow, ↓reduceIte]; done) | omega | (simp only [go_sem, Nat.reduceAdd, Nat.reduceSub, Nat.reduceMul, Nat.reduceLeDiff, Nat.reduceEqDiff, Nat.reduceLT, Nat.reduceBEq, Nat.reduceBNe, Nat.reducePow, ↓reduceIte] <;> omega) | fail) only [go_sem, Nat.reduceAdd, Nat.reduceSub, Nat.reduceMul, Nat.reduceLeDiff, Nat.reduceEqDiff, Nat.reduceLT, Nat.reduceBEq, Nat.reduceBNe, Nat.reducePow, ↓reduceIte, nat_int, h, eNode_s, wrap_succ h (show nodes.length ≤ 140737488355328 by omega), callA_pure mode_37, hm, callA_data mode_20, hk, hb]
    · intro _
      simp (maxSteps := 200000) (disch := first | (simp only [go_sem, Nat.reduceAdd, Nat.reduceSub, Nat.reduceMul, Nat.reduceLeDiff, Nat.reduceEqDiff, Nat.reduceLT, Nat.reduceBEq, Nat.reduceBNe, Nat.reducePow, ↓reduceIte]; done) | omega | (simp only [go_sem, Nat.reduceAdd, Nat.reduceSub, Nat.reduceMul, Nat.reduceLeDiff, Nat.reduceEqDiff, Nat.reduceLT, Nat.reduceBEq, Nat.reduceBNe, Nat.reducePow, ↓reduceIte] <;> omega) | fail) only [go_sem, Nat.reduceAdd, Nat.reduceSub, Nat.reduceMul, Nat.reduceLeDiff, Nat.reduceEqDiff, Nat.reduceLT, Nat.reduceBEq, Nat.reduceBNe, Nat.reducePow, ↓reduceIte, nat_int, List.take_length]
end Go.Abs.SA
end

section
set_option linter.unusedVariables false
set_option linter.unusedSimpArgs false
set_option maxRecDepth 100000
set_option maxHeartbeats 8000000
set_option linter.unusedSimpArgs false
set_option linter.unusedVariables false
namespace Go.Abs.SA
open Go.Proofs

theorem hides_law (p : Policy) (elems : List Elem) (bend : Str) (hp : p.ok) (hok : okEs elems) (hl : elems.length ≤ 140737488355328) (hbd : bend.size ≤ 140737488355328) :
    pureW XX 5 [aPolicy p, lE elems, vS bend] = some (vB true) := by
  refine pureW_in 50 Try.func5 Try.ntmps5 (by simp) (rfl : Try.f5.body = some _) fns_5 ?_
  have ht := tree_spec elems hok hl
  have hli := light_spec p hp
  cases htr : tree elems with
  | none =>
    simp only [aTree, htr, Option.isSome, Option.getD_none] at ht
    simp (maxSteps := 200000) (disch := first | (simp only [go_sem, Nat.reduceAdd, Nat.reduceSub, Nat.reduceMul, Nat.reduceLeDiff, Nat.reduceEqDiff, Nat.reduceLT, Nat.reduceBEq, Nat.reduceBNe, Nat.reducePow, ↓reduceIte]; done) | omega | (simp only [go_sem, Nat.reduceAdd, Nat.reduceSub, Nat.reduceMul, Nat.reduceLeDiff, Nat.reduceEqDiff, Nat.reduceLT, Nat.reduceBEq, Nat.reduceBNe, Nat.reducePow, ↓reduceIte] <;> omega) | fail) only [go_sem, Nat.reduceAdd, Nat.reduceSub, Nat.reduceMul, Nat.reduceLeDiff, Nat.reduceEqDiff, Nat.reduceLT, Nat.reduceBEq, Nat.reduceBNe, Nat.reducePow, ↓reduceIte, callA_pure mode_12, fit_spec, callA_data mode_13, ht]
  | some n =>
  simp only [aTree, htr, Option.isSome, Option.getD_some] at ht
  obtain ⟨-, -, hn⟩ := tree_some htr
  by_cases hw : weigh p.rules ≤ 200
  case neg =>
    simp (maxSteps := 200000) (disch := first | (simp only [go_sem, Nat.reduceAdd, Nat.reduceSub, Nat.reduceMul, Nat.reduceLeDiff, Nat.reduceEqDiff, Nat.reduceLT, Nat.reduceBEq, Nat.reduceBNe, Nat.reducePow, ↓reduceIte]; done) | omega | (simp only [go_sem, Nat.reduceAdd, Nat.reduceSub, Nat.reduceMul, Nat.reduceLeDiff, Nat.reduceEqDiff, Nat.reduceLT, Nat.reduceBEq, Nat.reduceBNe, Nat.reducePow, ↓reduceIte] <;> omega) | fail) only [go_sem, Nat.reduceAdd, Nat.reduceSub, Nat.reduceMul, Nat.reduceLeDiff, Nat.reduceEqDiff, Nat.reduceLT, Nat.reduceBEq, Nat.reduceBNe, Nat.reducePow, ↓reduceIte, callA_pure mode_12, fit_spec, callA_data mode_13, ht, callA_pure mode_14, hli, hw]
  have n10 : ((10 : Int) < ((1 : Nat) : Int)) = False := eq_false (by omega)
  by_cases h50 : (50 : Int) < (bend.size : Int)
  · simp (maxSteps := 200000) (disch := first | (simp only [go_sem, Nat.reduceAdd, Nat.reduceSub, Nat.reduceMul, Nat.reduceLeDiff, Nat.reduceEqDiff, Nat.reduceLT, Nat.reduceBEq, Nat.reduceBNe, Nat.reducePow, ↓reduceIte]; done) | omega | (simp only [go_sem, Nat.reduceAdd, Nat.reduceSub, Nat.reduceMul, Nat.reduceLeDiff, Nat.reduceEqDiff, Nat.reduceLT, Nat.reduceBEq, Nat.reduceBNe, Nat.reducePow, ↓reduceIte] <;> omega) | fail) only [go_sem, Nat.reduceAdd, Nat.reduceSub, Nat.reduceMul, Nat.reduceLeDiff, Nat.reduceEqDiff, Nat.reduceLT, Nat.reduceBEq, Nat.reduceBNe, Nat.reducePow, ↓reduceIte, callA_pure mode_12, fit_spec, callA_data mode_13, ht, callA_pure mode_14, hli, hw, h50, n10]
  have hh := hide_spec p [sG] bend hp (by simp) hbd 301 n [] (by omega) (by simp) (tree_v htr)
  have hm : refMay p [sG] 1 = may p [sG] 1 := by funext path; exact (may_eq p [sG] 1 path (by omega) (by omega)).symm
  rw [hm] at hh
  have hcn := hideL_cnt (may p [sG] 1) bend n []
  have h1 := prune_spec p [sG] hp (by simp) 301 n [] (by omega) (by simp)
  have h2 := prune_spec p [sG] hp (by simp) 301 (hideL (may p [sG] 1) bend [] n) [] (by omega) (by simp)
  rw [prune_hideL] at h2
  have e1 := modelEqual_spec 301 (pruneL (may p [sG] 1) [] n) (pruneL (may p [sG] 1) [] n) (by have := pruneL_cnt (may p [sG] 1) n []; omega) (by omega)
  rw [decide_eq_true rfl] at e1
  generalize pruneL (may p [sG] 1) [] n = pr at *
  generalize hideL (may p [sG] 1) bend [] n = hd at *
  simp only [lS, List.map_cons, List.map_nil, eS] at h1 h2 hh
  simp (maxSteps := 200000) (disch := first | (simp only [go_sem, Nat.reduceAdd, Nat.reduceSub, Nat.reduceMul, Nat.reduceLeDiff, Nat.reduceEqDiff, Nat.reduceLT, Nat.reduceBEq, Nat.reduceBNe, Nat.reducePow, ↓reduceIte]; done) | omega | (simp only [go_sem, Nat.reduceAdd, Nat.reduceSub, Nat.reduceMul, Nat.reduceLeDiff, Nat.reduceEqDiff, Nat.reduceLT, Nat.reduceBEq, Nat.reduceBNe, Nat.reducePow, ↓reduceIte] <;> omega) | fail) only [go_sem, Nat.reduceAdd, Nat.reduceSub, Nat.reduceMul, Nat.reduceLeDiff, Nat.reduceEqDiff, Nat.reduceLT, Nat.reduceBEq, Nat.reduceBNe, Nat.reducePow, ↓reduceIte, callA_pure mode_12, fit_spec, callA_data mode_13, ht, callA_pure mode_14, hli, hw, h50, n10, callA_data mode_20, hh, callA_data mode_16, h1, h2, callA_pure mode_21, e1]
end Go.Abs.SA
end
