/- YtgpadcipdbifkaaA10: a part of the interpreter by which the claim is shown, and of the walks: no conditions of its own: every theorem states its own. -/
import Derived.Test.YtgpadcipdbifkaaA9
section
set_option linter.unusedVariables false
set_option linter.unusedSimpArgs false
set_option maxRecDepth 100000
set_option maxHeartbeats 4000000
set_option linter.unusedSimpArgs false
set_option linter.unusedVariables false
namespace Go.Abs.SA
open Go.Proofs

theorem isKey_spec (x : Node) (k : Str) : pureW XX 55 [aNode x, .fp [vS k]] = some (vB (decide (x.name = k))) := by
  refine pureW_in 8 Try.func55 Try.ntmps55 (by simp) (rfl : Try.f55.body = some _) fns_55 ?_
  simp (maxSteps := 200000) (disch := first | (simp only [go_sem, Nat.reduceAdd, Nat.reduceSub, Nat.reduceMul, Nat.reduceLeDiff, Nat.reduceEqDiff, Nat.reduceLT, Nat.reduceBEq, Nat.reduceBNe, Nat.reducePow, ↓reduceIte]; done) | omega | (simp only [go_sem, Nat.reduceAdd, Nat.reduceSub, Nat.reduceMul, Nat.reduceLeDiff, Nat.reduceEqDiff, Nat.reduceLT, Nat.reduceBEq, Nat.reduceBNe, Nat.reducePow, ↓reduceIte] <;> omega) | fail) only [go_sem, Nat.reduceAdd, Nat.reduceSub, Nat.reduceMul, Nat.reduceLeDiff, Nat.reduceEqDiff, Nat.reduceLT, Nat.reduceBEq, Nat.reduceBNe, Nat.reducePow, ↓reduceIte]
theorem findIdx_step {α : Type} (q : α → Bool) (l : List α) {i : Nat} (h : i < l.length) : (l.drop i).findIdx? q = if q l[i] then some 0 else ((l.drop (i + 1)).findIdx? q).map (· + 1) := by
  rw [List.drop_eq_getElem_cons h, List.findIdx?_cons]
theorem indexKey_spec (l : List Node) (k : Str) (hl : l.length ≤ 140737488355328)  : pureW XX 54 [lN l, .fn 55 [.fp [vS k]]] = some (vI (posI (l.findIdx? fun x => decide (x.name = k)))) := by
  refine pureW_in 19 Try.func54 Try.ntmps54 (by simp) (rfl : Try.f54.body = some _) fns_54 ?_
  simp (maxSteps := 200000) (disch := first | (simp only [go_sem, Nat.reduceAdd, Nat.reduceSub, Nat.reduceMul, Nat.reduceLeDiff, Nat.reduceEqDiff, Nat.reduceLT, Nat.reduceBEq, Nat.reduceBNe, Nat.reducePow, ↓reduceIte]; done) | omega | (simp only [go_sem, Nat.reduceAdd, Nat.reduceSub, Nat.reduceMul, Nat.reduceLeDiff, Nat.reduceEqDiff, Nat.reduceLT, Nat.reduceBEq, Nat.reduceBNe, Nat.reducePow, ↓reduceIte] <;> omega) | fail) only [go_sem, Nat.reduceAdd, Nat.reduceSub, Nat.reduceMul, Nat.reduceLeDiff, Nat.reduceEqDiff, Nat.reduceLT, Nat.reduceBEq, Nat.reduceBNe, Nat.reducePow, ↓reduceIte]
  refine WP_range 2 0 l.length (fun i => S_54_2 (lN l) (.fn 55 [.fp [vS k]]) (vI l.length) (vI i) []) (fun i => (l.findIdx? fun x => decide (x.name = k)) = ((l.drop i).findIdx? fun x => decide (x.name = k)).map (· + i)) rfl rfl ?_ ?_ ?_ ?_
  · simp (maxSteps := 200000) (disch := first | (simp only [go_sem, Nat.reduceAdd, Nat.reduceSub, Nat.reduceMul, Nat.reduceLeDiff, Nat.reduceEqDiff, Nat.reduceLT, Nat.reduceBEq, Nat.reduceBNe, Nat.reducePow, ↓reduceIte]; done) | omega | (simp only [go_sem, Nat.reduceAdd, Nat.reduceSub, Nat.reduceMul, Nat.reduceLeDiff, Nat.reduceEqDiff, Nat.reduceLT, Nat.reduceBEq, Nat.reduceBNe, Nat.reducePow, ↓reduceIte] <;> omega) | fail) only [go_sem, Nat.reduceAdd, Nat.reduceSub, Nat.reduceMul, Nat.reduceLeDiff, Nat.reduceEqDiff, Nat.reduceLT, Nat.reduceBEq, Nat.reduceBNe, Nat.reducePow, ↓reduceIte]; rfl
  · simp
  · intro i h hI
    rw [findIdx_step _ _ h] at hI
    have hk := isKey_spec l[i] k
    cases hv : (fun x => decide (x.name = k)) l[i] with
    | true =>
      simp only at hv
      rw [hv] at hk hI
      simp (maxSteps := 200000) (disch := first | (simp only [go_sem, Nat.reduceAdd, Nat.reduceSub, Nat.reduceMul, Nat.reduceLeDiff, Nat.reduceEqDiff, Nat.reduceLT, Nat.reduceBEq, Nat.reduceBNe, Nat.reducePow, ↓reduceIte]; done) | omega | (simp only [go_sem, Nat.reduceAdd, Nat.reduceSub, Nat.reduceMul, Nat.reduceLeDiff, Nat.reduceEqDiff, Nat.reduceLT, Nat.reduceBEq, Nat.reduceBNe, Nat.reducePow, ↓reduceIte] <;> omega) | fail) only [go_sem, Nat.reduceAdd, Nat.reduceSub, Nat.reduceMul, Nat.reduceLeDiff, Nat.reduceEqDiff, Nat.reduceLT, Nat.reduceBEq, Nat.reduceBNe, Nat.reducePow, ↓reduceIte, nat_int, h, eNode_s, callA_pure mode_55, hk]
      rw [hI]
      simp [posI]
    | false =>
      simp only at hv
      rw [hv] at hk hI
      simp (maxSteps := 200000) (disch := first | (simp only [go_sem, Nat.reduceAdd, Nat.reduceSub, Nat.reduceMul, Nat.reduceLeDiff, Nat.reduceEqDiff, Nat.reduceLT, Nat.reduceBEq, Nat.reduceBNe, Nat.reducePow, ↓reduceIte]; done) | omega | (simp only [go_sem, Nat.reduceAdd, Nat.reduceSub, Nat.reduceMul, Nat.reduceLeDiff, Nat.reduceEqDiff, Nat.reduceLT, Nat.reduceBEq, Nat.reduceBNe, Nat.reducePow, ↓reduceIte] <;> omega) | fail) only [go_sem, Nat.reduceAdd, Nat.reduceSub, Nat.reduceMul, Nat.reduceLeDiff, Nat.reduceEqDiff, Nat.reduceLT, Nat.reduceBEq, Nat.reduceBNe, Nat.reducePow, ↓reduceIte, nat_int, h, eNode_s, callA_pure mode_55, hk, wrap_succ h hl]
      rw [hI]
      simp
      congr 1
      funext x
      simp
      omega
  · intro hI
    simp (maxSteps := 200000) (disch := first | (simp only [go_sem, Nat.reduceAdd, Nat.reduceSub, Nat.reduceMul, Nat.reduceLeDiff, Nat.reduceEqDiff, Nat.reduceLT, Nat.reduceBEq, Nat.reduceBNe, Nat.reducePow, ↓reduceIte]; done) | omega | (simp only [go_sem, Nat.reduceAdd, Nat.reduceSub, Nat.reduceMul, Nat.reduceLeDiff, Nat.reduceEqDiff, Nat.reduceLT, Nat.reduceBEq, Nat.reduceBNe, Nat.reducePow, ↓reduceIte] <;> omega) | fail) only [go_sem, Nat.reduceAdd, Nat.reduceSub, Nat.reduceMul, Nat.reduceLeDiff, Nat.reduceEqDiff, Nat.reduceLT, Nat.reduceBEq, Nat.reduceBNe, Nat.reducePow, ↓reduceIte, nat_int]
    rw [hI]
    simp [posI]
theorem leafV_idx (l : List Node) (k : Str) : leafV l k = match l.findIdx? fun x => decide (x.name = k) with
    | some i => (l[i]?).map Node.value
    | none => none := by
  unfold leafV
  induction l with
  | nil => rfl
  | cons x r ih =>
    rw [List.find?_cons, List.findIdx?_cons]
    by_cases h : x.name = k
    · simp [h]
    · simp only [h, decide_false, Bool.false_eq_true, if_false]
      rw [ih]
      cases r.findIdx? fun x => decide (x.name = k) with
      | none => rfl
      | some i => simp
theorem modelKey_spec (d : Def) (n : Node) (hd : d.keys.length ≤ 1099511627776) (hn : n.kids.length ≤ 140737488355328) : pureW XX 32 [aDef d, aNode n] = some (kO (keyOf d n)) := by
  refine pureW_in 34 Try.func32 Try.ntmps32 (by simp) (rfl : Try.f32.body = some _) fns_32 ?_
  simp (maxSteps := 200000) (disch := first | (simp only [go_sem, Nat.reduceAdd, Nat.reduceSub, Nat.reduceMul, Nat.reduceLeDiff, Nat.reduceEqDiff, Nat.reduceLT, Nat.reduceBEq, Nat.reduceBNe, Nat.reducePow, ↓reduceIte]; done) | omega | (simp only [go_sem, Nat.reduceAdd, Nat.reduceSub, Nat.reduceMul, Nat.reduceLeDiff, Nat.reduceEqDiff, Nat.reduceLT, Nat.reduceBEq, Nat.reduceBNe, Nat.reducePow, ↓reduceIte] <;> omega) | fail) only [go_sem, Nat.reduceAdd, Nat.reduceSub, Nat.reduceMul, Nat.reduceLeDiff, Nat.reduceEqDiff, Nat.reduceLT, Nat.reduceBEq, Nat.reduceBNe, Nat.reducePow, ↓reduceIte]
  refine WP_range 3 3 d.keys.length (fun i => S_32_3 (.ptr 1 0) (.sl 2 0 ((d.keys.take i).filterMap (leafV n.kids)).length false) (lS d.keys) (vI d.keys.length) (vI i) [.var [vS d.name, vI d.kind, vI d.type, lS d.values, vB d.must, lS d.keys, lD d.kids], .var [vS n.name, vS n.value, lN n.kids], .arr 9 1 (((d.keys.take i).filterMap (leafV n.kids)).map eS)]) (fun i => ∀ k ∈ d.keys.take i, (leafV n.kids k).isSome = true) rfl rfl ?_ ?_ ?_ ?_
  · simp (maxSteps := 200000) (disch := first | (simp only [go_sem, Nat.reduceAdd, Nat.reduceSub, Nat.reduceMul, Nat.reduceLeDiff, Nat.reduceEqDiff, Nat.reduceLT, Nat.reduceBEq, Nat.reduceBNe, Nat.reducePow, ↓reduceIte]; done) | omega | (simp only [go_sem, Nat.reduceAdd, Nat.reduceSub, Nat.reduceMul, Nat.reduceLeDiff, Nat.reduceEqDiff, Nat.reduceLT, Nat.reduceBEq, Nat.reduceBNe, Nat.reducePow, ↓reduceIte] <;> omega) | fail) only [go_sem, Nat.reduceAdd, Nat.reduceSub, Nat.reduceMul, Nat.reduceLeDiff, Nat.reduceEqDiff, Nat.reduceLT, Nat.reduceBEq, Nat.reduceBNe, Nat.reducePow, ↓reduceIte]; rfl
  · simp
  · intro i h hI
    have hol : ((d.keys.take i).filterMap (leafV n.kids)).length ≤ i := by
      have := List.length_filterMap_le (leafV n.kids) (d.keys.take i)
      rw [List.length_take] at this; omega
    have hk1 := List.take_succ_eq_append_getElem h
    have hx := indexKey_spec n.kids d.keys[i] hn
    have hlv := leafV_idx n.kids d.keys[i]
    cases hf : n.kids.findIdx? fun x => decide (x.name = d.keys[i]) with
    | none =>
      rw [hf] at hx hlv
      simp only at hlv
      have hkn : keyOf d n = none := by
        unfold keyOf
        rw [if_neg]
        simp only [List.all_eq_true]
        intro hh
        have := hh _ (List.getElem_mem h)
        simp [hlv] at this
      have n1 : ((-1 : Int) < 0) = True := eq_true (by omega)
      simp (maxSteps := 200000) (disch := first | (simp only [go_sem, Nat.reduceAdd, Nat.reduceSub, Nat.reduceMul, Nat.reduceLeDiff, Nat.reduceEqDiff, Nat.reduceLT, Nat.reduceBEq, Nat.reduceBNe, Nat.reducePow, ↓reduceIte]; done) | omega | (simp only [go_sem, Nat.reduceAdd, Nat.reduceSub, Nat.reduceMul, Nat.reduceLeDiff, Nat.reduceEqDiff, Nat.reduceLT, Nat.reduceBEq, Nat.reduceBNe, Nat.reducePow, ↓reduceIte] <;> omega) | fail) only [go_sem, Nat.reduceAdd, Nat.reduceSub, Nat.reduceMul, Nat.reduceLeDiff, Nat.reduceEqDiff, Nat.reduceLT, Nat.reduceBEq, Nat.reduceBNe, Nat.reducePow, ↓reduceIte, nat_int, h, eS_s, callA_pure mode_54, hx, posI, n1, hkn, Option.getD_none]
      rfl
    | some j =>
      rw [hf] at hx hlv
      simp only at hlv
      have hj : j < n.kids.length := by
        rw [List.findIdx?_eq_some_iff_getElem] at hf; exact hf.1
      rw [List.getElem?_eq_getElem hj, Option.map_some] at hlv
      have n1 : ((j : Int) < 0) = False := eq_false (by omega)
      have hall : ∀ k ∈ d.keys.take (i + 1), (leafV n.kids k).isSome = true := by
        rw [hk1]
        intro k hk
        rcases List.mem_append.1 hk with hk | hk
        · exact hI k hk
        · simp at hk; subst hk; simp [hlv]
      have hbs : (d.keys.take (i + 1)).filterMap (leafV n.kids) = (d.keys.take i).filterMap (leafV n.kids) ++ [n.kids[j].value] := by
        rw [hk1, List.filterMap_append]; simp [hlv]
      generalize (d.keys.take i).filterMap (leafV n.kids) = base at *
      simp (maxSteps := 200000) (disch := first | (simp only [go_sem, Nat.reduceAdd, Nat.reduceSub, Nat.reduceMul, Nat.reduceLeDiff, Nat.reduceEqDiff, Nat.reduceLT, Nat.reduceBEq, Nat.reduceBNe, Nat.reducePow, ↓reduceIte]; done) | omega | (simp only [go_sem, Nat.reduceAdd, Nat.reduceSub, Nat.reduceMul, Nat.reduceLeDiff, Nat.reduceEqDiff, Nat.reduceLT, Nat.reduceBEq, Nat.reduceBNe, Nat.reducePow, ↓reduceIte] <;> omega) | fail) only [go_sem, Nat.reduceAdd, Nat.reduceSub, Nat.reduceMul, Nat.reduceLeDiff, Nat.reduceEqDiff, Nat.reduceLT, Nat.reduceBEq, Nat.reduceBNe, Nat.reducePow, ↓reduceIte, nat_int, h, hj, eS_s, eNode_s, callA_pure mode_54, hx, posI, n1, wrap_succ h (show d.keys.length ≤ 140737488355328 by omega), hbs]
      exact hall
  · intro hI
    rw [List.take_length] at hI
    have hk : keyOf d n = some (d.keys.filterMap (leafV n.kids)) := by
      unfold keyOf; rw [if_pos (by simpa using hI)]
    simp (maxSteps := 200000) (disch := first | (simp only [go_sem, Nat.reduceAdd, Nat.reduceSub, Nat.reduceMul, Nat.reduceLeDiff, Nat.reduceEqDiff, Nat.reduceLT, Nat.reduceBEq, Nat.reduceBNe, Nat.reducePow, ↓reduceIte]; done) | omega | (simp only [go_sem, Nat.reduceAdd, Nat.reduceSub, Nat.reduceMul, Nat.reduceLeDiff, Nat.reduceEqDiff, Nat.reduceLT, Nat.reduceBEq, Nat.reduceBNe, Nat.reducePow, ↓reduceIte] <;> omega) | fail) only [go_sem, Nat.reduceAdd, Nat.reduceSub, Nat.reduceMul, Nat.reduceLeDiff, Nat.reduceEqDiff, Nat.reduceLT, Nat.reduceBEq, Nat.reduceBNe, Nat.reducePow, ↓reduceIte, nat_int, List.take_length, hk, Option.getD_some]
    rfl
theorem isSame_spec (d : Def) (n x : Node) (key : List Str) (hd : d.keys.length ≤ 1099511627776) (hx : x.kids.length ≤ 140737488355328) : pureW XX 67 [aNode x, .fp [vS d.name, vI d.kind, vI d.type, lS d.values, vB d.must, lS d.keys, lD d.kids], .fp [vS n.name, vS n.value, lN n.kids], .fp [lS key]] = some (vB (decide (x.name = n.name) && decide (keyD d x = key))) := by
  refine pureW_in 24 Try.func67 Try.ntmps67 (by simp) (rfl : Try.f67.body = some _) fns_67 ?_
  have hk := modelKey_spec d x hd hx
  have he := equal_spec (keyD d x) key (by have := keyD_len d x; omega)
  by_cases h1 : x.name = n.name
  · have h1' := eq_true h1
    simp (maxSteps := 200000) (disch := first | (simp only [go_sem, Nat.reduceAdd, Nat.reduceSub, Nat.reduceMul, Nat.reduceLeDiff, Nat.reduceEqDiff, Nat.reduceLT, Nat.reduceBEq, Nat.reduceBNe, Nat.reducePow, ↓reduceIte]; done) | omega | (simp only [go_sem, Nat.reduceAdd, Nat.reduceSub, Nat.reduceMul, Nat.reduceLeDiff, Nat.reduceEqDiff, Nat.reduceLT, Nat.reduceBEq, Nat.reduceBNe, Nat.reducePow, ↓reduceIte] <;> omega) | fail) only [go_sem, Nat.reduceAdd, Nat.reduceSub, Nat.reduceMul, Nat.reduceLeDiff, Nat.reduceEqDiff, Nat.reduceLT, Nat.reduceBEq, Nat.reduceBNe, Nat.reducePow, ↓reduceIte, callA_data mode_32, hk, keyD_fold, h1', callA_pure mode_39, he]
  · simp (maxSteps := 200000) (disch := first | (simp only [go_sem, Nat.reduceAdd, Nat.reduceSub, Nat.reduceMul, Nat.reduceLeDiff, Nat.reduceEqDiff, Nat.reduceLT, Nat.reduceBEq, Nat.reduceBNe, Nat.reducePow, ↓reduceIte]; done) | omega | (simp only [go_sem, Nat.reduceAdd, Nat.reduceSub, Nat.reduceMul, Nat.reduceLeDiff, Nat.reduceEqDiff, Nat.reduceLT, Nat.reduceBEq, Nat.reduceBNe, Nat.reducePow, ↓reduceIte] <;> omega) | fail) only [go_sem, Nat.reduceAdd, Nat.reduceSub, Nat.reduceMul, Nat.reduceLeDiff, Nat.reduceEqDiff, Nat.reduceLT, Nat.reduceBEq, Nat.reduceBNe, Nat.reducePow, ↓reduceIte, callA_data mode_32, hk, keyD_fold, h1, callA_pure mode_39, he]
theorem indexSame_spec (d : Def) (n : Node) (key : List Str) (l : List Node) (hl : l.length ≤ 140737488355328) (hd : d.keys.length ≤ 1099511627776) (hk : ∀ x ∈ l, x.kids.length ≤ 140737488355328) : pureW XX 54 [lN l, .fn 67 [.fp [vS d.name, vI d.kind, vI d.type, lS d.values, vB d.must, lS d.keys, lD d.kids], .fp [vS n.name, vS n.value, lN n.kids], .fp [lS key]]] = some (vI (posI (l.findIdx? fun x => (decide (x.name = n.name) && decide (keyD d x = key))))) := by
  refine pureW_in 19 Try.func54 Try.ntmps54 (by simp) (rfl : Try.f54.body = some _) fns_54 ?_
  simp (maxSteps := 200000) (disch := first | (simp only [go_sem, Nat.reduceAdd, Nat.reduceSub, Nat.reduceMul, Nat.reduceLeDiff, Nat.reduceEqDiff, Nat.reduceLT, Nat.reduceBEq, Nat.reduceBNe, Nat.reducePow, ↓reduceIte]; done) | omega | (simp only [go_sem, Nat.reduceAdd, Nat.reduceSub, Nat.reduceMul, Nat.reduceLeDiff, Nat.reduceEqDiff, Nat.reduceLT, Nat.reduceBEq, Nat.reduceBNe, Nat.reducePow, ↓reduceIte] <;> omega) | fail) only [go_sem, Nat.reduceAdd, Nat.reduceSub, Nat.reduceMul, Nat.reduceLeDiff, Nat.reduceEqDiff, Nat.reduceLT, Nat.reduceBEq, Nat.reduceBNe, Nat.reducePow, ↓reduceIte]
  refine WP_range 2 0 l.length (fun i => S_54_2 (lN l) (.fn 67 [.fp [vS d.name, vI d.kind, vI d.type, lS d.values, vB d.must, lS d.keys, lD d.kids], .fp [vS n.name, vS n.value, lN n.kids], .fp [lS key]]) (vI l.length) (vI i) []) (fun i => (l.findIdx? fun x => (decide (x.name = n.name) && decide (keyD d x = key))) = ((l.drop i).findIdx? fun x => (decide (x.name = n.name) && decide (keyD d x = key))).map (· + i)) rfl rfl ?_ ?_ ?_ ?_
  · simp (maxSteps := 200000) (disch := first | (simp only [go_sem, Nat.reduceAdd, Nat.reduceSub, Nat.reduceMul, Nat.reduceLeDiff, Nat.reduceEqDiff, Nat.reduceLT, Nat.reduceBEq, Nat.reduceBNe, Nat.reducePow, ↓reduceIte]; done) | omega | (simp only [go_sem, Nat.reduceAdd, Nat.reduceSub, Nat.reduceMul, Nat.reduceLeDiff, Nat.reduceEqDiff, Nat.reduceLT, Nat.reduceBEq, Nat.reduceBNe, Nat.reducePow, ↓reduceIte] <;> omega) | fail) only [go_sem, Nat.reduceAdd, Nat.reduceSub, Nat.reduceMul, Nat.reduceLeDiff, Nat.reduceEqDiff, Nat.reduceLT, Nat.reduceBEq, Nat.reduceBNe, Nat.reducePow, ↓reduceIte]; rfl
  · simp
  · intro i h hI
    rw [findIdx_step _ _ h] at hI
    have hk := isSame_spec d n l[i] key hd (hk _ (List.getElem_mem h))
    cases hv : (fun x => (decide (x.name = n.name) && decide (keyD d x = key))) l[i] with
    | true =>
      simp only at hv
      rw [hv] at hk hI
      simp (maxSteps := 200000) (disch := first | (simp only [go_sem, Nat.reduceAdd, Nat.reduceSub, Nat.reduceMul, Nat.reduceLeDiff, Nat.reduceEqDiff, Nat.reduceLT, Nat.reduceBEq, Nat.reduceBNe, Nat.reducePow, ↓reduceIte]; done) | omega | (simp only [go_sem, Nat.reduceAdd, Nat.reduceSub, Nat.reduceMul, Nat.reduceLeDiff, Nat.reduceEqDiff, Nat.reduceLT, Nat.reduceBEq, Nat.reduceBNe, Nat.reducePow, ↓reduceIte] <;> omega) | fail) only [go_sem, Nat.reduceAdd, Nat.reduceSub, Nat.reduceMul, Nat.reduceLeDiff, Nat.reduceEqDiff, Nat.reduceLT, Nat.reduceBEq, Nat.reduceBNe, Nat.reducePow, ↓reduceIte, nat_int, h, eNode_s, callA_pure mode_67, hk]
      rw [hI]
      simp [posI]
    | false =>
      simp only at hv
      rw [hv] at hk hI
      simp (maxSteps := 200000) (disch := first | (simp only [go_sem, Nat.reduceAdd, Nat.reduceSub, Nat.reduceMul, Nat.reduceLeDiff, Nat.reduceEqDiff, Nat.reduceLT, Nat.reduceBEq, Nat.reduceBNe, Nat.reducePow, ↓reduceIte]; done) | omega | (simp only [go_sem, Nat.reduceAdd, Nat.reduceSub, Nat.reduceMul, Nat.reduceLeDiff, Nat.reduceEqDiff, Nat.reduceLT, Nat.reduceBEq, Nat.reduceBNe, Nat.reducePow, ↓reduceIte] <;> omega) | fail) only [go_sem, Nat.reduceAdd, Nat.reduceSub, Nat.reduceMul, Nat.reduceLeDiff, Nat.reduceEqDiff, Nat.reduceLT, Nat.reduceBEq, Nat.reduceBNe, Nat.reducePow, ↓reduceIte, nat_int, h, eNode_s, callA_pure mode_67, hk, wrap_succ h hl]
      rw [hI]
      simp
      congr 1
      funext x
      simp
      omega
  · intro hI
    simp (maxSteps := 200000) (disch := first | (simp only [go_sem, Nat.reduceAdd, Nat.reduceSub, Nat.reduceMul, Nat.reduceLeDiff, Nat.reduceEqDiff, Nat.reduceLT, Nat.reduceBEq, Nat.reduceBNe, Nat.reducePow, ↓reduceIte]; done) | omega | (simp only [go_sem, Nat.reduceAdd, Nat.reduceSub, Nat.reduceMul, Nat.reduceLeDiff, Nat.reduceEqDiff, Nat.reduceLT, Nat.reduceBEq, Nat.reduceBNe, Nat.reducePow, ↓reduceIte] <;> omega) | fail) only [go_sem, Nat.reduceAdd, Nat.reduceSub, Nat.reduceMul, Nat.reduceLeDiff, Nat.reduceEqDiff, Nat.reduceLT, Nat.reduceBEq, Nat.reduceBNe, Nat.reducePow, ↓reduceIte, nat_int]
    rw [hI]
    simp [posI]
theorem cmpS_zero : ∀ (a b : List Str), cmpS a b = 0 ↔ a = b
  | [], b => by
    simp only [cmpS]
    constructor
    · intro h
      exact (List.eq_nil_iff_length_eq_zero.2 (by omega)).symm
    · rintro rfl; rfl
  | a :: r, [] => by simp [cmpS]; omega
  | a :: r, b :: q => by
    rw [cmpS]
    have hs : ∀ s : Str, sless s s = false := by
      intro s
      have : ∀ l : List UInt8, Op.bytesLess l l = false := by
        intro l
        induction l with
        | nil => rfl
        | cons x l ih => simp [Op.bytesLess, ih]
      exact this _
    by_cases h1 : sless a b = true
    · rw [if_pos h1]
      constructor
      · intro h; cases h
      · intro h; cases h; rw [hs] at h1; cases h1
    · simp only [Bool.not_eq_true] at h1
      rw [if_neg (by simp [h1])]
      by_cases h2 : a = b
      · subst h2
        rw [if_neg (by simp), cmpS_zero r q]
        simp
      · rw [if_pos (by simp [h1, h2])]
        simp [h2]
theorem same_pred (d : Def) (n : Node) : (fun x : Node => decide (x.name = n.name) && decide (keyD d x = keyD d n)) = sameN d n := by
  funext x
  unfold sameN
  congr 1
  exact decide_eq_decide.2 (cmpS_zero _ _).symm
theorem modelSame_spec (d : Def) (l : List Node) (n : Node) (hd : d.keys.length ≤ 1099511627776) (hn : n.kids.length ≤ 140737488355328) (hl : l.length ≤ 140737488355328) (hk : ∀ x ∈ l, x.kids.length ≤ 140737488355328) : pureW XX 47 [aDef d, lN l, aNode n] = some (vI (posI (sameAt d l n))) := by
  refine pureW_in 18 Try.func47 Try.ntmps47 (by simp) (rfl : Try.f47.body = some _) fns_47 ?_
  have hx := modelKey_spec d n hd hn
  have hi := indexSame_spec d n (keyD d n) l hl hd hk
  rw [same_pred] at hi
  simp (maxSteps := 200000) (disch := first | (simp only [go_sem, Nat.reduceAdd, Nat.reduceSub, Nat.reduceMul, Nat.reduceLeDiff, Nat.reduceEqDiff, Nat.reduceLT, Nat.reduceBEq, Nat.reduceBNe, Nat.reducePow, ↓reduceIte]; done) | omega | (simp only [go_sem, Nat.reduceAdd, Nat.reduceSub, Nat.reduceMul, Nat.reduceLeDiff, Nat.reduceEqDiff, Nat.reduceLT, Nat.reduceBEq, Nat.reduceBNe, Nat.reducePow, ↓reduceIte] <;> omega) | fail) only [go_sem, Nat.reduceAdd, Nat.reduceSub, Nat.reduceMul, Nat.reduceLeDiff, Nat.reduceEqDiff, Nat.reduceLT, Nat.reduceBEq, Nat.reduceBNe, Nat.reducePow, ↓reduceIte, callA_data mode_32, hx, keyD_fold, callA_pure mode_54, hi]
  rfl
end Go.Abs.SA
end

section
set_option linter.unusedVariables false
set_option linter.unusedSimpArgs false
set_option maxRecDepth 100000
set_option maxHeartbeats 4000000
set_option linter.unusedSimpArgs false
set_option linter.unusedVariables false
namespace Go.Abs.SA
open Go.Proofs

mutual
/-- A right at a node, and at all that stands in it. -/
def allN (ok : List Str → Bool) (path : List Str) : Node → Bool
  | .mk _ _ k => ok path && allL ok path k
def allL (ok : List Str → Bool) (path : List Str) : List Node → Bool
  | [] => true
  | x :: r => allN ok (path ++ [x.name]) x && allL ok path r
end
theorem allN_s (ok : List Str → Bool) (path : List Str) (n : Node) : allN ok path n = (ok path && allL ok path n.kids) := by cases n; rw [allN]; rfl
theorem allL_cons (ok : List Str → Bool) (path : List Str) (x : Node) (r : List Node) : allL ok path (x :: r) = (allN ok (path ++ [x.name]) x && allL ok path r) := by rw [allL]
def errI (b : Bool) : Int := if b then 0 else 17
abbrev vE (b : Bool) : AV := .v (.int .i64 (errI b))
theorem all_spec (p : Policy) (groups : List Str) (right : Int) (hp : p.ok) (hg : groups.length ≤ 140737488355328) : ∀ (n : Nat) (x : Node) (path : List Str), cntN x < n → path.length + n ≤ 1099511627776 →
    pureW XX 48 [aPolicy p, lS groups, vI right, aNode x, lS path] = some (vE (allN (may p groups right) path x)) := by
  intro n
  induction n with
  | zero => intro x path h _; omega
  | succ n ih =>
    intro x path hc hB
    rw [cntN_s] at hc
    have hl : x.kids.length ≤ n := by have := len_cnt x.kids; omega
    have hm := may_spec p groups right path hp hg (by omega)
    rw [allN_s]
    refine pureW_in 46 Try.func48 Try.ntmps48 (by simp) (rfl : Try.f48.body = some _) fns_48 ?_
    cases ho : may p groups right path with
    | false =>
      rw [ho] at hm
      simp (maxSteps := 200000) (disch := first | (simp only [go_sem, Nat.reduceAdd, Nat.reduceSub, Nat.reduceMul, Nat.reduceLeDiff, Nat.reduceEqDiff, Nat.reduceLT, Nat.reduceBEq, Nat.reduceBNe, Nat.reducePow, ↓reduceIte]; done) | omega | (simp only [go_sem, Nat.reduceAdd, Nat.reduceSub, Nat.reduceMul, Nat.reduceLeDiff, Nat.reduceEqDiff, Nat.reduceLT, Nat.reduceBEq, Nat.reduceBNe, Nat.reducePow, ↓reduceIte] <;> omega) | fail) only [go_sem, Nat.reduceAdd, Nat.reduceSub, Nat.reduceMul, Nat.reduceLeDiff, Nat.reduceEqDiff, Nat.reduceLT, Nat.reduceBEq, Nat.reduceBNe, Nat.reducePow, ↓reduceIte, callA_pure mode_19, hm]
      rfl
    | true =>
    rw [ho] at hm
    rw [Bool.true_and]
    simp (maxSteps := 200000) (disch := first | (simp only [go_sem, Nat.reduceAdd, Nat.reduceSub, Nat.reduceMul, Nat.reduceLeDiff, Nat.reduceEqDiff, Nat.reduceLT, Nat.reduceBEq, Nat.reduceBNe, Nat.reducePow, ↓reduceIte]; done) | omega | (simp only [go_sem, Nat.reduceAdd, Nat.reduceSub, Nat.reduceMul, Nat.reduceLeDiff, Nat.reduceEqDiff, Nat.reduceLT, Nat.reduceBEq, Nat.reduceBNe, Nat.reducePow, ↓reduceIte] <;> omega) | fail) only [go_sem, Nat.reduceAdd, Nat.reduceSub, Nat.reduceMul, Nat.reduceLeDiff, Nat.reduceEqDiff, Nat.reduceLT, Nat.reduceBEq, Nat.reduceBNe, Nat.reducePow, ↓reduceIte, callA_pure mode_19, hm]
    refine WP_range 4 2 x.kids.length (fun i => S_48_4 (lS groups) (vI right) (lS path) (.ptr 0 0) (lN x.kids) (vI x.kids.length) (vI i) [.var [.fs (p.rules.map eRule) false, vB p.read, vB p.write], .var [vS x.name, vS x.value, lN x.kids]]) (fun i => allL (may p groups right) path x.kids = allL (may p groups right) path (x.kids.drop i)) rfl rfl ?_ ?_ ?_ ?_
    · simp (maxSteps := 200000) (disch := first | (simp only [go_sem, Nat.reduceAdd, Nat.reduceSub, Nat.reduceMul, Nat.reduceLeDiff, Nat.reduceEqDiff, Nat.reduceLT, Nat.reduceBEq, Nat.reduceBNe, Nat.reducePow, ↓reduceIte]; done) | omega | (simp only [go_sem, Nat.reduceAdd, Nat.reduceSub, Nat.reduceMul, Nat.reduceLeDiff, Nat.reduceEqDiff, Nat.reduceLT, Nat.reduceBEq, Nat.reduceBNe, Nat.reducePow, ↓reduceIte] <;> omega) | fail) only [go_sem, Nat.reduceAdd, Nat.reduceSub, Nat.reduceMul, Nat.reduceLeDiff, Nat.reduceEqDiff, Nat.reduceLT, Nat.reduceBEq, Nat.reduceBNe, Nat.reducePow, ↓reduceIte]; rfl
    · simp
    · intro i h hI
      rw [List.drop_eq_getElem_cons h, allL_cons] at hI
      have hk := ih x.kids[i] (path ++ [x.kids[i].name]) (by have := cnt_mem (List.getElem_mem h); omega) (by simp; omega)
      have hlp : path.length ≤ path.length := Nat.le_refl _
      cases ha : allN (may p groups right) (path ++ [x.kids[i].name]) x.kids[i] with
      | false =>
        rw [ha] at hk hI
        rw [Bool.false_and] at hI
        rw [hI]
        simp only [vE, errI, Bool.false_eq_true, if_false] at hk
        have n17 : ((17 : Int) = 0) = False := eq_false (by omega)
        simp (maxSteps := 200000) (disch := first | (simp only [go_sem, Nat.reduceAdd, Nat.reduceSub, Nat.reduceMul, Nat.reduceLeDiff, Nat.reduceEqDiff, Nat.reduceLT, Nat.reduceBEq, Nat.reduceBNe, Nat.reducePow, ↓reduceIte]; done) | omega | (simp only [go_sem, Nat.reduceAdd, Nat.reduceSub, Nat.reduceMul, Nat.reduceLeDiff, Nat.reduceEqDiff, Nat.reduceLT, Nat.reduceBEq, Nat.reduceBNe, Nat.reducePow, ↓reduceIte] <;> omega) | fail) only [go_sem, Nat.reduceAdd, Nat.reduceSub, Nat.reduceMul, Nat.reduceLeDiff, Nat.reduceEqDiff, Nat.reduceLT, Nat.reduceBEq, Nat.reduceBNe, Nat.reducePow, ↓reduceIte, nat_int, h, eNode_s, List.take_length, callA_pure mode_48, hk, n17, ne_eq, not_false_eq_true]
        rfl
      | true =>
        rw [ha] at hk hI
        rw [Bool.true_and] at hI
        simp only [vE, errI, if_true] at hk
        simp (maxSteps := 200000) (disch := first | (simp only [go_sem, Nat.reduceAdd, Nat.reduceSub, Nat.reduceMul, Nat.reduceLeDiff, Nat.reduceEqDiff, Nat.reduceLT, Nat.reduceBEq, Nat.reduceBNe, Nat.reducePow, ↓reduceIte]; done) | omega | (simp only [go_sem, Nat.reduceAdd, Nat.reduceSub, Nat.reduceMul, Nat.reduceLeDiff, Nat.reduceEqDiff, Nat.reduceLT, Nat.reduceBEq, Nat.reduceBNe, Nat.reducePow, ↓reduceIte] <;> omega) | fail) only [go_sem, Nat.reduceAdd, Nat.reduceSub, Nat.reduceMul, Nat.reduceLeDiff, Nat.reduceEqDiff, Nat.reduceLT, Nat.reduceBEq, Nat.reduceBNe, Nat.reducePow, ↓reduceIte, nat_int, h, eNode_s, List.take_length, callA_pure mode_48, hk, ne_eq, not_true, wrap_succ h (show x.kids.length ≤ 140737488355328 by omega)]
        exact hI
    · intro hI
      rw [List.drop_length, allL] at hI
      rw [hI]
      simp (maxSteps := 200000) (disch := first | (simp only [go_sem, Nat.reduceAdd, Nat.reduceSub, Nat.reduceMul, Nat.reduceLeDiff, Nat.reduceEqDiff, Nat.reduceLT, Nat.reduceBEq, Nat.reduceBNe, Nat.reducePow, ↓reduceIte]; done) | omega | (simp only [go_sem, Nat.reduceAdd, Nat.reduceSub, Nat.reduceMul, Nat.reduceLeDiff, Nat.reduceEqDiff, Nat.reduceLT, Nat.reduceBEq, Nat.reduceBNe, Nat.reducePow, ↓reduceIte] <;> omega) | fail) only [go_sem, Nat.reduceAdd, Nat.reduceSub, Nat.reduceMul, Nat.reduceLeDiff, Nat.reduceEqDiff, Nat.reduceLT, Nat.reduceBEq, Nat.reduceBNe, Nat.reducePow, ↓reduceIte, nat_int]
      rfl
theorem refAll_spec (p : Policy) (groups : List Str) (right : Int) (hp : p.ok) (hg : groups.length ≤ 140737488355328) : ∀ (n : Nat) (l : List Node) (path : List Str), cntL l < n → path.length + n ≤ 1099511627776 →
    pureW XX 51 [aPolicy p, lS groups, vI right, lN l, lS path] = some (vB (allL (refMay p groups right) path l)) := by
  intro n
  induction n with
  | zero => intro l path h _; omega
  | succ n ih =>
    intro l path hc hB
    have hl : l.length ≤ n := by have := len_cnt l; omega
    refine pureW_in 45 Try.func51 Try.ntmps51 (by simp) (rfl : Try.f51.body = some _) fns_51 ?_
    simp (maxSteps := 200000) (disch := first | (simp only [go_sem, Nat.reduceAdd, Nat.reduceSub, Nat.reduceMul, Nat.reduceLeDiff, Nat.reduceEqDiff, Nat.reduceLT, Nat.reduceBEq, Nat.reduceBNe, Nat.reducePow, ↓reduceIte]; done) | omega | (simp only [go_sem, Nat.reduceAdd, Nat.reduceSub, Nat.reduceMul, Nat.reduceLeDiff, Nat.reduceEqDiff, Nat.reduceLT, Nat.reduceBEq, Nat.reduceBNe, Nat.reducePow, ↓reduceIte] <;> omega) | fail) only [go_sem, Nat.reduceAdd, Nat.reduceSub, Nat.reduceMul, Nat.reduceLeDiff, Nat.reduceEqDiff, Nat.reduceLT, Nat.reduceBEq, Nat.reduceBNe, Nat.reducePow, ↓reduceIte]
    refine WP_range 2 1 l.length (fun i => S_51_2 (lS groups) (vI right) (lN l) (lS path) (.ptr 0 0) (vI i) [.var [.fs (p.rules.map eRule) false, vB p.read, vB p.write]]) (fun i => allL (refMay p groups right) path l = allL (refMay p groups right) path (l.drop i)) rfl rfl ?_ ?_ ?_ ?_
    · simp (maxSteps := 200000) (disch := first | (simp only [go_sem, Nat.reduceAdd, Nat.reduceSub, Nat.reduceMul, Nat.reduceLeDiff, Nat.reduceEqDiff, Nat.reduceLT, Nat.reduceBEq, Nat.reduceBNe, Nat.reducePow, ↓reduceIte]; done) | omega | (simp only [go_sem, Nat.reduceAdd, Nat.reduceSub, Nat.reduceMul, Nat.reduceLeDiff, Nat.reduceEqDiff, Nat.reduceLT, Nat.reduceBEq, Nat.reduceBNe, Nat.reducePow, ↓reduceIte] <;> omega) | fail) only [go_sem, Nat.reduceAdd, Nat.reduceSub, Nat.reduceMul, Nat.reduceLeDiff, Nat.reduceEqDiff, Nat.reduceLT, Nat.reduceBEq, Nat.reduceBNe, Nat.reducePow, ↓reduceIte]; rfl
    · simp
    · intro i h hI
      rw [List.drop_eq_getElem_cons h, allL_cons, allN_s] at hI
      have hk := ih l[i].kids (path ++ [l[i].name]) (by have := cnt_kids h; omega) (by simp; omega)
      have hm := refMay_spec p groups right (path ++ [l[i].name]) hp hg (by simp; omega)
      have hw := with_spec path l[i].name (by omega)
      cases hd : refMay p groups right (path ++ [l[i].name]) with
      | false =>
        rw [hd] at hm hI
        rw [Bool.false_and, Bool.false_and] at hI
        rw [hI]
        simp (maxSteps := 200000) (disch := first | (simp only [go_sem, Nat.reduceAdd, Nat.reduceSub, Nat.reduceMul, Nat.reduceLeDiff, Nat.reduceEqDiff, Nat.reduceLT, Nat.reduceBEq, Nat.reduceBNe, Nat.reducePow, ↓reduceIte]; done) | omega | (simp only [go_sem, Nat.reduceAdd, Nat.reduceSub, Nat.reduceMul, Nat.reduceLeDiff, Nat.reduceEqDiff, Nat.reduceLT, Nat.reduceBEq, Nat.reduceBNe, Nat.reducePow, ↓reduceIte] <;> omega) | fail) only [go_sem, Nat.reduceAdd, Nat.reduceSub, Nat.reduceMul, Nat.reduceLeDiff, Nat.reduceEqDiff, Nat.reduceLT, Nat.reduceBEq, Nat.reduceBNe, Nat.reducePow, ↓reduceIte, nat_int, h, eNode_s, callA_pure mode_37, hm, callA_data mode_36, hw]
      | true =>
        rw [hd] at hm hI
        rw [Bool.true_and] at hI
        cases ha : allL (refMay p groups right) (path ++ [l[i].name]) l[i].kids with
        | false =>
          rw [ha] at hk hI
          rw [Bool.false_and] at hI
          rw [hI]
          simp (maxSteps := 200000) (disch := first | (simp only [go_sem, Nat.reduceAdd, Nat.reduceSub, Nat.reduceMul, Nat.reduceLeDiff, Nat.reduceEqDiff, Nat.reduceLT, Nat.reduceBEq, Nat.reduceBNe, Nat.reducePow, ↓reduceIte]; done) | omega | (simp only [go_sem, Nat.reduceAdd, Nat.reduceSub, Nat.reduceMul, Nat.reduceLeDiff, Nat.reduceEqDiff, Nat.reduceLT, Nat.reduceBEq, Nat.reduceBNe, Nat.reducePow, ↓reduceIte] <;> omega) | fail) only [go_sem, Nat.reduceAdd, Nat.reduceSub, Nat.reduceMul, Nat.reduceLeDiff, Nat.reduceEqDiff, Nat.reduceLT, Nat.reduceBEq, Nat.reduceBNe, Nat.reducePow, ↓reduceIte, nat_int, h, eNode_s, callA_pure mode_37, hm, callA_data mode_36, hw, callA_pure mode_51, hk]
        | true =>
          rw [ha] at hk hI
          rw [Bool.true_and] at hI
          simp (maxSteps := 200000) (disch := first | (simp only [go_sem, Nat.reduceAdd, Nat.reduceSub, Nat.reduceMul, Nat.reduceLeDiff, Nat.reduceEqDiff, Nat.reduceLT, Nat.reduceBEq, Nat.reduceBNe, Nat.reducePow, ↓reduceIte]; done) | omega | (simp only [go_sem, Nat.reduceAdd, Nat.reduceSub, Nat.reduceMul, Nat.reduceLeDiff, Nat.reduceEqDiff, Nat.reduceLT, Nat.reduceBEq, Nat.reduceBNe, Nat.reducePow, ↓reduceIte] <;> omega) | fail) only [go_sem, Nat.reduceAdd, Nat.reduceSub, Nat.reduceMul, Nat.reduceLeDiff, Nat.reduceEqDiff, Nat.reduceLT, Nat.reduceBEq, Nat.reduceBNe, Nat.reducePow, ↓reduceIte, nat_int, h, eNode_s, callA_pure mode_37, hm, callA_data mode_36, hw, callA_pure mode_51, hk, wrap_succ h (show l.length ≤ 140737488355328 by omega)]
          exact hI
    · intro hI
      rw [List.drop_length, allL] at hI
      rw [hI]
      simp (maxSteps := 200000) (disch := first | (simp only [go_sem, Nat.reduceAdd, Nat.reduceSub, Nat.reduceMul, Nat.reduceLeDiff, Nat.reduceEqDiff, Nat.reduceLT, Nat.reduceBEq, Nat.reduceBNe, Nat.reducePow, ↓reduceIte]; done) | omega | (simp only [go_sem, Nat.reduceAdd, Nat.reduceSub, Nat.reduceMul, Nat.reduceLeDiff, Nat.reduceEqDiff, Nat.reduceLT, Nat.reduceBEq, Nat.reduceBNe, Nat.reducePow, ↓reduceIte] <;> omega) | fail) only [go_sem, Nat.reduceAdd, Nat.reduceSub, Nat.reduceMul, Nat.reduceLeDiff, Nat.reduceEqDiff, Nat.reduceLT, Nat.reduceBEq, Nat.reduceBNe, Nat.reducePow, ↓reduceIte, nat_int]
end Go.Abs.SA
end

section
set_option linter.unusedVariables false
set_option linter.unusedSimpArgs false
set_option maxRecDepth 100000
set_option maxHeartbeats 4000000
set_option linter.unusedSimpArgs false
set_option linter.unusedVariables false
namespace Go.Abs.SA
open Go.Proofs

mutual
def cntD : Def → Nat
  | .mk _ _ _ _ _ _ k => 1 + cntDs k
def cntDs : List Def → Nat
  | [] => 0
  | d :: r => cntD d + cntDs r
end
theorem cntD_s (d : Def) : cntD d = 1 + cntDs d.kids := by cases d; rw [cntD]; rfl
theorem cntD_mem : ∀ {l : List Def} {d : Def}, d ∈ l → cntD d ≤ cntDs l
  | x :: r, d, h => by
    rw [cntDs]
    rcases List.mem_cons.1 h with rfl | h
    · omega
    · have := cntD_mem h; omega
/-- What of a node that is there now is asked, by its definition; 'sub': of what stands in it. -/
def nowOk (ok : Int → List Str → Bool) (sub : List Node → List Node → List Str → Bool) (d : Def) (was : List Node) (path : List Str) (n : Node) : Bool :=
  !decide (n.name = d.name) || match sameAt d was n with
    | none => allN (ok 2) (path ++ [d.name]) n
    | some i => match was[i]? with
      | none => false
      | some x => if d.kind = 3 then decide (n.value = x.value) || ok 4 (path ++ [d.name]) else sub x.kids n.kids (path ++ [d.name])
/-- What of a node that was there is asked. -/
def wasOk (ok : Int → List Str → Bool) (d : Def) (now : List Node) (path : List Str) (n : Node) : Bool :=
  !decide (n.name = d.name) || (sameAt d now n).isSome || allN (ok 8) (path ++ [d.name]) n
mutual
/-- May a tree become another one? By one definition. -/
def chD (ok : Int → List Str → Bool) (was now : List Node) (path : List Str) : Def → Bool
  | .mk n k t v m ks kd => now.all (nowOk ok (fun a b q => chDs ok a b q kd) (.mk n k t v m ks kd) was path) && was.all (wasOk ok (.mk n k t v m ks kd) now path)
def chDs (ok : Int → List Str → Bool) (was now : List Node) (path : List Str) : List Def → Bool
  | [] => true
  | d :: r => chD ok was now path d && chDs ok was now path r
end
theorem chD_s (ok : Int → List Str → Bool) (was now : List Node) (path : List Str) (d : Def) : chD ok was now path d = (now.all (nowOk ok (fun a b q => chDs ok a b q d.kids) d was path) && was.all (wasOk ok d now path)) := by
  cases d; rw [chD]; rfl
theorem chDs_cons (ok : Int → List Str → Bool) (was now : List Node) (path : List Str) (d : Def) (r : List Def) : chDs ok was now path (d :: r) = (chD ok was now path d && chDs ok was now path r) := by rw [chDs]
end Go.Abs.SA
end

section
set_option linter.unusedVariables false
set_option linter.unusedSimpArgs false
set_option maxRecDepth 100000
set_option maxHeartbeats 8000000
set_option linter.unusedSimpArgs false
set_option linter.unusedVariables false
namespace Go.Abs.SA
open Go.Proofs

theorem len_cntDs : ∀ (l : List Def), l.length ≤ cntDs l
  | [] => by simp [cntDs]
  | d :: r => by have := len_cntDs r; rw [cntDs, cntD_s, List.length_cons]; omega
theorem sameAt_lt {d : Def} {l : List Node} {n : Node} {i : Nat} (h : sameAt d l n = some i) : i < l.length := by
  unfold sameAt at h
  rw [List.findIdx?_eq_some_iff_getElem] at h
  exact h.1
theorem kids_le {l : List Node} {x : Node} (h : x ∈ l) : x.kids.length ≤ cntL l := by
  have h1 := cnt_mem h
  have h2 := len_cnt x.kids
  rw [cntN_s] at h1
  omega
theorem change_spec (p : Policy) (groups : List Str) (hp : p.ok) (hg : groups.length ≤ 140737488355328) : ∀ (n : Nat) (l : List Def) (was now : List Node) (path : List Str), cntDs l < n → n + path.length ≤ 1000000 → okDs l → cntL was ≤ 1000000 → cntL now ≤ 1000000 →
    pureW XX 28 [aPolicy p, lS groups, lD l, lN was, lN now, lS path] = some (vE (chDs (may p groups) was now path l)) := by
  intro n
  induction n with
  | zero => intro l was now path h; omega
  | succ n ih =>
    intro l was now path hc hB hod hcw hcn
    have hll := len_cntDs l
    have hlw := len_cnt was
    have hln := len_cnt now
    refine pureW_in 128 Try.func28 Try.ntmps28 (by simp) (rfl : Try.f28.body = some _) fns_28 ?_
    simp (maxSteps := 200000) (disch := first | (simp only [go_sem, Nat.reduceAdd, Nat.reduceSub, Nat.reduceMul, Nat.reduceLeDiff, Nat.reduceEqDiff, Nat.reduceLT, Nat.reduceBEq, Nat.reduceBNe, Nat.reducePow, ↓reduceIte]; done) | omega | (simp only [go_sem, Nat.reduceAdd, Nat.reduceSub, Nat.reduceMul, Nat.reduceLeDiff, Nat.reduceEqDiff, Nat.reduceLT, Nat.reduceBEq, Nat.reduceBNe, Nat.reducePow, ↓reduceIte] <;> omega) | fail) only [go_sem, Nat.reduceAdd, Nat.reduceSub, Nat.reduceMul, Nat.reduceLeDiff, Nat.reduceEqDiff, Nat.reduceLT, Nat.reduceBEq, Nat.reduceBNe, Nat.reducePow, ↓reduceIte]
    refine WP_range 2 1 l.length (fun i => S_28_2 (lS groups) (lN was) (lN now) (lS path) (.ptr 0 0) (lD l) (vI l.length) (vI i) [.var [.fs (p.rules.map eRule) false, vB p.read, vB p.write]]) (fun i => chDs (may p groups) was now path l = chDs (may p groups) was now path (l.drop i)) rfl rfl ?_ ?_ ?_ ?_
    · simp (maxSteps := 200000) (disch := first | (simp only [go_sem, Nat.reduceAdd, Nat.reduceSub, Nat.reduceMul, Nat.reduceLeDiff, Nat.reduceEqDiff, Nat.reduceLT, Nat.reduceBEq, Nat.reduceBNe, Nat.reducePow, ↓reduceIte]; done) | omega | (simp only [go_sem, Nat.reduceAdd, Nat.reduceSub, Nat.reduceMul, Nat.reduceLeDiff, Nat.reduceEqDiff, Nat.reduceLT, Nat.reduceBEq, Nat.reduceBNe, Nat.reducePow, ↓reduceIte] <;> omega) | fail) only [go_sem, Nat.reduceAdd, Nat.reduceSub, Nat.reduceMul, Nat.reduceLeDiff, Nat.reduceEqDiff, Nat.reduceLT, Nat.reduceBEq, Nat.reduceBNe, Nat.reducePow, ↓reduceIte]; rfl
    · simp
    · intro i h hI
      rw [List.drop_eq_getElem_cons h, chDs_cons, chD_s] at hI
      obtain ⟨o1, o2, o3, o4⟩ := okD_s (okDs_mem hod (List.getElem_mem h))
      have hcd := cntD_mem (List.getElem_mem h)
      rw [cntD_s] at hcd
      have hlp := Nat.le_refl path.length
      simp (maxSteps := 200000) (disch := first | (simp only [go_sem, Nat.reduceAdd, Nat.reduceSub, Nat.reduceMul, Nat.reduceLeDiff, Nat.reduceEqDiff, Nat.reduceLT, Nat.reduceBEq, Nat.reduceBNe, Nat.reducePow, ↓reduceIte]; done) | omega | (simp only [go_sem, Nat.reduceAdd, Nat.reduceSub, Nat.reduceMul, Nat.reduceLeDiff, Nat.reduceEqDiff, Nat.reduceLT, Nat.reduceBEq, Nat.reduceBNe, Nat.reducePow, ↓reduceIte] <;> omega) | fail) only [go_sem, Nat.reduceAdd, Nat.reduceSub, Nat.reduceMul, Nat.reduceLeDiff, Nat.reduceEqDiff, Nat.reduceLT, Nat.reduceBEq, Nat.reduceBNe, Nat.reducePow, ↓reduceIte, nat_int, h, eDef_s, List.take_length]
      refine WP_range 6 3 now.length (fun j => S_28_6 (lS groups) (lN was) (lN now) (lS path) (.ptr 0 0) (.ptr 1 0) (.sl 2 0 (path.length + 1) false) (lD l) (vI l.length) (vI i) (lN now) (vI now.length) (vI j) [.var [.fs (p.rules.map eRule) false, vB p.read, vB p.write], .var [vS l[i].name, vI l[i].kind, vI l[i].type, lS l[i].values, vB l[i].must, lS l[i].keys, lD l[i].kids], .arr 9 1 ((path ++ [l[i].name]).map eS)])
        (fun j => now.all (nowOk (may p groups) (fun a b q => chDs (may p groups) a b q l[i].kids) l[i] was path) = (now.drop j).all (nowOk (may p groups) (fun a b q => chDs (may p groups) a b q l[i].kids) l[i] was path)) rfl rfl ?_ ?_ ?_ ?_
      · simp (maxSteps := 200000) (disch := first | (simp only [go_sem, Nat.reduceAdd, Nat.reduceSub, Nat.reduceMul, Nat.reduceLeDiff, Nat.reduceEqDiff, Nat.reduceLT, Nat.reduceBEq, Nat.reduceBNe, Nat.reducePow, ↓reduceIte]; done) | omega | (simp only [go_sem, Nat.reduceAdd, Nat.reduceSub, Nat.reduceMul, Nat.reduceLeDiff, Nat.reduceEqDiff, Nat.reduceLT, Nat.reduceBEq, Nat.reduceBNe, Nat.reducePow, ↓reduceIte] <;> omega) | fail) only [go_sem, Nat.reduceAdd, Nat.reduceSub, Nat.reduceMul, Nat.reduceLeDiff, Nat.reduceEqDiff, Nat.reduceLT, Nat.reduceBEq, Nat.reduceBNe, Nat.reducePow, ↓reduceIte]; rfl
      · simp
      · intro j hj hJ
        rw [List.drop_eq_getElem_cons hj, List.all_cons] at hJ
        have n17 : ((17 : Int) = 0) = False := eq_false (by omega)
        have hxm := List.getElem_mem hj
        have hkx := kids_le hxm
        have hws := wrap_succ hj (show now.length ≤ 140737488355328 by omega)
        have hbad : nowOk (may p groups) (fun a b q => chDs (may p groups) a b q l[i].kids) l[i] was path now[j] = false → chDs (may p groups) was now path l = false := by
          intro hF; rw [hI, hJ, hF, Bool.false_and, Bool.false_and, Bool.false_and]
        have hgood : nowOk (may p groups) (fun a b q => chDs (may p groups) a b q l[i].kids) l[i] was path now[j] = true → now.all (nowOk (may p groups) (fun a b q => chDs (may p groups) a b q l[i].kids) l[i] was path) = (now.drop (j + 1)).all (nowOk (may p groups) (fun a b q => chDs (may p groups) a b q l[i].kids) l[i] was path) := by
          intro hF; rw [hJ, hF, Bool.true_and]
        by_cases e1 : now[j].name = l[i].name
        case neg =>
          simp (maxSteps := 200000) (disch := first | (simp only [go_sem, Nat.reduceAdd, Nat.reduceSub, Nat.reduceMul, Nat.reduceLeDiff, Nat.reduceEqDiff, Nat.reduceLT, Nat.reduceBEq, Nat.reduceBNe, Nat.reducePow, ↓reduceIte]; done) | omega | (simp only [go_sem, Nat.reduceAdd, Nat.reduceSub, Nat.reduceMul, Nat.reduceLeDiff, Nat.reduceEqDiff, Nat.reduceLT, Nat.reduceBEq, Nat.reduceBNe, Nat.reducePow, ↓reduceIte] <;> omega) | fail) only [go_sem, Nat.reduceAdd, Nat.reduceSub, Nat.reduceMul, Nat.reduceLeDiff, Nat.reduceEqDiff, Nat.reduceLT, Nat.reduceBEq, Nat.reduceBNe, Nat.reducePow, ↓reduceIte, nat_int, h, hj, eNode_s, e1, ne_eq, not_false_eq_true, hws]
          exact hgood (by simp [nowOk, e1])
        have e1' := eq_true e1
        have hsm := modelSame_spec l[i] was now[j] o2 (by omega) (by omega) (fun x hx => by have := kids_le hx; omega)
        cases hs : sameAt l[i] was now[j] with
        | none =>
          rw [hs] at hsm
          simp only [posI] at hsm
          have n1 : ((-1 : Int) < 0) = True := eq_true (by omega)
          have hal := all_spec p groups 2 hp hg 1000001 now[j] (path ++ [l[i].name]) (by have := cnt_mem hxm; omega) (by simp; omega)
          cases ha : allN (may p groups 2) (path ++ [l[i].name]) now[j] with
          | false =>
            rw [ha] at hal
            simp only [vE, errI, Bool.false_eq_true, if_false] at hal
            rw [hbad (by simp [nowOk, e1, hs, ha])]
            simp (maxSteps := 200000) (disch := first | (simp only [go_sem, Nat.reduceAdd, Nat.reduceSub, Nat.reduceMul, Nat.reduceLeDiff, Nat.reduceEqDiff, Nat.reduceLT, Nat.reduceBEq, Nat.reduceBNe, Nat.reducePow, ↓reduceIte]; done) | omega | (simp only [go_sem, Nat.reduceAdd, Nat.reduceSub, Nat.reduceMul, Nat.reduceLeDiff, Nat.reduceEqDiff, Nat.reduceLT, Nat.reduceBEq, Nat.reduceBNe, Nat.reducePow, ↓reduceIte] <;> omega) | fail) only [go_sem, Nat.reduceAdd, Nat.reduceSub, Nat.reduceMul, Nat.reduceLeDiff, Nat.reduceEqDiff, Nat.reduceLT, Nat.reduceBEq, Nat.reduceBNe, Nat.reducePow, ↓reduceIte, nat_int, h, hj, eNode_s, e1', ne_eq, not_true, not_false_eq_true, callA_pure mode_47, hsm, n1, callA_pure mode_48, hal, n17]
            rfl
          | true =>
            rw [ha] at hal
            simp only [vE, errI, if_true] at hal
            simp (maxSteps := 200000) (disch := first | (simp only [go_sem, Nat.reduceAdd, Nat.reduceSub, Nat.reduceMul, Nat.reduceLeDiff, Nat.reduceEqDiff, Nat.reduceLT, Nat.reduceBEq, Nat.reduceBNe, Nat.reducePow, ↓reduceIte]; done) | omega | (simp only [go_sem, Nat.reduceAdd, Nat.reduceSub, Nat.reduceMul, Nat.reduceLeDiff, Nat.reduceEqDiff, Nat.reduceLT, Nat.reduceBEq, Nat.reduceBNe, Nat.reducePow, ↓reduceIte] <;> omega) | fail) only [go_sem, Nat.reduceAdd, Nat.reduceSub, Nat.reduceMul, Nat.reduceLeDiff, Nat.reduceEqDiff, Nat.reduceLT, Nat.reduceBEq, Nat.reduceBNe, Nat.reducePow, ↓reduceIte, nat_int, h, hj, eNode_s, e1', ne_eq, not_true, not_false_eq_true, callA_pure mode_47, hsm, n1, callA_pure mode_48, hal, hws]
            exact hgood (by simp [nowOk, e1, hs, ha])
        | some q =>
          have hq := sameAt_lt hs
          rw [hs] at hsm
          simp only [posI] at hsm
          have n1 : ((q : Int) < 0) = False := eq_false (by omega)
          by_cases hk3 : l[i].kind = 3
          · have hk3' := eq_true hk3
            by_cases hv : now[j].value = was[q].value
            · have hv' := eq_true hv
              simp (maxSteps := 200000) (disch := first | (simp only [go_sem, Nat.reduceAdd, Nat.reduceSub, Nat.reduceMul, Nat.reduceLeDiff, Nat.reduceEqDiff, Nat.reduceLT, Nat.reduceBEq, Nat.reduceBNe, Nat.reducePow, ↓reduceIte]; done) | omega | (simp only [go_sem, Nat.reduceAdd, Nat.reduceSub, Nat.reduceMul, Nat.reduceLeDiff, Nat.reduceEqDiff, Nat.reduceLT, Nat.reduceBEq, Nat.reduceBNe, Nat.reducePow, ↓reduceIte] <;> omega) | fail) only [go_sem, Nat.reduceAdd, Nat.reduceSub, Nat.reduceMul, Nat.reduceLeDiff, Nat.reduceEqDiff, Nat.reduceLT, Nat.reduceBEq, Nat.reduceBNe, Nat.reducePow, ↓reduceIte, nat_int, h, hj, hq, eNode_s, e1', ne_eq, not_true, not_false_eq_true, callA_pure mode_47, hsm, n1, hk3', hv', hws]
              exact hgood (by simp [nowOk, e1, hs, List.getElem?_eq_getElem hq, hk3, hv])
            · have hmy := may_spec p groups 4 (path ++ [l[i].name]) hp hg (by simp; omega)
              cases hm : may p groups 4 (path ++ [l[i].name]) with
              | false =>
                rw [hm] at hmy
                rw [hbad (by simp [nowOk, e1, hs, List.getElem?_eq_getElem hq, hk3, hv, hm])]
                simp (maxSteps := 200000) (disch := first | (simp only [go_sem, Nat.reduceAdd, Nat.reduceSub, Nat.reduceMul, Nat.reduceLeDiff, Nat.reduceEqDiff, Nat.reduceLT, Nat.reduceBEq, Nat.reduceBNe, Nat.reducePow, ↓reduceIte]; done) | omega | (simp only [go_sem, Nat.reduceAdd, Nat.reduceSub, Nat.reduceMul, Nat.reduceLeDiff, Nat.reduceEqDiff, Nat.reduceLT, Nat.reduceBEq, Nat.reduceBNe, Nat.reducePow, ↓reduceIte] <;> omega) | fail) only [go_sem, Nat.reduceAdd, Nat.reduceSub, Nat.reduceMul, Nat.reduceLeDiff, Nat.reduceEqDiff, Nat.reduceLT, Nat.reduceBEq, Nat.reduceBNe, Nat.reducePow, ↓reduceIte, nat_int, h, hj, hq, eNode_s, e1', ne_eq, not_true, not_false_eq_true, callA_pure mode_47, hsm, n1, hk3', hv, callA_pure mode_19, hmy]
                rfl
              | true =>
                rw [hm] at hmy
                simp (maxSteps := 200000) (disch := first | (simp only [go_sem, Nat.reduceAdd, Nat.reduceSub, Nat.reduceMul, Nat.reduceLeDiff, Nat.reduceEqDiff, Nat.reduceLT, Nat.reduceBEq, Nat.reduceBNe, Nat.reducePow, ↓reduceIte]; done) | omega | (simp only [go_sem, Nat.reduceAdd, Nat.reduceSub, Nat.reduceMul, Nat.reduceLeDiff, Nat.reduceEqDiff, Nat.reduceLT, Nat.reduceBEq, Nat.reduceBNe, Nat.reducePow, ↓reduceIte] <;> omega) | fail) only [go_sem, Nat.reduceAdd, Nat.reduceSub, Nat.reduceMul, Nat.reduceLeDiff, Nat.reduceEqDiff, Nat.reduceLT, Nat.reduceBEq, Nat.reduceBNe, Nat.reducePow, ↓reduceIte, nat_int, h, hj, hq, eNode_s, e1', ne_eq, not_true, not_false_eq_true, callA_pure mode_47, hsm, n1, hk3', hv, callA_pure mode_19, hmy, hws]
                exact hgood (by simp [nowOk, e1, hs, List.getElem?_eq_getElem hq, hk3, hm])
          · have hch := ih l[i].kids was[q].kids now[j].kids (path ++ [l[i].name]) (by omega) (by simp; omega) o4 (by have := cnt_kids hq; omega) (by have := cnt_kids hj; omega)
            cases hc2 : chDs (may p groups) was[q].kids now[j].kids (path ++ [l[i].name]) l[i].kids with
            | false =>
              rw [hc2] at hch
              simp only [vE, errI, Bool.false_eq_true, if_false] at hch
              rw [hbad (by simp [nowOk, e1, hs, List.getElem?_eq_getElem hq, hk3, hc2])]
              simp (maxSteps := 200000) (disch := first | (simp only [go_sem, Nat.reduceAdd, Nat.reduceSub, Nat.reduceMul, Nat.reduceLeDiff, Nat.reduceEqDiff, Nat.reduceLT, Nat.reduceBEq, Nat.reduceBNe, Nat.reducePow, ↓reduceIte]; done) | omega | (simp only [go_sem, Nat.reduceAdd, Nat.reduceSub, Nat.reduceMul, Nat.reduceLeDiff, Nat.reduceEqDiff, Nat.reduceLT, Nat.reduceBEq, Nat.reduceBNe, Nat.reducePow, ↓reduceIte] <;> omega) | fail) only [go_sem, Nat.reduceAdd, Nat.reduceSub, Nat.reduceMul, Nat.reduceLeDiff, Nat.reduceEqDiff, Nat.reduceLT, Nat.reduceBEq, Nat.reduceBNe, Nat.reducePow, ↓reduceIte, nat_int, h, hj, hq, eNode_s, e1', ne_eq, not_true, not_false_eq_true, callA_pure mode_47, hsm, n1, hk3, callA_pure mode_28, hch, n17]
              rfl
            | true =>
              rw [hc2] at hch
              simp only [vE, errI, if_true] at hch
              simp (maxSteps := 200000) (disch := first | (simp only [go_sem, Nat.reduceAdd, Nat.reduceSub, Nat.reduceMul, Nat.reduceLeDiff, Nat.reduceEqDiff, Nat.reduceLT, Nat.reduceBEq, Nat.reduceBNe, Nat.reducePow, ↓reduceIte]; done) | omega | (simp only [go_sem, Nat.reduceAdd, Nat.reduceSub, Nat.reduceMul, Nat.reduceLeDiff, Nat.reduceEqDiff, Nat.reduceLT, Nat.reduceBEq, Nat.reduceBNe, Nat.reducePow, ↓reduceIte] <;> omega) | fail) only [go_sem, Nat.reduceAdd, Nat.reduceSub, Nat.reduceMul, Nat.reduceLeDiff, Nat.reduceEqDiff, Nat.reduceLT, Nat.reduceBEq, Nat.reduceBNe, Nat.reducePow, ↓reduceIte, nat_int, h, hj, hq, eNode_s, e1', ne_eq, not_true, not_false_eq_true, callA_pure mode_47, hsm, n1, hk3, callA_pure mode_28, hch, hws]
              exact hgood (by simp [nowOk, e1, hs, List.getElem?_eq_getElem hq, hk3, hc2])
      · intro hJ
        rw [List.drop_length, List.all_nil] at hJ
        simp (maxSteps := 200000) (disch := first | (simp only [go_sem, Nat.reduceAdd, Nat.reduceSub, Nat.reduceMul, Nat.reduceLeDiff, Nat.reduceEqDiff, Nat.reduceLT, Nat.reduceBEq, Nat.reduceBNe, Nat.reducePow, ↓reduceIte]; done) | omega | (simp only [go_sem, Nat.reduceAdd, Nat.reduceSub, Nat.reduceMul, Nat.reduceLeDiff, Nat.reduceEqDiff, Nat.reduceLT, Nat.reduceBEq, Nat.reduceBNe, Nat.reducePow, ↓reduceIte] <;> omega) | fail) only [go_sem, Nat.reduceAdd, Nat.reduceSub, Nat.reduceMul, Nat.reduceLeDiff, Nat.reduceEqDiff, Nat.reduceLT, Nat.reduceBEq, Nat.reduceBNe, Nat.reducePow, ↓reduceIte, nat_int]
        refine WP_range 22 3 was.length (fun j => S_28_22 (lS groups) (lN was) (lN now) (lS path) (.ptr 0 0) (.ptr 1 0) (.sl 2 0 (path.length + 1) false) (lD l) (vI l.length) (vI i) (lN was) (vI was.length) (vI j) [.var [.fs (p.rules.map eRule) false, vB p.read, vB p.write], .var [vS l[i].name, vI l[i].kind, vI l[i].type, lS l[i].values, vB l[i].must, lS l[i].keys, lD l[i].kids], .arr 9 1 ((path ++ [l[i].name]).map eS)])
          (fun j => was.all (wasOk (may p groups) l[i] now path) = (was.drop j).all (wasOk (may p groups) l[i] now path)) rfl rfl ?_ ?_ ?_ ?_
        · simp (maxSteps := 200000) (disch := first | (simp only [go_sem, Nat.reduceAdd, Nat.reduceSub, Nat.reduceMul, Nat.reduceLeDiff, Nat.reduceEqDiff, Nat.reduceLT, Nat.reduceBEq, Nat.reduceBNe, Nat.reducePow, ↓reduceIte]; done) | omega | (simp only [go_sem, Nat.reduceAdd, Nat.reduceSub, Nat.reduceMul, Nat.reduceLeDiff, Nat.reduceEqDiff, Nat.reduceLT, Nat.reduceBEq, Nat.reduceBNe, Nat.reducePow, ↓reduceIte] <;> omega) | fail) only [go_sem, Nat.reduceAdd, Nat.reduceSub, Nat.reduceMul, Nat.reduceLeDiff, Nat.reduceEqDiff, Nat.reduceLT, Nat.reduceBEq, Nat.reduceBNe, Nat.reducePow, ↓reduceIte]; rfl
        · simp
        · intro j hj hK
          rw [List.drop_eq_getElem_cons hj, List.all_cons] at hK
          have n17 : ((17 : Int) = 0) = False := eq_false (by omega)
          have hxm := List.getElem_mem hj
          have hkx := kids_le hxm
          have hws := wrap_succ hj (show was.length ≤ 140737488355328 by omega)
          have hbad : wasOk (may p groups) l[i] now path was[j] = false → chDs (may p groups) was now path l = false := by
            intro hF; rw [hI, hK, hF, Bool.false_and, Bool.and_false, Bool.false_and]
          have hgood : wasOk (may p groups) l[i] now path was[j] = true → was.all (wasOk (may p groups) l[i] now path) = (was.drop (j + 1)).all (wasOk (may p groups) l[i] now path) := by
            intro hF; rw [hK, hF, Bool.true_and]
          by_cases e1 : was[j].name = l[i].name
          case neg =>
            simp (maxSteps := 200000) (disch := first | (simp only [go_sem, Nat.reduceAdd, Nat.reduceSub, Nat.reduceMul, Nat.reduceLeDiff, Nat.reduceEqDiff, Nat.reduceLT, Nat.reduceBEq, Nat.reduceBNe, Nat.reducePow, ↓reduceIte]; done) | omega | (simp only [go_sem, Nat.reduceAdd, Nat.reduceSub, Nat.reduceMul, Nat.reduceLeDiff, Nat.reduceEqDiff, Nat.reduceLT, Nat.reduceBEq, Nat.reduceBNe, Nat.reducePow, ↓reduceIte] <;> omega) | fail) only [go_sem, Nat.reduceAdd, Nat.reduceSub, Nat.reduceMul, Nat.reduceLeDiff, Nat.reduceEqDiff, Nat.reduceLT, Nat.reduceBEq, Nat.reduceBNe, Nat.reducePow, ↓reduceIte, nat_int, h, hj, eNode_s, e1, hws]
            exact hgood (by simp [wasOk, e1])
          have e1' := eq_true e1
          have hsm := modelSame_spec l[i] now was[j] o2 (by omega) (by omega) (fun x hx => by have := kids_le hx; omega)
          cases hs : sameAt l[i] now was[j] with
          | some q =>
            rw [hs] at hsm
            simp only [posI] at hsm
            have n1 : ((q : Int) < 0) = False := eq_false (by omega)
            simp (maxSteps := 200000) (disch := first | (simp only [go_sem, Nat.reduceAdd, Nat.reduceSub, Nat.reduceMul, Nat.reduceLeDiff, Nat.reduceEqDiff, Nat.reduceLT, Nat.reduceBEq, Nat.reduceBNe, Nat.reducePow, ↓reduceIte]; done) | omega | (simp only [go_sem, Nat.reduceAdd, Nat.reduceSub, Nat.reduceMul, Nat.reduceLeDiff, Nat.reduceEqDiff, Nat.reduceLT, Nat.reduceBEq, Nat.reduceBNe, Nat.reducePow, ↓reduceIte] <;> omega) | fail) only [go_sem, Nat.reduceAdd, Nat.reduceSub, Nat.reduceMul, Nat.reduceLeDiff, Nat.reduceEqDiff, Nat.reduceLT, Nat.reduceBEq, Nat.reduceBNe, Nat.reducePow, ↓reduceIte, nat_int, h, hj, eNode_s, e1', callA_pure mode_47, hsm, n1, hws]
            exact hgood (by simp [wasOk, hs])
          | none =>
            rw [hs] at hsm
            simp only [posI] at hsm
            have n1 : ((-1 : Int) < 0) = True := eq_true (by omega)
            have hal := all_spec p groups 8 hp hg 1000001 was[j] (path ++ [l[i].name]) (by have := cnt_mem hxm; omega) (by simp; omega)
            cases ha : allN (may p groups 8) (path ++ [l[i].name]) was[j] with
            | false =>
              rw [ha] at hal
              simp only [vE, errI, Bool.false_eq_true, if_false] at hal
              rw [hbad (by simp [wasOk, e1, hs, ha])]
              simp (maxSteps := 200000) (disch := first | (simp only [go_sem, Nat.reduceAdd, Nat.reduceSub, Nat.reduceMul, Nat.reduceLeDiff, Nat.reduceEqDiff, Nat.reduceLT, Nat.reduceBEq, Nat.reduceBNe, Nat.reducePow, ↓reduceIte]; done) | omega | (simp only [go_sem, Nat.reduceAdd, Nat.reduceSub, Nat.reduceMul, Nat.reduceLeDiff, Nat.reduceEqDiff, Nat.reduceLT, Nat.reduceBEq, Nat.reduceBNe, Nat.reducePow, ↓reduceIte] <;> omega) | fail) only [go_sem, Nat.reduceAdd, Nat.reduceSub, Nat.reduceMul, Nat.reduceLeDiff, Nat.reduceEqDiff, Nat.reduceLT, Nat.reduceBEq, Nat.reduceBNe, Nat.reducePow, ↓reduceIte, nat_int, h, hj, eNode_s, e1', ne_eq, not_true, not_false_eq_true, callA_pure mode_47, hsm, n1, callA_pure mode_48, hal, n17]
              rfl
            | true =>
              rw [ha] at hal
              simp only [vE, errI, if_true] at hal
              simp (maxSteps := 200000) (disch := first | (simp only [go_sem, Nat.reduceAdd, Nat.reduceSub, Nat.reduceMul, Nat.reduceLeDiff, Nat.reduceEqDiff, Nat.reduceLT, Nat.reduceBEq, Nat.reduceBNe, Nat.reducePow, ↓reduceIte]; done) | omega | (simp only [go_sem, Nat.reduceAdd, Nat.reduceSub, Nat.reduceMul, Nat.reduceLeDiff, Nat.reduceEqDiff, Nat.reduceLT, Nat.reduceBEq, Nat.reduceBNe, Nat.reducePow, ↓reduceIte] <;> omega) | fail) only [go_sem, Nat.reduceAdd, Nat.reduceSub, Nat.reduceMul, Nat.reduceLeDiff, Nat.reduceEqDiff, Nat.reduceLT, Nat.reduceBEq, Nat.reduceBNe, Nat.reducePow, ↓reduceIte, nat_int, h, hj, eNode_s, e1', ne_eq, not_true, not_false_eq_true, callA_pure mode_47, hsm, n1, callA_pure mode_48, hal, hws]
              exact hgood (by simp [wasOk, ha])
        · intro hK
          rw [List.drop_length, List.all_nil] at hK
          rw [hJ, hK, Bool.true_and] at hI
          simp (maxSteps := 200000) (disch := first | (simp only [go_sem, Nat.reduceAdd, Nat.reduceSub, Nat.reduceMul, Nat.reduceLeDiff, Nat.reduceEqDiff, Nat.reduceLT, Nat.reduceBEq, Nat.reduceBNe, Nat.reducePow, ↓reduceIte]; done) | omega | (simp only [go_sem, Nat.reduceAdd, Nat.reduceSub, Nat.reduceMul, Nat.reduceLeDiff, Nat.reduceEqDiff, Nat.reduceLT, Nat.reduceBEq, Nat.reduceBNe, Nat.reducePow, ↓reduceIte] <;> omega) | fail) only [go_sem, Nat.reduceAdd, Nat.reduceSub, Nat.reduceMul, Nat.reduceLeDiff, Nat.reduceEqDiff, Nat.reduceLT, Nat.reduceBEq, Nat.reduceBNe, Nat.reducePow, ↓reduceIte, nat_int, wrap_succ h (show l.length ≤ 140737488355328 by omega)]
          exact hI
    · intro hI
      rw [List.drop_length, chDs] at hI
      rw [hI]
      simp (maxSteps := 200000) (disch := first | (simp only [go_sem, Nat.reduceAdd, Nat.reduceSub, Nat.reduceMul, Nat.reduceLeDiff, Nat.reduceEqDiff, Nat.reduceLT, Nat.reduceBEq, Nat.reduceBNe, Nat.reducePow, ↓reduceIte]; done) | omega | (simp only [go_sem, Nat.reduceAdd, Nat.reduceSub, Nat.reduceMul, Nat.reduceLeDiff, Nat.reduceEqDiff, Nat.reduceLT, Nat.reduceBEq, Nat.reduceBNe, Nat.reducePow, ↓reduceIte] <;> omega) | fail) only [go_sem, Nat.reduceAdd, Nat.reduceSub, Nat.reduceMul, Nat.reduceLeDiff, Nat.reduceEqDiff, Nat.reduceLT, Nat.reduceBEq, Nat.reduceBNe, Nat.reducePow, ↓reduceIte, nat_int]
      rfl
end Go.Abs.SA
end

section
set_option linter.unusedVariables false
set_option linter.unusedSimpArgs false
set_option maxRecDepth 100000
set_option maxHeartbeats 8000000
set_option linter.unusedSimpArgs false
set_option linter.unusedVariables false
namespace Go.Abs.SA
open Go.Proofs

theorem chDs_all (ok : Int → List Str → Bool) (was now : List Node) (path : List Str) : ∀ (l : List Def), chDs ok was now path l = l.all (chD ok was now path)
  | [] => by rw [chDs]; rfl
  | d :: r => by rw [chDs, List.all_cons, chDs_all ok was now path r]
/-! All rights. -/
mutual
theorem allN_true (ok : List Str → Bool) (h : ∀ q, ok q = true) : ∀ (n : Node) (path : List Str), allN ok path n = true
  | .mk a b k, path => by rw [allN, h, allL_true ok h k, Bool.and_self]
theorem allL_true (ok : List Str → Bool) (h : ∀ q, ok q = true) : ∀ (l : List Node) (path : List Str), allL ok path l = true
  | [], path => by rw [allL]
  | x :: r, path => by rw [allL, allN_true ok h x, allL_true ok h r, Bool.and_self]
end
mutual
theorem chD_true (ok : Int → List Str → Bool) (h : ∀ r, r = 2 ∨ r = 4 ∨ r = 8 → ∀ q, ok r q = true) : ∀ (d : Def) (was now : List Node) (path : List Str), chD ok was now path d = true
  | .mk n k t v m ks kd, was, now, path => by
    rw [chD, Bool.and_eq_true, List.all_eq_true, List.all_eq_true]
    refine ⟨fun x hx => ?_, fun x hx => ?_⟩
    · unfold nowOk
      rw [Bool.or_eq_true]
      refine .inr ?_
      cases hs : sameAt (.mk n k t v m ks kd) was x with
      | none => exact allN_true _ (h 2 (by simp)) _ _
      | some i =>
        simp only [List.getElem?_eq_getElem (sameAt_lt hs)]
        split
        · rw [h 4 (by simp), Bool.or_true]
        · exact chDs_true ok h kd _ _ _
    · unfold wasOk
      rw [allN_true _ (h 8 (by simp)), Bool.or_true]
theorem chDs_true (ok : Int → List Str → Bool) (h : ∀ r, r = 2 ∨ r = 4 ∨ r = 8 → ∀ q, ok r q = true) : ∀ (l : List Def) (was now : List Node) (path : List Str), chDs ok was now path l = true
  | [], was, now, path => by rw [chDs]
  | d :: r, was, now, path => by rw [chDs, chD_true ok h d, chDs_true ok h r, Bool.and_self]
end
theorem sameAt_nil (d : Def) (n : Node) : sameAt d [] n = none := rfl
theorem chDs_nil (ok : Int → List Str → Bool) (path : List Str) (l : List Def) : chDs ok [] [] path l = true := by
  rw [chDs_all, List.all_eq_true]
  intro d _
  rw [chD_s]; rfl
theorem chDs_new (ok : Int → List Str → Bool) (now : List Node) (path : List Str) (l : List Def) {x : Node} {d : Def} (hx : x ∈ now) (hd : d ∈ l) (he : x.name = d.name) (ho : ∀ q, ok 2 q = false) : chDs ok [] now path l = false := by
  rw [chDs_all]
  cases hh : l.all (chD ok [] now path) with
  | false => rfl
  | true =>
    have h1 := List.all_eq_true.1 hh d hd
    rw [chD_s, Bool.and_eq_true] at h1
    have h2 := List.all_eq_true.1 h1.1 x hx
    simp [nowOk, sameAt_nil, he, allN_s, ho] at h2
theorem chDs_gone (ok : Int → List Str → Bool) (was : List Node) (path : List Str) (l : List Def) {x : Node} {d : Def} (hx : x ∈ was) (hd : d ∈ l) (he : x.name = d.name) (ho : ∀ q, ok 8 q = false) : chDs ok was [] path l = false := by
  rw [chDs_all]
  cases hh : l.all (chD ok was [] path) with
  | false => rfl
  | true =>
    have h1 := List.all_eq_true.1 hh d hd
    rw [chD_s, Bool.and_eq_true] at h1
    have h2 := List.all_eq_true.1 h1.2 x hx
    simp [wasOk, sameAt_nil, he, allN_s, ho] at h2
/-! What was read has a definition. -/
theorem rdE_place {l : List Def} {e : Elem} {d : Def} {n : Node} (h : rdE l e = .ok (d, n)) : d ∈ l ∧ n.name = d.name := by
  rw [rdE_s] at h
  split at h
  · cases h
  · rename_i i hp
    obtain ⟨hi, hn⟩ := place_some hp
    rw [List.getElem?_eq_getElem hi] at h
    simp only at h
    split at h
    · split at h
      · cases h
      · cases h; exact ⟨List.getElem_mem hi, hn.symm⟩
    · split at h
      · cases h
      · split at h
        · cases h
        · split at h
          · cases h; exact ⟨List.getElem_mem hi, hn.symm⟩
          · cases h
theorem rdL_place (l : List Def) : ∀ (es : List Elem) (out all nodes : List Node), (∀ x ∈ out, ∃ d ∈ l, x.name = d.name) → rdL l out all es = .ok nodes → ∀ x ∈ nodes, ∃ d ∈ l, x.name = d.name
  | [], out, all, nodes, ho, h => by
    rw [rdL] at h
    split at h
    · cases h
    · cases h
      exact fun x hx => ho x ((order_mem l out).1 hx)
  | e :: r, out, all, nodes, ho, h => by
    rw [rdL] at h
    split at h
    · cases h
    · rename_i d n hn
      split at h
      · cases h
      · refine rdL_place l r _ _ _ ?_ h
        have h2 := rdE_place hn
        split
        · intro x hx
          rcases List.mem_append.1 hx with hx | hx
          · exact ho x hx
          · rw [List.mem_singleton.1 hx]; exact ⟨d, h2⟩
        · exact ho
theorem tree_place {l : List Elem} {n : List Node} (h : tree l = some n) : ∀ x ∈ n, ∃ d ∈ schema, x.name = d.name := rdL_place _ _ _ _ _ (by simp) (tree_some h).1
/-! All, or nothing, is read. -/
mutual
theorem pruneN_all (ok : List Str → Bool) (h : ∀ q, ok q = true) : ∀ (n : Node) (path : List Str), pruneN ok path n = [n]
  | .mk a b k, path => by rw [pruneN, if_pos (h _), pruneL_all ok h k]
theorem pruneL_all (ok : List Str → Bool) (h : ∀ q, ok q = true) : ∀ (l : List Node) (path : List Str), pruneL ok path l = l
  | [], path => by rw [pruneL]
  | x :: r, path => by rw [pruneL, pruneN_all ok h x, pruneL_all ok h r]; rfl
end
theorem pruneL_no (ok : List Str → Bool) (h : ∀ q, ok q = false) (path : List Str) : ∀ (l : List Node), pruneL ok path l = []
  | [] => by rw [pruneL]
  | x :: r => by rw [pruneL, pruneL_no ok h path r, pruneN_s, if_neg (by simp [h])]; rfl
theorem may_none (read write : Bool) (gs : List Str) (r : Int) (q : List Str) : may ⟨[], read, write⟩ gs r q = if r = 1 then read else write := rfl
def pAll (read write : Bool) : Policy := ⟨[⟨sG, 15, [], true⟩, ⟨⟨#[]⟩, 15, [], false⟩], read, write⟩
theorem may_all (read write : Bool) (gs : List Str) (r : Int) (q : List Str) (hr : r = 1 ∨ r = 2 ∨ r = 4 ∨ r = 8) : may (pAll read write) gs r q = has gs sG := by
  have h := (bit15 hr).1
  unfold may pAll
  simp only [List.find?_cons]
  cases hg : has gs sG with
  | true => simp [Rule.says, h, hg]
  | false => simp [Rule.says, h, hg]
end Go.Abs.SA
end

section
set_option linter.unusedVariables false
set_option linter.unusedSimpArgs false
set_option maxRecDepth 100000
set_option maxHeartbeats 8000000
set_option linter.unusedSimpArgs false
set_option linter.unusedVariables false
namespace Go.Abs.SA
open Go.Proofs

theorem cnt_schema : cntDs schema < 100 := by decide
theorem plain_law (read write : Bool) (elems : List Elem) (hok : okEs elems) (hl : elems.length ≤ 140737488355328) :
    pureW XX 9 [vB read, vB write, lE elems] = some (vB true) := by
  refine pureW_in 86 Try.func9 Try.ntmps9 (by simp) (rfl : Try.f9.body = some _) fns_9 ?_
  have ht := tree_spec elems hok hl
  cases htr : tree elems with
  | none =>
    simp only [aTree, htr, Option.isSome, Option.getD_none] at ht
    simp (maxSteps := 200000) (disch := first | (simp only [go_sem, Nat.reduceAdd, Nat.reduceSub, Nat.reduceMul, Nat.reduceLeDiff, Nat.reduceEqDiff, Nat.reduceLT, Nat.reduceBEq, Nat.reduceBNe, Nat.reducePow, ↓reduceIte]; done) | omega | (simp only [go_sem, Nat.reduceAdd, Nat.reduceSub, Nat.reduceMul, Nat.reduceLeDiff, Nat.reduceEqDiff, Nat.reduceLT, Nat.reduceBEq, Nat.reduceBNe, Nat.reducePow, ↓reduceIte] <;> omega) | fail) only [go_sem, Nat.reduceAdd, Nat.reduceSub, Nat.reduceMul, Nat.reduceLeDiff, Nat.reduceEqDiff, Nat.reduceLT, Nat.reduceBEq, Nat.reduceBNe, Nat.reducePow, ↓reduceIte, callA_pure mode_12, fit_spec, callA_data mode_13, ht]
  | some n =>
  simp only [aTree, htr, Option.isSome, Option.getD_some] at ht
  obtain ⟨-, -, hn⟩ := tree_some htr
  have p0 : Policy.ok ⟨[], read, write⟩ := ⟨by simp, by simp⟩
  have pA : Policy.ok (pAll read write) := ⟨by simp [pAll], by simp [pAll]⟩
  have n17 : ((17 : Int) = 0) = False := eq_false (by omega)
  have n00 : (((0 : Nat) : Int) = 0) = True := eq_true rfl
  have c1 := change_spec ⟨[], read, write⟩ [] p0 (by simp) 100 schema [] n [] cnt_schema (by simp) okDs_schema (by simp [cntL]) (by omega)
  have c2 := change_spec ⟨[], read, write⟩ [] p0 (by simp) 100 schema n [] [] cnt_schema (by simp) okDs_schema (by omega) (by simp [cntL])
  have c3 := change_spec (pAll read write) [sG] pA (by simp) 100 schema [] n [] cnt_schema (by simp) okDs_schema (by simp [cntL]) (by omega)
  have q0 := prune_spec ⟨[], read, write⟩ [sG] p0 (by simp) 301 n [] (by omega) (by simp)
  have q1 := prune_spec (pAll read write) [sH, sG] pA (by simp) 301 n [] (by omega) (by simp)
  have q2 := prune_spec (pAll read write) [] pA (by simp) 301 n [] (by omega) (by simp)
  rw [chDs_true _ (fun r hr q => by rw [may_all _ _ _ _ _ (by omega)]; simp [has])] at c3
  rw [pruneL_all _ (fun q => by rw [may_all _ _ _ _ _ (by omega)]; simp [has])] at q1
  rw [pruneL_no _ (fun q => by rw [may_all _ _ _ _ _ (by omega)]; simp [has])] at q2
  have en := modelEqual_spec 301 n n (by omega) (by omega)
  have e0 := modelEqual_spec 301 [] [] (by simp [cntL]) (by omega)
  rw [decide_eq_true rfl] at en e0
  have hb : chDs (may ⟨[], read, write⟩ []) [] n [] schema = (write || n.isEmpty) ∧ chDs (may ⟨[], read, write⟩ []) n [] [] schema = (write || n.isEmpty) := by
    cases write with
    | true => exact ⟨chDs_true _ (fun r hr q => by rw [may_none, if_neg (by omega)]) _ _ _ _, chDs_true _ (fun r hr q => by rw [may_none, if_neg (by omega)]) _ _ _ _⟩
    | false =>
      cases n with
      | nil => exact ⟨chDs_nil _ _ _, chDs_nil _ _ _⟩
      | cons x r =>
        obtain ⟨d, hd, he⟩ := tree_place htr x (by simp)
        exact ⟨chDs_new _ _ _ _ (List.mem_cons_self ..) hd he (fun q => rfl), chDs_gone _ _ _ _ (List.mem_cons_self ..) hd he (fun q => rfl)⟩
  rw [hb.1] at c1
  rw [hb.2] at c2
  have hpr : pruneL (may ⟨[], read, write⟩ [sG] 1) [] n = if read = true then n else [] := by
    cases read with
    | true => exact pruneL_all _ (fun q => by rw [may_none]; rfl) _ _
    | false => exact pruneL_no _ (fun q => by rw [may_none]; rfl) _ _
  rw [hpr] at q0
  clear hb hpr
  simp only [aPolicy, pAll, lS, List.map_cons, List.map_nil, eS, eRule, vE, errI, if_true, lN] at c1 c2 c3 q0 q1 q2
  simp only [lN, List.map_nil] at e0
  have hle : n.isEmpty = decide (n.length = 0) := by cases n <;> simp
  rw [hle] at c1 c2
  by_cases h0 : n.length = 0
  · have h0' : ((n.length : Int) = 0) = True := eq_true (by omega)
    simp only [h0, decide_true, Bool.or_true, if_true] at c1 c2
    cases read with
    | true =>
      simp only [if_true] at q0
      cases write <;>
      (simp (maxSteps := 200000) (disch := first | (simp only [go_sem, Nat.reduceAdd, Nat.reduceSub, Nat.reduceMul, Nat.reduceLeDiff, Nat.reduceEqDiff, Nat.reduceLT, Nat.reduceBEq, Nat.reduceBNe, Nat.reducePow, ↓reduceIte]; done) | omega | (simp only [go_sem, Nat.reduceAdd, Nat.reduceSub, Nat.reduceMul, Nat.reduceLeDiff, Nat.reduceEqDiff, Nat.reduceLT, Nat.reduceBEq, Nat.reduceBNe, Nat.reducePow, ↓reduceIte] <;> omega) | fail) only [go_sem, Nat.reduceAdd, Nat.reduceSub, Nat.reduceMul, Nat.reduceLeDiff, Nat.reduceEqDiff, Nat.reduceLT, Nat.reduceBEq, Nat.reduceBNe, Nat.reducePow, ↓reduceIte, callA_pure mode_12, fit_spec, callA_data mode_13, ht, callA_data mode_25, schema_spec, callA_pure mode_28, c1, c2, c3, callA_data mode_16, q0, q1, q2, callA_pure mode_21, en, e0, h0', n17, n00, ne_eq, not_true, not_false_eq_true])
    | false =>
      simp only [Bool.false_eq_true, if_false, List.map_nil] at q0
      cases write <;>
      (simp (maxSteps := 200000) (disch := first | (simp only [go_sem, Nat.reduceAdd, Nat.reduceSub, Nat.reduceMul, Nat.reduceLeDiff, Nat.reduceEqDiff, Nat.reduceLT, Nat.reduceBEq, Nat.reduceBNe, Nat.reducePow, ↓reduceIte]; done) | omega | (simp only [go_sem, Nat.reduceAdd, Nat.reduceSub, Nat.reduceMul, Nat.reduceLeDiff, Nat.reduceEqDiff, Nat.reduceLT, Nat.reduceBEq, Nat.reduceBNe, Nat.reducePow, ↓reduceIte] <;> omega) | fail) only [go_sem, Nat.reduceAdd, Nat.reduceSub, Nat.reduceMul, Nat.reduceLeDiff, Nat.reduceEqDiff, Nat.reduceLT, Nat.reduceBEq, Nat.reduceBNe, Nat.reducePow, ↓reduceIte, callA_pure mode_12, fit_spec, callA_data mode_13, ht, callA_data mode_25, schema_spec, callA_pure mode_28, c1, c2, c3, callA_data mode_16, q0, q1, q2, callA_pure mode_21, en, e0, h0', n17, n00, ne_eq, not_true, not_false_eq_true])
  · have h0' : ((n.length : Int) = 0) = False := eq_false (by omega)
    simp only [h0, decide_false, Bool.or_false] at c1 c2
    cases read with
    | true =>
      simp only [if_true] at q0
      cases write <;> simp only [if_true, Bool.false_eq_true, if_false] at c1 c2 <;>
      (simp (maxSteps := 200000) (disch := first | (simp only [go_sem, Nat.reduceAdd, Nat.reduceSub, Nat.reduceMul, Nat.reduceLeDiff, Nat.reduceEqDiff, Nat.reduceLT, Nat.reduceBEq, Nat.reduceBNe, Nat.reducePow, ↓reduceIte]; done) | omega | (simp only [go_sem, Nat.reduceAdd, Nat.reduceSub, Nat.reduceMul, Nat.reduceLeDiff, Nat.reduceEqDiff, Nat.reduceLT, Nat.reduceBEq, Nat.reduceBNe, Nat.reducePow, ↓reduceIte] <;> omega) | fail) only [go_sem, Nat.reduceAdd, Nat.reduceSub, Nat.reduceMul, Nat.reduceLeDiff, Nat.reduceEqDiff, Nat.reduceLT, Nat.reduceBEq, Nat.reduceBNe, Nat.reducePow, ↓reduceIte, callA_pure mode_12, fit_spec, callA_data mode_13, ht, callA_data mode_25, schema_spec, callA_pure mode_28, c1, c2, c3, callA_data mode_16, q0, q1, q2, callA_pure mode_21, en, e0, h0', n17, n00, ne_eq, not_true, not_false_eq_true])
    | false =>
      simp only [Bool.false_eq_true, if_false, List.map_nil] at q0
      cases write <;> simp only [if_true, Bool.false_eq_true, if_false] at c1 c2 <;>
      (simp (maxSteps := 200000) (disch := first | (simp only [go_sem, Nat.reduceAdd, Nat.reduceSub, Nat.reduceMul, Nat.reduceLeDiff, Nat.reduceEqDiff, Nat.reduceLT, Nat.reduceBEq, Nat.reduceBNe, Nat.reducePow, ↓reduceIte]; done) | omega | (simp only [go_sem, Nat.reduceAdd, Nat.reduceSub, Nat.reduceMul, Nat.reduceLeDiff, Nat.reduceEqDiff, Nat.reduceLT, Nat.reduceBEq, Nat.reduceBNe, Nat.reducePow, ↓reduceIte] <;> omega) | fail) only [go_sem, Nat.reduceAdd, Nat.reduceSub, Nat.reduceMul, Nat.reduceLeDiff, Nat.reduceEqDiff, Nat.reduceLT, Nat.reduceBEq, Nat.reduceBNe, Nat.reducePow, ↓reduceIte, callA_pure mode_12, fit_spec, callA_data mode_13, ht, callA_data mode_25, schema_spec, callA_pure mode_28, c1, c2, c3, callA_data mode_16, q0, q1, q2, callA_pure mode_21, en, e0, h0', n17, n00, ne_eq, not_true, not_false_eq_true])
end Go.Abs.SA
end
