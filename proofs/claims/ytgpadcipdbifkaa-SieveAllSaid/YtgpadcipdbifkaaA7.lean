/- YtgpadcipdbifkaaA7: a part of the interpreter by which the claim is shown, and of the walks: no conditions of its own: every theorem states its own. -/
import Derived.Test.YtgpadcipdbifkaaA6
section
set_option linter.unusedVariables false
set_option linter.unusedSimpArgs false
set_option maxRecDepth 100000
set_option maxHeartbeats 4000000
set_option linter.unusedSimpArgs false
set_option linter.unusedVariables false
namespace Go.Abs.SA
open Go.Proofs

mutual
/-- One element, by a schema: its definition and its node, or an error. -/
def rdE (l : List Def) : Elem → Except Int (Def × Node)
  | .mk _ n _ t k => match place l n with
    | none => .error 11
    | some i => match l[i]? with
      | none => .error 11
      | some d =>
        if d.kind = 3 then (if k ≠ [] ∨ valueM d t = false then .error 12 else .ok (d, .mk n t []))
        else if t ≠ ⟨#[]⟩ then .error 12 else match rdL d.kids [] [] k with
          | .error e => .error e
          | .ok nodes => if (keyOf d (.mk n ⟨#[]⟩ nodes)).isSome then .ok (d, .mk n ⟨#[]⟩ nodes) else .error 13
/-- Elements, by a schema; what was read before them. -/
def rdL (l : List Def) (out all : List Node) : List Elem → Except Int (List Node)
  | [] => if 256 < out.length then .error 2 else .ok (order l out)
  | e :: r => match rdE l e with
    | .error x => .error x
    | .ok (d, n) => if (sameAt d all n).isSome then .error 15 else rdL l (if d.kind ≠ 1 ∨ n.kids ≠ [] then out ++ [n] else out) (all ++ [n]) r
end
theorem rdE_s (l : List Def) (e : Elem) : rdE l e = match place l e.name with
    | none => .error 11
    | some i => match l[i]? with
      | none => .error 11
      | some d =>
        if d.kind = 3 then (if e.kids ≠ [] ∨ valueM d e.text = false then .error 12 else .ok (d, .mk e.name e.text []))
        else if e.text ≠ ⟨#[]⟩ then .error 12 else match rdL d.kids [] [] e.kids with
          | .error e => .error e
          | .ok nodes => if (keyOf d (.mk e.name ⟨#[]⟩ nodes)).isSome then .ok (d, .mk e.name ⟨#[]⟩ nodes) else .error 13 := by
  cases e; rw [rdE]; rfl
theorem rdL_nil (l : List Def) (out all : List Node) : rdL l out all [] = if 256 < out.length then .error 2 else .ok (order l out) := by rw [rdL]
theorem rdL_cons (l : List Def) (out all : List Node) (e : Elem) (r : List Elem) : rdL l out all (e :: r) = match rdE l e with
    | .error x => .error x
    | .ok (d, n) => if (sameAt d all n).isSome then .error 15 else rdL l (if d.kind ≠ 1 ∨ n.kids ≠ [] then out ++ [n] else out) (all ++ [n]) r := by rw [rdL]
mutual
theorem rdE_err (l : List Def) : ∀ (e : Elem) (x : Int), rdE l e = .error x → x ≠ 0
  | .mk s n a t k, x, h => by
    rw [rdE] at h
    split at h
    · cases h; decide
    · split at h
      · cases h; decide
      · split at h
        · split at h
          · cases h; decide
          · cases h
        · split at h
          · cases h; decide
          · split at h
            · rename_i d _ _ _ e he
              cases h
              exact rdL_err _ _ _ k _ he
            · split at h
              · cases h
              · cases h; decide
theorem rdL_err (l : List Def) (out all : List Node) : ∀ (es : List Elem) (x : Int), rdL l out all es = .error x → x ≠ 0
  | [], x, h => by
    rw [rdL] at h
    split at h
    · cases h; decide
    · cases h
  | e :: r, x, h => by
    rw [rdL] at h
    split at h
    · rename_i y hy
      cases h
      exact rdE_err l e _ hy
    · split at h
      · cases h; decide
      · exact rdL_err l _ _ r x h
end
theorem rdL_len (l : List Def) : ∀ (es : List Elem) (out all nodes : List Node), rdL l out all es = .ok nodes → nodes.length ≤ out.length + es.length
  | [], out, all, nodes, h => by
    rw [rdL_nil] at h
    split at h
    · cases h
    · cases h; simp [order_len]
  | e :: r, out, all, nodes, h => by
    rw [rdL_cons] at h
    split at h
    · cases h
    · split at h
      · cases h
      · have := rdL_len l r _ _ _ h
        simp only [List.length_cons]
        split at this
        · simp at this; omega
        · omega
end Go.Abs.SA
end

section
set_option linter.unusedVariables false
set_option linter.unusedSimpArgs false
set_option maxRecDepth 100000
set_option maxHeartbeats 8000000
set_option linter.unusedSimpArgs false
set_option linter.unusedVariables false
namespace Go.Abs.SA
open Go.Proofs

theorem len_cntEs : ∀ (l : List Elem), l.length ≤ cntEs l
  | [] => by simp [cntEs]
  | e :: r => by have := len_cntEs r; simp only [cntEs, List.length_cons]; rw [cntE_s]; omega
/-- What Read answers. -/
def aRead : Except Int (List Node) → AV
  | .error x => .tup [lN [], vI x]
  | .ok l => .tup [lN l, vI 0]
theorem read_spec : ∀ (k : Nat) (l : List Def) (elems : List Elem), cntEs elems < k → k ≤ 100000 → okEs elems → l.length ≤ 1099511627776 → okDs l → pureW XX 35 [lD l, lE elems] = some (aRead (rdL l [] [] elems)) := by
  intro k
  induction k with
  | zero => intro l elems h; omega
  | succ k ih =>
    intro l elems hc hk hok hl hod
    have hcnt := len_cntEs elems
    refine pureW_in 109 Try.func35 Try.ntmps35 (by simp) (rfl : Try.f35.body = some _) fns_35 ?_
    simp (maxSteps := 200000) (disch := first | (simp only [go_sem, Nat.reduceAdd, Nat.reduceSub, Nat.reduceMul, Nat.reduceLeDiff, Nat.reduceEqDiff, Nat.reduceLT, Nat.reduceBEq, Nat.reduceBNe, Nat.reducePow, ↓reduceIte]; done) | omega | (simp only [go_sem, Nat.reduceAdd, Nat.reduceSub, Nat.reduceMul, Nat.reduceLeDiff, Nat.reduceEqDiff, Nat.reduceLT, Nat.reduceBEq, Nat.reduceBNe, Nat.reducePow, ↓reduceIte] <;> omega) | fail) only [go_sem, Nat.reduceAdd, Nat.reduceSub, Nat.reduceMul, Nat.reduceLeDiff, Nat.reduceEqDiff, Nat.reduceLT, Nat.reduceBEq, Nat.reduceBNe, Nat.reducePow, ↓reduceIte]
    refine WP_loopR 3 2 (fun (a : Nat × List Node × List Node) => S_35_3 (lD l) (lE elems) (.sl 0 0 a.2.1.length false) (.sl 1 0 a.2.2.length false) (vI a.1) [.arr 59 3 (a.2.1.map eNode), .arr 59 3 (a.2.2.map eNode)]) (fun a => elems.length - a.1) (fun a => a.1 ≤ elems.length ∧ a.2.1.length ≤ a.1 ∧ a.2.2.length ≤ a.1 ∧ (∀ x ∈ a.2.2, x.kids.length ≤ 100000) ∧ (∀ x ∈ a.2.1, x.kids.length ≤ 100000) ∧ rdL l [] [] elems = rdL l a.2.1 a.2.2 (elems.drop a.1)) (0, [], []) rfl rfl ?_ ?_ ?_
    · simp (maxSteps := 200000) (disch := first | (simp only [go_sem, Nat.reduceAdd, Nat.reduceSub, Nat.reduceMul, Nat.reduceLeDiff, Nat.reduceEqDiff, Nat.reduceLT, Nat.reduceBEq, Nat.reduceBNe, Nat.reducePow, ↓reduceIte]; done) | omega | (simp only [go_sem, Nat.reduceAdd, Nat.reduceSub, Nat.reduceMul, Nat.reduceLeDiff, Nat.reduceEqDiff, Nat.reduceLT, Nat.reduceBEq, Nat.reduceBNe, Nat.reducePow, ↓reduceIte] <;> omega) | fail) only [go_sem, Nat.reduceAdd, Nat.reduceSub, Nat.reduceMul, Nat.reduceLeDiff, Nat.reduceEqDiff, Nat.reduceLT, Nat.reduceBEq, Nat.reduceBNe, Nat.reducePow, ↓reduceIte]; rfl
    · simp
    · rintro ⟨i, out, all⟩ ⟨hi, ho, ha, hka, hko, hr⟩
      simp only at hi ho ha hka hko hr
      by_cases h : i < elems.length
      case neg =>
        rw [List.drop_of_length_le (by omega), rdL_nil] at hr
        have hor := order_spec l out hl hod (by omega) (fun x hx => by have := hko x hx; omega)
        by_cases hb : (256 : Int) < (out.length : Int)
        · rw [if_pos (by omega)] at hr
          rw [hr]
          simp (maxSteps := 200000) (disch := first | (simp only [go_sem, Nat.reduceAdd, Nat.reduceSub, Nat.reduceMul, Nat.reduceLeDiff, Nat.reduceEqDiff, Nat.reduceLT, Nat.reduceBEq, Nat.reduceBNe, Nat.reducePow, ↓reduceIte]; done) | omega | (simp only [go_sem, Nat.reduceAdd, Nat.reduceSub, Nat.reduceMul, Nat.reduceLeDiff, Nat.reduceEqDiff, Nat.reduceLT, Nat.reduceBEq, Nat.reduceBNe, Nat.reducePow, ↓reduceIte] <;> omega) | fail) only [go_sem, Nat.reduceAdd, Nat.reduceSub, Nat.reduceMul, Nat.reduceLeDiff, Nat.reduceEqDiff, Nat.reduceLT, Nat.reduceBEq, Nat.reduceBNe, Nat.reducePow, ↓reduceIte, nat_int, h, hb]
          rfl
        · rw [if_neg (by omega)] at hr
          rw [hr]
          simp (maxSteps := 200000) (disch := first | (simp only [go_sem, Nat.reduceAdd, Nat.reduceSub, Nat.reduceMul, Nat.reduceLeDiff, Nat.reduceEqDiff, Nat.reduceLT, Nat.reduceBEq, Nat.reduceBNe, Nat.reducePow, ↓reduceIte]; done) | omega | (simp only [go_sem, Nat.reduceAdd, Nat.reduceSub, Nat.reduceMul, Nat.reduceLeDiff, Nat.reduceEqDiff, Nat.reduceLT, Nat.reduceBEq, Nat.reduceBNe, Nat.reducePow, ↓reduceIte] <;> omega) | fail) only [go_sem, Nat.reduceAdd, Nat.reduceSub, Nat.reduceMul, Nat.reduceLeDiff, Nat.reduceEqDiff, Nat.reduceLT, Nat.reduceBEq, Nat.reduceBNe, Nat.reducePow, ↓reduceIte, nat_int, h, hb, callA_data mode_58, hor]
          rfl
      have heo := okEs_mem hok (List.getElem_mem h)
      obtain ⟨b1, b2, b3, b4, b5, b6⟩ := okE_s heo
      have hkc := cntE_kids h
      have hlk := len_cntEs elems[i].kids
      have pl := place_spec l elems[i].name (by omega)
      rw [List.drop_eq_getElem_cons h, rdL_cons, rdE_s] at hr
      cases hp : place l elems[i].name with
      | none =>
        rw [hp] at pl hr
        simp only at hr
        have n1 : ((-1 : Int) < 0) = True := eq_true (by omega)
        rw [hr]
        simp (maxSteps := 200000) (disch := first | (simp only [go_sem, Nat.reduceAdd, Nat.reduceSub, Nat.reduceMul, Nat.reduceLeDiff, Nat.reduceEqDiff, Nat.reduceLT, Nat.reduceBEq, Nat.reduceBNe, Nat.reducePow, ↓reduceIte]; done) | omega | (simp only [go_sem, Nat.reduceAdd, Nat.reduceSub, Nat.reduceMul, Nat.reduceLeDiff, Nat.reduceEqDiff, Nat.reduceLT, Nat.reduceBEq, Nat.reduceBNe, Nat.reducePow, ↓reduceIte] <;> omega) | fail) only [go_sem, Nat.reduceAdd, Nat.reduceSub, Nat.reduceMul, Nat.reduceLeDiff, Nat.reduceEqDiff, Nat.reduceLT, Nat.reduceBEq, Nat.reduceBNe, Nat.reducePow, ↓reduceIte, nat_int, h, eElem_s, callA_pure mode_49, pl, posI, n1]
        rfl
      | some j =>
      rw [hp] at pl hr
      obtain ⟨hj, hjn⟩ := place_some hp
      have n1 : ((j : Int) < 0) = False := eq_false (by omega)
      obtain ⟨o1, o2, o3, o4⟩ := okD_s (okDs_mem hod (List.getElem_mem hj))
      simp only [List.getElem?_eq_getElem hj] at hr
      by_cases hk3 : l[j].kind = 3
      · have hk3' := eq_true hk3
        have hvs := value_spec l[j] elems[i].text (by omega)
        rw [if_pos hk3] at hr
        by_cases hkk : (0 : Int) < (elems[i].kids.length : Int)
        · have : elems[i].kids ≠ [] := by intro hh; rw [hh] at hkk; simp at hkk
          rw [if_pos (.inl this)] at hr
          simp only at hr
          rw [hr]
          simp (maxSteps := 200000) (disch := first | (simp only [go_sem, Nat.reduceAdd, Nat.reduceSub, Nat.reduceMul, Nat.reduceLeDiff, Nat.reduceEqDiff, Nat.reduceLT, Nat.reduceBEq, Nat.reduceBNe, Nat.reducePow, ↓reduceIte]; done) | omega | (simp only [go_sem, Nat.reduceAdd, Nat.reduceSub, Nat.reduceMul, Nat.reduceLeDiff, Nat.reduceEqDiff, Nat.reduceLT, Nat.reduceBEq, Nat.reduceBNe, Nat.reducePow, ↓reduceIte] <;> omega) | fail) only [go_sem, Nat.reduceAdd, Nat.reduceSub, Nat.reduceMul, Nat.reduceLeDiff, Nat.reduceEqDiff, Nat.reduceLT, Nat.reduceBEq, Nat.reduceBNe, Nat.reducePow, ↓reduceIte, nat_int, h, hj, eElem_s, eDef_s, callA_pure mode_49, pl, posI, n1, hk3', hkk]
          rfl
        · have hkn : elems[i].kids = [] := List.eq_nil_iff_length_eq_zero.2 (by omega)
          cases hva : valueM l[j] elems[i].text with
          | false =>
            rw [if_pos (.inr hva)] at hr
            simp only at hr
            rw [hr]
            rw [hva] at hvs
            simp (maxSteps := 200000) (disch := first | (simp only [go_sem, Nat.reduceAdd, Nat.reduceSub, Nat.reduceMul, Nat.reduceLeDiff, Nat.reduceEqDiff, Nat.reduceLT, Nat.reduceBEq, Nat.reduceBNe, Nat.reducePow, ↓reduceIte]; done) | omega | (simp only [go_sem, Nat.reduceAdd, Nat.reduceSub, Nat.reduceMul, Nat.reduceLeDiff, Nat.reduceEqDiff, Nat.reduceLT, Nat.reduceBEq, Nat.reduceBNe, Nat.reducePow, ↓reduceIte] <;> omega) | fail) only [go_sem, Nat.reduceAdd, Nat.reduceSub, Nat.reduceMul, Nat.reduceLeDiff, Nat.reduceEqDiff, Nat.reduceLT, Nat.reduceBEq, Nat.reduceBNe, Nat.reducePow, ↓reduceIte, nat_int, h, hj, eElem_s, eDef_s, callA_pure mode_49, pl, posI, n1, hk3', hkk, callA_pure mode_56, hvs]
            rfl
          | true =>
            rw [if_neg (by simp [hkn, hva])] at hr
            simp only at hr
            rw [hva] at hvs
            have hn1 : (l[j].kind = 1) = False := eq_false (by omega)
            have hss := same_spec l[j] all (.mk elems[i].name elems[i].text []) o2 (by simp [Node.kids]) (by omega) (fun x hx => by have := hka x hx; omega)
            simp only [aNode, Node.name, Node.value, Node.kids, lN, List.map_nil] at hss
            cases hsa : sameAt l[j] all (.mk elems[i].name elems[i].text []) with
            | some q =>
              rw [hsa] at hss hr
              simp only [Option.isSome, if_true] at hr
              have n2 : (0 ≤ (q : Int)) = True := eq_true (by omega)
              rw [hr]
              simp (maxSteps := 200000) (disch := first | (simp only [go_sem, Nat.reduceAdd, Nat.reduceSub, Nat.reduceMul, Nat.reduceLeDiff, Nat.reduceEqDiff, Nat.reduceLT, Nat.reduceBEq, Nat.reduceBNe, Nat.reducePow, ↓reduceIte]; done) | omega | (simp only [go_sem, Nat.reduceAdd, Nat.reduceSub, Nat.reduceMul, Nat.reduceLeDiff, Nat.reduceEqDiff, Nat.reduceLT, Nat.reduceBEq, Nat.reduceBNe, Nat.reducePow, ↓reduceIte] <;> omega) | fail) only [go_sem, Nat.reduceAdd, Nat.reduceSub, Nat.reduceMul, Nat.reduceLeDiff, Nat.reduceEqDiff, Nat.reduceLT, Nat.reduceBEq, Nat.reduceBNe, Nat.reducePow, ↓reduceIte, nat_int, h, hj, eElem_s, eDef_s, callA_pure mode_49, pl, posI, n1, hk3', hkk, callA_pure mode_56, hvs, callA_pure mode_50, hss, n2]
              rfl
            | none =>
              rw [hsa] at hss hr
              simp only [Option.isSome] at hr
              rw [if_neg (by simp), if_pos (.inl (by omega))] at hr
              have n2 : (0 ≤ (-1 : Int)) = False := eq_false (by omega)
              simp (maxSteps := 200000) (disch := first | (simp only [go_sem, Nat.reduceAdd, Nat.reduceSub, Nat.reduceMul, Nat.reduceLeDiff, Nat.reduceEqDiff, Nat.reduceLT, Nat.reduceBEq, Nat.reduceBNe, Nat.reducePow, ↓reduceIte]; done) | omega | (simp only [go_sem, Nat.reduceAdd, Nat.reduceSub, Nat.reduceMul, Nat.reduceLeDiff, Nat.reduceEqDiff, Nat.reduceLT, Nat.reduceBEq, Nat.reduceBNe, Nat.reducePow, ↓reduceIte] <;> omega) | fail) only [go_sem, Nat.reduceAdd, Nat.reduceSub, Nat.reduceMul, Nat.reduceLeDiff, Nat.reduceEqDiff, Nat.reduceLT, Nat.reduceBEq, Nat.reduceBNe, Nat.reducePow, ↓reduceIte, nat_int, h, hj, eElem_s, eDef_s, callA_pure mode_49, pl, posI, n1, hk3', hkk, callA_pure mode_56, hvs, callA_pure mode_50, hss, n2, hn1, ne_eq, not_false_eq_true, wrap_succ h (show elems.length ≤ 140737488355328 by omega)]
              refine ⟨(i + 1, out ++ [.mk elems[i].name elems[i].text []], all ++ [.mk elems[i].name elems[i].text []]), by simp [eNode_s, Node.name, Node.value, Node.kids], ⟨by simp; omega, by simp; omega, by simp; omega, ?_, ?_, hr⟩, by simp; omega⟩
              · intro x hx
                rcases List.mem_append.1 hx with hx | hx
                · exact hka x hx
                · rw [List.mem_singleton.1 hx]; simp [Node.kids]
              · intro x hx
                rcases List.mem_append.1 hx with hx | hx
                · exact hko x hx
                · rw [List.mem_singleton.1 hx]; simp [Node.kids]
      · have hi2 := ih l[j].kids elems[i].kids (by omega) (by omega) b6 o3 o4
        rw [if_neg hk3] at hr
        by_cases q0 : elems[i].text = ⟨#[]⟩
        case neg =>
          rw [if_pos q0] at hr
          simp only at hr
          rw [hr]
          simp (maxSteps := 200000) (disch := first | (simp only [go_sem, Nat.reduceAdd, Nat.reduceSub, Nat.reduceMul, Nat.reduceLeDiff, Nat.reduceEqDiff, Nat.reduceLT, Nat.reduceBEq, Nat.reduceBNe, Nat.reducePow, ↓reduceIte]; done) | omega | (simp only [go_sem, Nat.reduceAdd, Nat.reduceSub, Nat.reduceMul, Nat.reduceLeDiff, Nat.reduceEqDiff, Nat.reduceLT, Nat.reduceBEq, Nat.reduceBNe, Nat.reducePow, ↓reduceIte] <;> omega) | fail) only [go_sem, Nat.reduceAdd, Nat.reduceSub, Nat.reduceMul, Nat.reduceLeDiff, Nat.reduceEqDiff, Nat.reduceLT, Nat.reduceBEq, Nat.reduceBNe, Nat.reducePow, ↓reduceIte, nat_int, h, hj, eElem_s, eDef_s, callA_pure mode_49, pl, posI, n1, hk3, q0, ne_eq, not_false_eq_true]
          rfl
        rw [if_neg (by simp [q0])] at hr
        have q1 := eq_true q0
        cases hrd : rdL l[j].kids [] [] elems[i].kids with
        | error x =>
          rw [hrd] at hi2 hr
          have hx := rdL_err _ _ _ _ _ hrd
          simp only at hr
          simp only [aRead] at hi2
          rw [hr]
          simp (maxSteps := 200000) (disch := first | (simp only [go_sem, Nat.reduceAdd, Nat.reduceSub, Nat.reduceMul, Nat.reduceLeDiff, Nat.reduceEqDiff, Nat.reduceLT, Nat.reduceBEq, Nat.reduceBNe, Nat.reducePow, ↓reduceIte]; done) | omega | (simp only [go_sem, Nat.reduceAdd, Nat.reduceSub, Nat.reduceMul, Nat.reduceLeDiff, Nat.reduceEqDiff, Nat.reduceLT, Nat.reduceBEq, Nat.reduceBNe, Nat.reducePow, ↓reduceIte] <;> omega) | fail) only [go_sem, Nat.reduceAdd, Nat.reduceSub, Nat.reduceMul, Nat.reduceLeDiff, Nat.reduceEqDiff, Nat.reduceLT, Nat.reduceBEq, Nat.reduceBNe, Nat.reducePow, ↓reduceIte, nat_int, h, hj, eElem_s, eDef_s, callA_pure mode_49, pl, posI, n1, hk3, q1, ne_eq, not_true, not_false_eq_true, callA_data mode_35, hi2, hx]
          rfl
        | ok nodes =>
        rw [hrd] at hi2 hr
        have hnl := rdL_len _ _ _ _ _ hrd
        simp only at hr
        simp only [aRead] at hi2
        have hnk : (nodes.length : Nat) ≤ 100000 := by simp at hnl; omega
        have hks := key_spec l[j] (.mk elems[i].name ⟨#[]⟩ nodes) o2 (by simp only [Node.kids]; omega)
        simp only [aNode, Node.name, Node.value, Node.kids] at hks
        cases hky : keyOf l[j] (.mk elems[i].name ⟨#[]⟩ nodes) with
        | none =>
          rw [hky] at hr hks
          simp only [Option.isSome, Bool.false_eq_true, if_false] at hr
          simp only [kO, Option.isSome, Option.getD_none] at hks
          rw [hr]
          simp (maxSteps := 200000) (disch := first | (simp only [go_sem, Nat.reduceAdd, Nat.reduceSub, Nat.reduceMul, Nat.reduceLeDiff, Nat.reduceEqDiff, Nat.reduceLT, Nat.reduceBEq, Nat.reduceBNe, Nat.reducePow, ↓reduceIte]; done) | omega | (simp only [go_sem, Nat.reduceAdd, Nat.reduceSub, Nat.reduceMul, Nat.reduceLeDiff, Nat.reduceEqDiff, Nat.reduceLT, Nat.reduceBEq, Nat.reduceBNe, Nat.reducePow, ↓reduceIte] <;> omega) | fail) only [go_sem, Nat.reduceAdd, Nat.reduceSub, Nat.reduceMul, Nat.reduceLeDiff, Nat.reduceEqDiff, Nat.reduceLT, Nat.reduceBEq, Nat.reduceBNe, Nat.reducePow, ↓reduceIte, nat_int, h, hj, eElem_s, eDef_s, callA_pure mode_49, pl, posI, n1, hk3, q1, ne_eq, not_true, not_false_eq_true, callA_data mode_35, hi2, callA_data mode_57, hks]
          rfl
        | some ks =>
        rw [hky] at hr hks
        simp only [Option.isSome, if_true] at hr
        simp only [kO, Option.isSome, Option.getD_some] at hks
        have hss := same_spec l[j] all (.mk elems[i].name ⟨#[]⟩ nodes) o2 (by simp only [Node.kids]; omega) (by omega) (fun x hx => by have := hka x hx; omega)
        simp only [aNode, Node.name, Node.value, Node.kids] at hss
        cases hsa : sameAt l[j] all (.mk elems[i].name ⟨#[]⟩ nodes) with
        | some q =>
          rw [hsa] at hss hr
          simp only [Option.isSome, if_true] at hr
          have n2 : (0 ≤ (q : Int)) = True := eq_true (by omega)
          rw [hr]
          simp (maxSteps := 200000) (disch := first | (simp only [go_sem, Nat.reduceAdd, Nat.reduceSub, Nat.reduceMul, Nat.reduceLeDiff, Nat.reduceEqDiff, Nat.reduceLT, Nat.reduceBEq, Nat.reduceBNe, Nat.reducePow, ↓reduceIte]; done) | omega | (simp only [go_sem, Nat.reduceAdd, Nat.reduceSub, Nat.reduceMul, Nat.reduceLeDiff, Nat.reduceEqDiff, Nat.reduceLT, Nat.reduceBEq, Nat.reduceBNe, Nat.reducePow, ↓reduceIte] <;> omega) | fail) only [go_sem, Nat.reduceAdd, Nat.reduceSub, Nat.reduceMul, Nat.reduceLeDiff, Nat.reduceEqDiff, Nat.reduceLT, Nat.reduceBEq, Nat.reduceBNe, Nat.reducePow, ↓reduceIte, nat_int, h, hj, eElem_s, eDef_s, callA_pure mode_49, pl, posI, n1, hk3, q1, ne_eq, not_true, not_false_eq_true, callA_data mode_35, hi2, callA_data mode_57, hks, callA_pure mode_50, hss, n2]
          rfl
        | none =>
        rw [hsa] at hss hr
        simp only [Option.isSome] at hr
        rw [if_neg (by simp)] at hr
        have n2 : (0 ≤ (-1 : Int)) = False := eq_false (by omega)
        by_cases hk1 : l[j].kind = 1
        · have hk1' := eq_true hk1
          by_cases hn0 : (0 : Int) < (nodes.length : Int)
          · have : nodes ≠ [] := by intro hh; rw [hh] at hn0; simp at hn0
            rw [if_pos (.inr this)] at hr
            simp (maxSteps := 200000) (disch := first | (simp only [go_sem, Nat.reduceAdd, Nat.reduceSub, Nat.reduceMul, Nat.reduceLeDiff, Nat.reduceEqDiff, Nat.reduceLT, Nat.reduceBEq, Nat.reduceBNe, Nat.reducePow, ↓reduceIte]; done) | omega | (simp only [go_sem, Nat.reduceAdd, Nat.reduceSub, Nat.reduceMul, Nat.reduceLeDiff, Nat.reduceEqDiff, Nat.reduceLT, Nat.reduceBEq, Nat.reduceBNe, Nat.reducePow, ↓reduceIte] <;> omega) | fail) only [go_sem, Nat.reduceAdd, Nat.reduceSub, Nat.reduceMul, Nat.reduceLeDiff, Nat.reduceEqDiff, Nat.reduceLT, Nat.reduceBEq, Nat.reduceBNe, Nat.reducePow, ↓reduceIte, nat_int, h, hj, eElem_s, eDef_s, callA_pure mode_49, pl, posI, n1, hk3, q1, ne_eq, not_true, not_false_eq_true, callA_data mode_35, hi2, callA_data mode_57, hks, callA_pure mode_50, hss, n2, hk1', hn0, wrap_succ h (show elems.length ≤ 140737488355328 by omega)]
            refine ⟨(i + 1, out ++ [.mk elems[i].name ⟨#[]⟩ nodes], all ++ [.mk elems[i].name ⟨#[]⟩ nodes]), by simp [eNode_s, Node.name, Node.value, Node.kids], ⟨by simp; omega, by simp; omega, by simp; omega, ?_, ?_, hr⟩, by simp; omega⟩
            · intro x hx
              rcases List.mem_append.1 hx with hx | hx
              · exact hka x hx
              · rw [List.mem_singleton.1 hx]; exact hnk
            · intro x hx
              rcases List.mem_append.1 hx with hx | hx
              · exact hko x hx
              · rw [List.mem_singleton.1 hx]; exact hnk
          · have : nodes = [] := List.eq_nil_iff_length_eq_zero.2 (by omega)
            rw [if_neg (by simp [hk1, Node.kids, this])] at hr
            simp (maxSteps := 200000) (disch := first | (simp only [go_sem, Nat.reduceAdd, Nat.reduceSub, Nat.reduceMul, Nat.reduceLeDiff, Nat.reduceEqDiff, Nat.reduceLT, Nat.reduceBEq, Nat.reduceBNe, Nat.reducePow, ↓reduceIte]; done) | omega | (simp only [go_sem, Nat.reduceAdd, Nat.reduceSub, Nat.reduceMul, Nat.reduceLeDiff, Nat.reduceEqDiff, Nat.reduceLT, Nat.reduceBEq, Nat.reduceBNe, Nat.reducePow, ↓reduceIte] <;> omega) | fail) only [go_sem, Nat.reduceAdd, Nat.reduceSub, Nat.reduceMul, Nat.reduceLeDiff, Nat.reduceEqDiff, Nat.reduceLT, Nat.reduceBEq, Nat.reduceBNe, Nat.reducePow, ↓reduceIte, nat_int, h, hj, eElem_s, eDef_s, callA_pure mode_49, pl, posI, n1, hk3, q1, ne_eq, not_true, not_false_eq_true, callA_data mode_35, hi2, callA_data mode_57, hks, callA_pure mode_50, hss, n2, hk1', hn0, wrap_succ h (show elems.length ≤ 140737488355328 by omega)]
            refine ⟨(i + 1, out, all ++ [.mk elems[i].name ⟨#[]⟩ nodes]), by simp [eNode_s, Node.name, Node.value, Node.kids], ⟨by simp; omega, by simp; omega, by simp; omega, ?_, ?_, hr⟩, by simp; omega⟩
            · intro x hx
              rcases List.mem_append.1 hx with hx | hx
              · exact hka x hx
              · rw [List.mem_singleton.1 hx]; exact hnk
            · exact hko
        · rw [if_pos (.inl hk1)] at hr
          simp (maxSteps := 200000) (disch := first | (simp only [go_sem, Nat.reduceAdd, Nat.reduceSub, Nat.reduceMul, Nat.reduceLeDiff, Nat.reduceEqDiff, Nat.reduceLT, Nat.reduceBEq, Nat.reduceBNe, Nat.reducePow, ↓reduceIte]; done) | omega | (simp only [go_sem, Nat.reduceAdd, Nat.reduceSub, Nat.reduceMul, Nat.reduceLeDiff, Nat.reduceEqDiff, Nat.reduceLT, Nat.reduceBEq, Nat.reduceBNe, Nat.reducePow, ↓reduceIte] <;> omega) | fail) only [go_sem, Nat.reduceAdd, Nat.reduceSub, Nat.reduceMul, Nat.reduceLeDiff, Nat.reduceEqDiff, Nat.reduceLT, Nat.reduceBEq, Nat.reduceBNe, Nat.reducePow, ↓reduceIte, nat_int, h, hj, eElem_s, eDef_s, callA_pure mode_49, pl, posI, n1, hk3, q1, ne_eq, not_true, not_false_eq_true, callA_data mode_35, hi2, callA_data mode_57, hks, callA_pure mode_50, hss, n2, hk1, wrap_succ h (show elems.length ≤ 140737488355328 by omega)]
          refine ⟨(i + 1, out ++ [.mk elems[i].name ⟨#[]⟩ nodes], all ++ [.mk elems[i].name ⟨#[]⟩ nodes]), by simp [eNode_s, Node.name, Node.value, Node.kids], ⟨by simp; omega, by simp; omega, by simp; omega, ?_, ?_, hr⟩, by simp; omega⟩
          · intro x hx
            rcases List.mem_append.1 hx with hx | hx
            · exact hka x hx
            · rw [List.mem_singleton.1 hx]; exact hnk
          · intro x hx
            rcases List.mem_append.1 hx with hx | hx
            · exact hko x hx
            · rw [List.mem_singleton.1 hx]; exact hnk
end Go.Abs.SA
end

section
set_option linter.unusedVariables false
set_option linter.unusedSimpArgs false
set_option maxRecDepth 100000
set_option maxHeartbeats 4000000
set_option linter.unusedSimpArgs false
set_option linter.unusedVariables false
namespace Go.Abs.SA
open Go.Proofs

mutual
theorem smallN_cnt : ∀ (e : Elem) (n : Int), 0 ≤ smallN n e → cntE e + smallN n e ≤ n
  | .mk s nm a t k, n, h => by
    have hw : 1 ≤ wE (.mk s nm a t k) := by unfold wE; omega
    rw [smallN] at h ⊢
    rw [cntE]
    split at h
    · omega
    · rename_i hn
      rw [if_neg hn]
      have := smallL_cnt k _ h
      omega
theorem smallL_cnt : ∀ (l : List Elem) (n : Int), 0 ≤ smallL n l → cntEs l + smallL n l ≤ n
  | [], n, h => by simp [cntEs, smallL]
  | e :: r, n, h => by
    rw [smallL] at h ⊢
    rw [cntEs]
    split at h
    · omega
    · rename_i hn
      rw [if_neg hn]
      have h1 := smallL_cnt r _ h
      have h2 := smallN_cnt e n (by omega)
      omega
end
/-- Trees of elements: false: they are none, or too many. -/
def tree (l : List Elem) : Option (List Node) := if smallL 300 l < 0 then none else match rdL schema [] [] l with
  | .error _ => none
  | .ok n => some n
theorem okDs_schema : okDs schema := by simp [okDs, okD, schema, leafD, portD]
/-- What tree answers: nodes, and whether they are a tree; the nodes of a tree that is none don't matter. -/
def aTree (l : List Elem) : AV := .tup [lN ((tree l).getD []), vB (tree l).isSome]
theorem tree_spec (l : List Elem) (hok : okEs l) (hl : l.length ≤ 140737488355328) : pureW XX 13 [lE l] = some (aTree l) := by
  refine pureW_in 18 Try.func13 Try.ntmps13 (by simp) (rfl : Try.f13.body = some _) fns_13 ?_
  have hs := small_spec (cntEs l + 1) l 300 (by omega) hok hl (by omega) (by omega)
  unfold aTree tree
  by_cases h : smallL 300 l < 0
  · simp (maxSteps := 200000) (disch := first | (simp only [go_sem, Nat.reduceAdd, Nat.reduceSub, Nat.reduceMul, Nat.reduceLeDiff, Nat.reduceEqDiff, Nat.reduceLT, Nat.reduceBEq, Nat.reduceBNe, Nat.reducePow, ↓reduceIte]; done) | omega | (simp only [go_sem, Nat.reduceAdd, Nat.reduceSub, Nat.reduceMul, Nat.reduceLeDiff, Nat.reduceEqDiff, Nat.reduceLT, Nat.reduceBEq, Nat.reduceBNe, Nat.reducePow, ↓reduceIte] <;> omega) | fail) only [go_sem, Nat.reduceAdd, Nat.reduceSub, Nat.reduceMul, Nat.reduceLeDiff, Nat.reduceEqDiff, Nat.reduceLT, Nat.reduceBEq, Nat.reduceBNe, Nat.reducePow, ↓reduceIte, callA_pure mode_24, hs, h]
    rfl
  · have hc := smallL_cnt l 300 (by omega)
    have hr := read_spec 400 schema l (by omega) (by omega) hok (by decide) okDs_schema
    cases hrd : rdL schema [] [] l with
    | error x =>
      rw [hrd] at hr
      have hx := rdL_err _ _ _ _ _ hrd
      simp only [aRead] at hr
      simp (maxSteps := 200000) (disch := first | (simp only [go_sem, Nat.reduceAdd, Nat.reduceSub, Nat.reduceMul, Nat.reduceLeDiff, Nat.reduceEqDiff, Nat.reduceLT, Nat.reduceBEq, Nat.reduceBNe, Nat.reducePow, ↓reduceIte]; done) | omega | (simp only [go_sem, Nat.reduceAdd, Nat.reduceSub, Nat.reduceMul, Nat.reduceLeDiff, Nat.reduceEqDiff, Nat.reduceLT, Nat.reduceBEq, Nat.reduceBNe, Nat.reducePow, ↓reduceIte] <;> omega) | fail) only [go_sem, Nat.reduceAdd, Nat.reduceSub, Nat.reduceMul, Nat.reduceLeDiff, Nat.reduceEqDiff, Nat.reduceLT, Nat.reduceBEq, Nat.reduceBNe, Nat.reducePow, ↓reduceIte, callA_pure mode_24, hs, h, callA_data mode_25, schema_spec, callA_data mode_35, hr, hx]
      rfl
    | ok n =>
      rw [hrd] at hr
      simp only [aRead] at hr
      simp (maxSteps := 200000) (disch := first | (simp only [go_sem, Nat.reduceAdd, Nat.reduceSub, Nat.reduceMul, Nat.reduceLeDiff, Nat.reduceEqDiff, Nat.reduceLT, Nat.reduceBEq, Nat.reduceBNe, Nat.reducePow, ↓reduceIte]; done) | omega | (simp only [go_sem, Nat.reduceAdd, Nat.reduceSub, Nat.reduceMul, Nat.reduceLeDiff, Nat.reduceEqDiff, Nat.reduceLT, Nat.reduceBEq, Nat.reduceBNe, Nat.reducePow, ↓reduceIte] <;> omega) | fail) only [go_sem, Nat.reduceAdd, Nat.reduceSub, Nat.reduceMul, Nat.reduceLeDiff, Nat.reduceEqDiff, Nat.reduceLT, Nat.reduceBEq, Nat.reduceBNe, Nat.reducePow, ↓reduceIte, callA_pure mode_24, hs, h, callA_data mode_25, schema_spec, callA_data mode_35, hr]
      rfl
end Go.Abs.SA
end

section
set_option linter.unusedVariables false
set_option linter.unusedSimpArgs false
set_option maxRecDepth 100000
set_option maxHeartbeats 4000000
set_option linter.unusedSimpArgs false
set_option linter.unusedVariables false
namespace Go.Abs.SA
open Go.Proofs

theorem bit_nat (a r : Int) (h0 : 0 ≤ r) (h1 : r < 4611686018427387904) : 0 ≤ bitI .and .i64 a r := by
  have e : bitI .and .i64 a r = IntKind.i64.wrap ((BitVec.ofInt 64 a &&& BitVec.ofInt 64 r).toNat : Int) := rfl
  have hb : (BitVec.ofInt 64 a &&& BitVec.ofInt 64 r).toNat ≤ (BitVec.ofInt 64 r).toNat := by
    rw [BitVec.toNat_and]; exact Nat.and_le_right
  have hr : (BitVec.ofInt 64 r).toNat = r.toNat := by
    rw [BitVec.toNat_ofInt]; congr 1; exact Int.emod_eq_of_lt h0 (by omega)
  rw [e, IntWalk.i64_in _ (by omega)]
  omega
theorem may_eq (p : Policy) (groups : List Str) (right : Int) (path : List Str) (h0 : 0 ≤ right) (h1 : right < 4611686018427387904) : may p groups right path = refMay p groups right path := by
  have : Rule.says groups right path = Rule.tells groups right path := by
    funext r
    have := bit_nat r.rights right h0 h1
    unfold Rule.says Rule.tells
    have e : decide (bitI .and .i64 r.rights right ≠ 0) = decide (bitI .and .i64 r.rights right > 0) := by
      apply decide_eq_decide.2; omega
    rw [e]
    congr 1
    exact Bool.and_comm _ _
  unfold may refMay
  rw [this] <;> cases List.find? (Rule.tells groups right path) p.rules <;> rfl
theorem cntL_app : ∀ (a b : List Node), cntL (a ++ b) = cntL a + cntL b
  | [], b => by simp [cntL]
  | x :: r, b => by rw [List.cons_append, cntL_cons, cntL_cons, cntL_app r b]; omega
theorem cnt_ins (l : List Def) (out : List Node) (n : Node) : cntL (ins l out n) = cntL out + cntN n := by
  have h := cntL_app (out.take (insPos l n out out.length)) (out.drop (insPos l n out out.length))
  rw [List.take_append_drop] at h
  rw [ins, cntL_app, cntL_cons]; omega
theorem cnt_foldl (l : List Def) : ∀ (ns out : List Node), cntL (ns.foldl (ins l) out) = cntL out + cntL ns
  | [], out => by simp [cntL]
  | n :: r, out => by rw [List.foldl_cons, cnt_foldl l r, cnt_ins, cntL_cons]; omega
theorem cnt_order (l : List Def) (ns : List Node) : cntL (order l ns) = cntL ns := by rw [order, cnt_foldl]; simp [cntL]
mutual
theorem rdE_cnt (l : List Def) : ∀ (e : Elem) (d : Def) (n : Node), rdE l e = .ok (d, n) → cntN n ≤ cntE e
  | .mk s nm a t k, d, n, h => by
    rw [rdE] at h
    split at h
    · cases h
    · split at h
      · cases h
      · split at h
        · split at h
          · cases h
          · cases h; simp [cntN, cntL, cntE]
        · split at h
          · cases h
          · split at h
            · cases h
            · rename_i d' _ _ _ nodes hn
              split at h
              · cases h
                have := rdL_cnt _ k _ _ _ hn
                rw [cntN, cntE]; simp only [cntL] at this; omega
              · cases h
theorem rdL_cnt (l : List Def) : ∀ (es : List Elem) (out all nodes : List Node), rdL l out all es = .ok nodes → cntL nodes ≤ cntL out + cntEs es
  | [], out, all, nodes, h => by
    rw [rdL] at h
    split at h
    · cases h
    · cases h; rw [cnt_order]; omega
  | e :: r, out, all, nodes, h => by
    rw [rdL] at h
    split at h
    · cases h
    · rename_i d n hn
      split at h
      · cases h
      · have h1 := rdL_cnt l r _ _ _ h
        have h2 := rdE_cnt l e d n hn
        rw [cntEs]
        split at h1
        · rw [cntL_app, cntL_cons] at h1; simp only [cntL] at h1; omega
        · omega
end
theorem tree_some {l : List Elem} {n : List Node} (h : tree l = some n) : rdL schema [] [] l = .ok n ∧ cntEs l ≤ 300 ∧ cntL n ≤ 300 := by
  unfold tree at h
  split at h
  · cases h
  · rename_i hs
    have hc := smallL_cnt l 300 (by omega)
    split at h
    · cases h
    · rename_i m hm
      cases h
      have := rdL_cnt _ _ _ _ _ hm
      simp only [cntL] at this
      exact ⟨hm, by omega, by omega⟩
mutual
theorem pruneN_cnt (ok : List Str → Bool) : ∀ (n : Node) (path : List Str), cntL (pruneN ok path n) ≤ cntN n
  | .mk nm v k, path => by
    rw [pruneN]
    split
    · rw [cntL_cons, cntN, cntN]
      have := pruneL_cnt ok k (path ++ [nm])
      simp only [cntL]; omega
    · simp [cntL]
theorem pruneL_cnt (ok : List Str → Bool) : ∀ (l : List Node) (path : List Str), cntL (pruneL ok path l) ≤ cntL l
  | [], path => by simp [pruneL, cntL]
  | x :: r, path => by
    have h1 := pruneN_cnt ok x path
    have h2 := pruneL_cnt ok r path
    rw [pruneL, cntL_app, cntL_cons]; omega
end
def sBox : Str := ⟨#[98, 111, 120]⟩
theorem prunes_law (p : Policy) (groups : List Str) (elems : List Elem) (hp : p.ok) (hg : groups.length ≤ 140737488355328) (hok : okEs elems) (hl : elems.length ≤ 140737488355328) :
    pureW XX 3 [aPolicy p, lS groups, lE elems] = some (vB true) := by
  refine pureW_in 50 Try.func3 Try.ntmps3 (by simp) (rfl : Try.f3.body = some _) fns_3 ?_
  have ht := tree_spec elems hok hl
  have hli := light_spec p hp
  cases htr : tree elems with
  | none =>
    simp only [aTree, htr, Option.isSome, Option.getD_none] at ht
    simp (maxSteps := 200000) (disch := first | (simp only [go_sem, Nat.reduceAdd, Nat.reduceSub, Nat.reduceMul, Nat.reduceLeDiff, Nat.reduceEqDiff, Nat.reduceLT, Nat.reduceBEq, Nat.reduceBNe, Nat.reducePow, ↓reduceIte]; done) | omega | (simp only [go_sem, Nat.reduceAdd, Nat.reduceSub, Nat.reduceMul, Nat.reduceLeDiff, Nat.reduceEqDiff, Nat.reduceLT, Nat.reduceBEq, Nat.reduceBNe, Nat.reducePow, ↓reduceIte] <;> omega) | fail) only [go_sem, Nat.reduceAdd, Nat.reduceSub, Nat.reduceMul, Nat.reduceLeDiff, Nat.reduceEqDiff, Nat.reduceLT, Nat.reduceBEq, Nat.reduceBNe, Nat.reducePow, ↓reduceIte, callA_pure mode_12, fit_spec, callA_data mode_13, ht]
  | some n =>
  simp only [aTree, htr, Option.isSome, Option.getD_some] at ht
  obtain ⟨-, -, hn⟩ := tree_some htr
  by_cases hw : weigh p.rules ≤ 200
  case neg =>
    simp (maxSteps := 200000) (disch := first | (simp only [go_sem, Nat.reduceAdd, Nat.reduceSub, Nat.reduceMul, Nat.reduceLeDiff, Nat.reduceEqDiff, Nat.reduceLT, Nat.reduceBEq, Nat.reduceBNe, Nat.reducePow, ↓reduceIte]; done) | omega | (simp only [go_sem, Nat.reduceAdd, Nat.reduceSub, Nat.reduceMul, Nat.reduceLeDiff, Nat.reduceEqDiff, Nat.reduceLT, Nat.reduceBEq, Nat.reduceBNe, Nat.reducePow, ↓reduceIte] <;> omega) | fail) only [go_sem, Nat.reduceAdd, Nat.reduceSub, Nat.reduceMul, Nat.reduceLeDiff, Nat.reduceEqDiff, Nat.reduceLT, Nat.reduceBEq, Nat.reduceBNe, Nat.reducePow, ↓reduceIte, callA_pure mode_12, fit_spec, callA_data mode_13, ht, callA_pure mode_14, hli, hw]
  by_cases hg10 : (10 : Int) < (groups.length : Int)
  · simp (maxSteps := 200000) (disch := first | (simp only [go_sem, Nat.reduceAdd, Nat.reduceSub, Nat.reduceMul, Nat.reduceLeDiff, Nat.reduceEqDiff, Nat.reduceLT, Nat.reduceBEq, Nat.reduceBNe, Nat.reducePow, ↓reduceIte]; done) | omega | (simp only [go_sem, Nat.reduceAdd, Nat.reduceSub, Nat.reduceMul, Nat.reduceLeDiff, Nat.reduceEqDiff, Nat.reduceLT, Nat.reduceBEq, Nat.reduceBNe, Nat.reducePow, ↓reduceIte] <;> omega) | fail) only [go_sem, Nat.reduceAdd, Nat.reduceSub, Nat.reduceMul, Nat.reduceLeDiff, Nat.reduceEqDiff, Nat.reduceLT, Nat.reduceBEq, Nat.reduceBNe, Nat.reducePow, ↓reduceIte, callA_pure mode_12, fit_spec, callA_data mode_13, ht, callA_pure mode_14, hli, hw, hg10]
  have h1 := fun path hpath => prune_spec p groups hp hg 301 n path (by omega) hpath
  have h2 := fun path hpath => refPrune_spec p groups hp hg 301 n path (by omega) hpath
  have hm : refMay p groups 1 = may p groups 1 := by funext path; exact (may_eq p groups 1 path (by omega) (by omega)).symm
  rw [hm] at h2
  have h1a := h1 [] (by simp)
  have h2a := h2 [] (by simp)
  have h1b := h1 [sBox] (by simp)
  have h2b := h2 [sBox] (by simp)
  have e1 := fun path => refEqual_spec 301 (pruneL (may p groups 1) path n) (pruneL (may p groups 1) path n) (by have := pruneL_cnt (may p groups 1) n path; omega) (by omega)
  have e1a := e1 []
  have e1b := e1 [sBox]
  simp only [lS, List.map_nil] at h1a h2a
  simp only [lS, List.map_cons, List.map_nil, eS, sBox] at h1b h2b
  simp only [sBox] at e1b
  simp (maxSteps := 200000) (disch := first | (simp only [go_sem, Nat.reduceAdd, Nat.reduceSub, Nat.reduceMul, Nat.reduceLeDiff, Nat.reduceEqDiff, Nat.reduceLT, Nat.reduceBEq, Nat.reduceBNe, Nat.reducePow, ↓reduceIte]; done) | omega | (simp only [go_sem, Nat.reduceAdd, Nat.reduceSub, Nat.reduceMul, Nat.reduceLeDiff, Nat.reduceEqDiff, Nat.reduceLT, Nat.reduceBEq, Nat.reduceBNe, Nat.reducePow, ↓reduceIte] <;> omega) | fail) only [go_sem, Nat.reduceAdd, Nat.reduceSub, Nat.reduceMul, Nat.reduceLeDiff, Nat.reduceEqDiff, Nat.reduceLT, Nat.reduceBEq, Nat.reduceBNe, Nat.reducePow, ↓reduceIte, callA_pure mode_12, fit_spec, callA_data mode_13, ht, callA_pure mode_14, hli, hw, hg10, callA_data mode_16, callA_data mode_17, callA_pure mode_15, h1a, h2a, h1b, h2b, e1a, e1b]
end Go.Abs.SA
end

section
set_option linter.unusedVariables false
set_option linter.unusedSimpArgs false
set_option maxRecDepth 100000
set_option maxHeartbeats 4000000
set_option linter.unusedSimpArgs false
set_option linter.unusedVariables false
namespace Go.Abs.SA
open Go.Proofs

theorem XX_ok : XX.ok = true := by kernel_rfl
theorem reach_s : reachBytes = 140737488351232 := rfl
theorem o_str (k : Nat) : Opens Try.prog k 9 eS (fun s => s.size ≤ 140737488355328) :=
  (Opens.string k Try.underlying9).map id (fun _ => rfl) (fun s h => by rw [reach_s] at h; simp only [id]; omega)
theorem o_int (k : Nat) : Opens Try.prog k 3 (fun n : Int => [vI n]) (fun n => (Lit.int .i64 n).wf = true) := Opens.int k Try.underlying3
theorem o_bool (k : Nat) : Opens Try.prog k 4 (fun n : Bool => [vB n]) (fun n => True) := Opens.bool k Try.underlying4
/-- Lists of texts. -/
def okS (l : List Str) : Prop := l.length ≤ 140737488355328 ∧ ∀ s ∈ l, s.size ≤ 140737488355328
theorem by_9 : Try.prog.bytesOf 9 = 16 := by kernel_rfl
theorem by_37 : Try.prog.bytesOf 37 = 56 := by kernel_rfl
theorem by_57 : Try.prog.bytesOf 57 = 96 := by kernel_rfl
theorem by_127 : Try.prog.bytesOf 127 = 32 := by kernel_rfl
theorem ce_9 : Try.prog.cellsOf 9 = 1 := by kernel_rfl
theorem ce_3 : Try.prog.cellsOf 3 = 1 := by kernel_rfl
theorem ce_4 : Try.prog.cellsOf 4 = 1 := by kernel_rfl
theorem ce_22 : Try.prog.cellsOf 22 = 1 := by kernel_rfl
theorem ce_24 : Try.prog.cellsOf 24 = 3 := by kernel_rfl
theorem ce_25 : Try.prog.cellsOf 25 = 1 := by kernel_rfl
theorem ce_26 : Try.prog.cellsOf 26 = 1 := by kernel_rfl
theorem ce_37 : Try.prog.cellsOf 37 = 4 := by kernel_rfl
theorem ce_55 : Try.prog.cellsOf 55 = 1 := by kernel_rfl
theorem ce_57 : Try.prog.cellsOf 57 = 5 := by kernel_rfl
theorem ce_127 : Try.prog.cellsOf 127 = 2 := by kernel_rfl
theorem o_strs (k : Nat) : Opens Try.prog k 25 (fun l : List Str => [lS l]) okS :=
  (Opens.slice' (fun j _ => o_str j) Try.underlying25 (fun _ => ce_9.symm)).map id (fun _ => rfl) (fun l h => ⟨by
    have := h.1; rw [by_9, reach_s] at this; simp only [id]; omega, h.2⟩)
theorem o_struct {P : Program} {α β : Type} {t n : Nat} {fs : Array Field} {enc : α → List AV} {ok : α → Prop} {enc' : β → List AV} {ok' : β → Prop} (h : ∀ k, OpensF P k 0 fs.toList n enc ok) (ht : P.underlying t = some (.struct fs)) (hn : P.cellsOf t = n)
    (g : α → β) (hg : ∀ x, enc' (g x) = enc x) (ho : ∀ x, ok x → ok' (g x)) : ∀ k, Opens P k t enc' ok'
  | 0 => Opens.zero _ _ _
  | k + 1 => (Opens.struct (h k) ht hn).map g hg ho
theorem o_rule : ∀ k, Opens Try.prog k 37 eRule (fun r => r.path.length ≤ 140737488355328) :=
  o_struct (fun k => OpensF.cons (m := 1) (o_str k) (OpensF.cons (m := 1) (o_int k) (OpensF.cons (m := 1) (o_strs k) (OpensF.cons (m := 1) (o_bool k) (OpensF.nil k 4) rfl ce_4) rfl ce_25) rfl ce_3) rfl ce_9) Try.underlying37 ce_37
    (fun x => ⟨x.1, x.2.1, x.2.2.1, x.2.2.2.1⟩) (fun x => rfl) (fun x h => h.2.2.1.1)
theorem o_rules (k : Nat) : Opens Try.prog k 22 (fun l : List Rule => [.fs (l.map eRule) false]) (fun l => l.length ≤ 140737488355328 ∧ ∀ r ∈ l, r.path.length ≤ 140737488355328) :=
  (Opens.slice' (fun j _ => o_rule j) Try.underlying22 (fun x => by rw [ce_37]; exact eRule_len x)).map id (fun _ => rfl) (fun l h => ⟨by
    have := h.1; rw [by_37, reach_s] at this; simp only [id]; omega, h.2⟩)
def ePolicy (p : Policy) : List AV := [.fs (p.rules.map eRule) false, vB p.read, vB p.write]
theorem o_policy : ∀ k, Opens Try.prog k 24 ePolicy Policy.ok :=
  o_struct (fun k => OpensF.cons (m := 1) (o_rules k) (OpensF.cons (m := 1) (o_bool k) (OpensF.cons (m := 1) (o_bool k) (OpensF.nil k 3) rfl ce_4) rfl ce_4) rfl ce_22) Try.underlying24 ce_24
    (fun x => ⟨x.1, x.2.1, x.2.2.1⟩) (fun x => rfl) (fun x h => ⟨h.1.1, h.1.2⟩)
theorem o_attr : ∀ k, Opens Try.prog k 127 eAttr (fun _ => True) :=
  o_struct (fun k => OpensF.cons (m := 1) (o_str k) (OpensF.cons (m := 1) (o_str k) (OpensF.nil k 2) rfl ce_9) rfl ce_9) Try.underlying127 ce_127
    (fun x => (x.1, x.2.1)) (fun x => rfl) (fun x h => trivial)
theorem o_attrs (k : Nat) : Opens Try.prog k 55 (fun l : List (Str × Str) => [.fs (l.map eAttr) false]) (fun l => l.length ≤ 140737488355328) :=
  (Opens.slice' (fun j _ => o_attr j) Try.underlying55 (fun x => by rw [ce_127]; rfl)).map id (fun _ => rfl) (fun l h => by
    have := h.1; rw [by_127, reach_s] at this; simp only [id]; omega)
theorem okEs_all : ∀ {l : List Elem}, (∀ e ∈ l, okE e) → okEs l
  | [], _ => by simp [okEs]
  | e :: r, h => by simp only [okEs]; exact ⟨h e (by simp), okEs_all fun x hx => h x (by simp [hx])⟩
theorem o_elems_of {k : Nat} (h : ∀ j, j + 1 ≤ k → Opens Try.prog j 57 eElem okE) : Opens Try.prog k 26 (fun l : List Elem => [lE l]) (fun l => l.length ≤ 140737488355328 ∧ okEs l) :=
  (Opens.slice' h Try.underlying26 (fun x => by rw [ce_57]; exact eElem_len x)).map id (fun _ => rfl) (fun l h => ⟨by
    have := h.1; rw [by_57, reach_s] at this; simp only [id]; omega, okEs_all h.2⟩)
theorem o_elem : ∀ k, Opens Try.prog k 57 eElem okE :=
  Opens.rec fun k ih =>
    (Opens.struct (OpensF.cons (m := 1) (o_str k) (OpensF.cons (m := 1) (o_str k) (OpensF.cons (m := 1) (o_attrs k) (OpensF.cons (m := 1) (o_str k) (OpensF.cons (m := 1) (o_elems_of fun j hj => ih j (by omega)) (OpensF.nil k 5) rfl ce_26) rfl ce_9) rfl ce_55) rfl ce_9) rfl ce_9) Try.underlying57 ce_57).map
      (fun x => .mk x.1 x.2.1 x.2.2.1 x.2.2.2.1 x.2.2.2.2.1) (fun x => by simp [eElem, eElems_map, eS]) (fun x h => by
        obtain ⟨h1, h2, h3, h4, ⟨h5, h6⟩, -⟩ := h
        exact ⟨h1, h2, h3, h4, h5, h6⟩)
theorem o_elems (k : Nat) : Opens Try.prog k 26 (fun l : List Elem => [lE l]) (fun l => l.length ≤ 140737488355328 ∧ okEs l) := o_elems_of fun j _ => o_elem j
end Go.Abs.SA
end
