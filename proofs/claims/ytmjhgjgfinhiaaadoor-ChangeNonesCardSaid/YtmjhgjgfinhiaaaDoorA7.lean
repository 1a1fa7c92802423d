/- YtmjhgjgfinhiaaaDoorA7: a part of the interpreter by which the claim is shown, and of the walks: no conditions of its own: every theorem states its own. -/
import Derived.Test.YtmjhgjgfinhiaaaDoorA6
section
set_option linter.unusedVariables false
set_option linter.unusedSimpArgs false
set_option linter.unusedSectionVars false
set_option maxRecDepth 100000
set_option maxHeartbeats 8000000
set_option linter.unusedSimpArgs false
set_option linter.unusedVariables false
namespace Go.Abs.SA
open Go.Proofs

mutual
/-- Keys stand in lists alone. -/
def wkD : Def → Prop
  | .mk _ k _ _ _ ks kd => (k ≠ 2 → ks = []) ∧ wkDs kd
def wkDs : List Def → Prop
  | [] => True
  | d :: r => wkD d ∧ wkDs r
end
theorem wkD_s {d : Def} : wkD d ↔ (d.kind ≠ 2 → d.keys = []) ∧ wkDs d.kids := by cases d; rw [wkD]; rfl
theorem wkDs_mem : ∀ {l : List Def} {d : Def}, wkDs l → d ∈ l → wkD d
  | x :: r, d, h, hm => by
    rw [wkDs] at h
    rcases List.mem_cons.1 hm with rfl | hm
    · exact h.1
    · exact wkDs_mem h.2 hm
theorem wk_schema : wkDs schema := by
  simp [wkDs, wkD, schema, leafD, portD, sName]
theorem keyOf_nil {d : Def} {n : Node} (h : d.keys = []) : keyOf d n = some [] := by simp [keyOf, h]
theorem aDef_s (d : Def) : aDef d = .agg [vS d.name, vI d.kind, vI d.type, lS d.values, vB d.must, lS d.keys, lD d.kids] := by
  first | rfl | (cases d; rfl) | (unfold aDef; rw [eDef_s])
theorem x13 (s : St) (k : Nat) (xs : List AV) (h : k ≠ 25) : callX XX (orW XX) s 13 k xs = callA XX (orW XX) s k xs := by
  rw [callX_if live_13, if_neg]
  simp
  intro hk
  exact absurd hk h
theorem modelRead_spec : ∀ (k : Nat) (l : List Def) (elems : List Elem), cntEs elems < k → k ≤ 100000 → okEs elems → wkDs l → l.length ≤ 1099511627776 → okDs l → pureW XX 13 [lD l, lE elems] = some (aRead (rdL l [] [] elems)) := by
  intro k
  induction k with
  | zero => intro l elems h; omega
  | succ k ih =>
    intro l elems hc hk hok hwk hl hod
    have hcnt := len_cntEs elems
    refine pureW_in 110 Tryd.func13 Tryd.ntmps13 (by simp) (rfl : Tryd.f13.body = some _) fns_13 ?_
    simp (maxSteps := 200000) (disch := first | (simp only [go_sem, Nat.reduceAdd, Nat.reduceSub, Nat.reduceMul, Nat.reduceLeDiff, Nat.reduceEqDiff, Nat.reduceLT, Nat.reduceBEq, Nat.reduceBNe, Nat.reducePow, ↓reduceIte]; done) | omega | (simp only [go_sem, Nat.reduceAdd, Nat.reduceSub, Nat.reduceMul, Nat.reduceLeDiff, Nat.reduceEqDiff, Nat.reduceLT, Nat.reduceBEq, Nat.reduceBNe, Nat.reducePow, ↓reduceIte] <;> omega) | fail) only [go_sem, Nat.reduceAdd, Nat.reduceSub, Nat.reduceMul, Nat.reduceLeDiff, Nat.reduceEqDiff, Nat.reduceLT, Nat.reduceBEq, Nat.reduceBNe, Nat.reducePow, ↓reduceIte]
    refine WP_loopR 3 2 (fun (a : Nat × List Node × List Node) => S_13_3 (lD l) (.sl 0 0 a.2.1.length false) (.sl 1 0 a.2.2.length false) (lE elems) (vI elems.length) (vI a.1) [.arr 41 3 (a.2.1.map eNode), .arr 41 3 (a.2.2.map eNode)]) (fun a => elems.length - a.1) (fun a => a.1 ≤ elems.length ∧ a.2.1.length ≤ a.1 ∧ a.2.2.length ≤ a.1 ∧ (∀ x ∈ a.2.2, x.kids.length ≤ 100000) ∧ (∀ x ∈ a.2.1, x.kids.length ≤ 100000) ∧ rdL l [] [] elems = rdL l a.2.1 a.2.2 (elems.drop a.1)) (0, [], []) rfl rfl ?_ ?_ ?_
    · simp (maxSteps := 200000) (disch := first | (simp only [go_sem, Nat.reduceAdd, Nat.reduceSub, Nat.reduceMul, Nat.reduceLeDiff, Nat.reduceEqDiff, Nat.reduceLT, Nat.reduceBEq, Nat.reduceBNe, Nat.reducePow, ↓reduceIte]; done) | omega | (simp only [go_sem, Nat.reduceAdd, Nat.reduceSub, Nat.reduceMul, Nat.reduceLeDiff, Nat.reduceEqDiff, Nat.reduceLT, Nat.reduceBEq, Nat.reduceBNe, Nat.reducePow, ↓reduceIte] <;> omega) | fail) only [go_sem, Nat.reduceAdd, Nat.reduceSub, Nat.reduceMul, Nat.reduceLeDiff, Nat.reduceEqDiff, Nat.reduceLT, Nat.reduceBEq, Nat.reduceBNe, Nat.reducePow, ↓reduceIte]; rfl
    · simp
    · rintro ⟨i, out, all⟩ ⟨hi, ho, ha, hka, hko, hr⟩
      simp only at hi ho ha hka hko hr
      by_cases h : i < elems.length
      case neg =>
        rw [List.drop_of_length_le (by omega), rdL_nil] at hr
        by_cases hb : (256 : Int) < (out.length : Int)
        · rw [if_pos (by omega)] at hr
          rw [hr]
          simp (maxSteps := 200000) (disch := first | (simp only [go_sem, Nat.reduceAdd, Nat.reduceSub, Nat.reduceMul, Nat.reduceLeDiff, Nat.reduceEqDiff, Nat.reduceLT, Nat.reduceBEq, Nat.reduceBNe, Nat.reducePow, ↓reduceIte]; done) | omega | (simp only [go_sem, Nat.reduceAdd, Nat.reduceSub, Nat.reduceMul, Nat.reduceLeDiff, Nat.reduceEqDiff, Nat.reduceLT, Nat.reduceBEq, Nat.reduceBNe, Nat.reducePow, ↓reduceIte] <;> omega) | fail) only [go_sem, Nat.reduceAdd, Nat.reduceSub, Nat.reduceMul, Nat.reduceLeDiff, Nat.reduceEqDiff, Nat.reduceLT, Nat.reduceBEq, Nat.reduceBNe, Nat.reducePow, ↓reduceIte, nat_int, h, hb, x13]
          rfl
        · rw [if_neg (by omega)] at hr
          rw [hr]
          have hord : ∀ t, callX XX (orW XX) ⟨t, [.arr 41 3 (out.map eNode), .arr 41 3 (all.map eNode)]⟩ 13 25 [lD l, .sl 0 0 out.length false] = some (.st (.tup []) ⟨t, [.arr 41 3 ((order l out).map eNode), .arr 41 3 (all.map eNode), .var [lD l]]⟩) := by
            intro t
            have hms := modelOrder_spec l out [] out.length hl hod rfl (by omega) (fun x hx => by have := hko x hx; omega) (fun _ h => (List.not_mem_nil h).elim)
            rw [List.append_nil, List.append_nil] at hms
            exact callX_arrW (bs := [.var [lD l]]) 0 (by rw [live_13]; rfl) (by simp [AV.lts, AV.lt]) (by simp [idsOfs, idsOf]) rfl (by simp [order_len]) (by simp [idsOf, idsOfs]) (by intro b hb f; rw [List.mem_singleton.1 hb]; rfl) (by simpa [AV.rens, AV.ren, posOf] using hms)
          have hol := order_len l out
          simp (maxSteps := 200000) (disch := first | (simp only [go_sem, Nat.reduceAdd, Nat.reduceSub, Nat.reduceMul, Nat.reduceLeDiff, Nat.reduceEqDiff, Nat.reduceLT, Nat.reduceBEq, Nat.reduceBNe, Nat.reducePow, ↓reduceIte]; done) | omega | (simp only [go_sem, Nat.reduceAdd, Nat.reduceSub, Nat.reduceMul, Nat.reduceLeDiff, Nat.reduceEqDiff, Nat.reduceLT, Nat.reduceBEq, Nat.reduceBNe, Nat.reducePow, ↓reduceIte] <;> omega) | fail) only [go_sem, Nat.reduceAdd, Nat.reduceSub, Nat.reduceMul, Nat.reduceLeDiff, Nat.reduceEqDiff, Nat.reduceLT, Nat.reduceBEq, Nat.reduceBNe, Nat.reducePow, ↓reduceIte, nat_int, h, hb, hord, hol]
          rfl
      have heo := okEs_mem hok (List.getElem_mem h)
      obtain ⟨b1, b2, b3, b4, b5, b6⟩ := okE_s heo
      have hkc := cntE_kids h
      have hlk := len_cntEs elems[i].kids
      have pl := find_spec l elems[i].name (by omega)
      rw [List.drop_eq_getElem_cons h, rdL_cons, rdE_s] at hr
      cases hp : place l elems[i].name with
      | none =>
        rw [hp] at pl hr
        simp only at hr
        have n1 : ((-1 : Int) < 0) = True := eq_true (by omega)
        rw [hr]
        simp (maxSteps := 200000) (disch := first | (simp only [go_sem, Nat.reduceAdd, Nat.reduceSub, Nat.reduceMul, Nat.reduceLeDiff, Nat.reduceEqDiff, Nat.reduceLT, Nat.reduceBEq, Nat.reduceBNe, Nat.reducePow, ↓reduceIte]; done) | omega | (simp only [go_sem, Nat.reduceAdd, Nat.reduceSub, Nat.reduceMul, Nat.reduceLeDiff, Nat.reduceEqDiff, Nat.reduceLT, Nat.reduceBEq, Nat.reduceBNe, Nat.reducePow, ↓reduceIte] <;> omega) | fail) only [go_sem, Nat.reduceAdd, Nat.reduceSub, Nat.reduceMul, Nat.reduceLeDiff, Nat.reduceEqDiff, Nat.reduceLT, Nat.reduceBEq, Nat.reduceBNe, Nat.reducePow, ↓reduceIte, nat_int, h, eElem_s, x13, callA_pure mode_17, pl, posI, n1]
        rfl
      | some j =>
      rw [hp] at pl hr
      obtain ⟨hj, hjn⟩ := place_some hp
      have n1 : ((j : Int) < 0) = False := eq_false (by omega)
      obtain ⟨o1, o2, o3, o4⟩ := okD_s (okDs_mem hod (List.getElem_mem hj))
      have hwd := wkD_s.1 (wkDs_mem hwk (List.getElem_mem hj))
      simp only [List.getElem?_eq_getElem hj] at hr
      by_cases hk3 : l[j].kind = 3
      · have hk3' := eq_true hk3
        have hvs := modelValue_spec l[j] elems[i].text (by omega)
        rw [if_pos hk3] at hr
        by_cases hkk : (0 : Int) < (elems[i].kids.length : Int)
        · have : elems[i].kids ≠ [] := by intro hh; rw [hh] at hkk; simp at hkk
          rw [if_pos (.inl this)] at hr
          simp only at hr
          rw [hr]
          simp (maxSteps := 200000) (disch := first | (simp only [go_sem, Nat.reduceAdd, Nat.reduceSub, Nat.reduceMul, Nat.reduceLeDiff, Nat.reduceEqDiff, Nat.reduceLT, Nat.reduceBEq, Nat.reduceBNe, Nat.reducePow, ↓reduceIte]; done) | omega | (simp only [go_sem, Nat.reduceAdd, Nat.reduceSub, Nat.reduceMul, Nat.reduceLeDiff, Nat.reduceEqDiff, Nat.reduceLT, Nat.reduceBEq, Nat.reduceBNe, Nat.reducePow, ↓reduceIte] <;> omega) | fail) only [go_sem, Nat.reduceAdd, Nat.reduceSub, Nat.reduceMul, Nat.reduceLeDiff, Nat.reduceEqDiff, Nat.reduceLT, Nat.reduceBEq, Nat.reduceBNe, Nat.reducePow, ↓reduceIte, nat_int, h, hj, eElem_s, eDef_s, x13, callA_pure mode_17, pl, posI, n1, hk3', hkk]
          rfl
        · have hkn : elems[i].kids = [] := List.eq_nil_iff_length_eq_zero.2 (by omega)
          cases hva : valueM l[j] elems[i].text with
          | false =>
            rw [if_pos (.inr hva)] at hr
            simp only at hr
            rw [hr]
            rw [hva] at hvs
            simp (maxSteps := 200000) (disch := first | (simp only [go_sem, Nat.reduceAdd, Nat.reduceSub, Nat.reduceMul, Nat.reduceLeDiff, Nat.reduceEqDiff, Nat.reduceLT, Nat.reduceBEq, Nat.reduceBNe, Nat.reducePow, ↓reduceIte]; done) | omega | (simp only [go_sem, Nat.reduceAdd, Nat.reduceSub, Nat.reduceMul, Nat.reduceLeDiff, Nat.reduceEqDiff, Nat.reduceLT, Nat.reduceBEq, Nat.reduceBNe, Nat.reducePow, ↓reduceIte] <;> omega) | fail) only [go_sem, Nat.reduceAdd, Nat.reduceSub, Nat.reduceMul, Nat.reduceLeDiff, Nat.reduceEqDiff, Nat.reduceLT, Nat.reduceBEq, Nat.reduceBNe, Nat.reducePow, ↓reduceIte, nat_int, h, hj, eElem_s, eDef_s, x13, callA_pure mode_17, pl, posI, n1, hk3', hkk, callA_pure mode_21, hvs]
            rfl
          | true =>
            rw [if_neg (by simp [hkn, hva])] at hr
            simp only at hr
            rw [hva] at hvs
            have hn1 : (l[j].kind = 1) = False := eq_false (by omega)
            have hn2 : (l[j].kind = 2) = False := eq_false (by omega)
            have hss := modelSame_spec l[j] all (.mk elems[i].name elems[i].text []) o2 (by simp [Node.kids]) (by omega) (fun x hx => by have := hka x hx; omega)
            simp only [aNode, Node.name, Node.value, Node.kids, lN, List.map_nil] at hss
            cases hsa : sameAt l[j] all (.mk elems[i].name elems[i].text []) with
            | some q =>
              rw [hsa] at hss hr
              simp only [Option.isSome, if_true] at hr
              have n2 : (0 ≤ (q : Int)) = True := eq_true (by omega)
              rw [hr]
              simp (maxSteps := 200000) (disch := first | (simp only [go_sem, Nat.reduceAdd, Nat.reduceSub, Nat.reduceMul, Nat.reduceLeDiff, Nat.reduceEqDiff, Nat.reduceLT, Nat.reduceBEq, Nat.reduceBNe, Nat.reducePow, ↓reduceIte]; done) | omega | (simp only [go_sem, Nat.reduceAdd, Nat.reduceSub, Nat.reduceMul, Nat.reduceLeDiff, Nat.reduceEqDiff, Nat.reduceLT, Nat.reduceBEq, Nat.reduceBNe, Nat.reducePow, ↓reduceIte] <;> omega) | fail) only [go_sem, Nat.reduceAdd, Nat.reduceSub, Nat.reduceMul, Nat.reduceLeDiff, Nat.reduceEqDiff, Nat.reduceLT, Nat.reduceBEq, Nat.reduceBNe, Nat.reducePow, ↓reduceIte, nat_int, h, hj, eElem_s, eDef_s, x13, callA_pure mode_17, pl, posI, n1, hk3', hkk, callA_pure mode_21, hvs, hn2, callA_pure mode_16, hss, n2]
              rfl
            | none =>
              rw [hsa] at hss hr
              simp only [Option.isSome] at hr
              rw [if_neg (by simp), if_pos (.inl (by omega))] at hr
              have n2 : (0 ≤ (-1 : Int)) = False := eq_false (by omega)
              simp (maxSteps := 200000) (disch := first | (simp only [go_sem, Nat.reduceAdd, Nat.reduceSub, Nat.reduceMul, Nat.reduceLeDiff, Nat.reduceEqDiff, Nat.reduceLT, Nat.reduceBEq, Nat.reduceBNe, Nat.reducePow, ↓reduceIte]; done) | omega | (simp only [go_sem, Nat.reduceAdd, Nat.reduceSub, Nat.reduceMul, Nat.reduceLeDiff, Nat.reduceEqDiff, Nat.reduceLT, Nat.reduceBEq, Nat.reduceBNe, Nat.reducePow, ↓reduceIte] <;> omega) | fail) only [go_sem, Nat.reduceAdd, Nat.reduceSub, Nat.reduceMul, Nat.reduceLeDiff, Nat.reduceEqDiff, Nat.reduceLT, Nat.reduceBEq, Nat.reduceBNe, Nat.reducePow, ↓reduceIte, nat_int, h, hj, eElem_s, eDef_s, x13, callA_pure mode_17, pl, posI, n1, hk3', hkk, callA_pure mode_21, hvs, hn2, callA_pure mode_16, hss, n2, hn1, ne_eq, not_false_eq_true, wrap_succ h (show elems.length ≤ 140737488355328 by omega)]
              refine ⟨(i + 1, out ++ [.mk elems[i].name elems[i].text []], all ++ [.mk elems[i].name elems[i].text []]), by simp [eNode_s, Node.name, Node.value, Node.kids], ⟨by simp; omega, by simp; omega, by simp; omega, ?_, ?_, hr⟩, by simp; omega⟩
              · intro x hx
                rcases List.mem_append.1 hx with hx | hx
                · exact hka x hx
                · rw [List.mem_singleton.1 hx]; simp [Node.kids]
              · intro x hx
                rcases List.mem_append.1 hx with hx | hx
                · exact hko x hx
                · rw [List.mem_singleton.1 hx]; simp [Node.kids]
      · have hi2 := ih l[j].kids elems[i].kids (by omega) (by omega) b6 hwd.2 o3 o4
        rw [if_neg hk3] at hr
        by_cases q0 : elems[i].text = ⟨#[]⟩
        case neg =>
          rw [if_pos q0] at hr
          simp only at hr
          rw [hr]
          simp (maxSteps := 200000) (disch := first | (simp only [go_sem, Nat.reduceAdd, Nat.reduceSub, Nat.reduceMul, Nat.reduceLeDiff, Nat.reduceEqDiff, Nat.reduceLT, Nat.reduceBEq, Nat.reduceBNe, Nat.reducePow, ↓reduceIte]; done) | omega | (simp only [go_sem, Nat.reduceAdd, Nat.reduceSub, Nat.reduceMul, Nat.reduceLeDiff, Nat.reduceEqDiff, Nat.reduceLT, Nat.reduceBEq, Nat.reduceBNe, Nat.reducePow, ↓reduceIte] <;> omega) | fail) only [go_sem, Nat.reduceAdd, Nat.reduceSub, Nat.reduceMul, Nat.reduceLeDiff, Nat.reduceEqDiff, Nat.reduceLT, Nat.reduceBEq, Nat.reduceBNe, Nat.reducePow, ↓reduceIte, nat_int, h, hj, eElem_s, eDef_s, x13, callA_pure mode_17, pl, posI, n1, hk3, q0, ne_eq, not_false_eq_true]
          rfl
        rw [if_neg (by simp [q0])] at hr
        have q1 := eq_true q0
        cases hrd : rdL l[j].kids [] [] elems[i].kids with
        | error x =>
          rw [hrd] at hi2 hr
          have hx := rdL_err _ _ _ _ _ hrd
          simp only at hr
          simp only [aRead] at hi2
          rw [hr]
          simp (maxSteps := 200000) (disch := first | (simp only [go_sem, Nat.reduceAdd, Nat.reduceSub, Nat.reduceMul, Nat.reduceLeDiff, Nat.reduceEqDiff, Nat.reduceLT, Nat.reduceBEq, Nat.reduceBNe, Nat.reducePow, ↓reduceIte]; done) | omega | (simp only [go_sem, Nat.reduceAdd, Nat.reduceSub, Nat.reduceMul, Nat.reduceLeDiff, Nat.reduceEqDiff, Nat.reduceLT, Nat.reduceBEq, Nat.reduceBNe, Nat.reducePow, ↓reduceIte] <;> omega) | fail) only [go_sem, Nat.reduceAdd, Nat.reduceSub, Nat.reduceMul, Nat.reduceLeDiff, Nat.reduceEqDiff, Nat.reduceLT, Nat.reduceBEq, Nat.reduceBNe, Nat.reducePow, ↓reduceIte, nat_int, h, hj, eElem_s, eDef_s, x13, callA_pure mode_17, pl, posI, n1, hk3, q1, ne_eq, not_true, not_false_eq_true, x13, callA_data mode_13, hi2, hx]
          rfl
        | ok nodes =>
        rw [hrd] at hi2 hr
        have hnl := rdL_len _ _ _ _ _ hrd
        simp only at hr
        simp only [aRead] at hi2
        have hnk : (nodes.length : Nat) ≤ 100000 := by simp at hnl; omega
        have hks := modelKey_spec l[j] (.mk elems[i].name ⟨#[]⟩ nodes) o2 (by simp only [Node.kids]; omega)
        simp only [aNode, Node.name, Node.value, Node.kids] at hks
        by_cases hk2 : l[j].kind = 2
        · have hk2' := eq_true hk2
          have hk1 : ¬ l[j].kind = 1 := by omega
          have h21 : (l[j].kind = 1) = False := eq_false hk1
          have h23 : (l[j].kind = 3) = False := eq_false hk3
          cases hky : keyOf l[j] (.mk elems[i].name ⟨#[]⟩ nodes) with
          | none =>
            rw [hky] at hr hks
            simp only [Option.isSome, Bool.false_eq_true, if_false] at hr
            simp only [kO, Option.isSome, Option.getD_none] at hks
            rw [hr]
            simp (maxSteps := 200000) (disch := first | (simp only [go_sem, Nat.reduceAdd, Nat.reduceSub, Nat.reduceMul, Nat.reduceLeDiff, Nat.reduceEqDiff, Nat.reduceLT, Nat.reduceBEq, Nat.reduceBNe, Nat.reducePow, ↓reduceIte]; done) | omega | (simp only [go_sem, Nat.reduceAdd, Nat.reduceSub, Nat.reduceMul, Nat.reduceLeDiff, Nat.reduceEqDiff, Nat.reduceLT, Nat.reduceBEq, Nat.reduceBNe, Nat.reducePow, ↓reduceIte] <;> omega) | fail) only [go_sem, Nat.reduceAdd, Nat.reduceSub, Nat.reduceMul, Nat.reduceLeDiff, Nat.reduceEqDiff, Nat.reduceLT, Nat.reduceBEq, Nat.reduceBNe, Nat.reducePow, ↓reduceIte, nat_int, h, hj, eElem_s, eDef_s, x13, callA_pure mode_17, pl, posI, n1, hk2', h23, q1, ne_eq, not_true, not_false_eq_true, callA_data mode_13, hi2, callA_data mode_26, hks]
            rfl
          | some ks =>
          rw [hky] at hr hks
          simp only [Option.isSome, if_true] at hr
          simp only [kO, Option.isSome, Option.getD_some] at hks
          have hss := modelSame_spec l[j] all (.mk elems[i].name ⟨#[]⟩ nodes) o2 (by simp only [Node.kids]; omega) (by omega) (fun x hx => by have := hka x hx; omega)
          simp only [aNode, Node.name, Node.value, Node.kids] at hss
          cases hsa : sameAt l[j] all (.mk elems[i].name ⟨#[]⟩ nodes) with
          | some q =>
            rw [hsa] at hss hr
            simp only [Option.isSome, if_true] at hr
            have n2 : (0 ≤ (q : Int)) = True := eq_true (by omega)
            rw [hr]
            simp (maxSteps := 200000) (disch := first | (simp only [go_sem, Nat.reduceAdd, Nat.reduceSub, Nat.reduceMul, Nat.reduceLeDiff, Nat.reduceEqDiff, Nat.reduceLT, Nat.reduceBEq, Nat.reduceBNe, Nat.reducePow, ↓reduceIte]; done) | omega | (simp only [go_sem, Nat.reduceAdd, Nat.reduceSub, Nat.reduceMul, Nat.reduceLeDiff, Nat.reduceEqDiff, Nat.reduceLT, Nat.reduceBEq, Nat.reduceBNe, Nat.reducePow, ↓reduceIte] <;> omega) | fail) only [go_sem, Nat.reduceAdd, Nat.reduceSub, Nat.reduceMul, Nat.reduceLeDiff, Nat.reduceEqDiff, Nat.reduceLT, Nat.reduceBEq, Nat.reduceBNe, Nat.reducePow, ↓reduceIte, nat_int, h, hj, eElem_s, eDef_s, x13, callA_pure mode_17, pl, posI, n1, hk2', h23, q1, ne_eq, not_true, not_false_eq_true, callA_data mode_13, hi2, callA_data mode_26, hks, callA_pure mode_16, hss, n2]
            rfl
          | none =>
          rw [hsa] at hss hr
          simp only [Option.isSome] at hr
          rw [if_neg (by simp)] at hr
          have n2 : (0 ≤ (-1 : Int)) = False := eq_false (by omega)
          rw [if_pos (.inl hk1)] at hr
          simp (maxSteps := 200000) (disch := first | (simp only [go_sem, Nat.reduceAdd, Nat.reduceSub, Nat.reduceMul, Nat.reduceLeDiff, Nat.reduceEqDiff, Nat.reduceLT, Nat.reduceBEq, Nat.reduceBNe, Nat.reducePow, ↓reduceIte]; done) | omega | (simp only [go_sem, Nat.reduceAdd, Nat.reduceSub, Nat.reduceMul, Nat.reduceLeDiff, Nat.reduceEqDiff, Nat.reduceLT, Nat.reduceBEq, Nat.reduceBNe, Nat.reducePow, ↓reduceIte] <;> omega) | fail) only [go_sem, Nat.reduceAdd, Nat.reduceSub, Nat.reduceMul, Nat.reduceLeDiff, Nat.reduceEqDiff, Nat.reduceLT, Nat.reduceBEq, Nat.reduceBNe, Nat.reducePow, ↓reduceIte, nat_int, h, hj, eElem_s, eDef_s, x13, callA_pure mode_17, pl, posI, n1, hk2', h21, h23, q1, ne_eq, not_true, not_false_eq_true, callA_data mode_13, hi2, callA_data mode_26, hks, callA_pure mode_16, hss, n2, wrap_succ h (show elems.length ≤ 140737488355328 by omega)]
          refine ⟨(i + 1, out ++ [.mk elems[i].name ⟨#[]⟩ nodes], all ++ [.mk elems[i].name ⟨#[]⟩ nodes]), by simp [eNode_s, Node.name, Node.value, Node.kids], ⟨by simp; omega, by simp; omega, by simp; omega, ?_, ?_, hr⟩, by simp; omega⟩
          · intro x hx
            rcases List.mem_append.1 hx with hx | hx
            · exact hka x hx
            · rw [List.mem_singleton.1 hx]; exact hnk
          · intro x hx
            rcases List.mem_append.1 hx with hx | hx
            · exact hko x hx
            · rw [List.mem_singleton.1 hx]; exact hnk
        rw [keyOf_nil (hwd.1 hk2)] at hr
        simp only [Option.isSome, if_true] at hr
        have hk2' := eq_false hk2
        have h12 : ((1 : Int) = 2) = False := eq_false (by omega)
        have h13 : ((1 : Int) = 3) = False := eq_false (by omega)
        have hss := modelSame_spec l[j] all (.mk elems[i].name ⟨#[]⟩ nodes) o2 (by simp only [Node.kids]; omega) (by omega) (fun x hx => by have := hka x hx; omega)
        simp only [aNode, Node.name, Node.value, Node.kids] at hss
        cases hsa : sameAt l[j] all (.mk elems[i].name ⟨#[]⟩ nodes) with
        | some q =>
          rw [hsa] at hss hr
          simp only [Option.isSome, if_true] at hr
          have n2 : (0 ≤ (q : Int)) = True := eq_true (by omega)
          rw [hr]
          simp (maxSteps := 200000) (disch := first | (simp only [go_sem, Nat.reduceAdd, Nat.reduceSub, Nat.reduceMul, Nat.reduceLeDiff, Nat.reduceEqDiff, Nat.reduceLT, Nat.reduceBEq, Nat.reduceBNe, Nat.reducePow, ↓reduceIte]; done) | omega | (simp only [go_sem, Nat.reduceAdd, Nat.reduceSub, Nat.reduceMul, Nat.reduceLeDiff, Nat.reduceEqDiff, Nat.reduceLT, Nat.reduceBEq, Nat.reduceBNe, Nat.reducePow, ↓reduceIte] <;> omega) | fail) only [go_sem, Nat.reduceAdd, Nat.reduceSub, Nat.reduceMul, Nat.reduceLeDiff, Nat.reduceEqDiff, Nat.reduceLT, Nat.reduceBEq, Nat.reduceBNe, Nat.reducePow, ↓reduceIte, nat_int, h, hj, eElem_s, eDef_s, x13, callA_pure mode_17, pl, posI, n1, hk3, q1, ne_eq, not_true, not_false_eq_true, x13, callA_data mode_13, hi2, hk2', callA_pure mode_16, hss, n2]
          rfl
        | none =>
        rw [hsa] at hss hr
        simp only [Option.isSome] at hr
        rw [if_neg (by simp)] at hr
        have n2 : (0 ≤ (-1 : Int)) = False := eq_false (by omega)
        by_cases hk1 : l[j].kind = 1
        · have hk1' := eq_true hk1
          by_cases hn0 : (0 : Int) < (nodes.length : Int)
          · have : nodes ≠ [] := by intro hh; rw [hh] at hn0; simp at hn0
            rw [if_pos (.inr this)] at hr
            simp (maxSteps := 200000) (disch := first | (simp only [go_sem, Nat.reduceAdd, Nat.reduceSub, Nat.reduceMul, Nat.reduceLeDiff, Nat.reduceEqDiff, Nat.reduceLT, Nat.reduceBEq, Nat.reduceBNe, Nat.reducePow, ↓reduceIte]; done) | omega | (simp only [go_sem, Nat.reduceAdd, Nat.reduceSub, Nat.reduceMul, Nat.reduceLeDiff, Nat.reduceEqDiff, Nat.reduceLT, Nat.reduceBEq, Nat.reduceBNe, Nat.reducePow, ↓reduceIte] <;> omega) | fail) only [go_sem, Nat.reduceAdd, Nat.reduceSub, Nat.reduceMul, Nat.reduceLeDiff, Nat.reduceEqDiff, Nat.reduceLT, Nat.reduceBEq, Nat.reduceBNe, Nat.reducePow, ↓reduceIte, nat_int, h, hj, eElem_s, eDef_s, x13, callA_pure mode_17, pl, posI, n1, hk3, q1, ne_eq, not_true, not_false_eq_true, x13, callA_data mode_13, hi2, hk2', callA_pure mode_16, hss, n2, hk1', hn0, wrap_succ h (show elems.length ≤ 140737488355328 by omega)]
            refine ⟨(i + 1, out ++ [.mk elems[i].name ⟨#[]⟩ nodes], all ++ [.mk elems[i].name ⟨#[]⟩ nodes]), by simp [eNode_s, Node.name, Node.value, Node.kids], ⟨by simp; omega, by simp; omega, by simp; omega, ?_, ?_, hr⟩, by simp; omega⟩
            · intro x hx
              rcases List.mem_append.1 hx with hx | hx
              · exact hka x hx
              · rw [List.mem_singleton.1 hx]; exact hnk
            · intro x hx
              rcases List.mem_append.1 hx with hx | hx
              · exact hko x hx
              · rw [List.mem_singleton.1 hx]; exact hnk
          · have : nodes = [] := List.eq_nil_iff_length_eq_zero.2 (by omega)
            rw [if_neg (by simp [hk1, Node.kids, this])] at hr
            simp (maxSteps := 200000) (disch := first | (simp only [go_sem, Nat.reduceAdd, Nat.reduceSub, Nat.reduceMul, Nat.reduceLeDiff, Nat.reduceEqDiff, Nat.reduceLT, Nat.reduceBEq, Nat.reduceBNe, Nat.reducePow, ↓reduceIte]; done) | omega | (simp only [go_sem, Nat.reduceAdd, Nat.reduceSub, Nat.reduceMul, Nat.reduceLeDiff, Nat.reduceEqDiff, Nat.reduceLT, Nat.reduceBEq, Nat.reduceBNe, Nat.reducePow, ↓reduceIte] <;> omega) | fail) only [go_sem, Nat.reduceAdd, Nat.reduceSub, Nat.reduceMul, Nat.reduceLeDiff, Nat.reduceEqDiff, Nat.reduceLT, Nat.reduceBEq, Nat.reduceBNe, Nat.reducePow, ↓reduceIte, nat_int, h, hj, eElem_s, eDef_s, x13, callA_pure mode_17, pl, posI, n1, hk3, q1, ne_eq, not_true, not_false_eq_true, x13, callA_data mode_13, hi2, hk2', callA_pure mode_16, hss, n2, hk1', hn0, wrap_succ h (show elems.length ≤ 140737488355328 by omega)]
            refine ⟨(i + 1, out, all ++ [.mk elems[i].name ⟨#[]⟩ nodes]), by simp [eNode_s, Node.name, Node.value, Node.kids], ⟨by simp; omega, by simp; omega, by simp; omega, ?_, ?_, hr⟩, by simp; omega⟩
            · intro x hx
              rcases List.mem_append.1 hx with hx | hx
              · exact hka x hx
              · rw [List.mem_singleton.1 hx]; exact hnk
            · exact hko
        · rw [if_pos (.inl hk1)] at hr
          simp (maxSteps := 200000) (disch := first | (simp only [go_sem, Nat.reduceAdd, Nat.reduceSub, Nat.reduceMul, Nat.reduceLeDiff, Nat.reduceEqDiff, Nat.reduceLT, Nat.reduceBEq, Nat.reduceBNe, Nat.reducePow, ↓reduceIte]; done) | omega | (simp only [go_sem, Nat.reduceAdd, Nat.reduceSub, Nat.reduceMul, Nat.reduceLeDiff, Nat.reduceEqDiff, Nat.reduceLT, Nat.reduceBEq, Nat.reduceBNe, Nat.reducePow, ↓reduceIte] <;> omega) | fail) only [go_sem, Nat.reduceAdd, Nat.reduceSub, Nat.reduceMul, Nat.reduceLeDiff, Nat.reduceEqDiff, Nat.reduceLT, Nat.reduceBEq, Nat.reduceBNe, Nat.reducePow, ↓reduceIte, nat_int, h, hj, eElem_s, eDef_s, x13, callA_pure mode_17, pl, posI, n1, hk3, q1, ne_eq, not_true, not_false_eq_true, x13, callA_data mode_13, hi2, hk2', callA_pure mode_16, hss, n2, hk1, wrap_succ h (show elems.length ≤ 140737488355328 by omega)]
          refine ⟨(i + 1, out ++ [.mk elems[i].name ⟨#[]⟩ nodes], all ++ [.mk elems[i].name ⟨#[]⟩ nodes]), by simp [eNode_s, Node.name, Node.value, Node.kids], ⟨by simp; omega, by simp; omega, by simp; omega, ?_, ?_, hr⟩, by simp; omega⟩
          · intro x hx
            rcases List.mem_append.1 hx with hx | hx
            · exact hka x hx
            · rw [List.mem_singleton.1 hx]; exact hnk
          · intro x hx
            rcases List.mem_append.1 hx with hx | hx
            · exact hko x hx
            · rw [List.mem_singleton.1 hx]; exact hnk
end Go.Abs.SA
end

section
set_option linter.unusedVariables false
set_option linter.unusedSimpArgs false
set_option linter.unusedSectionVars false
set_option maxRecDepth 100000
set_option maxHeartbeats 8000000
set_option linter.unusedSimpArgs false
set_option linter.unusedVariables false
namespace Go.Abs.SA
open Go.Proofs

/-! Changes. -/
inductive Chg where
  | mk (name value : Str) (op : Int) (kids : List Chg)
  deriving Inhabited
def Chg.name : Chg → Str | .mk n _ _ _ => n
def Chg.value : Chg → Str | .mk _ v _ _ => v
def Chg.op : Chg → Int | .mk _ _ o _ => o
def Chg.kids : Chg → List Chg | .mk _ _ _ k => k
mutual
def eChg : Chg → List AV
  | .mk n v o k => [vS n, vS v, vI o, .fs (eChgs k) false]
def eChgs : List Chg → List (List AV)
  | [] => []
  | c :: r => eChg c :: eChgs r
end
theorem eChgs_map : ∀ (l : List Chg), eChgs l = l.map eChg
  | [] => rfl
  | n :: r => by simp [eChgs, eChgs_map r]
theorem eChg_s (c : Chg) : eChg c = [vS c.name, vS c.value, vI c.op, .fs (c.kids.map eChg) false] := by
  cases c; simp [eChg, eChgs_map, Chg.name, Chg.value, Chg.op, Chg.kids]
theorem eChg_len (c : Chg) : (eChg c).length = 4 := by rw [eChg_s]; rfl
attribute [go_sem] eChg_len
instance : EL eChg 4 := ⟨eChg_len⟩
abbrev lC (l : List Chg) : AV := .fs (l.map eChg) false
abbrev aChg (c : Chg) : AV := .agg [vS c.name, vS c.value, vI c.op, lC c.kids]
theorem snoc_C (l : List Chg) (a b : Str) (o : Int) (k : List Chg) : l.map eChg ++ [[.v (.string a), .v (.string b), .v (.int .i64 o), .fs (k.map eChg) false]] = (l ++ [Chg.mk a b o k]).map eChg := by
  simp [eChg_s, Chg.name, Chg.value, Chg.op, Chg.kids]

def opL : List Str := [⟨#[110, 111, 110, 101]⟩, ⟨#[109, 101, 114, 103, 101]⟩, ⟨#[114, 101, 112, 108, 97, 99, 101]⟩, ⟨#[99, 114, 101, 97, 116, 101]⟩, ⟨#[100, 101, 108, 101, 116, 101]⟩, ⟨#[114, 101, 109, 111, 118, 101]⟩]
abbrev sOp : Str := ⟨#[111, 112, 101, 114, 97, 116, 105, 111, 110]⟩
/-- An operation by its name. -/
def opN (s : Str) : Int := posI (opL.findIdx? (s = ·))
theorem opN_spec (s : Str) : pureW XX 19 [vS s] = some (vI (opN s)) := by
  refine pureW_in 6 Tryd.func19 Tryd.ntmps19 (by simp) (rfl : Tryd.f19.body = some _) fns_19 ?_
  have hi := index_spec opL s (by decide)
  rw [show posI (opL.findIdx? (s = ·)) = opN s from rfl] at hi
  simp only [lS, opL, List.map_cons, List.map_nil, eS_s] at hi
  simp (maxSteps := 200000) (disch := first | (simp only [go_sem, Nat.reduceAdd, Nat.reduceSub, Nat.reduceMul, Nat.reduceLeDiff, Nat.reduceEqDiff, Nat.reduceLT, Nat.reduceBEq, Nat.reduceBNe, Nat.reducePow, ↓reduceIte]; done) | omega | (simp only [go_sem, Nat.reduceAdd, Nat.reduceSub, Nat.reduceMul, Nat.reduceLeDiff, Nat.reduceEqDiff, Nat.reduceLT, Nat.reduceBEq, Nat.reduceBNe, Nat.reducePow, ↓reduceIte] <;> omega) | fail) only [go_sem, Nat.reduceAdd, Nat.reduceSub, Nat.reduceMul, Nat.reduceLeDiff, Nat.reduceEqDiff, Nat.reduceLT, Nat.reduceBEq, Nat.reduceBNe, Nat.reducePow, ↓reduceIte, callA_pure mode_34, hi]
/-- What an element's attributes say. -/
def atOp (op : Int) : List (Str × Str) → Option Int
  | [] => some op
  | a :: r => if a.1 ≠ sOp ∨ opN a.2 < 1 then none else atOp (opN a.2) r
/-- Is a key there once, and not taken away? -/
def keyOk (ks : List Chg) (k : Str) : Bool := ks.all (fun x => !decide (x.name = k) || decide (x.op < 4)) && decide ((ks.filter fun x => decide (x.name = k)).length = 1)
def keysOk (d : Def) (ks : List Chg) : Bool := d.keys.all (keyOk ks)
mutual
def chE (l : List Def) (op : Int) : Elem → Except Int Chg
  | .mk _ n a t k => match place l n with
    | none => .error 11
    | some i => match l[i]? with
      | none => .error 11
      | some d => match atOp op a with
        | none => .error 1
        | some o =>
          if d.kind = 3 then (if k ≠ [] ∨ (¬ (t = ⟨#[]⟩ ∧ 4 ≤ o) ∧ valueM d t = false) then .error 12 else .ok (.mk n t o []))
          else if t ≠ ⟨#[]⟩ then .error 12 else match chL d.kids (if o ≠ 0 then 1 else o) k with
            | .error e => .error e
            | .ok ks => if d.kind = 2 ∧ keysOk d ks = false then .error 13 else .ok (.mk n ⟨#[]⟩ o ks)
/-- Elements as changes. -/
def chL (l : List Def) (op : Int) : List Elem → Except Int (List Chg)
  | [] => .ok []
  | e :: r => match chE l op e with
    | .error x => .error x
    | .ok c => match chL l op r with
      | .error x => .error x
      | .ok cs => .ok (c :: cs)
end
theorem chE_s (l : List Def) (op : Int) (e : Elem) : chE l op e = match place l e.name with
    | none => .error 11
    | some i => match l[i]? with
      | none => .error 11
      | some d => match atOp op e.attrs with
        | none => .error 1
        | some o =>
          if d.kind = 3 then (if e.kids ≠ [] ∨ (¬ (e.text = ⟨#[]⟩ ∧ 4 ≤ o) ∧ valueM d e.text = false) then .error 12 else .ok (.mk e.name e.text o []))
          else if e.text ≠ ⟨#[]⟩ then .error 12 else match chL d.kids (if o ≠ 0 then 1 else o) e.kids with
            | .error e => .error e
            | .ok ks => if d.kind = 2 ∧ keysOk d ks = false then .error 13 else .ok (.mk e.name ⟨#[]⟩ o ks) := by
  cases e; rw [chE]; rfl
theorem chL_cons (l : List Def) (op : Int) (e : Elem) (r : List Elem) : chL l op (e :: r) = match chE l op e with
    | .error x => .error x
    | .ok c => match chL l op r with
      | .error x => .error x
      | .ok cs => .ok (c :: cs) := by rw [chL]
theorem chL_nil (l : List Def) (op : Int) : chL l op [] = .ok [] := by rw [chL]
/-- Changes behind others. -/
def preC (out : List Chg) : Except Int (List Chg) → Except Int (List Chg)
  | .error x => .error x
  | .ok cs => .ok (out ++ cs)
theorem preC_nil (x : Except Int (List Chg)) : preC [] x = x := by cases x <;> rfl
theorem preC_cons (l : List Def) (op : Int) (out : List Chg) (e : Elem) (r : List Elem) : preC out (chL l op (e :: r)) = match chE l op e with
    | .error x => .error x
    | .ok c => preC (out ++ [c]) (chL l op r) := by
  rw [chL_cons]
  cases chE l op e with
  | error x => rfl
  | ok c => cases chL l op r <;> simp [preC]
mutual
theorem chE_err (l : List Def) (op : Int) : ∀ (e : Elem) (x : Int), chE l op e = .error x → x ≠ 0
  | .mk s n a t k, x, h => by
    rw [chE] at h
    split at h
    · cases h; decide
    · split at h
      · cases h; decide
      · split at h
        · cases h; decide
        · split at h
          · split at h
            · cases h; decide
            · cases h
          · split at h
            · cases h; decide
            · split at h
              · rename_i e he
                cases h
                exact chL_err _ _ k _ he
              · split at h
                · cases h; decide
                · cases h
theorem chL_err (l : List Def) (op : Int) : ∀ (es : List Elem) (x : Int), chL l op es = .error x → x ≠ 0
  | [], x, h => by rw [chL] at h; cases h
  | e :: r, x, h => by
    rw [chL] at h
    split at h
    · rename_i y hy
      cases h
      exact chE_err l op e _ hy
    · split at h
      · rename_i y hy
        cases h
        exact chL_err l op r _ hy
      · cases h
end
theorem chL_len (l : List Def) (op : Int) : ∀ (es : List Elem) (cs : List Chg), chL l op es = .ok cs → cs.length = es.length
  | [], cs, h => by rw [chL] at h; cases h; rfl
  | e :: r, cs, h => by
    rw [chL] at h
    split at h
    · cases h
    · split at h
      · cases h
      · rename_i cs' hcs
        cases h
        rw [List.length_cons, chL_len l op r _ hcs, List.length_cons]
/-- A key of changes. -/
theorem keys_spec (d : Def) (c : Chg) (hd : d.keys.length ≤ 140737488355328) (hc : c.kids.length ≤ 140737488355328) : pureW XX 22 [aDef d, aChg c] = some (vI (if keysOk d c.kids then 0 else 13)) := by
  refine pureW_in 37 Tryd.func22 Tryd.ntmps22 (by simp) (rfl : Tryd.f22.body = some _) fns_22 ?_
  simp (maxSteps := 200000) (disch := first | (simp only [go_sem, Nat.reduceAdd, Nat.reduceSub, Nat.reduceMul, Nat.reduceLeDiff, Nat.reduceEqDiff, Nat.reduceLT, Nat.reduceBEq, Nat.reduceBNe, Nat.reducePow, ↓reduceIte]; done) | omega | (simp only [go_sem, Nat.reduceAdd, Nat.reduceSub, Nat.reduceMul, Nat.reduceLeDiff, Nat.reduceEqDiff, Nat.reduceLT, Nat.reduceBEq, Nat.reduceBNe, Nat.reducePow, ↓reduceIte] <;> omega) | fail) only [go_sem, Nat.reduceAdd, Nat.reduceSub, Nat.reduceMul, Nat.reduceLeDiff, Nat.reduceEqDiff, Nat.reduceLT, Nat.reduceBEq, Nat.reduceBNe, Nat.reducePow, ↓reduceIte]
  refine WP_range 2 2 d.keys.length (fun i => S_22_2 (.ptr 1 0) (lS d.keys) (vI d.keys.length) (vI i) [.var [vS d.name, vI d.kind, vI d.type, lS d.values, vB d.must, lS d.keys, lD d.kids], .var [vS c.name, vS c.value, vI c.op, lC c.kids]]) (fun i => (d.keys.take i).all (keyOk c.kids) = true) rfl rfl ?_ ?_ ?_ ?_
  · simp (maxSteps := 200000) (disch := first | (simp only [go_sem, Nat.reduceAdd, Nat.reduceSub, Nat.reduceMul, Nat.reduceLeDiff, Nat.reduceEqDiff, Nat.reduceLT, Nat.reduceBEq, Nat.reduceBNe, Nat.reducePow, ↓reduceIte]; done) | omega | (simp only [go_sem, Nat.reduceAdd, Nat.reduceSub, Nat.reduceMul, Nat.reduceLeDiff, Nat.reduceEqDiff, Nat.reduceLT, Nat.reduceBEq, Nat.reduceBNe, Nat.reducePow, ↓reduceIte] <;> omega) | fail) only [go_sem, Nat.reduceAdd, Nat.reduceSub, Nat.reduceMul, Nat.reduceLeDiff, Nat.reduceEqDiff, Nat.reduceLT, Nat.reduceBEq, Nat.reduceBNe, Nat.reducePow, ↓reduceIte]; rfl
  · simp
  · intro i h hI
    have hws := wrap_succ h hd
    have bad : keyOk c.kids d.keys[i] = false → keysOk d c.kids = false := by
      intro hb
      unfold keysOk
      cases hh : d.keys.all (keyOk c.kids) with
      | false => rfl
      | true =>
        rw [List.all_eq_true] at hh
        rw [hh _ (List.getElem_mem h)] at hb; cases hb
    simp (maxSteps := 200000) (disch := first | (simp only [go_sem, Nat.reduceAdd, Nat.reduceSub, Nat.reduceMul, Nat.reduceLeDiff, Nat.reduceEqDiff, Nat.reduceLT, Nat.reduceBEq, Nat.reduceBNe, Nat.reducePow, ↓reduceIte]; done) | omega | (simp only [go_sem, Nat.reduceAdd, Nat.reduceSub, Nat.reduceMul, Nat.reduceLeDiff, Nat.reduceEqDiff, Nat.reduceLT, Nat.reduceBEq, Nat.reduceBNe, Nat.reducePow, ↓reduceIte] <;> omega) | fail) only [go_sem, Nat.reduceAdd, Nat.reduceSub, Nat.reduceMul, Nat.reduceLeDiff, Nat.reduceEqDiff, Nat.reduceLT, Nat.reduceBEq, Nat.reduceBNe, Nat.reducePow, ↓reduceIte, nat_int, h, eS_s]
    refine WP_range 6 2 c.kids.length (fun j => S_22_6 (.ptr 1 0) (vS d.keys[i]) (vI ((c.kids.take j).filter fun x => decide (x.name = d.keys[i])).length) (lS d.keys) (vI d.keys.length) (vI i) (lC c.kids) (vI c.kids.length) (vI j) [.var [vS d.name, vI d.kind, vI d.type, lS d.values, vB d.must, lS d.keys, lD d.kids], .var [vS c.name, vS c.value, vI c.op, lC c.kids]]) (fun j => (c.kids.take j).all (fun x => !decide (x.name = d.keys[i]) || decide (x.op < 4)) = true) rfl rfl ?_ ?_ ?_ ?_
    · simp (maxSteps := 200000) (disch := first | (simp only [go_sem, Nat.reduceAdd, Nat.reduceSub, Nat.reduceMul, Nat.reduceLeDiff, Nat.reduceEqDiff, Nat.reduceLT, Nat.reduceBEq, Nat.reduceBNe, Nat.reducePow, ↓reduceIte]; done) | omega | (simp only [go_sem, Nat.reduceAdd, Nat.reduceSub, Nat.reduceMul, Nat.reduceLeDiff, Nat.reduceEqDiff, Nat.reduceLT, Nat.reduceBEq, Nat.reduceBNe, Nat.reducePow, ↓reduceIte] <;> omega) | fail) only [go_sem, Nat.reduceAdd, Nat.reduceSub, Nat.reduceMul, Nat.reduceLeDiff, Nat.reduceEqDiff, Nat.reduceLT, Nat.reduceBEq, Nat.reduceBNe, Nat.reducePow, ↓reduceIte]; rfl
    · simp
    · intro j hj hJ
      have hwj := wrap_succ hj hc
      have htk := List.take_succ_eq_append_getElem hj
      have hfl := List.length_filter_le (fun x : Chg => decide (x.name = d.keys[i])) (c.kids.take j)
      rw [List.length_take] at hfl
      rw [htk, List.filter_append, List.all_append, hJ]
      have hw2 : IntKind.i64.wrap ((((c.kids.take j).filter fun x => decide (x.name = d.keys[i])).length : Int) + 1) = ((((c.kids.take j).filter fun x => decide (x.name = d.keys[i])).length + 1 : Nat) : Int) := by rw [IntWalk.i64_in _ (by omega)]; omega
      by_cases hn : c.kids[j].name = d.keys[i]
      · have hn' := eq_true hn
        by_cases ho : (4 : Int) ≤ c.kids[j].op
        · have hb := bad (by
            unfold keyOk
            rw [show (c.kids.all fun x => !decide (x.name = d.keys[i]) || decide (x.op < 4)) = false from by
              cases hh : (c.kids.all fun x => !decide (x.name = d.keys[i]) || decide (x.op < 4)) with
              | false => rfl
              | true =>
                rw [List.all_eq_true] at hh
                have := hh _ (List.getElem_mem hj)
                simp [hn] at this
                omega]
            rfl)
          have ho' := eq_true ho
          simp (maxSteps := 200000) (disch := first | (simp only [go_sem, Nat.reduceAdd, Nat.reduceSub, Nat.reduceMul, Nat.reduceLeDiff, Nat.reduceEqDiff, Nat.reduceLT, Nat.reduceBEq, Nat.reduceBNe, Nat.reducePow, ↓reduceIte]; done) | omega | (simp only [go_sem, Nat.reduceAdd, Nat.reduceSub, Nat.reduceMul, Nat.reduceLeDiff, Nat.reduceEqDiff, Nat.reduceLT, Nat.reduceBEq, Nat.reduceBNe, Nat.reducePow, ↓reduceIte] <;> omega) | fail) only [go_sem, Nat.reduceAdd, Nat.reduceSub, Nat.reduceMul, Nat.reduceLeDiff, Nat.reduceEqDiff, Nat.reduceLT, Nat.reduceBEq, Nat.reduceBNe, Nat.reducePow, ↓reduceIte, nat_int, hj, eChg_s, hn', ho', hw2, hb]
        · have ho' := eq_false ho
          simp (maxSteps := 200000) (disch := first | (simp only [go_sem, Nat.reduceAdd, Nat.reduceSub, Nat.reduceMul, Nat.reduceLeDiff, Nat.reduceEqDiff, Nat.reduceLT, Nat.reduceBEq, Nat.reduceBNe, Nat.reducePow, ↓reduceIte]; done) | omega | (simp only [go_sem, Nat.reduceAdd, Nat.reduceSub, Nat.reduceMul, Nat.reduceLeDiff, Nat.reduceEqDiff, Nat.reduceLT, Nat.reduceBEq, Nat.reduceBNe, Nat.reducePow, ↓reduceIte] <;> omega) | fail) only [go_sem, Nat.reduceAdd, Nat.reduceSub, Nat.reduceMul, Nat.reduceLeDiff, Nat.reduceEqDiff, Nat.reduceLT, Nat.reduceBEq, Nat.reduceBNe, Nat.reducePow, ↓reduceIte, nat_int, hj, eChg_s, hn', ho', hw2, hwj]
          rw [List.filter_cons, if_pos (by simpa using hn)]
          simp
          omega
      · simp (maxSteps := 200000) (disch := first | (simp only [go_sem, Nat.reduceAdd, Nat.reduceSub, Nat.reduceMul, Nat.reduceLeDiff, Nat.reduceEqDiff, Nat.reduceLT, Nat.reduceBEq, Nat.reduceBNe, Nat.reducePow, ↓reduceIte]; done) | omega | (simp only [go_sem, Nat.reduceAdd, Nat.reduceSub, Nat.reduceMul, Nat.reduceLeDiff, Nat.reduceEqDiff, Nat.reduceLT, Nat.reduceBEq, Nat.reduceBNe, Nat.reducePow, ↓reduceIte] <;> omega) | fail) only [go_sem, Nat.reduceAdd, Nat.reduceSub, Nat.reduceMul, Nat.reduceLeDiff, Nat.reduceEqDiff, Nat.reduceLT, Nat.reduceBEq, Nat.reduceBNe, Nat.reducePow, ↓reduceIte, nat_int, hj, eChg_s, hn, hwj]
        rw [List.filter_cons, if_neg (by simpa using hn)]
        simp
    · intro hJ
      rw [List.take_length] at hJ ⊢
      by_cases h1 : (c.kids.filter fun x => decide (x.name = d.keys[i])).length = 1
      · have h1' : ((((c.kids.filter fun x => decide (x.name = d.keys[i])).length : Nat) : Int) = 1) = True := eq_true (by omega)
        simp (maxSteps := 200000) (disch := first | (simp only [go_sem, Nat.reduceAdd, Nat.reduceSub, Nat.reduceMul, Nat.reduceLeDiff, Nat.reduceEqDiff, Nat.reduceLT, Nat.reduceBEq, Nat.reduceBNe, Nat.reducePow, ↓reduceIte]; done) | omega | (simp only [go_sem, Nat.reduceAdd, Nat.reduceSub, Nat.reduceMul, Nat.reduceLeDiff, Nat.reduceEqDiff, Nat.reduceLT, Nat.reduceBEq, Nat.reduceBNe, Nat.reducePow, ↓reduceIte] <;> omega) | fail) only [go_sem, Nat.reduceAdd, Nat.reduceSub, Nat.reduceMul, Nat.reduceLeDiff, Nat.reduceEqDiff, Nat.reduceLT, Nat.reduceBEq, Nat.reduceBNe, Nat.reducePow, ↓reduceIte, nat_int, h1', ne_eq, not_true, hws]
        rw [List.take_succ_eq_append_getElem h, List.all_append, hI]
        simp [keyOk, hJ, h1]
      · have h1' : ((((c.kids.filter fun x => decide (x.name = d.keys[i])).length : Nat) : Int) = 1) = False := eq_false (by omega)
        have hb := bad (by unfold keyOk; rw [decide_eq_false h1, Bool.and_false])
        simp (maxSteps := 200000) (disch := first | (simp only [go_sem, Nat.reduceAdd, Nat.reduceSub, Nat.reduceMul, Nat.reduceLeDiff, Nat.reduceEqDiff, Nat.reduceLT, Nat.reduceBEq, Nat.reduceBNe, Nat.reducePow, ↓reduceIte]; done) | omega | (simp only [go_sem, Nat.reduceAdd, Nat.reduceSub, Nat.reduceMul, Nat.reduceLeDiff, Nat.reduceEqDiff, Nat.reduceLT, Nat.reduceBEq, Nat.reduceBNe, Nat.reducePow, ↓reduceIte] <;> omega) | fail) only [go_sem, Nat.reduceAdd, Nat.reduceSub, Nat.reduceMul, Nat.reduceLeDiff, Nat.reduceEqDiff, Nat.reduceLT, Nat.reduceBEq, Nat.reduceBNe, Nat.reducePow, ↓reduceIte, nat_int, h1', ne_eq, not_false_eq_true, hb]
  · intro hI
    rw [List.take_length] at hI
    simp (maxSteps := 200000) (disch := first | (simp only [go_sem, Nat.reduceAdd, Nat.reduceSub, Nat.reduceMul, Nat.reduceLeDiff, Nat.reduceEqDiff, Nat.reduceLT, Nat.reduceBEq, Nat.reduceBNe, Nat.reducePow, ↓reduceIte]; done) | omega | (simp only [go_sem, Nat.reduceAdd, Nat.reduceSub, Nat.reduceMul, Nat.reduceLeDiff, Nat.reduceEqDiff, Nat.reduceLT, Nat.reduceBEq, Nat.reduceBNe, Nat.reducePow, ↓reduceIte] <;> omega) | fail) only [go_sem, Nat.reduceAdd, Nat.reduceSub, Nat.reduceMul, Nat.reduceLeDiff, Nat.reduceEqDiff, Nat.reduceLT, Nat.reduceBEq, Nat.reduceBNe, Nat.reducePow, ↓reduceIte, nat_int]
    rw [show keysOk d c.kids = true from hI]
    rfl
end Go.Abs.SA
end

section
set_option linter.unusedVariables false
set_option linter.unusedSimpArgs false
set_option linter.unusedSectionVars false
set_option maxRecDepth 100000
set_option maxHeartbeats 16000000
set_option linter.unusedSimpArgs false
set_option linter.unusedVariables false
namespace Go.Abs.SA
open Go.Proofs

/-- What change.Read answers. -/
def aChs : Except Int (List Chg) → AV
  | .error x => .tup [lC [], vI x]
  | .ok l => .tup [lC l, vI 0]
theorem eAttr_s (a : Str × Str) : eAttr a = [vS a.1, vS a.2] := nr rfl
theorem eAttr_len (a : Str × Str) : (eAttr a).length = 2 := rfl
attribute [go_sem] eAttr_len
instance : EL eAttr 2 := ⟨eAttr_len⟩
theorem atOp_drop (a : List (Str × Str)) (o : Int) {j : Nat} (h : j < a.length) : atOp o (a.drop j) = if a[j].1 ≠ sOp ∨ opN a[j].2 < 1 then none else atOp (opN a[j].2) (a.drop (j + 1)) := by
  rw [List.drop_eq_getElem_cons h, atOp]
theorem chRead_spec : ∀ (k : Nat) (l : List Def) (op : Int) (elems : List Elem), cntEs elems < k → k ≤ 100000 → okEs elems → l.length ≤ 1099511627776 → okDs l → pureW XX 11 [lD l, lE elems, vI op] = some (aChs (chL l op elems)) := by
  intro k
  induction k with
  | zero => intro l op elems h; omega
  | succ k ih =>
    intro l op elems hc hk hok hl hod
    have hcnt := len_cntEs elems
    refine pureW_in 129 Tryd.func11 Tryd.ntmps11 (by simp) (rfl : Tryd.f11.body = some _) fns_11 ?_
    simp (maxSteps := 200000) (disch := first | (simp only [go_sem, Nat.reduceAdd, Nat.reduceSub, Nat.reduceMul, Nat.reduceLeDiff, Nat.reduceEqDiff, Nat.reduceLT, Nat.reduceBEq, Nat.reduceBNe, Nat.reducePow, ↓reduceIte]; done) | omega | (simp only [go_sem, Nat.reduceAdd, Nat.reduceSub, Nat.reduceMul, Nat.reduceLeDiff, Nat.reduceEqDiff, Nat.reduceLT, Nat.reduceBEq, Nat.reduceBNe, Nat.reducePow, ↓reduceIte] <;> omega) | fail) only [go_sem, Nat.reduceAdd, Nat.reduceSub, Nat.reduceMul, Nat.reduceLeDiff, Nat.reduceEqDiff, Nat.reduceLT, Nat.reduceBEq, Nat.reduceBNe, Nat.reducePow, ↓reduceIte]
    refine WP_loopR 3 1 (fun (a : Nat × List Chg) => S_11_3 (lD l) (vI op) (.sl 0 0 a.2.length false) (lE elems) (vI elems.length) (vI a.1) [.arr 50 4 (a.2.map eChg)]) (fun a => elems.length - a.1) (fun a => a.1 ≤ elems.length ∧ a.2.length = a.1 ∧ chL l op elems = preC a.2 (chL l op (elems.drop a.1))) (0, []) rfl rfl ?_ ?_ ?_
    · simp (maxSteps := 200000) (disch := first | (simp only [go_sem, Nat.reduceAdd, Nat.reduceSub, Nat.reduceMul, Nat.reduceLeDiff, Nat.reduceEqDiff, Nat.reduceLT, Nat.reduceBEq, Nat.reduceBNe, Nat.reducePow, ↓reduceIte]; done) | omega | (simp only [go_sem, Nat.reduceAdd, Nat.reduceSub, Nat.reduceMul, Nat.reduceLeDiff, Nat.reduceEqDiff, Nat.reduceLT, Nat.reduceBEq, Nat.reduceBNe, Nat.reducePow, ↓reduceIte] <;> omega) | fail) only [go_sem, Nat.reduceAdd, Nat.reduceSub, Nat.reduceMul, Nat.reduceLeDiff, Nat.reduceEqDiff, Nat.reduceLT, Nat.reduceBEq, Nat.reduceBNe, Nat.reducePow, ↓reduceIte]; rfl
    · exact ⟨Nat.zero_le _, rfl, (preC_nil _).symm⟩
    · rintro ⟨i, out⟩ ⟨hi, ho, hr⟩
      simp only at hi ho hr
      by_cases h : i < elems.length
      case neg =>
        rw [List.drop_of_length_le (by omega), chL_nil] at hr
        simp only [preC, List.append_nil] at hr
        rw [hr]
        simp (maxSteps := 200000) (disch := first | (simp only [go_sem, Nat.reduceAdd, Nat.reduceSub, Nat.reduceMul, Nat.reduceLeDiff, Nat.reduceEqDiff, Nat.reduceLT, Nat.reduceBEq, Nat.reduceBNe, Nat.reducePow, ↓reduceIte]; done) | omega | (simp only [go_sem, Nat.reduceAdd, Nat.reduceSub, Nat.reduceMul, Nat.reduceLeDiff, Nat.reduceEqDiff, Nat.reduceLT, Nat.reduceBEq, Nat.reduceBNe, Nat.reducePow, ↓reduceIte] <;> omega) | fail) only [go_sem, Nat.reduceAdd, Nat.reduceSub, Nat.reduceMul, Nat.reduceLeDiff, Nat.reduceEqDiff, Nat.reduceLT, Nat.reduceBEq, Nat.reduceBNe, Nat.reducePow, ↓reduceIte, nat_int, h]
        rfl
      have heo := okEs_mem hok (List.getElem_mem h)
      obtain ⟨b1, b2, b3, b4, b5, b6⟩ := okE_s heo
      have hkc := cntE_kids h
      have hws := wrap_succ h (show elems.length ≤ 140737488355328 by omega)
      have pl := find_spec l elems[i].name (by omega)
      rw [List.drop_eq_getElem_cons h, preC_cons, chE_s] at hr
      cases hp : place l elems[i].name with
      | none =>
        rw [hp] at pl hr
        simp only at hr
        have n1 : ((-1 : Int) < 0) = True := eq_true (by omega)
        rw [hr]
        simp (maxSteps := 200000) (disch := first | (simp only [go_sem, Nat.reduceAdd, Nat.reduceSub, Nat.reduceMul, Nat.reduceLeDiff, Nat.reduceEqDiff, Nat.reduceLT, Nat.reduceBEq, Nat.reduceBNe, Nat.reducePow, ↓reduceIte]; done) | omega | (simp only [go_sem, Nat.reduceAdd, Nat.reduceSub, Nat.reduceMul, Nat.reduceLeDiff, Nat.reduceEqDiff, Nat.reduceLT, Nat.reduceBEq, Nat.reduceBNe, Nat.reducePow, ↓reduceIte] <;> omega) | fail) only [go_sem, Nat.reduceAdd, Nat.reduceSub, Nat.reduceMul, Nat.reduceLeDiff, Nat.reduceEqDiff, Nat.reduceLT, Nat.reduceBEq, Nat.reduceBNe, Nat.reducePow, ↓reduceIte, nat_int, h, eElem_s, callA_pure mode_17, pl, posI, n1]
        rfl
      | some j =>
      rw [hp] at pl hr
      obtain ⟨hj, hjn⟩ := place_some hp
      have n1 : ((j : Int) < 0) = False := eq_false (by omega)
      obtain ⟨o1, o2, o3, o4⟩ := okD_s (okDs_mem hod (List.getElem_mem hj))
      simp only [List.getElem?_eq_getElem hj] at hr
      simp (maxSteps := 200000) (disch := first | (simp only [go_sem, Nat.reduceAdd, Nat.reduceSub, Nat.reduceMul, Nat.reduceLeDiff, Nat.reduceEqDiff, Nat.reduceLT, Nat.reduceBEq, Nat.reduceBNe, Nat.reducePow, ↓reduceIte]; done) | omega | (simp only [go_sem, Nat.reduceAdd, Nat.reduceSub, Nat.reduceMul, Nat.reduceLeDiff, Nat.reduceEqDiff, Nat.reduceLT, Nat.reduceBEq, Nat.reduceBNe, Nat.reducePow, ↓reduceIte] <;> omega) | fail) only [go_sem, Nat.reduceAdd, Nat.reduceSub, Nat.reduceMul, Nat.reduceLeDiff, Nat.reduceEqDiff, Nat.reduceLT, Nat.reduceBEq, Nat.reduceBNe, Nat.reducePow, ↓reduceIte, nat_int, h, hj, eElem_s, eDef_s, callA_pure mode_17, pl, posI, n1]
      refine WP_loopR 10 4 (fun (a : Nat × Int) => S_11_10 (lD l) (vI op) (.sl 0 0 out.length false) (.ptr 1 0) (.ptr 2 0) (.ptr 3 0) (lE elems) (vI elems.length) (vI i) (.fs (elems[i].attrs.map eAttr) false) (vI elems[i].attrs.length) (vI a.1) [.arr 50 4 (out.map eChg), .var [vS elems[i].space, vS elems[i].name, .fs (elems[i].attrs.map eAttr) false, vS elems[i].text, .fs (elems[i].kids.map eElem) false], .var [vS l[j].name, vI l[j].kind, vI l[j].type, lS l[j].values, vB l[j].must, lS l[j].keys, .fs (l[j].kids.map eDef) false], .var [vS elems[i].name, vS ⟨#[]⟩, vI a.2, .fs [] true]]) (fun a => elems[i].attrs.length - a.1) (fun a => a.1 ≤ elems[i].attrs.length ∧ atOp op elems[i].attrs = atOp a.2 (elems[i].attrs.drop a.1)) (0, op) rfl rfl ?_ ?_ ?_
      · simp (maxSteps := 200000) (disch := first | (simp only [go_sem, Nat.reduceAdd, Nat.reduceSub, Nat.reduceMul, Nat.reduceLeDiff, Nat.reduceEqDiff, Nat.reduceLT, Nat.reduceBEq, Nat.reduceBNe, Nat.reducePow, ↓reduceIte]; done) | omega | (simp only [go_sem, Nat.reduceAdd, Nat.reduceSub, Nat.reduceMul, Nat.reduceLeDiff, Nat.reduceEqDiff, Nat.reduceLT, Nat.reduceBEq, Nat.reduceBNe, Nat.reducePow, ↓reduceIte] <;> omega) | fail) only [go_sem, Nat.reduceAdd, Nat.reduceSub, Nat.reduceMul, Nat.reduceLeDiff, Nat.reduceEqDiff, Nat.reduceLT, Nat.reduceBEq, Nat.reduceBNe, Nat.reducePow, ↓reduceIte]; rfl
      · exact ⟨Nat.zero_le _, rfl⟩
      · rintro ⟨q, o⟩ ⟨hq, hat⟩
        simp only at hq hat
        by_cases hqa : q < elems[i].attrs.length
        · have hwq := wrap_succ hqa b3
          rw [atOp_drop _ _ hqa] at hat
          have hop := opN_spec elems[i].attrs[q].2
          by_cases hnm : elems[i].attrs[q].1 = sOp
          case neg =>
            rw [if_pos (.inl hnm)] at hat
            rw [hat] at hr
            simp only at hr
            rw [hr]
            simp (maxSteps := 200000) (disch := first | (simp only [go_sem, Nat.reduceAdd, Nat.reduceSub, Nat.reduceMul, Nat.reduceLeDiff, Nat.reduceEqDiff, Nat.reduceLT, Nat.reduceBEq, Nat.reduceBNe, Nat.reducePow, ↓reduceIte]; done) | omega | (simp only [go_sem, Nat.reduceAdd, Nat.reduceSub, Nat.reduceMul, Nat.reduceLeDiff, Nat.reduceEqDiff, Nat.reduceLT, Nat.reduceBEq, Nat.reduceBNe, Nat.reducePow, ↓reduceIte] <;> omega) | fail) only [go_sem, Nat.reduceAdd, Nat.reduceSub, Nat.reduceMul, Nat.reduceLeDiff, Nat.reduceEqDiff, Nat.reduceLT, Nat.reduceBEq, Nat.reduceBNe, Nat.reducePow, ↓reduceIte, nat_int, hqa, eAttr_s, hnm, ne_eq, not_false_eq_true]
            rfl
          have hnm' := eq_true hnm
          by_cases hov : opN elems[i].attrs[q].2 < 1
          · rw [if_pos (.inr hov)] at hat
            rw [hat] at hr
            simp only at hr
            rw [hr]
            have hov' := eq_true hov
            simp (maxSteps := 200000) (disch := first | (simp only [go_sem, Nat.reduceAdd, Nat.reduceSub, Nat.reduceMul, Nat.reduceLeDiff, Nat.reduceEqDiff, Nat.reduceLT, Nat.reduceBEq, Nat.reduceBNe, Nat.reducePow, ↓reduceIte]; done) | omega | (simp only [go_sem, Nat.reduceAdd, Nat.reduceSub, Nat.reduceMul, Nat.reduceLeDiff, Nat.reduceEqDiff, Nat.reduceLT, Nat.reduceBEq, Nat.reduceBNe, Nat.reducePow, ↓reduceIte] <;> omega) | fail) only [go_sem, Nat.reduceAdd, Nat.reduceSub, Nat.reduceMul, Nat.reduceLeDiff, Nat.reduceEqDiff, Nat.reduceLT, Nat.reduceBEq, Nat.reduceBNe, Nat.reducePow, ↓reduceIte, nat_int, hqa, eAttr_s, hnm', ne_eq, not_true, callA_pure mode_19, hop, hov']
            rfl
          · rw [if_neg (by rintro (hh | hh); exact hh hnm; exact hov hh)] at hat
            have hov' := eq_false hov
            simp (maxSteps := 200000) (disch := first | (simp only [go_sem, Nat.reduceAdd, Nat.reduceSub, Nat.reduceMul, Nat.reduceLeDiff, Nat.reduceEqDiff, Nat.reduceLT, Nat.reduceBEq, Nat.reduceBNe, Nat.reducePow, ↓reduceIte]; done) | omega | (simp only [go_sem, Nat.reduceAdd, Nat.reduceSub, Nat.reduceMul, Nat.reduceLeDiff, Nat.reduceEqDiff, Nat.reduceLT, Nat.reduceBEq, Nat.reduceBNe, Nat.reducePow, ↓reduceIte] <;> omega) | fail) only [go_sem, Nat.reduceAdd, Nat.reduceSub, Nat.reduceMul, Nat.reduceLeDiff, Nat.reduceEqDiff, Nat.reduceLT, Nat.reduceBEq, Nat.reduceBNe, Nat.reducePow, ↓reduceIte, nat_int, hqa, eAttr_s, hnm', ne_eq, not_true, callA_pure mode_19, hop, hov', hwq]
            exact ⟨(q + 1, opN elems[i].attrs[q].2), rfl, ⟨hqa, hat⟩, by simp only; omega⟩
        · rw [List.drop_of_length_le (by omega), atOp] at hat
          rw [hat] at hr
          simp only at hr
          clear hat
          by_cases hk3 : l[j].kind = 3
          · have hk3' := eq_true hk3
            have hvs := modelValue_spec l[j] elems[i].text (by omega)
            rw [if_pos hk3] at hr
            by_cases hkk : (0 : Int) < (elems[i].kids.length : Int)
            · have : elems[i].kids ≠ [] := by intro hh; rw [hh] at hkk; simp at hkk
              rw [if_pos (.inl this)] at hr
              simp only at hr
              rw [hr]
              simp (maxSteps := 200000) (disch := first | (simp only [go_sem, Nat.reduceAdd, Nat.reduceSub, Nat.reduceMul, Nat.reduceLeDiff, Nat.reduceEqDiff, Nat.reduceLT, Nat.reduceBEq, Nat.reduceBNe, Nat.reducePow, ↓reduceIte]; done) | omega | (simp only [go_sem, Nat.reduceAdd, Nat.reduceSub, Nat.reduceMul, Nat.reduceLeDiff, Nat.reduceEqDiff, Nat.reduceLT, Nat.reduceBEq, Nat.reduceBNe, Nat.reducePow, ↓reduceIte] <;> omega) | fail) only [go_sem, Nat.reduceAdd, Nat.reduceSub, Nat.reduceMul, Nat.reduceLeDiff, Nat.reduceEqDiff, Nat.reduceLT, Nat.reduceBEq, Nat.reduceBNe, Nat.reducePow, ↓reduceIte, nat_int, hqa, hk3', hkk]
              rfl
            have hkn : elems[i].kids = [] := List.eq_nil_iff_length_eq_zero.2 (by omega)
            by_cases hbad : ¬ (elems[i].text = ⟨#[]⟩ ∧ 4 ≤ o) ∧ valueM l[j] elems[i].text = false
            · rw [if_pos (.inr hbad)] at hr
              simp only at hr
              rw [hr]
              rw [hbad.2] at hvs
              by_cases q0 : elems[i].text = ⟨#[]⟩
              · have q1 := eq_true q0
                have ho4 : ((4 : Int) ≤ o) = False := eq_false fun hh => hbad.1 ⟨q0, hh⟩
                simp (maxSteps := 200000) (disch := first | (simp only [go_sem, Nat.reduceAdd, Nat.reduceSub, Nat.reduceMul, Nat.reduceLeDiff, Nat.reduceEqDiff, Nat.reduceLT, Nat.reduceBEq, Nat.reduceBNe, Nat.reducePow, ↓reduceIte]; done) | omega | (simp only [go_sem, Nat.reduceAdd, Nat.reduceSub, Nat.reduceMul, Nat.reduceLeDiff, Nat.reduceEqDiff, Nat.reduceLT, Nat.reduceBEq, Nat.reduceBNe, Nat.reducePow, ↓reduceIte] <;> omega) | fail) only [go_sem, Nat.reduceAdd, Nat.reduceSub, Nat.reduceMul, Nat.reduceLeDiff, Nat.reduceEqDiff, Nat.reduceLT, Nat.reduceBEq, Nat.reduceBNe, Nat.reducePow, ↓reduceIte, nat_int, hqa, hk3', hkk, q1, ho4, callA_pure mode_21, hvs]
                rfl
              · simp (maxSteps := 200000) (disch := first | (simp only [go_sem, Nat.reduceAdd, Nat.reduceSub, Nat.reduceMul, Nat.reduceLeDiff, Nat.reduceEqDiff, Nat.reduceLT, Nat.reduceBEq, Nat.reduceBNe, Nat.reducePow, ↓reduceIte]; done) | omega | (simp only [go_sem, Nat.reduceAdd, Nat.reduceSub, Nat.reduceMul, Nat.reduceLeDiff, Nat.reduceEqDiff, Nat.reduceLT, Nat.reduceBEq, Nat.reduceBNe, Nat.reducePow, ↓reduceIte] <;> omega) | fail) only [go_sem, Nat.reduceAdd, Nat.reduceSub, Nat.reduceMul, Nat.reduceLeDiff, Nat.reduceEqDiff, Nat.reduceLT, Nat.reduceBEq, Nat.reduceBNe, Nat.reducePow, ↓reduceIte, nat_int, hqa, hk3', hkk, q0, callA_pure mode_21, hvs]
                rfl
            · rw [if_neg (by rintro (hh | hh); exact hh hkn; exact hbad hh)] at hr
              simp only at hr
              by_cases q0 : elems[i].text = ⟨#[]⟩
              · have q1 := eq_true q0
                by_cases ho4 : (4 : Int) ≤ o
                · have ho4' := eq_true ho4
                  simp (maxSteps := 200000) (disch := first | (simp only [go_sem, Nat.reduceAdd, Nat.reduceSub, Nat.reduceMul, Nat.reduceLeDiff, Nat.reduceEqDiff, Nat.reduceLT, Nat.reduceBEq, Nat.reduceBNe, Nat.reducePow, ↓reduceIte]; done) | omega | (simp only [go_sem, Nat.reduceAdd, Nat.reduceSub, Nat.reduceMul, Nat.reduceLeDiff, Nat.reduceEqDiff, Nat.reduceLT, Nat.reduceBEq, Nat.reduceBNe, Nat.reducePow, ↓reduceIte] <;> omega) | fail) only [go_sem, Nat.reduceAdd, Nat.reduceSub, Nat.reduceMul, Nat.reduceLeDiff, Nat.reduceEqDiff, Nat.reduceLT, Nat.reduceBEq, Nat.reduceBNe, Nat.reducePow, ↓reduceIte, nat_int, hqa, hk3', hkk, q1, ho4', hws]
                  exact ⟨(i + 1, out ++ [.mk elems[i].name elems[i].text o []]), by simp [eChg_s, Chg.name, Chg.value, Chg.op, Chg.kids], ⟨h, by simp; omega, hr⟩, by simp only; omega⟩
                · have ho4' := eq_false ho4
                  have hv : valueM l[j] elems[i].text = true := by
                    cases hv : valueM l[j] elems[i].text with
                    | true => rfl
                    | false => exact absurd ⟨fun hh => ho4 hh.2, hv⟩ hbad
                  rw [hv] at hvs
                  simp (maxSteps := 200000) (disch := first | (simp only [go_sem, Nat.reduceAdd, Nat.reduceSub, Nat.reduceMul, Nat.reduceLeDiff, Nat.reduceEqDiff, Nat.reduceLT, Nat.reduceBEq, Nat.reduceBNe, Nat.reducePow, ↓reduceIte]; done) | omega | (simp only [go_sem, Nat.reduceAdd, Nat.reduceSub, Nat.reduceMul, Nat.reduceLeDiff, Nat.reduceEqDiff, Nat.reduceLT, Nat.reduceBEq, Nat.reduceBNe, Nat.reducePow, ↓reduceIte] <;> omega) | fail) only [go_sem, Nat.reduceAdd, Nat.reduceSub, Nat.reduceMul, Nat.reduceLeDiff, Nat.reduceEqDiff, Nat.reduceLT, Nat.reduceBEq, Nat.reduceBNe, Nat.reducePow, ↓reduceIte, nat_int, hqa, hk3', hkk, q1, ho4', callA_pure mode_21, hvs, hws]
                  exact ⟨(i + 1, out ++ [.mk elems[i].name elems[i].text o []]), by simp [eChg_s, Chg.name, Chg.value, Chg.op, Chg.kids], ⟨h, by simp; omega, hr⟩, by simp only; omega⟩
              · have hv : valueM l[j] elems[i].text = true := by
                  cases hv : valueM l[j] elems[i].text with
                  | true => rfl
                  | false => exact absurd ⟨fun hh => q0 hh.1, hv⟩ hbad
                rw [hv] at hvs
                simp (maxSteps := 200000) (disch := first | (simp only [go_sem, Nat.reduceAdd, Nat.reduceSub, Nat.reduceMul, Nat.reduceLeDiff, Nat.reduceEqDiff, Nat.reduceLT, Nat.reduceBEq, Nat.reduceBNe, Nat.reducePow, ↓reduceIte]; done) | omega | (simp only [go_sem, Nat.reduceAdd, Nat.reduceSub, Nat.reduceMul, Nat.reduceLeDiff, Nat.reduceEqDiff, Nat.reduceLT, Nat.reduceBEq, Nat.reduceBNe, Nat.reducePow, ↓reduceIte] <;> omega) | fail) only [go_sem, Nat.reduceAdd, Nat.reduceSub, Nat.reduceMul, Nat.reduceLeDiff, Nat.reduceEqDiff, Nat.reduceLT, Nat.reduceBEq, Nat.reduceBNe, Nat.reducePow, ↓reduceIte, nat_int, hqa, hk3', hkk, q0, callA_pure mode_21, hvs, hws]
                exact ⟨(i + 1, out ++ [.mk elems[i].name elems[i].text o []]), by simp [eChg_s, Chg.name, Chg.value, Chg.op, Chg.kids], ⟨h, by simp; omega, hr⟩, by simp only; omega⟩
          · rw [if_neg hk3] at hr
            by_cases q0 : elems[i].text = ⟨#[]⟩
            case neg =>
              rw [if_pos q0] at hr
              simp only at hr
              rw [hr]
              simp (maxSteps := 200000) (disch := first | (simp only [go_sem, Nat.reduceAdd, Nat.reduceSub, Nat.reduceMul, Nat.reduceLeDiff, Nat.reduceEqDiff, Nat.reduceLT, Nat.reduceBEq, Nat.reduceBNe, Nat.reducePow, ↓reduceIte]; done) | omega | (simp only [go_sem, Nat.reduceAdd, Nat.reduceSub, Nat.reduceMul, Nat.reduceLeDiff, Nat.reduceEqDiff, Nat.reduceLT, Nat.reduceBEq, Nat.reduceBNe, Nat.reducePow, ↓reduceIte] <;> omega) | fail) only [go_sem, Nat.reduceAdd, Nat.reduceSub, Nat.reduceMul, Nat.reduceLeDiff, Nat.reduceEqDiff, Nat.reduceLT, Nat.reduceBEq, Nat.reduceBNe, Nat.reducePow, ↓reduceIte, nat_int, hqa, hk3, q0, ne_eq, not_false_eq_true]
              rfl
            rw [if_neg (by simp [q0])] at hr
            have q1 := eq_true q0
            have hi2 := ih l[j].kids (if o ≠ 0 then 1 else o) elems[i].kids (by omega) (by omega) b6 o3 o4
            have hlk := chL_len l[j].kids (if o ≠ 0 then 1 else o) elems[i].kids
            have hle := chL_err l[j].kids (if o ≠ 0 then 1 else o) elems[i].kids
            have hcl : ∀ cs, chL l[j].kids (if o ≠ 0 then 1 else o) elems[i].kids = .ok cs → cs.length ≤ 140737488355328 := fun cs hcs => by rw [hlk cs hcs]; exact b5
            generalize chL l[j].kids (if o ≠ 0 then 1 else o) elems[i].kids = R at *
            cases R with
            | error x =>
              have hx := hle x rfl
              simp only at hr
              simp only [aChs] at hi2
              rw [hr]
              by_cases ho0 : o = 0
              · rw [if_neg (by simp [ho0]), ho0] at hi2
                simp (maxSteps := 200000) (disch := first | (simp only [go_sem, Nat.reduceAdd, Nat.reduceSub, Nat.reduceMul, Nat.reduceLeDiff, Nat.reduceEqDiff, Nat.reduceLT, Nat.reduceBEq, Nat.reduceBNe, Nat.reducePow, ↓reduceIte]; done) | omega | (simp only [go_sem, Nat.reduceAdd, Nat.reduceSub, Nat.reduceMul, Nat.reduceLeDiff, Nat.reduceEqDiff, Nat.reduceLT, Nat.reduceBEq, Nat.reduceBNe, Nat.reducePow, ↓reduceIte] <;> omega) | fail) only [go_sem, Nat.reduceAdd, Nat.reduceSub, Nat.reduceMul, Nat.reduceLeDiff, Nat.reduceEqDiff, Nat.reduceLT, Nat.reduceBEq, Nat.reduceBNe, Nat.reducePow, ↓reduceIte, nat_int, hqa, hk3, q1, ho0, ne_eq, not_true, callA_data mode_11, hi2, hx, not_false_eq_true]
                rfl
              · rw [if_pos ho0] at hi2
                simp (maxSteps := 200000) (disch := first | (simp only [go_sem, Nat.reduceAdd, Nat.reduceSub, Nat.reduceMul, Nat.reduceLeDiff, Nat.reduceEqDiff, Nat.reduceLT, Nat.reduceBEq, Nat.reduceBNe, Nat.reducePow, ↓reduceIte]; done) | omega | (simp only [go_sem, Nat.reduceAdd, Nat.reduceSub, Nat.reduceMul, Nat.reduceLeDiff, Nat.reduceEqDiff, Nat.reduceLT, Nat.reduceBEq, Nat.reduceBNe, Nat.reducePow, ↓reduceIte] <;> omega) | fail) only [go_sem, Nat.reduceAdd, Nat.reduceSub, Nat.reduceMul, Nat.reduceLeDiff, Nat.reduceEqDiff, Nat.reduceLT, Nat.reduceBEq, Nat.reduceBNe, Nat.reducePow, ↓reduceIte, nat_int, hqa, hk3, q1, ho0, ne_eq, not_true, not_false_eq_true, callA_data mode_11, hi2, hx]
                rfl
            | ok ks =>
              have hksl := hcl ks rfl
              simp only [aChs] at hi2
              have hkeys : pureW XX 22 [aDef l[j], .agg [vS elems[i].name, vS ⟨#[]⟩, vI o, lC ks]] = some (vI (if keysOk l[j] ks then 0 else 13)) := keys_spec l[j] (.mk elems[i].name ⟨#[]⟩ o ks) (by omega) hksl
              have hz13 : ((13 : Int) = 0) = False := eq_false (by decide)
              by_cases hk2 : l[j].kind = 2
              · have hk2' := eq_true hk2
                cases hky : keysOk l[j] ks with
                | false =>
                  simp only [hk2, hky, and_self, if_true] at hr
                  rw [hr]
                  simp only [hky, Bool.false_eq_true, if_false, if_true] at hkeys
                  by_cases ho0 : o = 0
                  · rw [if_neg (by simp [ho0]), ho0] at hi2
                    rw [ho0] at hkeys
                    simp (maxSteps := 200000) (disch := first | (simp only [go_sem, Nat.reduceAdd, Nat.reduceSub, Nat.reduceMul, Nat.reduceLeDiff, Nat.reduceEqDiff, Nat.reduceLT, Nat.reduceBEq, Nat.reduceBNe, Nat.reducePow, ↓reduceIte]; done) | omega | (simp only [go_sem, Nat.reduceAdd, Nat.reduceSub, Nat.reduceMul, Nat.reduceLeDiff, Nat.reduceEqDiff, Nat.reduceLT, Nat.reduceBEq, Nat.reduceBNe, Nat.reducePow, ↓reduceIte] <;> omega) | fail) only [go_sem, Nat.reduceAdd, Nat.reduceSub, Nat.reduceMul, Nat.reduceLeDiff, Nat.reduceEqDiff, Nat.reduceLT, Nat.reduceBEq, Nat.reduceBNe, Nat.reducePow, ↓reduceIte, nat_int, hqa, hk3, hk2', q1, ho0, ne_eq, not_true, not_false_eq_true, callA_data mode_11, hi2, callA_pure mode_22, hkeys, hz13]
                    rfl
                  · rw [if_pos ho0] at hi2
                    simp (maxSteps := 200000) (disch := first | (simp only [go_sem, Nat.reduceAdd, Nat.reduceSub, Nat.reduceMul, Nat.reduceLeDiff, Nat.reduceEqDiff, Nat.reduceLT, Nat.reduceBEq, Nat.reduceBNe, Nat.reducePow, ↓reduceIte]; done) | omega | (simp only [go_sem, Nat.reduceAdd, Nat.reduceSub, Nat.reduceMul, Nat.reduceLeDiff, Nat.reduceEqDiff, Nat.reduceLT, Nat.reduceBEq, Nat.reduceBNe, Nat.reducePow, ↓reduceIte] <;> omega) | fail) only [go_sem, Nat.reduceAdd, Nat.reduceSub, Nat.reduceMul, Nat.reduceLeDiff, Nat.reduceEqDiff, Nat.reduceLT, Nat.reduceBEq, Nat.reduceBNe, Nat.reducePow, ↓reduceIte, nat_int, hqa, hk3, hk2', q1, ho0, ne_eq, not_true, not_false_eq_true, callA_data mode_11, hi2, callA_pure mode_22, hkeys, hz13]
                    rfl
                | true =>
                  simp only [hk2, hky, and_false, Bool.true_eq_false, if_false] at hr
                  simp only [hky, Bool.false_eq_true, if_false, if_true] at hkeys
                  by_cases ho0 : o = 0
                  · rw [if_neg (by simp [ho0]), ho0] at hi2
                    rw [ho0] at hkeys
                    simp (maxSteps := 200000) (disch := first | (simp only [go_sem, Nat.reduceAdd, Nat.reduceSub, Nat.reduceMul, Nat.reduceLeDiff, Nat.reduceEqDiff, Nat.reduceLT, Nat.reduceBEq, Nat.reduceBNe, Nat.reducePow, ↓reduceIte]; done) | omega | (simp only [go_sem, Nat.reduceAdd, Nat.reduceSub, Nat.reduceMul, Nat.reduceLeDiff, Nat.reduceEqDiff, Nat.reduceLT, Nat.reduceBEq, Nat.reduceBNe, Nat.reducePow, ↓reduceIte] <;> omega) | fail) only [go_sem, Nat.reduceAdd, Nat.reduceSub, Nat.reduceMul, Nat.reduceLeDiff, Nat.reduceEqDiff, Nat.reduceLT, Nat.reduceBEq, Nat.reduceBNe, Nat.reducePow, ↓reduceIte, nat_int, hqa, hk3, hk2', q1, ho0, ne_eq, not_true, not_false_eq_true, callA_data mode_11, hi2, callA_pure mode_22, hkeys, hws]
                    exact ⟨(i + 1, out ++ [.mk elems[i].name ⟨#[]⟩ o ks]), by simp [eChg_s, Chg.name, Chg.value, Chg.op, Chg.kids, ho0], ⟨h, by simp; omega, hr⟩, by simp only; omega⟩
                  · rw [if_pos ho0] at hi2
                    simp (maxSteps := 200000) (disch := first | (simp only [go_sem, Nat.reduceAdd, Nat.reduceSub, Nat.reduceMul, Nat.reduceLeDiff, Nat.reduceEqDiff, Nat.reduceLT, Nat.reduceBEq, Nat.reduceBNe, Nat.reducePow, ↓reduceIte]; done) | omega | (simp only [go_sem, Nat.reduceAdd, Nat.reduceSub, Nat.reduceMul, Nat.reduceLeDiff, Nat.reduceEqDiff, Nat.reduceLT, Nat.reduceBEq, Nat.reduceBNe, Nat.reducePow, ↓reduceIte] <;> omega) | fail) only [go_sem, Nat.reduceAdd, Nat.reduceSub, Nat.reduceMul, Nat.reduceLeDiff, Nat.reduceEqDiff, Nat.reduceLT, Nat.reduceBEq, Nat.reduceBNe, Nat.reducePow, ↓reduceIte, nat_int, hqa, hk3, hk2', q1, ho0, ne_eq, not_true, not_false_eq_true, callA_data mode_11, hi2, callA_pure mode_22, hkeys, hws]
                    exact ⟨(i + 1, out ++ [.mk elems[i].name ⟨#[]⟩ o ks]), by simp [eChg_s, Chg.name, Chg.value, Chg.op, Chg.kids], ⟨h, by simp; omega, hr⟩, by simp only; omega⟩
              · simp only [hk2, false_and, if_false] at hr
                have hk2' := eq_false hk2
                by_cases ho0 : o = 0
                · rw [if_neg (by simp [ho0]), ho0] at hi2
                  simp (maxSteps := 200000) (disch := first | (simp only [go_sem, Nat.reduceAdd, Nat.reduceSub, Nat.reduceMul, Nat.reduceLeDiff, Nat.reduceEqDiff, Nat.reduceLT, Nat.reduceBEq, Nat.reduceBNe, Nat.reducePow, ↓reduceIte]; done) | omega | (simp only [go_sem, Nat.reduceAdd, Nat.reduceSub, Nat.reduceMul, Nat.reduceLeDiff, Nat.reduceEqDiff, Nat.reduceLT, Nat.reduceBEq, Nat.reduceBNe, Nat.reducePow, ↓reduceIte] <;> omega) | fail) only [go_sem, Nat.reduceAdd, Nat.reduceSub, Nat.reduceMul, Nat.reduceLeDiff, Nat.reduceEqDiff, Nat.reduceLT, Nat.reduceBEq, Nat.reduceBNe, Nat.reducePow, ↓reduceIte, nat_int, hqa, hk3, hk2', q1, ho0, ne_eq, not_true, not_false_eq_true, callA_data mode_11, hi2, hws]
                  exact ⟨(i + 1, out ++ [.mk elems[i].name ⟨#[]⟩ o ks]), by simp [eChg_s, Chg.name, Chg.value, Chg.op, Chg.kids, ho0], ⟨h, by simp; omega, hr⟩, by simp only; omega⟩
                · rw [if_pos ho0] at hi2
                  simp (maxSteps := 200000) (disch := first | (simp only [go_sem, Nat.reduceAdd, Nat.reduceSub, Nat.reduceMul, Nat.reduceLeDiff, Nat.reduceEqDiff, Nat.reduceLT, Nat.reduceBEq, Nat.reduceBNe, Nat.reducePow, ↓reduceIte]; done) | omega | (simp only [go_sem, Nat.reduceAdd, Nat.reduceSub, Nat.reduceMul, Nat.reduceLeDiff, Nat.reduceEqDiff, Nat.reduceLT, Nat.reduceBEq, Nat.reduceBNe, Nat.reducePow, ↓reduceIte] <;> omega) | fail) only [go_sem, Nat.reduceAdd, Nat.reduceSub, Nat.reduceMul, Nat.reduceLeDiff, Nat.reduceEqDiff, Nat.reduceLT, Nat.reduceBEq, Nat.reduceBNe, Nat.reducePow, ↓reduceIte, nat_int, hqa, hk3, hk2', q1, ho0, ne_eq, not_true, not_false_eq_true, callA_data mode_11, hi2, hws]
                  exact ⟨(i + 1, out ++ [.mk elems[i].name ⟨#[]⟩ o ks]), by simp [eChg_s, Chg.name, Chg.value, Chg.op, Chg.kids], ⟨h, by simp; omega, hr⟩, by simp only; omega⟩
end Go.Abs.SA
end

section
set_option linter.unusedVariables false
set_option linter.unusedSimpArgs false
set_option linter.unusedSectionVars false
set_option maxRecDepth 100000
set_option maxHeartbeats 8000000
set_option linter.unusedSimpArgs false
set_option linter.unusedVariables false
namespace Go.Abs.SA
open Go.Proofs

/-! Copies. -/
theorem cntN_k (n : Node) : cntN n = 1 + cntL n.kids := by cases n; simp [cntN, Node.kids]
mutual
/-- Sizes of a tree that may be. -/
def okT : Node → Prop
  | .mk _ _ k => k.length ≤ 1048576 ∧ okTl k
def okTl : List Node → Prop
  | [] => True
  | x :: r => okT x ∧ okTl r
end
theorem okT_s {n : Node} : okT n ↔ n.kids.length ≤ 1048576 ∧ okTl n.kids := by cases n; rw [okT]; rfl
theorem okTl_iff : ∀ {l : List Node}, okTl l ↔ ∀ x ∈ l, okT x
  | [] => by simp [okTl]
  | y :: r => by rw [okTl, okTl_iff (l := r)]; simp
theorem copy_spec : ∀ (k : Nat) (ns : List Node), cntL ns < k → ns.length ≤ 1048576 → okTl ns → loudW XX 23 [lN ns] [] = some (.sl 0 0 ns.length false, [.arr 41 3 (ns.map eNode)]) := by
  intro k
  induction k with
  | zero => intro ns h; omega
  | succ k ih =>
    intro ns hc hk hok
    have hl := len_cnt ns
    refine loudW_in 22 Tryd.func23 Tryd.ntmps23 (by simp) (rfl : Tryd.f23.body = some _) fns_23 ?_
    simp (maxSteps := 200000) (disch := first | (simp only [go_sem, Nat.reduceAdd, Nat.reduceSub, Nat.reduceMul, Nat.reduceLeDiff, Nat.reduceEqDiff, Nat.reduceLT, Nat.reduceBEq, Nat.reduceBNe, Nat.reducePow, ↓reduceIte]; done) | omega | (simp only [go_sem, Nat.reduceAdd, Nat.reduceSub, Nat.reduceMul, Nat.reduceLeDiff, Nat.reduceEqDiff, Nat.reduceLT, Nat.reduceBEq, Nat.reduceBNe, Nat.reducePow, ↓reduceIte] <;> omega) | fail) only [go_sem, Nat.reduceAdd, Nat.reduceSub, Nat.reduceMul, Nat.reduceLeDiff, Nat.reduceEqDiff, Nat.reduceLT, Nat.reduceBEq, Nat.reduceBNe, Nat.reducePow, ↓reduceIte]
    refine WP_range 3 1 ns.length (fun i => S_23_3 (.sl 0 0 i false) (lN ns) (vI ns.length) (vI i) [.arr 41 3 ((ns.take i).map eNode)]) (fun _ => True) rfl rfl ?_ ?_ ?_ ?_
    · simp (maxSteps := 200000) (disch := first | (simp only [go_sem, Nat.reduceAdd, Nat.reduceSub, Nat.reduceMul, Nat.reduceLeDiff, Nat.reduceEqDiff, Nat.reduceLT, Nat.reduceBEq, Nat.reduceBNe, Nat.reducePow, ↓reduceIte]; done) | omega | (simp only [go_sem, Nat.reduceAdd, Nat.reduceSub, Nat.reduceMul, Nat.reduceLeDiff, Nat.reduceEqDiff, Nat.reduceLT, Nat.reduceBEq, Nat.reduceBNe, Nat.reducePow, ↓reduceIte] <;> omega) | fail) only [go_sem, Nat.reduceAdd, Nat.reduceSub, Nat.reduceMul, Nat.reduceLeDiff, Nat.reduceEqDiff, Nat.reduceLT, Nat.reduceBEq, Nat.reduceBNe, Nat.reducePow, ↓reduceIte]; rfl
    · trivial
    · intro i h _
      have hws := wrap_succ h (show ns.length ≤ 140737488355328 by omega)
      have hkd := cnt_mem (List.getElem_mem h)
      rw [cntN_k] at hkd
      obtain ⟨o1, o2⟩ := okT_s.1 (okTl_iff.1 hok _ (List.getElem_mem h))
      have hi2 := ih ns[i].kids (by omega) o1 o2
      have htl : (ns.take i).length = i := by rw [List.length_take]; omega
      simp (maxSteps := 200000) (disch := first | (simp only [go_sem, Nat.reduceAdd, Nat.reduceSub, Nat.reduceMul, Nat.reduceLeDiff, Nat.reduceEqDiff, Nat.reduceLT, Nat.reduceBEq, Nat.reduceBNe, Nat.reducePow, ↓reduceIte]; done) | omega | (simp only [go_sem, Nat.reduceAdd, Nat.reduceSub, Nat.reduceMul, Nat.reduceLeDiff, Nat.reduceEqDiff, Nat.reduceLT, Nat.reduceBEq, Nat.reduceBNe, Nat.reducePow, ↓reduceIte] <;> omega) | fail) only [go_sem, Nat.reduceAdd, Nat.reduceSub, Nat.reduceMul, Nat.reduceLeDiff, Nat.reduceEqDiff, Nat.reduceLT, Nat.reduceBEq, Nat.reduceBNe, Nat.reducePow, ↓reduceIte, nat_int, h, eNode_s, callA_fresh mode_23, hi2, hws, htl]
      rw [node_mk, ← List.take_succ_eq_append_getElem h]
    · intro _
      simp (maxSteps := 200000) (disch := first | (simp only [go_sem, Nat.reduceAdd, Nat.reduceSub, Nat.reduceMul, Nat.reduceLeDiff, Nat.reduceEqDiff, Nat.reduceLT, Nat.reduceBEq, Nat.reduceBNe, Nat.reducePow, ↓reduceIte]; done) | omega | (simp only [go_sem, Nat.reduceAdd, Nat.reduceSub, Nat.reduceMul, Nat.reduceLeDiff, Nat.reduceEqDiff, Nat.reduceLT, Nat.reduceBEq, Nat.reduceBNe, Nat.reducePow, ↓reduceIte] <;> omega) | fail) only [go_sem, Nat.reduceAdd, Nat.reduceSub, Nat.reduceMul, Nat.reduceLeDiff, Nat.reduceEqDiff, Nat.reduceLT, Nat.reduceBEq, Nat.reduceBNe, Nat.reducePow, ↓reduceIte, nat_int, List.take_length]

/-! A change as a node, without what is no key. -/
def freshD (d : Def) (c : Chg) : Node := .mk c.name (if d.kind = 3 then c.value else ⟨#[]⟩) (d.keys.flatMap fun k => (c.kids.filter fun x => decide (x.name = k)).map fun x => .mk k x.value [])
theorem fresh_spec (d : Def) (c : Chg) (hd : d.keys.length ≤ 1048576) (hc : c.kids.length ≤ 1048576) : pureW XX 38 [aDef d, aChg c] = some (aNode (freshD d c)) := by
  refine pureW_in 49 Tryd.func38 Tryd.ntmps38 (by simp) (rfl : Tryd.f38.body = some _) fns_38 ?_
  obtain ⟨v, hv⟩ : ∃ v, (if d.kind = 3 then c.value else (⟨#[]⟩ : Str)) = v := ⟨_, rfl⟩
  obtain ⟨f, hf⟩ : ∃ f : Str → List Node, (fun k => (c.kids.filter fun x => decide (x.name = k)).map fun x => Node.mk k x.value []) = f := ⟨_, rfl⟩
  have hfk : ∀ k, f k = (c.kids.filter fun x => decide (x.name = k)).map fun x => Node.mk k x.value [] := fun k => by rw [← hf]
  unfold freshD
  rw [hv, hf]
  have hfl : ∀ k, (f k).length ≤ c.kids.length := fun k => by rw [hfk, List.length_map]; exact List.length_filter_le _ _
  have hKl : ∀ i, ((d.keys.take i).flatMap f).length ≤ i * c.kids.length := by
    intro i
    induction i with
    | zero => simp
    | succ i ih =>
      by_cases h : i < d.keys.length
      · rw [List.take_succ_eq_append_getElem h, List.flatMap_append, List.length_append, Nat.succ_mul]
        have := hfl d.keys[i]
        simp only [List.flatMap_cons, List.flatMap_nil, List.append_nil]
        exact Nat.add_le_add ih this
      · rw [List.take_of_length_le (by omega)] at ih
        rw [List.take_of_length_le (by omega), Nat.succ_mul]
        exact Nat.le_trans ih (Nat.le_add_right _ _)
  have hK1 : ∀ i (h : i < d.keys.length), (d.keys.take (i + 1)).flatMap f = (d.keys.take i).flatMap f ++ f d.keys[i] := by
    intro i h
    rw [List.take_succ_eq_append_getElem h, List.flatMap_append]
    simp
  by_cases h3 : d.kind = 3
  · have h3' := eq_true h3
    rw [if_pos h3] at hv
    subst hv
    simp (maxSteps := 200000) (disch := first | (simp only [go_sem, Nat.reduceAdd, Nat.reduceSub, Nat.reduceMul, Nat.reduceLeDiff, Nat.reduceEqDiff, Nat.reduceLT, Nat.reduceBEq, Nat.reduceBNe, Nat.reducePow, ↓reduceIte]; done) | omega | (simp only [go_sem, Nat.reduceAdd, Nat.reduceSub, Nat.reduceMul, Nat.reduceLeDiff, Nat.reduceEqDiff, Nat.reduceLT, Nat.reduceBEq, Nat.reduceBNe, Nat.reducePow, ↓reduceIte] <;> omega) | fail) only [go_sem, Nat.reduceAdd, Nat.reduceSub, Nat.reduceMul, Nat.reduceLeDiff, Nat.reduceEqDiff, Nat.reduceLT, Nat.reduceBEq, Nat.reduceBNe, Nat.reducePow, ↓reduceIte, h3']
    refine WP_range 5 4 d.keys.length (fun i => S_38_5 (.ptr 1 0) (.ptr 2 0) (.ptr 3 0) (lS d.keys) (vI d.keys.length) (vI i) ([.var [vS d.name, vI d.kind, vI d.type, lS d.values, vB d.must, lS d.keys, lD d.kids], .var [vS c.name, vS c.value, vI c.op, lC c.kids], .var [vS ⟨#[]⟩, vS ⟨#[]⟩, .fs [] true]] ++ (if (d.keys.take i).flatMap f = [] then [.var [vS c.name, vS c.value, .fs [] true]] else [.var [vS c.name, vS c.value, .sl 4 0 ((d.keys.take i).flatMap f).length false], .arr 41 3 (((d.keys.take i).flatMap f).map eNode)]))) (fun i => True) rfl rfl ?_ ?_ ?_ ?_
    · simp (maxSteps := 200000) (disch := first | (simp only [go_sem, Nat.reduceAdd, Nat.reduceSub, Nat.reduceMul, Nat.reduceLeDiff, Nat.reduceEqDiff, Nat.reduceLT, Nat.reduceBEq, Nat.reduceBNe, Nat.reducePow, ↓reduceIte]; done) | omega | (simp only [go_sem, Nat.reduceAdd, Nat.reduceSub, Nat.reduceMul, Nat.reduceLeDiff, Nat.reduceEqDiff, Nat.reduceLT, Nat.reduceBEq, Nat.reduceBNe, Nat.reducePow, ↓reduceIte] <;> omega) | fail) only [go_sem, Nat.reduceAdd, Nat.reduceSub, Nat.reduceMul, Nat.reduceLeDiff, Nat.reduceEqDiff, Nat.reduceLT, Nat.reduceBEq, Nat.reduceBNe, Nat.reducePow, ↓reduceIte, List.take_zero, List.flatMap_nil, if_pos]
      rfl
    · trivial
    · intro i h _
      have hws := wrap_succ h (show d.keys.length ≤ 140737488355328 by omega)
      have hK := hK1 i h
      have hKb := hKl i
      have hfi := hfk d.keys[i]
      rw [hK, hfi]
      have hib : i * c.kids.length ≤ 1048576 * 1048576 := Nat.mul_le_mul (by omega) hc
      generalize (d.keys.take i).flatMap f = K at *
      by_cases hKe : K = []
      · subst hKe
        simp only [if_pos, List.nil_append]
        simp (maxSteps := 200000) (disch := first | (simp only [go_sem, Nat.reduceAdd, Nat.reduceSub, Nat.reduceMul, Nat.reduceLeDiff, Nat.reduceEqDiff, Nat.reduceLT, Nat.reduceBEq, Nat.reduceBNe, Nat.reducePow, ↓reduceIte]; done) | omega | (simp only [go_sem, Nat.reduceAdd, Nat.reduceSub, Nat.reduceMul, Nat.reduceLeDiff, Nat.reduceEqDiff, Nat.reduceLT, Nat.reduceBEq, Nat.reduceBNe, Nat.reducePow, ↓reduceIte] <;> omega) | fail) only [go_sem, Nat.reduceAdd, Nat.reduceSub, Nat.reduceMul, Nat.reduceLeDiff, Nat.reduceEqDiff, Nat.reduceLT, Nat.reduceBEq, Nat.reduceBNe, Nat.reducePow, ↓reduceIte, nat_int, h, eS_s]
        refine WP_range 8 4 c.kids.length (fun j => S_38_8 (.ptr 1 0) (.ptr 2 0) (.ptr 3 0) (vS d.keys[i]) (lS d.keys) (vI d.keys.length) (vI i) (lC c.kids) (vI c.kids.length) (vI j) ([.var [vS d.name, vI d.kind, vI d.type, lS d.values, vB d.must, lS d.keys, lD d.kids], .var [vS c.name, vS c.value, vI c.op, lC c.kids], .var [vS ⟨#[]⟩, vS ⟨#[]⟩, .fs [] true]] ++ (if (((c.kids.take j).filter fun x => decide (x.name = d.keys[i])).map fun x => Node.mk d.keys[i] x.value []) = [] then [.var [vS c.name, vS c.value, .fs [] true]] else [.var [vS c.name, vS c.value, .sl 4 0 ((((c.kids.take j).filter fun x => decide (x.name = d.keys[i])).map fun x => Node.mk d.keys[i] x.value [])).length false], .arr 41 3 (((((c.kids.take j).filter fun x => decide (x.name = d.keys[i])).map fun x => Node.mk d.keys[i] x.value [])).map eNode)]))) (fun j => True) rfl rfl ?_ ?_ ?_ ?_
        · simp (maxSteps := 200000) (disch := first | (simp only [go_sem, Nat.reduceAdd, Nat.reduceSub, Nat.reduceMul, Nat.reduceLeDiff, Nat.reduceEqDiff, Nat.reduceLT, Nat.reduceBEq, Nat.reduceBNe, Nat.reducePow, ↓reduceIte]; done) | omega | (simp only [go_sem, Nat.reduceAdd, Nat.reduceSub, Nat.reduceMul, Nat.reduceLeDiff, Nat.reduceEqDiff, Nat.reduceLT, Nat.reduceBEq, Nat.reduceBNe, Nat.reducePow, ↓reduceIte] <;> omega) | fail) only [go_sem, Nat.reduceAdd, Nat.reduceSub, Nat.reduceMul, Nat.reduceLeDiff, Nat.reduceEqDiff, Nat.reduceLT, Nat.reduceBEq, Nat.reduceBNe, Nat.reducePow, ↓reduceIte, List.take_zero, List.filter_nil, List.map_nil, if_pos]
          rfl
        · trivial
        · intro j hj _
          have hwj := wrap_succ hj (show c.kids.length ≤ 140737488355328 by omega)
          have hgl := List.length_filter_le (fun x : Chg => decide (x.name = d.keys[i])) (c.kids.take j)
          rw [List.length_take] at hgl
          by_cases hnm : c.kids[j].name = d.keys[i]
          · have hnm' := eq_true hnm
            have hG : ((c.kids.take (j + 1)).filter fun x => decide (x.name = d.keys[i])).map (fun x => Node.mk d.keys[i] x.value []) = ((c.kids.take j).filter fun x => decide (x.name = d.keys[i])).map (fun x => Node.mk d.keys[i] x.value []) ++ [Node.mk d.keys[i] c.kids[j].value []] := by
              rw [List.take_succ_eq_append_getElem hj, List.filter_append, List.map_append, List.filter_cons, if_pos (by simpa using hnm)]; rfl
            rw [hG]
            have hgl2 : (((c.kids.take j).filter fun x => decide (x.name = d.keys[i])).map fun x => Node.mk d.keys[i] x.value []).length ≤ 1048576 := by rw [List.length_map]; omega
            generalize (((c.kids.take j).filter fun x => decide (x.name = d.keys[i])).map fun x => Node.mk d.keys[i] x.value []) = g at *
            by_cases hg : g = []
            · subst hg
              simp only [if_pos, List.nil_append]
              simp (maxSteps := 200000) (disch := first | (simp only [go_sem, Nat.reduceAdd, Nat.reduceSub, Nat.reduceMul, Nat.reduceLeDiff, Nat.reduceEqDiff, Nat.reduceLT, Nat.reduceBEq, Nat.reduceBNe, Nat.reducePow, ↓reduceIte]; done) | omega | (simp only [go_sem, Nat.reduceAdd, Nat.reduceSub, Nat.reduceMul, Nat.reduceLeDiff, Nat.reduceEqDiff, Nat.reduceLT, Nat.reduceBEq, Nat.reduceBNe, Nat.reducePow, ↓reduceIte] <;> omega) | fail) only [go_sem, Nat.reduceAdd, Nat.reduceSub, Nat.reduceMul, Nat.reduceLeDiff, Nat.reduceEqDiff, Nat.reduceLT, Nat.reduceBEq, Nat.reduceBNe, Nat.reducePow, ↓reduceIte, nat_int, hj, eChg_s, hnm', hwj]
              rw [gcK_one 5 (by simp only [go_sem, Nat.reduceAdd, Nat.reduceSub, Nat.reduceMul, Nat.reduceLeDiff, Nat.reduceEqDiff, Nat.reduceLT, Nat.reduceBEq, Nat.reduceBNe, Nat.reducePow, ↓reduceIte]) (by omega) rfl (by simp [headIds, idsOfs, idsOf]) (by simp [headIds, idsOfs, idsOf])]
              rw [if_neg (by simp)]
              simp [bren_var, rens_cons, rens_nil, ren_v, ren_fs, ren_sl, gcF_s, posOf, renSl_some, eNode_s, Node.name, Node.value, Node.kids]
            · rw [if_neg hg, if_neg (by simp)]
              simp (maxSteps := 200000) (disch := first | (simp only [go_sem, Nat.reduceAdd, Nat.reduceSub, Nat.reduceMul, Nat.reduceLeDiff, Nat.reduceEqDiff, Nat.reduceLT, Nat.reduceBEq, Nat.reduceBNe, Nat.reducePow, ↓reduceIte]; done) | omega | (simp only [go_sem, Nat.reduceAdd, Nat.reduceSub, Nat.reduceMul, Nat.reduceLeDiff, Nat.reduceEqDiff, Nat.reduceLT, Nat.reduceBEq, Nat.reduceBNe, Nat.reducePow, ↓reduceIte] <;> omega) | fail) only [go_sem, Nat.reduceAdd, Nat.reduceSub, Nat.reduceMul, Nat.reduceLeDiff, Nat.reduceEqDiff, Nat.reduceLT, Nat.reduceBEq, Nat.reduceBNe, Nat.reducePow, ↓reduceIte, nat_int, hj, eChg_s, hnm', hwj]
              rw [gcK_one 4 (by simp only [go_sem, Nat.reduceAdd, Nat.reduceSub, Nat.reduceMul, Nat.reduceLeDiff, Nat.reduceEqDiff, Nat.reduceLT, Nat.reduceBEq, Nat.reduceBNe, Nat.reducePow, ↓reduceIte]) (by omega) rfl (by simp [headIds, idsOfs, idsOf]) (by simp [headIds, idsOfs, idsOf])]
              simp [bren_var, rens_cons, rens_nil, ren_v, ren_fs, ren_sl, gcF_s, posOf, renSl_some, eNode_s, Node.name, Node.value, Node.kids]
          · have hG : ((c.kids.take (j + 1)).filter fun x => decide (x.name = d.keys[i])).map (fun x => Node.mk d.keys[i] x.value []) = ((c.kids.take j).filter fun x => decide (x.name = d.keys[i])).map (fun x => Node.mk d.keys[i] x.value []) := by
              rw [List.take_succ_eq_append_getElem hj, List.filter_append, List.map_append, List.filter_cons, if_neg (by simpa using hnm)]; simp
            rw [hG]
            generalize (((c.kids.take j).filter fun x => decide (x.name = d.keys[i])).map fun x => Node.mk d.keys[i] x.value []) = g at *
            by_cases hg : g = []
            · subst hg
              simp only [if_pos, List.nil_append]
              simp (maxSteps := 200000) (disch := first | (simp only [go_sem, Nat.reduceAdd, Nat.reduceSub, Nat.reduceMul, Nat.reduceLeDiff, Nat.reduceEqDiff, Nat.reduceLT, Nat.reduceBEq, Nat.reduceBNe, Nat.reducePow, ↓reduceIte]; done) | omega | (simp only [go_sem, Nat.reduceAdd, Nat.reduceSub, Nat.reduceMul, Nat.reduceLeDiff, Nat.reduceEqDiff, Nat.reduceLT, Nat.reduceBEq, Nat.reduceBNe, Nat.reducePow, ↓reduceIte] <;> omega) | fail) only [go_sem, Nat.reduceAdd, Nat.reduceSub, Nat.reduceMul, Nat.reduceLeDiff, Nat.reduceEqDiff, Nat.reduceLT, Nat.reduceBEq, Nat.reduceBNe, Nat.reducePow, ↓reduceIte, nat_int, hj, eChg_s, hnm, hwj]
              first | done | exact ⟨rfl, trivial⟩ | rfl
            · rw [if_neg hg]
              simp (maxSteps := 200000) (disch := first | (simp only [go_sem, Nat.reduceAdd, Nat.reduceSub, Nat.reduceMul, Nat.reduceLeDiff, Nat.reduceEqDiff, Nat.reduceLT, Nat.reduceBEq, Nat.reduceBNe, Nat.reducePow, ↓reduceIte]; done) | omega | (simp only [go_sem, Nat.reduceAdd, Nat.reduceSub, Nat.reduceMul, Nat.reduceLeDiff, Nat.reduceEqDiff, Nat.reduceLT, Nat.reduceBEq, Nat.reduceBNe, Nat.reducePow, ↓reduceIte] <;> omega) | fail) only [go_sem, Nat.reduceAdd, Nat.reduceSub, Nat.reduceMul, Nat.reduceLeDiff, Nat.reduceEqDiff, Nat.reduceLT, Nat.reduceBEq, Nat.reduceBNe, Nat.reducePow, ↓reduceIte, nat_int, hj, eChg_s, hnm, hwj]
              rw [gcK_one 4 (by simp only [go_sem, Nat.reduceAdd, Nat.reduceSub, Nat.reduceMul, Nat.reduceLeDiff, Nat.reduceEqDiff, Nat.reduceLT, Nat.reduceBEq, Nat.reduceBNe, Nat.reducePow, ↓reduceIte]) (by omega) rfl (by simp [headIds, idsOfs, idsOf]) (by simp [headIds, idsOfs, idsOf])]
              simp [bren_var, rens_cons, rens_nil, ren_v, ren_fs, ren_sl, gcF_s, posOf, renSl_some, eNode_s, Node.name, Node.value, Node.kids]
        · intro _
          rw [List.take_length]
          generalize ((c.kids.filter fun x => decide (x.name = d.keys[i])).map fun x => Node.mk d.keys[i] x.value []) = g at *
          by_cases hg : g = []
          · subst hg
            simp only [if_pos, List.nil_append]
            simp (maxSteps := 200000) (disch := first | (simp only [go_sem, Nat.reduceAdd, Nat.reduceSub, Nat.reduceMul, Nat.reduceLeDiff, Nat.reduceEqDiff, Nat.reduceLT, Nat.reduceBEq, Nat.reduceBNe, Nat.reducePow, ↓reduceIte]; done) | omega | (simp only [go_sem, Nat.reduceAdd, Nat.reduceSub, Nat.reduceMul, Nat.reduceLeDiff, Nat.reduceEqDiff, Nat.reduceLT, Nat.reduceBEq, Nat.reduceBNe, Nat.reducePow, ↓reduceIte] <;> omega) | fail) only [go_sem, Nat.reduceAdd, Nat.reduceSub, Nat.reduceMul, Nat.reduceLeDiff, Nat.reduceEqDiff, Nat.reduceLT, Nat.reduceBEq, Nat.reduceBNe, Nat.reducePow, ↓reduceIte, nat_int, hws]
            first | done | exact ⟨rfl, trivial⟩ | rfl
          · rw [if_neg hg]
            simp (maxSteps := 200000) (disch := first | (simp only [go_sem, Nat.reduceAdd, Nat.reduceSub, Nat.reduceMul, Nat.reduceLeDiff, Nat.reduceEqDiff, Nat.reduceLT, Nat.reduceBEq, Nat.reduceBNe, Nat.reducePow, ↓reduceIte]; done) | omega | (simp only [go_sem, Nat.reduceAdd, Nat.reduceSub, Nat.reduceMul, Nat.reduceLeDiff, Nat.reduceEqDiff, Nat.reduceLT, Nat.reduceBEq, Nat.reduceBNe, Nat.reducePow, ↓reduceIte] <;> omega) | fail) only [go_sem, Nat.reduceAdd, Nat.reduceSub, Nat.reduceMul, Nat.reduceLeDiff, Nat.reduceEqDiff, Nat.reduceLT, Nat.reduceBEq, Nat.reduceBNe, Nat.reducePow, ↓reduceIte, nat_int, hws]
            rw [gcK_one 4 (by simp only [go_sem, Nat.reduceAdd, Nat.reduceSub, Nat.reduceMul, Nat.reduceLeDiff, Nat.reduceEqDiff, Nat.reduceLT, Nat.reduceBEq, Nat.reduceBNe, Nat.reducePow, ↓reduceIte]) (by omega) rfl (by simp [headIds, idsOfs, idsOf]) (by simp [headIds, idsOfs, idsOf])]
            simp [bren_var, rens_cons, rens_nil, ren_v, ren_fs, ren_sl, gcF_s, posOf, renSl_some, eNode_s, Node.name, Node.value, Node.kids]
      · rw [if_neg hKe]
        simp (maxSteps := 200000) (disch := first | (simp only [go_sem, Nat.reduceAdd, Nat.reduceSub, Nat.reduceMul, Nat.reduceLeDiff, Nat.reduceEqDiff, Nat.reduceLT, Nat.reduceBEq, Nat.reduceBNe, Nat.reducePow, ↓reduceIte]; done) | omega | (simp only [go_sem, Nat.reduceAdd, Nat.reduceSub, Nat.reduceMul, Nat.reduceLeDiff, Nat.reduceEqDiff, Nat.reduceLT, Nat.reduceBEq, Nat.reduceBNe, Nat.reducePow, ↓reduceIte] <;> omega) | fail) only [go_sem, Nat.reduceAdd, Nat.reduceSub, Nat.reduceMul, Nat.reduceLeDiff, Nat.reduceEqDiff, Nat.reduceLT, Nat.reduceBEq, Nat.reduceBNe, Nat.reducePow, ↓reduceIte, nat_int, h, eS_s]
        refine WP_range 8 5 c.kids.length (fun j => S_38_8 (.ptr 1 0) (.ptr 2 0) (.ptr 3 0) (vS d.keys[i]) (lS d.keys) (vI d.keys.length) (vI i) (lC c.kids) (vI c.kids.length) (vI j) ([.var [vS d.name, vI d.kind, vI d.type, lS d.values, vB d.must, lS d.keys, lD d.kids], .var [vS c.name, vS c.value, vI c.op, lC c.kids], .var [vS ⟨#[]⟩, vS ⟨#[]⟩, .fs [] true]] ++ [.var [vS c.name, vS c.value, .sl 4 0 (K ++ (((c.kids.take j).filter fun x => decide (x.name = d.keys[i])).map fun x => Node.mk d.keys[i] x.value [])).length false], .arr 41 3 ((K ++ (((c.kids.take j).filter fun x => decide (x.name = d.keys[i])).map fun x => Node.mk d.keys[i] x.value [])).map eNode)])) (fun j => True) rfl rfl ?_ ?_ ?_ ?_
        · simp (maxSteps := 200000) (disch := first | (simp only [go_sem, Nat.reduceAdd, Nat.reduceSub, Nat.reduceMul, Nat.reduceLeDiff, Nat.reduceEqDiff, Nat.reduceLT, Nat.reduceBEq, Nat.reduceBNe, Nat.reducePow, ↓reduceIte]; done) | omega | (simp only [go_sem, Nat.reduceAdd, Nat.reduceSub, Nat.reduceMul, Nat.reduceLeDiff, Nat.reduceEqDiff, Nat.reduceLT, Nat.reduceBEq, Nat.reduceBNe, Nat.reducePow, ↓reduceIte] <;> omega) | fail) only [go_sem, Nat.reduceAdd, Nat.reduceSub, Nat.reduceMul, Nat.reduceLeDiff, Nat.reduceEqDiff, Nat.reduceLT, Nat.reduceBEq, Nat.reduceBNe, Nat.reducePow, ↓reduceIte, List.take_zero, List.filter_nil, List.map_nil, List.append_nil]
          rfl
        · trivial
        · intro j hj _
          have hwj := wrap_succ hj (show c.kids.length ≤ 140737488355328 by omega)
          have hgl := List.length_filter_le (fun x : Chg => decide (x.name = d.keys[i])) (c.kids.take j)
          rw [List.length_take] at hgl
          by_cases hnm : c.kids[j].name = d.keys[i]
          · have hnm' := eq_true hnm
            have hG : ((c.kids.take (j + 1)).filter fun x => decide (x.name = d.keys[i])).map (fun x => Node.mk d.keys[i] x.value []) = ((c.kids.take j).filter fun x => decide (x.name = d.keys[i])).map (fun x => Node.mk d.keys[i] x.value []) ++ [Node.mk d.keys[i] c.kids[j].value []] := by
              rw [List.take_succ_eq_append_getElem hj, List.filter_append, List.map_append, List.filter_cons, if_pos (by simpa using hnm)]; rfl
            rw [hG]
            have hgl2 : (((c.kids.take j).filter fun x => decide (x.name = d.keys[i])).map fun x => Node.mk d.keys[i] x.value []).length ≤ 1048576 := by rw [List.length_map]; omega
            generalize (((c.kids.take j).filter fun x => decide (x.name = d.keys[i])).map fun x => Node.mk d.keys[i] x.value []) = g at *
            rw [← List.append_assoc]
            have hKgl : (K ++ g).length ≤ 2199023255552 := by rw [List.length_append]; omega
            generalize K ++ g = Kg at *
            simp (maxSteps := 200000) (disch := first | (simp only [go_sem, Nat.reduceAdd, Nat.reduceSub, Nat.reduceMul, Nat.reduceLeDiff, Nat.reduceEqDiff, Nat.reduceLT, Nat.reduceBEq, Nat.reduceBNe, Nat.reducePow, ↓reduceIte]; done) | omega | (simp only [go_sem, Nat.reduceAdd, Nat.reduceSub, Nat.reduceMul, Nat.reduceLeDiff, Nat.reduceEqDiff, Nat.reduceLT, Nat.reduceBEq, Nat.reduceBNe, Nat.reducePow, ↓reduceIte] <;> omega) | fail) only [go_sem, Nat.reduceAdd, Nat.reduceSub, Nat.reduceMul, Nat.reduceLeDiff, Nat.reduceEqDiff, Nat.reduceLT, Nat.reduceBEq, Nat.reduceBNe, Nat.reducePow, ↓reduceIte, nat_int, hj, eChg_s, hnm', hwj]
            first | done | rfl | (simp [eNode_s, Node.name, Node.value, Node.kids]; done)
          · have hG : ((c.kids.take (j + 1)).filter fun x => decide (x.name = d.keys[i])).map (fun x => Node.mk d.keys[i] x.value []) = ((c.kids.take j).filter fun x => decide (x.name = d.keys[i])).map (fun x => Node.mk d.keys[i] x.value []) := by
              rw [List.take_succ_eq_append_getElem hj, List.filter_append, List.map_append, List.filter_cons, if_neg (by simpa using hnm)]; simp
            rw [hG]
            simp (maxSteps := 200000) (disch := first | (simp only [go_sem, Nat.reduceAdd, Nat.reduceSub, Nat.reduceMul, Nat.reduceLeDiff, Nat.reduceEqDiff, Nat.reduceLT, Nat.reduceBEq, Nat.reduceBNe, Nat.reducePow, ↓reduceIte]; done) | omega | (simp only [go_sem, Nat.reduceAdd, Nat.reduceSub, Nat.reduceMul, Nat.reduceLeDiff, Nat.reduceEqDiff, Nat.reduceLT, Nat.reduceBEq, Nat.reduceBNe, Nat.reducePow, ↓reduceIte] <;> omega) | fail) only [go_sem, Nat.reduceAdd, Nat.reduceSub, Nat.reduceMul, Nat.reduceLeDiff, Nat.reduceEqDiff, Nat.reduceLT, Nat.reduceBEq, Nat.reduceBNe, Nat.reducePow, ↓reduceIte, nat_int, hj, eChg_s, hnm, hwj]
            first | done | rfl
        · intro _
          rw [List.take_length]
          rw [if_neg (by simp [hKe])]
          generalize (K ++ (c.kids.filter fun x => decide (x.name = d.keys[i])).map fun x => Node.mk d.keys[i] x.value []) = Kg at *
          simp (maxSteps := 200000) (disch := first | (simp only [go_sem, Nat.reduceAdd, Nat.reduceSub, Nat.reduceMul, Nat.reduceLeDiff, Nat.reduceEqDiff, Nat.reduceLT, Nat.reduceBEq, Nat.reduceBNe, Nat.reducePow, ↓reduceIte]; done) | omega | (simp only [go_sem, Nat.reduceAdd, Nat.reduceSub, Nat.reduceMul, Nat.reduceLeDiff, Nat.reduceEqDiff, Nat.reduceLT, Nat.reduceBEq, Nat.reduceBNe, Nat.reducePow, ↓reduceIte] <;> omega) | fail) only [go_sem, Nat.reduceAdd, Nat.reduceSub, Nat.reduceMul, Nat.reduceLeDiff, Nat.reduceEqDiff, Nat.reduceLT, Nat.reduceBEq, Nat.reduceBNe, Nat.reducePow, ↓reduceIte, nat_int, hws]
          rw [gcK_one 4 (by simp only [go_sem, Nat.reduceAdd, Nat.reduceSub, Nat.reduceMul, Nat.reduceLeDiff, Nat.reduceEqDiff, Nat.reduceLT, Nat.reduceBEq, Nat.reduceBNe, Nat.reducePow, ↓reduceIte]) (by omega) rfl (by simp [headIds, idsOfs, idsOf]) (by simp [headIds, idsOfs, idsOf])]
          simp [bren_var, rens_cons, rens_nil, ren_v, ren_fs, ren_sl, gcF_s, posOf, renSl_some, eNode_s, Node.name, Node.value, Node.kids]
    · intro _
      rw [List.take_length]
      by_cases hKe : d.keys.flatMap f = []
      · rw [hKe]
        simp only [if_pos]
        simp (maxSteps := 200000) (disch := first | (simp only [go_sem, Nat.reduceAdd, Nat.reduceSub, Nat.reduceMul, Nat.reduceLeDiff, Nat.reduceEqDiff, Nat.reduceLT, Nat.reduceBEq, Nat.reduceBNe, Nat.reducePow, ↓reduceIte]; done) | omega | (simp only [go_sem, Nat.reduceAdd, Nat.reduceSub, Nat.reduceMul, Nat.reduceLeDiff, Nat.reduceEqDiff, Nat.reduceLT, Nat.reduceBEq, Nat.reduceBNe, Nat.reducePow, ↓reduceIte] <;> omega) | fail) only [go_sem, Nat.reduceAdd, Nat.reduceSub, Nat.reduceMul, Nat.reduceLeDiff, Nat.reduceEqDiff, Nat.reduceLT, Nat.reduceBEq, Nat.reduceBNe, Nat.reducePow, ↓reduceIte, nat_int]
        rfl
      · rw [if_neg hKe]
        simp (maxSteps := 200000) (disch := first | (simp only [go_sem, Nat.reduceAdd, Nat.reduceSub, Nat.reduceMul, Nat.reduceLeDiff, Nat.reduceEqDiff, Nat.reduceLT, Nat.reduceBEq, Nat.reduceBNe, Nat.reducePow, ↓reduceIte]; done) | omega | (simp only [go_sem, Nat.reduceAdd, Nat.reduceSub, Nat.reduceMul, Nat.reduceLeDiff, Nat.reduceEqDiff, Nat.reduceLT, Nat.reduceBEq, Nat.reduceBNe, Nat.reducePow, ↓reduceIte] <;> omega) | fail) only [go_sem, Nat.reduceAdd, Nat.reduceSub, Nat.reduceMul, Nat.reduceLeDiff, Nat.reduceEqDiff, Nat.reduceLT, Nat.reduceBEq, Nat.reduceBNe, Nat.reducePow, ↓reduceIte, nat_int]
        rfl
  · rw [if_neg h3] at hv
    subst hv
    simp (maxSteps := 200000) (disch := first | (simp only [go_sem, Nat.reduceAdd, Nat.reduceSub, Nat.reduceMul, Nat.reduceLeDiff, Nat.reduceEqDiff, Nat.reduceLT, Nat.reduceBEq, Nat.reduceBNe, Nat.reducePow, ↓reduceIte]; done) | omega | (simp only [go_sem, Nat.reduceAdd, Nat.reduceSub, Nat.reduceMul, Nat.reduceLeDiff, Nat.reduceEqDiff, Nat.reduceLT, Nat.reduceBEq, Nat.reduceBNe, Nat.reducePow, ↓reduceIte] <;> omega) | fail) only [go_sem, Nat.reduceAdd, Nat.reduceSub, Nat.reduceMul, Nat.reduceLeDiff, Nat.reduceEqDiff, Nat.reduceLT, Nat.reduceBEq, Nat.reduceBNe, Nat.reducePow, ↓reduceIte, h3]
    refine WP_range 5 4 d.keys.length (fun i => S_38_5 (.ptr 1 0) (.ptr 2 0) (.ptr 3 0) (lS d.keys) (vI d.keys.length) (vI i) ([.var [vS d.name, vI d.kind, vI d.type, lS d.values, vB d.must, lS d.keys, lD d.kids], .var [vS c.name, vS c.value, vI c.op, lC c.kids], .var [vS ⟨#[]⟩, vS ⟨#[]⟩, .fs [] true]] ++ (if (d.keys.take i).flatMap f = [] then [.var [vS c.name, vS (⟨#[]⟩ : Str), .fs [] true]] else [.var [vS c.name, vS (⟨#[]⟩ : Str), .sl 4 0 ((d.keys.take i).flatMap f).length false], .arr 41 3 (((d.keys.take i).flatMap f).map eNode)]))) (fun i => True) rfl rfl ?_ ?_ ?_ ?_
    · simp (maxSteps := 200000) (disch := first | (simp only [go_sem, Nat.reduceAdd, Nat.reduceSub, Nat.reduceMul, Nat.reduceLeDiff, Nat.reduceEqDiff, Nat.reduceLT, Nat.reduceBEq, Nat.reduceBNe, Nat.reducePow, ↓reduceIte]; done) | omega | (simp only [go_sem, Nat.reduceAdd, Nat.reduceSub, Nat.reduceMul, Nat.reduceLeDiff, Nat.reduceEqDiff, Nat.reduceLT, Nat.reduceBEq, Nat.reduceBNe, Nat.reducePow, ↓reduceIte] <;> omega) | fail) only [go_sem, Nat.reduceAdd, Nat.reduceSub, Nat.reduceMul, Nat.reduceLeDiff, Nat.reduceEqDiff, Nat.reduceLT, Nat.reduceBEq, Nat.reduceBNe, Nat.reducePow, ↓reduceIte, List.take_zero, List.flatMap_nil, if_pos]
      rfl
    · trivial
    · intro i h _
      have hws := wrap_succ h (show d.keys.length ≤ 140737488355328 by omega)
      have hK := hK1 i h
      have hKb := hKl i
      have hfi := hfk d.keys[i]
      rw [hK, hfi]
      have hib : i * c.kids.length ≤ 1048576 * 1048576 := Nat.mul_le_mul (by omega) hc
      generalize (d.keys.take i).flatMap f = K at *
      by_cases hKe : K = []
      · subst hKe
        simp only [if_pos, List.nil_append]
        simp (maxSteps := 200000) (disch := first | (simp only [go_sem, Nat.reduceAdd, Nat.reduceSub, Nat.reduceMul, Nat.reduceLeDiff, Nat.reduceEqDiff, Nat.reduceLT, Nat.reduceBEq, Nat.reduceBNe, Nat.reducePow, ↓reduceIte]; done) | omega | (simp only [go_sem, Nat.reduceAdd, Nat.reduceSub, Nat.reduceMul, Nat.reduceLeDiff, Nat.reduceEqDiff, Nat.reduceLT, Nat.reduceBEq, Nat.reduceBNe, Nat.reducePow, ↓reduceIte] <;> omega) | fail) only [go_sem, Nat.reduceAdd, Nat.reduceSub, Nat.reduceMul, Nat.reduceLeDiff, Nat.reduceEqDiff, Nat.reduceLT, Nat.reduceBEq, Nat.reduceBNe, Nat.reducePow, ↓reduceIte, nat_int, h, eS_s]
        refine WP_range 8 4 c.kids.length (fun j => S_38_8 (.ptr 1 0) (.ptr 2 0) (.ptr 3 0) (vS d.keys[i]) (lS d.keys) (vI d.keys.length) (vI i) (lC c.kids) (vI c.kids.length) (vI j) ([.var [vS d.name, vI d.kind, vI d.type, lS d.values, vB d.must, lS d.keys, lD d.kids], .var [vS c.name, vS c.value, vI c.op, lC c.kids], .var [vS ⟨#[]⟩, vS ⟨#[]⟩, .fs [] true]] ++ (if (((c.kids.take j).filter fun x => decide (x.name = d.keys[i])).map fun x => Node.mk d.keys[i] x.value []) = [] then [.var [vS c.name, vS (⟨#[]⟩ : Str), .fs [] true]] else [.var [vS c.name, vS (⟨#[]⟩ : Str), .sl 4 0 ((((c.kids.take j).filter fun x => decide (x.name = d.keys[i])).map fun x => Node.mk d.keys[i] x.value [])).length false], .arr 41 3 (((((c.kids.take j).filter fun x => decide (x.name = d.keys[i])).map fun x => Node.mk d.keys[i] x.value [])).map eNode)]))) (fun j => True) rfl rfl ?_ ?_ ?_ ?_
        · simp (maxSteps := 200000) (disch := first | (simp only [go_sem, Nat.reduceAdd, Nat.reduceSub, Nat.reduceMul, Nat.reduceLeDiff, Nat.reduceEqDiff, Nat.reduceLT, Nat.reduceBEq, Nat.reduceBNe, Nat.reducePow, ↓reduceIte]; done) | omega | (simp only [go_sem, Nat.reduceAdd, Nat.reduceSub, Nat.reduceMul, Nat.reduceLeDiff, Nat.reduceEqDiff, Nat.reduceLT, Nat.reduceBEq, Nat.reduceBNe, Nat.reducePow, ↓reduceIte] <;> omega) | fail) only [go_sem, Nat.reduceAdd, Nat.reduceSub, Nat.reduceMul, Nat.reduceLeDiff, Nat.reduceEqDiff, Nat.reduceLT, Nat.reduceBEq, Nat.reduceBNe, Nat.reducePow, ↓reduceIte, List.take_zero, List.filter_nil, List.map_nil, if_pos]
          rfl
        · trivial
        · intro j hj _
          have hwj := wrap_succ hj (show c.kids.length ≤ 140737488355328 by omega)
          have hgl := List.length_filter_le (fun x : Chg => decide (x.name = d.keys[i])) (c.kids.take j)
          rw [List.length_take] at hgl
          by_cases hnm : c.kids[j].name = d.keys[i]
          · have hnm' := eq_true hnm
            have hG : ((c.kids.take (j + 1)).filter fun x => decide (x.name = d.keys[i])).map (fun x => Node.mk d.keys[i] x.value []) = ((c.kids.take j).filter fun x => decide (x.name = d.keys[i])).map (fun x => Node.mk d.keys[i] x.value []) ++ [Node.mk d.keys[i] c.kids[j].value []] := by
              rw [List.take_succ_eq_append_getElem hj, List.filter_append, List.map_append, List.filter_cons, if_pos (by simpa using hnm)]; rfl
            rw [hG]
            have hgl2 : (((c.kids.take j).filter fun x => decide (x.name = d.keys[i])).map fun x => Node.mk d.keys[i] x.value []).length ≤ 1048576 := by rw [List.length_map]; omega
            generalize (((c.kids.take j).filter fun x => decide (x.name = d.keys[i])).map fun x => Node.mk d.keys[i] x.value []) = g at *
            by_cases hg : g = []
            · subst hg
              simp only [if_pos, List.nil_append]
              simp (maxSteps := 200000) (disch := first | (simp only [go_sem, Nat.reduceAdd, Nat.reduceSub, Nat.reduceMul, Nat.reduceLeDiff, Nat.reduceEqDiff, Nat.reduceLT, Nat.reduceBEq, Nat.reduceBNe, Nat.reducePow, ↓reduceIte]; done) | omega | (simp only [go_sem, Nat.reduceAdd, Nat.reduceSub, Nat.reduceMul, Nat.reduceLeDiff, Nat.reduceEqDiff, Nat.reduceLT, Nat.reduceBEq, Nat.reduceBNe, Nat.reducePow, ↓reduceIte] <;> omega) | fail) only [go_sem, Nat.reduceAdd, Nat.reduceSub, Nat.reduceMul, Nat.reduceLeDiff, Nat.reduceEqDiff, Nat.reduceLT, Nat.reduceBEq, Nat.reduceBNe, Nat.reducePow, ↓reduceIte, nat_int, hj, eChg_s, hnm', hwj]
              rw [gcK_one 5 (by simp only [go_sem, Nat.reduceAdd, Nat.reduceSub, Nat.reduceMul, Nat.reduceLeDiff, Nat.reduceEqDiff, Nat.reduceLT, Nat.reduceBEq, Nat.reduceBNe, Nat.reducePow, ↓reduceIte]) (by omega) rfl (by simp [headIds, idsOfs, idsOf]) (by simp [headIds, idsOfs, idsOf])]
              rw [if_neg (by simp)]
              simp [bren_var, rens_cons, rens_nil, ren_v, ren_fs, ren_sl, gcF_s, posOf, renSl_some, eNode_s, Node.name, Node.value, Node.kids]
            · rw [if_neg hg, if_neg (by simp)]
              simp (maxSteps := 200000) (disch := first | (simp only [go_sem, Nat.reduceAdd, Nat.reduceSub, Nat.reduceMul, Nat.reduceLeDiff, Nat.reduceEqDiff, Nat.reduceLT, Nat.reduceBEq, Nat.reduceBNe, Nat.reducePow, ↓reduceIte]; done) | omega | (simp only [go_sem, Nat.reduceAdd, Nat.reduceSub, Nat.reduceMul, Nat.reduceLeDiff, Nat.reduceEqDiff, Nat.reduceLT, Nat.reduceBEq, Nat.reduceBNe, Nat.reducePow, ↓reduceIte] <;> omega) | fail) only [go_sem, Nat.reduceAdd, Nat.reduceSub, Nat.reduceMul, Nat.reduceLeDiff, Nat.reduceEqDiff, Nat.reduceLT, Nat.reduceBEq, Nat.reduceBNe, Nat.reducePow, ↓reduceIte, nat_int, hj, eChg_s, hnm', hwj]
              rw [gcK_one 4 (by simp only [go_sem, Nat.reduceAdd, Nat.reduceSub, Nat.reduceMul, Nat.reduceLeDiff, Nat.reduceEqDiff, Nat.reduceLT, Nat.reduceBEq, Nat.reduceBNe, Nat.reducePow, ↓reduceIte]) (by omega) rfl (by simp [headIds, idsOfs, idsOf]) (by simp [headIds, idsOfs, idsOf])]
              simp [bren_var, rens_cons, rens_nil, ren_v, ren_fs, ren_sl, gcF_s, posOf, renSl_some, eNode_s, Node.name, Node.value, Node.kids]
          · have hG : ((c.kids.take (j + 1)).filter fun x => decide (x.name = d.keys[i])).map (fun x => Node.mk d.keys[i] x.value []) = ((c.kids.take j).filter fun x => decide (x.name = d.keys[i])).map (fun x => Node.mk d.keys[i] x.value []) := by
              rw [List.take_succ_eq_append_getElem hj, List.filter_append, List.map_append, List.filter_cons, if_neg (by simpa using hnm)]; simp
            rw [hG]
            generalize (((c.kids.take j).filter fun x => decide (x.name = d.keys[i])).map fun x => Node.mk d.keys[i] x.value []) = g at *
            by_cases hg : g = []
            · subst hg
              simp only [if_pos, List.nil_append]
              simp (maxSteps := 200000) (disch := first | (simp only [go_sem, Nat.reduceAdd, Nat.reduceSub, Nat.reduceMul, Nat.reduceLeDiff, Nat.reduceEqDiff, Nat.reduceLT, Nat.reduceBEq, Nat.reduceBNe, Nat.reducePow, ↓reduceIte]; done) | omega | (simp only [go_sem, Nat.reduceAdd, Nat.reduceSub, Nat.reduceMul, Nat.reduceLeDiff, Nat.reduceEqDiff, Nat.reduceLT, Nat.reduceBEq, Nat.reduceBNe, Nat.reducePow, ↓reduceIte] <;> omega) | fail) only [go_sem, Nat.reduceAdd, Nat.reduceSub, Nat.reduceMul, Nat.reduceLeDiff, Nat.reduceEqDiff, Nat.reduceLT, Nat.reduceBEq, Nat.reduceBNe, Nat.reducePow, ↓reduceIte, nat_int, hj, eChg_s, hnm, hwj]
              first | done | exact ⟨rfl, trivial⟩ | rfl
            · rw [if_neg hg]
              simp (maxSteps := 200000) (disch := first | (simp only [go_sem, Nat.reduceAdd, Nat.reduceSub, Nat.reduceMul, Nat.reduceLeDiff, Nat.reduceEqDiff, Nat.reduceLT, Nat.reduceBEq, Nat.reduceBNe, Nat.reducePow, ↓reduceIte]; done) | omega | (simp only [go_sem, Nat.reduceAdd, Nat.reduceSub, Nat.reduceMul, Nat.reduceLeDiff, Nat.reduceEqDiff, Nat.reduceLT, Nat.reduceBEq, Nat.reduceBNe, Nat.reducePow, ↓reduceIte] <;> omega) | fail) only [go_sem, Nat.reduceAdd, Nat.reduceSub, Nat.reduceMul, Nat.reduceLeDiff, Nat.reduceEqDiff, Nat.reduceLT, Nat.reduceBEq, Nat.reduceBNe, Nat.reducePow, ↓reduceIte, nat_int, hj, eChg_s, hnm, hwj]
              rw [gcK_one 4 (by simp only [go_sem, Nat.reduceAdd, Nat.reduceSub, Nat.reduceMul, Nat.reduceLeDiff, Nat.reduceEqDiff, Nat.reduceLT, Nat.reduceBEq, Nat.reduceBNe, Nat.reducePow, ↓reduceIte]) (by omega) rfl (by simp [headIds, idsOfs, idsOf]) (by simp [headIds, idsOfs, idsOf])]
              simp [bren_var, rens_cons, rens_nil, ren_v, ren_fs, ren_sl, gcF_s, posOf, renSl_some, eNode_s, Node.name, Node.value, Node.kids]
        · intro _
          rw [List.take_length]
          generalize ((c.kids.filter fun x => decide (x.name = d.keys[i])).map fun x => Node.mk d.keys[i] x.value []) = g at *
          by_cases hg : g = []
          · subst hg
            simp only [if_pos, List.nil_append]
            simp (maxSteps := 200000) (disch := first | (simp only [go_sem, Nat.reduceAdd, Nat.reduceSub, Nat.reduceMul, Nat.reduceLeDiff, Nat.reduceEqDiff, Nat.reduceLT, Nat.reduceBEq, Nat.reduceBNe, Nat.reducePow, ↓reduceIte]; done) | omega | (simp only [go_sem, Nat.reduceAdd, Nat.reduceSub, Nat.reduceMul, Nat.reduceLeDiff, Nat.reduceEqDiff, Nat.reduceLT, Nat.reduceBEq, Nat.reduceBNe, Nat.reducePow, ↓reduceIte] <;> omega) | fail) only [go_sem, Nat.reduceAdd, Nat.reduceSub, Nat.reduceMul, Nat.reduceLeDiff, Nat.reduceEqDiff, Nat.reduceLT, Nat.reduceBEq, Nat.reduceBNe, Nat.reducePow, ↓reduceIte, nat_int, hws]
            first | done | exact ⟨rfl, trivial⟩ | rfl
          · rw [if_neg hg]
            simp (maxSteps := 200000) (disch := first | (simp only [go_sem, Nat.reduceAdd, Nat.reduceSub, Nat.reduceMul, Nat.reduceLeDiff, Nat.reduceEqDiff, Nat.reduceLT, Nat.reduceBEq, Nat.reduceBNe, Nat.reducePow, ↓reduceIte]; done) | omega | (simp only [go_sem, Nat.reduceAdd, Nat.reduceSub, Nat.reduceMul, Nat.reduceLeDiff, Nat.reduceEqDiff, Nat.reduceLT, Nat.reduceBEq, Nat.reduceBNe, Nat.reducePow, ↓reduceIte] <;> omega) | fail) only [go_sem, Nat.reduceAdd, Nat.reduceSub, Nat.reduceMul, Nat.reduceLeDiff, Nat.reduceEqDiff, Nat.reduceLT, Nat.reduceBEq, Nat.reduceBNe, Nat.reducePow, ↓reduceIte, nat_int, hws]
            rw [gcK_one 4 (by simp only [go_sem, Nat.reduceAdd, Nat.reduceSub, Nat.reduceMul, Nat.reduceLeDiff, Nat.reduceEqDiff, Nat.reduceLT, Nat.reduceBEq, Nat.reduceBNe, Nat.reducePow, ↓reduceIte]) (by omega) rfl (by simp [headIds, idsOfs, idsOf]) (by simp [headIds, idsOfs, idsOf])]
            simp [bren_var, rens_cons, rens_nil, ren_v, ren_fs, ren_sl, gcF_s, posOf, renSl_some, eNode_s, Node.name, Node.value, Node.kids]
      · rw [if_neg hKe]
        simp (maxSteps := 200000) (disch := first | (simp only [go_sem, Nat.reduceAdd, Nat.reduceSub, Nat.reduceMul, Nat.reduceLeDiff, Nat.reduceEqDiff, Nat.reduceLT, Nat.reduceBEq, Nat.reduceBNe, Nat.reducePow, ↓reduceIte]; done) | omega | (simp only [go_sem, Nat.reduceAdd, Nat.reduceSub, Nat.reduceMul, Nat.reduceLeDiff, Nat.reduceEqDiff, Nat.reduceLT, Nat.reduceBEq, Nat.reduceBNe, Nat.reducePow, ↓reduceIte] <;> omega) | fail) only [go_sem, Nat.reduceAdd, Nat.reduceSub, Nat.reduceMul, Nat.reduceLeDiff, Nat.reduceEqDiff, Nat.reduceLT, Nat.reduceBEq, Nat.reduceBNe, Nat.reducePow, ↓reduceIte, nat_int, h, eS_s]
        refine WP_range 8 5 c.kids.length (fun j => S_38_8 (.ptr 1 0) (.ptr 2 0) (.ptr 3 0) (vS d.keys[i]) (lS d.keys) (vI d.keys.length) (vI i) (lC c.kids) (vI c.kids.length) (vI j) ([.var [vS d.name, vI d.kind, vI d.type, lS d.values, vB d.must, lS d.keys, lD d.kids], .var [vS c.name, vS c.value, vI c.op, lC c.kids], .var [vS ⟨#[]⟩, vS ⟨#[]⟩, .fs [] true]] ++ [.var [vS c.name, vS (⟨#[]⟩ : Str), .sl 4 0 (K ++ (((c.kids.take j).filter fun x => decide (x.name = d.keys[i])).map fun x => Node.mk d.keys[i] x.value [])).length false], .arr 41 3 ((K ++ (((c.kids.take j).filter fun x => decide (x.name = d.keys[i])).map fun x => Node.mk d.keys[i] x.value [])).map eNode)])) (fun j => True) rfl rfl ?_ ?_ ?_ ?_
        · simp (maxSteps := 200000) (disch := first | (simp only [go_sem, Nat.reduceAdd, Nat.reduceSub, Nat.reduceMul, Nat.reduceLeDiff, Nat.reduceEqDiff, Nat.reduceLT, Nat.reduceBEq, Nat.reduceBNe, Nat.reducePow, ↓reduceIte]; done) | omega | (simp only [go_sem, Nat.reduceAdd, Nat.reduceSub, Nat.reduceMul, Nat.reduceLeDiff, Nat.reduceEqDiff, Nat.reduceLT, Nat.reduceBEq, Nat.reduceBNe, Nat.reducePow, ↓reduceIte] <;> omega) | fail) only [go_sem, Nat.reduceAdd, Nat.reduceSub, Nat.reduceMul, Nat.reduceLeDiff, Nat.reduceEqDiff, Nat.reduceLT, Nat.reduceBEq, Nat.reduceBNe, Nat.reducePow, ↓reduceIte, List.take_zero, List.filter_nil, List.map_nil, List.append_nil]
          rfl
        · trivial
        · intro j hj _
          have hwj := wrap_succ hj (show c.kids.length ≤ 140737488355328 by omega)
          have hgl := List.length_filter_le (fun x : Chg => decide (x.name = d.keys[i])) (c.kids.take j)
          rw [List.length_take] at hgl
          by_cases hnm : c.kids[j].name = d.keys[i]
          · have hnm' := eq_true hnm
            have hG : ((c.kids.take (j + 1)).filter fun x => decide (x.name = d.keys[i])).map (fun x => Node.mk d.keys[i] x.value []) = ((c.kids.take j).filter fun x => decide (x.name = d.keys[i])).map (fun x => Node.mk d.keys[i] x.value []) ++ [Node.mk d.keys[i] c.kids[j].value []] := by
              rw [List.take_succ_eq_append_getElem hj, List.filter_append, List.map_append, List.filter_cons, if_pos (by simpa using hnm)]; rfl
            rw [hG]
            have hgl2 : (((c.kids.take j).filter fun x => decide (x.name = d.keys[i])).map fun x => Node.mk d.keys[i] x.value []).length ≤ 1048576 := by rw [List.length_map]; omega
            generalize (((c.kids.take j).filter fun x => decide (x.name = d.keys[i])).map fun x => Node.mk d.keys[i] x.value []) = g at *
            rw [← List.append_assoc]
            have hKgl : (K ++ g).length ≤ 2199023255552 := by rw [List.length_append]; omega
            generalize K ++ g = Kg at *
            simp (maxSteps := 200000) (disch := first | (simp only [go_sem, Nat.reduceAdd, Nat.reduceSub, Nat.reduceMul, Nat.reduceLeDiff, Nat.reduceEqDiff, Nat.reduceLT, Nat.reduceBEq, Nat.reduceBNe, Nat.reducePow, ↓reduceIte]; done) | omega | (simp only [go_sem, Nat.reduceAdd, Nat.reduceSub, Nat.reduceMul, Nat.reduceLeDiff, Nat.reduceEqDiff, Nat.reduceLT, Nat.reduceBEq, Nat.reduceBNe, Nat.reducePow, ↓reduceIte] <;> omega) | fail) only [go_sem, Nat.reduceAdd, Nat.reduceSub, Nat.reduceMul, Nat.reduceLeDiff, Nat.reduceEqDiff, Nat.reduceLT, Nat.reduceBEq, Nat.reduceBNe, Nat.reducePow, ↓reduceIte, nat_int, hj, eChg_s, hnm', hwj]
            first | done | rfl | (simp [eNode_s, Node.name, Node.value, Node.kids]; done)
          · have hG : ((c.kids.take (j + 1)).filter fun x => decide (x.name = d.keys[i])).map (fun x => Node.mk d.keys[i] x.value []) = ((c.kids.take j).filter fun x => decide (x.name = d.keys[i])).map (fun x => Node.mk d.keys[i] x.value []) := by
              rw [List.take_succ_eq_append_getElem hj, List.filter_append, List.map_append, List.filter_cons, if_neg (by simpa using hnm)]; simp
            rw [hG]
            simp (maxSteps := 200000) (disch := first | (simp only [go_sem, Nat.reduceAdd, Nat.reduceSub, Nat.reduceMul, Nat.reduceLeDiff, Nat.reduceEqDiff, Nat.reduceLT, Nat.reduceBEq, Nat.reduceBNe, Nat.reducePow, ↓reduceIte]; done) | omega | (simp only [go_sem, Nat.reduceAdd, Nat.reduceSub, Nat.reduceMul, Nat.reduceLeDiff, Nat.reduceEqDiff, Nat.reduceLT, Nat.reduceBEq, Nat.reduceBNe, Nat.reducePow, ↓reduceIte] <;> omega) | fail) only [go_sem, Nat.reduceAdd, Nat.reduceSub, Nat.reduceMul, Nat.reduceLeDiff, Nat.reduceEqDiff, Nat.reduceLT, Nat.reduceBEq, Nat.reduceBNe, Nat.reducePow, ↓reduceIte, nat_int, hj, eChg_s, hnm, hwj]
            first | done | rfl
        · intro _
          rw [List.take_length]
          rw [if_neg (by simp [hKe])]
          generalize (K ++ (c.kids.filter fun x => decide (x.name = d.keys[i])).map fun x => Node.mk d.keys[i] x.value []) = Kg at *
          simp (maxSteps := 200000) (disch := first | (simp only [go_sem, Nat.reduceAdd, Nat.reduceSub, Nat.reduceMul, Nat.reduceLeDiff, Nat.reduceEqDiff, Nat.reduceLT, Nat.reduceBEq, Nat.reduceBNe, Nat.reducePow, ↓reduceIte]; done) | omega | (simp only [go_sem, Nat.reduceAdd, Nat.reduceSub, Nat.reduceMul, Nat.reduceLeDiff, Nat.reduceEqDiff, Nat.reduceLT, Nat.reduceBEq, Nat.reduceBNe, Nat.reducePow, ↓reduceIte] <;> omega) | fail) only [go_sem, Nat.reduceAdd, Nat.reduceSub, Nat.reduceMul, Nat.reduceLeDiff, Nat.reduceEqDiff, Nat.reduceLT, Nat.reduceBEq, Nat.reduceBNe, Nat.reducePow, ↓reduceIte, nat_int, hws]
          rw [gcK_one 4 (by simp only [go_sem, Nat.reduceAdd, Nat.reduceSub, Nat.reduceMul, Nat.reduceLeDiff, Nat.reduceEqDiff, Nat.reduceLT, Nat.reduceBEq, Nat.reduceBNe, Nat.reducePow, ↓reduceIte]) (by omega) rfl (by simp [headIds, idsOfs, idsOf]) (by simp [headIds, idsOfs, idsOf])]
          simp [bren_var, rens_cons, rens_nil, ren_v, ren_fs, ren_sl, gcF_s, posOf, renSl_some, eNode_s, Node.name, Node.value, Node.kids]
    · intro _
      rw [List.take_length]
      by_cases hKe : d.keys.flatMap f = []
      · rw [hKe]
        simp only [if_pos]
        simp (maxSteps := 200000) (disch := first | (simp only [go_sem, Nat.reduceAdd, Nat.reduceSub, Nat.reduceMul, Nat.reduceLeDiff, Nat.reduceEqDiff, Nat.reduceLT, Nat.reduceBEq, Nat.reduceBNe, Nat.reducePow, ↓reduceIte]; done) | omega | (simp only [go_sem, Nat.reduceAdd, Nat.reduceSub, Nat.reduceMul, Nat.reduceLeDiff, Nat.reduceEqDiff, Nat.reduceLT, Nat.reduceBEq, Nat.reduceBNe, Nat.reducePow, ↓reduceIte] <;> omega) | fail) only [go_sem, Nat.reduceAdd, Nat.reduceSub, Nat.reduceMul, Nat.reduceLeDiff, Nat.reduceEqDiff, Nat.reduceLT, Nat.reduceBEq, Nat.reduceBNe, Nat.reducePow, ↓reduceIte, nat_int]
        rfl
      · rw [if_neg hKe]
        simp (maxSteps := 200000) (disch := first | (simp only [go_sem, Nat.reduceAdd, Nat.reduceSub, Nat.reduceMul, Nat.reduceLeDiff, Nat.reduceEqDiff, Nat.reduceLT, Nat.reduceBEq, Nat.reduceBNe, Nat.reducePow, ↓reduceIte]; done) | omega | (simp only [go_sem, Nat.reduceAdd, Nat.reduceSub, Nat.reduceMul, Nat.reduceLeDiff, Nat.reduceEqDiff, Nat.reduceLT, Nat.reduceBEq, Nat.reduceBNe, Nat.reducePow, ↓reduceIte] <;> omega) | fail) only [go_sem, Nat.reduceAdd, Nat.reduceSub, Nat.reduceMul, Nat.reduceLeDiff, Nat.reduceEqDiff, Nat.reduceLT, Nat.reduceBEq, Nat.reduceBNe, Nat.reducePow, ↓reduceIte, nat_int]
        rfl
end Go.Abs.SA
end

section
set_option linter.unusedVariables false
set_option linter.unusedSimpArgs false
set_option linter.unusedSectionVars false
set_option maxRecDepth 100000
set_option maxHeartbeats 8000000
set_option linter.unusedSimpArgs false
set_option linter.unusedVariables false
namespace Go.Abs.SA
open Go.Proofs

theorem clrE_m {α : Type} {ts : List AV} {h : List Blk} {e id off len c sz : Nat} {d : TD} {zz : Option Value} {z : List AV} {l : List α} {enc : α → List AV} (h1 : z.length = sz) (h2 : 0 < len) (h3 : off + len ≤ l.length) :
    clrE ts h e id off len (some ⟨d, sz, c, zz⟩) (some z) (some (.arr e sz (l.map enc))) = some (.st (.tup []) ⟨ts, h.set id (.arr e sz ((l.map enc).take off ++ List.replicate len (z.map normC) ++ (l.map enc).drop (off + len)))⟩) := clrE_map h1 h2 h3
attribute [go_sem] clrE_m
/-! Changes of an entry without its keys; a node taken out. -/
abbrev cD (d : Def) : List AV := [vS d.name, vI d.kind, vI d.type, lS d.values, vB d.must, lS d.keys, lD d.kids]
abbrev zN : Node := .mk ⟨#[]⟩ ⟨#[]⟩ []
abbrev zC : Chg := .mk ⟨#[]⟩ ⟨#[]⟩ 0 []
theorem isKeyC_spec (d : Def) (c : Chg) (hd : d.keys.length ≤ 140737488355328) : pureW XX 55 [aChg c, .fp (cD d)] = some (vB (has d.keys c.name)) := by
  refine pureW_in 9 Tryd.func55 Tryd.ntmps55 (by simp) (rfl : Tryd.f55.body = some _) fns_55 ?_
  simp (maxSteps := 200000) (disch := first | (simp only [go_sem, Nat.reduceAdd, Nat.reduceSub, Nat.reduceMul, Nat.reduceLeDiff, Nat.reduceEqDiff, Nat.reduceLT, Nat.reduceBEq, Nat.reduceBNe, Nat.reducePow, ↓reduceIte]; done) | omega | (simp only [go_sem, Nat.reduceAdd, Nat.reduceSub, Nat.reduceMul, Nat.reduceLeDiff, Nat.reduceEqDiff, Nat.reduceLT, Nat.reduceBEq, Nat.reduceBNe, Nat.reducePow, ↓reduceIte] <;> omega) | fail) only [go_sem, Nat.reduceAdd, Nat.reduceSub, Nat.reduceMul, Nat.reduceLeDiff, Nat.reduceEqDiff, Nat.reduceLT, Nat.reduceBEq, Nat.reduceBNe, Nat.reducePow, ↓reduceIte, callA_pure mode_37, contains_spec _ _ hd]
theorem indexC_spec (d : Def) (l : List Chg) (hd : d.keys.length ≤ 140737488355328) (hl : l.length ≤ 140737488355328) : pureW XX 63 [lC l, .fn 55 [.fp (cD d)]] = some (vI (posI (l.findIdx? fun x => has d.keys x.name))) := by
  refine pureW_in 19 Tryd.func63 Tryd.ntmps63 (by simp) (rfl : Tryd.f63.body = some _) fns_63 ?_
  simp (maxSteps := 200000) (disch := first | (simp only [go_sem, Nat.reduceAdd, Nat.reduceSub, Nat.reduceMul, Nat.reduceLeDiff, Nat.reduceEqDiff, Nat.reduceLT, Nat.reduceBEq, Nat.reduceBNe, Nat.reducePow, ↓reduceIte]; done) | omega | (simp only [go_sem, Nat.reduceAdd, Nat.reduceSub, Nat.reduceMul, Nat.reduceLeDiff, Nat.reduceEqDiff, Nat.reduceLT, Nat.reduceBEq, Nat.reduceBNe, Nat.reducePow, ↓reduceIte] <;> omega) | fail) only [go_sem, Nat.reduceAdd, Nat.reduceSub, Nat.reduceMul, Nat.reduceLeDiff, Nat.reduceEqDiff, Nat.reduceLT, Nat.reduceBEq, Nat.reduceBNe, Nat.reducePow, ↓reduceIte]
  refine WP_range 2 0 l.length (fun i => S_63_2 (lC l) (.fn 55 [.fp (cD d)]) (vI l.length) (vI i) []) (fun i => (l.findIdx? fun x => has d.keys x.name) = ((l.drop i).findIdx? fun x => has d.keys x.name).map (· + i)) rfl rfl ?_ ?_ ?_ ?_
  · simp (maxSteps := 200000) (disch := first | (simp only [go_sem, Nat.reduceAdd, Nat.reduceSub, Nat.reduceMul, Nat.reduceLeDiff, Nat.reduceEqDiff, Nat.reduceLT, Nat.reduceBEq, Nat.reduceBNe, Nat.reducePow, ↓reduceIte]; done) | omega | (simp only [go_sem, Nat.reduceAdd, Nat.reduceSub, Nat.reduceMul, Nat.reduceLeDiff, Nat.reduceEqDiff, Nat.reduceLT, Nat.reduceBEq, Nat.reduceBNe, Nat.reducePow, ↓reduceIte] <;> omega) | fail) only [go_sem, Nat.reduceAdd, Nat.reduceSub, Nat.reduceMul, Nat.reduceLeDiff, Nat.reduceEqDiff, Nat.reduceLT, Nat.reduceBEq, Nat.reduceBNe, Nat.reducePow, ↓reduceIte]; rfl
  · simp
  · intro i h hI
    rw [findIdx_step _ _ h] at hI
    have hk := isKeyC_spec d l[i] hd
    cases hv : (fun x : Chg => has d.keys x.name) l[i] with
    | true =>
      simp only at hv
      rw [hv] at hk hI
      simp (maxSteps := 200000) (disch := first | (simp only [go_sem, Nat.reduceAdd, Nat.reduceSub, Nat.reduceMul, Nat.reduceLeDiff, Nat.reduceEqDiff, Nat.reduceLT, Nat.reduceBEq, Nat.reduceBNe, Nat.reducePow, ↓reduceIte]; done) | omega | (simp only [go_sem, Nat.reduceAdd, Nat.reduceSub, Nat.reduceMul, Nat.reduceLeDiff, Nat.reduceEqDiff, Nat.reduceLT, Nat.reduceBEq, Nat.reduceBNe, Nat.reducePow, ↓reduceIte] <;> omega) | fail) only [go_sem, Nat.reduceAdd, Nat.reduceSub, Nat.reduceMul, Nat.reduceLeDiff, Nat.reduceEqDiff, Nat.reduceLT, Nat.reduceBEq, Nat.reduceBNe, Nat.reducePow, ↓reduceIte, nat_int, h, eChg_s, callA_pure mode_55, hk]
      rw [hI]
      simp [posI]
    | false =>
      simp only at hv
      rw [hv] at hk hI
      simp (maxSteps := 200000) (disch := first | (simp only [go_sem, Nat.reduceAdd, Nat.reduceSub, Nat.reduceMul, Nat.reduceLeDiff, Nat.reduceEqDiff, Nat.reduceLT, Nat.reduceBEq, Nat.reduceBNe, Nat.reducePow, ↓reduceIte]; done) | omega | (simp only [go_sem, Nat.reduceAdd, Nat.reduceSub, Nat.reduceMul, Nat.reduceLeDiff, Nat.reduceEqDiff, Nat.reduceLT, Nat.reduceBEq, Nat.reduceBNe, Nat.reducePow, ↓reduceIte] <;> omega) | fail) only [go_sem, Nat.reduceAdd, Nat.reduceSub, Nat.reduceMul, Nat.reduceLeDiff, Nat.reduceEqDiff, Nat.reduceLT, Nat.reduceBEq, Nat.reduceBNe, Nat.reducePow, ↓reduceIte, nat_int, h, eChg_s, callA_pure mode_55, hk, wrap_succ h hl]
      rw [hI]
      simp
      congr 1
      funext x
      simp
      omega
  · intro hI
    simp (maxSteps := 200000) (disch := first | (simp only [go_sem, Nat.reduceAdd, Nat.reduceSub, Nat.reduceMul, Nat.reduceLeDiff, Nat.reduceEqDiff, Nat.reduceLT, Nat.reduceBEq, Nat.reduceBNe, Nat.reducePow, ↓reduceIte]; done) | omega | (simp only [go_sem, Nat.reduceAdd, Nat.reduceSub, Nat.reduceMul, Nat.reduceLeDiff, Nat.reduceEqDiff, Nat.reduceLT, Nat.reduceBEq, Nat.reduceBNe, Nat.reducePow, ↓reduceIte] <;> omega) | fail) only [go_sem, Nat.reduceAdd, Nat.reduceSub, Nat.reduceMul, Nat.reduceLeDiff, Nat.reduceEqDiff, Nat.reduceLT, Nat.reduceBEq, Nat.reduceBNe, Nat.reducePow, ↓reduceIte, nat_int]
    rw [hI]
    simp [posI]
/-- Deletes what is no longer wanted, in place. -/
theorem delF_spec (d : Def) (l : List Chg) (n : Nat) (hd : d.keys.length ≤ 140737488355328) (hn : l.length = n) (hl : n ≤ 1099511627776) : ∃ T : List Chg, (l.filter fun c => !has d.keys c.name).length + T.length = n ∧
    loudW XX 53 [.sl 0 0 n false, .fn 55 [.ptr 1 0]] [.arr 50 4 (l.map eChg), .var (cD d)] = some (.sl 0 0 (l.filter fun c => !has d.keys c.name).length false, [.arr 50 4 (((l.filter fun c => !has d.keys c.name) ++ T).map eChg), .var (cD d)]) := by
  have hix := indexC_spec d l hd (by omega)
  cases hf : l.findIdx? fun x => has d.keys x.name with
  | none =>
    have hfl : (l.filter fun c => !has d.keys c.name) = l := by
      rw [List.findIdx?_eq_none_iff] at hf
      rw [List.filter_eq_self]
      intro a ha
      rw [hf a ha]; rfl
    refine ⟨[], ?_, ?_⟩
    · rw [hfl]; simpa using hn
    · rw [hf] at hix
      have n1 : ((-1 : Int) = -1) = True := eq_true rfl
      refine loudW_in 42 Tryd.func53 Tryd.ntmps53 (by simp) (rfl : Tryd.f53.body = some _) fns_53 ?_
      simp (maxSteps := 200000) (disch := first | (simp only [go_sem, Nat.reduceAdd, Nat.reduceSub, Nat.reduceMul, Nat.reduceLeDiff, Nat.reduceEqDiff, Nat.reduceLT, Nat.reduceBEq, Nat.reduceBNe, Nat.reducePow, ↓reduceIte]; done) | omega | (simp only [go_sem, Nat.reduceAdd, Nat.reduceSub, Nat.reduceMul, Nat.reduceLeDiff, Nat.reduceEqDiff, Nat.reduceLT, Nat.reduceBEq, Nat.reduceBNe, Nat.reducePow, ↓reduceIte] <;> omega) | fail) only [go_sem, Nat.reduceAdd, Nat.reduceSub, Nat.reduceMul, Nat.reduceLeDiff, Nat.reduceEqDiff, Nat.reduceLT, Nat.reduceBEq, Nat.reduceBNe, Nat.reducePow, ↓reduceIte, hn, callA_pure mode_63, hix, posI, n1]
      rw [hfl, hn]
  | some i0 =>
    obtain ⟨hi0, hp0, hq0⟩ := List.findIdx?_eq_some_iff_getElem.1 hf
    have hbase : ((l.take (i0 + 1)).filter fun c => !has d.keys c.name) = l.take i0 := by
      rw [List.take_succ_eq_append_getElem hi0, List.filter_append]
      have h1 : ((l.take i0).filter fun c => !has d.keys c.name) = l.take i0 := by
        rw [List.filter_eq_self]
        intro a ha
        obtain ⟨j, hj, rfl⟩ := List.mem_take_iff_getElem.1 ha
        have := hq0 j (by omega)
        simpa using this
      rw [h1]
      rw [List.filter_cons, if_neg (by simp [hp0]), List.filter_nil, List.append_nil]
    have hfl : (l.filter fun c => !has d.keys c.name).length ≤ n := by rw [← hn]; exact List.length_filter_le _ _
    refine ⟨List.replicate (n - (l.filter fun c => !has d.keys c.name).length) zC, by rw [List.length_replicate]; omega, ?_⟩
    rw [hf] at hix
    have n1 : ((i0 : Int) = -1) = False := eq_false (by omega)
    have w1 : IntKind.i64.wrap ((i0 : Int) + 1) = ((i0 + 1 : Nat) : Int) := by rw [IntWalk.i64_in _ (by omega)]; omega
    refine loudW_in 42 Tryd.func53 Tryd.ntmps53 (by simp) (rfl : Tryd.f53.body = some _) fns_53 ?_
    simp (maxSteps := 200000) (disch := first | (simp only [go_sem, Nat.reduceAdd, Nat.reduceSub, Nat.reduceMul, Nat.reduceLeDiff, Nat.reduceEqDiff, Nat.reduceLT, Nat.reduceBEq, Nat.reduceBNe, Nat.reducePow, ↓reduceIte]; done) | omega | (simp only [go_sem, Nat.reduceAdd, Nat.reduceSub, Nat.reduceMul, Nat.reduceLeDiff, Nat.reduceEqDiff, Nat.reduceLT, Nat.reduceBEq, Nat.reduceBNe, Nat.reducePow, ↓reduceIte] <;> omega) | fail) only [go_sem, Nat.reduceAdd, Nat.reduceSub, Nat.reduceMul, Nat.reduceLeDiff, Nat.reduceEqDiff, Nat.reduceLT, Nat.reduceBEq, Nat.reduceBNe, Nat.reducePow, ↓reduceIte, hn, callA_pure mode_63, hix, posI, n1, w1]
    refine WP_loopR 5 2 (fun (p : Nat × Nat × List Chg) => S_53_5 (.sl 0 0 n false) (.fn 55 [.ptr 1 0]) (vI p.1) (vI p.2.1) [.arr 50 4 (p.2.2.map eChg), .var (cD d)]) (fun p => n - p.2.1) (fun p => p.1 < p.2.1 ∧ p.2.1 ≤ n ∧ p.2.2.length = n ∧ p.2.2.take p.1 = ((l.take p.2.1).filter fun c => !has d.keys c.name) ∧ p.2.2.drop p.2.1 = l.drop p.2.1) (i0, i0 + 1, l) rfl rfl ?_ ?_ ?_
    · simp (maxSteps := 200000) (disch := first | (simp only [go_sem, Nat.reduceAdd, Nat.reduceSub, Nat.reduceMul, Nat.reduceLeDiff, Nat.reduceEqDiff, Nat.reduceLT, Nat.reduceBEq, Nat.reduceBNe, Nat.reducePow, ↓reduceIte]; done) | omega | (simp only [go_sem, Nat.reduceAdd, Nat.reduceSub, Nat.reduceMul, Nat.reduceLeDiff, Nat.reduceEqDiff, Nat.reduceLT, Nat.reduceBEq, Nat.reduceBNe, Nat.reducePow, ↓reduceIte] <;> omega) | fail) only [go_sem, Nat.reduceAdd, Nat.reduceSub, Nat.reduceMul, Nat.reduceLeDiff, Nat.reduceEqDiff, Nat.reduceLT, Nat.reduceBEq, Nat.reduceBNe, Nat.reducePow, ↓reduceIte]
    · exact ⟨by simp only; omega, by simp only; omega, hn, hbase.symm, rfl⟩
    · rintro ⟨i, j, D⟩ ⟨g1, g2, g3, g4, g5⟩
      simp only at g1 g2 g3 g4 g5
      by_cases hj : j < n
      · have hjD : j < D.length := by omega
        have hjl : j < l.length := by omega
        have hiD : i < D.length := by omega
        have hin : i < n := by omega
        have hDj : D[j] = l[j] := by
          have h1 := List.drop_eq_getElem_cons hjD
          have h2 := List.drop_eq_getElem_cons hjl
          rw [g5, h2] at h1
          exact (List.cons.inj h1).1.symm
        have hDr : D.drop (j + 1) = l.drop (j + 1) := by
          have h1 := List.drop_eq_getElem_cons hjD
          have h2 := List.drop_eq_getElem_cons hjl
          rw [g5, h2] at h1
          exact (List.cons.inj h1).2.symm
        have hk := isKeyC_spec d l[j] hd
        have hwj := wrap_succ hj (show n ≤ 140737488355328 by omega)
        have hwi : IntKind.i64.wrap ((i : Int) + 1) = ((i + 1 : Nat) : Int) := by rw [IntWalk.i64_in _ (by omega)]; omega
        cases hv : has d.keys l[j].name with
        | true =>
          rw [hv] at hk
          simp (maxSteps := 200000) (disch := first | (simp only [go_sem, Nat.reduceAdd, Nat.reduceSub, Nat.reduceMul, Nat.reduceLeDiff, Nat.reduceEqDiff, Nat.reduceLT, Nat.reduceBEq, Nat.reduceBNe, Nat.reducePow, ↓reduceIte]; done) | omega | (simp only [go_sem, Nat.reduceAdd, Nat.reduceSub, Nat.reduceMul, Nat.reduceLeDiff, Nat.reduceEqDiff, Nat.reduceLT, Nat.reduceBEq, Nat.reduceBNe, Nat.reducePow, ↓reduceIte] <;> omega) | fail) only [go_sem, Nat.reduceAdd, Nat.reduceSub, Nat.reduceMul, Nat.reduceLeDiff, Nat.reduceEqDiff, Nat.reduceLT, Nat.reduceBEq, Nat.reduceBNe, Nat.reducePow, ↓reduceIte, nat_int, hj, hjD, hiD, hin, hDj, eChg_s, callA_pure mode_55, hk, hwj]
          refine ⟨(i, j + 1, D), rfl, ⟨by simp only; omega, by simp only; omega, g3, ?_, hDr⟩, by simp only; omega⟩
          simp only
          rw [g4, List.take_succ_eq_append_getElem hjl, List.filter_append, List.filter_cons, if_neg (by simp [hv])]
          simp
        | false =>
          rw [hv] at hk
          have hset : (D.map eChg).set i [vS l[j].name, vS l[j].value, vI l[j].op, .fs (l[j].kids.map eChg) false] = (D.set i l[j]).map eChg := by rw [List.map_set, eChg_s]
          simp (maxSteps := 200000) (disch := first | (simp only [go_sem, Nat.reduceAdd, Nat.reduceSub, Nat.reduceMul, Nat.reduceLeDiff, Nat.reduceEqDiff, Nat.reduceLT, Nat.reduceBEq, Nat.reduceBNe, Nat.reducePow, ↓reduceIte]; done) | omega | (simp only [go_sem, Nat.reduceAdd, Nat.reduceSub, Nat.reduceMul, Nat.reduceLeDiff, Nat.reduceEqDiff, Nat.reduceLT, Nat.reduceBEq, Nat.reduceBNe, Nat.reducePow, ↓reduceIte] <;> omega) | fail) only [go_sem, Nat.reduceAdd, Nat.reduceSub, Nat.reduceMul, Nat.reduceLeDiff, Nat.reduceEqDiff, Nat.reduceLT, Nat.reduceBEq, Nat.reduceBNe, Nat.reducePow, ↓reduceIte, nat_int, hj, hjD, hiD, hin, hDj, eChg_s, callA_pure mode_55, hk, hwj, hwi, hset]
          refine ⟨(i + 1, j + 1, D.set i l[j]), rfl, ⟨by simp only; omega, by simp only; omega, by simpa using g3, ?_, ?_⟩, by simp only; omega⟩
          · simp only
            rw [List.take_succ_eq_append_getElem (by rw [List.length_set]; exact hiD), List.getElem_set_self, List.take_set_of_le (Nat.le_refl _), g4, List.take_succ_eq_append_getElem hjl, List.filter_append, List.filter_cons, if_pos (by simp [hv])]
            simp
          · simp only
            rw [List.drop_set_of_lt (by omega), hDr]
      · have hjn : j = n := by omega
        subst hjn
        rw [List.take_of_length_le (by omega : l.length ≤ j)] at g4
        have hil : (l.filter fun c => !has d.keys c.name).length = i := by rw [← g4, List.length_take]; omega
        have hij : i ≤ j := by omega
        have hlt : 0 < j - i := by omega
        have hle : i + (j - i) ≤ D.length := by omega
        simp (maxSteps := 200000) (disch := first | (simp only [go_sem, Nat.reduceAdd, Nat.reduceSub, Nat.reduceMul, Nat.reduceLeDiff, Nat.reduceEqDiff, Nat.reduceLT, Nat.reduceBEq, Nat.reduceBNe, Nat.reducePow, ↓reduceIte]; done) | omega | (simp only [go_sem, Nat.reduceAdd, Nat.reduceSub, Nat.reduceMul, Nat.reduceLeDiff, Nat.reduceEqDiff, Nat.reduceLT, Nat.reduceBEq, Nat.reduceBNe, Nat.reducePow, ↓reduceIte] <;> omega) | fail) only [go_sem, Nat.reduceAdd, Nat.reduceSub, Nat.reduceMul, Nat.reduceLeDiff, Nat.reduceEqDiff, Nat.reduceLT, Nat.reduceBEq, Nat.reduceBNe, Nat.reducePow, ↓reduceIte, nat_int, hij, hlt, hle]
        rw [hil, ← g4, List.drop_eq_nil_of_le (by rw [List.length_map]; omega), List.append_nil, List.map_append, List.map_replicate, eChg_s zC]
        rfl
theorem callX_two10 {X : Abs.X} {t : List AV} {f k e sz : Nat} {es es' : List (List AV)} {cs xs xs' : List AV} {r r' : AV} (hl : (X.live f).contains k = true) (h2 : AV.lts 0 xs = false) (hi : addNew [] (idsOfs xs) = [1, 0]) (hx : AV.rens (fun i => posOf i [1, 0]) xs = xs') (hc : idsOfs cs = []) (he : es'.length = es.length)
    (hw : loudW X k xs' [.arr e sz es, .var cs] = some (r, [.arr e sz es', .var cs])) (hr : r.ren (backF 2 [1, 0]) = r') : callX X (orW X) ⟨t, [.var cs, .arr e sz es]⟩ f k xs = some (.st r' ⟨t, [.var cs, .arr e sz es']⟩) := by
  rw [callX_live _ _ hl h2]
  have hre : reach [.var cs, .arr e sz es] 6 (addNew [] (idsOfs xs)) = [1, 0] := by
    rw [hi]
    simp [addNew, reach, hc]
  have hbl : badL [1, 0] [.arr e sz es, .var cs] [.arr e sz es', .var cs] = [] := by simp [badL, badB, he]
  unfold callL
  dsimp only
  rw [hre]
  have hcnd : dist [1, 0] = true ∧ [1, 0].all (fun i => decide (i < [Blk.var cs, Blk.arr e sz es].length)) = true := by simp [dist]
  rw [if_pos hcnd]
  have hm : ([1, 0].map fun i => (([Blk.var cs, Blk.arr e sz es].getD i .dead).ren fun k => posOf k [1, 0])) = [.arr e sz es, .var cs] := by
    simp [Blk.ren, rens_noids _ cs hc]
  simp only [hm, hx]
  rw [show (orW X).loud k xs' [.arr e sz es, .var cs] = some (r, [.arr e sz es', .var cs]) from hw]
  dsimp only
  rw [hbl, rens_id keepF_nil]
  have hr' : r.ren (backF [Blk.var cs, Blk.arr e sz es].length [1, 0]) = r' := hr
  rw [hr']
  congr 3
  unfold putBack
  simp [Blk.ren, rens_noids _ cs hc, posOf]
theorem frzSl_pre {α : Type} {enc : α → List AV} {e sz : Nat} (F T : List α) : frzSl 0 F.length (some (.arr e sz ((F ++ T).map enc))) = some (.fs (F.map enc) false) := by
  simp only [frzSl, cutEs, Nat.zero_add]
  rw [if_pos (by simp)]
  simp
theorem skip_spec (d : Def) (l : List Chg) (hd : d.keys.length ≤ 140737488355328) (hl : l.length ≤ 1048576) : pureW XX 40 [aDef d, lC l] = some (lC (l.filter fun c => !has d.keys c.name)) := by
  have hcl : loudW XX 54 [lC l] [] = some (.sl 0 0 l.length false, [.arr 50 4 (l.map eChg)]) := by
    rw [cloneX _ _ ⟨by simp; omega, by simp [eChg_len]⟩]
    simp
  obtain ⟨T, hT, hdel⟩ := delF_spec d l l.length hd rfl (by omega)
  have hcx : ∀ t, callX XX (orW XX) ⟨t, [.var (cD d), .arr 50 4 (l.map eChg)]⟩ 40 53 [.sl 1 0 l.length false, .fn 55 [.ptr 0 0]] = some (.st (.sl 1 0 (l.filter fun c => !has d.keys c.name).length false) ⟨t, [.var (cD d), .arr 50 4 (((l.filter fun c => !has d.keys c.name) ++ T).map eChg)]⟩) := fun t =>
    callX_two10 (by rw [live_40]; rfl) (by simp [AV.lts, AV.lt]) (by simp [idsOfs, idsOf, addNew]) (by simp [AV.rens, AV.ren, posOf]) (by simp [idsOfs, idsOf]) (by simp; omega) hdel (by simp [AV.ren, backF])
  have x40 : ∀ (s : St) (xs : List AV), callX XX (orW XX) s 40 54 xs = callA XX (orW XX) s 54 xs := by
    intro s xs; unfold callX; rw [live_40]; rfl
  refine pureW_in 9 Tryd.func40 Tryd.ntmps40 (by simp) (rfl : Tryd.f40.body = some _) fns_40 ?_
  generalize (l.filter fun c => !has d.keys c.name) = F at *
  have hle : F.length ≤ (F ++ T).length := by simp
  simp (maxSteps := 200000) (disch := first | (simp only [go_sem, Nat.reduceAdd, Nat.reduceSub, Nat.reduceMul, Nat.reduceLeDiff, Nat.reduceEqDiff, Nat.reduceLT, Nat.reduceBEq, Nat.reduceBNe, Nat.reducePow, ↓reduceIte]; done) | omega | (simp only [go_sem, Nat.reduceAdd, Nat.reduceSub, Nat.reduceMul, Nat.reduceLeDiff, Nat.reduceEqDiff, Nat.reduceLT, Nat.reduceBEq, Nat.reduceBNe, Nat.reducePow, ↓reduceIte] <;> omega) | fail) only [go_sem, Nat.reduceAdd, Nat.reduceSub, Nat.reduceMul, Nat.reduceLeDiff, Nat.reduceEqDiff, Nat.reduceLT, Nat.reduceBEq, Nat.reduceBNe, Nat.reducePow, ↓reduceIte, x40, callA_fresh mode_54, hcl, hcx, hle]
  exact frzSl_pre F T
end Go.Abs.SA
end

section
set_option linter.unusedVariables false
set_option linter.unusedSimpArgs false
set_option linter.unusedSectionVars false
set_option maxRecDepth 100000
set_option maxHeartbeats 8000000
set_option linter.unusedSimpArgs false
set_option linter.unusedVariables false
namespace Go.Abs.SA
open Go.Proofs

theorem nat_v {i m : Nat} (h : i ≤ m) : nat? (vI i) m = some i := by
  unfold nat?
  dsimp only
  rw [if_pos (by omega)]
  simp
theorem nat_v_no {i m : Nat} (h : m < i) : nat? (vI i) m = none := by
  unfold nat?
  dsimp only
  rw [if_neg (by omega)]
/-- A cut of three bounds, of which nothing is kept in mind but that it may be made. -/
theorem cut3 {k i n : Nat} (hi : i < n) : ∃ y, slcX 0 0 n false k (some (vI i)) (some (vI ((i + 1 : Nat) : Int))) (some (vI n)) (cutB n (some (vI i)) (some (vI ((i + 1 : Nat) : Int))) (some (vI n))) = some y := by
  by_cases h : i + 1 = n
  · subst h
    refine ⟨.sl 0 i 1 true, ?_⟩
    simp only [cutB, nat_v (Nat.le_refl _), nat_v (Nat.le_succ i), if_true, slcX_some, slcS]
    rw [if_neg (by omega), Nat.zero_add, Nat.add_sub_cancel_left]
  · refine ⟨.junk, ?_⟩
    have h2 : i + 1 ≤ n := hi
    simp only [cutB, nat_v (Nat.le_refl _), nat_v h2, nat_v (Nat.le_succ i)]
    rw [if_neg (by omega)]
    simp only [slcX, beyA, cutJ, nat_v (Nat.le_refl _), nat_v h2, nat_v (Nat.le_succ i), Option.isSome_some, if_true]
def beyK (id off : Nat) : Option (Nat × Nat × Bool) → Option AV
  | some (l, h, _) => if l < h then some (.sl id (off + l) (h - l) false) else none
  | none => none
theorem slcX_bey (id off len k : Nat) (lo : Option AV) (x : AV) : slcX id off len false k lo (some x) none none = beyK id off (cutB (k - off) lo (some x) none) := by
  simp only [slcX, beyA]
  rw [if_neg (by simp [cutJ]), if_neg (by simp)]
  cases cutB (k - off) lo (some x) none <;> rfl
theorem beyK_some (id off l h : Nat) (m : Bool) (hl : l < h) : beyK id off (some (l, h, m)) = some (.sl id (off + l) (h - l) false) := by
  simp only [beyK]; rw [if_pos hl]
attribute [go_sem] slcX_bey beyK_some slcS_nil
theorem elemSl_map {α : Type} {l : List α} {enc : α → List AV} {e sz off len : Nat} (h : off + len ≤ l.length) : elemSl sz off len (some (.arr e sz (l.map enc))) = some (((l.drop off).take len).map enc) := by
  simp only [elemSl, cutEs]
  rw [if_pos ⟨by simpa using h, trivial⟩]
  congr 1
  split
  · rename_i hh
    obtain ⟨rfl, hl⟩ := hh
    rw [List.drop_zero, List.take_of_length_le (by rw [List.length_map] at hl; omega)]
  · rw [List.map_take, List.map_drop]
theorem deleteD (D : List Node) (i n : Nat) (hn : n ≤ D.length) (hb : n ≤ 1099511627776) (hi : i < n) :
    loudW XX 39 [.sl 0 0 n false, vI i, vI ((i + 1 : Nat) : Int)] [.arr 41 3 (D.map eNode)] = some (.sl 0 0 (n - 1) false, [.arr 41 3 ((D.take i ++ ((D.take n).drop (i + 1) ++ zN :: D.drop n)).map eNode)]) := by
  refine loudW_in 33 Tryd.func39 Tryd.ntmps39 (by simp) (rfl : Tryd.f39.body = some _) fns_39 ?_
  have c1 : ((i : Int) = ((i + 1 : Nat) : Int)) = False := eq_false (by omega)
  have c2 : i ≤ n := by omega
  have c3 : i + 1 ≤ n := by omega
  obtain ⟨y, hy⟩ := cut3 (k := D.length) hi
  by_cases hl1 : i + 1 = n
  · subst hl1
    have c6 : (i + 1 ≤ i) = False := eq_false (by omega)
    have c7 : i + 1 ≤ D.length - 0 := by omega
    have c8 : i + (i + 1 - i) ≤ D.length := by omega
    have c9 : 0 < i + 1 - i := by omega
    simp (maxSteps := 200000) (disch := first | (simp only [go_sem, Nat.reduceAdd, Nat.reduceSub, Nat.reduceMul, Nat.reduceLeDiff, Nat.reduceEqDiff, Nat.reduceLT, Nat.reduceBEq, Nat.reduceBNe, Nat.reducePow, ↓reduceIte]; done) | omega | (simp only [go_sem, Nat.reduceAdd, Nat.reduceSub, Nat.reduceMul, Nat.reduceLeDiff, Nat.reduceEqDiff, Nat.reduceLT, Nat.reduceBEq, Nat.reduceBNe, Nat.reducePow, ↓reduceIte] <;> omega) | fail) only [go_sem, Nat.reduceAdd, Nat.reduceSub, Nat.reduceMul, Nat.reduceLeDiff, Nat.reduceEqDiff, Nat.reduceLT, Nat.reduceBEq, Nat.reduceBNe, Nat.reducePow, ↓reduceIte, nat_int, c1, c2, c3, c6, c7, c8, c9, hn, List.length_map, hy, Option.bind_none]
    rw [show i + 1 - i = 1 from by omega, Nat.add_sub_cancel, List.drop_eq_nil_of_le (show (D.take (i + 1)).length ≤ i + 1 by rw [List.length_take]; omega), List.nil_append, List.map_append, List.map_cons, eNode_s zN, ← List.map_drop, List.replicate_one, List.append_assoc]
    rfl
  · have hl2 : ¬ (i + 1 = n ∧ i + 1 ≠ 0) := by omega
    have h3 : i + 1 + (n - (i + 1)) ≤ D.length := by omega
    have he := elemSl_map (l := D) (enc := eNode) (e := 41) (sz := 3) h3
    obtain ⟨L, hL⟩ : ∃ L, (D.drop (i + 1)).take (n - (i + 1)) = L := ⟨_, rfl⟩
    have hLl : L.length = n - (i + 1) := by rw [← hL, List.length_take, List.length_drop]; omega
    rw [hL] at he
    have h4 : i + L.length ≤ D.length := by omega
    have h5 : 0 < L.length := by omega
    have h6 : (i + L.length) * 56 ≤ 140737488355328 := by omega
    obtain ⟨E, hE⟩ : ∃ E, D.take i ++ L ++ D.drop (i + L.length) = E := ⟨_, rfl⟩
    have hEl : E.length = D.length := by rw [← hE]; simp only [List.length_append, List.length_take, List.length_drop]; omega
    have hap : ∀ t h, appS t h 41 3 56 0 i (some (.arr 41 3 (D.map eNode))) (some (L.map eNode)) = some (.st (.sl 0 0 (n - 1) false) ⟨t, h.set 0 (.arr 41 3 (E.map eNode))⟩) := by
      intro t h
      have := appS_over (t := t) (h := h) (e := 41) (n := 3) (c := 56) (id := 0) (l := D) (l' := L) (enc := eNode) h4 h5 h6
      rw [hE, show i + L.length = n - 1 from by omega] at this
      exact this
    have c6 : (n ≤ n - 1) = False := eq_false (by omega)
    have c7 : n ≤ E.length - 0 := by omega
    have c7' : n ≤ E.length := by omega
    have c8 : n - 1 + (n - (n - 1)) ≤ E.length := by omega
    have c9 : 0 < n - (n - 1) := by omega
    have c10 : n - 1 ≤ n := by omega
    have c11 : n - 1 < n := by omega
    simp (maxSteps := 200000) (disch := first | (simp only [go_sem, Nat.reduceAdd, Nat.reduceSub, Nat.reduceMul, Nat.reduceLeDiff, Nat.reduceEqDiff, Nat.reduceLT, Nat.reduceBEq, Nat.reduceBNe, Nat.reducePow, ↓reduceIte]; done) | omega | (simp only [go_sem, Nat.reduceAdd, Nat.reduceSub, Nat.reduceMul, Nat.reduceLeDiff, Nat.reduceEqDiff, Nat.reduceLT, Nat.reduceBEq, Nat.reduceBNe, Nat.reducePow, ↓reduceIte] <;> omega) | fail) only [go_sem, Nat.reduceAdd, Nat.reduceSub, Nat.reduceMul, Nat.reduceLeDiff, Nat.reduceEqDiff, Nat.reduceLT, Nat.reduceBEq, Nat.reduceBNe, Nat.reducePow, ↓reduceIte, nat_int, c1, c2, c3, c6, c7, c7', c8, c9, c10, c11, List.length_map, hy, hl2, he, hap, Option.bind_none]
    have hA : (D.take i ++ L).length = n - 1 := by rw [List.length_append, List.length_take]; omega
    have hE1 : E.take (n - 1) = D.take i ++ L := by rw [← hE, ← hA, List.take_left]
    have hE2 : E.drop n = D.drop n := by
      rw [← hE, show n = (D.take i ++ L).length + 1 from by omega, ← List.drop_drop, List.drop_left, List.drop_drop]
      congr 1
      omega
    have hL2 : (D.take n).drop (i + 1) = L := by rw [← hL, List.drop_take]
    rw [hE1, hL2, show n - (n - 1) = 1 from by omega, show n - 1 + 1 = n from by omega, ← List.map_drop, hE2, List.replicate_one, List.map_append, List.map_append, List.map_append, List.map_cons, eNode_s zN]
    simp only [List.append_assoc]
    rfl
theorem delete_spec (ns T : List Node) (i n : Nat) (hn : ns.length = n) (hb : n ≤ 1099511627776) (hi : i < n) :
    loudW XX 39 [.sl 0 0 n false, vI i, vI ((i + 1 : Nat) : Int)] [.arr 41 3 ((ns ++ T).map eNode)] = some (.sl 0 0 (n - 1) false, [.arr 41 3 ((ns.eraseIdx i ++ zN :: T).map eNode)]) := by
  have h := deleteD (ns ++ T) i n (by rw [List.length_append]; omega) hb hi
  rw [h]
  subst hn
  rw [List.take_left, List.drop_left, List.take_append_of_le_length (by omega), List.eraseIdx_eq_take_drop_succ, List.append_assoc]
end Go.Abs.SA
end
