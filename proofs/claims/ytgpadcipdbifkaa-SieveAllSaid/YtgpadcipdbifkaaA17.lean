/- YtgpadcipdbifkaaA17: a part of the interpreter by which the claim is shown, and of the walks: no conditions of its own: every theorem states its own. -/
import Derived.Test.YtgpadcipdbifkaaA16
section
set_option linter.unusedVariables false
set_option linter.unusedSimpArgs false
set_option maxRecDepth 100000
set_option maxHeartbeats 8000000
set_option linter.unusedSimpArgs false
set_option linter.unusedVariables false
namespace Go.Abs.SA
open Go.Proofs

theorem loudW_inH {X : X} {f : FuncId} {args : List AV} {h : List Blk} {fn : Func} {c : Code} {q : AV × List Blk} (m : Nat) (hf : X.P.funcs[f]? = some fn) (hm : fn.ntmps = m) (ha : args.length ≤ m) (hb : fn.body = some c) (hn : X.fns.contains f = true)
    (hw : WP X f c ⟨mkT m (.tup []) (enumA 0 args), h⟩ fun e s => match e with
      | .exit _ => False
      | _ => Is (resultsA X.P s fn.results.toList) fun rs => (oneOr rs, s.h) = q) : loudW X f args h = some q := by
  subst hm
  rw [← enter_mkT args _ ha] at hw
  obtain ⟨r, h1, h2⟩ := bodyW_wp (R := fun x => x = q) hf hb hn hw
  subst h2
  exact bodyW_loud h1
theorem someL_spec (l : List Def) (nodes : List Node) (fs : List Elem) (hod : okDs l) (hl : l.length ≤ 1099511627776) (hcn : cntL nodes ≤ 900000) (hcf : cntEs fs ≤ 900000) :
    loudW XX 43 [lD l, lN nodes, .sl 0 0 fs.length false] [.arr 57 5 (fs.map eElem)] = some (.ptr 2 0, [.arr 57 5 (fs.map eElem), .arr 77 1 ((nodes.map fun x => pickN l x fs).map ePk), .var [vB false, .sl 1 0 nodes.length false]]) := by
  have hln := len_cnt nodes
  have hlf := len_cntEs fs
  refine loudW_inH 66 Try.func43 Try.ntmps43 (by simp) (rfl : Try.f43.body = some _) fns_43 ?_
  have hnn := none_spec nodes.length (by omega)
  simp (maxSteps := 200000) (disch := first | (simp only [go_sem, Nat.reduceAdd, Nat.reduceSub, Nat.reduceMul, Nat.reduceLeDiff, Nat.reduceEqDiff, Nat.reduceLT, Nat.reduceBEq, Nat.reduceBNe, Nat.reducePow, ↓reduceIte]; done) | omega | (simp only [go_sem, Nat.reduceAdd, Nat.reduceSub, Nat.reduceMul, Nat.reduceLeDiff, Nat.reduceEqDiff, Nat.reduceLT, Nat.reduceBEq, Nat.reduceBNe, Nat.reducePow, ↓reduceIte] <;> omega) | fail) only [go_sem, Nat.reduceAdd, Nat.reduceSub, Nat.reduceMul, Nat.reduceLeDiff, Nat.reduceEqDiff, Nat.reduceLT, Nat.reduceBEq, Nat.reduceBNe, Nat.reducePow, ↓reduceIte, callA_fresh mode_62, hnn]
  have hJl : (nodes.map fun x => pickN l x fs).length = nodes.length := by simp
  have hJg : ∀ (i : Nat) (h : i < nodes.length) (h' : i < (nodes.map fun x => pickN l x fs).length), (nodes.map fun x => pickN l x fs)[i] = pickN l nodes[i] fs := by intro i h h'; simp
  generalize (nodes.map fun x => pickN l x fs) = J at *
  refine WP_range 3 3 nodes.length (fun i => S_43_3 (lD l) (.sl 0 0 fs.length false) (.ptr 2 0) (lN nodes) (vI nodes.length) (vI i) [.arr 57 5 (fs.map eElem), .arr 77 1 ((upto J i).map ePk), .var [vB false, .sl 1 0 nodes.length false]]) (fun _ => True) rfl rfl ?_ ?_ ?_ ?_
  · simp (maxSteps := 200000) (disch := first | (simp only [go_sem, Nat.reduceAdd, Nat.reduceSub, Nat.reduceMul, Nat.reduceLeDiff, Nat.reduceEqDiff, Nat.reduceLT, Nat.reduceBEq, Nat.reduceBNe, Nat.reducePow, ↓reduceIte]; done) | omega | (simp only [go_sem, Nat.reduceAdd, Nat.reduceSub, Nat.reduceMul, Nat.reduceLeDiff, Nat.reduceEqDiff, Nat.reduceLT, Nat.reduceBEq, Nat.reduceBNe, Nat.reducePow, ↓reduceIte] <;> omega) | fail) only [go_sem, Nat.reduceAdd, Nat.reduceSub, Nat.reduceMul, Nat.reduceLeDiff, Nat.reduceEqDiff, Nat.reduceLT, Nat.reduceBEq, Nat.reduceBNe, Nat.reducePow, ↓reduceIte]
    rw [upto_zero, hJl]
    rfl
  · trivial
  · intro i h _
    have hJi : i < J.length := by omega
    have hg := hJg i h hJi
    have hwi := wrap_succ h (show nodes.length ≤ 140737488355328 by omega)
    have pl := find_spec l nodes[i].name (by omega)
    have hfull := upto_set J hJi
    rw [hg] at hfull
    have hni := cnt_mem (List.getElem_mem h)
    cases hp : place l nodes[i].name with
    | none =>
      rw [hp] at pl
      simp only [posI] at pl
      have n1 : (0 ≤ (-1 : Int)) = False := eq_false (by omega)
      have hpk : pickN l nodes[i] fs = .nil := by rw [pickN_s, hp]
      rw [hpk, upto_nil J hJi] at hfull
      simp (maxSteps := 200000) (disch := first | (simp only [go_sem, Nat.reduceAdd, Nat.reduceSub, Nat.reduceMul, Nat.reduceLeDiff, Nat.reduceEqDiff, Nat.reduceLT, Nat.reduceBEq, Nat.reduceBNe, Nat.reducePow, ↓reduceIte]; done) | omega | (simp only [go_sem, Nat.reduceAdd, Nat.reduceSub, Nat.reduceMul, Nat.reduceLeDiff, Nat.reduceEqDiff, Nat.reduceLT, Nat.reduceBEq, Nat.reduceBNe, Nat.reducePow, ↓reduceIte] <;> omega) | fail) only [go_sem, Nat.reduceAdd, Nat.reduceSub, Nat.reduceMul, Nat.reduceLeDiff, Nat.reduceEqDiff, Nat.reduceLT, Nat.reduceBEq, Nat.reduceBNe, Nat.reducePow, ↓reduceIte, nat_int, h, eNode_s, callA_pure mode_31, pl]
      refine WP_range 7 4 fs.length (fun j => S_43_7 (lD l) (.sl 0 0 fs.length false) (.ptr 2 0) (vI i) (.ptr 3 0) (vI (-1)) (lN nodes) (vI nodes.length) (vI i) (.sl 0 0 fs.length false) (vI fs.length) (vI j) [.arr 57 5 (fs.map eElem), .arr 77 1 ((upto J i).map ePk), .var [vB false, .sl 1 0 nodes.length false], .var [vS nodes[i].name, vS nodes[i].value, lN nodes[i].kids]]) (fun _ => True) rfl rfl ?_ ?_ ?_ ?_
      · simp (maxSteps := 200000) (disch := first | (simp only [go_sem, Nat.reduceAdd, Nat.reduceSub, Nat.reduceMul, Nat.reduceLeDiff, Nat.reduceEqDiff, Nat.reduceLT, Nat.reduceBEq, Nat.reduceBNe, Nat.reducePow, ↓reduceIte]; done) | omega | (simp only [go_sem, Nat.reduceAdd, Nat.reduceSub, Nat.reduceMul, Nat.reduceLeDiff, Nat.reduceEqDiff, Nat.reduceLT, Nat.reduceBEq, Nat.reduceBNe, Nat.reducePow, ↓reduceIte] <;> omega) | fail) only [go_sem, Nat.reduceAdd, Nat.reduceSub, Nat.reduceMul, Nat.reduceLeDiff, Nat.reduceEqDiff, Nat.reduceLT, Nat.reduceBEq, Nat.reduceBNe, Nat.reducePow, ↓reduceIte]; rfl
      · trivial
      · intro j hj _
        simp (maxSteps := 200000) (disch := first | (simp only [go_sem, Nat.reduceAdd, Nat.reduceSub, Nat.reduceMul, Nat.reduceLeDiff, Nat.reduceEqDiff, Nat.reduceLT, Nat.reduceBEq, Nat.reduceBNe, Nat.reducePow, ↓reduceIte]; done) | omega | (simp only [go_sem, Nat.reduceAdd, Nat.reduceSub, Nat.reduceMul, Nat.reduceLeDiff, Nat.reduceEqDiff, Nat.reduceLT, Nat.reduceBEq, Nat.reduceBNe, Nat.reducePow, ↓reduceIte] <;> omega) | fail) only [go_sem, Nat.reduceAdd, Nat.reduceSub, Nat.reduceMul, Nat.reduceLeDiff, Nat.reduceEqDiff, Nat.reduceLT, Nat.reduceBEq, Nat.reduceBNe, Nat.reducePow, ↓reduceIte, nat_int, hj, eElem_s, n1, wrap_succ hj (show fs.length ≤ 140737488355328 by omega)]
      · intro _
        simp (maxSteps := 200000) (disch := first | (simp only [go_sem, Nat.reduceAdd, Nat.reduceSub, Nat.reduceMul, Nat.reduceLeDiff, Nat.reduceEqDiff, Nat.reduceLT, Nat.reduceBEq, Nat.reduceBNe, Nat.reducePow, ↓reduceIte]; done) | omega | (simp only [go_sem, Nat.reduceAdd, Nat.reduceSub, Nat.reduceMul, Nat.reduceLeDiff, Nat.reduceEqDiff, Nat.reduceLT, Nat.reduceBEq, Nat.reduceBNe, Nat.reducePow, ↓reduceIte] <;> omega) | fail) only [go_sem, Nat.reduceAdd, Nat.reduceSub, Nat.reduceMul, Nat.reduceLeDiff, Nat.reduceEqDiff, Nat.reduceLT, Nat.reduceBEq, Nat.reduceBNe, Nat.reducePow, ↓reduceIte, nat_int, hwi]
        rw [hfull]
    | some q =>
      obtain ⟨hq, hqn⟩ := place_some hp
      rw [hp] at pl
      simp only [posI] at pl
      have n1 : (0 ≤ (q : Int)) = True := eq_true (by omega)
      have hod2 := okDs_mem hod (List.getElem_mem hq)
      obtain ⟨o1, o2, o3, o4⟩ := okD_s hod2
      have hcd := cntD_mem (List.getElem_mem hq)
      rw [cntD_s] at hcd
      have hpk := pickN_t l nodes[i] fs hp hq
      simp (maxSteps := 200000) (disch := first | (simp only [go_sem, Nat.reduceAdd, Nat.reduceSub, Nat.reduceMul, Nat.reduceLeDiff, Nat.reduceEqDiff, Nat.reduceLT, Nat.reduceBEq, Nat.reduceBNe, Nat.reducePow, ↓reduceIte]; done) | omega | (simp only [go_sem, Nat.reduceAdd, Nat.reduceSub, Nat.reduceMul, Nat.reduceLeDiff, Nat.reduceEqDiff, Nat.reduceLT, Nat.reduceBEq, Nat.reduceBNe, Nat.reducePow, ↓reduceIte] <;> omega) | fail) only [go_sem, Nat.reduceAdd, Nat.reduceSub, Nat.reduceMul, Nat.reduceLeDiff, Nat.reduceEqDiff, Nat.reduceLT, Nat.reduceBEq, Nat.reduceBNe, Nat.reducePow, ↓reduceIte, nat_int, h, eNode_s, callA_pure mode_31, pl]
      refine WP_range 7 4 fs.length (fun j => S_43_7 (lD l) (.sl 0 0 fs.length false) (.ptr 2 0) (vI i) (.ptr 3 0) (vI q) (lN nodes) (vI nodes.length) (vI i) (.sl 0 0 fs.length false) (vI fs.length) (vI j) [.arr 57 5 (fs.map eElem), .arr 77 1 (((upto J i).set i ((fs.take j).foldl (stepP l[q] nodes[i]) .nil)).map ePk), .var [vB false, .sl 1 0 nodes.length false], .var [vS nodes[i].name, vS nodes[i].value, lN nodes[i].kids]]) (fun _ => True) rfl rfl ?_ ?_ ?_ ?_
      · simp (maxSteps := 200000) (disch := first | (simp only [go_sem, Nat.reduceAdd, Nat.reduceSub, Nat.reduceMul, Nat.reduceLeDiff, Nat.reduceEqDiff, Nat.reduceLT, Nat.reduceBEq, Nat.reduceBNe, Nat.reducePow, ↓reduceIte]; done) | omega | (simp only [go_sem, Nat.reduceAdd, Nat.reduceSub, Nat.reduceMul, Nat.reduceLeDiff, Nat.reduceEqDiff, Nat.reduceLT, Nat.reduceBEq, Nat.reduceBNe, Nat.reducePow, ↓reduceIte] <;> omega) | fail) only [go_sem, Nat.reduceAdd, Nat.reduceSub, Nat.reduceMul, Nat.reduceLeDiff, Nat.reduceEqDiff, Nat.reduceLT, Nat.reduceBEq, Nat.reduceBNe, Nat.reducePow, ↓reduceIte]
        rw [List.foldl_nil, upto_nil J hJi]
        rfl
      · trivial
      · intro j hj _
        have hws := wrap_succ hj (show fs.length ≤ 140737488355328 by omega)
        have hacc := fold_fit l[q] nodes[i] (fs.take j) .nil (fit_nil _)
        have htk : (fs.take (j + 1)).foldl (stepP l[q] nodes[i]) .nil = stepP l[q] nodes[i] ((fs.take j).foldl (stepP l[q] nodes[i]) .nil) fs[j] := by
          rw [List.take_succ_eq_append_getElem hj, List.foldl_append]; rfl
        rw [htk]
        generalize (fs.take j).foldl (stepP l[q] nodes[i]) .nil = acc at *
        have hset : ∀ x, ((upto J i).set i acc).set i x = (upto J i).set i x := fun x => List.set_set ..
        have hul : ((upto J i).set i acc).length = nodes.length := by rw [List.length_set, upto_len, hJl]
        have hui : ∀ hh : i < ((upto J i).set i acc).length, ((upto J i).set i acc)[i] = acc := fun hh => List.getElem_set_self hh
        obtain ⟨u, hu⟩ : ∃ u, (upto J i).set i acc = u := ⟨_, rfl⟩
        rw [hu] at hul
        simp only [hu] at hset hui
        have hiu : i < u.length := by omega
        have hui := hui hiu
        unfold stepP
        rw [hu]
        by_cases hnm : fs[j].name = nodes[i].name
        case neg =>
          rw [if_neg hnm, hu]
          simp (maxSteps := 200000) (disch := first | (simp only [go_sem, Nat.reduceAdd, Nat.reduceSub, Nat.reduceMul, Nat.reduceLeDiff, Nat.reduceEqDiff, Nat.reduceLT, Nat.reduceBEq, Nat.reduceBNe, Nat.reducePow, ↓reduceIte]; done) | omega | (simp only [go_sem, Nat.reduceAdd, Nat.reduceSub, Nat.reduceMul, Nat.reduceLeDiff, Nat.reduceEqDiff, Nat.reduceLT, Nat.reduceBEq, Nat.reduceBNe, Nat.reducePow, ↓reduceIte] <;> omega) | fail) only [go_sem, Nat.reduceAdd, Nat.reduceSub, Nat.reduceMul, Nat.reduceLeDiff, Nat.reduceEqDiff, Nat.reduceLT, Nat.reduceBEq, Nat.reduceBNe, Nat.reducePow, ↓reduceIte, nat_int, hj, eElem_s, n1, hnm, hws]
        have hnm' := eq_true hnm
        rw [if_pos hnm, ← hset (joinP acc (fitsD l[q] nodes[i] fs[j]))]
        have hfi := fits_of l[q] nodes[i] fs[j] hod2 (by omega) (by have := cntE_mem (List.getElem_mem hj); omega) (fun ns es h1 h2 => some_spec (cntDs l[q].kids + 1) l[q].kids ns es (by omega) o4 o3 h1 h2)
        have hff := fits_fit l[q] nodes[i] fs[j]
        generalize fitsD l[q] nodes[i] fs[j] = F at *
        have hsh := fit_shape (cntN nodes[i] + 1) (n := nodes[i]) (by omega) hacc hff
        rcases join_cases hsh with hjc | ⟨c, c', e1, e2⟩
        · simp (maxSteps := 200000) (disch := first | (simp only [go_sem, Nat.reduceAdd, Nat.reduceSub, Nat.reduceMul, Nat.reduceLeDiff, Nat.reduceEqDiff, Nat.reduceLT, Nat.reduceBEq, Nat.reduceBNe, Nat.reducePow, ↓reduceIte]; done) | omega | (simp only [go_sem, Nat.reduceAdd, Nat.reduceSub, Nat.reduceMul, Nat.reduceLeDiff, Nat.reduceEqDiff, Nat.reduceLT, Nat.reduceBEq, Nat.reduceBNe, Nat.reducePow, ↓reduceIte] <;> omega) | fail) only [go_sem, Nat.reduceAdd, Nat.reduceSub, Nat.reduceMul, Nat.reduceLeDiff, Nat.reduceEqDiff, Nat.reduceLT, Nat.reduceBEq, Nat.reduceBNe, Nat.reducePow, ↓reduceIte, nat_int, h, hj, hq, eElem_s, eNode_s, eDef_s, n1, hnm', hws, hiu, hui, ePk_s, callA_data mode_64, hfi, callA_fresh mode_63, hjc]
        · have hac := fit_cnt acc nodes[i] hacc
          rw [e1, cntP] at hac
          have hcl : c.length ≤ 1099511627776 := by
            have : ∀ l : List Pk, l.length ≤ cntPs l := by
              intro l
              induction l with
              | nil => simp
              | cons p r ih2 => rw [cntPs, List.length_cons]; have : 1 ≤ cntP p := by cases p <;> simp [cntP]
                                omega
            have := this c
            omega
          have hjc := join_spec (cntPs c + 1) c c' (by omega) (by omega) (by rw [← e1, ← e2]; exact hsh) hcl
          subst e1
          subst e2
          rw [joinP, if_neg (by simp)]
          generalize joinL c c' = cc at *
          have hcc := mk_P cc
          simp (maxSteps := 200000) (disch := first | (simp only [go_sem, Nat.reduceAdd, Nat.reduceSub, Nat.reduceMul, Nat.reduceLeDiff, Nat.reduceEqDiff, Nat.reduceLT, Nat.reduceBEq, Nat.reduceBNe, Nat.reducePow, ↓reduceIte]; done) | omega | (simp only [go_sem, Nat.reduceAdd, Nat.reduceSub, Nat.reduceMul, Nat.reduceLeDiff, Nat.reduceEqDiff, Nat.reduceLT, Nat.reduceBEq, Nat.reduceBNe, Nat.reducePow, ↓reduceIte] <;> omega) | fail) only [go_sem, Nat.reduceAdd, Nat.reduceSub, Nat.reduceMul, Nat.reduceLeDiff, Nat.reduceEqDiff, Nat.reduceLT, Nat.reduceBEq, Nat.reduceBNe, Nat.reducePow, ↓reduceIte, nat_int, h, hj, hq, eElem_s, eNode_s, eDef_s, n1, hnm', hws, hiu, hui, ePk_s, callA_data mode_64, hfi, callA_fresh mode_63, hjc, hcc]
      · intro _
        rw [List.take_length, ← hpk, hfull]
        simp (maxSteps := 200000) (disch := first | (simp only [go_sem, Nat.reduceAdd, Nat.reduceSub, Nat.reduceMul, Nat.reduceLeDiff, Nat.reduceEqDiff, Nat.reduceLT, Nat.reduceBEq, Nat.reduceBNe, Nat.reducePow, ↓reduceIte]; done) | omega | (simp only [go_sem, Nat.reduceAdd, Nat.reduceSub, Nat.reduceMul, Nat.reduceLeDiff, Nat.reduceEqDiff, Nat.reduceLT, Nat.reduceBEq, Nat.reduceBNe, Nat.reducePow, ↓reduceIte] <;> omega) | fail) only [go_sem, Nat.reduceAdd, Nat.reduceSub, Nat.reduceMul, Nat.reduceLeDiff, Nat.reduceEqDiff, Nat.reduceLT, Nat.reduceBEq, Nat.reduceBNe, Nat.reducePow, ↓reduceIte, nat_int, hwi]
  · intro _
    rw [show upto J nodes.length = J from by rw [← hJl]; exact upto_all J]
    simp (maxSteps := 200000) (disch := first | (simp only [go_sem, Nat.reduceAdd, Nat.reduceSub, Nat.reduceMul, Nat.reduceLeDiff, Nat.reduceEqDiff, Nat.reduceLT, Nat.reduceBEq, Nat.reduceBNe, Nat.reducePow, ↓reduceIte]; done) | omega | (simp only [go_sem, Nat.reduceAdd, Nat.reduceSub, Nat.reduceMul, Nat.reduceLeDiff, Nat.reduceEqDiff, Nat.reduceLT, Nat.reduceBEq, Nat.reduceBNe, Nat.reducePow, ↓reduceIte] <;> omega) | fail) only [go_sem, Nat.reduceAdd, Nat.reduceSub, Nat.reduceMul, Nat.reduceLeDiff, Nat.reduceEqDiff, Nat.reduceLT, Nat.reduceBEq, Nat.reduceBNe, Nat.reducePow, ↓reduceIte, nat_int, aPk_mk]


theorem x26_44 (s : St) (xs : List AV) : callX XX (orW XX) s 26 44 xs = callA XX (orW XX) s 44 xs := by
  unfold callX; rw [live_26]; rfl
theorem filterL_spec (l : List Def) (nodes : List Node) (fs : List Elem) (hod : okDs l) (hl : l.length ≤ 1099511627776) (hcn : cntL nodes ≤ 900000) (hcf : cntEs fs ≤ 900000) :
    loudW XX 26 [lD l, lN nodes, .sl 0 0 fs.length false] [.arr 57 5 (fs.map eElem)] = some (lN (sieveF l nodes fs), [.arr 57 5 (fs.map eElem), .dead, .dead]) := by
  refine loudW_inH 13 Try.func26 Try.ntmps26 (by simp) (rfl : Try.f26.body = some _) fns_26 ?_
  have hs := someL_spec l nodes fs hod hl hcn hcf
  have hfit := mapPick_fit (s := nodes) (g := fun x => pickN l x fs) (fun x _ => pick_fit l x fs)
  have hc := cut_spec (cntL nodes + 1) _ nodes (by omega) (by omega) hfit
  unfold sieveF
  generalize (nodes.map fun x => pickN l x fs) = J at *
  rw [aPk_mk] at hc
  have hJl := fitL_len hfit
  rw [← hJl] at hs
  have hcl : ∀ (s : St), s.h = [.arr 57 5 (fs.map eElem)] → callX XX (orW XX) s 26 43 [lD l, lN nodes, .sl 0 0 fs.length false] = some (.st (.ptr 2 0) ⟨s.t, [.arr 57 5 (fs.map eElem), .arr 77 1 (J.map ePk), .var [vB false, .sl 1 0 J.length false]]⟩) := by
    intro s hh
    rw [callX_live _ _ (by rw [live_26]; rfl) (by simp [AV.lts, AV.lt])]
    rw [callL_arr (id := 0) (e := 57) (sz := 5) (es := fs.map eElem) (r := .ptr 2 0) (bs := [.arr 77 1 (J.map ePk), .var [vB false, .sl 1 0 J.length false]]) (by simp [idsOfs, idsOf]) (by rw [hh]; rfl) (by simpa [AV.rens, AV.ren, posOf] using hs)]
    rw [hh]
    simp [AV.ren, AV.rens, backF, Blk.ren]
  simp (maxSteps := 200000) (disch := first | (simp only [go_sem, Nat.reduceAdd, Nat.reduceSub, Nat.reduceMul, Nat.reduceLeDiff, Nat.reduceEqDiff, Nat.reduceLT, Nat.reduceBEq, Nat.reduceBNe, Nat.reducePow, ↓reduceIte]; done) | omega | (simp only [go_sem, Nat.reduceAdd, Nat.reduceSub, Nat.reduceMul, Nat.reduceLeDiff, Nat.reduceEqDiff, Nat.reduceLT, Nat.reduceBEq, Nat.reduceBNe, Nat.reducePow, ↓reduceIte] <;> omega) | fail) only [go_sem, Nat.reduceAdd, Nat.reduceSub, Nat.reduceMul, Nat.reduceLeDiff, Nat.reduceEqDiff, Nat.reduceLT, Nat.reduceBEq, Nat.reduceBNe, Nat.reducePow, ↓reduceIte, hcl, x26_44, callA_data mode_44, hc]
end Go.Abs.SA
end

section
set_option linter.unusedVariables false
set_option linter.unusedSimpArgs false
set_option maxRecDepth 100000
set_option maxHeartbeats 4000000
set_option linter.unusedSimpArgs false
set_option linter.unusedVariables false
namespace Go.Abs.SA
open Go.Proofs

theorem join_whole_l (q : Pk) : joinP wholeP q = wholeP := by cases q <;> simp [wholeP, joinP]
theorem join_whole_r (p : Pk) : joinP p wholeP = wholeP := by rw [joinP_comm, join_whole_l]
/-! All of a node. -/
mutual
def fullP : Pk → Node → Prop
  | .nil, _ => False
  | .mk true _, _ => True
  | .mk false c, .mk _ _ ks => fullL c ks
def fullL : List Pk → List Node → Prop
  | [], [] => True
  | p :: r, n :: s => fullP p n ∧ fullL r s
  | _, _ => False
end
theorem fullP_s {c : List Pk} {n : Node} : fullP (.mk false c) n ↔ fullL c n.kids := by cases n; rw [fullP]; rfl
theorem fullP_w (n : Node) : fullP wholeP n := by cases n; rw [wholeP, fullP]; trivial
theorem fullL_len : ∀ {c : List Pk} {s : List Node}, fullL c s → c.length = s.length
  | [], [], _ => rfl
  | [], n :: s, h => by simp [fullL] at h
  | p :: r, [], h => by simp [fullL] at h
  | p :: r, n :: s, h => by rw [fullL] at h; rw [List.length_cons, List.length_cons, fullL_len h.2]
theorem fullL_iff : ∀ {c : List Pk} {s : List Node}, fullL c s ↔ c.length = s.length ∧ ∀ (i : Nat) (h1 : i < c.length) (h2 : i < s.length), fullP c[i] s[i]
  | [], [] => by simp [fullL]
  | [], n :: s => by simp [fullL]
  | p :: r, [] => by simp [fullL]
  | p :: r, n :: s => by
    rw [fullL, fullL_iff (c := r) (s := s)]
    constructor
    · rintro ⟨h1, h2, h3⟩
      refine ⟨by simp [h2], fun i g1 g2 => ?_⟩
      cases i with
      | zero => exact h1
      | succ i => exact h3 i (by simpa using g1) (by simpa using g2)
    · rintro ⟨h1, h2⟩
      refine ⟨h2 0 (by simp) (by simp), by simpa using h1, fun i g1 g2 => ?_⟩
      exact h2 (i + 1) (by simpa using g1) (by simpa using g2)
mutual
theorem full_cut : ∀ (p : Pk) (n : Node), fullP p n → cutN p n = [n]
  | .nil, n, h => by simp [fullP] at h
  | .mk true c, n, h => by simp [cutN]
  | .mk false c, n, h => by
    rw [fullP_s] at h
    rw [cutN_mk (by simp), kidsP, full_cutL c n.kids h, node_mk]
theorem full_cutL : ∀ (c : List Pk) (s : List Node), fullL c s → cutL c s = s
  | [], [], h => by simp [cutL]
  | [], n :: s, h => by simp [fullL] at h
  | p :: r, [], h => by simp [fullL] at h
  | p :: r, n :: s, h => by
    rw [fullL] at h
    rw [cutL, full_cut p n h.1, full_cutL r s h.2]; rfl
end
mutual
theorem full_join : ∀ (p q : Pk) (n : Node), fullP p n → fitP q n → fullP (joinP p q) n
  | .nil, q, n, h, hq => by simp [fullP] at h
  | .mk a c, .nil, n, h, hq => by
    rw [show joinP (.mk a c) .nil = .mk a c from by rw [joinP]]; exact h
  | .mk true c, .mk b m, n, h, hq => by
    rw [joinP, Bool.true_or, if_pos rfl]; exact fullP_w n
  | .mk false c, .mk true m, n, h, hq => by
    rw [joinP, Bool.or_true, if_pos rfl]; exact fullP_w n
  | .mk false c, .mk false m, n, h, hq => by
    rw [joinP, Bool.or_self, if_neg (by simp)]
    rw [fullP_s] at h ⊢
    rw [fitP] at hq
    rcases hq with ⟨hq, -⟩ | ⟨-, hq⟩
    · cases hq
    · exact full_joinL c m n.kids h hq
theorem full_joinL : ∀ (c m : List Pk) (s : List Node), fullL c s → fitL m s → fullL (joinL c m) s
  | [], m, [], h, hq => by
    rw [show joinL [] m = [] from by simp [joinL]]; exact h
  | [], m, n :: s, h, hq => by simp [fullL] at h
  | p :: r, [], [], h, hq => by simp [fullL] at h
  | p :: r, [], n :: s, h, hq => by simp [fitL] at hq
  | p :: r, q :: t, [], h, hq => by simp [fullL] at h
  | p :: r, q :: t, n :: s, h, hq => by
    rw [fullL] at h
    rw [fitL] at hq
    rw [joinL, fullL]
    exact ⟨full_join p q n h.1 hq.1, full_joinL r t s h.2 hq.2⟩
end
theorem fold_full (d : Def) (n : Node) : ∀ (fs : List Elem) (p : Pk), fullP p n → fullP (fs.foldl (stepP d n) p) n
  | [], p, h => h
  | f :: fs, p, h => by
    rw [List.foldl_cons]
    apply fold_full d n fs
    unfold stepP
    split
    · exact full_join p _ n h (fits_fit d n f)
    · exact h
theorem fold_one (d : Def) (n : Node) {f : Elem} (hn : f.name = n.name) (hf : fullP (fitsD d n f) n) : ∀ (fs : List Elem) (p : Pk), f ∈ fs → fitP p n → fullP (fs.foldl (stepP d n) p) n
  | [], p, h, _ => by simp at h
  | g :: fs, p, h, hp => by
    rw [List.foldl_cons]
    rcases List.mem_cons.1 h with rfl | h
    · apply fold_full
      unfold stepP
      rw [if_pos hn, joinP_comm]
      exact full_join _ _ n hf hp
    · apply fold_one d n hn hf fs _ h
      unfold stepP
      split
      · exact fit_join (cntN n + 1) (by omega) hp (fits_fit d n g)
      · exact hp
theorem pick_one {l : List Def} {n : Node} {fs : List Elem} (hw : wfDs l) {d : Def} {f : Elem} (hd : d ∈ l) (he : n.name = d.name) (hf : f ∈ fs) (hn : f.name = n.name) (hfull : fullP (fitsD d n f) n) : fullP (pickN l n fs) n := by
  obtain ⟨q, hq1, hq2⟩ := place_of hw hd he
  obtain ⟨hq, -⟩ := place_some hq1
  rw [pickN_t l n fs hq1 hq]
  rw [List.getElem?_eq_getElem hq] at hq2
  cases hq2
  exact fold_one _ n hn hfull fs .nil hf (fit_nil _)
theorem sieve_full {l : List Def} {n : List Node} {fs : List Elem} (h : ∀ x ∈ n, fullP (pickN l x fs) x) : sieveF l n fs = n := by
  unfold sieveF
  apply full_cutL
  rw [fullL_iff]
  refine ⟨by simp, fun i h1 h2 => ?_⟩
  rw [List.getElem_map]
  exact h _ (List.getElem_mem h2)
/-- Elements that stand for the whole tree. -/
def allE (l : List Def) : List Elem := l.map fun d => .mk ⟨#[]⟩ d.name [] ⟨#[]⟩ []
theorem fits_bare (d : Def) (n : Node) (s nm : Str) : fitsD d n (.mk s nm [] ⟨#[]⟩ []) = wholeP := by
  rw [fitsD_s]
  simp [Elem.kids, Elem.text]
theorem sieve_all {l : List Def} {n : List Node} (hw : wfDs l) (h : ∀ x ∈ n, ∃ d ∈ l, x.name = d.name) : sieveF l n (allE l) = n := by
  apply sieve_full
  intro x hx
  obtain ⟨d, hd, he⟩ := h x hx
  exact pick_one hw hd he (f := .mk ⟨#[]⟩ d.name [] ⟨#[]⟩ []) (List.mem_map.2 ⟨d, hd, rfl⟩) he.symm (by rw [fits_bare]; exact fullP_w x)
theorem sieve_name {l : List Def} {n : List Node} (hw : wfDs l) (h : ∀ x ∈ n, ∃ d ∈ l, x.name = d.name) (nm : Str) : sieveF l n [.mk ⟨#[]⟩ nm [] ⟨#[]⟩ []] = n.filter fun x => decide (x.name = nm) := by
  have hp : ∀ x ∈ n, pickN l x [.mk ⟨#[]⟩ nm [] ⟨#[]⟩ []] = if x.name = nm then wholeP else .nil := by
    intro x hx
    obtain ⟨d, hd, he⟩ := h x hx
    obtain ⟨q, hq1, hq2⟩ := place_of hw hd he
    obtain ⟨hq, -⟩ := place_some hq1
    rw [pickN_t l x _ hq1 hq, List.foldl_cons, List.foldl_nil]
    unfold stepP
    rw [fits_bare]
    by_cases hn : x.name = nm
    · rw [if_pos hn, if_pos (show (Elem.mk ⟨#[]⟩ nm [] ⟨#[]⟩ []).name = x.name from hn.symm)]
      rw [joinP]
    · rw [if_neg hn, if_neg (show ¬ (Elem.mk ⟨#[]⟩ nm [] ⟨#[]⟩ []).name = x.name from fun e => hn e.symm)]
  unfold sieveF
  rw [List.map_congr_left hp]
  clear hp h
  induction n with
  | nil => simp [cutL]
  | cons a r ih =>
    rw [List.map_cons, cutL, ih, List.filter_cons]
    by_cases hn : a.name = nm <;> simp [hn, wholeP, cutN]

/-! The shape of what is read. -/
mutual
def shN : List Def → Node → Prop
  | l, .mk nm v ks => ∃ d ∈ l, nm = d.name ∧ (d.kind = 3 → ks = []) ∧ (d.kind ≠ 3 → v = ⟨#[]⟩) ∧ shL d.kids ks
def shL : List Def → List Node → Prop
  | _, [] => True
  | l, x :: r => shN l x ∧ shL l r
end
theorem shN_s {l : List Def} {x : Node} : shN l x ↔ ∃ d ∈ l, x.name = d.name ∧ (d.kind = 3 → x.kids = []) ∧ (d.kind ≠ 3 → x.value = ⟨#[]⟩) ∧ shL d.kids x.kids := by cases x; rw [shN]; rfl
theorem shL_iff {l : List Def} : ∀ {a : List Node}, shL l a ↔ ∀ x ∈ a, shN l x
  | [] => by simp [shL]
  | x :: r => by rw [shL, shL_iff (a := r)]; simp
mutual
theorem rdE_sh (l : List Def) : ∀ (e : Elem) (d : Def) (n : Node), rdE l e = .ok (d, n) → shN l n
  | .mk s nm a t k, d, n, h => by
    have hp := rdE_place h
    rw [rdE] at h
    split at h
    · cases h
    · split at h
      · cases h
      · split at h
        · rename_i h3
          split at h
          · cases h
          · cases h
            rw [shN_s]
            exact ⟨d, hp.1, hp.2, fun _ => rfl, fun hn => absurd h3 hn, by simp [Node.kids, shL]⟩
        · rename_i h3
          split at h
          · cases h
          · split at h
            · cases h
            · rename_i nodes hn
              split at h
              · cases h
                rw [shN_s]
                exact ⟨d, hp.1, hp.2, fun h => absurd h h3, fun _ => rfl, shL_iff.2 (rdL_sh _ k [] [] _ (by simp) hn)⟩
              · cases h
theorem rdL_sh (l : List Def) : ∀ (es : List Elem) (out all nodes : List Node), (∀ x ∈ out, shN l x) → rdL l out all es = .ok nodes → ∀ x ∈ nodes, shN l x
  | [], out, all, nodes, h1, h => by
    rw [rdL] at h
    split at h
    · cases h
    · cases h
      exact fun x hx => h1 x ((order_mem l out).1 hx)
  | e :: r, out, all, nodes, h1, h => by
    rw [rdL] at h
    split at h
    · cases h
    · rename_i d n hn
      split at h
      · cases h
      · refine rdL_sh l r _ _ _ ?_ h
        intro x hx
        split at hx
        · rcases List.mem_append.1 hx with hx | hx
          · exact h1 x hx
          · rw [List.mem_singleton.1 hx]; exact rdE_sh l e d n hn
        · exact h1 x hx
end
theorem tree_sh {l : List Elem} {n : List Node} (h : tree l = some n) : ∀ x ∈ n, shN schema x := rdL_sh _ _ _ _ _ (by simp) (tree_some h).1

theorem scan_all (kd : List Def) (ns : List Node) : ∀ (es : List Elem) (out : List Pk) (m : Bool) (rest : List Elem), out.length = ns.length → (∀ e ∈ es, isTest kd e = true → (leafAt ns e).isSome = true) →
    ∃ (o' : List Pk) (m' : Bool), scan kd ns es out m rest = some (o', m', rest ++ es.filter fun e => !isTest kd e) ∧ (∀ (j : Nat), out[j]? = some wholeP → o'[j]? = some wholeP) ∧ ∀ e ∈ es, isTest kd e = true → ∀ (i : Nat), leafAt ns e = some i → o'[i]? = some wholeP
  | [], out, m, rest, hl, h => ⟨out, m, by rw [scan]; simp, fun j hj => hj, fun e he => by simp at he⟩
  | k :: r, out, m, rest, hl, h => by
    by_cases ht : isTest kd k = true
    · have hs := h k (by simp) ht
      cases hla : leafAt ns k with
      | none => rw [hla] at hs; cases hs
      | some i =>
        obtain ⟨o', m', h1, h2, h3⟩ := scan_all kd ns r (out.set i wholeP) true rest (by simpa using hl) (fun e he => h e (by simp [he]))
        have hi : i < ns.length := by
          unfold leafAt at hla
          rw [List.findIdx?_eq_some_iff_getElem] at hla
          exact hla.1
        refine ⟨o', m', ?_, fun j hj => h2 j ?_, fun e he hte j hj => ?_⟩
        · rw [scan, if_pos ht, hla]
          simp only
          rw [h1, List.filter_cons, ht]
          simp
        · rw [List.getElem?_set]
          split
          · rename_i e; subst e; rw [if_pos (by omega)]
          · exact hj
        · rcases List.mem_cons.1 he with rfl | he
          · rw [hla] at hj; cases hj
            apply h2
            rw [List.getElem?_set, if_pos rfl, if_pos (by omega)]
          · exact h3 e he hte j hj
    · obtain ⟨o', m', h1, h2, h3⟩ := scan_all kd ns r out m (rest ++ [k]) hl (fun e he => h e (by simp [he]))
      refine ⟨o', m', ?_, h2, fun e he hte j hj => ?_⟩
      · rw [scan, if_neg ht, h1, List.filter_cons]
        have hf : isTest kd k = false := by simpa using ht
        simp [hf]
      · rcases List.mem_cons.1 he with rfl | he
        · exact absurd hte ht
        · exact h3 e he hte j hj
theorem isTest_leaf {kd : List Def} (hw : wfDs kd) {e : Elem} (h : isTest kd e = true) {d : Def} (hd : d ∈ kd) (he : e.name = d.name) : d.kind = 3 := by
  obtain ⟨i, hi, hgi⟩ := place_of hw hd he
  unfold isTest at h
  rw [hi] at h
  simp only [hgi, Bool.and_eq_true, decide_eq_true_eq] at h
  exact h.1
theorem fits_full (sp : Str) : ∀ (f : Nat) (x : Node) (d : Def), cntN x < f → wfD d → ndN x → (d.kind = 3 → x.kids = []) → (d.kind ≠ 3 → x.value = ⟨#[]⟩) → shL d.kids x.kids → fullP (fitsD d x (elemN sp x)) x := by
  intro f
  induction f with
  | zero => intro x d h; omega
  | succ f ih =>
    intro x d hc hw hnd h3 hn3 hsh
    rw [wfD_s] at hw
    obtain ⟨hnd1, hnd2⟩ := ndN_s.1 hnd
    have hek : (elemN sp x).kids = x.kids.map (elemN sp) := by rw [elemN_s]; rfl
    have het : (elemN sp x).text = x.value := by rw [elemN_s]; rfl
    have hnm : ∀ y : Node, (elemN sp y).name = y.name := fun y => by rw [elemN_s]; rfl
    have htx : ∀ y : Node, (elemN sp y).text = y.value := fun y => by rw [elemN_s]; rfl
    rw [fitsD_s]
    by_cases hk : d.kind = 3
    · rw [if_pos hk, hek, het, h3 hk]
      simp [fullP_w]
    · rw [if_neg hk, het, hn3 hk, if_neg (by simp), hek]
      by_cases hke : x.kids.map (elemN sp) = []
      · rw [if_pos hke]; exact fullP_w x
      · rw [if_neg hke]
        obtain ⟨o', m', hs, hs2, hs3⟩ := scan_all d.kids x.kids (x.kids.map (elemN sp)) (List.replicate x.kids.length .nil) false [] (by simp) (by
          intro e he _
          obtain ⟨y, hy, rfl⟩ := List.mem_map.1 he
          exact leafAt_some.2 ⟨y, hy, (hnm y).symm, (htx y).symm⟩)
        have hfo := scan_fit _ _ _ _ _ _ _ _ _ (fitL_rep x.kids) hs
        rw [hs]
        simp only
        rw [List.nil_append]
        generalize hrest : (x.kids.map (elemN sp)).filter (fun e => !isTest d.kids e) = rest at *
        split
        · exact fullP_w x
        · have hfull : fullL (joinL o' (x.kids.map fun y => pickN d.kids y rest)) x.kids := by
            have hol := fitL_len hfo
            rw [fullL_iff]
            refine ⟨by rw [joinL_len]; simp; omega, fun i h1 h2 => ?_⟩
            rw [joinL_get _ _ i (by omega) (by simpa using h2), List.getElem_map]
            have hyk := List.getElem_mem h2
            have hfi := fitL_get hfo (by omega) h2
            have hci := cnt_mem hyk
            have hcx : cntL x.kids < cntN x := by cases x; simp [cntN, Node.kids]
            obtain ⟨d', hd', he', g1, g2, g3⟩ := shN_s.1 (shL_iff.1 hsh _ hyk)
            by_cases ht : isTest d.kids (elemN sp x.kids[i]) = true
            · have hd3 := isTest_leaf hw ht hd' ((hnm _).trans he')
              have hsome : (leafAt x.kids (elemN sp x.kids[i])).isSome = true := leafAt_some.2 ⟨_, hyk, (hnm _).symm, (htx _).symm⟩
              obtain ⟨j, hj⟩ := Option.isSome_iff_exists.1 hsome
              have hw3 := hs3 _ (List.mem_map.2 ⟨_, hyk, rfl⟩) ht j hj
              unfold leafAt at hj
              rw [List.findIdx?_eq_some_iff_getElem] at hj
              obtain ⟨hjl, hje, -⟩ := hj
              simp only [Bool.and_eq_true, decide_eq_true_eq, hnm, htx] at hje
              obtain ⟨d2, hd2, he2, q1, q2, q3⟩ := shN_s.1 (shL_iff.1 hsh _ (List.getElem_mem hjl))
              have hdd : d2 = d' := wfDs_inj hw hd2 hd' (he2.symm.trans (hje.1.trans he'))
              subst hdd
              have heq : x.kids[j] = x.kids[i] := by
                rw [← node_mk x.kids[j], ← node_mk x.kids[i], hje.1, hje.2, q1 hd3, g1 hd3]
              have hij := nodup_inj hnd1 hjl h2 heq
              subst hij
              rw [List.getElem?_eq_getElem (by omega)] at hw3
              rw [Option.some.inj hw3, join_whole_l]
              exact fullP_w _
            · rw [joinP_comm]
              refine full_join _ _ _ ?_ hfi
              refine pick_one hw hd' he' (f := elemN sp x.kids[i]) ?_ (hnm _) (ih _ d' (by omega) (wfDs_mem hw hd') (ndL_iff.1 hnd2 _ hyk) g1 g2 g3)
              rw [← hrest, List.mem_filter]
              exact ⟨List.mem_map.2 ⟨_, hyk, rfl⟩, by simpa using ht⟩
          have hk0 : 0 < x.kids.length := by
            cases hx : x.kids with
            | nil => rw [hx] at hke; exact absurd rfl hke
            | cons a b => simp
          split
          · rename_i hall
            rw [List.all_eq_true] at hall
            have hlen := fullL_len hfull
            have h0 := (fullL_iff.1 hfull).2 0 (by omega) hk0
            have := hall _ (List.getElem_mem (show 0 < (joinL o' (x.kids.map fun y => pickN d.kids y rest)).length by omega))
            generalize (joinL o' (x.kids.map fun y => pickN d.kids y rest))[0] = p0 at *
            cases p0 with
            | nil => simp [fullP] at h0
            | mk a c => simp [isNil] at this
          · rename_i hnall
            clear hnall
            rw [fullP_s]
            generalize joinL o' (x.kids.map fun y => pickN d.kids y rest) = J at *
            clear hs hs2 hs3 hfo hke hk0 hsh hnd1 hnd2 hek h3 ih hc hrest
            generalize x.kids = s at *
            induction J generalizing s with
            | nil => cases s with
              | nil => rw [keyed] <;> first | exact hfull | (intros; simp_all)
              | cons n s => simp [fullL] at hfull
            | cons p r ih => cases s with
              | nil => simp [fullL] at hfull
              | cons n s =>
                rw [fullL] at hfull
                rw [keyed, fullL]
                refine ⟨?_, ih s hfull.2⟩
                split
                · exact fullP_w _
                · exact hfull.1
theorem sieve_elems {n : List Node} (sp : Str) {l : List Def} (hw : wfDs l) (hnd : ndL n) (hsh : ∀ x ∈ n, shN l x) : sieveF l n (n.map (elemN sp)) = n := by
  apply sieve_full
  intro x hx
  obtain ⟨d, hd, he, g1, g2, g3⟩ := shN_s.1 (hsh x hx)
  exact pick_one hw hd he (f := elemN sp x) (List.mem_map.2 ⟨x, hx, rfl⟩) (by rw [elemN_s]; rfl) (fits_full sp (cntN x + 1) x d (by omega) (wfDs_mem hw hd) (ndL_iff.1 hnd x hx) g1 g2 g3)
end Go.Abs.SA
end

section
set_option linter.unusedVariables false
set_option linter.unusedSimpArgs false
set_option maxRecDepth 100000
set_option maxHeartbeats 8000000
set_option linter.unusedSimpArgs false
set_option linter.unusedVariables false
namespace Go.Abs.SA
open Go.Proofs

def bareE (nm : Str) : Elem := .mk ⟨#[]⟩ nm [] ⟨#[]⟩ []
theorem allE_bare (l : List Def) : allE l = l.map fun d => bareE d.name := rfl
theorem snocB (l : List Def) {j : Nat} (h : j < l.length) : ((l.take j).map fun d => bareE d.name).map eElem ++ [[vS ⟨#[]⟩, vS l[j].name, .fs [] false, vS ⟨#[]⟩, .fs [] false]] = ((l.take (j + 1)).map fun d => bareE d.name).map eElem := by
  rw [List.take_succ_eq_append_getElem h, List.map_append, List.map_append]
  congr 1
theorem snocN (l : List Node) (x : Node) : l.map eNode ++ [[vS x.name, vS x.value, .fs (x.kids.map eNode) false]] = (l ++ [x]).map eNode := by
  rw [List.map_append, List.map_cons, List.map_nil, eNode_s]
mutual
theorem cnt_elem (sp : Str) : ∀ x : Node, cntE (elemN sp x) = cntN x
  | .mk n v k => by
    rw [elemN, cntE, cntN, cnt_elems sp k]
theorem cnt_elems (sp : Str) : ∀ l : List Node, cntEs (elemL sp l) = cntL l
  | [] => by rw [elemL]; rfl
  | x :: r => by rw [elemL, cntEs, cntL, cnt_elem sp x, cnt_elems sp r]
end
theorem filterX (t : List AV) (A : List Elem) (n : List Node) (bs : List Blk) (k : Nat) (hk : A.length = k) (hcn : cntL n ≤ 900000) (hcf : cntEs A ≤ 900000) :
    callX XX (orW XX) ⟨t, .arr 57 5 (A.map eElem) :: bs⟩ 8 26 [lD schema, lN n, .sl 0 0 k false] = some (.st (lN (sieveF schema n A)) ⟨t, .arr 57 5 (A.map eElem) :: (bs ++ [.dead, .dead])⟩) := by
  subst hk
  have hs := filterL_spec schema n A okDs_schema (by decide) hcn hcf
  rw [callX_live _ _ (by rw [live_8]; rfl) (by simp [AV.lts, AV.lt])]
  rw [callL_arr (id := 0) (e := 57) (sz := 5) (es := A.map eElem) (r := lN (sieveF schema n A)) (bs := [.dead, .dead]) (by simp [idsOfs, idsOf]) rfl (by simpa [AV.rens, AV.ren, posOf] using hs)]
  simp [AV.ren, Blk.ren]
theorem x8_21 (s : St) (xs : List AV) : callX XX (orW XX) s 8 21 xs = callA XX (orW XX) s 21 xs := by
  unfold callX; rw [live_8]; rfl
theorem all_law (elems : List Elem) (name : Str) (hok : okEs elems) (hl : elems.length ≤ 140737488355328) : pureW XX 8 [lE elems, vS name] = some (vB true) := by
  refine pureW_in 92 Try.func8 Try.ntmps8 (by simp) (rfl : Try.f8.body = some _) fns_8 ?_
  have ht := tree16_spec elems hok hl
  cases htr : tree elems with
  | none =>
    simp only [aTree, htr, Option.isSome, Option.getD_none] at ht
    simp (maxSteps := 200000) (disch := first | (simp only [go_sem, Nat.reduceAdd, Nat.reduceSub, Nat.reduceMul, Nat.reduceLeDiff, Nat.reduceEqDiff, Nat.reduceLT, Nat.reduceBEq, Nat.reduceBNe, Nat.reducePow, ↓reduceIte]; done) | omega | (simp only [go_sem, Nat.reduceAdd, Nat.reduceSub, Nat.reduceMul, Nat.reduceLeDiff, Nat.reduceEqDiff, Nat.reduceLT, Nat.reduceBEq, Nat.reduceBNe, Nat.reducePow, ↓reduceIte] <;> omega) | fail) only [go_sem, Nat.reduceAdd, Nat.reduceSub, Nat.reduceMul, Nat.reduceLeDiff, Nat.reduceEqDiff, Nat.reduceLT, Nat.reduceBEq, Nat.reduceBNe, Nat.reducePow, ↓reduceIte, callA_pure mode_22, fit16_spec, callA_data mode_23, ht]
  | some n =>
  simp only [aTree, htr, Option.isSome, Option.getD_some] at ht
  obtain ⟨-, -, hn⟩ := tree_some htr
  have hln := len_cnt n
  by_cases h100 : (100 : Int) < (name.size : Int)
  · simp (maxSteps := 200000) (disch := first | (simp only [go_sem, Nat.reduceAdd, Nat.reduceSub, Nat.reduceMul, Nat.reduceLeDiff, Nat.reduceEqDiff, Nat.reduceLT, Nat.reduceBEq, Nat.reduceBNe, Nat.reducePow, ↓reduceIte]; done) | omega | (simp only [go_sem, Nat.reduceAdd, Nat.reduceSub, Nat.reduceMul, Nat.reduceLeDiff, Nat.reduceEqDiff, Nat.reduceLT, Nat.reduceBEq, Nat.reduceBNe, Nat.reducePow, ↓reduceIte] <;> omega) | fail) only [go_sem, Nat.reduceAdd, Nat.reduceSub, Nat.reduceMul, Nat.reduceLeDiff, Nat.reduceEqDiff, Nat.reduceLT, Nat.reduceBEq, Nat.reduceBNe, Nat.reducePow, ↓reduceIte, callA_pure mode_22, fit16_spec, callA_data mode_23, ht, h100]
  simp (maxSteps := 200000) (disch := first | (simp only [go_sem, Nat.reduceAdd, Nat.reduceSub, Nat.reduceMul, Nat.reduceLeDiff, Nat.reduceEqDiff, Nat.reduceLT, Nat.reduceBEq, Nat.reduceBNe, Nat.reducePow, ↓reduceIte]; done) | omega | (simp only [go_sem, Nat.reduceAdd, Nat.reduceSub, Nat.reduceMul, Nat.reduceLeDiff, Nat.reduceEqDiff, Nat.reduceLT, Nat.reduceBEq, Nat.reduceBNe, Nat.reducePow, ↓reduceIte] <;> omega) | fail) only [go_sem, Nat.reduceAdd, Nat.reduceSub, Nat.reduceMul, Nat.reduceLeDiff, Nat.reduceEqDiff, Nat.reduceLT, Nat.reduceBEq, Nat.reduceBNe, Nat.reducePow, ↓reduceIte, callA_pure mode_22, fit16_spec, callA_data mode_23, ht, h100, callA_data mode_25, schema_spec]
  refine WP_range 9 1 schema.length (fun j => S_8_9 (vS name) (lN n) (lD schema) (.sl 0 0 j false) (lD schema) (vI schema.length) (vI j) [.arr 57 5 (((schema.take j).map fun d => bareE d.name).map eElem)]) (fun _ => True) rfl rfl ?_ ?_ ?_ ?_
  · simp (maxSteps := 200000) (disch := first | (simp only [go_sem, Nat.reduceAdd, Nat.reduceSub, Nat.reduceMul, Nat.reduceLeDiff, Nat.reduceEqDiff, Nat.reduceLT, Nat.reduceBEq, Nat.reduceBNe, Nat.reducePow, ↓reduceIte]; done) | omega | (simp only [go_sem, Nat.reduceAdd, Nat.reduceSub, Nat.reduceMul, Nat.reduceLeDiff, Nat.reduceEqDiff, Nat.reduceLT, Nat.reduceBEq, Nat.reduceBNe, Nat.reducePow, ↓reduceIte] <;> omega) | fail) only [go_sem, Nat.reduceAdd, Nat.reduceSub, Nat.reduceMul, Nat.reduceLeDiff, Nat.reduceEqDiff, Nat.reduceLT, Nat.reduceBEq, Nat.reduceBNe, Nat.reducePow, ↓reduceIte]; rfl
  · trivial
  · intro j hj _
    have h4 : schema.length = 4 := rfl
    have hws := wrap_succ hj (show schema.length ≤ 140737488355328 by decide)
    have hsn := snocB schema hj
    have hbl : ((schema.take j).map fun d => bareE d.name).length = j := by rw [List.length_map, List.length_take]; omega
    rw [← hsn]
    generalize ((schema.take j).map fun d => bareE d.name) = base at *
    simp (maxSteps := 200000) (disch := first | (simp only [go_sem, Nat.reduceAdd, Nat.reduceSub, Nat.reduceMul, Nat.reduceLeDiff, Nat.reduceEqDiff, Nat.reduceLT, Nat.reduceBEq, Nat.reduceBNe, Nat.reducePow, ↓reduceIte]; done) | omega | (simp only [go_sem, Nat.reduceAdd, Nat.reduceSub, Nat.reduceMul, Nat.reduceLeDiff, Nat.reduceEqDiff, Nat.reduceLT, Nat.reduceBEq, Nat.reduceBNe, Nat.reducePow, ↓reduceIte] <;> omega) | fail) only [go_sem, Nat.reduceAdd, Nat.reduceSub, Nat.reduceMul, Nat.reduceLeDiff, Nat.reduceEqDiff, Nat.reduceLT, Nat.reduceBEq, Nat.reduceBNe, Nat.reducePow, ↓reduceIte, nat_int, hj, eDef_s, hbl, hws]
  · intro _
    rw [List.take_length, ← allE_bare]
    simp (maxSteps := 200000) (disch := first | (simp only [go_sem, Nat.reduceAdd, Nat.reduceSub, Nat.reduceMul, Nat.reduceLeDiff, Nat.reduceEqDiff, Nat.reduceLT, Nat.reduceBEq, Nat.reduceBNe, Nat.reducePow, ↓reduceIte]; done) | omega | (simp only [go_sem, Nat.reduceAdd, Nat.reduceSub, Nat.reduceMul, Nat.reduceLeDiff, Nat.reduceEqDiff, Nat.reduceLT, Nat.reduceBEq, Nat.reduceBNe, Nat.reducePow, ↓reduceIte] <;> omega) | fail) only [go_sem, Nat.reduceAdd, Nat.reduceSub, Nat.reduceMul, Nat.reduceLeDiff, Nat.reduceEqDiff, Nat.reduceLT, Nat.reduceBEq, Nat.reduceBNe, Nat.reducePow, ↓reduceIte, nat_int]
    refine WP_range 15 2 n.length (fun j => S_8_15 (vS name) (lN n) (lD schema) (.sl 0 0 schema.length false) (.sl 1 0 ((n.take j).filter fun x => decide (x.name = name)).length false) (lN n) (vI n.length) (vI j) [.arr 57 5 ((allE schema).map eElem), .arr 59 3 (((n.take j).filter fun x => decide (x.name = name)).map eNode)]) (fun _ => True) rfl rfl ?_ ?_ ?_ ?_
    · simp (maxSteps := 200000) (disch := first | (simp only [go_sem, Nat.reduceAdd, Nat.reduceSub, Nat.reduceMul, Nat.reduceLeDiff, Nat.reduceEqDiff, Nat.reduceLT, Nat.reduceBEq, Nat.reduceBNe, Nat.reducePow, ↓reduceIte]; done) | omega | (simp only [go_sem, Nat.reduceAdd, Nat.reduceSub, Nat.reduceMul, Nat.reduceLeDiff, Nat.reduceEqDiff, Nat.reduceLT, Nat.reduceBEq, Nat.reduceBNe, Nat.reducePow, ↓reduceIte] <;> omega) | fail) only [go_sem, Nat.reduceAdd, Nat.reduceSub, Nat.reduceMul, Nat.reduceLeDiff, Nat.reduceEqDiff, Nat.reduceLT, Nat.reduceBEq, Nat.reduceBNe, Nat.reducePow, ↓reduceIte]; rfl
    · trivial
    · intro j hj _
      have hws := wrap_succ hj (show n.length ≤ 140737488355328 by omega)
      have hbl : ((n.take j).filter fun x => decide (x.name = name)).length ≤ j := Nat.le_trans (List.length_filter_le _ _) (by rw [List.length_take]; omega)
      have htk : (n.take (j + 1)).filter (fun x => decide (x.name = name)) = (n.take j).filter (fun x => decide (x.name = name)) ++ if n[j].name = name then [n[j]] else [] := by
        rw [List.take_succ_eq_append_getElem hj, List.filter_append]
        congr 1
        by_cases h : n[j].name = name <;> simp [h]
      rw [htk]
      generalize (n.take j).filter (fun x => decide (x.name = name)) = base at *
      by_cases hnm : n[j].name = name
      · have hnm' := eq_true hnm
        rw [if_pos hnm]
        simp (maxSteps := 200000) (disch := first | (simp only [go_sem, Nat.reduceAdd, Nat.reduceSub, Nat.reduceMul, Nat.reduceLeDiff, Nat.reduceEqDiff, Nat.reduceLT, Nat.reduceBEq, Nat.reduceBNe, Nat.reducePow, ↓reduceIte]; done) | omega | (simp only [go_sem, Nat.reduceAdd, Nat.reduceSub, Nat.reduceMul, Nat.reduceLeDiff, Nat.reduceEqDiff, Nat.reduceLT, Nat.reduceBEq, Nat.reduceBNe, Nat.reducePow, ↓reduceIte] <;> omega) | fail) only [go_sem, Nat.reduceAdd, Nat.reduceSub, Nat.reduceMul, Nat.reduceLeDiff, Nat.reduceEqDiff, Nat.reduceLT, Nat.reduceBEq, Nat.reduceBNe, Nat.reducePow, ↓reduceIte, nat_int, hj, eNode_s, hnm', hws, snocN]
      · rw [if_neg hnm, List.append_nil]
        simp (maxSteps := 200000) (disch := first | (simp only [go_sem, Nat.reduceAdd, Nat.reduceSub, Nat.reduceMul, Nat.reduceLeDiff, Nat.reduceEqDiff, Nat.reduceLT, Nat.reduceBEq, Nat.reduceBNe, Nat.reducePow, ↓reduceIte]; done) | omega | (simp only [go_sem, Nat.reduceAdd, Nat.reduceSub, Nat.reduceMul, Nat.reduceLeDiff, Nat.reduceEqDiff, Nat.reduceLT, Nat.reduceBEq, Nat.reduceBNe, Nat.reducePow, ↓reduceIte] <;> omega) | fail) only [go_sem, Nat.reduceAdd, Nat.reduceSub, Nat.reduceMul, Nat.reduceLeDiff, Nat.reduceEqDiff, Nat.reduceLT, Nat.reduceBEq, Nat.reduceBNe, Nat.reducePow, ↓reduceIte, nat_int, hj, eNode_s, hnm, hws]
    · intro _
      rw [List.take_length]
      have hplace := tree_place htr
      have hnd := tree_nd htr
      have hA := sieve_all wf_schema hplace
      have hAA := sieve_twice schema n (allE schema)
      rw [hA] at hAA
      have hN := sieve_name wf_schema hplace name
      have hE := sieve_elems ⟨#[]⟩ wf_schema hnd.2 (tree_sh htr)
      have hce : cntEs (n.map (elemN ⟨#[]⟩)) = cntL n := by rw [← elemL_map, cnt_elems]
      have f1 := fun t bs => filterX t (allE schema) n bs schema.length (by simp [allE]) (by omega) (by decide)
      rw [hA] at f1
      have f2 := fun t bs => filterX t (allE schema ++ allE schema) n bs (schema.length + schema.length) (by simp [allE]) (by omega) (by decide)
      rw [hAA] at f2
      have f3 := filter_spec schema n [bareE name] okDs_schema (by decide) (by omega) (by simp [cntEs, cntE, bareE])
      rw [show [bareE name] = [.mk ⟨#[]⟩ name [] ⟨#[]⟩ []] from rfl, hN] at f3
      have f4 := filter_spec schema n (n.map (elemN ⟨#[]⟩)) okDs_schema (by decide) (by omega) (by omega)
      rw [hE] at f4
      have f5 := elems_spec ⟨#[]⟩ (cntL n + 1) n (by omega) (by omega)
      have e1 := modelEqual_spec (cntL n + 1) n n (by omega) (by omega)
      have hcS : ∀ l : List Node, cntL (l.filter fun x => decide (x.name = name)) ≤ cntL l := by
        intro l
        induction l with
        | nil => simp
        | cons a r ih =>
          rw [List.filter_cons, cntL]
          split
          · rw [cntL]; omega
          · omega
      have hcS := hcS n
      generalize (n.filter fun x => decide (x.name = name)) = sm at *
      have e2 := modelEqual_spec (cntL sm + 1) sm sm (by omega) (by omega)
      rw [decide_eq_true rfl] at e1 e2
      simp only [lE, lD, lN, List.map_append] at f2
      simp only [lE, List.map_cons, List.map_nil, eElem_s, Elem.space, Elem.name, Elem.attrs, Elem.text, Elem.kids] at f3
      have h4 : schema.length = 4 := rfl
      have hal : (allE schema).length = schema.length := by simp [allE]
      generalize allE schema = A at *
      simp (maxSteps := 200000) (disch := first | (simp only [go_sem, Nat.reduceAdd, Nat.reduceSub, Nat.reduceMul, Nat.reduceLeDiff, Nat.reduceEqDiff, Nat.reduceLT, Nat.reduceBEq, Nat.reduceBNe, Nat.reducePow, ↓reduceIte]; done) | omega | (simp only [go_sem, Nat.reduceAdd, Nat.reduceSub, Nat.reduceMul, Nat.reduceLeDiff, Nat.reduceEqDiff, Nat.reduceLT, Nat.reduceBEq, Nat.reduceBNe, Nat.reducePow, ↓reduceIte] <;> omega) | fail) only [go_sem, Nat.reduceAdd, Nat.reduceSub, Nat.reduceMul, Nat.reduceLeDiff, Nat.reduceEqDiff, Nat.reduceLT, Nat.reduceBEq, Nat.reduceBNe, Nat.reducePow, ↓reduceIte, nat_int, f1, f2, x8_21, hal, callA_data mode_26, f3, f4, callA_data mode_30, f5, e2, callA_pure mode_21, e1]
end Go.Abs.SA
end
