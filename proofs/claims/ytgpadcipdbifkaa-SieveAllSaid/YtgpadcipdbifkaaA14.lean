/- YtgpadcipdbifkaaA14: a part of the interpreter by which the claim is shown, and of the walks: no conditions of its own: every theorem states its own. -/
import Derived.Test.YtgpadcipdbifkaaA13
section
set_option linter.unusedVariables false
set_option linter.unusedSimpArgs false
set_option maxRecDepth 100000
set_option maxHeartbeats 8000000
set_option linter.unusedSimpArgs false
set_option linter.unusedVariables false
namespace Go.Abs.SA
open Go.Proofs

theorem stEl2_mapN {α : Type} {l : List α} {enc : α → List AV} {e id j n : Nat} {t' : List AV} {h' : List Blk} {new : List AV} [h3 : EL enc n] (hj : j < l.length) (hn : new.length = n) :
    stEl2 n id j 0 t' h' (some (.arr e n (l.map enc))) (some new) = some ⟨t', h'.set id (.arr e n ((l.map enc).set j (new.map normC)))⟩ := by
  simp only [stEl2]
  rw [List.getElem?_map, List.getElem?_eq_getElem hj]
  simp only [Option.map_some]
  have h1 : (enc l[j]).length = n := h3.len _
  rw [if_pos ⟨hn, by omega⟩]
  have h2 : (enc l[j]).drop n = [] := List.drop_eq_nil_of_le (by omega)
  simp [splice, hn, h2]
theorem set_M (l : List Mk) (i : Nat) (a b : Bool) (k : List Mk) : (l.map eMk).set i [.v (.bool a), .v (.bool b), .fs (k.map eMk) false] = (l.set i (.mk a b k)).map eMk := by
  rw [List.map_set, eMk_s]; rfl
theorem set_M0 (l : List Mk) (i : Nat) (a b : Bool) : (l.map eMk).set i [.v (.bool a), .v (.bool b), .fs [] false] = (l.set i (.mk a b [])).map eMk := set_M l i a b []
attribute [go_sem] stEl2_mapN set_M set_M0
theorem oneD_s (d : Def) (n : Node) (f : Elem) : oneD d n f = (if d.kind = 3 then .mk (decide (f.kids = [] ∧ (f.text = ⟨#[]⟩ ∨ f.text = n.value)) ) (decide (f.kids = [] ∧ (f.text = ⟨#[]⟩ ∨ f.text = n.value))) []
    else if f.text ≠ ⟨#[]⟩ then offM
    else if f.kids = [] then onM
    else match scanM d.kids n.kids f.kids (List.replicate n.kids.length offM) false [] with
      | none => offM
      | some (out, m, rest) =>
        if m = true ∧ rest = [] then onM
        else if (m || (n.kids.map fun x => markN d.kids x rest).any Mk.on) = false then offM
        else .mk true false (keyedM d.keys n.kids (zipM out (n.kids.map fun x => markN d.kids x rest)))) := by
  cases d; rw [oneD]; rfl
def oneR (d : Def) (n : Node) : Option (List Mk × Bool × List Elem) → Mk
  | none => offM
  | some (out, m, rest) =>
        if m = true ∧ rest = [] then onM
        else if (m || (n.kids.map fun x => markN d.kids x rest).any Mk.on) = false then offM
        else .mk true false (keyedM d.keys n.kids (zipM out (n.kids.map fun x => markN d.kids x rest)))
theorem oneD_r (d : Def) (n : Node) (f : Elem) : oneD d n f = (if d.kind = 3 then .mk (decide (f.kids = [] ∧ (f.text = ⟨#[]⟩ ∨ f.text = n.value)) ) (decide (f.kids = [] ∧ (f.text = ⟨#[]⟩ ∨ f.text = n.value))) []
    else if f.text ≠ ⟨#[]⟩ then offM
    else if f.kids = [] then onM
    else oneR d n (scanM d.kids n.kids f.kids (List.replicate n.kids.length offM) false [])) := by
  rw [oneD_s]
  cases scanM d.kids n.kids f.kids (List.replicate n.kids.length offM) false [] <;> rfl
theorem one_of (d : Def) (nd : Node) (f : Elem) (hod : okD d) (hcn : cntN nd ≤ 900000) (hcf : cntE f ≤ 900000)
    (hB : ∀ (nodes : List Node) (fs : List Elem), cntL nodes ≤ 900000 → cntEs fs ≤ 900000 → pureW XX 46 [lD d.kids, lN nodes, lE fs] = some (lM (nodes.map fun x => markN d.kids x fs))) :
    pureW XX 66 [aDef d, aNode nd, aElem f] = some (aMk (oneD d nd f)) := by
  obtain ⟨o1, o2, o3, o4⟩ := okD_s hod
  have hkn : nd.kids.length ≤ 900000 := by have := len_cnt nd.kids; rw [cntN_s] at hcn; omega
  have hkf : f.kids.length ≤ 900000 := by have := len_cntEs f.kids; rw [cntE_s] at hcf; omega
  rw [oneD_r]
  refine pureW_in 184 Try.func66 Try.ntmps66 (by simp) (rfl : Try.f66.body = some _) fns_66 ?_
  by_cases hk3 : d.kind = 3
  · have hk3' := eq_true hk3
    rw [if_pos hk3]
    by_cases hkk : f.kids.length = 0
    · have hkk' : ((f.kids.length : Int) = 0) = True := eq_true (by omega)
      have hkz : f.kids = [] := List.eq_nil_iff_length_eq_zero.2 hkk
      by_cases ht : f.text = ⟨#[]⟩
      · have ht' := eq_true ht
        rw [decide_eq_true (show f.kids = [] ∧ (f.text = ⟨#[]⟩ ∨ f.text = nd.value) from ⟨hkz, .inl ht⟩)]
        simp (maxSteps := 200000) (disch := first | (simp only [go_sem, Nat.reduceAdd, Nat.reduceSub, Nat.reduceMul, Nat.reduceLeDiff, Nat.reduceEqDiff, Nat.reduceLT, Nat.reduceBEq, Nat.reduceBNe, Nat.reducePow, ↓reduceIte]; done) | omega | (simp only [go_sem, Nat.reduceAdd, Nat.reduceSub, Nat.reduceMul, Nat.reduceLeDiff, Nat.reduceEqDiff, Nat.reduceLT, Nat.reduceBEq, Nat.reduceBNe, Nat.reducePow, ↓reduceIte] <;> omega) | fail) only [go_sem, Nat.reduceAdd, Nat.reduceSub, Nat.reduceMul, Nat.reduceLeDiff, Nat.reduceEqDiff, Nat.reduceLT, Nat.reduceBEq, Nat.reduceBNe, Nat.reducePow, ↓reduceIte, hk3', hkk', ht', mk_on, mk_all, mk_kids]
        rfl
      · by_cases hv : f.text = nd.value
        · have hv' := eq_true hv
          rw [decide_eq_true (show f.kids = [] ∧ (f.text = ⟨#[]⟩ ∨ f.text = nd.value) from ⟨hkz, .inr hv⟩)]
          simp (maxSteps := 200000) (disch := first | (simp only [go_sem, Nat.reduceAdd, Nat.reduceSub, Nat.reduceMul, Nat.reduceLeDiff, Nat.reduceEqDiff, Nat.reduceLT, Nat.reduceBEq, Nat.reduceBNe, Nat.reducePow, ↓reduceIte]; done) | omega | (simp only [go_sem, Nat.reduceAdd, Nat.reduceSub, Nat.reduceMul, Nat.reduceLeDiff, Nat.reduceEqDiff, Nat.reduceLT, Nat.reduceBEq, Nat.reduceBNe, Nat.reducePow, ↓reduceIte] <;> omega) | fail) only [go_sem, Nat.reduceAdd, Nat.reduceSub, Nat.reduceMul, Nat.reduceLeDiff, Nat.reduceEqDiff, Nat.reduceLT, Nat.reduceBEq, Nat.reduceBNe, Nat.reducePow, ↓reduceIte, hk3', hkk', ht, hv', mk_on, mk_all, mk_kids]
          rfl
        · rw [decide_eq_false (show ¬ (f.kids = [] ∧ (f.text = ⟨#[]⟩ ∨ f.text = nd.value)) from fun h => h.2.elim ht hv)]
          simp (maxSteps := 200000) (disch := first | (simp only [go_sem, Nat.reduceAdd, Nat.reduceSub, Nat.reduceMul, Nat.reduceLeDiff, Nat.reduceEqDiff, Nat.reduceLT, Nat.reduceBEq, Nat.reduceBNe, Nat.reducePow, ↓reduceIte]; done) | omega | (simp only [go_sem, Nat.reduceAdd, Nat.reduceSub, Nat.reduceMul, Nat.reduceLeDiff, Nat.reduceEqDiff, Nat.reduceLT, Nat.reduceBEq, Nat.reduceBNe, Nat.reducePow, ↓reduceIte] <;> omega) | fail) only [go_sem, Nat.reduceAdd, Nat.reduceSub, Nat.reduceMul, Nat.reduceLeDiff, Nat.reduceEqDiff, Nat.reduceLT, Nat.reduceBEq, Nat.reduceBNe, Nat.reducePow, ↓reduceIte, hk3', hkk', ht, hv, mk_on, mk_all, mk_kids]
          rfl
    · have hkk' : ((f.kids.length : Int) = 0) = False := eq_false (by omega)
      rw [decide_eq_false (show ¬ (f.kids = [] ∧ (f.text = ⟨#[]⟩ ∨ f.text = nd.value)) from fun h => hkk (by rw [h.1]; rfl))]
      simp (maxSteps := 200000) (disch := first | (simp only [go_sem, Nat.reduceAdd, Nat.reduceSub, Nat.reduceMul, Nat.reduceLeDiff, Nat.reduceEqDiff, Nat.reduceLT, Nat.reduceBEq, Nat.reduceBNe, Nat.reducePow, ↓reduceIte]; done) | omega | (simp only [go_sem, Nat.reduceAdd, Nat.reduceSub, Nat.reduceMul, Nat.reduceLeDiff, Nat.reduceEqDiff, Nat.reduceLT, Nat.reduceBEq, Nat.reduceBNe, Nat.reducePow, ↓reduceIte] <;> omega) | fail) only [go_sem, Nat.reduceAdd, Nat.reduceSub, Nat.reduceMul, Nat.reduceLeDiff, Nat.reduceEqDiff, Nat.reduceLT, Nat.reduceBEq, Nat.reduceBNe, Nat.reducePow, ↓reduceIte, hk3', hkk', mk_on, mk_all, mk_kids]
      rfl
  rw [if_neg hk3]
  by_cases ht : f.text = ⟨#[]⟩
  case neg =>
    rw [if_pos ht]
    simp (maxSteps := 200000) (disch := first | (simp only [go_sem, Nat.reduceAdd, Nat.reduceSub, Nat.reduceMul, Nat.reduceLeDiff, Nat.reduceEqDiff, Nat.reduceLT, Nat.reduceBEq, Nat.reduceBNe, Nat.reducePow, ↓reduceIte]; done) | omega | (simp only [go_sem, Nat.reduceAdd, Nat.reduceSub, Nat.reduceMul, Nat.reduceLeDiff, Nat.reduceEqDiff, Nat.reduceLT, Nat.reduceBEq, Nat.reduceBNe, Nat.reducePow, ↓reduceIte] <;> omega) | fail) only [go_sem, Nat.reduceAdd, Nat.reduceSub, Nat.reduceMul, Nat.reduceLeDiff, Nat.reduceEqDiff, Nat.reduceLT, Nat.reduceBEq, Nat.reduceBNe, Nat.reducePow, ↓reduceIte, hk3, ht, ne_eq, not_false_eq_true, mk_on, mk_all, mk_kids]
    rfl
  have ht' := eq_true ht
  rw [if_neg (by simp [ht])]
  by_cases hkz : f.kids.length = 0
  · have hkz' : ((f.kids.length : Int) = 0) = True := eq_true (by omega)
    rw [if_pos (List.eq_nil_iff_length_eq_zero.2 hkz)]
    simp (maxSteps := 200000) (disch := first | (simp only [go_sem, Nat.reduceAdd, Nat.reduceSub, Nat.reduceMul, Nat.reduceLeDiff, Nat.reduceEqDiff, Nat.reduceLT, Nat.reduceBEq, Nat.reduceBNe, Nat.reducePow, ↓reduceIte]; done) | omega | (simp only [go_sem, Nat.reduceAdd, Nat.reduceSub, Nat.reduceMul, Nat.reduceLeDiff, Nat.reduceEqDiff, Nat.reduceLT, Nat.reduceBEq, Nat.reduceBNe, Nat.reducePow, ↓reduceIte] <;> omega) | fail) only [go_sem, Nat.reduceAdd, Nat.reduceSub, Nat.reduceMul, Nat.reduceLeDiff, Nat.reduceEqDiff, Nat.reduceLT, Nat.reduceBEq, Nat.reduceBNe, Nat.reducePow, ↓reduceIte, hk3, ht', ne_eq, not_true, hkz', mk_on, mk_all, mk_kids]
    rfl
  have hkz' : ((f.kids.length : Int) = 0) = False := eq_false (by omega)
  rw [if_neg (fun e => hkz (by rw [e]; rfl))]
  generalize hR : oneR d nd (scanM d.kids nd.kids f.kids (List.replicate nd.kids.length offM) false []) = R
  simp (maxSteps := 200000) (disch := first | (simp only [go_sem, Nat.reduceAdd, Nat.reduceSub, Nat.reduceMul, Nat.reduceLeDiff, Nat.reduceEqDiff, Nat.reduceLT, Nat.reduceBEq, Nat.reduceBNe, Nat.reducePow, ↓reduceIte]; done) | omega | (simp only [go_sem, Nat.reduceAdd, Nat.reduceSub, Nat.reduceMul, Nat.reduceLeDiff, Nat.reduceEqDiff, Nat.reduceLT, Nat.reduceBEq, Nat.reduceBNe, Nat.reducePow, ↓reduceIte] <;> omega) | fail) only [go_sem, Nat.reduceAdd, Nat.reduceSub, Nat.reduceMul, Nat.reduceLeDiff, Nat.reduceEqDiff, Nat.reduceLT, Nat.reduceBEq, Nat.reduceBNe, Nat.reducePow, ↓reduceIte, hk3, ht', ne_eq, not_true, hkz']
  refine WP_loopR 11 7 (fun (a : Nat × List Mk × Bool × List Elem) => S_66_11 (.ptr 0 0) (.ptr 1 0) (.ptr 2 0) (.ptr 3 0) (.ptr 5 0) (.sl 6 0 a.2.2.2.length false) (vB a.2.2.1) (vI a.1)
    [.var [vS d.name, vI d.kind, vI d.type, lS d.values, vB d.must, lS d.keys, lD d.kids], .var [vS nd.name, vS nd.value, lN nd.kids], .var [vS f.space, vS f.name, .fs (f.attrs.map eAttr) false, vS f.text, lE f.kids],
     .var [vB false, vB false, .fs [] true], .arr 100 3 (a.2.1.map eMk), .var [vB false, vB false, .sl 4 0 nd.kids.length false], .arr 57 5 (a.2.2.2.map eElem)]) (fun a => f.kids.length - a.1)
    (fun a => a.1 ≤ f.kids.length ∧ a.2.2.2.length ≤ a.1 ∧ a.2.1.length = nd.kids.length ∧ scanM d.kids nd.kids f.kids (List.replicate nd.kids.length offM) false [] = scanM d.kids nd.kids (f.kids.drop a.1) a.2.1 a.2.2.1 a.2.2.2)
    (0, List.replicate nd.kids.length offM, false, []) rfl rfl ?_ ?_ ?_
  · simp (maxSteps := 200000) (disch := first | (simp only [go_sem, Nat.reduceAdd, Nat.reduceSub, Nat.reduceMul, Nat.reduceLeDiff, Nat.reduceEqDiff, Nat.reduceLT, Nat.reduceBEq, Nat.reduceBNe, Nat.reducePow, ↓reduceIte]; done) | omega | (simp only [go_sem, Nat.reduceAdd, Nat.reduceSub, Nat.reduceMul, Nat.reduceLeDiff, Nat.reduceEqDiff, Nat.reduceLT, Nat.reduceBEq, Nat.reduceBNe, Nat.reducePow, ↓reduceIte] <;> omega) | fail) only [go_sem, Nat.reduceAdd, Nat.reduceSub, Nat.reduceMul, Nat.reduceLeDiff, Nat.reduceEqDiff, Nat.reduceLT, Nat.reduceBEq, Nat.reduceBNe, Nat.reducePow, ↓reduceIte]
    rw [show (List.replicate nd.kids.length offM).map eMk = List.replicate nd.kids.length [vB false, vB false, .fs [] false] from by rw [List.map_replicate, eMk_s]; rfl]
    rfl
  · exact ⟨by simp, by simp, by simp, rfl⟩
  · rintro ⟨i, out, m, rest⟩ ⟨hi, hr, hol, hsc⟩
    simp only at hi hr hol hsc
    by_cases h : i < f.kids.length
    case neg =>
      have hlr := relL_rep nd.kids.length
      have hrr : ∃ op, scan d.kids nd.kids f.kids (List.replicate nd.kids.length .nil) false [] = some (op, m, rest) := by
        rcases scan_rel d.kids nd.kids f.kids _ _ false [] hlr with ⟨e1, e2⟩ | ⟨om, op, b, r, e1, e2, hr2⟩
        · rw [List.drop_of_length_le (by omega), scanM] at hsc
          rw [e1] at hsc; cases hsc
        · rw [List.drop_of_length_le (by omega), scanM] at hsc
          rw [e1] at hsc; cases hsc
          exact ⟨op, e2⟩
      obtain ⟨op, hop⟩ := hrr
      have hrc := scan_cnt _ _ _ _ _ _ _ _ _ hop
      rw [List.drop_of_length_le (by omega), scanM] at hsc
      have hfo := fitML_scan _ _ _ _ _ _ _ _ _ (fitML_rep nd.kids) hsc
      rw [hsc] at hR
      simp only [oneR] at hR
      by_cases hmr : m = true ∧ rest = []
      · obtain ⟨rfl, rfl⟩ := hmr
        have n0 : (((0 : Nat) : Int) = 0) = True := eq_true rfl
        rw [if_pos ⟨rfl, rfl⟩] at hR
        subst hR
        simp (maxSteps := 200000) (disch := first | (simp only [go_sem, Nat.reduceAdd, Nat.reduceSub, Nat.reduceMul, Nat.reduceLeDiff, Nat.reduceEqDiff, Nat.reduceLT, Nat.reduceBEq, Nat.reduceBNe, Nat.reducePow, ↓reduceIte]; done) | omega | (simp only [go_sem, Nat.reduceAdd, Nat.reduceSub, Nat.reduceMul, Nat.reduceLeDiff, Nat.reduceEqDiff, Nat.reduceLT, Nat.reduceBEq, Nat.reduceBNe, Nat.reducePow, ↓reduceIte] <;> omega) | fail) only [go_sem, Nat.reduceAdd, Nat.reduceSub, Nat.reduceMul, Nat.reduceLeDiff, Nat.reduceEqDiff, Nat.reduceLT, Nat.reduceBEq, Nat.reduceBNe, Nat.reducePow, ↓reduceIte, nat_int, h, List.length_nil, n0, mk_on, mk_all, mk_kids]
        rfl
      rw [if_neg hmr] at hR
      have hmarks := hB nd.kids rest (by rw [cntN_s] at hcn; omega) (by simp only [cntEs] at hrc; rw [cntE_s] at hcf; omega)
      have hfs := fitML_map (g := fun x => markN d.kids x rest) nd.kids (fun x _ => mark_fit d.kids x rest)
      have hsll : (nd.kids.map (fun x => markN d.kids x rest)).length = nd.kids.length := by simp
      generalize hsl : nd.kids.map (fun x => markN d.kids x rest) = sl at *
      have hcut : (rest.length : Int) = 0 → m = true → False := fun e e2 => hmr ⟨e2, List.eq_nil_iff_length_eq_zero.2 (by omega)⟩
      have hTl : (keyedM d.keys nd.kids (zipM out sl)).length = out.length := by rw [keyedM_len, zipM_len]; omega
      obtain ⟨T, hT⟩ : ∃ T, keyedM d.keys nd.kids (zipM out sl) = T := ⟨_, rfl⟩
      rw [hT] at hTl hR
      cases m with
      | false =>
        simp (maxSteps := 200000) (disch := first | (simp only [go_sem, Nat.reduceAdd, Nat.reduceSub, Nat.reduceMul, Nat.reduceLeDiff, Nat.reduceEqDiff, Nat.reduceLT, Nat.reduceBEq, Nat.reduceBNe, Nat.reducePow, ↓reduceIte]; done) | omega | (simp only [go_sem, Nat.reduceAdd, Nat.reduceSub, Nat.reduceMul, Nat.reduceLeDiff, Nat.reduceEqDiff, Nat.reduceLT, Nat.reduceBEq, Nat.reduceBNe, Nat.reducePow, ↓reduceIte] <;> omega) | fail) only [go_sem, Nat.reduceAdd, Nat.reduceSub, Nat.reduceMul, Nat.reduceLeDiff, Nat.reduceEqDiff, Nat.reduceLT, Nat.reduceBEq, Nat.reduceBNe, Nat.reducePow, ↓reduceIte, nat_int, h, callA_data mode_46, hmarks]
        refine WP_range 26 7 sl.length (fun i => S_66_26 (.ptr 0 0) (.ptr 1 0) (.ptr 3 0) (.ptr 5 0) (vB (false || (sl.take i).any Mk.on)) (lM sl) (vI i) [.var [vS d.name, vI d.kind, vI d.type, lS d.values, vB d.must, lS d.keys, lD d.kids], .var [vS nd.name, vS nd.value, lN nd.kids], .var [vS f.space, vS f.name, .fs (f.attrs.map eAttr) false, vS f.text, lE f.kids], .var [vB false, vB false, .fs [] true], .arr 100 3 (out.map eMk), .var [vB false, vB false, .sl 4 0 nd.kids.length false], .dead]) (fun _ => True) rfl rfl ?_ ?_ ?_ ?_
        · simp (maxSteps := 200000) (disch := first | (simp only [go_sem, Nat.reduceAdd, Nat.reduceSub, Nat.reduceMul, Nat.reduceLeDiff, Nat.reduceEqDiff, Nat.reduceLT, Nat.reduceBEq, Nat.reduceBNe, Nat.reducePow, ↓reduceIte]; done) | omega | (simp only [go_sem, Nat.reduceAdd, Nat.reduceSub, Nat.reduceMul, Nat.reduceLeDiff, Nat.reduceEqDiff, Nat.reduceLT, Nat.reduceBEq, Nat.reduceBNe, Nat.reducePow, ↓reduceIte] <;> omega) | fail) only [go_sem, Nat.reduceAdd, Nat.reduceSub, Nat.reduceMul, Nat.reduceLeDiff, Nat.reduceEqDiff, Nat.reduceLT, Nat.reduceBEq, Nat.reduceBNe, Nat.reducePow, ↓reduceIte]; rfl
        · trivial
        · intro j hj _
          have hany : (false || (sl.take (j + 1)).any Mk.on) = ((false || (sl.take j).any Mk.on) || sl[j].on) := by
            rw [List.take_succ_eq_append_getElem hj, List.any_append]; simp [Bool.or_assoc]
          rw [hany]
          generalize (false || (sl.take j).any Mk.on) = acc
          have hws3 := wrap_succ hj (show sl.length ≤ 140737488355328 by omega)
          cases acc with
          | true =>
            rw [Bool.true_or]
            simp (maxSteps := 200000) (disch := first | (simp only [go_sem, Nat.reduceAdd, Nat.reduceSub, Nat.reduceMul, Nat.reduceLeDiff, Nat.reduceEqDiff, Nat.reduceLT, Nat.reduceBEq, Nat.reduceBNe, Nat.reducePow, ↓reduceIte]; done) | omega | (simp only [go_sem, Nat.reduceAdd, Nat.reduceSub, Nat.reduceMul, Nat.reduceLeDiff, Nat.reduceEqDiff, Nat.reduceLT, Nat.reduceBEq, Nat.reduceBNe, Nat.reducePow, ↓reduceIte] <;> omega) | fail) only [go_sem, Nat.reduceAdd, Nat.reduceSub, Nat.reduceMul, Nat.reduceLeDiff, Nat.reduceEqDiff, Nat.reduceLT, Nat.reduceBEq, Nat.reduceBNe, Nat.reducePow, ↓reduceIte, nat_int, hj, eMk_s, hws3]
          | false =>
            rw [Bool.false_or]
            simp (maxSteps := 200000) (disch := first | (simp only [go_sem, Nat.reduceAdd, Nat.reduceSub, Nat.reduceMul, Nat.reduceLeDiff, Nat.reduceEqDiff, Nat.reduceLT, Nat.reduceBEq, Nat.reduceBNe, Nat.reducePow, ↓reduceIte]; done) | omega | (simp only [go_sem, Nat.reduceAdd, Nat.reduceSub, Nat.reduceMul, Nat.reduceLeDiff, Nat.reduceEqDiff, Nat.reduceLT, Nat.reduceBEq, Nat.reduceBNe, Nat.reducePow, ↓reduceIte] <;> omega) | fail) only [go_sem, Nat.reduceAdd, Nat.reduceSub, Nat.reduceMul, Nat.reduceLeDiff, Nat.reduceEqDiff, Nat.reduceLT, Nat.reduceBEq, Nat.reduceBNe, Nat.reducePow, ↓reduceIte, nat_int, hj, eMk_s, hws3]
        · intro _
          rw [List.take_length]
          cases hall : (false || sl.any Mk.on) with
          | false =>
            rw [hall, if_pos rfl] at hR
            subst hR
            simp (maxSteps := 200000) (disch := first | (simp only [go_sem, Nat.reduceAdd, Nat.reduceSub, Nat.reduceMul, Nat.reduceLeDiff, Nat.reduceEqDiff, Nat.reduceLT, Nat.reduceBEq, Nat.reduceBNe, Nat.reducePow, ↓reduceIte]; done) | omega | (simp only [go_sem, Nat.reduceAdd, Nat.reduceSub, Nat.reduceMul, Nat.reduceLeDiff, Nat.reduceEqDiff, Nat.reduceLT, Nat.reduceBEq, Nat.reduceBNe, Nat.reducePow, ↓reduceIte] <;> omega) | fail) only [go_sem, Nat.reduceAdd, Nat.reduceSub, Nat.reduceMul, Nat.reduceLeDiff, Nat.reduceEqDiff, Nat.reduceLT, Nat.reduceBEq, Nat.reduceBNe, Nat.reducePow, ↓reduceIte, nat_int, mk_on, mk_all, mk_kids]
            rfl
          | true =>
            rw [hall, if_neg (by simp)] at hR
            have hTg := fun (j : Nat) (hj : j < nd.kids.length) (h3 : j < (keyedM d.keys nd.kids (zipM out sl)).length) => keyedM_get d.keys nd.kids (zipM out sl) j (by rw [zipM_len]; omega) hj h3
            have hzg := fun (j : Nat) (hj : j < nd.kids.length) (h3 : j < (zipM out sl).length) => zipM_get out sl j (by omega) (by omega) h3
            have hzl := zipM_len out sl
            simp only [hT] at hTg
            subst hR
            simp (maxSteps := 200000) (disch := first | (simp only [go_sem, Nat.reduceAdd, Nat.reduceSub, Nat.reduceMul, Nat.reduceLeDiff, Nat.reduceEqDiff, Nat.reduceLT, Nat.reduceBEq, Nat.reduceBNe, Nat.reducePow, ↓reduceIte]; done) | omega | (simp only [go_sem, Nat.reduceAdd, Nat.reduceSub, Nat.reduceMul, Nat.reduceLeDiff, Nat.reduceEqDiff, Nat.reduceLT, Nat.reduceBEq, Nat.reduceBNe, Nat.reducePow, ↓reduceIte] <;> omega) | fail) only [go_sem, Nat.reduceAdd, Nat.reduceSub, Nat.reduceMul, Nat.reduceLeDiff, Nat.reduceEqDiff, Nat.reduceLT, Nat.reduceBEq, Nat.reduceBNe, Nat.reducePow, ↓reduceIte, nat_int]
            refine WP_range 33 7 sl.length (fun i => S_66_33 (.ptr 0 0) (.ptr 1 0) (.ptr 3 0) (.ptr 5 0) (lM sl) (vI i) [.var [vS d.name, vI d.kind, vI d.type, lS d.values, vB d.must, lS d.keys, lD d.kids], .var [vS nd.name, vS nd.value, lN nd.kids], .var [vS f.space, vS f.name, .fs (f.attrs.map eAttr) false, vS f.text, lE f.kids], .var [vB false, vB false, .fs [] true], .arr 100 3 ((mixM T out i).map eMk), .var [vB true, vB false, .sl 4 0 nd.kids.length false], .dead]) (fun _ => True) rfl rfl ?_ ?_ ?_ ?_
            · simp (maxSteps := 200000) (disch := first | (simp only [go_sem, Nat.reduceAdd, Nat.reduceSub, Nat.reduceMul, Nat.reduceLeDiff, Nat.reduceEqDiff, Nat.reduceLT, Nat.reduceBEq, Nat.reduceBNe, Nat.reducePow, ↓reduceIte]; done) | omega | (simp only [go_sem, Nat.reduceAdd, Nat.reduceSub, Nat.reduceMul, Nat.reduceLeDiff, Nat.reduceEqDiff, Nat.reduceLT, Nat.reduceBEq, Nat.reduceBNe, Nat.reducePow, ↓reduceIte] <;> omega) | fail) only [go_sem, Nat.reduceAdd, Nat.reduceSub, Nat.reduceMul, Nat.reduceLeDiff, Nat.reduceEqDiff, Nat.reduceLT, Nat.reduceBEq, Nat.reduceBNe, Nat.reducePow, ↓reduceIte]
              rw [mixM_zero]
              rfl
            · trivial
            · intro j hj _
              have hjn : j < nd.kids.length := by omega
              have hjo : j < out.length := by omega
              have hjT : j < T.length := by omega
              have hws3 := wrap_succ hj (show sl.length ≤ 140737488355328 by omega)
              have hml := mixM_len hTl j
              have hmg := mixM_get hTl hjo (by omega)
              have hms := mixM_set hTl hjT
              have hTj := hTg j hjn hjT
              rw [hzg j hjn (by rw [hzl]; omega)] at hTj
              have hb1 := fitML_cnt _ _ hfo
              have hb2 := fitML_cnt _ _ hfs
              have hb3 := cntM_mem (List.getElem_mem hjo)
              have hb4 := cntM_mem (List.getElem_mem hj)
              have hbo := both_spec 5000000 out[j] sl[j] (by rw [cntN_s] at hcn; omega) (by omega)
              have hhs := has_spec d.keys nd.kids[j].name (by omega)
              have hset2 : ∀ x, ((mixM T out j).set j x).set j T[j] = mixM T out (j + 1) := fun x => by rw [List.set_set]; exact hms
              have hju : j < (mixM T out j).length := by omega
              have hju2 : ∀ x : Mk, j < ((mixM T out j).set j x).length := fun x => by rw [List.length_set]; exact hju
              have hju3 := hju2 (Mk.mk (bothM out[j] sl[j]).on (bothM out[j] sl[j]).all (bothM out[j] sl[j]).kids)
              cases hhas : has d.keys nd.kids[j].name with
              | true =>
                rw [hhas] at hhs hTj
                rw [if_pos rfl] at hTj
                rw [hTj] at hset2
                simp (maxSteps := 200000) (disch := first | (simp only [go_sem, Nat.reduceAdd, Nat.reduceSub, Nat.reduceMul, Nat.reduceLeDiff, Nat.reduceEqDiff, Nat.reduceLT, Nat.reduceBEq, Nat.reduceBNe, Nat.reducePow, ↓reduceIte]; done) | omega | (simp only [go_sem, Nat.reduceAdd, Nat.reduceSub, Nat.reduceMul, Nat.reduceLeDiff, Nat.reduceEqDiff, Nat.reduceLT, Nat.reduceBEq, Nat.reduceBNe, Nat.reducePow, ↓reduceIte] <;> omega) | fail) only [go_sem, Nat.reduceAdd, Nat.reduceSub, Nat.reduceMul, Nat.reduceLeDiff, Nat.reduceEqDiff, Nat.reduceLT, Nat.reduceBEq, Nat.reduceBNe, Nat.reducePow, ↓reduceIte, nat_int, hj, hjn, hju, hmg, eMk_s, eNode_s, callA_data mode_65, hbo, callA_pure mode_59, hhs, hws3, hju2]
                rw [hset2]
              | false =>
                rw [hhas] at hhs hTj
                rw [if_neg (by simp)] at hTj
                rw [hTj] at hms
                simp (maxSteps := 200000) (disch := first | (simp only [go_sem, Nat.reduceAdd, Nat.reduceSub, Nat.reduceMul, Nat.reduceLeDiff, Nat.reduceEqDiff, Nat.reduceLT, Nat.reduceBEq, Nat.reduceBNe, Nat.reducePow, ↓reduceIte]; done) | omega | (simp only [go_sem, Nat.reduceAdd, Nat.reduceSub, Nat.reduceMul, Nat.reduceLeDiff, Nat.reduceEqDiff, Nat.reduceLT, Nat.reduceBEq, Nat.reduceBNe, Nat.reducePow, ↓reduceIte] <;> omega) | fail) only [go_sem, Nat.reduceAdd, Nat.reduceSub, Nat.reduceMul, Nat.reduceLeDiff, Nat.reduceEqDiff, Nat.reduceLT, Nat.reduceBEq, Nat.reduceBNe, Nat.reducePow, ↓reduceIte, nat_int, hj, hjn, hju, hmg, eMk_s, eNode_s, callA_data mode_65, hbo, callA_pure mode_59, hhs, hws3]
                rw [mk_M, hms]
            · intro _
              rw [show mixM T out sl.length = T from by rw [show sl.length = T.length by omega]; exact mixM_all hTl]
              simp (maxSteps := 200000) (disch := first | (simp only [go_sem, Nat.reduceAdd, Nat.reduceSub, Nat.reduceMul, Nat.reduceLeDiff, Nat.reduceEqDiff, Nat.reduceLT, Nat.reduceBEq, Nat.reduceBNe, Nat.reducePow, ↓reduceIte]; done) | omega | (simp only [go_sem, Nat.reduceAdd, Nat.reduceSub, Nat.reduceMul, Nat.reduceLeDiff, Nat.reduceEqDiff, Nat.reduceLT, Nat.reduceBEq, Nat.reduceBNe, Nat.reducePow, ↓reduceIte] <;> omega) | fail) only [go_sem, Nat.reduceAdd, Nat.reduceSub, Nat.reduceMul, Nat.reduceLeDiff, Nat.reduceEqDiff, Nat.reduceLT, Nat.reduceBEq, Nat.reduceBNe, Nat.reducePow, ↓reduceIte, nat_int, mk_on, mk_all, mk_kids]
              rfl
      | true =>
        have hrn : ((rest.length : Int) = 0) = False := eq_false (fun e => hcut e rfl)
        simp (maxSteps := 200000) (disch := first | (simp only [go_sem, Nat.reduceAdd, Nat.reduceSub, Nat.reduceMul, Nat.reduceLeDiff, Nat.reduceEqDiff, Nat.reduceLT, Nat.reduceBEq, Nat.reduceBNe, Nat.reducePow, ↓reduceIte]; done) | omega | (simp only [go_sem, Nat.reduceAdd, Nat.reduceSub, Nat.reduceMul, Nat.reduceLeDiff, Nat.reduceEqDiff, Nat.reduceLT, Nat.reduceBEq, Nat.reduceBNe, Nat.reducePow, ↓reduceIte] <;> omega) | fail) only [go_sem, Nat.reduceAdd, Nat.reduceSub, Nat.reduceMul, Nat.reduceLeDiff, Nat.reduceEqDiff, Nat.reduceLT, Nat.reduceBEq, Nat.reduceBNe, Nat.reducePow, ↓reduceIte, nat_int, h, hrn, callA_data mode_46, hmarks]
        refine WP_range 26 7 sl.length (fun i => S_66_26 (.ptr 0 0) (.ptr 1 0) (.ptr 3 0) (.ptr 5 0) (vB (true || (sl.take i).any Mk.on)) (lM sl) (vI i) [.var [vS d.name, vI d.kind, vI d.type, lS d.values, vB d.must, lS d.keys, lD d.kids], .var [vS nd.name, vS nd.value, lN nd.kids], .var [vS f.space, vS f.name, .fs (f.attrs.map eAttr) false, vS f.text, lE f.kids], .var [vB false, vB false, .fs [] true], .arr 100 3 (out.map eMk), .var [vB false, vB false, .sl 4 0 nd.kids.length false], .dead]) (fun _ => True) rfl rfl ?_ ?_ ?_ ?_
        · simp (maxSteps := 200000) (disch := first | (simp only [go_sem, Nat.reduceAdd, Nat.reduceSub, Nat.reduceMul, Nat.reduceLeDiff, Nat.reduceEqDiff, Nat.reduceLT, Nat.reduceBEq, Nat.reduceBNe, Nat.reducePow, ↓reduceIte]; done) | omega | (simp only [go_sem, Nat.reduceAdd, Nat.reduceSub, Nat.reduceMul, Nat.reduceLeDiff, Nat.reduceEqDiff, Nat.reduceLT, Nat.reduceBEq, Nat.reduceBNe, Nat.reducePow, ↓reduceIte] <;> omega) | fail) only [go_sem, Nat.reduceAdd, Nat.reduceSub, Nat.reduceMul, Nat.reduceLeDiff, Nat.reduceEqDiff, Nat.reduceLT, Nat.reduceBEq, Nat.reduceBNe, Nat.reducePow, ↓reduceIte]; rfl
        · trivial
        · intro j hj _
          have hany : (true || (sl.take (j + 1)).any Mk.on) = ((true || (sl.take j).any Mk.on) || sl[j].on) := by
            rw [List.take_succ_eq_append_getElem hj, List.any_append]; simp [Bool.or_assoc]
          rw [hany]
          generalize (true || (sl.take j).any Mk.on) = acc
          have hws3 := wrap_succ hj (show sl.length ≤ 140737488355328 by omega)
          cases acc with
          | true =>
            rw [Bool.true_or]
            simp (maxSteps := 200000) (disch := first | (simp only [go_sem, Nat.reduceAdd, Nat.reduceSub, Nat.reduceMul, Nat.reduceLeDiff, Nat.reduceEqDiff, Nat.reduceLT, Nat.reduceBEq, Nat.reduceBNe, Nat.reducePow, ↓reduceIte]; done) | omega | (simp only [go_sem, Nat.reduceAdd, Nat.reduceSub, Nat.reduceMul, Nat.reduceLeDiff, Nat.reduceEqDiff, Nat.reduceLT, Nat.reduceBEq, Nat.reduceBNe, Nat.reducePow, ↓reduceIte] <;> omega) | fail) only [go_sem, Nat.reduceAdd, Nat.reduceSub, Nat.reduceMul, Nat.reduceLeDiff, Nat.reduceEqDiff, Nat.reduceLT, Nat.reduceBEq, Nat.reduceBNe, Nat.reducePow, ↓reduceIte, nat_int, hj, eMk_s, hws3]
          | false =>
            rw [Bool.false_or]
            simp (maxSteps := 200000) (disch := first | (simp only [go_sem, Nat.reduceAdd, Nat.reduceSub, Nat.reduceMul, Nat.reduceLeDiff, Nat.reduceEqDiff, Nat.reduceLT, Nat.reduceBEq, Nat.reduceBNe, Nat.reducePow, ↓reduceIte]; done) | omega | (simp only [go_sem, Nat.reduceAdd, Nat.reduceSub, Nat.reduceMul, Nat.reduceLeDiff, Nat.reduceEqDiff, Nat.reduceLT, Nat.reduceBEq, Nat.reduceBNe, Nat.reducePow, ↓reduceIte] <;> omega) | fail) only [go_sem, Nat.reduceAdd, Nat.reduceSub, Nat.reduceMul, Nat.reduceLeDiff, Nat.reduceEqDiff, Nat.reduceLT, Nat.reduceBEq, Nat.reduceBNe, Nat.reducePow, ↓reduceIte, nat_int, hj, eMk_s, hws3]
        · intro _
          rw [List.take_length]
          cases hall : (true || sl.any Mk.on) with
          | false =>
            rw [hall, if_pos rfl] at hR
            subst hR
            simp (maxSteps := 200000) (disch := first | (simp only [go_sem, Nat.reduceAdd, Nat.reduceSub, Nat.reduceMul, Nat.reduceLeDiff, Nat.reduceEqDiff, Nat.reduceLT, Nat.reduceBEq, Nat.reduceBNe, Nat.reducePow, ↓reduceIte]; done) | omega | (simp only [go_sem, Nat.reduceAdd, Nat.reduceSub, Nat.reduceMul, Nat.reduceLeDiff, Nat.reduceEqDiff, Nat.reduceLT, Nat.reduceBEq, Nat.reduceBNe, Nat.reducePow, ↓reduceIte] <;> omega) | fail) only [go_sem, Nat.reduceAdd, Nat.reduceSub, Nat.reduceMul, Nat.reduceLeDiff, Nat.reduceEqDiff, Nat.reduceLT, Nat.reduceBEq, Nat.reduceBNe, Nat.reducePow, ↓reduceIte, nat_int, mk_on, mk_all, mk_kids]
            rfl
          | true =>
            rw [hall, if_neg (by simp)] at hR
            have hTg := fun (j : Nat) (hj : j < nd.kids.length) (h3 : j < (keyedM d.keys nd.kids (zipM out sl)).length) => keyedM_get d.keys nd.kids (zipM out sl) j (by rw [zipM_len]; omega) hj h3
            have hzg := fun (j : Nat) (hj : j < nd.kids.length) (h3 : j < (zipM out sl).length) => zipM_get out sl j (by omega) (by omega) h3
            have hzl := zipM_len out sl
            simp only [hT] at hTg
            subst hR
            simp (maxSteps := 200000) (disch := first | (simp only [go_sem, Nat.reduceAdd, Nat.reduceSub, Nat.reduceMul, Nat.reduceLeDiff, Nat.reduceEqDiff, Nat.reduceLT, Nat.reduceBEq, Nat.reduceBNe, Nat.reducePow, ↓reduceIte]; done) | omega | (simp only [go_sem, Nat.reduceAdd, Nat.reduceSub, Nat.reduceMul, Nat.reduceLeDiff, Nat.reduceEqDiff, Nat.reduceLT, Nat.reduceBEq, Nat.reduceBNe, Nat.reducePow, ↓reduceIte] <;> omega) | fail) only [go_sem, Nat.reduceAdd, Nat.reduceSub, Nat.reduceMul, Nat.reduceLeDiff, Nat.reduceEqDiff, Nat.reduceLT, Nat.reduceBEq, Nat.reduceBNe, Nat.reducePow, ↓reduceIte, nat_int]
            refine WP_range 33 7 sl.length (fun i => S_66_33 (.ptr 0 0) (.ptr 1 0) (.ptr 3 0) (.ptr 5 0) (lM sl) (vI i) [.var [vS d.name, vI d.kind, vI d.type, lS d.values, vB d.must, lS d.keys, lD d.kids], .var [vS nd.name, vS nd.value, lN nd.kids], .var [vS f.space, vS f.name, .fs (f.attrs.map eAttr) false, vS f.text, lE f.kids], .var [vB false, vB false, .fs [] true], .arr 100 3 ((mixM T out i).map eMk), .var [vB true, vB false, .sl 4 0 nd.kids.length false], .dead]) (fun _ => True) rfl rfl ?_ ?_ ?_ ?_
            · simp (maxSteps := 200000) (disch := first | (simp only [go_sem, Nat.reduceAdd, Nat.reduceSub, Nat.reduceMul, Nat.reduceLeDiff, Nat.reduceEqDiff, Nat.reduceLT, Nat.reduceBEq, Nat.reduceBNe, Nat.reducePow, ↓reduceIte]; done) | omega | (simp only [go_sem, Nat.reduceAdd, Nat.reduceSub, Nat.reduceMul, Nat.reduceLeDiff, Nat.reduceEqDiff, Nat.reduceLT, Nat.reduceBEq, Nat.reduceBNe, Nat.reducePow, ↓reduceIte] <;> omega) | fail) only [go_sem, Nat.reduceAdd, Nat.reduceSub, Nat.reduceMul, Nat.reduceLeDiff, Nat.reduceEqDiff, Nat.reduceLT, Nat.reduceBEq, Nat.reduceBNe, Nat.reducePow, ↓reduceIte]
              rw [mixM_zero]
              rfl
            · trivial
            · intro j hj _
              have hjn : j < nd.kids.length := by omega
              have hjo : j < out.length := by omega
              have hjT : j < T.length := by omega
              have hws3 := wrap_succ hj (show sl.length ≤ 140737488355328 by omega)
              have hml := mixM_len hTl j
              have hmg := mixM_get hTl hjo (by omega)
              have hms := mixM_set hTl hjT
              have hTj := hTg j hjn hjT
              rw [hzg j hjn (by rw [hzl]; omega)] at hTj
              have hb1 := fitML_cnt _ _ hfo
              have hb2 := fitML_cnt _ _ hfs
              have hb3 := cntM_mem (List.getElem_mem hjo)
              have hb4 := cntM_mem (List.getElem_mem hj)
              have hbo := both_spec 5000000 out[j] sl[j] (by rw [cntN_s] at hcn; omega) (by omega)
              have hhs := has_spec d.keys nd.kids[j].name (by omega)
              have hset2 : ∀ x, ((mixM T out j).set j x).set j T[j] = mixM T out (j + 1) := fun x => by rw [List.set_set]; exact hms
              have hju : j < (mixM T out j).length := by omega
              have hju2 : ∀ x : Mk, j < ((mixM T out j).set j x).length := fun x => by rw [List.length_set]; exact hju
              have hju3 := hju2 (Mk.mk (bothM out[j] sl[j]).on (bothM out[j] sl[j]).all (bothM out[j] sl[j]).kids)
              cases hhas : has d.keys nd.kids[j].name with
              | true =>
                rw [hhas] at hhs hTj
                rw [if_pos rfl] at hTj
                rw [hTj] at hset2
                simp (maxSteps := 200000) (disch := first | (simp only [go_sem, Nat.reduceAdd, Nat.reduceSub, Nat.reduceMul, Nat.reduceLeDiff, Nat.reduceEqDiff, Nat.reduceLT, Nat.reduceBEq, Nat.reduceBNe, Nat.reducePow, ↓reduceIte]; done) | omega | (simp only [go_sem, Nat.reduceAdd, Nat.reduceSub, Nat.reduceMul, Nat.reduceLeDiff, Nat.reduceEqDiff, Nat.reduceLT, Nat.reduceBEq, Nat.reduceBNe, Nat.reducePow, ↓reduceIte] <;> omega) | fail) only [go_sem, Nat.reduceAdd, Nat.reduceSub, Nat.reduceMul, Nat.reduceLeDiff, Nat.reduceEqDiff, Nat.reduceLT, Nat.reduceBEq, Nat.reduceBNe, Nat.reducePow, ↓reduceIte, nat_int, hj, hjn, hju, hmg, eMk_s, eNode_s, callA_data mode_65, hbo, callA_pure mode_59, hhs, hws3, hju2]
                rw [hset2]
              | false =>
                rw [hhas] at hhs hTj
                rw [if_neg (by simp)] at hTj
                rw [hTj] at hms
                simp (maxSteps := 200000) (disch := first | (simp only [go_sem, Nat.reduceAdd, Nat.reduceSub, Nat.reduceMul, Nat.reduceLeDiff, Nat.reduceEqDiff, Nat.reduceLT, Nat.reduceBEq, Nat.reduceBNe, Nat.reducePow, ↓reduceIte]; done) | omega | (simp only [go_sem, Nat.reduceAdd, Nat.reduceSub, Nat.reduceMul, Nat.reduceLeDiff, Nat.reduceEqDiff, Nat.reduceLT, Nat.reduceBEq, Nat.reduceBNe, Nat.reducePow, ↓reduceIte] <;> omega) | fail) only [go_sem, Nat.reduceAdd, Nat.reduceSub, Nat.reduceMul, Nat.reduceLeDiff, Nat.reduceEqDiff, Nat.reduceLT, Nat.reduceBEq, Nat.reduceBNe, Nat.reducePow, ↓reduceIte, nat_int, hj, hjn, hju, hmg, eMk_s, eNode_s, callA_data mode_65, hbo, callA_pure mode_59, hhs, hws3]
                rw [mk_M, hms]
            · intro _
              rw [show mixM T out sl.length = T from by rw [show sl.length = T.length by omega]; exact mixM_all hTl]
              simp (maxSteps := 200000) (disch := first | (simp only [go_sem, Nat.reduceAdd, Nat.reduceSub, Nat.reduceMul, Nat.reduceLeDiff, Nat.reduceEqDiff, Nat.reduceLT, Nat.reduceBEq, Nat.reduceBNe, Nat.reducePow, ↓reduceIte]; done) | omega | (simp only [go_sem, Nat.reduceAdd, Nat.reduceSub, Nat.reduceMul, Nat.reduceLeDiff, Nat.reduceEqDiff, Nat.reduceLT, Nat.reduceBEq, Nat.reduceBNe, Nat.reducePow, ↓reduceIte] <;> omega) | fail) only [go_sem, Nat.reduceAdd, Nat.reduceSub, Nat.reduceMul, Nat.reduceLeDiff, Nat.reduceEqDiff, Nat.reduceLT, Nat.reduceBEq, Nat.reduceBNe, Nat.reducePow, ↓reduceIte, nat_int, mk_on, mk_all, mk_kids]
              rfl
    have hws := wrap_succ h (show f.kids.length ≤ 140737488355328 by omega)
    rw [List.drop_eq_getElem_cons h, scanM] at hsc
    have pl := place_spec d.kids f.kids[i].name (by omega)
    have hnot : isTest d.kids f.kids[i] = false → scanM d.kids nd.kids f.kids (List.replicate nd.kids.length offM) false [] = scanM d.kids nd.kids (f.kids.drop (i + 1)) out m (rest ++ [f.kids[i]]) := by
      intro ht; rw [hsc, ht]; rfl
    cases hp : place d.kids f.kids[i].name with
    | none =>
      rw [hp] at pl
      simp only [posI] at pl
      have n1 : ((-1 : Int) < 0) = True := eq_true (by omega)
      simp (maxSteps := 200000) (disch := first | (simp only [go_sem, Nat.reduceAdd, Nat.reduceSub, Nat.reduceMul, Nat.reduceLeDiff, Nat.reduceEqDiff, Nat.reduceLT, Nat.reduceBEq, Nat.reduceBNe, Nat.reducePow, ↓reduceIte]; done) | omega | (simp only [go_sem, Nat.reduceAdd, Nat.reduceSub, Nat.reduceMul, Nat.reduceLeDiff, Nat.reduceEqDiff, Nat.reduceLT, Nat.reduceBEq, Nat.reduceBNe, Nat.reducePow, ↓reduceIte] <;> omega) | fail) only [go_sem, Nat.reduceAdd, Nat.reduceSub, Nat.reduceMul, Nat.reduceLeDiff, Nat.reduceEqDiff, Nat.reduceLT, Nat.reduceBEq, Nat.reduceBNe, Nat.reducePow, ↓reduceIte, nat_int, h, eElem_s, eDef_s, callA_pure mode_49, pl, n1, hws, snoc_E]
      exact ⟨(i + 1, out, m, rest ++ [f.kids[i]]), by simp, ⟨by simp; omega, by simp; omega, hol, hnot (by simp [isTest, hp])⟩, by simp; omega⟩
    | some q =>
    obtain ⟨hq, hqn⟩ := place_some hp
    rw [hp] at pl
    simp only [posI] at pl
    have n1 : ((q : Int) < 0) = False := eq_false (by omega)
    by_cases hk : d.kids[q].kind = 3
    case neg =>
      simp (maxSteps := 200000) (disch := first | (simp only [go_sem, Nat.reduceAdd, Nat.reduceSub, Nat.reduceMul, Nat.reduceLeDiff, Nat.reduceEqDiff, Nat.reduceLT, Nat.reduceBEq, Nat.reduceBNe, Nat.reducePow, ↓reduceIte]; done) | omega | (simp only [go_sem, Nat.reduceAdd, Nat.reduceSub, Nat.reduceMul, Nat.reduceLeDiff, Nat.reduceEqDiff, Nat.reduceLT, Nat.reduceBEq, Nat.reduceBNe, Nat.reducePow, ↓reduceIte] <;> omega) | fail) only [go_sem, Nat.reduceAdd, Nat.reduceSub, Nat.reduceMul, Nat.reduceLeDiff, Nat.reduceEqDiff, Nat.reduceLT, Nat.reduceBEq, Nat.reduceBNe, Nat.reducePow, ↓reduceIte, nat_int, h, hq, eElem_s, eDef_s, callA_pure mode_49, pl, n1, hws, snoc_E, hk, ne_eq, not_false_eq_true]
      exact ⟨(i + 1, out, m, rest ++ [f.kids[i]]), by simp, ⟨by simp; omega, by simp; omega, hol, hnot (by simp [isTest, hp, List.getElem?_eq_getElem hq, hk])⟩, by simp; omega⟩
    have hk' := eq_true hk
    by_cases htx : f.kids[i].text = ⟨#[]⟩
    · have htx' := eq_true htx
      simp (maxSteps := 200000) (disch := first | (simp only [go_sem, Nat.reduceAdd, Nat.reduceSub, Nat.reduceMul, Nat.reduceLeDiff, Nat.reduceEqDiff, Nat.reduceLT, Nat.reduceBEq, Nat.reduceBNe, Nat.reducePow, ↓reduceIte]; done) | omega | (simp only [go_sem, Nat.reduceAdd, Nat.reduceSub, Nat.reduceMul, Nat.reduceLeDiff, Nat.reduceEqDiff, Nat.reduceLT, Nat.reduceBEq, Nat.reduceBNe, Nat.reducePow, ↓reduceIte] <;> omega) | fail) only [go_sem, Nat.reduceAdd, Nat.reduceSub, Nat.reduceMul, Nat.reduceLeDiff, Nat.reduceEqDiff, Nat.reduceLT, Nat.reduceBEq, Nat.reduceBNe, Nat.reducePow, ↓reduceIte, nat_int, h, hq, eElem_s, eDef_s, callA_pure mode_49, pl, n1, hws, snoc_E, hk', htx', ne_eq, not_true]
      exact ⟨(i + 1, out, m, rest ++ [f.kids[i]]), by simp, ⟨by simp; omega, by simp; omega, hol, hnot (by simp [isTest, hp, List.getElem?_eq_getElem hq, htx])⟩, by simp; omega⟩
    have hte : isTest d.kids f.kids[i] = true := by simp [isTest, hp, List.getElem?_eq_getElem hq, hk, htx]
    rw [hte, if_pos rfl] at hsc
    have hix := refLeaf_spec nd f.kids[i].name f.kids[i].text (by omega)
    cases hat : leafAt nd.kids f.kids[i] with
    | none =>
      rw [hat] at hsc
      simp only at hsc
      rw [hsc] at hR
      simp only [oneR] at hR
      subst hR
      simp only [leafAt] at hat
      rw [hat] at hix
      simp only [posI] at hix
      have n2 : ((-1 : Int) < 0) = True := eq_true (by omega)
      simp (maxSteps := 200000) (disch := first | (simp only [go_sem, Nat.reduceAdd, Nat.reduceSub, Nat.reduceMul, Nat.reduceLeDiff, Nat.reduceEqDiff, Nat.reduceLT, Nat.reduceBEq, Nat.reduceBNe, Nat.reducePow, ↓reduceIte]; done) | omega | (simp only [go_sem, Nat.reduceAdd, Nat.reduceSub, Nat.reduceMul, Nat.reduceLeDiff, Nat.reduceEqDiff, Nat.reduceLT, Nat.reduceBEq, Nat.reduceBNe, Nat.reducePow, ↓reduceIte] <;> omega) | fail) only [go_sem, Nat.reduceAdd, Nat.reduceSub, Nat.reduceMul, Nat.reduceLeDiff, Nat.reduceEqDiff, Nat.reduceLT, Nat.reduceBEq, Nat.reduceBNe, Nat.reducePow, ↓reduceIte, nat_int, h, hq, eElem_s, eDef_s, callA_pure mode_49, pl, n1, hws, hk', htx, ne_eq, not_true, callA_pure mode_74, hix, n2, mk_on, mk_all, mk_kids]
      rfl
    | some z =>
      rw [hat] at hsc
      simp only at hsc
      have hz := leafAt_lt hat
      have hzo : z < out.length := by omega
      simp only [leafAt] at hat
      rw [hat] at hix
      simp only [posI] at hix
      have n2 : ((z : Int) < 0) = False := eq_false (by omega)
      simp (maxSteps := 200000) (disch := first | (simp only [go_sem, Nat.reduceAdd, Nat.reduceSub, Nat.reduceMul, Nat.reduceLeDiff, Nat.reduceEqDiff, Nat.reduceLT, Nat.reduceBEq, Nat.reduceBNe, Nat.reducePow, ↓reduceIte]; done) | omega | (simp only [go_sem, Nat.reduceAdd, Nat.reduceSub, Nat.reduceMul, Nat.reduceLeDiff, Nat.reduceEqDiff, Nat.reduceLT, Nat.reduceBEq, Nat.reduceBNe, Nat.reducePow, ↓reduceIte] <;> omega) | fail) only [go_sem, Nat.reduceAdd, Nat.reduceSub, Nat.reduceMul, Nat.reduceLeDiff, Nat.reduceEqDiff, Nat.reduceLT, Nat.reduceBEq, Nat.reduceBNe, Nat.reducePow, ↓reduceIte, nat_int, h, hq, hz, hzo, eElem_s, eDef_s, callA_pure mode_49, pl, n1, hws, hk', htx, ne_eq, not_true, callA_pure mode_74, hix, n2]
      exact ⟨(i + 1, out.set z onM, true, rest), by simp, ⟨by simp; omega, by simp; omega, by simp [hol], hsc⟩, by simp; omega⟩
end Go.Abs.SA
end

section
set_option linter.unusedVariables false
set_option linter.unusedSimpArgs false
set_option maxRecDepth 100000
set_option maxHeartbeats 8000000
set_option linter.unusedSimpArgs false
set_option linter.unusedVariables false
namespace Go.Abs.SA
open Go.Proofs

theorem markN_s (l : List Def) (n : Node) (fs : List Elem) : markN l n fs = match place l n.name with
    | none => offM
    | some i => match l[i]? with
      | none => offM
      | some d => fs.foldl (fun p f => if f.name = n.name then bothM p (oneD d n f) else p) offM := by
  induction l with
  | nil => rw [markN]; rfl
  | cons d r ih =>
    rw [markN]
    by_cases h : d.name = n.name
    · simp [place, List.findIdx?_cons, h]
    · rw [if_neg h, ih]
      simp only [place, List.findIdx?_cons, h, decide_false, Bool.false_eq_true, if_false]
      cases r.findIdx? fun d => decide (d.name = n.name) with
      | none => rfl
      | some i => simp
def stepM (d : Def) (n : Node) (p : Mk) (f : Elem) : Mk := if f.name = n.name then bothM p (oneD d n f) else p
theorem markN_t (l : List Def) (n : Node) (fs : List Elem) {q : Nat} (h : place l n.name = some q) (hq : q < l.length) : markN l n fs = fs.foldl (stepM l[q] n) offM := by
  rw [markN_s, h]; simp only [List.getElem?_eq_getElem hq]; rfl
theorem foldM_fit (d : Def) (n : Node) : ∀ (fs : List Elem) (p : Mk), fitM p n → fitM (fs.foldl (stepM d n) p) n
  | [], p, h => h
  | f :: fs, p, h => by
    rw [List.foldl_cons]
    apply foldM_fit d n fs
    unfold stepM
    split
    · exact fitM_both _ _ _ h (one_fit d n f)
    · exact h
theorem mixM_same {T out : List Mk} (h : T.length = out.length) {i : Nat} (hi : i < out.length) : (mixM T out i).set i out[i] = mixM T out i := by
  have := mixM_get h hi (by rw [mixM_len h]; exact hi)
  rw [← this]
  exact List.set_getElem_self _
theorem marks_spec : ∀ (n : Nat) (l : List Def) (nodes : List Node) (fs : List Elem), cntDs l < n → okDs l → l.length ≤ 1099511627776 → cntL nodes ≤ 900000 → cntEs fs ≤ 900000 →
    pureW XX 46 [lD l, lN nodes, lE fs] = some (lM (nodes.map fun x => markN l x fs)) := by
  intro n
  induction n with
  | zero => intro l nodes fs h; omega
  | succ n ih =>
    intro l nodes fs hc hod hl hcn hcf
    have hln := len_cnt nodes
    have hlf := len_cntEs fs
    refine pureW_in 70 Try.func46 Try.ntmps46 (by simp) (rfl : Try.f46.body = some _) fns_46 ?_
    simp (maxSteps := 200000) (disch := first | (simp only [go_sem, Nat.reduceAdd, Nat.reduceSub, Nat.reduceMul, Nat.reduceLeDiff, Nat.reduceEqDiff, Nat.reduceLT, Nat.reduceBEq, Nat.reduceBNe, Nat.reducePow, ↓reduceIte]; done) | omega | (simp only [go_sem, Nat.reduceAdd, Nat.reduceSub, Nat.reduceMul, Nat.reduceLeDiff, Nat.reduceEqDiff, Nat.reduceLT, Nat.reduceBEq, Nat.reduceBNe, Nat.reducePow, ↓reduceIte] <;> omega) | fail) only [go_sem, Nat.reduceAdd, Nat.reduceSub, Nat.reduceMul, Nat.reduceLeDiff, Nat.reduceEqDiff, Nat.reduceLT, Nat.reduceBEq, Nat.reduceBNe, Nat.reducePow, ↓reduceIte]
    have hJl : (nodes.map fun x => markN l x fs).length = nodes.length := by simp
    have hJg : ∀ (i : Nat) (h : i < nodes.length) (h' : i < (nodes.map fun x => markN l x fs).length), (nodes.map fun x => markN l x fs)[i] = markN l nodes[i] fs := by intro i h h'; simp
    generalize (nodes.map fun x => markN l x fs) = J at *
    have hrl : J.length = (List.replicate nodes.length offM).length := by simp [hJl]
    refine WP_range 3 1 nodes.length (fun i => S_46_3 (lD l) (lN nodes) (lE fs) (.sl 0 0 nodes.length false) (vI i) [.arr 100 3 ((mixM J (List.replicate nodes.length offM) i).map eMk)]) (fun _ => True) rfl rfl ?_ ?_ ?_ ?_
    · simp (maxSteps := 200000) (disch := first | (simp only [go_sem, Nat.reduceAdd, Nat.reduceSub, Nat.reduceMul, Nat.reduceLeDiff, Nat.reduceEqDiff, Nat.reduceLT, Nat.reduceBEq, Nat.reduceBNe, Nat.reducePow, ↓reduceIte]; done) | omega | (simp only [go_sem, Nat.reduceAdd, Nat.reduceSub, Nat.reduceMul, Nat.reduceLeDiff, Nat.reduceEqDiff, Nat.reduceLT, Nat.reduceBEq, Nat.reduceBNe, Nat.reducePow, ↓reduceIte] <;> omega) | fail) only [go_sem, Nat.reduceAdd, Nat.reduceSub, Nat.reduceMul, Nat.reduceLeDiff, Nat.reduceEqDiff, Nat.reduceLT, Nat.reduceBEq, Nat.reduceBNe, Nat.reducePow, ↓reduceIte]
      rw [mixM_zero, show (List.replicate nodes.length offM).map eMk = List.replicate nodes.length [vB false, vB false, .fs [] false] from by rw [List.map_replicate, eMk_s]; rfl]
      rfl
    · trivial
    · intro i h _
      have hJi : i < J.length := by omega
      have hg := hJg i h hJi
      have hwi := wrap_succ h (show nodes.length ≤ 140737488355328 by omega)
      have pl := place_spec l nodes[i].name (by omega)
      have hfull := mixM_set hrl hJi
      rw [hg] at hfull
      have hsame := mixM_same hrl (i := i) (by simp; omega)
      rw [List.getElem_replicate] at hsame
      have hni := cnt_mem (List.getElem_mem h)
      have hul := mixM_len hrl i
      rw [List.length_replicate] at hul
      cases hp : place l nodes[i].name with
      | none =>
        rw [hp] at pl
        simp only [posI] at pl
        have n1 : (0 ≤ (-1 : Int)) = False := eq_false (by omega)
        have hpk : markN l nodes[i] fs = offM := by rw [markN_s, hp]
        rw [hpk, hsame] at hfull
        simp (maxSteps := 200000) (disch := first | (simp only [go_sem, Nat.reduceAdd, Nat.reduceSub, Nat.reduceMul, Nat.reduceLeDiff, Nat.reduceEqDiff, Nat.reduceLT, Nat.reduceBEq, Nat.reduceBNe, Nat.reducePow, ↓reduceIte]; done) | omega | (simp only [go_sem, Nat.reduceAdd, Nat.reduceSub, Nat.reduceMul, Nat.reduceLeDiff, Nat.reduceEqDiff, Nat.reduceLT, Nat.reduceBEq, Nat.reduceBNe, Nat.reducePow, ↓reduceIte] <;> omega) | fail) only [go_sem, Nat.reduceAdd, Nat.reduceSub, Nat.reduceMul, Nat.reduceLeDiff, Nat.reduceEqDiff, Nat.reduceLT, Nat.reduceBEq, Nat.reduceBNe, Nat.reducePow, ↓reduceIte, nat_int, h, eNode_s, callA_pure mode_49, pl]
        refine WP_range 7 1 0 (fun j => S_46_7 (lD l) (lN nodes) (lE fs) (.sl 0 0 nodes.length false) (vI i) (vI (-1)) (vI j) [.arr 100 3 ((mixM J (List.replicate nodes.length offM) i).map eMk)]) (fun _ => True) rfl rfl ?_ ?_ ?_ ?_
        · simp (maxSteps := 200000) (disch := first | (simp only [go_sem, Nat.reduceAdd, Nat.reduceSub, Nat.reduceMul, Nat.reduceLeDiff, Nat.reduceEqDiff, Nat.reduceLT, Nat.reduceBEq, Nat.reduceBNe, Nat.reducePow, ↓reduceIte]; done) | omega | (simp only [go_sem, Nat.reduceAdd, Nat.reduceSub, Nat.reduceMul, Nat.reduceLeDiff, Nat.reduceEqDiff, Nat.reduceLT, Nat.reduceBEq, Nat.reduceBNe, Nat.reducePow, ↓reduceIte] <;> omega) | fail) only [go_sem, Nat.reduceAdd, Nat.reduceSub, Nat.reduceMul, Nat.reduceLeDiff, Nat.reduceEqDiff, Nat.reduceLT, Nat.reduceBEq, Nat.reduceBNe, Nat.reducePow, ↓reduceIte]; rfl
        · trivial
        · intro j hj _
          omega
        · intro _
          by_cases h0 : (((0 : Nat) : Int) < (fs.length : Int))
          · simp (maxSteps := 200000) (disch := first | (simp only [go_sem, Nat.reduceAdd, Nat.reduceSub, Nat.reduceMul, Nat.reduceLeDiff, Nat.reduceEqDiff, Nat.reduceLT, Nat.reduceBEq, Nat.reduceBNe, Nat.reducePow, ↓reduceIte]; done) | omega | (simp only [go_sem, Nat.reduceAdd, Nat.reduceSub, Nat.reduceMul, Nat.reduceLeDiff, Nat.reduceEqDiff, Nat.reduceLT, Nat.reduceBEq, Nat.reduceBNe, Nat.reducePow, ↓reduceIte] <;> omega) | fail) only [go_sem, Nat.reduceAdd, Nat.reduceSub, Nat.reduceMul, Nat.reduceLeDiff, Nat.reduceEqDiff, Nat.reduceLT, Nat.reduceBEq, Nat.reduceBNe, Nat.reducePow, ↓reduceIte, h0, n1, hwi]
            rw [hfull]
          · simp (maxSteps := 200000) (disch := first | (simp only [go_sem, Nat.reduceAdd, Nat.reduceSub, Nat.reduceMul, Nat.reduceLeDiff, Nat.reduceEqDiff, Nat.reduceLT, Nat.reduceBEq, Nat.reduceBNe, Nat.reducePow, ↓reduceIte]; done) | omega | (simp only [go_sem, Nat.reduceAdd, Nat.reduceSub, Nat.reduceMul, Nat.reduceLeDiff, Nat.reduceEqDiff, Nat.reduceLT, Nat.reduceBEq, Nat.reduceBNe, Nat.reducePow, ↓reduceIte] <;> omega) | fail) only [go_sem, Nat.reduceAdd, Nat.reduceSub, Nat.reduceMul, Nat.reduceLeDiff, Nat.reduceEqDiff, Nat.reduceLT, Nat.reduceBEq, Nat.reduceBNe, Nat.reducePow, ↓reduceIte, h0, n1, hwi]
            rw [hfull]
      | some q =>
        obtain ⟨hq, hqn⟩ := place_some hp
        rw [hp] at pl
        simp only [posI] at pl
        have n1 : (0 ≤ (q : Int)) = True := eq_true (by omega)
        have hod2 := okDs_mem hod (List.getElem_mem hq)
        obtain ⟨o1, o2, o3, o4⟩ := okD_s hod2
        have hcd := cntD_mem (List.getElem_mem hq)
        rw [cntD_s] at hcd
        have hpk := markN_t l nodes[i] fs hp hq
        simp (maxSteps := 200000) (disch := first | (simp only [go_sem, Nat.reduceAdd, Nat.reduceSub, Nat.reduceMul, Nat.reduceLeDiff, Nat.reduceEqDiff, Nat.reduceLT, Nat.reduceBEq, Nat.reduceBNe, Nat.reducePow, ↓reduceIte]; done) | omega | (simp only [go_sem, Nat.reduceAdd, Nat.reduceSub, Nat.reduceMul, Nat.reduceLeDiff, Nat.reduceEqDiff, Nat.reduceLT, Nat.reduceBEq, Nat.reduceBNe, Nat.reducePow, ↓reduceIte] <;> omega) | fail) only [go_sem, Nat.reduceAdd, Nat.reduceSub, Nat.reduceMul, Nat.reduceLeDiff, Nat.reduceEqDiff, Nat.reduceLT, Nat.reduceBEq, Nat.reduceBNe, Nat.reducePow, ↓reduceIte, nat_int, h, eNode_s, callA_pure mode_49, pl]
        refine WP_range 7 1 fs.length (fun j => S_46_7 (lD l) (lN nodes) (lE fs) (.sl 0 0 nodes.length false) (vI i) (vI q) (vI j) [.arr 100 3 (((mixM J (List.replicate nodes.length offM) i).set i ((fs.take j).foldl (stepM l[q] nodes[i]) offM)).map eMk)]) (fun _ => True) rfl rfl ?_ ?_ ?_ ?_
        · simp (maxSteps := 200000) (disch := first | (simp only [go_sem, Nat.reduceAdd, Nat.reduceSub, Nat.reduceMul, Nat.reduceLeDiff, Nat.reduceEqDiff, Nat.reduceLT, Nat.reduceBEq, Nat.reduceBNe, Nat.reducePow, ↓reduceIte]; done) | omega | (simp only [go_sem, Nat.reduceAdd, Nat.reduceSub, Nat.reduceMul, Nat.reduceLeDiff, Nat.reduceEqDiff, Nat.reduceLT, Nat.reduceBEq, Nat.reduceBNe, Nat.reducePow, ↓reduceIte] <;> omega) | fail) only [go_sem, Nat.reduceAdd, Nat.reduceSub, Nat.reduceMul, Nat.reduceLeDiff, Nat.reduceEqDiff, Nat.reduceLT, Nat.reduceBEq, Nat.reduceBNe, Nat.reducePow, ↓reduceIte]
          rw [List.foldl_nil, hsame]
          rfl
        · trivial
        · intro j hj _
          have hws := wrap_succ hj (show fs.length ≤ 140737488355328 by omega)
          have hacc := foldM_fit l[q] nodes[i] (fs.take j) offM (fitM_off _)
          have htk : (fs.take (j + 1)).foldl (stepM l[q] nodes[i]) offM = stepM l[q] nodes[i] ((fs.take j).foldl (stepM l[q] nodes[i]) offM) fs[j] := by
            rw [List.take_succ_eq_append_getElem hj, List.foldl_append]; rfl
          rw [htk]
          generalize (fs.take j).foldl (stepM l[q] nodes[i]) offM = acc at *
          have hset : ∀ x, ((mixM J (List.replicate nodes.length offM) i).set i acc).set i x = (mixM J (List.replicate nodes.length offM) i).set i x := fun x => List.set_set ..
          have hul : ((mixM J (List.replicate nodes.length offM) i).set i acc).length = nodes.length := by rw [List.length_set, hul]
          have hui : ∀ hh : i < ((mixM J (List.replicate nodes.length offM) i).set i acc).length, ((mixM J (List.replicate nodes.length offM) i).set i acc)[i] = acc := fun hh => List.getElem_set_self hh
          obtain ⟨u, hu⟩ : ∃ u, (mixM J (List.replicate nodes.length offM) i).set i acc = u := ⟨_, rfl⟩
          rw [hu] at hul
          simp only [hu] at hset hui
          have hiu : i < u.length := by omega
          have hui := hui hiu
          unfold stepM
          rw [hu]
          by_cases hnm : fs[j].name = nodes[i].name
          case neg =>
            rw [if_neg hnm, hu]
            simp (maxSteps := 200000) (disch := first | (simp only [go_sem, Nat.reduceAdd, Nat.reduceSub, Nat.reduceMul, Nat.reduceLeDiff, Nat.reduceEqDiff, Nat.reduceLT, Nat.reduceBEq, Nat.reduceBNe, Nat.reducePow, ↓reduceIte]; done) | omega | (simp only [go_sem, Nat.reduceAdd, Nat.reduceSub, Nat.reduceMul, Nat.reduceLeDiff, Nat.reduceEqDiff, Nat.reduceLT, Nat.reduceBEq, Nat.reduceBNe, Nat.reducePow, ↓reduceIte] <;> omega) | fail) only [go_sem, Nat.reduceAdd, Nat.reduceSub, Nat.reduceMul, Nat.reduceLeDiff, Nat.reduceEqDiff, Nat.reduceLT, Nat.reduceBEq, Nat.reduceBNe, Nat.reducePow, ↓reduceIte, nat_int, h, hj, eElem_s, eNode_s, n1, hnm, hws]
          have hnm' := eq_true hnm
          rw [if_pos hnm, ← hset (bothM acc (oneD l[q] nodes[i] fs[j]))]
          have hfi := one_of l[q] nodes[i] fs[j] hod2 (by omega) (by have := cntE_mem (List.getElem_mem hj); omega) (fun ns es h1 h2 => ih l[q].kids ns es (by omega) o4 o3 h1 h2)
          have hff := one_fit l[q] nodes[i] fs[j]
          have hb1 := fitM_cnt _ _ hacc
          have hb2 := fitM_cnt _ _ hff
          have hbo := both_spec 5000000 acc (oneD l[q] nodes[i] fs[j]) (by omega) (by omega)
          simp (maxSteps := 200000) (disch := first | (simp only [go_sem, Nat.reduceAdd, Nat.reduceSub, Nat.reduceMul, Nat.reduceLeDiff, Nat.reduceEqDiff, Nat.reduceLT, Nat.reduceBEq, Nat.reduceBNe, Nat.reducePow, ↓reduceIte]; done) | omega | (simp only [go_sem, Nat.reduceAdd, Nat.reduceSub, Nat.reduceMul, Nat.reduceLeDiff, Nat.reduceEqDiff, Nat.reduceLT, Nat.reduceBEq, Nat.reduceBNe, Nat.reducePow, ↓reduceIte] <;> omega) | fail) only [go_sem, Nat.reduceAdd, Nat.reduceSub, Nat.reduceMul, Nat.reduceLeDiff, Nat.reduceEqDiff, Nat.reduceLT, Nat.reduceBEq, Nat.reduceBNe, Nat.reducePow, ↓reduceIte, nat_int, h, hj, hq, eElem_s, eNode_s, eDef_s, eMk_s, n1, hnm', hws, hiu, hui, callA_data mode_66, hfi, callA_data mode_65, hbo]
          rw [mk_M]
        · intro _
          rw [List.take_length, ← hpk, hfull]
          simp (maxSteps := 200000) (disch := first | (simp only [go_sem, Nat.reduceAdd, Nat.reduceSub, Nat.reduceMul, Nat.reduceLeDiff, Nat.reduceEqDiff, Nat.reduceLT, Nat.reduceBEq, Nat.reduceBNe, Nat.reducePow, ↓reduceIte]; done) | omega | (simp only [go_sem, Nat.reduceAdd, Nat.reduceSub, Nat.reduceMul, Nat.reduceLeDiff, Nat.reduceEqDiff, Nat.reduceLT, Nat.reduceBEq, Nat.reduceBNe, Nat.reducePow, ↓reduceIte] <;> omega) | fail) only [go_sem, Nat.reduceAdd, Nat.reduceSub, Nat.reduceMul, Nat.reduceLeDiff, Nat.reduceEqDiff, Nat.reduceLT, Nat.reduceBEq, Nat.reduceBNe, Nat.reducePow, ↓reduceIte, nat_int, hwi]
    · intro _
      rw [show mixM J (List.replicate nodes.length offM) nodes.length = J from by rw [← hJl]; exact mixM_all (by simp)]
      simp (maxSteps := 200000) (disch := first | (simp only [go_sem, Nat.reduceAdd, Nat.reduceSub, Nat.reduceMul, Nat.reduceLeDiff, Nat.reduceEqDiff, Nat.reduceLT, Nat.reduceBEq, Nat.reduceBNe, Nat.reducePow, ↓reduceIte]; done) | omega | (simp only [go_sem, Nat.reduceAdd, Nat.reduceSub, Nat.reduceMul, Nat.reduceLeDiff, Nat.reduceEqDiff, Nat.reduceLT, Nat.reduceBEq, Nat.reduceBNe, Nat.reducePow, ↓reduceIte] <;> omega) | fail) only [go_sem, Nat.reduceAdd, Nat.reduceSub, Nat.reduceMul, Nat.reduceLeDiff, Nat.reduceEqDiff, Nat.reduceLT, Nat.reduceBEq, Nat.reduceBNe, Nat.reducePow, ↓reduceIte, nat_int]
end Go.Abs.SA
end

section
set_option linter.unusedVariables false
set_option linter.unusedSimpArgs false
set_option maxRecDepth 100000
set_option maxHeartbeats 8000000
set_option linter.unusedSimpArgs false
set_option linter.unusedVariables false
namespace Go.Abs.SA
open Go.Proofs

theorem refFilter_spec (l : List Def) (nodes : List Node) (fs : List Elem) (hod : okDs l) (hl : l.length ≤ 1099511627776) (hcn : cntL nodes ≤ 900000) (hcf : cntEs fs ≤ 900000) :
    pureW XX 27 [lD l, lN nodes, lE fs] = some (lN (sieveF l nodes fs)) := by
  refine pureW_in 13 Try.func27 Try.ntmps27 (by simp) (rfl : Try.f27.body = some _) fns_27 ?_
  have hs := marks_spec (cntDs l + 1) l nodes fs (by omega) hod hl hcn hcf
  have hc := refCut_spec (cntL nodes + 1) (nodes.map fun x => markN l x fs) nodes (by omega) (by omega)
  rw [filters_same] at hc
  generalize (nodes.map fun x => markN l x fs) = J at *
  simp (maxSteps := 200000) (disch := first | (simp only [go_sem, Nat.reduceAdd, Nat.reduceSub, Nat.reduceMul, Nat.reduceLeDiff, Nat.reduceEqDiff, Nat.reduceLT, Nat.reduceBEq, Nat.reduceBNe, Nat.reducePow, ↓reduceIte]; done) | omega | (simp only [go_sem, Nat.reduceAdd, Nat.reduceSub, Nat.reduceMul, Nat.reduceLeDiff, Nat.reduceEqDiff, Nat.reduceLT, Nat.reduceBEq, Nat.reduceBNe, Nat.reducePow, ↓reduceIte] <;> omega) | fail) only [go_sem, Nat.reduceAdd, Nat.reduceSub, Nat.reduceMul, Nat.reduceLeDiff, Nat.reduceEqDiff, Nat.reduceLT, Nat.reduceBEq, Nat.reduceBNe, Nat.reducePow, ↓reduceIte, callA_data mode_46, hs, callA_data mode_45, hc]
theorem tree16_spec (l : List Elem) (hok : okEs l) (hl : l.length ≤ 140737488355328) : pureW XX 23 [lE l] = some (aTree l) := by
  refine pureW_in 18 Try.func23 Try.ntmps23 (by simp) (rfl : Try.f23.body = some _) fns_23 ?_
  have hs := small_spec (cntEs l + 1) l 300 (by omega) hok hl (by omega) (by omega)
  unfold aTree tree
  by_cases h : smallL 300 l < 0
  · simp (maxSteps := 200000) (disch := first | (simp only [go_sem, Nat.reduceAdd, Nat.reduceSub, Nat.reduceMul, Nat.reduceLeDiff, Nat.reduceEqDiff, Nat.reduceLT, Nat.reduceBEq, Nat.reduceBNe, Nat.reducePow, ↓reduceIte]; done) | omega | (simp only [go_sem, Nat.reduceAdd, Nat.reduceSub, Nat.reduceMul, Nat.reduceLeDiff, Nat.reduceEqDiff, Nat.reduceLT, Nat.reduceBEq, Nat.reduceBNe, Nat.reducePow, ↓reduceIte] <;> omega) | fail) only [go_sem, Nat.reduceAdd, Nat.reduceSub, Nat.reduceMul, Nat.reduceLeDiff, Nat.reduceEqDiff, Nat.reduceLT, Nat.reduceBEq, Nat.reduceBNe, Nat.reducePow, ↓reduceIte, callA_pure mode_24, hs, h]
    rfl
  · have hc := smallL_cnt l 300 (by omega)
    have hr := read_spec 400 schema l (by omega) (by omega) hok (by decide) okDs_schema
    cases hrd : rdL schema [] [] l with
    | error x =>
      rw [hrd] at hr
      have hx := rdL_err _ _ _ _ _ hrd
      simp only [aRead] at hr
      simp (maxSteps := 200000) (disch := first | (simp only [go_sem, Nat.reduceAdd, Nat.reduceSub, Nat.reduceMul, Nat.reduceLeDiff, Nat.reduceEqDiff, Nat.reduceLT, Nat.reduceBEq, Nat.reduceBNe, Nat.reducePow, ↓reduceIte]; done) | omega | (simp only [go_sem, Nat.reduceAdd, Nat.reduceSub, Nat.reduceMul, Nat.reduceLeDiff, Nat.reduceEqDiff, Nat.reduceLT, Nat.reduceBEq, Nat.reduceBNe, Nat.reducePow, ↓reduceIte] <;> omega) | fail) only [go_sem, Nat.reduceAdd, Nat.reduceSub, Nat.reduceMul, Nat.reduceLeDiff, Nat.reduceEqDiff, Nat.reduceLT, Nat.reduceBEq, Nat.reduceBNe, Nat.reducePow, ↓reduceIte, callA_pure mode_24, hs, h, callA_data mode_25, schema_spec, callA_data mode_35, hr, hx]
      rfl
    | ok n =>
      rw [hrd] at hr
      simp only [aRead] at hr
      simp (maxSteps := 200000) (disch := first | (simp only [go_sem, Nat.reduceAdd, Nat.reduceSub, Nat.reduceMul, Nat.reduceLeDiff, Nat.reduceEqDiff, Nat.reduceLT, Nat.reduceBEq, Nat.reduceBNe, Nat.reducePow, ↓reduceIte]; done) | omega | (simp only [go_sem, Nat.reduceAdd, Nat.reduceSub, Nat.reduceMul, Nat.reduceLeDiff, Nat.reduceEqDiff, Nat.reduceLT, Nat.reduceBEq, Nat.reduceBNe, Nat.reducePow, ↓reduceIte] <;> omega) | fail) only [go_sem, Nat.reduceAdd, Nat.reduceSub, Nat.reduceMul, Nat.reduceLeDiff, Nat.reduceEqDiff, Nat.reduceLT, Nat.reduceBEq, Nat.reduceBNe, Nat.reducePow, ↓reduceIte, callA_pure mode_24, hs, h, callA_data mode_25, schema_spec, callA_data mode_35, hr]
      rfl
def eT (n t : Str) : Elem := .mk ⟨#[]⟩ n [] t []
def eK (n : Str) (k : List Elem) : Elem := .mk ⟨#[]⟩ n [] ⟨#[]⟩ k
def sPair : Str := ⟨#[112, 97, 105, 114]⟩
def fitTree : List Elem := [eK sPair [eT ⟨#[120]⟩ ⟨#[49]⟩, eT ⟨#[121]⟩ ⟨#[97]⟩, eT ⟨#[118]⟩ ⟨#[119]⟩], eK sPair [eT ⟨#[120]⟩ ⟨#[50]⟩, eT ⟨#[121]⟩ ⟨#[97]⟩]]
def fitFilter : List Elem := [eK sPair [eT ⟨#[120]⟩ ⟨#[49]⟩, eT ⟨#[118]⟩ ⟨#[]⟩]]
def fitTest : Bool := match tree fitTree with
  | some [a, b] => (match sieveF schema [a, b] fitFilter with
    | [c] => c.kids.length == 3
    | _ => false)
  | _ => false
theorem fitTest_true : fitTest = true := by kernel_rfl
theorem idxK2_lit (h : List Blk) (c : List AV) (fl : Bool) (k : IntKind) (d : TD) (n b : Nat) (z : Option Value) (h1 : c.length = n) (h2 : 0 < n) : idxK2 h (.fs [c] fl) (.v (.int k 0)) (some ⟨d, n, b, z⟩) = some (.fp c) := by
  simp [idxK2, h1, h2]
theorem fit16_spec : pureW XX 22 [] = some (vB true) := by
  have ht := tree16_spec fitTree (by simp [fitTree, okEs, okE, eK, eT, sPair, ByteArray.size]) (by simp [fitTree])
  have h1 : ∃ a b, tree fitTree = some [a, b] ∧ ∃ c, sieveF schema [a, b] fitFilter = [c] ∧ c.kids.length = 3 := by
    have h := fitTest_true
    unfold fitTest at h
    split at h
    · rename_i a b e
      split at h
      · rename_i c e2
        exact ⟨a, b, e, c, e2, by simpa using h⟩
      · cases h
    · cases h
  obtain ⟨a, b, h1, c, h2, h3⟩ := h1
  simp only [aTree, h1, Option.isSome, Option.getD_some] at ht
  obtain ⟨-, -, hn⟩ := tree_some h1
  have hf := filter_spec schema [a, b] fitFilter okDs_schema (by decide) (by omega) (by decide)
  rw [h2] at hf
  have e1 : lE fitTree = .fs (eElems fitTree) false := by rw [eElems_map]
  have e2 : lE fitFilter = .fs (eElems fitFilter) false := by rw [eElems_map]
  rw [e1] at ht
  rw [e2] at hf
  simp only [fitTree, fitFilter, eElems, eElem, eK, eT, sPair, List.map_nil, lN, List.map_cons, eNode_s c] at ht hf
  have n22 : (((2 : Nat) : Int) = 2) = True := eq_true rfl
  have n11 : (((1 : Nat) : Int) = 1) = True := eq_true rfl
  have n33 : (((3 : Nat) : Int) = 3) = True := eq_true rfl
  refine pureW_in 42 Try.func22 Try.ntmps22 (by simp) (rfl : Try.f22.body = some _) fns_22 ?_
  simp (maxSteps := 200000) (disch := first | (simp only [go_sem, Nat.reduceAdd, Nat.reduceSub, Nat.reduceMul, Nat.reduceLeDiff, Nat.reduceEqDiff, Nat.reduceLT, Nat.reduceBEq, Nat.reduceBNe, Nat.reducePow, ↓reduceIte]; done) | omega | (simp only [go_sem, Nat.reduceAdd, Nat.reduceSub, Nat.reduceMul, Nat.reduceLeDiff, Nat.reduceEqDiff, Nat.reduceLT, Nat.reduceBEq, Nat.reduceBNe, Nat.reducePow, ↓reduceIte] <;> omega) | fail) only [go_sem, Nat.reduceAdd, Nat.reduceSub, Nat.reduceMul, Nat.reduceLeDiff, Nat.reduceEqDiff, Nat.reduceLT, Nat.reduceBEq, Nat.reduceBNe, Nat.reducePow, ↓reduceIte, callA_data mode_23, ht, callA_data mode_25, schema_spec, callA_data mode_26, hf, h3, n22, n11, n33, idxK2_lit]
theorem filters_law (elems filter : List Elem) (hok : okEs elems) (hl : elems.length ≤ 140737488355328) (hok2 : okEs filter) (hl2 : filter.length ≤ 140737488355328) :
    pureW XX 6 [lE elems, lE filter] = some (vB true) := by
  refine pureW_in 32 Try.func6 Try.ntmps6 (by simp) (rfl : Try.f6.body = some _) fns_6 ?_
  have ht := tree16_spec elems hok hl
  cases htr : tree elems with
  | none =>
    simp only [aTree, htr, Option.isSome, Option.getD_none] at ht
    simp (maxSteps := 200000) (disch := first | (simp only [go_sem, Nat.reduceAdd, Nat.reduceSub, Nat.reduceMul, Nat.reduceLeDiff, Nat.reduceEqDiff, Nat.reduceLT, Nat.reduceBEq, Nat.reduceBNe, Nat.reducePow, ↓reduceIte]; done) | omega | (simp only [go_sem, Nat.reduceAdd, Nat.reduceSub, Nat.reduceMul, Nat.reduceLeDiff, Nat.reduceEqDiff, Nat.reduceLT, Nat.reduceBEq, Nat.reduceBNe, Nat.reducePow, ↓reduceIte] <;> omega) | fail) only [go_sem, Nat.reduceAdd, Nat.reduceSub, Nat.reduceMul, Nat.reduceLeDiff, Nat.reduceEqDiff, Nat.reduceLT, Nat.reduceBEq, Nat.reduceBNe, Nat.reducePow, ↓reduceIte, callA_pure mode_22, fit16_spec, callA_data mode_23, ht]
  | some n =>
  simp only [aTree, htr, Option.isSome, Option.getD_some] at ht
  obtain ⟨-, -, hn⟩ := tree_some htr
  have hs := small_spec (cntEs filter + 1) filter 300 (by omega) hok2 hl2 (by omega) (by omega)
  by_cases h : smallL 300 filter < 0
  · simp (maxSteps := 200000) (disch := first | (simp only [go_sem, Nat.reduceAdd, Nat.reduceSub, Nat.reduceMul, Nat.reduceLeDiff, Nat.reduceEqDiff, Nat.reduceLT, Nat.reduceBEq, Nat.reduceBNe, Nat.reducePow, ↓reduceIte]; done) | omega | (simp only [go_sem, Nat.reduceAdd, Nat.reduceSub, Nat.reduceMul, Nat.reduceLeDiff, Nat.reduceEqDiff, Nat.reduceLT, Nat.reduceBEq, Nat.reduceBNe, Nat.reducePow, ↓reduceIte] <;> omega) | fail) only [go_sem, Nat.reduceAdd, Nat.reduceSub, Nat.reduceMul, Nat.reduceLeDiff, Nat.reduceEqDiff, Nat.reduceLT, Nat.reduceBEq, Nat.reduceBNe, Nat.reducePow, ↓reduceIte, callA_pure mode_22, fit16_spec, callA_data mode_23, ht, callA_pure mode_24, hs, h]
  have hc := smallL_cnt filter 300 (by omega)
  have h1 := filter_spec schema n filter okDs_schema (by decide) (by omega) (by omega)
  have h2 := refFilter_spec schema n filter okDs_schema (by decide) (by omega) (by omega)
  have hcc : cntL (sieveF schema n filter) < 140737488355328 := by
    have key : ∀ (f : Nat) (k : List Pk) (s : List Node), cntL s < f → cntL (cutL k s) ≤ cntL s := by
      intro f
      induction f with
      | zero => intro k s h; omega
      | succ f ih =>
        intro k s
        induction s generalizing k with
        | nil => intro _; cases k <;> simp [cutL, cntL]
        | cons x r ih2 =>
          intro hh
          cases k with
          | nil => simp [cutL, cntL]
          | cons p k =>
            rw [cutL, cntL_app, cntL_cons]
            rw [cntL_cons, cntN_s] at hh
            have h1 := ih2 k (by omega)
            have h2 : cntL (cutN p x) ≤ cntN x := by
              cases p with
              | nil => rw [cutN]; simp [cntL]
              | mk a c =>
                rw [cutN]
                cases a with
                | true => simp [cntL]
                | false =>
                  have := ih c x.kids (by omega)
                  rw [cntN_s x]
                  simp only [Bool.false_eq_true, if_false, cntL, cntN]
                  omega
            omega
    have := key (cntL n + 1) (n.map fun x => pickN schema x filter) n (by omega)
    unfold sieveF
    omega
  have h3 := refEqual_spec 140737488355328 (sieveF schema n filter) (sieveF schema n filter) hcc (by omega)
  rw [decide_eq_true rfl] at h3
  simp (maxSteps := 200000) (disch := first | (simp only [go_sem, Nat.reduceAdd, Nat.reduceSub, Nat.reduceMul, Nat.reduceLeDiff, Nat.reduceEqDiff, Nat.reduceLT, Nat.reduceBEq, Nat.reduceBNe, Nat.reducePow, ↓reduceIte]; done) | omega | (simp only [go_sem, Nat.reduceAdd, Nat.reduceSub, Nat.reduceMul, Nat.reduceLeDiff, Nat.reduceEqDiff, Nat.reduceLT, Nat.reduceBEq, Nat.reduceBNe, Nat.reducePow, ↓reduceIte] <;> omega) | fail) only [go_sem, Nat.reduceAdd, Nat.reduceSub, Nat.reduceMul, Nat.reduceLeDiff, Nat.reduceEqDiff, Nat.reduceLT, Nat.reduceBEq, Nat.reduceBNe, Nat.reducePow, ↓reduceIte, callA_pure mode_22, fit16_spec, callA_data mode_23, ht, callA_pure mode_24, hs, h, callA_data mode_25, schema_spec, callA_data mode_26, h1, callA_data mode_27, h2, callA_pure mode_15, h3]
end Go.Abs.SA
end
