/- YtgpadcipdbifkaaA11: a part of the interpreter by which the claim is shown, and of the walks: no conditions of its own: every theorem states its own. -/
import Derived.Test.YtgpadcipdbifkaaA10
section
set_option linter.unusedVariables false
set_option linter.unusedSimpArgs false
set_option maxRecDepth 100000
set_option maxHeartbeats 8000000
set_option linter.unusedSimpArgs false
set_option linter.unusedVariables false
namespace Go.Abs.SA
open Go.Proofs

mutual
/-- No two definitions of a name, at each level. -/
def wfD : Def → Prop
  | .mk _ _ _ _ _ _ k => wfDs k
def wfDs : List Def → Prop
  | [] => True
  | d :: r => (∀ x ∈ r, d.name ≠ x.name) ∧ wfD d ∧ wfDs r
end
theorem wfD_s (d : Def) : wfD d = wfDs d.kids := by cases d; rw [wfD]; rfl
theorem wfDs_mem : ∀ {l : List Def} {d : Def}, wfDs l → d ∈ l → wfD d
  | x :: r, d, h, hm => by
    rw [wfDs] at h
    rcases List.mem_cons.1 hm with rfl | hm
    · exact h.2.1
    · exact wfDs_mem h.2.2 hm
theorem wfDs_inj : ∀ {l : List Def} {a b : Def}, wfDs l → a ∈ l → b ∈ l → a.name = b.name → a = b
  | x :: r, a, b, h, ha, hb, he => by
    rw [wfDs] at h
    rcases List.mem_cons.1 ha with e1 | ha1
    · rcases List.mem_cons.1 hb with e2 | hb1
      · rw [e1, e2]
      · rw [e1] at he; exact absurd he (h.1 b hb1)
    · rcases List.mem_cons.1 hb with e2 | hb1
      · rw [e2] at he; exact absurd he.symm (h.1 a ha1)
      · exact wfDs_inj h.2.2 ha1 hb1 he
theorem place_mem {l : List Def} {d : Def} {n : Str} (hd : d ∈ l) (hn : n = d.name) : ∃ i, place l n = some i := by
  cases h : place l n with
  | some i => exact ⟨i, rfl⟩
  | none =>
    unfold place at h
    rw [List.findIdx?_eq_none_iff] at h
    have := h d hd
    simp [hn] at this
/-- By the place of each node's definition. -/
def byPlace (l : List Def) (f : Def → Node → Bool) (n : Node) : Bool := match place l n.name with
  | none => true
  | some i => match l[i]? with
    | none => true
    | some d => f d n
theorem byPlace_all {l : List Def} (hw : wfDs l) (f : Def → Node → Bool) (g : Def → Node → Bool) (hg : ∀ d n, g d n = (!decide (n.name = d.name) || f d n)) (ns : List Node) : (∀ d ∈ l, ns.all (g d) = true) ↔ ns.all (byPlace l f) = true := by
  rw [List.all_eq_true]
  constructor
  · intro h n hn
    unfold byPlace
    cases hp : place l n.name with
    | none => rfl
    | some i =>
      obtain ⟨hi, he⟩ := place_some hp
      simp only [List.getElem?_eq_getElem hi]
      have := List.all_eq_true.1 (h l[i] (List.getElem_mem hi)) n hn
      rw [hg] at this
      simpa [he] using this
  · intro h d hd
    rw [List.all_eq_true]
    intro n hn
    rw [hg]
    by_cases he : n.name = d.name
    · obtain ⟨i, hp⟩ := place_mem hd he
      obtain ⟨hi, he'⟩ := place_some hp
      have h2 := h n hn
      have : l[i] = d := wfDs_inj hw (List.getElem_mem hi) hd (he'.trans he)
      simp only [byPlace, hp, List.getElem?_eq_getElem hi, this] at h2
      rw [h2, Bool.or_true]
    · simp [he]
def nowF (ok : Int → List Str → Bool) (was : List Node) (path : List Str) (d : Def) (n : Node) : Bool := match sameAt d was n with
    | none => allN (ok 2) (path ++ [d.name]) n
    | some i => match was[i]? with
      | none => false
      | some x => if d.kind = 3 then decide (n.value = x.value) || ok 4 (path ++ [d.name]) else chDs ok x.kids n.kids (path ++ [d.name]) d.kids
def wasF (ok : Int → List Str → Bool) (now : List Node) (path : List Str) (d : Def) (n : Node) : Bool := (sameAt d now n).isSome || allN (ok 8) (path ++ [d.name]) n
theorem chDs_place {l : List Def} (hw : wfDs l) (ok : Int → List Str → Bool) (was now : List Node) (path : List Str) : chDs ok was now path l = (was.all (byPlace l (wasF ok now path)) && now.all (byPlace l (nowF ok was path))) := by
  have h1 := byPlace_all hw (wasF ok now path) (fun d => wasOk ok d now path) (fun d n => by simp [wasOk, wasF, Bool.or_assoc]) was
  have h2 := byPlace_all hw (nowF ok was path) (fun d => nowOk ok (fun a b q => chDs ok a b q d.kids) d was path) (fun d n => rfl) now
  rw [chDs_all, Bool.eq_iff_iff, Bool.and_eq_true, ← h1, ← h2, List.all_eq_true]
  constructor
  · intro h
    exact ⟨fun d hd => by have := h d hd; rw [chD_s, Bool.and_eq_true] at this; exact this.2, fun d hd => by have := h d hd; rw [chD_s, Bool.and_eq_true] at this; exact this.1⟩
  · rintro ⟨ha, hb⟩ d hd
    rw [chD_s, Bool.and_eq_true]
    exact ⟨hb d hd, ha d hd⟩

theorem refChange_spec (p : Policy) (groups : List Str) (hp : p.ok) (hg : groups.length ≤ 140737488355328) : ∀ (n : Nat) (l : List Def) (was now : List Node) (path : List Str), cntDs l < n → n + path.length ≤ 1000000 → okDs l → wfDs l → cntL was ≤ 1000000 → cntL now ≤ 1000000 →
    pureW XX 29 [aPolicy p, lS groups, lD l, lN was, lN now, lS path] = some (vB (chDs (refMay p groups) was now path l)) := by
  intro n
  induction n with
  | zero => intro l was now path h; omega
  | succ n ih =>
    intro l was now path hc hB hod hwf hcw hcn
    have hll := len_cntDs l
    have hlw := len_cnt was
    have hln := len_cnt now
    rw [chDs_place hwf]
    refine pureW_in 147 Try.func29 Try.ntmps29 (by simp) (rfl : Try.f29.body = some _) fns_29 ?_
    simp (maxSteps := 200000) (disch := first | (simp only [go_sem, Nat.reduceAdd, Nat.reduceSub, Nat.reduceMul, Nat.reduceLeDiff, Nat.reduceEqDiff, Nat.reduceLT, Nat.reduceBEq, Nat.reduceBNe, Nat.reducePow, ↓reduceIte]; done) | omega | (simp only [go_sem, Nat.reduceAdd, Nat.reduceSub, Nat.reduceMul, Nat.reduceLeDiff, Nat.reduceEqDiff, Nat.reduceLT, Nat.reduceBEq, Nat.reduceBNe, Nat.reducePow, ↓reduceIte] <;> omega) | fail) only [go_sem, Nat.reduceAdd, Nat.reduceSub, Nat.reduceMul, Nat.reduceLeDiff, Nat.reduceEqDiff, Nat.reduceLT, Nat.reduceBEq, Nat.reduceBNe, Nat.reducePow, ↓reduceIte]
    refine WP_range 2 1 was.length (fun i => S_29_2 (lS groups) (lD l) (lN was) (lN now) (lS path) (.ptr 0 0) (vI i) [.var [.fs (p.rules.map eRule) false, vB p.read, vB p.write]]) (fun i => was.all (byPlace l (wasF (refMay p groups) now path)) = (was.drop i).all (byPlace l (wasF (refMay p groups) now path))) rfl rfl ?_ ?_ ?_ ?_
    · simp (maxSteps := 200000) (disch := first | (simp only [go_sem, Nat.reduceAdd, Nat.reduceSub, Nat.reduceMul, Nat.reduceLeDiff, Nat.reduceEqDiff, Nat.reduceLT, Nat.reduceBEq, Nat.reduceBNe, Nat.reducePow, ↓reduceIte]; done) | omega | (simp only [go_sem, Nat.reduceAdd, Nat.reduceSub, Nat.reduceMul, Nat.reduceLeDiff, Nat.reduceEqDiff, Nat.reduceLT, Nat.reduceBEq, Nat.reduceBNe, Nat.reducePow, ↓reduceIte] <;> omega) | fail) only [go_sem, Nat.reduceAdd, Nat.reduceSub, Nat.reduceMul, Nat.reduceLeDiff, Nat.reduceEqDiff, Nat.reduceLT, Nat.reduceBEq, Nat.reduceBNe, Nat.reducePow, ↓reduceIte]; rfl
    · simp
    · intro j hj hK
      rw [List.drop_eq_getElem_cons hj, List.all_cons] at hK
      have hxm := List.getElem_mem hj
      have hkx := kids_le hxm
      have hws := wrap_succ hj (show was.length ≤ 140737488355328 by omega)
      have hbad : byPlace l (wasF (refMay p groups) now path) was[j] = false → was.all (byPlace l (wasF (refMay p groups) now path)) = false := by
        intro hF; rw [hK, hF, Bool.false_and]
      have hgood : byPlace l (wasF (refMay p groups) now path) was[j] = true → was.all (byPlace l (wasF (refMay p groups) now path)) = (was.drop (j + 1)).all (byPlace l (wasF (refMay p groups) now path)) := by
        intro hF; rw [hK, hF, Bool.true_and]
      have pl := place_spec l was[j].name (by omega)
      cases hpl : place l was[j].name with
      | none =>
        rw [hpl] at pl
        simp only [posI] at pl
        have n1 : (0 ≤ (-1 : Int)) = False := eq_false (by omega)
        simp (maxSteps := 200000) (disch := first | (simp only [go_sem, Nat.reduceAdd, Nat.reduceSub, Nat.reduceMul, Nat.reduceLeDiff, Nat.reduceEqDiff, Nat.reduceLT, Nat.reduceBEq, Nat.reduceBNe, Nat.reducePow, ↓reduceIte]; done) | omega | (simp only [go_sem, Nat.reduceAdd, Nat.reduceSub, Nat.reduceMul, Nat.reduceLeDiff, Nat.reduceEqDiff, Nat.reduceLT, Nat.reduceBEq, Nat.reduceBNe, Nat.reducePow, ↓reduceIte] <;> omega) | fail) only [go_sem, Nat.reduceAdd, Nat.reduceSub, Nat.reduceMul, Nat.reduceLeDiff, Nat.reduceEqDiff, Nat.reduceLT, Nat.reduceBEq, Nat.reduceBNe, Nat.reducePow, ↓reduceIte, nat_int, hj, eNode_s, callA_pure mode_49, pl, n1, hws]
        exact hgood (by simp [byPlace, hpl])
      | some a =>
      obtain ⟨ha, he⟩ := place_some hpl
      obtain ⟨o1, o2, o3, o4⟩ := okD_s (okDs_mem hod (List.getElem_mem ha))
      rw [hpl] at pl
      simp only [posI] at pl
      have n1 : (0 ≤ (a : Int)) = True := eq_true (by omega)
      have hsm := same_spec l[a] now was[j] o2 (by omega) (by omega) (fun x hx => by have := kids_le hx; omega)
      cases hs : sameAt l[a] now was[j] with
      | some q =>
        rw [hs] at hsm
        simp only [posI] at hsm
        have n2 : ((q : Int) < 0) = False := eq_false (by omega)
        simp (maxSteps := 200000) (disch := first | (simp only [go_sem, Nat.reduceAdd, Nat.reduceSub, Nat.reduceMul, Nat.reduceLeDiff, Nat.reduceEqDiff, Nat.reduceLT, Nat.reduceBEq, Nat.reduceBNe, Nat.reducePow, ↓reduceIte]; done) | omega | (simp only [go_sem, Nat.reduceAdd, Nat.reduceSub, Nat.reduceMul, Nat.reduceLeDiff, Nat.reduceEqDiff, Nat.reduceLT, Nat.reduceBEq, Nat.reduceBNe, Nat.reducePow, ↓reduceIte] <;> omega) | fail) only [go_sem, Nat.reduceAdd, Nat.reduceSub, Nat.reduceMul, Nat.reduceLeDiff, Nat.reduceEqDiff, Nat.reduceLT, Nat.reduceBEq, Nat.reduceBNe, Nat.reducePow, ↓reduceIte, nat_int, hj, ha, eNode_s, eDef_s, callA_pure mode_49, pl, n1, callA_pure mode_50, hsm, n2, hws]
        exact hgood (by simp [byPlace, hpl, List.getElem?_eq_getElem ha, wasF, hs])
      | none =>
        rw [hs] at hsm
        simp only [posI] at hsm
        have n2 : ((-1 : Int) < 0) = True := eq_true (by omega)
        have hcut : (was.take (j + 1)).drop j = [was[j]] := by
          rw [List.take_succ_eq_append_getElem hj, List.drop_append_of_le_length (by simp; omega), List.drop_of_length_le (by simp; omega)]; rfl
        have hal := refAll_spec p groups 8 hp hg 1000001 [was[j]] path (by have := cnt_mem hxm; simp [cntL]; omega) (by omega)
        rw [allL_cons] at hal
        simp only [allL, Bool.and_true, lN, List.map_cons, List.map_nil, eNode_s] at hal
        have c1 : (j + 1 ≤ was.length) = True := eq_true hj
        have c2 : (j ≤ j + 1) = True := eq_true (by omega)
        cases hv : allN (refMay p groups 8) (path ++ [was[j].name]) was[j] with
        | false =>
          rw [hv] at hal
          rw [hbad (by simp [byPlace, hpl, List.getElem?_eq_getElem ha, wasF, hs, he, hv]), Bool.false_and]
          simp (maxSteps := 200000) (disch := first | (simp only [go_sem, Nat.reduceAdd, Nat.reduceSub, Nat.reduceMul, Nat.reduceLeDiff, Nat.reduceEqDiff, Nat.reduceLT, Nat.reduceBEq, Nat.reduceBNe, Nat.reducePow, ↓reduceIte]; done) | omega | (simp only [go_sem, Nat.reduceAdd, Nat.reduceSub, Nat.reduceMul, Nat.reduceLeDiff, Nat.reduceEqDiff, Nat.reduceLT, Nat.reduceBEq, Nat.reduceBNe, Nat.reducePow, ↓reduceIte] <;> omega) | fail) only [go_sem, Nat.reduceAdd, Nat.reduceSub, Nat.reduceMul, Nat.reduceLeDiff, Nat.reduceEqDiff, Nat.reduceLT, Nat.reduceBEq, Nat.reduceBNe, Nat.reducePow, ↓reduceIte, nat_int, hj, ha, eNode_s, eDef_s, callA_pure mode_49, pl, n1, callA_pure mode_50, hsm, n2, hws, c1, c2, hcut, callA_pure mode_51, hal]
        | true =>
          rw [hv] at hal
          simp (maxSteps := 200000) (disch := first | (simp only [go_sem, Nat.reduceAdd, Nat.reduceSub, Nat.reduceMul, Nat.reduceLeDiff, Nat.reduceEqDiff, Nat.reduceLT, Nat.reduceBEq, Nat.reduceBNe, Nat.reducePow, ↓reduceIte]; done) | omega | (simp only [go_sem, Nat.reduceAdd, Nat.reduceSub, Nat.reduceMul, Nat.reduceLeDiff, Nat.reduceEqDiff, Nat.reduceLT, Nat.reduceBEq, Nat.reduceBNe, Nat.reducePow, ↓reduceIte] <;> omega) | fail) only [go_sem, Nat.reduceAdd, Nat.reduceSub, Nat.reduceMul, Nat.reduceLeDiff, Nat.reduceEqDiff, Nat.reduceLT, Nat.reduceBEq, Nat.reduceBNe, Nat.reducePow, ↓reduceIte, nat_int, hj, ha, eNode_s, eDef_s, callA_pure mode_49, pl, n1, callA_pure mode_50, hsm, n2, hws, c1, c2, hcut, callA_pure mode_51, hal]
          exact hgood (by simp [byPlace, hpl, List.getElem?_eq_getElem ha, wasF, hs, he, hv])
    · intro hJ
      rw [List.drop_length, List.all_nil] at hJ
      rw [hJ, Bool.true_and]
      simp (maxSteps := 200000) (disch := first | (simp only [go_sem, Nat.reduceAdd, Nat.reduceSub, Nat.reduceMul, Nat.reduceLeDiff, Nat.reduceEqDiff, Nat.reduceLT, Nat.reduceBEq, Nat.reduceBNe, Nat.reducePow, ↓reduceIte]; done) | omega | (simp only [go_sem, Nat.reduceAdd, Nat.reduceSub, Nat.reduceMul, Nat.reduceLeDiff, Nat.reduceEqDiff, Nat.reduceLT, Nat.reduceBEq, Nat.reduceBNe, Nat.reducePow, ↓reduceIte] <;> omega) | fail) only [go_sem, Nat.reduceAdd, Nat.reduceSub, Nat.reduceMul, Nat.reduceLeDiff, Nat.reduceEqDiff, Nat.reduceLT, Nat.reduceBEq, Nat.reduceBNe, Nat.reducePow, ↓reduceIte, nat_int]
      refine WP_range 8 1 now.length (fun i => S_29_8 (lS groups) (lD l) (lN was) (lN now) (lS path) (.ptr 0 0) (vI i) [.var [.fs (p.rules.map eRule) false, vB p.read, vB p.write]]) (fun i => now.all (byPlace l (nowF (refMay p groups) was path)) = (now.drop i).all (byPlace l (nowF (refMay p groups) was path))) rfl rfl ?_ ?_ ?_ ?_
      · simp (maxSteps := 200000) (disch := first | (simp only [go_sem, Nat.reduceAdd, Nat.reduceSub, Nat.reduceMul, Nat.reduceLeDiff, Nat.reduceEqDiff, Nat.reduceLT, Nat.reduceBEq, Nat.reduceBNe, Nat.reducePow, ↓reduceIte]; done) | omega | (simp only [go_sem, Nat.reduceAdd, Nat.reduceSub, Nat.reduceMul, Nat.reduceLeDiff, Nat.reduceEqDiff, Nat.reduceLT, Nat.reduceBEq, Nat.reduceBNe, Nat.reducePow, ↓reduceIte] <;> omega) | fail) only [go_sem, Nat.reduceAdd, Nat.reduceSub, Nat.reduceMul, Nat.reduceLeDiff, Nat.reduceEqDiff, Nat.reduceLT, Nat.reduceBEq, Nat.reduceBNe, Nat.reducePow, ↓reduceIte]; rfl
      · simp
      · intro j hj hK
        rw [List.drop_eq_getElem_cons hj, List.all_cons] at hK
        have hxm := List.getElem_mem hj
        have hkx := kids_le hxm
        have hws := wrap_succ hj (show now.length ≤ 140737488355328 by omega)
        have hbad : byPlace l (nowF (refMay p groups) was path) now[j] = false → now.all (byPlace l (nowF (refMay p groups) was path)) = false := by
          intro hF; rw [hK, hF, Bool.false_and]
        have hgood : byPlace l (nowF (refMay p groups) was path) now[j] = true → now.all (byPlace l (nowF (refMay p groups) was path)) = (now.drop (j + 1)).all (byPlace l (nowF (refMay p groups) was path)) := by
          intro hF; rw [hK, hF, Bool.true_and]
        have pl := place_spec l now[j].name (by omega)
        cases hpl : place l now[j].name with
        | none =>
          rw [hpl] at pl
          simp only [posI] at pl
          have n1 : ((-1 : Int) < 0) = True := eq_true (by omega)
          simp (maxSteps := 200000) (disch := first | (simp only [go_sem, Nat.reduceAdd, Nat.reduceSub, Nat.reduceMul, Nat.reduceLeDiff, Nat.reduceEqDiff, Nat.reduceLT, Nat.reduceBEq, Nat.reduceBNe, Nat.reducePow, ↓reduceIte]; done) | omega | (simp only [go_sem, Nat.reduceAdd, Nat.reduceSub, Nat.reduceMul, Nat.reduceLeDiff, Nat.reduceEqDiff, Nat.reduceLT, Nat.reduceBEq, Nat.reduceBNe, Nat.reducePow, ↓reduceIte] <;> omega) | fail) only [go_sem, Nat.reduceAdd, Nat.reduceSub, Nat.reduceMul, Nat.reduceLeDiff, Nat.reduceEqDiff, Nat.reduceLT, Nat.reduceBEq, Nat.reduceBNe, Nat.reducePow, ↓reduceIte, nat_int, hj, eNode_s, callA_pure mode_49, pl, n1, hws]
          exact hgood (by simp [byPlace, hpl])
        | some a =>
        obtain ⟨ha, he⟩ := place_some hpl
        have hcd := cntD_mem (List.getElem_mem ha)
        rw [cntD_s] at hcd
        have hwk := wfDs_mem hwf (List.getElem_mem ha)
        rw [wfD_s] at hwk
        obtain ⟨o1, o2, o3, o4⟩ := okD_s (okDs_mem hod (List.getElem_mem ha))
        rw [hpl] at pl
        simp only [posI] at pl
        have n1 : ((a : Int) < 0) = False := eq_false (by omega)
        have hsm := same_spec l[a] was now[j] o2 (by omega) (by omega) (fun x hx => by have := kids_le hx; omega)
        cases hs : sameAt l[a] was now[j] with
        | none =>
          rw [hs] at hsm
          simp only [posI] at hsm
          have n2 : ((-1 : Int) < 0) = True := eq_true (by omega)
          have hcut : (now.take (j + 1)).drop j = [now[j]] := by
            rw [List.take_succ_eq_append_getElem hj, List.drop_append_of_le_length (by simp; omega), List.drop_of_length_le (by simp; omega)]; rfl
          have hal := refAll_spec p groups 2 hp hg 1000001 [now[j]] path (by have := cnt_mem hxm; simp [cntL]; omega) (by omega)
          rw [allL_cons] at hal
          simp only [allL, Bool.and_true, lN, List.map_cons, List.map_nil, eNode_s] at hal
          have c1 : (j + 1 ≤ now.length) = True := eq_true hj
          have c2 : (j ≤ j + 1) = True := eq_true (by omega)
          cases hv : allN (refMay p groups 2) (path ++ [now[j].name]) now[j] with
          | false =>
            rw [hv] at hal
            rw [hbad (by simp [byPlace, hpl, List.getElem?_eq_getElem ha, nowF, hs, he, hv])]
            simp (maxSteps := 200000) (disch := first | (simp only [go_sem, Nat.reduceAdd, Nat.reduceSub, Nat.reduceMul, Nat.reduceLeDiff, Nat.reduceEqDiff, Nat.reduceLT, Nat.reduceBEq, Nat.reduceBNe, Nat.reducePow, ↓reduceIte]; done) | omega | (simp only [go_sem, Nat.reduceAdd, Nat.reduceSub, Nat.reduceMul, Nat.reduceLeDiff, Nat.reduceEqDiff, Nat.reduceLT, Nat.reduceBEq, Nat.reduceBNe, Nat.reducePow, ↓reduceIte] <;> omega) | fail) only [go_sem, Nat.reduceAdd, Nat.reduceSub, Nat.reduceMul, Nat.reduceLeDiff, Nat.reduceEqDiff, Nat.reduceLT, Nat.reduceBEq, Nat.reduceBNe, Nat.reducePow, ↓reduceIte, nat_int, hj, ha, eNode_s, eDef_s, callA_pure mode_49, pl, n1, callA_pure mode_50, hsm, n2, hws, c1, c2, hcut, callA_pure mode_51, hal]
          | true =>
            rw [hv] at hal
            simp (maxSteps := 200000) (disch := first | (simp only [go_sem, Nat.reduceAdd, Nat.reduceSub, Nat.reduceMul, Nat.reduceLeDiff, Nat.reduceEqDiff, Nat.reduceLT, Nat.reduceBEq, Nat.reduceBNe, Nat.reducePow, ↓reduceIte]; done) | omega | (simp only [go_sem, Nat.reduceAdd, Nat.reduceSub, Nat.reduceMul, Nat.reduceLeDiff, Nat.reduceEqDiff, Nat.reduceLT, Nat.reduceBEq, Nat.reduceBNe, Nat.reducePow, ↓reduceIte] <;> omega) | fail) only [go_sem, Nat.reduceAdd, Nat.reduceSub, Nat.reduceMul, Nat.reduceLeDiff, Nat.reduceEqDiff, Nat.reduceLT, Nat.reduceBEq, Nat.reduceBNe, Nat.reducePow, ↓reduceIte, nat_int, hj, ha, eNode_s, eDef_s, callA_pure mode_49, pl, n1, callA_pure mode_50, hsm, n2, hws, c1, c2, hcut, callA_pure mode_51, hal]
            exact hgood (by simp [byPlace, hpl, List.getElem?_eq_getElem ha, nowF, hs, he, hv])
        | some q =>
          have hq := sameAt_lt hs
          rw [hs] at hsm
          simp only [posI] at hsm
          have n2 : ((q : Int) < 0) = False := eq_false (by omega)
          have hwi := with_spec path now[j].name (by omega)
          by_cases hk3 : l[a].kind = 3
          · have hk3' := eq_true hk3
            by_cases hv : was[q].value = now[j].value
            · have hv' := eq_true hv
              simp (maxSteps := 200000) (disch := first | (simp only [go_sem, Nat.reduceAdd, Nat.reduceSub, Nat.reduceMul, Nat.reduceLeDiff, Nat.reduceEqDiff, Nat.reduceLT, Nat.reduceBEq, Nat.reduceBNe, Nat.reducePow, ↓reduceIte]; done) | omega | (simp only [go_sem, Nat.reduceAdd, Nat.reduceSub, Nat.reduceMul, Nat.reduceLeDiff, Nat.reduceEqDiff, Nat.reduceLT, Nat.reduceBEq, Nat.reduceBNe, Nat.reducePow, ↓reduceIte] <;> omega) | fail) only [go_sem, Nat.reduceAdd, Nat.reduceSub, Nat.reduceMul, Nat.reduceLeDiff, Nat.reduceEqDiff, Nat.reduceLT, Nat.reduceBEq, Nat.reduceBNe, Nat.reducePow, ↓reduceIte, nat_int, hj, ha, hq, eNode_s, eDef_s, callA_pure mode_49, pl, n1, callA_pure mode_50, hsm, n2, hws, callA_data mode_36, hwi, hk3', hv', ne_eq, not_true]
              exact hgood (by simp [byPlace, hpl, List.getElem?_eq_getElem ha, nowF, hs, List.getElem?_eq_getElem hq, hk3, hv])
            · have hv2 : ¬ now[j].value = was[q].value := fun e => hv e.symm
              have hmy := refMay_spec p groups 4 (path ++ [now[j].name]) hp hg (by simp; omega)
              cases hm : refMay p groups 4 (path ++ [now[j].name]) with
              | false =>
                rw [hm] at hmy
                rw [hbad (by simp [byPlace, hpl, List.getElem?_eq_getElem ha, nowF, hs, List.getElem?_eq_getElem hq, hk3, hv2, he, hm])]
                simp (maxSteps := 200000) (disch := first | (simp only [go_sem, Nat.reduceAdd, Nat.reduceSub, Nat.reduceMul, Nat.reduceLeDiff, Nat.reduceEqDiff, Nat.reduceLT, Nat.reduceBEq, Nat.reduceBNe, Nat.reducePow, ↓reduceIte]; done) | omega | (simp only [go_sem, Nat.reduceAdd, Nat.reduceSub, Nat.reduceMul, Nat.reduceLeDiff, Nat.reduceEqDiff, Nat.reduceLT, Nat.reduceBEq, Nat.reduceBNe, Nat.reducePow, ↓reduceIte] <;> omega) | fail) only [go_sem, Nat.reduceAdd, Nat.reduceSub, Nat.reduceMul, Nat.reduceLeDiff, Nat.reduceEqDiff, Nat.reduceLT, Nat.reduceBEq, Nat.reduceBNe, Nat.reducePow, ↓reduceIte, nat_int, hj, ha, hq, eNode_s, eDef_s, callA_pure mode_49, pl, n1, callA_pure mode_50, hsm, n2, hws, callA_data mode_36, hwi, hk3', hv, ne_eq, not_false_eq_true, callA_pure mode_37, hmy]
              | true =>
                rw [hm] at hmy
                simp (maxSteps := 200000) (disch := first | (simp only [go_sem, Nat.reduceAdd, Nat.reduceSub, Nat.reduceMul, Nat.reduceLeDiff, Nat.reduceEqDiff, Nat.reduceLT, Nat.reduceBEq, Nat.reduceBNe, Nat.reducePow, ↓reduceIte]; done) | omega | (simp only [go_sem, Nat.reduceAdd, Nat.reduceSub, Nat.reduceMul, Nat.reduceLeDiff, Nat.reduceEqDiff, Nat.reduceLT, Nat.reduceBEq, Nat.reduceBNe, Nat.reducePow, ↓reduceIte] <;> omega) | fail) only [go_sem, Nat.reduceAdd, Nat.reduceSub, Nat.reduceMul, Nat.reduceLeDiff, Nat.reduceEqDiff, Nat.reduceLT, Nat.reduceBEq, Nat.reduceBNe, Nat.reducePow, ↓reduceIte, nat_int, hj, ha, hq, eNode_s, eDef_s, callA_pure mode_49, pl, n1, callA_pure mode_50, hsm, n2, hws, callA_data mode_36, hwi, hk3', hv, ne_eq, not_false_eq_true, callA_pure mode_37, hmy]
                exact hgood (by simp [byPlace, hpl, List.getElem?_eq_getElem ha, nowF, hs, List.getElem?_eq_getElem hq, hk3, he, hm])
          · have hch := ih l[a].kids was[q].kids now[j].kids (path ++ [now[j].name]) (by omega) (by simp; omega) o4 hwk (by have := cnt_kids hq; omega) (by have := cnt_kids hj; omega)
            cases hc2 : chDs (refMay p groups) was[q].kids now[j].kids (path ++ [now[j].name]) l[a].kids with
            | false =>
              rw [hc2] at hch
              rw [hbad (by simp [byPlace, hpl, List.getElem?_eq_getElem ha, nowF, hs, List.getElem?_eq_getElem hq, hk3, he, hc2])]
              simp (maxSteps := 200000) (disch := first | (simp only [go_sem, Nat.reduceAdd, Nat.reduceSub, Nat.reduceMul, Nat.reduceLeDiff, Nat.reduceEqDiff, Nat.reduceLT, Nat.reduceBEq, Nat.reduceBNe, Nat.reducePow, ↓reduceIte]; done) | omega | (simp only [go_sem, Nat.reduceAdd, Nat.reduceSub, Nat.reduceMul, Nat.reduceLeDiff, Nat.reduceEqDiff, Nat.reduceLT, Nat.reduceBEq, Nat.reduceBNe, Nat.reducePow, ↓reduceIte] <;> omega) | fail) only [go_sem, Nat.reduceAdd, Nat.reduceSub, Nat.reduceMul, Nat.reduceLeDiff, Nat.reduceEqDiff, Nat.reduceLT, Nat.reduceBEq, Nat.reduceBNe, Nat.reducePow, ↓reduceIte, nat_int, hj, ha, hq, eNode_s, eDef_s, callA_pure mode_49, pl, n1, callA_pure mode_50, hsm, n2, hws, callA_data mode_36, hwi, hk3, callA_pure mode_29, hch]
            | true =>
              rw [hc2] at hch
              simp (maxSteps := 200000) (disch := first | (simp only [go_sem, Nat.reduceAdd, Nat.reduceSub, Nat.reduceMul, Nat.reduceLeDiff, Nat.reduceEqDiff, Nat.reduceLT, Nat.reduceBEq, Nat.reduceBNe, Nat.reducePow, ↓reduceIte]; done) | omega | (simp only [go_sem, Nat.reduceAdd, Nat.reduceSub, Nat.reduceMul, Nat.reduceLeDiff, Nat.reduceEqDiff, Nat.reduceLT, Nat.reduceBEq, Nat.reduceBNe, Nat.reducePow, ↓reduceIte] <;> omega) | fail) only [go_sem, Nat.reduceAdd, Nat.reduceSub, Nat.reduceMul, Nat.reduceLeDiff, Nat.reduceEqDiff, Nat.reduceLT, Nat.reduceBEq, Nat.reduceBNe, Nat.reducePow, ↓reduceIte, nat_int, hj, ha, hq, eNode_s, eDef_s, callA_pure mode_49, pl, n1, callA_pure mode_50, hsm, n2, hws, callA_data mode_36, hwi, hk3, callA_pure mode_29, hch]
              exact hgood (by simp [byPlace, hpl, List.getElem?_eq_getElem ha, nowF, hs, List.getElem?_eq_getElem hq, hk3, he, hc2])
      · intro hK
        rw [List.drop_length, List.all_nil] at hK
        rw [hK]
        simp (maxSteps := 200000) (disch := first | (simp only [go_sem, Nat.reduceAdd, Nat.reduceSub, Nat.reduceMul, Nat.reduceLeDiff, Nat.reduceEqDiff, Nat.reduceLT, Nat.reduceBEq, Nat.reduceBNe, Nat.reducePow, ↓reduceIte]; done) | omega | (simp only [go_sem, Nat.reduceAdd, Nat.reduceSub, Nat.reduceMul, Nat.reduceLeDiff, Nat.reduceEqDiff, Nat.reduceLT, Nat.reduceBEq, Nat.reduceBNe, Nat.reducePow, ↓reduceIte] <;> omega) | fail) only [go_sem, Nat.reduceAdd, Nat.reduceSub, Nat.reduceMul, Nat.reduceLeDiff, Nat.reduceEqDiff, Nat.reduceLT, Nat.reduceBEq, Nat.reduceBNe, Nat.reducePow, ↓reduceIte, nat_int]
end Go.Abs.SA
end

section
set_option linter.unusedVariables false
set_option linter.unusedSimpArgs false
set_option maxRecDepth 100000
set_option maxHeartbeats 8000000
set_option linter.unusedSimpArgs false
set_option linter.unusedVariables false
namespace Go.Abs.SA
open Go.Proofs

mutual
theorem chD_congr (ok ok' : Int → List Str → Bool) (h2 : ok 2 = ok' 2) (h4 : ok 4 = ok' 4) (h8 : ok 8 = ok' 8) : ∀ (d : Def) (was now : List Node) (path : List Str), chD ok was now path d = chD ok' was now path d
  | .mk n k t v m ks kd, was, now, path => by
    have hs : (fun a b q => chDs ok a b q kd) = (fun a b q => chDs ok' a b q kd) := by
      funext a b q; exact chDs_congr ok ok' h2 h4 h8 kd a b q
    have e1 : nowOk ok (fun a b q => chDs ok a b q kd) (.mk n k t v m ks kd) was path = nowOk ok' (fun a b q => chDs ok' a b q kd) (.mk n k t v m ks kd) was path := by
      funext x; unfold nowOk; rw [h2, h4, hs]
    have e2 : wasOk ok (.mk n k t v m ks kd) now path = wasOk ok' (.mk n k t v m ks kd) now path := by
      funext x; unfold wasOk; rw [h8]
    rw [chD, chD, e1, e2]
theorem chDs_congr (ok ok' : Int → List Str → Bool) (h2 : ok 2 = ok' 2) (h4 : ok 4 = ok' 4) (h8 : ok 8 = ok' 8) : ∀ (l : List Def) (was now : List Node) (path : List Str), chDs ok was now path l = chDs ok' was now path l
  | [], was, now, path => by rw [chDs, chDs]
  | d :: r, was, now, path => by rw [chDs, chDs, chD_congr ok ok' h2 h4 h8 d, chDs_congr ok ok' h2 h4 h8 r]
end
theorem chDs_may (p : Policy) (g : List Str) (l : List Def) (was now : List Node) (path : List Str) : chDs (refMay p g) was now path l = chDs (may p g) was now path l := by
  apply chDs_congr <;> (funext q; exact (may_eq p g _ q (by omega) (by omega)).symm)

theorem sameN_iff {d : Def} {n x : Node} : sameN d n x = true ↔ x.name = n.name ∧ keyD d x = keyD d n := by
  simp [sameN, cmpS_zero]
mutual
/-- Each node has a definition, and there is no other one that is the same. -/
def goodN (l : List Def) (a : List Node) : Node → Prop
  | .mk n v k => ∃ d ∈ l, n = d.name ∧ (∀ y ∈ a, sameN d (.mk n v k) y = true → y = .mk n v k) ∧ goodL d.kids k k
def goodL (l : List Def) (a : List Node) : List Node → Prop
  | [] => True
  | x :: r => goodN l a x ∧ goodL l a r
end
theorem goodN_s {l : List Def} {a : List Node} {x : Node} : goodN l a x ↔ ∃ d ∈ l, x.name = d.name ∧ (∀ y ∈ a, sameN d x y = true → y = x) ∧ goodL d.kids x.kids x.kids := by
  cases x; rw [goodN]; rfl
theorem goodL_iff {l : List Def} {a : List Node} : ∀ {b : List Node}, goodL l a b ↔ ∀ x ∈ b, goodN l a x
  | [] => by simp [goodL]
  | x :: r => by rw [goodL, goodL_iff (b := r)]; simp
mutual
theorem rdE_good (l : List Def) (hw : wfDs l) : ∀ (e : Elem) (d : Def) (n : Node), rdE l e = .ok (d, n) → goodL d.kids n.kids n.kids
  | .mk s nm a t k, d, n, h => by
    rw [rdE] at h
    split at h
    · cases h
    · split at h
      · cases h
      · rename_i d' hd'
        split at h
        · split at h
          · cases h
          · cases h; simp [Node.kids, goodL]
        · split at h
          · cases h
          · split at h
            · cases h
            · rename_i nodes hn
              split at h
              · cases h
                have hwd := wfDs_mem hw (List.mem_of_getElem? hd')
                rw [wfD_s] at hwd
                exact rdL_good _ hwd k [] [] _ (by simp) (by simp) (by simp) hn
              · cases h
theorem rdL_good (l : List Def) (hw : wfDs l) : ∀ (es : List Elem) (out all nodes : List Node), (∀ x ∈ out, x ∈ all) → (∀ x ∈ all, ∃ d ∈ l, x.name = d.name ∧ goodL d.kids x.kids x.kids) →
    (∀ x ∈ all, ∀ y ∈ all, ∀ d ∈ l, x.name = d.name → sameN d x y = true → y = x) → rdL l out all es = .ok nodes → goodL l nodes nodes
  | [], out, all, nodes, h1, h2, h3, h => by
    rw [rdL] at h
    split at h
    · cases h
    · cases h
      rw [goodL_iff]
      intro x hx
      have hxa := h1 x ((order_mem l out).1 hx)
      obtain ⟨d, hd, he, hg⟩ := h2 x hxa
      rw [goodN_s]
      exact ⟨d, hd, he, fun y hy hs => h3 x hxa y (h1 y ((order_mem l out).1 hy)) d hd he hs, hg⟩
  | e :: r, out, all, nodes, h1, h2, h3, h => by
    rw [rdL] at h
    split at h
    · cases h
    · rename_i d n hn
      split at h
      · cases h
      · rename_i hsn
        have hpl := rdE_place hn
        have hgd := rdE_good l hw e d n hn
        have hno : ∀ x ∈ all, sameN d n x = false := by
          intro x hx
          have : sameAt d all n = none := by
            cases hq : sameAt d all n with
            | none => rfl
            | some i => rw [hq] at hsn; simp at hsn
          unfold sameAt at this
          rw [List.findIdx?_eq_none_iff] at this
          exact this x hx
        refine rdL_good l hw r _ _ _ ?_ ?_ ?_ h
        · intro x hx
          split at hx
          · rcases List.mem_append.1 hx with hx | hx
            · exact List.mem_append.2 (.inl (h1 x hx))
            · exact List.mem_append.2 (.inr hx)
          · exact List.mem_append.2 (.inl (h1 x hx))
        · intro x hx
          rcases List.mem_append.1 hx with hx | hx
          · exact h2 x hx
          · rw [List.mem_singleton.1 hx]; exact ⟨d, hpl.1, hpl.2, hgd⟩
        · intro x hx y hy d' hd' he hs
          rcases List.mem_append.1 hx with hx | hx
          · rcases List.mem_append.1 hy with hy | hy
            · exact h3 x hx y hy d' hd' he hs
            · rw [List.mem_singleton.1 hy] at hs ⊢
              obtain ⟨s1, s2⟩ := sameN_iff.1 hs
              have : d' = d := wfDs_inj hw hd' hpl.1 (he.symm.trans (s1.symm.trans hpl.2))
              subst this
              have := hno x hx
              rw [sameN_iff.2 ⟨s1.symm, s2.symm⟩] at this
              cases this
          · rw [List.mem_singleton.1 hx] at hs he ⊢
            rcases List.mem_append.1 hy with hy | hy
            · have : d' = d := wfDs_inj hw hd' hpl.1 (he.symm.trans hpl.2)
              subst this
              rw [hno y hy] at hs
              cases hs
            · exact List.mem_singleton.1 hy
end
theorem wf_schema : wfDs schema := by
  simp [wfDs, wfD, schema, leafD, portD, sName, Def.name]
theorem tree_good {l : List Elem} {n : List Node} (h : tree l = some n) : goodL schema n n := rdL_good _ wf_schema _ _ _ _ (by simp) (by simp) (by simp) (tree_some h).1
theorem sameAt_self {d : Def} {a : List Node} {x : Node} (hx : x ∈ a) (hu : ∀ y ∈ a, sameN d x y = true → y = x) : ∃ i, ∃ hi : i < a.length, sameAt d a x = some i ∧ a[i] = x := by
  cases h : sameAt d a x with
  | none =>
    unfold sameAt at h
    rw [List.findIdx?_eq_none_iff] at h
    have := h x hx
    rw [sameN_iff.2 ⟨rfl, rfl⟩] at this
    cases this
  | some i =>
    have hi := sameAt_lt h
    refine ⟨i, hi, rfl, ?_⟩
    unfold sameAt at h
    rw [List.findIdx?_eq_some_iff_getElem] at h
    exact hu _ (List.getElem_mem hi) h.2.1
theorem good_cond {l : List Def} {a : List Node} (hw : wfDs l) (hg : goodL l a a) : ∀ d ∈ l, ∀ x ∈ a, x.name = d.name → (∀ y ∈ a, sameN d x y = true → y = x) ∧ goodL d.kids x.kids x.kids := by
  intro d hd x hx he
  obtain ⟨d', hd', he', h1, h2⟩ := goodN_s.1 (goodL_iff.1 hg x hx)
  have : d' = d := wfDs_inj hw hd' hd (he'.symm.trans he)
  subst this
  exact ⟨h1, h2⟩
mutual
theorem chD_self (ok : Int → List Str → Bool) : ∀ (d : Def) (a : List Node) (path : List Str), wfD d → (∀ x ∈ a, x.name = d.name → (∀ y ∈ a, sameN d x y = true → y = x) ∧ goodL d.kids x.kids x.kids) → chD ok a a path d = true
  | .mk n k t v m ks kd, a, path, hw, hg => by
    rw [chD, Bool.and_eq_true, List.all_eq_true, List.all_eq_true]
    refine ⟨fun x hx => ?_, fun x hx => ?_⟩
    · unfold nowOk
      by_cases he : x.name = Def.name (.mk n k t v m ks kd)
      · obtain ⟨hu, hgk⟩ := hg x hx he
        obtain ⟨i, hi, hs, hai⟩ := sameAt_self hx hu
        rw [wfD] at hw
        simp only [hs, List.getElem?_eq_getElem hi, hai]
        rw [chDs_self ok kd x.kids _ hw (good_cond hw hgk)]
        simp
      · simp [he]
    · unfold wasOk
      by_cases he : x.name = Def.name (.mk n k t v m ks kd)
      · obtain ⟨hu, hgk⟩ := hg x hx he
        obtain ⟨i, hi, hs, hai⟩ := sameAt_self hx hu
        simp [hs]
      · simp [he]
theorem chDs_self (ok : Int → List Str → Bool) : ∀ (l : List Def) (a : List Node) (path : List Str), wfDs l → (∀ d ∈ l, ∀ x ∈ a, x.name = d.name → (∀ y ∈ a, sameN d x y = true → y = x) ∧ goodL d.kids x.kids x.kids) → chDs ok a a path l = true
  | [], a, path, hw, hg => by rw [chDs]
  | d :: r, a, path, hw, hg => by
    rw [wfDs] at hw
    rw [chDs, chD_self ok d a path hw.2.1 (hg d (by simp)), chDs_self ok r a path hw.2.2 (fun d' hd' => hg d' (by simp [hd']))]
    rfl
end
def eG (g : List Str) : List AV := [lS g]
theorem eG_s (g : List Str) : eG g = [lS g] := nr rfl
theorem eG_len (g : List Str) : (eG g).length = 1 := rfl
instance : EL eG 1 := ⟨eG_len⟩
def three : List (List Str) := [[], [sG], [sH, sG]]
theorem changes_law (p : Policy) (was now : List Elem) (hp : p.ok) (hok : okEs was) (hl : was.length ≤ 140737488355328) (hok2 : okEs now) (hl2 : now.length ≤ 140737488355328) :
    pureW XX 7 [aPolicy p, lE was, lE now] = some (vB true) := by
  refine pureW_in 80 Try.func7 Try.ntmps7 (by simp) (rfl : Try.f7.body = some _) fns_7 ?_
  have ht := tree_spec was hok hl
  have ht2 := tree_spec now hok2 hl2
  have hli := light_spec p hp
  cases htr : tree was with
  | none =>
    simp only [aTree, htr, Option.isSome, Option.getD_none] at ht
    cases htr2 : tree now with
    | none =>
      simp only [aTree, htr2, Option.isSome, Option.getD_none] at ht2
      simp (maxSteps := 200000) (disch := first | (simp only [go_sem, Nat.reduceAdd, Nat.reduceSub, Nat.reduceMul, Nat.reduceLeDiff, Nat.reduceEqDiff, Nat.reduceLT, Nat.reduceBEq, Nat.reduceBNe, Nat.reducePow, ↓reduceIte]; done) | omega | (simp only [go_sem, Nat.reduceAdd, Nat.reduceSub, Nat.reduceMul, Nat.reduceLeDiff, Nat.reduceEqDiff, Nat.reduceLT, Nat.reduceBEq, Nat.reduceBNe, Nat.reducePow, ↓reduceIte] <;> omega) | fail) only [go_sem, Nat.reduceAdd, Nat.reduceSub, Nat.reduceMul, Nat.reduceLeDiff, Nat.reduceEqDiff, Nat.reduceLT, Nat.reduceBEq, Nat.reduceBNe, Nat.reducePow, ↓reduceIte, callA_pure mode_12, fit_spec, callA_data mode_13, ht, ht2]
    | some b =>
      simp only [aTree, htr2, Option.isSome, Option.getD_some] at ht2
      simp (maxSteps := 200000) (disch := first | (simp only [go_sem, Nat.reduceAdd, Nat.reduceSub, Nat.reduceMul, Nat.reduceLeDiff, Nat.reduceEqDiff, Nat.reduceLT, Nat.reduceBEq, Nat.reduceBNe, Nat.reducePow, ↓reduceIte]; done) | omega | (simp only [go_sem, Nat.reduceAdd, Nat.reduceSub, Nat.reduceMul, Nat.reduceLeDiff, Nat.reduceEqDiff, Nat.reduceLT, Nat.reduceBEq, Nat.reduceBNe, Nat.reducePow, ↓reduceIte] <;> omega) | fail) only [go_sem, Nat.reduceAdd, Nat.reduceSub, Nat.reduceMul, Nat.reduceLeDiff, Nat.reduceEqDiff, Nat.reduceLT, Nat.reduceBEq, Nat.reduceBNe, Nat.reducePow, ↓reduceIte, callA_pure mode_12, fit_spec, callA_data mode_13, ht, ht2]
  | some a =>
  simp only [aTree, htr, Option.isSome, Option.getD_some] at ht
  cases htr2 : tree now with
  | none =>
    simp only [aTree, htr2, Option.isSome, Option.getD_none] at ht2
    simp (maxSteps := 200000) (disch := first | (simp only [go_sem, Nat.reduceAdd, Nat.reduceSub, Nat.reduceMul, Nat.reduceLeDiff, Nat.reduceEqDiff, Nat.reduceLT, Nat.reduceBEq, Nat.reduceBNe, Nat.reducePow, ↓reduceIte]; done) | omega | (simp only [go_sem, Nat.reduceAdd, Nat.reduceSub, Nat.reduceMul, Nat.reduceLeDiff, Nat.reduceEqDiff, Nat.reduceLT, Nat.reduceBEq, Nat.reduceBNe, Nat.reducePow, ↓reduceIte] <;> omega) | fail) only [go_sem, Nat.reduceAdd, Nat.reduceSub, Nat.reduceMul, Nat.reduceLeDiff, Nat.reduceEqDiff, Nat.reduceLT, Nat.reduceBEq, Nat.reduceBNe, Nat.reducePow, ↓reduceIte, callA_pure mode_12, fit_spec, callA_data mode_13, ht, ht2]
  | some b =>
  simp only [aTree, htr2, Option.isSome, Option.getD_some] at ht2
  obtain ⟨-, -, ha⟩ := tree_some htr
  obtain ⟨-, -, hb⟩ := tree_some htr2
  by_cases hw : weigh p.rules ≤ 200
  case neg =>
    simp (maxSteps := 200000) (disch := first | (simp only [go_sem, Nat.reduceAdd, Nat.reduceSub, Nat.reduceMul, Nat.reduceLeDiff, Nat.reduceEqDiff, Nat.reduceLT, Nat.reduceBEq, Nat.reduceBNe, Nat.reducePow, ↓reduceIte]; done) | omega | (simp only [go_sem, Nat.reduceAdd, Nat.reduceSub, Nat.reduceMul, Nat.reduceLeDiff, Nat.reduceEqDiff, Nat.reduceLT, Nat.reduceBEq, Nat.reduceBNe, Nat.reducePow, ↓reduceIte] <;> omega) | fail) only [go_sem, Nat.reduceAdd, Nat.reduceSub, Nat.reduceMul, Nat.reduceLeDiff, Nat.reduceEqDiff, Nat.reduceLT, Nat.reduceBEq, Nat.reduceBNe, Nat.reducePow, ↓reduceIte, callA_pure mode_12, fit_spec, callA_data mode_13, ht, ht2, callA_pure mode_14, hli, hw]
  simp (maxSteps := 200000) (disch := first | (simp only [go_sem, Nat.reduceAdd, Nat.reduceSub, Nat.reduceMul, Nat.reduceLeDiff, Nat.reduceEqDiff, Nat.reduceLT, Nat.reduceBEq, Nat.reduceBNe, Nat.reducePow, ↓reduceIte]; done) | omega | (simp only [go_sem, Nat.reduceAdd, Nat.reduceSub, Nat.reduceMul, Nat.reduceLeDiff, Nat.reduceEqDiff, Nat.reduceLT, Nat.reduceBEq, Nat.reduceBNe, Nat.reducePow, ↓reduceIte] <;> omega) | fail) only [go_sem, Nat.reduceAdd, Nat.reduceSub, Nat.reduceMul, Nat.reduceLeDiff, Nat.reduceEqDiff, Nat.reduceLT, Nat.reduceBEq, Nat.reduceBNe, Nat.reducePow, ↓reduceIte, callA_pure mode_12, fit_spec, callA_data mode_13, ht, ht2, callA_pure mode_14, hli, hw, callA_data mode_25, schema_spec]
  refine WP_range 9 1 three.length (fun i => S_7_9 (.ptr 0 0) (lN a) (lN b) (lD schema) (.fs (three.map eG) true) (vI three.length) (vI i) [.var [.fs (p.rules.map eRule) false, vB p.read, vB p.write]]) (fun i => True) rfl rfl ?_ ?_ ?_ ?_
  · simp (maxSteps := 200000) (disch := first | (simp only [go_sem, Nat.reduceAdd, Nat.reduceSub, Nat.reduceMul, Nat.reduceLeDiff, Nat.reduceEqDiff, Nat.reduceLT, Nat.reduceBEq, Nat.reduceBNe, Nat.reducePow, ↓reduceIte]; done) | omega | (simp only [go_sem, Nat.reduceAdd, Nat.reduceSub, Nat.reduceMul, Nat.reduceLeDiff, Nat.reduceEqDiff, Nat.reduceLT, Nat.reduceBEq, Nat.reduceBNe, Nat.reducePow, ↓reduceIte] <;> omega) | fail) only [go_sem, Nat.reduceAdd, Nat.reduceSub, Nat.reduceMul, Nat.reduceLeDiff, Nat.reduceEqDiff, Nat.reduceLT, Nat.reduceBEq, Nat.reduceBNe, Nat.reducePow, ↓reduceIte]; rfl
  · trivial
  · intro i hi3 _
    have hg : three[i].length ≤ 140737488355328 := by
      have : ∀ g ∈ three, g.length ≤ 2 := by simp [three]
      have := this _ (List.getElem_mem hi3)
      omega
    have c1 := change_spec p three[i] hp hg 100 schema a b [] cnt_schema (by simp) okDs_schema (by omega) (by omega)
    have c2 := refChange_spec p three[i] hp hg 100 schema a b [] cnt_schema (by simp) okDs_schema wf_schema (by omega) (by omega)
    have c3 := change_spec p three[i] hp hg 100 schema a a [] cnt_schema (by simp) okDs_schema (by omega) (by omega)
    rw [chDs_self _ _ _ _ wf_schema (good_cond wf_schema (tree_good htr))] at c3
    rw [chDs_may] at c2
    have n17 : ((17 : Int) = 0) = False := eq_false (by omega)
    have hws := wrap_succ hi3 (show three.length ≤ 140737488355328 by simp [three])
    simp only [lS, List.map_nil, vE, errI, if_true] at c1 c2 c3
    cases hc : chDs (may p three[i]) a b [] schema with
    | true =>
      rw [hc] at c1 c2
      simp only [if_true] at c1
      simp (maxSteps := 200000) (disch := first | (simp only [go_sem, Nat.reduceAdd, Nat.reduceSub, Nat.reduceMul, Nat.reduceLeDiff, Nat.reduceEqDiff, Nat.reduceLT, Nat.reduceBEq, Nat.reduceBNe, Nat.reducePow, ↓reduceIte]; done) | omega | (simp only [go_sem, Nat.reduceAdd, Nat.reduceSub, Nat.reduceMul, Nat.reduceLeDiff, Nat.reduceEqDiff, Nat.reduceLT, Nat.reduceBEq, Nat.reduceBNe, Nat.reducePow, ↓reduceIte] <;> omega) | fail) only [go_sem, Nat.reduceAdd, Nat.reduceSub, Nat.reduceMul, Nat.reduceLeDiff, Nat.reduceEqDiff, Nat.reduceLT, Nat.reduceBEq, Nat.reduceBNe, Nat.reducePow, ↓reduceIte, nat_int, hi3, eG_s, callA_pure mode_28, c1, c3, callA_pure mode_29, c2, n17, ne_eq, not_true, not_false_eq_true, hws]
    | false =>
      rw [hc] at c1 c2
      simp only [Bool.false_eq_true, if_false] at c1
      simp (maxSteps := 200000) (disch := first | (simp only [go_sem, Nat.reduceAdd, Nat.reduceSub, Nat.reduceMul, Nat.reduceLeDiff, Nat.reduceEqDiff, Nat.reduceLT, Nat.reduceBEq, Nat.reduceBNe, Nat.reducePow, ↓reduceIte]; done) | omega | (simp only [go_sem, Nat.reduceAdd, Nat.reduceSub, Nat.reduceMul, Nat.reduceLeDiff, Nat.reduceEqDiff, Nat.reduceLT, Nat.reduceBEq, Nat.reduceBNe, Nat.reducePow, ↓reduceIte] <;> omega) | fail) only [go_sem, Nat.reduceAdd, Nat.reduceSub, Nat.reduceMul, Nat.reduceLeDiff, Nat.reduceEqDiff, Nat.reduceLT, Nat.reduceBEq, Nat.reduceBNe, Nat.reducePow, ↓reduceIte, nat_int, hi3, eG_s, callA_pure mode_28, c1, c3, callA_pure mode_29, c2, n17, ne_eq, not_true, not_false_eq_true, hws]
  · intro _
    simp (maxSteps := 200000) (disch := first | (simp only [go_sem, Nat.reduceAdd, Nat.reduceSub, Nat.reduceMul, Nat.reduceLeDiff, Nat.reduceEqDiff, Nat.reduceLT, Nat.reduceBEq, Nat.reduceBNe, Nat.reducePow, ↓reduceIte]; done) | omega | (simp only [go_sem, Nat.reduceAdd, Nat.reduceSub, Nat.reduceMul, Nat.reduceLeDiff, Nat.reduceEqDiff, Nat.reduceLT, Nat.reduceBEq, Nat.reduceBNe, Nat.reducePow, ↓reduceIte] <;> omega) | fail) only [go_sem, Nat.reduceAdd, Nat.reduceSub, Nat.reduceMul, Nat.reduceLeDiff, Nat.reduceEqDiff, Nat.reduceLT, Nat.reduceBEq, Nat.reduceBNe, Nat.reducePow, ↓reduceIte, nat_int, Nat.lt_irrefl]
end Go.Abs.SA
end
