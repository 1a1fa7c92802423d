/- YtmjhgjgfinhiaaaGreatDoorZ1: a part of the interpreter by which the claim is shown, and of the walks: no conditions of its own: every theorem states its own. -/
import Derived.Test.YtmjhgjgfinhiaaaGreatDoorA6
set_option linter.unusedVariables false
set_option linter.unusedSimpArgs false
set_option linter.unusedSectionVars false
set_option maxHeartbeats 32000000
set_option maxRecDepth 100000
section
namespace Go.Abs.SA
open Go.Proofs
def cS (a b : Str) : Int := if sless a b then -1 else if !(sless a b || decide (a = b)) then 1 else 0
def cmp2 : List Str → List Str → Int
  | [], [] => 0
  | [], _ :: _ => -1
  | _ :: _, [] => 1
  | a :: r, b :: q => if cS a b = 0 then cmp2 r q else cS a b
theorem cmp2_lt : ∀ (a b : List Str), (cmp2 a b < 0) = (cmpS a b < 0)
  | [], [] => by simp [cmp2, cmpS]
  | [], b :: q => by
    simp only [cmp2, cmpS, List.length_cons, eq_iff_iff]
    omega
  | a :: r, [] => by
    simp only [cmp2, cmpS, eq_iff_iff]
    omega
  | a :: r, b :: q => by
    have ih := cmp2_lt r q
    have hc : cS a b = if sless a b then -1 else if !(sless a b || decide (a = b)) then 1 else 0 := rfl
    rw [cmp2, cmpS]
    by_cases h1 : sless a b = true
    · rw [if_pos h1] at hc
      simp [hc, h1]
    · rw [if_neg h1] at hc
      by_cases h2 : (!(sless a b || decide (a = b))) = true
      · rw [if_pos h2] at hc
        rw [if_neg h1, if_pos h2]
        simp [hc]
      · rw [if_neg h2] at hc
        rw [if_neg h1, if_neg h2, if_pos hc]
        exact ih
theorem isNaN_spec (s : Str) : pureW XX 243 [vS s] = some (vB false) := by
  refine pureW_in 6 Tryz.func243 Tryz.ntmps243 (by simp) (rfl : Tryz.f243.body = some _) fns_243 ?_
  simp (maxSteps := 200000) (disch := first | omega | (simp only [go_sem] <;> omega) | fail) only [go_sem, ne_eq, not_true]
theorem cmpStr_spec (a b : Str) : pureW XX 202 [vS a, vS b] = some (vI (cS a b)) := by
  refine pureW_in 20 Tryz.func202 Tryz.ntmps202 (by simp) (rfl : Tryz.f202.body = some _) fns_202 ?_
  unfold cS
  by_cases h1 : sless a b = true
  · simp (maxSteps := 200000) (disch := first | omega | (simp only [go_sem] <;> omega) | fail) only [go_sem, callA_pure mode_243, isNaN_spec, h1]
  · simp only [Bool.not_eq_true] at h1
    by_cases h2 : (sless a b || decide (a = b)) = true
    · rw [h1, Bool.false_or] at h2
      simp (maxSteps := 200000) (disch := first | omega | (simp only [go_sem] <;> omega) | fail) only [go_sem, callA_pure mode_243, isNaN_spec, h1, h2]
    · simp only [Bool.not_eq_true] at h2
      rw [h1, Bool.false_or] at h2
      simp (maxSteps := 200000) (disch := first | omega | (simp only [go_sem] <;> omega) | fail) only [go_sem, callA_pure mode_243, isNaN_spec, h1, h2]
theorem cmp2_end (a b : List Str) (h : a = []) : cmp2 a b = if a.length < b.length then -1 else 0 := by
  subst h
  cases b with
  | nil => simp [cmp2]
  | cons y q => simp [cmp2]
theorem scompare_spec (a b : List Str) (ha : a.length ≤ 140737488355328) (hb : b.length ≤ 140737488355328) : pureW XX 149 [lS a, lS b] = some (vI (cmp2 a b)) := by
  refine pureW_in 36 Tryz.func149 Tryz.ntmps149 (by simp) (rfl : Tryz.f149.body = some _) fns_149 ?_
  simp (maxSteps := 200000) (disch := first | omega | (simp only [go_sem] <;> omega) | fail) only [go_sem]
  refine WP_range 2 0 a.length (fun i => S_149_2 (lS a) (lS b) (lS a) (vI a.length) (vI i) []) (fun i => i ≤ b.length ∧ cmp2 a b = cmp2 (a.drop i) (b.drop i)) rfl rfl ?_ ?_ ?_ ?_
  · simp (maxSteps := 200000) (disch := first | omega | (simp only [go_sem] <;> omega) | fail) only [go_sem]; rfl
  · simp
  · rintro i h1 ⟨hb', hI⟩
    rw [List.drop_eq_getElem_cons h1] at hI
    by_cases h2 : i < b.length
    · rw [List.drop_eq_getElem_cons h2, cmp2] at hI
      have hc := cmpStr_spec a[i] b[i]
      have g2 : ((b.length : Int) ≤ (i : Int)) = False := eq_false (by omega)
      by_cases h3 : cS a[i] b[i] = 0
      · rw [if_pos h3] at hI
        rw [h3] at hc
        simp (maxSteps := 200000) (disch := first | omega | (simp only [go_sem] <;> omega) | fail) only [go_sem, nat_int, h1, h2, g2, callA_pure mode_202, hc, wrap_succ h1 ha, ne_eq, not_true]
        exact ⟨h2, hI⟩
      · rw [if_neg h3] at hI
        simp (maxSteps := 200000) (disch := first | omega | (simp only [go_sem] <;> omega) | fail) only [go_sem, nat_int, h1, h2, g2, callA_pure mode_202, hc, h3, ne_eq, not_false_eq_true]
        rw [hI]
    · have hbi : i = b.length := by omega
      have g2 : ((b.length : Int) ≤ (i : Int)) = True := eq_true (by omega)
      rw [show b.drop i = [] from List.drop_eq_nil_of_le (by omega), cmp2] at hI
      simp (maxSteps := 200000) (disch := first | omega | (simp only [go_sem] <;> omega) | fail) only [go_sem, nat_int, h1, g2, hI]
  · rintro ⟨hb', hI⟩
    rw [cmp2_end (a.drop a.length) (b.drop a.length) (List.drop_length ..)] at hI
    by_cases h3 : a.length < b.length
    · rw [if_pos (by rw [List.length_drop, List.length_drop]; omega)] at hI
      simp (maxSteps := 200000) (disch := first | omega | (simp only [go_sem] <;> omega) | fail) only [go_sem, nat_int, h3, hI]
    · rw [if_neg (by rw [List.length_drop, List.length_drop]; omega)] at hI
      simp (maxSteps := 200000) (disch := first | omega | (simp only [go_sem] <;> omega) | fail) only [go_sem, nat_int, h3, hI]
def ordC (l : List Def) (a b : Node) : Int :=
  match place l a.name, place l b.name with
  | some i, some j => if i = j then (match l[i]? with
    | some d => cmp2 (keyD d a) (keyD d b)
    | none => 0) else (i : Int) - j
  | x, y => posI x - posI y
theorem ordC_iff (l : List Def) (a b : Node) : ordC l a b < 0 ↔ before l a b = true := by
  unfold ordC before
  cases h1 : place l a.name with
  | none =>
    cases h2 : place l b.name with
    | none => simp only [posI]; exact ⟨fun h => decide_eq_true (by omega), fun h => by have := of_decide_eq_true h; omega⟩
    | some j => simp only [posI]; exact ⟨fun h => decide_eq_true (by omega), fun h => by have := of_decide_eq_true h; omega⟩
  | some i =>
    cases h2 : place l b.name with
    | none => simp only [posI]; exact ⟨fun h => decide_eq_true (by omega), fun h => by have := of_decide_eq_true h; omega⟩
    | some j =>
      obtain ⟨hi, -⟩ := place_some h1
      by_cases hij : i = j
      · subst hij
        simp only [if_pos rfl, List.getElem?_eq_getElem hi, cmp2_lt, decide_eq_true_eq, if_true]
      · simp only [if_neg hij, decide_eq_true_eq]; omega
theorem ordC_lt (l : List Def) (a b : Node) : decide (ordC l a b < 0) = before l a b := by
  rw [Bool.eq_iff_iff, decide_eq_true_eq]; exact ordC_iff l a b
theorem ord_spec (l : List Def) (a b : Node) (hl : l.length ≤ 1099511627776) (ho : okDs l) (ha : a.kids.length ≤ 140737488355328) (hb : b.kids.length ≤ 140737488355328) : pureW XX 148 [aNode a, aNode b, .fp [lD l]] = some (vI (ordC l a b)) := by
  refine pureW_in 51 Tryz.func148 Tryz.ntmps148 (by simp) (rfl : Tryz.f148.body = some _) fns_148 ?_
  have pa := find_spec l a.name (by omega)
  have pb := find_spec l b.name (by omega)
  have w1 : IntKind.i64.wrap (-1) = -1 := by decide
  unfold ordC
  cases h1 : place l a.name with
  | none =>
    rw [h1] at pa
    cases h2 : place l b.name with
    | none =>
      rw [h2] at pb
      have w0 : IntKind.i64.wrap 0 = 0 := by decide
      simp (maxSteps := 200000) (disch := first | omega | (simp only [go_sem] <;> omega) | fail) only [go_sem, callA_pure mode_55, pa, pb, posI, ne_eq, not_true, not_false_eq_true, Int.reduceNeg, Int.reduceLT, Int.reduceEq, Int.sub_self, w0]
    | some j =>
      rw [h2] at pb
      obtain ⟨hj, -⟩ := place_some h2
      have e1 : ((-1 : Int) = (j : Int)) = False := eq_false (by omega)
      have w2 : IntKind.i64.wrap (-1 - (j : Int)) = -1 - j := IntWalk.i64_in _ (by omega)
      simp (maxSteps := 200000) (disch := first | omega | (simp only [go_sem] <;> omega) | fail) only [go_sem, callA_pure mode_55, pa, pb, posI, ne_eq, not_true, not_false_eq_true, e1, w2]
  | some i =>
    rw [h1] at pa
    obtain ⟨hi, -⟩ := place_some h1
    cases h2 : place l b.name with
    | none =>
      rw [h2] at pb
      have e1 : ((i : Int) = -1) = False := eq_false (by omega)
      have w2 : IntKind.i64.wrap ((i : Int) - -1) = (i : Int) - -1 := IntWalk.i64_in _ (by omega)
      simp (maxSteps := 200000) (disch := first | omega | (simp only [go_sem] <;> omega) | fail) only [go_sem, callA_pure mode_55, pa, pb, posI, ne_eq, not_true, not_false_eq_true, e1, w2]
    | some j =>
      rw [h2] at pb
      obtain ⟨hj, -⟩ := place_some h2
      by_cases hij : i = j
      · subst hij
        obtain ⟨-, o1, -, -⟩ := okD_s (okDs_mem ho (List.getElem_mem hi))
        have c1 := scompare_spec (keyD l[i] a) (keyD l[i] b) (by have := keyD_len l[i] a; omega) (by have := keyD_len l[i] b; omega)
        have e2 : ((i : Int) < 0) = False := eq_false (by omega)
        simp (maxSteps := 200000) (disch := first | omega | (simp only [go_sem] <;> omega) | fail) only [go_sem, callA_pure mode_55, pa, pb, posI, ne_eq, not_true, not_false_eq_true, e2, hi, eDef_s, callA_data mode_56, modelKey_spec l[i] a o1 ha, modelKey_spec l[i] b o1 hb, keyD_fold, callA_pure mode_149, c1]
        simp [hi]
      · have e1 : ((i : Int) = (j : Int)) = False := eq_false (by omega)
        have w2 : IntKind.i64.wrap ((i : Int) - (j : Int)) = (i : Int) - j := IntWalk.i64_in _ (by omega)
        simp (maxSteps := 200000) (disch := first | omega | (simp only [go_sem] <;> omega) | fail) only [go_sem, callA_pure mode_55, pa, pb, posI, ne_eq, not_true, not_false_eq_true, e1, nat_int, w2]
        simp [hij]
end Go.Abs.SA
end
section
namespace Go.Abs.SA
open Go.Proofs
def swp (ns : List Node) (i j : Nat) : List Node := match ns[i]?, ns[j]? with
  | some x, some y => (ns.set i y).set j x
  | _, _ => ns
theorem swp_len (ns : List Node) (i j : Nat) : (swp ns i j).length = ns.length := by
  unfold swp; split <;> simp
theorem swp_t (ns : List Node) {i j : Nat} (hi : i < ns.length) (hj : j < ns.length) : swp ns i j = (ns.set i ns[j]).set j ns[i] := by
  simp [swp, hi, hj]
def swpR : List Node → Nat → Nat → Nat → List Node
  | ns, _, _, 0 => ns
  | ns, a, b, m + 1 => swpR (swp ns a b) (a + 1) (b + 1) m
theorem swpR_len : ∀ (m : Nat) (ns : List Node) (a b : Nat), (swpR ns a b m).length = ns.length
  | 0, ns, a, b => rfl
  | m + 1, ns, a, b => by rw [swpR, swpR_len m, swp_len]
theorem swp_app (P M Q : List Node) (u v : Node) : swp (P ++ u :: (M ++ v :: Q)) P.length (P.length + 1 + M.length) = P ++ v :: (M ++ u :: Q) := by
  unfold swp
  rw [List.getElem?_append_right (Nat.le_refl _), Nat.sub_self, List.getElem?_cons_zero, List.getElem?_append_right (by omega), show P.length + 1 + M.length - P.length = M.length + 1 from by omega, List.getElem?_cons_succ, List.getElem?_append_right (Nat.le_refl _), Nat.sub_self, List.getElem?_cons_zero]
  dsimp only
  rw [List.set_append_right _ _ (Nat.le_refl _), Nat.sub_self, List.set_cons_zero, List.set_append_right _ _ (by omega), show P.length + 1 + M.length - P.length = M.length + 1 from by omega, List.set_cons_succ, List.set_append_right _ _ (Nat.le_refl _), Nat.sub_self, List.set_cons_zero]
theorem swpR_app : ∀ (U V P M Q : List Node), U.length = V.length → swpR (P ++ (U ++ (M ++ (V ++ Q)))) P.length (P.length + U.length + M.length) U.length = P ++ (V ++ (M ++ (U ++ Q)))
  | [], [], P, M, Q, _ => by simp [swpR]
  | u :: U, v :: V, P, M, Q, h => by
    rw [List.length_cons, swpR]
    have e1 := swp_app P (U ++ M) (V ++ Q) u v
    rw [show P ++ (u :: U ++ (M ++ (v :: V ++ Q))) = P ++ u :: ((U ++ M) ++ v :: (V ++ Q)) from by simp, show P.length + (U.length + 1) + M.length = P.length + 1 + (U ++ M).length from by simp; omega, e1]
    have e2 := swpR_app U V (P ++ [v]) (M ++ [u]) Q (by simpa using h)
    rw [show P ++ v :: (U ++ M ++ u :: (V ++ Q)) = (P ++ [v]) ++ (U ++ ((M ++ [u]) ++ (V ++ Q))) from by simp, show P.length + 1 = (P ++ [v]).length from by simp, show (P ++ [v]).length + (U ++ M).length + 1 = (P ++ [v]).length + U.length + (M ++ [u]).length from by simp; omega, e2]
    simp
theorem set_N (l : List Node) (i : Nat) (n : Node) : (l.map eNode).set i [vS n.name, vS n.value, .fs (n.kids.map eNode) false] = (l.set i n).map eNode := by rw [List.map_set, eNode_s]
abbrev hS (l : List Def) (ns : List Node) : List Blk := [.arr 75 3 (ns.map eNode), .var [lD l]]
abbrev fO : AV := .fn 148 [.ptr 1 0]
theorem swap_spec (l : List Def) (ns : List Node) (a b m n : Nat) (hn : n ≤ ns.length) (hb : n ≤ 1099511627776) (ha : a + m ≤ n) (h2 : b + m ≤ n) :
    loudW XX 282 [.sl 0 0 n false, vI a, vI b, vI m, fO] (hS l ns) = some (.tup [], hS l (swpR ns a b m)) := by
  refine loudW_in 38 Tryz.func282 Tryz.ntmps282 (by simp) (rfl : Tryz.f282.body = some _) fns_282 ?_
  simp (maxSteps := 200000) (disch := first | omega | (simp only [go_sem] <;> omega) | fail) only [go_sem]
  refine WP_loopR 1 2 (fun (p : Nat × List Node) => S_282_1 (.sl 0 0 n false) (vI a) (vI b) (vI m) (vI p.1) (hS l p.2)) (fun p => m - p.1) (fun p => p.1 ≤ m ∧ n ≤ p.2.length ∧ swpR p.2 (a + p.1) (b + p.1) (m - p.1) = swpR ns a b m) (0, ns) rfl rfl ?_ ?_ ?_
  · simp (maxSteps := 200000) (disch := first | omega | (simp only [go_sem] <;> omega) | fail) only [go_sem]; rfl
  · exact ⟨Nat.zero_le _, hn, rfl⟩
  · rintro ⟨i, t⟩ ⟨h1, h3, hI⟩
    simp only at h1 h3 hI
    by_cases h : i < m
    · have g1 : a + i < t.length := by omega
      have g2 : b + i < t.length := by omega
      have w1 : IntKind.i64.wrap ((a : Int) + (i : Int)) = ((a + i : Nat) : Int) := by rw [IntWalk.i64_in _ (by omega)]; omega
      have w2 : IntKind.i64.wrap ((b : Int) + (i : Int)) = ((b + i : Nat) : Int) := by rw [IntWalk.i64_in _ (by omega)]; omega
      have g3 : b + i < (t.set (a + i) t[b + i]).length := by rw [List.length_set]; omega
      have g1' : a + i < n := by omega
      have g2' : b + i < n := by omega
      simp (maxSteps := 200000) (disch := first | omega | (simp only [go_sem] <;> omega) | fail) only [go_sem, nat_int, h, w1, w2, g1, g2, g1', g2', eNode_s, set_N, wrap_succ h (show m ≤ 140737488355328 by omega)]
      refine ⟨(i + 1, swp t (a + i) (b + i)), ?_, ?_, ?_⟩
      · rw [swp_t _ g1 g2]
      · refine ⟨h, by rw [swp_len]; exact h3, ?_⟩
        rw [← hI, show m - i = (m - (i + 1)) + 1 from by omega, swpR]
        rfl
      · simp only; omega
    · have : i = m := by omega
      subst this
      rw [Nat.sub_self, swpR] at hI
      simp (maxSteps := 200000) (disch := first | omega | (simp only [go_sem] <;> omega) | fail) only [go_sem, nat_int]
      rw [hI]
end Go.Abs.SA
end
section
namespace Go.Abs.SA
open Go.Proofs
theorem call_swap (t : List AV) (l : List Def) (ns : List Node) (a b m n : Nat) (hn : n ≤ ns.length) (hb : n ≤ 1099511627776) (ha : a + m ≤ n) (h2 : b + m ≤ n) :
    callX XX (orW XX) ⟨t, hS l ns⟩ 266 282 [.sl 0 0 n false, vI a, vI b, vI m, fO] = some (.st (.tup []) ⟨t, hS l (swpR ns a b m)⟩) :=
  callX_two (by rw [live_266]; rfl) (by simp [AV.lts, AV.lt]) (by simp [idsOfs, idsOf, addNew]) (by simp [AV.rens, AV.ren, posOf]) (by simp [idsOfs, idsOf]) (by simp [swpR_len]) (by simp [idsOf, idsOfs]) (swap_spec l ns a b m n hn hb ha h2)
theorem rot_spec (l : List Def) (P0 U0 V0 Q0 : List Node) (n a m b : Nat) (hn : n ≤ (P0 ++ (U0 ++ (V0 ++ Q0))).length) (hbn : b ≤ n) (hb : n ≤ 1099511627776) (h1 : P0.length = a) (h2 : P0.length + U0.length = m) (h3 : P0.length + U0.length + V0.length = b) (hu : 0 < U0.length) (hv : 0 < V0.length) :
    loudW XX 266 [.sl 0 0 n false, vI a, vI m, vI b, fO] (hS l (P0 ++ (U0 ++ (V0 ++ Q0)))) = some (.tup [], hS l (P0 ++ (V0 ++ (U0 ++ Q0)))) := by
  refine loudW_in 58 Tryz.func266 Tryz.ntmps266 (by simp) (rfl : Tryz.f266.body = some _) fns_266 ?_
  have e1 : IntKind.i64.wrap ((m : Int) - (a : Int)) = (U0.length : Int) := by rw [IntWalk.i64_in _ (by omega)]; omega
  have e2 : IntKind.i64.wrap ((b : Int) - (m : Int)) = (V0.length : Int) := by rw [IntWalk.i64_in _ (by omega)]; omega
  simp (maxSteps := 200000) (disch := first | omega | (simp only [go_sem] <;> omega) | fail) only [go_sem, e1, e2]
  refine WP_loopR 2 2 (fun (p : List Node × List Node × List Node × List Node) => S_266_2 (.sl 0 0 n false) (vI m) fO (vI p.2.1.length) (vI p.2.2.1.length) (hS l (p.1 ++ (p.2.1 ++ (p.2.2.1 ++ p.2.2.2))))) (fun p => p.2.1.length + p.2.2.1.length)
    (fun p => (n ≤ (p.1 ++ (p.2.1 ++ (p.2.2.1 ++ p.2.2.2))).length ∧ p.1.length + p.2.1.length + p.2.2.1.length ≤ n) ∧ p.1.length + p.2.1.length = m ∧ 0 < p.2.1.length ∧ 0 < p.2.2.1.length ∧ p.1 ++ (p.2.2.1 ++ (p.2.1 ++ p.2.2.2)) = P0 ++ (V0 ++ (U0 ++ Q0))) (P0, U0, V0, Q0) rfl rfl ?_ ?_ ?_
  · simp (maxSteps := 200000) (disch := first | omega | (simp only [go_sem] <;> omega) | fail) only [go_sem]
  · exact ⟨⟨hn, by simp only; omega⟩, h2, hu, hv, rfl⟩
  · rintro ⟨P, U, V, Q⟩ ⟨⟨g1, g5⟩, g2, g3, g4, hI⟩
    simp only at g1 g2 g3 g4 g5 hI
    have hlen := g1
    simp only [List.length_append] at hlen
    have w1 : IntKind.i64.wrap ((m : Int) - (U.length : Int)) = (P.length : Int) := by rw [IntWalk.i64_in _ (by omega)]; omega
    by_cases c1 : U.length = V.length
    · have c1' : ((U.length : Int) = (V.length : Int)) = True := eq_true (by omega)
      have hsw := call_swap (l := l) (ns := P ++ (U ++ (V ++ Q))) (a := P.length) (b := m) (m := U.length) (n := n) (hn := g1) (hb := hb) (ha := by omega) (h2 := by omega)
      have hap := swpR_app U V P [] Q c1
      rw [List.nil_append, List.nil_append, List.length_nil, Nat.add_zero, g2] at hap
      simp (maxSteps := 200000) (disch := first | omega | (simp only [go_sem] <;> omega) | fail) only [go_sem, c1', ne_eq, not_true, w1, hsw]
      rw [hap, hI]
    have c1' : ((U.length : Int) = (V.length : Int)) = False := eq_false (by omega)
    by_cases c2 : V.length < U.length
    · obtain ⟨U1, U2, hU, hU1⟩ : ∃ U1 U2, U = U1 ++ U2 ∧ U1.length = V.length := ⟨U.take V.length, U.drop V.length, (List.take_append_drop ..).symm, by rw [List.length_take]; omega⟩
      have hUl : U.length = U1.length + U2.length := by rw [hU, List.length_append]
      have hsw := call_swap (l := l) (ns := P ++ (U ++ (V ++ Q))) (a := P.length) (b := m) (m := V.length) (n := n) (hn := g1) (hb := hb) (ha := by omega) (h2 := by omega)
      have hap := swpR_app U1 V P U2 Q hU1
      rw [hU1, show P.length + V.length + U2.length = m from by omega, show P ++ (U1 ++ (U2 ++ (V ++ Q))) = P ++ (U ++ (V ++ Q)) from by rw [hU]; simp] at hap
      have c2' : ((V.length : Int) < (U.length : Int)) = True := eq_true (by omega)
      have w3 : IntKind.i64.wrap ((U.length : Int) - (V.length : Int)) = (U2.length : Int) := by rw [IntWalk.i64_in _ (by omega)]; omega
      simp (maxSteps := 200000) (disch := first | omega | (simp only [go_sem] <;> omega) | fail) only [go_sem, c1', c2', ne_eq, not_false_eq_true, w1, w3, hsw]
      refine ⟨(P ++ V, U2, U1, Q), ?_, ⟨?_, ?_, ?_, ?_, ?_⟩, ?_⟩
      · simp only
        rw [hap, hU1, show P ++ V ++ (U2 ++ (U1 ++ Q)) = P ++ (V ++ (U2 ++ (U1 ++ Q))) from by simp]
      · simp only [List.length_append]; omega
      · simp only [List.length_append]; omega
      · simp only; omega
      · simp only; omega
      · rw [← hI, hU]; simp
      · simp only; omega
    · obtain ⟨V1, V2, hV, hV2⟩ : ∃ V1 V2, V = V1 ++ V2 ∧ V2.length = U.length := ⟨V.take (V.length - U.length), V.drop (V.length - U.length), (List.take_append_drop ..).symm, by rw [List.length_drop]; omega⟩
      have hVl : V.length = V1.length + V2.length := by rw [hV, List.length_append]
      have hsw := call_swap (l := l) (ns := P ++ (U ++ (V ++ Q))) (a := P.length) (b := m + V1.length) (m := U.length) (n := n) (hn := g1) (hb := hb) (ha := by omega) (h2 := by omega)
      have hap := swpR_app U V2 P V1 Q hV2.symm
      rw [g2, show P ++ (U ++ (V1 ++ (V2 ++ Q))) = P ++ (U ++ (V ++ Q)) from by rw [hV]; simp] at hap
      have c2' : ((V.length : Int) < (U.length : Int)) = False := eq_false (by omega)
      have w3 : IntKind.i64.wrap ((V.length : Int) - (U.length : Int)) = (V1.length : Int) := by rw [IntWalk.i64_in _ (by omega)]; omega
      have w4 : IntKind.i64.wrap ((m : Int) + (V.length : Int)) = (m : Int) + V.length := IntWalk.i64_in _ (by omega)
      have w5 : IntKind.i64.wrap ((m : Int) + (V.length : Int) - (U.length : Int)) = ((m + V1.length : Nat) : Int) := by rw [IntWalk.i64_in _ (by omega)]; omega
      simp (maxSteps := 200000) (disch := first | omega | (simp only [go_sem] <;> omega) | fail) only [go_sem, c1', c2', ne_eq, not_false_eq_true, w1, w3, w4, w5, hsw]
      refine ⟨(P, V2, V1, U ++ Q), ?_, ⟨?_, ?_, ?_, ?_, ?_⟩, ?_⟩
      · simp only
        rw [hap, hV2]
      · simp only [List.length_append]; omega
      · simp only; omega
      · simp only; omega
      · simp only; omega
      · rw [← hI, hV]; simp
      · simp only; omega
end Go.Abs.SA
end
section
namespace Go.Abs.Srt
variable {α : Type} (lt : α → α → Bool)
structure Wk : Prop where
  irr : ∀ a, lt a a = false
  tr : ∀ a b c, lt a b = true → lt b c = true → lt a c = true
  le : ∀ a b c, lt b a = false → lt c b = false → lt c a = false
def mrg : List α → List α → List α
  | [], B => B
  | A, [] => A
  | a :: A, b :: B => if lt b a = true then b :: mrg (a :: A) B else a :: mrg A (b :: B)
termination_by A B => A.length + B.length
theorem mrg_nil (A : List α) : mrg lt A [] = A := by cases A <;> simp [mrg]
theorem nil_mrg (B : List α) : mrg lt [] B = B := by simp [mrg]
theorem mrg_cons (a b : α) (A B : List α) : mrg lt (a :: A) (b :: B) = if lt b a = true then b :: mrg lt (a :: A) B else a :: mrg lt A (b :: B) := by rw [mrg]
theorem mrg_lt {a b : α} (A B : List α) (h : lt b a = true) : mrg lt (a :: A) (b :: B) = b :: mrg lt (a :: A) B := by rw [mrg_cons, if_pos h]
theorem mrg_ge {a b : α} (A B : List α) (h : lt b a = false) : mrg lt (a :: A) (b :: B) = a :: mrg lt A (b :: B) := by rw [mrg_cons, if_neg (by rw [h]; simp)]
theorem mrg_len : ∀ (A B : List α), (mrg lt A B).length = A.length + B.length
  | [], B => by rw [nil_mrg]; simp
  | a :: A, [] => by rw [mrg_nil]; simp
  | a :: A, b :: B => by
    rw [mrg_cons]
    split
    · have := mrg_len (a :: A) B; simp only [List.length_cons] at *; omega
    · have := mrg_len A (b :: B); simp only [List.length_cons] at *; omega
termination_by A B => A.length + B.length
theorem mrg_mem {x : α} : ∀ (A B : List α), x ∈ mrg lt A B ↔ x ∈ A ∨ x ∈ B
  | [], B => by rw [nil_mrg]; simp
  | a :: A, [] => by rw [mrg_nil]; simp
  | a :: A, b :: B => by
    rw [mrg_cons]
    split
    · rw [List.mem_cons, mrg_mem (a :: A) B]; simp only [List.mem_cons]; grind
    · rw [List.mem_cons, mrg_mem A (b :: B)]; simp only [List.mem_cons]; grind
termination_by A B => A.length + B.length
variable {lt}
theorem Wk.mixL (w : Wk lt) {a b c : α} (h1 : lt c a = true) (h2 : lt b a = false) : lt c b = true := by
  cases h : lt c b with
  | true => rfl
  | false => rw [w.le a b c h2 h] at h1; cases h1
theorem Wk.asym (w : Wk lt) {a b : α} (h : lt a b = true) : lt b a = false := by
  cases h2 : lt b a with
  | false => rfl
  | true => have := w.tr _ _ _ h h2; rw [w.irr] at this; cases this
theorem mrg_assoc (w : Wk lt) : ∀ (A B C : List α), mrg lt (mrg lt A B) C = mrg lt A (mrg lt B C)
  | [], B, C => by rw [nil_mrg, nil_mrg]
  | A, [], C => by rw [mrg_nil, nil_mrg]
  | A, B, [] => by rw [mrg_nil, mrg_nil]
  | a :: A, b :: B, c :: C => by
    cases hba : lt b a with
    | true =>
      rw [mrg_lt lt A B hba]
      cases hcb : lt c b with
      | true =>
        have hca := w.tr _ _ _ hcb hba
        rw [mrg_lt lt _ _ hcb, mrg_lt lt B C hcb, mrg_lt lt _ _ hca, ← mrg_assoc w (a :: A) (b :: B) C, mrg_lt lt A B hba]
      | false =>
        rw [mrg_ge lt _ _ hcb, mrg_ge lt B C hcb, mrg_lt lt _ _ hba, mrg_assoc w (a :: A) B (c :: C)]
    | false =>
      rw [mrg_ge lt A B hba]
      cases hca : lt c a with
      | true =>
        have hcb := w.mixL hca hba
        rw [mrg_lt lt _ _ hca, mrg_lt lt B C hcb, mrg_lt lt _ _ hca, ← mrg_assoc w (a :: A) (b :: B) C, mrg_ge lt A B hba]
      | false =>
        rw [mrg_ge lt _ _ hca, mrg_assoc w A (b :: B) (c :: C)]
        cases hcb : lt c b with
        | true => rw [mrg_lt lt B C hcb, mrg_ge lt _ _ hca]
        | false => rw [mrg_ge lt B C hcb, mrg_ge lt _ _ hba]
termination_by A B C => A.length + B.length + C.length
variable (lt)
def srt (l : List α) : List α := l.foldl (fun S x => mrg lt S [x]) []
theorem srt_nil : srt lt [] = [] := rfl
theorem srt_snoc (l : List α) (x : α) : srt lt (l ++ [x]) = mrg lt (srt lt l) [x] := by simp [srt]
theorem srt_one (x : α) : srt lt [x] = [x] := by simp [srt, nil_mrg]
variable {lt}
theorem foldl_mrg (w : Wk lt) : ∀ (l S T : List α), l.foldl (fun S x => mrg lt S [x]) (mrg lt S T) = mrg lt S (l.foldl (fun S x => mrg lt S [x]) T)
  | [], S, T => rfl
  | x :: l, S, T => by
    simp only [List.foldl_cons]
    rw [mrg_assoc w, foldl_mrg w l S (mrg lt T [x])]
theorem srt_app (w : Wk lt) (A B : List α) : srt lt (A ++ B) = mrg lt (srt lt A) (srt lt B) := by
  unfold srt
  rw [List.foldl_append]
  have := foldl_mrg w B (A.foldl (fun S x => mrg lt S [x]) []) []
  rwa [mrg_nil] at this
variable (lt)
theorem srt_len (l : List α) : (srt lt l).length = l.length := by
  suffices h : ∀ (l S : List α), (l.foldl (fun S x => mrg lt S [x]) S).length = S.length + l.length by simpa [srt] using h l []
  intro l
  induction l with
  | nil => simp
  | cons x l ih => intro S; simp only [List.foldl_cons]; rw [ih, mrg_len]; simp; omega
theorem srt_mem {x : α} (l : List α) : x ∈ srt lt l ↔ x ∈ l := by
  suffices h : ∀ (l S : List α), x ∈ l.foldl (fun S x => mrg lt S [x]) S ↔ x ∈ S ∨ x ∈ l by simpa [srt] using h l []
  intro l
  induction l with
  | nil => simp
  | cons y l ih => intro S; simp only [List.foldl_cons]; rw [ih, mrg_mem]; simp; grind
def Ord (l : List α) : Prop := l.Pairwise fun a b => lt b a = false
theorem Ord.nil : Ord lt [] := List.Pairwise.nil
theorem Ord.one (x : α) : Ord lt [x] := List.pairwise_singleton _ _
variable {lt}
theorem Ord.mrg (w : Wk lt) : ∀ {A B : List α}, Ord lt A → Ord lt B → Ord lt (mrg lt A B)
  | [], B, _, h => by rw [nil_mrg]; exact h
  | a :: A, [], h, _ => by rw [mrg_nil]; exact h
  | a :: A, b :: B, h1, h2 => by
    unfold Ord at h1 h2
    have g1 := List.pairwise_cons.1 h1
    have g2 := List.pairwise_cons.1 h2
    cases hba : lt b a with
    | true =>
      rw [mrg_lt lt A B hba]
      refine List.pairwise_cons.2 ⟨fun x hx => ?_, Ord.mrg w h1 g2.2⟩
      rcases (mrg_mem lt _ _).1 hx with hx | hx
      · rcases List.mem_cons.1 hx with rfl | hx
        · exact w.asym hba
        · exact w.le _ _ _ (w.asym hba) (g1.1 x hx)
      · exact g2.1 x hx
    | false =>
      rw [mrg_ge lt A B hba]
      refine List.pairwise_cons.2 ⟨fun x hx => ?_, Ord.mrg w g1.2 h2⟩
      rcases (mrg_mem lt _ _).1 hx with hx | hx
      · exact g1.1 x hx
      · rcases List.mem_cons.1 hx with rfl | hx
        · exact hba
        · exact w.le _ _ _ hba (g2.1 x hx)
termination_by A B => A.length + B.length
theorem ord_srt (w : Wk lt) (l : List α) : Ord lt (srt lt l) := by
  suffices h : ∀ (l S : List α), Ord lt S → Ord lt (l.foldl (fun S x => Srt.mrg lt S [x]) S) from h l [] (Ord.nil lt)
  intro l
  induction l with
  | nil => exact fun S h => h
  | cons x l ih => intro S h; exact ih _ (Ord.mrg w h (Ord.one lt x))
theorem Ord.get {l : List α} (h : Ord lt l) {i j : Nat} (hij : i < j) (hj : j < l.length) : lt l[j] (l[i]'(by omega)) = false :=
  List.pairwise_iff_getElem.1 h i j (by omega) hj hij
theorem mrg_split : ∀ (A1 A2 B1 B2 : List α), (∀ a ∈ A1, ∀ b ∈ B2, lt b a = false) → (∀ b ∈ B1, ∀ a ∈ A2, lt b a = true) → mrg lt (A1 ++ A2) (B1 ++ B2) = mrg lt A1 B1 ++ mrg lt A2 B2
  | [], A2, [], B2, _, _ => by simp [nil_mrg]
  | [], [], b :: B1, B2, h1, h2 => by simp [nil_mrg]
  | [], a :: A2, b :: B1, B2, h1, h2 => by
    have hb := h2 b (List.mem_cons_self ..) a (List.mem_cons_self ..)
    have ih := mrg_split [] (a :: A2) B1 B2 h1 fun x hx => h2 x (List.mem_cons_of_mem _ hx)
    rw [List.nil_append] at ih ⊢
    rw [List.cons_append, mrg_lt lt A2 (B1 ++ B2) hb, ih]
    simp [nil_mrg]
  | a :: A1, A2, [], [], h1, h2 => by simp [mrg_nil]
  | a :: A1, A2, [], b :: B2, h1, h2 => by
    have hb := h1 a (List.mem_cons_self ..) b (List.mem_cons_self ..)
    have ih := mrg_split A1 A2 [] (b :: B2) (fun x hx => h1 x (List.mem_cons_of_mem _ hx)) h2
    rw [List.nil_append] at ih ⊢
    rw [List.cons_append, mrg_ge lt (A1 ++ A2) B2 hb, ih]
    simp [mrg_nil]
  | a :: A1, A2, b :: B1, B2, h1, h2 => by
    rw [List.cons_append, List.cons_append]
    cases hba : lt b a with
    | true =>
      rw [mrg_lt lt _ _ hba, mrg_lt lt A1 B1 hba]
      have := mrg_split (a :: A1) A2 B1 B2 h1 fun x hx => h2 x (List.mem_cons_of_mem _ hx)
      rw [List.cons_append] at this
      rw [this]; rfl
    | false =>
      rw [mrg_ge lt _ _ hba, mrg_ge lt A1 B1 hba]
      have := mrg_split A1 A2 (b :: B1) B2 (fun x hx => h1 x (List.mem_cons_of_mem _ hx)) h2
      rw [List.cons_append] at this
      rw [this]; rfl
termination_by A1 A2 B1 B2 => A1.length + A2.length + B1.length + B2.length
theorem mrg_oneL (x : α) (P Q : List α) (h1 : ∀ p ∈ P, lt p x = true) (h2 : ∀ q ∈ Q, lt q x = false) : mrg lt [x] (P ++ Q) = P ++ x :: Q := by
  have := mrg_split (lt := lt) [] [x] P Q (by simp) (fun b hb a ha => by rw [List.mem_singleton.1 ha]; exact h1 b hb)
  rw [List.nil_append, nil_mrg] at this
  rw [this]
  cases Q with
  | nil => rw [mrg_nil]
  | cons q Q => rw [mrg_ge lt [] Q (h2 q (List.mem_cons_self ..)), nil_mrg]
theorem mrg_oneR (x : α) (P Q : List α) (h1 : ∀ p ∈ P, lt x p = false) (h2 : ∀ q ∈ Q, lt x q = true) : mrg lt (P ++ Q) [x] = P ++ x :: Q := by
  have := mrg_split (lt := lt) P Q [] [x] (fun a ha b hb => by rw [List.mem_singleton.1 hb]; exact h1 a ha) (by simp)
  rw [List.nil_append, mrg_nil] at this
  rw [this]
  cases Q with
  | nil => rw [nil_mrg]
  | cons q Q => rw [mrg_lt lt Q [] (h2 q (List.mem_cons_self ..)), mrg_nil]
end Go.Abs.Srt
end
section
namespace Go.Abs.SA
open Go.Proofs
theorem bl_cons (a b : UInt8) (x y : List UInt8) : Op.bytesLess (a :: x) (b :: y) = (decide (a < b) || a == b && Op.bytesLess x y) := by rw [Op.bytesLess]
theorem bl_nil (y : List UInt8) : Op.bytesLess y [] = false := by unfold Op.bytesLess; cases y <;> rfl
theorem bl_nc (b : UInt8) (y : List UInt8) : Op.bytesLess [] (b :: y) = true := by rw [Op.bytesLess]
theorem bl_tr : ∀ (a b c : List UInt8), Op.bytesLess a b = true → Op.bytesLess b c = true → Op.bytesLess a c = true
  | a, b, [], _, h => by rw [bl_nil] at h; cases h
  | a, [], c :: z, h, _ => by rw [bl_nil] at h; cases h
  | [], b :: y, c :: z, _, _ => bl_nc ..
  | a :: x, b :: y, c :: z, h1, h2 => by
    rw [bl_cons] at *
    simp only [Bool.or_eq_true, decide_eq_true_eq, Bool.and_eq_true, beq_iff_eq] at *
    rcases h1 with h1 | ⟨rfl, h1⟩
    · rcases h2 with h2 | ⟨rfl, h2⟩
      · exact .inl (UInt8.lt_trans h1 h2)
      · exact .inl h1
    · rcases h2 with h2 | ⟨rfl, h2⟩
      · exact .inl h2
      · exact .inr ⟨rfl, bl_tr x y z h1 h2⟩
theorem bl_irr : ∀ a : List UInt8, Op.bytesLess a a = false
  | [] => bl_nil _
  | a :: x => by rw [bl_cons, bl_irr x]; simp
theorem bl_tri : ∀ (a b : List UInt8), Op.bytesLess a b = false → Op.bytesLess b a = false → a = b
  | [], [], _, _ => rfl
  | [], b :: y, h, _ => by rw [bl_nc] at h; cases h
  | a :: x, [], _, h => by rw [bl_nc] at h; cases h
  | a :: x, b :: y, h1, h2 => by
    rw [bl_cons] at *
    simp only [Bool.or_eq_false_iff, decide_eq_false_iff_not, Bool.and_eq_false_iff, beq_eq_false_iff_ne, ne_eq] at *
    have e : a = b := UInt8.le_antisymm (UInt8.not_lt.1 h2.1) (UInt8.not_lt.1 h1.1)
    subst e
    rcases h1.2 with h | h
    · exact absurd rfl h
    · rcases h2.2 with h' | h'
      · exact absurd rfl h'
      · rw [bl_tri x y h h']
theorem sl_tr {a b c : Str} : sless a b = true → sless b c = true → sless a c = true := bl_tr _ _ _
theorem sl_irr (a : Str) : sless a a = false := bl_irr _
theorem toList_inj {a b : Str} (h : a.toList = b.toList) : a = b := by
  have := str_eq a b
  rw [h] at this
  simpa using this.symm
theorem sl_tri {a b : Str} (h1 : sless a b = false) (h2 : sless b a = false) : a = b := toList_inj (bl_tri _ _ h1 h2)
theorem cS_lt (a b : Str) : cS a b < 0 ↔ sless a b = true := by
  unfold cS
  cases h1 : sless a b with
  | true => simp
  | false =>
    simp only [Bool.false_eq_true, if_false, iff_false]
    split <;> omega
theorem cS_zero (a b : Str) : cS a b = 0 ↔ a = b := by
  unfold cS
  cases h1 : sless a b with
  | true =>
    simp only [if_true]
    constructor
    · intro h; omega
    · rintro rfl; rw [sl_irr] at h1; cases h1
  | false =>
    by_cases h : a = b <;> simp [h]
theorem cS_neg (a b : Str) : cS b a = - cS a b := by
  unfold cS
  cases h1 : sless a b with
  | true =>
    cases h2 : sless b a with
    | true => have := sl_tr h1 h2; rw [sl_irr] at this; cases this
    | false =>
      have hne : ¬ b = a := by rintro rfl; rw [sl_irr] at h1; cases h1
      simp [hne]
  | false =>
    cases h2 : sless b a with
    | true =>
      have hne : ¬ a = b := by rintro rfl; rw [sl_irr] at h2; cases h2
      simp [hne]
    | false =>
      have := sl_tri h1 h2
      subst this
      simp
theorem cmp2_neg : ∀ (a b : List Str), cmp2 b a = - cmp2 a b
  | [], [] => by simp [cmp2]
  | [], b :: q => by simp [cmp2]
  | a :: r, [] => by simp [cmp2]
  | a :: r, b :: q => by
    rw [cmp2, cmp2, cS_neg a b]
    by_cases h : cS a b = 0
    · rw [if_pos (by omega), if_pos h, cmp2_neg r q]
    · rw [if_neg (by omega), if_neg h]
theorem cmp2_zero : ∀ (a b : List Str), cmp2 a b = 0 ↔ a = b
  | [], [] => by simp [cmp2]
  | [], b :: q => by simp [cmp2]
  | a :: r, [] => by simp [cmp2]
  | a :: r, b :: q => by
    rw [cmp2]
    have := cS_zero a b
    by_cases h : cS a b = 0
    · rw [if_pos h, cmp2_zero r q, this.1 h]; simp
    · rw [if_neg h]
      have hne : ¬ a = b := fun e => h (this.2 e)
      simp [hne, h]
theorem cmp2_tr : ∀ (a b c : List Str), cmp2 a b < 0 → cmp2 b c < 0 → cmp2 a c < 0
  | [], [], c, h, _ => by simp [cmp2] at h
  | [], b :: q, [], _, h => by simp [cmp2] at h
  | [], b :: q, c :: u, _, _ => by simp [cmp2]
  | a :: r, [], c, h, _ => by simp [cmp2] at h
  | a :: r, b :: q, [], _, h => by simp [cmp2] at h
  | a :: r, b :: q, c :: u, h1, h2 => by
    rw [cmp2] at *
    by_cases e1 : cS a b = 0
    · rw [if_pos e1] at h1
      obtain rfl := (cS_zero a b).1 e1
      by_cases e2 : cS a c = 0
      · rw [if_pos e2] at h2 ⊢
        exact cmp2_tr _ _ _ h1 h2
      · rw [if_neg e2] at h2 ⊢
        exact h2
    · rw [if_neg e1] at h1
      by_cases e2 : cS b c = 0
      · obtain rfl := (cS_zero b c).1 e2
        rw [if_neg e1]; exact h1
      · rw [if_neg e2] at h2
        have h3 := (cS_lt a c).2 (sl_tr ((cS_lt a b).1 h1) ((cS_lt b c).1 h2))
        rw [if_neg (by omega)]; exact h3
def keyL (l : List Def) (a : Node) : List Str := match place l a.name with
  | some i => (match l[i]? with
    | some d => keyD d a
    | none => [])
  | none => []
theorem before_iff (l : List Def) (a b : Node) : before l a b = true ↔ posI (place l a.name) < posI (place l b.name) ∨ posI (place l a.name) = posI (place l b.name) ∧ cmp2 (keyL l a) (keyL l b) < 0 := by
  rw [← ordC_iff]
  unfold ordC keyL
  cases h1 : place l a.name with
  | none =>
    cases h2 : place l b.name with
    | none => simp [posI, cmp2]
    | some j => simp only [posI]; omega
  | some i =>
    cases h2 : place l b.name with
    | none => simp only [posI]; omega
    | some j =>
      obtain ⟨hi, -⟩ := place_some h1
      by_cases hij : i = j
      · subst hij
        simp only [if_pos rfl, List.getElem?_eq_getElem hi, posI, if_true]
        exact ⟨fun h => .inr ⟨trivial, h⟩, fun h => h.elim (fun h => absurd h (Int.lt_irrefl _)) (·.2)⟩
      · simp only [if_neg hij, posI]; omega
theorem wk_before (l : List Def) : Srt.Wk (before l) where
  irr a := by
    rw [← Bool.not_eq_true, before_iff]
    have := (cmp2_zero (keyL l a) (keyL l a)).2 rfl
    omega
  tr a b c h1 h2 := by
    rw [before_iff] at *
    rcases h1 with h1 | ⟨h1, g1⟩ <;> rcases h2 with h2 | ⟨h2, g2⟩
    · exact .inl (by omega)
    · exact .inl (by omega)
    · exact .inl (by omega)
    · exact .inr ⟨by omega, cmp2_tr _ _ _ g1 g2⟩
  le a b c h1 h2 := by
    rw [← Bool.not_eq_true, before_iff] at *
    intro h
    have n1 := cmp2_neg (keyL l a) (keyL l b)
    have n2 := cmp2_neg (keyL l b) (keyL l c)
    have z1 := cmp2_zero (keyL l a) (keyL l b)
    have t1 := cmp2_tr (keyL l c) (keyL l a) (keyL l b)
    rcases h with h | ⟨h, g⟩
    · omega
    · have e1 : posI (place l a.name) = posI (place l b.name) := by omega
      have k1 : ¬ cmp2 (keyL l b) (keyL l a) < 0 := fun hh => h1 (.inr ⟨e1.symm, hh⟩)
      have k2 : ¬ cmp2 (keyL l c) (keyL l b) < 0 := fun hh => h2 (.inr ⟨by omega, hh⟩)
      by_cases hz : cmp2 (keyL l a) (keyL l b) = 0
      · rw [z1] at hz
        rw [← hz] at k2
        exact k2 g
      · exact k2 (t1 g (by omega))
theorem ins_mrg (l : List Def) {out : List Node} (ho : Srt.Ord (before l) out) (n : Node) : ins l out n = Srt.mrg (before l) out [n] := by
  have key : ∀ k, k ≤ out.length → (∀ q ∈ out.drop k, before l n q = true) → (∀ p ∈ out.take (insPos l n out k), before l n p = false) ∧ (∀ q ∈ out.drop (insPos l n out k), before l n q = true) := by
    intro k
    induction k with
    | zero => intro _ h; exact ⟨by simp [insPos], by simpa [insPos] using h⟩
    | succ k ih =>
      intro hk h
      have hk' : k < out.length := by omega
      simp only [insPos, List.getElem?_eq_getElem hk']
      cases hb : before l n out[k] with
      | true =>
        rw [if_pos rfl]
        refine ih (by omega) ?_
        rw [List.drop_eq_getElem_cons hk']
        intro q hq
        rcases List.mem_cons.1 hq with rfl | hq
        · exact hb
        · exact h q hq
      | false =>
        rw [if_neg (by simp)]
        refine ⟨?_, h⟩
        intro p hp
        rw [List.take_succ_eq_append_getElem hk'] at hp
        rcases List.mem_append.1 hp with hp | hp
        · obtain ⟨j, hj, rfl⟩ := List.mem_take_iff_getElem.1 hp
          have hjk : j < k := by omega
          have := ho.get hjk hk'
          exact (wk_before l).le _ _ _ this hb
        · rw [List.mem_singleton.1 hp]; exact hb
  have h := key out.length (Nat.le_refl _) (by simp)
  have e := Srt.mrg_oneR (lt := before l) n (out.take (insPos l n out out.length)) (out.drop (insPos l n out out.length)) h.1 h.2
  rw [List.take_append_drop] at e
  rw [e]; rfl
theorem order_srt (l : List Def) (ns : List Node) : order l ns = Srt.srt (before l) ns := by
  suffices h : ∀ (ns S : List Node), Srt.Ord (before l) S → ns.foldl (ins l) S = ns.foldl (fun S x => Srt.mrg (before l) S [x]) S from h ns [] (Srt.Ord.nil _)
  intro ns
  induction ns with
  | nil => intro S _; rfl
  | cons n r ih =>
    intro S hS
    rw [List.foldl_cons, List.foldl_cons, ins_mrg l hS]
    exact ih _ (Srt.Ord.mrg (wk_before l) hS (Srt.Ord.one _ n))
end Go.Abs.SA
end
section
namespace Go.Abs.SA
open Go.Proofs
theorem adj_set (W R : List Node) (u v : Node) : ((W ++ u :: v :: R).set (W.length + 1) u).set W.length v = W ++ v :: u :: R := by
  rw [List.set_append_right _ _ (by omega), show W.length + 1 - W.length = 1 from by omega, List.set_cons_succ, List.set_cons_zero, List.set_append_right _ _ (Nat.le_refl _), Nat.sub_self, List.set_cons_zero]
theorem adj_l (W R : List Node) (u v : Node) (h : W.length < (W ++ u :: v :: R).length) : (W ++ u :: v :: R)[W.length] = u := by simp
theorem adj_r (W R : List Node) (u v : Node) (h : W.length + 1 < (W ++ u :: v :: R).length) : (W ++ u :: v :: R)[W.length + 1] = v := by
  rw [List.getElem_append_right (by omega)]; simp
def okN (ns : List Node) : Prop := ∀ x ∈ ns, x.kids.length ≤ 140737488355328
theorem okN_get {ns : List Node} (h : okN ns) {i : Nat} (hi : i < ns.length) : ns[i].kids.length ≤ 140737488355328 := h _ (List.getElem_mem hi)
theorem isort_spec (l : List Def) (P X Q : List Node) (n a b : Nat) (hl : l.length ≤ 1099511627776) (ho : okDs l) (hn : n ≤ (P ++ (X ++ Q)).length) (hbn : b ≤ n) (hb : n ≤ 1099511627776) (h1 : P.length = a) (h2 : P.length + X.length = b) (hk : okN (P ++ (X ++ Q))) :
    loudW XX 241 [.sl 0 0 n false, vI a, vI b, fO] (hS l (P ++ (X ++ Q))) = some (.tup [], hS l (P ++ (Srt.srt (before l) X ++ Q))) := by
  refine loudW_in 53 Tryz.func241 Tryz.ntmps241 (by simp) (rfl : Tryz.f241.body = some _) fns_241 ?_
  have hlen := hn
  simp only [List.length_append] at hlen
  have hkX : okN X := fun x hx => hk x (by simp [hx])
  have e1 : IntKind.i64.wrap ((a : Int) + 1) = ((a + 1 : Nat) : Int) := by rw [IntWalk.i64_in _ (by omega)]; omega
  simp (maxSteps := 200000) (disch := first | omega | (simp only [go_sem] <;> omega) | fail) only [go_sem, e1]
  have wk := wk_before l
  refine WP_loopR 1 2 (fun (k : Nat) => S_241_1 (.sl 0 0 n false) (vI a) (vI b) fO (vI ((a + k : Nat) : Int)) (hS l (P ++ (Srt.srt (before l) (X.take k) ++ (X.drop k ++ Q))))) (fun k => X.length - k)
    (fun k => 1 ≤ k ∧ k ≤ max 1 X.length) 1 rfl rfl ?_ ?_ ?_
  · have : Srt.srt (before l) (X.take 1) = X.take 1 := by
      cases X with
      | nil => rfl
      | cons x r => exact Srt.srt_one _ x
    simp (maxSteps := 200000) (disch := first | omega | (simp only [go_sem] <;> omega) | fail) only [go_sem, this]
    rw [← List.append_assoc (X.take 1), List.take_append_drop]
  · omega
  · rintro k ⟨k1, k2⟩
    by_cases hkl : k < X.length
    · have c1 : (((a + k : Nat) : Int) < (b : Int)) = True := eq_true (by omega)
      have hSl : (Srt.srt (before l) (X.take k)).length = k := by rw [Srt.srt_len, List.length_take]; omega
      have hSo := Srt.ord_srt wk (X.take k)
      have hSk : okN (Srt.srt (before l) (X.take k)) := fun x hx => hkX x (List.mem_of_mem_take ((Srt.srt_mem _ _).1 hx))
      have hnx : Srt.srt (before l) (X.take (k + 1)) = Srt.mrg (before l) (Srt.srt (before l) (X.take k)) [X[k]] := by
        rw [List.take_succ_eq_append_getElem hkl, Srt.srt_snoc]
      have hxk : (X[k]).kids.length ≤ 140737488355328 := okN_get hkX hkl
      rw [show X.drop k = X[k] :: X.drop (k + 1) from List.drop_eq_getElem_cons hkl]
      have hRl : n ≤ a + k + 1 + (X.drop (k + 1) ++ Q).length := by rw [List.length_append, List.length_drop]; omega
      rw [List.cons_append]
      have w2 : IntKind.i64.wrap (((a + k : Nat) : Int) + 1) = ((a + (k + 1) : Nat) : Int) := by rw [IntWalk.i64_in _ (by omega)]; omega
      have hfin : ∀ S, Srt.mrg (before l) (Srt.srt (before l) (X.take k)) [X[k]] = S → S = Srt.srt (before l) (X.take (k + 1)) := fun S h => by rw [hnx, h]
      generalize Srt.srt (before l) (X.take k) = S at *
      obtain ⟨R, hR⟩ : ∃ R, X.drop (k + 1) ++ Q = R := ⟨_, rfl⟩
      rw [hR] at hRl ⊢
      generalize X[k] = x at *
      simp (maxSteps := 200000) (disch := first | omega | (simp only [go_sem] <;> omega) | fail) only [go_sem, c1]
      refine WP_loopR 4 2 (fun (p : Nat × List Node) => S_241_4 (.sl 0 0 n false) (vI a) (vI b) fO (vI ((a + k : Nat) : Int)) (vI ((a + p.1 : Nat) : Int)) (hS l p.2)) (fun p => p.1)
        (fun p => p.1 ≤ k ∧ p.2 = P ++ (S.take p.1 ++ x :: (S.drop p.1 ++ R)) ∧ ∀ q ∈ S.drop p.1, before l x q = true) (k, P ++ (S ++ x :: R)) rfl rfl ?_ ?_ ?_
      · simp (maxSteps := 200000) (disch := first | omega | (simp only [go_sem] <;> omega) | fail) only [go_sem]
      · exact ⟨Nat.le_refl _, by simp only; rw [← hSl, List.take_length, List.drop_length]; rfl, by simp only; rw [← hSl, List.drop_length]; simp⟩
      · rintro ⟨s, D⟩ ⟨s1, s2, s3⟩
        simp only at s1 s2 s3
        have hDl : n ≤ D.length := by
          rw [s2]; simp only [List.length_append, List.length_cons, List.length_take, List.length_drop]; omega
        by_cases hs0 : s = 0
        · have c2 : ((a : Int) < ((a + s : Nat) : Int)) = False := eq_false (by omega)
          have hm := hfin _ (Srt.mrg_oneR (lt := before l) x [] S (by simp) (by simpa [hs0] using s3))
          rw [hs0, List.take_zero, List.nil_append, List.drop_zero] at s2
          rw [List.nil_append] at hm
          simp (maxSteps := 200000) (disch := first | omega | (simp only [go_sem] <;> omega) | fail) only [go_sem, c2, w2]
          exact ⟨k + 1, by rw [s2, ← hm, hR]; rfl, by omega, by omega⟩
        · have c2 : ((a : Int) < ((a + s : Nat) : Int)) = True := eq_true (by omega)
          have hsl : s - 1 < S.length := by omega
          have hts : S.take s = S.take (s - 1) ++ [S[s - 1]] := by
            have := List.take_succ_eq_append_getElem hsl
            rwa [show s - 1 + 1 = s from by omega] at this
          have hds : S.drop (s - 1) = S[s - 1] :: S.drop s := by
            have := List.drop_eq_getElem_cons hsl
            rwa [show s - 1 + 1 = s from by omega] at this
          have hW : D = (P ++ S.take (s - 1)) ++ S[s - 1] :: x :: (S.drop s ++ R) := by
            rw [s2, hts]
            simp only [List.append_assoc, List.cons_append, List.nil_append]
          have hWl : (P ++ S.take (s - 1)).length = a + s - 1 := by rw [List.length_append, List.length_take]; omega
          have g1 : a + s < D.length := by omega
          have g2 : a + s - 1 < D.length := by omega
          have g1' : a + s < n := by omega
          have g2' : a + s - 1 < n := by omega
          have d1 : D[a + s - 1] = S[s - 1] := by
            have := adj_l (P ++ S.take (s - 1)) (S.drop s ++ R) S[s - 1] x (by rw [← hW, hWl]; exact g2)
            rw [← this]; congr 1
            exact hWl.symm
          have d2 : D[a + s] = x := by
            have := adj_r (P ++ S.take (s - 1)) (S.drop s ++ R) S[s - 1] x (by rw [← hW, hWl]; omega)
            rw [← this]; congr 1
            omega
          have hcm := ord_spec l x S[s - 1] hl ho hxk (okN_get hSk hsl)
          have w3 : IntKind.i64.wrap (((a + s : Nat) : Int) - 1) = ((a + s - 1 : Nat) : Int) := by rw [IntWalk.i64_in _ (by omega)]; omega
          have hlt := ordC_lt l x S[s - 1]
          cases hbf : before l x S[s - 1] with
          | false =>
            rw [hbf] at hlt
            have c3 : (ordC l x S[s - 1] < 0) = False := eq_false (of_decide_eq_false hlt)
            have hP : ∀ p ∈ S.take s, before l x p = false := by
              intro p hp
              obtain ⟨j, hj, rfl⟩ := List.mem_take_iff_getElem.1 hp
              by_cases hjs : j = s - 1
              · subst hjs; exact hbf
              · exact wk.le _ _ _ (hSo.get (show j < s - 1 by omega) hsl) hbf
            have hm := Srt.mrg_oneR (lt := before l) x (S.take s) (S.drop s) hP s3
            rw [List.take_append_drop] at hm
            have hm := hfin _ hm
            simp (maxSteps := 200000) (disch := first | omega | (simp only [go_sem] <;> omega) | fail) only [go_sem, c2, w3, w2, g1, g2, g1', g2', eNode_s, d1, d2, callA_pure mode_148, hcm, c3]
            exact ⟨k + 1, by rw [s2, ← hm, hR]; simp, by omega, by omega⟩
          | true =>
            rw [hbf] at hlt
            have c3 : (ordC l x S[s - 1] < 0) = True := eq_true (of_decide_eq_true hlt)
            have g3 : a + s - 1 < (D.set (a + s) S[s - 1]).length := by rw [List.length_set]; exact g2
            simp (maxSteps := 200000) (disch := first | omega | (simp only [go_sem] <;> omega) | fail) only [go_sem, c2, w3, w2, g1, g2, g1', g2', eNode_s, d1, d2, callA_pure mode_148, hcm, c3, set_N]
            refine ⟨(s - 1, (D.set (a + s) S[s - 1]).set (a + s - 1) x), ?_, ⟨by simp only; omega, ?_, ?_⟩, by simp only; omega⟩
            · simp only
              rw [show a + (s - 1) = a + s - 1 from by omega]
            · have := adj_set (P ++ S.take (s - 1)) (S.drop s ++ R) S[s - 1] x
              rw [hWl, show a + s - 1 + 1 = a + s from by omega, ← hW] at this
              simp only
              rw [this, hds]
              simp
            · simp only
              rw [hds]
              intro q hq
              rcases List.mem_cons.1 hq with rfl | hq
              · exact hbf
              · exact s3 q hq
    · have c1 : (((a + k : Nat) : Int) < (b : Int)) = False := eq_false (by omega)
      simp (maxSteps := 200000) (disch := first | omega | (simp only [go_sem] <;> omega) | fail) only [go_sem, c1]
      rw [List.take_of_length_le (by omega), List.drop_eq_nil_of_le (by omega), List.nil_append]
end Go.Abs.SA
end
section
namespace Go.Abs.SA
open Go.Proofs
theorem x65_42 (s : St) (xs : List AV) : callX XX (orW XX) s 242 148 xs = callA XX (orW XX) s 148 xs := by
  unfold callX; rw [live_242]; rfl
theorem half_w (k : Nat) (hk : k ≤ 1152921504606846976) : IntKind.i64.wrap ((IntKind.u64.wrap (k : Int)).fdiv (2 ^ min (Int.toNat 1) 64)) = ((k / 2 : Nat) : Int) := by
  have e1 : IntKind.u64.wrap (k : Int) = (k : Int) := IntWalk.u64_in _ (by omega)
  rw [e1, show (2 : Int) ^ min (Int.toNat 1) 64 = 2 from by decide, Int.fdiv_eq_ediv_of_nonneg _ (by omega), IntWalk.i64_in _ (by omega)]
  omega
theorem adj_set' (W R : List Node) (u v : Node) : ((W ++ u :: v :: R).set W.length v).set (W.length + 1) u = W ++ v :: u :: R := by
  rw [List.set_append_right _ _ (Nat.le_refl _), Nat.sub_self, List.set_cons_zero, List.set_append_right _ _ (by omega), show W.length + 1 - W.length = 1 from by omega, List.set_cons_succ, List.set_cons_zero]
theorem ord_pre {lt : Node → Node → Bool} (w : Srt.Wk lt) {B : List Node} (hB : Srt.Ord lt B) {x : Node} {i : Nat} (hi : i ≤ B.length) (h : ∀ k, ∀ h : k < B.length, k + 1 = i → lt B[k] x = true) : ∀ p ∈ B.take i, lt p x = true := by
  intro p hp
  obtain ⟨j, hj, rfl⟩ := List.mem_take_iff_getElem.1 hp
  have hi1 : i - 1 < B.length := by omega
  have h0 := h (i - 1) hi1 (by omega)
  by_cases e : j = i - 1
  · subst e; exact h0
  · cases hh : lt B[j] x with
    | true => rfl
    | false =>
      have := w.le _ _ _ hh (hB.get (show j < i - 1 by omega) hi1)
      rw [h0] at this; cases this
theorem ord_suf {lt : Node → Node → Bool} (w : Srt.Wk lt) {B : List Node} (hB : Srt.Ord lt B) {x : Node} {i : Nat} (h : ∀ h : i < B.length, lt B[i] x = false) : ∀ p ∈ B.drop i, lt p x = false := by
  intro p hp
  obtain ⟨j, hj, rfl⟩ := List.mem_drop_iff_getElem.1 hp
  have hi1 : i < B.length := by omega
  by_cases e : j = 0
  · subst e; simpa using h hi1
  · exact w.le _ _ _ (h hi1) (hB.get (show i < i + j by omega) (by omega))
theorem ord_pre' {lt : Node → Node → Bool} (w : Srt.Wk lt) {B : List Node} (hB : Srt.Ord lt B) {x : Node} {i : Nat} (hi : i ≤ B.length) (h : ∀ k, ∀ h : k < B.length, k + 1 = i → lt x B[k] = false) : ∀ p ∈ B.take i, lt x p = false := by
  intro p hp
  obtain ⟨j, hj, rfl⟩ := List.mem_take_iff_getElem.1 hp
  have hi1 : i - 1 < B.length := by omega
  have h0 := h (i - 1) hi1 (by omega)
  by_cases e : j = i - 1
  · subst e; exact h0
  · exact w.le _ _ _ (hB.get (show j < i - 1 by omega) hi1) h0
theorem ord_suf' {lt : Node → Node → Bool} (w : Srt.Wk lt) {B : List Node} (hB : Srt.Ord lt B) {x : Node} {i : Nat} (h : ∀ h : i < B.length, lt x B[i] = true) : ∀ p ∈ B.drop i, lt x p = true := by
  intro p hp
  obtain ⟨j, hj, rfl⟩ := List.mem_drop_iff_getElem.1 hp
  have hi1 : i < B.length := by omega
  by_cases e : j = 0
  · subst e; simpa using h hi1
  · cases hh : lt x B[i + j] with
    | true => rfl
    | false =>
      have := w.le _ _ _ (hB.get (show i < i + j by omega) (by omega)) hh
      rw [h hi1] at this; cases this
theorem sym1_spec (l : List Def) (P B Q : List Node) (x : Node) (n a m b : Nat) (hl : l.length ≤ 1099511627776) (ho : okDs l) (hn : n ≤ (P ++ (x :: (B ++ Q))).length) (hbn : b ≤ n) (hb : n ≤ 1099511627776) (h1 : P.length = a) (h2 : a + 1 = m) (h3 : m + B.length = b) (hk : okN (P ++ (x :: (B ++ Q)))) (hB : Srt.Ord (before l) B) :
    loudW XX 242 [.sl 0 0 n false, vI a, vI m, vI b, fO] (hS l (P ++ (x :: (B ++ Q)))) = some (.tup [], hS l (P ++ (Srt.mrg (before l) [x] B ++ Q))) := by
  refine loudW_in 220 Tryz.func242 Tryz.ntmps242 (by simp) (rfl : Tryz.f242.body = some _) fns_242 ?_
  have hlen := hn
  simp only [List.length_append, List.length_cons] at hlen
  have e1 : (IntKind.i64.wrap ((m : Int) - (a : Int)) = 1) = True := by rw [IntWalk.i64_in _ (by omega)]; exact eq_true (by omega)
  have wk := wk_before l
  have hkx : x.kids.length ≤ 140737488355328 := hk x (by simp)
  have hkB : okN B := fun y hy => hk y (by simp [hy])
  obtain ⟨D, hD⟩ : ∃ D, P ++ (x :: (B ++ Q)) = D := ⟨_, rfl⟩
  have da : ∀ h : a < D.length, D[a] = x := by
    intro h; subst hD; subst h1; simp
  have dB : ∀ i (hi : i < B.length), ∀ h : m + i < D.length, D[m + i] = B[i] := by
    intro i hi h; subst hD
    rw [List.getElem_append_right (by omega)]
    have e : m + i - P.length = i + 1 := by omega
    simp only [e, List.getElem_cons_succ]
    rw [List.getElem_append_left hi]
  rw [hD] at hn ⊢
  simp (maxSteps := 200000) (disch := first | omega | (simp only [go_sem] <;> omega) | fail) only [go_sem, e1]
  refine WP_loopR 3 2 (fun (p : Nat × Nat) => S_242_3 (.sl 0 0 n false) (vI a) fO (vI ((m + p.1 : Nat) : Int)) (vI ((m + p.2 : Nat) : Int)) (hS l D)) (fun p => p.2 - p.1)
    (fun p => p.1 ≤ p.2 ∧ p.2 ≤ B.length ∧ (∀ i, ∀ h : i < B.length, i + 1 = p.1 → before l B[i] x = true) ∧ (∀ h : p.2 < B.length, before l B[p.2] x = false)) (0, B.length) rfl rfl ?_ ?_ ?_
  · simp (maxSteps := 200000) (disch := first | omega | (simp only [go_sem] <;> omega) | fail) only [go_sem, Nat.add_zero, h3]
  · exact ⟨Nat.zero_le _, Nat.le_refl _, fun i _ h => by simp at h, fun h => absurd h (Nat.lt_irrefl _)⟩
  · rintro ⟨i, j⟩ ⟨g1, g2, g3, g4⟩
    simp only at g1 g2 g3 g4
    by_cases hij : i < j
    · have c1 : (((m + i : Nat) : Int) < ((m + j : Nat) : Int)) = True := eq_true (by omega)
      have w1 : IntKind.i64.wrap (((m + i : Nat) : Int) + ((m + j : Nat) : Int)) = ((m + i + (m + j) : Nat) : Int) := by rw [IntWalk.i64_in _ (by omega)]; omega
      have w2 := half_w (m + i + (m + j)) (by omega)
      obtain ⟨c, hc⟩ : ∃ c, (i + j) / 2 = c := ⟨_, rfl⟩
      rw [show (m + i + (m + j)) / 2 = m + c from by omega] at w2
      have hcB : c < B.length := by omega
      have q1 : m + c < D.length := by omega
      have q2 : a < D.length := by omega
      have q1' : m + c < n := by omega
      have q2' : a < n := by omega
      have r1 := dB c hcB q1
      have r2 := da q2
      have hcm := ord_spec l B[c] x hl ho (okN_get hkB hcB) hkx
      have hlt := ordC_lt l B[c] x
      have w3 : IntKind.i64.wrap (((m + c : Nat) : Int) + 1) = ((m + (c + 1) : Nat) : Int) := by rw [IntWalk.i64_in _ (by omega)]; omega
      cases hbf : before l B[c] x with
      | true =>
        rw [hbf] at hlt
        have c3 : (ordC l B[c] x < 0) = True := eq_true (of_decide_eq_true hlt)
        simp (maxSteps := 200000) (disch := first | omega | (simp only [go_sem] <;> omega) | fail) only [go_sem, c1, w1, w2, w3, q1, q2, q1', q2', eNode_s, r1, r2, x65_42, callA_pure mode_148, hcm, c3]
        refine ⟨(c + 1, j), rfl, ⟨by simp only; omega, g2, fun k hk hkc => ?_, g4⟩, by simp only; omega⟩
        have : k = c := by simp only at hkc; omega
        subst this; exact hbf
      | false =>
        rw [hbf] at hlt
        have c3 : (ordC l B[c] x < 0) = False := eq_false (of_decide_eq_false hlt)
        simp (maxSteps := 200000) (disch := first | omega | (simp only [go_sem] <;> omega) | fail) only [go_sem, c1, w1, w2, q1, q2, q1', q2', eNode_s, r1, r2, x65_42, callA_pure mode_148, hcm, c3]
        exact ⟨(i, c), rfl, ⟨by simp only; omega, by simp only; omega, g3, fun _ => hbf⟩, by simp only; omega⟩
    · have hij' : j = i := by omega
      subst hij'
      have c1 : (((m + j : Nat) : Int) < ((m + j : Nat) : Int)) = False := eq_false (by omega)
      simp (maxSteps := 200000) (disch := first | omega | (simp only [go_sem] <;> omega) | fail) only [go_sem, c1]
      have hm := Srt.mrg_oneL (lt := before l) x (B.take j) (B.drop j) (ord_pre wk hB g2 g3) (ord_suf wk hB g4)
      rw [List.take_append_drop] at hm
      rw [hm]
      have w4 : IntKind.i64.wrap (((m + j : Nat) : Int) - 1) = ((a + j : Nat) : Int) := by rw [IntWalk.i64_in _ (by omega)]; omega
      refine WP_loopR 9 2 (fun (p : Nat × List Node) => S_242_9 (.sl 0 0 n false) (vI ((m + j : Nat) : Int)) (vI ((a + p.1 : Nat) : Int)) (hS l p.2)) (fun p => j - p.1)
        (fun p => p.1 ≤ j ∧ p.2 = P ++ (B.take p.1 ++ x :: (B.drop p.1 ++ Q))) (0, D) rfl rfl ?_ ?_ ?_
      · simp (maxSteps := 200000) (disch := first | omega | (simp only [go_sem] <;> omega) | fail) only [go_sem, Nat.add_zero]
      · exact ⟨Nat.zero_le _, by simp only [List.take_zero, List.nil_append, List.drop_zero]; exact hD.symm⟩
      · rintro ⟨k, E⟩ ⟨k1, k2⟩
        simp only at k1 k2
        have hEl : n ≤ E.length := by
          rw [k2]; simp only [List.length_append, List.length_cons, List.length_take, List.length_drop]; omega
        by_cases hkj : k < j
        · have c2 : (((a + k : Nat) : Int) < ((a + j : Nat) : Int)) = True := eq_true (by omega)
          have w5 : IntKind.i64.wrap (((a + k : Nat) : Int) + 1) = ((a + (k + 1) : Nat) : Int) := by rw [IntWalk.i64_in _ (by omega)]; omega
          have hkB' : k < B.length := by omega
          have hW : E = (P ++ B.take k) ++ x :: B[k] :: (B.drop (k + 1) ++ Q) := by
            rw [k2, List.drop_eq_getElem_cons hkB']
            simp only [List.append_assoc, List.cons_append]
          have hWl : (P ++ B.take k).length = a + k := by rw [List.length_append, List.length_take]; omega
          have q1 : a + k < E.length := by omega
          have q2 : a + (k + 1) < E.length := by omega
          have q1' : a + k < n := by omega
          have q2' : a + (k + 1) < n := by omega
          have d1 : E[a + k] = x := by
            have := adj_l (P ++ B.take k) (B.drop (k + 1) ++ Q) x B[k] (by rw [← hW, hWl]; exact q1)
            rw [← this]; congr 1
            exact hWl.symm
          have d2 : E[a + (k + 1)] = B[k] := by
            have := adj_r (P ++ B.take k) (B.drop (k + 1) ++ Q) x B[k] (by rw [← hW, hWl]; omega)
            rw [← this]; congr 1
            omega
          have q3 : a + (k + 1) < (E.set (a + k) B[k]).length := by rw [List.length_set]; exact q2
          simp (maxSteps := 200000) (disch := first | omega | (simp only [go_sem] <;> omega) | fail) only [go_sem, c2, w4, w5, q1, q2, q1', q2', eNode_s, d1, d2, set_N]
          refine ⟨(k + 1, (E.set (a + k) B[k]).set (a + (k + 1)) x), rfl, ⟨hkj, ?_⟩, by simp only; omega⟩
          have := adj_set' (P ++ B.take k) (B.drop (k + 1) ++ Q) x B[k]
          rw [hWl, ← hW] at this
          simp only
          rw [show a + (k + 1) = a + k + 1 from by omega, this, List.take_succ_eq_append_getElem hkB']
          simp only [List.append_assoc, List.cons_append, List.nil_append]
        · have hkj' : k = j := by omega
          subst hkj'
          have c2 : (((a + k : Nat) : Int) < ((a + k : Nat) : Int)) = False := eq_false (by omega)
          simp (maxSteps := 200000) (disch := first | omega | (simp only [go_sem] <;> omega) | fail) only [go_sem, c2, w4]
          rw [k2]
          simp only [List.append_assoc, List.cons_append]
theorem sym2_spec (l : List Def) (P A Q : List Node) (x : Node) (n a m b : Nat) (hl : l.length ≤ 1099511627776) (ho : okDs l) (hn : n ≤ (P ++ (A ++ (x :: Q))).length) (hbn : b ≤ n) (hb : n ≤ 1099511627776) (h1 : P.length = a) (h2 : a + A.length = m) (h3 : m + 1 = b) (hA1 : A.length ≠ 1) (hk : okN (P ++ (A ++ (x :: Q)))) (hA : Srt.Ord (before l) A) :
    loudW XX 242 [.sl 0 0 n false, vI a, vI m, vI b, fO] (hS l (P ++ (A ++ (x :: Q)))) = some (.tup [], hS l (P ++ (Srt.mrg (before l) A [x] ++ Q))) := by
  refine loudW_in 220 Tryz.func242 Tryz.ntmps242 (by simp) (rfl : Tryz.f242.body = some _) fns_242 ?_
  have hlen := hn
  simp only [List.length_append, List.length_cons] at hlen
  have e1 : (IntKind.i64.wrap ((m : Int) - (a : Int)) = 1) = False := by rw [IntWalk.i64_in _ (by omega)]; exact eq_false (by omega)
  have e2 : (IntKind.i64.wrap ((b : Int) - (m : Int)) = 1) = True := by rw [IntWalk.i64_in _ (by omega)]; exact eq_true (by omega)
  have wk := wk_before l
  have hkx : x.kids.length ≤ 140737488355328 := hk x (by simp)
  have hkA : okN A := fun y hy => hk y (by simp [hy])
  obtain ⟨D, hD⟩ : ∃ D, P ++ (A ++ (x :: Q)) = D := ⟨_, rfl⟩
  have dm : ∀ h : m < D.length, D[m] = x := by
    intro h; subst hD
    rw [List.getElem_append_right (by omega), List.getElem_append_right (by omega)]
    have e : m - P.length - A.length = 0 := by omega
    simp only [e, List.getElem_cons_zero]
  have dA : ∀ i (hi : i < A.length), ∀ h : a + i < D.length, D[a + i] = A[i] := by
    intro i hi h; subst hD
    rw [List.getElem_append_right (by omega)]
    have e : a + i - P.length = i := by omega
    simp only [e]
    rw [List.getElem_append_left hi]
  rw [hD] at hn ⊢
  simp (maxSteps := 200000) (disch := first | omega | (simp only [go_sem] <;> omega) | fail) only [go_sem, e1, e2]
  refine WP_loopR 15 2 (fun (p : Nat × Nat) => S_242_15 (.sl 0 0 n false) (vI m) fO (vI ((a + p.1 : Nat) : Int)) (vI ((a + p.2 : Nat) : Int)) (hS l D)) (fun p => p.2 - p.1)
    (fun p => p.1 ≤ p.2 ∧ p.2 ≤ A.length ∧ (∀ i, ∀ h : i < A.length, i + 1 = p.1 → before l x A[i] = false) ∧ (∀ h : p.2 < A.length, before l x A[p.2] = true)) (0, A.length) rfl rfl ?_ ?_ ?_
  · simp (maxSteps := 200000) (disch := first | omega | (simp only [go_sem] <;> omega) | fail) only [go_sem, Nat.add_zero, h2]
  · exact ⟨Nat.zero_le _, Nat.le_refl _, fun i _ h => by simp at h, fun h => absurd h (Nat.lt_irrefl _)⟩
  · rintro ⟨i, j⟩ ⟨g1, g2, g3, g4⟩
    simp only at g1 g2 g3 g4
    by_cases hij : i < j
    · have c1 : (((a + i : Nat) : Int) < ((a + j : Nat) : Int)) = True := eq_true (by omega)
      have w1 : IntKind.i64.wrap (((a + i : Nat) : Int) + ((a + j : Nat) : Int)) = ((a + i + (a + j) : Nat) : Int) := by rw [IntWalk.i64_in _ (by omega)]; omega
      have w2 := half_w (a + i + (a + j)) (by omega)
      obtain ⟨c, hc⟩ : ∃ c, (i + j) / 2 = c := ⟨_, rfl⟩
      rw [show (a + i + (a + j)) / 2 = a + c from by omega] at w2
      have hcA : c < A.length := by omega
      have q1 : a + c < D.length := by omega
      have q2 : m < D.length := by omega
      have q1' : a + c < n := by omega
      have q2' : m < n := by omega
      have r1 := dA c hcA q1
      have r2 := dm q2
      have hcm := ord_spec l x A[c] hl ho hkx (okN_get hkA hcA)
      have hlt := ordC_lt l x A[c]
      have w3 : IntKind.i64.wrap (((a + c : Nat) : Int) + 1) = ((a + (c + 1) : Nat) : Int) := by rw [IntWalk.i64_in _ (by omega)]; omega
      cases hbf : before l x A[c] with
      | false =>
        rw [hbf] at hlt
        have c3 : (ordC l x A[c] < 0) = False := eq_false (of_decide_eq_false hlt)
        simp (maxSteps := 200000) (disch := first | omega | (simp only [go_sem] <;> omega) | fail) only [go_sem, c1, w1, w2, w3, q1, q2, q1', q2', eNode_s, r1, r2, x65_42, callA_pure mode_148, hcm, c3]
        refine ⟨(c + 1, j), rfl, ⟨by simp only; omega, g2, fun k hk hkc => ?_, g4⟩, by simp only; omega⟩
        have : k = c := by simp only at hkc; omega
        subst this; exact hbf
      | true =>
        rw [hbf] at hlt
        have c3 : (ordC l x A[c] < 0) = True := eq_true (of_decide_eq_true hlt)
        simp (maxSteps := 200000) (disch := first | omega | (simp only [go_sem] <;> omega) | fail) only [go_sem, c1, w1, w2, q1, q2, q1', q2', eNode_s, r1, r2, x65_42, callA_pure mode_148, hcm, c3]
        exact ⟨(i, c), rfl, ⟨by simp only; omega, by simp only; omega, g3, fun _ => hbf⟩, by simp only; omega⟩
    · have hij' : j = i := by omega
      subst hij'
      have c1 : (((a + j : Nat) : Int) < ((a + j : Nat) : Int)) = False := eq_false (by omega)
      simp (maxSteps := 200000) (disch := first | omega | (simp only [go_sem] <;> omega) | fail) only [go_sem, c1]
      have hm := Srt.mrg_oneR (lt := before l) x (A.take j) (A.drop j) (ord_pre' wk hA g2 g3) (ord_suf' wk hA g4)
      rw [List.take_append_drop] at hm
      rw [hm]
      refine WP_loopR 21 2 (fun (p : Nat × List Node) => S_242_21 (.sl 0 0 n false) (vI ((a + j : Nat) : Int)) (vI ((a + p.1 : Nat) : Int)) (hS l p.2)) (fun p => p.1)
        (fun p => j ≤ p.1 ∧ p.1 ≤ A.length ∧ p.2 = P ++ (A.take p.1 ++ x :: (A.drop p.1 ++ Q))) (A.length, D) rfl rfl ?_ ?_ ?_
      · simp (maxSteps := 200000) (disch := first | omega | (simp only [go_sem] <;> omega) | fail) only [go_sem, h2]
      · exact ⟨g2, Nat.le_refl _, by simp only [List.take_length, List.nil_append, List.drop_length]; exact hD.symm⟩
      · rintro ⟨k, E⟩ ⟨k1, k3, k2⟩
        simp only at k1 k2 k3
        have hEl : n ≤ E.length := by
          rw [k2]; simp only [List.length_append, List.length_cons, List.length_take, List.length_drop]; omega
        by_cases hkj : j < k
        · have c2 : (((a + j : Nat) : Int) < ((a + k : Nat) : Int)) = True := eq_true (by omega)
          have hsl : k - 1 < A.length := by omega
          have hts : A.take k = A.take (k - 1) ++ [A[k - 1]] := by
            have := List.take_succ_eq_append_getElem hsl
            rwa [show k - 1 + 1 = k from by omega] at this
          have hds : A.drop (k - 1) = A[k - 1] :: A.drop k := by
            have := List.drop_eq_getElem_cons hsl
            rwa [show k - 1 + 1 = k from by omega] at this
          have hW : E = (P ++ A.take (k - 1)) ++ A[k - 1] :: x :: (A.drop k ++ Q) := by
            rw [k2, hts]
            simp only [List.append_assoc, List.cons_append, List.nil_append]
          have hWl : (P ++ A.take (k - 1)).length = a + k - 1 := by rw [List.length_append, List.length_take]; omega
          have q1 : a + k < E.length := by omega
          have q2 : a + k - 1 < E.length := by omega
          have q1' : a + k < n := by omega
          have q2' : a + k - 1 < n := by omega
          have d1 : E[a + k - 1] = A[k - 1] := by
            have := adj_l (P ++ A.take (k - 1)) (A.drop k ++ Q) A[k - 1] x (by rw [← hW, hWl]; exact q2)
            rw [← this]; congr 1
            exact hWl.symm
          have d2 : E[a + k] = x := by
            have := adj_r (P ++ A.take (k - 1)) (A.drop k ++ Q) A[k - 1] x (by rw [← hW, hWl]; omega)
            rw [← this]; congr 1
            omega
          have w3 : IntKind.i64.wrap (((a + k : Nat) : Int) - 1) = ((a + k - 1 : Nat) : Int) := by rw [IntWalk.i64_in _ (by omega)]; omega
          have q3 : a + k - 1 < (E.set (a + k) A[k - 1]).length := by rw [List.length_set]; exact q2
          simp (maxSteps := 200000) (disch := first | omega | (simp only [go_sem] <;> omega) | fail) only [go_sem, c2, w3, q1, q2, q1', q2', eNode_s, d1, d2, set_N]
          refine ⟨(k - 1, (E.set (a + k) A[k - 1]).set (a + k - 1) x), ?_, ⟨by simp only; omega, by simp only; omega, ?_⟩, by simp only; omega⟩
          · simp only
            rw [show a + (k - 1) = a + k - 1 from by omega]
          · have := adj_set (P ++ A.take (k - 1)) (A.drop k ++ Q) A[k - 1] x
            rw [hWl, show a + k - 1 + 1 = a + k from by omega, ← hW] at this
            simp only
            rw [this, hds]
            simp only [List.append_assoc, List.cons_append, List.nil_append]
        · have hkj' : k = j := by omega
          subst hkj'
          have c2 : (((a + k : Nat) : Int) < ((a + k : Nat) : Int)) = False := eq_false (by omega)
          simp (maxSteps := 200000) (disch := first | omega | (simp only [go_sem] <;> omega) | fail) only [go_sem, c2]
          rw [k2]
          simp only [List.append_assoc, List.cons_append]
end Go.Abs.SA
end
section
namespace Go.Abs.SA
open Go.Proofs
theorem call_rot (t : List AV) (l : List Def) (P U V Q D E : List Node) (n a m b : Nat) (hD : P ++ (U ++ (V ++ Q)) = D) (hE : P ++ (V ++ (U ++ Q)) = E) (hn : n ≤ D.length) (hbn : b ≤ n) (hb : n ≤ 1099511627776) (h1 : P.length = a) (h2 : P.length + U.length = m) (h3 : P.length + U.length + V.length = b) (hu : 0 < U.length) (hv : 0 < V.length) :
    callX XX (orW XX) ⟨t, hS l D⟩ 242 266 [.sl 0 0 n false, vI a, vI m, vI b, fO] = some (.st (.tup []) ⟨t, hS l E⟩) := by
  subst hD; subst hE
  exact callX_two (by rw [live_242]; rfl) (by simp [AV.lts, AV.lt]) (by simp [idsOfs, idsOf, addNew]) (by simp [AV.rens, AV.ren, posOf]) (by simp [idsOfs, idsOf]) (by simp; omega) (by simp [idsOf, idsOfs]) (rot_spec l P U V Q n a m b hn hbn hb h1 h2 h3 hu hv)
theorem call_sym (f : Nat) (hf : (XX.live f).contains 242 = true) (t : List AV) (l : List Def) (D E : List Node) (n a m b : Nat) (he : E.length = D.length)
    (hw : loudW XX 242 [.sl 0 0 n false, vI a, vI m, vI b, fO] (hS l D) = some (.tup [], hS l E)) :
    callX XX (orW XX) ⟨t, hS l D⟩ f 242 [.sl 0 0 n false, vI a, vI m, vI b, fO] = some (.st (.tup []) ⟨t, hS l E⟩) :=
  callX_two hf (by simp [AV.lts, AV.lt]) (by simp [idsOfs, idsOf, addNew]) (by simp [AV.rens, AV.ren, posOf]) (by simp [idsOfs, idsOf]) (by simp [he]) (by simp [idsOf, idsOfs]) hw
theorem okN_app {x y : List Node} : okN (x ++ y) ↔ okN x ∧ okN y := by
  unfold okN
  simp only [List.mem_append]
  exact ⟨fun h => ⟨fun z hz => h z (.inl hz), fun z hz => h z (.inr hz)⟩, fun h z hz => hz.elim (h.1 z) (h.2 z)⟩
theorem okN_take {x : List Node} (h : okN x) (i : Nat) : okN (x.take i) := fun z hz => h z (List.mem_of_mem_take hz)
theorem okN_drop {x : List Node} (h : okN x) (i : Nat) : okN (x.drop i) := fun z hz => h z (List.mem_of_mem_drop hz)
theorem okN_mrg {lt : Node → Node → Bool} {x y : List Node} (h : okN x) (h' : okN y) : okN (Srt.mrg lt x y) := fun z hz => ((Srt.mrg_mem lt _ _).1 hz).elim (h z) (h' z)
theorem okN_srt {lt : Node → Node → Bool} {x : List Node} (h : okN x) : okN (Srt.srt lt x) := fun z hz => h z ((Srt.srt_mem lt _).1 hz)
theorem ord_take {lt : Node → Node → Bool} {x : List Node} (h : Srt.Ord lt x) (i : Nat) : Srt.Ord lt (x.take i) := List.Pairwise.sublist (List.take_sublist _ _) h
theorem ord_drop {lt : Node → Node → Bool} {x : List Node} (h : Srt.Ord lt x) (i : Nat) : Srt.Ord lt (x.drop i) := List.Pairwise.sublist (List.drop_sublist _ _) h
theorem live_sym : (XX.live 242).contains 242 = true := by rw [live_242]; rfl
theorem sym_spec (l : List Def) (hl : l.length ≤ 1099511627776) (ho : okDs l) (n : Nat) (hb : n ≤ 1099511627776) : ∀ (z : Nat) (P A B Q : List Node) (a m b : Nat), A.length + B.length ≤ z → n ≤ (P ++ (A ++ (B ++ Q))).length → b ≤ n → P.length = a → a + A.length = m → m + B.length = b → 0 < A.length → 0 < B.length → okN (P ++ (A ++ (B ++ Q))) → Srt.Ord (before l) A → Srt.Ord (before l) B →
    loudW XX 242 [.sl 0 0 n false, vI a, vI m, vI b, fO] (hS l (P ++ (A ++ (B ++ Q)))) = some (.tup [], hS l (P ++ (Srt.mrg (before l) A B ++ Q))) := by
  intro z
  induction z with
  | zero => intro P A B Q a m b hz _ _ _ _ _ h4 h5; omega
  | succ z ih =>
    intro P A B Q a m b hz hn hbn h1 h2 h3 hA0 hB0 hk hA hB
    have hlen := hn
    simp only [List.length_append] at hlen
    by_cases hA1 : A.length = 1
    · obtain ⟨x, rfl⟩ := List.length_eq_one_iff.1 hA1
      exact sym1_spec l P B Q x n a m b hl ho hn hbn hb h1 h2 h3 hk hB
    by_cases hB1 : B.length = 1
    · obtain ⟨x, rfl⟩ := List.length_eq_one_iff.1 hB1
      exact sym2_spec l P A Q x n a m b hl ho hn hbn hb h1 h2 h3 hA1 hk hA
    refine loudW_in 220 Tryz.func242 Tryz.ntmps242 (by simp) (rfl : Tryz.f242.body = some _) fns_242 ?_
    have e1 : (IntKind.i64.wrap ((m : Int) - (a : Int)) = 1) = False := by rw [IntWalk.i64_in _ (by omega)]; exact eq_false (by omega)
    have e2 : (IntKind.i64.wrap ((b : Int) - (m : Int)) = 1) = False := by rw [IntWalk.i64_in _ (by omega)]; exact eq_false (by omega)
    have wk := wk_before l
    have hkA : okN A := fun y hy => hk y (by simp [hy])
    have hkB : okN B := fun y hy => hk y (by simp [hy])
    obtain ⟨u, hu⟩ : ∃ u, (A.length + B.length) / 2 = u := ⟨_, rfl⟩
    have e3 : IntKind.i64.wrap ((a : Int) + (b : Int)) = ((a + b : Nat) : Int) := by rw [IntWalk.i64_in _ (by omega)]; omega
    have e4 := half_w (a + b) (by omega)
    rw [show (a + b) / 2 = a + u from by omega] at e4
    have e5 : IntKind.i64.wrap (((a + u : Nat) : Int) + (m : Int)) = ((a + u + m : Nat) : Int) := by rw [IntWalk.i64_in _ (by omega)]; omega
    have e6 : IntKind.i64.wrap (((a + u + m : Nat) : Int) - 1) = ((a + u + m - 1 : Nat) : Int) := by rw [IntWalk.i64_in _ (by omega)]; omega
    have hcase : ∃ s0 r0 : Nat, s0 ≤ r0 ∧ r0 ≤ A.length ∧ r0 ≤ u ∧ u ≤ s0 + B.length ∧ (r0 = u ∨ r0 = A.length) ∧ (s0 = 0 ∨ u = s0 + B.length) ∧
        ((((a + u : Nat) : Int) < (m : Int)) = True ∧ IntKind.i64.wrap (((a + u + m : Nat) : Int) - (b : Int)) = ((a + s0 : Nat) : Int) ∧ (a + u : Nat) = a + r0 ∨ (((a + u : Nat) : Int) < (m : Int)) = False ∧ a = a + s0 ∧ m = a + r0) := by
      by_cases hc : a + u < m
      · refine ⟨u - B.length, u, by omega, by omega, Nat.le_refl _, by omega, .inl rfl, .inr (by omega), .inl ⟨eq_true (by omega), ?_, rfl⟩⟩
        rw [IntWalk.i64_in _ (by omega)]; omega
      · exact ⟨0, A.length, by omega, Nat.le_refl _, by omega, by omega, .inr rfl, .inl rfl, .inr ⟨eq_false (by omega), rfl, h2.symm⟩⟩
    obtain ⟨s0, r0, f1, f2, f3, f4, f5, f6, hcase⟩ := hcase
    obtain ⟨D, hD⟩ : ∃ D, P ++ (A ++ (B ++ Q)) = D := ⟨_, rfl⟩
    have dA : ∀ i (hi : i < A.length), ∀ h : a + i < D.length, D[a + i] = A[i] := by
      intro i hi h; subst hD
      rw [List.getElem_append_right (by omega)]
      have e : a + i - P.length = i := by omega
      simp only [e]
      rw [List.getElem_append_left hi]
    have dB : ∀ i (hi : i < B.length), ∀ h : m + i < D.length, D[m + i] = B[i] := by
      intro i hi h; subst hD
      rw [List.getElem_append_right (by omega), List.getElem_append_right (by omega)]
      have e : m + i - P.length - A.length = i := by omega
      simp only [e]
      rw [List.getElem_append_left hi]
    have hDn : n ≤ D.length := by rw [← hD]; exact hn
    rw [hD]
    have hend : ∀ s, s ≤ r0 → s0 ≤ s → (∀ c (h1 : c < A.length) (h2 : u - 1 - c < B.length), s0 < s → c + 1 = s → before l B[u - 1 - c] A[c] = false) → (∀ (h1 : s < A.length) (h2 : u - 1 - s < B.length), s < r0 → before l B[u - 1 - s] A[s] = true) →
        Srt.mrg (before l) A B = Srt.mrg (before l) (A.take s) (B.take (u - s)) ++ Srt.mrg (before l) (A.drop s) (B.drop (u - s)) := by
      intro s g1 g2 g3 g4
      have := Srt.mrg_split (lt := before l) (A.take s) (A.drop s) (B.take (u - s)) (B.drop (u - s)) ?_ ?_
      · rw [List.take_append_drop, List.take_append_drop] at this; exact this
      · intro x hx y hy
        have hs1 : 0 < s := by
          rcases Nat.eq_zero_or_pos s with h | h
          · rw [h] at hx; simp at hx
          · exact h
        have hb1 : u - s < B.length := by
          rcases Nat.lt_or_ge (u - s) B.length with h | h
          · exact h
          · rw [List.drop_eq_nil_of_le h] at hy; simp at hy
        have hlt : before l B[u - s] A[s - 1] = false := by
          have := g3 (s - 1) (by omega) (by omega) (by omega) (by omega)
          have e : u - 1 - (s - 1) = u - s := by omega
          simp only [e] at this
          exact this
        have hp := ord_pre' wk hA (x := B[u - s]) (i := s) (by omega) (fun k hk hks => by
          have e : k = s - 1 := by omega
          subst e; exact hlt) x hx
        exact ord_suf wk hB (x := x) (i := u - s) (fun _ => hp) y hy
      · intro y hy x hx
        have hs1 : s < A.length := by
          rcases Nat.lt_or_ge s A.length with h | h
          · exact h
          · rw [List.drop_eq_nil_of_le h] at hx; simp at hx
        have hb1 : 0 < u - s := by
          rcases Nat.eq_zero_or_pos (u - s) with h | h
          · rw [h] at hy; simp at hy
          · exact h
        have hlt : before l B[u - 1 - s] A[s] = true := g4 hs1 (by omega) (by omega)
        have hp := ord_pre wk hB (x := A[s]) (i := u - s) (by omega) (fun k hk hks => by
          have e : k = u - 1 - s := by omega
          subst e; exact hlt) y hy
        exact ord_suf' wk hA (x := y) (i := s) (fun _ => hp) x hx
    rw [hD] at hk
    clear hlen hn
    have hkP : okN P := by rw [← hD, okN_app] at hk; exact hk.1
    have hkQ : okN Q := by rw [← hD, okN_app, okN_app, okN_app] at hk; exact hk.2.2.2
    have hlen : D.length = a + (A.length + (B.length + Q.length)) := by rw [← hD]; simp only [List.length_append]; omega
    rcases hcase with ⟨c1, c2, c3⟩ | ⟨c1, c2, c3⟩
    all_goals
      first
        | (replace c2 : m = a + r0 := c3; simp (maxSteps := 200000) (disch := first | omega | (simp only [go_sem] <;> omega) | fail) only [go_sem, e1, e2, e3, e4, e5, e6, c1])
        | simp (maxSteps := 200000) (disch := first | omega | (simp only [go_sem] <;> omega) | fail) only [go_sem, e1, e2, e3, e4, e5, e6, c1, c2]
      refine WP_loopR 33 2 (fun (p : Nat × Nat) => S_242_33 (.sl 0 0 n false) (vI a) (vI m) (vI b) fO (vI ((a + u : Nat) : Int)) (vI ((a + u + m : Nat) : Int)) (vI ((a + p.1 : Nat) : Int)) (vI ((a + p.2 : Nat) : Int)) (vI ((a + u + m - 1 : Nat) : Int)) (hS l D)) (fun p => p.2 - p.1)
        (fun p => s0 ≤ p.1 ∧ p.1 ≤ p.2 ∧ p.2 ≤ r0 ∧ (∀ c (h1 : c < A.length) (h2 : u - 1 - c < B.length), s0 < p.1 → c + 1 = p.1 → before l B[u - 1 - c] A[c] = false) ∧ (∀ (h1 : p.2 < A.length) (h2 : u - 1 - p.2 < B.length), p.2 < r0 → before l B[u - 1 - p.2] A[p.2] = true)) (s0, r0) rfl rfl ?_ ?_ ?_
      · simp (maxSteps := 200000) (disch := first | omega | (simp only [go_sem] <;> omega) | fail) only [go_sem]
        first | (rw [← c3]; done) | (rw [← c3, show a + s0 = a from by omega]; done)
      · exact ⟨Nat.le_refl _, f1, Nat.le_refl _, fun c _ _ h => absurd h (Nat.lt_irrefl _), fun _ _ h => absurd h (Nat.lt_irrefl _)⟩
      · rintro ⟨s, r⟩ ⟨g1, g2, g3, g4, g5⟩
        simp only at g1 g2 g3 g4 g5
        by_cases hsr : s < r
        · have d1 : (((a + s : Nat) : Int) < ((a + r : Nat) : Int)) = True := eq_true (by omega)
          have w1 : IntKind.i64.wrap (((a + s : Nat) : Int) + ((a + r : Nat) : Int)) = ((a + s + (a + r) : Nat) : Int) := by rw [IntWalk.i64_in _ (by omega)]; omega
          have w2 := half_w (a + s + (a + r)) (by omega)
          obtain ⟨c, hc⟩ : ∃ c, (s + r) / 2 = c := ⟨_, rfl⟩
          rw [show (a + s + (a + r)) / 2 = a + c from by omega] at w2
          have hcA : c < A.length := by omega
          have hcB : u - 1 - c < B.length := by omega
          have w4 : IntKind.i64.wrap (((a + u + m - 1 : Nat) : Int) - ((a + c : Nat) : Int)) = ((m + (u - 1 - c) : Nat) : Int) := by rw [IntWalk.i64_in _ (by omega)]; omega
          have q1 : a + c < D.length := by omega
          have q2 : m + (u - 1 - c) < D.length := by omega
          have q1' : a + c < n := by omega
          have q2' : m + (u - 1 - c) < n := by omega
          have r1 := dA c hcA q1
          have r2 := dB (u - 1 - c) hcB q2
          have hcm := ord_spec l B[u - 1 - c] A[c] hl ho (okN_get hkB hcB) (okN_get hkA hcA)
          have hlt := ordC_lt l B[u - 1 - c] A[c]
          have w3 : IntKind.i64.wrap (((a + c : Nat) : Int) + 1) = ((a + (c + 1) : Nat) : Int) := by rw [IntWalk.i64_in _ (by omega)]; omega
          cases hbf : before l B[u - 1 - c] A[c] with
          | false =>
            rw [hbf] at hlt
            have d3 : (ordC l B[u - 1 - c] A[c] < 0) = False := eq_false (of_decide_eq_false hlt)
            simp (maxSteps := 200000) (disch := first | omega | (simp only [go_sem] <;> omega) | fail) only [go_sem, d1, w1, w2, w3, w4, q1, q2, q1', q2', eNode_s, r1, r2, x65_42, callA_pure mode_148, hcm, d3]
            refine ⟨(c + 1, r), rfl, ⟨by simp only; omega, by simp only; omega, g3, fun k h1 h2 _ hkc => ?_, g5⟩, by simp only; omega⟩
            have : k = c := by simp only at hkc; omega
            subst this; exact hbf
          | true =>
            rw [hbf] at hlt
            have d3 : (ordC l B[u - 1 - c] A[c] < 0) = True := eq_true (of_decide_eq_true hlt)
            simp (maxSteps := 200000) (disch := first | omega | (simp only [go_sem] <;> omega) | fail) only [go_sem, d1, w1, w2, w4, q1, q2, q1', q2', eNode_s, r1, r2, x65_42, callA_pure mode_148, hcm, d3]
            exact ⟨(s, c), rfl, ⟨g1, by simp only; omega, by simp only; omega, g4, fun _ _ _ => hbf⟩, by simp only; omega⟩
        · have hsr' : r = s := by omega
          subst hsr'
          have d1 : (((a + r : Nat) : Int) < ((a + r : Nat) : Int)) = False := eq_false (by omega)
          have w5 : IntKind.i64.wrap (((a + u + m : Nat) : Int) - ((a + r : Nat) : Int)) = ((m + (u - r) : Nat) : Int) := by rw [IntWalk.i64_in _ (by omega)]; omega
          have hmm := hend r g3 g1 g4 g5
          have hA1l : (A.take r).length = r := by rw [List.length_take]; omega
          have hA2l : (A.drop r).length = A.length - r := List.length_drop
          have hB1l : (B.take (u - r)).length = u - r := by rw [List.length_take]; omega
          have hB2l : (B.drop (u - r)).length = B.length - (u - r) := List.length_drop
          have hM1l := Srt.mrg_len (before l) (A.take r) (B.take (u - r))
          have hM2l := Srt.mrg_len (before l) (A.drop r) (B.drop (u - r))
          have hkA1 := okN_take hkA r
          have hkA2 := okN_drop hkA r
          have hkB1 := okN_take hkB (u - r)
          have hkB2 := okN_drop hkB (u - r)
          have hoA1 := ord_take hA r
          have hoA2 := ord_drop hA r
          have hoB1 := ord_take hB (u - r)
          have hoB2 := ord_drop hB (u - r)
          have hDe : P ++ A.take r ++ (A.drop r ++ (B.take (u - r) ++ (B.drop (u - r) ++ Q))) = D := by
            rw [← hD]
            conv => rhs; rw [← List.take_append_drop r A, ← List.take_append_drop (u - r) B]
            simp only [List.append_assoc]
          generalize A.take r = A1 at *
          generalize A.drop r = A2 at *
          generalize B.take (u - r) = B1 at *
          generalize B.drop (u - r) = B2 at *
          obtain ⟨D2, hD2⟩ : ∃ D2, P ++ (A1 ++ (B1 ++ (A2 ++ (B2 ++ Q)))) = D2 := ⟨_, rfl⟩
          obtain ⟨D3, hD3⟩ : ∃ D3, P ++ (Srt.mrg (before l) A1 B1 ++ (A2 ++ (B2 ++ Q))) = D3 := ⟨_, rfl⟩
          obtain ⟨D4, hD4⟩ : ∃ D4, P ++ (Srt.mrg (before l) A1 B1 ++ (Srt.mrg (before l) A2 B2 ++ Q)) = D4 := ⟨_, rfl⟩
          have hfin : hS l (P ++ (Srt.mrg (before l) A B ++ Q)) = hS l D4 := by rw [← hD4, hmm, List.append_assoc]
          rw [hfin]
          have hl2 : D2.length = D.length := by rw [← hD2]; simp only [List.length_append]; omega
          have hl3 : D3.length = D.length := by rw [← hD3]; simp only [List.length_append]; omega
          have hl4 : D4.length = D.length := by rw [← hD4]; simp only [List.length_append]; omega
          have st1 : ((((a + r : Nat) : Int) < (m : Int)) = True ∧ ((m : Int) < ((m + (u - r) : Nat) : Int)) = True ∧ ∀ t, callX XX (orW XX) ⟨t, hS l D⟩ 242 266 [.sl 0 0 n false, vI ((a + r : Nat) : Int), vI m, vI ((m + (u - r) : Nat) : Int), fO] = some (.st (.tup []) ⟨t, hS l D2⟩)) ∨ ((((a + r : Nat) : Int) < (m : Int)) = True ∧ ((m : Int) < ((m + (u - r) : Nat) : Int)) = False ∧ D = D2) ∨ ((((a + r : Nat) : Int) < (m : Int)) = False ∧ True ∧ D = D2) := by
            by_cases k1 : r < A.length
            · by_cases k2 : 0 < u - r
              · exact .inl ⟨eq_true (by omega), eq_true (by omega), fun t => call_rot t l (P ++ A1) A2 B1 (B2 ++ Q) D D2 n (a + r) m (m + (u - r)) hDe (by rw [← hD2]; simp only [List.append_assoc]) hDn (by omega) hb (by rw [List.length_append]; omega) (by rw [List.length_append]; omega) (by rw [List.length_append]; omega) (by omega) (by omega)⟩
              · have : B1 = [] := List.eq_nil_of_length_eq_zero (by omega)
                exact .inr (.inl ⟨eq_true (by omega), eq_false (by omega), by rw [← hDe, ← hD2, this]; simp only [List.append_assoc, List.nil_append]⟩)
            · have : A2 = [] := List.eq_nil_of_length_eq_zero (by omega)
              exact .inr (.inr ⟨eq_false (by omega), trivial, by rw [← hDe, ← hD2, this]; simp only [List.append_assoc, List.nil_append]⟩)
          have st2 : (((a : Int) < ((a + r : Nat) : Int)) = True ∧ (((a + r : Nat) : Int) < ((a + u : Nat) : Int)) = True ∧ ∀ t, callX XX (orW XX) ⟨t, hS l D2⟩ 242 242 [.sl 0 0 n false, vI a, vI ((a + r : Nat) : Int), vI ((a + u : Nat) : Int), fO] = some (.st (.tup []) ⟨t, hS l D3⟩)) ∨ (((a : Int) < ((a + r : Nat) : Int)) = True ∧ (((a + r : Nat) : Int) < ((a + u : Nat) : Int)) = False ∧ D2 = D3) ∨ (((a : Int) < ((a + r : Nat) : Int)) = False ∧ True ∧ D2 = D3) := by
            by_cases k1 : 0 < r
            · by_cases k2 : 0 < u - r
              · refine .inl ⟨eq_true (by omega), eq_true (by omega), fun t => call_sym _ live_sym t l D2 D3 n a (a + r) (a + u) (by omega) ?_⟩
                have := ih P A1 B1 (A2 ++ (B2 ++ Q)) a (a + r) (a + u) (by omega) (by rw [hD2, hl2]; exact hDn) (by omega) h1 (by omega) (by omega) (by omega) (by omega) (by simp only [okN_app]; exact ⟨hkP, hkA1, hkB1, hkA2, hkB2, hkQ⟩) hoA1 hoB1
                rw [hD2, hD3] at this
                exact this
              · have : B1 = [] := List.eq_nil_of_length_eq_zero (by omega)
                exact .inr (.inl ⟨eq_true (by omega), eq_false (by omega), by rw [← hD3, ← hD2, this, Srt.mrg_nil]; simp only [List.append_assoc, List.nil_append]⟩)
            · have : A1 = [] := List.eq_nil_of_length_eq_zero (by omega)
              exact .inr (.inr ⟨eq_false (by omega), trivial, by rw [← hD3, ← hD2, this, Srt.nil_mrg]; simp only [List.append_assoc, List.nil_append]⟩)
          have st3 : ((((a + u : Nat) : Int) < ((m + (u - r) : Nat) : Int)) = True ∧ (((m + (u - r) : Nat) : Int) < (b : Int)) = True ∧ ∀ t, callX XX (orW XX) ⟨t, hS l D3⟩ 242 242 [.sl 0 0 n false, vI ((a + u : Nat) : Int), vI ((m + (u - r) : Nat) : Int), vI b, fO] = some (.st (.tup []) ⟨t, hS l D4⟩)) ∨ ((((a + u : Nat) : Int) < ((m + (u - r) : Nat) : Int)) = True ∧ (((m + (u - r) : Nat) : Int) < (b : Int)) = False ∧ D3 = D4) ∨ ((((a + u : Nat) : Int) < ((m + (u - r) : Nat) : Int)) = False ∧ True ∧ D3 = D4) := by
            by_cases k1 : r < A.length
            · by_cases k2 : u - r < B.length
              · refine .inl ⟨eq_true (by omega), eq_true (by omega), fun t => call_sym _ live_sym t l D3 D4 n (a + u) (m + (u - r)) b (by omega) ?_⟩
                have := ih (P ++ Srt.mrg (before l) A1 B1) A2 B2 Q (a + u) (m + (u - r)) b (by omega) (by rw [List.append_assoc, hD3, hl3]; exact hDn) hbn (by rw [List.length_append]; omega) (by omega) (by omega) (by omega) (by omega) (by simp only [okN_app]; exact ⟨⟨hkP, okN_mrg hkA1 hkB1⟩, hkA2, hkB2, hkQ⟩) hoA2 hoB2
                rw [List.append_assoc, List.append_assoc, hD3, hD4] at this
                exact this
              · have : B2 = [] := List.eq_nil_of_length_eq_zero (by omega)
                exact .inr (.inl ⟨eq_true (by omega), eq_false (by omega), by rw [← hD3, ← hD4, this, Srt.mrg_nil]; simp only [List.append_assoc, List.nil_append]⟩)
            · have : A2 = [] := List.eq_nil_of_length_eq_zero (by omega)
              exact .inr (.inr ⟨eq_false (by omega), trivial, by rw [← hD3, ← hD4, this, Srt.nil_mrg]; simp only [List.append_assoc, List.nil_append]⟩)
          clear hD hDe hD2 hD3 hD4 hfin hmm hend dA dB g4 g5
          rcases st1 with ⟨k1, k2, k3⟩ | ⟨k1, k2, k3⟩ | ⟨k1, k2, k3⟩
          all_goals try subst k3
          all_goals rcases st2 with ⟨k4, k5, k6⟩ | ⟨k4, k5, k6⟩ | ⟨k4, k5, k6⟩
          all_goals try subst k6
          all_goals rcases st3 with ⟨k7, k8, k9⟩ | ⟨k7, k8, k9⟩ | ⟨k7, k8, k9⟩
          all_goals try subst k9
          all_goals try (simp (maxSteps := 200000) (disch := first | omega | (simp only [go_sem] <;> omega) | fail) only [go_sem, d1, w5, k1, k2, k3, k4, k5, k6, k7, k8, k9]; done)
          all_goals try (simp (maxSteps := 200000) (disch := first | omega | (simp only [go_sem] <;> omega) | fail) only [go_sem, d1, w5, k1, k2, k4, k5, k6, k7, k8, k9]; done)
          all_goals try (simp (maxSteps := 200000) (disch := first | omega | (simp only [go_sem] <;> omega) | fail) only [go_sem, d1, w5, k1, k2, k3, k4, k5, k7, k8, k9]; done)
          all_goals try (simp (maxSteps := 200000) (disch := first | omega | (simp only [go_sem] <;> omega) | fail) only [go_sem, d1, w5, k1, k2, k3, k4, k5, k6, k7, k8]; done)
          all_goals try (simp (maxSteps := 200000) (disch := first | omega | (simp only [go_sem] <;> omega) | fail) only [go_sem, d1, w5, k1, k2, k4, k5, k7, k8, k9]; done)
          all_goals try (simp (maxSteps := 200000) (disch := first | omega | (simp only [go_sem] <;> omega) | fail) only [go_sem, d1, w5, k1, k2, k4, k5, k6, k7, k8]; done)
          all_goals try (simp (maxSteps := 200000) (disch := first | omega | (simp only [go_sem] <;> omega) | fail) only [go_sem, d1, w5, k1, k2, k3, k4, k5, k7, k8]; done)
          all_goals try (simp (maxSteps := 200000) (disch := first | omega | (simp only [go_sem] <;> omega) | fail) only [go_sem, d1, w5, k1, k2, k4, k5, k7, k8]; done)
end Go.Abs.SA
end
section
namespace Go.Abs.SA
open Go.Proofs
def blkS (lt : Node → Node → Bool) (k : Nat) (ns : List Node) : List Node :=
  if h : ns.length ≤ k ∨ k = 0 then Srt.srt lt ns else Srt.srt lt (ns.take k) ++ blkS lt k (ns.drop k)
termination_by ns.length
decreasing_by rw [List.length_drop]; omega
theorem blk_le {lt : Node → Node → Bool} {k : Nat} {ns : List Node} (h : ns.length ≤ k) : blkS lt k ns = Srt.srt lt ns := by
  rw [blkS, dif_pos (.inl h)]
theorem blk_ge {lt : Node → Node → Bool} {k : Nat} {ns : List Node} (h : k ≤ ns.length) (hk : 0 < k) : blkS lt k ns = Srt.srt lt (ns.take k) ++ blkS lt k (ns.drop k) := by
  by_cases e : ns.length = k
  · rw [blk_le (by omega), blk_le (by rw [List.length_drop]; omega), List.drop_eq_nil_of_le (by omega), List.take_of_length_le (by omega), Srt.srt_nil, List.append_nil]
  · rw [blkS, dif_neg (by omega)]
theorem blk_len (lt : Node → Node → Bool) (k : Nat) (hk : 0 < k) : ∀ (z : Nat) (ns : List Node), ns.length ≤ z → (blkS lt k ns).length = ns.length := by
  intro z
  induction z with
  | zero => intro ns h; rw [blk_le (by omega), Srt.srt_len]
  | succ z ih =>
    intro ns h
    by_cases e : ns.length ≤ k
    · rw [blk_le e, Srt.srt_len]
    · rw [blk_ge (by omega) hk, List.length_append, Srt.srt_len, ih _ (by rw [List.length_drop]; omega), List.length_take, List.length_drop]; omega
theorem blk_okN {lt : Node → Node → Bool} (k : Nat) (hk : 0 < k) : ∀ (z : Nat) (ns : List Node), ns.length ≤ z → okN ns → okN (blkS lt k ns) := by
  intro z
  induction z with
  | zero => intro ns h hk; rw [blk_le (by omega)]; exact okN_srt hk
  | succ z ih =>
    intro ns h hn
    by_cases e : ns.length ≤ k
    · rw [blk_le e]; exact okN_srt hn
    · rw [blk_ge (by omega) hk, okN_app]
      exact ⟨okN_srt (okN_take hn k), ih _ (by rw [List.length_drop]; omega) (okN_drop hn k)⟩
theorem blk_two {lt : Node → Node → Bool} (w : Srt.Wk lt) {k : Nat} {ns : List Node} (h : 2 * k ≤ ns.length) (hk : 0 < k) : blkS lt k ns = Srt.srt lt (ns.take k) ++ (Srt.srt lt ((ns.drop k).take k) ++ blkS lt k (ns.drop (2 * k))) ∧ Srt.srt lt (ns.take (2 * k)) = Srt.mrg lt (Srt.srt lt (ns.take k)) (Srt.srt lt ((ns.drop k).take k)) := by
  constructor
  · rw [blk_ge (by omega) hk, blk_ge (ns := ns.drop k) (by rw [List.length_drop]; omega) hk, List.drop_drop, show k + k = 2 * k from by omega]
  · rw [← Srt.srt_app w, show 2 * k = k + k from by omega, List.take_add]
theorem call_isort (t : List AV) (l : List Def) (P X Q D E : List Node) (n a b : Nat) (hl : l.length ≤ 1099511627776) (ho : okDs l) (hD : P ++ (X ++ Q) = D) (hE : P ++ (Srt.srt (before l) X ++ Q) = E) (hn : n ≤ D.length) (hbn : b ≤ n) (hb : n ≤ 1099511627776) (h1 : P.length = a) (h2 : P.length + X.length = b) (hk : okN D) :
    callX XX (orW XX) ⟨t, hS l D⟩ 201 241 [.sl 0 0 n false, vI a, vI b, fO] = some (.st (.tup []) ⟨t, hS l E⟩) := by
  subst hD; subst hE
  exact callX_two (by rw [live_201]; rfl) (by simp [AV.lts, AV.lt]) (by simp [idsOfs, idsOf, addNew]) (by simp [AV.rens, AV.ren, posOf]) (by simp [idsOfs, idsOf]) (by simp [Srt.srt_len]) (by simp [idsOf, idsOfs]) (isort_spec l P X Q n a b hl ho hn hbn hb h1 h2 hk)
theorem live_st_sym : (XX.live 201).contains 242 = true := by rw [live_201]; rfl
theorem stable_spec (l : List Def) (ns T : List Node) (n : Nat) (hl : l.length ≤ 1099511627776) (ho : okDs l) (hn : ns.length = n) (hb : n ≤ 1099511627776) (hk : okN ns) (hkT : okN T) :
    loudW XX 201 [.sl 0 0 n false, vI n, fO] (hS l (ns ++ T)) = some (.tup [], hS l (Srt.srt (before l) ns ++ T)) := by
  refine loudW_in 63 Tryz.func201 Tryz.ntmps201 (by simp) (rfl : Tryz.f201.body = some _) fns_201 ?_
  have wk := wk_before l
  simp (maxSteps := 200000) (disch := first | omega | (simp only [go_sem] <;> omega) | fail) only [go_sem]
  refine WP_loopR 2 2 (fun (p : Nat × List Node) => S_201_2 (.sl 0 0 n false) (vI n) fO (vI 20) (vI p.1) (vI ((p.1 + 20 : Nat) : Int)) (hS l (p.2 ++ (ns.drop p.1 ++ T)))) (fun p => n - p.1)
    (fun p => p.1 ≤ n ∧ p.2.length = p.1 ∧ okN p.2 ∧ p.2 ++ blkS (before l) 20 (ns.drop p.1) = blkS (before l) 20 ns) (0, []) rfl rfl ?_ ?_ ?_
  · simp (maxSteps := 200000) (disch := first | omega | (simp only [go_sem] <;> omega) | fail) only [go_sem]; rfl
  · exact ⟨Nat.zero_le _, rfl, fun _ h => (List.not_mem_nil h).elim, by simp⟩
  · rintro ⟨a, P⟩ ⟨g1, g2, g3, g4⟩
    simp only at g1 g2 g3 g4
    have hRl : (ns.drop a).length = n - a := by rw [List.length_drop]; omega
    have hRk := okN_drop hk a
    by_cases hab : a + 20 ≤ n
    · have c1 : (((a + 20 : Nat) : Int) ≤ (n : Int)) = True := eq_true (by omega)
      have w1 : IntKind.i64.wrap (((a + 20 : Nat) : Int) + 20) = ((a + 20 + 20 : Nat) : Int) := by rw [IntWalk.i64_in _ (by omega)]; omega
      have hcl := fun t => call_isort t l P ((ns.drop a).take 20) ((ns.drop a).drop 20 ++ T) (P ++ (ns.drop a ++ T)) (P ++ (Srt.srt (before l) ((ns.drop a).take 20) ++ ((ns.drop a).drop 20 ++ T))) n a (a + 20) hl ho (by rw [← List.append_assoc ((ns.drop a).take 20), List.take_append_drop]) rfl (by rw [List.length_append, List.length_append]; omega) hab hb g2 (by rw [List.length_take]; omega) (okN_app.2 ⟨g3, okN_app.2 ⟨hRk, hkT⟩⟩)
      simp (maxSteps := 200000) (disch := first | omega | (simp only [go_sem] <;> omega) | fail) only [go_sem, c1, w1, hcl]
      refine ⟨(a + 20, P ++ Srt.srt (before l) ((ns.drop a).take 20)), ?_, ⟨hab, ?_, okN_app.2 ⟨g3, okN_srt (okN_take hRk 20)⟩, ?_⟩, by simp only; omega⟩
      · simp only
        rw [List.drop_drop, List.append_assoc]
      · simp only
        rw [List.length_append, Srt.srt_len, List.length_take]; omega
      · simp only
        rw [← g4, blk_ge (ns := ns.drop a) (by omega) (by omega), List.drop_drop, List.append_assoc]
    · have c1 : (((a + 20 : Nat) : Int) ≤ (n : Int)) = False := eq_false (by omega)
      have hcl := fun t => call_isort t l P (ns.drop a) T (P ++ (ns.drop a ++ T)) (P ++ (Srt.srt (before l) (ns.drop a) ++ T)) n a n hl ho rfl rfl (by rw [List.length_append, List.length_append]; omega) (Nat.le_refl _) hb g2 (by omega) (okN_app.2 ⟨g3, okN_app.2 ⟨hRk, hkT⟩⟩)
      rw [← blk_le (k := 20) (by omega), ← List.append_assoc P (blkS _ _ _), g4] at hcl
      simp (maxSteps := 200000) (disch := first | omega | (simp only [go_sem] <;> omega) | fail) only [go_sem, c1, hcl]
      refine WP_loopR 7 2 (fun (k : Nat) => S_201_7 (.sl 0 0 n false) (vI n) fO (vI k) (hS l (blkS (before l) k ns ++ T))) (fun k => n - k)
        (fun k => 20 ≤ k ∧ k ≤ 2199023255552) 20 rfl rfl ?_ ?_ ?_
      · simp (maxSteps := 200000) (disch := first | omega | (simp only [go_sem] <;> omega) | fail) only [go_sem]; rfl
      · omega
      · rintro k ⟨k1, k2⟩
        by_cases hkn : k < n
        · have c2 : ((k : Int) < (n : Int)) = True := eq_true (by omega)
          have w2 : IntKind.i64.wrap (2 * (k : Int)) = ((2 * k : Nat) : Int) := by rw [IntWalk.i64_in _ (by omega)]; omega
          have w3 : IntKind.i64.wrap ((k : Int) * 2) = ((2 * k : Nat) : Int) := by rw [IntWalk.i64_in _ (by omega)]; omega
          simp (maxSteps := 200000) (disch := first | omega | (simp only [go_sem] <;> omega) | fail) only [go_sem, c2, w2]
          refine WP_loopR 9 2 (fun (p : Nat × List Node) => S_201_9 (.sl 0 0 n false) (vI n) fO (vI k) (vI p.1) (vI ((p.1 + 2 * k : Nat) : Int)) (hS l (p.2 ++ (blkS (before l) k (ns.drop p.1) ++ T)))) (fun p => n - p.1)
            (fun p => p.1 ≤ n ∧ p.2.length = p.1 ∧ okN p.2 ∧ p.2 ++ blkS (before l) (2 * k) (ns.drop p.1) = blkS (before l) (2 * k) ns) (0, []) rfl rfl ?_ ?_ ?_
          · simp (maxSteps := 200000) (disch := first | omega | (simp only [go_sem] <;> omega) | fail) only [go_sem, Nat.zero_add]; rfl
          · exact ⟨Nat.zero_le _, rfl, fun _ h => (List.not_mem_nil h).elim, by simp⟩
          · rintro ⟨a, P⟩ ⟨g1, g2, g3, g4⟩
            simp only at g1 g2 g3 g4
            have hRl : (ns.drop a).length = n - a := by rw [List.length_drop]; omega
            have hRk := okN_drop hk a
            have w4 : IntKind.i64.wrap ((a : Int) + (k : Int)) = ((a + k : Nat) : Int) := by rw [IntWalk.i64_in _ (by omega)]; omega
            by_cases hab : a + 2 * k ≤ n
            · have c3 : (((a + 2 * k : Nat) : Int) ≤ (n : Int)) = True := eq_true (by omega)
              have w5 : IntKind.i64.wrap (((a + 2 * k : Nat) : Int) + ((2 * k : Nat) : Int)) = ((a + 2 * k + 2 * k : Nat) : Int) := by rw [IntWalk.i64_in _ (by omega)]; omega
              obtain ⟨t1, t2⟩ := blk_two wk (ns := ns.drop a) (k := k) (by omega) (by omega)
              have hcl : ∀ t, callX XX (orW XX) ⟨t, hS l (P ++ (blkS (before l) k (ns.drop a) ++ T))⟩ 201 242 [.sl 0 0 n false, vI a, vI ((a + k : Nat) : Int), vI ((a + 2 * k : Nat) : Int), fO] = some (.st (.tup []) ⟨t, hS l (P ++ (Srt.srt (before l) ((ns.drop a).take (2 * k)) ++ (blkS (before l) k ((ns.drop a).drop (2 * k)) ++ T)))⟩) := by
                intro t
                have hA : (Srt.srt (before l) ((ns.drop a).take k)).length = k := by rw [Srt.srt_len, List.length_take]; omega
                have hB : (Srt.srt (before l) (((ns.drop a).drop k).take k)).length = k := by rw [Srt.srt_len, List.length_take, List.length_drop]; omega
                have hC : (blkS (before l) k ((ns.drop a).drop (2 * k))).length = n - a - 2 * k := by rw [blk_len _ k (by omega) _ _ (Nat.le_refl _), List.length_drop]; omega
                rw [t1, t2, List.append_assoc (Srt.srt _ _), List.append_assoc (Srt.srt _ _)]
                refine call_sym _ live_st_sym t l _ _ n a (a + k) (a + 2 * k) ?_ (sym_spec l hl ho n hb _ P _ _ _ a (a + k) (a + 2 * k) (Nat.le_refl _) ?_ hab g2 ?_ ?_ ?_ ?_ ?_ (Srt.ord_srt wk _) (Srt.ord_srt wk _))
                · simp only [List.length_append, Srt.mrg_len]; omega
                · simp only [List.length_append]; omega
                · omega
                · omega
                · omega
                · omega
                · simp only [okN_app]
                  exact ⟨g3, okN_srt (okN_take hRk _), okN_srt (okN_take (okN_drop hRk _) _), blk_okN k (by omega) _ _ (Nat.le_refl _) (okN_drop hRk _), hkT⟩
              simp (maxSteps := 200000) (disch := first | omega | (simp only [go_sem] <;> omega) | fail) only [go_sem, c3, w4, w5, w2, hcl]
              refine ⟨(a + 2 * k, P ++ Srt.srt (before l) ((ns.drop a).take (2 * k))), ?_, ⟨hab, ?_, okN_app.2 ⟨g3, okN_srt (okN_take hRk _)⟩, ?_⟩, by simp only; omega⟩
              · simp only
                rw [List.drop_drop, List.append_assoc]
              · simp only
                rw [List.length_append, Srt.srt_len, List.length_take]; omega
              · simp only
                rw [← g4, blk_ge (k := 2 * k) (ns := ns.drop a) (by omega) (by omega), List.drop_drop, List.append_assoc]
            · have c3 : (((a + 2 * k : Nat) : Int) ≤ (n : Int)) = False := eq_false (by omega)
              have hend : P ++ Srt.srt (before l) (ns.drop a) = blkS (before l) (2 * k) ns := by rw [← g4, blk_le (k := 2 * k) (by omega)]
              by_cases hm : a + k < n
              · have c4 : (((a + k : Nat) : Int) < (n : Int)) = True := eq_true (by omega)
                have hcl : ∀ t, callX XX (orW XX) ⟨t, hS l (P ++ (blkS (before l) k (ns.drop a) ++ T))⟩ 201 242 [.sl 0 0 n false, vI a, vI ((a + k : Nat) : Int), vI n, fO] = some (.st (.tup []) ⟨t, hS l (blkS (before l) (2 * k) ns ++ T)⟩) := by
                  intro t
                  have hA : (Srt.srt (before l) ((ns.drop a).take k)).length = k := by rw [Srt.srt_len, List.length_take]; omega
                  have hB : (Srt.srt (before l) ((ns.drop a).drop k)).length = n - a - k := by rw [Srt.srt_len, List.length_drop]; omega
                  have hsp := sym_spec l hl ho n hb _ P (Srt.srt (before l) ((ns.drop a).take k)) (Srt.srt (before l) ((ns.drop a).drop k)) T a (a + k) n (Nat.le_refl _) (by simp only [List.length_append]; omega) (Nat.le_refl _) g2 (by omega) (by omega) (by omega) (by omega) (by simp only [okN_app]; exact ⟨g3, okN_srt (okN_take hRk _), okN_srt (okN_drop hRk _), hkT⟩) (Srt.ord_srt wk _) (Srt.ord_srt wk _)
                  rw [← List.append_assoc P (Srt.mrg _ _ _), ← Srt.srt_app wk, List.take_append_drop, hend] at hsp
                  rw [blk_ge (k := k) (ns := ns.drop a) (by omega) (by omega), blk_le (k := k) (ns := (ns.drop a).drop k) (by rw [List.length_drop]; omega), List.append_assoc (Srt.srt _ _)]
                  refine call_sym _ live_st_sym t l _ _ n a (a + k) n ?_ hsp
                  rw [← hend]
                  simp only [List.length_append]; rw [Srt.srt_len]; omega
                simp (maxSteps := 200000) (disch := first | omega | (simp only [go_sem] <;> omega) | fail) only [go_sem, c3, c4, w4, w3, hcl]
                exact ⟨2 * k, rfl, by omega, by omega⟩
              · have c4 : (((a + k : Nat) : Int) < (n : Int)) = False := eq_false (by omega)
                simp (maxSteps := 200000) (disch := first | omega | (simp only [go_sem] <;> omega) | fail) only [go_sem, c3, c4, w4, w3]
                exact ⟨2 * k, by rw [blk_le (k := k) (by omega), ← List.append_assoc, hend], by omega, by omega⟩
        · have c2 : ((k : Int) < (n : Int)) = False := eq_false (by omega)
          simp (maxSteps := 200000) (disch := first | omega | (simp only [go_sem] <;> omega) | fail) only [go_sem, c2]
          rw [blk_le (by omega)]
theorem sortS_spec (l : List Def) (ns T : List Node) (n : Nat) (hl : l.length ≤ 1099511627776) (ho : okDs l) (hn : ns.length = n) (hb : n ≤ 1099511627776) (hk : okN ns) (hkT : okN T) :
    loudW XX 147 [.sl 0 0 n false, fO] (hS l (ns ++ T)) = some (.tup [], hS l (order l ns ++ T)) := by
  refine loudW_in 9 Tryz.func147 Tryz.ntmps147 (by simp) (rfl : Tryz.f147.body = some _) fns_147 ?_
  have hcl : ∀ t, callX XX (orW XX) ⟨t, hS l (ns ++ T)⟩ 147 201 [.sl 0 0 n false, vI n, fO] = some (.st (.tup []) ⟨t, hS l (Srt.srt (before l) ns ++ T)⟩) := fun t =>
    callX_two (by rw [live_147]; rfl) (by simp [AV.lts, AV.lt]) (by simp [idsOfs, idsOf, addNew]) (by simp [AV.rens, AV.ren, posOf]) (by simp [idsOfs, idsOf]) (by simp [Srt.srt_len]) (by simp [idsOf, idsOfs]) (stable_spec l ns T n hl ho hn hb hk hkT)
  simp (maxSteps := 200000) (disch := first | omega | (simp only [go_sem] <;> omega) | fail) only [go_sem, hcl]
  rw [order_srt]
theorem modelOrder_spec (l : List Def) (ns T : List Node) (n : Nat) (hl : l.length ≤ 1099511627776) (ho : okDs l) (hn : ns.length = n) (hb : n ≤ 1099511627776) (hk : okN ns) (hkT : okN T) :
    loudW XX 91 [lD l, .sl 0 0 n false] [.arr 75 3 ((ns ++ T).map eNode)] = some (.tup [], hS l (order l ns ++ T)) := by
  refine loudW_in 7 Tryz.func91 Tryz.ntmps91 (by simp) (rfl : Tryz.f91.body = some _) fns_91 ?_
  have hcl : ∀ t, callX XX (orW XX) ⟨t, hS l (ns ++ T)⟩ 91 147 [.sl 0 0 n false, fO] = some (.st (.tup []) ⟨t, hS l (order l ns ++ T)⟩) := fun t =>
    callX_two (by rw [live_91]; rfl) (by simp [AV.lts, AV.lt]) (by simp [idsOfs, idsOf, addNew]) (by simp [AV.rens, AV.ren, posOf]) (by simp [idsOfs, idsOf]) (by simp [order_len]) (by simp [idsOf, idsOfs]) (sortS_spec l ns T n hl ho hn hb hk hkT)
  simp (maxSteps := 200000) (disch := first | omega | (simp only [go_sem] <;> omega) | fail) only [go_sem, hcl]
end Go.Abs.SA
end
section
namespace Go.Abs.SA
open Go.Proofs
theorem dropW_nil {p : UInt8 → Bool} : ∀ {l : List UInt8}, l.dropWhile p = [] ↔ ∀ x ∈ l, p x = true
  | [] => by simp
  | a :: r => by
    rw [List.dropWhile_cons]
    cases h : p a with
    | true => simp [dropW_nil (l := r), h]
    | false => simp [h]
theorem trimR_nil {l cs : List UInt8} : Lib.trimRightS l cs = [] ↔ ∀ x ∈ l, cs.contains x = true := by
  unfold Lib.trimRightS
  rw [List.reverse_eq_nil_iff, dropW_nil]
  simp
theorem trimR_mem {l cs : List UInt8} {x : UInt8} (h : x ∈ l) (hx : cs.contains x = false) : x ∈ Lib.trimRightS l cs := by
  unfold Lib.trimRightS
  rw [List.mem_reverse]
  have key : ∀ m : List UInt8, x ∈ m → x ∈ m.dropWhile (cs.contains ·) := by
    intro m
    induction m with
    | nil => intro h; cases h
    | cons a r ih =>
      intro h
      rw [List.dropWhile_cons]
      cases hc : cs.contains a with
      | true =>
        rcases List.mem_cons.1 h with rfl | h
        · rw [hx] at hc; cases hc
        · simpa using ih h
      | false => simpa using h
  exact key _ (by simpa using h)
theorem trim_nil {l cs : List UInt8} : Lib.trimS l cs = [] ↔ ∀ x ∈ l, cs.contains x = true := by
  unfold Lib.trimS Lib.trimLeftS
  rw [dropW_nil]
  constructor
  · intro h x hx
    cases hc : cs.contains x with
    | true => rfl
    | false => rw [h x (trimR_mem hx hc)] at hc; cases hc
  · intro h
    rw [trimR_nil.2 h]
    intro x hx; cases hx
theorem byte_get (s : Str) (i : Nat) (h : i < s.size) (h' : i < s.data.toList.length) : ((s.data.toList[i]).toNat : Int) = byteAt s i := by
  unfold byteAt
  have h1 : i < s.data.size := h
  have e : s.get! i = s.data[i] := by
    have : s.get! i = s.data[i]! := rfl
    rw [this]; exact getElem!_pos s.data i h1
  rw [e]; simp
theorem dig_iff (x : UInt8) : digS.data.toList.contains x = true ↔ 48 ≤ x.toNat ∧ x.toNat ≤ 57 := by
  simp only [digS, List.contains_iff_mem]
  constructor
  · intro h
    simp at h
    rcases h with h | h | h | h | h | h | h | h | h | h <;> (subst h; decide)
  · rintro ⟨h1, h2⟩
    have : x.toNat = 48 ∨ x.toNat = 49 ∨ x.toNat = 50 ∨ x.toNat = 51 ∨ x.toNat = 52 ∨ x.toNat = 53 ∨ x.toNat = 54 ∨ x.toNat = 55 ∨ x.toNat = 56 ∨ x.toNat = 57 := by omega
    have k : x = UInt8.ofNat x.toNat := (UInt8.ofNat_toNat).symm
    rcases this with h | h | h | h | h | h | h | h | h | h <;> (rw [h] at k; rw [k]; decide)
theorem trim_dig (t : Str) : ((⟨(Lib.trimS t.data.toList digS.data.toList).toArray⟩ : Str) = ⟨#[]⟩) = allB 48 57 t := by
  refine propext ⟨fun h i hi => ?_, fun h => ?_⟩
  · have h2 : Lib.trimS t.data.toList digS.data.toList = [] := by
      have := congrArg ByteArray.data h
      simpa using this
    have hi' : i < t.data.toList.length := by simpa using hi
    have := (dig_iff _).1 (trim_nil.1 h2 _ (List.getElem_mem hi'))
    have e := byte_get t i hi hi'
    omega
  · have h2 : Lib.trimS t.data.toList digS.data.toList = [] := by
      rw [trim_nil]
      intro x hx
      obtain ⟨i, hi, rfl⟩ := List.mem_iff_getElem.1 hx
      have hi' : i < t.size := by simpa using hi
      have := h i hi'
      have e := byte_get t i hi' hi
      exact (dig_iff _).2 (by omega)
    rw [h2]
theorem trim_spec (s : Str) (h : s.size ≤ 9223372036854775807) : pureW XX 121 [vS s, vS digS] = some (vS ⟨(Lib.trimS s.data.toList digS.data.toList).toArray⟩) := by
  exact trimX s digS ⟨h, .inl rfl⟩
theorem first_one (s : Str) (h : 0 < s.size) : (s.extract 0 1 = ⟨#[45]⟩) = (byteAt s 0 = 45) := by
  have hs : 0 < s.data.size := h
  have e : s.extract 0 1 = ⟨#[s.data[0]]⟩ := by
    apply ByteArray.ext
    rw [ByteArray.data_extract]
    apply Array.ext
    · simp; omega
    · intro i h1 h2
      simp at h2
      subst h2
      simp
  rw [e]
  unfold byteAt
  have e2 : s.get! 0 = s.data[0] := by
    have : s.get! 0 = s.data[0]! := rfl
    rw [this]; exact getElem!_pos s.data 0 hs
  rw [e2]
  refine propext ⟨fun h => ?_, fun h => ?_⟩
  · have := congrArg ByteArray.data h
    simp at this
    rw [this]; rfl
  · have h45 : ((45 : UInt8).toNat : Int) = 45 := by decide
    have hk : s.data[0].toNat = (45 : UInt8).toNat := by omega
    rw [UInt8.toNat_inj.1 hk]
theorem hasMinus_spec (s : Str) : pureW XX 178 [vS s, vS ⟨#[45]⟩] = some (vB (decide (0 < s.size ∧ byteAt s 0 = 45))) := by
  refine pureW_in 18 Tryz.func178 Tryz.ntmps178 (by simp) (rfl : Tryz.f178.body = some _) fns_178 ?_
  have c2 : (((⟨#[45]⟩ : ByteArray).size : Nat) : Int) = 1 := by rfl
  by_cases h : 0 < s.size
  · have c1 : ((1 : Int) ≤ (s.size : Int)) = True := eq_true (by omega)
    have c3 := first_one s h
    have c4 : 1 ≤ s.size := h
    simp (maxSteps := 200000) (disch := first | omega | (simp only [go_sem] <;> omega) | fail) only [go_sem, c2, c1, nat_int, c3, c4]
    simp [h]
  · have c1 : ((1 : Int) ≤ (s.size : Int)) = False := eq_false (by omega)
    simp (maxSteps := 200000) (disch := first | omega | (simp only [go_sem] <;> omega) | fail) only [go_sem, c2, c1, nat_int]
    simp [h]
theorem trimPre_spec (s : Str) : pureW XX 197 [vS s, vS ⟨#[45]⟩] = some (vS (sign s)) := by
  refine pureW_in 13 Tryz.func197 Tryz.ntmps197 (by simp) (rfl : Tryz.f197.body = some _) fns_197 ?_
  have hp := hasMinus_spec s
  have c2 : (((⟨#[45]⟩ : ByteArray).size : Nat) : Int) = 1 := by rfl
  by_cases h : 0 < s.size ∧ byteAt s 0 = 45
  · have c4 : 1 ≤ s.size := h.1
    rw [decide_eq_true h] at hp
    have hx : sign s = s.extract 1 s.size := by simp [sign, h]
    simp (maxSteps := 200000) (disch := first | omega | (simp only [go_sem] <;> omega) | fail) only [go_sem, callA_pure mode_178, hp, c2, c4, nat_int, hx]
  · rw [decide_eq_false h] at hp
    have hx : sign s = s := by unfold sign; rw [if_neg h]
    simp (maxSteps := 200000) (disch := first | omega | (simp only [go_sem] <;> omega) | fail) only [go_sem, callA_pure mode_178, hp, c2, hx]
theorem trimPrefix_spec (s : Str) : pureW XX 143 [vS s, vS ⟨#[45]⟩] = some (vS (sign s)) := by
  refine pureW_in 8 Tryz.func143 Tryz.ntmps143 (by simp) (rfl : Tryz.f143.body = some _) fns_143 ?_
  simp (maxSteps := 200000) (disch := first | omega | (simp only [go_sem] <;> omega) | fail) only [go_sem, callA_pure mode_197, trimPre_spec s]
theorem modelValue_spec (d : Def) (s : Str) (hd : d.values.length ≤ 140737488355328) : pureW XX 87 [aDef d, vS s] = some (vB (valueM d s)) := by
  refine pureW_in 66 Tryz.func87 Tryz.ntmps87 (by simp) (rfl : Tryz.f87.body = some _) fns_87 ?_
  by_cases h1 : (128 : Int) < (s.size : Int)
  · simp (maxSteps := 200000) (disch := first | omega | (simp only [go_sem] <;> omega) | fail) only [go_sem, h1]
    have h2 : ¬ s.size ≤ 128 := by omega
    simp [valueM, h2]
  have hs : s.size ≤ 128 := by omega
  have hsl : s.size ≤ 140737488355328 := by omega
  have hsz : s.data.toList.length = s.size := by simp
  simp (maxSteps := 200000) (disch := first | omega | (simp only [go_sem] <;> omega) | fail) only [go_sem, h1, hsl]
  refine WP_range 4 1 s.data.toList.length (fun i => S_87_4 (vS s) (.ptr 0 0) (.fs (ofBytes s) false) (vI s.data.toList.length) (vI i) [.var [vS d.name, vI d.kind, vI d.type, lS d.values, vB d.must, lS d.keys, lD d.kids]]) (fun i => ∀ j < i, 32 ≤ byteAt s j ∧ byteAt s j ≤ 126) rfl rfl ?_ ?_ ?_ ?_
  · simp (maxSteps := 200000) (disch := first | omega | (simp only [go_sem] <;> omega) | fail) only [go_sem]; rfl
  · simp
  · intro i h hI
    have hb := byte_get s i (by omega) h
    obtain ⟨x, hx⟩ : ∃ x : Int, byteAt s i = x := ⟨_, rfl⟩
    by_cases h2 : byteAt s i < 32
    · simp (maxSteps := 200000) (disch := first | omega | (simp only [go_sem] <;> omega) | fail) only [go_sem, nat_int, h, eB, hb, h2]
      have : ¬ allB 32 126 s := fun hh => by have := hh i (by omega); omega
      simp [valueM, this]
    · by_cases h3 : 126 < byteAt s i
      · simp (maxSteps := 200000) (disch := first | omega | (simp only [go_sem] <;> omega) | fail) only [go_sem, nat_int, h, eB, hb, h2, h3]
        have : ¬ allB 32 126 s := fun hh => by have := hh i (by omega); omega
        simp [valueM, this]
      · simp (maxSteps := 200000) (disch := first | omega | (simp only [go_sem] <;> omega) | fail) only [go_sem, nat_int, h, eB, hb, h2, h3, wrap_succ h (show s.data.toList.length ≤ 140737488355328 by omega)]
        intro j hj
        rcases Nat.lt_succ_iff_lt_or_eq.1 hj with hj | rfl
        · exact hI j hj
        · omega
  · intro hI
    have ha : allB 32 126 s := fun i hi => hI i (by omega)
    have hv : valueM d s = (if d.type = 1 then numT s else if d.type = 2 then decide (s = ⟨#[116, 114, 117, 101]⟩) || decide (s = ⟨#[102, 97, 108, 115, 101]⟩) else if d.type = 3 then has d.values s else true) := by
      simp [valueM, ha, hs]
    rw [hv]
    by_cases t1 : d.type = 1
    · rw [if_pos t1]
      have htp := trimPrefix_spec s
      obtain ⟨t, ht⟩ : ∃ t, sign s = t := ⟨_, rfl⟩
      rw [ht] at htp
      have htz : t.size ≤ 128 := by
        rw [← ht]; unfold sign; split
        · rw [ByteArray.size_extract]; omega
        · exact hs
      have hnum : numT s = (decide (1 ≤ t.size) && decide (t.size ≤ 18) && !(decide (byteAt t 0 = 48) && decide (s ≠ ⟨#[48]⟩)) && decide (allB 48 57 t)) := by simp only [numT, ht]
      rw [hnum]
      have htr := trim_spec t (by omega)
      have htd := trim_dig t
      by_cases q0 : t = ⟨#[]⟩
      · have q0s : ¬ 1 ≤ t.size := by rw [q0]; decide
        have q0' := eq_true q0
        simp (maxSteps := 200000) (disch := first | omega | (simp only [go_sem] <;> omega) | fail) only [go_sem, nat_int, t1, callA_pure mode_143, htp, q0', ne_eq, not_true]
        simp [q0s]
      have v1 : 1 ≤ t.size := by
        apply Nat.pos_of_ne_zero
        intro hh
        exact q0 (ByteArray.ext (Array.size_eq_zero_iff.1 hh))
      by_cases u2 : t.size ≤ 18
      case neg =>
        have u2' : ((t.size : Int) ≤ 18) = False := eq_false (by omega)
        simp (maxSteps := 200000) (disch := first | omega | (simp only [go_sem] <;> omega) | fail) only [go_sem, nat_int, t1, callA_pure mode_143, htp, q0, u2', ne_eq, not_false_eq_true]
        simp [u2]
      have u2' : ((t.size : Int) ≤ 18) = True := eq_true (by omega)
      by_cases u3 : allB 48 57 t
      case neg =>
        have htd' := htd.trans (eq_false u3)
        simp (maxSteps := 200000) (disch := first | omega | (simp only [go_sem] <;> omega) | fail) only [go_sem, nat_int, t1, callA_pure mode_143, htp, q0, u2', ne_eq, not_false_eq_true, callA_data mode_trim, htr, htd']
        simp [u3]
      have htd' := htd.trans (eq_true u3)
      by_cases u4 : byteAt t 0 = 48
      · have u4' := eq_true u4
        simp (maxSteps := 200000) (disch := first | omega | (simp only [go_sem] <;> omega) | fail) only [go_sem, nat_int, t1, callA_pure mode_143, htp, q0, u2', ne_eq, not_true, not_false_eq_true, callA_data mode_trim, htr, htd', u4', v1]
        simp [u2, v1, u3]
      · simp (maxSteps := 200000) (disch := first | omega | (simp only [go_sem] <;> omega) | fail) only [go_sem, nat_int, t1, callA_pure mode_143, htp, q0, u2', ne_eq, not_true, not_false_eq_true, callA_data mode_trim, htr, htd', u4, v1]
        simp [u2, v1, u3]
    · rw [if_neg t1]
      by_cases t2 : d.type = 2
      · have t2' := eq_true t2
        rw [if_pos t2]
        by_cases s1 : s = ⟨#[116, 114, 117, 101]⟩
        · have s1' := eq_true s1
          simp (maxSteps := 200000) (disch := first | omega | (simp only [go_sem] <;> omega) | fail) only [go_sem, nat_int, t1, t2', s1']
        · simp (maxSteps := 200000) (disch := first | omega | (simp only [go_sem] <;> omega) | fail) only [go_sem, nat_int, t1, t2', s1]
      · rw [if_neg t2]
        by_cases t3 : d.type = 3
        · have t3' := eq_true t3
          rw [if_pos t3]
          simp (maxSteps := 200000) (disch := first | omega | (simp only [go_sem] <;> omega) | fail) only [go_sem, nat_int, t1, t2, t3', callA_pure mode_117, contains_spec _ _ hd]
        · rw [if_neg t3]
          simp (maxSteps := 200000) (disch := first | omega | (simp only [go_sem] <;> omega) | fail) only [go_sem, nat_int, t1, t2, t3]
end Go.Abs.SA
end
section
namespace Go.Abs.SA
open Go.Proofs
mutual
def wkD : Def → Prop
  | .mk _ k _ _ _ ks kd => (k ≠ 2 → ks = []) ∧ wkDs kd
def wkDs : List Def → Prop
  | [] => True
  | d :: r => wkD d ∧ wkDs r
end
theorem wkD_s {d : Def} : wkD d ↔ (d.kind ≠ 2 → d.keys = []) ∧ wkDs d.kids := by cases d; rw [wkD]; rfl
theorem wkDs_mem : ∀ {l : List Def} {d : Def}, wkDs l → d ∈ l → wkD d
  | x :: r, d, h, hm => by
    rw [wkDs] at h
    rcases List.mem_cons.1 hm with rfl | hm
    · exact h.1
    · exact wkDs_mem h.2 hm
theorem wk_schema : wkDs schema := by
  simp [wkDs, wkD, schema, leafD, portD, sName]
theorem keyOf_nil {d : Def} {n : Node} (h : d.keys = []) : keyOf d n = some [] := by simp [keyOf, h]
theorem x13 (s : St) (k : Nat) (xs : List AV) (h : k ≠ 91) : callX XX (orW XX) s 51 k xs = callA XX (orW XX) s k xs := by
  rw [callX_if live_51, if_neg]
  simp
  intro hk
  exact absurd hk h
theorem modelRead_spec : ∀ (k : Nat) (l : List Def) (elems : List Elem), cntEs elems < k → k ≤ 100000 → okEs elems → wkDs l → l.length ≤ 1099511627776 → okDs l → pureW XX 51 [lD l, lE elems] = some (aRead (rdL l [] [] elems)) := by
  intro k
  induction k with
  | zero => intro l elems h; omega
  | succ k ih =>
    intro l elems hc hk hok hwk hl hod
    have hcnt := len_cntEs elems
    refine pureW_in 110 Tryz.func51 Tryz.ntmps51 (by simp) (rfl : Tryz.f51.body = some _) fns_51 ?_
    simp (maxSteps := 200000) (disch := first | omega | (simp only [go_sem] <;> omega) | fail) only [go_sem]
    refine WP_loopR 3 2 (fun (a : Nat × List Node × List Node) => S_51_3 (lD l) (.sl 0 0 a.2.1.length false) (.sl 1 0 a.2.2.length false) (lE elems) (vI elems.length) (vI a.1) [.arr 75 3 (a.2.1.map eNode), .arr 75 3 (a.2.2.map eNode)]) (fun a => elems.length - a.1) (fun a => a.1 ≤ elems.length ∧ a.2.1.length ≤ a.1 ∧ a.2.2.length ≤ a.1 ∧ (∀ x ∈ a.2.2, x.kids.length ≤ 100000) ∧ (∀ x ∈ a.2.1, x.kids.length ≤ 100000) ∧ rdL l [] [] elems = rdL l a.2.1 a.2.2 (elems.drop a.1)) (0, [], []) rfl rfl ?_ ?_ ?_
    · simp (maxSteps := 200000) (disch := first | omega | (simp only [go_sem] <;> omega) | fail) only [go_sem]; rfl
    · simp
    · rintro ⟨i, out, all⟩ ⟨hi, ho, ha, hka, hko, hr⟩
      simp only at hi ho ha hka hko hr
      by_cases h : i < elems.length
      case neg =>
        rw [List.drop_of_length_le (by omega), rdL_nil] at hr
        by_cases hb : (256 : Int) < (out.length : Int)
        · rw [if_pos (by omega)] at hr
          rw [hr]
          simp (maxSteps := 200000) (disch := first | omega | (simp only [go_sem] <;> omega) | fail) only [go_sem, nat_int, h, hb, x13]
          rfl
        · rw [if_neg (by omega)] at hr
          rw [hr]
          have hord : ∀ t, callX XX (orW XX) ⟨t, [.arr 75 3 (out.map eNode), .arr 75 3 (all.map eNode)]⟩ 51 91 [lD l, .sl 0 0 out.length false] = some (.st (.tup []) ⟨t, [.arr 75 3 ((order l out).map eNode), .arr 75 3 (all.map eNode), .var [lD l]]⟩) := by
            intro t
            have hms := modelOrder_spec l out [] out.length hl hod rfl (by omega) (fun x hx => by have := hko x hx; omega) (fun _ h => (List.not_mem_nil h).elim)
            rw [List.append_nil, List.append_nil] at hms
            exact callX_arrW (bs := [.var [lD l]]) 0 (by rw [live_51]; rfl) (by simp [AV.lts, AV.lt]) (by simp [idsOfs, idsOf]) rfl (by simp [order_len]) (by simp [idsOf, idsOfs]) (by intro b hb f; rw [List.mem_singleton.1 hb]; rfl) (by simpa [AV.rens, AV.ren, posOf] using hms)
          have hol := order_len l out
          simp (maxSteps := 200000) (disch := first | omega | (simp only [go_sem] <;> omega) | fail) only [go_sem, nat_int, h, hb, hord, hol]
          rfl
      have heo := okEs_mem hok (List.getElem_mem h)
      obtain ⟨b1, b2, b3, b4, b5, b6⟩ := okE_s heo
      have hkc := cntE_kids h
      have hlk := len_cntEs elems[i].kids
      have pl := find_spec l elems[i].name (by omega)
      rw [List.drop_eq_getElem_cons h, rdL_cons, rdE_s] at hr
      cases hp : place l elems[i].name with
      | none =>
        rw [hp] at pl hr
        simp only at hr
        have n1 : ((-1 : Int) < 0) = True := eq_true (by omega)
        rw [hr]
        simp (maxSteps := 200000) (disch := first | omega | (simp only [go_sem] <;> omega) | fail) only [go_sem, nat_int, h, eElem_s, x13, callA_pure mode_55, pl, posI, n1]
        rfl
      | some j =>
      rw [hp] at pl hr
      obtain ⟨hj, hjn⟩ := place_some hp
      have n1 : ((j : Int) < 0) = False := eq_false (by omega)
      obtain ⟨o1, o2, o3, o4⟩ := okD_s (okDs_mem hod (List.getElem_mem hj))
      have hwd := wkD_s.1 (wkDs_mem hwk (List.getElem_mem hj))
      simp only [List.getElem?_eq_getElem hj] at hr
      by_cases hk3 : l[j].kind = 3
      · have hk3' := eq_true hk3
        have hvs := modelValue_spec l[j] elems[i].text (by omega)
        rw [if_pos hk3] at hr
        by_cases hkk : (0 : Int) < (elems[i].kids.length : Int)
        · have : elems[i].kids ≠ [] := by intro hh; rw [hh] at hkk; simp at hkk
          rw [if_pos (.inl this)] at hr
          simp only at hr
          rw [hr]
          simp (maxSteps := 200000) (disch := first | omega | (simp only [go_sem] <;> omega) | fail) only [go_sem, nat_int, h, hj, eElem_s, eDef_s, x13, callA_pure mode_55, pl, posI, n1, hk3', hkk]
          rfl
        · have hkn : elems[i].kids = [] := List.eq_nil_iff_length_eq_zero.2 (by omega)
          cases hva : valueM l[j] elems[i].text with
          | false =>
            rw [if_pos (.inr hva)] at hr
            simp only at hr
            rw [hr]
            rw [hva] at hvs
            simp (maxSteps := 200000) (disch := first | omega | (simp only [go_sem] <;> omega) | fail) only [go_sem, nat_int, h, hj, eElem_s, eDef_s, x13, callA_pure mode_55, pl, posI, n1, hk3', hkk, callA_pure mode_87, hvs]
            rfl
          | true =>
            rw [if_neg (by simp [hkn, hva])] at hr
            simp only at hr
            rw [hva] at hvs
            have hn1 : (l[j].kind = 1) = False := eq_false (by omega)
            have hn2 : (l[j].kind = 2) = False := eq_false (by omega)
            have hss := modelSame_spec l[j] all (.mk elems[i].name elems[i].text []) o2 (by simp [Node.kids]) (by omega) (fun x hx => by have := hka x hx; omega)
            simp only [aNode, Node.name, Node.value, Node.kids, lN, List.map_nil] at hss
            cases hsa : sameAt l[j] all (.mk elems[i].name elems[i].text []) with
            | some q =>
              rw [hsa] at hss hr
              simp only [Option.isSome, if_true] at hr
              have n2 : (0 ≤ (q : Int)) = True := eq_true (by omega)
              rw [hr]
              simp (maxSteps := 200000) (disch := first | omega | (simp only [go_sem] <;> omega) | fail) only [go_sem, nat_int, h, hj, eElem_s, eDef_s, x13, callA_pure mode_55, pl, posI, n1, hk3', hkk, callA_pure mode_87, hvs, hn2, callA_pure mode_58, hss, n2]
              rfl
            | none =>
              rw [hsa] at hss hr
              simp only [Option.isSome] at hr
              rw [if_neg (by simp), if_pos (.inl (by omega))] at hr
              have n2 : (0 ≤ (-1 : Int)) = False := eq_false (by omega)
              simp (maxSteps := 200000) (disch := first | omega | (simp only [go_sem] <;> omega) | fail) only [go_sem, nat_int, h, hj, eElem_s, eDef_s, x13, callA_pure mode_55, pl, posI, n1, hk3', hkk, callA_pure mode_87, hvs, hn2, callA_pure mode_58, hss, n2, hn1, ne_eq, not_false_eq_true, wrap_succ h (show elems.length ≤ 140737488355328 by omega)]
              refine ⟨(i + 1, out ++ [.mk elems[i].name elems[i].text []], all ++ [.mk elems[i].name elems[i].text []]), by simp [eNode_s, Node.name, Node.value, Node.kids], ⟨by simp; omega, by simp; omega, by simp; omega, ?_, ?_, hr⟩, by simp; omega⟩
              · intro x hx
                rcases List.mem_append.1 hx with hx | hx
                · exact hka x hx
                · rw [List.mem_singleton.1 hx]; simp [Node.kids]
              · intro x hx
                rcases List.mem_append.1 hx with hx | hx
                · exact hko x hx
                · rw [List.mem_singleton.1 hx]; simp [Node.kids]
      · have hi2 := ih l[j].kids elems[i].kids (by omega) (by omega) b6 hwd.2 o3 o4
        rw [if_neg hk3] at hr
        by_cases q0 : elems[i].text = ⟨#[]⟩
        case neg =>
          rw [if_pos q0] at hr
          simp only at hr
          rw [hr]
          simp (maxSteps := 200000) (disch := first | omega | (simp only [go_sem] <;> omega) | fail) only [go_sem, nat_int, h, hj, eElem_s, eDef_s, x13, callA_pure mode_55, pl, posI, n1, hk3, q0, ne_eq, not_false_eq_true]
          rfl
        rw [if_neg (by simp [q0])] at hr
        have q1 := eq_true q0
        cases hrd : rdL l[j].kids [] [] elems[i].kids with
        | error x =>
          rw [hrd] at hi2 hr
          have hx := rdL_err _ _ _ _ _ hrd
          simp only at hr
          simp only [aRead] at hi2
          rw [hr]
          simp (maxSteps := 200000) (disch := first | omega | (simp only [go_sem] <;> omega) | fail) only [go_sem, nat_int, h, hj, eElem_s, eDef_s, x13, callA_pure mode_55, pl, posI, n1, hk3, q1, ne_eq, not_true, not_false_eq_true, x13, callA_data mode_51, hi2, hx]
          rfl
        | ok nodes =>
        rw [hrd] at hi2 hr
        have hnl := rdL_len _ _ _ _ _ hrd
        simp only at hr
        simp only [aRead] at hi2
        have hnk : (nodes.length : Nat) ≤ 100000 := by simp at hnl; omega
        have hks := modelKey_spec l[j] (.mk elems[i].name ⟨#[]⟩ nodes) o2 (by simp only [Node.kids]; omega)
        simp only [aNode, Node.name, Node.value, Node.kids] at hks
        by_cases hk2 : l[j].kind = 2
        · have hk2' := eq_true hk2
          have hk1 : ¬ l[j].kind = 1 := by omega
          have h21 : (l[j].kind = 1) = False := eq_false hk1
          have h23 : (l[j].kind = 3) = False := eq_false hk3
          cases hky : keyOf l[j] (.mk elems[i].name ⟨#[]⟩ nodes) with
          | none =>
            rw [hky] at hr hks
            simp only [Option.isSome, Bool.false_eq_true, if_false] at hr
            simp only [kO, Option.isSome, Option.getD_none] at hks
            rw [hr]
            simp (maxSteps := 200000) (disch := first | omega | (simp only [go_sem] <;> omega) | fail) only [go_sem, nat_int, h, hj, eElem_s, eDef_s, x13, callA_pure mode_55, pl, posI, n1, hk2', h23, q1, ne_eq, not_true, not_false_eq_true, callA_data mode_51, hi2, callA_data mode_56, hks]
            rfl
          | some ks =>
          rw [hky] at hr hks
          simp only [Option.isSome, if_true] at hr
          simp only [kO, Option.isSome, Option.getD_some] at hks
          have hss := modelSame_spec l[j] all (.mk elems[i].name ⟨#[]⟩ nodes) o2 (by simp only [Node.kids]; omega) (by omega) (fun x hx => by have := hka x hx; omega)
          simp only [aNode, Node.name, Node.value, Node.kids] at hss
          cases hsa : sameAt l[j] all (.mk elems[i].name ⟨#[]⟩ nodes) with
          | some q =>
            rw [hsa] at hss hr
            simp only [Option.isSome, if_true] at hr
            have n2 : (0 ≤ (q : Int)) = True := eq_true (by omega)
            rw [hr]
            simp (maxSteps := 200000) (disch := first | omega | (simp only [go_sem] <;> omega) | fail) only [go_sem, nat_int, h, hj, eElem_s, eDef_s, x13, callA_pure mode_55, pl, posI, n1, hk2', h23, q1, ne_eq, not_true, not_false_eq_true, callA_data mode_51, hi2, callA_data mode_56, hks, callA_pure mode_58, hss, n2]
            rfl
          | none =>
          rw [hsa] at hss hr
          simp only [Option.isSome] at hr
          rw [if_neg (by simp)] at hr
          have n2 : (0 ≤ (-1 : Int)) = False := eq_false (by omega)
          rw [if_pos (.inl hk1)] at hr
          simp (maxSteps := 200000) (disch := first | omega | (simp only [go_sem] <;> omega) | fail) only [go_sem, nat_int, h, hj, eElem_s, eDef_s, x13, callA_pure mode_55, pl, posI, n1, hk2', h21, h23, q1, ne_eq, not_true, not_false_eq_true, callA_data mode_51, hi2, callA_data mode_56, hks, callA_pure mode_58, hss, n2, wrap_succ h (show elems.length ≤ 140737488355328 by omega)]
          refine ⟨(i + 1, out ++ [.mk elems[i].name ⟨#[]⟩ nodes], all ++ [.mk elems[i].name ⟨#[]⟩ nodes]), by simp [eNode_s, Node.name, Node.value, Node.kids], ⟨by simp; omega, by simp; omega, by simp; omega, ?_, ?_, hr⟩, by simp; omega⟩
          · intro x hx
            rcases List.mem_append.1 hx with hx | hx
            · exact hka x hx
            · rw [List.mem_singleton.1 hx]; exact hnk
          · intro x hx
            rcases List.mem_append.1 hx with hx | hx
            · exact hko x hx
            · rw [List.mem_singleton.1 hx]; exact hnk
        rw [keyOf_nil (hwd.1 hk2)] at hr
        simp only [Option.isSome, if_true] at hr
        have hk2' := eq_false hk2
        have h12 : ((1 : Int) = 2) = False := eq_false (by omega)
        have h13 : ((1 : Int) = 3) = False := eq_false (by omega)
        have hss := modelSame_spec l[j] all (.mk elems[i].name ⟨#[]⟩ nodes) o2 (by simp only [Node.kids]; omega) (by omega) (fun x hx => by have := hka x hx; omega)
        simp only [aNode, Node.name, Node.value, Node.kids] at hss
        cases hsa : sameAt l[j] all (.mk elems[i].name ⟨#[]⟩ nodes) with
        | some q =>
          rw [hsa] at hss hr
          simp only [Option.isSome, if_true] at hr
          have n2 : (0 ≤ (q : Int)) = True := eq_true (by omega)
          rw [hr]
          simp (maxSteps := 200000) (disch := first | omega | (simp only [go_sem] <;> omega) | fail) only [go_sem, nat_int, h, hj, eElem_s, eDef_s, x13, callA_pure mode_55, pl, posI, n1, hk3, q1, ne_eq, not_true, not_false_eq_true, x13, callA_data mode_51, hi2, hk2', callA_pure mode_58, hss, n2]
          rfl
        | none =>
        rw [hsa] at hss hr
        simp only [Option.isSome] at hr
        rw [if_neg (by simp)] at hr
        have n2 : (0 ≤ (-1 : Int)) = False := eq_false (by omega)
        by_cases hk1 : l[j].kind = 1
        · have hk1' := eq_true hk1
          by_cases hn0 : (0 : Int) < (nodes.length : Int)
          · have : nodes ≠ [] := by intro hh; rw [hh] at hn0; simp at hn0
            rw [if_pos (.inr this)] at hr
            simp (maxSteps := 200000) (disch := first | omega | (simp only [go_sem] <;> omega) | fail) only [go_sem, nat_int, h, hj, eElem_s, eDef_s, x13, callA_pure mode_55, pl, posI, n1, hk3, q1, ne_eq, not_true, not_false_eq_true, x13, callA_data mode_51, hi2, hk2', callA_pure mode_58, hss, n2, hk1', hn0, wrap_succ h (show elems.length ≤ 140737488355328 by omega)]
            refine ⟨(i + 1, out ++ [.mk elems[i].name ⟨#[]⟩ nodes], all ++ [.mk elems[i].name ⟨#[]⟩ nodes]), by simp [eNode_s, Node.name, Node.value, Node.kids], ⟨by simp; omega, by simp; omega, by simp; omega, ?_, ?_, hr⟩, by simp; omega⟩
            · intro x hx
              rcases List.mem_append.1 hx with hx | hx
              · exact hka x hx
              · rw [List.mem_singleton.1 hx]; exact hnk
            · intro x hx
              rcases List.mem_append.1 hx with hx | hx
              · exact hko x hx
              · rw [List.mem_singleton.1 hx]; exact hnk
          · have : nodes = [] := List.eq_nil_iff_length_eq_zero.2 (by omega)
            rw [if_neg (by simp [hk1, Node.kids, this])] at hr
            simp (maxSteps := 200000) (disch := first | omega | (simp only [go_sem] <;> omega) | fail) only [go_sem, nat_int, h, hj, eElem_s, eDef_s, x13, callA_pure mode_55, pl, posI, n1, hk3, q1, ne_eq, not_true, not_false_eq_true, x13, callA_data mode_51, hi2, hk2', callA_pure mode_58, hss, n2, hk1', hn0, wrap_succ h (show elems.length ≤ 140737488355328 by omega)]
            refine ⟨(i + 1, out, all ++ [.mk elems[i].name ⟨#[]⟩ nodes]), by simp [eNode_s, Node.name, Node.value, Node.kids], ⟨by simp; omega, by simp; omega, by simp; omega, ?_, ?_, hr⟩, by simp; omega⟩
            · intro x hx
              rcases List.mem_append.1 hx with hx | hx
              · exact hka x hx
              · rw [List.mem_singleton.1 hx]; exact hnk
            · exact hko
        · rw [if_pos (.inl hk1)] at hr
          simp (maxSteps := 200000) (disch := first | omega | (simp only [go_sem] <;> omega) | fail) only [go_sem, nat_int, h, hj, eElem_s, eDef_s, x13, callA_pure mode_55, pl, posI, n1, hk3, q1, ne_eq, not_true, not_false_eq_true, x13, callA_data mode_51, hi2, hk2', callA_pure mode_58, hss, n2, hk1, wrap_succ h (show elems.length ≤ 140737488355328 by omega)]
          refine ⟨(i + 1, out ++ [.mk elems[i].name ⟨#[]⟩ nodes], all ++ [.mk elems[i].name ⟨#[]⟩ nodes]), by simp [eNode_s, Node.name, Node.value, Node.kids], ⟨by simp; omega, by simp; omega, by simp; omega, ?_, ?_, hr⟩, by simp; omega⟩
          · intro x hx
            rcases List.mem_append.1 hx with hx | hx
            · exact hka x hx
            · rw [List.mem_singleton.1 hx]; exact hnk
          · intro x hx
            rcases List.mem_append.1 hx with hx | hx
            · exact hko x hx
            · rw [List.mem_singleton.1 hx]; exact hnk
end Go.Abs.SA
end
