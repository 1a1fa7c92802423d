/- YtgpadcipdbifkaaA16: a part of the interpreter by which the claim is shown, and of the walks: no conditions of its own: every theorem states its own. -/
import Derived.Test.YtgpadcipdbifkaaA15
section
set_option linter.unusedVariables false
set_option linter.unusedSimpArgs false
set_option maxRecDepth 100000
set_option maxHeartbeats 8000000
set_option linter.unusedSimpArgs false
set_option linter.unusedVariables false
namespace Go.Abs.SA
open Go.Proofs

theorem within_spec : ∀ (n : Nat) (l : List Def) (a b : List Node), cntL a < n → okDs l → l.length ≤ 1099511627776 → cntL a ≤ 900000 → cntL b ≤ 900000 →
    pureW XX 33 [lD l, lN a, lN b] = some (vB (withinL l a b)) := by
  intro n
  induction n with
  | zero => intro l a b h; omega
  | succ n ih =>
    intro l a b hc hod hl hca hcb
    have hla := len_cnt a
    have hlb := len_cnt b
    refine pureW_in 59 Try.func33 Try.ntmps33 (by simp) (rfl : Try.f33.body = some _) fns_33 ?_
    simp (maxSteps := 200000) (disch := first | (simp only [go_sem, Nat.reduceAdd, Nat.reduceSub, Nat.reduceMul, Nat.reduceLeDiff, Nat.reduceEqDiff, Nat.reduceLT, Nat.reduceBEq, Nat.reduceBNe, Nat.reducePow, ↓reduceIte]; done) | omega | (simp only [go_sem, Nat.reduceAdd, Nat.reduceSub, Nat.reduceMul, Nat.reduceLeDiff, Nat.reduceEqDiff, Nat.reduceLT, Nat.reduceBEq, Nat.reduceBNe, Nat.reducePow, ↓reduceIte] <;> omega) | fail) only [go_sem, Nat.reduceAdd, Nat.reduceSub, Nat.reduceMul, Nat.reduceLeDiff, Nat.reduceEqDiff, Nat.reduceLT, Nat.reduceBEq, Nat.reduceBNe, Nat.reducePow, ↓reduceIte]
    refine WP_range 2 0 a.length (fun i => S_33_2 (lD l) (lN b) (lN a) (vI a.length) (vI i) []) (fun i => withinL l a b = withinL l (a.drop i) b) rfl rfl ?_ ?_ ?_ ?_
    · simp (maxSteps := 200000) (disch := first | (simp only [go_sem, Nat.reduceAdd, Nat.reduceSub, Nat.reduceMul, Nat.reduceLeDiff, Nat.reduceEqDiff, Nat.reduceLT, Nat.reduceBEq, Nat.reduceBNe, Nat.reducePow, ↓reduceIte]; done) | omega | (simp only [go_sem, Nat.reduceAdd, Nat.reduceSub, Nat.reduceMul, Nat.reduceLeDiff, Nat.reduceEqDiff, Nat.reduceLT, Nat.reduceBEq, Nat.reduceBNe, Nat.reducePow, ↓reduceIte] <;> omega) | fail) only [go_sem, Nat.reduceAdd, Nat.reduceSub, Nat.reduceMul, Nat.reduceLeDiff, Nat.reduceEqDiff, Nat.reduceLT, Nat.reduceBEq, Nat.reduceBNe, Nat.reducePow, ↓reduceIte]; rfl
    · simp
    · intro i h hI
      rw [List.drop_eq_getElem_cons h, withinL, withinN_s] at hI
      have pl := find_spec l a[i].name (by omega)
      have hws := wrap_succ h (show a.length ≤ 140737488355328 by omega)
      have n1 : ((-1 : Int) < 0) = True := eq_true (by omega)
      have hca2 := cnt_mem (List.getElem_mem h)
      have hak := cnt_kids h
      cases hp : place l a[i].name with
      | none =>
        rw [hp] at pl hI
        simp only [posI] at pl
        simp only [Bool.false_and] at hI
        simp (maxSteps := 200000) (disch := first | (simp only [go_sem, Nat.reduceAdd, Nat.reduceSub, Nat.reduceMul, Nat.reduceLeDiff, Nat.reduceEqDiff, Nat.reduceLT, Nat.reduceBEq, Nat.reduceBNe, Nat.reducePow, ↓reduceIte]; done) | omega | (simp only [go_sem, Nat.reduceAdd, Nat.reduceSub, Nat.reduceMul, Nat.reduceLeDiff, Nat.reduceEqDiff, Nat.reduceLT, Nat.reduceBEq, Nat.reduceBNe, Nat.reducePow, ↓reduceIte] <;> omega) | fail) only [go_sem, Nat.reduceAdd, Nat.reduceSub, Nat.reduceMul, Nat.reduceLeDiff, Nat.reduceEqDiff, Nat.reduceLT, Nat.reduceBEq, Nat.reduceBNe, Nat.reducePow, ↓reduceIte, nat_int, h, eNode_s, callA_pure mode_31, pl, n1]
        rw [hI]
      | some q =>
        obtain ⟨hq, hqn⟩ := place_some hp
        rw [hp] at pl hI
        simp only [posI] at pl
        simp only [List.getElem?_eq_getElem hq] at hI
        have n2 : ((q : Int) < 0) = False := eq_false (by omega)
        obtain ⟨o1, o2, o3, o4⟩ := okD_s (okDs_mem hod (List.getElem_mem hq))
        have hsm := modelSame_spec l[q] b a[i] o2 (by have := kids_le (List.getElem_mem h); omega) (by omega) (fun x hx => by have := kids_le hx; omega)
        cases hs : sameAt l[q] b a[i] with
        | none =>
          rw [hs] at hsm hI
          simp only [posI] at hsm
          simp only [Bool.false_and] at hI
          simp (maxSteps := 200000) (disch := first | (simp only [go_sem, Nat.reduceAdd, Nat.reduceSub, Nat.reduceMul, Nat.reduceLeDiff, Nat.reduceEqDiff, Nat.reduceLT, Nat.reduceBEq, Nat.reduceBNe, Nat.reducePow, ↓reduceIte]; done) | omega | (simp only [go_sem, Nat.reduceAdd, Nat.reduceSub, Nat.reduceMul, Nat.reduceLeDiff, Nat.reduceEqDiff, Nat.reduceLT, Nat.reduceBEq, Nat.reduceBNe, Nat.reducePow, ↓reduceIte] <;> omega) | fail) only [go_sem, Nat.reduceAdd, Nat.reduceSub, Nat.reduceMul, Nat.reduceLeDiff, Nat.reduceEqDiff, Nat.reduceLT, Nat.reduceBEq, Nat.reduceBNe, Nat.reducePow, ↓reduceIte, nat_int, h, hq, eNode_s, eDef_s, callA_pure mode_31, pl, n2, callA_pure mode_47, hsm, n1]
          rw [hI]
        | some j =>
          have hj := sameAt_lt hs
          rw [hs] at hsm hI
          simp only [posI] at hsm
          simp only [List.getElem?_eq_getElem hj] at hI
          have n3 : ((j : Int) < 0) = False := eq_false (by omega)
          by_cases hv : b[j].value = a[i].value
          case neg =>
            simp only [hv, decide_false, Bool.false_and] at hI
            simp (maxSteps := 200000) (disch := first | (simp only [go_sem, Nat.reduceAdd, Nat.reduceSub, Nat.reduceMul, Nat.reduceLeDiff, Nat.reduceEqDiff, Nat.reduceLT, Nat.reduceBEq, Nat.reduceBNe, Nat.reducePow, ↓reduceIte]; done) | omega | (simp only [go_sem, Nat.reduceAdd, Nat.reduceSub, Nat.reduceMul, Nat.reduceLeDiff, Nat.reduceEqDiff, Nat.reduceLT, Nat.reduceBEq, Nat.reduceBNe, Nat.reducePow, ↓reduceIte] <;> omega) | fail) only [go_sem, Nat.reduceAdd, Nat.reduceSub, Nat.reduceMul, Nat.reduceLeDiff, Nat.reduceEqDiff, Nat.reduceLT, Nat.reduceBEq, Nat.reduceBNe, Nat.reducePow, ↓reduceIte, nat_int, h, hq, hj, eNode_s, eDef_s, callA_pure mode_31, pl, n2, callA_pure mode_47, hsm, n3, ne_eq, hv, not_false_eq_true]
            rw [hI]
          have hv' := eq_true hv
          have hch := ih l[q].kids a[i].kids b[j].kids (by omega) o4 (by omega) (by omega) (by have := cnt_kids hj; omega)
          cases hw : withinL l[q].kids a[i].kids b[j].kids with
          | false =>
            rw [hw] at hch hI
            simp only [Bool.and_false, Bool.false_and] at hI
            simp (maxSteps := 200000) (disch := first | (simp only [go_sem, Nat.reduceAdd, Nat.reduceSub, Nat.reduceMul, Nat.reduceLeDiff, Nat.reduceEqDiff, Nat.reduceLT, Nat.reduceBEq, Nat.reduceBNe, Nat.reducePow, ↓reduceIte]; done) | omega | (simp only [go_sem, Nat.reduceAdd, Nat.reduceSub, Nat.reduceMul, Nat.reduceLeDiff, Nat.reduceEqDiff, Nat.reduceLT, Nat.reduceBEq, Nat.reduceBNe, Nat.reducePow, ↓reduceIte] <;> omega) | fail) only [go_sem, Nat.reduceAdd, Nat.reduceSub, Nat.reduceMul, Nat.reduceLeDiff, Nat.reduceEqDiff, Nat.reduceLT, Nat.reduceBEq, Nat.reduceBNe, Nat.reducePow, ↓reduceIte, nat_int, h, hq, hj, eNode_s, eDef_s, callA_pure mode_31, pl, n2, callA_pure mode_47, hsm, n3, ne_eq, hv', not_true, callA_pure mode_33, hch]
            rw [hI]
          | true =>
            rw [hw] at hch hI
            simp only [hv, decide_true, Bool.true_and, Bool.and_true] at hI
            simp (maxSteps := 200000) (disch := first | (simp only [go_sem, Nat.reduceAdd, Nat.reduceSub, Nat.reduceMul, Nat.reduceLeDiff, Nat.reduceEqDiff, Nat.reduceLT, Nat.reduceBEq, Nat.reduceBNe, Nat.reducePow, ↓reduceIte]; done) | omega | (simp only [go_sem, Nat.reduceAdd, Nat.reduceSub, Nat.reduceMul, Nat.reduceLeDiff, Nat.reduceEqDiff, Nat.reduceLT, Nat.reduceBEq, Nat.reduceBNe, Nat.reducePow, ↓reduceIte] <;> omega) | fail) only [go_sem, Nat.reduceAdd, Nat.reduceSub, Nat.reduceMul, Nat.reduceLeDiff, Nat.reduceEqDiff, Nat.reduceLT, Nat.reduceBEq, Nat.reduceBNe, Nat.reducePow, ↓reduceIte, nat_int, h, hq, hj, eNode_s, eDef_s, callA_pure mode_31, pl, n2, callA_pure mode_47, hsm, n3, ne_eq, hv', not_true, callA_pure mode_33, hch, hws]
            rw [gcK_mkT (by simp only [go_sem, Nat.reduceAdd, Nat.reduceSub, Nat.reduceMul, Nat.reduceLeDiff, Nat.reduceEqDiff, Nat.reduceLT, Nat.reduceBEq, Nat.reduceBNe, Nat.reducePow, ↓reduceIte]) (by simp only [go_sem, Nat.reduceAdd, Nat.reduceSub, Nat.reduceMul, Nat.reduceLeDiff, Nat.reduceEqDiff, Nat.reduceLT, Nat.reduceBEq, Nat.reduceBNe, Nat.reducePow, ↓reduceIte])]
            exact ⟨rfl, hI⟩
    · intro hI
      rw [List.drop_length, withinL] at hI
      rw [hI]
      simp (maxSteps := 200000) (disch := first | (simp only [go_sem, Nat.reduceAdd, Nat.reduceSub, Nat.reduceMul, Nat.reduceLeDiff, Nat.reduceEqDiff, Nat.reduceLT, Nat.reduceBEq, Nat.reduceBNe, Nat.reducePow, ↓reduceIte]; done) | omega | (simp only [go_sem, Nat.reduceAdd, Nat.reduceSub, Nat.reduceMul, Nat.reduceLeDiff, Nat.reduceEqDiff, Nat.reduceLT, Nat.reduceBEq, Nat.reduceBNe, Nat.reducePow, ↓reduceIte] <;> omega) | fail) only [go_sem, Nat.reduceAdd, Nat.reduceSub, Nat.reduceMul, Nat.reduceLeDiff, Nat.reduceEqDiff, Nat.reduceLT, Nat.reduceBEq, Nat.reduceBNe, Nat.reducePow, ↓reduceIte, nat_int]
end Go.Abs.SA
end

section
set_option linter.unusedVariables false
set_option linter.unusedSimpArgs false
set_option maxRecDepth 100000
set_option maxHeartbeats 8000000
set_option linter.unusedSimpArgs false
set_option linter.unusedVariables false
namespace Go.Abs.SA
open Go.Proofs

theorem cutL_cnt : ∀ (f : Nat) (k : List Pk) (s : List Node), cntL s < f → cntL (cutL k s) ≤ cntL s := by
  intro f
  induction f with
  | zero => intro k s h; omega
  | succ f ih =>
    intro k s
    induction s generalizing k with
    | nil => intro _; cases k <;> simp [cutL, cntL]
    | cons x r ih2 =>
      intro hh
      cases k with
      | nil => simp [cutL, cntL]
      | cons p k =>
        rw [cutL, cntL_app, cntL_cons]
        rw [cntL_cons, cntN_s] at hh
        have h1 := ih2 k (by omega)
        have h2 : cntL (cutN p x) ≤ cntN x := by
          cases p with
          | nil => rw [cutN]; simp [cntL]
          | mk a c =>
            rw [cutN]
            cases a with
            | true => simp [cntL]
            | false =>
              have := ih c x.kids (by omega)
              rw [cntN_s x]
              simp only [Bool.false_eq_true, if_false, cntL, cntN]
              omega
        omega
theorem sieve_cnt (l : List Def) (n : List Node) (fs : List Elem) : cntL (sieveF l n fs) ≤ cntL n := cutL_cnt (cntL n + 1) _ _ (by omega)
theorem cntEs_app (a b : List Elem) : cntEs (a ++ b) = cntEs a + cntEs b := by
  induction a with
  | nil => simp [cntEs]
  | cons x r ih => rw [List.cons_append, cntEs, cntEs, ih]; omega
theorem joins_law (elems a b : List Elem) (hok : okEs elems) (hl : elems.length ≤ 140737488355328) (hoka : okEs a) (hla : a.length ≤ 140737488355328) (hokb : okEs b) (hlb : b.length ≤ 140737488355328) :
    pureW XX 11 [lE elems, lE a, lE b] = some (vB true) := by
  refine pureW_in 92 Try.func11 Try.ntmps11 (by simp) (rfl : Try.f11.body = some _) fns_11 ?_
  have ht := tree16_spec elems hok hl
  cases htr : tree elems with
  | none =>
    simp only [aTree, htr, Option.isSome, Option.getD_none] at ht
    simp (maxSteps := 200000) (disch := first | (simp only [go_sem, Nat.reduceAdd, Nat.reduceSub, Nat.reduceMul, Nat.reduceLeDiff, Nat.reduceEqDiff, Nat.reduceLT, Nat.reduceBEq, Nat.reduceBNe, Nat.reducePow, ↓reduceIte]; done) | omega | (simp only [go_sem, Nat.reduceAdd, Nat.reduceSub, Nat.reduceMul, Nat.reduceLeDiff, Nat.reduceEqDiff, Nat.reduceLT, Nat.reduceBEq, Nat.reduceBNe, Nat.reducePow, ↓reduceIte] <;> omega) | fail) only [go_sem, Nat.reduceAdd, Nat.reduceSub, Nat.reduceMul, Nat.reduceLeDiff, Nat.reduceEqDiff, Nat.reduceLT, Nat.reduceBEq, Nat.reduceBNe, Nat.reducePow, ↓reduceIte, callA_pure mode_22, fit16_spec, callA_data mode_23, ht]
  | some n =>
  simp only [aTree, htr, Option.isSome, Option.getD_some] at ht
  obtain ⟨-, -, hn⟩ := tree_some htr
  have hsa := small_spec (cntEs a + 1) a 200 (by omega) hoka hla (by omega) (by omega)
  by_cases ha : smallL 200 a < 0
  · simp (maxSteps := 200000) (disch := first | (simp only [go_sem, Nat.reduceAdd, Nat.reduceSub, Nat.reduceMul, Nat.reduceLeDiff, Nat.reduceEqDiff, Nat.reduceLT, Nat.reduceBEq, Nat.reduceBNe, Nat.reducePow, ↓reduceIte]; done) | omega | (simp only [go_sem, Nat.reduceAdd, Nat.reduceSub, Nat.reduceMul, Nat.reduceLeDiff, Nat.reduceEqDiff, Nat.reduceLT, Nat.reduceBEq, Nat.reduceBNe, Nat.reducePow, ↓reduceIte] <;> omega) | fail) only [go_sem, Nat.reduceAdd, Nat.reduceSub, Nat.reduceMul, Nat.reduceLeDiff, Nat.reduceEqDiff, Nat.reduceLT, Nat.reduceBEq, Nat.reduceBNe, Nat.reducePow, ↓reduceIte, callA_pure mode_22, fit16_spec, callA_data mode_23, ht, callA_pure mode_24, hsa, ha]
  have hsb := small_spec (cntEs b + 1) b 200 (by omega) hokb hlb (by omega) (by omega)
  by_cases hb : smallL 200 b < 0
  · simp (maxSteps := 200000) (disch := first | (simp only [go_sem, Nat.reduceAdd, Nat.reduceSub, Nat.reduceMul, Nat.reduceLeDiff, Nat.reduceEqDiff, Nat.reduceLT, Nat.reduceBEq, Nat.reduceBNe, Nat.reducePow, ↓reduceIte]; done) | omega | (simp only [go_sem, Nat.reduceAdd, Nat.reduceSub, Nat.reduceMul, Nat.reduceLeDiff, Nat.reduceEqDiff, Nat.reduceLT, Nat.reduceBEq, Nat.reduceBNe, Nat.reducePow, ↓reduceIte] <;> omega) | fail) only [go_sem, Nat.reduceAdd, Nat.reduceSub, Nat.reduceMul, Nat.reduceLeDiff, Nat.reduceEqDiff, Nat.reduceLT, Nat.reduceBEq, Nat.reduceBNe, Nat.reducePow, ↓reduceIte, callA_pure mode_22, fit16_spec, callA_data mode_23, ht, callA_pure mode_24, hsa, ha, hsb, hb]
  have hca := smallL_cnt a 200 (by omega)
  have hcb := smallL_cnt b 200 (by omega)
  have ha2 := len_cntEs a
  have hb2 := len_cntEs b
  have h1 := filter_spec schema n a okDs_schema (by decide) (by omega) (by omega)
  have h2 := filter_spec schema n b okDs_schema (by decide) (by omega) (by omega)
  have h3 := filter_spec schema n (a ++ b) okDs_schema (by decide) (by omega) (by rw [cntEs_app]; omega)
  have h4 := filter_spec schema n (b ++ a) okDs_schema (by decide) (by omega) (by rw [cntEs_app]; omega)
  have h5 := filter_spec schema n (a ++ a) okDs_schema (by decide) (by omega) (by rw [cntEs_app]; omega)
  have hw1 := sieve_within (a := a) (b := b) wf_schema (tree_good htr) (tree_nd htr).1 (tree_nd htr).2
  have hw2 := sieve_within (a := b) (b := a) wf_schema (tree_good htr) (tree_nd htr).1 (tree_nd htr).2
  have hlen := sieve_len schema n a b
  rw [sieve_comm schema n b a] at h4 hw2
  rw [sieve_twice] at h5
  have c1 := sieve_cnt schema n a
  have c2 := sieve_cnt schema n b
  have c3 := sieve_cnt schema n (a ++ b)
  have l1 := len_cnt (sieveF schema n a)
  have l2 := len_cnt (sieveF schema n b)
  generalize sieveF schema n (a ++ b) = J at *
  generalize sieveF schema n a = A at *
  generalize sieveF schema n b = B at *
  have w1 := within_spec (cntL A + 1) schema A J (by omega) okDs_schema (by decide) (by omega) (by omega)
  have w2 := within_spec (cntL B + 1) schema B J (by omega) okDs_schema (by decide) (by omega) (by omega)
  rw [hw1] at w1
  rw [hw2] at w2
  have e1 := modelEqual_spec (cntL J + 1) J J (by omega) (by omega)
  have e2 := modelEqual_spec (cntL A + 1) A A (by omega) (by omega)
  rw [decide_eq_true rfl] at e1 e2
  have hadd : IntKind.i64.wrap ((A.length : Int) + (B.length : Int)) = (A.length : Int) + (B.length : Int) := IntWalk.i64_in _ (by omega)
  have hle : ((J.length : Int) ≤ (A.length : Int) + (B.length : Int)) = True := eq_true (by omega)
  simp only [lE, List.map_append] at h3 h4 h5
  simp (maxSteps := 200000) (disch := first | (simp only [go_sem, Nat.reduceAdd, Nat.reduceSub, Nat.reduceMul, Nat.reduceLeDiff, Nat.reduceEqDiff, Nat.reduceLT, Nat.reduceBEq, Nat.reduceBNe, Nat.reducePow, ↓reduceIte]; done) | omega | (simp only [go_sem, Nat.reduceAdd, Nat.reduceSub, Nat.reduceMul, Nat.reduceLeDiff, Nat.reduceEqDiff, Nat.reduceLT, Nat.reduceBEq, Nat.reduceBNe, Nat.reducePow, ↓reduceIte] <;> omega) | fail) only [go_sem, Nat.reduceAdd, Nat.reduceSub, Nat.reduceMul, Nat.reduceLeDiff, Nat.reduceEqDiff, Nat.reduceLT, Nat.reduceBEq, Nat.reduceBNe, Nat.reducePow, ↓reduceIte, callA_pure mode_22, fit16_spec, callA_data mode_23, ht, callA_pure mode_24, hsa, ha, hsb, hb, callA_data mode_25, schema_spec, callA_data mode_26, h1, h2, h3, h4, h5, callA_pure mode_33, w1, w2, callA_pure mode_21, e1, e2, hadd, hle]
end Go.Abs.SA
end

section
set_option linter.unusedVariables false
set_option linter.unusedSimpArgs false
set_option maxRecDepth 100000
set_option maxHeartbeats 8000000
set_option linter.unusedSimpArgs false
set_option linter.unusedVariables false
namespace Go.Abs.SA
open Go.Proofs

theorem and1 (a : Int) : bitI .and .i64 a 1 = 0 ∨ bitI .and .i64 a 1 = 1 := by
  have h : (BitVec.ofInt 64 a &&& BitVec.ofInt 64 1).toNat = (BitVec.ofInt 64 a).toNat % 2 := by
    rw [BitVec.toNat_and]; exact Nat.and_one_is_mod _
  have hb : bitI .and .i64 a 1 = IntKind.i64.wrap (((BitVec.ofInt 64 a &&& BitVec.ofInt 64 1).toNat : Nat) : Int) := rfl
  rw [hb, h]
  have h2 : (BitVec.ofInt 64 a).toNat % 2 < 2 := Nat.mod_lt _ (by omega)
  rw [IntWalk.i64_in _ (by omega)]
  omega
def askK (x : Node) (k : Str) : Elem := .mk ⟨#[]⟩ k [] (kv x k) []
theorem byKeys_s (d : Def) (x : Node) : byKeys d x = d.keys.map (askK x) := rfl
def sV : Str := ⟨#[118]⟩
def sArea : Str := ⟨#[97, 114, 101, 97]⟩
def sPort : Str := ⟨#[112, 111, 114, 116]⟩
def sSpeed : Str := ⟨#[115, 112, 101, 101, 100]⟩
def sOn : Str := ⟨#[111, 110]⟩
def filterE (s : Str) : List Elem := [eK sPair [eT sV ⟨#[]⟩], eK sArea [eK sPort [eT s ⟨#[]⟩]]]
theorem snocAsk (x : Node) (ks : List Str) {j : Nat} (h : j < ks.length) : ((ks.take j).map (askK x)).map eElem ++ [[vS ⟨#[]⟩, vS ks[j], .fs [] false, vS (kv x ks[j]), .fs [] false]] = ((ks.take (j + 1)).map (askK x)).map eElem := by
  rw [List.take_succ_eq_append_getElem h, List.map_append, List.map_append]
  congr 1
theorem cnt_ask (d : Def) (x : Node) : cntEs [askE d x] = d.keys.length + 1 := by
  have : ∀ l : List Str, cntEs (l.map (askK x)) = l.length := by
    intro l
    induction l with
    | nil => rfl
    | cons k r ih => rw [List.map_cons, cntEs, ih]; simp [askK, cntE, cntEs]; omega
  have h := this d.keys
  simp [cntEs, cntE, askE, byKeys_s, h]
  omega
theorem idxK2_two0 (h : List Blk) (a b : List AV) (fl : Bool) (k : IntKind) (d : TD) (n c : Nat) (z : Option Value) (h1 : a.length = n) (h2 : 0 < n) : idxK2 h (.fs [a, b] fl) (.v (.int k 0)) (some ⟨d, n, c, z⟩) = some (.fp a) := by
  simp [idxK2, h1, h2]
theorem idxK2_two1 (h : List Blk) (a b : List AV) (fl : Bool) (k : IntKind) (d : TD) (n c : Nat) (z : Option Value) (h1 : b.length = n) (h2 : 0 < n) : idxK2 h (.fs [a, b] fl) (.v (.int k 1)) (some ⟨d, n, c, z⟩) = some (.fp b) := by
  simp [idxK2, h1, h2]
theorem keys_few : ∀ d ∈ schema, d.keys.length ≤ 2 := by decide
theorem keys_law (elems : List Elem) (at_ : Int) (hok : okEs elems) (hl : elems.length ≤ 140737488355328) : pureW XX 10 [lE elems, vI at_] = some (vB true) := by
  refine pureW_in 129 Try.func10 Try.ntmps10 (by simp) (rfl : Try.f10.body = some _) fns_10 ?_
  have ht := tree16_spec elems hok hl
  cases htr : tree elems with
  | none =>
    simp only [aTree, htr, Option.isSome, Option.getD_none] at ht
    simp (maxSteps := 200000) (disch := first | (simp only [go_sem, Nat.reduceAdd, Nat.reduceSub, Nat.reduceMul, Nat.reduceLeDiff, Nat.reduceEqDiff, Nat.reduceLT, Nat.reduceBEq, Nat.reduceBNe, Nat.reducePow, ↓reduceIte]; done) | omega | (simp only [go_sem, Nat.reduceAdd, Nat.reduceSub, Nat.reduceMul, Nat.reduceLeDiff, Nat.reduceEqDiff, Nat.reduceLT, Nat.reduceBEq, Nat.reduceBNe, Nat.reducePow, ↓reduceIte] <;> omega) | fail) only [go_sem, Nat.reduceAdd, Nat.reduceSub, Nat.reduceMul, Nat.reduceLeDiff, Nat.reduceEqDiff, Nat.reduceLT, Nat.reduceBEq, Nat.reduceBNe, Nat.reducePow, ↓reduceIte, callA_pure mode_22, fit16_spec, callA_data mode_23, ht]
  | some n =>
  simp only [aTree, htr, Option.isSome, Option.getD_some] at ht
  obtain ⟨-, -, hn⟩ := tree_some htr
  have hln := len_cnt n
  simp (maxSteps := 200000) (disch := first | (simp only [go_sem, Nat.reduceAdd, Nat.reduceSub, Nat.reduceMul, Nat.reduceLeDiff, Nat.reduceEqDiff, Nat.reduceLT, Nat.reduceBEq, Nat.reduceBNe, Nat.reducePow, ↓reduceIte]; done) | omega | (simp only [go_sem, Nat.reduceAdd, Nat.reduceSub, Nat.reduceMul, Nat.reduceLeDiff, Nat.reduceEqDiff, Nat.reduceLT, Nat.reduceBEq, Nat.reduceBNe, Nat.reducePow, ↓reduceIte] <;> omega) | fail) only [go_sem, Nat.reduceAdd, Nat.reduceSub, Nat.reduceMul, Nat.reduceLeDiff, Nat.reduceEqDiff, Nat.reduceLT, Nat.reduceBEq, Nat.reduceBNe, Nat.reducePow, ↓reduceIte, callA_pure mode_22, fit16_spec, callA_data mode_23, ht, callA_data mode_25, schema_spec]
  refine WP_range 8 0 n.length (fun i => S_10_8 (vI at_) (lN n) (lD schema) (lN n) (vI n.length) (vI i) []) (fun _ => True) rfl rfl ?_ ?_ ?_ ?_
  · simp (maxSteps := 200000) (disch := first | (simp only [go_sem, Nat.reduceAdd, Nat.reduceSub, Nat.reduceMul, Nat.reduceLeDiff, Nat.reduceEqDiff, Nat.reduceLT, Nat.reduceBEq, Nat.reduceBNe, Nat.reducePow, ↓reduceIte]; done) | omega | (simp only [go_sem, Nat.reduceAdd, Nat.reduceSub, Nat.reduceMul, Nat.reduceLeDiff, Nat.reduceEqDiff, Nat.reduceLT, Nat.reduceBEq, Nat.reduceBNe, Nat.reducePow, ↓reduceIte] <;> omega) | fail) only [go_sem, Nat.reduceAdd, Nat.reduceSub, Nat.reduceMul, Nat.reduceLeDiff, Nat.reduceEqDiff, Nat.reduceLT, Nat.reduceBEq, Nat.reduceBNe, Nat.reducePow, ↓reduceIte]; rfl
  · trivial
  · intro i h _
    obtain ⟨d, hd, he⟩ := tree_place htr n[i] (List.getElem_mem h)
    obtain ⟨q, hq1, hq2⟩ := place_of wf_schema hd he
    obtain ⟨hq, hqn⟩ := place_some hq1
    rw [List.getElem?_eq_getElem hq] at hq2
    have pl := find_spec schema n[i].name (by decide)
    rw [hq1] at pl
    simp only [posI] at pl
    cases hq2
    have hws := wrap_succ h (show n.length ≤ 140737488355328 by omega)
    obtain ⟨o1, o2, o3, o4⟩ := okD_s (okDs_mem okDs_schema (List.getElem_mem hq))
    have hak := cnt_kids h
    by_cases h2 : schema[q].kind = 2
    case neg =>
      simp (maxSteps := 200000) (disch := first | (simp only [go_sem, Nat.reduceAdd, Nat.reduceSub, Nat.reduceMul, Nat.reduceLeDiff, Nat.reduceEqDiff, Nat.reduceLT, Nat.reduceBEq, Nat.reduceBNe, Nat.reducePow, ↓reduceIte]; done) | omega | (simp only [go_sem, Nat.reduceAdd, Nat.reduceSub, Nat.reduceMul, Nat.reduceLeDiff, Nat.reduceEqDiff, Nat.reduceLT, Nat.reduceBEq, Nat.reduceBNe, Nat.reducePow, ↓reduceIte] <;> omega) | fail) only [go_sem, Nat.reduceAdd, Nat.reduceSub, Nat.reduceMul, Nat.reduceLeDiff, Nat.reduceEqDiff, Nat.reduceLT, Nat.reduceBEq, Nat.reduceBNe, Nat.reducePow, ↓reduceIte, nat_int, h, hq, eNode_s, eDef_s, callA_pure mode_31, pl, ne_eq, h2, not_false_eq_true, hws]
      rw [gcK_mkT (by simp only [go_sem, Nat.reduceAdd, Nat.reduceSub, Nat.reduceMul, Nat.reduceLeDiff, Nat.reduceEqDiff, Nat.reduceLT, Nat.reduceBEq, Nat.reduceBNe, Nat.reducePow, ↓reduceIte]) (by simp only [go_sem, Nat.reduceAdd, Nat.reduceSub, Nat.reduceMul, Nat.reduceLeDiff, Nat.reduceEqDiff, Nat.reduceLT, Nat.reduceBEq, Nat.reduceBNe, Nat.reducePow, ↓reduceIte])]
      rfl
    have h2' := eq_true h2
    have hs := tree_key htr n[i] (List.getElem_mem h) _ hd he (by rw [h2]; decide)
    obtain ⟨hko, hlv⟩ := keyOf_kv hs
    have mk := modelKey_spec schema[q] n[i] o2 (by have := len_cnt n[i].kids; omega)
    rw [hko] at mk
    simp only [kO, Option.getD_some, Option.isSome_some] at mk
    have hkl : (schema[q].keys.map (kv n[i])).length = schema[q].keys.length := by simp
    have hkg : ∀ (j : Nat) (hj : j < schema[q].keys.length) (h' : j < (schema[q].keys.map (kv n[i])).length), (schema[q].keys.map (kv n[i]))[j] = kv n[i] schema[q].keys[j] := by intro j hj h'; simp
    have hkf := keys_few _ hd
    have hkk := keys_schema _ hd h2
    have hask := fun hne => ask_whole wf_schema (tree_good htr) (tree_nd htr).1 (List.getElem_mem h) hd he h2 hkk hs hne
    generalize schema[q].keys.map (kv n[i]) = vs at *
    simp (maxSteps := 200000) (disch := first | (simp only [go_sem, Nat.reduceAdd, Nat.reduceSub, Nat.reduceMul, Nat.reduceLeDiff, Nat.reduceEqDiff, Nat.reduceLT, Nat.reduceBEq, Nat.reduceBNe, Nat.reducePow, ↓reduceIte]; done) | omega | (simp only [go_sem, Nat.reduceAdd, Nat.reduceSub, Nat.reduceMul, Nat.reduceLeDiff, Nat.reduceEqDiff, Nat.reduceLT, Nat.reduceBEq, Nat.reduceBNe, Nat.reducePow, ↓reduceIte] <;> omega) | fail) only [go_sem, Nat.reduceAdd, Nat.reduceSub, Nat.reduceMul, Nat.reduceLeDiff, Nat.reduceEqDiff, Nat.reduceLT, Nat.reduceBEq, Nat.reduceBNe, Nat.reducePow, ↓reduceIte, nat_int, h, hq, eNode_s, eDef_s, callA_pure mode_31, pl, ne_eq, h2', not_true, callA_data mode_32, mk]
    refine WP_range 15 3 schema[q].keys.length (fun j => S_10_15 (vI at_) (lN n) (lD schema) (.ptr 0 0) (lS vs) (.sl 2 0 (((schema[q].keys.take j).map (askK n[i]))).length false) (lN n) (vI n.length) (vI i) (lS schema[q].keys) (vI schema[q].keys.length) (vI j) [.var [vS n[i].name, vS n[i].value, lN n[i].kids], .var [vS schema[q].name, vI schema[q].kind, vI schema[q].type, lS schema[q].values, vB schema[q].must, lS schema[q].keys, lD schema[q].kids], .arr 57 5 (((schema[q].keys.take j).map (askK n[i])).map eElem)]) (fun j => ∀ k ∈ schema[q].keys.take j, kv n[i] k ≠ ⟨#[]⟩) rfl rfl ?_ ?_ ?_ ?_
    · simp (maxSteps := 200000) (disch := first | (simp only [go_sem, Nat.reduceAdd, Nat.reduceSub, Nat.reduceMul, Nat.reduceLeDiff, Nat.reduceEqDiff, Nat.reduceLT, Nat.reduceBEq, Nat.reduceBNe, Nat.reducePow, ↓reduceIte]; done) | omega | (simp only [go_sem, Nat.reduceAdd, Nat.reduceSub, Nat.reduceMul, Nat.reduceLeDiff, Nat.reduceEqDiff, Nat.reduceLT, Nat.reduceBEq, Nat.reduceBNe, Nat.reducePow, ↓reduceIte] <;> omega) | fail) only [go_sem, Nat.reduceAdd, Nat.reduceSub, Nat.reduceMul, Nat.reduceLeDiff, Nat.reduceEqDiff, Nat.reduceLT, Nat.reduceBEq, Nat.reduceBNe, Nat.reducePow, ↓reduceIte]; rfl
    · simp
    · intro j hj hI
      have hjv : j < vs.length := by omega
      have hv := hkg j hj hjv
      have hws2 := wrap_succ hj (show schema[q].keys.length ≤ 140737488355328 by omega)
      have hsn := snocAsk n[i] schema[q].keys hj
      have hbl : ((schema[q].keys.take j).map (askK n[i])).length = j := by rw [List.length_map, List.length_take]; omega
      have hbl2 : ((schema[q].keys.take (j + 1)).map (askK n[i])).length = j + 1 := by rw [List.length_map, List.length_take]; omega
      rw [hbl2, ← hsn]
      generalize (schema[q].keys.take j).map (askK n[i]) = base at *
      by_cases h0 : kv n[i] schema[q].keys[j] = ⟨#[]⟩
      · rw [h0] at hv
        simp (maxSteps := 200000) (disch := first | (simp only [go_sem, Nat.reduceAdd, Nat.reduceSub, Nat.reduceMul, Nat.reduceLeDiff, Nat.reduceEqDiff, Nat.reduceLT, Nat.reduceBEq, Nat.reduceBNe, Nat.reducePow, ↓reduceIte]; done) | omega | (simp only [go_sem, Nat.reduceAdd, Nat.reduceSub, Nat.reduceMul, Nat.reduceLeDiff, Nat.reduceEqDiff, Nat.reduceLT, Nat.reduceBEq, Nat.reduceBNe, Nat.reducePow, ↓reduceIte] <;> omega) | fail) only [go_sem, Nat.reduceAdd, Nat.reduceSub, Nat.reduceMul, Nat.reduceLeDiff, Nat.reduceEqDiff, Nat.reduceLT, Nat.reduceBEq, Nat.reduceBNe, Nat.reducePow, ↓reduceIte, nat_int, hj, hjv, hv]
      · simp (maxSteps := 200000) (disch := first | (simp only [go_sem, Nat.reduceAdd, Nat.reduceSub, Nat.reduceMul, Nat.reduceLeDiff, Nat.reduceEqDiff, Nat.reduceLT, Nat.reduceBEq, Nat.reduceBNe, Nat.reducePow, ↓reduceIte]; done) | omega | (simp only [go_sem, Nat.reduceAdd, Nat.reduceSub, Nat.reduceMul, Nat.reduceLeDiff, Nat.reduceEqDiff, Nat.reduceLT, Nat.reduceBEq, Nat.reduceBNe, Nat.reducePow, ↓reduceIte] <;> omega) | fail) only [go_sem, Nat.reduceAdd, Nat.reduceSub, Nat.reduceMul, Nat.reduceLeDiff, Nat.reduceEqDiff, Nat.reduceLT, Nat.reduceBEq, Nat.reduceBNe, Nat.reducePow, ↓reduceIte, nat_int, hj, hjv, hv, h0, hbl, hws2]
        intro k hk
        rw [List.take_succ_eq_append_getElem hj, List.mem_append, List.mem_singleton] at hk
        rcases hk with hk | rfl
        · exact hI k hk
        · exact h0
    · intro hI
      rw [List.take_length] at hI
      have hf := filter_spec schema n [askE schema[q] n[i]] okDs_schema (by decide) (by omega) (by rw [cnt_ask]; omega)
      have hfe : lE [askE schema[q] n[i]] = .fs [[vS ⟨#[]⟩, vS n[i].name, .fs [] false, vS ⟨#[]⟩, .fs ((schema[q].keys.map (askK n[i])).map eElem) false]] false := by
        simp only [lE, List.map_cons, List.map_nil, eElem_s]; rfl
      rw [hask hI, hfe] at hf
      have heq := modelEqual_spec 1000 [n[i]] [n[i]] (by have := cnt_mem (List.getElem_mem h); simp only [cntL]; omega) (by omega)
      rw [decide_eq_true rfl] at heq
      simp only [lE, List.map_cons, List.map_nil, eElem_s, lN, eNode_s] at hf heq
      rw [List.take_length]
      generalize hb : schema[q].keys.map (askK n[i]) = base at *
      simp (maxSteps := 200000) (disch := first | (simp only [go_sem, Nat.reduceAdd, Nat.reduceSub, Nat.reduceMul, Nat.reduceLeDiff, Nat.reduceEqDiff, Nat.reduceLT, Nat.reduceBEq, Nat.reduceBNe, Nat.reducePow, ↓reduceIte]; done) | omega | (simp only [go_sem, Nat.reduceAdd, Nat.reduceSub, Nat.reduceMul, Nat.reduceLeDiff, Nat.reduceEqDiff, Nat.reduceLT, Nat.reduceBEq, Nat.reduceBNe, Nat.reducePow, ↓reduceIte] <;> omega) | fail) only [go_sem, Nat.reduceAdd, Nat.reduceSub, Nat.reduceMul, Nat.reduceLeDiff, Nat.reduceEqDiff, Nat.reduceLT, Nat.reduceBEq, Nat.reduceBNe, Nat.reducePow, ↓reduceIte, nat_int, h, eNode_s, eElem_s, callA_data mode_26, hf, callA_pure mode_21, heq, hws]
      rw [gcK_mkT (by simp only [go_sem, Nat.reduceAdd, Nat.reduceSub, Nat.reduceMul, Nat.reduceLeDiff, Nat.reduceEqDiff, Nat.reduceLT, Nat.reduceBEq, Nat.reduceBNe, Nat.reducePow, ↓reduceIte]) (by simp only [go_sem, Nat.reduceAdd, Nat.reduceSub, Nat.reduceMul, Nat.reduceLeDiff, Nat.reduceEqDiff, Nat.reduceLT, Nat.reduceBEq, Nat.reduceBNe, Nat.reducePow, ↓reduceIte])]
      rfl
  · intro _
    have hkey : ∀ fs : List Elem, cntEs fs ≤ 900000 → (∀ f : Nat, True) → pureW XX 26 [lD schema, lN n, lE fs] = some (lN (sieveF schema n fs)) := fun fs hf _ => filter_spec schema n fs okDs_schema (by decide) (by omega) hf
    have hsk := fun fs => sieve_key htr fs
    have hcnt := fun fs => sieve_cnt schema n fs
    rcases and1 at_ with ha | ha
    · have hf := hkey (filterE sSpeed) (by decide) (fun _ => trivial)
      have hs := hsk (filterE sSpeed)
      have hc := hcnt (filterE sSpeed)
      generalize sieveF schema n (filterE sSpeed) = J at *
      simp only [lE, filterE, eK, eT, sPair, sV, sArea, sPort, sSpeed, List.map_cons, List.map_nil, eElem_s, Elem.space, Elem.name, Elem.attrs, Elem.text, Elem.kids] at hf
      have hlj := len_cnt J
      simp (maxSteps := 200000) (disch := first | (simp only [go_sem, Nat.reduceAdd, Nat.reduceSub, Nat.reduceMul, Nat.reduceLeDiff, Nat.reduceEqDiff, Nat.reduceLT, Nat.reduceBEq, Nat.reduceBNe, Nat.reducePow, ↓reduceIte]; done) | omega | (simp only [go_sem, Nat.reduceAdd, Nat.reduceSub, Nat.reduceMul, Nat.reduceLeDiff, Nat.reduceEqDiff, Nat.reduceLT, Nat.reduceBEq, Nat.reduceBNe, Nat.reducePow, ↓reduceIte] <;> omega) | fail) only [go_sem, Nat.reduceAdd, Nat.reduceSub, Nat.reduceMul, Nat.reduceLeDiff, Nat.reduceEqDiff, Nat.reduceLT, Nat.reduceBEq, Nat.reduceBNe, Nat.reducePow, ↓reduceIte, nat_int, Nat.lt_irrefl, ha, idxK2_two0, idxK2_two1, callA_data mode_26, hf]
      refine WP_range 27 0 J.length (fun i => S_10_27 (lD schema) (lN J) (vI J.length) (vI i) []) (fun _ => True) rfl rfl ?_ ?_ ?_ ?_
      · simp (maxSteps := 200000) (disch := first | (simp only [go_sem, Nat.reduceAdd, Nat.reduceSub, Nat.reduceMul, Nat.reduceLeDiff, Nat.reduceEqDiff, Nat.reduceLT, Nat.reduceBEq, Nat.reduceBNe, Nat.reducePow, ↓reduceIte]; done) | omega | (simp only [go_sem, Nat.reduceAdd, Nat.reduceSub, Nat.reduceMul, Nat.reduceLeDiff, Nat.reduceEqDiff, Nat.reduceLT, Nat.reduceBEq, Nat.reduceBNe, Nat.reducePow, ↓reduceIte] <;> omega) | fail) only [go_sem, Nat.reduceAdd, Nat.reduceSub, Nat.reduceMul, Nat.reduceLeDiff, Nat.reduceEqDiff, Nat.reduceLT, Nat.reduceBEq, Nat.reduceBNe, Nat.reducePow, ↓reduceIte]; rfl
      · trivial
      · intro i h _
        obtain ⟨d, hd, he, hk⟩ := hs J[i] (List.getElem_mem h)
        obtain ⟨q, hq1, hq2⟩ := place_of wf_schema hd he
        obtain ⟨hq, hqn⟩ := place_some hq1
        rw [List.getElem?_eq_getElem hq] at hq2
        have pl := find_spec schema J[i].name (by decide)
        rw [hq1] at pl
        simp only [posI] at pl
        cases hq2
        have hws := wrap_succ h (show J.length ≤ 140737488355328 by omega)
        obtain ⟨o1, o2, o3, o4⟩ := okD_s (okDs_mem okDs_schema (List.getElem_mem hq))
        have hak := cnt_kids h
        have mk := modelKey_spec schema[q] J[i] o2 (by have := len_cnt J[i].kids; omega)
        obtain ⟨ks, hko⟩ := Option.isSome_iff_exists.1 hk
        rw [hko] at mk
        simp only [kO, Option.getD_some, Option.isSome_some] at mk
        simp (maxSteps := 200000) (disch := first | (simp only [go_sem, Nat.reduceAdd, Nat.reduceSub, Nat.reduceMul, Nat.reduceLeDiff, Nat.reduceEqDiff, Nat.reduceLT, Nat.reduceBEq, Nat.reduceBNe, Nat.reducePow, ↓reduceIte]; done) | omega | (simp only [go_sem, Nat.reduceAdd, Nat.reduceSub, Nat.reduceMul, Nat.reduceLeDiff, Nat.reduceEqDiff, Nat.reduceLT, Nat.reduceBEq, Nat.reduceBNe, Nat.reducePow, ↓reduceIte] <;> omega) | fail) only [go_sem, Nat.reduceAdd, Nat.reduceSub, Nat.reduceMul, Nat.reduceLeDiff, Nat.reduceEqDiff, Nat.reduceLT, Nat.reduceBEq, Nat.reduceBNe, Nat.reducePow, ↓reduceIte, nat_int, h, hq, eNode_s, eDef_s, callA_pure mode_31, pl, callA_data mode_32, mk, hws]
        rw [gcK_mkT (by simp only [go_sem, Nat.reduceAdd, Nat.reduceSub, Nat.reduceMul, Nat.reduceLeDiff, Nat.reduceEqDiff, Nat.reduceLT, Nat.reduceBEq, Nat.reduceBNe, Nat.reducePow, ↓reduceIte]) (by simp only [go_sem, Nat.reduceAdd, Nat.reduceSub, Nat.reduceMul, Nat.reduceLeDiff, Nat.reduceEqDiff, Nat.reduceLT, Nat.reduceBEq, Nat.reduceBNe, Nat.reducePow, ↓reduceIte])]
        rfl
      · intro _
        simp (maxSteps := 200000) (disch := first | (simp only [go_sem, Nat.reduceAdd, Nat.reduceSub, Nat.reduceMul, Nat.reduceLeDiff, Nat.reduceEqDiff, Nat.reduceLT, Nat.reduceBEq, Nat.reduceBNe, Nat.reducePow, ↓reduceIte]; done) | omega | (simp only [go_sem, Nat.reduceAdd, Nat.reduceSub, Nat.reduceMul, Nat.reduceLeDiff, Nat.reduceEqDiff, Nat.reduceLT, Nat.reduceBEq, Nat.reduceBNe, Nat.reducePow, ↓reduceIte] <;> omega) | fail) only [go_sem, Nat.reduceAdd, Nat.reduceSub, Nat.reduceMul, Nat.reduceLeDiff, Nat.reduceEqDiff, Nat.reduceLT, Nat.reduceBEq, Nat.reduceBNe, Nat.reducePow, ↓reduceIte, nat_int]
    · have hf := hkey (filterE sOn) (by decide) (fun _ => trivial)
      have hs := hsk (filterE sOn)
      have hc := hcnt (filterE sOn)
      generalize sieveF schema n (filterE sOn) = J at *
      simp only [lE, filterE, eK, eT, sPair, sV, sArea, sPort, sOn, List.map_cons, List.map_nil, eElem_s, Elem.space, Elem.name, Elem.attrs, Elem.text, Elem.kids] at hf
      have hlj := len_cnt J
      simp (maxSteps := 200000) (disch := first | (simp only [go_sem, Nat.reduceAdd, Nat.reduceSub, Nat.reduceMul, Nat.reduceLeDiff, Nat.reduceEqDiff, Nat.reduceLT, Nat.reduceBEq, Nat.reduceBNe, Nat.reducePow, ↓reduceIte]; done) | omega | (simp only [go_sem, Nat.reduceAdd, Nat.reduceSub, Nat.reduceMul, Nat.reduceLeDiff, Nat.reduceEqDiff, Nat.reduceLT, Nat.reduceBEq, Nat.reduceBNe, Nat.reducePow, ↓reduceIte] <;> omega) | fail) only [go_sem, Nat.reduceAdd, Nat.reduceSub, Nat.reduceMul, Nat.reduceLeDiff, Nat.reduceEqDiff, Nat.reduceLT, Nat.reduceBEq, Nat.reduceBNe, Nat.reducePow, ↓reduceIte, nat_int, Nat.lt_irrefl, ha, idxK2_two0, idxK2_two1, callA_data mode_26, hf]
      refine WP_range 27 0 J.length (fun i => S_10_27 (lD schema) (lN J) (vI J.length) (vI i) []) (fun _ => True) rfl rfl ?_ ?_ ?_ ?_
      · simp (maxSteps := 200000) (disch := first | (simp only [go_sem, Nat.reduceAdd, Nat.reduceSub, Nat.reduceMul, Nat.reduceLeDiff, Nat.reduceEqDiff, Nat.reduceLT, Nat.reduceBEq, Nat.reduceBNe, Nat.reducePow, ↓reduceIte]; done) | omega | (simp only [go_sem, Nat.reduceAdd, Nat.reduceSub, Nat.reduceMul, Nat.reduceLeDiff, Nat.reduceEqDiff, Nat.reduceLT, Nat.reduceBEq, Nat.reduceBNe, Nat.reducePow, ↓reduceIte] <;> omega) | fail) only [go_sem, Nat.reduceAdd, Nat.reduceSub, Nat.reduceMul, Nat.reduceLeDiff, Nat.reduceEqDiff, Nat.reduceLT, Nat.reduceBEq, Nat.reduceBNe, Nat.reducePow, ↓reduceIte]; rfl
      · trivial
      · intro i h _
        obtain ⟨d, hd, he, hk⟩ := hs J[i] (List.getElem_mem h)
        obtain ⟨q, hq1, hq2⟩ := place_of wf_schema hd he
        obtain ⟨hq, hqn⟩ := place_some hq1
        rw [List.getElem?_eq_getElem hq] at hq2
        have pl := find_spec schema J[i].name (by decide)
        rw [hq1] at pl
        simp only [posI] at pl
        cases hq2
        have hws := wrap_succ h (show J.length ≤ 140737488355328 by omega)
        obtain ⟨o1, o2, o3, o4⟩ := okD_s (okDs_mem okDs_schema (List.getElem_mem hq))
        have hak := cnt_kids h
        have mk := modelKey_spec schema[q] J[i] o2 (by have := len_cnt J[i].kids; omega)
        obtain ⟨ks, hko⟩ := Option.isSome_iff_exists.1 hk
        rw [hko] at mk
        simp only [kO, Option.getD_some, Option.isSome_some] at mk
        simp (maxSteps := 200000) (disch := first | (simp only [go_sem, Nat.reduceAdd, Nat.reduceSub, Nat.reduceMul, Nat.reduceLeDiff, Nat.reduceEqDiff, Nat.reduceLT, Nat.reduceBEq, Nat.reduceBNe, Nat.reducePow, ↓reduceIte]; done) | omega | (simp only [go_sem, Nat.reduceAdd, Nat.reduceSub, Nat.reduceMul, Nat.reduceLeDiff, Nat.reduceEqDiff, Nat.reduceLT, Nat.reduceBEq, Nat.reduceBNe, Nat.reducePow, ↓reduceIte] <;> omega) | fail) only [go_sem, Nat.reduceAdd, Nat.reduceSub, Nat.reduceMul, Nat.reduceLeDiff, Nat.reduceEqDiff, Nat.reduceLT, Nat.reduceBEq, Nat.reduceBNe, Nat.reducePow, ↓reduceIte, nat_int, h, hq, eNode_s, eDef_s, callA_pure mode_31, pl, callA_data mode_32, mk, hws]
        rw [gcK_mkT (by simp only [go_sem, Nat.reduceAdd, Nat.reduceSub, Nat.reduceMul, Nat.reduceLeDiff, Nat.reduceEqDiff, Nat.reduceLT, Nat.reduceBEq, Nat.reduceBNe, Nat.reducePow, ↓reduceIte]) (by simp only [go_sem, Nat.reduceAdd, Nat.reduceSub, Nat.reduceMul, Nat.reduceLeDiff, Nat.reduceEqDiff, Nat.reduceLT, Nat.reduceBEq, Nat.reduceBNe, Nat.reducePow, ↓reduceIte])]
        rfl
      · intro _
        simp (maxSteps := 200000) (disch := first | (simp only [go_sem, Nat.reduceAdd, Nat.reduceSub, Nat.reduceMul, Nat.reduceLeDiff, Nat.reduceEqDiff, Nat.reduceLT, Nat.reduceBEq, Nat.reduceBNe, Nat.reducePow, ↓reduceIte]; done) | omega | (simp only [go_sem, Nat.reduceAdd, Nat.reduceSub, Nat.reduceMul, Nat.reduceLeDiff, Nat.reduceEqDiff, Nat.reduceLT, Nat.reduceBEq, Nat.reduceBNe, Nat.reducePow, ↓reduceIte] <;> omega) | fail) only [go_sem, Nat.reduceAdd, Nat.reduceSub, Nat.reduceMul, Nat.reduceLeDiff, Nat.reduceEqDiff, Nat.reduceLT, Nat.reduceBEq, Nat.reduceBNe, Nat.reducePow, ↓reduceIte, nat_int]
end Go.Abs.SA
end
