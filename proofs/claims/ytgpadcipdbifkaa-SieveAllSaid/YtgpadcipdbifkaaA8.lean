/- YtgpadcipdbifkaaA8: a part of the interpreter by which the claim is shown, and of the walks: no conditions of its own: every theorem states its own. -/
import Derived.Test.YtgpadcipdbifkaaA7
section
set_option linter.unusedVariables false
set_option linter.unusedSimpArgs false
set_option maxRecDepth 100000
set_option maxHeartbeats 4000000
set_option linter.unusedSimpArgs false
set_option linter.unusedVariables false
namespace Go.Abs.SA
open Go.Proofs

theorem appF_none1 {e n c k : Nat} {x : List AV} {es : List (List AV)} : appF e n c k (x :: es) (some []) = some (.val (.fs (x :: es) true)) := appF_none (by simp)
theorem bne_f' (b : Bool) : (b != false) = b := by cases b <;> rfl
theorem bne_t' (b : Bool) : (b != true) = !b := by cases b <;> rfl
theorem beq_self' (b : Bool) : (b == b) = true := by cases b <;> rfl
attribute [go_sem] bne_f' bne_t' beq_self' appF_none1
theorem bit_spec (n : Int) : ∃ r, pureW XX 18 [vI n] = some (vI r) ∧ (r = 1 ∨ r = 2 ∨ r = 4 ∨ r = 8) := by
  have h1 := Int.tmod_lt_of_pos n (show (0:Int) < 4 by omega)
  have h2 := Int.lt_tmod_of_pos n (show (0:Int) < 4 by omega)
  generalize hm : n.tmod 4 = m at *
  have e1 : IntKind.i64.wrap (m + 4) = m + 4 := IntWalk.i64_in _ (by omega)
  have e2 : (m + 4).tmod 4 = 0 ∨ (m + 4).tmod 4 = 1 ∨ (m + 4).tmod 4 = 2 ∨ (m + 4).tmod 4 = 3 := by
    have : m = -3 ∨ m = -2 ∨ m = -1 ∨ m = 0 ∨ m = 1 ∨ m = 2 ∨ m = 3 := by omega
    rcases this with rfl | rfl | rfl | rfl | rfl | rfl | rfl <;> decide
  have key : ∀ k : Int, (m + 4).tmod 4 = k → 0 ≤ k → k ≤ 3 → pureW XX 18 [vI n] = some (vI (IntKind.i64.wrap (1 * 2 ^ (min k.toNat IntKind.i64.bits)))) := by
    intro k hk h0 h3
    refine pureW_in 8 Try.func18 Try.ntmps18 (by simp) (rfl : Try.f18.body = some _) fns_18 ?_
    simp (maxSteps := 200000) (disch := first | (simp only [go_sem, Nat.reduceAdd, Nat.reduceSub, Nat.reduceMul, Nat.reduceLeDiff, Nat.reduceEqDiff, Nat.reduceLT, Nat.reduceBEq, Nat.reduceBNe, Nat.reducePow, ↓reduceIte]; done) | omega | (simp only [go_sem, Nat.reduceAdd, Nat.reduceSub, Nat.reduceMul, Nat.reduceLeDiff, Nat.reduceEqDiff, Nat.reduceLT, Nat.reduceBEq, Nat.reduceBNe, Nat.reducePow, ↓reduceIte] <;> omega) | fail) only [go_sem, Nat.reduceAdd, Nat.reduceSub, Nat.reduceMul, Nat.reduceLeDiff, Nat.reduceEqDiff, Nat.reduceLT, Nat.reduceBEq, Nat.reduceBNe, Nat.reducePow, ↓reduceIte, hm, e1, hk]
  rcases e2 with h | h | h | h
  · exact ⟨1, (key 0 h (by omega) (by omega)).trans (by rfl), by simp⟩
  · exact ⟨2, (key 1 h (by omega) (by omega)).trans (by rfl), by simp⟩
  · exact ⟨4, (key 2 h (by omega) (by omega)).trans (by rfl), by simp⟩
  · exact ⟨8, (key 3 h (by omega) (by omega)).trans (by rfl), by simp⟩
abbrev sG : Str := ⟨#[103]⟩
abbrev sH : Str := ⟨#[104]⟩
abbrev sMore : Str := ⟨#[109, 111, 114, 101]⟩
abbrev sNobody : Str := ⟨#[110, 111, 98, 111, 100, 121]⟩
theorem bit15 {r : Int} (h : r = 1 ∨ r = 2 ∨ r = 4 ∨ r = 8) : bitI .and .i64 15 r ≠ 0 ∧ bitI .and .i64 (bitI .andNot .i64 15 r) r = 0 ∧ bitI .and .i64 0 r = 0 := by
  rcases h with rfl | rfl | rfl | rfl <;> decide +kernel
theorem may_first (p : Policy) (gs : List Str) (r : Int) (path : List Str) (x : Rule) (h : Rule.says gs r path x = true) : may ⟨x :: p.rules, p.read, p.write⟩ gs r path = x.permit := by
  simp [may, List.find?_cons, h]
theorem may_skip (p : Policy) (gs : List Str) (r : Int) (path : List Str) (x y : Rule) (h : Rule.says gs r path x = false) (k : Rule.says gs r path y = false) : may ⟨x :: y :: p.rules, p.read, p.write⟩ gs r path = may p gs r path := by
  simp [may, List.find?_cons, h, k]
end Go.Abs.SA
end

section
set_option linter.unusedVariables false
set_option linter.unusedSimpArgs false
set_option maxRecDepth 100000
set_option maxHeartbeats 8000000
set_option linter.unusedSimpArgs false
set_option linter.unusedVariables false
namespace Go.Abs.SA
open Go.Proofs

abbrev aRule (x : Rule) : AV := .agg [vS x.group, vI x.rights, lS x.path, vB x.permit]
theorem first_law (p : Policy) (x : Rule) (right : Int) (hp : p.ok) (hx : x.path.length ≤ 140737488355328) :
    pureW XX 4 [aPolicy p, aRule x, vI right] = some (vB true) := by
  refine pureW_in 86 Try.func4 Try.ntmps4 (by simp) (rfl : Try.f4.body = some _) fns_4 ?_
  have hli := light_spec p hp
  by_cases hw : weigh p.rules ≤ 200
  case neg =>
    simp (maxSteps := 200000) (disch := first | (simp only [go_sem, Nat.reduceAdd, Nat.reduceSub, Nat.reduceMul, Nat.reduceLeDiff, Nat.reduceEqDiff, Nat.reduceLT, Nat.reduceBEq, Nat.reduceBNe, Nat.reducePow, ↓reduceIte]; done) | omega | (simp only [go_sem, Nat.reduceAdd, Nat.reduceSub, Nat.reduceMul, Nat.reduceLeDiff, Nat.reduceEqDiff, Nat.reduceLT, Nat.reduceBEq, Nat.reduceBNe, Nat.reducePow, ↓reduceIte] <;> omega) | fail) only [go_sem, Nat.reduceAdd, Nat.reduceSub, Nat.reduceMul, Nat.reduceLeDiff, Nat.reduceEqDiff, Nat.reduceLT, Nat.reduceBEq, Nat.reduceBNe, Nat.reducePow, ↓reduceIte, callA_pure mode_12, fit_spec, callA_pure mode_14, hli, hw]
  by_cases h16 : (16 : Int) < (x.path.length : Int)
  · simp (maxSteps := 200000) (disch := first | (simp only [go_sem, Nat.reduceAdd, Nat.reduceSub, Nat.reduceMul, Nat.reduceLeDiff, Nat.reduceEqDiff, Nat.reduceLT, Nat.reduceBEq, Nat.reduceBNe, Nat.reducePow, ↓reduceIte]; done) | omega | (simp only [go_sem, Nat.reduceAdd, Nat.reduceSub, Nat.reduceMul, Nat.reduceLeDiff, Nat.reduceEqDiff, Nat.reduceLT, Nat.reduceBEq, Nat.reduceBNe, Nat.reducePow, ↓reduceIte] <;> omega) | fail) only [go_sem, Nat.reduceAdd, Nat.reduceSub, Nat.reduceMul, Nat.reduceLeDiff, Nat.reduceEqDiff, Nat.reduceLT, Nat.reduceBEq, Nat.reduceBNe, Nat.reducePow, ↓reduceIte, callA_pure mode_12, fit_spec, callA_pure mode_14, hli, hw, h16]
  obtain ⟨r, hr, hr4⟩ := bit_spec right
  obtain ⟨b1, b2, b3⟩ := bit15 hr4
  have hlen : p.rules.length ≤ weigh p.rules := by
    have : ∀ l : List Rule, l.length ≤ weigh l := by
      intro l
      induction l with
      | nil => simp [weigh]
      | cons a l ih => simp only [weigh, List.map_cons, List.sum_cons, List.length_cons] at *; omega
    exact this _
  have m1 := may_spec ⟨⟨sG, 15, x.path, x.permit⟩ :: p.rules, p.read, p.write⟩ [sH, sG] r (x.path ++ [sMore]) ⟨by simp; omega, by simpa using ⟨hx, hp.path⟩⟩ (by simp) (by simp; omega)
  have m2 := may_spec ⟨⟨sG, 15, x.path, x.permit⟩ :: p.rules, p.read, p.write⟩ [sG] r x.path ⟨by simp; omega, by simpa using ⟨hx, hp.path⟩⟩ (by simp) (by omega)
  have m3 := may_spec ⟨⟨sNobody, 15, x.path, x.permit⟩ :: ⟨⟨#[]⟩, bitI .andNot .i64 15 r, [], !x.permit⟩ :: p.rules, p.read, p.write⟩ [sG] r (x.path ++ [sMore]) ⟨by simp; omega, by simpa using ⟨hx, hp.path⟩⟩ (by simp) (by simp; omega)
  have m4 := may_spec p [sG] r (x.path ++ [sMore]) hp (by simp) (by simp; omega)
  rw [may_first p _ _ _ _ (by simp [Rule.says, b1, has])] at m1
  rw [may_first p _ _ _ _ (by simp [Rule.says, b1, has])] at m2
  rw [may_skip p _ _ _ _ _ (by simp [Rule.says, has]) (by simp [Rule.says, b2])] at m3
  simp only [aPolicy, lS, List.map_cons, List.map_nil, eRule, eS] at m1 m2 m3 m4
  simp only [hw, decide_true, aPolicy] at hli
  by_cases hn : p.rules = []
  · rw [hn] at m1 m2 m3 m4 hli
    simp only [List.map_nil] at m1 m2 m3 m4 hli
    simp (maxSteps := 200000) (disch := first | (simp only [go_sem, Nat.reduceAdd, Nat.reduceSub, Nat.reduceMul, Nat.reduceLeDiff, Nat.reduceEqDiff, Nat.reduceLT, Nat.reduceBEq, Nat.reduceBNe, Nat.reducePow, ↓reduceIte]; done) | omega | (simp only [go_sem, Nat.reduceAdd, Nat.reduceSub, Nat.reduceMul, Nat.reduceLeDiff, Nat.reduceEqDiff, Nat.reduceLT, Nat.reduceBEq, Nat.reduceBNe, Nat.reducePow, ↓reduceIte] <;> omega) | fail) only [go_sem, Nat.reduceAdd, Nat.reduceSub, Nat.reduceMul, Nat.reduceLeDiff, Nat.reduceEqDiff, Nat.reduceLT, Nat.reduceBEq, Nat.reduceBNe, Nat.reducePow, ↓reduceIte, callA_pure mode_12, fit_spec, callA_pure mode_14, hli, hw, h16, callA_pure mode_18, hr, hn, callA_pure mode_19, m1, m2, m3, m4, ne_eq, not_false_eq_true]
  · have hnn := hn
    simp (maxSteps := 200000) (disch := first | (simp only [go_sem, Nat.reduceAdd, Nat.reduceSub, Nat.reduceMul, Nat.reduceLeDiff, Nat.reduceEqDiff, Nat.reduceLT, Nat.reduceBEq, Nat.reduceBNe, Nat.reducePow, ↓reduceIte]; done) | omega | (simp only [go_sem, Nat.reduceAdd, Nat.reduceSub, Nat.reduceMul, Nat.reduceLeDiff, Nat.reduceEqDiff, Nat.reduceLT, Nat.reduceBEq, Nat.reduceBNe, Nat.reducePow, ↓reduceIte] <;> omega) | fail) only [go_sem, Nat.reduceAdd, Nat.reduceSub, Nat.reduceMul, Nat.reduceLeDiff, Nat.reduceEqDiff, Nat.reduceLT, Nat.reduceBEq, Nat.reduceBNe, Nat.reducePow, ↓reduceIte, callA_pure mode_12, fit_spec, callA_pure mode_14, hli, hw, h16, callA_pure mode_18, hr, callA_pure mode_19, m1, m2, m3, m4, appF_lit, hn, ne_eq, not_false_eq_true]
end Go.Abs.SA
end
