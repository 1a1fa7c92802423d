/- YtoeaiaoojfgjmaaDoorB6: a part of the interpreter by which the claim is shown, and of the walks: no conditions of its own: every theorem states its own. -/
import Derived.Test.YtoeaiaoojfgjmaaDoorB5
section
set_option linter.unusedVariables false
set_option linter.unusedSimpArgs false
set_option linter.unusedSectionVars false
set_option maxRecDepth 100000
set_option maxHeartbeats 8000000
set_option linter.unusedSimpArgs false
set_option linter.unusedVariables false
namespace Go.Abs.BB
open Go.Proofs

/-- What Next gives, and what there is then. -/
structure Res where
  r : Str
  e : Int
  b : Str
  m : Str
  s : Bool
  bad : Bool
def resC (e : End) : Res := match e.out with
  | .fail x => ⟨e0, x, e.b, e.m, e.s, true⟩
  | .wait => ⟨e0, 4, e.b, e.m, e.s, false⟩
  | .msg b => ⟨e.m, 0, b, e0, false, false⟩
  | .more _ _ => ⟨e0, 0, e.b, e.m, e.s, false⟩
def resF (b m : Str) (s : Bool) (i : Int) : Res :=
  if 16384 < i ∨ (i < 0 ∧ 16390 ≤ (b.size : Int)) then ⟨e0, 2, b, m, s, true⟩ else if i < 0 then ⟨e0, 4, b, m, s, false⟩ else ⟨b.extract 0 i.toNat, 0, b.extract (i.toNat + 6) b.size, m, s, false⟩
def nextR (c : Bool) (b m : Str) (s : Bool) : Res := if c = true then resC (runC b m s) else resF b m s (Lib.index (by' b) (by' sEnd))
abbrev outR (c : Bool) (x : Res) : AV × List Blk := (.tup [vS x.r, vI x.e], [mB c x.b x.m x.s x.bad])
theorem nl_is {b : Str} {e : Nat} (h1 : 1 ≤ e) (h2 : e < b.size) (h3 : byteAt b e = 10) (h4 : ∀ j, 1 ≤ j → j < e → byteAt b j ≠ 10) : nlI b = e := by
  have hb : ∀ j, (hj : j < b.size) → byteAt b j = (((by' b)[j]'(by rw [by_len]; exact hj)).toNat : Int) := fun j hj => byteAt_by b j hj
  have hten : ∀ x : UInt8, (x.toNat : Int) = 10 ↔ x = 10 := by
    intro x
    constructor
    · intro h
      have : x.toNat = (10 : UInt8).toNat := by show x.toNat = 10; omega
      exact UInt8.toNat_inj.1 this
    · rintro rfl; rfl
  by_cases h0 : nlI b = 0
  · have := nl_none h0 e (by rw [by_len]; exact h2) h1
    rw [hb e h2] at h3
    exact absurd ((hten _).1 h3) this
  · obtain ⟨g1, g2, g3⟩ := nl_some (b := b) (by omega)
    rw [by_len] at g1
    have hn1 : 1 ≤ nlI b := by omega
    rcases Nat.lt_trichotomy (nlI b) e with h | h | h
    · have := h4 (nlI b) hn1 h
      rw [hb _ g1] at this
      exact absurd ((hten _).2 g2) this
    · exact h
    · have := g3 e (by rw [by_len]; exact h2) h1 h
      rw [hb e h2] at h3
      exact absurd ((hten _).1 h3) this
theorem nl_no {b : Str} (h : ∀ j, 1 ≤ j → j < b.size → byteAt b j ≠ 10) : nlI b = 0 := by
  apply Nat.eq_zero_of_not_pos
  intro h0
  obtain ⟨g1, g2, g3⟩ := nl_some h0
  rw [by_len] at g1
  apply h (nlI b) (by omega) g1
  rw [byteAt_by b _ g1, g2]; rfl
theorem index_room : ∀ (s sub : List UInt8), sub ≠ [] → Lib.index s sub = -1 ∨ ∃ j : Nat, Lib.index s sub = (j : Int) ∧ j + sub.length ≤ s.length
  | [], sub, h => by
    left
    rw [Lib.index]
    cases sub with
    | nil => exact absurd rfl h
    | cons a r => rfl
  | b :: l, sub, h => by
    rw [Lib.index]
    split
    · rename_i hp
      right
      exact ⟨0, rfl, by rw [Nat.zero_add]; exact (List.isPrefixOf_iff_prefix.1 hp).length_le⟩
    · rcases index_room l sub h with h1 | ⟨j, h1, h2⟩
      · left; rw [h1]; rfl
      · right
        rw [h1]
        refine ⟨j + 1, ?_, by rw [List.length_cons]; omega⟩
        rw [if_neg (by simp)]
        rfl
theorem sizeS_T (H : Str) : sizeS (H.extract (min H.size 2) H.size) = if H.size < 3 ∨ byteAt H 2 = 48 then none else if ((by' H).drop 2).all isD = true then some (valN ((by' H).drop 2)) else none := by
  have hl : by' (H.extract (min H.size 2) H.size) = (by' H).drop 2 := by
    rw [by_ext]
    by_cases h : H.size < 2
    · rw [Nat.min_eq_left (by omega)]
      have h1 : ((by' H).drop H.size) = [] := List.drop_of_length_le (by rw [by_len]; exact Nat.le_refl _)
      have h2 : ((by' H).drop 2) = [] := List.drop_of_length_le (by rw [by_len]; omega)
      rw [h1, h2]; simp
    · rw [Nat.min_eq_right (by omega)]
      apply List.take_of_length_le
      rw [List.length_drop, by_len]; omega
  have hz : (H.extract (min H.size 2) H.size).size = H.size - 2 := by rw [← by_len, hl, List.length_drop, by_len]
  unfold sizeS
  rw [hl, hz]
  by_cases h : H.size < 3
  · rw [if_pos (.inl (by omega)), if_pos (.inl h)]
  · have hb : byteAt (H.extract (min H.size 2) H.size) 0 = byteAt H 2 := by
      rw [byteAt_by _ 0 (by rw [hz]; omega), byteAt_by H 2 (by omega)]
      simp only [hl, List.getElem_drop, Nat.add_zero]
    have p : (H.size - 2 = 0) = (H.size < 3) := propext (by omega)
    simp only [hb, p]
end Go.Abs.BB
end

section
set_option linter.unusedVariables false
set_option linter.unusedSimpArgs false
set_option linter.unusedSectionVars false
set_option maxRecDepth 100000
set_option maxHeartbeats 8000000
set_option linter.unusedSimpArgs false
set_option linter.unusedVariables false
namespace Go.Abs.BB
open Go.Proofs

theorem refNext_spec (c : Bool) (b0 m0 : Str) (s0 : Bool) (hb : b0.size ≤ 1000000000) (hm : m0.size ≤ 1000000000) :
    loudW XX 16 [.ptr 0 0] [mB c b0 m0 s0 false] = some (outR c (nextR c b0 m0 s0)) := by
  refine loudW_in 256 Tryd.func16 Tryd.ntmps16 (by simp) (rfl : Tryd.f16.body = some _) fns_16 ?_
  unfold nextR
  cases c with
  | false =>
    rw [if_neg (by simp)]
    have hf := find_spec b0 ⟨#[93, 93, 62, 93, 93, 62]⟩ (by decide) hb (by decide)
    have hge := Lib.index_ge (by' b0) (by' sEnd)
    rw [show (⟨#[93, 93, 62, 93, 93, 62]⟩ : Str) = sEnd from rfl] at hf
    have hle : Lib.index (by' b0) (by' sEnd) + 6 ≤ b0.size ∨ Lib.index (by' b0) (by' sEnd) = -1 := by
      rcases index_room (by' b0) (by' sEnd) (by decide) with h | ⟨j, h, h2⟩
      · exact .inr h
      · left
        rw [h]
        rw [by_len, by_len, show sEnd.size = 6 from rfl] at h2
        omega
    have hdies := call_dies 16 (by rw [live_16]; rfl)
    unfold sEnd at hf hge hle ⊢
    unfold resF
    generalize Lib.index (by' b0) (by' ⟨#[93, 93, 62, 93, 93, 62]⟩) = i at *
    by_cases h1 : 16384 < i
    · rw [if_pos (.inl h1)]
      have g1 := eq_true h1
      simp (maxSteps := 200000) (disch := first | (simp only [go_sem, Nat.reduceAdd, Nat.reduceSub, Nat.reduceMul, Nat.reduceLeDiff, Nat.reduceEqDiff, Nat.reduceLT, Nat.reduceBEq, Nat.reduceBNe, Nat.reducePow, ↓reduceIte]; done) | omega | (simp only [go_sem, Nat.reduceAdd, Nat.reduceSub, Nat.reduceMul, Nat.reduceLeDiff, Nat.reduceEqDiff, Nat.reduceLT, Nat.reduceBEq, Nat.reduceBNe, Nat.reducePow, ↓reduceIte] <;> omega) | fail) only [go_sem, Nat.reduceAdd, Nat.reduceSub, Nat.reduceMul, Nat.reduceLeDiff, Nat.reduceEqDiff, Nat.reduceLT, Nat.reduceBEq, Nat.reduceBNe, Nat.reducePow, ↓reduceIte, callA_pure mode_22, hf, g1, hdies]
    · have g1 := eq_false h1
      by_cases h2 : i < 0
      · have g2 := eq_true h2
        by_cases h3 : (16390 : Int) ≤ (b0.size : Int)
        · have g3 := eq_true h3
          rw [if_pos (.inr ⟨h2, h3⟩)]
          simp (maxSteps := 200000) (disch := first | (simp only [go_sem, Nat.reduceAdd, Nat.reduceSub, Nat.reduceMul, Nat.reduceLeDiff, Nat.reduceEqDiff, Nat.reduceLT, Nat.reduceBEq, Nat.reduceBNe, Nat.reducePow, ↓reduceIte]; done) | omega | (simp only [go_sem, Nat.reduceAdd, Nat.reduceSub, Nat.reduceMul, Nat.reduceLeDiff, Nat.reduceEqDiff, Nat.reduceLT, Nat.reduceBEq, Nat.reduceBNe, Nat.reducePow, ↓reduceIte] <;> omega) | fail) only [go_sem, Nat.reduceAdd, Nat.reduceSub, Nat.reduceMul, Nat.reduceLeDiff, Nat.reduceEqDiff, Nat.reduceLT, Nat.reduceBEq, Nat.reduceBNe, Nat.reducePow, ↓reduceIte, callA_pure mode_22, hf, g1, g2, g3, hdies]
        · have g3 := eq_false h3
          rw [if_neg (by omega), if_pos h2]
          simp (maxSteps := 200000) (disch := first | (simp only [go_sem, Nat.reduceAdd, Nat.reduceSub, Nat.reduceMul, Nat.reduceLeDiff, Nat.reduceEqDiff, Nat.reduceLT, Nat.reduceBEq, Nat.reduceBNe, Nat.reducePow, ↓reduceIte]; done) | omega | (simp only [go_sem, Nat.reduceAdd, Nat.reduceSub, Nat.reduceMul, Nat.reduceLeDiff, Nat.reduceEqDiff, Nat.reduceLT, Nat.reduceBEq, Nat.reduceBNe, Nat.reducePow, ↓reduceIte] <;> omega) | fail) only [go_sem, Nat.reduceAdd, Nat.reduceSub, Nat.reduceMul, Nat.reduceLeDiff, Nat.reduceEqDiff, Nat.reduceLT, Nat.reduceBEq, Nat.reduceBNe, Nat.reducePow, ↓reduceIte, callA_pure mode_22, hf, g1, g2, g3, hdies]
      · have g2 := eq_false h2
        rw [if_neg (by omega), if_neg h2]
        obtain ⟨n, rfl⟩ : ∃ n : Nat, i = (n : Int) := ⟨i.toNat, by omega⟩
        have e1 : IntKind.i64.wrap ((n : Int) + 6) = ((n + 6 : Nat) : Int) := by rw [IntWalk.i64_in _ (by omega)]; omega
        have g4 : (n ≤ b0.size) = True := eq_true (by omega)
        have g5 : (n + 6 ≤ b0.size) = True := eq_true (by omega)
        simp (maxSteps := 200000) (disch := first | (simp only [go_sem, Nat.reduceAdd, Nat.reduceSub, Nat.reduceMul, Nat.reduceLeDiff, Nat.reduceEqDiff, Nat.reduceLT, Nat.reduceBEq, Nat.reduceBNe, Nat.reducePow, ↓reduceIte]; done) | omega | (simp only [go_sem, Nat.reduceAdd, Nat.reduceSub, Nat.reduceMul, Nat.reduceLeDiff, Nat.reduceEqDiff, Nat.reduceLT, Nat.reduceBEq, Nat.reduceBNe, Nat.reducePow, ↓reduceIte] <;> omega) | fail) only [go_sem, Nat.reduceAdd, Nat.reduceSub, Nat.reduceMul, Nat.reduceLeDiff, Nat.reduceEqDiff, Nat.reduceLT, Nat.reduceBEq, Nat.reduceBNe, Nat.reducePow, ↓reduceIte, callA_pure mode_22, hf, g1, g2, e1, g4, g5, Int.toNat_natCast]
  | true =>
    rw [if_pos rfl]
    have hdies := call_dies 16 (by rw [live_16]; rfl)
    simp (maxSteps := 200000) (disch := first | (simp only [go_sem, Nat.reduceAdd, Nat.reduceSub, Nat.reduceMul, Nat.reduceLeDiff, Nat.reduceEqDiff, Nat.reduceLT, Nat.reduceBEq, Nat.reduceBNe, Nat.reducePow, ↓reduceIte]; done) | omega | (simp only [go_sem, Nat.reduceAdd, Nat.reduceSub, Nat.reduceMul, Nat.reduceLeDiff, Nat.reduceEqDiff, Nat.reduceLT, Nat.reduceBEq, Nat.reduceBNe, Nat.reducePow, ↓reduceIte] <;> omega) | fail) only [go_sem, Nat.reduceAdd, Nat.reduceSub, Nat.reduceMul, Nat.reduceLeDiff, Nat.reduceEqDiff, Nat.reduceLT, Nat.reduceBEq, Nat.reduceBNe, Nat.reducePow, ↓reduceIte]
    refine WP_loopR 12 1 (fun (a : Nat × Str × Str × Bool) => S_16_12 (.ptr 0 0) [mB true a.2.1 a.2.2.1 a.2.2.2 false]) (fun a => a.1) (fun a => a.2.1.size < a.1 ∧ a.2.1.size ≤ 1000000000 ∧ a.2.2.1.size ≤ 1000000000 ∧ runC b0 m0 s0 = runK a.1 a.2.1 a.2.2.1 a.2.2.2) (b0.size + 1, b0, m0, s0) rfl rfl ?_ ?_ ?_
    · simp (maxSteps := 200000) (disch := first | (simp only [go_sem, Nat.reduceAdd, Nat.reduceSub, Nat.reduceMul, Nat.reduceLeDiff, Nat.reduceEqDiff, Nat.reduceLT, Nat.reduceBEq, Nat.reduceBNe, Nat.reducePow, ↓reduceIte]; done) | omega | (simp only [go_sem, Nat.reduceAdd, Nat.reduceSub, Nat.reduceMul, Nat.reduceLeDiff, Nat.reduceEqDiff, Nat.reduceLT, Nat.reduceBEq, Nat.reduceBNe, Nat.reducePow, ↓reduceIte] <;> omega) | fail) only [go_sem, Nat.reduceAdd, Nat.reduceSub, Nat.reduceMul, Nat.reduceLeDiff, Nat.reduceEqDiff, Nat.reduceLT, Nat.reduceBEq, Nat.reduceBNe, Nat.reducePow, ↓reduceIte]
    · exact ⟨Nat.lt_succ_self _, hb, hm, rfl⟩
    · rintro ⟨k, b, m, s⟩ ⟨hk, hb, hm, hI⟩
      simp only at hk hb hm hI
      cases k with
      | zero => omega
      | succ k =>
      have hst : ∀ o, step b m s = o → (∀ b' m', o ≠ .more b' m') → resC (runC b0 m0 s0) = resC ⟨o, b, m, s⟩ := fun o h1 h2 => by rw [hI, runK_end h1 h2]
      have hstF : ∀ x, step b m s = .fail x → outR true (resC (runC b0 m0 s0)) = (.tup [vS e0, vI x], [mB true b m s true]) := fun x h => by rw [hst _ h (by simp)]; rfl
      have hstW : step b m s = .wait → outR true (resC (runC b0 m0 s0)) = (.tup [vS e0, vI 4], [mB true b m s false]) := fun h => by rw [hst _ h (by simp)]; rfl
      have hstM : ∀ x, step b m s = .msg x → outR true (resC (runC b0 m0 s0)) = (.tup [vS m, vI 0], [mB true x e0 false false]) := fun x h => by rw [hst _ h (by simp)]; rfl
      simp (maxSteps := 200000) (disch := first | (simp only [go_sem, Nat.reduceAdd, Nat.reduceSub, Nat.reduceMul, Nat.reduceLeDiff, Nat.reduceEqDiff, Nat.reduceLT, Nat.reduceBEq, Nat.reduceBNe, Nat.reducePow, ↓reduceIte]; done) | omega | (simp only [go_sem, Nat.reduceAdd, Nat.reduceSub, Nat.reduceMul, Nat.reduceLeDiff, Nat.reduceEqDiff, Nat.reduceLT, Nat.reduceBEq, Nat.reduceBNe, Nat.reducePow, ↓reduceIte] <;> omega) | fail) only [go_sem, Nat.reduceAdd, Nat.reduceSub, Nat.reduceMul, Nat.reduceLeDiff, Nat.reduceEqDiff, Nat.reduceLT, Nat.reduceBEq, Nat.reduceBNe, Nat.reducePow, ↓reduceIte]
      refine WP_loopR 13 1 (fun (e : Nat) => S_16_13 (.ptr 0 0) (vI e) [mB true b m s false]) (fun e => b.size + 2 - e) (fun e => 1 ≤ e ∧ e ≤ max 1 b.size ∧ ∀ j, 1 ≤ j → j < e → byteAt b j ≠ 10) 1 rfl rfl ?_ ?_ ?_
      · simp (maxSteps := 200000) (disch := first | (simp only [go_sem, Nat.reduceAdd, Nat.reduceSub, Nat.reduceMul, Nat.reduceLeDiff, Nat.reduceEqDiff, Nat.reduceLT, Nat.reduceBEq, Nat.reduceBNe, Nat.reducePow, ↓reduceIte]; done) | omega | (simp only [go_sem, Nat.reduceAdd, Nat.reduceSub, Nat.reduceMul, Nat.reduceLeDiff, Nat.reduceEqDiff, Nat.reduceLT, Nat.reduceBEq, Nat.reduceBNe, Nat.reducePow, ↓reduceIte] <;> omega) | fail) only [go_sem, Nat.reduceAdd, Nat.reduceSub, Nat.reduceMul, Nat.reduceLeDiff, Nat.reduceEqDiff, Nat.reduceLT, Nat.reduceBEq, Nat.reduceBNe, Nat.reducePow, ↓reduceIte]; rfl
      · exact ⟨Nat.le_refl _, Nat.le_max_left _ _, fun j h1 h2 => by omega⟩
      · rintro e ⟨he1, he2, he3⟩
        by_cases hel : e < b.size
        case neg =>
          have hes : b.size ≤ e := by omega
          have hnl : nlI b = 0 := nl_no fun j h1 h2 => he3 j h1 (by omega)
          have hhd : headS b = b := by unfold headS; rw [hnl]; rfl
          have gm : (if (b.size : Int) < (e : Int) then (b.size : Int) else (e : Int)) = ((b.size : Nat) : Int) := by
            by_cases h : (b.size : Int) < (e : Int)
            · rw [if_pos h]
            · rw [if_neg h]; omega
          have gx : b.extract 0 b.size = b := by rw [← by_inj, by_ext, List.drop_zero, Nat.sub_zero, ← by_len, List.take_length]
          have gl : ((e : Int) < (b.size : Int)) = False := eq_false (by omega)
          have hbr := badH_ref b
          have hs1 : badH b = true → step b m s = .fail 3 := fun h => by unfold step; rw [hhd, if_pos h]
          have hs2 : badH b = false → step b m s = .wait := fun h => by unfold step; rw [hhd, if_neg (by rw [h]; simp), if_pos hnl]
          by_cases h9 : 9 < b.size
          · have g9 : ((9 : Int) < (b.size : Int)) = True := eq_true (by omega)
            rw [hstF 3 (hs1 (by rw [hbr]; simp [h9]))]
            simp (maxSteps := 200000) (disch := first | (simp only [go_sem, Nat.reduceAdd, Nat.reduceSub, Nat.reduceMul, Nat.reduceLeDiff, Nat.reduceEqDiff, Nat.reduceLT, Nat.reduceBEq, Nat.reduceBNe, Nat.reducePow, ↓reduceIte]; done) | omega | (simp only [go_sem, Nat.reduceAdd, Nat.reduceSub, Nat.reduceMul, Nat.reduceLeDiff, Nat.reduceEqDiff, Nat.reduceLT, Nat.reduceBEq, Nat.reduceBNe, Nat.reducePow, ↓reduceIte] <;> omega) | fail) only [go_sem, Nat.reduceAdd, Nat.reduceSub, Nat.reduceMul, Nat.reduceLeDiff, Nat.reduceEqDiff, Nat.reduceLT, Nat.reduceBEq, Nat.reduceBNe, Nat.reducePow, ↓reduceIte, gm, gx, gl, g9, Nat.le_refl, hdies]
          have g9 : ((9 : Int) < (b.size : Int)) = False := eq_false (by omega)
          by_cases z0 : 0 < b.size
          case neg =>
            have gz0 : ((0 : Int) < (b.size : Int)) = False := eq_false (by omega)
            have gz1 : ((1 : Int) < (b.size : Int)) = False := eq_false (by omega)
            rw [hstW (hs2 (by rw [hbr]; simp [h9, z0, show ¬ 1 < b.size by omega]))]
            simp (maxSteps := 200000) (disch := first | (simp only [go_sem, Nat.reduceAdd, Nat.reduceSub, Nat.reduceMul, Nat.reduceLeDiff, Nat.reduceEqDiff, Nat.reduceLT, Nat.reduceBEq, Nat.reduceBNe, Nat.reducePow, ↓reduceIte]; done) | omega | (simp only [go_sem, Nat.reduceAdd, Nat.reduceSub, Nat.reduceMul, Nat.reduceLeDiff, Nat.reduceEqDiff, Nat.reduceLT, Nat.reduceBEq, Nat.reduceBNe, Nat.reducePow, ↓reduceIte] <;> omega) | fail) only [go_sem, Nat.reduceAdd, Nat.reduceSub, Nat.reduceMul, Nat.reduceLeDiff, Nat.reduceEqDiff, Nat.reduceLT, Nat.reduceBEq, Nat.reduceBNe, Nat.reducePow, ↓reduceIte, gm, gx, gl, g9, gz0, gz1, Nat.le_refl, hdies]
          have gz0 : ((0 : Int) < (b.size : Int)) = True := eq_true (by omega)
          by_cases a0 : byteAt b 0 = 10
          case neg =>
            rw [hstF 3 (hs1 (by rw [hbr]; simp [z0, a0]))]
            simp (maxSteps := 200000) (disch := first | (simp only [go_sem, Nat.reduceAdd, Nat.reduceSub, Nat.reduceMul, Nat.reduceLeDiff, Nat.reduceEqDiff, Nat.reduceLT, Nat.reduceBEq, Nat.reduceBNe, Nat.reducePow, ↓reduceIte]; done) | omega | (simp only [go_sem, Nat.reduceAdd, Nat.reduceSub, Nat.reduceMul, Nat.reduceLeDiff, Nat.reduceEqDiff, Nat.reduceLT, Nat.reduceBEq, Nat.reduceBNe, Nat.reducePow, ↓reduceIte] <;> omega) | fail) only [go_sem, Nat.reduceAdd, Nat.reduceSub, Nat.reduceMul, Nat.reduceLeDiff, Nat.reduceEqDiff, Nat.reduceLT, Nat.reduceBEq, Nat.reduceBNe, Nat.reducePow, ↓reduceIte, gm, gx, gl, g9, gz0, a0, ne_eq, not_false_eq_true, Nat.le_refl, hdies]
          have ga0 := eq_true a0
          by_cases z1 : 1 < b.size
          case neg =>
            have gz1 : ((1 : Int) < (b.size : Int)) = False := eq_false (by omega)
            rw [hstW (hs2 (by rw [hbr]; simp [h9, z1, a0]))]
            simp (maxSteps := 200000) (disch := first | (simp only [go_sem, Nat.reduceAdd, Nat.reduceSub, Nat.reduceMul, Nat.reduceLeDiff, Nat.reduceEqDiff, Nat.reduceLT, Nat.reduceBEq, Nat.reduceBNe, Nat.reducePow, ↓reduceIte]; done) | omega | (simp only [go_sem, Nat.reduceAdd, Nat.reduceSub, Nat.reduceMul, Nat.reduceLeDiff, Nat.reduceEqDiff, Nat.reduceLT, Nat.reduceBEq, Nat.reduceBNe, Nat.reducePow, ↓reduceIte] <;> omega) | fail) only [go_sem, Nat.reduceAdd, Nat.reduceSub, Nat.reduceMul, Nat.reduceLeDiff, Nat.reduceEqDiff, Nat.reduceLT, Nat.reduceBEq, Nat.reduceBNe, Nat.reducePow, ↓reduceIte, gm, gx, gl, g9, gz0, gz1, ga0, ne_eq, not_true, Nat.le_refl, hdies]
          have gz1 : ((1 : Int) < (b.size : Int)) = True := eq_true (by omega)
          by_cases a1 : byteAt b 1 = 35
          case neg =>
            rw [hstF 3 (hs1 (by rw [hbr]; simp [z1, a1]))]
            simp (maxSteps := 200000) (disch := first | (simp only [go_sem, Nat.reduceAdd, Nat.reduceSub, Nat.reduceMul, Nat.reduceLeDiff, Nat.reduceEqDiff, Nat.reduceLT, Nat.reduceBEq, Nat.reduceBNe, Nat.reducePow, ↓reduceIte]; done) | omega | (simp only [go_sem, Nat.reduceAdd, Nat.reduceSub, Nat.reduceMul, Nat.reduceLeDiff, Nat.reduceEqDiff, Nat.reduceLT, Nat.reduceBEq, Nat.reduceBNe, Nat.reducePow, ↓reduceIte] <;> omega) | fail) only [go_sem, Nat.reduceAdd, Nat.reduceSub, Nat.reduceMul, Nat.reduceLeDiff, Nat.reduceEqDiff, Nat.reduceLT, Nat.reduceBEq, Nat.reduceBNe, Nat.reducePow, ↓reduceIte, gm, gx, gl, g9, gz0, gz1, ga0, a1, ne_eq, not_true, not_false_eq_true, Nat.le_refl, hdies]
          have ga1 := eq_true a1
          rw [hstW (hs2 (by rw [hbr]; simp [h9, a0, a1]))]
          simp (maxSteps := 200000) (disch := first | (simp only [go_sem, Nat.reduceAdd, Nat.reduceSub, Nat.reduceMul, Nat.reduceLeDiff, Nat.reduceEqDiff, Nat.reduceLT, Nat.reduceBEq, Nat.reduceBNe, Nat.reducePow, ↓reduceIte]; done) | omega | (simp only [go_sem, Nat.reduceAdd, Nat.reduceSub, Nat.reduceMul, Nat.reduceLeDiff, Nat.reduceEqDiff, Nat.reduceLT, Nat.reduceBEq, Nat.reduceBNe, Nat.reducePow, ↓reduceIte] <;> omega) | fail) only [go_sem, Nat.reduceAdd, Nat.reduceSub, Nat.reduceMul, Nat.reduceLeDiff, Nat.reduceEqDiff, Nat.reduceLT, Nat.reduceBEq, Nat.reduceBNe, Nat.reducePow, ↓reduceIte, gm, gx, gl, g9, gz0, gz1, ga0, ga1, ne_eq, not_true, Nat.le_refl, hdies]
        have gl : ((e : Int) < (b.size : Int)) = True := eq_true (by omega)
        by_cases h10 : byteAt b e = 10
        case neg =>
          have gw : IntKind.i64.wrap ((e : Int) + 1) = ((e + 1 : Nat) : Int) := by rw [IntWalk.i64_in _ (by omega)]; omega
          simp (maxSteps := 200000) (disch := first | (simp only [go_sem, Nat.reduceAdd, Nat.reduceSub, Nat.reduceMul, Nat.reduceLeDiff, Nat.reduceEqDiff, Nat.reduceLT, Nat.reduceBEq, Nat.reduceBNe, Nat.reducePow, ↓reduceIte]; done) | omega | (simp only [go_sem, Nat.reduceAdd, Nat.reduceSub, Nat.reduceMul, Nat.reduceLeDiff, Nat.reduceEqDiff, Nat.reduceLT, Nat.reduceBEq, Nat.reduceBNe, Nat.reducePow, ↓reduceIte] <;> omega) | fail) only [go_sem, Nat.reduceAdd, Nat.reduceSub, Nat.reduceMul, Nat.reduceLeDiff, Nat.reduceEqDiff, Nat.reduceLT, Nat.reduceBEq, Nat.reduceBNe, Nat.reducePow, ↓reduceIte, gl, h10, ne_eq, not_false_eq_true, gw]
          refine ⟨e + 1, rfl, ⟨by omega, by omega, fun j h1 h2 => ?_⟩, by omega⟩
          by_cases h : j < e
          · exact he3 j h1 h
          · rw [show j = e by omega]; exact h10
        have g10 := eq_true h10
        have hnl : nlI b = e := nl_is he1 hel h10 he3
        have hhd : headS b = b.extract 0 e := by unfold headS; rw [hnl, if_pos (by omega)]
        have gm : (if (b.size : Int) < (e : Int) then (b.size : Int) else (e : Int)) = ((e : Nat) : Int) := by
          rw [if_neg (by omega)]
        have ge : (e ≤ b.size) = True := eq_true (by omega)
        have hHz : (b.extract 0 e).size = e := by simp [ByteArray.size_extract]; omega
        have hstd : step b m s = step b m s := rfl
        conv at hstd => rhs; unfold step
        rw [hhd, hnl] at hstd
        generalize hHd : b.extract 0 e = H at *
        have hbr := badH_ref H
        have hs1 : badH H = true → step b m s = .fail 3 := fun h => by rw [hstd, if_pos h]
        have hs2 : badH H = false → step b m s = if H = s2H then (if s = true then .msg (b.extract (e + 1) b.size) else .fail 3) else match sizeS (H.extract (min H.size 2) H.size) with
            | none => .fail 3
            | some n => if 16384 < m.size + n then .fail 2 else if b.size < e + 1 + n then .wait else .more (b.extract (e + 1 + n) b.size) (m ++ b.extract (e + 1) (e + 1 + n)) := fun h => by
          rw [hstd, if_neg (by rw [h]; simp), if_neg (by omega)]
          rfl
        clear hstd
        by_cases h9 : 9 < H.size
        · have g9 : ((9 : Int) < (H.size : Int)) = True := eq_true (by omega)
          rw [hstF 3 (hs1 (by rw [hbr]; simp [h9]))]
          simp (maxSteps := 200000) (disch := first | (simp only [go_sem, Nat.reduceAdd, Nat.reduceSub, Nat.reduceMul, Nat.reduceLeDiff, Nat.reduceEqDiff, Nat.reduceLT, Nat.reduceBEq, Nat.reduceBNe, Nat.reducePow, ↓reduceIte]; done) | omega | (simp only [go_sem, Nat.reduceAdd, Nat.reduceSub, Nat.reduceMul, Nat.reduceLeDiff, Nat.reduceEqDiff, Nat.reduceLT, Nat.reduceBEq, Nat.reduceBNe, Nat.reducePow, ↓reduceIte] <;> omega) | fail) only [go_sem, Nat.reduceAdd, Nat.reduceSub, Nat.reduceMul, Nat.reduceLeDiff, Nat.reduceEqDiff, Nat.reduceLT, Nat.reduceBEq, Nat.reduceBNe, Nat.reducePow, ↓reduceIte, gm, gl, ge, g10, hHd, g9, ne_eq, not_true, hdies]
        have g9 : ((9 : Int) < (H.size : Int)) = False := eq_false (by omega)
        have z0 : 0 < H.size := by omega
        have gz0 : ((0 : Int) < (H.size : Int)) = True := eq_true (by omega)
        by_cases a0 : byteAt H 0 = 10
        case neg =>
          rw [hstF 3 (hs1 (by rw [hbr]; simp [z0, a0]))]
          simp (maxSteps := 200000) (disch := first | (simp only [go_sem, Nat.reduceAdd, Nat.reduceSub, Nat.reduceMul, Nat.reduceLeDiff, Nat.reduceEqDiff, Nat.reduceLT, Nat.reduceBEq, Nat.reduceBNe, Nat.reducePow, ↓reduceIte]; done) | omega | (simp only [go_sem, Nat.reduceAdd, Nat.reduceSub, Nat.reduceMul, Nat.reduceLeDiff, Nat.reduceEqDiff, Nat.reduceLT, Nat.reduceBEq, Nat.reduceBNe, Nat.reducePow, ↓reduceIte] <;> omega) | fail) only [go_sem, Nat.reduceAdd, Nat.reduceSub, Nat.reduceMul, Nat.reduceLeDiff, Nat.reduceEqDiff, Nat.reduceLT, Nat.reduceBEq, Nat.reduceBNe, Nat.reducePow, ↓reduceIte, gm, gl, ge, g10, hHd, g9, gz0, a0, ne_eq, not_true, not_false_eq_true, hdies]
        have ga0 := eq_true a0
        have gw1 : IntKind.i64.wrap ((e : Int) + 1) = ((e + 1 : Nat) : Int) := by rw [IntWalk.i64_in _ (by omega)]; omega
        have ge1 : (e + 1 ≤ b.size) = True := eq_true (by omega)
        have hT := sizeS_T H
        by_cases z1 : 1 < H.size
        case neg =>
          have gz1 : ((1 : Int) < (H.size : Int)) = False := eq_false (by omega)
          have hbad : badH H = false := by rw [hbr]; simp [h9, z1, a0]
          have h2 : ¬ H = ⟨#[10, 35, 35]⟩ := fun h => z1 (by rw [h]; decide)
          have h2' : ¬ H = s2H := h2
          rw [hstF 3 (by rw [hs2 hbad, if_neg h2', hT, if_pos (.inl (by omega))])]
          simp (maxSteps := 200000) (disch := first | (simp only [go_sem, Nat.reduceAdd, Nat.reduceSub, Nat.reduceMul, Nat.reduceLeDiff, Nat.reduceEqDiff, Nat.reduceLT, Nat.reduceBEq, Nat.reduceBNe, Nat.reducePow, ↓reduceIte]; done) | omega | (simp only [go_sem, Nat.reduceAdd, Nat.reduceSub, Nat.reduceMul, Nat.reduceLeDiff, Nat.reduceEqDiff, Nat.reduceLT, Nat.reduceBEq, Nat.reduceBNe, Nat.reducePow, ↓reduceIte] <;> omega) | fail) only [go_sem, Nat.reduceAdd, Nat.reduceSub, Nat.reduceMul, Nat.reduceLeDiff, Nat.reduceEqDiff, Nat.reduceLT, Nat.reduceBEq, Nat.reduceBNe, Nat.reducePow, ↓reduceIte, gm, gl, ge, g10, hHd, g9, gz0, gz1, ga0, h2, ne_eq, not_true, hdies]
          refine WP_loopR 31 1 (fun (_ : Nat) => S_16_31 (.ptr 0 0) (vI e) (vS H) (vI 0) (vI 2) [mB true b m s false]) (fun _ => 0) (fun _ => True) 0 rfl rfl ?_ ?_ ?_
          · simp (maxSteps := 200000) (disch := first | (simp only [go_sem, Nat.reduceAdd, Nat.reduceSub, Nat.reduceMul, Nat.reduceLeDiff, Nat.reduceEqDiff, Nat.reduceLT, Nat.reduceBEq, Nat.reduceBNe, Nat.reducePow, ↓reduceIte]; done) | omega | (simp only [go_sem, Nat.reduceAdd, Nat.reduceSub, Nat.reduceMul, Nat.reduceLeDiff, Nat.reduceEqDiff, Nat.reduceLT, Nat.reduceBEq, Nat.reduceBNe, Nat.reducePow, ↓reduceIte] <;> omega) | fail) only [go_sem, Nat.reduceAdd, Nat.reduceSub, Nat.reduceMul, Nat.reduceLeDiff, Nat.reduceEqDiff, Nat.reduceLT, Nat.reduceBEq, Nat.reduceBNe, Nat.reducePow, ↓reduceIte]
          · trivial
          · rintro _ -
            have q1 : ((2 : Int) < (H.size : Int)) = False := eq_false (by omega)
            have q2 : ((H.size : Int) < 3) = True := eq_true (by omega)
            simp (maxSteps := 200000) (disch := first | (simp only [go_sem, Nat.reduceAdd, Nat.reduceSub, Nat.reduceMul, Nat.reduceLeDiff, Nat.reduceEqDiff, Nat.reduceLT, Nat.reduceBEq, Nat.reduceBNe, Nat.reducePow, ↓reduceIte]; done) | omega | (simp only [go_sem, Nat.reduceAdd, Nat.reduceSub, Nat.reduceMul, Nat.reduceLeDiff, Nat.reduceEqDiff, Nat.reduceLT, Nat.reduceBEq, Nat.reduceBNe, Nat.reducePow, ↓reduceIte] <;> omega) | fail) only [go_sem, Nat.reduceAdd, Nat.reduceSub, Nat.reduceMul, Nat.reduceLeDiff, Nat.reduceEqDiff, Nat.reduceLT, Nat.reduceBEq, Nat.reduceBNe, Nat.reducePow, ↓reduceIte, q1, q2, hdies]
        have gz1 : ((1 : Int) < (H.size : Int)) = True := eq_true (by omega)
        by_cases a1 : byteAt H 1 = 35
        case neg =>
          rw [hstF 3 (hs1 (by rw [hbr]; simp [z1, a1]))]
          simp (maxSteps := 200000) (disch := first | (simp only [go_sem, Nat.reduceAdd, Nat.reduceSub, Nat.reduceMul, Nat.reduceLeDiff, Nat.reduceEqDiff, Nat.reduceLT, Nat.reduceBEq, Nat.reduceBNe, Nat.reducePow, ↓reduceIte]; done) | omega | (simp only [go_sem, Nat.reduceAdd, Nat.reduceSub, Nat.reduceMul, Nat.reduceLeDiff, Nat.reduceEqDiff, Nat.reduceLT, Nat.reduceBEq, Nat.reduceBNe, Nat.reducePow, ↓reduceIte] <;> omega) | fail) only [go_sem, Nat.reduceAdd, Nat.reduceSub, Nat.reduceMul, Nat.reduceLeDiff, Nat.reduceEqDiff, Nat.reduceLT, Nat.reduceBEq, Nat.reduceBNe, Nat.reducePow, ↓reduceIte, gm, gl, ge, g10, hHd, g9, gz0, gz1, ga0, a1, ne_eq, not_true, not_false_eq_true, hdies]
        have ga1 := eq_true a1
        have hbad : badH H = false := by rw [hbr]; simp [h9, a0, a1]
        by_cases h2 : H = ⟨#[10, 35, 35]⟩
        · have g2 := eq_true h2
          have h2' : H = s2H := h2
          cases s with
          | false =>
            rw [hstF 3 (by rw [hs2 hbad, if_pos h2']; rfl)]
            simp (maxSteps := 200000) (disch := first | (simp only [go_sem, Nat.reduceAdd, Nat.reduceSub, Nat.reduceMul, Nat.reduceLeDiff, Nat.reduceEqDiff, Nat.reduceLT, Nat.reduceBEq, Nat.reduceBNe, Nat.reducePow, ↓reduceIte]; done) | omega | (simp only [go_sem, Nat.reduceAdd, Nat.reduceSub, Nat.reduceMul, Nat.reduceLeDiff, Nat.reduceEqDiff, Nat.reduceLT, Nat.reduceBEq, Nat.reduceBNe, Nat.reducePow, ↓reduceIte] <;> omega) | fail) only [go_sem, Nat.reduceAdd, Nat.reduceSub, Nat.reduceMul, Nat.reduceLeDiff, Nat.reduceEqDiff, Nat.reduceLT, Nat.reduceBEq, Nat.reduceBNe, Nat.reducePow, ↓reduceIte, gm, gl, ge, g10, hHd, g9, gz0, gz1, ga0, ga1, g2, ne_eq, not_true, hdies]
          | true =>
            rw [hstM (b.extract (e + 1) b.size) (by rw [hs2 hbad, if_pos h2']; rfl)]
            simp (maxSteps := 200000) (disch := first | (simp only [go_sem, Nat.reduceAdd, Nat.reduceSub, Nat.reduceMul, Nat.reduceLeDiff, Nat.reduceEqDiff, Nat.reduceLT, Nat.reduceBEq, Nat.reduceBNe, Nat.reducePow, ↓reduceIte]; done) | omega | (simp only [go_sem, Nat.reduceAdd, Nat.reduceSub, Nat.reduceMul, Nat.reduceLeDiff, Nat.reduceEqDiff, Nat.reduceLT, Nat.reduceBEq, Nat.reduceBNe, Nat.reducePow, ↓reduceIte] <;> omega) | fail) only [go_sem, Nat.reduceAdd, Nat.reduceSub, Nat.reduceMul, Nat.reduceLeDiff, Nat.reduceEqDiff, Nat.reduceLT, Nat.reduceBEq, Nat.reduceBNe, Nat.reducePow, ↓reduceIte, gm, gl, ge, g10, hHd, g9, gz0, gz1, ga0, ga1, g2, gw1, ge1, ne_eq, not_true]
        have h2' : ¬ H = s2H := h2
        rw [hT] at hs2
        have hs3 := hs2 hbad
        rw [if_neg h2'] at hs3
        clear hs2
        simp (maxSteps := 200000) (disch := first | (simp only [go_sem, Nat.reduceAdd, Nat.reduceSub, Nat.reduceMul, Nat.reduceLeDiff, Nat.reduceEqDiff, Nat.reduceLT, Nat.reduceBEq, Nat.reduceBNe, Nat.reducePow, ↓reduceIte]; done) | omega | (simp only [go_sem, Nat.reduceAdd, Nat.reduceSub, Nat.reduceMul, Nat.reduceLeDiff, Nat.reduceEqDiff, Nat.reduceLT, Nat.reduceBEq, Nat.reduceBNe, Nat.reducePow, ↓reduceIte] <;> omega) | fail) only [go_sem, Nat.reduceAdd, Nat.reduceSub, Nat.reduceMul, Nat.reduceLeDiff, Nat.reduceEqDiff, Nat.reduceLT, Nat.reduceBEq, Nat.reduceBNe, Nat.reducePow, ↓reduceIte, gm, gl, ge, g10, hHd, g9, gz0, gz1, ga0, ga1, h2, ne_eq, not_true, hdies]
        have hLz : (by' H).length = H.size := by_len H
        obtain ⟨D, hDd⟩ : ∃ D, (by' H).drop 2 = D := ⟨_, rfl⟩
        have hDz : D.length = H.size - 2 := by rw [← hDd, List.length_drop, hLz]
        have hDb : ∀ i, (hi : i < D.length) → byteAt H (i + 2) = (D[i].toNat : Int) := by
          intro i hi
          have e : D[i] = (by' H)[i + 2]'(by omega) := by
            have : D[i]? = (by' H)[i + 2]? := by rw [← hDd, List.getElem?_drop, Nat.add_comm]
            rw [List.getElem?_eq_getElem hi, List.getElem?_eq_getElem (by omega)] at this
            exact Option.some.inj this
          rw [byteAt_by H (i + 2) (by omega), e]
        simp only [hDd] at hs3
        refine WP_loopR 31 1 (fun (i : Nat) => S_16_31 (.ptr 0 0) (vI e) (vS H) (vI (valN (D.take i))) (vI (i + 2 : Nat)) [mB true b m s false]) (fun i => H.size - i) (fun i => i ≤ D.length ∧ ∀ c ∈ D.take i, isD c = true) 0 rfl rfl ?_ ?_ ?_
        · simp (maxSteps := 200000) (disch := first | (simp only [go_sem, Nat.reduceAdd, Nat.reduceSub, Nat.reduceMul, Nat.reduceLeDiff, Nat.reduceEqDiff, Nat.reduceLT, Nat.reduceBEq, Nat.reduceBNe, Nat.reducePow, ↓reduceIte]; done) | omega | (simp only [go_sem, Nat.reduceAdd, Nat.reduceSub, Nat.reduceMul, Nat.reduceLeDiff, Nat.reduceEqDiff, Nat.reduceLT, Nat.reduceBEq, Nat.reduceBNe, Nat.reducePow, ↓reduceIte] <;> omega) | fail) only [go_sem, Nat.reduceAdd, Nat.reduceSub, Nat.reduceMul, Nat.reduceLeDiff, Nat.reduceEqDiff, Nat.reduceLT, Nat.reduceBEq, Nat.reduceBNe, Nat.reducePow, ↓reduceIte]; rfl
        · exact ⟨Nat.zero_le _, by simp⟩
        · rintro i ⟨hil, hI2⟩
          by_cases hin : i < D.length
          case pos =>
            have q1 : (((i + 2 : Nat) : Int) < (H.size : Int)) = True := eq_true (by omega)
            have hv := valN_lt' (D.take i) hI2
            rw [List.length_take, Nat.min_eq_left (by omega)] at hv
            have hp : (10 : Nat) ^ i ≤ 10 ^ 17 := Nat.pow_le_pow_right (by omega) (by omega)
            have hby := hDb i hin
            have htk : valN (D.take (i + 1)) = valN (D.take i) * 10 + (D[i].toNat - 48) := by
              rw [List.take_succ_eq_append_getElem hin, valN_snoc]
            have hmem : D[i] ∈ D := List.getElem_mem hin
            have hnone : isD D[i] = false → step b m s = .fail 3 := fun hd => by
              have : D.all isD = false := by
                rw [← Bool.not_eq_true, List.all_eq_true]
                intro hh
                rw [hh _ hmem] at hd; cases hd
              rw [hs3, this]
              split
              · rfl
              · rename_i n hn
                split at hn <;> simp at hn
            have hsucc : isD D[i] = true → ∀ c ∈ D.take (i + 1), isD c = true := fun hd c hc => by
              rw [List.take_succ_eq_append_getElem hin, List.mem_append, List.mem_singleton] at hc
              rcases hc with hc | rfl
              · exact hI2 c hc
              · exact hd
            have hcl := D[i].toNat_lt
            generalize D[i] = c at *
            have qi : i + 2 < H.size := by omega
            by_cases h48 : c.toNat < 48
            · have g : (byteAt H (i + 2) < 48) = True := eq_true (by omega)
              rw [hstF 3 (hnone (by simp [isD]; omega))]
              simp (maxSteps := 200000) (disch := first | (simp only [go_sem, Nat.reduceAdd, Nat.reduceSub, Nat.reduceMul, Nat.reduceLeDiff, Nat.reduceEqDiff, Nat.reduceLT, Nat.reduceBEq, Nat.reduceBNe, Nat.reducePow, ↓reduceIte]; done) | omega | (simp only [go_sem, Nat.reduceAdd, Nat.reduceSub, Nat.reduceMul, Nat.reduceLeDiff, Nat.reduceEqDiff, Nat.reduceLT, Nat.reduceBEq, Nat.reduceBNe, Nat.reducePow, ↓reduceIte] <;> omega) | fail) only [go_sem, Nat.reduceAdd, Nat.reduceSub, Nat.reduceMul, Nat.reduceLeDiff, Nat.reduceEqDiff, Nat.reduceLT, Nat.reduceBEq, Nat.reduceBNe, Nat.reducePow, ↓reduceIte, q1, g, hdies]
            · have g : (byteAt H (i + 2) < 48) = False := eq_false (by omega)
              by_cases h57 : 57 < c.toNat
              · have g2 : (57 < byteAt H (i + 2)) = True := eq_true (by omega)
                rw [hstF 3 (hnone (by simp [isD]; omega))]
                simp (maxSteps := 200000) (disch := first | (simp only [go_sem, Nat.reduceAdd, Nat.reduceSub, Nat.reduceMul, Nat.reduceLeDiff, Nat.reduceEqDiff, Nat.reduceLT, Nat.reduceBEq, Nat.reduceBNe, Nat.reducePow, ↓reduceIte]; done) | omega | (simp only [go_sem, Nat.reduceAdd, Nat.reduceSub, Nat.reduceMul, Nat.reduceLeDiff, Nat.reduceEqDiff, Nat.reduceLT, Nat.reduceBEq, Nat.reduceBNe, Nat.reducePow, ↓reduceIte] <;> omega) | fail) only [go_sem, Nat.reduceAdd, Nat.reduceSub, Nat.reduceMul, Nat.reduceLeDiff, Nat.reduceEqDiff, Nat.reduceLT, Nat.reduceBEq, Nat.reduceBNe, Nat.reducePow, ↓reduceIte, q1, g, g2, hdies]
              · have g2 : (57 < byteAt H (i + 2)) = False := eq_false (by omega)
                have e1 : IntKind.i64.wrap ((valN (D.take i) : Int) * 10) = ((valN (D.take i) * 10 : Nat) : Int) := by rw [IntWalk.i64_in _ (by omega)]; omega
                have e2 : IntKind.u8.wrap (byteAt H (i + 2) - 48) = ((c.toNat - 48 : Nat) : Int) := by rw [IntWalk.u8_in _ (by omega)]; omega
                have e3 : IntKind.i64.wrap ((c.toNat - 48 : Nat) : Int) = ((c.toNat - 48 : Nat) : Int) := IntWalk.i64_in _ (by omega)
                have e4 : IntKind.i64.wrap (((valN (D.take i) * 10 : Nat) : Int) + ((c.toNat - 48 : Nat) : Int)) = ((valN (D.take (i + 1)) : Nat) : Int) := by rw [IntWalk.i64_in _ (by omega), htk]; omega
                have e5 : IntKind.i64.wrap (((i + 2 : Nat) : Int) + 1) = (((i + 1) + 2 : Nat) : Int) := by rw [IntWalk.i64_in _ (by omega)]; omega
                simp (maxSteps := 200000) (disch := first | (simp only [go_sem, Nat.reduceAdd, Nat.reduceSub, Nat.reduceMul, Nat.reduceLeDiff, Nat.reduceEqDiff, Nat.reduceLT, Nat.reduceBEq, Nat.reduceBNe, Nat.reducePow, ↓reduceIte]; done) | omega | (simp only [go_sem, Nat.reduceAdd, Nat.reduceSub, Nat.reduceMul, Nat.reduceLeDiff, Nat.reduceEqDiff, Nat.reduceLT, Nat.reduceBEq, Nat.reduceBNe, Nat.reducePow, ↓reduceIte] <;> omega) | fail) only [go_sem, Nat.reduceAdd, Nat.reduceSub, Nat.reduceMul, Nat.reduceLeDiff, Nat.reduceEqDiff, Nat.reduceLT, Nat.reduceBEq, Nat.reduceBNe, Nat.reducePow, ↓reduceIte, q1, g, g2, e1, e2, e3, e4, e5]
                exact ⟨i + 1, rfl, ⟨by omega, hsucc (by simp [isD]; omega)⟩, by omega⟩
          have hie : i = D.length := by omega
          subst hie
          rw [List.take_length] at hI2 ⊢
          have q1 : (((D.length + 2 : Nat) : Int) < (H.size : Int)) = False := eq_false (by omega)
          rw [if_pos (List.all_eq_true.2 hI2)] at hs3
          have hv := valN_lt' D hI2
          have hp : (10 : Nat) ^ D.length ≤ 10 ^ 7 := Nat.pow_le_pow_right (by omega) (by omega)
          by_cases h3 : H.size < 3
          · have g3 : ((H.size : Int) < 3) = True := eq_true (by omega)
            rw [hstF 3 (by rw [hs3, if_pos (.inl h3)])]
            simp (maxSteps := 200000) (disch := first | (simp only [go_sem, Nat.reduceAdd, Nat.reduceSub, Nat.reduceMul, Nat.reduceLeDiff, Nat.reduceEqDiff, Nat.reduceLT, Nat.reduceBEq, Nat.reduceBNe, Nat.reducePow, ↓reduceIte]; done) | omega | (simp only [go_sem, Nat.reduceAdd, Nat.reduceSub, Nat.reduceMul, Nat.reduceLeDiff, Nat.reduceEqDiff, Nat.reduceLT, Nat.reduceBEq, Nat.reduceBNe, Nat.reducePow, ↓reduceIte] <;> omega) | fail) only [go_sem, Nat.reduceAdd, Nat.reduceSub, Nat.reduceMul, Nat.reduceLeDiff, Nat.reduceEqDiff, Nat.reduceLT, Nat.reduceBEq, Nat.reduceBNe, Nat.reducePow, ↓reduceIte, q1, g3, hdies]
          have g3 : ((H.size : Int) < 3) = False := eq_false (by omega)
          have qi : 2 < H.size := by omega
          by_cases h48 : byteAt H 2 = 48
          · have g4 := eq_true h48
            rw [hstF 3 (by rw [hs3, if_pos (.inr h48)])]
            simp (maxSteps := 200000) (disch := first | (simp only [go_sem, Nat.reduceAdd, Nat.reduceSub, Nat.reduceMul, Nat.reduceLeDiff, Nat.reduceEqDiff, Nat.reduceLT, Nat.reduceBEq, Nat.reduceBNe, Nat.reducePow, ↓reduceIte]; done) | omega | (simp only [go_sem, Nat.reduceAdd, Nat.reduceSub, Nat.reduceMul, Nat.reduceLeDiff, Nat.reduceEqDiff, Nat.reduceLT, Nat.reduceBEq, Nat.reduceBNe, Nat.reducePow, ↓reduceIte] <;> omega) | fail) only [go_sem, Nat.reduceAdd, Nat.reduceSub, Nat.reduceMul, Nat.reduceLeDiff, Nat.reduceEqDiff, Nat.reduceLT, Nat.reduceBEq, Nat.reduceBNe, Nat.reducePow, ↓reduceIte, q1, g3, g4, hdies]
          rw [if_neg (by omega)] at hs3
          simp only at hs3
          generalize valN D = n at *
          have hw2 : IntKind.i64.wrap ((m.size : Int) + (n : Int)) = ((m.size + n : Nat) : Int) := by rw [IntWalk.i64_in _ (by omega)]; omega
          have hw3 : IntKind.i64.wrap (((e + 1 : Nat) : Int) + (n : Int)) = ((e + 1 + n : Nat) : Int) := by rw [IntWalk.i64_in _ (by omega)]; omega
          have hw4 : IntKind.i64.wrap ((b.size : Int) - (e : Int)) = ((b.size - e : Nat) : Int) := by rw [IntWalk.i64_in _ (by omega)]; omega
          have hw5 : IntKind.i64.wrap (((b.size - e : Nat) : Int) - 1) = ((b.size - e - 1 : Nat) : Int) := by rw [IntWalk.i64_in _ (by omega)]; omega
          by_cases h16 : 16384 < m.size + n
          · have g16 : ((16384 : Int) < ((m.size + n : Nat) : Int)) = True := eq_true (by omega)
            rw [hstF 2 (by rw [hs3, if_pos h16])]
            simp (maxSteps := 200000) (disch := first | (simp only [go_sem, Nat.reduceAdd, Nat.reduceSub, Nat.reduceMul, Nat.reduceLeDiff, Nat.reduceEqDiff, Nat.reduceLT, Nat.reduceBEq, Nat.reduceBNe, Nat.reducePow, ↓reduceIte]; done) | omega | (simp only [go_sem, Nat.reduceAdd, Nat.reduceSub, Nat.reduceMul, Nat.reduceLeDiff, Nat.reduceEqDiff, Nat.reduceLT, Nat.reduceBEq, Nat.reduceBNe, Nat.reducePow, ↓reduceIte] <;> omega) | fail) only [go_sem, Nat.reduceAdd, Nat.reduceSub, Nat.reduceMul, Nat.reduceLeDiff, Nat.reduceEqDiff, Nat.reduceLT, Nat.reduceBEq, Nat.reduceBNe, Nat.reducePow, ↓reduceIte, q1, g3, h48, hw2, g16, hdies]
          · have g16 : ((16384 : Int) < ((m.size + n : Nat) : Int)) = False := eq_false (by omega)
            rw [if_neg h16] at hs3
            by_cases hbl : b.size < e + 1 + n
            · have gb : (((b.size - e - 1 : Nat) : Int) < (n : Int)) = True := eq_true (by omega)
              rw [hstW (by rw [hs3, if_pos hbl])]
              simp (maxSteps := 200000) (disch := first | (simp only [go_sem, Nat.reduceAdd, Nat.reduceSub, Nat.reduceMul, Nat.reduceLeDiff, Nat.reduceEqDiff, Nat.reduceLT, Nat.reduceBEq, Nat.reduceBNe, Nat.reducePow, ↓reduceIte]; done) | omega | (simp only [go_sem, Nat.reduceAdd, Nat.reduceSub, Nat.reduceMul, Nat.reduceLeDiff, Nat.reduceEqDiff, Nat.reduceLT, Nat.reduceBEq, Nat.reduceBNe, Nat.reducePow, ↓reduceIte] <;> omega) | fail) only [go_sem, Nat.reduceAdd, Nat.reduceSub, Nat.reduceMul, Nat.reduceLeDiff, Nat.reduceEqDiff, Nat.reduceLT, Nat.reduceBEq, Nat.reduceBNe, Nat.reducePow, ↓reduceIte, q1, g3, h48, hw2, hw4, hw5, g16, gb]
            · have gb : (((b.size - e - 1 : Nat) : Int) < (n : Int)) = False := eq_false (by omega)
              rw [if_neg hbl] at hs3
              have hib4 : (e + 1 + n ≤ b.size) = True := eq_true (by omega)
              have hib5 : (e + 1 ≤ e + 1 + n) = True := eq_true (by omega)
              simp (maxSteps := 200000) (disch := first | (simp only [go_sem, Nat.reduceAdd, Nat.reduceSub, Nat.reduceMul, Nat.reduceLeDiff, Nat.reduceEqDiff, Nat.reduceLT, Nat.reduceBEq, Nat.reduceBNe, Nat.reducePow, ↓reduceIte]; done) | omega | (simp only [go_sem, Nat.reduceAdd, Nat.reduceSub, Nat.reduceMul, Nat.reduceLeDiff, Nat.reduceEqDiff, Nat.reduceLT, Nat.reduceBEq, Nat.reduceBNe, Nat.reducePow, ↓reduceIte] <;> omega) | fail) only [go_sem, Nat.reduceAdd, Nat.reduceSub, Nat.reduceMul, Nat.reduceLeDiff, Nat.reduceEqDiff, Nat.reduceLT, Nat.reduceBEq, Nat.reduceBNe, Nat.reducePow, ↓reduceIte, q1, g3, h48, gw1, hw2, hw3, hw4, hw5, g16, gb, ge1, hib4, hib5]
              refine ⟨(k, b.extract (e + 1 + n) b.size, m ++ b.extract (e + 1) (e + 1 + n), true), rfl, ⟨?_, ?_, ?_, ?_⟩, Nat.lt_succ_self _⟩
              · simp only [ByteArray.size_extract]; omega
              · simp only [ByteArray.size_extract]; omega
              · simp only [ByteArray.size_append, ByteArray.size_extract]; omega
              · rw [hI, runK_more hs3]
end Go.Abs.BB
end

section
set_option linter.unusedVariables false
set_option linter.unusedSimpArgs false
set_option linter.unusedSectionVars false
set_option maxRecDepth 100000
set_option maxHeartbeats 8000000
set_option linter.unusedSimpArgs false
set_option linter.unusedVariables false
namespace Go.Abs.BB
open Go.Proofs

abbrev outD (c : Bool) (x : Res) : AV × List Blk := (.tup [vS x.r, vI x.e], [dB c (if x.bad = true then e0 else x.b) (if x.bad = true then e0 else x.m) x.s (if x.bad = true then x.e else 0)])
theorem outA_D (c : Bool) (e : End) (h : ∀ b m, e.out ≠ .more b m) : outA c e = outD c (resC e) := by
  obtain ⟨o, b, m, s⟩ := e
  cases o with
  | more b' m' => exact absurd rfl (h b' m')
  | _ => rfl
theorem runK_out : ∀ (k : Nat) (b m : Str) (s : Bool) (x y : Str), (runK k b m s).out ≠ .more x y
  | 0, b, m, s, x, y => by rw [runK]; simp
  | k + 1, b, m, s, x, y => by
    rw [runK_s]
    cases step b m s with
    | more b' m' => exact runK_out k b' m' true x y
    | _ => simp [contK]
theorem chunk_spec' (c : Bool) (b0 m0 : Str) (s0 : Bool) (hb : b0.size ≤ 1000000000) (hm : m0.size ≤ 1000000000) :
    loudW XX 18 [.ptr 0 0] [dB c b0 m0 s0 0] = some (outD c (resC (runC b0 m0 s0))) := by
  rw [chunk_spec c b0 m0 s0 hb hm, outA_D c (runC b0 m0 s0) (fun b m => runK_out _ _ _ _ _ _)]
theorem next_spec (c : Bool) (b0 m0 : Str) (s0 : Bool) (hb : b0.size ≤ 1000000000) (hm : m0.size ≤ 1000000000) :
    loudW XX 14 [.ptr 0 0] [dB c b0 m0 s0 0] = some (outD c (nextR c b0 m0 s0)) := by
  refine loudW_in 68 Tryd.func14 Tryd.ntmps14 (by simp) (rfl : Tryd.f14.body = some _) fns_14 ?_
  unfold nextR
  cases c with
  | false =>
    rw [if_neg (by simp)]
    have hf := index_spec b0 sEnd (by omega)
    have hge := Lib.index_ge (by' b0) (by' sEnd)
    have hle : Lib.index (by' b0) (by' sEnd) + 6 ≤ b0.size ∨ Lib.index (by' b0) (by' sEnd) = -1 := by
      rcases index_room (by' b0) (by' sEnd) (by decide) with h | ⟨j, h, h2⟩
      · exact .inr h
      · left
        rw [h]
        rw [by_len, by_len, show sEnd.size = 6 from rfl] at h2
        omega
    have hfail := call_fail 14 (by rw [live_14]; rfl)
    unfold sEnd at hf hge hle ⊢
    unfold resF
    generalize Lib.index (by' b0) (by' ⟨#[93, 93, 62, 93, 93, 62]⟩) = i at *
    by_cases h1 : 16384 < i
    · rw [if_pos (.inl h1)]
      have g1 := eq_true h1
      simp (maxSteps := 200000) (disch := first | (simp only [go_sem, Nat.reduceAdd, Nat.reduceSub, Nat.reduceMul, Nat.reduceLeDiff, Nat.reduceEqDiff, Nat.reduceLT, Nat.reduceBEq, Nat.reduceBNe, Nat.reducePow, ↓reduceIte]; done) | omega | (simp only [go_sem, Nat.reduceAdd, Nat.reduceSub, Nat.reduceMul, Nat.reduceLeDiff, Nat.reduceEqDiff, Nat.reduceLT, Nat.reduceBEq, Nat.reduceBNe, Nat.reducePow, ↓reduceIte] <;> omega) | fail) only [go_sem, Nat.reduceAdd, Nat.reduceSub, Nat.reduceMul, Nat.reduceLeDiff, Nat.reduceEqDiff, Nat.reduceLT, Nat.reduceBEq, Nat.reduceBNe, Nat.reducePow, ↓reduceIte, ne_eq, not_true, callA_data mode_19, hf, g1, hfail]
      rfl
    · have g1 := eq_false h1
      by_cases h2 : i < 0
      · have g2 := eq_true h2
        by_cases h3 : (16390 : Int) ≤ (b0.size : Int)
        · have g3 := eq_true h3
          rw [if_pos (.inr ⟨h2, h3⟩)]
          simp (maxSteps := 200000) (disch := first | (simp only [go_sem, Nat.reduceAdd, Nat.reduceSub, Nat.reduceMul, Nat.reduceLeDiff, Nat.reduceEqDiff, Nat.reduceLT, Nat.reduceBEq, Nat.reduceBNe, Nat.reducePow, ↓reduceIte]; done) | omega | (simp only [go_sem, Nat.reduceAdd, Nat.reduceSub, Nat.reduceMul, Nat.reduceLeDiff, Nat.reduceEqDiff, Nat.reduceLT, Nat.reduceBEq, Nat.reduceBNe, Nat.reducePow, ↓reduceIte] <;> omega) | fail) only [go_sem, Nat.reduceAdd, Nat.reduceSub, Nat.reduceMul, Nat.reduceLeDiff, Nat.reduceEqDiff, Nat.reduceLT, Nat.reduceBEq, Nat.reduceBNe, Nat.reducePow, ↓reduceIte, ne_eq, not_true, callA_data mode_19, hf, g1, g2, g3, hfail]
          rfl
        · have g3 := eq_false h3
          rw [if_neg (by omega), if_pos h2]
          simp (maxSteps := 200000) (disch := first | (simp only [go_sem, Nat.reduceAdd, Nat.reduceSub, Nat.reduceMul, Nat.reduceLeDiff, Nat.reduceEqDiff, Nat.reduceLT, Nat.reduceBEq, Nat.reduceBNe, Nat.reducePow, ↓reduceIte]; done) | omega | (simp only [go_sem, Nat.reduceAdd, Nat.reduceSub, Nat.reduceMul, Nat.reduceLeDiff, Nat.reduceEqDiff, Nat.reduceLT, Nat.reduceBEq, Nat.reduceBNe, Nat.reducePow, ↓reduceIte] <;> omega) | fail) only [go_sem, Nat.reduceAdd, Nat.reduceSub, Nat.reduceMul, Nat.reduceLeDiff, Nat.reduceEqDiff, Nat.reduceLT, Nat.reduceBEq, Nat.reduceBNe, Nat.reducePow, ↓reduceIte, ne_eq, not_true, callA_data mode_19, hf, g1, g2, g3, hfail]
          rfl
      · have g2 := eq_false h2
        rw [if_neg (by omega), if_neg h2]
        obtain ⟨n, rfl⟩ : ∃ n : Nat, i = (n : Int) := ⟨i.toNat, by omega⟩
        have e1 : IntKind.i64.wrap ((n : Int) + 6) = ((n + 6 : Nat) : Int) := by rw [IntWalk.i64_in _ (by omega)]; omega
        have g4 : (n ≤ b0.size) = True := eq_true (by omega)
        have g5 : (n + 6 ≤ b0.size) = True := eq_true (by omega)
        simp (maxSteps := 200000) (disch := first | (simp only [go_sem, Nat.reduceAdd, Nat.reduceSub, Nat.reduceMul, Nat.reduceLeDiff, Nat.reduceEqDiff, Nat.reduceLT, Nat.reduceBEq, Nat.reduceBNe, Nat.reducePow, ↓reduceIte]; done) | omega | (simp only [go_sem, Nat.reduceAdd, Nat.reduceSub, Nat.reduceMul, Nat.reduceLeDiff, Nat.reduceEqDiff, Nat.reduceLT, Nat.reduceBEq, Nat.reduceBNe, Nat.reducePow, ↓reduceIte] <;> omega) | fail) only [go_sem, Nat.reduceAdd, Nat.reduceSub, Nat.reduceMul, Nat.reduceLeDiff, Nat.reduceEqDiff, Nat.reduceLT, Nat.reduceBEq, Nat.reduceBNe, Nat.reducePow, ↓reduceIte, ne_eq, not_true, callA_data mode_19, hf, g1, g2, e1, g4, g5, Int.toNat_natCast]
        rfl
  | true =>
    rw [if_pos rfl]
    have hch := chunk_spec' true b0 m0 s0 hb hm
    have hc : ∀ t, callX XX (orW XX) ⟨t, [dB true b0 m0 s0 0]⟩ 14 18 [.ptr 0 0] = some (.st (.tup [vS (resC (runC b0 m0 s0)).r, vI (resC (runC b0 m0 s0)).e]) ⟨t, (outD true (resC (runC b0 m0 s0))).2⟩) := fun t =>
      callX_var 0 (by rw [live_14]; rfl) rfl rfl rfl rfl rfl rfl hch
    generalize resC (runC b0 m0 s0) = x at *
    simp only [outD] at hc
    simp (maxSteps := 200000) (disch := first | (simp only [go_sem, Nat.reduceAdd, Nat.reduceSub, Nat.reduceMul, Nat.reduceLeDiff, Nat.reduceEqDiff, Nat.reduceLT, Nat.reduceBEq, Nat.reduceBNe, Nat.reducePow, ↓reduceIte]; done) | omega | (simp only [go_sem, Nat.reduceAdd, Nat.reduceSub, Nat.reduceMul, Nat.reduceLeDiff, Nat.reduceEqDiff, Nat.reduceLT, Nat.reduceBEq, Nat.reduceBNe, Nat.reducePow, ↓reduceIte] <;> omega) | fail) only [go_sem, Nat.reduceAdd, Nat.reduceSub, Nat.reduceMul, Nat.reduceLeDiff, Nat.reduceEqDiff, Nat.reduceLT, Nat.reduceBEq, Nat.reduceBNe, Nat.reducePow, ↓reduceIte, ne_eq, not_true, hc]
/-- A decoder that has failed. -/
theorem next_bad (c : Bool) (b0 m0 : Str) (s0 : Bool) (e : Int) (he : e ≠ 0) : loudW XX 14 [.ptr 0 0] [dB c b0 m0 s0 e] = some (.tup [vS e0, vI 9], [dB c b0 m0 s0 e]) := by
  refine loudW_in 68 Tryd.func14 Tryd.ntmps14 (by simp) (rfl : Tryd.f14.body = some _) fns_14 ?_
  simp (maxSteps := 200000) (disch := first | (simp only [go_sem, Nat.reduceAdd, Nat.reduceSub, Nat.reduceMul, Nat.reduceLeDiff, Nat.reduceEqDiff, Nat.reduceLT, Nat.reduceBEq, Nat.reduceBNe, Nat.reducePow, ↓reduceIte]; done) | omega | (simp only [go_sem, Nat.reduceAdd, Nat.reduceSub, Nat.reduceMul, Nat.reduceLeDiff, Nat.reduceEqDiff, Nat.reduceLT, Nat.reduceBEq, Nat.reduceBNe, Nat.reducePow, ↓reduceIte] <;> omega) | fail) only [go_sem, Nat.reduceAdd, Nat.reduceSub, Nat.reduceMul, Nat.reduceLeDiff, Nat.reduceEqDiff, Nat.reduceLT, Nat.reduceBEq, Nat.reduceBNe, Nat.reducePow, ↓reduceIte, he, ne_eq, not_false_eq_true]
theorem refNext_bad (c : Bool) (b0 m0 : Str) (s0 : Bool) : loudW XX 16 [.ptr 0 0] [mB c b0 m0 s0 true] = some (.tup [vS e0, vI 9], [mB c b0 m0 s0 true]) := by
  refine loudW_in 256 Tryd.func16 Tryd.ntmps16 (by simp) (rfl : Tryd.f16.body = some _) fns_16 ?_
  simp (maxSteps := 200000) (disch := first | (simp only [go_sem, Nat.reduceAdd, Nat.reduceSub, Nat.reduceMul, Nat.reduceLeDiff, Nat.reduceEqDiff, Nat.reduceLT, Nat.reduceBEq, Nat.reduceBNe, Nat.reducePow, ↓reduceIte]; done) | omega | (simp only [go_sem, Nat.reduceAdd, Nat.reduceSub, Nat.reduceMul, Nat.reduceLeDiff, Nat.reduceEqDiff, Nat.reduceLT, Nat.reduceBEq, Nat.reduceBNe, Nat.reducePow, ↓reduceIte] <;> omega) | fail) only [go_sem, Nat.reduceAdd, Nat.reduceSub, Nat.reduceMul, Nat.reduceLeDiff, Nat.reduceEqDiff, Nat.reduceLT, Nat.reduceBEq, Nat.reduceBNe, Nat.reducePow, ↓reduceIte]
end Go.Abs.BB
end

section
set_option linter.unusedVariables false
set_option linter.unusedSimpArgs false
set_option linter.unusedSectionVars false
set_option maxRecDepth 100000
set_option maxHeartbeats 8000000
set_option linter.unusedSimpArgs false
set_option linter.unusedVariables false
namespace Go.Abs.BB
open Go.Proofs

def sAB : Str := ⟨#[97, 98]⟩
def sCD : Str := ⟨#[99, 100]⟩
def encCD : Str := ⟨#[10, 35, 50, 10, 99, 100, 10, 35, 35, 10]⟩
def encAB : Str := ⟨#[10, 35, 50, 10, 97, 98, 10, 35, 35, 10]⟩
def encABf : Str := ⟨#[97, 98, 93, 93, 62, 93, 93, 62]⟩
theorem dd2 : dd 2 = [50] := by
  unfold dd
  rw [if_neg (by decide), Lib.decDigits_one (by decide)]; rfl
theorem enc_cd : encS sCD true = encCD := by
  unfold encS
  rw [if_neg (by simp), if_neg (by decide), show sCD.size = 2 from rfl, dd2]
  kernel_rfl
theorem enc_ab : encS sAB true = encAB := by
  unfold encS
  rw [if_neg (by simp), if_neg (by decide), show sAB.size = 2 from rfl, dd2]
  kernel_rfl
theorem enc_abf : encS sAB false = encABf := by
  unfold encS
  rw [if_pos rfl]
  kernel_rfl
theorem fit1 : nextR false (encABf ++ encCD) e0 false = ⟨sAB, 0, encCD, e0, false, false⟩ := by kernel_rfl
theorem fit2 : nextR true encCD e0 false = ⟨sCD, 0, e0, e0, false, false⟩ := by kernel_rfl
theorem call_next (f : FuncId) (hf : (XX.live f).contains 14 = true) (t : List AV) (bs : List Blk) (c : Bool) (b m : Str) (s : Bool) (hb : b.size ≤ 1000000000) (hm : m.size ≤ 1000000000) :
    callX XX (orW XX) ⟨t, dB c b m s 0 :: bs⟩ f 14 [.ptr 0 0] = some (.st (.tup [vS (nextR c b m s).r, vI (nextR c b m s).e]) ⟨t, dB c (if (nextR c b m s).bad = true then e0 else (nextR c b m s).b) (if (nextR c b m s).bad = true then e0 else (nextR c b m s).m) (nextR c b m s).s (if (nextR c b m s).bad = true then (nextR c b m s).e else 0) :: bs⟩) :=
  callX_var 0 hf rfl rfl rfl rfl rfl rfl (next_spec c b m s hb hm)
theorem call_feed (f : FuncId) (hf : (XX.live f).contains 11 = true) (t : List AV) (bs : List Blk) (c : Bool) (b m : Str) (s : Bool) (e : Int) (x : Str) (fl : Bool) (h : b.size + x.size ≤ 1000000000) :
    callX XX (orW XX) ⟨t, dB c b m s e :: bs⟩ f 11 [.ptr 0 0, .fs (ofBytes x) fl] = some (.st (.tup []) ⟨t, dB c (if e = 0 then b ++ x else b) m s e :: bs⟩) :=
  callX_var 0 hf rfl rfl rfl rfl rfl rfl (feed_spec c b m s e x fl h)
theorem call_switch (f : FuncId) (hf : (XX.live f).contains 10 = true) (t : List AV) (bs : List Blk) (c : Bool) (b m : Str) (s : Bool) (e : Int) :
    callX XX (orW XX) ⟨t, dB c b m s e :: bs⟩ f 10 [.ptr 0 0] = some (.st (.tup []) ⟨t, dB true b m s e :: bs⟩) :=
  callX_var 0 hf rfl rfl rfl rfl rfl rfl (switch_spec c b m s e)
theorem fit_spec : pureW XX 9 [] = some (vB true) := by
  refine pureW_in 38 Tryd.func9 Tryd.ntmps9 (by simp) (rfl : Tryd.f9.body = some _) fns_9 ?_
  have h1 := enc_spec sAB false (by decide)
  have h2 := enc_spec sCD true (by decide)
  have h3 := enc_spec sAB true (by decide)
  rw [enc_abf] at h1
  rw [enc_cd] at h2
  rw [enc_ab] at h3
  have hf := fun t => call_feed 9 (by rw [live_9]; rfl) t [] false e0 e0 false 0 (encABf ++ encCD) false (by decide)
  rw [if_pos rfl, show e0 ++ (encABf ++ encCD) = encABf ++ encCD from by kernel_rfl] at hf
  have hn1 := fun t => call_next 9 (by rw [live_9]; rfl) t [] false (encABf ++ encCD) e0 false (by decide) (by decide)
  rw [fit1] at hn1
  have hs := fun t => call_switch 9 (by rw [live_9]; rfl) t [] false encCD e0 false 0
  have hn2 := fun t => call_next 9 (by rw [live_9]; rfl) t [] true encCD e0 false (by decide) (by decide)
  rw [fit2] at hn2
  have z1 : encABf.size = 8 := rfl
  have z2 : encCD.size = 10 := rfl
  unfold sAB at h1 h3 hn1
  unfold sCD at h2 hn2
  simp only [Bool.false_eq_true, if_false] at hn1 hn2
  unfold encAB at h3
  simp (maxSteps := 200000) (disch := first | (simp only [go_sem, Nat.reduceAdd, Nat.reduceSub, Nat.reduceMul, Nat.reduceLeDiff, Nat.reduceEqDiff, Nat.reduceLT, Nat.reduceBEq, Nat.reduceBNe, Nat.reducePow, ↓reduceIte]; done) | omega | (simp only [go_sem, Nat.reduceAdd, Nat.reduceSub, Nat.reduceMul, Nat.reduceLeDiff, Nat.reduceEqDiff, Nat.reduceLT, Nat.reduceBEq, Nat.reduceBNe, Nat.reducePow, ↓reduceIte] <;> omega) | fail) only [go_sem, Nat.reduceAdd, Nat.reduceSub, Nat.reduceMul, Nat.reduceLeDiff, Nat.reduceEqDiff, Nat.reduceLT, Nat.reduceBEq, Nat.reduceBNe, Nat.reducePow, ↓reduceIte, callA_pure mode_13, h1, h2, h3, z1, z2, hf, hn1, hs, hn2]
theorem writes_law (s : Str) (c : Bool) (hs : s.size ≤ 140737488355328) : pureW XX 6 [vS s, vB c] = some (vB true) := by
  refine pureW_in 19 Tryd.func6 Tryd.ntmps6 (by simp) (rfl : Tryd.f6.body = some _) fns_6 ?_
  by_cases h : (50000 : Int) < (s.size : Int)
  · have g := eq_true h
    simp (maxSteps := 200000) (disch := first | (simp only [go_sem, Nat.reduceAdd, Nat.reduceSub, Nat.reduceMul, Nat.reduceLeDiff, Nat.reduceEqDiff, Nat.reduceLT, Nat.reduceBEq, Nat.reduceBNe, Nat.reducePow, ↓reduceIte]; done) | omega | (simp only [go_sem, Nat.reduceAdd, Nat.reduceSub, Nat.reduceMul, Nat.reduceLeDiff, Nat.reduceEqDiff, Nat.reduceLT, Nat.reduceBEq, Nat.reduceBNe, Nat.reducePow, ↓reduceIte] <;> omega) | fail) only [go_sem, Nat.reduceAdd, Nat.reduceSub, Nat.reduceMul, Nat.reduceLeDiff, Nat.reduceEqDiff, Nat.reduceLT, Nat.reduceBEq, Nat.reduceBNe, Nat.reducePow, ↓reduceIte, callA_pure mode_9, fit_spec, g]
  · have g := eq_false h
    have h1 := enc_spec s c (by omega)
    have h2 := refEnc_spec s c (by omega)
    generalize encS s c = x at *
    simp (maxSteps := 200000) (disch := first | (simp only [go_sem, Nat.reduceAdd, Nat.reduceSub, Nat.reduceMul, Nat.reduceLeDiff, Nat.reduceEqDiff, Nat.reduceLT, Nat.reduceBEq, Nat.reduceBNe, Nat.reducePow, ↓reduceIte]; done) | omega | (simp only [go_sem, Nat.reduceAdd, Nat.reduceSub, Nat.reduceMul, Nat.reduceLeDiff, Nat.reduceEqDiff, Nat.reduceLT, Nat.reduceBEq, Nat.reduceBNe, Nat.reducePow, ↓reduceIte] <;> omega) | fail) only [go_sem, Nat.reduceAdd, Nat.reduceSub, Nat.reduceMul, Nat.reduceLeDiff, Nat.reduceEqDiff, Nat.reduceLT, Nat.reduceBEq, Nat.reduceBNe, Nat.reducePow, ↓reduceIte, callA_pure mode_9, fit_spec, g, callA_pure mode_13, h1, callA_pure mode_15, h2]
end Go.Abs.BB
end
