/- YtoeaiaoojfgjmaaDoorB5: a part of the interpreter by which the claim is shown, and of the walks: no conditions of its own: every theorem states its own. -/
import Derived.Test.YtoeaiaoojfgjmaaDoorB4
section
set_option linter.unusedVariables false
set_option linter.unusedSimpArgs false
set_option linter.unusedSectionVars false
set_option maxRecDepth 100000
set_option maxHeartbeats 4000000
set_option linter.unusedSimpArgs false
set_option linter.unusedVariables false
namespace Go.Abs.BB
open Go.Proofs

attribute [go_sem] ByteArray.size_append ByteArray.size_extract
abbrev Str := ByteArray
abbrev vS (s : Str) : AV := .v (.string s)
abbrev vI (n : Int) : AV := .v (.int .i64 n)
abbrev vB (b : Bool) : AV := .v (.bool b)
theorem back_by (x : ByteArray) : (⟨x.data.toList.toArray⟩ : ByteArray) = x := by simp
attribute [go_sem] back_by
theorem toNat_1 : (1 : Int).toNat = 1 := nr rfl
theorem toNat_2 : (2 : Int).toNat = 2 := nr rfl
attribute [go_sem] toNat_1 toNat_2
theorem scalar_tup (vs : List AV) : (AV.tup vs).scalar = AV.scalars vs := nr (by rw [AV.scalar])
theorem scalars_nil : AV.scalars [] = true := nr (by rw [AV.scalars])
theorem scalars_cons (x : AV) (r : List AV) : AV.scalars (x :: r) = (x.scalar && AV.scalars r) := nr (by rw [AV.scalars])
attribute [go_sem] scalar_tup scalars_nil scalars_cons
theorem bne_f' (b : Bool) : (b != false) = b := by cases b <;> rfl
theorem bne_t' (b : Bool) : (b != true) = !b := by cases b <;> rfl
theorem beq_self' (b : Bool) : (b == b) = true := by cases b <;> rfl
theorem beq_t' (b : Bool) : (b == true) = b := by cases b <;> rfl
theorem beq_f' (b : Bool) : (b == false) = !b := by cases b <;> rfl
attribute [go_sem] bne_f' bne_t' beq_self' beq_t' beq_f'
theorem nat_int {i n : Nat} : ((i : Int) < (n : Int)) = (i < n) := propext (by omega)
theorem nat_le {i n : Nat} : ((i : Int) ≤ (n : Int)) = (i ≤ n) := propext (by omega)
theorem nat_ge {i n : Nat} : ((i : Int) ≥ (n : Int)) = (n ≤ i) := propext (by omega)
theorem nat_gt {i n : Nat} : ((i : Int) > (n : Int)) = (n < i) := propext (by omega)
/-- The bytes of a text. -/
abbrev by' (s : Str) : List UInt8 := s.data.toList
theorem by_len (s : Str) : (by' s).length = s.size := Array.length_toList
theorem by_inj {a b : Str} : by' a = by' b ↔ a = b := by
  constructor
  · intro h
    cases a; cases b
    congr 1
    exact Array.toList_inj.1 h
  · rintro rfl; rfl
theorem by_ext (s : Str) (a b : Nat) : by' (s.extract a b) = ((by' s).drop a).take (b - a) := by
  simp [by', ByteArray.data_extract, Array.toList_extract, List.extract]
theorem by_app (a b : Str) : by' (a ++ b) = by' a ++ by' b := by simp [by', ByteArray.data_append]
theorem byteAt_by (s : Str) (i : Nat) (h : i < s.size) : byteAt s i = (((by' s)[i]'(by rw [by_len]; exact h)).toNat : Int) := by
  unfold byteAt
  have h' : i < s.data.size := h
  have e : s.get! i = s.data[i]! := rfl
  rw [e, getElem!_pos s.data i h']; simp
theorem mode_17 : XX.mode 17 = .data := nr (by kernel_rfl)
theorem mode_19 : XX.mode 19 = .data := nr (by kernel_rfl)
theorem mode_25 : XX.mode 25 = .data := nr (by kernel_rfl)
theorem XX_ext : XX.ext = extB := rfl
theorem itoa_spec (n : Int) (h0 : 0 ≤ n) (h : n ≤ 1000000000000) : pureW XX 17 [vI n] = some (vS ⟨(Lib.itoa n).toArray⟩) := by
  refine loud_pureW (ext_loudW (r := vS ⟨(Lib.itoa n).toArray⟩) ?_) rfl
  rw [XX_ext]
  simp [extB, h0, h]
theorem index_spec (s t : Str) (h : s.size < 4294967281) : pureW XX 19 [vS s, vS t] = some (vI (Lib.index (by' s) (by' t))) := by
  refine loud_pureW (ext_loudW (r := vI (Lib.index (by' s) (by' t))) ?_) rfl
  rw [XX_ext]
  simp [extB, h]
theorem indexByte_spec (s : Str) (c : Int) : pureW XX 25 [vS s, .v (.int .u8 c)] = some (vI (Lib.indexByte (by' s) c.toNat.toUInt8)) :=
  loud_pureW (ext_loudW (r := vI (Lib.indexByte (by' s) c.toNat.toUInt8)) rfl) rfl
/-- Does a text begin with another one? -/
def hasP (s t : Str) : Bool := decide (t.size ≤ s.size) && decide (s.extract 0 t.size = t)
theorem hasP31 (s t : Str) : pureW XX 31 [vS s, vS t] = some (vB (hasP s t)) := by
  refine pureW_in 18 Tryd.func31 Tryd.ntmps31 (by simp) (rfl : Tryd.f31.body = some _) fns_31 ?_
  unfold hasP
  by_cases h : t.size ≤ s.size
  · simp (maxSteps := 200000) (disch := first | (simp only [go_sem, Nat.reduceAdd, Nat.reduceSub, Nat.reduceMul, Nat.reduceLeDiff, Nat.reduceEqDiff, Nat.reduceLT, Nat.reduceBEq, Nat.reduceBNe, Nat.reducePow, ↓reduceIte]; done) | omega | (simp only [go_sem, Nat.reduceAdd, Nat.reduceSub, Nat.reduceMul, Nat.reduceLeDiff, Nat.reduceEqDiff, Nat.reduceLT, Nat.reduceBEq, Nat.reduceBNe, Nat.reducePow, ↓reduceIte] <;> omega) | fail) only [go_sem, Nat.reduceAdd, Nat.reduceSub, Nat.reduceMul, Nat.reduceLeDiff, Nat.reduceEqDiff, Nat.reduceLT, Nat.reduceBEq, Nat.reduceBNe, Nat.reducePow, ↓reduceIte, nat_ge, h]
  · simp (maxSteps := 200000) (disch := first | (simp only [go_sem, Nat.reduceAdd, Nat.reduceSub, Nat.reduceMul, Nat.reduceLeDiff, Nat.reduceEqDiff, Nat.reduceLT, Nat.reduceBEq, Nat.reduceBNe, Nat.reducePow, ↓reduceIte]; done) | omega | (simp only [go_sem, Nat.reduceAdd, Nat.reduceSub, Nat.reduceMul, Nat.reduceLeDiff, Nat.reduceEqDiff, Nat.reduceLT, Nat.reduceBEq, Nat.reduceBNe, Nat.reducePow, ↓reduceIte] <;> omega) | fail) only [go_sem, Nat.reduceAdd, Nat.reduceSub, Nat.reduceMul, Nat.reduceLeDiff, Nat.reduceEqDiff, Nat.reduceLT, Nat.reduceBEq, Nat.reduceBNe, Nat.reducePow, ↓reduceIte, nat_ge, h]
theorem hasP_spec (s t : Str) : pureW XX 26 [vS s, vS t] = some (vB (hasP s t)) := by
  refine pureW_in 8 Tryd.func26 Tryd.ntmps26 (by simp) (rfl : Tryd.f26.body = some _) fns_26 ?_
  simp (maxSteps := 200000) (disch := first | (simp only [go_sem, Nat.reduceAdd, Nat.reduceSub, Nat.reduceMul, Nat.reduceLeDiff, Nat.reduceEqDiff, Nat.reduceLT, Nat.reduceBEq, Nat.reduceBNe, Nat.reducePow, ↓reduceIte]; done) | omega | (simp only [go_sem, Nat.reduceAdd, Nat.reduceSub, Nat.reduceMul, Nat.reduceLeDiff, Nat.reduceEqDiff, Nat.reduceLT, Nat.reduceBEq, Nat.reduceBNe, Nat.reducePow, ↓reduceIte] <;> omega) | fail) only [go_sem, Nat.reduceAdd, Nat.reduceSub, Nat.reduceMul, Nat.reduceLeDiff, Nat.reduceEqDiff, Nat.reduceLT, Nat.reduceBEq, Nat.reduceBNe, Nat.reducePow, ↓reduceIte, callA_pure mode_31, hasP31]
/-- The number that digits are. -/
def isD (c : UInt8) : Bool := decide (48 ≤ c.toNat) && decide (c.toNat ≤ 57)
def valN (l : List UInt8) : Nat := l.foldl (fun n c => n * 10 + (c.toNat - 48)) 0
theorem valN_snoc (l : List UInt8) (c : UInt8) : valN (l ++ [c]) = valN l * 10 + (c.toNat - 48) := by simp [valN]
theorem valN_lt (l : List UInt8) (h : ∀ c ∈ l, isD c = true) : ∀ i, i ≤ l.length → valN (l.take i) < 10 ^ i
  | 0, _ => by simp [valN]
  | i + 1, hi => by
    have h1 := valN_lt l h i (by omega)
    have h2 := h l[i] (List.getElem_mem (by omega))
    simp [isD] at h2
    rw [List.take_succ_eq_append_getElem (by omega), valN_snoc, Nat.pow_succ]
    omega
theorem valN_lt' (l : List UInt8) (h : ∀ c ∈ l, isD c = true) : valN l < 10 ^ l.length := by
  have := valN_lt l h l.length (Nat.le_refl _)
  rwa [List.take_length] at this
def sizeS (s : Str) : Option Nat := if s.size = 0 ∨ byteAt s 0 = 48 then none else if (by' s).all isD then some (valN (by' s)) else none
abbrev aSize : Option Nat → AV
  | some n => .tup [vI n, vB true]
  | none => .tup [vI 0, vB false]
theorem size_spec (s : Str) (hs : s.size ≤ 18) : pureW XX 27 [vS s] = some (aSize (sizeS s)) := by
  refine pureW_in 35 Tryd.func27 Tryd.ntmps27 (by simp) (rfl : Tryd.f27.body = some _) fns_27 ?_
  unfold sizeS
  have he : (s = ⟨#[]⟩) = (s.size = 0) := propext (by
    constructor
    · rintro rfl; rfl
    · intro h; rw [← by_inj]; exact List.eq_nil_of_length_eq_zero (by rw [by_len]; exact h))
  by_cases h0 : s.size = 0
  · rw [if_pos (.inl h0)]
    simp (maxSteps := 200000) (disch := first | (simp only [go_sem, Nat.reduceAdd, Nat.reduceSub, Nat.reduceMul, Nat.reduceLeDiff, Nat.reduceEqDiff, Nat.reduceLT, Nat.reduceBEq, Nat.reduceBNe, Nat.reducePow, ↓reduceIte]; done) | omega | (simp only [go_sem, Nat.reduceAdd, Nat.reduceSub, Nat.reduceMul, Nat.reduceLeDiff, Nat.reduceEqDiff, Nat.reduceLT, Nat.reduceBEq, Nat.reduceBNe, Nat.reducePow, ↓reduceIte] <;> omega) | fail) only [go_sem, Nat.reduceAdd, Nat.reduceSub, Nat.reduceMul, Nat.reduceLeDiff, Nat.reduceEqDiff, Nat.reduceLT, Nat.reduceBEq, Nat.reduceBNe, Nat.reducePow, ↓reduceIte, he, h0]
  · by_cases h1 : byteAt s 0 = 48
    · rw [if_pos (.inr h1)]
      simp (maxSteps := 200000) (disch := first | (simp only [go_sem, Nat.reduceAdd, Nat.reduceSub, Nat.reduceMul, Nat.reduceLeDiff, Nat.reduceEqDiff, Nat.reduceLT, Nat.reduceBEq, Nat.reduceBNe, Nat.reducePow, ↓reduceIte]; done) | omega | (simp only [go_sem, Nat.reduceAdd, Nat.reduceSub, Nat.reduceMul, Nat.reduceLeDiff, Nat.reduceEqDiff, Nat.reduceLT, Nat.reduceBEq, Nat.reduceBNe, Nat.reducePow, ↓reduceIte] <;> omega) | fail) only [go_sem, Nat.reduceAdd, Nat.reduceSub, Nat.reduceMul, Nat.reduceLeDiff, Nat.reduceEqDiff, Nat.reduceLT, Nat.reduceBEq, Nat.reduceBNe, Nat.reducePow, ↓reduceIte, he, h0, h1]
    · rw [if_neg (by omega)]
      simp (maxSteps := 200000) (disch := first | (simp only [go_sem, Nat.reduceAdd, Nat.reduceSub, Nat.reduceMul, Nat.reduceLeDiff, Nat.reduceEqDiff, Nat.reduceLT, Nat.reduceBEq, Nat.reduceBNe, Nat.reducePow, ↓reduceIte]; done) | omega | (simp only [go_sem, Nat.reduceAdd, Nat.reduceSub, Nat.reduceMul, Nat.reduceLeDiff, Nat.reduceEqDiff, Nat.reduceLT, Nat.reduceBEq, Nat.reduceBNe, Nat.reducePow, ↓reduceIte] <;> omega) | fail) only [go_sem, Nat.reduceAdd, Nat.reduceSub, Nat.reduceMul, Nat.reduceLeDiff, Nat.reduceEqDiff, Nat.reduceLT, Nat.reduceBEq, Nat.reduceBNe, Nat.reducePow, ↓reduceIte, he, h0, h1]
      have hL : (by' s).length = s.size := by_len s
      refine WP_range 5 0 (by' s).length (fun i => S_27_5 (vI (valN ((by' s).take i))) (.fs ((by' s).map eB) false) (vI (by' s).length) (vI i) []) (fun i => ∀ c ∈ (by' s).take i, isD c = true) rfl rfl ?_ ?_ ?_ ?_
      · simp (maxSteps := 200000) (disch := first | (simp only [go_sem, Nat.reduceAdd, Nat.reduceSub, Nat.reduceMul, Nat.reduceLeDiff, Nat.reduceEqDiff, Nat.reduceLT, Nat.reduceBEq, Nat.reduceBNe, Nat.reducePow, ↓reduceIte]; done) | omega | (simp only [go_sem, Nat.reduceAdd, Nat.reduceSub, Nat.reduceMul, Nat.reduceLeDiff, Nat.reduceEqDiff, Nat.reduceLT, Nat.reduceBEq, Nat.reduceBNe, Nat.reducePow, ↓reduceIte] <;> omega) | fail) only [go_sem, Nat.reduceAdd, Nat.reduceSub, Nat.reduceMul, Nat.reduceLeDiff, Nat.reduceEqDiff, Nat.reduceLT, Nat.reduceBEq, Nat.reduceBNe, Nat.reducePow, ↓reduceIte]; rfl
      · simp
      · intro i h hI
        have hv := valN_lt' ((by' s).take i) hI
        rw [List.length_take, Nat.min_eq_left (by omega)] at hv
        have hp : (10 : Nat) ^ i ≤ 10 ^ 17 := Nat.pow_le_pow_right (by omega) (by omega)
        have hws := wrap_succ h (show (by' s).length ≤ 140737488355328 by omega)
        have htk : valN ((by' s).take (i + 1)) = valN ((by' s).take i) * 10 + ((by' s)[i].toNat - 48) := by
          rw [List.take_succ_eq_append_getElem h, valN_snoc]
        have hc := (by' s)[i].toNat_lt
        have hmem : (by' s)[i] ∈ (by' s) := List.getElem_mem h
        have hnone : isD (by' s)[i] = false → (by' s).all isD = false := fun hd => by
          rw [← Bool.not_eq_true, List.all_eq_true]
          intro hh
          rw [hh _ hmem] at hd; cases hd
        generalize hci : (by' s)[i] = c at *
        have hcE : eB c = [.v (.int .u8 c.toNat)] := rfl
        by_cases h48 : c.toNat < 48
        · have g : ((c.toNat : Int) < 48) = True := eq_true (by omega)
          rw [if_neg (by rw [hnone (by simp [isD]; omega)]; simp)]
          simp (maxSteps := 200000) (disch := first | (simp only [go_sem, Nat.reduceAdd, Nat.reduceSub, Nat.reduceMul, Nat.reduceLeDiff, Nat.reduceEqDiff, Nat.reduceLT, Nat.reduceBEq, Nat.reduceBNe, Nat.reducePow, ↓reduceIte]; done) | omega | (simp only [go_sem, Nat.reduceAdd, Nat.reduceSub, Nat.reduceMul, Nat.reduceLeDiff, Nat.reduceEqDiff, Nat.reduceLT, Nat.reduceBEq, Nat.reduceBNe, Nat.reducePow, ↓reduceIte] <;> omega) | fail) only [go_sem, Nat.reduceAdd, Nat.reduceSub, Nat.reduceMul, Nat.reduceLeDiff, Nat.reduceEqDiff, Nat.reduceLT, Nat.reduceBEq, Nat.reduceBNe, Nat.reducePow, ↓reduceIte, nat_int, h, hci, hcE, g]
        · have g : ((c.toNat : Int) < 48) = False := eq_false (by omega)
          by_cases h57 : 57 < c.toNat
          · have g2 : ((57 : Int) < (c.toNat : Int)) = True := eq_true (by omega)
            rw [if_neg (by rw [hnone (by simp [isD]; omega)]; simp)]
            simp (maxSteps := 200000) (disch := first | (simp only [go_sem, Nat.reduceAdd, Nat.reduceSub, Nat.reduceMul, Nat.reduceLeDiff, Nat.reduceEqDiff, Nat.reduceLT, Nat.reduceBEq, Nat.reduceBNe, Nat.reducePow, ↓reduceIte]; done) | omega | (simp only [go_sem, Nat.reduceAdd, Nat.reduceSub, Nat.reduceMul, Nat.reduceLeDiff, Nat.reduceEqDiff, Nat.reduceLT, Nat.reduceBEq, Nat.reduceBNe, Nat.reducePow, ↓reduceIte] <;> omega) | fail) only [go_sem, Nat.reduceAdd, Nat.reduceSub, Nat.reduceMul, Nat.reduceLeDiff, Nat.reduceEqDiff, Nat.reduceLT, Nat.reduceBEq, Nat.reduceBNe, Nat.reducePow, ↓reduceIte, nat_int, h, hci, hcE, g, g2]
          · have g2 : ((57 : Int) < (c.toNat : Int)) = False := eq_false (by omega)
            have e1 : IntKind.i64.wrap ((valN ((by' s).take i) : Int) * 10) = ((valN ((by' s).take i) * 10 : Nat) : Int) := by rw [IntWalk.i64_in _ (by omega)]; omega
            have e2 : IntKind.u8.wrap ((c.toNat : Int) - 48) = ((c.toNat - 48 : Nat) : Int) := by rw [IntWalk.u8_in _ (by omega)]; omega
            have e3 : IntKind.i64.wrap ((c.toNat - 48 : Nat) : Int) = ((c.toNat - 48 : Nat) : Int) := IntWalk.i64_in _ (by omega)
            have e4 : IntKind.i64.wrap (((valN ((by' s).take i) * 10 : Nat) : Int) + ((c.toNat - 48 : Nat) : Int)) = ((valN ((by' s).take (i + 1)) : Nat) : Int) := by rw [IntWalk.i64_in _ (by omega), htk]; omega
            simp (maxSteps := 200000) (disch := first | (simp only [go_sem, Nat.reduceAdd, Nat.reduceSub, Nat.reduceMul, Nat.reduceLeDiff, Nat.reduceEqDiff, Nat.reduceLT, Nat.reduceBEq, Nat.reduceBNe, Nat.reducePow, ↓reduceIte]; done) | omega | (simp only [go_sem, Nat.reduceAdd, Nat.reduceSub, Nat.reduceMul, Nat.reduceLeDiff, Nat.reduceEqDiff, Nat.reduceLT, Nat.reduceBEq, Nat.reduceBNe, Nat.reducePow, ↓reduceIte] <;> omega) | fail) only [go_sem, Nat.reduceAdd, Nat.reduceSub, Nat.reduceMul, Nat.reduceLeDiff, Nat.reduceEqDiff, Nat.reduceLT, Nat.reduceBEq, Nat.reduceBNe, Nat.reducePow, ↓reduceIte, nat_int, h, hci, hcE, g, g2, e1, e2, e3, e4, hws]
            intro x hx
            rw [List.take_succ_eq_append_getElem h, List.mem_append, List.mem_singleton] at hx
            rcases hx with hx | rfl
            · exact hI x hx
            · rw [hci]; simp [isD]; omega
      · intro hI
        rw [List.take_length] at hI
        rw [if_pos (List.all_eq_true.2 hI)]
        simp (maxSteps := 200000) (disch := first | (simp only [go_sem, Nat.reduceAdd, Nat.reduceSub, Nat.reduceMul, Nat.reduceLeDiff, Nat.reduceEqDiff, Nat.reduceLT, Nat.reduceBEq, Nat.reduceBNe, Nat.reducePow, ↓reduceIte]; done) | omega | (simp only [go_sem, Nat.reduceAdd, Nat.reduceSub, Nat.reduceMul, Nat.reduceLeDiff, Nat.reduceEqDiff, Nat.reduceLT, Nat.reduceBEq, Nat.reduceBNe, Nat.reducePow, ↓reduceIte] <;> omega) | fail) only [go_sem, Nat.reduceAdd, Nat.reduceSub, Nat.reduceMul, Nat.reduceLeDiff, Nat.reduceEqDiff, Nat.reduceLT, Nat.reduceBEq, Nat.reduceBNe, Nat.reducePow, ↓reduceIte, nat_int, List.take_length]
end Go.Abs.BB
end

section
set_option linter.unusedVariables false
set_option linter.unusedSimpArgs false
set_option linter.unusedSectionVars false
set_option maxRecDepth 100000
set_option maxHeartbeats 4000000
set_option linter.unusedSimpArgs false
set_option linter.unusedVariables false
namespace Go.Abs.BB
open Go.Proofs

def dd (u : Nat) : List UInt8 := if u = 0 then [] else Lib.decDigits u
theorem dd_step {u : Nat} (h : 0 < u) : dd u = dd (u / 10) ++ [UInt8.ofNat (48 + u % 10)] := by
  unfold dd
  rw [if_neg (by omega)]
  by_cases h9 : u < 10
  · rw [if_pos (by omega), Lib.decDigits, dif_pos h9, Nat.mod_eq_of_lt h9]; rfl
  · rw [if_neg (by omega)]
    conv => lhs; rw [Lib.decDigits, dif_neg h9]
theorem dd_len : ∀ (n u : Nat), u < n → (dd u).length ≤ u
  | 0, u, h => by omega
  | n + 1, u, h => by
    by_cases h0 : u = 0
    · subst h0; simp [dd]
    · rw [dd_step (by omega), List.length_append, List.length_singleton]
      have := dd_len n (u / 10) (by omega)
      omega
theorem bytesS_one (n : Int) : bytesS [[.v (.int .u8 n)]] = some (.v (.string ⟨#[UInt8.ofNat n.toNat]⟩)) := rfl
theorem digits_spec (N : Nat) (hN : N ≤ 1000000000000) : pureW XX 21 [vI N] = some (vS ⟨(dd N).toArray⟩) := by
  refine pureW_in 17 Tryd.func21 Tryd.ntmps21 (by simp) (rfl : Tryd.f21.body = some _) fns_21 ?_
  simp (maxSteps := 200000) (disch := first | (simp only [go_sem, Nat.reduceAdd, Nat.reduceSub, Nat.reduceMul, Nat.reduceLeDiff, Nat.reduceEqDiff, Nat.reduceLT, Nat.reduceBEq, Nat.reduceBNe, Nat.reducePow, ↓reduceIte]; done) | omega | (simp only [go_sem, Nat.reduceAdd, Nat.reduceSub, Nat.reduceMul, Nat.reduceLeDiff, Nat.reduceEqDiff, Nat.reduceLT, Nat.reduceBEq, Nat.reduceBNe, Nat.reducePow, ↓reduceIte] <;> omega) | fail) only [go_sem, Nat.reduceAdd, Nat.reduceSub, Nat.reduceMul, Nat.reduceLeDiff, Nat.reduceEqDiff, Nat.reduceLT, Nat.reduceBEq, Nat.reduceBNe, Nat.reducePow, ↓reduceIte]
  have hl := dd_len (N + 1) N (by omega)
  refine WP_loopR 2 0 (fun (a : Nat × Str) => S_21_2 (vI a.1) (vS a.2) []) (fun a => a.1) (fun a => a.1 ≤ N ∧ dd N = dd a.1 ++ by' a.2) (N, ⟨#[]⟩) rfl rfl ?_ ?_ ?_
  · simp (maxSteps := 200000) (disch := first | (simp only [go_sem, Nat.reduceAdd, Nat.reduceSub, Nat.reduceMul, Nat.reduceLeDiff, Nat.reduceEqDiff, Nat.reduceLT, Nat.reduceBEq, Nat.reduceBNe, Nat.reducePow, ↓reduceIte]; done) | omega | (simp only [go_sem, Nat.reduceAdd, Nat.reduceSub, Nat.reduceMul, Nat.reduceLeDiff, Nat.reduceEqDiff, Nat.reduceLT, Nat.reduceBEq, Nat.reduceBNe, Nat.reducePow, ↓reduceIte] <;> omega) | fail) only [go_sem, Nat.reduceAdd, Nat.reduceSub, Nat.reduceMul, Nat.reduceLeDiff, Nat.reduceEqDiff, Nat.reduceLT, Nat.reduceBEq, Nat.reduceBNe, Nat.reducePow, ↓reduceIte]
  · exact ⟨Nat.le_refl _, by simp⟩
  · rintro ⟨u, acc⟩ ⟨hu, hI⟩
    simp only at hu hI
    by_cases h0 : u = 0
    · subst h0
      have g : ((0 : Int) < ((0 : Nat) : Int)) = False := eq_false (by omega)
      simp (maxSteps := 200000) (disch := first | (simp only [go_sem, Nat.reduceAdd, Nat.reduceSub, Nat.reduceMul, Nat.reduceLeDiff, Nat.reduceEqDiff, Nat.reduceLT, Nat.reduceBEq, Nat.reduceBNe, Nat.reducePow, ↓reduceIte]; done) | omega | (simp only [go_sem, Nat.reduceAdd, Nat.reduceSub, Nat.reduceMul, Nat.reduceLeDiff, Nat.reduceEqDiff, Nat.reduceLT, Nat.reduceBEq, Nat.reduceBNe, Nat.reducePow, ↓reduceIte] <;> omega) | fail) only [go_sem, Nat.reduceAdd, Nat.reduceSub, Nat.reduceMul, Nat.reduceLeDiff, Nat.reduceEqDiff, Nat.reduceLT, Nat.reduceBEq, Nat.reduceBNe, Nat.reducePow, ↓reduceIte, g]
      rw [show dd 0 = [] from rfl, List.nil_append] at hI
      rw [hI]
    · have g : ((0 : Int) < (u : Int)) = True := eq_true (by omega)
      have hal : acc.size ≤ N := by
        rw [← by_len]
        have := congrArg List.length hI
        rw [List.length_append] at this
        omega
      have e1 : (u : Int).tmod 10 = ((u % 10 : Nat) : Int) := (Int.ofNat_tmod u 10).symm
      have e2 : IntKind.i64.wrap (48 + ((u % 10 : Nat) : Int)) = ((48 + u % 10 : Nat) : Int) := by rw [IntWalk.i64_in _ (by omega)]; omega
      have e3 : IntKind.u8.wrap ((48 + u % 10 : Nat) : Int) = ((48 + u % 10 : Nat) : Int) := IntWalk.u8_in _ (by omega)
      have e4 : IntKind.i64.wrap ((u : Int).tdiv 10) = ((u / 10 : Nat) : Int) := by
        rw [show (u : Int).tdiv 10 = ((u / 10 : Nat) : Int) from (Int.ofNat_tdiv u 10).symm]
        exact IntWalk.i64_in _ (by omega)
      have hsz : (⟨#[UInt8.ofNat (48 + u % 10)]⟩ : Str).size = 1 := rfl
      simp (maxSteps := 200000) (disch := first | (simp only [go_sem, Nat.reduceAdd, Nat.reduceSub, Nat.reduceMul, Nat.reduceLeDiff, Nat.reduceEqDiff, Nat.reduceLT, Nat.reduceBEq, Nat.reduceBNe, Nat.reducePow, ↓reduceIte]; done) | omega | (simp only [go_sem, Nat.reduceAdd, Nat.reduceSub, Nat.reduceMul, Nat.reduceLeDiff, Nat.reduceEqDiff, Nat.reduceLT, Nat.reduceBEq, Nat.reduceBNe, Nat.reducePow, ↓reduceIte] <;> omega) | fail) only [go_sem, Nat.reduceAdd, Nat.reduceSub, Nat.reduceMul, Nat.reduceLeDiff, Nat.reduceEqDiff, Nat.reduceLT, Nat.reduceBEq, Nat.reduceBNe, Nat.reducePow, ↓reduceIte, g, e1, e2, e3, e4, bytesS_one, Int.toNat_natCast, hsz]
      refine ⟨(u / 10, ⟨#[UInt8.ofNat (48 + u % 10)]⟩ ++ acc), rfl, ⟨by show u / 10 ≤ N; omega, ?_⟩, by omega⟩
      show dd N = dd (u / 10) ++ by' (⟨#[UInt8.ofNat (48 + u % 10)]⟩ ++ acc)
      rw [hI, dd_step (by omega), by_app, List.append_assoc]
/-- What is written of a message. -/
def sEnd : Str := ⟨#[93, 93, 62, 93, 93, 62]⟩
def sNH : Str := ⟨#[10, 35]⟩
def sNL : Str := ⟨#[10]⟩
def sTail : Str := ⟨#[10, 35, 35, 10]⟩
def encS (s : Str) (chunks : Bool) : Str := if chunks = false then s ++ sEnd else if s = ⟨#[]⟩ then ⟨#[]⟩ else (((sNH ++ ⟨(dd s.size).toArray⟩) ++ sNL) ++ s) ++ sTail
theorem size_nil (s : Str) : (s = ⟨#[]⟩) ↔ s.size = 0 := by
  constructor
  · rintro rfl; rfl
  · intro h; rw [← by_inj]; exact List.eq_nil_of_length_eq_zero (by rw [by_len]; exact h)
theorem itoa_dd {n : Nat} (h : 0 < n) : Lib.itoa (n : Int) = dd n := by
  unfold Lib.itoa dd
  rw [if_neg (by omega), if_neg (by omega), Int.toNat_natCast]
theorem enc_spec (s : Str) (c : Bool) (hs : s.size ≤ 1000000000) : pureW XX 13 [vS s, vB c] = some (vS (encS s c)) := by
  refine pureW_in 21 Tryd.func13 Tryd.ntmps13 (by simp) (rfl : Tryd.f13.body = some _) fns_13 ?_
  unfold encS
  cases c with
  | false =>
    have h6 : (⟨#[93, 93, 62, 93, 93, 62]⟩ : Str).size = 6 := rfl
    simp (maxSteps := 200000) (disch := first | (simp only [go_sem, Nat.reduceAdd, Nat.reduceSub, Nat.reduceMul, Nat.reduceLeDiff, Nat.reduceEqDiff, Nat.reduceLT, Nat.reduceBEq, Nat.reduceBNe, Nat.reducePow, ↓reduceIte]; done) | omega | (simp only [go_sem, Nat.reduceAdd, Nat.reduceSub, Nat.reduceMul, Nat.reduceLeDiff, Nat.reduceEqDiff, Nat.reduceLT, Nat.reduceBEq, Nat.reduceBNe, Nat.reducePow, ↓reduceIte] <;> omega) | fail) only [go_sem, Nat.reduceAdd, Nat.reduceSub, Nat.reduceMul, Nat.reduceLeDiff, Nat.reduceEqDiff, Nat.reduceLT, Nat.reduceBEq, Nat.reduceBNe, Nat.reducePow, ↓reduceIte, h6, sEnd]
  | true =>
    by_cases h0 : s = ⟨#[]⟩
    · rw [if_neg (by simp), if_pos h0]
      simp (maxSteps := 200000) (disch := first | (simp only [go_sem, Nat.reduceAdd, Nat.reduceSub, Nat.reduceMul, Nat.reduceLeDiff, Nat.reduceEqDiff, Nat.reduceLT, Nat.reduceBEq, Nat.reduceBNe, Nat.reducePow, ↓reduceIte]; done) | omega | (simp only [go_sem, Nat.reduceAdd, Nat.reduceSub, Nat.reduceMul, Nat.reduceLeDiff, Nat.reduceEqDiff, Nat.reduceLT, Nat.reduceBEq, Nat.reduceBNe, Nat.reducePow, ↓reduceIte] <;> omega) | fail) only [go_sem, Nat.reduceAdd, Nat.reduceSub, Nat.reduceMul, Nat.reduceLeDiff, Nat.reduceEqDiff, Nat.reduceLT, Nat.reduceBEq, Nat.reduceBNe, Nat.reducePow, ↓reduceIte, h0]
    · have hn := fun h => h0 ((size_nil s).2 h)
      have hd := dd_len (s.size + 1) s.size (by omega)
      have hi := itoa_spec (s.size : Int) (by omega) (by omega)
      rw [itoa_dd (n := s.size) (Nat.pos_of_ne_zero hn)] at hi
      rw [if_neg (by simp), if_neg h0]
      have z1 : (⟨#[10, 35]⟩ : Str).size = 2 := rfl
      have z2 : (⟨#[10]⟩ : Str).size = 1 := rfl
      have z3 : (⟨#[10, 35, 35, 10]⟩ : Str).size = 4 := rfl
      have z4 : (⟨(dd s.size).toArray⟩ : Str).size = (dd s.size).length := rfl
      generalize dd s.size = D at *
      simp (maxSteps := 200000) (disch := first | (simp only [go_sem, Nat.reduceAdd, Nat.reduceSub, Nat.reduceMul, Nat.reduceLeDiff, Nat.reduceEqDiff, Nat.reduceLT, Nat.reduceBEq, Nat.reduceBNe, Nat.reducePow, ↓reduceIte]; done) | omega | (simp only [go_sem, Nat.reduceAdd, Nat.reduceSub, Nat.reduceMul, Nat.reduceLeDiff, Nat.reduceEqDiff, Nat.reduceLT, Nat.reduceBEq, Nat.reduceBNe, Nat.reducePow, ↓reduceIte] <;> omega) | fail) only [go_sem, Nat.reduceAdd, Nat.reduceSub, Nat.reduceMul, Nat.reduceLeDiff, Nat.reduceEqDiff, Nat.reduceLT, Nat.reduceBEq, Nat.reduceBNe, Nat.reducePow, ↓reduceIte, h0, callA_data mode_17, hi, z1, z2, z3, z4, ByteArray.size_append, sNH, sNL, sTail]
theorem refEnc_spec (s : Str) (c : Bool) (hs : s.size ≤ 1000000000) : pureW XX 15 [vS s, vB c] = some (vS (encS s c)) := by
  refine pureW_in 19 Tryd.func15 Tryd.ntmps15 (by simp) (rfl : Tryd.f15.body = some _) fns_15 ?_
  unfold encS
  cases c with
  | false =>
    have h6 : (⟨#[93, 93, 62, 93, 93, 62]⟩ : Str).size = 6 := rfl
    simp (maxSteps := 200000) (disch := first | (simp only [go_sem, Nat.reduceAdd, Nat.reduceSub, Nat.reduceMul, Nat.reduceLeDiff, Nat.reduceEqDiff, Nat.reduceLT, Nat.reduceBEq, Nat.reduceBNe, Nat.reducePow, ↓reduceIte]; done) | omega | (simp only [go_sem, Nat.reduceAdd, Nat.reduceSub, Nat.reduceMul, Nat.reduceLeDiff, Nat.reduceEqDiff, Nat.reduceLT, Nat.reduceBEq, Nat.reduceBNe, Nat.reducePow, ↓reduceIte] <;> omega) | fail) only [go_sem, Nat.reduceAdd, Nat.reduceSub, Nat.reduceMul, Nat.reduceLeDiff, Nat.reduceEqDiff, Nat.reduceLT, Nat.reduceBEq, Nat.reduceBNe, Nat.reducePow, ↓reduceIte, h6, sEnd]
  | true =>
    by_cases h0 : s = ⟨#[]⟩
    · rw [if_neg (by simp), if_pos h0]
      simp (maxSteps := 200000) (disch := first | (simp only [go_sem, Nat.reduceAdd, Nat.reduceSub, Nat.reduceMul, Nat.reduceLeDiff, Nat.reduceEqDiff, Nat.reduceLT, Nat.reduceBEq, Nat.reduceBNe, Nat.reducePow, ↓reduceIte]; done) | omega | (simp only [go_sem, Nat.reduceAdd, Nat.reduceSub, Nat.reduceMul, Nat.reduceLeDiff, Nat.reduceEqDiff, Nat.reduceLT, Nat.reduceBEq, Nat.reduceBNe, Nat.reducePow, ↓reduceIte] <;> omega) | fail) only [go_sem, Nat.reduceAdd, Nat.reduceSub, Nat.reduceMul, Nat.reduceLeDiff, Nat.reduceEqDiff, Nat.reduceLT, Nat.reduceBEq, Nat.reduceBNe, Nat.reducePow, ↓reduceIte, h0]
    · have hn := fun h => h0 ((size_nil s).2 h)
      have hd := dd_len (s.size + 1) s.size (by omega)
      have hi := digits_spec s.size (by omega)
      rw [if_neg (by simp), if_neg h0]
      have z1 : (⟨#[10, 35]⟩ : Str).size = 2 := rfl
      have z2 : (⟨#[10]⟩ : Str).size = 1 := rfl
      have z3 : (⟨#[10, 35, 35, 10]⟩ : Str).size = 4 := rfl
      have z4 : (⟨(dd s.size).toArray⟩ : Str).size = (dd s.size).length := rfl
      generalize dd s.size = D at *
      simp (maxSteps := 200000) (disch := first | (simp only [go_sem, Nat.reduceAdd, Nat.reduceSub, Nat.reduceMul, Nat.reduceLeDiff, Nat.reduceEqDiff, Nat.reduceLT, Nat.reduceBEq, Nat.reduceBNe, Nat.reducePow, ↓reduceIte]; done) | omega | (simp only [go_sem, Nat.reduceAdd, Nat.reduceSub, Nat.reduceMul, Nat.reduceLeDiff, Nat.reduceEqDiff, Nat.reduceLT, Nat.reduceBEq, Nat.reduceBNe, Nat.reducePow, ↓reduceIte] <;> omega) | fail) only [go_sem, Nat.reduceAdd, Nat.reduceSub, Nat.reduceMul, Nat.reduceLeDiff, Nat.reduceEqDiff, Nat.reduceLT, Nat.reduceBEq, Nat.reduceBNe, Nat.reducePow, ↓reduceIte, h0, callA_pure mode_21, hi, z1, z2, z3, z4, ByteArray.size_append, sNH, sNL, sTail]
theorem ext_occ (s x : Str) (i : Nat) (h : i + x.size ≤ s.size) : (s.extract i (i + x.size) = x) ↔ Lib.occAt (by' s) (by' x) i = true := by
  rw [Lib.occAt_iff_take _ _ _ (by rw [by_len, by_len]; exact h), by_len, beq_iff_eq, ← by_inj, by_ext, Nat.add_sub_cancel_left]
theorem find_spec (s x : Str) (hx : 0 < x.size) (hs : s.size ≤ 1000000000) (hx2 : x.size ≤ 1000000000) : pureW XX 22 [vS s, vS x] = some (vI (Lib.index (by' s) (by' x))) := by
  refine pureW_in 25 Tryd.func22 Tryd.ntmps22 (by simp) (rfl : Tryd.f22.body = some _) fns_22 ?_
  simp (maxSteps := 200000) (disch := first | (simp only [go_sem, Nat.reduceAdd, Nat.reduceSub, Nat.reduceMul, Nat.reduceLeDiff, Nat.reduceEqDiff, Nat.reduceLT, Nat.reduceBEq, Nat.reduceBNe, Nat.reducePow, ↓reduceIte]; done) | omega | (simp only [go_sem, Nat.reduceAdd, Nat.reduceSub, Nat.reduceMul, Nat.reduceLeDiff, Nat.reduceEqDiff, Nat.reduceLT, Nat.reduceBEq, Nat.reduceBNe, Nat.reducePow, ↓reduceIte] <;> omega) | fail) only [go_sem, Nat.reduceAdd, Nat.reduceSub, Nat.reduceMul, Nat.reduceLeDiff, Nat.reduceEqDiff, Nat.reduceLT, Nat.reduceBEq, Nat.reduceBNe, Nat.reducePow, ↓reduceIte]
  refine WP_loopR 2 0 (fun (i : Nat) => S_22_2 (vS s) (vS x) (vI i) []) (fun i => s.size + 1 - i) (fun i => i ≤ s.size ∧ ∀ j, j < i → Lib.occAt (by' s) (by' x) j = false) 0 rfl rfl ?_ ?_ ?_
  · simp (maxSteps := 200000) (disch := first | (simp only [go_sem, Nat.reduceAdd, Nat.reduceSub, Nat.reduceMul, Nat.reduceLeDiff, Nat.reduceEqDiff, Nat.reduceLT, Nat.reduceBEq, Nat.reduceBNe, Nat.reducePow, ↓reduceIte]; done) | omega | (simp only [go_sem, Nat.reduceAdd, Nat.reduceSub, Nat.reduceMul, Nat.reduceLeDiff, Nat.reduceEqDiff, Nat.reduceLT, Nat.reduceBEq, Nat.reduceBNe, Nat.reducePow, ↓reduceIte] <;> omega) | fail) only [go_sem, Nat.reduceAdd, Nat.reduceSub, Nat.reduceMul, Nat.reduceLeDiff, Nat.reduceEqDiff, Nat.reduceLT, Nat.reduceBEq, Nat.reduceBNe, Nat.reducePow, ↓reduceIte]; rfl
  · exact ⟨Nat.zero_le _, by simp⟩
  · rintro i ⟨hi, hI⟩
    have e1 : IntKind.i64.wrap ((i : Int) + (x.size : Int)) = ((i + x.size : Nat) : Int) := by rw [IntWalk.i64_in _ (by omega)]; omega
    have e2 : IntKind.i64.wrap ((i : Int) + 1) = ((i + 1 : Nat) : Int) := by rw [IntWalk.i64_in _ (by omega)]; omega
    by_cases hc : i + x.size ≤ s.size
    · have hoc := ext_occ s x i hc
      have hle : (i ≤ i + x.size) = True := eq_true (by omega)
      by_cases he : s.extract i (i + x.size) = x
      · have hidx := Lib.index_first (s := by' s) (sub := by' x) (i := i) (by rw [by_len]; omega) (hoc.1 he) hI
        simp (maxSteps := 200000) (disch := first | (simp only [go_sem, Nat.reduceAdd, Nat.reduceSub, Nat.reduceMul, Nat.reduceLeDiff, Nat.reduceEqDiff, Nat.reduceLT, Nat.reduceBEq, Nat.reduceBNe, Nat.reducePow, ↓reduceIte]; done) | omega | (simp only [go_sem, Nat.reduceAdd, Nat.reduceSub, Nat.reduceMul, Nat.reduceLeDiff, Nat.reduceEqDiff, Nat.reduceLT, Nat.reduceBEq, Nat.reduceBNe, Nat.reducePow, ↓reduceIte] <;> omega) | fail) only [go_sem, Nat.reduceAdd, Nat.reduceSub, Nat.reduceMul, Nat.reduceLeDiff, Nat.reduceEqDiff, Nat.reduceLT, Nat.reduceBEq, Nat.reduceBNe, Nat.reducePow, ↓reduceIte, e1, nat_le, hle, hc, he]
        rw [hidx]
      · simp (maxSteps := 200000) (disch := first | (simp only [go_sem, Nat.reduceAdd, Nat.reduceSub, Nat.reduceMul, Nat.reduceLeDiff, Nat.reduceEqDiff, Nat.reduceLT, Nat.reduceBEq, Nat.reduceBNe, Nat.reducePow, ↓reduceIte]; done) | omega | (simp only [go_sem, Nat.reduceAdd, Nat.reduceSub, Nat.reduceMul, Nat.reduceLeDiff, Nat.reduceEqDiff, Nat.reduceLT, Nat.reduceBEq, Nat.reduceBNe, Nat.reducePow, ↓reduceIte] <;> omega) | fail) only [go_sem, Nat.reduceAdd, Nat.reduceSub, Nat.reduceMul, Nat.reduceLeDiff, Nat.reduceEqDiff, Nat.reduceLT, Nat.reduceBEq, Nat.reduceBNe, Nat.reducePow, ↓reduceIte, e1, e2, nat_le, hle, hc, he]
        refine ⟨i + 1, rfl, ⟨by omega, fun j hj => ?_⟩, by omega⟩
        rcases Nat.lt_succ_iff_lt_or_eq.1 hj with h | rfl
        · exact hI j h
        · rw [← Bool.not_eq_true]; exact fun h => he (hoc.2 h)
    · have hidx := Lib.index_none (s := by' s) (sub := by' x) (fun j hj => by
        rw [by_len] at hj
        by_cases h : j < i
        · exact hI j h
        · rw [← Bool.not_eq_true]
          intro ho
          rcases Lib.occAt_room ho with h1 | h1
          · rw [by_len, by_len] at h1; omega
          · have := congrArg List.length h1
            rw [by_len, List.length_nil] at this; omega)
      simp (maxSteps := 200000) (disch := first | (simp only [go_sem, Nat.reduceAdd, Nat.reduceSub, Nat.reduceMul, Nat.reduceLeDiff, Nat.reduceEqDiff, Nat.reduceLT, Nat.reduceBEq, Nat.reduceBNe, Nat.reducePow, ↓reduceIte]; done) | omega | (simp only [go_sem, Nat.reduceAdd, Nat.reduceSub, Nat.reduceMul, Nat.reduceLeDiff, Nat.reduceEqDiff, Nat.reduceLT, Nat.reduceBEq, Nat.reduceBNe, Nat.reducePow, ↓reduceIte] <;> omega) | fail) only [go_sem, Nat.reduceAdd, Nat.reduceSub, Nat.reduceMul, Nat.reduceLeDiff, Nat.reduceEqDiff, Nat.reduceLT, Nat.reduceBEq, Nat.reduceBNe, Nat.reducePow, ↓reduceIte, e1, nat_le, hc]
      rw [hidx]
end Go.Abs.BB
end

section
set_option linter.unusedVariables false
set_option linter.unusedSimpArgs false
set_option linter.unusedSectionVars false
set_option maxRecDepth 100000
set_option maxHeartbeats 4000000
set_option linter.unusedSimpArgs false
set_option linter.unusedVariables false
namespace Go.Abs.BB
open Go.Proofs

abbrev e0 : Str := ⟨#[]⟩
/-- A decoder in memory. -/
abbrev dB (c : Bool) (b m : Str) (s : Bool) (e : Int) : Blk := .var [vB c, vS b, vS m, vB s, vI e]
/-- The document's decoder in memory. -/
abbrev mB (c : Bool) (b m : Str) (s : Bool) (d : Bool) : Blk := .var [vB c, vS b, vS m, vB s, vB d]
theorem fail_spec (c : Bool) (b m : Str) (s : Bool) (e e' : Int) : loudW XX 20 [.ptr 0 0, vI e'] [dB c b m s e] = some (.tup [vS e0, vI e'], [dB c e0 e0 s e']) := by
  refine loudW_in 17 Tryd.func20 Tryd.ntmps20 (by simp) (rfl : Tryd.f20.body = some _) fns_20 ?_
  simp (maxSteps := 200000) (disch := first | (simp only [go_sem, Nat.reduceAdd, Nat.reduceSub, Nat.reduceMul, Nat.reduceLeDiff, Nat.reduceEqDiff, Nat.reduceLT, Nat.reduceBEq, Nat.reduceBNe, Nat.reducePow, ↓reduceIte]; done) | omega | (simp only [go_sem, Nat.reduceAdd, Nat.reduceSub, Nat.reduceMul, Nat.reduceLeDiff, Nat.reduceEqDiff, Nat.reduceLT, Nat.reduceBEq, Nat.reduceBNe, Nat.reducePow, ↓reduceIte] <;> omega) | fail) only [go_sem, Nat.reduceAdd, Nat.reduceSub, Nat.reduceMul, Nat.reduceLeDiff, Nat.reduceEqDiff, Nat.reduceLT, Nat.reduceBEq, Nat.reduceBNe, Nat.reducePow, ↓reduceIte]
theorem dies_spec (c : Bool) (b m : Str) (s d : Bool) (e : Int) : loudW XX 23 [.ptr 0 0, vI e] [mB c b m s d] = some (.tup [vS e0, vI e], [mB c b m s true]) := by
  refine loudW_in 10 Tryd.func23 Tryd.ntmps23 (by simp) (rfl : Tryd.f23.body = some _) fns_23 ?_
  simp (maxSteps := 200000) (disch := first | (simp only [go_sem, Nat.reduceAdd, Nat.reduceSub, Nat.reduceMul, Nat.reduceLeDiff, Nat.reduceEqDiff, Nat.reduceLT, Nat.reduceBEq, Nat.reduceBNe, Nat.reducePow, ↓reduceIte]; done) | omega | (simp only [go_sem, Nat.reduceAdd, Nat.reduceSub, Nat.reduceMul, Nat.reduceLeDiff, Nat.reduceEqDiff, Nat.reduceLT, Nat.reduceBEq, Nat.reduceBNe, Nat.reducePow, ↓reduceIte] <;> omega) | fail) only [go_sem, Nat.reduceAdd, Nat.reduceSub, Nat.reduceMul, Nat.reduceLeDiff, Nat.reduceEqDiff, Nat.reduceLT, Nat.reduceBEq, Nat.reduceBNe, Nat.reducePow, ↓reduceIte]
theorem switch_spec (c : Bool) (b m : Str) (s : Bool) (e : Int) : loudW XX 10 [.ptr 0 0] [dB c b m s e] = some (.tup [], [dB true b m s e]) := by
  refine loudW_in 7 Tryd.func10 Tryd.ntmps10 (by simp) (rfl : Tryd.f10.body = some _) fns_10 ?_
  simp (maxSteps := 200000) (disch := first | (simp only [go_sem, Nat.reduceAdd, Nat.reduceSub, Nat.reduceMul, Nat.reduceLeDiff, Nat.reduceEqDiff, Nat.reduceLT, Nat.reduceBEq, Nat.reduceBNe, Nat.reducePow, ↓reduceIte]; done) | omega | (simp only [go_sem, Nat.reduceAdd, Nat.reduceSub, Nat.reduceMul, Nat.reduceLeDiff, Nat.reduceEqDiff, Nat.reduceLT, Nat.reduceBEq, Nat.reduceBNe, Nat.reducePow, ↓reduceIte] <;> omega) | fail) only [go_sem, Nat.reduceAdd, Nat.reduceSub, Nat.reduceMul, Nat.reduceLeDiff, Nat.reduceEqDiff, Nat.reduceLT, Nat.reduceBEq, Nat.reduceBNe, Nat.reducePow, ↓reduceIte]
theorem feed_spec (c : Bool) (b m : Str) (s : Bool) (e : Int) (x : Str) (f : Bool) (h : b.size + x.size ≤ 1000000000) : loudW XX 11 [.ptr 0 0, .fs (ofBytes x) f] [dB c b m s e] = some (.tup [], [dB c (if e = 0 then b ++ x else b) m s e]) := by
  refine loudW_in 22 Tryd.func11 Tryd.ntmps11 (by simp) (rfl : Tryd.f11.body = some _) fns_11 ?_
  by_cases he : e = 0
  · rw [if_pos he]
    simp (maxSteps := 200000) (disch := first | (simp only [go_sem, Nat.reduceAdd, Nat.reduceSub, Nat.reduceMul, Nat.reduceLeDiff, Nat.reduceEqDiff, Nat.reduceLT, Nat.reduceBEq, Nat.reduceBNe, Nat.reducePow, ↓reduceIte]; done) | omega | (simp only [go_sem, Nat.reduceAdd, Nat.reduceSub, Nat.reduceMul, Nat.reduceLeDiff, Nat.reduceEqDiff, Nat.reduceLT, Nat.reduceBEq, Nat.reduceBNe, Nat.reducePow, ↓reduceIte] <;> omega) | fail) only [go_sem, Nat.reduceAdd, Nat.reduceSub, Nat.reduceMul, Nat.reduceLeDiff, Nat.reduceEqDiff, Nat.reduceLT, Nat.reduceBEq, Nat.reduceBNe, Nat.reducePow, ↓reduceIte, he]
  · rw [if_neg he]
    simp (maxSteps := 200000) (disch := first | (simp only [go_sem, Nat.reduceAdd, Nat.reduceSub, Nat.reduceMul, Nat.reduceLeDiff, Nat.reduceEqDiff, Nat.reduceLT, Nat.reduceBEq, Nat.reduceBNe, Nat.reducePow, ↓reduceIte]; done) | omega | (simp only [go_sem, Nat.reduceAdd, Nat.reduceSub, Nat.reduceMul, Nat.reduceLeDiff, Nat.reduceEqDiff, Nat.reduceLT, Nat.reduceBEq, Nat.reduceBNe, Nat.reducePow, ↓reduceIte] <;> omega) | fail) only [go_sem, Nat.reduceAdd, Nat.reduceSub, Nat.reduceMul, Nat.reduceLeDiff, Nat.reduceEqDiff, Nat.reduceLT, Nat.reduceBEq, Nat.reduceBNe, Nat.reducePow, ↓reduceIte, he]
theorem call_fail (f : FuncId) (hf : (XX.live f).contains 20 = true) (t : List AV) (c : Bool) (b m : Str) (s : Bool) (e e' : Int) : callX XX (orW XX) ⟨t, [dB c b m s e]⟩ f 20 [.ptr 0 0, vI e'] = some (.st (.tup [vS e0, vI e']) ⟨t, [dB c e0 e0 s e']⟩) :=
  callX_var 0 hf rfl rfl rfl rfl rfl rfl (fail_spec c b m s e e')
theorem call_dies (f : FuncId) (hf : (XX.live f).contains 23 = true) (t : List AV) (c : Bool) (b m : Str) (s d : Bool) (e : Int) : callX XX (orW XX) ⟨t, [mB c b m s d]⟩ f 23 [.ptr 0 0, vI e] = some (.st (.tup [vS e0, vI e]) ⟨t, [mB c b m s true]⟩) :=
  callX_var 0 hf rfl rfl rfl rfl rfl rfl (dies_spec c b m s d e)
end Go.Abs.BB
end

section
set_option linter.unusedVariables false
set_option linter.unusedSimpArgs false
set_option linter.unusedSectionVars false
set_option maxRecDepth 100000
set_option maxHeartbeats 8000000
set_option linter.unusedSimpArgs false
set_option linter.unusedVariables false
namespace Go.Abs.BB
open Go.Proofs

/-- The place of the second end of a line; 0: there is none. -/
def nlI (b : Str) : Nat := (Lib.indexByte (by' (b.extract (min b.size 1) b.size)) 10 + 1).toNat
theorem ib_spec : ∀ (l : List UInt8) (c : UInt8), Lib.indexByte l c = match l.findIdx? (· == c) with | some i => (i : Int) | none => -1
  | [], c => rfl
  | b :: l, c => by
    rw [Lib.indexByte, List.findIdx?_cons, ib_spec l c]
    by_cases h : (b == c) = true
    · simp [h]
    · have h' : (b == c) = false := by simpa using h
      rw [h']
      cases l.findIdx? (· == c) with
      | none => simp
      | some i => 
        simp only [Bool.false_eq_true, if_false, Option.map_some]
        rw [if_neg (by simp)]
        rfl
theorem nl_int (b : Str) : Lib.indexByte (by' (b.extract (min b.size 1) b.size)) 10 + 1 = ((nlI b : Nat) : Int) := by
  unfold nlI
  rw [ib_spec]
  cases (by' (b.extract (min b.size 1) b.size)).findIdx? (· == 10) with
  | none => rfl
  | some i => simp only; omega
theorem nl_list (b : Str) : by' (b.extract (min b.size 1) b.size) = (by' b).drop 1 := by
  rw [by_ext]
  by_cases h : b.size = 0
  · have : by' b = [] := List.eq_nil_of_length_eq_zero (by rw [by_len]; exact h)
    rw [this]; simp
  · rw [Nat.min_eq_right (by omega)]
    apply List.take_of_length_le
    rw [List.length_drop, by_len]; omega
theorem nl_none {b : Str} (h : nlI b = 0) : ∀ (j : Nat) (hj : j < (by' b).length), 1 ≤ j → (by' b)[j] ≠ 10 := by
  have hi := nl_int b
  rw [h, nl_list, ib_spec] at hi
  intro j hj h1 he
  cases hf : ((by' b).drop 1).findIdx? (· == 10) with
  | some i => rw [hf] at hi; simp only at hi; omega
  | none =>
    rw [List.findIdx?_eq_none_iff] at hf
    have := hf ((by' b)[j]) (by
      rw [List.mem_iff_getElem]
      exact ⟨j - 1, by rw [List.length_drop]; omega, by rw [List.getElem_drop]; congr 1; omega⟩)
    rw [he] at this
    simp at this
theorem nl_some {b : Str} (h : 0 < nlI b) : ∃ hl : nlI b < (by' b).length, (by' b)[nlI b] = 10 ∧ ∀ (j : Nat) (hj : j < (by' b).length), 1 ≤ j → j < nlI b → (by' b)[j] ≠ 10 := by
  have hi := nl_int b
  rw [nl_list, ib_spec] at hi
  cases hf : ((by' b).drop 1).findIdx? (· == 10) with
  | none => rw [hf] at hi; simp only at hi; omega
  | some i =>
    rw [hf] at hi
    simp only at hi
    rw [List.findIdx?_eq_some_iff_getElem] at hf
    obtain ⟨g1, g2, g3⟩ := hf
    rw [List.length_drop] at g1
    have hn : nlI b = i + 1 := by omega
    refine ⟨by omega, ?_, fun j hj h1 h2 he => ?_⟩
    · rw [List.getElem_drop] at g2
      simp only [hn]
      have : (by' b)[i + 1] = (by' b)[1 + i] := by congr 1; omega
      rw [this]; simpa using g2
    · have := g3 (j - 1) (by omega)
      rw [List.getElem_drop] at this
      apply this
      have e : (by' b)[1 + (j - 1)] = (by' b)[j] := by congr 1; omega
      rw [e, he]; rfl
theorem nl_lt {b : Str} (h : 0 < nlI b) : nlI b < b.size := by
  obtain ⟨h1, -⟩ := nl_some h
  rwa [by_len] at h1
def headS (b : Str) : Str := if 0 < nlI b then b.extract 0 (nlI b) else b
def badH (h : Str) : Bool := !(hasP sNH (h.extract 0 (min h.size 2))) || decide (9 < h.size)
def s2H : Str := ⟨#[10, 35, 35]⟩
inductive Out where
  | fail (e : Int)
  | wait
  | msg (b : Str)
  | more (b m : Str)
/-- What comes of the chunk that is next. -/
def step (b m : Str) (s : Bool) : Out :=
  if badH (headS b) = true then .fail 3
  else if nlI b = 0 then .wait
  else if headS b = s2H then (if s = true then .msg (b.extract (nlI b + 1) b.size) else .fail 3)
  else match sizeS ((headS b).extract (min (headS b).size 2) (headS b).size) with
    | none => .fail 3
    | some n => if 16384 < m.size + n then .fail 2 else if b.size < nlI b + 1 + n then .wait
      else .more (b.extract (nlI b + 1 + n) b.size) (m ++ b.extract (nlI b + 1) (nlI b + 1 + n))
/-- How it ends: with what, and what there is then. -/
structure End where
  out : Out
  b : Str
  m : Str
  s : Bool
def contK (r : Str → Str → End) (b m : Str) (s : Bool) : Out → End
  | .more b' m' => r b' m'
  | .fail e => ⟨.fail e, b, m, s⟩
  | .wait => ⟨.wait, b, m, s⟩
  | .msg x => ⟨.msg x, b, m, s⟩
def runK : Nat → Str → Str → Bool → End
  | 0, b, m, s => ⟨.wait, b, m, s⟩
  | k + 1, b, m, s => contK (fun b' m' => runK k b' m' true) b m s (step b m s)
def runC (b m : Str) (s : Bool) : End := runK (b.size + 1) b m s
theorem more_lt {b m b' m' : Str} {s : Bool} (h : step b m s = .more b' m') : b'.size < b.size := by
  unfold step at h
  split at h
  · cases h
  · split at h
    · cases h
    · split at h
      · split at h <;> cases h
      · split at h
        · cases h
        · split at h
          · cases h
          · split at h
            · cases h
            · rename_i n _ _ hb
              cases h
              simp [ByteArray.size_extract]
              omega
theorem runK_s (k : Nat) (b m : Str) (s : Bool) : runK (k + 1) b m s = contK (fun b' m' => runK k b' m' true) b m s (step b m s) := rfl
theorem runK_more {k : Nat} {b m b' m' : Str} {s : Bool} (h : step b m s = .more b' m') : runK (k + 1) b m s = runK k b' m' true := by
  rw [runK_s, h, contK]
theorem runK_end {k : Nat} {b m : Str} {s : Bool} {o : Out} (h : step b m s = o) (hn : ∀ b' m', o ≠ .more b' m') : runK (k + 1) b m s = ⟨o, b, m, s⟩ := by
  rw [runK_s, h]
  cases o with
  | more b' m' => exact absurd rfl (hn b' m')
  | _ => rfl
abbrev outA (c : Bool) (e : End) : AV × List Blk := match e.out with
  | .fail x => (.tup [vS e0, vI x], [dB c e0 e0 e.s x])
  | .wait => (.tup [vS e0, vI 4], [dB c e.b e.m e.s 0])
  | .msg b => (.tup [vS e.m, vI 0], [dB c b e0 false 0])
  | .more _ _ => (.tup [], [])
end Go.Abs.BB
end

section
set_option linter.unusedVariables false
set_option linter.unusedSimpArgs false
set_option linter.unusedSectionVars false
set_option maxRecDepth 100000
set_option maxHeartbeats 8000000
set_option linter.unusedSimpArgs false
set_option linter.unusedVariables false
namespace Go.Abs.BB
open Go.Proofs

theorem sizeS_lt {s : Str} {n : Nat} (h : sizeS s = some n) (hs : s.size ≤ 9) : n < 10 ^ 9 := by
  unfold sizeS at h
  split at h
  · cases h
  · split at h
    · rename_i ha
      cases h
      have := valN_lt' (by' s) (List.all_eq_true.1 ha)
      rw [by_len] at this
      exact Nat.lt_of_lt_of_le this (Nat.pow_le_pow_right (by omega) hs)
    · cases h
theorem head_size (b : Str) : (headS b).size ≤ b.size := by
  unfold headS
  split
  · simp [ByteArray.size_extract]; omega
  · exact Nat.le_refl _
theorem chunk_spec (c : Bool) (b0 m0 : Str) (s0 : Bool) (hb : b0.size ≤ 1000000000) (hm : m0.size ≤ 1000000000) :
    loudW XX 18 [.ptr 0 0] [dB c b0 m0 s0 0] = some (outA c (runC b0 m0 s0)) := by
  refine loudW_in 157 Tryd.func18 Tryd.ntmps18 (by simp) (rfl : Tryd.f18.body = some _) fns_18 ?_
  simp (maxSteps := 200000) (disch := first | (simp only [go_sem, Nat.reduceAdd, Nat.reduceSub, Nat.reduceMul, Nat.reduceLeDiff, Nat.reduceEqDiff, Nat.reduceLT, Nat.reduceBEq, Nat.reduceBNe, Nat.reducePow, ↓reduceIte]; done) | omega | (simp only [go_sem, Nat.reduceAdd, Nat.reduceSub, Nat.reduceMul, Nat.reduceLeDiff, Nat.reduceEqDiff, Nat.reduceLT, Nat.reduceBEq, Nat.reduceBNe, Nat.reducePow, ↓reduceIte] <;> omega) | fail) only [go_sem, Nat.reduceAdd, Nat.reduceSub, Nat.reduceMul, Nat.reduceLeDiff, Nat.reduceEqDiff, Nat.reduceLT, Nat.reduceBEq, Nat.reduceBNe, Nat.reducePow, ↓reduceIte]
  refine WP_loopR 1 1 (fun (a : Nat × Str × Str × Bool) => S_18_1 (.ptr 0 0) [dB c a.2.1 a.2.2.1 a.2.2.2 0]) (fun a => a.1) (fun a => a.2.1.size < a.1 ∧ a.2.1.size ≤ 1000000000 ∧ a.2.2.1.size ≤ 1000000000 ∧ runC b0 m0 s0 = runK a.1 a.2.1 a.2.2.1 a.2.2.2) (b0.size + 1, b0, m0, s0) rfl rfl ?_ ?_ ?_
  · simp (maxSteps := 200000) (disch := first | (simp only [go_sem, Nat.reduceAdd, Nat.reduceSub, Nat.reduceMul, Nat.reduceLeDiff, Nat.reduceEqDiff, Nat.reduceLT, Nat.reduceBEq, Nat.reduceBNe, Nat.reducePow, ↓reduceIte]; done) | omega | (simp only [go_sem, Nat.reduceAdd, Nat.reduceSub, Nat.reduceMul, Nat.reduceLeDiff, Nat.reduceEqDiff, Nat.reduceLT, Nat.reduceBEq, Nat.reduceBNe, Nat.reducePow, ↓reduceIte] <;> omega) | fail) only [go_sem, Nat.reduceAdd, Nat.reduceSub, Nat.reduceMul, Nat.reduceLeDiff, Nat.reduceEqDiff, Nat.reduceLT, Nat.reduceBEq, Nat.reduceBNe, Nat.reducePow, ↓reduceIte]
  · exact ⟨Nat.lt_succ_self _, hb, hm, rfl⟩
  · rintro ⟨k, b, m, s⟩ ⟨hk, hb, hm, hI⟩
    simp only at hk hb hm hI
    cases k with
    | zero => omega
    | succ k =>
    have hmin1 : (if (1 : Int) < (b.size : Int) then (1 : Int) else (b.size : Int)) = ((min b.size 1 : Nat) : Int) := by
      by_cases h : (1 : Int) < (b.size : Int)
      · rw [if_pos h]; omega
      · rw [if_neg h]; omega
    have hib : pureW XX 25 [vS (b.extract (min b.size 1) b.size), .v (.int .u8 10)] = some (vI (Lib.indexByte (by' (b.extract (min b.size 1) b.size)) 10)) := indexByte_spec _ _
    have hnl := nl_int b
    have hst : ∀ o, step b m s = o → (∀ b' m', o ≠ .more b' m') → runC b0 m0 s0 = ⟨o, b, m, s⟩ := fun o h1 h2 => by rw [hI, runK_end h1 h2]
    have hhs := head_size b
    have hfail := call_fail 18 (by rw [live_18]; rfl)
    have hlt : 0 < nlI b → nlI b < b.size := nl_lt
    have hH : headS b = if 0 < nlI b then b.extract 0 (nlI b) else b := rfl
    have hwi : IntKind.i64.wrap (Lib.indexByte (by' (b.extract (min b.size 1) b.size)) 10 + 1) = ((nlI b : Nat) : Int) := by
      rw [hnl]; by_cases h : 0 < nlI b
      · have := hlt h; exact IntWalk.i64_in _ (by omega)
      · rw [show nlI b = 0 by omega]; rfl
    generalize Lib.indexByte (by' (b.extract (min b.size 1) b.size)) 10 = x at *
    have hstd : step b m s = step b m s := rfl
    unfold step at hst
    conv at hstd => rhs; unfold step
    obtain ⟨H, hHd⟩ : ∃ H, headS b = H := ⟨_, rfl⟩
    simp only [hHd] at hst hhs hH hstd
    have hmin2 : (if (2 : Int) < (H.size : Int) then (2 : Int) else (H.size : Int)) = ((min H.size 2 : Nat) : Int) := by
      by_cases h : (2 : Int) < (H.size : Int)
      · rw [if_pos h]; omega
      · rw [if_neg h]; omega
    have hp : pureW XX 26 [vS ⟨#[10, 35]⟩, vS (H.extract 0 (min H.size 2))] = some (vB (hasP sNH (H.extract 0 (min H.size 2)))) := hasP_spec _ _
    unfold badH at hst hstd
    generalize hasP sNH (H.extract 0 (min H.size 2)) = p at *
    generalize nlI b = i at *
    by_cases hi : 0 < i
    case neg =>
      have hi0 : i = 0 := by omega
      subst hi0
      rw [if_neg hi] at hH
      subst hH
      have g0 : ((0 : Int) < ((0 : Nat) : Int)) = False := eq_false (by omega)
      have g00 : (((0 : Nat) : Int) = 0) = True := eq_true rfl
      cases p with
      | false =>
        rw [hst (.fail 3) (by simp) (by simp)]
        simp (maxSteps := 200000) (disch := first | (simp only [go_sem, Nat.reduceAdd, Nat.reduceSub, Nat.reduceMul, Nat.reduceLeDiff, Nat.reduceEqDiff, Nat.reduceLT, Nat.reduceBEq, Nat.reduceBNe, Nat.reducePow, ↓reduceIte]; done) | omega | (simp only [go_sem, Nat.reduceAdd, Nat.reduceSub, Nat.reduceMul, Nat.reduceLeDiff, Nat.reduceEqDiff, Nat.reduceLT, Nat.reduceBEq, Nat.reduceBNe, Nat.reducePow, ↓reduceIte] <;> omega) | fail) only [go_sem, Nat.reduceAdd, Nat.reduceSub, Nat.reduceMul, Nat.reduceLeDiff, Nat.reduceEqDiff, Nat.reduceLT, Nat.reduceBEq, Nat.reduceBNe, Nat.reducePow, ↓reduceIte, Nat.min_le_left, hmin1, callA_data mode_25, hib, hwi, g0, hmin2, callA_pure mode_26, hp, hfail]
      | true =>
        by_cases h9 : 9 < H.size
        · rw [hst (.fail 3) (by simp [h9]) (by simp)]
          have g9 : ((9 : Int) < (H.size : Int)) = True := eq_true (by omega)
          simp (maxSteps := 200000) (disch := first | (simp only [go_sem, Nat.reduceAdd, Nat.reduceSub, Nat.reduceMul, Nat.reduceLeDiff, Nat.reduceEqDiff, Nat.reduceLT, Nat.reduceBEq, Nat.reduceBNe, Nat.reducePow, ↓reduceIte]; done) | omega | (simp only [go_sem, Nat.reduceAdd, Nat.reduceSub, Nat.reduceMul, Nat.reduceLeDiff, Nat.reduceEqDiff, Nat.reduceLT, Nat.reduceBEq, Nat.reduceBNe, Nat.reducePow, ↓reduceIte] <;> omega) | fail) only [go_sem, Nat.reduceAdd, Nat.reduceSub, Nat.reduceMul, Nat.reduceLeDiff, Nat.reduceEqDiff, Nat.reduceLT, Nat.reduceBEq, Nat.reduceBNe, Nat.reducePow, ↓reduceIte, Nat.min_le_left, hmin1, callA_data mode_25, hib, hwi, g0, hmin2, callA_pure mode_26, hp, g9, hfail]
        · rw [hst .wait (by simp [h9]) (by simp)]
          have g9 : ((9 : Int) < (H.size : Int)) = False := eq_false (by omega)
          simp (maxSteps := 200000) (disch := first | (simp only [go_sem, Nat.reduceAdd, Nat.reduceSub, Nat.reduceMul, Nat.reduceLeDiff, Nat.reduceEqDiff, Nat.reduceLT, Nat.reduceBEq, Nat.reduceBNe, Nat.reducePow, ↓reduceIte]; done) | omega | (simp only [go_sem, Nat.reduceAdd, Nat.reduceSub, Nat.reduceMul, Nat.reduceLeDiff, Nat.reduceEqDiff, Nat.reduceLT, Nat.reduceBEq, Nat.reduceBNe, Nat.reducePow, ↓reduceIte] <;> omega) | fail) only [go_sem, Nat.reduceAdd, Nat.reduceSub, Nat.reduceMul, Nat.reduceLeDiff, Nat.reduceEqDiff, Nat.reduceLT, Nat.reduceBEq, Nat.reduceBNe, Nat.reducePow, ↓reduceIte, Nat.min_le_left, hmin1, callA_data mode_25, hib, hwi, g0, g00, hmin2, callA_pure mode_26, hp, g9, hfail]
    have hi' := hlt hi
    rw [if_pos hi] at hH
    have hH' := hH.symm
    have hib2 : (i ≤ b.size) = True := eq_true (by omega)
    have g0 : ((0 : Int) < (i : Int)) = True := eq_true (by omega)
    have g00 : ((i : Int) = 0) = False := eq_false (by omega)
    cases p with
    | false =>
      rw [hst (.fail 3) (by simp) (by simp)]
      simp (maxSteps := 200000) (disch := first | (simp only [go_sem, Nat.reduceAdd, Nat.reduceSub, Nat.reduceMul, Nat.reduceLeDiff, Nat.reduceEqDiff, Nat.reduceLT, Nat.reduceBEq, Nat.reduceBNe, Nat.reducePow, ↓reduceIte]; done) | omega | (simp only [go_sem, Nat.reduceAdd, Nat.reduceSub, Nat.reduceMul, Nat.reduceLeDiff, Nat.reduceEqDiff, Nat.reduceLT, Nat.reduceBEq, Nat.reduceBNe, Nat.reducePow, ↓reduceIte] <;> omega) | fail) only [go_sem, Nat.reduceAdd, Nat.reduceSub, Nat.reduceMul, Nat.reduceLeDiff, Nat.reduceEqDiff, Nat.reduceLT, Nat.reduceBEq, Nat.reduceBNe, Nat.reducePow, ↓reduceIte, Nat.min_le_left, hmin1, callA_data mode_25, hib, hwi, g0, hib2, hH', hmin2, callA_pure mode_26, hp, hfail]
    | true =>
    by_cases h9 : 9 < H.size
    · rw [hst (.fail 3) (by simp [h9]) (by simp)]
      have g9 : ((9 : Int) < (H.size : Int)) = True := eq_true (by omega)
      simp (maxSteps := 200000) (disch := first | (simp only [go_sem, Nat.reduceAdd, Nat.reduceSub, Nat.reduceMul, Nat.reduceLeDiff, Nat.reduceEqDiff, Nat.reduceLT, Nat.reduceBEq, Nat.reduceBNe, Nat.reducePow, ↓reduceIte]; done) | omega | (simp only [go_sem, Nat.reduceAdd, Nat.reduceSub, Nat.reduceMul, Nat.reduceLeDiff, Nat.reduceEqDiff, Nat.reduceLT, Nat.reduceBEq, Nat.reduceBNe, Nat.reducePow, ↓reduceIte] <;> omega) | fail) only [go_sem, Nat.reduceAdd, Nat.reduceSub, Nat.reduceMul, Nat.reduceLeDiff, Nat.reduceEqDiff, Nat.reduceLT, Nat.reduceBEq, Nat.reduceBNe, Nat.reducePow, ↓reduceIte, Nat.min_le_left, hmin1, callA_data mode_25, hib, hwi, g0, hib2, hH', hmin2, callA_pure mode_26, hp, g9, hfail]
    have g9 : ((9 : Int) < (H.size : Int)) = False := eq_false (by omega)
    have hi0 : ¬ i = 0 := by omega
    have hw1 : IntKind.i64.wrap ((i : Int) + 1) = ((i + 1 : Nat) : Int) := by rw [IntWalk.i64_in _ (by omega)]; omega
    have hib3 : (i + 1 ≤ b.size) = True := eq_true (by omega)
    by_cases h2 : H = ⟨#[10, 35, 35]⟩
    · have g2 := eq_true h2
      have h2' : H = s2H := h2
      cases s with
      | false =>
        rw [hst (.fail 3) (by simp [h9, hi0, h2', show s2H.size = 3 from rfl]) (by simp)]
        simp (maxSteps := 200000) (disch := first | (simp only [go_sem, Nat.reduceAdd, Nat.reduceSub, Nat.reduceMul, Nat.reduceLeDiff, Nat.reduceEqDiff, Nat.reduceLT, Nat.reduceBEq, Nat.reduceBNe, Nat.reducePow, ↓reduceIte]; done) | omega | (simp only [go_sem, Nat.reduceAdd, Nat.reduceSub, Nat.reduceMul, Nat.reduceLeDiff, Nat.reduceEqDiff, Nat.reduceLT, Nat.reduceBEq, Nat.reduceBNe, Nat.reducePow, ↓reduceIte] <;> omega) | fail) only [go_sem, Nat.reduceAdd, Nat.reduceSub, Nat.reduceMul, Nat.reduceLeDiff, Nat.reduceEqDiff, Nat.reduceLT, Nat.reduceBEq, Nat.reduceBNe, Nat.reducePow, ↓reduceIte, Nat.min_le_left, hmin1, callA_data mode_25, hib, hwi, g0, g00, hib2, hH', hmin2, callA_pure mode_26, hp, g9, g2, hfail]
      | true =>
        rw [hst (.msg (b.extract (i + 1) b.size)) (by simp [h9, hi0, h2', show s2H.size = 3 from rfl]) (by simp)]
        simp (maxSteps := 200000) (disch := first | (simp only [go_sem, Nat.reduceAdd, Nat.reduceSub, Nat.reduceMul, Nat.reduceLeDiff, Nat.reduceEqDiff, Nat.reduceLT, Nat.reduceBEq, Nat.reduceBNe, Nat.reducePow, ↓reduceIte]; done) | omega | (simp only [go_sem, Nat.reduceAdd, Nat.reduceSub, Nat.reduceMul, Nat.reduceLeDiff, Nat.reduceEqDiff, Nat.reduceLT, Nat.reduceBEq, Nat.reduceBNe, Nat.reducePow, ↓reduceIte] <;> omega) | fail) only [go_sem, Nat.reduceAdd, Nat.reduceSub, Nat.reduceMul, Nat.reduceLeDiff, Nat.reduceEqDiff, Nat.reduceLT, Nat.reduceBEq, Nat.reduceBNe, Nat.reducePow, ↓reduceIte, Nat.min_le_left, hmin1, callA_data mode_25, hib, hwi, g0, g00, hib2, hH', hmin2, callA_pure mode_26, hp, g9, g2, hw1, hib3]
    have h2' : ¬ H = s2H := h2
    have hz := size_spec (H.extract (min H.size 2) H.size) (by simp [ByteArray.size_extract]; omega)
    have hzl := fun n (h : sizeS (H.extract (min H.size 2) H.size) = some n) => sizeS_lt h (by simp [ByteArray.size_extract]; omega)
    cases hzs : sizeS (H.extract (min H.size 2) H.size) with
    | none =>
      rw [hzs] at hz
      simp only [aSize] at hz
      rw [hst (.fail 3) (by simp [h9, hi0, h2', hzs]) (by simp)]
      simp (maxSteps := 200000) (disch := first | (simp only [go_sem, Nat.reduceAdd, Nat.reduceSub, Nat.reduceMul, Nat.reduceLeDiff, Nat.reduceEqDiff, Nat.reduceLT, Nat.reduceBEq, Nat.reduceBNe, Nat.reducePow, ↓reduceIte]; done) | omega | (simp only [go_sem, Nat.reduceAdd, Nat.reduceSub, Nat.reduceMul, Nat.reduceLeDiff, Nat.reduceEqDiff, Nat.reduceLT, Nat.reduceBEq, Nat.reduceBNe, Nat.reducePow, ↓reduceIte] <;> omega) | fail) only [go_sem, Nat.reduceAdd, Nat.reduceSub, Nat.reduceMul, Nat.reduceLeDiff, Nat.reduceEqDiff, Nat.reduceLT, Nat.reduceBEq, Nat.reduceBNe, Nat.reducePow, ↓reduceIte, Nat.min_le_left, hmin1, callA_data mode_25, hib, hwi, g0, g00, hib2, hH', hmin2, callA_pure mode_26, hp, g9, h2, callA_pure mode_27, hz, hfail]
    | some n =>
      have hn := hzl n hzs
      rw [hzs] at hz
      simp only [aSize] at hz
      have hw2 : IntKind.i64.wrap ((m.size : Int) + (n : Int)) = ((m.size + n : Nat) : Int) := by rw [IntWalk.i64_in _ (by omega)]; omega
      have hw3 : IntKind.i64.wrap (((i + 1 : Nat) : Int) + (n : Int)) = ((i + 1 + n : Nat) : Int) := by rw [IntWalk.i64_in _ (by omega)]; omega
      by_cases h16 : 16384 < m.size + n
      · have g16 : ((16384 : Int) < ((m.size + n : Nat) : Int)) = True := eq_true (by omega)
        rw [hst (.fail 2) (by simp [h9, hi0, h2', hzs, h16]) (by simp)]
        simp (maxSteps := 200000) (disch := first | (simp only [go_sem, Nat.reduceAdd, Nat.reduceSub, Nat.reduceMul, Nat.reduceLeDiff, Nat.reduceEqDiff, Nat.reduceLT, Nat.reduceBEq, Nat.reduceBNe, Nat.reducePow, ↓reduceIte]; done) | omega | (simp only [go_sem, Nat.reduceAdd, Nat.reduceSub, Nat.reduceMul, Nat.reduceLeDiff, Nat.reduceEqDiff, Nat.reduceLT, Nat.reduceBEq, Nat.reduceBNe, Nat.reducePow, ↓reduceIte] <;> omega) | fail) only [go_sem, Nat.reduceAdd, Nat.reduceSub, Nat.reduceMul, Nat.reduceLeDiff, Nat.reduceEqDiff, Nat.reduceLT, Nat.reduceBEq, Nat.reduceBNe, Nat.reducePow, ↓reduceIte, Nat.min_le_left, hmin1, callA_data mode_25, hib, hwi, g0, g00, hib2, hH', hmin2, callA_pure mode_26, hp, g9, h2, callA_pure mode_27, hz, hw2, g16, hfail]
      · have g16 : ((16384 : Int) < ((m.size + n : Nat) : Int)) = False := eq_false (by omega)
        by_cases hbl : b.size < i + 1 + n
        · have gb : ((b.size : Int) < ((i + 1 + n : Nat) : Int)) = True := eq_true (by omega)
          rw [hst .wait (by simp [h9, hi0, h2', hzs, h16, hbl]) (by simp)]
          simp (maxSteps := 200000) (disch := first | (simp only [go_sem, Nat.reduceAdd, Nat.reduceSub, Nat.reduceMul, Nat.reduceLeDiff, Nat.reduceEqDiff, Nat.reduceLT, Nat.reduceBEq, Nat.reduceBNe, Nat.reducePow, ↓reduceIte]; done) | omega | (simp only [go_sem, Nat.reduceAdd, Nat.reduceSub, Nat.reduceMul, Nat.reduceLeDiff, Nat.reduceEqDiff, Nat.reduceLT, Nat.reduceBEq, Nat.reduceBNe, Nat.reducePow, ↓reduceIte] <;> omega) | fail) only [go_sem, Nat.reduceAdd, Nat.reduceSub, Nat.reduceMul, Nat.reduceLeDiff, Nat.reduceEqDiff, Nat.reduceLT, Nat.reduceBEq, Nat.reduceBNe, Nat.reducePow, ↓reduceIte, Nat.min_le_left, hmin1, callA_data mode_25, hib, hwi, g0, g00, hib2, hH', hmin2, callA_pure mode_26, hp, g9, h2, callA_pure mode_27, hz, hw1, hw2, hw3, g16, gb, hfail]
        · have gb : ((b.size : Int) < ((i + 1 + n : Nat) : Int)) = False := eq_false (by omega)
          have hib4 : (i + 1 + n ≤ b.size) = True := eq_true (by omega)
          have hib5 : (i + 1 ≤ i + 1 + n) = True := eq_true (by omega)
          have hstep : step b m s = .more (b.extract (i + 1 + n) b.size) (m ++ b.extract (i + 1) (i + 1 + n)) := by
            rw [hstd]; simp [h9, hi0, h2', hzs, h16, hbl]
          simp (maxSteps := 200000) (disch := first | (simp only [go_sem, Nat.reduceAdd, Nat.reduceSub, Nat.reduceMul, Nat.reduceLeDiff, Nat.reduceEqDiff, Nat.reduceLT, Nat.reduceBEq, Nat.reduceBNe, Nat.reducePow, ↓reduceIte]; done) | omega | (simp only [go_sem, Nat.reduceAdd, Nat.reduceSub, Nat.reduceMul, Nat.reduceLeDiff, Nat.reduceEqDiff, Nat.reduceLT, Nat.reduceBEq, Nat.reduceBNe, Nat.reducePow, ↓reduceIte] <;> omega) | fail) only [go_sem, Nat.reduceAdd, Nat.reduceSub, Nat.reduceMul, Nat.reduceLeDiff, Nat.reduceEqDiff, Nat.reduceLT, Nat.reduceBEq, Nat.reduceBNe, Nat.reducePow, ↓reduceIte, Nat.min_le_left, hmin1, callA_data mode_25, hib, hwi, g0, g00, hib2, hH', hmin2, callA_pure mode_26, hp, g9, h2, callA_pure mode_27, hz, hw1, hw2, hw3, g16, gb, hib3, hib4, hib5]
          refine ⟨(k, b.extract (i + 1 + n) b.size, m ++ b.extract (i + 1) (i + 1 + n), true), rfl, ⟨?_, ?_, ?_, ?_⟩, Nat.lt_succ_self _⟩
          · simp only [ByteArray.size_extract]; omega
          · simp only [ByteArray.size_extract]; omega
          · simp only [ByteArray.size_append, ByteArray.size_extract]; omega
          · rw [hI, runK_more hstep]
end Go.Abs.BB
end

section
set_option linter.unusedVariables false
set_option linter.unusedSimpArgs false
set_option linter.unusedSectionVars false
set_option maxRecDepth 100000
set_option maxHeartbeats 8000000
set_option linter.unusedSimpArgs false
set_option linter.unusedVariables false
namespace Go.Abs.BB
open Go.Proofs

abbrev outM (c : Bool) (e : End) : AV × List Blk := match e.out with
  | .fail x => (.tup [vS e0, vI x], [mB c e.b e.m e.s true])
  | .wait => (.tup [vS e0, vI 4], [mB c e.b e.m e.s false])
  | .msg b => (.tup [vS e.m, vI 0], [mB c b e0 false false])
  | .more _ _ => (.tup [], [])
theorem byteAt_eq {s : Str} {i : Nat} {l : List UInt8} (h : by' s = l) (hi : i < l.length) : byteAt s i = (l[i].toNat : Int) := by
  subst h
  exact byteAt_by s i (by rw [← by_len]; exact hi)
theorem badH_ref (H : Str) : badH H = (decide (9 < H.size) || (decide (0 < H.size) && decide (byteAt H 0 ≠ 10)) || (decide (1 < H.size) && decide (byteAt H 1 ≠ 35))) := by
  have hsz : H.size = (by' H).length := (by_len H).symm
  have hb0 : ∀ (x : UInt8) (r : List UInt8), by' H = x :: r → byteAt H 0 = (x.toNat : Int) := fun x r h => byteAt_eq (i := 0) h (by simp)
  have hb1 : ∀ (x y : UInt8) (r : List UInt8), by' H = x :: y :: r → byteAt H 1 = (y.toNat : Int) := fun x y r h => byteAt_eq (i := 1) h (by simp)
  have hu : ∀ (x : UInt8) (k : Nat), k < 256 → (((x.toNat : Nat) : Int) = (k : Int) ↔ x = UInt8.ofNat k) := by
    intro x k hk
    constructor
    · intro h
      have : x.toNat = k := by omega
      rw [← this]; simp
    · rintro rfl
      simp [Nat.mod_eq_of_lt hk]
  have hP : hasP sNH (H.extract 0 (min H.size 2)) = decide ((by' sNH).take ((by' H).take 2).length = (by' H).take 2 ∧ ((by' H).take 2).length ≤ 2) := by
    have ht : by' (H.extract 0 (min H.size 2)) = (by' H).take 2 := by
      rw [by_ext, List.drop_zero, Nat.sub_zero, hsz, List.take_eq_take_iff]
      omega
    have hz : (H.extract 0 (min H.size 2)).size = ((by' H).take 2).length := by rw [← by_len, ht]
    unfold hasP
    rw [hz, ← Bool.decide_and, decide_eq_decide, ← by_inj, by_ext, ht, show sNH.size = 2 from rfl, List.drop_zero, Nat.sub_zero]
    exact and_comm
  unfold badH
  rw [hP]
  cases hl : by' H with
  | nil =>
    rw [hl] at hsz
    simp at hsz
    simp [hsz]
  | cons x r =>
    cases r with
    | nil =>
      rw [hl] at hsz
      simp at hsz
      rw [hb0 x [] hl]
      have := hu x 10 (by omega)
      simp only [hsz, List.take_succ_cons, List.take_nil, List.length_cons, List.length_nil]
      by_cases hx : x = 10
      · subst hx
        have : (by' sNH).take (0 + 1) = [10] := rfl
        simp [this]
      · have h2 : ¬ ((x.toNat : Int) = 10) := fun h => hx (this.1 h)
        have h3 : ¬ ((by' sNH).take (0 + 1) = [x]) := by
          intro h
          have : (by' sNH).take 1 = [10] := rfl
          rw [this] at h
          exact hx (List.cons.inj h).1.symm
        simp [h2, h3]
    | cons y r =>
      rw [hl] at hsz
      simp only [List.length_cons] at hsz
      rw [hb0 x _ hl, hb1 x y _ hl]
      have u1 := hu x 10 (by omega)
      have u2 := hu y 35 (by omega)
      have h2 : by' sNH = [10, 35] := rfl
      simp only [List.take_succ_cons, List.take_zero, List.length_cons, List.length_nil, h2]
      have z0 : (0 < H.size) = True := eq_true (by omega)
      have z1 : (1 < H.size) = True := eq_true (by omega)
      by_cases hx : x = 10
      · by_cases hy : y = 35
        · subst hx hy; simp [z0, z1]
        · have g : ¬ ((y.toNat : Int) = 35) := fun h => hy (u2.1 h)
          subst hx
          simp [z0, z1, g, Ne.symm hy]
      · have g : ¬ ((x.toNat : Int) = 10) := fun h => hx (u1.1 h)
        simp [z0, z1, g, Ne.symm hx]
end Go.Abs.BB
end
