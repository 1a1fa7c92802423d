/- YtmjhgjgfinhiaaaGreatDoorXp1: a part of the interpreter by which the claim is shown, and of the walks: no conditions of its own: every theorem states its own. -/
import Derived.Test.YtmjhgjgfinhiaaaGreatDoorXa5
import Derived.Lib.TrimUEq
import Derived.Lib.RuneCount
set_option linter.unusedVariables false
set_option linter.unusedSimpArgs false
set_option linter.unusedSectionVars false
set_option maxHeartbeats 8000000
set_option maxRecDepth 100000
section
namespace Go.Abs.SA
open Go.Proofs
abbrev B8 := List UInt8
def rest (s : Str) (i : Nat) : B8 := (lS8 s).drop i
theorem lS8_len (s : Str) : (lS8 s).length = s.size := by
  show s.data.toList.length = s.data.size
  simp
theorem lS8_mk (l : B8) : lS8 (mkS l) = l := by simp
theorem mk_lS8 (s : Str) : mkS (lS8 s) = s := by cases s; simp
theorem mk_size (l : B8) : (mkS l).size = l.length := by
  show l.toArray.size = l.length
  simp
theorem lS8_ext (s : Str) (i j : Nat) : lS8 (s.extract i j) = ((lS8 s).take j).drop i := by
  show (s.extract i j).data.toList = _
  rw [ByteArray.data_extract, Array.toList_extract, List.extract_eq_take_drop, List.drop_take]
theorem ext_mk (s : Str) (i j : Nat) : s.extract i j = mkS (((lS8 s).take j).drop i) := by rw [← lS8_ext, mk_lS8]
theorem byteAt_list (s : Str) (i : Nat) (h : i < s.size) : byteAt s i = (((lS8 s)[i]'(by rw [lS8_len]; exact h)).toNat : Int) := by
  unfold byteAt
  have h1 : i < s.data.size := h
  have e : s.get! i = s.data[i] := by
    have : s.get! i = s.data[i]! := rfl
    rw [this]; exact getElem!_pos s.data i h1
  rw [e]; simp
theorem ofNat_byteAt (s : Str) (i : Nat) (h : i < s.size) : UInt8.ofNat (byteAt s i).toNat = (lS8 s)[i]'(by rw [lS8_len]; exact h) := by
  rw [byteAt_list s i h]
  simp
theorem rest_len (s : Str) (i : Nat) : (rest s i).length = s.size - i := by unfold rest; rw [List.length_drop, lS8_len]
theorem rest_cons (s : Str) (i : Nat) (h : i < s.size) : rest s i = (lS8 s)[i]'(by rw [lS8_len]; exact h) :: rest s (i + 1) := by
  unfold rest; rw [List.drop_eq_getElem_cons (by rw [lS8_len]; exact h)]
theorem rest_nil (s : Str) (i : Nat) (h : s.size ≤ i) : rest s i = [] := by unfold rest; exact List.drop_of_length_le (by rw [lS8_len]; exact h)
theorem rest_ext (s : Str) (i : Nat) : lS8 (s.extract i s.size) = rest s i := by
  rw [lS8_ext, List.take_of_length_le (by rw [lS8_len]; exact Nat.le_refl _)]; rfl
theorem ext_rest (s : Str) (i : Nat) : s.extract i s.size = mkS (rest s i) := by rw [← rest_ext, mk_lS8]
theorem ext_take (s : Str) (i k : Nat) : s.extract i (i + k) = mkS ((rest s i).take k) := by
  rw [ext_mk]; unfold rest; rw [List.drop_take, Nat.add_sub_cancel_left]
def letB (c : UInt8) : Bool := (decide (97 ≤ c.toNat) && decide (c.toNat ≤ 122)) || (decide (65 ≤ c.toNat) && decide (c.toNat ≤ 90)) || decide (c.toNat = 95)
def moreB (c : UInt8) : Bool := (decide (48 ≤ c.toNat) && decide (c.toNat ≤ 57)) || decide (c.toNat = 45) || decide (c.toNat = 46)
def okNm : B8 → Bool
  | [] => false
  | c :: r => letB c && r.all (fun c => letB c || moreB c) && decide (r.length < 32)
abbrev okC (i c : Int) : Prop := ((97 ≤ c ∧ c ≤ 122) ∨ (65 ≤ c ∧ c ≤ 90) ∨ c = 95) ∨ (i ≠ 0 ∧ ((48 ≤ c ∧ c ≤ 57) ∨ c = 45 ∨ c = 46))
theorem okNm_iff (s : Str) : okNm (lS8 s) = decide ((∀ j, j < s.size → okC j (byteAt s j)) ∧ s.size ≠ 0 ∧ s.size ≤ 32) := by
  have hl := lS8_len s
  have hb : ∀ (L : B8) (e : lS8 s = L) (j : Nat) (h : j < s.size) (h' : j < L.length), okC j (byteAt s j) ↔ letB L[j] = true ∨ (j ≠ 0 ∧ moreB L[j] = true) := by
    rintro L rfl j h h'
    rw [byteAt_list s j h]
    simp only [okC, letB, moreB, Bool.or_eq_true, Bool.and_eq_true, decide_eq_true_eq]
    omega
  obtain ⟨L, hL⟩ : ∃ L, lS8 s = L := ⟨_, rfl⟩
  replace hb := hb L hL
  rw [hL] at hl ⊢
  clear hL
  cases L with
  | nil =>
    have h0 : s.size = 0 := hl.symm
    simp [okNm, h0]
  | cons c r =>
    have hl' : r.length + 1 = s.size := hl
    rw [Bool.eq_iff_iff]
    simp only [okNm, Bool.and_eq_true, decide_eq_true_eq, List.all_eq_true]
    constructor
    · rintro ⟨⟨h1, h2⟩, h3⟩
      refine ⟨fun j hj => (hb j hj (by rw [List.length_cons]; omega)).2 ?_, by omega, by omega⟩
      cases j with
      | zero => exact .inl h1
      | succ j =>
        have hjr : j < r.length := by omega
        have := h2 r[j] (List.getElem_mem hjr)
        rw [Bool.or_eq_true] at this
        rcases this with h | h
        · exact .inl h
        · exact .inr ⟨by omega, h⟩
    · rintro ⟨h1, h2, h3⟩
      refine ⟨⟨?_, fun x hx => ?_⟩, by omega⟩
      · have := (hb 0 (by omega) (by rw [List.length_cons]; omega)).1 (h1 0 (by omega))
        rcases this with h | h
        · exact h
        · exact absurd rfl h.1
      · obtain ⟨j, hj, rfl⟩ := List.mem_iff_getElem.1 hx
        have := (hb (j + 1) (by omega) (by rw [List.length_cons]; omega)).1 (h1 (j + 1) (by omega))
        rw [Bool.or_eq_true]
        rcases this with h | h
        · exact .inl h
        · exact .inr h.2
theorem decode_lo (s : Str) (i : Nat) (h : byteAt s i < 128) : Utf8.decode s i = ((byteAt s i).toNat, 1) := by
  rw [Lib.decode_at, Lib.decodeN_ascii _ _ _ _ _ (by unfold byteAt at h; omega)]
  unfold byteAt; simp
theorem decode_hi (s : Str) (i : Nat) (h : 128 ≤ byteAt s i) : 128 ≤ (Utf8.decode s i).1 := by
  rw [Lib.decode_at]
  have hb : 128 ≤ (s.get! i).toNat := by unfold byteAt at h; omega
  unfold Lib.decodeN
  rw [if_neg (by omega)]
  repeat' split
  all_goals simp only
  all_goals omega
theorem name_spec (s : Str) (hs : s.size ≤ 140737488355328) : pureW XX 46 [vS s] = some (vB (okNm (lS8 s))) := by
  rw [okNm_iff]
  refine pureW_in 60 Tryz.func46 Tryz.ntmps46 (by simp) (rfl : Tryz.f46.body = some _) fns_46 ?_
  simp (maxSteps := 200000) (disch := first | omega | (simp only [go_sem] <;> omega) | fail) only [go_sem]
  refine WP_loopR 2 1 (fun (p : Nat) => S_46_2 (vS s) (.ptr 0 0) [.iter s p]) (fun p => s.size - p) (fun p => p ≤ s.size ∧ ∀ j, j < p → okC j (byteAt s j)) 0 rfl rfl ?_ ?_ ?_
  · simp (maxSteps := 200000) (disch := first | omega | (simp only [go_sem] <;> omega) | fail) only [go_sem]
  · exact ⟨Nat.zero_le _, fun j hj => absurd hj (Nat.not_lt_zero _)⟩
  · rintro p ⟨hp, hall⟩
    by_cases h : p < s.size
    · have hlo := byteAt_lo s p
      have bad : ¬ okC p (byteAt s p) → decide ((∀ j, j < s.size → okC j (byteAt s j)) ∧ s.size ≠ 0 ∧ s.size ≤ 32) = false := by
        intro hb
        simp only [decide_eq_false_iff_not]
        rintro ⟨h1, _⟩
        exact hb (h1 p h)
      by_cases hc : byteAt s p < 128
      · have hd := decode_lo s p hc
        have hct : (((byteAt s p).toNat : Nat) : Int) = byteAt s p := by omega
        have good : okC p (byteAt s p) → ∀ j, j < p + 1 → okC j (byteAt s j) := by
          intro hg j hj
          rcases Nat.lt_succ_iff_lt_or_eq.1 hj with h | rfl
          · exact hall j h
          · exact hg
        generalize byteAt s p = c at *
        have p0 : (p : Int) = 0 ∨ (p : Int) ≠ 0 := by omega
        have tri : c < 45 ∨ c = 45 ∨ c = 46 ∨ c = 47 ∨ (48 ≤ c ∧ c ≤ 57) ∨ (58 ≤ c ∧ c ≤ 64) ∨ (65 ≤ c ∧ c ≤ 90) ∨ (91 ≤ c ∧ c ≤ 94) ∨ c = 95 ∨ c = 96 ∨ (97 ≤ c ∧ c ≤ 122) ∨ 123 ≤ c := by omega
        rcases p0 with p0 | p0 <;> rcases tri with t | t | t | t | t | t | t | t | t | t | t | t <;> (
          first | have e1 : (97 ≤ c) = True := eq_true (by omega) | have e1 : (97 ≤ c) = False := eq_false (by omega)
          first | have e2 : (c ≤ 122) = True := eq_true (by omega) | have e2 : (c ≤ 122) = False := eq_false (by omega)
          first | have e3 : (65 ≤ c) = True := eq_true (by omega) | have e3 : (65 ≤ c) = False := eq_false (by omega)
          first | have e4 : (c ≤ 90) = True := eq_true (by omega) | have e4 : (c ≤ 90) = False := eq_false (by omega)
          first | have e5 : (c = 95) = True := eq_true (by omega) | have e5 : (c = 95) = False := eq_false (by omega)
          first | have e6 : (48 ≤ c) = True := eq_true (by omega) | have e6 : (48 ≤ c) = False := eq_false (by omega)
          first | have e7 : (c ≤ 57) = True := eq_true (by omega) | have e7 : (c ≤ 57) = False := eq_false (by omega)
          first | have e8 : (c = 45) = True := eq_true (by omega) | have e8 : (c = 45) = False := eq_false (by omega)
          first | have e9 : (c = 46) = True := eq_true (by omega) | have e9 : (c = 46) = False := eq_false (by omega)
          first | have e0 : ((p : Int) = 0) = True := eq_true (by omega) | have e0 : ((p : Int) = 0) = False := eq_false (by omega)
          simp (maxSteps := 200000) (disch := first | omega | (simp only [go_sem] <;> omega) | fail) only [go_sem, h, hd, hct, e1, e2, e3, e4, e5, e6, e7, e8, e9, e0]
          first
          | exact ⟨p + 1, rfl, ⟨h, good (by omega)⟩, by omega⟩
          | (rw [bad (by omega)]))
      · have hd := decode_hi s p (by omega)
        have hbad := bad (by omega)
        have hw := Lib.decode_width_pos s p h
        generalize hdd : Utf8.decode s p = dd at *
        have e1 : (97 ≤ ((dd.1 : Nat) : Int)) = True := eq_true (by omega)
        have e2 : (((dd.1 : Nat) : Int) ≤ 122) = False := eq_false (by omega)
        have e3 : (65 ≤ ((dd.1 : Nat) : Int)) = True := eq_true (by omega)
        have e4 : (((dd.1 : Nat) : Int) ≤ 90) = False := eq_false (by omega)
        have e5 : (((dd.1 : Nat) : Int) = 95) = False := eq_false (by omega)
        have e6 : (48 ≤ ((dd.1 : Nat) : Int)) = True := eq_true (by omega)
        have e7 : (((dd.1 : Nat) : Int) ≤ 57) = False := eq_false (by omega)
        have e8 : (((dd.1 : Nat) : Int) = 45) = False := eq_false (by omega)
        have e9 : (((dd.1 : Nat) : Int) = 46) = False := eq_false (by omega)
        by_cases p0 : (p : Int) = 0
        · have e0 := eq_true p0
          simp (maxSteps := 200000) (disch := first | omega | (simp only [go_sem] <;> omega) | fail) only [go_sem, h, hdd, e1, e2, e3, e4, e5, e6, e7, e8, e9, e0]
          rw [hbad]
        · have e0 := eq_false p0
          simp (maxSteps := 200000) (disch := first | omega | (simp only [go_sem] <;> omega) | fail) only [go_sem, h, hdd, e1, e2, e3, e4, e5, e6, e7, e8, e9, e0]
          rw [hbad]
    · have hps : p = s.size := by omega
      subst hps
      by_cases q : s = ⟨#[]⟩
      · have q' := eq_true q
        have hz : s.size = 0 := by rw [q]; rfl
        simp (maxSteps := 200000) (disch := first | omega | (simp only [go_sem] <;> omega) | fail) only [go_sem, h, q', ne_eq, not_true]
        simp [hz]
      · have q' := eq_false q
        have hz : s.size ≠ 0 := by
          intro h0
          apply q
          rw [← mk_lS8 s, List.eq_nil_of_length_eq_zero (l := lS8 s) (by rw [lS8_len]; exact h0)]
        simp (maxSteps := 200000) (disch := first | omega | (simp only [go_sem] <;> omega) | fail) only [go_sem, h, q', ne_eq, not_false_eq_true]
        rw [eq_comm]
        by_cases h32 : s.size ≤ 32
        · have : (((s.size : Nat) : Int) ≤ 32) := by omega
          simp only [this, decide_true, Option.some.injEq]
          simp [h32, hz]
          exact hall
        · have : ¬ (((s.size : Nat) : Int) ≤ 32) := by omega
          simp [h32, this]
end Go.Abs.SA
end
section
namespace Go.Abs.SA
open Go.Proofs
abbrev pC (s : Str) (i : Nat) : List AV := [vS s, vI i]
theorem idxB_ge (c : UInt8) : ∀ l : B8, -1 ≤ Lib.indexByte l c ∧ ((0 ≤ Lib.indexByte l c) ↔ l.contains c = true)
  | [] => by simp [Lib.indexByte]
  | b :: l => by
    have ih := idxB_ge c l
    unfold Lib.indexByte
    rw [List.contains_cons]
    by_cases h : b = c
    · subst h; simp
    · have h1 : (b == c) = false := by simpa using h
      have h2 : (c == b) = false := by simpa using fun e => h e.symm
      rw [h1, h2, Bool.false_or, ← ih.2]
      simp only [Bool.false_eq_true, ↓reduceIte]
      split
      · rename_i he
        simp only [beq_iff_eq] at he
        omega
      · rename_i he
        simp only [beq_iff_eq] at he
        omega
theorem idxB_no {c : UInt8} {l : B8} (h : l.contains c = false) : Lib.indexByte l c = -1 := by
  have h1 := idxB_ge c l
  rw [h] at h1
  have : ¬ (0 ≤ Lib.indexByte l c) := fun hh => by simpa using h1.2.1 hh
  omega
theorem byteAt_rng (s : Str) (i : Nat) : 0 ≤ byteAt s i ∧ byteAt s i < 256 := by
  have := byteAt_lo s i; have := byteAt_hi s i; omega
theorem wrapP {s : Str} {i k : Nat} (hs : s.size ≤ 1000000) (h : i + k ≤ s.size) : IntKind.i64.wrap ((i : Int) + (k : Int)) = ((i + k : Nat) : Int) := by
  rw [IntWalk.i64_in _ (by omega)]; omega
theorem wrap1 {s : Str} {i : Nat} (hs : s.size ≤ 1000000) (h : i + 1 ≤ s.size) : IntKind.i64.wrap ((i : Int) + 1) = ((i + 1 : Nat) : Int) := by
  rw [IntWalk.i64_in _ (by omega)]; omega
theorem pre_len {r t : B8} (h : Lib.hasPrefix r t = true) : t.length ≤ r.length := by
  unfold Lib.hasPrefix at h
  exact (List.isPrefixOf_iff_prefix.1 h).length_le
theorem xskip (s : Str) (i : Nat) (t : Str) (hi : i ≤ s.size) (hs : s.size ≤ 1000000) :
    loudW XX 75 [.ptr 0 0, vS t] [.var (pC s i)] = some (vB (Lib.hasPrefix (rest s i) (lS8 t)), [.var (pC s (if Lib.hasPrefix (rest s i) (lS8 t) = true then i + t.size else i))]) := by
  have hp := hasPrefixX (s.extract i s.size) t
  rw [rest_ext] at hp
  refine loudW_in 25 Tryz.func75 Tryz.ntmps75 (by simp) (rfl : Tryz.f75.body = some _) fns_75 ?_
  cases hb : Lib.hasPrefix (rest s i) (lS8 t) with
  | true =>
    rw [hb] at hp
    have hl := pre_len hb
    rw [rest_len, lS8_len] at hl
    have hw := wrapP hs (show i + t.size ≤ s.size by omega)
    simp (maxSteps := 200000) (disch := first | omega | (simp only [go_sem] <;> omega) | fail) only [go_sem, hi, callA_data mode_hasPrefix, hp, hw]
  | false =>
    rw [hb] at hp
    simp (maxSteps := 200000) (disch := first | omega | (simp only [go_sem] <;> omega) | fail) only [go_sem, hi, callA_data mode_hasPrefix, hp]
def blkB (c : UInt8) : Bool := (lS8 blaS).contains c
def nB (s : Str) (i : Nat) : Nat := ((rest s i).takeWhile blkB).length
theorem nB_yes {s : Str} {i : Nat} (h : i < s.size) (hb : blkB ((lS8 s)[i]'(by rw [lS8_len]; exact h)) = true) : nB s i = nB s (i + 1) + 1 := by
  unfold nB
  rw [rest_cons s i h, List.takeWhile_cons, if_pos hb]; rfl
theorem nB_no {s : Str} {i : Nat} (h : i < s.size) (hb : blkB ((lS8 s)[i]'(by rw [lS8_len]; exact h)) = false) : nB s i = 0 := by
  unfold nB
  rw [rest_cons s i h, List.takeWhile_cons, if_neg (by intro hh; rw [hb] at hh; cases hh)]; rfl
theorem xblank (s : Str) (i : Nat) (hi : i ≤ s.size) (hs : s.size ≤ 1000000) :
    loudW XX 126 [.ptr 0 0] [.var (pC s i)] = some (vB (decide (0 < nB s i)), [.var (pC s (i + nB s i))]) := by
  refine loudW_in 44 Tryz.func126 Tryz.ntmps126 (by simp) (rfl : Tryz.f126.body = some _) fns_126 ?_
  simp (maxSteps := 200000) (disch := first | omega | (simp only [go_sem] <;> omega) | fail) only [go_sem]
  refine WP_loopR 2 1 (fun (j : Nat) => S_126_2 (.ptr 0 0) (vI i) [.var (pC s j)]) (fun j => s.size - j) (fun j => i ≤ j ∧ j ≤ s.size ∧ i + nB s i = j + nB s j) i rfl rfl ?_ ?_ ?_
  · simp (maxSteps := 200000) (disch := first | omega | (simp only [go_sem] <;> omega) | fail) only [go_sem]
  · exact ⟨Nat.le_refl _, hi, rfl⟩
  · rintro j ⟨hij, hj, hn⟩
    have fin : nB s j = 0 → (some (vB (decide (i < j)), [Blk.var (pC s j)]) : Option (AV × List Blk)) = some (vB (decide (0 < nB s i)), [.var (pC s (i + nB s i))]) := by
      intro h0
      rw [hn, h0, Nat.add_zero]
      have : (i < j) ↔ 0 < nB s i := by omega
      simp only [this]
    by_cases h : j < s.size
    · have hx := indexByteX blaS (byteAt s j) (byteAt_rng s j)
      rw [ofNat_byteAt s j h] at hx
      have hw := wrap1 hs (show j + 1 ≤ s.size by omega)
      cases hb : blkB ((lS8 s)[j]'(by rw [lS8_len]; exact h)) with
      | true =>
        have hg : (0 ≤ Lib.indexByte (lS8 blaS) ((lS8 s)[j]'(by rw [lS8_len]; exact h))) = True := eq_true ((idxB_ge _ _).2.2 hb)
        have hny := nB_yes h hb
        simp (maxSteps := 200000) (disch := first | omega | (simp only [go_sem] <;> omega) | fail) only [go_sem, nat_int, h, callA_data mode_indexByte, hx, hg, hw]
        exact ⟨j + 1, rfl, ⟨by omega, h, by omega⟩, by omega⟩
      | false =>
        have hg : (0 ≤ Lib.indexByte (lS8 blaS) ((lS8 s)[j]'(by rw [lS8_len]; exact h))) = False := eq_false fun hh => by
          have := (idxB_ge _ _).2.1 hh
          unfold blkB at hb
          rw [hb] at this; cases this
        simp (maxSteps := 200000) (disch := first | omega | (simp only [go_sem] <;> omega) | fail) only [go_sem, nat_int, h, callA_data mode_indexByte, hx, hg]
        exact Option.some.inj (fin (nB_no h hb))
    · simp (maxSteps := 200000) (disch := first | omega | (simp only [go_sem] <;> omega) | fail) only [go_sem, nat_int, h]
      exact Option.some.inj (fin (by unfold nB; rw [rest_nil s j (by omega)]; rfl))
end Go.Abs.SA
end
section
namespace Go.Abs.SA
open Go.Proofs
abbrev stpS : Str := ⟨#[32, 9, 13, 10, 47, 62, 61, 60, 34, 39, 38]⟩
def stpB (c : UInt8) : Bool := (lS8 stpS).contains c
def wN (s : Str) (i : Nat) : Nat := ((rest s i).takeWhile fun c => !stpB c).length
theorem wN_yes {s : Str} {i : Nat} (h : i < s.size) (hb : stpB ((lS8 s)[i]'(by rw [lS8_len]; exact h)) = false) : wN s i = wN s (i + 1) + 1 := by
  unfold wN
  rw [rest_cons s i h, List.takeWhile_cons, if_pos (by rw [hb]; rfl)]; rfl
theorem wN_no {s : Str} {i : Nat} (h : i < s.size) (hb : stpB ((lS8 s)[i]'(by rw [lS8_len]; exact h)) = true) : wN s i = 0 := by
  unfold wN
  rw [rest_cons s i h, List.takeWhile_cons, if_neg (by rw [hb]; simp)]; rfl
theorem take_while {α : Type} (p : α → Bool) (l : List α) : l.take (l.takeWhile p).length = l.takeWhile p := by
  induction l with
  | nil => rfl
  | cons x r ih =>
    rw [List.takeWhile_cons]
    split
    · rw [List.length_cons, List.take_succ_cons, ih]
    · rfl
def nmM (w : B8) : B8 × B8 × Bool :=
  if (Lib.cut w [58]).2.2 then ((Lib.cut w [58]).1, (Lib.cut w [58]).2.1, okNm (Lib.cut w [58]).2.1 && okNm (Lib.cut w [58]).1) else ([], w, okNm w)
theorem cut_no {w sep : B8} (h : (Lib.cut w sep).2.2 = false) : (Lib.cut w sep).1 = w := by
  unfold Lib.cut at h ⊢
  split at h
  · cases h
  · rename_i hh; rw [if_neg hh]
theorem cut_len (w sep : B8) : (Lib.cut w sep).1.length ≤ w.length ∧ (Lib.cut w sep).2.1.length ≤ w.length := by
  unfold Lib.cut
  split
  · simp only [List.length_take, List.length_drop]; omega
  · simp
theorem xname (s : Str) (i : Nat) (hi : i ≤ s.size) (hs : s.size ≤ 1000000) :
    loudW XX 130 [.ptr 0 0] [.var (pC s i)] = some (.tup [vS (mkS (nmM ((rest s i).takeWhile fun c => !stpB c)).1), vS (mkS (nmM ((rest s i).takeWhile fun c => !stpB c)).2.1), vB (nmM ((rest s i).takeWhile fun c => !stpB c)).2.2], [.var (pC s (i + wN s i))]) := by
  refine loudW_in 73 Tryz.func130 Tryz.ntmps130 (by simp) (rfl : Tryz.f130.body = some _) fns_130 ?_
  simp (maxSteps := 200000) (disch := first | omega | (simp only [go_sem] <;> omega) | fail) only [go_sem]
  refine WP_loopR 2 1 (fun (j : Nat) => S_130_2 (.ptr 0 0) (vI i) [.var (pC s j)]) (fun j => s.size - j) (fun j => i ≤ j ∧ j ≤ s.size ∧ i + wN s i = j + wN s j) i rfl rfl ?_ ?_ ?_
  · simp (maxSteps := 200000) (disch := first | omega | (simp only [go_sem] <;> omega) | fail) only [go_sem]
  · exact ⟨Nat.le_refl _, hi, rfl⟩
  · rintro j ⟨hij, hj, hn⟩
    obtain ⟨w, hw⟩ : ∃ w, (rest s i).takeWhile (fun c => !stpB c) = w := ⟨_, rfl⟩
    rw [hw]
    have fin : wN s j = 0 → i + wN s i = j ∧ s.extract i j = mkS w := by
      intro h0
      have e : j = i + wN s i := by omega
      refine ⟨e.symm, ?_⟩
      rw [e, ext_take]
      congr 1
      unfold wN
      rw [take_while, hw]
    have hwl : w.length ≤ s.size := by
      rw [← hw]
      have := (List.takeWhile_prefix (p := fun c => !stpB c) (l := rest s i)).length_le
      rw [rest_len] at this; omega
    have hcl := cut_len w [58]
    have hcx := cutX (mkS w) ⟨#[58]⟩ (by show (mkS w).size < _; rw [mk_size]; omega)
    rw [lS8_mk, show lS8 ⟨#[58]⟩ = [58] from rfl] at hcx
    have hn1 := name_spec (mkS (Lib.cut w [58]).1) (by rw [mk_size]; omega)
    have hn2 := name_spec (mkS (Lib.cut w [58]).2.1) (by rw [mk_size]; omega)
    rw [lS8_mk] at hn1 hn2
    by_cases h : j < s.size
    · have hx := indexByteX stpS (byteAt s j) (byteAt_rng s j)
      rw [ofNat_byteAt s j h] at hx
      have hwr := wrap1 hs (show j + 1 ≤ s.size by omega)
      cases hb : stpB ((lS8 s)[j]'(by rw [lS8_len]; exact h)) with
      | false =>
        have hg : (Lib.indexByte (lS8 stpS) ((lS8 s)[j]'(by rw [lS8_len]; exact h)) < 0) = True := eq_true (by rw [idxB_no hb]; decide)
        have hny := wN_yes h hb
        simp (maxSteps := 200000) (disch := first | omega | (simp only [go_sem] <;> omega) | fail) only [go_sem, nat_int, h, callA_data mode_indexByte, hx, hg, hwr]
        exact ⟨j + 1, rfl, ⟨by omega, h, by omega⟩, by omega⟩
      | true =>
        have hg : (Lib.indexByte (lS8 stpS) ((lS8 s)[j]'(by rw [lS8_len]; exact h)) < 0) = False := eq_false (by have := (idxB_ge _ _).2.2 hb; omega)
        obtain ⟨f1, f2⟩ := fin (wN_no h hb)
        unfold nmM
        cases hc : (Lib.cut w [58]).2.2 with
        | true =>
          rw [hc] at hcx
          cases hl : okNm (Lib.cut w [58]).2.1 with
          | true =>
            rw [hl] at hn2
            simp (maxSteps := 200000) (disch := first | omega | (simp only [go_sem] <;> omega) | fail) only [go_sem, nat_int, h, callA_data mode_indexByte, hx, hg, hij, hj, f2, callA_data mode_cut, hcx, callA_pure mode_46, hn1, hn2]
            rw [f1]
          | false =>
            rw [hl] at hn2
            simp (maxSteps := 200000) (disch := first | omega | (simp only [go_sem] <;> omega) | fail) only [go_sem, nat_int, h, callA_data mode_indexByte, hx, hg, hij, hj, f2, callA_data mode_cut, hcx, callA_pure mode_46, hn1, hn2]
            rw [f1]
        | false =>
          rw [hc, cut_no hc] at hcx
          rw [cut_no hc] at hn1
          cases hl : okNm w with
          | true =>
            rw [hl] at hn1
            simp (maxSteps := 200000) (disch := first | omega | (simp only [go_sem] <;> omega) | fail) only [go_sem, nat_int, h, callA_data mode_indexByte, hx, hg, hij, hj, f2, callA_data mode_cut, hcx, callA_pure mode_46, hn1]
            rw [f1]
          | false =>
            rw [hl] at hn1
            simp (maxSteps := 200000) (disch := first | omega | (simp only [go_sem] <;> omega) | fail) only [go_sem, nat_int, h, callA_data mode_indexByte, hx, hg, hij, hj, f2, callA_data mode_cut, hcx, callA_pure mode_46, hn1]
            rw [f1]
    · obtain ⟨f1, f2⟩ := fin (by unfold wN; rw [rest_nil s j (by omega)]; rfl)
      unfold nmM
      cases hc : (Lib.cut w [58]).2.2 with
      | true =>
        rw [hc] at hcx
        cases hl : okNm (Lib.cut w [58]).2.1 with
        | true =>
          rw [hl] at hn2
          simp (maxSteps := 200000) (disch := first | omega | (simp only [go_sem] <;> omega) | fail) only [go_sem, nat_int, h, hij, hj, f2, callA_data mode_cut, hcx, callA_pure mode_46, hn1, hn2]
          rw [f1]
        | false =>
          rw [hl] at hn2
          simp (maxSteps := 200000) (disch := first | omega | (simp only [go_sem] <;> omega) | fail) only [go_sem, nat_int, h, hij, hj, f2, callA_data mode_cut, hcx, callA_pure mode_46, hn1, hn2]
          rw [f1]
      | false =>
        rw [hc, cut_no hc] at hcx
        rw [cut_no hc] at hn1
        cases hl : okNm w with
        | true =>
          rw [hl] at hn1
          simp (maxSteps := 200000) (disch := first | omega | (simp only [go_sem] <;> omega) | fail) only [go_sem, nat_int, h, hij, hj, f2, callA_data mode_cut, hcx, callA_pure mode_46, hn1]
          rw [f1]
        | false =>
          rw [hl] at hn1
          simp (maxSteps := 200000) (disch := first | omega | (simp only [go_sem] <;> omega) | fail) only [go_sem, nat_int, h, hij, hj, f2, callA_data mode_cut, hcx, callA_pure mode_46, hn1]
          rw [f1]
end Go.Abs.SA
end
section
namespace Go.Abs.SA
open Go.Proofs
theorem idx_room (sub : B8) : ∀ l : B8, -1 ≤ Lib.index l sub ∧ (0 ≤ Lib.index l sub → (Lib.index l sub).toNat + sub.length ≤ l.length)
  | [] => by
    unfold Lib.index
    cases sub <;> simp
  | b :: l => by
    have ih := idx_room sub l
    unfold Lib.index
    split
    · rename_i h
      have := (List.isPrefixOf_iff_prefix.1 h).length_le
      simp; simpa using this
    · split
      · rename_i he
        simp
      · rename_i he
        simp only [beq_iff_eq] at he
        refine ⟨by omega, fun h0 => ?_⟩
        have := ih.2 (by omega)
        rw [List.length_cons]
        omega
def tillM (r t : B8) : Option (B8 × B8) := if 0 ≤ Lib.index r t then some (r.take (Lib.index r t).toNat, r.drop ((Lib.index r t).toNat + t.length)) else none
theorem xtill (s : Str) (i : Nat) (t : Str) (hi : i ≤ s.size) (hs : s.size ≤ 1000000) :
    loudW XX 76 [.ptr 0 0, vS t] [.var (pC s i)] = some (if 0 ≤ Lib.index (rest s i) (lS8 t) then (.tup [vS (mkS ((rest s i).take (Lib.index (rest s i) (lS8 t)).toNat)), vB true], [.var (pC s (i + ((Lib.index (rest s i) (lS8 t)).toNat + t.size)))]) else (.tup [vS ⟨#[]⟩, vB false], [.var (pC s i)])) := by
  have hp := indexX (s.extract i s.size) t (by show (s.extract i s.size).size < _; rw [ByteArray.size_extract]; omega)
  rw [rest_ext] at hp
  obtain ⟨r1, r2⟩ := idx_room (lS8 t) (rest s i)
  rw [rest_len, lS8_len] at r2
  refine loudW_in 48 Tryz.func76 Tryz.ntmps76 (by simp) (rfl : Tryz.f76.body = some _) fns_76 ?_
  by_cases h : 0 ≤ Lib.index (rest s i) (lS8 t)
  · rw [if_pos h]
    have hr := r2 h
    obtain ⟨k, hk⟩ := Int.eq_ofNat_of_zero_le h
    rw [hk] at hp hr ⊢
    have hk0 : ((k : Int) < 0) = False := eq_false (by omega)
    have hk1 : i + k ≤ s.size := by omega
    have hk2 : i ≤ i + k := by omega
    have w1 := wrapP hs hk1
    have w2 := wrapP (i := k) (k := t.size) hs (by omega)
    have w3 := wrapP (i := i) (k := k + t.size) hs (by omega)
    simp (maxSteps := 200000) (disch := first | omega | (simp only [go_sem] <;> omega) | fail) only [go_sem, hi, callA_data mode_index, hp, hk0, w1, w2, w3, hk1, hk2, ext_take, Int.toNat_natCast]
  · rw [if_neg h]
    have hk0 : (Lib.index (rest s i) (lS8 t) < 0) = True := eq_true (by omega)
    simp (maxSteps := 200000) (disch := first | omega | (simp only [go_sem] <;> omega) | fail) only [go_sem, hi, callA_data mode_index, hp, hk0]
theorem take_suf {a b : B8} (h : a <:+ b) : b.drop (b.length - a.length) = a := by
  obtain ⟨t, rfl⟩ := h
  rw [List.length_append, Nat.add_sub_cancel, List.drop_left]
def atR (s : Str) (r : B8) : Nat := s.size - r.length
abbrev pR (s : Str) (r : B8) : Blk := .var [vS s, vI (atR s r)]
theorem suf_len {s : Str} {r : B8} (h : r <:+ lS8 s) : r.length ≤ s.size := by rw [← lS8_len]; exact h.length_le
theorem atR_le (s : Str) (r : B8) : atR s r ≤ s.size := Nat.sub_le _ _
theorem rest_at {s : Str} {r : B8} (h : r <:+ lS8 s) : rest s (atR s r) = r := by
  unfold rest atR
  rw [← lS8_len]; exact take_suf h
theorem atR_drop {s : Str} {r : B8} (h : r <:+ lS8 s) {k : Nat} (hk : k ≤ r.length) : atR s (r.drop k) = atR s r + k := by
  have := suf_len h
  unfold atR; rw [List.length_drop]; omega
theorem pR_drop {s : Str} {r : B8} (h : r <:+ lS8 s) {k : Nat} (hk : k ≤ r.length) : pR s (r.drop k) = .var (pC s (atR s r + k)) := by
  show Blk.var [vS s, vI (atR s (r.drop k))] = _
  rw [atR_drop h hk]
theorem rskip {s : Str} {r : B8} (h : r <:+ lS8 s) (hs : s.size ≤ 1000000) (t : Str) :
    loudW XX 75 [.ptr 0 0, vS t] [pR s r] = some (vB (Lib.hasPrefix r (lS8 t)), [pR s (if Lib.hasPrefix r (lS8 t) = true then r.drop t.size else r)]) := by
  have := xskip s (atR s r) t (atR_le _ _) hs
  rw [rest_at h] at this
  rw [this]
  cases hb : Lib.hasPrefix r (lS8 t) with
  | true =>
    have hl := pre_len hb
    rw [lS8_len] at hl
    simp only [↓reduceIte, pR_drop h hl]
  | false => simp
theorem dropW_drop (p : UInt8 → Bool) (r : B8) : r.dropWhile p = r.drop (r.takeWhile p).length := by
  generalize hh : r.takeWhile p = a
  have : r = a ++ r.dropWhile p := by rw [← hh, List.takeWhile_append_dropWhile]
  conv => rhs; rw [this]
  rw [List.drop_left]
theorem rblank {s : Str} {r : B8} (h : r <:+ lS8 s) (hs : s.size ≤ 1000000) :
    loudW XX 126 [.ptr 0 0] [pR s r] = some (vB (decide (0 < (r.takeWhile blkB).length)), [pR s (r.dropWhile blkB)]) := by
  have := xblank s (atR s r) (atR_le _ _) hs
  have e : nB s (atR s r) = (r.takeWhile blkB).length := by unfold nB; rw [rest_at h]
  have hl := (List.takeWhile_prefix (p := blkB) (l := r)).length_le
  rw [this, e, dropW_drop, pR_drop h hl]
theorem rname {s : Str} {r : B8} (h : r <:+ lS8 s) (hs : s.size ≤ 1000000) :
    loudW XX 130 [.ptr 0 0] [pR s r] = some (.tup [vS (mkS (nmM (r.takeWhile fun c => !stpB c)).1), vS (mkS (nmM (r.takeWhile fun c => !stpB c)).2.1), vB (nmM (r.takeWhile fun c => !stpB c)).2.2], [pR s (r.dropWhile fun c => !stpB c)]) := by
  have := xname s (atR s r) (atR_le _ _) hs
  have e : wN s (atR s r) = (r.takeWhile fun c => !stpB c).length := by unfold wN; rw [rest_at h]
  have hl := (List.takeWhile_prefix (p := fun c => !stpB c) (l := r)).length_le
  rw [rest_at h] at this
  rw [this, e, dropW_drop, pR_drop h hl]
theorem rtill {s : Str} {r : B8} (h : r <:+ lS8 s) (hs : s.size ≤ 1000000) (t : Str) :
    loudW XX 76 [.ptr 0 0, vS t] [pR s r] = some (match tillM r (lS8 t) with
      | some (c, r') => (.tup [vS (mkS c), vB true], [pR s r'])
      | none => (.tup [vS ⟨#[]⟩, vB false], [pR s r])) := by
  have := xtill s (atR s r) t (atR_le _ _) hs
  rw [rest_at h] at this
  rw [this]
  unfold tillM
  by_cases h0 : 0 ≤ Lib.index r (lS8 t)
  · have := (idx_room (lS8 t) r).2 h0
    rw [if_pos h0, if_pos h0]
    simp only
    rw [pR_drop h this, lS8_len]
  · rw [if_neg h0, if_neg h0]
theorem tillM_suf {r t c r' : B8} (h : tillM r t = some (c, r')) : r' <:+ r ∧ r'.length + t.length + c.length ≤ r.length := by
  unfold tillM at h
  split at h
  · rename_i h0
    have := (idx_room t r).2 h0
    simp only [Option.some.injEq, Prod.mk.injEq] at h
    obtain ⟨rfl, rfl⟩ := h
    refine ⟨List.drop_suffix _ _, ?_⟩
    rw [List.length_drop, List.length_take]; omega
  · cases h
def comOk (c : B8) : Bool := !(Lib.contains c [45, 45] || Lib.hasSuffix c [45])
abbrev cmO : B8 := [60, 33, 45, 45]
abbrev cmC : B8 := [45, 45, 62]
def comT (r : B8) : Bool × B8 := match tillM r cmC with
  | none => (false, r)
  | some (c, r') => (comOk c, r')
def comM : Nat → B8 → Bool × B8
  | 0, r => (false, r)
  | n + 1, r =>
    if Lib.hasPrefix (r.dropWhile blkB) cmO then (match comT ((r.dropWhile blkB).drop 4) with
      | (false, q) => (false, q)
      | (true, q) => comM n q)
    else (true, r.dropWhile blkB)
theorem comT_suf (r : B8) : (comT r).2 <:+ r := by
  unfold comT
  split
  · exact List.suffix_refl _
  · rename_i c r' h; exact (tillM_suf h).1
theorem comM_suf : ∀ (n : Nat) (r : B8), (comM n r).2 <:+ r
  | 0, r => List.suffix_refl _
  | n + 1, r => by
    rw [comM]
    have h1 : r.dropWhile blkB <:+ r := List.dropWhile_suffix _
    split
    · have h2 := comT_suf ((r.dropWhile blkB).drop 4)
      have h3 := (h2.trans (List.drop_suffix 4 _)).trans h1
      split
      · rename_i q hq; rw [hq] at h3; exact h3
      · rename_i q hq; rw [hq] at h3; exact (comM_suf n q).trans h3
    · exact h1
theorem callP {X : Abs.X} {t : List AV} {f k : Nat} {s : Str} {r r' : B8} {xs : List AV} {v : AV} (hl : (X.live f).contains k = true) (hi : idsOfs xs = []) (hr : idsOf v = []) (hw : loudW X k (.ptr 0 0 :: xs) [pR s r] = some (v, [pR s r'])) :
    callX X (orW X) ⟨t, [pR s r]⟩ f k (.ptr 0 0 :: xs) = some (.st v ⟨t, [pR s r']⟩) := by
  refine callX_var 0 hl (by simp [AV.lts, AV.lt]) (by simp [idsOfs, idsOf, hi]) rfl (by simp [idsOfs, idsOf]) (by simp [idsOfs, idsOf]) hr ?_
  rw [AV.rens, rens_noids _ _ hi]
  simpa [AV.ren, posOf] using hw
theorem rcomments {s : Str} (hs : s.size ≤ 1000000) (n0 : Nat) (r0 : B8) (h0 : r0 <:+ lS8 s) (hn0 : r0.length < n0) :
    loudW XX 78 [.ptr 0 0] [pR s r0] = some (vB (comM n0 r0).1, [pR s (comM n0 r0).2]) := by
  refine loudW_in 25 Tryz.func78 Tryz.ntmps78 (by simp) (rfl : Tryz.f78.body = some _) fns_78 ?_
  simp (maxSteps := 200000) (disch := first | omega | (simp only [go_sem] <;> omega) | fail) only [go_sem]
  refine WP_loopR 1 1 (fun (a : Nat × B8) => S_78_1 (.ptr 0 0) [pR s a.2]) (fun a => a.1) (fun a => a.2 <:+ lS8 s ∧ a.2.length < a.1 ∧ comM n0 r0 = comM a.1 a.2) (n0, r0) rfl rfl ?_ ?_ ?_
  · simp (maxSteps := 200000) (disch := first | omega | (simp only [go_sem] <;> omega) | fail) only [go_sem]
  · exact ⟨h0, hn0, rfl⟩
  · rintro ⟨n, r⟩ ⟨h1, h2, h3⟩
    simp only at h1 h2 h3
    cases n with
    | zero => omega
    | succ n =>
    rw [h3, comM]
    have hf : (XX.live 78).contains 126 = true := by rw [live_78]; rfl
    have hf2 : (XX.live 78).contains 75 = true := by rw [live_78]; rfl
    have hf3 : (XX.live 78).contains 76 = true := by rw [live_78]; rfl
    obtain ⟨q, hq⟩ : ∃ q, r.dropWhile blkB = q := ⟨_, rfl⟩
    have c1 := fun t => callP (t := t) (xs := []) hf rfl rfl (rblank h1 hs)
    rw [hq] at c1
    have hqs : q <:+ lS8 s := by rw [← hq]; exact (List.dropWhile_suffix _).trans h1
    have hql : q.length ≤ r.length := by rw [← hq]; exact (List.dropWhile_suffix _).length_le
    have c2 := fun t => callP (t := t) (xs := [vS ⟨#[60, 33, 45, 45]⟩]) hf2 rfl rfl (rskip hqs hs ⟨#[60, 33, 45, 45]⟩)
    rw [hq]
    have e4 : lS8 ⟨#[60, 33, 45, 45]⟩ = cmO := rfl
    rw [e4] at c2
    cases hp : Lib.hasPrefix q cmO with
    | false =>
      rw [hp] at c2
      simp only [Bool.false_eq_true, ↓reduceIte] at c2
      simp (maxSteps := 200000) (disch := first | omega | (simp only [go_sem] <;> omega) | fail) only [go_sem, c1, c2]
    | true =>
      rw [hp] at c2
      simp only [↓reduceIte] at c2
      obtain ⟨u, hu⟩ : ∃ u, q.drop 4 = u := ⟨_, rfl⟩
      have hul := pre_len hp
      have hul2 : u.length + 4 = q.length := by rw [← hu, List.length_drop]; have : cmO.length = 4 := rfl; omega
      have hus : u <:+ lS8 s := by rw [← hu]; exact (List.drop_suffix 4 q).trans hqs
      rw [show (ByteArray.mk #[60, 33, 45, 45]).size = 4 from rfl, hu] at c2
      simp only [↓reduceIte]
      rw [hu]
      have ht := rtill hus hs ⟨#[45, 45, 62]⟩
      rw [show lS8 ⟨#[45, 45, 62]⟩ = cmC from rfl] at ht
      unfold comT
      cases hT : tillM u cmC with
      | none =>
        rw [hT] at ht
        have c3 := fun t => callP (t := t) (xs := [vS ⟨#[45, 45, 62]⟩]) hf3 rfl rfl ht
        simp (maxSteps := 200000) (disch := first | omega | (simp only [go_sem] <;> omega) | fail) only [go_sem, c1, c2, c3]
      | some cr =>
        obtain ⟨c, r'⟩ := cr
        rw [hT] at ht
        obtain ⟨s1, s2⟩ := tillM_suf hT
        have c3 := fun t => callP (t := t) (xs := [vS ⟨#[45, 45, 62]⟩]) hf3 rfl rfl ht
        have hcl : c.length ≤ s.size := by have := suf_len hus; omega
        have hco := containsX (mkS c) ⟨#[45, 45]⟩ (by show (mkS c).size < _; rw [mk_size]; omega)
        have hsf := hasSuffixX (mkS c) ⟨#[45]⟩ (by show (mkS c).size < _; rw [mk_size]; omega)
        rw [lS8_mk, show lS8 ⟨#[45, 45]⟩ = [45, 45] from rfl] at hco
        rw [lS8_mk, show lS8 ⟨#[45]⟩ = [45] from rfl] at hsf
        have hlen : r'.length < n := by omega
        rcases Bool.eq_false_or_eq_true (Lib.contains c [45, 45]) with hC | hC
        · rw [hC] at hco
          have hok : comOk c = false := by unfold comOk; rw [hC]; rfl
          simp (maxSteps := 200000) (disch := first | omega | (simp only [go_sem] <;> omega) | fail) only [go_sem, c1, c2, c3, callA_data mode_contains, hco, hok]
        · rw [hC] at hco
          rcases Bool.eq_false_or_eq_true (Lib.hasSuffix c [45]) with hS | hS
          · rw [hS] at hsf
            have hok : comOk c = false := by unfold comOk; rw [hC, hS]; rfl
            simp (maxSteps := 200000) (disch := first | omega | (simp only [go_sem] <;> omega) | fail) only [go_sem, c1, c2, c3, callA_data mode_contains, hco, callA_data mode_hasSuffix, hsf, hok]
          · rw [hS] at hsf
            have hok : comOk c = true := by unfold comOk; rw [hC, hS]; rfl
            simp (maxSteps := 200000) (disch := first | omega | (simp only [go_sem] <;> omega) | fail) only [go_sem, c1, c2, c3, callA_data mode_contains, hco, callA_data mode_hasSuffix, hsf]
            exact ⟨(n, r'), rfl, ⟨s1.trans hus, hlen, by rw [hok]⟩, by simp only; omega⟩
end Go.Abs.SA
end
section
namespace Go.Abs.SA
open Go.Proofs
abbrev bldB (a : AV) (l : B8) : List Blk := [.var [a, .sl 1 0 l.length false] (some 134), .arr 5 1 (l.map eB)]
theorem rens_mkT (f : Nat → Option Nat) (m : Nat) (d : AV) (l : List (Nat × AV)) : AV.rens f (mkT m d l) = mkT m (d.ren f) (l.map fun p => (p.1, p.2.ren f)) := by
  have : ∀ l : List AV, AV.rens f l = l.map (AV.ren f) := by
    intro l
    induction l with
    | nil => rw [AV.rens]; rfl
    | cons x r ih => rw [AV.rens, ih]; rfl
  rw [this, mkT_map]
theorem keepF_out {i : Nat} {bad : List Nat} (h : i ∉ bad) : keepF bad i = some i := by unfold keepF; rw [if_neg h]
theorem copyCheckX (a b : AV) (r : List Blk) (ha : a = .v (.pointer none) ∨ a = .ptr 0 0) : loudW XX 203 [.ptr 0 0] (.var [a, b] (some 134) :: r) = some (.tup [], .var [.ptr 0 0, b] (some 134) :: r) := by
  rcases ha with rfl | rfl
  · exact extL_loudW rfl rfl
  · exact extL_loudW rfl rfl
theorem opA_assign_nilI {X : Abs.X} {O : Or} {f : FuncId} {lm : Option Nat} {d : Option Nat} {ty : TypeId} {pos : String} {af : Array Edge} {g : Option (Nat × Bool)} {s : St} : opA X O f lm ⟨d, .assign (.const .nilIface), ty, pos, af, g⟩ s = some (.val (.v .nilIface)) := nr (by
  simp only [opA, adopts, isNilSlice, Bool.false_and]
  rfl)
attribute [go_sem] opA_assign_nilI
theorem eB_app (l m : B8) : l.map eB ++ m.map eB = (l ++ m).map eB := (List.map_append).symm
theorem writeS_spec (a : AV) (ha : a = .v (.pointer none) ∨ a = .ptr 0 0) (l : B8) (t : Str) (hl : l.length + t.size ≤ 1099511627776) :
    loudW XX 152 [.ptr 0 0, vS t] (bldB a l) = some (.tup [vI t.size, .v .nilIface], bldB (.ptr 0 0) (l ++ lS8 t)) := by
  have hcc : ∀ ts, callX XX (orW XX) ⟨ts, bldB a l⟩ 152 203 [.ptr 0 0] = some (.st (.tup []) ⟨ts, bldB (.ptr 0 0) l⟩) := by
    intro ts
    rw [callX_live _ _ (by rw [live_152]; rfl) rfl]
    have hw := copyCheckX a (.sl 1 0 l.length false) [.arr 5 1 (l.map eB)] ha
    have hw' : (orW XX).loud 203 [.ptr 0 0] [.var [a, .sl 1 0 l.length false] (some 134), .arr 5 1 (l.map eB)] = some (.tup [], [.var [.ptr 0 0, .sl 1 0 l.length false] (some 134), .arr 5 1 (l.map eB)]) := hw
    rcases ha with rfl | rfl
    · simp [callL, reach, addNew, idsOfs, idsOf, dist, AV.rens, AV.ren, posOf, Blk.ren, hw', badL, badB, putBack, backF, rens_id keepF_nil]
    · simp [callL, reach, addNew, idsOfs, idsOf, dist, AV.rens, AV.ren, posOf, Blk.ren, hw', badL, badB, putBack, backF, rens_id keepF_nil]
  have hlt : t.data.toList.length = t.size := lS8_len t
  unfold bldB at hcc ⊢
  refine loudW_in 19 Tryz.func152 Tryz.ntmps152 (by simp) (rfl : Tryz.f152.body = some _) fns_152 ?_
  simp (maxSteps := 200000) (disch := first | omega | (simp only [go_sem] <;> omega) | fail) only [go_sem, hcc, eB_app, ofBytes, List.length_map]
  all_goals simp [hlt]
end Go.Abs.SA
end
section
namespace Go.Abs.SA
open Go.Proofs
def clB (c : UInt8) : Bool := (decide (32 ≤ c.toNat) && decide (c.toNat ≤ 126)) || decide (c.toNat = 9) || decide (c.toNat = 10) || decide (c.toNat = 13)
theorem clean_spec (s : Str) (hs : s.size ≤ 1000000) : pureW XX 74 [vS s] = some (vB ((lS8 s).all clB)) := by
  have hl : s.data.toList.length = s.size := lS8_len s
  have hsl : s.size ≤ 140737488355328 := by omega
  refine pureW_in 31 Tryz.func74 Tryz.ntmps74 (by simp) (rfl : Tryz.f74.body = some _) fns_74 ?_
  simp (maxSteps := 200000) (disch := first | omega | (simp only [go_sem] <;> omega) | fail) only [go_sem, hsl]
  refine WP_range 2 0 s.data.toList.length (fun i => S_74_2 (.fs (ofBytes s) false) (vI s.data.toList.length) (vI i) []) (fun i => ((lS8 s).all clB) = ((rest s i).all clB)) rfl rfl ?_ ?_ ?_ ?_
  · simp (maxSteps := 200000) (disch := first | omega | (simp only [go_sem] <;> omega) | fail) only [go_sem]; rfl
  · rfl
  · intro i h hI
    have h' : i < s.size := by rw [← hl]; exact h
    rw [rest_cons s i h', List.all_cons] at hI
    have hws := wrap_succ h (show s.data.toList.length ≤ 140737488355328 by omega)
    have hbg := byteAt_list s i h'
    have hb : clB ((lS8 s)[i]'(by rw [lS8_len]; exact h')) = ((decide (32 ≤ byteAt s i) && decide (byteAt s i ≤ 126)) || decide (byteAt s i = 9) || decide (byteAt s i = 10) || decide (byteAt s i = 13)) := by
      rw [hbg]
      unfold clB
      rw [Bool.eq_iff_iff]
      simp only [Bool.or_eq_true, Bool.and_eq_true, decide_eq_true_eq]
      omega
    rw [hb] at hI
    have hg2 : (((s.data.toList[i]'h).toNat : Nat) : Int) = byteAt s i := hbg.symm
    generalize byteAt s i = c at *
    have tri : c < 9 ∨ c = 9 ∨ c = 10 ∨ (10 < c ∧ c < 13) ∨ c = 13 ∨ (13 < c ∧ c < 32) ∨ (32 ≤ c ∧ c ≤ 126) ∨ 126 < c := by omega
    rcases tri with t | t | t | t | t | t | t | t <;> (
      first | have e1 : (c < 32) = True := eq_true (by omega) | have e1 : (c < 32) = False := eq_false (by omega)
      first | have e2 : (126 < c) = True := eq_true (by omega) | have e2 : (126 < c) = False := eq_false (by omega)
      first | have e3 : (c = 9) = True := eq_true (by omega) | have e3 : (c = 9) = False := eq_false (by omega)
      first | have e4 : (c = 10) = True := eq_true (by omega) | have e4 : (c = 10) = False := eq_false (by omega)
      first | have e5 : (c = 13) = True := eq_true (by omega) | have e5 : (c = 13) = False := eq_false (by omega)
      first | have e6 : (32 ≤ c) = True := eq_true (by omega) | have e6 : (32 ≤ c) = False := eq_false (by omega)
      first | have e7 : (c ≤ 126) = True := eq_true (by omega) | have e7 : (c ≤ 126) = False := eq_false (by omega)
      simp only [e3, e4, e5, e6, e7, decide_true, decide_false, Bool.and_true, Bool.and_false, Bool.true_and, Bool.false_and, Bool.or_true, Bool.or_false, Bool.true_or, Bool.false_or] at hI
      simp (maxSteps := 200000) (disch := first | omega | (simp only [go_sem] <;> omega) | fail) only [go_sem, nat_int, h, eB, hg2, e1, e2, e3, e4, e5, hws, ne_eq, not_true, not_false_eq_true]
      first | (rw [hI]; done) | exact hI)
  · intro hI
    rw [rest_nil s s.data.toList.length (by omega)] at hI
    rw [hI]
    simp (maxSteps := 200000) (disch := first | omega | (simp only [go_sem] <;> omega) | fail) only [go_sem, nat_int]
end Go.Abs.SA
end
section
namespace Go.Abs.SA
open Go.Proofs
abbrev hexS : Str := ⟨#[48, 49, 50, 51, 52, 53, 54, 55, 56, 57, 97, 98, 99, 100, 101, 102]⟩
def low (c : UInt8) : Int := bitI .or .u8 (c.toNat : Int) 32
def digV (c : UInt8) : Int := Lib.indexByte (lS8 hexS) (UInt8.ofNat (low c).toNat)
def entL (radix : Int) : Int → B8 → Option Int
  | n, [] => some n
  | n, c :: r => if (c.toNat : Int) < 48 ∨ digV c < 0 ∨ radix ≤ digV c then none else if 126 < n * radix + digV c then none else entL radix (n * radix + digV c) r
def entE (radix : Int) (digits : B8) : Int × Bool := match entL radix 0 digits with
  | none => (0, false)
  | some n => (n, decide (digits ≠ []) && decide (digits.length ≤ 8) && (decide (32 ≤ n) || decide (n = 9) || decide (n = 10) || decide (n = 13)))
def entM (s : Str) : Int × Bool :=
  if s = ⟨#[108, 116]⟩ then (60, true) else if s = ⟨#[103, 116]⟩ then (62, true) else if s = ⟨#[97, 109, 112]⟩ then (38, true) else if s = ⟨#[113, 117, 111, 116]⟩ then (34, true) else if s = ⟨#[97, 112, 111, 115]⟩ then (39, true)
  else if Lib.hasPrefix (lS8 s) [35, 120] then entE 16 ((lS8 s).drop 2) else if Lib.hasPrefix (lS8 s) [35] then entE 10 ((lS8 s).drop 1) else (0, false)
theorem low_rng (c : UInt8) : 0 ≤ low c ∧ low c < 256 := by
  unfold low bitI
  simp only
  have : ∀ m : Nat, m < 256 → IntKind.u8.wrap (m : Int) = m := by
    intro m hm
    unfold IntKind.wrap
    simp [IntKind.bits, IntKind.signed]
    omega
  have hlt := (BitVec.ofInt IntKind.u8.bits ((c.toNat : Int)) ||| BitVec.ofInt IntKind.u8.bits 32).isLt
  have hb : 2 ^ IntKind.u8.bits = 256 := rfl
  rw [hb] at hlt
  rw [this _ hlt]
  omega
theorem entL_rng {radix : Int} (hr : 0 ≤ radix) : ∀ (l : B8) (n m : Int), 0 ≤ n → entL radix n l = some m → (l = [] ∧ m = n) ∨ (0 ≤ m ∧ m ≤ 126)
  | [], n, m, hn, h => by rw [entL] at h; cases h; exact .inl ⟨rfl, rfl⟩
  | c :: r, n, m, hn, h => by
    rw [entL] at h
    split at h
    · cases h
    · rename_i hc
      split at h
      · cases h
      · rename_i hk
        have hd : 0 ≤ digV c := by omega
        have hp : 0 ≤ n * radix := Int.mul_nonneg hn hr
        rcases entL_rng hr r _ m (by omega) h with ⟨_, rfl⟩ | h
        · exact .inr ⟨by omega, by omega⟩
        · exact .inr h
theorem entL_end (radix : Int) (l : B8) (n : Int) (k : Nat) (h : l.length ≤ k) : entL radix n (l.drop k) = some n := by rw [List.drop_of_length_le h]; rfl
theorem entL_step (radix : Int) (l : B8) (n : Int) (k : Nat) (h : k < l.length) : entL radix n (l.drop k) = (if ((l[k]).toNat : Int) < 48 ∨ digV (l[k]) < 0 ∨ radix ≤ digV (l[k]) then none else if 126 < n * radix + digV (l[k]) then none else entL radix (n * radix + digV (l[k])) (l.drop (k + 1))) := by
  rw [List.drop_eq_getElem_cons h, entL]
theorem indexByteL (c : UInt8) : pureW XX 183 [vS hexS, .v (.int .u8 (low c))] = some (.v (.int .i64 (digV c))) := indexByteX hexS (low c) (low_rng c)
theorem wrap8 {x : Int} (h : 0 ≤ x ∧ x < 256) : IntKind.wrap .u8 x = x := by
  unfold IntKind.wrap
  simp [IntKind.bits, IntKind.signed]
  omega
theorem entity_spec (s : Str) (hs : s.size ≤ 1000000) : pureW XX 225 [vS s] = some (.tup [.v (.int .u8 (entM s).1), vB (entM s).2]) := by
  refine pureW_in 92 Tryz.func225 Tryz.ntmps225 (by simp) (rfl : Tryz.f225.body = some _) fns_225 ?_
  unfold entM
  by_cases q1 : s = ⟨#[108, 116]⟩
  · have q1' := eq_true q1
    rw [if_pos q1]
    simp (maxSteps := 200000) (disch := first | omega | (simp only [go_sem] <;> omega) | fail) only [go_sem, q1']
  have q1' := eq_false q1
  rw [if_neg q1]
  by_cases q2 : s = ⟨#[103, 116]⟩
  · have q2' := eq_true q2
    rw [if_pos q2]
    simp (maxSteps := 200000) (disch := first | omega | (simp only [go_sem] <;> omega) | fail) only [go_sem, q1', q2']
  have q2' := eq_false q2
  rw [if_neg q2]
  by_cases q3 : s = ⟨#[97, 109, 112]⟩
  · have q3' := eq_true q3
    rw [if_pos q3]
    simp (maxSteps := 200000) (disch := first | omega | (simp only [go_sem] <;> omega) | fail) only [go_sem, q1', q2', q3']
  have q3' := eq_false q3
  rw [if_neg q3]
  by_cases q4 : s = ⟨#[113, 117, 111, 116]⟩
  · have q4' := eq_true q4
    rw [if_pos q4]
    simp (maxSteps := 200000) (disch := first | omega | (simp only [go_sem] <;> omega) | fail) only [go_sem, q1', q2', q3', q4']
  have q4' := eq_false q4
  rw [if_neg q4]
  by_cases q5 : s = ⟨#[97, 112, 111, 115]⟩
  · have q5' := eq_true q5
    rw [if_pos q5]
    simp (maxSteps := 200000) (disch := first | omega | (simp only [go_sem] <;> omega) | fail) only [go_sem, q1', q2', q3', q4', q5']
  have q5' := eq_false q5
  rw [if_neg q5]
  have c1 := cutPrefixX s ⟨#[35, 120]⟩
  have c2 := cutPrefixX s ⟨#[35]⟩
  rw [show lS8 ⟨#[35, 120]⟩ = [35, 120] from rfl] at c1
  rw [show lS8 ⟨#[35]⟩ = [35] from rfl] at c2
  have hsl : s.size ≤ 140737488355328 := by omega
  rcases Bool.eq_false_or_eq_true (Lib.hasPrefix (lS8 s) [35, 120]) with p1 | p1
  · rw [p1] at c1
    rw [if_pos p1]
    have ht : Lib.trimPrefix (lS8 s) [35, 120] = (lS8 s).drop 2 := by unfold Lib.trimPrefix; rw [if_pos p1]; rfl
    rw [ht] at c1
    obtain ⟨D, hD⟩ : ∃ D, (lS8 s).drop 2 = D := ⟨_, rfl⟩
    rw [hD] at c1 ⊢
    have hDl : D.length ≤ 1000000 := by rw [← hD, List.length_drop, lS8_len]; omega
    have hDs : (mkS D).size ≤ 140737488355328 := by rw [mk_size]; omega
    simp (maxSteps := 200000) (disch := first | omega | (simp only [go_sem] <;> omega) | fail) only [go_sem, q1', q2', q3', q4', q5', callA_data mode_cutPrefix, c1, hDs]
    have hDd : (mkS D).data.toList = D := rfl
    have hsz : (mkS D).size = D.length := mk_size D
    refine WP_loopR 21 0 (fun (a : Nat × Int) => S_225_21 (vS (mkS D)) (vI 16) (vI a.2) (.fs (ofBytes (mkS D)) false) (vI D.length) (vI a.1) []) (fun a => D.length - a.1) (fun a => a.1 ≤ D.length ∧ 0 ≤ a.2 ∧ a.2 ≤ 126 ∧ entL 16 0 D = entL 16 a.2 (D.drop a.1)) (0, 0) rfl rfl ?_ ?_ ?_
    · simp (maxSteps := 200000) (disch := first | omega | (simp only [go_sem] <;> omega) | fail) only [go_sem]
      rfl
    · exact ⟨by simp, by simp, by simp, by simp⟩
    rintro ⟨k, n⟩ ⟨hk, hn, hn1, hI⟩
    simp only at hk hn hn1 hI
    have hres : ∀ o, entL 16 0 D = o → entE 16 D = (match o with
      | none => (0, false)
      | some n => (n, decide (D ≠ []) && decide (D.length ≤ 8) && (decide (32 ≤ n) || decide (n = 9) || decide (n = 10) || decide (n = 13)))) := by
      intro o ho; unfold entE; rw [ho]
    by_cases h : k < D.length
    · have hlt := eq_true h
      have hlt2 : ((k : Int) < (D.length : Int)) = True := eq_true (by omega)
      rw [entL_step 16 D n k h] at hI
      have hws := wrap_succ h (show D.length ≤ 140737488355328 by omega)
      have hib := indexByteL (D[k])
      have hidx : (ofBytes (mkS D))[k]? = some (eB D[k]) := by
        show (D.map eB)[k]? = _
        rw [List.getElem?_map, List.getElem?_eq_getElem h]; rfl
      have hlow : bitI .or .u8 ((D[k]).toNat : Int) 32 = low (D[k]) := rfl
      obtain ⟨c, hc⟩ : ∃ c, D[k] = c := ⟨_, rfl⟩
      rw [hc] at hI hib hidx hlow
      by_cases g1 : (c.toNat : Int) < 48
      · rw [if_pos (Or.inl g1)] at hI
        have := hres _ hI
        rw [this]
        have g1' := eq_true g1
        simp (maxSteps := 200000) (disch := first | omega | (simp only [go_sem] <;> omega) | fail) only [go_sem, nat_int, hlt, hlt2, hidx, hc, eB, callA_data mode_indexByte, hlow, hib, g1']
      · have g1' := eq_false g1
        obtain ⟨d, hd⟩ : ∃ d, digV c = d := ⟨_, rfl⟩
        rw [hd] at hI hib
        by_cases g2 : d < 0
        · rw [if_pos (Or.inr (Or.inl g2))] at hI
          have := hres _ hI
          rw [this]
          have g2' := eq_true g2
          simp (maxSteps := 200000) (disch := first | omega | (simp only [go_sem] <;> omega) | fail) only [go_sem, nat_int, hlt, hlt2, hidx, hc, eB, callA_data mode_indexByte, hlow, hib, g1', g2']
        · have g2' := eq_false g2
          by_cases g3 : 16 ≤ d
          · rw [if_pos (Or.inr (Or.inr g3))] at hI
            have := hres _ hI
            rw [this]
            have g3' := eq_true g3
            simp (maxSteps := 200000) (disch := first | omega | (simp only [go_sem] <;> omega) | fail) only [go_sem, nat_int, hlt, hlt2, hidx, hc, eB, callA_data mode_indexByte, hlow, hib, g1', g2', g3']
          · rw [if_neg (by omega)] at hI
            have g3' := eq_false g3
            have g3'' : (d < 16) = True := eq_true (by omega)
            have w1 : IntKind.wrap .i64 (n * 16) = n * 16 := IntWalk.i64_in _ (by omega)
            have w2 : IntKind.wrap .i64 (n * 16 + d) = n * 16 + d := IntWalk.i64_in _ (by omega)
            by_cases g4 : 126 < n * 16 + d
            · rw [if_pos g4] at hI
              have := hres _ hI
              rw [this]
              have g4' := eq_true g4
              simp (maxSteps := 200000) (disch := first | omega | (simp only [go_sem] <;> omega) | fail) only [go_sem, nat_int, hlt, hlt2, hidx, hc, eB, callA_data mode_indexByte, hlow, hib, g1', g2', g3', g3'', w1, w2, g4']
            · rw [if_neg g4] at hI
              have g4' := eq_false g4
              simp (maxSteps := 200000) (disch := first | omega | (simp only [go_sem] <;> omega) | fail) only [go_sem, nat_int, hlt, hlt2, hidx, hc, eB, callA_data mode_indexByte, hlow, hib, g1', g2', g3', g3'', w1, w2, g4', hws]
              refine ⟨(k + 1, n * 16 + d), rfl, ⟨by omega, by omega, by omega, hI⟩, by omega⟩
    · have hlt := eq_false h
      have hlt2 : ((k : Int) < (D.length : Int)) = False := eq_false (by omega)
      have hk' : k = D.length := by omega
      rw [entL_end 16 D n k (by omega)] at hI
      have := hres _ hI
      rw [this]
      have w3 : IntKind.wrap .u8 n = n := wrap8 ⟨hn, by omega⟩
      have hD0 : (mkS D = ⟨#[]⟩) = (D = []) := propext ⟨fun e => by
        have := congrArg (fun x : Str => lS8 x) e
        simpa using this, fun e => by rw [e]⟩
      have e0' : (D ≠ []) = ¬ (D = []) := rfl
      have tri : n < 9 ∨ n = 9 ∨ n = 10 ∨ (10 < n ∧ n < 13) ∨ n = 13 ∨ (13 < n ∧ n < 32) ∨ 32 ≤ n := by omega
      rcases Classical.em (D = []) with z | z <;> rcases Classical.em ((D.length : Int) ≤ 8) with y | y <;> rcases tri with t | t | t | t | t | t | t <;> (
        first | have z' : (D = []) = True := eq_true z | have z' : (D = []) = False := eq_false z
        first | have y' : ((D.length : Int) ≤ 8) = True := eq_true (by omega) | have y' : ((D.length : Int) ≤ 8) = False := eq_false (by omega)
        first | have y'' : (D.length ≤ 8) = True := eq_true (by omega) | have y'' : (D.length ≤ 8) = False := eq_false (by omega)
        first | have e1 : (32 ≤ n) = True := eq_true (by omega) | have e1 : (32 ≤ n) = False := eq_false (by omega)
        first | have e1' : (n < 32) = True := eq_true (by omega) | have e1' : (n < 32) = False := eq_false (by omega)
        first | have e2 : (n = 9) = True := eq_true (by omega) | have e2 : (n = 9) = False := eq_false (by omega)
        first | have e3 : (n = 10) = True := eq_true (by omega) | have e3 : (n = 10) = False := eq_false (by omega)
        first | have e4 : (n = 13) = True := eq_true (by omega) | have e4 : (n = 13) = False := eq_false (by omega)
        simp only [e0', z', y'', e1, e2, e3, e4, not_true, not_false_eq_true, decide_true, decide_false, Bool.and_true, Bool.and_false, Bool.true_and, Bool.false_and, Bool.or_true, Bool.or_false, Bool.true_or, Bool.false_or]
        simp (maxSteps := 200000) (disch := first | omega | (simp only [go_sem] <;> omega) | fail) only [go_sem, nat_int, hlt, hlt2, w3, hD0, hsz, ne_eq, z', y', y'', decide_true, decide_false, Bool.and_true, Bool.and_false, Bool.true_and, Bool.false_and, e1, e1', e2, e3, e4, not_true, not_false_eq_true])
  · rw [if_neg (by rw [p1]; simp)]
    rw [p1] at c1
    rcases Bool.eq_false_or_eq_true (Lib.hasPrefix (lS8 s) [35]) with p2 | p2
    · rw [p2] at c2
      rw [if_pos p2]
      have ht : Lib.trimPrefix (lS8 s) [35] = (lS8 s).drop 1 := by unfold Lib.trimPrefix; rw [if_pos p2]; rfl
      rw [ht] at c2
      obtain ⟨D, hD⟩ : ∃ D, (lS8 s).drop 1 = D := ⟨_, rfl⟩
      rw [hD] at c2 ⊢
      have hDl : D.length ≤ 1000000 := by rw [← hD, List.length_drop, lS8_len]; omega
      have hDs : (mkS D).size ≤ 140737488355328 := by rw [mk_size]; omega
      simp (maxSteps := 200000) (disch := first | omega | (simp only [go_sem] <;> omega) | fail) only [go_sem, q1', q2', q3', q4', q5', callA_data mode_cutPrefix, c1, c2, hDs]
      have hDd : (mkS D).data.toList = D := rfl
      have hsz : (mkS D).size = D.length := mk_size D
      refine WP_loopR 21 0 (fun (a : Nat × Int) => S_225_21 (vS (mkS D)) (vI 10) (vI a.2) (.fs (ofBytes (mkS D)) false) (vI D.length) (vI a.1) []) (fun a => D.length - a.1) (fun a => a.1 ≤ D.length ∧ 0 ≤ a.2 ∧ a.2 ≤ 126 ∧ entL 10 0 D = entL 10 a.2 (D.drop a.1)) (0, 0) rfl rfl ?_ ?_ ?_
      · simp (maxSteps := 200000) (disch := first | omega | (simp only [go_sem] <;> omega) | fail) only [go_sem]
        rfl
      · exact ⟨by simp, by simp, by simp, by simp⟩
      rintro ⟨k, n⟩ ⟨hk, hn, hn1, hI⟩
      simp only at hk hn hn1 hI
      have hres : ∀ o, entL 10 0 D = o → entE 10 D = (match o with
        | none => (0, false)
        | some n => (n, decide (D ≠ []) && decide (D.length ≤ 8) && (decide (32 ≤ n) || decide (n = 9) || decide (n = 10) || decide (n = 13)))) := by
        intro o ho; unfold entE; rw [ho]
      by_cases h : k < D.length
      · have hlt := eq_true h
        have hlt2 : ((k : Int) < (D.length : Int)) = True := eq_true (by omega)
        rw [entL_step 10 D n k h] at hI
        have hws := wrap_succ h (show D.length ≤ 140737488355328 by omega)
        have hib := indexByteL (D[k])
        have hidx : (ofBytes (mkS D))[k]? = some (eB D[k]) := by
          show (D.map eB)[k]? = _
          rw [List.getElem?_map, List.getElem?_eq_getElem h]; rfl
        have hlow : bitI .or .u8 ((D[k]).toNat : Int) 32 = low (D[k]) := rfl
        obtain ⟨c, hc⟩ : ∃ c, D[k] = c := ⟨_, rfl⟩
        rw [hc] at hI hib hidx hlow
        by_cases g1 : (c.toNat : Int) < 48
        · rw [if_pos (Or.inl g1)] at hI
          have := hres _ hI
          rw [this]
          have g1' := eq_true g1
          simp (maxSteps := 200000) (disch := first | omega | (simp only [go_sem] <;> omega) | fail) only [go_sem, nat_int, hlt, hlt2, hidx, hc, eB, callA_data mode_indexByte, hlow, hib, g1']
        · have g1' := eq_false g1
          obtain ⟨d, hd⟩ : ∃ d, digV c = d := ⟨_, rfl⟩
          rw [hd] at hI hib
          by_cases g2 : d < 0
          · rw [if_pos (Or.inr (Or.inl g2))] at hI
            have := hres _ hI
            rw [this]
            have g2' := eq_true g2
            simp (maxSteps := 200000) (disch := first | omega | (simp only [go_sem] <;> omega) | fail) only [go_sem, nat_int, hlt, hlt2, hidx, hc, eB, callA_data mode_indexByte, hlow, hib, g1', g2']
          · have g2' := eq_false g2
            by_cases g3 : 10 ≤ d
            · rw [if_pos (Or.inr (Or.inr g3))] at hI
              have := hres _ hI
              rw [this]
              have g3' := eq_true g3
              simp (maxSteps := 200000) (disch := first | omega | (simp only [go_sem] <;> omega) | fail) only [go_sem, nat_int, hlt, hlt2, hidx, hc, eB, callA_data mode_indexByte, hlow, hib, g1', g2', g3']
            · rw [if_neg (by omega)] at hI
              have g3' := eq_false g3
              have g3'' : (d < 10) = True := eq_true (by omega)
              have w1 : IntKind.wrap .i64 (n * 10) = n * 10 := IntWalk.i64_in _ (by omega)
              have w2 : IntKind.wrap .i64 (n * 10 + d) = n * 10 + d := IntWalk.i64_in _ (by omega)
              by_cases g4 : 126 < n * 10 + d
              · rw [if_pos g4] at hI
                have := hres _ hI
                rw [this]
                have g4' := eq_true g4
                simp (maxSteps := 200000) (disch := first | omega | (simp only [go_sem] <;> omega) | fail) only [go_sem, nat_int, hlt, hlt2, hidx, hc, eB, callA_data mode_indexByte, hlow, hib, g1', g2', g3', g3'', w1, w2, g4']
              · rw [if_neg g4] at hI
                have g4' := eq_false g4
                simp (maxSteps := 200000) (disch := first | omega | (simp only [go_sem] <;> omega) | fail) only [go_sem, nat_int, hlt, hlt2, hidx, hc, eB, callA_data mode_indexByte, hlow, hib, g1', g2', g3', g3'', w1, w2, g4', hws]
                refine ⟨(k + 1, n * 10 + d), rfl, ⟨by omega, by omega, by omega, hI⟩, by omega⟩
      · have hlt := eq_false h
        have hlt2 : ((k : Int) < (D.length : Int)) = False := eq_false (by omega)
        have hk' : k = D.length := by omega
        rw [entL_end 10 D n k (by omega)] at hI
        have := hres _ hI
        rw [this]
        have w3 : IntKind.wrap .u8 n = n := wrap8 ⟨hn, by omega⟩
        have hD0 : (mkS D = ⟨#[]⟩) = (D = []) := propext ⟨fun e => by
          have := congrArg (fun x : Str => lS8 x) e
          simpa using this, fun e => by rw [e]⟩
        have e0' : (D ≠ []) = ¬ (D = []) := rfl
        have tri : n < 9 ∨ n = 9 ∨ n = 10 ∨ (10 < n ∧ n < 13) ∨ n = 13 ∨ (13 < n ∧ n < 32) ∨ 32 ≤ n := by omega
        rcases Classical.em (D = []) with z | z <;> rcases Classical.em ((D.length : Int) ≤ 8) with y | y <;> rcases tri with t | t | t | t | t | t | t <;> (
          first | have z' : (D = []) = True := eq_true z | have z' : (D = []) = False := eq_false z
          first | have y' : ((D.length : Int) ≤ 8) = True := eq_true (by omega) | have y' : ((D.length : Int) ≤ 8) = False := eq_false (by omega)
          first | have y'' : (D.length ≤ 8) = True := eq_true (by omega) | have y'' : (D.length ≤ 8) = False := eq_false (by omega)
          first | have e1 : (32 ≤ n) = True := eq_true (by omega) | have e1 : (32 ≤ n) = False := eq_false (by omega)
          first | have e1' : (n < 32) = True := eq_true (by omega) | have e1' : (n < 32) = False := eq_false (by omega)
          first | have e2 : (n = 9) = True := eq_true (by omega) | have e2 : (n = 9) = False := eq_false (by omega)
          first | have e3 : (n = 10) = True := eq_true (by omega) | have e3 : (n = 10) = False := eq_false (by omega)
          first | have e4 : (n = 13) = True := eq_true (by omega) | have e4 : (n = 13) = False := eq_false (by omega)
          simp only [e0', z', y'', e1, e2, e3, e4, not_true, not_false_eq_true, decide_true, decide_false, Bool.and_true, Bool.and_false, Bool.true_and, Bool.false_and, Bool.or_true, Bool.or_false, Bool.true_or, Bool.false_or]
          simp (maxSteps := 200000) (disch := first | omega | (simp only [go_sem] <;> omega) | fail) only [go_sem, nat_int, hlt, hlt2, w3, hD0, hsz, ne_eq, z', y', y'', decide_true, decide_false, Bool.and_true, Bool.and_false, Bool.true_and, Bool.false_and, e1, e1', e2, e3, e4, not_true, not_false_eq_true])
    · rw [p2] at c2
      rw [if_neg (by rw [p2]; simp)]
      simp (maxSteps := 200000) (disch := first | omega | (simp only [go_sem] <;> omega) | fail) only [go_sem, q1', q2', q3', q4', q5', callA_data mode_cutPrefix, c1, c2]
end Go.Abs.SA
end
section
namespace Go.Abs.SA
open Go.Proofs
theorem writeB_spec (a : AV) (ha : a = .v (.pointer none) ∨ a = .ptr 0 0) (l : B8) (c : UInt8) (hl : l.length ≤ 1099511627776) :
    loudW XX 226 [.ptr 0 0, .v (.int .u8 (c.toNat : Int))] (bldB a l) = some (.v .nilIface, bldB (.ptr 0 0) (l ++ [c])) := by
  have hcc : ∀ ts, callX XX (orW XX) ⟨ts, bldB a l⟩ 226 203 [.ptr 0 0] = some (.st (.tup []) ⟨ts, bldB (.ptr 0 0) l⟩) := by
    intro ts
    rw [callX_live _ _ (by rw [live_226]; rfl) rfl]
    have hw := copyCheckX a (.sl 1 0 l.length false) [.arr 5 1 (l.map eB)] ha
    have hw' : (orW XX).loud 203 [.ptr 0 0] [.var [a, .sl 1 0 l.length false] (some 134), .arr 5 1 (l.map eB)] = some (.tup [], [.var [.ptr 0 0, .sl 1 0 l.length false] (some 134), .arr 5 1 (l.map eB)]) := hw
    rcases ha with rfl | rfl
    · simp [callL, reach, addNew, idsOfs, idsOf, dist, AV.rens, AV.ren, posOf, Blk.ren, hw', badL, badB, putBack, backF, rens_id keepF_nil]
    · simp [callL, reach, addNew, idsOfs, idsOf, dist, AV.rens, AV.ren, posOf, Blk.ren, hw', badL, badB, putBack, backF, rens_id keepF_nil]
  have hone : ∀ c : UInt8, [[AV.v (.int .u8 (c.toNat : Int))]] = [c].map eB := fun c => rfl
  unfold bldB at hcc ⊢
  refine loudT_in 17 Tryz.func226 Tryz.ntmps226 (by simp) (rfl : Tryz.f226.body = some _) fns_226 ?_
  simp (maxSteps := 200000) (disch := first | omega | (simp only [go_sem] <;> omega) | fail) only [go_sem, hcc, List.length_map]
  rw [hone, eB_app, show l.length + 1 = (l ++ [c]).length by simp]
  have hf : ∀ h : List Blk, freeze ⟨[], h⟩ [AV.v Value.nilIface] = some ([AV.v Value.nilIface], ⟨[], h⟩) := fun h => by
    rw [freeze_no rfl]; rfl
  unfold tidyA
  rw [hf]
  simp [reach, addNew, headIds, idsOfs, idsOf, dist, Blk.ren, AV.rens, AV.ren, gcF, posOf]
theorem intsOf_eB (l : B8) : intsOf (l.map eB) = some (l.map fun c => (c.toNat : Int)) := by
  induction l with
  | nil => rfl
  | cons c l ih => simp [intsOf, eB, ih]
theorem string_spec (a : AV) (ha : a = .v (.pointer none) ∨ a = .ptr 0 0) (l : B8) :
    loudW XX 99 [.ptr 0 0] (bldB a l) = some (vS (mkS l), [.var [a, .junk] (some 134), .dead]) := by
  have e : bldEnd a l.length (l.map eB) = some (vS (mkS l), [.var [a, .junk] (some 134), .dead]) := by
    unfold bldEnd
    rw [if_pos (by simp), intsOf_eB]
    have hall : ((l.map fun c : UInt8 => (c.toNat : Int)).all fun n => decide (0 ≤ n) && decide (n < 256)) = true := by
      rw [List.all_eq_true]
      intro n hn
      obtain ⟨c, _, rfl⟩ := List.mem_map.1 hn
      have := UInt8.toNat_lt c
      simp only [Bool.and_eq_true, decide_eq_true_eq]
      omega
    simp only [hall, ↓reduceIte]
    simp only [List.map_map]
    have : (l.map ((fun n : Int => UInt8.ofNat n.toNat) ∘ fun c : UInt8 => (c.toNat : Int))) = l := by
      conv => rhs; rw [← List.map_id l]
      refine List.map_congr_left fun c _ => ?_
      simp
    rw [this]
  rcases ha with rfl | rfl
  · exact extL_loudW rfl e
  · exact extL_loudW rfl e
abbrev bldC (a : AV) (l : B8) : List Blk := [.arr 5 1 (l.map eB), .var [a, .sl 0 0 l.length false] (some 134)]
abbrev nilP : AV := .v (.pointer none)
def bldA (b : Bool) : AV := if b then .ptr 0 0 else nilP
def bldA' (b : Bool) : AV := if b then .ptr 1 0 else nilP
theorem bldA_or (b : Bool) : bldA b = nilP ∨ bldA b = .ptr 0 0 := by cases b <;> simp [bldA]
theorem scal2 (a b : Value) : (AV.tup [.v a, .v b]).scalar = true := nr rfl
attribute [go_sem] scal2
def bOk1 : AV → Bool
  | .ptr 1 0 => true
  | x => (idsOf x).isEmpty
def bOk : List (Nat × AV) → Bool
  | [] => true
  | p :: es => bOk1 p.2 && bOk es
theorem bOk_nil : bOk [] = true := nr rfl
theorem bOk_cons (k : Nat) (x : AV) (es : List (Nat × AV)) : bOk ((k, x) :: es) = (bOk1 x && bOk es) := nr rfl
theorem bOk1_v (x : Value) : bOk1 (.v x) = true := nr rfl
theorem bOk1_ptr : bOk1 (.ptr 1 0) = true := nr rfl
theorem bOk1_tup0 : bOk1 (.tup []) = true := nr rfl
theorem bOk1_tup1 (x : Value) (xs : List AV) : bOk1 (.tup (.v x :: xs)) = bOk1 (.tup xs) := nr (by simp [bOk1, idsOf, idsOfs])
attribute [go_sem] bOk_nil bOk_cons bOk1_v bOk1_ptr bOk1_tup0 bOk1_tup1 Bool.and_self
theorem bOk_of : ∀ {es : List (Nat × AV)}, bOk es = true → ∀ p ∈ es, idsOf p.2 = [] ∨ p.2 = .ptr 1 0
  | [], _, p, hp => by cases hp
  | q :: es, h, p, hp => by
    simp only [bOk, Bool.and_eq_true] at h
    rcases List.mem_cons.1 hp with rfl | hp
    · obtain ⟨h, _⟩ := h
      unfold bOk1 at h
      split at h
      · exact .inr (by assumption)
      · exact .inl (List.isEmpty_iff.1 h)
    · exact bOk_of h.2 p hp
theorem bld_T {m : Nat} {es : List (Nat × AV)} (he : ∀ p ∈ es, idsOf p.2 = [] ∨ p.2 = .ptr 1 0) (bad : List Nat) (hb : bad = [] ∨ bad = [0]) : AV.rens (keepF bad) (mkT m .junk es) = mkT m .junk es := by
  rw [rens_mkT]
  congr 1
  conv => rhs; rw [← List.map_id es]
  refine List.map_congr_left fun p hp => ?_
  rcases he p hp with h | h
  · rw [ren_noids _ _ h]; rfl
  · have : (AV.ptr 1 0).ren (keepF bad) = .ptr 1 0 := by
      rcases hb with rfl | rfl <;> simp [AV.ren, keepF]
    rw [h, this, ← h]; rfl
theorem bld_call {f g : Nat} (hf : (XX.live f).contains g = true) (b : Bool) (l l' : B8) (ys : List AV) (hy : idsOfs ys = []) (r : AV) (hr : idsOf r = []) (m : Nat) (es : List (Nat × AV)) (he : ∀ p ∈ es, idsOf p.2 = [] ∨ p.2 = .ptr 1 0)
    (hw : loudW XX g (.ptr 0 0 :: ys) (bldB (bldA b) l) = some (r, bldB (.ptr 0 0) l')) :
    callX XX (orW XX) ⟨mkT m .junk es, bldC (bldA' b) l⟩ f g (.ptr 1 0 :: ys) = some (.st r ⟨mkT m .junk es, bldC (bldA' true) l'⟩) := by
  rw [callX_live _ _ hf (by simp [AV.lts, AV.lt])]
  have hw' : (orW XX).loud g (.ptr 0 0 :: ys) (bldB (bldA b) l) = some (r, bldB (.ptr 0 0) l') := hw
  have hT := bld_T (m := m) he
  have hn : ∀ f, AV.rens f ys = ys := fun f => rens_noids f ys hy
  have hn1 : ∀ f, AV.ren f r = r := fun f => ren_noids f r hr
  have hN : bldA false = .v (.pointer none) := rfl
  have hN1 : bldA true = .ptr 0 0 := rfl
  have hN2 : bldA' false = .v (.pointer none) := rfl
  have hN3 : bldA' true = .ptr 1 0 := rfl
  unfold bldB at hw'
  cases b <;> by_cases ht : l.length = l'.length <;>
    simp [hN, hN1, hN2, hN3, ht] at hw' ⊢ <;>
    simp [callL, reach, addNew, idsOfs, idsOf, dist, AV.rens, AV.ren, posOf, Blk.ren, hw', badL, badB, putBack, backF, hT, ht, keepF, hy, hn, hn1, hN, hN1, hN2, hN3]
end Go.Abs.SA
end
section
namespace Go.Abs.SA
open Go.Proofs
theorem bld_string {f : Nat} (hf : (XX.live f).contains 99 = true) (b : Bool) (l : B8) (m : Nat) (es : List (Nat × AV)) (he : ∀ p ∈ es, idsOf p.2 = [] ∨ p.2 = .ptr 1 0) :
    callX XX (orW XX) ⟨mkT m .junk es, bldC (bldA' b) l⟩ f 99 [.ptr 1 0] = some (.st (vS (mkS l)) ⟨mkT m .junk es, [.dead, .var [bldA' b, .junk] (some 134)]⟩) := by
  rw [callX_live _ _ hf rfl]
  have hw' : (orW XX).loud 99 [.ptr 0 0] (bldB (bldA b) l) = some (vS (mkS l), [.var [bldA b, .junk] (some 134), .dead]) := string_spec (bldA b) (bldA_or b) l
  have hT := bld_T (m := m) he
  have hN : bldA false = .v (.pointer none) := rfl
  have hN1 : bldA true = .ptr 0 0 := rfl
  have hN2 : bldA' false = .v (.pointer none) := rfl
  have hN3 : bldA' true = .ptr 1 0 := rfl
  unfold bldB at hw'
  cases b <;> simp [hN, hN1, hN2, hN3] at hw' ⊢ <;>
    simp [callL, reach, addNew, idsOfs, idsOf, dist, AV.rens, AV.ren, posOf, Blk.ren, hw', badL, badB, putBack, backF, hT, keepF, hN, hN1, hN2, hN3]
def plM : Nat → B8 → B8 → B8 × Bool
  | 0, _, _ => ([], false)
  | n + 1, acc, l =>
    if Lib.indexByte l 38 < 0 then (acc ++ l, true)
    else if (Lib.cut (l.drop ((Lib.indexByte l 38).toNat + 1)) [59]).2.2 && (entM (mkS (Lib.cut (l.drop ((Lib.indexByte l 38).toNat + 1)) [59]).1)).2 then
      plM n (acc ++ l.take (Lib.indexByte l 38).toNat ++ [UInt8.ofNat (entM (mkS (Lib.cut (l.drop ((Lib.indexByte l 38).toNat + 1)) [59]).1)).1.toNat]) (Lib.cut (l.drop ((Lib.indexByte l 38).toNat + 1)) [59]).2.1
    else ([], false)
theorem idxB_lt (c : UInt8) : ∀ l : B8, 0 ≤ Lib.indexByte l c → (Lib.indexByte l c).toNat < l.length
  | [], h => by simp [Lib.indexByte] at h
  | b :: l, h => by
    have ih := idxB_lt c l
    unfold Lib.indexByte at h ⊢
    split
    · simp
    · rename_i hb
      rw [if_neg hb] at h
      split
      · rename_i h2
        rw [if_pos h2] at h
        omega
      · rename_i h2
        have := (idxB_ge c l).1
        have hne : Lib.indexByte l c ≠ -1 := by simpa using h2
        have := ih (by omega)
        rw [List.length_cons]
        omega
theorem cut_len2 (l t : B8) : (Lib.cut l t).2.1.length + (Lib.cut l t).1.length ≤ l.length := by
  unfold Lib.cut
  have := idx_room t l
  split
  · rename_i h
    have := this.2 h
    simp only [List.length_drop, List.length_take]
    omega
  · simp
theorem entE_rng (radix : Int) (hr : 0 ≤ radix) (l : B8) : 0 ≤ (entE radix l).1 ∧ (entE radix l).1 ≤ 126 := by
  unfold entE
  split
  · simp
  · rename_i n h
    rcases entL_rng hr l 0 n (by simp) h with ⟨_, rfl⟩ | h
    · simp
    · exact h
theorem entM_rng (s : Str) : 0 ≤ (entM s).1 ∧ (entM s).1 ≤ 126 := by
  unfold entM
  repeat' split
  all_goals first | (simp; done) | exact entE_rng _ (by omega) _
theorem plain_spec (s : Str) (hs : s.size ≤ 1000000) : pureW XX 186 [vS s] = some (.tup [vS (mkS (plM (s.size + 1) [] (lS8 s)).1), vB (plM (s.size + 1) [] (lS8 s)).2]) := by
  obtain ⟨out, hout⟩ : ∃ o, plM (s.size + 1) [] (lS8 s) = o := ⟨_, rfl⟩
  rw [hout]
  refine pureW_in 45 Tryz.func186 Tryz.ntmps186 (by simp) (rfl : Tryz.f186.body = some _) fns_186 ?_
  simp (maxSteps := 200000) (disch := first | omega | (simp only [go_sem] <;> omega) | fail) only [go_sem]
  refine WP_loopR 2 2 (fun (a : (Nat × Bool) × B8 × B8) => S_186_2 (vS (mkS a.2.2)) (.ptr 1 0) (bldC (bldA' a.1.2) a.2.1)) (fun a => a.1.1) (fun a => a.2.2.length < a.1.1 ∧ a.2.1.length + a.2.2.length ≤ s.size ∧ out = plM a.1.1 a.2.1 a.2.2) ((s.size + 1, false), [], lS8 s) rfl rfl ?_ ?_ ?_
  · simp (maxSteps := 200000) (disch := first | omega | (simp only [go_sem] <;> omega) | fail) only [go_sem, mk_lS8]
    rfl
  · exact ⟨by rw [lS8_len]; simp, by rw [lS8_len]; simp, hout.symm⟩
  rintro ⟨⟨n, b⟩, acc, l⟩ ⟨hn, hl, hI⟩
  simp only at hn hl hI
  obtain ⟨n, rfl⟩ : ∃ k, n = k + 1 := ⟨n - 1, by omega⟩
  have hx := indexByteX (mkS l) 38 (by omega)
  rw [lS8_mk, show UInt8.ofNat (38 : Int).toNat = 38 from rfl] at hx
  have hms := mk_size l
  obtain ⟨h1, h2⟩ := idxB_ge 38 l
  have h3 := idxB_lt 38 l
  rw [plM] at hI
  by_cases h0 : Lib.indexByte l 38 < 0
  · rw [if_pos h0] at hI
    subst hI
    have h0' := eq_true h0
    have hcw := fun (m : Nat) (es : List (Nat × AV)) (he : bOk es = true) => bld_call (f := 186) (g := 152) (by rw [live_186]; rfl) b acc (acc ++ l) [vS (mkS l)] rfl (.tup [vI (mkS l).size, .v .nilIface]) rfl m es (bOk_of he) (by have := writeS_spec (bldA b) (bldA_or b) acc (mkS l) (by rw [mk_size]; omega); rwa [lS8_mk] at this)
    have hcs := fun (m : Nat) (es : List (Nat × AV)) (he : bOk es = true) => bld_string (f := 186) (by rw [live_186]; rfl) true (acc ++ l) m es (bOk_of he)
    simp (maxSteps := 200000) (disch := first | omega | (simp only [go_sem] <;> omega) | fail) only [go_sem, callA_data mode_indexByte, hx, h0', hcw, hcs]
  · rw [if_neg h0] at hI
    have h0' := eq_false h0
    obtain ⟨k, hk⟩ := Int.eq_ofNat_of_zero_le (show 0 ≤ Lib.indexByte l 38 by omega)
    rw [hk] at h0' hx h3 hI
    simp only [Int.ofNat_eq_natCast, Int.toNat_natCast] at h0' hx h3 hI
    have hk3 : k < l.length := h3 (by omega)
    have hk1 : k ≤ (mkS l).size := by rw [hms]; omega
    have hk2 : k + 1 ≤ (mkS l).size := by rw [hms]; omega
    have hw : IntKind.i64.wrap ((k : Int) + 1) = ((k + 1 : Nat) : Int) := by rw [IntWalk.i64_in _ (by omega)]; omega
    have hex : (mkS l).extract 0 k = mkS (l.take k) := by rw [ext_mk, lS8_mk, List.drop_zero]
    have hex2 : (mkS l).extract (k + 1) (mkS l).size = mkS (l.drop (k + 1)) := by rw [ext_rest]; unfold rest; rw [lS8_mk]
    have hcx := cutX (mkS (l.drop (k + 1))) ⟨#[59]⟩ (by show (mkS _).size < _; rw [mk_size, List.length_drop]; omega)
    rw [lS8_mk, show lS8 ⟨#[59]⟩ = [59] from rfl] at hcx
    have hcl := cut_len2 (l.drop (k + 1)) [59]
    rw [List.length_drop] at hcl
    obtain ⟨c, hc⟩ : ∃ c, Lib.cut (l.drop (k + 1)) [59] = c := ⟨_, rfl⟩
    rw [hc] at hcx hcl hI
    have hent := entity_spec (mkS c.1) (by rw [mk_size]; omega)
    have her := entM_rng (mkS c.1)
    obtain ⟨e, he⟩ : ∃ e, entM (mkS c.1) = e := ⟨_, rfl⟩
    rw [he] at hent her hI
    have hcw := fun (m : Nat) (es : List (Nat × AV)) (he : bOk es = true) => bld_call (f := 186) (g := 152) (by rw [live_186]; rfl) b acc (acc ++ l.take k) [vS (mkS (l.take k))] rfl (.tup [vI (mkS (l.take k)).size, .v .nilIface]) rfl m es (bOk_of he) (by have := writeS_spec (bldA b) (bldA_or b) acc (mkS (l.take k)) (by rw [mk_size, List.length_take]; omega); rwa [lS8_mk] at this)
    obtain ⟨c1, c2, c3⟩ := c
    obtain ⟨e1, e2⟩ := e
    simp only at hcx hcl hent her hI
    rcases Bool.eq_false_or_eq_true c3 with q | q
    · subst q
      rcases Bool.eq_false_or_eq_true e2 with q | q
      · subst q
        simp only [Bool.and_self, ↓reduceIte] at hI
        have he1 : e1 = ((UInt8.ofNat e1.toNat).toNat : Int) := by
          rw [UInt8.toNat_ofNat']
          omega
        have hcb := fun (m : Nat) (es : List (Nat × AV)) (he : bOk es = true) => bld_call (f := 186) (g := 226) (by rw [live_186]; rfl) true (acc ++ l.take k) (acc ++ l.take k ++ [UInt8.ofNat e1.toNat]) [.v (.int .u8 e1)] rfl (.v .nilIface) rfl m es (bOk_of he) (by have := writeB_spec (bldA true) (bldA_or true) (acc ++ l.take k) (UInt8.ofNat e1.toNat) (by rw [List.length_append, List.length_take]; omega); rwa [← he1] at this)
        simp (maxSteps := 200000) (disch := first | omega | (simp only [go_sem] <;> omega) | fail) only [go_sem, callA_data mode_indexByte, hx, h0', hk1, hk2, hex, hex2, hw, callA_data mode_cut, hcx, callA_pure mode_225, hent, hcw, hcb]
        refine ⟨((n, true), acc ++ l.take k ++ [UInt8.ofNat e1.toNat], c2), ?_, ⟨by simp only; omega, ?_, hI⟩, by simp⟩
        · rw [gcK_mkT (by simp only [go_sem]) (by simp [bldC, bldA', Blk.lt, AV.lts, AV.lt])]
          rfl
        · simp only [List.length_append, List.length_take, List.length_cons, List.length_nil]
          omega
      · subst q
        simp only [Bool.and_false, Bool.false_eq_true, ↓reduceIte] at hI
        subst hI
        simp (maxSteps := 200000) (disch := first | omega | (simp only [go_sem] <;> omega) | fail) only [go_sem, callA_data mode_indexByte, hx, h0', hk1, hk2, hex, hex2, hw, callA_data mode_cut, hcx, callA_pure mode_225, hent, hcw]
    · subst q
      simp only [Bool.false_and, Bool.false_eq_true, ↓reduceIte] at hI
      subst hI
      simp (maxSteps := 200000) (disch := first | omega | (simp only [go_sem] <;> omega) | fail) only [go_sem, callA_data mode_indexByte, hx, h0', hk1, hk2, hex, hex2, hw, callA_data mode_cut, hcx, callA_pure mode_225, hent, hcw]
end Go.Abs.SA
end
section
namespace Go.Abs.SA
open Go.Proofs
abbrev At3 := B8 × B8 × B8
def cA3 (a : At3) : List AV := [vS (mkS a.1), vS (mkS a.2.1), vS (mkS a.2.2)]
theorem cA3_s (a : At3) : cA3 a = [vS (mkS a.1), vS (mkS a.2.1), vS (mkS a.2.2)] := nr rfl
instance : EL cA3 3 := ⟨fun _ => rfl⟩
def sameA (p l : B8) (a : At3) : Bool := decide (a.1 = p) && decide (a.2.1 = l)
def hasA (acc : List At3) (p l : B8) : Bool := acc.any (sameA p l)
theorem mkS_inj (a b : B8) : (mkS a = mkS b) = (a = b) := propext ⟨fun e => by
  have := congrArg (fun x : Str => lS8 x) e
  simpa using this, fun e => by rw [e]⟩
theorem findIdx_stepA {α : Type} (q : α → Bool) (l : List α) {i : Nat} (h : i < l.length) : (l.drop i).findIdx? q = if q l[i] then some 0 else ((l.drop (i + 1)).findIdx? q).map (· + 1) := by
  rw [List.drop_eq_getElem_cons h, List.findIdx?_cons]
theorem full_str2 : str2 Tryz.prog 161 = true := by kernel_rfl
theorem binA_full (a b c d : Str) : binA Tryz.prog .eql 161 (.agg [vS a, vS b]) (.agg [vS c, vS d]) = some (vB (a == c && b == d)) := nr (by
  unfold binA
  simp only [full_str2, ↓reduceIte])
theorem beqS (a b : B8) : (mkS a == mkS b) = decide (a = b) := by
  have : (mkS a == mkS b) = (a.toArray == b.toArray) := rfl
  rw [this, Bool.eq_iff_iff, beq_iff_eq, decide_eq_true_eq]
  exact ⟨fun h => by simpa using congrArg Array.toList h, fun h => by rw [h]⟩
theorem attrs1_spec (a : At3) (p l : B8) : pureW XX 188 [.agg (cA3 a), .fp [vS (mkS p)], .fp [vS (mkS l)]] = some (vB (sameA p l a)) := by
  unfold sameA
  refine pureW_in 11 Tryz.func188 Tryz.ntmps188 (by simp) (rfl : Tryz.f188.body = some _) fns_188 ?_
  simp (maxSteps := 200000) (disch := first | omega | (simp only [go_sem] <;> omega) | fail) only [go_sem, cA3_s, binA_full, beqS]
theorem indexA_spec (l : List At3) (p n : B8) (hl : l.length ≤ 140737488355328) : pureW XX 227 [.fs (l.map cA3) false, .fn 188 [.fp [vS (mkS p)], .fp [vS (mkS n)]]] = some (vI (posI (l.findIdx? (sameA p n)))) := by
  refine pureW_in 19 Tryz.func227 Tryz.ntmps227 (by simp) (rfl : Tryz.f227.body = some _) fns_227 ?_
  simp (maxSteps := 200000) (disch := first | omega | (simp only [go_sem] <;> omega) | fail) only [go_sem]
  refine WP_range 2 0 l.length (fun i => S_227_2 (.fs (l.map cA3) false) (.fn 188 [.fp [vS (mkS p)], .fp [vS (mkS n)]]) (vI l.length) (vI i) []) (fun i => (l.findIdx? (sameA p n)) = ((l.drop i).findIdx? (sameA p n)).map (· + i)) rfl rfl ?_ ?_ ?_ ?_
  · simp (maxSteps := 200000) (disch := first | omega | (simp only [go_sem] <;> omega) | fail) only [go_sem]; rfl
  · simp
  · intro i h hI
    rw [findIdx_stepA _ _ h] at hI
    have hk := attrs1_spec l[i] p n
    rw [cA3_s] at hk
    cases hv : (sameA p n) l[i] with
    | true =>
      rw [hv] at hk hI
      simp (maxSteps := 200000) (disch := first | omega | (simp only [go_sem] <;> omega) | fail) only [go_sem, nat_int, h, cA3_s, callA_pure mode_188, hk]
      rw [hI]
      simp [posI]
    | false =>
      rw [hv] at hk hI
      simp (maxSteps := 200000) (disch := first | omega | (simp only [go_sem] <;> omega) | fail) only [go_sem, nat_int, h, cA3_s, callA_pure mode_188, hk, wrap_succ h hl]
      rw [hI]
      simp
      congr 1
      funext x
      simp
      omega
  · intro hI
    simp (maxSteps := 200000) (disch := first | omega | (simp only [go_sem] <;> omega) | fail) only [go_sem, nat_int]
    rw [hI]
    simp [posI]
theorem containsA_spec (l : List At3) (p n : B8) (hl : l.length ≤ 140737488355328) : pureW XX 187 [.fs (l.map cA3) false, .fn 188 [.fp [vS (mkS p)], .fp [vS (mkS n)]]] = some (vB (hasA l p n)) := by
  have hx := indexA_spec l p n hl
  refine pureW_in 9 Tryz.func187 Tryz.ntmps187 (by simp) (rfl : Tryz.f187.body = some _) fns_187 ?_
  cases hf : l.findIdx? (sameA p n) with
  | none =>
    rw [hf] at hx
    have : hasA l p n = false := by
      unfold hasA
      rw [List.any_eq_false]
      intro x hh
      have := List.findIdx?_eq_none_iff.1 hf x hh
      simpa using this
    have e : ((0 : Int) ≤ -1) = False := eq_false (by omega)
    simp (maxSteps := 200000) (disch := first | omega | (simp only [go_sem] <;> omega) | fail) only [go_sem, callA_pure mode_227, hx, posI, this, e]
  | some i =>
    rw [hf] at hx
    have : hasA l p n = true := by
      unfold hasA
      rw [List.any_eq_true]
      obtain ⟨h, h2, _⟩ := List.findIdx?_eq_some_iff_getElem.1 hf
      exact ⟨l[i], List.getElem_mem h, h2⟩
    have e : ((0 : Int) ≤ (i : Int)) = True := eq_true (by omega)
    simp (maxSteps := 200000) (disch := first | omega | (simp only [go_sem] <;> omega) | fail) only [go_sem, callA_pure mode_227, hx, posI, this, e]
end Go.Abs.SA
end
section
namespace Go.Abs.SA
open Go.Proofs
theorem callP2 {X : Abs.X} {t : List AV} {h : List Blk} {f k : Nat} {s : Str} {r r' : B8} {xs : List AV} {v : AV} (hl : (X.live f).contains k = true) (hi : idsOfs xs = []) (hr : idsOf v = []) (hw : loudW X k (.ptr 0 0 :: xs) [pR s r] = some (v, [pR s r'])) :
    callX X (orW X) ⟨t, pR s r :: h⟩ f k (.ptr 0 0 :: xs) = some (.st v ⟨t, pR s r' :: h⟩) := by
  refine callX_var 0 hl (by simp [AV.lts, AV.lt]) (by simp [idsOfs, idsOf, hi]) rfl (by simp [idsOfs, idsOf]) (by simp [idsOfs, idsOf]) hr ?_
  rw [AV.rens, rens_noids _ _ hi]
  simpa [AV.ren, posOf] using hw
theorem reach_nil (h : List Blk) : ∀ k, reach h k [] = []
  | 0 => rfl
  | k + 1 => by rw [reach]; simp
theorem tidy_of {x y : AV} {cs : List AV} {h h' : List Blk} (hf : freeze ⟨[], h⟩ [x] = some ([y], ⟨[], .var cs :: h'⟩)) (hc : idsOfs cs = []) : tidyA 1 (x, h) = some (y, [.var cs]) := by
  unfold tidyA
  simp only [hf]
  have e : reach (.var cs :: h') 6 (addNew [] (headIds ((.var cs :: h').take 1))) = [] := by
    have : addNew [] (headIds ((Blk.var cs :: h').take 1)) = [] := by simp [headIds, hc, addNew]
    rw [this, reach_nil]
  rw [e]
  simp [dist, Blk.ren, rens_noids _ cs hc]
theorem frz_fs (h : List Blk) (es : List (List AV)) (b : Bool) : frz h 6 (.fs es b) = some (.fs es false) := by rw [frz.eq_def]
theorem tidy_sl (s : Str) (r : B8) (e k : Nat) (es : List (List AV)) (b : Value) (bs : List Blk) : tidyA 1 (.tup [.sl 1 0 es.length false, .v b], pR s r :: .arr e k es :: bs) = some (.tup [.fs es false, .v b], [pR s r]) := by
  refine tidy_of (h' := .dead :: offL (maskL [1] 0 (pR s r :: .arr e k es :: bs)) [1] 2 bs) ?_ rfl
  have hr : reach (pR s r :: .arr e k es :: bs) 6 (addNew [] (idsOfs [AV.tup [.sl 1 0 es.length false, .v b]])) = [1] := by
    have : addNew [] (idsOfs [AV.tup [.sl 1 0 es.length false, .v b]]) = [1] := by simp [idsOfs, idsOf, addNew]
    rw [this]
    simp [reach]
  rw [freeze_live rfl, hr, frzIs_go, frzGo_s]
  simp only [maskL_cons, offL_cons, mem_cons', mem_nil', bsub_var]
  simp [frzs, mapO, frz, AV.subs, AV.sub, cutEs]
theorem tidy_no (s : Str) (r : B8) (b : Value) (f : Bool) (bs : List Blk) : tidyA 1 (.tup [.fs [] f, .v b], pR s r :: bs) = some (.tup [.fs [] false, .v b], [pR s r]) := by
  refine tidy_of (h' := bs) ?_ rfl
  rw [freeze_no rfl]
  rfl
def quoM (r : B8) : Option (B8 × B8) := if Lib.hasPrefix r [34] then some ([34], r.drop 1) else if Lib.hasPrefix r [39] then some ([39], r.drop 1) else none
def valM (r : B8) : Option B8 × B8 := match quoM r with
  | none => (none, r)
  | some (q, r5) => match tillM r5 q with
    | none => (none, r5)
    | some (t, r6) => if Lib.contains t [60] then (none, r6) else if (plM (t.length + 1) [] t).2 then (some (plM (t.length + 1) [] t).1, r6) else (none, r6)
def attM : Nat → List At3 → B8 → Option (List At3) × B8
  | 0, _, r => (none, r)
  | n + 1, acc, r => match r.dropWhile blkB with
    | [] => (none, [])
    | c :: r0 =>
      if c = 47 ∨ c = 62 then (some acc, c :: r0)
      else if decide (0 < (r.takeWhile blkB).length) && (nmM ((c :: r0).takeWhile fun c => !stpB c)).2.2 then
        (if Lib.hasPrefix (((c :: r0).dropWhile fun c => !stpB c).dropWhile blkB) [61] then
          (match valM (((((c :: r0).dropWhile fun c => !stpB c).dropWhile blkB).drop 1).dropWhile blkB) with
          | (none, q) => (none, q)
          | (some v, q) => if hasA acc (nmM ((c :: r0).takeWhile fun c => !stpB c)).1 (nmM ((c :: r0).takeWhile fun c => !stpB c)).2.1 = true ∨ acc.length = 32 then (none, q)
            else attM n (acc ++ [((nmM ((c :: r0).takeWhile fun c => !stpB c)).1, (nmM ((c :: r0).takeWhile fun c => !stpB c)).2.1, v)]) q)
        else (none, ((c :: r0).dropWhile fun c => !stpB c).dropWhile blkB))
      else (none, (c :: r0).dropWhile fun c => !stpB c)
theorem callX_attrs (s : St) (xs : List AV) : callX XX (orW XX) s 131 187 xs = callA XX (orW XX) s 187 xs := by
  rw [callX_if live_131, if_neg (by simp)]
abbrev attR (s : Str) : Option (List At3) × B8 → AV × List Blk
  | (some l, q) => (.tup [.fs (l.map cA3) false, vB true], [pR s q])
  | (none, q) => (.tup [.fs [] false, vB false], [pR s q])
theorem rattrs {s : Str} (hs : s.size ≤ 1000000) (n0 : Nat) (r0 : B8) (h0 : r0 <:+ lS8 s) (hn0 : r0.length < n0) :
    loudW XX 131 [.ptr 0 0] [pR s r0] = some (attR s (attM n0 [] r0)) := by
  obtain ⟨out, hout⟩ : ∃ o, attM n0 [] r0 = o := ⟨_, rfl⟩
  rw [hout]
  refine loudT_in 105 Tryz.func131 Tryz.ntmps131 (by simp) (rfl : Tryz.f131.body = some _) fns_131 ?_
  simp (maxSteps := 200000) (disch := first | omega | (simp only [go_sem] <;> omega) | fail) only [go_sem]
  refine WP_loopR 2 2 (fun (a : Nat × B8 × List At3) => S_131_2 (.ptr 0 0) (.sl 1 0 a.2.2.length false) [pR s a.2.1, .arr 163 3 (a.2.2.map cA3)]) (fun a => a.1) (fun a => a.2.1 <:+ lS8 s ∧ a.2.1.length < a.1 ∧ a.2.2.length ≤ 32 ∧ out = attM a.1 a.2.2 a.2.1) (n0, r0, []) rfl rfl ?_ ?_ ?_
  · simp (maxSteps := 200000) (disch := first | omega | (simp only [go_sem] <;> omega) | fail) only [go_sem]
  · exact ⟨h0, hn0, by simp, hout.symm⟩
  rintro ⟨n, r, acc⟩ ⟨h1, h2, h3, hI⟩
  simp only at h1 h2 h3 hI
  obtain ⟨n, rfl⟩ : ∃ k, n = k + 1 := ⟨n - 1, by omega⟩
  have f1 : (XX.live 131).contains 126 = true := by rw [live_131]; rfl
  have f2 : (XX.live 131).contains 130 = true := by rw [live_131]; rfl
  have f3 : (XX.live 131).contains 75 = true := by rw [live_131]; rfl
  have f4 : (XX.live 131).contains 76 = true := by rw [live_131]; rfl
  rw [attM] at hI
  have c1 := fun t h => callP2 (t := t) (h := h) (xs := []) f1 rfl rfl (rblank h1 hs)
  have hqs : r.dropWhile blkB <:+ lS8 s := (List.dropWhile_suffix _).trans h1
  have hql : (r.dropWhile blkB).length ≤ r.length := (List.dropWhile_suffix _).length_le
  obtain ⟨q, hq⟩ : ∃ q, r.dropWhile blkB = q := ⟨_, rfl⟩
  rw [hq] at c1 hqs hql hI
  cases q with
  | nil =>
    simp only at hI
    subst hI
    have ha : atR s [] = s.size := by unfold atR; simp
    have hge : ((s.size : Int) ≤ (s.size : Int)) = True := eq_true (by omega)
    simp (maxSteps := 200000) (disch := first | omega | (simp only [go_sem] <;> omega) | fail) only [go_sem, c1, ha, hge]
    exact tidy_no _ _ _ _ _
  | cons c r1 =>
    simp only at hI
    have hsl := suf_len hqs
    rw [List.length_cons] at hsl hql
    have hat : atR s (c :: r1) < s.size := by unfold atR; rw [List.length_cons]; omega
    have hge : ((s.size : Int) ≤ (atR s (c :: r1) : Int)) = False := eq_false (by omega)
    have hbc : byteAt s (atR s (c :: r1)) = (c.toNat : Int) := by
      have e := rest_at hqs
      rw [rest_cons s _ hat] at e
      rw [byteAt_list s _ hat]
      injection e with e1 e2
      rw [e1]
    have tsl : ∀ (r : B8) (b : Value) (bs : List Blk), tidyA 1 (.tup [.sl 1 0 acc.length false, .v b], pR s r :: .arr 163 3 (acc.map cA3) :: bs) = some (.tup [.fs (acc.map cA3) false, .v b], [pR s r]) := fun r b bs => by
      have := tidy_sl s r 163 3 (acc.map cA3) b bs
      rwa [List.length_map] at this
    by_cases hc1 : c = 47
    · rw [if_pos (.inl hc1)] at hI
      subst hI
      have hc1' : ((c.toNat : Int) = 47) = True := eq_true (by rw [hc1]; rfl)
      simp (maxSteps := 200000) (disch := first | omega | (simp only [go_sem] <;> omega) | fail) only [go_sem, c1, hge, hat, hbc, hc1']
      exact tsl _ _ _
    have hcn : ∀ d : UInt8, c ≠ d → ((c.toNat : Int) = (d.toNat : Int)) = False := fun d h => eq_false fun e => h (UInt8.toNat_inj.1 (by omega))
    have hc1' : ((c.toNat : Int) = 47) = False := hcn 47 hc1
    by_cases hc2 : c = 62
    · rw [if_pos (.inr hc2)] at hI
      subst hI
      have hc2' : ((c.toNat : Int) = 62) = True := eq_true (by rw [hc2]; rfl)
      simp (maxSteps := 200000) (disch := first | omega | (simp only [go_sem] <;> omega) | fail) only [go_sem, c1, hge, hat, hbc, hc1', hc2']
      exact tsl _ _ _
    have hc2' : ((c.toNat : Int) = 62) = False := hcn 62 hc2
    rw [if_neg (by rintro (h | h); exact hc1 h; exact hc2 h)] at hI
    have cn := fun t h => callP2 (t := t) (h := h) (xs := []) f2 rfl rfl (rname hqs hs)
    have hr2s : ((c :: r1).dropWhile fun c => !stpB c) <:+ lS8 s := (List.dropWhile_suffix _).trans hqs
    have hr2l : ((c :: r1).dropWhile fun c => !stpB c).length ≤ r1.length + 1 := by have := (List.dropWhile_suffix (fun c => !stpB c) (l := c :: r1)).length_le; rwa [List.length_cons] at this
    obtain ⟨r2, hr2⟩ : ∃ q, ((c :: r1).dropWhile fun c => !stpB c) = q := ⟨_, rfl⟩
    obtain ⟨nm, hnm⟩ : ∃ q, nmM ((c :: r1).takeWhile fun c => !stpB c) = q := ⟨_, rfl⟩
    rw [hr2] at cn hr2s hr2l hI
    rw [hnm] at cn hI
    obtain ⟨p, l, ok⟩ := nm
    obtain ⟨bl, hbl⟩ : ∃ b, decide (0 < (r.takeWhile blkB).length) = b := ⟨_, rfl⟩
    rw [hbl] at c1 hI
    simp only at hI cn
    cases bl with
    | false =>
      simp only [Bool.false_and, Bool.false_eq_true, ↓reduceIte] at hI
      subst hI
      simp (maxSteps := 200000) (disch := first | omega | (simp only [go_sem] <;> omega) | fail) only [go_sem, c1, hge, hat, hbc, hc1', hc2', cn]
      exact tidy_no _ _ _ _ _
    | true =>
    cases ok with
    | false =>
      simp only [Bool.and_false, Bool.false_eq_true, ↓reduceIte] at hI
      subst hI
      simp (maxSteps := 200000) (disch := first | omega | (simp only [go_sem] <;> omega) | fail) only [go_sem, c1, hge, hat, hbc, hc1', hc2', cn]
      exact tidy_no _ _ _ _ _
    | true =>
    simp only [Bool.and_self, ↓reduceIte] at hI
    have c3 := fun t h => callP2 (t := t) (h := h) (xs := []) f1 rfl rfl (rblank hr2s hs)
    have hr3s : r2.dropWhile blkB <:+ lS8 s := (List.dropWhile_suffix _).trans hr2s
    have hr3l : (r2.dropWhile blkB).length ≤ r2.length := (List.dropWhile_suffix _).length_le
    obtain ⟨r3, hr3⟩ : ∃ q, r2.dropWhile blkB = q := ⟨_, rfl⟩
    rw [hr3] at c3 hr3s hr3l hI
    have c4 := fun t h => callP2 (t := t) (h := h) (xs := [vS ⟨#[61]⟩]) f3 rfl rfl (rskip hr3s hs ⟨#[61]⟩)
    rw [show lS8 ⟨#[61]⟩ = [61] from rfl, show (ByteArray.mk #[61]).size = 1 from rfl] at c4
    rcases Bool.eq_false_or_eq_true (Lib.hasPrefix r3 [61]) with hp | hp
    · rw [hp] at c4 hI
      simp only [↓reduceIte] at c4 hI
      have hpl3 := pre_len hp
      have hr4s : (r3.drop 1) <:+ lS8 s := (List.drop_suffix _ _).trans hr3s
      have c5 := fun t h => callP2 (t := t) (h := h) (xs := []) f1 rfl rfl (rblank hr4s hs)
      have hr4l : ((r3.drop 1).dropWhile blkB).length ≤ r3.length := ((List.dropWhile_suffix _).trans (List.drop_suffix 1 r3)).length_le
      have hr4s : ((r3.drop 1).dropWhile blkB) <:+ lS8 s := (List.dropWhile_suffix _).trans hr4s
      obtain ⟨r4, hr4⟩ : ∃ q, ((r3.drop 1).dropWhile blkB) = q := ⟨_, rfl⟩
      rw [hr4] at c5 hr4s hr4l hI
      have c6 := fun t h => callP2 (t := t) (h := h) (xs := [vS ⟨#[34]⟩]) f3 rfl rfl (rskip hr4s hs ⟨#[34]⟩)
      rw [show lS8 ⟨#[34]⟩ = [34] from rfl, show (ByteArray.mk #[34]).size = 1 from rfl] at c6
      unfold valM quoM at hI
      rcases Bool.eq_false_or_eq_true (Lib.hasPrefix r4 [34]) with hqq | hqq
      · rw [hqq] at c6 hI
        simp only [↓reduceIte] at c6 hI
        try simp only at hI
        have hq5 := pre_len hqq
        have hr5s : r4.drop 1 <:+ lS8 s := (List.drop_suffix _ _).trans hr4s
        have hr5l : (r4.drop 1).length + 1 = r4.length := by rw [List.length_drop]; have : ([34] : B8).length = 1 := rfl; omega
        obtain ⟨r5, hr5⟩ : ∃ x, r4.drop 1 = x := ⟨_, rfl⟩
        rw [hr5] at hr5s hr5l hI c6
        have ht := rtill hr5s hs ⟨#[34]⟩
        rw [show lS8 ⟨#[34]⟩ = [34] from rfl] at ht
        cases hT : tillM r5 [34] with
        | none =>
          rw [hT] at ht hI
          simp only at ht hI
          subst hI
          have c7 := fun t h => callP2 (t := t) (h := h) (xs := [vS ⟨#[34]⟩]) f4 rfl rfl ht
          simp (maxSteps := 200000) (disch := first | omega | (simp only [go_sem] <;> omega) | fail) only [go_sem, c1, hge, hat, hbc, hc1', hc2', cn, c3, c4, c5, c6, c7]
          exact tidy_no _ _ _ _ _
        | some cr =>
        obtain ⟨t, r6⟩ := cr
        obtain ⟨s1, s2⟩ := tillM_suf hT
        rw [hT] at ht hI
        simp only at ht hI
        have c7 := fun t h => callP2 (t := t) (h := h) (xs := [vS ⟨#[34]⟩]) f4 rfl rfl ht
        have hr6s : r6 <:+ lS8 s := s1.trans hr5s
        have htl : t.length ≤ s.size := by have := suf_len hr5s; omega
        have hco := containsX (mkS t) ⟨#[60]⟩ (by show (mkS t).size < _; rw [mk_size]; omega)
        rw [lS8_mk, show lS8 ⟨#[60]⟩ = [60] from rfl] at hco
        rcases Bool.eq_false_or_eq_true (Lib.contains t [60]) with hC | hC
        · rw [hC] at hco hI
          simp only [↓reduceIte] at hI
          subst hI
          simp (maxSteps := 200000) (disch := first | omega | (simp only [go_sem] <;> omega) | fail) only [go_sem, c1, hge, hat, hbc, hc1', hc2', cn, c3, c4, c5, c6, c7, callA_data mode_contains, hco]
          exact tidy_no _ _ _ _ _
        rw [hC] at hco hI
        simp only [Bool.false_eq_true, ↓reduceIte] at hI
        have hpl := plain_spec (mkS t) (by rw [mk_size]; omega)
        rw [lS8_mk, mk_size] at hpl
        obtain ⟨pv, hpv⟩ : ∃ x, plM (t.length + 1) [] t = x := ⟨_, rfl⟩
        rw [hpv] at hpl hI
        obtain ⟨v, vok⟩ := pv
        cases vok with
        | false =>
          simp only [Bool.false_eq_true, ↓reduceIte] at hI hpl
          subst hI
          simp (maxSteps := 200000) (disch := first | omega | (simp only [go_sem] <;> omega) | fail) only [go_sem, c1, hge, hat, hbc, hc1', hc2', cn, c3, c4, c5, c6, c7, callA_data mode_contains, hco, callA_pure mode_186, hpl]
          exact tidy_no _ _ _ _ _
        | true =>
        simp only [↓reduceIte] at hI hpl
        have hca := containsA_spec acc p l (by omega)
        rcases Bool.eq_false_or_eq_true (hasA acc p l) with hH | hH
        · rw [hH] at hca hI
          simp only [true_or, ↓reduceIte] at hI
          subst hI
          simp (maxSteps := 200000) (disch := first | omega | (simp only [go_sem] <;> omega) | fail) only [go_sem, c1, hge, hat, hbc, hc1', hc2', cn, c3, c4, c5, c6, c7, callA_data mode_contains, hco, callA_pure mode_186, hpl, callX_attrs, callA_pure mode_187, hca]
          exact tidy_no _ _ _ _ _
        rw [hH] at hca hI
        simp only [Bool.false_eq_true, false_or] at hI
        by_cases h32 : acc.length = 32
        · rw [if_pos h32] at hI
          subst hI
          have h32' : ((acc.length : Int) = 32) = True := eq_true (by omega)
          simp (maxSteps := 200000) (disch := first | omega | (simp only [go_sem] <;> omega) | fail) only [go_sem, c1, hge, hat, hbc, hc1', hc2', cn, c3, c4, c5, c6, c7, callA_data mode_contains, hco, callA_pure mode_186, hpl, callX_attrs, callA_pure mode_187, hca, h32']
          exact tidy_no _ _ _ _ _
        · rw [if_neg h32] at hI
          have h32' : ((acc.length : Int) = 32) = False := eq_false (by omega)
          simp (maxSteps := 200000) (disch := first | omega | (simp only [go_sem] <;> omega) | fail) only [go_sem, c1, hge, hat, hbc, hc1', hc2', cn, c3, c4, c5, c6, c7, callA_data mode_contains, hco, callA_pure mode_186, hpl, callX_attrs, callA_pure mode_187, hca, h32']
          refine ⟨(n, r6, acc ++ [(p, l, v)]), ?_, ⟨hr6s, by simp only; omega, by simp only [List.length_append, List.length_cons, List.length_nil]; omega, hI⟩, by simp⟩
          simp only [List.length_append, List.length_cons, List.length_nil, List.map_append, List.map_cons, List.map_nil]
          rfl
      rw [hqq] at c6 hI
      simp only [Bool.false_eq_true, ↓reduceIte] at c6 hI
      have c60 := c6
      clear hqq
      have c6 := fun t h => callP2 (t := t) (h := h) (xs := [vS ⟨#[39]⟩]) f3 rfl rfl (rskip hr4s hs ⟨#[39]⟩)
      rw [show lS8 ⟨#[39]⟩ = [39] from rfl, show (ByteArray.mk #[39]).size = 1 from rfl] at c6
      rcases Bool.eq_false_or_eq_true (Lib.hasPrefix r4 [39]) with hqq | hqq
      · rw [hqq] at c6 hI
        simp only [↓reduceIte] at c6 hI
        try simp only at hI
        have hq5 := pre_len hqq
        have hr5s : r4.drop 1 <:+ lS8 s := (List.drop_suffix _ _).trans hr4s
        have hr5l : (r4.drop 1).length + 1 = r4.length := by rw [List.length_drop]; have : ([39] : B8).length = 1 := rfl; omega
        obtain ⟨r5, hr5⟩ : ∃ x, r4.drop 1 = x := ⟨_, rfl⟩
        rw [hr5] at hr5s hr5l hI c6
        have ht := rtill hr5s hs ⟨#[39]⟩
        rw [show lS8 ⟨#[39]⟩ = [39] from rfl] at ht
        cases hT : tillM r5 [39] with
        | none =>
          rw [hT] at ht hI
          simp only at ht hI
          subst hI
          have c7 := fun t h => callP2 (t := t) (h := h) (xs := [vS ⟨#[39]⟩]) f4 rfl rfl ht
          simp (maxSteps := 200000) (disch := first | omega | (simp only [go_sem] <;> omega) | fail) only [go_sem, c1, hge, hat, hbc, hc1', hc2', cn, c3, c4, c5, c6, c60, c7]
          exact tidy_no _ _ _ _ _
        | some cr =>
        obtain ⟨t, r6⟩ := cr
        obtain ⟨s1, s2⟩ := tillM_suf hT
        rw [hT] at ht hI
        simp only at ht hI
        have c7 := fun t h => callP2 (t := t) (h := h) (xs := [vS ⟨#[39]⟩]) f4 rfl rfl ht
        have hr6s : r6 <:+ lS8 s := s1.trans hr5s
        have htl : t.length ≤ s.size := by have := suf_len hr5s; omega
        have hco := containsX (mkS t) ⟨#[60]⟩ (by show (mkS t).size < _; rw [mk_size]; omega)
        rw [lS8_mk, show lS8 ⟨#[60]⟩ = [60] from rfl] at hco
        rcases Bool.eq_false_or_eq_true (Lib.contains t [60]) with hC | hC
        · rw [hC] at hco hI
          simp only [↓reduceIte] at hI
          subst hI
          simp (maxSteps := 200000) (disch := first | omega | (simp only [go_sem] <;> omega) | fail) only [go_sem, c1, hge, hat, hbc, hc1', hc2', cn, c3, c4, c5, c6, c60, c7, callA_data mode_contains, hco]
          exact tidy_no _ _ _ _ _
        rw [hC] at hco hI
        simp only [Bool.false_eq_true, ↓reduceIte] at hI
        have hpl := plain_spec (mkS t) (by rw [mk_size]; omega)
        rw [lS8_mk, mk_size] at hpl
        obtain ⟨pv, hpv⟩ : ∃ x, plM (t.length + 1) [] t = x := ⟨_, rfl⟩
        rw [hpv] at hpl hI
        obtain ⟨v, vok⟩ := pv
        cases vok with
        | false =>
          simp only [Bool.false_eq_true, ↓reduceIte] at hI hpl
          subst hI
          simp (maxSteps := 200000) (disch := first | omega | (simp only [go_sem] <;> omega) | fail) only [go_sem, c1, hge, hat, hbc, hc1', hc2', cn, c3, c4, c5, c6, c60, c7, callA_data mode_contains, hco, callA_pure mode_186, hpl]
          exact tidy_no _ _ _ _ _
        | true =>
        simp only [↓reduceIte] at hI hpl
        have hca := containsA_spec acc p l (by omega)
        rcases Bool.eq_false_or_eq_true (hasA acc p l) with hH | hH
        · rw [hH] at hca hI
          simp only [true_or, ↓reduceIte] at hI
          subst hI
          simp (maxSteps := 200000) (disch := first | omega | (simp only [go_sem] <;> omega) | fail) only [go_sem, c1, hge, hat, hbc, hc1', hc2', cn, c3, c4, c5, c6, c60, c7, callA_data mode_contains, hco, callA_pure mode_186, hpl, callX_attrs, callA_pure mode_187, hca]
          exact tidy_no _ _ _ _ _
        rw [hH] at hca hI
        simp only [Bool.false_eq_true, false_or] at hI
        by_cases h32 : acc.length = 32
        · rw [if_pos h32] at hI
          subst hI
          have h32' : ((acc.length : Int) = 32) = True := eq_true (by omega)
          simp (maxSteps := 200000) (disch := first | omega | (simp only [go_sem] <;> omega) | fail) only [go_sem, c1, hge, hat, hbc, hc1', hc2', cn, c3, c4, c5, c6, c60, c7, callA_data mode_contains, hco, callA_pure mode_186, hpl, callX_attrs, callA_pure mode_187, hca, h32']
          exact tidy_no _ _ _ _ _
        · rw [if_neg h32] at hI
          have h32' : ((acc.length : Int) = 32) = False := eq_false (by omega)
          simp (maxSteps := 200000) (disch := first | omega | (simp only [go_sem] <;> omega) | fail) only [go_sem, c1, hge, hat, hbc, hc1', hc2', cn, c3, c4, c5, c6, c60, c7, callA_data mode_contains, hco, callA_pure mode_186, hpl, callX_attrs, callA_pure mode_187, hca, h32']
          refine ⟨(n, r6, acc ++ [(p, l, v)]), ?_, ⟨hr6s, by simp only; omega, by simp only [List.length_append, List.length_cons, List.length_nil]; omega, hI⟩, by simp⟩
          simp only [List.length_append, List.length_cons, List.length_nil, List.map_append, List.map_cons, List.map_nil]
          rfl
      · rw [hqq] at c6 hI
        simp only [Bool.false_eq_true, ↓reduceIte] at c6 hI
        subst hI
        simp (maxSteps := 200000) (disch := first | omega | (simp only [go_sem] <;> omega) | fail) only [go_sem, c1, hge, hat, hbc, hc1', hc2', cn, c3, c4, c5, c60, c6]
        exact tidy_no _ _ _ _ _
    · rw [hp] at c4 hI
      simp only [Bool.false_eq_true, ↓reduceIte] at c4 hI
      subst hI
      simp (maxSteps := 200000) (disch := first | omega | (simp only [go_sem] <;> omega) | fail) only [go_sem, c1, hge, hat, hbc, hc1', hc2', cn, c3, c4]
      exact tidy_no _ _ _ _ _
end Go.Abs.SA
end
