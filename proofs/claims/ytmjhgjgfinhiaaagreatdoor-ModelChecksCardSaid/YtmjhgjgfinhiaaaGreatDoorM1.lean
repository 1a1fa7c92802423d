/- YtmjhgjgfinhiaaaGreatDoorM1: a part of the interpreter by which the claim is shown, and of the walks: no conditions of its own: every theorem states its own. -/
import Derived.Test.YtmjhgjgfinhiaaaGreatDoorP1
import Derived.Test.YtmjhgjgfinhiaaaGreatDoorZ1
set_option linter.unusedVariables false
set_option linter.unusedSimpArgs false
set_option linter.unusedSectionVars false
set_option maxHeartbeats 8000000
set_option maxRecDepth 100000
section
namespace Go.Abs.SA
open Go.Proofs
theorem refName_spec (s : Str) (hs : s.size ≤ 140737488355328) : pureW XX 45 [vS s] = some (vB (okNm (lS8 s))) := by
  rw [okNm_iff]
  refine pureW_in 66 Tryz.func45 Tryz.ntmps45 (by simp) (rfl : Tryz.f45.body = some _) fns_45 ?_
  by_cases h1 : s.size < 1
  · have e1 : ((s.size : Int) < 1) = True := eq_true (by omega)
    simp (maxSteps := 200000) (disch := first | omega | (simp only [go_sem] <;> omega) | fail) only [go_sem, nat_int, e1]
    have : ¬ s.size ≠ 0 := by omega
    simp [this]
  have e1 : ((s.size : Int) < 1) = False := eq_false (by omega)
  by_cases h2 : 32 < s.size
  · have e2 : ((32 : Int) < (s.size : Int)) = True := eq_true (by omega)
    simp (maxSteps := 200000) (disch := first | omega | (simp only [go_sem] <;> omega) | fail) only [go_sem, nat_int, e1, e2]
    have : ¬ s.size ≤ 32 := by omega
    simp [this]
  have e2 : ((32 : Int) < (s.size : Int)) = False := eq_false (by omega)
  simp (maxSteps := 200000) (disch := first | omega | (simp only [go_sem] <;> omega) | fail) only [go_sem, nat_int, e1, e2]
  refine WP_range 4 0 s.size (fun i => S_45_4 (vS s) (vI i) []) (fun i => ∀ j, j < i → okC j (byteAt s j)) rfl rfl ?_ ?_ ?_ ?_
  · simp (maxSteps := 200000) (disch := first | omega | (simp only [go_sem] <;> omega) | fail) only [go_sem]; rfl
  · intro j hj; exact absurd hj (Nat.not_lt_zero _)
  · intro i h hall
    have hle : i < s.size := h
    have bad : ¬ okC i (byteAt s i) → decide ((∀ j, j < s.size → okC j (byteAt s j)) ∧ s.size ≠ 0 ∧ s.size ≤ 32) = false := by
      intro hb
      simp only [decide_eq_false_iff_not]
      rintro ⟨h1, _⟩
      exact hb (h1 i h)
    have good : okC i (byteAt s i) → ∀ j, j < i + 1 → okC j (byteAt s j) := by
      intro hg j hj
      rcases Nat.lt_succ_iff_lt_or_eq.1 hj with h | rfl
      · exact hall j h
      · exact hg
    have hw := wrap_succ h (show s.size ≤ 140737488355328 from hs)
    obtain ⟨c, hc⟩ : ∃ c, byteAt s i = c := ⟨_, rfl⟩
    rw [hc] at bad good
    have p0 : (i : Int) = 0 ∨ (i : Int) ≠ 0 := by omega
    have tri : c < 45 ∨ c = 45 ∨ c = 46 ∨ c = 47 ∨ (48 ≤ c ∧ c ≤ 57) ∨ (58 ≤ c ∧ c ≤ 64) ∨ (65 ≤ c ∧ c ≤ 90) ∨ (91 ≤ c ∧ c ≤ 94) ∨ c = 95 ∨ c = 96 ∨ (97 ≤ c ∧ c ≤ 122) ∨ 123 ≤ c := by omega
    rcases p0 with p0 | p0 <;> rcases tri with t | t | t | t | t | t | t | t | t | t | t | t <;> (
      first | have e1 : (97 ≤ c) = True := eq_true (by omega) | have e1 : (97 ≤ c) = False := eq_false (by omega)
      first | have e2 : (c ≤ 122) = True := eq_true (by omega) | have e2 : (c ≤ 122) = False := eq_false (by omega)
      first | have e3 : (65 ≤ c) = True := eq_true (by omega) | have e3 : (65 ≤ c) = False := eq_false (by omega)
      first | have e4 : (c ≤ 90) = True := eq_true (by omega) | have e4 : (c ≤ 90) = False := eq_false (by omega)
      first | have e5 : (c = 95) = True := eq_true (by omega) | have e5 : (c = 95) = False := eq_false (by omega)
      first | have e6 : (48 ≤ c) = True := eq_true (by omega) | have e6 : (48 ≤ c) = False := eq_false (by omega)
      first | have e7 : (c ≤ 57) = True := eq_true (by omega) | have e7 : (c ≤ 57) = False := eq_false (by omega)
      first | have e8 : (c = 45) = True := eq_true (by omega) | have e8 : (c = 45) = False := eq_false (by omega)
      first | have e9 : (c = 46) = True := eq_true (by omega) | have e9 : (c = 46) = False := eq_false (by omega)
      first | have e0 : ((i : Int) = 0) = True := eq_true (by omega) | have e0 : ((i : Int) = 0) = False := eq_false (by omega)
      simp (maxSteps := 200000) (disch := first | omega | (simp only [go_sem] <;> omega) | fail) only [go_sem, nat_int, h, hle, hc, hw, e1, e2, e3, e4, e5, e6, e7, e8, e9, e0]
      first
      | exact good (by omega)
      | (rw [bad (by omega)]))
  · intro hI
    simp (maxSteps := 200000) (disch := first | omega | (simp only [go_sem] <;> omega) | fail) only [go_sem, nat_int, Nat.lt_irrefl]
    have h3 : s.size ≠ 0 := by omega
    have h4 : s.size ≤ 32 := by omega
    simp [h3, h4]
    exact hI
end Go.Abs.SA
end
section
namespace Go.Abs.SA
open Go.Proofs
def keyR (pre : List Str) (kids : List Def) (k : Str) : Bool := match place kids k with
  | none => false
  | some i => decide ((kids.map Def.kind)[i]? = some 3) && !has pre k
def keysR (kids : List Def) : List Str → List Str → Bool
  | _, [] => true
  | pre, k :: r => keyR pre kids k && keysR kids (pre ++ [k]) r
def okSz (l : List Str) : Prop := l.length ≤ 140737488355328 ∧ ∀ s ∈ l, s.size ≤ 140737488355328
mutual
def kindR : Def → Int → Bool
  | .mk n k t v m ks kd, dep =>
    if k = 1 then ks.isEmpty && !kd.isEmpty && (decide (kd.length ≤ 32) && decide (dep + 1 ≤ 10) && chkR [] kd (dep + 1))
    else if k = 2 then !ks.isEmpty && decide (ks.length ≤ 3) && (decide (kd.length ≤ 32) && decide (dep + 1 ≤ 10) && chkR [] kd (dep + 1)) && keysR kd [] ks
    else if k = 3 then ks.isEmpty && kd.isEmpty && decide (0 ≤ t) && decide (t ≤ 3) && (decide (t = 3) == !v.isEmpty) && decide (v.length ≤ 32) && v.all fun x => okNm (lS8 x)
    else false
def chkR : List Str → List Def → Int → Bool
  | _, [], _ => true
  | pre, d :: r, dep => okNm (lS8 d.name) && !has pre d.name && kindR d dep && chkR (pre ++ [d.name]) r dep
end
def rightR (l : List Def) (dep : Int) : Bool := decide (l.length ≤ 32) && decide (dep ≤ 10) && chkR [] l dep
theorem kindR_s (d : Def) (dep : Int) : kindR d dep =
    (if d.kind = 1 then d.keys.isEmpty && !d.kids.isEmpty && rightR d.kids (dep + 1)
    else if d.kind = 2 then !d.keys.isEmpty && decide (d.keys.length ≤ 3) && rightR d.kids (dep + 1) && keysR d.kids [] d.keys
    else if d.kind = 3 then d.keys.isEmpty && d.kids.isEmpty && decide (0 ≤ d.type) && decide (d.type ≤ 3) && (decide (d.type = 3) == !d.values.isEmpty) && decide (d.values.length ≤ 32) && d.values.all fun x => okNm (lS8 x)
    else false) := by
  cases d; rw [kindR]; rfl
mutual
def szD : Def → Prop
  | .mk n _ _ v _ ks kd => n.size ≤ 140737488355328 ∧ okSz v ∧ okSz ks ∧ kd.length ≤ 140737488355328 ∧ szDs kd
def szDs : List Def → Prop
  | [] => True
  | d :: r => szD d ∧ szDs r
end
theorem szD_s {d : Def} (h : szD d) : d.name.size ≤ 140737488355328 ∧ okSz d.values ∧ okSz d.keys ∧ d.kids.length ≤ 140737488355328 ∧ szDs d.kids := by
  cases d; rw [szD] at h; exact h
theorem szDs_mem : ∀ {l : List Def} {d : Def}, szDs l → d ∈ l → szD d
  | x :: r, d, h, hm => by
    rw [szDs] at h
    rcases List.mem_cons.1 hm with rfl | hm
    · exact h.1
    · exact szDs_mem h.2 hm
theorem rightDef_spec (d x : Def) : pureW XX 156 [aDef d, .fp [vS x.name, vI x.kind, vI x.type, lS x.values, vB x.must, lS x.keys, lD x.kids]] = some (vB (decide (d.name = x.name))) := by
  refine pureW_in 9 Tryz.func156 Tryz.ntmps156 (by simp) (rfl : Tryz.f156.body = some _) fns_156 ?_
  simp (maxSteps := 200000) (disch := first | omega | (simp only [go_sem] <;> omega) | fail) only [go_sem]
theorem indexDefR_spec (l : List Def) (x : Def) (hl : l.length ≤ 140737488355328) : pureW XX 106 [lD l, .fn 156 [.fp [vS x.name, vI x.kind, vI x.type, lS x.values, vB x.must, lS x.keys, lD x.kids]]] = some (vI (posI (place l x.name))) := by
  unfold place
  refine pureW_in 19 Tryz.func106 Tryz.ntmps106 (by simp) (rfl : Tryz.f106.body = some _) fns_106 ?_
  simp (maxSteps := 200000) (disch := first | omega | (simp only [go_sem] <;> omega) | fail) only [go_sem]
  refine WP_range 2 0 l.length (fun i => S_106_2 (lD l) (.fn 156 [.fp [vS x.name, vI x.kind, vI x.type, lS x.values, vB x.must, lS x.keys, lD x.kids]]) (vI l.length) (vI i) []) (fun i => (l.findIdx? fun y => decide (y.name = x.name)) = ((l.drop i).findIdx? fun y => decide (y.name = x.name)).map (· + i)) rfl rfl ?_ ?_ ?_ ?_
  · simp (maxSteps := 200000) (disch := first | omega | (simp only [go_sem] <;> omega) | fail) only [go_sem]; rfl
  · simp
  · intro i h hI
    rw [findIdx_step _ _ h] at hI
    have hk := rightDef_spec l[i] x
    cases hv : (fun y => decide (y.name = x.name)) l[i] with
    | true =>
      simp only at hv
      rw [hv] at hk hI
      simp (maxSteps := 200000) (disch := first | omega | (simp only [go_sem] <;> omega) | fail) only [go_sem, nat_int, h, eDef_s, callA_pure mode_156, hk]
      rw [hI]
      simp [posI]
    | false =>
      simp only at hv
      rw [hv] at hk hI
      simp (maxSteps := 200000) (disch := first | omega | (simp only [go_sem] <;> omega) | fail) only [go_sem, nat_int, h, eDef_s, callA_pure mode_156, hk, wrap_succ h hl]
      rw [hI]
      simp
      congr 1
      funext x
      simp
      omega
  · intro hI
    simp (maxSteps := 200000) (disch := first | omega | (simp only [go_sem] <;> omega) | fail) only [go_sem, nat_int]
    rw [hI]
    simp [posI]
theorem place_has (l : List Def) (k : Str) : (0 ≤ posI (place l k)) = (has (l.map Def.name) k = true) := propext (by
  rw [has_iff, List.mem_map]
  unfold place
  cases h : l.findIdx? fun d => decide (d.name = k) with
  | none =>
    rw [List.findIdx?_eq_none_iff] at h
    simp only [posI]
    constructor
    · intro h0; omega
    · rintro ⟨d, hd, rfl⟩
      have := h d hd
      simp at this
  | some i =>
    obtain ⟨hi, h1, _⟩ := List.findIdx?_eq_some_iff_getElem.1 h
    simp only [posI]
    constructor
    · intro _; exact ⟨l[i], List.getElem_mem hi, by simpa using h1⟩
    · intro _; omega)
theorem containsDefR_spec (l : List Def) (x : Def) (hl : l.length ≤ 140737488355328) : pureW XX 155 [lD l, .fn 156 [.fp [vS x.name, vI x.kind, vI x.type, lS x.values, vB x.must, lS x.keys, lD x.kids]]] = some (vB (has (l.map Def.name) x.name)) := by
  have h1 := indexDefR_spec l x hl
  have h2 := place_has l x.name
  refine pureW_in 9 Tryz.func155 Tryz.ntmps155 (by simp) (rfl : Tryz.f155.body = some _) fns_155 ?_
  simp (maxSteps := 200000) (disch := first | omega | (simp only [go_sem] <;> omega) | fail) only [go_sem, callA_pure mode_106, h1, h2]
  all_goals simp
end Go.Abs.SA
end
section
namespace Go.Abs.SA
open Go.Proofs
theorem take_names (l : List Def) (i : Nat) (h : i < l.length) : (l.take (i + 1)).map Def.name = (l.take i).map Def.name ++ [l[i].name] := by
  rw [List.take_succ_eq_append_getElem h, List.map_append]; rfl
theorem place_lt {l : List Def} {k : Str} {i : Nat} (h : place l k = some i) : i < l.length := (place_some h).1
theorem modelRight_spec : ∀ (k : Nat) (l : List Def) (dep : Int), 11 - (k : Int) ≤ dep → 0 ≤ dep → dep ≤ 11 → l.length ≤ 140737488355328 → szDs l → pureW XX 101 [lD l, vI dep] = some (vB (rightR l dep)) := by
  intro k
  induction k with
  | zero =>
    intro l dep h1 h2 h3 hl hz
    have hd : 10 < dep := by omega
    have hd' := eq_true hd
    have hr : rightR l dep = false := by
      have : ¬ dep ≤ 10 := by omega
      simp [rightR, this]
    rw [hr]
    refine pureW_in 160 Tryz.func101 Tryz.ntmps101 (by simp) (rfl : Tryz.f101.body = some _) fns_101 ?_
    by_cases h32 : 32 < l.length
    · have e1 : ((32 : Int) < (l.length : Int)) = True := eq_true (by omega)
      simp (maxSteps := 200000) (disch := first | omega | (simp only [go_sem] <;> omega) | fail) only [go_sem, nat_int, e1]
    · have e1 : ((32 : Int) < (l.length : Int)) = False := eq_false (by omega)
      simp (maxSteps := 200000) (disch := first | omega | (simp only [go_sem] <;> omega) | fail) only [go_sem, nat_int, e1, hd']
  | succ k ih =>
    intro l dep h1 h2 h3 hl hz
    obtain ⟨out, hout⟩ : ∃ o, rightR l dep = o := ⟨_, rfl⟩
    rw [hout]
    refine pureW_in 160 Tryz.func101 Tryz.ntmps101 (by simp) (rfl : Tryz.f101.body = some _) fns_101 ?_
    by_cases h32 : 32 < l.length
    · have e1 : ((32 : Int) < (l.length : Int)) = True := eq_true (by omega)
      have : ¬ l.length ≤ 32 := by omega
      simp only [rightR, this, decide_false, Bool.false_and] at hout
      subst hout
      simp (maxSteps := 200000) (disch := first | omega | (simp only [go_sem] <;> omega) | fail) only [go_sem, nat_int, e1]
    have e1 : ((32 : Int) < (l.length : Int)) = False := eq_false (by omega)
    by_cases hd : 10 < dep
    · have e2 := eq_true hd
      have : ¬ dep ≤ 10 := by omega
      simp only [rightR, this, decide_false, Bool.and_false, Bool.false_and] at hout
      subst hout
      simp (maxSteps := 200000) (disch := first | omega | (simp only [go_sem] <;> omega) | fail) only [go_sem, nat_int, e1, e2]
    have e2 := eq_false hd
    have hl32 : l.length ≤ 32 := by omega
    have hd10 : dep ≤ 10 := by omega
    simp only [rightR, hl32, hd10, decide_true, Bool.true_and] at hout
    simp (maxSteps := 200000) (disch := first | omega | (simp only [go_sem] <;> omega) | fail) only [go_sem, nat_int, e1, e2]
    refine WP_range 4 0 l.length (fun i => S_101_4 (lD l) (vI dep) (lD l) (vI l.length) (vI i) []) (fun i => chkR ((l.take i).map Def.name) (l.drop i) dep = out) rfl rfl ?_ ?_ ?_ ?_
    · simp (maxSteps := 200000) (disch := first | omega | (simp only [go_sem] <;> omega) | fail) only [go_sem]; rfl
    · simpa using hout
    · intro i h hI
      rw [List.drop_eq_getElem_cons h, chkR, ← take_names l i h] at hI
      have hzd := szD_s (szDs_mem hz (List.getElem_mem h))
      have hsd := eDef_s l[i]
      obtain ⟨d, hd⟩ : ∃ d, l[i] = d := ⟨_, rfl⟩
      rw [hd] at hI hzd hsd
      obtain ⟨z1, z2, z3, z4, z5⟩ := hzd
      obtain ⟨rst, hrst⟩ : ∃ r, chkR (List.map Def.name (l.take (i + 1))) (l.drop (i + 1)) dep = r := ⟨_, rfl⟩
      rw [hrst] at hI
      have hnm := name_spec d.name z1
      have hct := containsDefR_spec (l.take i) d (by rw [List.length_take]; omega)
      have hws := wrap_succ h (by omega)
      have hile : i ≤ l.length := by omega
      have hpt : (l.map eDef).take i = (l.take i).map eDef := List.map_take.symm
      obtain ⟨b1, hb1⟩ : ∃ b, okNm (lS8 d.name) = b := ⟨_, rfl⟩
      rw [hb1] at hnm hI
      cases b1 with
      | false =>
        simp only [Bool.false_and] at hI
        subst hI
        simp (maxSteps := 200000) (disch := first | omega | (simp only [go_sem] <;> omega) | fail) only [go_sem, nat_int, h, hd, hsd, hile, hpt, callA_pure mode_46, hnm, callA_pure mode_155, hct, hws]
      | true =>
      obtain ⟨b2, hb2⟩ : ∃ b, has ((l.take i).map Def.name) d.name = b := ⟨_, rfl⟩
      rw [hb2] at hct hI
      cases b2 with
      | true =>
        simp only [Bool.not_true, Bool.and_false, Bool.false_and] at hI
        subst hI
        simp (maxSteps := 200000) (disch := first | omega | (simp only [go_sem] <;> omega) | fail) only [go_sem, nat_int, h, hd, hsd, hile, hpt, callA_pure mode_46, hnm, callA_pure mode_155, hct, hws]
      | false =>
      simp only [Bool.not_false, Bool.and_true, Bool.true_and] at hI
      rw [kindR_s] at hI
      have hwd : IntKind.i64.wrap (dep + 1) = dep + 1 := IntWalk.i64_in _ (by omega)
      have hrr := ih d.kids (dep + 1) (by omega) (by omega) (by omega) z4 z5
      by_cases k1 : d.kind = 1
      · rw [if_pos k1] at hI
        have k1' := eq_true k1
        by_cases q1 : d.keys = []
        case neg =>
          have q1' : ((0 : Int) < (d.keys.length : Int)) = True := eq_true (by have := List.length_pos_iff.2 q1; omega)
          have q1'' := eq_true (List.length_pos_iff.2 q1)
          have : d.keys.isEmpty = false := by simp [q1]
          rw [this] at hI
          simp only [Bool.false_and] at hI
          subst hI
          simp (maxSteps := 200000) (disch := first | omega | (simp only [go_sem] <;> omega) | fail) only [go_sem, nat_int, h, hd, hsd, hile, hpt, callA_pure mode_46, hnm, callA_pure mode_155, hct, hws, hwd, callA_pure mode_101, hrr, k1', q1', q1'']
        have q1' : ((0 : Int) < (d.keys.length : Int)) = False := eq_false (by rw [q1]; simp)
        have q1'' : (0 < d.keys.length) = False := eq_false (by rw [q1]; simp)
        have q1e : d.keys.isEmpty = true := by simp [q1]
        by_cases q2 : d.kids = []
        · have q2' : ((d.kids.length : Int) = 0) = True := eq_true (by rw [q2]; simp)
          have q2'' : (d.kids.length = 0) = True := eq_true (by rw [q2]; simp)
          have : d.kids.isEmpty = true := by simp [q2]
          rw [q1e, this] at hI
          simp only [Bool.not_true, Bool.and_false, Bool.false_and] at hI
          subst hI
          simp (maxSteps := 200000) (disch := first | omega | (simp only [go_sem] <;> omega) | fail) only [go_sem, nat_int, h, hd, hsd, hile, hpt, callA_pure mode_46, hnm, callA_pure mode_155, hct, hws, hwd, callA_pure mode_101, hrr, k1', q1', q1'', q2', q2'']
        have q2' : ((d.kids.length : Int) = 0) = False := eq_false (by have := List.length_pos_iff.2 q2; omega)
        have q2'' : (d.kids.length = 0) = False := eq_false (by have := List.length_pos_iff.2 q2; omega)
        have q2e : d.kids.isEmpty = false := by simp [q2]
        rw [q1e, q2e] at hI
        obtain ⟨b3, hb3⟩ : ∃ b, rightR d.kids (dep + 1) = b := ⟨_, rfl⟩
        rw [hb3] at hrr hI
        cases b3 with
        | false =>
          simp only [Bool.and_false, Bool.false_and] at hI
          subst hI
          simp (maxSteps := 200000) (disch := first | omega | (simp only [go_sem] <;> omega) | fail) only [go_sem, nat_int, h, hd, hsd, hile, hpt, callA_pure mode_46, hnm, callA_pure mode_155, hct, hws, hwd, callA_pure mode_101, hrr, k1', q1', q1'', q2', q2'']
        | true =>
          simp only [Bool.not_false, Bool.and_true, Bool.true_and] at hI
          simp (maxSteps := 200000) (disch := first | omega | (simp only [go_sem] <;> omega) | fail) only [go_sem, nat_int, h, hd, hsd, hile, hpt, callA_pure mode_46, hnm, callA_pure mode_155, hct, hws, hwd, callA_pure mode_101, hrr, k1', q1', q1'', q2', q2'']
          exact ⟨by rw [gcK_mkT (by simp only [go_sem]) (by simp only [go_sem])]; rfl, by rw [← hI]; exact hrst⟩
      have k1' := eq_false k1
      rw [if_neg k1] at hI
      by_cases k2 : d.kind = 2
      · rw [if_pos k2] at hI
        have k2' := eq_true k2
        by_cases q1 : d.keys = []
        · have q1' : ((d.keys.length : Int) = 0) = True := eq_true (by rw [q1]; simp)
          have q1'' : (d.keys.length = 0) = True := eq_true (by rw [q1]; simp)
          have : d.keys.isEmpty = true := by simp [q1]
          rw [this] at hI
          simp only [Bool.not_true, Bool.false_and] at hI
          subst hI
          simp (maxSteps := 200000) (disch := first | omega | (simp only [go_sem] <;> omega) | fail) only [go_sem, nat_int, h, hd, hsd, hile, hpt, callA_pure mode_46, hnm, callA_pure mode_155, hct, hws, hwd, callA_pure mode_101, hrr, k1', k2', q1', q1'']
        have q1' : ((d.keys.length : Int) = 0) = False := eq_false (by have := List.length_pos_iff.2 q1; omega)
        have q1'' : (d.keys.length = 0) = False := eq_false (by have := List.length_pos_iff.2 q1; omega)
        have q1e : d.keys.isEmpty = false := by simp [q1]
        by_cases q2 : 3 < d.keys.length
        · have q2' : ((3 : Int) < (d.keys.length : Int)) = True := eq_true (by omega)
          have q2'' := eq_true q2
          have : ¬ d.keys.length ≤ 3 := by omega
          rw [q1e, decide_eq_false this] at hI
          simp only [Bool.and_false, Bool.false_and] at hI
          subst hI
          simp (maxSteps := 200000) (disch := first | omega | (simp only [go_sem] <;> omega) | fail) only [go_sem, nat_int, h, hd, hsd, hile, hpt, callA_pure mode_46, hnm, callA_pure mode_155, hct, hws, hwd, callA_pure mode_101, hrr, k1', k2', q1', q1'', q2', q2'']
        have q2' : ((3 : Int) < (d.keys.length : Int)) = False := eq_false (by omega)
        have q2'' := eq_false q2
        have q2e : d.keys.length ≤ 3 := by omega
        rw [q1e, decide_eq_true q2e] at hI
        obtain ⟨b3, hb3⟩ : ∃ b, rightR d.kids (dep + 1) = b := ⟨_, rfl⟩
        rw [hb3] at hrr hI
        cases b3 with
        | false =>
          simp only [Bool.and_false, Bool.false_and] at hI
          subst hI
          simp (maxSteps := 200000) (disch := first | omega | (simp only [go_sem] <;> omega) | fail) only [go_sem, nat_int, h, hd, hsd, hile, hpt, callA_pure mode_46, hnm, callA_pure mode_155, hct, hws, hwd, callA_pure mode_101, hrr, k1', k2', q1', q1'', q2', q2'']
        | true =>
        simp only [Bool.not_false, Bool.and_true, Bool.true_and] at hI
        simp (maxSteps := 200000) (disch := first | omega | (simp only [go_sem] <;> omega) | fail) only [go_sem, nat_int, h, hd, hsd, hile, hpt, callA_pure mode_46, hnm, callA_pure mode_155, hct, hws, hwd, callA_pure mode_101, hrr, k1', k2', q1', q1'', q2', q2'']
        refine WP_range 17 1 d.keys.length (fun j => S_101_17 (lD l) (vI dep) (.ptr 0 0) (lD l) (vI l.length) (vI i) (lS d.keys) (vI d.keys.length) (vI j) [.var [vS d.name, vI d.kind, vI d.type, lS d.values, vB d.must, lS d.keys, lD d.kids]]) (fun j => (keysR d.kids (d.keys.take j) (d.keys.drop j) && rst) = out) rfl rfl ?_ ?_ ?_ ?_
        · simp (maxSteps := 200000) (disch := first | omega | (simp only [go_sem] <;> omega) | fail) only [go_sem, nat_int, h, hd, hsd, hile, hpt, callA_pure mode_46, hnm, callA_pure mode_155, hct, hws, hwd, callA_pure mode_101, hrr]
          rfl
        · simpa using hI
        · intro j hj hJ
          rw [List.drop_eq_getElem_cons hj, keysR, ← List.take_succ_eq_append_getElem hj] at hJ
          have hwj := wrap_succ hj (by omega)
          have hjle : j ≤ d.keys.length := by omega
          obtain ⟨ky, hky⟩ : ∃ ky, d.keys[j] = ky := ⟨_, rfl⟩
          rw [hky] at hJ
          have hfd := find_spec d.kids ky z4
          have hcn := contains_spec (d.keys.take j) ky (by rw [List.length_take]; omega)
          have hpk : (d.keys.map eS).take j = (d.keys.take j).map eS := List.map_take.symm
          unfold keyR at hJ
          obtain ⟨pl, hpl⟩ : ∃ p, place d.kids ky = p := ⟨_, rfl⟩
          rw [hpl] at hfd hJ
          cases pl with
          | none =>
            simp only [Bool.false_and] at hJ
            subst hJ
            have hneg : ((-1 : Int) < 0) = True := eq_true (by decide)
            simp (maxSteps := 200000) (disch := first | omega | (simp only [go_sem] <;> omega) | fail) only [go_sem, nat_int, h, hd, hsd, hile, hpt, callA_pure mode_46, hnm, callA_pure mode_155, hct, hws, hwd, callA_pure mode_101, hrr, hj, hky, hjle, callA_pure mode_55, hfd, hneg, posI]
          | some p =>
          have hpl2 := place_lt hpl
          simp only [List.getElem?_map, List.getElem?_eq_getElem hpl2, Option.map_some, Option.some.injEq] at hJ
          have hkd := eDef_s d.kids[p]
          obtain ⟨x, hx⟩ : ∃ x, d.kids[p] = x := ⟨_, rfl⟩
          rw [hx] at hJ hkd
          have hneg : ((p : Int) < 0) = False := eq_false (by omega)
          by_cases q3 : x.kind = 3
          case neg =>
            have q3' := eq_false q3
            rw [decide_eq_false q3] at hJ
            simp only [Bool.false_and] at hJ
            subst hJ
            simp (maxSteps := 200000) (disch := first | omega | (simp only [go_sem] <;> omega) | fail) only [go_sem, nat_int, h, hd, hsd, hile, hpt, callA_pure mode_46, hnm, callA_pure mode_155, hct, hws, hwd, callA_pure mode_101, hrr, hj, hky, hjle, callA_pure mode_55, hfd, posI, hneg, hpl2, hx, hkd, q3', ne_eq, not_false_eq_true]
          have q3' := eq_true q3
          rw [decide_eq_true q3] at hJ
          obtain ⟨b4, hb4⟩ : ∃ b, has (d.keys.take j) ky = b := ⟨_, rfl⟩
          rw [hb4] at hcn hJ
          cases b4 with
          | true =>
            simp only [Bool.not_true, Bool.and_false, Bool.false_and] at hJ
            subst hJ
            simp (maxSteps := 200000) (disch := first | omega | (simp only [go_sem] <;> omega) | fail) only [go_sem, nat_int, h, hd, hsd, hile, hpt, callA_pure mode_46, hnm, callA_pure mode_155, hct, hws, hwd, callA_pure mode_101, hrr, hj, hky, hjle, hpk, callA_pure mode_55, hfd, posI, hneg, hpl2, hx, hkd, q3', ne_eq, not_true, callA_pure mode_117, hcn]
          | false =>
            simp only [Bool.not_false, Bool.and_true, Bool.true_and] at hJ
            simp (maxSteps := 200000) (disch := first | omega | (simp only [go_sem] <;> omega) | fail) only [go_sem, nat_int, h, hd, hsd, hile, hpt, callA_pure mode_46, hnm, callA_pure mode_155, hct, hws, hwd, callA_pure mode_101, hrr, hj, hky, hjle, hpk, callA_pure mode_55, hfd, posI, hneg, hpl2, hx, hkd, q3', ne_eq, not_true, callA_pure mode_117, hcn, hwj]
            exact hJ
        · intro hJ
          rw [List.drop_of_length_le (Nat.le_refl _), keysR, Bool.true_and] at hJ
          simp (maxSteps := 200000) (disch := first | omega | (simp only [go_sem] <;> omega) | fail) only [go_sem, nat_int, h, hd, hsd, hile, hpt, callA_pure mode_46, hnm, callA_pure mode_155, hct, hws, hwd, callA_pure mode_101, hrr, Nat.lt_irrefl]
          exact ⟨by rw [gcK_mkT (by simp only [go_sem]) (by simp only [go_sem])]; rfl, by rw [← hJ]; exact hrst⟩
      have k2' := eq_false k2
      rw [if_neg k2] at hI
      by_cases k3 : d.kind = 3
      case neg =>
        have k3' := eq_false k3
        rw [if_neg k3] at hI
        simp only [Bool.false_and] at hI
        subst hI
        simp (maxSteps := 200000) (disch := first | omega | (simp only [go_sem] <;> omega) | fail) only [go_sem, nat_int, h, hd, hsd, hile, hpt, callA_pure mode_46, hnm, callA_pure mode_155, hct, hws, hwd, callA_pure mode_101, hrr, k1', k2', k3']
      have k3' := eq_true k3
      rw [if_pos k3] at hI
      have z21 := z2.1
      have z31 := z3.1
      have hsum : IntKind.i64.wrap ((d.keys.length : Int) + (d.kids.length : Int)) = ((d.keys.length + d.kids.length : Nat) : Int) := by rw [IntWalk.i64_in _ (by omega)]; omega
      by_cases q1 : d.keys = [] ∧ d.kids = []
      case neg =>
        have q0 : 0 < d.keys.length + d.kids.length := by
          apply Nat.pos_of_ne_zero
          intro hh
          exact q1 ⟨List.eq_nil_of_length_eq_zero (by omega), List.eq_nil_of_length_eq_zero (by omega)⟩
        have q1' : ((0 : Int) < ((d.keys.length + d.kids.length : Nat) : Int)) = True := eq_true (by omega)
        have q1'' := eq_true q0
        have : (d.keys.isEmpty && d.kids.isEmpty) = false := by
          rw [Bool.and_eq_false_iff]
          by_cases h : d.keys = []
          · right; simp; exact fun hh => q1 ⟨h, hh⟩
          · left; simpa using h
        rw [this] at hI
        simp only [Bool.false_and] at hI
        subst hI
        simp (maxSteps := 200000) (disch := first | omega | (simp only [go_sem] <;> omega) | fail) only [go_sem, nat_int, h, hd, hsd, hile, hpt, callA_pure mode_46, hnm, callA_pure mode_155, hct, hws, hwd, callA_pure mode_101, hrr, k1', k2', k3', hsum, q1', q1'']
      have q0 : d.keys.length + d.kids.length = 0 := by rw [q1.1, q1.2]; rfl
      have q1' : ((0 : Int) < ((d.keys.length + d.kids.length : Nat) : Int)) = False := eq_false (by omega)
      have q1'' : (0 < d.keys.length + d.kids.length) = False := eq_false (by omega)
      have q1e : (d.keys.isEmpty && d.kids.isEmpty) = true := by rw [q1.1, q1.2]; rfl
      rw [q1e, Bool.true_and] at hI
      by_cases q2 : d.type < 0
      · have q2' := eq_true q2
        rw [decide_eq_false (show ¬ 0 ≤ d.type by omega)] at hI
        simp only [Bool.false_and] at hI
        subst hI
        simp (maxSteps := 200000) (disch := first | omega | (simp only [go_sem] <;> omega) | fail) only [go_sem, nat_int, h, hd, hsd, hile, hpt, callA_pure mode_46, hnm, callA_pure mode_155, hct, hws, hwd, callA_pure mode_101, hrr, k1', k2', k3', hsum, q1', q1'', q2']
      have q2' := eq_false q2
      rw [decide_eq_true (show 0 ≤ d.type by omega), Bool.true_and] at hI
      by_cases q3 : 3 < d.type
      · have q3' := eq_true q3
        rw [decide_eq_false (show ¬ d.type ≤ 3 by omega)] at hI
        simp only [Bool.false_and] at hI
        subst hI
        simp (maxSteps := 200000) (disch := first | omega | (simp only [go_sem] <;> omega) | fail) only [go_sem, nat_int, h, hd, hsd, hile, hpt, callA_pure mode_46, hnm, callA_pure mode_155, hct, hws, hwd, callA_pure mode_101, hrr, k1', k2', k3', hsum, q1', q1'', q2', q3']
      have q3' := eq_false q3
      rw [decide_eq_true (show d.type ≤ 3 by omega), Bool.true_and] at hI
      have hval : (!d.values.isEmpty) = decide (0 < d.values.length) := by cases d.values <;> simp
      have hvi : ((0 : Int) < (d.values.length : Int)) = (0 < d.values.length) := propext (by omega)
      rw [hval] at hI
      obtain ⟨b5, hb5⟩ : ∃ b, (decide (d.type = 3) == decide (0 < d.values.length)) = b := ⟨_, rfl⟩
      have hb5' : (decide (d.type = 3) != decide (0 < d.values.length)) = !b5 := by rw [bne, hb5]
      have hb5'' : (decide (d.type = 3) != decide ((0 : Int) < (d.values.length : Int))) = !b5 := by rw [← hb5']; congr 1; exact decide_eq_decide.2 (by omega)
      have hb6 : (decide (d.type = 3) ≠ decide (0 < d.values.length)) = (b5 = false) := propext (by rw [← hb5]; simp)
      rw [hb5] at hI
      cases b5 with
      | false =>
        simp only [Bool.false_and] at hI
        subst hI
        simp (maxSteps := 200000) (disch := first | omega | (simp only [go_sem] <;> omega) | fail) only [go_sem, nat_int, h, hd, hsd, hile, hpt, callA_pure mode_46, hnm, callA_pure mode_155, hct, hws, hwd, callA_pure mode_101, hrr, k1', k2', k3', hsum, q1', q1'', q2', q3', hvi, hb5, hb5', hb5'', Bool.not_false, Bool.not_true]
      | true =>
      rw [Bool.true_and] at hI
      by_cases q6 : 32 < d.values.length
      · have q6' : ((32 : Int) < (d.values.length : Int)) = True := eq_true (by omega)
        have q6'' := eq_true q6
        rw [decide_eq_false (show ¬ d.values.length ≤ 32 by omega)] at hI
        simp only [Bool.false_and] at hI
        subst hI
        simp (maxSteps := 200000) (disch := first | omega | (simp only [go_sem] <;> omega) | fail) only [go_sem, nat_int, h, hd, hsd, hile, hpt, callA_pure mode_46, hnm, callA_pure mode_155, hct, hws, hwd, callA_pure mode_101, hrr, k1', k2', k3', hsum, q1', q1'', q2', q3', hvi, hb5, hb5', hb5'', Bool.not_false, Bool.not_true, q6', q6'']
      have q6' : ((32 : Int) < (d.values.length : Int)) = False := eq_false (by omega)
      have q6'' := eq_false q6
      rw [decide_eq_true (show d.values.length ≤ 32 by omega), Bool.true_and] at hI
      simp (maxSteps := 200000) (disch := first | omega | (simp only [go_sem] <;> omega) | fail) only [go_sem, nat_int, h, hd, hsd, hile, hpt, callA_pure mode_46, hnm, callA_pure mode_155, hct, hws, hwd, callA_pure mode_101, hrr, k1', k2', k3', hsum, q1', q1'', q2', q3', hvi, hb5, hb5', hb5'', Bool.not_false, Bool.not_true, q6', q6'']
      refine WP_range 26 1 d.values.length (fun j => S_101_26 (lD l) (vI dep) (lD l) (vI l.length) (vI i) (lS d.values) (vI d.values.length) (vI j) [.var [vS d.name, vI d.kind, vI d.type, lS d.values, vB d.must, lS d.keys, lD d.kids]]) (fun j => (((d.values.drop j).all fun x => okNm (lS8 x)) && rst) = out) rfl rfl ?_ ?_ ?_ ?_
      · simp (maxSteps := 200000) (disch := first | omega | (simp only [go_sem] <;> omega) | fail) only [go_sem, nat_int, h, hd, hsd, hile, hpt, callA_pure mode_46, hnm, callA_pure mode_155, hct, hws, hwd, callA_pure mode_101, hrr, k1', k2', k3', hsum, q1', q1'', q2', q3']
        rfl
      · simpa using hI
      · intro j hj hJ
        rw [List.drop_eq_getElem_cons hj, List.all_cons] at hJ
        have hwj := wrap_succ hj (by omega)
        have hvm := z2.2 _ (List.getElem_mem hj)
        obtain ⟨v, hv⟩ : ∃ v, d.values[j] = v := ⟨_, rfl⟩
        rw [hv] at hJ hvm
        have hnv := name_spec v hvm
        obtain ⟨b7, hb7⟩ : ∃ b, okNm (lS8 v) = b := ⟨_, rfl⟩
        rw [hb7] at hnv hJ
        cases b7 with
        | false =>
          simp only [Bool.false_and] at hJ
          subst hJ
          simp (maxSteps := 200000) (disch := first | omega | (simp only [go_sem] <;> omega) | fail) only [go_sem, nat_int, h, hd, hsd, hile, hpt, callA_pure mode_46, hnm, callA_pure mode_155, hct, hws, hwd, callA_pure mode_101, hrr, k1', k2', k3', hsum, q1', q1'', q2', q3', hj, hv, hnv]
        | true =>
          rw [Bool.true_and] at hJ
          simp (maxSteps := 200000) (disch := first | omega | (simp only [go_sem] <;> omega) | fail) only [go_sem, nat_int, h, hd, hsd, hile, hpt, callA_pure mode_46, hnm, callA_pure mode_155, hct, hws, hwd, callA_pure mode_101, hrr, k1', k2', k3', hsum, q1', q1'', q2', q3', hj, hv, hnv, hwj]
          exact hJ
      · intro hJ
        rw [List.drop_of_length_le (Nat.le_refl _), List.all_nil, Bool.true_and] at hJ
        simp (maxSteps := 200000) (disch := first | omega | (simp only [go_sem] <;> omega) | fail) only [go_sem, nat_int, h, hd, hsd, hile, hpt, callA_pure mode_46, hnm, callA_pure mode_155, hct, hws, hwd, callA_pure mode_101, hrr, k1', k2', k3', hsum, q1', q1'', q2', q3', Nat.lt_irrefl]
        exact ⟨by rw [gcK_mkT (by simp only [go_sem]) (by simp only [go_sem])]; rfl, by rw [← hJ]; exact hrst⟩
    · intro hI
      rw [List.drop_of_length_le (Nat.le_refl _), chkR] at hI
      subst hI
      simp (maxSteps := 200000) (disch := first | omega | (simp only [go_sem] <;> omega) | fail) only [go_sem, nat_int, Nat.lt_irrefl]
end Go.Abs.SA
end
section
namespace Go.Abs.SA
open Go.Proofs
theorem place_first (l : List Def) (i : Nat) (h : i < l.length) : (posI (place l l[i].name) = (i : Int)) = (has ((l.take i).map Def.name) l[i].name = false) := propext (by
  have hex : ∃ j, place l l[i].name = some j := by
    unfold place
    cases hh : l.findIdx? fun d => decide (d.name = l[i].name) with
    | none =>
      rw [List.findIdx?_eq_none_iff] at hh
      have := hh l[i] (List.getElem_mem h)
      simp at this
    | some j => exact ⟨j, rfl⟩
  obtain ⟨j, hj⟩ := hex
  rw [hj]
  unfold place at hj
  obtain ⟨hjl, h1, h2⟩ := List.findIdx?_eq_some_iff_getElem.1 hj
  have h1' : l[j].name = l[i].name := by simpa using h1
  rw [← Bool.not_eq_true, has_iff, List.mem_map]
  simp only [posI]
  constructor
  · rintro hji ⟨d, hd, hdn⟩
    have hji' : j = i := by omega
    subst hji'
    obtain ⟨m, hm, rfl⟩ := List.mem_take_iff_getElem.1 hd
    have := h2 m (by omega)
    simp [hdn] at this
  · intro hno
    have hle : j ≤ i := by
      apply Nat.le_of_not_lt
      intro hlt
      have := h2 i hlt
      simp at this
    rcases Nat.lt_or_ge j i with hlt | hge
    · exfalso
      exact hno ⟨l[j], List.mem_take_iff_getElem.2 ⟨j, by omega, rfl⟩, h1'⟩
    · omega)
theorem refRight_spec : ∀ (k : Nat) (l : List Def) (dep : Int), 11 - (k : Int) ≤ dep → 0 ≤ dep → dep ≤ 11 → l.length ≤ 140737488355328 → szDs l → pureW XX 102 [lD l, vI dep] = some (vB (rightR l dep)) := by
  intro k
  induction k with
  | zero =>
    intro l dep h1 h2 h3 hl hz
    have hd : 10 < dep := by omega
    have hd' := eq_true hd
    have hr : rightR l dep = false := by
      have : ¬ dep ≤ 10 := by omega
      simp [rightR, this]
    rw [hr]
    refine pureW_in 181 Tryz.func102 Tryz.ntmps102 (by simp) (rfl : Tryz.f102.body = some _) fns_102 ?_
    by_cases h32 : 32 < l.length
    · have e1 : ((32 : Int) < (l.length : Int)) = True := eq_true (by omega)
      simp (maxSteps := 200000) (disch := first | omega | (simp only [go_sem] <;> omega) | fail) only [go_sem, nat_int, e1]
    · have e1 : ((32 : Int) < (l.length : Int)) = False := eq_false (by omega)
      simp (maxSteps := 200000) (disch := first | omega | (simp only [go_sem] <;> omega) | fail) only [go_sem, nat_int, e1, hd']
  | succ k ih =>
    intro l dep h1 h2 h3 hl hz
    obtain ⟨out, hout⟩ : ∃ o, rightR l dep = o := ⟨_, rfl⟩
    rw [hout]
    refine pureW_in 181 Tryz.func102 Tryz.ntmps102 (by simp) (rfl : Tryz.f102.body = some _) fns_102 ?_
    by_cases h32 : 32 < l.length
    · have e1 : ((32 : Int) < (l.length : Int)) = True := eq_true (by omega)
      have : ¬ l.length ≤ 32 := by omega
      simp only [rightR, this, decide_false, Bool.false_and] at hout
      subst hout
      simp (maxSteps := 200000) (disch := first | omega | (simp only [go_sem] <;> omega) | fail) only [go_sem, nat_int, e1]
    have e1 : ((32 : Int) < (l.length : Int)) = False := eq_false (by omega)
    by_cases hd : 10 < dep
    · have e2 := eq_true hd
      have : ¬ dep ≤ 10 := by omega
      simp only [rightR, this, decide_false, Bool.and_false, Bool.false_and] at hout
      subst hout
      simp (maxSteps := 200000) (disch := first | omega | (simp only [go_sem] <;> omega) | fail) only [go_sem, nat_int, e1, e2]
    have e2 := eq_false hd
    have hl32 : l.length ≤ 32 := by omega
    have hd10 : dep ≤ 10 := by omega
    simp only [rightR, hl32, hd10, decide_true, Bool.true_and] at hout
    simp (maxSteps := 200000) (disch := first | omega | (simp only [go_sem] <;> omega) | fail) only [go_sem, nat_int, e1, e2]
    refine WP_range 4 0 l.length (fun i => S_102_4 (lD l) (vI dep) (vI i) []) (fun i => chkR ((l.take i).map Def.name) (l.drop i) dep = out) rfl rfl ?_ ?_ ?_ ?_
    · simp (maxSteps := 200000) (disch := first | omega | (simp only [go_sem] <;> omega) | fail) only [go_sem]; rfl
    · simpa using hout
    · intro i h hI
      rw [List.drop_eq_getElem_cons h, chkR, ← take_names l i h] at hI
      have hzd := szD_s (szDs_mem hz (List.getElem_mem h))
      have hsd := eDef_s l[i]
      obtain ⟨d, hd⟩ : ∃ d, l[i] = d := ⟨_, rfl⟩
      rw [hd] at hI hzd hsd
      obtain ⟨z1, z2, z3, z4, z5⟩ := hzd
      obtain ⟨rst, hrst⟩ : ∃ r, chkR (List.map Def.name (l.take (i + 1))) (l.drop (i + 1)) dep = r := ⟨_, rfl⟩
      rw [hrst] at hI
      have hnm := refName_spec d.name z1
      have hct := place_spec l d.name hl
      have hpf := place_first l i h
      rw [hd] at hpf
      have hws := wrap_succ h (by omega)
      have hile : i ≤ l.length := by omega
      have hpt : (l.map eDef).take i = (l.take i).map eDef := List.map_take.symm
      obtain ⟨b1, hb1⟩ : ∃ b, okNm (lS8 d.name) = b := ⟨_, rfl⟩
      rw [hb1] at hnm hI
      cases b1 with
      | false =>
        simp only [Bool.false_and] at hI
        subst hI
        simp (maxSteps := 200000) (disch := first | omega | (simp only [go_sem] <;> omega) | fail) only [go_sem, nat_int, h, hd, hsd, hile, hpt, callA_pure mode_45, hnm, callA_pure mode_92, hct, hpf, ne_eq, not_true, not_false_eq_true, Bool.true_eq_false, Bool.false_eq_true, hws]
      | true =>
      obtain ⟨b2, hb2⟩ : ∃ b, has ((l.take i).map Def.name) d.name = b := ⟨_, rfl⟩
      rw [hb2] at hpf hI
      cases b2 with
      | true =>
        simp only [Bool.not_true, Bool.and_false, Bool.false_and] at hI
        subst hI
        simp (maxSteps := 200000) (disch := first | omega | (simp only [go_sem] <;> omega) | fail) only [go_sem, nat_int, h, hd, hsd, hile, hpt, callA_pure mode_45, hnm, callA_pure mode_92, hct, hpf, ne_eq, not_true, not_false_eq_true, Bool.true_eq_false, Bool.false_eq_true, hws]
      | false =>
      simp only [Bool.not_false, Bool.and_true, Bool.true_and] at hI
      rw [kindR_s] at hI
      have hwd : IntKind.i64.wrap (dep + 1) = dep + 1 := IntWalk.i64_in _ (by omega)
      have hrr := ih d.kids (dep + 1) (by omega) (by omega) (by omega) z4 z5
      by_cases k1 : d.kind = 1
      · rw [if_pos k1] at hI
        have k1' := eq_true k1
        by_cases q1 : d.keys = []
        case neg =>
          have q1' : ((d.keys.length : Int) = 0) = False := eq_false (by have := List.length_pos_iff.2 q1; omega)
          have q1'' : (d.keys.length = 0) = False := eq_false (by have := List.length_pos_iff.2 q1; omega)
          have : d.keys.isEmpty = false := by simp [q1]
          rw [this] at hI
          simp only [Bool.false_and] at hI
          subst hI
          simp (maxSteps := 200000) (disch := first | omega | (simp only [go_sem] <;> omega) | fail) only [go_sem, nat_int, h, hd, hsd, hile, hpt, callA_pure mode_45, hnm, callA_pure mode_92, hct, hpf, ne_eq, not_true, not_false_eq_true, Bool.true_eq_false, Bool.false_eq_true, hws, hwd, callA_pure mode_102, hrr, k1', q1', q1'']
        have q1' : ((d.keys.length : Int) = 0) = True := eq_true (by rw [q1]; simp)
        have q1'' : (d.keys.length = 0) = True := eq_true (by rw [q1]; simp)
        have q1e : d.keys.isEmpty = true := by simp [q1]
        by_cases q2 : d.kids = []
        · have q2' : ((d.kids.length : Int) = 0) = True := eq_true (by rw [q2]; simp)
          have q2'' : (d.kids.length = 0) = True := eq_true (by rw [q2]; simp)
          have : d.kids.isEmpty = true := by simp [q2]
          rw [q1e, this] at hI
          simp only [Bool.not_true, Bool.and_false, Bool.false_and] at hI
          subst hI
          simp (maxSteps := 200000) (disch := first | omega | (simp only [go_sem] <;> omega) | fail) only [go_sem, nat_int, h, hd, hsd, hile, hpt, callA_pure mode_45, hnm, callA_pure mode_92, hct, hpf, ne_eq, not_true, not_false_eq_true, Bool.true_eq_false, Bool.false_eq_true, hws, hwd, callA_pure mode_102, hrr, k1', q1', q1'', q2', q2'']
        have q2' : ((d.kids.length : Int) = 0) = False := eq_false (by have := List.length_pos_iff.2 q2; omega)
        have q2'' : (d.kids.length = 0) = False := eq_false (by have := List.length_pos_iff.2 q2; omega)
        have q2e : d.kids.isEmpty = false := by simp [q2]
        rw [q1e, q2e] at hI
        obtain ⟨b3, hb3⟩ : ∃ b, rightR d.kids (dep + 1) = b := ⟨_, rfl⟩
        rw [hb3] at hrr hI
        cases b3 with
        | false =>
          simp only [Bool.and_false, Bool.false_and] at hI
          subst hI
          simp (maxSteps := 200000) (disch := first | omega | (simp only [go_sem] <;> omega) | fail) only [go_sem, nat_int, h, hd, hsd, hile, hpt, callA_pure mode_45, hnm, callA_pure mode_92, hct, hpf, ne_eq, not_true, not_false_eq_true, Bool.true_eq_false, Bool.false_eq_true, hws, hwd, callA_pure mode_102, hrr, k1', q1', q1'', q2', q2'']
        | true =>
          simp only [Bool.not_false, Bool.and_true, Bool.true_and] at hI
          simp (maxSteps := 200000) (disch := first | omega | (simp only [go_sem] <;> omega) | fail) only [go_sem, nat_int, h, hd, hsd, hile, hpt, callA_pure mode_45, hnm, callA_pure mode_92, hct, hpf, ne_eq, not_true, not_false_eq_true, Bool.true_eq_false, Bool.false_eq_true, hws, hwd, callA_pure mode_102, hrr, k1', q1', q1'', q2', q2'']
          exact ⟨by rw [gcK_mkT (by simp only [go_sem]) (by simp only [go_sem])]; rfl, by rw [← hI]; exact hrst⟩
      have k1' := eq_false k1
      rw [if_neg k1] at hI
      by_cases k2 : d.kind = 2
      · rw [if_pos k2] at hI
        have k2' := eq_true k2
        by_cases q1 : d.keys = []
        · have q1' : ((d.keys.length : Int) < 1) = True := eq_true (by rw [q1]; simp)
          have q1'' : (d.keys.length < 1) = True := eq_true (by rw [q1]; simp)
          have : d.keys.isEmpty = true := by simp [q1]
          rw [this] at hI
          simp only [Bool.not_true, Bool.false_and] at hI
          subst hI
          simp (maxSteps := 200000) (disch := first | omega | (simp only [go_sem] <;> omega) | fail) only [go_sem, nat_int, h, hd, hsd, hile, hpt, callA_pure mode_45, hnm, callA_pure mode_92, hct, hpf, ne_eq, not_true, not_false_eq_true, Bool.true_eq_false, Bool.false_eq_true, hws, hwd, callA_pure mode_102, hrr, k1', k2', q1', q1'']
        have q1' : ((d.keys.length : Int) < 1) = False := eq_false (by have := List.length_pos_iff.2 q1; omega)
        have q1'' : (d.keys.length < 1) = False := eq_false (by have := List.length_pos_iff.2 q1; omega)
        have q1e : d.keys.isEmpty = false := by simp [q1]
        by_cases q2 : 3 < d.keys.length
        · have q2' : ((3 : Int) < (d.keys.length : Int)) = True := eq_true (by omega)
          have q2'' := eq_true q2
          have : ¬ d.keys.length ≤ 3 := by omega
          rw [q1e, decide_eq_false this] at hI
          simp only [Bool.and_false, Bool.false_and] at hI
          subst hI
          simp (maxSteps := 200000) (disch := first | omega | (simp only [go_sem] <;> omega) | fail) only [go_sem, nat_int, h, hd, hsd, hile, hpt, callA_pure mode_45, hnm, callA_pure mode_92, hct, hpf, ne_eq, not_true, not_false_eq_true, Bool.true_eq_false, Bool.false_eq_true, hws, hwd, callA_pure mode_102, hrr, k1', k2', q1', q1'', q2', q2'']
        have q2' : ((3 : Int) < (d.keys.length : Int)) = False := eq_false (by omega)
        have q2'' := eq_false q2
        have q2e : d.keys.length ≤ 3 := by omega
        rw [q1e, decide_eq_true q2e] at hI
        obtain ⟨b3, hb3⟩ : ∃ b, rightR d.kids (dep + 1) = b := ⟨_, rfl⟩
        rw [hb3] at hrr hI
        cases b3 with
        | false =>
          simp only [Bool.and_false, Bool.false_and] at hI
          subst hI
          simp (maxSteps := 200000) (disch := first | omega | (simp only [go_sem] <;> omega) | fail) only [go_sem, nat_int, h, hd, hsd, hile, hpt, callA_pure mode_45, hnm, callA_pure mode_92, hct, hpf, ne_eq, not_true, not_false_eq_true, Bool.true_eq_false, Bool.false_eq_true, hws, hwd, callA_pure mode_102, hrr, k1', k2', q1', q1'', q2', q2'']
        | true =>
        simp only [Bool.not_false, Bool.and_true, Bool.true_and] at hI
        simp (maxSteps := 200000) (disch := first | omega | (simp only [go_sem] <;> omega) | fail) only [go_sem, nat_int, h, hd, hsd, hile, hpt, callA_pure mode_45, hnm, callA_pure mode_92, hct, hpf, ne_eq, not_true, not_false_eq_true, Bool.true_eq_false, Bool.false_eq_true, hws, hwd, callA_pure mode_102, hrr, k1', k2', q1', q1'', q2', q2'']
        refine WP_range 18 1 d.keys.length (fun j => S_102_18 (lD l) (vI dep) (vI i) (.ptr 0 0) (vI j) [.var [vS d.name, vI d.kind, vI d.type, lS d.values, vB d.must, lS d.keys, lD d.kids]]) (fun j => (keysR d.kids (d.keys.take j) (d.keys.drop j) && rst) = out) rfl rfl ?_ ?_ ?_ ?_
        · simp (maxSteps := 200000) (disch := first | omega | (simp only [go_sem] <;> omega) | fail) only [go_sem, nat_int, h, hd, hsd, hile, hpt, callA_pure mode_45, hnm, callA_pure mode_92, hct, hpf, ne_eq, not_true, not_false_eq_true, Bool.true_eq_false, Bool.false_eq_true, hws, hwd, callA_pure mode_102, hrr]
          rfl
        · simpa using hI
        · intro j hj hJ
          rw [List.drop_eq_getElem_cons hj, keysR, ← List.take_succ_eq_append_getElem hj] at hJ
          have hwj := wrap_succ hj (by omega)
          have hjle : j ≤ d.keys.length := by omega
          obtain ⟨ky, hky⟩ : ∃ ky, d.keys[j] = ky := ⟨_, rfl⟩
          rw [hky] at hJ
          have hfd := place_spec d.kids ky z4
          have hcn := has_spec (d.keys.take j) ky (by rw [List.length_take]; omega)
          have hpk : (d.keys.map eS).take j = (d.keys.take j).map eS := List.map_take.symm
          unfold keyR at hJ
          obtain ⟨pl, hpl⟩ : ∃ p, place d.kids ky = p := ⟨_, rfl⟩
          rw [hpl] at hfd hJ
          cases pl with
          | none =>
            simp only [Bool.false_and] at hJ
            subst hJ
            have hneg : ((-1 : Int) < 0) = True := eq_true (by decide)
            simp (maxSteps := 200000) (disch := first | omega | (simp only [go_sem] <;> omega) | fail) only [go_sem, nat_int, h, hd, hsd, hile, hpt, callA_pure mode_45, hnm, callA_pure mode_92, hct, hpf, ne_eq, not_true, not_false_eq_true, Bool.true_eq_false, Bool.false_eq_true, hws, hwd, callA_pure mode_102, hrr, hj, hky, hjle, hfd, hneg, posI]
          | some p =>
          have hpl2 := place_lt hpl
          simp only [List.getElem?_map, List.getElem?_eq_getElem hpl2, Option.map_some, Option.some.injEq] at hJ
          have hkd := eDef_s d.kids[p]
          obtain ⟨x, hx⟩ : ∃ x, d.kids[p] = x := ⟨_, rfl⟩
          rw [hx] at hJ hkd
          have hneg : ((p : Int) < 0) = False := eq_false (by omega)
          by_cases q3 : x.kind = 3
          case neg =>
            have q3' := eq_false q3
            rw [decide_eq_false q3] at hJ
            simp only [Bool.false_and] at hJ
            subst hJ
            simp (maxSteps := 200000) (disch := first | omega | (simp only [go_sem] <;> omega) | fail) only [go_sem, nat_int, h, hd, hsd, hile, hpt, callA_pure mode_45, hnm, callA_pure mode_92, hct, hpf, ne_eq, not_true, not_false_eq_true, Bool.true_eq_false, Bool.false_eq_true, hws, hwd, callA_pure mode_102, hrr, hj, hky, hjle, hfd, posI, hneg, hpl2, hx, hkd, q3', ne_eq, not_false_eq_true]
          have q3' := eq_true q3
          rw [decide_eq_true q3] at hJ
          obtain ⟨b4, hb4⟩ : ∃ b, has (d.keys.take j) ky = b := ⟨_, rfl⟩
          rw [hb4] at hcn hJ
          cases b4 with
          | true =>
            simp only [Bool.not_true, Bool.and_false, Bool.false_and] at hJ
            subst hJ
            simp (maxSteps := 200000) (disch := first | omega | (simp only [go_sem] <;> omega) | fail) only [go_sem, nat_int, h, hd, hsd, hile, hpt, callA_pure mode_45, hnm, callA_pure mode_92, hct, hpf, ne_eq, not_true, not_false_eq_true, Bool.true_eq_false, Bool.false_eq_true, hws, hwd, callA_pure mode_102, hrr, hj, hky, hjle, hpk, hfd, posI, hneg, hpl2, hx, hkd, q3', ne_eq, not_true, callA_pure mode_96, hcn]
          | false =>
            simp only [Bool.not_false, Bool.and_true, Bool.true_and] at hJ
            simp (maxSteps := 200000) (disch := first | omega | (simp only [go_sem] <;> omega) | fail) only [go_sem, nat_int, h, hd, hsd, hile, hpt, callA_pure mode_45, hnm, callA_pure mode_92, hct, hpf, ne_eq, not_true, not_false_eq_true, Bool.true_eq_false, Bool.false_eq_true, hws, hwd, callA_pure mode_102, hrr, hj, hky, hjle, hpk, hfd, posI, hneg, hpl2, hx, hkd, q3', ne_eq, not_true, callA_pure mode_96, hcn, hwj]
            exact hJ
        · intro hJ
          rw [List.drop_of_length_le (Nat.le_refl _), keysR, Bool.true_and] at hJ
          simp (maxSteps := 200000) (disch := first | omega | (simp only [go_sem] <;> omega) | fail) only [go_sem, nat_int, h, hd, hsd, hile, hpt, callA_pure mode_45, hnm, callA_pure mode_92, hct, hpf, ne_eq, not_true, not_false_eq_true, Bool.true_eq_false, Bool.false_eq_true, hws, hwd, callA_pure mode_102, hrr, Nat.lt_irrefl]
          exact ⟨by rw [gcK_mkT (by simp only [go_sem]) (by simp only [go_sem])]; rfl, by rw [← hJ]; exact hrst⟩
      have k2' := eq_false k2
      rw [if_neg k2] at hI
      by_cases k3 : d.kind = 3
      case neg =>
        have k3' := eq_false k3
        rw [if_neg k3] at hI
        simp only [Bool.false_and] at hI
        subst hI
        simp (maxSteps := 200000) (disch := first | omega | (simp only [go_sem] <;> omega) | fail) only [go_sem, nat_int, h, hd, hsd, hile, hpt, callA_pure mode_45, hnm, callA_pure mode_92, hct, hpf, ne_eq, not_true, not_false_eq_true, Bool.true_eq_false, Bool.false_eq_true, hws, hwd, callA_pure mode_102, hrr, k1', k2', k3']
      have k3' := eq_true k3
      rw [if_pos k3] at hI
      have z21 := z2.1
      have z31 := z3.1
      by_cases q1 : d.keys = []
      case neg =>
        have q1' : ((d.keys.length : Int) = 0) = False := eq_false (by have := List.length_pos_iff.2 q1; omega)
        have q1'' : (d.keys.length = 0) = False := eq_false (by have := List.length_pos_iff.2 q1; omega)
        rw [show d.keys.isEmpty = false by simp [q1]] at hI
        simp only [Bool.false_and] at hI
        subst hI
        simp (maxSteps := 200000) (disch := first | omega | (simp only [go_sem] <;> omega) | fail) only [go_sem, nat_int, h, hd, hsd, hile, hpt, callA_pure mode_45, hnm, callA_pure mode_92, hct, hpf, ne_eq, not_true, not_false_eq_true, Bool.true_eq_false, Bool.false_eq_true, hws, hwd, callA_pure mode_102, hrr, k1', k2', k3', q1', q1'']
      have q1' : ((d.keys.length : Int) = 0) = True := eq_true (by rw [q1]; simp)
      have q1'' : (d.keys.length = 0) = True := eq_true (by rw [q1]; simp)
      rw [show d.keys.isEmpty = true by simp [q1], Bool.true_and] at hI
      by_cases q0 : d.kids = []
      case neg =>
        have q0' : ((d.kids.length : Int) = 0) = False := eq_false (by have := List.length_pos_iff.2 q0; omega)
        have q0'' : (d.kids.length = 0) = False := eq_false (by have := List.length_pos_iff.2 q0; omega)
        rw [show d.kids.isEmpty = false by simp [q0]] at hI
        simp only [Bool.false_and] at hI
        subst hI
        simp (maxSteps := 200000) (disch := first | omega | (simp only [go_sem] <;> omega) | fail) only [go_sem, nat_int, h, hd, hsd, hile, hpt, callA_pure mode_45, hnm, callA_pure mode_92, hct, hpf, ne_eq, not_true, not_false_eq_true, Bool.true_eq_false, Bool.false_eq_true, hws, hwd, callA_pure mode_102, hrr, k1', k2', k3', q1', q1'', q0', q0'']
      have q0' : ((d.kids.length : Int) = 0) = True := eq_true (by rw [q0]; simp)
      have q0'' : (d.kids.length = 0) = True := eq_true (by rw [q0]; simp)
      rw [show d.kids.isEmpty = true by simp [q0], Bool.true_and] at hI
      by_cases q2 : d.type < 0
      · have q2' := eq_true q2
        rw [decide_eq_false (show ¬ 0 ≤ d.type by omega)] at hI
        simp only [Bool.false_and] at hI
        subst hI
        simp (maxSteps := 200000) (disch := first | omega | (simp only [go_sem] <;> omega) | fail) only [go_sem, nat_int, h, hd, hsd, hile, hpt, callA_pure mode_45, hnm, callA_pure mode_92, hct, hpf, ne_eq, not_true, not_false_eq_true, Bool.true_eq_false, Bool.false_eq_true, hws, hwd, callA_pure mode_102, hrr, k1', k2', k3', q1', q1'', q0', q0'', q2']
      have q2' := eq_false q2
      rw [decide_eq_true (show 0 ≤ d.type by omega), Bool.true_and] at hI
      by_cases q3 : 3 < d.type
      · have q3' := eq_true q3
        rw [decide_eq_false (show ¬ d.type ≤ 3 by omega)] at hI
        simp only [Bool.false_and] at hI
        subst hI
        simp (maxSteps := 200000) (disch := first | omega | (simp only [go_sem] <;> omega) | fail) only [go_sem, nat_int, h, hd, hsd, hile, hpt, callA_pure mode_45, hnm, callA_pure mode_92, hct, hpf, ne_eq, not_true, not_false_eq_true, Bool.true_eq_false, Bool.false_eq_true, hws, hwd, callA_pure mode_102, hrr, k1', k2', k3', q1', q1'', q0', q0'', q2', q3']
      have q3' := eq_false q3
      rw [decide_eq_true (show d.type ≤ 3 by omega), Bool.true_and] at hI
      have hvi : ((0 : Int) < (d.values.length : Int)) = (0 < d.values.length) := propext (by omega)
      by_cases q6 : 32 < d.values.length
      · have q6' : ((32 : Int) < (d.values.length : Int)) = True := eq_true (by omega)
        have q6'' := eq_true q6
        rw [decide_eq_false (show ¬ d.values.length ≤ 32 by omega)] at hI
        simp only [Bool.and_false, Bool.false_and] at hI
        subst hI
        simp (maxSteps := 200000) (disch := first | omega | (simp only [go_sem] <;> omega) | fail) only [go_sem, nat_int, h, hd, hsd, hile, hpt, callA_pure mode_45, hnm, callA_pure mode_92, hct, hpf, ne_eq, not_true, not_false_eq_true, Bool.true_eq_false, Bool.false_eq_true, hws, hwd, callA_pure mode_102, hrr, k1', k2', k3', q1', q1'', q0', q0'', q2', q3', q6', q6'']
      have q6' : ((32 : Int) < (d.values.length : Int)) = False := eq_false (by omega)
      have q6'' := eq_false q6
      rw [decide_eq_true (show d.values.length ≤ 32 by omega)] at hI
      have q7 : ((d.type = 3 ∧ d.values.length = 0) ∨ (d.type ≠ 3 ∧ 0 < d.values.length)) ∨ ((d.type = 3 ∧ 0 < d.values.length) ∨ (d.type ≠ 3 ∧ d.values.length = 0)) := by omega
      have hve : d.values.isEmpty = decide (d.values.length = 0) := by cases d.values <;> simp
      rw [hve] at hI
      have q7 : (d.type = 3 ∧ d.values.length = 0) ∨ (d.type ≠ 3 ∧ 0 < d.values.length) ∨ (d.type = 3 ∧ 0 < d.values.length) ∨ (d.type ≠ 3 ∧ d.values.length = 0) := by omega
      have g0 : (d.values.length = 0) = True ∨ (d.values.length = 0) = False := by by_cases h : d.values.length = 0; exact .inl (eq_true h); exact .inr (eq_false h)
      have g1 : ((d.values.length : Int) = 0) = (d.values.length = 0) := propext (by omega)
      have g2 : (0 < d.values.length) = ¬ (d.values.length = 0) := propext (by omega)
      rcases q7 with ⟨t3, v0⟩ | ⟨t3, v0⟩ | ⟨t3, v0⟩ | ⟨t3, v0⟩
      · have t3' := eq_true t3
        have v0' := eq_true v0
        simp only [t3', v0', decide_true, Bool.not_true, Bool.true_beq, Bool.false_and] at hI
        subst hI
        simp (maxSteps := 200000) (disch := first | omega | (simp only [go_sem] <;> omega) | fail) only [go_sem, nat_int, h, hd, hsd, hile, hpt, callA_pure mode_45, hnm, callA_pure mode_92, hct, hpf, ne_eq, not_true, not_false_eq_true, Bool.true_eq_false, Bool.false_eq_true, hws, hwd, callA_pure mode_102, hrr, k1', k2', k3', q1', q1'', q0', q0'', q2', q3', q6', q6'', hvi, g1, g2, t3', v0', ne_eq, not_true, not_false_eq_true]
      · have t3' := eq_false t3
        have v0' : (d.values.length = 0) = False := eq_false (by omega)
        simp only [t3', v0', decide_false, Bool.not_false, Bool.false_beq, Bool.not_true, Bool.false_and] at hI
        subst hI
        simp (maxSteps := 200000) (disch := first | omega | (simp only [go_sem] <;> omega) | fail) only [go_sem, nat_int, h, hd, hsd, hile, hpt, callA_pure mode_45, hnm, callA_pure mode_92, hct, hpf, ne_eq, not_true, not_false_eq_true, Bool.true_eq_false, Bool.false_eq_true, hws, hwd, callA_pure mode_102, hrr, k1', k2', k3', q1', q1'', q0', q0'', q2', q3', q6', q6'', hvi, g1, g2, t3', v0', ne_eq, not_true, not_false_eq_true]
      · have t3' := eq_true t3
        have v0' : (d.values.length = 0) = False := eq_false (by omega)
        simp only [t3', v0', decide_true, decide_false, Bool.not_false, Bool.true_beq, Bool.true_and] at hI
        simp (maxSteps := 200000) (disch := first | omega | (simp only [go_sem] <;> omega) | fail) only [go_sem, nat_int, h, hd, hsd, hile, hpt, callA_pure mode_45, hnm, callA_pure mode_92, hct, hpf, ne_eq, not_true, not_false_eq_true, Bool.true_eq_false, Bool.false_eq_true, hws, hwd, callA_pure mode_102, hrr, k1', k2', k3', q1', q1'', q0', q0'', q2', q3', q6', q6'', hvi, g1, g2, t3', v0', ne_eq, not_true, not_false_eq_true]
        refine WP_range 29 1 d.values.length (fun j => S_102_29 (lD l) (vI dep) (vI i) (.ptr 0 0) (vI j) [.var [vS d.name, vI d.kind, vI d.type, lS d.values, vB d.must, lS d.keys, lD d.kids]]) (fun j => (((d.values.drop j).all fun x => okNm (lS8 x)) && rst) = out) rfl rfl ?_ ?_ ?_ ?_
        · simp (maxSteps := 200000) (disch := first | omega | (simp only [go_sem] <;> omega) | fail) only [go_sem, nat_int, h, hd, hsd, hile, hpt, callA_pure mode_45, hnm, callA_pure mode_92, hct, hpf, ne_eq, not_true, not_false_eq_true, Bool.true_eq_false, Bool.false_eq_true, hws, hwd, callA_pure mode_102, hrr, k1', k2', k3', q1', q1'', q0', q0'', q2', q3', q6', q6'']
          rfl
        · simpa using hI
        · intro j hj hJ
          rw [List.drop_eq_getElem_cons hj, List.all_cons] at hJ
          have hwj := wrap_succ hj (by omega)
          have hvm := z2.2 _ (List.getElem_mem hj)
          obtain ⟨v, hv⟩ : ∃ v, d.values[j] = v := ⟨_, rfl⟩
          rw [hv] at hJ hvm
          have hnv := refName_spec v hvm
          obtain ⟨b7, hb7⟩ : ∃ b, okNm (lS8 v) = b := ⟨_, rfl⟩
          rw [hb7] at hnv hJ
          cases b7 with
          | false =>
            simp only [Bool.false_and] at hJ
            subst hJ
            simp (maxSteps := 200000) (disch := first | omega | (simp only [go_sem] <;> omega) | fail) only [go_sem, nat_int, h, hd, hsd, hile, hpt, callA_pure mode_45, hnm, callA_pure mode_92, hct, hpf, ne_eq, not_true, not_false_eq_true, Bool.true_eq_false, Bool.false_eq_true, hws, hwd, callA_pure mode_102, hrr, k1', k2', k3', q1', q1'', q0', q0'', q2', q3', q6', q6'', hj, hv, hnv]
          | true =>
            rw [Bool.true_and] at hJ
            simp (maxSteps := 200000) (disch := first | omega | (simp only [go_sem] <;> omega) | fail) only [go_sem, nat_int, h, hd, hsd, hile, hpt, callA_pure mode_45, hnm, callA_pure mode_92, hct, hpf, ne_eq, not_true, not_false_eq_true, Bool.true_eq_false, Bool.false_eq_true, hws, hwd, callA_pure mode_102, hrr, k1', k2', k3', q1', q1'', q0', q0'', q2', q3', q6', q6'', hj, hv, hnv, hwj]
            exact hJ
        · intro hJ
          rw [List.drop_of_length_le (Nat.le_refl _), List.all_nil, Bool.true_and] at hJ
          simp (maxSteps := 200000) (disch := first | omega | (simp only [go_sem] <;> omega) | fail) only [go_sem, nat_int, h, hd, hsd, hile, hpt, callA_pure mode_45, hnm, callA_pure mode_92, hct, hpf, ne_eq, not_true, not_false_eq_true, Bool.true_eq_false, Bool.false_eq_true, hws, hwd, callA_pure mode_102, hrr, k1', k2', k3', q1', q1'', q0', q0'', q2', q3', q6', q6'', Nat.lt_irrefl]
          exact ⟨by rw [gcK_mkT (by simp only [go_sem]) (by simp only [go_sem])]; rfl, by rw [← hJ]; exact hrst⟩
      · have t3' := eq_false t3
        have v0' := eq_true v0
        simp only [t3', v0', decide_true, decide_false, Bool.not_true, Bool.false_beq, Bool.not_false, Bool.true_and] at hI
        simp (maxSteps := 200000) (disch := first | omega | (simp only [go_sem] <;> omega) | fail) only [go_sem, nat_int, h, hd, hsd, hile, hpt, callA_pure mode_45, hnm, callA_pure mode_92, hct, hpf, ne_eq, not_true, not_false_eq_true, Bool.true_eq_false, Bool.false_eq_true, hws, hwd, callA_pure mode_102, hrr, k1', k2', k3', q1', q1'', q0', q0'', q2', q3', q6', q6'', hvi, g1, g2, t3', v0', ne_eq, not_true, not_false_eq_true]
        refine WP_range 29 1 d.values.length (fun j => S_102_29 (lD l) (vI dep) (vI i) (.ptr 0 0) (vI j) [.var [vS d.name, vI d.kind, vI d.type, lS d.values, vB d.must, lS d.keys, lD d.kids]]) (fun j => (((d.values.drop j).all fun x => okNm (lS8 x)) && rst) = out) rfl rfl ?_ ?_ ?_ ?_
        · simp (maxSteps := 200000) (disch := first | omega | (simp only [go_sem] <;> omega) | fail) only [go_sem, nat_int, h, hd, hsd, hile, hpt, callA_pure mode_45, hnm, callA_pure mode_92, hct, hpf, ne_eq, not_true, not_false_eq_true, Bool.true_eq_false, Bool.false_eq_true, hws, hwd, callA_pure mode_102, hrr, k1', k2', k3', q1', q1'', q0', q0'', q2', q3', q6', q6'']
          rfl
        · simpa using hI
        · intro j hj hJ
          rw [List.drop_eq_getElem_cons hj, List.all_cons] at hJ
          have hwj := wrap_succ hj (by omega)
          have hvm := z2.2 _ (List.getElem_mem hj)
          obtain ⟨v, hv⟩ : ∃ v, d.values[j] = v := ⟨_, rfl⟩
          rw [hv] at hJ hvm
          have hnv := refName_spec v hvm
          obtain ⟨b7, hb7⟩ : ∃ b, okNm (lS8 v) = b := ⟨_, rfl⟩
          rw [hb7] at hnv hJ
          cases b7 with
          | false =>
            simp only [Bool.false_and] at hJ
            subst hJ
            simp (maxSteps := 200000) (disch := first | omega | (simp only [go_sem] <;> omega) | fail) only [go_sem, nat_int, h, hd, hsd, hile, hpt, callA_pure mode_45, hnm, callA_pure mode_92, hct, hpf, ne_eq, not_true, not_false_eq_true, Bool.true_eq_false, Bool.false_eq_true, hws, hwd, callA_pure mode_102, hrr, k1', k2', k3', q1', q1'', q0', q0'', q2', q3', q6', q6'', hj, hv, hnv]
          | true =>
            rw [Bool.true_and] at hJ
            simp (maxSteps := 200000) (disch := first | omega | (simp only [go_sem] <;> omega) | fail) only [go_sem, nat_int, h, hd, hsd, hile, hpt, callA_pure mode_45, hnm, callA_pure mode_92, hct, hpf, ne_eq, not_true, not_false_eq_true, Bool.true_eq_false, Bool.false_eq_true, hws, hwd, callA_pure mode_102, hrr, k1', k2', k3', q1', q1'', q0', q0'', q2', q3', q6', q6'', hj, hv, hnv, hwj]
            exact hJ
        · intro hJ
          rw [List.drop_of_length_le (Nat.le_refl _), List.all_nil, Bool.true_and] at hJ
          simp (maxSteps := 200000) (disch := first | omega | (simp only [go_sem] <;> omega) | fail) only [go_sem, nat_int, h, hd, hsd, hile, hpt, callA_pure mode_45, hnm, callA_pure mode_92, hct, hpf, ne_eq, not_true, not_false_eq_true, Bool.true_eq_false, Bool.false_eq_true, hws, hwd, callA_pure mode_102, hrr, k1', k2', k3', q1', q1'', q0', q0'', q2', q3', q6', q6'', Nat.lt_irrefl]
          exact ⟨by rw [gcK_mkT (by simp only [go_sem]) (by simp only [go_sem])]; rfl, by rw [← hJ]; exact hrst⟩
    · intro hI
      rw [List.drop_of_length_le (Nat.le_refl _), chkR] at hI
      subst hI
      simp (maxSteps := 200000) (disch := first | omega | (simp only [go_sem] <;> omega) | fail) only [go_sem, nat_int, Nat.lt_irrefl]
end Go.Abs.SA
end
section
namespace Go.Abs.SA
open Go.Proofs
def mustM (l : List Def) (nodes : List Node) : Bool := l.all fun d => !(decide (d.kind = 3) && d.must && !(nodes.any fun n => decide (n.name = d.name)))
mutual
def chk1 : Node → List Def → Int
  | .mk n v kids, l => match place l n with
    | none => 11
    | some i => match l[i]? with
      | none => 11
      | some d => if d.kind = 3 then 0 else if mustM d.kids kids then chkN kids d.kids else 14
def chkN : List Node → List Def → Int
  | [], _ => 0
  | n :: r, l => if chk1 n l ≠ 0 then chk1 n l else chkN r l
end
def checkM (l : List Def) (nodes : List Node) : Int := if mustM l nodes then chkN nodes l else 14
theorem chk1_s (n : Node) (l : List Def) : chk1 n l = (match place l n.name with
    | none => 11
    | some i => match l[i]? with
      | none => 11
      | some d => if d.kind = 3 then 0 else checkM d.kids n.kids) := by
  cases n; rw [chk1]; rfl
theorem nodeIs_spec (n : Node) (x : Def) : pureW XX 105 [aNode n, .fp [vS x.name, vI x.kind, vI x.type, lS x.values, vB x.must, lS x.keys, lD x.kids]] = some (vB (decide (n.name = x.name))) := by
  refine pureW_in 9 Tryz.func105 Tryz.ntmps105 (by simp) (rfl : Tryz.f105.body = some _) fns_105 ?_
  simp (maxSteps := 200000) (disch := first | omega | (simp only [go_sem] <;> omega) | fail) only [go_sem]
theorem indexNodeC_spec (l : List Node) (x : Def) (hl : l.length ≤ 140737488355328) : pureW XX 108 [lN l, .fn 105 [.fp [vS x.name, vI x.kind, vI x.type, lS x.values, vB x.must, lS x.keys, lD x.kids]]] = some (vI (posI (l.findIdx? fun n => decide (n.name = x.name)))) := by
  refine pureW_in 19 Tryz.func108 Tryz.ntmps108 (by simp) (rfl : Tryz.f108.body = some _) fns_108 ?_
  simp (maxSteps := 200000) (disch := first | omega | (simp only [go_sem] <;> omega) | fail) only [go_sem]
  refine WP_range 2 0 l.length (fun i => S_108_2 (lN l) (.fn 105 [.fp [vS x.name, vI x.kind, vI x.type, lS x.values, vB x.must, lS x.keys, lD x.kids]]) (vI l.length) (vI i) []) (fun i => (l.findIdx? fun y => decide (y.name = x.name)) = ((l.drop i).findIdx? fun y => decide (y.name = x.name)).map (· + i)) rfl rfl ?_ ?_ ?_ ?_
  · simp (maxSteps := 200000) (disch := first | omega | (simp only [go_sem] <;> omega) | fail) only [go_sem]; rfl
  · simp
  · intro i h hI
    rw [findIdx_step _ _ h] at hI
    have hk := nodeIs_spec l[i] x
    cases hv : (fun y => decide (y.name = x.name)) l[i] with
    | true =>
      simp only at hv
      rw [hv] at hk hI
      simp (maxSteps := 200000) (disch := first | omega | (simp only [go_sem] <;> omega) | fail) only [go_sem, nat_int, h, eNode_s, callA_pure mode_105, hk]
      rw [hI]
      simp [posI]
    | false =>
      simp only at hv
      rw [hv] at hk hI
      simp (maxSteps := 200000) (disch := first | omega | (simp only [go_sem] <;> omega) | fail) only [go_sem, nat_int, h, eNode_s, callA_pure mode_105, hk, wrap_succ h hl]
      rw [hI]
      simp
      congr 1
      funext x
      simp
      omega
  · intro hI
    simp (maxSteps := 200000) (disch := first | omega | (simp only [go_sem] <;> omega) | fail) only [go_sem, nat_int]
    rw [hI]
    simp [posI]
theorem pos_any {α : Type} (l : List α) (p : α → Bool) : (0 ≤ posI (l.findIdx? p)) = (l.any p = true) := propext (by
  rw [List.any_eq_true]
  cases h : l.findIdx? p with
  | none =>
    rw [List.findIdx?_eq_none_iff] at h
    simp only [posI]
    constructor
    · intro h0; omega
    · rintro ⟨d, hd, hp⟩
      rw [h d hd] at hp; cases hp
  | some i =>
    obtain ⟨hi, h1, _⟩ := List.findIdx?_eq_some_iff_getElem.1 h
    simp only [posI]
    constructor
    · intro _; exact ⟨l[i], List.getElem_mem hi, h1⟩
    · intro _; omega)
theorem containsNodeC_spec (l : List Node) (x : Def) (hl : l.length ≤ 140737488355328) : pureW XX 104 [lN l, .fn 105 [.fp [vS x.name, vI x.kind, vI x.type, lS x.values, vB x.must, lS x.keys, lD x.kids]]] = some (vB (l.any fun n => decide (n.name = x.name))) := by
  have h1 := indexNodeC_spec l x hl
  have h2 := pos_any l fun n => decide (n.name = x.name)
  obtain ⟨b, hb⟩ : ∃ b, (l.any fun n => decide (n.name = x.name)) = b := ⟨_, rfl⟩
  rw [hb] at h2 ⊢
  refine pureW_in 9 Tryz.func104 Tryz.ntmps104 (by simp) (rfl : Tryz.f104.body = some _) fns_104 ?_
  simp (maxSteps := 200000) (disch := first | omega | (simp only [go_sem] <;> omega) | fail) only [go_sem, callA_pure mode_108, h1, h2]
  all_goals simp
theorem modelCheck_spec : ∀ (k : Nat) (l : List Def) (nodes : List Node), cntL nodes < k → k ≤ 140737488355328 → l.length ≤ 140737488355328 → szDs l → pureW XX 53 [lD l, lN nodes] = some (.v (.int .i64 (checkM l nodes))) := by
  intro k
  induction k with
  | zero => intro l nodes h; omega
  | succ k ih =>
  intro l nodes hc hk hl hz
  obtain ⟨out, hout⟩ : ∃ o, checkM l nodes = o := ⟨_, rfl⟩
  rw [hout]
  have hnl : nodes.length ≤ 140737488355328 := by have := len_cnt nodes; omega
  unfold checkM mustM at hout
  refine pureW_in 61 Tryz.func53 Tryz.ntmps53 (by simp) (rfl : Tryz.f53.body = some _) fns_53 ?_
  simp (maxSteps := 200000) (disch := first | omega | (simp only [go_sem] <;> omega) | fail) only [go_sem, nat_int]
  refine WP_range 2 0 l.length (fun i => S_53_2 (lD l) (lN nodes) (lD l) (vI l.length) (vI i) []) (fun i => (if ((l.drop i).all fun d => !(decide (d.kind = 3) && d.must && !(nodes.any fun n => decide (n.name = d.name)))) then chkN nodes l else 14) = out) rfl rfl ?_ ?_ ?_ ?_
  · simp (maxSteps := 200000) (disch := first | omega | (simp only [go_sem] <;> omega) | fail) only [go_sem]; rfl
  · simpa using hout
  · intro i h hI
    rw [List.drop_eq_getElem_cons h, List.all_cons] at hI
    have hsd := eDef_s l[i]
    obtain ⟨d, hd⟩ : ∃ d, l[i] = d := ⟨_, rfl⟩
    rw [hd] at hI hsd
    have hws := wrap_succ h (by omega)
    have hct := containsNodeC_spec nodes d hnl
    by_cases q1 : d.kind = 3
    case neg =>
      have q1' := eq_false q1
      rw [decide_eq_false q1] at hI
      simp only [Bool.false_and, Bool.not_false, Bool.true_and] at hI
      simp (maxSteps := 200000) (disch := first | omega | (simp only [go_sem] <;> omega) | fail) only [go_sem, nat_int, h, hd, hsd, hws, callA_pure mode_104, hct, q1']
      exact ⟨by rw [gcK_mkT (by simp only [go_sem]) (by simp only [go_sem])]; rfl, hI⟩
    have q1' := eq_true q1
    rw [decide_eq_true q1] at hI
    obtain ⟨b1, hb1⟩ : ∃ b, d.must = b := ⟨_, rfl⟩
    rw [hb1] at hI hsd hct
    cases b1 with
    | false =>
      simp only [Bool.and_false, Bool.false_and, Bool.not_false, Bool.true_and] at hI
      simp (maxSteps := 200000) (disch := first | omega | (simp only [go_sem] <;> omega) | fail) only [go_sem, nat_int, h, hd, hsd, hws, callA_pure mode_104, hct, q1']
      exact ⟨by rw [gcK_mkT (by simp only [go_sem]) (by simp only [go_sem])]; rfl, hI⟩
    | true =>
    obtain ⟨b2, hb2⟩ : ∃ b, (nodes.any fun n => decide (n.name = d.name)) = b := ⟨_, rfl⟩
    rw [hb2] at hct hI
    cases b2 with
    | true =>
      simp only [Bool.not_true, Bool.and_false, Bool.not_false, Bool.true_and] at hI
      simp (maxSteps := 200000) (disch := first | omega | (simp only [go_sem] <;> omega) | fail) only [go_sem, nat_int, h, hd, hsd, hws, callA_pure mode_104, hct, q1']
      exact ⟨by rw [gcK_mkT (by simp only [go_sem]) (by simp only [go_sem])]; rfl, hI⟩
    | false =>
      simp only [Bool.not_false, Bool.and_true, Bool.not_true, Bool.false_and, Bool.false_eq_true, ↓reduceIte] at hI
      subst hI
      simp (maxSteps := 200000) (disch := first | omega | (simp only [go_sem] <;> omega) | fail) only [go_sem, nat_int, h, hd, hsd, hws, callA_pure mode_104, hct, q1']
  · intro hI
    rw [List.drop_of_length_le (Nat.le_refl _), List.all_nil] at hI
    simp only [↓reduceIte] at hI
    simp (maxSteps := 200000) (disch := first | omega | (simp only [go_sem] <;> omega) | fail) only [go_sem, nat_int, Nat.lt_irrefl]
    clear hout
    refine WP_range 8 0 nodes.length (fun i => S_53_8 (lD l) (lN nodes) (vI nodes.length) (vI i) []) (fun i => chkN (nodes.drop i) l = out) rfl rfl ?_ ?_ ?_ ?_
    · simp (maxSteps := 200000) (disch := first | omega | (simp only [go_sem] <;> omega) | fail) only [go_sem]; rfl
    · simpa using hI
    · intro i h hI
      rw [List.drop_eq_getElem_cons h, chkN, chk1_s] at hI
      have hsn := eNode_s nodes[i]
      have hcm := cnt_mem (List.getElem_mem h)
      have hcn := cntN_s nodes[i]
      obtain ⟨x, hx⟩ : ∃ x, nodes[i] = x := ⟨_, rfl⟩
      rw [hx] at hI hsn hcm hcn
      have hws := wrap_succ h (by omega)
      have hfd := find_spec l x.name hl
      obtain ⟨pl, hpl⟩ : ∃ p, place l x.name = p := ⟨_, rfl⟩
      rw [hpl] at hfd hI
      cases pl with
      | none =>
        simp only [ne_eq, show ((11 : Int) = 0) = False from by simp, not_false_eq_true, ↓reduceIte] at hI
        subst hI
        have hneg : ((-1 : Int) < 0) = True := eq_true (by decide)
        simp (maxSteps := 200000) (disch := first | omega | (simp only [go_sem] <;> omega) | fail) only [go_sem, nat_int, h, hx, hsn, hws, callA_pure mode_55, hfd, posI, hneg]
      | some p =>
      have hpl2 := place_lt hpl
      simp only [List.getElem?_eq_getElem hpl2] at hI
      have hsd := eDef_s l[p]
      have hzd := szD_s (szDs_mem hz (List.getElem_mem hpl2))
      obtain ⟨d, hd⟩ : ∃ d, l[p] = d := ⟨_, rfl⟩
      rw [hd] at hI hsd hzd
      have hneg : ((p : Int) < 0) = False := eq_false (by omega)
      by_cases q1 : d.kind = 3
      · have q1' := eq_true q1
        rw [if_pos q1] at hI
        simp only [ne_eq, not_true, ↓reduceIte] at hI
        simp (maxSteps := 200000) (disch := first | omega | (simp only [go_sem] <;> omega) | fail) only [go_sem, nat_int, h, hx, hsn, hws, callA_pure mode_55, hfd, posI, hneg, hpl2, hd, hsd, q1', ne_eq, not_true, not_false_eq_true]
        exact ⟨by rw [gcK_mkT (by simp only [go_sem]) (by simp only [go_sem])]; rfl, hI⟩
      have q1' := eq_false q1
      rw [if_neg q1] at hI
      have hrec := ih d.kids x.kids (by omega) (by omega) hzd.2.2.2.1 hzd.2.2.2.2
      obtain ⟨e, he⟩ : ∃ e, checkM d.kids x.kids = e := ⟨_, rfl⟩
      rw [he] at hrec hI
      by_cases q2 : e = 0
      · have q2' := eq_true q2
        rw [if_neg (by simp [q2])] at hI
        simp (maxSteps := 200000) (disch := first | omega | (simp only [go_sem] <;> omega) | fail) only [go_sem, nat_int, h, hx, hsn, hws, callA_pure mode_55, hfd, posI, hneg, hpl2, hd, hsd, q1', callA_pure mode_53, hrec, q2', ne_eq, not_true, not_false_eq_true]
        exact ⟨by rw [gcK_mkT (by simp only [go_sem]) (by simp only [go_sem])]; rfl, hI⟩
      · have q2' := eq_false q2
        rw [if_pos q2] at hI
        subst hI
        simp (maxSteps := 200000) (disch := first | omega | (simp only [go_sem] <;> omega) | fail) only [go_sem, nat_int, h, hx, hsn, hws, callA_pure mode_55, hfd, posI, hneg, hpl2, hd, hsd, q1', callA_pure mode_53, hrec, q2', ne_eq, not_true, not_false_eq_true]
    · intro hI
      rw [List.drop_of_length_le (Nat.le_refl _), chkN] at hI
      subst hI
      simp (maxSteps := 200000) (disch := first | omega | (simp only [go_sem] <;> omega) | fail) only [go_sem, nat_int, Nat.lt_irrefl]
theorem refCheck_spec : ∀ (k : Nat) (l : List Def) (nodes : List Node), cntL nodes < k → k ≤ 140737488355328 → l.length ≤ 140737488355328 → szDs l → pureW XX 54 [lD l, lN nodes] = some (vI (checkM l nodes)) := by
  intro k
  induction k with
  | zero => intro l nodes h; omega
  | succ k ih =>
  intro l nodes hc hk hl hz
  obtain ⟨out, hout⟩ : ∃ o, checkM l nodes = o := ⟨_, rfl⟩
  rw [hout]
  have hnl : nodes.length ≤ 140737488355328 := by have := len_cnt nodes; omega
  unfold checkM mustM at hout
  refine pureW_in 88 Tryz.func54 Tryz.ntmps54 (by simp) (rfl : Tryz.f54.body = some _) fns_54 ?_
  simp (maxSteps := 200000) (disch := first | omega | (simp only [go_sem] <;> omega) | fail) only [go_sem, nat_int]
  refine WP_range 2 0 l.length (fun i => S_54_2 (lD l) (lN nodes) (vI i) []) (fun i => (if ((l.drop i).all fun d => !(decide (d.kind = 3) && d.must && !(nodes.any fun n => decide (n.name = d.name)))) then chkN nodes l else 14) = out) rfl rfl ?_ ?_ ?_ ?_
  · simp (maxSteps := 200000) (disch := first | omega | (simp only [go_sem] <;> omega) | fail) only [go_sem]; rfl
  · simpa using hout
  · intro i h hI
    rw [List.drop_eq_getElem_cons h, List.all_cons] at hI
    have hsd := eDef_s l[i]
    obtain ⟨d, hd⟩ : ∃ d, l[i] = d := ⟨_, rfl⟩
    rw [hd] at hI hsd
    have hws := wrap_succ h (by omega)
    by_cases q1 : d.kind = 3
    case neg =>
      have q1' := eq_false q1
      rw [decide_eq_false q1] at hI
      simp only [Bool.false_and, Bool.not_false, Bool.true_and] at hI
      simp (maxSteps := 200000) (disch := first | omega | (simp only [go_sem] <;> omega) | fail) only [go_sem, nat_int, h, hd, hsd, hws, ne_eq, not_true, not_false_eq_true, q1']
      exact hI
    have q1' := eq_true q1
    rw [decide_eq_true q1] at hI
    obtain ⟨b1, hb1⟩ : ∃ b, d.must = b := ⟨_, rfl⟩
    rw [hb1] at hI hsd
    cases b1 with
    | false =>
      simp only [Bool.and_false, Bool.false_and, Bool.not_false, Bool.true_and] at hI
      simp (maxSteps := 200000) (disch := first | omega | (simp only [go_sem] <;> omega) | fail) only [go_sem, nat_int, h, hd, hsd, hws, ne_eq, not_true, not_false_eq_true, q1']
      exact hI
    | true =>
    simp (maxSteps := 200000) (disch := first | omega | (simp only [go_sem] <;> omega) | fail) only [go_sem, nat_int, h, hd, hsd, hws, ne_eq, not_true, not_false_eq_true, q1']
    refine WP_range 7 0 nodes.length (fun j => S_54_7 (lD l) (lN nodes) (vI i) (vB ((nodes.take j).any fun n => decide (n.name = d.name))) (vI j) []) (fun j => True) rfl rfl ?_ ?_ ?_ ?_
    · simp (maxSteps := 200000) (disch := first | omega | (simp only [go_sem] <;> omega) | fail) only [go_sem, nat_int, h, hd, hsd, hws, ne_eq, not_true, not_false_eq_true]
      rfl
    · trivial
    · intro j hj _
      have hsn := eNode_s nodes[j]
      have hta : ((nodes.take (j + 1)).any fun n => decide (n.name = d.name)) = (((nodes.take j).any fun n => decide (n.name = d.name)) || decide (nodes[j].name = d.name)) := by
        rw [List.take_succ_eq_append_getElem hj, List.any_append]; simp
      obtain ⟨x, hx⟩ : ∃ x, nodes[j] = x := ⟨_, rfl⟩
      rw [hx] at hsn hta
      rw [hta]
      obtain ⟨b2, hb2⟩ : ∃ b, ((nodes.take j).any fun n => decide (n.name = d.name)) = b := ⟨_, rfl⟩
      rw [hb2]
      have hwj := wrap_succ hj (by omega)
      cases b2
      · simp (maxSteps := 200000) (disch := first | omega | (simp only [go_sem] <;> omega) | fail) only [go_sem, nat_int, h, hd, hsd, hws, ne_eq, not_true, not_false_eq_true, hj, hx, hsn, hwj, Bool.false_or]
      · simp (maxSteps := 200000) (disch := first | omega | (simp only [go_sem] <;> omega) | fail) only [go_sem, nat_int, h, hd, hsd, hws, ne_eq, not_true, not_false_eq_true, hj, hx, hsn, hwj, Bool.true_or]
    · intro _
      rw [List.take_of_length_le (Nat.le_refl _)]
      obtain ⟨b2, hb2⟩ : ∃ b, (nodes.any fun n => decide (n.name = d.name)) = b := ⟨_, rfl⟩
      rw [hb2] at hI ⊢
      cases b2 with
      | true =>
        simp only [Bool.not_true, Bool.and_false, Bool.not_false, Bool.true_and] at hI
        simp (maxSteps := 200000) (disch := first | omega | (simp only [go_sem] <;> omega) | fail) only [go_sem, nat_int, h, hd, hsd, hws, ne_eq, not_true, not_false_eq_true, Nat.lt_irrefl]
        exact hI
      | false =>
        simp only [Bool.not_false, Bool.and_true, Bool.not_true, Bool.false_and, Bool.false_eq_true, ↓reduceIte] at hI
        subst hI
        simp (maxSteps := 200000) (disch := first | omega | (simp only [go_sem] <;> omega) | fail) only [go_sem, nat_int, h, hd, hsd, hws, ne_eq, not_true, not_false_eq_true, Nat.lt_irrefl]
  · intro hI
    rw [List.drop_of_length_le (Nat.le_refl _), List.all_nil] at hI
    simp only [↓reduceIte] at hI
    simp (maxSteps := 200000) (disch := first | omega | (simp only [go_sem] <;> omega) | fail) only [go_sem, nat_int, Nat.lt_irrefl]
    clear hout
    refine WP_range 13 0 nodes.length (fun i => S_54_13 (lD l) (lN nodes) (vI i) []) (fun i => chkN (nodes.drop i) l = out) rfl rfl ?_ ?_ ?_ ?_
    · simp (maxSteps := 200000) (disch := first | omega | (simp only [go_sem] <;> omega) | fail) only [go_sem]; rfl
    · simpa using hI
    · intro i h hI
      rw [List.drop_eq_getElem_cons h, chkN, chk1_s] at hI
      have hsn := eNode_s nodes[i]
      have hcm := cnt_mem (List.getElem_mem h)
      have hcn := cntN_s nodes[i]
      obtain ⟨x, hx⟩ : ∃ x, nodes[i] = x := ⟨_, rfl⟩
      rw [hx] at hI hsn hcm hcn
      have hws := wrap_succ h (by omega)
      have hfd := place_spec l x.name hl
      obtain ⟨pl, hpl⟩ : ∃ p, place l x.name = p := ⟨_, rfl⟩
      rw [hpl] at hfd hI
      cases pl with
      | none =>
        simp only [ne_eq, show ((11 : Int) = 0) = False from by simp, not_false_eq_true, ↓reduceIte] at hI
        subst hI
        have hneg : ((-1 : Int) < 0) = True := eq_true (by decide)
        simp (maxSteps := 200000) (disch := first | omega | (simp only [go_sem] <;> omega) | fail) only [go_sem, nat_int, h, hx, hsn, hws, callA_pure mode_92, hfd, posI, hneg]
      | some p =>
      have hpl2 := place_lt hpl
      simp only [List.getElem?_eq_getElem hpl2] at hI
      have hsd := eDef_s l[p]
      have hzd := szD_s (szDs_mem hz (List.getElem_mem hpl2))
      obtain ⟨d, hd⟩ : ∃ d, l[p] = d := ⟨_, rfl⟩
      rw [hd] at hI hsd hzd
      have hneg : ((p : Int) < 0) = False := eq_false (by omega)
      by_cases q1 : d.kind = 3
      · have q1' := eq_true q1
        rw [if_pos q1] at hI
        simp only [ne_eq, not_true, ↓reduceIte] at hI
        simp (maxSteps := 200000) (disch := first | omega | (simp only [go_sem] <;> omega) | fail) only [go_sem, nat_int, h, hx, hsn, hws, callA_pure mode_92, hfd, posI, hneg, hpl2, hd, hsd, q1', ne_eq, not_true, not_false_eq_true]
        exact hI
      have q1' := eq_false q1
      rw [if_neg q1] at hI
      have hrec := ih d.kids x.kids (by omega) (by omega) hzd.2.2.2.1 hzd.2.2.2.2
      obtain ⟨e, he⟩ : ∃ e, checkM d.kids x.kids = e := ⟨_, rfl⟩
      rw [he] at hrec hI
      by_cases q2 : e = 0
      · have q2' := eq_true q2
        rw [if_neg (by simp [q2])] at hI
        simp (maxSteps := 200000) (disch := first | omega | (simp only [go_sem] <;> omega) | fail) only [go_sem, nat_int, h, hx, hsn, hws, callA_pure mode_92, hfd, posI, hneg, hpl2, hd, hsd, q1', callA_pure mode_54, hrec, q2', ne_eq, not_true, not_false_eq_true]
        exact hI
      · have q2' := eq_false q2
        rw [if_pos q2] at hI
        subst hI
        simp (maxSteps := 200000) (disch := first | omega | (simp only [go_sem] <;> omega) | fail) only [go_sem, nat_int, h, hx, hsn, hws, callA_pure mode_92, hfd, posI, hneg, hpl2, hd, hsd, q1', callA_pure mode_54, hrec, q2', ne_eq, not_true, not_false_eq_true]
    · intro hI
      rw [List.drop_of_length_le (Nat.le_refl _), chkN] at hI
      subst hI
      simp (maxSteps := 200000) (disch := first | omega | (simp only [go_sem] <;> omega) | fail) only [go_sem, nat_int, Nat.lt_irrefl]
end Go.Abs.SA
end
section
namespace Go.Abs.SA
open Go.Proofs
mutual
def defs1 : Def → Int → Int
  | .mk _ _ _ v _ ks kd, n => let m := n - (1 + (ks.length : Int) + (v.length : Int)); if m < 0 then m else defsM kd m
def defsM : List Def → Int → Int
  | [], n => n
  | d :: r, n => if n - (1 + (d.keys.length : Int) + (d.values.length : Int)) < 0 then n - (1 + (d.keys.length : Int) + (d.values.length : Int)) else defsM r (defs1 d n)
end
theorem defs1_s (d : Def) (n : Int) : defs1 d n = (if n - (1 + (d.keys.length : Int) + (d.values.length : Int)) < 0 then n - (1 + (d.keys.length : Int) + (d.values.length : Int)) else defsM d.kids (n - (1 + (d.keys.length : Int) + (d.values.length : Int)))) := by
  cases d; rw [defs1]; rfl
theorem defsM_le : ∀ (k : Nat) (l : List Def) (n : Int), n < k → defsM l n ≤ n := by
  intro k
  induction k with
  | zero =>
    intro l n hn
    cases l with
    | nil => rw [defsM]; omega
    | cons d r => rw [defsM, if_pos (by omega)]; omega
  | succ k ih =>
    intro l
    induction l with
    | nil => intro n _; rw [defsM]; omega
    | cons d r ih2 =>
      intro n hn
      rw [defsM]
      split
      · omega
      · rename_i h
        have h1 : defs1 d n ≤ n - 1 := by
          rw [defs1_s, if_neg h]
          have := ih d.kids (n - (1 + (d.keys.length : Int) + (d.values.length : Int))) (by omega)
          omega
        have := ih2 (defs1 d n) (by omega)
        omega
theorem defs_spec : ∀ (k : Nat) (l : List Def) (n : Int), n < k → 0 ≤ n → n ≤ 1000 → k ≤ 1002 → l.length ≤ 140737488355328 → szDs l → pureW XX 48 [lD l, vI n] = some (vI (defsM l n)) ∧ -(281474976710660 * (k : Int)) ≤ defsM l n := by
  intro k
  induction k with
  | zero => intro l n h1 h2; omega
  | succ k ih =>
  intro l n hn h0 h1000 hk1 hl hz
  have lo : ∀ (d : Def), d ∈ l → ∀ c : Int, c ≤ n → 0 ≤ c - (1 + (d.keys.length : Int) + (d.values.length : Int)) → pureW XX 48 [lD d.kids, vI (c - (1 + (d.keys.length : Int) + (d.values.length : Int)))] = some (vI (defs1 d c)) ∧ -(281474976710660 * (k : Int)) ≤ defs1 d c ∧ defs1 d c ≤ c - 1 := by
    intro d hd c hc h
    have hzd := szD_s (szDs_mem hz hd)
    have h1 := ih d.kids (c - (1 + (d.keys.length : Int) + (d.values.length : Int))) (by omega) h (by omega) (by omega) hzd.2.2.2.1 hzd.2.2.2.2
    have h2 := defsM_le 1002 d.kids (c - (1 + (d.keys.length : Int) + (d.values.length : Int))) (by omega)
    rw [defs1_s, if_neg (by omega)]
    exact ⟨h1.1, h1.2, by omega⟩
  have lo2 : ∀ (r : List Def), (∀ d ∈ r, d ∈ l) → ∀ c : Int, c ≤ n → -(281474976710660 * (k : Int)) ≤ c → -(281474976710660 * ((k + 1 : Nat) : Int)) ≤ defsM r c := by
    intro r
    induction r with
    | nil => intro _ c _ hc; rw [defsM]; omega
    | cons d r ih2 =>
      intro hm c hc1 hc2
      rw [defsM]
      have hzd := szD_s (szDs_mem hz (hm d (by simp)))
      have hv := hzd.2.1.1
      have hks := hzd.2.2.1.1
      split
      · omega
      · have := lo d (hm d (by simp)) c hc1 (by omega)
        exact ih2 (fun x hx => hm x (by simp [hx])) _ (by omega) this.2.1
  refine ⟨?_, lo2 l (fun _ h => h) n (Int.le_refl _) (by omega)⟩
  refine pureW_in 32 Tryz.func48 Tryz.ntmps48 (by simp) (rfl : Tryz.f48.body = some _) fns_48 ?_
  simp (maxSteps := 200000) (disch := first | omega | (simp only [go_sem] <;> omega) | fail) only [go_sem]
  refine WP_range 2 0 l.length (fun i => S_48_2 (vI ((l.take i).foldl (fun m d => defs1 d m) n)) (lD l) (vI l.length) (vI i) []) (fun i => defsM l n = defsM (l.drop i) ((l.take i).foldl (fun m d => defs1 d m) n) ∧ (l.take i).foldl (fun m d => defs1 d m) n ≤ n ∧ -(281474976710660 * (k : Int)) ≤ (l.take i).foldl (fun m d => defs1 d m) n) rfl rfl ?_ ?_ ?_ ?_
  · simp (maxSteps := 200000) (disch := first | omega | (simp only [go_sem] <;> omega) | fail) only [go_sem]; rfl
  · simp; omega
  · rintro i h ⟨hI, hu, hd⟩
    have hm := List.getElem_mem h
    have hzd := szD_s (szDs_mem hz hm)
    have hv := hzd.2.1.1
    have hks := hzd.2.2.1.1
    have ht : (l.take (i + 1)).foldl (fun m d => defs1 d m) n = defs1 l[i] ((l.take i).foldl (fun m d => defs1 d m) n) := by
      rw [List.take_succ_eq_append_getElem h, List.foldl_append]; rfl
    generalize (l.take i).foldl (fun m d => defs1 d m) n = m at *
    rw [List.drop_eq_getElem_cons h, defsM] at hI
    have hsd := eDef_s l[i]
    have hlo := lo l[i] hm m hu
    obtain ⟨d, hdd⟩ : ∃ d, l[i] = d := ⟨_, rfl⟩
    rw [hdd] at hI hsd hlo hv hks ht
    have e1 : IntKind.i64.wrap (1 + (d.keys.length : Int)) = 1 + (d.keys.length : Int) := IntWalk.i64_in _ (by omega)
    have e2 : IntKind.i64.wrap (1 + (d.keys.length : Int) + (d.values.length : Int)) = 1 + (d.keys.length : Int) + (d.values.length : Int) := IntWalk.i64_in _ (by omega)
    have e3 : IntKind.i64.wrap (m - (1 + (d.keys.length : Int) + (d.values.length : Int))) = m - (1 + (d.keys.length : Int) + (d.values.length : Int)) := IntWalk.i64_in _ (by omega)
    by_cases h3 : m - (1 + (d.keys.length : Int) + (d.values.length : Int)) < 0
    · rw [if_pos h3] at hI
      have h3' := eq_true h3
      simp (maxSteps := 200000) (disch := first | omega | (simp only [go_sem] <;> omega) | fail) only [go_sem, nat_int, h, hdd, hsd, e1, e2, e3, h3', hI]
    · rw [if_neg h3] at hI
      have h3' := eq_false h3
      obtain ⟨g1, g2, g3⟩ := hlo (by omega)
      simp (maxSteps := 200000) (disch := first | omega | (simp only [go_sem] <;> omega) | fail) only [go_sem, nat_int, h, hdd, hsd, e1, e2, e3, h3', callA_pure mode_48, g1, wrap_succ h hl, ht]
      rw [gcK_mkT (by simp only [go_sem]) (by simp only [go_sem])]
      exact ⟨rfl, hI, by omega, g2⟩
  · rintro ⟨hI, _⟩
    rw [List.drop_length, List.take_length] at hI
    simp (maxSteps := 200000) (disch := first | omega | (simp only [go_sem] <;> omega) | fail) only [go_sem, nat_int, Nat.lt_irrefl, List.take_length]
    rw [hI]; simp only [defsM]
end Go.Abs.SA
end
