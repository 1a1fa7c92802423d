/- YtmjhgjgfinhiaaaGreatDoorM2: a part of the interpreter by which the claim is shown, and of the walks: no conditions of its own: every theorem states its own. -/
import Derived.Test.YtmjhgjgfinhiaaaGreatDoorP3
import Derived.Test.YtmjhgjgfinhiaaaGreatDoorM1
set_option linter.unusedVariables false
set_option linter.unusedSimpArgs false
set_option linter.unusedSectionVars false
set_option maxHeartbeats 8000000
set_option maxRecDepth 100000
section
namespace Go.Abs.SA
open Go.Proofs
def mpM (l : List Def) (p : Int × Elem) : Except Int (List Node) :=
  if p.1 ≠ 0 then .error p.1 else if p.2.name ≠ ⟨#[99, 111, 110, 102, 105, 103]⟩ ∨ p.2.text ≠ ⟨#[]⟩ then .error 3 else rdL l [] [] p.2.kids
theorem modelParse_spec (l : List Def) (s : Str) (hs : s.size ≤ 1000000) (hc : cntEs (parseM s).2.kids < 99999) (hok : okEs (parseM s).2.kids) (hw : wkDs l) (hl : l.length ≤ 1099511627776) (hod : okDs l) :
    pureW XX 59 [lD l, vS s] = some (aRead (mpM l (parseM s))) := by
  have hp := parse_spec s hs
  obtain ⟨P, hP⟩ : ∃ P, parseM s = P := ⟨_, rfl⟩
  rw [hP] at hp hc hok ⊢
  obtain ⟨e, x⟩ := P
  simp only at hp hc hok
  have hrd := modelRead_spec (cntEs x.kids + 1) l x.kids (Nat.lt_succ_self _) (by omega) hok hw hl hod
  have hsx := eElem_s x
  obtain ⟨out, hout⟩ : ∃ o, mpM l (e, x) = o := ⟨_, rfl⟩
  rw [hout]
  unfold mpM at hout
  simp only at hout
  refine pureW_in 30 Tryz.func59 Tryz.ntmps59 (by simp) (rfl : Tryz.f59.body = some _) fns_59 ?_
  by_cases he : e = 0
  case neg =>
    have he' := eq_false he
    rw [if_pos he] at hout
    subst hout
    simp (maxSteps := 200000) (disch := first | omega | (simp only [go_sem] <;> omega) | fail) only [go_sem, callA_data mode_27, hp, hsx, he', ne_eq, not_true, not_false_eq_true]
    try rfl
  have he' := eq_true he
  rw [if_neg (by simp [he])] at hout
  by_cases hn : x.name = ⟨#[99, 111, 110, 102, 105, 103]⟩
  case neg =>
    have hn' := eq_false hn
    rw [if_pos (.inl hn)] at hout
    subst hout
    simp (maxSteps := 200000) (disch := first | omega | (simp only [go_sem] <;> omega) | fail) only [go_sem, callA_data mode_27, hp, hsx, he', hn', ne_eq, not_true, not_false_eq_true]
    try rfl
  have hn' := eq_true hn
  by_cases ht : x.text = ⟨#[]⟩
  case neg =>
    have ht' := eq_false ht
    rw [if_pos (.inr ht)] at hout
    subst hout
    simp (maxSteps := 200000) (disch := first | omega | (simp only [go_sem] <;> omega) | fail) only [go_sem, callA_data mode_27, hp, hsx, he', hn', ht', ne_eq, not_true, not_false_eq_true]
    try rfl
  have ht' := eq_true ht
  rw [if_neg (by simp [hn, ht])] at hout
  rw [hout] at hrd
  cases out with
  | error z =>
    rw [aRead, show lN [] = AV.fs [] false from rfl] at hrd
    simp (maxSteps := 200000) (disch := first | omega | (simp only [go_sem] <;> omega) | fail) only [go_sem, callA_data mode_27, hp, hsx, he', hn', ht', ne_eq, not_true, not_false_eq_true, callA_data mode_51, hrd]
    try rfl
  | ok ns =>
    rw [aRead] at hrd
    simp (maxSteps := 200000) (disch := first | omega | (simp only [go_sem] <;> omega) | fail) only [go_sem, callA_data mode_27, hp, hsx, he', hn', ht', ne_eq, not_true, not_false_eq_true, callA_data mode_51, hrd]
    try rfl
def t14 : Str := ⟨(List.append [60, 99, 111, 110, 102, 105, 103, 62, 60, 112, 97, 105, 114, 62, 60, 120, 62, 50, 60, 47, 120, 62, 60, 121, 62, 97, 60, 47, 121, 62, 60, 47, 112, 97, 105, 114, 62, 60, 112, 97, 105, 114, 62, 60] [121, 62, 98, 60, 47, 121, 62, 60, 120, 62, 49, 60, 47, 120, 62, 60, 47, 112, 97, 105, 114, 62, 60, 104, 111, 115, 116, 62, 104, 60, 47, 104, 111, 115, 116, 62, 60, 47, 99, 111, 110, 102, 105, 103, 62]).toArray⟩
def n14 : List Node := [.mk ⟨#[104, 111, 115, 116]⟩ ⟨#[104]⟩ [], .mk ⟨#[112, 97, 105, 114]⟩ ⟨#[]⟩ [.mk ⟨#[121]⟩ ⟨#[98]⟩ [], .mk ⟨#[120]⟩ ⟨#[49]⟩ []], .mk ⟨#[112, 97, 105, 114]⟩ ⟨#[]⟩ [.mk ⟨#[121]⟩ ⟨#[97]⟩ [], .mk ⟨#[120]⟩ ⟨#[50]⟩ []]]
theorem parse14 : mpM schema (parseM t14) = .ok n14 := by kernel_rfl
def e14 : Elem := .mk ⟨#[]⟩ ⟨#[99, 111, 110, 102, 105, 103]⟩ [] ⟨#[]⟩ [.mk ⟨#[]⟩ ⟨#[112, 97, 105, 114]⟩ [] ⟨#[]⟩ [.mk ⟨#[]⟩ ⟨#[120]⟩ [] ⟨#[50]⟩ [], .mk ⟨#[]⟩ ⟨#[121]⟩ [] ⟨#[97]⟩ []], .mk ⟨#[]⟩ ⟨#[112, 97, 105, 114]⟩ [] ⟨#[]⟩ [.mk ⟨#[]⟩ ⟨#[121]⟩ [] ⟨#[98]⟩ [], .mk ⟨#[]⟩ ⟨#[120]⟩ [] ⟨#[49]⟩ []], .mk ⟨#[]⟩ ⟨#[104, 111, 115, 116]⟩ [] ⟨#[104]⟩ []]
theorem parse14_tree : parseM t14 = (0, e14) := by kernel_rfl
theorem right14 : rightR schema 1 = true := by kernel_rfl
theorem check14 : checkM schema n14 = 0 := by kernel_rfl
theorem parse14_cnt : cntEs (parseM t14).2.kids = 7 := by kernel_rfl
end Go.Abs.SA
end
section
namespace Go.Abs.SA
open Go.Proofs
theorem small4_spec : ∀ (k : Nat) (l : List Elem) (n : Int), cntEs l < k → okEs l → l.length ≤ 140737488355328 → 0 ≤ n → n ≤ 400 → pureW XX 20 [lE l, vI n] = some (vI (smallL n l)) := by
  intro k
  induction k with
  | zero => intro l n h; omega
  | succ k ih =>
    intro l n hc hok hl h0 h400
    refine pureW_in 41 Tryz.func20 Tryz.ntmps20 (by simp) (rfl : Tryz.f20.body = some _) fns_20 ?_
    simp (maxSteps := 200000) (disch := first | omega | (simp only [go_sem] <;> omega) | fail) only [go_sem]
    refine WP_range 2 0 l.length (fun i => S_20_2 (vI ((l.take i).foldl smallN n)) (lE l) (vI l.length) (vI i) []) (fun i => smallL n l = smallL ((l.take i).foldl smallN n) (l.drop i) ∧ (l.take i).foldl smallN n ≤ 400 ∧ -(401 * 562949953421312) ≤ (l.take i).foldl smallN n) rfl rfl ?_ ?_ ?_ ?_
    · simp (maxSteps := 200000) (disch := first | omega | (simp only [go_sem] <;> omega) | fail) only [go_sem]; rfl
    · simp; omega
    · rintro i h ⟨hI, hu, hd⟩
      have hke := okEs_mem hok (List.getElem_mem h)
      obtain ⟨k1, k2, k3, k4, k5, k6⟩ := okE_s hke
      have hw := wE_bd hke
      have ht : (l.take (i + 1)).foldl smallN n = smallN ((l.take i).foldl smallN n) l[i] := by
        rw [List.take_succ_eq_append_getElem h, List.foldl_append]; rfl
      generalize (l.take i).foldl smallN n = m at *
      rw [List.drop_eq_getElem_cons h, smallL_cons] at hI
      have e1 : IntKind.i64.wrap ((l[i].text.size : Int) + (l[i].space.size : Int)) = ((l[i].text.size + l[i].space.size : Nat) : Int) := by rw [IntWalk.i64_in _ (by omega)]; omega
      have e2 : IntKind.i64.wrap (((l[i].text.size + l[i].space.size : Nat) : Int) + (l[i].name.size : Int)) = ((l[i].text.size + l[i].space.size + l[i].name.size : Nat) : Int) := by rw [IntWalk.i64_in _ (by omega)]; omega
      have e3 : IntKind.i64.wrap (((l[i].text.size + l[i].space.size + l[i].name.size : Nat) : Int).tdiv 50) = (((l[i].text.size + l[i].space.size + l[i].name.size) / 50 : Nat) : Int) := by
        rw [Int.tdiv_eq_ediv_of_nonneg (by omega), IntWalk.i64_in _ (by omega)]; omega
      have e4 : IntKind.i64.wrap (1 + (((l[i].text.size + l[i].space.size + l[i].name.size) / 50 : Nat) : Int)) = ((1 + (l[i].text.size + l[i].space.size + l[i].name.size) / 50 : Nat) : Int) := by rw [IntWalk.i64_in _ (by omega)]; omega
      have e5 : IntKind.i64.wrap (((1 + (l[i].text.size + l[i].space.size + l[i].name.size) / 50 : Nat) : Int) + (l[i].attrs.length : Int)) = (wE l[i] : Int) := by rw [IntWalk.i64_in _ (by omega)]; unfold wE; omega
      have e6 : IntKind.i64.wrap (m - (wE l[i] : Int)) = m - (wE l[i] : Int) := IntWalk.i64_in _ (by omega)
      by_cases h3 : m - (wE l[i] : Int) < 0
      · rw [if_pos h3] at hI
        simp (maxSteps := 200000) (disch := first | omega | (simp only [go_sem] <;> omega) | fail) only [go_sem, nat_int, h, eElem_s, e1, e2, e3, e4, e5, e6, h3, hI]
      · rw [if_neg h3] at hI
        have hs : smallL (m - wE l[i]) l[i].kids = smallN m l[i] := by rw [smallN_s, if_neg h3]
        have hk := ih l[i].kids (m - wE l[i]) (by have := cntE_kids h; omega) k6 k5 (by omega) (by omega)
        rw [hs] at hk
        have hb := smallN_bd l[i] m (by omega) hke
        simp (maxSteps := 200000) (disch := first | omega | (simp only [go_sem] <;> omega) | fail) only [go_sem, nat_int, h, eElem_s, e1, e2, e3, e4, e5, e6, h3, callA_pure mode_20, hk, wrap_succ h hl, ht]
        rw [gcK_mkT (by simp only [go_sem]) (by simp only [go_sem])]
        exact ⟨rfl, hI, by omega, by omega⟩
    · rintro ⟨hI, _⟩
      rw [List.drop_length, List.take_length] at hI
      simp (maxSteps := 200000) (disch := first | omega | (simp only [go_sem] <;> omega) | fail) only [go_sem, nat_int, List.take_length]
      rw [hI]; simp only [smallL]
mutual
theorem kindR_wk : ∀ (d : Def) (dep : Int), kindR d dep = true → wkD d
  | .mk n k t v m ks kd, dep, h => by
    rw [kindR] at h
    rw [wkD]
    split at h
    · simp only [Bool.and_eq_true] at h
      exact ⟨fun _ => by simpa using h.1.1, chkR_wk [] kd _ h.2.2⟩
    · split at h
      · rename_i k2
        simp only [Bool.and_eq_true] at h
        exact ⟨fun hk => absurd k2 hk, chkR_wk [] kd _ h.1.2.2⟩
      · split at h
        · simp only [Bool.and_eq_true] at h
          have hkd : kd = [] := by simpa using h.1.1.1.1.1.2
          subst hkd
          exact ⟨fun _ => by simpa using h.1.1.1.1.1.1, by simp [wkDs]⟩
        · cases h
theorem chkR_wk : ∀ (pre : List Str) (l : List Def) (dep : Int), chkR pre l dep = true → wkDs l
  | _, [], _, _ => by rw [wkDs]; trivial
  | pre, d :: r, dep, h => by
    rw [chkR] at h
    simp only [Bool.and_eq_true] at h
    rw [wkDs]
    exact ⟨kindR_wk d dep h.1.2, chkR_wk _ r dep h.2⟩
end
theorem right_wk {l : List Def} {dep : Int} (h : rightR l dep = true) : wkDs l := by
  unfold rightR at h
  simp only [Bool.and_eq_true] at h
  exact chkR_wk [] l dep h.2
theorem defs_ok : ∀ (k : Nat) (l : List Def) (n : Int), n < k → n ≤ 1000 → 0 ≤ defsM l n → okDs l ∧ (l.length : Int) ≤ n := by
  intro k
  induction k with
  | zero =>
    intro l n hn _ h
    have := defsM_le 0 l n hn
    omega
  | succ k ih =>
    intro l
    induction l with
    | nil =>
      intro n _ _ h
      rw [defsM] at h
      exact ⟨by simp [okDs], by simpa using h⟩
    | cons d r ih2 =>
      intro n hn hn2 h
      rw [defsM] at h
      split at h
      · omega
      · rename_i h3
        have hle := defsM_le 1002 r (defs1 d n) (by
          rw [defs1_s, if_neg h3]
          have := defsM_le 1002 d.kids (n - (1 + (d.keys.length : Int) + (d.values.length : Int))) (by omega)
          omega)
        have h0 : 0 ≤ defs1 d n := by omega
        have h1 : defs1 d n ≤ n - 1 := by
          rw [defs1_s, if_neg h3]
          have := defsM_le 1002 d.kids (n - (1 + (d.keys.length : Int) + (d.values.length : Int))) (by omega)
          omega
        obtain ⟨g1, g2⟩ := ih2 (defs1 d n) (by omega) (by omega) h
        rw [defs1_s, if_neg h3] at h0
        obtain ⟨g3, g4⟩ := ih d.kids _ (by omega) (by omega) h0
        refine ⟨?_, by rw [List.length_cons]; omega⟩
        rw [okDs]
        refine ⟨?_, g1⟩
        obtain ⟨n1, k1, t1, v1, m1, ks1, kd1⟩ := d
        simp only [Def.keys, Def.values, Def.kids] at h3 g3 g4
        rw [okD]
        exact ⟨by omega, by omega, by omega, g3⟩
theorem sz_schema : szDs schema := by
  have h : ∀ s : Str, s.size ≤ 100 → s.size ≤ 140737488355328 := fun s h => by omega
  simp [szDs, szD, schema, leafD, portD, sName, okSz]
  decide
theorem idxM0 {h : List Blk} {a : Node} {r : List Node} {fl : Bool} {k : IntKind} {d : TD} {c : Nat} {z : Option Value} : idxK2 h (.fs ((a :: r).map eNode) fl) (.v (.int k 0)) (some ⟨d, 3, c, z⟩) = some (.fp (eNode a)) := nr (by simp [idxK2, eNode_len])
theorem idxM1 {h : List Blk} {a b : Node} {r : List Node} {fl : Bool} {k : IntKind} {d : TD} {c : Nat} {z : Option Value} : idxK2 h (.fs ((a :: b :: r).map eNode) fl) (.v (.int k 1)) (some ⟨d, 3, c, z⟩) = some (.fp (eNode b)) := nr (by simp [idxK2, eNode_len])
theorem idxC1 {h : List Blk} {a : List AV} {x y w : AV} {r : List (List AV)} {fl : Bool} {k : IntKind} {d : TD} {c : Nat} {z : Option Value} : idxK2 h (.fs (a :: [x, y, w] :: r) fl) (.v (.int k 1)) (some ⟨d, 3, c, z⟩) = some (.fp [x, y, w]) := nr (by simp [idxK2])
theorem fit14_spec : pureW XX 47 [] = some (vB true) := by
  have hp := modelParse_spec schema t14 (by decide) (by rw [parse14_cnt]; decide) (by
    rw [parse14_tree]
    show okEs e14.kids
    unfold e14
    simp only [Elem.kids, okEs, okE, and_true]
    decide) wk_schema (by decide) okDs_schema
  rw [parse14] at hp
  simp only [t14, n14, aRead] at hp
  have hr := modelRight_spec 11 schema 1 (by decide) (by decide) (by decide) (by decide) sz_schema
  rw [right14] at hr
  have hr2 : pureW XX 49 [lD schema] = some (vB true) := by
    refine pureW_in 5 Tryz.func49 Tryz.ntmps49 (by simp) (rfl : Tryz.f49.body = some _) fns_49 ?_
    simp (maxSteps := 200000) (disch := first | omega | (simp only [go_sem] <;> omega) | fail) only [go_sem, callA_pure mode_101, hr]
  have hc := modelCheck_spec 100 schema n14 (by decide) (by decide) (by decide) sz_schema
  rw [check14] at hc
  simp only [n14, lN, List.map_cons, List.map_nil, eNode_s, Node.name, Node.value, Node.kids] at hc
  have ze : ((0 : Int) = 0) = True := eq_true rfl
  refine pureW_in 42 Tryz.func47 Tryz.ntmps47 (by simp) (rfl : Tryz.f47.body = some _) fns_47 ?_
  have h33 : (((3 : Nat) : Int) = 3) = True := eq_true rfl
  simp (maxSteps := 200000) (disch := first | omega | (simp only [go_sem] <;> omega) | fail) only [go_sem, nat_int, h33, idxM0, idxM1, idxC1, eNode_s, Node.name, Node.value, Node.kids, decide_true, callA_data mode_30, schema_spec, callA_data mode_59, hp, ze, callA_pure mode_49, hr2, callA_pure mode_53, hc]
end Go.Abs.SA
end
section
namespace Go.Abs.SA
open Go.Proofs
theorem modelRightT (l : List Def) (hl : l.length ≤ 140737488355328) (hz : szDs l) : pureW XX 49 [lD l] = some (vB (rightR l 1)) := by
  have hr := modelRight_spec 10 l 1 (by decide) (by decide) (by decide) hl hz
  refine pureW_in 5 Tryz.func49 Tryz.ntmps49 (by simp) (rfl : Tryz.f49.body = some _) fns_49 ?_
  simp (maxSteps := 200000) (disch := first | omega | (simp only [go_sem] <;> omega) | fail) only [go_sem, callA_pure mode_101, hr]
theorem refRightT (l : List Def) (hl : l.length ≤ 140737488355328) (hz : szDs l) : pureW XX 50 [lD l] = some (vB (rightR l 1)) := by
  have hr := refRight_spec 10 l 1 (by decide) (by decide) (by decide) hl hz
  refine pureW_in 5 Tryz.func50 Tryz.ntmps50 (by simp) (rfl : Tryz.f50.body = some _) fns_50 ?_
  simp (maxSteps := 200000) (disch := first | omega | (simp only [go_sem] <;> omega) | fail) only [go_sem, callA_pure mode_102, hr]
theorem rights_law (l : List Def) (hl : l.length ≤ 140737488355328) (hz : szDs l) : pureW XX 10 [lD l] = some (vB true) := by
  have hd := (defs_spec 301 l 300 (by decide) (by decide) (by decide) (by decide) hl hz).1
  have h1 := modelRightT l hl hz
  have h2 := refRightT l hl hz
  obtain ⟨b, hb⟩ : ∃ b, rightR l 1 = b := ⟨_, rfl⟩
  rw [hb] at h1 h2
  refine pureW_in 15 Tryz.func10 Tryz.ntmps10 (by simp) (rfl : Tryz.f10.body = some _) fns_10 ?_
  by_cases h3 : defsM l 300 < 0
  · have h3' := eq_true h3
    simp (maxSteps := 200000) (disch := first | omega | (simp only [go_sem] <;> omega) | fail) only [go_sem, callA_pure mode_47, fit14_spec, callA_pure mode_48, hd, callA_pure mode_49, h1, callA_pure mode_50, h2, h3']
  · have h3' := eq_false h3
    cases b
    · simp (maxSteps := 200000) (disch := first | omega | (simp only [go_sem] <;> omega) | fail) only [go_sem, callA_pure mode_47, fit14_spec, callA_pure mode_48, hd, callA_pure mode_49, h1, callA_pure mode_50, h2, h3', decide_true, decide_false, BEq.rfl]
      try simp
    · simp (maxSteps := 200000) (disch := first | omega | (simp only [go_sem] <;> omega) | fail) only [go_sem, callA_pure mode_47, fit14_spec, callA_pure mode_48, hd, callA_pure mode_49, h1, callA_pure mode_50, h2, h3', decide_true, decide_false, BEq.rfl]
      try simp
theorem reads_law (l : List Def) (elems : List Elem) (hl : l.length ≤ 140737488355328) (hz : szDs l) (hok : okEs elems) (hle : elems.length ≤ 140737488355328) : pureW XX 11 [lD l, lE elems] = some (vB true) := by
  have hd := (defs_spec 301 l 300 (by decide) (by decide) (by decide) (by decide) hl hz).1
  have h2 := refRightT l hl hz
  have hsm := small4_spec (cntEs elems + 1) elems 400 (Nat.lt_succ_self _) hok hle (by decide) (by decide)
  refine pureW_in 44 Tryz.func11 Tryz.ntmps11 (by simp) (rfl : Tryz.f11.body = some _) fns_11 ?_
  by_cases h3 : defsM l 300 < 0
  · have h3' := eq_true h3
    simp (maxSteps := 200000) (disch := first | omega | (simp only [go_sem] <;> omega) | fail) only [go_sem, callA_pure mode_47, fit14_spec, callA_pure mode_48, hd, callA_pure mode_50, h2, callA_pure mode_20, hsm, h3']
  have h3' := eq_false h3
  obtain ⟨b, hb⟩ : ∃ b, rightR l 1 = b := ⟨_, rfl⟩
  rw [hb] at h2
  cases b with
  | false =>
    simp (maxSteps := 200000) (disch := first | omega | (simp only [go_sem] <;> omega) | fail) only [go_sem, callA_pure mode_47, fit14_spec, callA_pure mode_48, hd, callA_pure mode_50, h2, callA_pure mode_20, hsm, h3']
  | true =>
  by_cases h4 : smallL 400 elems < 0
  · have h4' := eq_true h4
    simp (maxSteps := 200000) (disch := first | omega | (simp only [go_sem] <;> omega) | fail) only [go_sem, callA_pure mode_47, fit14_spec, callA_pure mode_48, hd, callA_pure mode_50, h2, callA_pure mode_20, hsm, h3', h4']
  have h4' := eq_false h4
  obtain ⟨hod, hln⟩ := defs_ok 301 l 300 (by decide) (by decide) (by omega)
  have hcn := smallL_cnt elems 400 (by omega)
  have hr1 := modelRead_spec (cntEs elems + 1) l elems (Nat.lt_succ_self _) (by omega) hok (right_wk hb) (by omega) hod
  have hr2 := read_spec (cntEs elems + 1) l elems (Nat.lt_succ_self _) (by omega) hok (by omega) hod
  obtain ⟨R, hR⟩ : ∃ R, rdL l [] [] elems = R := ⟨_, rfl⟩
  rw [hR] at hr1 hr2
  cases R with
  | error x =>
    simp only [aRead] at hr1 hr2
    have hq := refEqual_spec 1 [] [] (by decide) (by decide)
    simp only [decide_true] at hq
    simp only [lN, List.map_nil] at hq hr1 hr2
    simp (maxSteps := 200000) (disch := first | omega | (simp only [go_sem] <;> omega) | fail) only [go_sem, callA_pure mode_47, fit14_spec, callA_pure mode_48, hd, callA_pure mode_50, h2, callA_pure mode_20, hsm, h3', h4', callA_data mode_51, hr1, callA_data mode_52, hr2, callA_pure mode_40, hq, decide_true]
    try simp
  | ok n =>
    simp only [aRead] at hr1 hr2
    have hcl := rdL_cnt _ _ _ _ _ hR
    have hq := refEqual_spec (cntL n + 1) n n (Nat.lt_succ_self _) (by simp only [cntL] at hcl; omega)
    simp only [decide_true] at hq
    simp (maxSteps := 200000) (disch := first | omega | (simp only [go_sem] <;> omega) | fail) only [go_sem, callA_pure mode_47, fit14_spec, callA_pure mode_48, hd, callA_pure mode_50, h2, callA_pure mode_20, hsm, h3', h4', callA_data mode_51, hr1, callA_data mode_52, hr2, callA_pure mode_40, hq, decide_true]
    try simp
theorem checks_law (elems : List Elem) (hok : okEs elems) (hle : elems.length ≤ 140737488355328) : pureW XX 12 [lE elems] = some (vB true) := by
  have hsm := small_spec (cntEs elems + 1) elems 300 (Nat.lt_succ_self _) hok hle (by decide) (by decide)
  refine pureW_in 29 Tryz.func12 Tryz.ntmps12 (by simp) (rfl : Tryz.f12.body = some _) fns_12 ?_
  by_cases h4 : smallL 300 elems < 0
  · have h4' := eq_true h4
    simp (maxSteps := 200000) (disch := first | omega | (simp only [go_sem] <;> omega) | fail) only [go_sem, callA_pure mode_47, fit14_spec, callA_pure mode_20, hsm, callA_data mode_30, schema_spec, h4']
  have h4' := eq_false h4
  have hcn := smallL_cnt elems 300 (by omega)
  have hr1 := modelRead_spec (cntEs elems + 1) schema elems (Nat.lt_succ_self _) (by omega) hok wk_schema (by decide) okDs_schema
  obtain ⟨R, hR⟩ : ∃ R, rdL schema [] [] elems = R := ⟨_, rfl⟩
  rw [hR] at hr1
  cases R with
  | error x =>
    simp only [aRead] at hr1
    have hx := eq_false (rdL_err _ _ _ _ _ hR)
    simp (maxSteps := 200000) (disch := first | omega | (simp only [go_sem] <;> omega) | fail) only [go_sem, callA_pure mode_47, fit14_spec, callA_pure mode_20, hsm, callA_data mode_30, schema_spec, h4', callA_data mode_51, hr1, hx, ne_eq, not_false_eq_true]
  | ok n =>
    simp only [aRead] at hr1
    have hcl := rdL_cnt _ _ _ _ _ hR
    simp only [cntL] at hcl
    have hc1 := modelCheck_spec (cntL n + 1) schema n (Nat.lt_succ_self _) (by omega) (by decide) sz_schema
    have hc2 := refCheck_spec (cntL n + 1) schema n (Nat.lt_succ_self _) (by omega) (by decide) sz_schema
    have ze : ((0 : Int) = 0) = True := eq_true rfl
    simp (maxSteps := 200000) (disch := first | omega | (simp only [go_sem] <;> omega) | fail) only [go_sem, callA_pure mode_47, fit14_spec, callA_pure mode_20, hsm, callA_data mode_30, schema_spec, h4', callA_data mode_51, hr1, ze, ne_eq, not_true, not_false_eq_true, callA_pure mode_53, hc1, callA_pure mode_54, hc2, decide_true]
    try simp
end Go.Abs.SA
end
section
namespace Go.Abs.SA
open Go.Proofs
theorem place_ofM {l : List Def} (hw : wfDs l) {d : Def} (hd : d ∈ l) : ∃ i, place l d.name = some i ∧ l[i]? = some d := by
  cases h : place l d.name with
  | none =>
    unfold place at h
    rw [List.findIdx?_eq_none_iff] at h
    have := h d hd
    simp at this
  | some i =>
    obtain ⟨hi, hn⟩ := place_some h
    refine ⟨i, rfl, ?_⟩
    rw [List.getElem?_eq_getElem hi, wfDs_inj hw (List.getElem_mem hi) hd hn]
theorem nodup_injM {α : Type} {l : List α} (h : l.Nodup) {i j : Nat} (hi : i < l.length) (hj : j < l.length) (he : l[i] = l[j]) : i = j := by
  have hp := List.pairwise_iff_getElem.1 h
  rcases Nat.lt_trichotomy i j with h1 | h1 | h1
  · exact absurd he (hp i j hi hj h1)
  · exact h1
  · exact absurd he.symm (hp j i hj hi h1)
theorem same_facts {elems : List Elem} {n : List Node} (h : rdL schema [] [] elems = .ok n) (i : Nat) (hi : i < n.length) : ∃ q, ∃ hq : q < schema.length, place schema n[i].name = some q ∧ sameAt schema[q] n n[i] = some i ∧ sameAt schema[q] (n.take i ++ n.drop (i + 1)) n[i] = none := by
  have hg : goodL schema n n := rdL_good _ wf_schema _ _ _ _ (by simp) (by simp) (by simp) h
  have hnd : n.Nodup := (rdL_nd _ _ _ _ _ (by simp) (by simp) (by simp [ndL]) h).1
  obtain ⟨d, hd, hn⟩ := rdL_place _ _ _ _ _ (by simp) h n[i] (List.getElem_mem hi)
  obtain ⟨q, hp, hq'⟩ := place_ofM wf_schema hd
  obtain ⟨hq, rfl⟩ := List.getElem?_eq_some_iff.1 hq'
  obtain ⟨hu, -⟩ := good_cond wf_schema hg _ hd n[i] (List.getElem_mem hi) hn
  refine ⟨q, hq, hn ▸ hp, ?_, ?_⟩
  · obtain ⟨j, hj, hs, he⟩ := sameAt_self (List.getElem_mem hi) hu
    rw [hs, nodup_injM hnd hj hi he]
  · unfold sameAt
    rw [List.findIdx?_eq_none_iff]
    intro y hy
    rcases hb : sameN schema[q] n[i] y with _ | _
    · rfl
    · exfalso
      rcases List.mem_append.1 hy with hy | hy
      · have := hu y (List.mem_of_mem_take hy) hb
        subst this
        obtain ⟨j, hj, he⟩ := List.getElem_of_mem hy
        rw [List.getElem_take] at he
        have hj' : j < i := by rw [List.length_take] at hj; omega
        have := nodup_injM hnd (by omega) hi he
        omega
      · have := hu y (List.mem_of_mem_drop hy) hb
        subst this
        obtain ⟨j, hj, he⟩ := List.getElem_of_mem hy
        rw [List.getElem_drop] at he
        have := nodup_injM hnd (by rw [List.length_drop] at hj; omega) hi he
        omega
theorem kidsM {n : List Node} (h : cntL n ≤ 100000) : ∀ x ∈ n, x.kids.length ≤ 140737488355328 := by
  intro x hx
  have h1 := cnt_mem hx
  cases x with
  | mk a b c =>
    rw [cntN] at h1
    have := len_cnt c
    simp only [Node.kids]
    omega
theorem keys_schema : ∀ d ∈ schema, d.keys.length ≤ 1099511627776 := by
  intro d hd
  simp [schema, leafD, portD] at hd
  rcases hd with rfl | rfl | rfl | rfl <;> simp [Def.keys]
theorem find_zz : pureW XX 55 [lD schema, vS ⟨#[122, 122]⟩] = some (vI (-1)) := by
  rw [find_spec _ _ (by decide)]
  rfl
theorem same_law (elems : List Elem) (at_ : Int) (hok : okEs elems) (hle : elems.length ≤ 140737488355328) : pureW XX 13 [lE elems, vI at_] = some (vB true) := by
  have hsm := small_spec (cntEs elems + 1) elems 300 (Nat.lt_succ_self _) hok hle (by decide) (by decide)
  refine pureW_in 138 Tryz.func13 Tryz.ntmps13 (by simp) (rfl : Tryz.f13.body = some _) fns_13 ?_
  by_cases h4 : smallL 300 elems < 0
  · have h4' := eq_true h4
    simp (maxSteps := 200000) (disch := first | omega | (simp only [go_sem] <;> omega) | fail) only [go_sem, callA_pure mode_47, fit14_spec, callA_pure mode_20, hsm, callA_data mode_30, schema_spec, h4']
  have h4' := eq_false h4
  have hcn := smallL_cnt elems 300 (by omega)
  have hr1 := modelRead_spec (cntEs elems + 1) schema elems (Nat.lt_succ_self _) (by omega) hok wk_schema (by decide) okDs_schema
  obtain ⟨R, hR⟩ : ∃ R, rdL schema [] [] elems = R := ⟨_, rfl⟩
  rw [hR] at hr1
  cases R with
  | error x =>
    simp only [aRead] at hr1
    have hx := eq_false (rdL_err _ _ _ _ _ hR)
    simp (maxSteps := 200000) (disch := first | omega | (simp only [go_sem] <;> omega) | fail) only [go_sem, callA_pure mode_47, fit14_spec, callA_pure mode_20, hsm, callA_data mode_30, schema_spec, h4', callA_data mode_51, hr1, hx, ne_eq, not_false_eq_true]
  | ok n =>
    simp only [aRead] at hr1
    have hcl := rdL_cnt _ _ _ _ _ hR
    simp only [cntL] at hcl
    have hcl2 : cntL n ≤ 100000 := by omega
    have hkn := kidsM hcl2
    have hlen := len_cnt n
    have ze : ((0 : Int) = 0) = True := eq_true rfl
    by_cases h0 : n.length = 0
    · have h0' : ((n.length : Int) = 0) = True := eq_true (by omega)
      simp (maxSteps := 200000) (disch := first | omega | (simp only [go_sem] <;> omega) | fail) only [go_sem, callA_pure mode_47, fit14_spec, callA_pure mode_20, hsm, callA_data mode_30, schema_spec, h4', callA_data mode_51, hr1, ze, ne_eq, not_true, not_false_eq_true, h0']
    · have h0' : ((n.length : Int) = 0) = False := eq_false (by omega)
      simp (maxSteps := 200000) (disch := first | omega | (simp only [go_sem] <;> omega) | fail) only [go_sem, callA_pure mode_47, fit14_spec, callA_pure mode_20, hsm, callA_data mode_30, schema_spec, h4', callA_data mode_51, hr1, ze, ne_eq, not_true, not_false_eq_true, h0']
      refine WP_range 10 0 n.length (fun i => S_13_10 (vI at_) (lD schema) (lN n) (lN n) (vI n.length) (vI i) []) (fun i => True) rfl rfl ?_ ?_ ?_ ?_
      · simp (maxSteps := 200000) (disch := first | omega | (simp only [go_sem] <;> omega) | fail) only [go_sem, callA_pure mode_47, fit14_spec, callA_pure mode_20, hsm, callA_data mode_30, schema_spec]; rfl
      · trivial
      · intro i hi _
        obtain ⟨q, hq, hpl, hs1, hs2⟩ := same_facts hR i hi
        have hfd := find_spec schema n[i].name (by decide)
        rw [hpl] at hfd
        have hkd := keys_schema _ (List.getElem_mem hq)
        have hkk := hkn _ (List.getElem_mem hi)
        have hk1 := modelKey_spec schema[q] n[i] hkd hkk
        have hk2 := key_spec schema[q] n[i] hkd hkk
        have hss := modelSame_spec schema[q] n n[i] hkd hkk (by omega) hkn
        rw [hs1] at hss
        obtain ⟨K, hK⟩ : ∃ K, (keyOf schema[q] n[i]) = K := ⟨_, rfl⟩
        have hKl : (K.getD []).length ≤ 1099511627776 := by
          have := keyD_len schema[q] n[i]
          unfold keyD at this
          rw [hK] at this
          omega
        rw [hK] at hk1 hk2
        simp (maxSteps := 200000) (disch := first | omega | (simp only [go_sem] <;> omega) | fail) only [go_sem, callA_pure mode_47, fit14_spec, callA_pure mode_20, hsm, callA_data mode_30, schema_spec, nat_int, hi, eNode_s, eDef_s, callA_pure mode_55, hfd, posI, hq, callA_data mode_56, hk1, callA_data mode_57, hk2, callA_pure mode_58, hss, ne_eq, not_true, decide_true, decide_false, Bool.false_eq_true]
        obtain ⟨u, hu⟩ : ∃ u, K.getD [] = u := ⟨_, rfl⟩
        simp only [hu] at hKl ⊢
        refine WP_range 18 2 u.length (fun j => S_13_18 (vI at_) (lD schema) (lN n) (lS u) (lS u) (lN n) (vI n.length) (vI i) (vI u.length) (vI j) [.var [vS n[i].name, vS n[i].value, lN n[i].kids], .var [vS schema[q].name, vI schema[q].kind, vI schema[q].type, lS schema[q].values, vB schema[q].must, lS schema[q].keys, lD schema[q].kids]]) (fun j => True) rfl rfl ?_ ?_ ?_ ?_
        · simp (maxSteps := 200000) (disch := first | omega | (simp only [go_sem] <;> omega) | fail) only [go_sem, callA_pure mode_47, fit14_spec, callA_pure mode_20, hsm, callA_data mode_30, schema_spec]; rfl
        · trivial
        · intro j hj _
          simp (maxSteps := 200000) (disch := first | omega | (simp only [go_sem] <;> omega) | fail) only [go_sem, callA_pure mode_47, fit14_spec, callA_pure mode_20, hsm, callA_data mode_30, schema_spec, nat_int, hj, eS_s, ne_eq, not_true, not_false_eq_true, wrap_succ hj (by omega : u.length ≤ 140737488355328)]
          try trivial
        · intro _
          simp (maxSteps := 200000) (disch := first | omega | (simp only [go_sem] <;> omega) | fail) only [go_sem, callA_pure mode_47, fit14_spec, callA_pure mode_20, hsm, callA_data mode_30, schema_spec, nat_int, wrap_succ hi (by omega : n.length ≤ 140737488355328)]
          rfl
      · intro _
        have hr1 : at_.tmod n.length < n.length ∧ -(n.length : Int) < at_.tmod n.length := by
          constructor
          · exact Int.tmod_lt_of_pos _ (by omega)
          · exact Int.lt_tmod_of_pos _ (by omega)
        obtain ⟨r, hr⟩ : ∃ r, at_.tmod n.length = r := ⟨_, rfl⟩
        rw [hr] at hr1
        have hw : IntKind.i64.wrap (r + (n.length : Int)) = r + (n.length : Int) := IntWalk.i64_in _ (by omega)
        obtain ⟨i, hi', hi⟩ : ∃ i : Nat, (r + (n.length : Int)).tmod n.length = (i : Int) ∧ i < n.length := by
          have h1 := Int.tmod_lt_of_pos (r + (n.length : Int)) (show 0 < (n.length : Int) by omega)
          have h2 := Int.tmod_nonneg (n.length : Int) (show 0 ≤ r + (n.length : Int) by omega)
          exact ⟨((r + (n.length : Int)).tmod n.length).toNat, by omega, by omega⟩
        have hnz : (n.length : Int) ≠ 0 := by omega
        obtain ⟨q, hq, hpl, hs1, hs2⟩ := same_facts hR i hi
        have hfd := find_spec schema n[i].name (by decide)
        rw [hpl] at hfd
        have hkd := keys_schema _ (List.getElem_mem hq)
        have hkk := hkn _ (List.getElem_mem hi)
        have hss := modelSame_spec schema[q] (n.take i ++ n.drop (i + 1)) n[i] hkd hkk (by simp only [List.length_append, List.length_take, List.length_drop]; omega) (fun x hx => by
          rcases List.mem_append.1 hx with hx | hx
          · exact hkn _ (List.mem_of_mem_take hx)
          · exact hkn _ (List.mem_of_mem_drop hx))
        rw [hs2] at hss
        have hile : i ≤ n.length := by omega
        have hi1 : i + 1 ≤ n.length := by omega
        have htl : (List.map eNode (List.take i n)).length = i := by simp only [List.length_map, List.length_take]; omega
        have hdl : (List.map eNode (List.drop (i + 1) n)).length = n.length - (i + 1) := by simp only [List.length_map, List.length_drop]
        have hap : List.map eNode (List.take i n) ++ List.map eNode (List.drop (i + 1) n) = List.map eNode (List.take i n ++ List.drop (i + 1) n) := by simp
        have hal : (List.map eNode (List.take i n ++ List.drop (i + 1) n)).length = i + (n.length - (i + 1)) := by simp only [List.length_map, List.length_append, List.length_take, List.length_drop]; omega
        simp (maxSteps := 200000) (disch := first | omega | (simp only [go_sem] <;> omega) | fail) only [go_sem, callA_pure mode_47, fit14_spec, callA_pure mode_20, hsm, callA_data mode_30, schema_spec, eDef_s, hal, nat_int, Nat.lt_irrefl, htl, hdl, hap, hr, hw, hi', hi, hnz, hile, hi1, wrap_succ hi (by omega : n.length ≤ 140737488355328), eNode_s, callA_pure mode_55, hfd, find_zz, posI, hq, callA_pure mode_58, hss, decide_true, ne_eq, not_false_eq_true]
end Go.Abs.SA
end
section
namespace Go.Abs.SA
open Go.Proofs
theorem by_77 : Tryz.prog.bytesOf 77 = 112 := by kernel_rfl
theorem ce_77 : Tryz.prog.cellsOf 77 = 7 := by kernel_rfl
theorem ce_45 : Tryz.prog.cellsOf 45 = 1 := by kernel_rfl
theorem szDs_all : ∀ {l : List Def}, (∀ e ∈ l, szD e) → szDs l
  | [], _ => by simp [szDs]
  | e :: r, h => by simp only [szDs]; exact ⟨h e (by simp), szDs_all fun x hx => h x (by simp [hx])⟩
theorem o_defs_of {k : Nat} (h : ∀ j, j + 1 ≤ k → Opens Tryz.prog j 77 eDef szD) : Opens Tryz.prog k 45 (fun l : List Def => [lD l]) (fun l => l.length ≤ 140737488355328 ∧ szDs l) :=
  (Opens.slice' h Tryz.underlying45 (fun x => by rw [ce_77]; exact eDef_len x)).map id (fun _ => rfl) (fun l h => ⟨by
    have := h.1; rw [by_77, reach_s] at this; simp only [id]; omega, szDs_all h.2⟩)
theorem o_def : ∀ k, Opens Tryz.prog k 77 eDef szD :=
  Opens.rec fun k ih =>
    (Opens.struct (OpensF.cons (m := 1) (o_str k) (OpensF.cons (m := 1) (o_int k) (OpensF.cons (m := 1) (o_int k) (OpensF.cons (m := 1) (o_strs k) (OpensF.cons (m := 1) (o_bool k) (OpensF.cons (m := 1) (o_strs k) (OpensF.cons (m := 1) (o_defs_of fun j hj => ih j (by omega)) (OpensF.nil k 7) rfl ce_45) rfl ce_33) rfl ce_4) rfl ce_33) rfl ce_3) rfl ce_3) rfl ce_9) Tryz.underlying77 ce_77).map
      (fun x => .mk x.1 x.2.1 x.2.2.1 x.2.2.2.1 x.2.2.2.2.1 x.2.2.2.2.2.1 x.2.2.2.2.2.2.1) (fun x => by simp [eDef, eDefs_map, eS]) (fun x h => by
        obtain ⟨h1, h2, h3, h4, h5, h6, ⟨h7, h8⟩, -⟩ := h
        exact ⟨h1, h4, h6, h7, h8⟩)
theorem o_defs (k : Nat) : Opens Tryz.prog k 45 (fun l : List Def => [lD l]) (fun l => l.length ≤ 140737488355328 ∧ szDs l) := o_defs_of fun j _ => o_def j
end Go.Abs.SA
end
