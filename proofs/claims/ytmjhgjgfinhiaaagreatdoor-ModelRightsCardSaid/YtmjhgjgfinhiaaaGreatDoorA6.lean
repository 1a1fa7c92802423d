/- YtmjhgjgfinhiaaaGreatDoorA6: a part of the interpreter by which the claim is shown, and of the walks: no conditions of its own: every theorem states its own. -/
import Derived.Test.YtmjhgjgfinhiaaaGreatDoorA5
set_option linter.unusedVariables false
set_option linter.unusedSimpArgs false
set_option linter.unusedSectionVars false
set_option maxHeartbeats 8000000
set_option maxRecDepth 100000
section
namespace Go.Abs.SA
open Go.Proofs
theorem wE_bd {e : Elem} (h : okE e) : 1 ≤ wE e ∧ wE e ≤ 562949953421312 := by
  obtain ⟨h1, h2, h3, h4, _⟩ := okE_s h
  unfold wE; omega
theorem smallL_cons (n : Int) (e : Elem) (r : List Elem) : smallL n (e :: r) = if n - wE e < 0 then n - wE e else smallL (smallN n e) r := by simp only [smallL]
mutual
theorem smallN_bd : ∀ (e : Elem) (m : Int), 0 ≤ m → okE e → -(m + 1) * 562949953421312 ≤ smallN m e ∧ smallN m e ≤ m ∧ (0 ≤ m - wE e → -m * 562949953421312 ≤ smallN m e ∧ smallN m e < m)
  | .mk s nm a t k, m, hm, h => by
    have hw := wE_bd h
    have hk : okEs k := by simp only [okE] at h; exact h.2.2.2.2.2
    simp only [smallN]
    split
    · refine ⟨by omega, by omega, fun h => by omega⟩
    · rename_i hn
      have := smallL_bd k (m - wE (.mk s nm a t k)) (by omega) hk
      refine ⟨by omega, by omega, fun h => by omega⟩
theorem smallL_bd : ∀ (l : List Elem) (m : Int), 0 ≤ m → okEs l → -(m + 1) * 562949953421312 ≤ smallL m l ∧ smallL m l ≤ m
  | [], m, hm, h => by simp only [smallL]; omega
  | e :: r, m, hm, h => by
    simp only [okEs] at h
    have hw := wE_bd h.1
    have h1 := smallN_bd e m hm h.1
    simp only [smallL]
    split
    · omega
    · rename_i hn
      have h2 := h1.2.2 (by omega)
      by_cases h3 : 0 ≤ smallN m e
      · have := smallL_bd r (smallN m e) h3 h.2
        omega
      · cases r with
        | nil => simp only [smallL]; omega
        | cons e' r' =>
          simp only [okEs] at h
          have hw' := wE_bd h.2.1
          rw [smallL_cons, if_pos (by omega)]
          omega
end
mutual
def cntE : Elem → Nat
  | .mk _ _ _ _ k => 1 + cntEs k
def cntEs : List Elem → Nat
  | [] => 0
  | e :: r => cntE e + cntEs r
end
theorem cntE_s (e : Elem) : cntE e = 1 + cntEs e.kids := by cases e; simp [cntE, Elem.kids]
theorem cntE_mem : ∀ {l : List Elem} {x : Elem}, x ∈ l → cntE x ≤ cntEs l
  | y :: r, x, h => by
    simp only [cntEs]
    rcases List.mem_cons.1 h with rfl | h
    · omega
    · have := cntE_mem h; omega
theorem cntE_kids {l : List Elem} {i : Nat} (h : i < l.length) : cntEs l[i].kids < cntEs l := by
  have := cntE_mem (List.getElem_mem h); rw [cntE_s] at this; omega
theorem small_spec : ∀ (k : Nat) (l : List Elem) (n : Int), cntEs l < k → okEs l → l.length ≤ 140737488355328 → 0 ≤ n → n ≤ 300 → pureW XX 20 [lE l, vI n] = some (vI (smallL n l)) := by
  intro k
  induction k with
  | zero => intro l n h; omega
  | succ k ih =>
    intro l n hc hok hl h0 h300
    refine pureW_in 41 Tryz.func20 Tryz.ntmps20 (by simp) (rfl : Tryz.f20.body = some _) fns_20 ?_
    simp (maxSteps := 200000) (disch := first | omega | (simp only [go_sem] <;> omega) | fail) only [go_sem]
    refine WP_range 2 0 l.length (fun i => S_20_2 (vI ((l.take i).foldl smallN n)) (lE l) (vI l.length) (vI i) []) (fun i => smallL n l = smallL ((l.take i).foldl smallN n) (l.drop i) ∧ (l.take i).foldl smallN n ≤ 300 ∧ -(301 * 562949953421312) ≤ (l.take i).foldl smallN n) rfl rfl ?_ ?_ ?_ ?_
    · simp (maxSteps := 200000) (disch := first | omega | (simp only [go_sem] <;> omega) | fail) only [go_sem]; rfl
    · simp; omega
    · rintro i h ⟨hI, hu, hd⟩
      have hke := okEs_mem hok (List.getElem_mem h)
      obtain ⟨k1, k2, k3, k4, k5, k6⟩ := okE_s hke
      have hw := wE_bd hke
      have ht : (l.take (i + 1)).foldl smallN n = smallN ((l.take i).foldl smallN n) l[i] := by
        rw [List.take_succ_eq_append_getElem h, List.foldl_append]; rfl
      generalize (l.take i).foldl smallN n = m at *
      rw [List.drop_eq_getElem_cons h, smallL_cons] at hI
      have e1 : IntKind.i64.wrap ((l[i].text.size : Int) + (l[i].space.size : Int)) = ((l[i].text.size + l[i].space.size : Nat) : Int) := by rw [IntWalk.i64_in _ (by omega)]; omega
      have e2 : IntKind.i64.wrap (((l[i].text.size + l[i].space.size : Nat) : Int) + (l[i].name.size : Int)) = ((l[i].text.size + l[i].space.size + l[i].name.size : Nat) : Int) := by rw [IntWalk.i64_in _ (by omega)]; omega
      have e3 : IntKind.i64.wrap (((l[i].text.size + l[i].space.size + l[i].name.size : Nat) : Int).tdiv 50) = (((l[i].text.size + l[i].space.size + l[i].name.size) / 50 : Nat) : Int) := by
        rw [Int.tdiv_eq_ediv_of_nonneg (by omega), IntWalk.i64_in _ (by omega)]; omega
      have e4 : IntKind.i64.wrap (1 + (((l[i].text.size + l[i].space.size + l[i].name.size) / 50 : Nat) : Int)) = ((1 + (l[i].text.size + l[i].space.size + l[i].name.size) / 50 : Nat) : Int) := by rw [IntWalk.i64_in _ (by omega)]; omega
      have e5 : IntKind.i64.wrap (((1 + (l[i].text.size + l[i].space.size + l[i].name.size) / 50 : Nat) : Int) + (l[i].attrs.length : Int)) = (wE l[i] : Int) := by rw [IntWalk.i64_in _ (by omega)]; unfold wE; omega
      have e6 : IntKind.i64.wrap (m - (wE l[i] : Int)) = m - (wE l[i] : Int) := IntWalk.i64_in _ (by omega)
      by_cases h3 : m - (wE l[i] : Int) < 0
      · rw [if_pos h3] at hI
        simp (maxSteps := 200000) (disch := first | omega | (simp only [go_sem] <;> omega) | fail) only [go_sem, nat_int, h, eElem_s, e1, e2, e3, e4, e5, e6, h3, hI]
      · rw [if_neg h3] at hI
        have hs : smallL (m - wE l[i]) l[i].kids = smallN m l[i] := by rw [smallN_s, if_neg h3]
        have hk := ih l[i].kids (m - wE l[i]) (by have := cntE_kids h; omega) k6 k5 (by omega) (by omega)
        rw [hs] at hk
        have hb := smallN_bd l[i] m (by omega) hke
        simp (maxSteps := 200000) (disch := first | omega | (simp only [go_sem] <;> omega) | fail) only [go_sem, nat_int, h, eElem_s, e1, e2, e3, e4, e5, e6, h3, callA_pure mode_20, hk, wrap_succ h hl, ht]
        rw [gcK_mkT (by simp only [go_sem]) (by simp only [go_sem])]
        exact ⟨rfl, hI, by omega, by omega⟩
    · rintro ⟨hI, _⟩
      rw [List.drop_length, List.take_length] at hI
      simp (maxSteps := 200000) (disch := first | omega | (simp only [go_sem] <;> omega) | fail) only [go_sem, nat_int, List.take_length]
      rw [hI]; simp only [smallL]
end Go.Abs.SA
end
section
namespace Go.Abs.SA
open Go.Proofs
inductive Def where
  | mk (name : Str) (kind type : Int) (values : List Str) (must : Bool) (keys : List Str) (kids : List Def)
def Def.name : Def → Str | .mk n _ _ _ _ _ _ => n
def Def.kind : Def → Int | .mk _ k _ _ _ _ _ => k
def Def.type : Def → Int | .mk _ _ t _ _ _ _ => t
def Def.values : Def → List Str | .mk _ _ _ v _ _ _ => v
def Def.must : Def → Bool | .mk _ _ _ _ m _ _ => m
def Def.keys : Def → List Str | .mk _ _ _ _ _ k _ => k
def Def.kids : Def → List Def | .mk _ _ _ _ _ _ k => k
mutual
def eDef : Def → List AV
  | .mk n k t v m ks kd => [vS n, vI k, vI t, lS v, vB m, lS ks, .fs (eDefs kd) false]
def eDefs : List Def → List (List AV)
  | [] => []
  | e :: r => eDef e :: eDefs r
end
theorem eDefs_map : ∀ (l : List Def), eDefs l = l.map eDef
  | [] => rfl
  | n :: r => by simp [eDefs, eDefs_map r]
theorem eDef_s (e : Def) : eDef e = [vS e.name, vI e.kind, vI e.type, lS e.values, vB e.must, lS e.keys, .fs (e.kids.map eDef) false] := by
  cases e; simp [eDef, eDefs_map, Def.name, Def.kind, Def.type, Def.values, Def.must, Def.keys, Def.kids]
theorem eDef_len (e : Def) : (eDef e).length = 7 := by rw [eDef_s]; rfl
attribute [go_sem] eDef_len
instance : EL eDef 7 := ⟨eDef_len⟩
abbrev lD (l : List Def) : AV := .fs (l.map eDef) false
def leafD (n : Str) (t : Int) : Def := .mk n 3 t [] false [] []
def sName : Str := ⟨#[110, 97, 109, 101]⟩
def portD : Def := .mk ⟨#[112, 111, 114, 116]⟩ 2 0 [] false [sName] [leafD sName 0, leafD ⟨#[115, 112, 101, 101, 100]⟩ 1, leafD ⟨#[111, 110]⟩ 2]
def schema : List Def := [leafD ⟨#[104, 111, 115, 116]⟩ 0,
  .mk ⟨#[98, 111, 120]⟩ 1 0 [] false [] [leafD ⟨#[116, 105, 116, 108, 101]⟩ 0, .mk ⟨#[99, 111, 108, 111, 114]⟩ 3 3 [⟨#[114, 101, 100]⟩, ⟨#[103, 114, 101, 101, 110]⟩] false [] [], portD,
    .mk ⟨#[100, 101, 101, 112]⟩ 1 0 [] false [] [.mk ⟨#[105, 100]⟩ 3 1 [] true [] [], leafD ⟨#[110, 111, 116, 101]⟩ 0]],
  .mk ⟨#[112, 97, 105, 114]⟩ 2 0 [] false [⟨#[120]⟩, ⟨#[121]⟩] [leafD ⟨#[121]⟩ 0, leafD ⟨#[120]⟩ 1, leafD ⟨#[118]⟩ 0],
  .mk ⟨#[97, 114, 101, 97]⟩ 2 0 [] false [sName] [leafD sName 0, portD]]
theorem schema_spec : pureW XX 30 [] = some (lD schema) := by
  refine pureW_iff.2 ⟨60, ?_⟩
  rw [show lD schema = .fs (eDefs schema) false by rw [eDefs_map]]
  kernel_rfl
end Go.Abs.SA
end
section
namespace Go.Abs.SA
open Go.Proofs
def place (l : List Def) (name : Str) : Option Nat := l.findIdx? fun d => decide (d.name = name)
theorem place_spec (l : List Def) (name : Str) (hl : l.length ≤ 140737488355328) : pureW XX 92 [lD l, vS name] = some (vI (posI (place l name))) := by
  refine pureW_in 20 Tryz.func92 Tryz.ntmps92 (by simp) (rfl : Tryz.f92.body = some _) fns_92 ?_
  simp (maxSteps := 200000) (disch := first | omega | (simp only [go_sem] <;> omega) | fail) only [go_sem]
  refine WP_range 2 0 l.length (fun i => S_92_2 (lD l) (vS name) (vI i) []) (fun i => place l name = (place (l.drop i) name).map (· + i)) rfl rfl ?_ ?_ ?_ ?_
  · simp (maxSteps := 200000) (disch := first | omega | (simp only [go_sem] <;> omega) | fail) only [go_sem]; rfl
  · simp
  · intro i h hI
    rw [List.drop_eq_getElem_cons h] at hI
    simp only [place, List.findIdx?_cons] at hI
    by_cases hv : l[i].name = name
    · simp (maxSteps := 200000) (disch := first | omega | (simp only [go_sem] <;> omega) | fail) only [go_sem, nat_int, h, eDef_s, hv]
      simp only [place]
      rw [hI]
      simp [hv, posI]
    · simp (maxSteps := 200000) (disch := first | omega | (simp only [go_sem] <;> omega) | fail) only [go_sem, nat_int, h, eDef_s, hv, wrap_succ h hl]
      simp only [place]
      rw [hI]
      simp [hv]
      congr 1
      funext x
      simp
      omega
  · intro hI
    simp (maxSteps := 200000) (disch := first | omega | (simp only [go_sem] <;> omega) | fail) only [go_sem, nat_int]
    rw [hI]
    simp [place, posI]
end Go.Abs.SA
end
section
namespace Go.Abs.SA
open Go.Proofs
def cmpS : List Str → List Str → Int
  | [], b => -(b.length : Int)
  | a :: r, [] => (r.length : Int) + 1
  | a :: r, b :: q => if sless a b then -1 else if !(sless a b || decide (a = b)) then 1 else cmpS r q
theorem cmpS_end (a b : List Str) (h : a = [] ∨ b = []) : cmpS a b = (a.length : Int) - b.length := by
  cases a with
  | nil => simp [cmpS]
  | cons x r => cases b with
    | nil => simp [cmpS]
    | cons y q => simp at h
theorem compare_spec (a b : List Str) (ha : a.length ≤ 140737488355328) (hb : b.length ≤ 140737488355328) : pureW XX 150 [lS a, lS b] = some (vI (cmpS a b)) := by
  refine pureW_in 41 Tryz.func150 Tryz.ntmps150 (by simp) (rfl : Tryz.f150.body = some _) fns_150 ?_
  simp (maxSteps := 200000) (disch := first | omega | (simp only [go_sem] <;> omega) | fail) only [go_sem]
  refine WP_range 2 0 (min a.length b.length) (fun i => S_150_2 (lS a) (lS b) (vI i) []) (fun i => cmpS a b = cmpS (a.drop i) (b.drop i)) rfl rfl ?_ ?_ ?_ ?_
  · simp (maxSteps := 200000) (disch := first | omega | (simp only [go_sem] <;> omega) | fail) only [go_sem]; rfl
  · simp
  · intro i h hI
    have h1 : i < a.length := by omega
    have h2 : i < b.length := by omega
    rw [List.drop_eq_getElem_cons h1, List.drop_eq_getElem_cons h2, cmpS] at hI
    by_cases h3 : sless a[i] b[i] = true
    · rw [if_pos h3] at hI
      simp (maxSteps := 200000) (disch := first | omega | (simp only [go_sem] <;> omega) | fail) only [go_sem, nat_int, h1, h2, h3, hI]
    · simp only [Bool.not_eq_true] at h3
      rw [if_neg (by simp [h3])] at hI
      by_cases h4 : (sless a[i] b[i] || decide (a[i] = b[i])) = true
      · rw [if_neg (by simp [h4])] at hI
        rw [h3, Bool.false_or] at h4
        simp (maxSteps := 200000) (disch := first | omega | (simp only [go_sem] <;> omega) | fail) only [go_sem, nat_int, h1, h2, h3, h4, wrap_succ h1 ha]
        exact hI
      · simp only [Bool.not_eq_true] at h4
        rw [if_pos (by simp [h4])] at hI
        rw [h3, Bool.false_or] at h4
        simp (maxSteps := 200000) (disch := first | omega | (simp only [go_sem] <;> omega) | fail) only [go_sem, nat_int, h1, h2, h3, h4, hI]
  · intro hI
    have he : cmpS a b = (a.length : Int) - b.length := by
      rw [hI, cmpS_end _ _ (by simp only [List.drop_eq_nil_iff]; omega)]
      simp only [List.length_drop]; omega
    have e1 : IntKind.i64.wrap ((a.length : Int) - (b.length : Int)) = (a.length : Int) - b.length := IntWalk.i64_in _ (by omega)
    rw [he]
    by_cases h1 : min a.length b.length < a.length
    · have h2 : ¬ min a.length b.length < b.length := by omega
      simp (maxSteps := 200000) (disch := first | omega | (simp only [go_sem] <;> omega) | fail) only [go_sem, nat_int, h1, h2, e1]
    · simp (maxSteps := 200000) (disch := first | omega | (simp only [go_sem] <;> omega) | fail) only [go_sem, nat_int, h1, e1]
end Go.Abs.SA
end
section
namespace Go.Abs.SA
open Go.Proofs
def leafV (l : List Node) (k : Str) : Option Str := (l.find? fun x => decide (x.name = k)).map Node.value
theorem leafV_cons (x : Node) (r : List Node) (k : Str) : leafV (x :: r) k = if x.name = k then some x.value else leafV r k := by
  simp only [leafV, List.find?_cons]
  by_cases h : x.name = k <;> simp [h]
theorem leafV_nil (k : Str) : leafV [] k = none := rfl
def keyOf (d : Def) (n : Node) : Option (List Str) := if (d.keys.all fun k => (leafV n.kids k).isSome) = true then some (d.keys.filterMap (leafV n.kids)) else none
abbrev aDef (d : Def) : AV := .agg [vS d.name, vI d.kind, vI d.type, lS d.values, vB d.must, lS d.keys, lD d.kids]
abbrev aNode (n : Node) : AV := .agg [vS n.name, vS n.value, lN n.kids]
abbrev kO (o : Option (List Str)) : AV := .tup [lS (o.getD []), vB o.isSome]
theorem key_spec (d : Def) (n : Node) (hd : d.keys.length ≤ 1099511627776) (hn : n.kids.length ≤ 140737488355328) : pureW XX 57 [aDef d, aNode n] = some (kO (keyOf d n)) := by
  refine pureW_in 52 Tryz.func57 Tryz.ntmps57 (by simp) (rfl : Tryz.f57.body = some _) fns_57 ?_
  simp (maxSteps := 200000) (disch := first | omega | (simp only [go_sem] <;> omega) | fail) only [go_sem]
  refine WP_range 3 3 d.keys.length (fun i => S_57_3 (.ptr 0 0) (.ptr 1 0) (.sl 2 0 ((d.keys.take i).filterMap (leafV n.kids)).length false) (vI i) [.var [vS d.name, vI d.kind, vI d.type, lS d.values, vB d.must, lS d.keys, lD d.kids], .var [vS n.name, vS n.value, lN n.kids], .arr 9 1 (((d.keys.take i).filterMap (leafV n.kids)).map eS)]) (fun i => ∀ k ∈ d.keys.take i, (leafV n.kids k).isSome = true) rfl rfl ?_ ?_ ?_ ?_
  · simp (maxSteps := 200000) (disch := first | omega | (simp only [go_sem] <;> omega) | fail) only [go_sem]; rfl
  · simp
  · intro i h hI
    have hol : ((d.keys.take i).filterMap (leafV n.kids)).length ≤ i := by
      have := List.length_filterMap_le (leafV n.kids) (d.keys.take i)
      rw [List.length_take] at this; omega
    simp (maxSteps := 200000) (disch := first | omega | (simp only [go_sem] <;> omega) | fail) only [go_sem, nat_int, h]
    generalize hb : (d.keys.take i).filterMap (leafV n.kids) = base at *
    refine WP_loopR 7 3 (fun (a : Nat × Option Str) => S_57_7 (.ptr 0 0) (.ptr 1 0) (.sl 2 0 (base ++ a.2.toList).length false) (vI i) (vB a.2.isSome) (vI a.1) [.var [vS d.name, vI d.kind, vI d.type, lS d.values, vB d.must, lS d.keys, lD d.kids], .var [vS n.name, vS n.value, lN n.kids], .arr 9 1 ((base ++ a.2.toList).map eS)]) (fun a => n.kids.length - a.1) (fun a => a.1 ≤ n.kids.length ∧ match a.2 with
      | none => leafV n.kids d.keys[i] = leafV (n.kids.drop a.1) d.keys[i]
      | some v => leafV n.kids d.keys[i] = some v) (0, none) rfl rfl ?_ ?_ ?_
    · simp (maxSteps := 200000) (disch := first | omega | (simp only [go_sem] <;> omega) | fail) only [go_sem, Option.toList, Option.isSome]; rfl
    · simp
    · rintro ⟨j, o⟩ ⟨hj, ho⟩
      have hk1 := List.take_succ_eq_append_getElem h
      cases o with
      | none =>
        simp only at ho hj
        by_cases hjl : j < n.kids.length
        · rw [List.drop_eq_getElem_cons hjl, leafV_cons] at ho
          by_cases hv : n.kids[j].name = d.keys[i]
          · rw [if_pos hv] at ho
            simp (maxSteps := 200000) (disch := first | omega | (simp only [go_sem] <;> omega) | fail) only [go_sem, nat_int, h, hjl, eNode_s, hv, Option.toList, Option.isSome, wrap_succ hjl hn]
            exact ⟨(j + 1, some n.kids[j].value), by simp, ⟨by simp; omega, ho⟩, by simp; omega⟩
          · rw [if_neg hv] at ho
            simp (maxSteps := 200000) (disch := first | omega | (simp only [go_sem] <;> omega) | fail) only [go_sem, nat_int, h, hjl, eNode_s, hv, Option.toList, Option.isSome, wrap_succ hjl hn]
            exact ⟨(j + 1, none), by simp, ⟨by simp; omega, ho⟩, by simp; omega⟩
        · rw [List.drop_of_length_le (by omega), leafV_nil] at ho
          have hkn : keyOf d n = none := by
            unfold keyOf
            rw [if_neg]
            simp only [List.all_eq_true]
            intro hh
            have := hh _ (List.getElem_mem h)
            simp [ho] at this
          simp (maxSteps := 200000) (disch := first | omega | (simp only [go_sem] <;> omega) | fail) only [go_sem, nat_int, h, hjl, Option.toList, Option.isSome, hkn, Option.getD_none]
          rfl
      | some v =>
        simp only at ho hj
        have hall : ∀ k ∈ d.keys.take (i + 1), (leafV n.kids k).isSome = true := by
          rw [hk1]
          intro k hk
          rcases List.mem_append.1 hk with hk | hk
          · exact hI k hk
          · simp at hk; subst hk; simp [ho]
        have hbs : (d.keys.take (i + 1)).filterMap (leafV n.kids) = base ++ [v] := by
          rw [hk1, List.filterMap_append, hb]; simp [ho]
        by_cases hjl : j < n.kids.length
        · simp (maxSteps := 200000) (disch := first | omega | (simp only [go_sem] <;> omega) | fail) only [go_sem, nat_int, h, hjl, Option.toList, Option.isSome, wrap_succ h (show d.keys.length ≤ 140737488355328 by omega), hbs]
          exact hall
        · simp (maxSteps := 200000) (disch := first | omega | (simp only [go_sem] <;> omega) | fail) only [go_sem, nat_int, h, hjl, Option.toList, Option.isSome, wrap_succ h (show d.keys.length ≤ 140737488355328 by omega), hbs]
          exact hall
  · intro hI
    rw [List.take_length] at hI
    have hk : keyOf d n = some (d.keys.filterMap (leafV n.kids)) := by
      unfold keyOf; rw [if_pos (by simpa using hI)]
    simp (maxSteps := 200000) (disch := first | omega | (simp only [go_sem] <;> omega) | fail) only [go_sem, nat_int, List.take_length, hk, Option.isSome, Option.getD_some]
    rfl
end Go.Abs.SA
end
section
namespace Go.Abs.SA
open Go.Proofs
def keyD (d : Def) (n : Node) : List Str := (keyOf d n).getD []
def sameN (d : Def) (n x : Node) : Bool := decide (x.name = n.name) && decide (cmpS (keyD d x) (keyD d n) = 0)
def sameAt (d : Def) (l : List Node) (n : Node) : Option Nat := l.findIdx? (sameN d n)
theorem keyD_fold (d : Def) (n : Node) : (keyOf d n).getD [] = keyD d n := nr rfl
theorem keyD_len (d : Def) (n : Node) : (keyD d n).length ≤ d.keys.length := by
  unfold keyD keyOf
  split
  · exact List.length_filterMap_le _ _
  · simp
theorem same_spec (d : Def) (l : List Node) (n : Node) (hd : d.keys.length ≤ 1099511627776) (hn : n.kids.length ≤ 140737488355328) (hl : l.length ≤ 140737488355328) (hk : ∀ x ∈ l, x.kids.length ≤ 140737488355328) : pureW XX 94 [aDef d, lN l, aNode n] = some (vI (posI (sameAt d l n))) := by
  refine pureW_in 48 Tryz.func94 Tryz.ntmps94 (by simp) (rfl : Tryz.f94.body = some _) fns_94 ?_
  simp (maxSteps := 200000) (disch := first | omega | (simp only [go_sem] <;> omega) | fail) only [go_sem, callA_data mode_57, key_spec d n hd hn]
  refine WP_range 3 2 l.length (fun i => S_94_3 (lN l) (.ptr 0 0) (.ptr 1 0) (lS (keyD d n)) (vI i) [.var [vS d.name, vI d.kind, vI d.type, lS d.values, vB d.must, lS d.keys, lD d.kids], .var [vS n.name, vS n.value, lN n.kids]]) (fun i => sameAt d l n = (sameAt d (l.drop i) n).map (· + i)) rfl rfl ?_ ?_ ?_ ?_
  · simp (maxSteps := 200000) (disch := first | omega | (simp only [go_sem] <;> omega) | fail) only [go_sem]; rfl
  · simp
  · intro i h hI
    have hx := hk _ (List.getElem_mem h)
    rw [List.drop_eq_getElem_cons h] at hI
    simp only [sameAt, List.findIdx?_cons] at hI
    have hc : pureW XX 150 [lS (keyD d l[i]), lS (keyD d n)] = some (vI (cmpS (keyD d l[i]) (keyD d n))) := compare_spec _ _ (by have := keyD_len d l[i]; omega) (by have := keyD_len d n; omega)
    have hkx := key_spec d l[i] hd hx
    by_cases h1 : l[i].name = n.name
    · simp only [aNode, h1] at hkx
      by_cases h2 : cmpS (keyD d l[i]) (keyD d n) = 0
      · simp (maxSteps := 200000) (disch := first | omega | (simp only [go_sem] <;> omega) | fail) only [go_sem, callA_data mode_57, callA_pure mode_150, hkx, keyD_fold, hc, nat_int, h, eNode_s, h1, h2]
        simp only [sameAt]
        rw [hI]
        simp [sameN, h1, h2, posI]
      · simp (maxSteps := 200000) (disch := first | omega | (simp only [go_sem] <;> omega) | fail) only [go_sem, callA_data mode_57, callA_pure mode_150, hkx, keyD_fold, hc, nat_int, h, eNode_s, h1, h2, wrap_succ h hl]
        simp only [sameAt]
        rw [hI]
        simp [sameN, h1, h2]
        congr 1
        funext x
        simp
        omega
    · simp (maxSteps := 200000) (disch := first | omega | (simp only [go_sem] <;> omega) | fail) only [go_sem, callA_data mode_57, callA_pure mode_150, hkx, keyD_fold, hc, nat_int, h, eNode_s, h1, wrap_succ h hl]
      simp only [sameAt]
      rw [hI]
      simp [sameN, h1]
      congr 1
      funext x
      simp
      omega
  · intro hI
    simp (maxSteps := 200000) (disch := first | omega | (simp only [go_sem] <;> omega) | fail) only [go_sem, nat_int]
    rw [hI]
    simp [sameAt, posI]
end Go.Abs.SA
end
section
namespace Go.Abs.SA
open Go.Proofs
def allB (lo hi : Int) (s : Str) : Prop := ∀ i < s.size, lo ≤ byteAt s i ∧ byteAt s i ≤ hi
instance (lo hi : Int) (s : Str) : Decidable (allB lo hi s) := by unfold allB; infer_instance
def sign (s : Str) : Str := if 0 < s.size ∧ byteAt s 0 = 45 then s.extract 1 s.size else s
def numT (s : Str) : Bool := let t := sign s
  decide (1 ≤ t.size) && decide (t.size ≤ 18) && !(decide (byteAt t 0 = 48) && decide (s ≠ ⟨#[48]⟩)) && decide (allB 48 57 t)
def valueM (d : Def) (s : Str) : Bool :=
  decide (s.size ≤ 128) && decide (allB 32 126 s) &&
    (if d.type = 1 then numT s else if d.type = 2 then decide (s = ⟨#[116, 114, 117, 101]⟩) || decide (s = ⟨#[102, 97, 108, 115, 101]⟩) else if d.type = 3 then has d.values s else true)
theorem value_spec (d : Def) (s : Str) (hd : d.values.length ≤ 140737488355328) : pureW XX 103 [aDef d, vS s] = some (vB (valueM d s)) := by
  refine pureW_in 88 Tryz.func103 Tryz.ntmps103 (by simp) (rfl : Tryz.f103.body = some _) fns_103 ?_
  by_cases h1 : (128 : Int) < (s.size : Int)
  · simp (maxSteps := 200000) (disch := first | omega | (simp only [go_sem] <;> omega) | fail) only [go_sem, h1]
    have h2 : ¬ s.size ≤ 128 := by omega
    simp [valueM, h2]
  simp (maxSteps := 200000) (disch := first | omega | (simp only [go_sem] <;> omega) | fail) only [go_sem, h1]
  refine WP_range 4 1 s.size (fun i => S_103_4 (vS s) (.ptr 0 0) (vI i) [.var [vS d.name, vI d.kind, vI d.type, lS d.values, vB d.must, lS d.keys, lD d.kids]]) (fun i => ∀ j < i, 32 ≤ byteAt s j ∧ byteAt s j ≤ 126) rfl rfl ?_ ?_ ?_ ?_
  · simp (maxSteps := 200000) (disch := first | omega | (simp only [go_sem] <;> omega) | fail) only [go_sem]; rfl
  · simp
  · intro i h hI
    by_cases h2 : byteAt s i < 32
    · simp (maxSteps := 200000) (disch := first | omega | (simp only [go_sem] <;> omega) | fail) only [go_sem, nat_int, h, h2]
      have : ¬ allB 32 126 s := fun hh => by have := hh i h; omega
      simp [valueM, this]
    · by_cases h3 : 126 < byteAt s i
      · simp (maxSteps := 200000) (disch := first | omega | (simp only [go_sem] <;> omega) | fail) only [go_sem, nat_int, h, h2, h3]
        have : ¬ allB 32 126 s := fun hh => by have := hh i h; omega
        simp [valueM, this]
      · simp (maxSteps := 200000) (disch := first | omega | (simp only [go_sem] <;> omega) | fail) only [go_sem, nat_int, h, h2, h3, wrap_succ h (show s.size ≤ 140737488355328 by omega)]
        intro j hj
        rcases Nat.lt_succ_iff_lt_or_eq.1 hj with hj | rfl
        · exact hI j hj
        · omega
  · intro hI
    have ha : allB 32 126 s := hI
    have hs : s.size ≤ 128 := by omega
    have hv : valueM d s = (if d.type = 1 then numT s else if d.type = 2 then decide (s = ⟨#[116, 114, 117, 101]⟩) || decide (s = ⟨#[102, 97, 108, 115, 101]⟩) else if d.type = 3 then has d.values s else true) := by
      simp [valueM, ha, hs]
    rw [hv]
    by_cases t1 : d.type = 1
    · rw [if_pos t1]
      by_cases q0 : s = ⟨#[]⟩
      · subst q0
        have hz : ((((⟨#[]⟩ : ByteArray).size : Nat) : Int) < 1) = True := eq_true (by decide)
        have hz' : numT ⟨#[]⟩ = false := by decide
        simp (maxSteps := 200000) (disch := first | omega | (simp only [go_sem] <;> omega) | fail) only [go_sem, nat_int, t1, ne_eq, not_true, hz, hz']
      have hp : 0 < s.size := by
        apply Nat.pos_of_ne_zero
        intro hh
        exact q0 (ByteArray.ext (Array.size_eq_zero_iff.1 hh))
      have hp1 : 1 ≤ s.size := hp
      by_cases q1 : byteAt s 0 = 45
      · have hX0 : sign s = s.extract 1 s.size := by simp [sign, hp, q1]
        obtain ⟨t, hX⟩ : ∃ t, s.extract 1 s.size = t := ⟨_, rfl⟩
        have hT : sign s = t := hX0.trans hX
        have hsz : t.size ≤ 128 := by rw [← hX]; simp [ByteArray.size_extract]; omega
        have hnum : numT s = (decide (1 ≤ t.size) && decide (t.size ≤ 18) && !(decide (byteAt t 0 = 48) && decide (s ≠ ⟨#[48]⟩)) && decide (allB 48 57 t)) := by simp only [numT, hT]
        rw [hnum]
        by_cases u1 : (t.size : Int) < 1
        · have : ¬ 1 ≤ t.size := by omega
          simp (maxSteps := 200000) (disch := first | omega | (simp only [go_sem] <;> omega) | fail) only [go_sem, nat_int, t1, q0, q1, hX, hp1, u1, ne_eq, not_true, not_false_eq_true]
          simp [this]
        by_cases u2 : (18 : Int) < (t.size : Int)
        · have : ¬ t.size ≤ 18 := by omega
          simp (maxSteps := 200000) (disch := first | omega | (simp only [go_sem] <;> omega) | fail) only [go_sem, nat_int, t1, q0, q1, hX, hp1, u1, u2, ne_eq, not_true, not_false_eq_true]
          simp [this]
        have v1 : 1 ≤ t.size := by omega
        have v2 : t.size ≤ 18 := by omega
        by_cases u3 : byteAt t 0 = 48
        · have u3' := eq_true u3
          by_cases u4 : s = ⟨#[48]⟩
          · have u4' := eq_true u4
            simp (maxSteps := 200000) (disch := first | omega | (simp only [go_sem] <;> omega) | fail) only [go_sem, nat_int, t1, q0, q1, hX, hp1, u1, u2, ne_eq, not_true, not_false_eq_true, u3', u4']
            refine WP_range 16 1 t.size (fun i => S_103_16 (vS t) (vI i) [.var [vS d.name, vI d.kind, vI 1, lS d.values, vB d.must, lS d.keys, lD d.kids]]) (fun i => ∀ j < i, 48 ≤ byteAt t j ∧ byteAt t j ≤ 57) rfl rfl ?_ ?_ ?_ ?_
            · simp (maxSteps := 200000) (disch := first | omega | (simp only [go_sem] <;> omega) | fail) only [go_sem]; rfl
            · simp
            · intro i h hI
              by_cases h2 : byteAt t i < 48
              · simp (maxSteps := 200000) (disch := first | omega | (simp only [go_sem] <;> omega) | fail) only [go_sem, nat_int, h, h2]
                have : ¬ allB 48 57 t := fun hh => by have := hh i h; omega
                simp [this]
              · by_cases h3 : 57 < byteAt t i
                · simp (maxSteps := 200000) (disch := first | omega | (simp only [go_sem] <;> omega) | fail) only [go_sem, nat_int, h, h2, h3]
                  have : ¬ allB 48 57 t := fun hh => by have := hh i h; omega
                  simp [this]
                · simp (maxSteps := 200000) (disch := first | omega | (simp only [go_sem] <;> omega) | fail) only [go_sem, nat_int, h, h2, h3, wrap_succ h (show t.size ≤ 140737488355328 by omega)]
                  intro j hj
                  rcases Nat.lt_succ_iff_lt_or_eq.1 hj with hj | rfl
                  · exact hI j hj
                  · omega
            · intro hJ
              have hb : allB 48 57 t := hJ
              simp (maxSteps := 200000) (disch := first | omega | (simp only [go_sem] <;> omega) | fail) only [go_sem, nat_int]
              simp [v1, v2, hb]
              exact Or.inr u4
          · simp (maxSteps := 200000) (disch := first | omega | (simp only [go_sem] <;> omega) | fail) only [go_sem, nat_int, t1, q0, q1, hX, hp1, u1, u2, u3', u4, ne_eq, not_true, not_false_eq_true]
        · simp (maxSteps := 200000) (disch := first | omega | (simp only [go_sem] <;> omega) | fail) only [go_sem, nat_int, t1, q0, q1, hX, hp1, u1, u2, ne_eq, not_true, not_false_eq_true, u3]
          refine WP_range 16 1 t.size (fun i => S_103_16 (vS t) (vI i) [.var [vS d.name, vI d.kind, vI 1, lS d.values, vB d.must, lS d.keys, lD d.kids]]) (fun i => ∀ j < i, 48 ≤ byteAt t j ∧ byteAt t j ≤ 57) rfl rfl ?_ ?_ ?_ ?_
          · simp (maxSteps := 200000) (disch := first | omega | (simp only [go_sem] <;> omega) | fail) only [go_sem]; rfl
          · simp
          · intro i h hI
            by_cases h2 : byteAt t i < 48
            · simp (maxSteps := 200000) (disch := first | omega | (simp only [go_sem] <;> omega) | fail) only [go_sem, nat_int, h, h2]
              have : ¬ allB 48 57 t := fun hh => by have := hh i h; omega
              simp [this]
            · by_cases h3 : 57 < byteAt t i
              · simp (maxSteps := 200000) (disch := first | omega | (simp only [go_sem] <;> omega) | fail) only [go_sem, nat_int, h, h2, h3]
                have : ¬ allB 48 57 t := fun hh => by have := hh i h; omega
                simp [this]
              · simp (maxSteps := 200000) (disch := first | omega | (simp only [go_sem] <;> omega) | fail) only [go_sem, nat_int, h, h2, h3, wrap_succ h (show t.size ≤ 140737488355328 by omega)]
                intro j hj
                rcases Nat.lt_succ_iff_lt_or_eq.1 hj with hj | rfl
                · exact hI j hj
                · omega
          · intro hJ
            have hb : allB 48 57 t := hJ
            simp (maxSteps := 200000) (disch := first | omega | (simp only [go_sem] <;> omega) | fail) only [go_sem, nat_int]
            simp [v1, v2, hb, u3]
      · have hT : sign s = s := by simp [sign, q1]
        have hsz : s.size ≤ 128 := by omega
        have hnum : numT s = (decide (1 ≤ s.size) && decide (s.size ≤ 18) && !(decide (byteAt s 0 = 48) && decide (s ≠ ⟨#[48]⟩)) && decide (allB 48 57 s)) := by simp only [numT, hT]
        rw [hnum]
        by_cases u1 : (s.size : Int) < 1
        · have : ¬ 1 ≤ s.size := by omega
          simp (maxSteps := 200000) (disch := first | omega | (simp only [go_sem] <;> omega) | fail) only [go_sem, nat_int, t1, q0, q1, q0, u1, ne_eq, not_true, not_false_eq_true]
          simp [this]
        by_cases u2 : (18 : Int) < (s.size : Int)
        · have : ¬ s.size ≤ 18 := by omega
          simp (maxSteps := 200000) (disch := first | omega | (simp only [go_sem] <;> omega) | fail) only [go_sem, nat_int, t1, q0, q1, q0, u1, u2, ne_eq, not_true, not_false_eq_true]
          simp [this]
        have v1 : 1 ≤ s.size := by omega
        have v2 : s.size ≤ 18 := by omega
        by_cases u3 : byteAt s 0 = 48
        · have u3' := eq_true u3
          by_cases u4 : s = ⟨#[48]⟩
          · have u4' := eq_true u4
            simp (maxSteps := 200000) (disch := first | omega | (simp only [go_sem] <;> omega) | fail) only [go_sem, nat_int, t1, q0, q1, q0, u1, u2, ne_eq, not_true, not_false_eq_true, u3', u4']
            refine WP_range 16 1 s.size (fun i => S_103_16 (vS s) (vI i) [.var [vS d.name, vI d.kind, vI 1, lS d.values, vB d.must, lS d.keys, lD d.kids]]) (fun i => ∀ j < i, 48 ≤ byteAt s j ∧ byteAt s j ≤ 57) rfl rfl ?_ ?_ ?_ ?_
            · simp (maxSteps := 200000) (disch := first | omega | (simp only [go_sem] <;> omega) | fail) only [go_sem]; rfl
            · simp
            · intro i h hI
              by_cases h2 : byteAt s i < 48
              · simp (maxSteps := 200000) (disch := first | omega | (simp only [go_sem] <;> omega) | fail) only [go_sem, nat_int, h, h2]
                have : ¬ allB 48 57 s := fun hh => by have := hh i h; omega
                simp [this]
              · by_cases h3 : 57 < byteAt s i
                · simp (maxSteps := 200000) (disch := first | omega | (simp only [go_sem] <;> omega) | fail) only [go_sem, nat_int, h, h2, h3]
                  have : ¬ allB 48 57 s := fun hh => by have := hh i h; omega
                  simp [this]
                · simp (maxSteps := 200000) (disch := first | omega | (simp only [go_sem] <;> omega) | fail) only [go_sem, nat_int, h, h2, h3, wrap_succ h (show s.size ≤ 140737488355328 by omega)]
                  intro j hj
                  rcases Nat.lt_succ_iff_lt_or_eq.1 hj with hj | rfl
                  · exact hI j hj
                  · omega
            · intro hJ
              have hb : allB 48 57 s := hJ
              simp (maxSteps := 200000) (disch := first | omega | (simp only [go_sem] <;> omega) | fail) only [go_sem, nat_int]
              simp [v1, v2, hb]
              exact Or.inr u4
          · simp (maxSteps := 200000) (disch := first | omega | (simp only [go_sem] <;> omega) | fail) only [go_sem, nat_int, t1, q0, q1, q0, u1, u2, u3', u4, ne_eq, not_true, not_false_eq_true]
        · simp (maxSteps := 200000) (disch := first | omega | (simp only [go_sem] <;> omega) | fail) only [go_sem, nat_int, t1, q0, q1, q0, u1, u2, ne_eq, not_true, not_false_eq_true, u3]
          refine WP_range 16 1 s.size (fun i => S_103_16 (vS s) (vI i) [.var [vS d.name, vI d.kind, vI 1, lS d.values, vB d.must, lS d.keys, lD d.kids]]) (fun i => ∀ j < i, 48 ≤ byteAt s j ∧ byteAt s j ≤ 57) rfl rfl ?_ ?_ ?_ ?_
          · simp (maxSteps := 200000) (disch := first | omega | (simp only [go_sem] <;> omega) | fail) only [go_sem]; rfl
          · simp
          · intro i h hI
            by_cases h2 : byteAt s i < 48
            · simp (maxSteps := 200000) (disch := first | omega | (simp only [go_sem] <;> omega) | fail) only [go_sem, nat_int, h, h2]
              have : ¬ allB 48 57 s := fun hh => by have := hh i h; omega
              simp [this]
            · by_cases h3 : 57 < byteAt s i
              · simp (maxSteps := 200000) (disch := first | omega | (simp only [go_sem] <;> omega) | fail) only [go_sem, nat_int, h, h2, h3]
                have : ¬ allB 48 57 s := fun hh => by have := hh i h; omega
                simp [this]
              · simp (maxSteps := 200000) (disch := first | omega | (simp only [go_sem] <;> omega) | fail) only [go_sem, nat_int, h, h2, h3, wrap_succ h (show s.size ≤ 140737488355328 by omega)]
                intro j hj
                rcases Nat.lt_succ_iff_lt_or_eq.1 hj with hj | rfl
                · exact hI j hj
                · omega
          · intro hJ
            have hb : allB 48 57 s := hJ
            simp (maxSteps := 200000) (disch := first | omega | (simp only [go_sem] <;> omega) | fail) only [go_sem, nat_int]
            simp [v1, v2, hb, u3]
    · rw [if_neg t1]
      by_cases t2 : d.type = 2
      · rw [if_pos t2]
        have t2' := eq_true t2
        by_cases q1 : s = ⟨#[116, 114, 117, 101]⟩
        · have q1' := eq_true q1
          simp (maxSteps := 200000) (disch := first | omega | (simp only [go_sem] <;> omega) | fail) only [go_sem, nat_int, t1, t2', q1']
        · by_cases q2 : s = ⟨#[102, 97, 108, 115, 101]⟩
          · have q2' := eq_true q2
            simp (maxSteps := 200000) (disch := first | omega | (simp only [go_sem] <;> omega) | fail) only [go_sem, nat_int, t1, t2', q1, q2']
          · simp (maxSteps := 200000) (disch := first | omega | (simp only [go_sem] <;> omega) | fail) only [go_sem, nat_int, t1, t2', q1, q2]
      · rw [if_neg t2]
        by_cases t3 : d.type = 3
        · rw [if_pos t3]
          have t3' := eq_true t3
          simp (maxSteps := 200000) (disch := first | omega | (simp only [go_sem] <;> omega) | fail) only [go_sem, nat_int, t1, t2, t3', callA_pure mode_96, has_spec _ _ hd]
        · rw [if_neg t3]
          simp (maxSteps := 200000) (disch := first | omega | (simp only [go_sem] <;> omega) | fail) only [go_sem, nat_int, t1, t2, t3]
end Go.Abs.SA
end
section
namespace Go.Abs.SA
open Go.Proofs
mutual
def okD : Def → Prop
  | .mk _ _ _ v _ ks kd => v.length ≤ 1099511627776 ∧ ks.length ≤ 1099511627776 ∧ kd.length ≤ 1099511627776 ∧ okDs kd
def okDs : List Def → Prop
  | [] => True
  | d :: r => okD d ∧ okDs r
end
theorem okD_s {d : Def} (h : okD d) : d.values.length ≤ 1099511627776 ∧ d.keys.length ≤ 1099511627776 ∧ d.kids.length ≤ 1099511627776 ∧ okDs d.kids := by
  cases d; simpa [okD, Def.values, Def.keys, Def.kids] using h
theorem okDs_mem : ∀ {l : List Def} {d : Def}, okDs l → d ∈ l → okD d
  | x :: r, d, h, hm => by
    simp only [okDs] at h
    rcases List.mem_cons.1 hm with rfl | hm
    · exact h.1
    · exact okDs_mem h.2 hm
theorem place_some {l : List Def} {n : Str} {i : Nat} (h : place l n = some i) : ∃ hi : i < l.length, l[i].name = n := by
  unfold place at h
  rw [List.findIdx?_eq_some_iff_getElem] at h
  obtain ⟨hi, h1, _⟩ := h
  exact ⟨hi, by simpa using h1⟩
def before (l : List Def) (a b : Node) : Bool :=
  match place l a.name, place l b.name with
  | some i, some j => if i = j then (match l[i]? with
    | some d => decide (cmpS (keyD d a) (keyD d b) < 0)
    | none => false) else decide (i < j)
  | x, y => decide (posI x < posI y)
theorem before_spec (l : List Def) (a b : Node) (hl : l.length ≤ 1099511627776) (ho : okDs l) (ha : a.kids.length ≤ 140737488355328) (hb : b.kids.length ≤ 140737488355328) : pureW XX 151 [lD l, aNode a, aNode b] = some (vB (before l a b)) := by
  refine pureW_in 53 Tryz.func151 Tryz.ntmps151 (by simp) (rfl : Tryz.f151.body = some _) fns_151 ?_
  have pa := place_spec l a.name (by omega)
  have pb := place_spec l b.name (by omega)
  unfold before
  cases h1 : place l a.name with
  | none =>
    rw [h1] at pa
    cases h2 : place l b.name with
    | none =>
      rw [h2] at pb
      simp (maxSteps := 200000) (disch := first | omega | (simp only [go_sem] <;> omega) | fail) only [go_sem, callA_pure mode_92, pa, pb, posI, ne_eq, not_true, not_false_eq_true, Int.reduceNeg, Int.reduceLT, Int.reduceEq]
    | some j =>
      rw [h2] at pb
      have e1 : ((-1 : Int) = (j : Int)) = False := eq_false (by omega)
      have e2 : ((-1 : Int) < (j : Int)) = True := eq_true (by omega)
      simp (maxSteps := 200000) (disch := first | omega | (simp only [go_sem] <;> omega) | fail) only [go_sem, callA_pure mode_92, pa, pb, posI, ne_eq, not_true, not_false_eq_true, e1, e2]
  | some i =>
    rw [h1] at pa
    obtain ⟨hi, -⟩ := place_some h1
    cases h2 : place l b.name with
    | none =>
      rw [h2] at pb
      have e1 : ((i : Int) = -1) = False := eq_false (by omega)
      have e2 : ((i : Int) < -1) = False := eq_false (by omega)
      simp (maxSteps := 200000) (disch := first | omega | (simp only [go_sem] <;> omega) | fail) only [go_sem, callA_pure mode_92, pa, pb, posI, ne_eq, not_true, not_false_eq_true, e1, e2]
    | some j =>
      rw [h2] at pb
      by_cases hij : i = j
      · subst hij
        obtain ⟨-, o1, -, -⟩ := okD_s (okDs_mem ho (List.getElem_mem hi))
        have c1 := compare_spec (keyD l[i] a) (keyD l[i] b) (by have := keyD_len l[i] a; omega) (by have := keyD_len l[i] b; omega)
        have e2 : ((i : Int) < 0) = False := eq_false (by omega)
        simp (maxSteps := 200000) (disch := first | omega | (simp only [go_sem] <;> omega) | fail) only [go_sem, callA_pure mode_92, pa, pb, posI, ne_eq, not_true, not_false_eq_true, e2, hi, eDef_s, callA_data mode_57, key_spec l[i] a o1 ha, key_spec l[i] b o1 hb, keyD_fold, callA_pure mode_150, c1]
        simp [hi]
      · have e1 : ((i : Int) = (j : Int)) = False := eq_false (by omega)
        simp (maxSteps := 200000) (disch := first | omega | (simp only [go_sem] <;> omega) | fail) only [go_sem, callA_pure mode_92, pa, pb, posI, ne_eq, not_true, not_false_eq_true, e1, nat_int]
        simp [hij]
end Go.Abs.SA
end
section
namespace Go.Abs.SA
open Go.Proofs
def insPos (l : List Def) (n : Node) (out : List Node) : Nat → Nat
  | 0 => 0
  | k + 1 => match out[k]? with
    | some x => if before l n x then insPos l n out k else k + 1
    | none => k + 1
def ins (l : List Def) (out : List Node) (n : Node) : List Node := out.take (insPos l n out out.length) ++ n :: out.drop (insPos l n out out.length)
def order (l : List Def) (nodes : List Node) : List Node := nodes.foldl (ins l) []
theorem insPos_le (l : List Def) (n : Node) (out : List Node) : ∀ k, insPos l n out k ≤ k
  | 0 => by simp [insPos]
  | k + 1 => by
    have := insPos_le l n out k
    unfold insPos
    split
    · split <;> omega
    · omega
theorem ins_len (l : List Def) (out : List Node) (n : Node) : (ins l out n).length = out.length + 1 := by
  have := insPos_le l n out out.length
  simp [ins]; omega
theorem ins_mem {l : List Def} {out : List Node} {n x : Node} : x ∈ ins l out n ↔ x = n ∨ x ∈ out := by
  unfold ins
  constructor
  · intro h
    rcases List.mem_append.1 h with h | h
    · exact .inr (List.mem_of_mem_take h)
    · rcases List.mem_cons.1 h with h | h
      · exact .inl h
      · exact .inr (List.mem_of_mem_drop h)
  · rintro (rfl | h)
    · simp
    · rw [← List.take_append_drop (insPos l n out out.length) out] at h
      rcases List.mem_append.1 h with h | h
      · simp [h]
      · simp [h]
theorem foldl_ins_len (l : List Def) : ∀ (ns out : List Node), (ns.foldl (ins l) out).length = out.length + ns.length
  | [], out => by simp
  | n :: r, out => by simp [foldl_ins_len l r, ins_len]; omega
theorem foldl_ins_mem (l : List Def) {x : Node} : ∀ (ns out : List Node), x ∈ ns.foldl (ins l) out ↔ x ∈ ns ∨ x ∈ out
  | [], out => by simp
  | n :: r, out => by
    rw [List.foldl_cons, foldl_ins_mem l r, ins_mem, List.mem_cons]
    constructor
    · rintro (h | h | h) <;> simp [h]
    · rintro ((h | h) | h) <;> simp [h]
theorem order_len (l : List Def) (nodes : List Node) : (order l nodes).length = nodes.length := by simp [order, foldl_ins_len]
theorem order_mem (l : List Def) (nodes : List Node) {x : Node} : x ∈ order l nodes ↔ x ∈ nodes := by simp [order, foldl_ins_mem]
theorem node_mk (n : Node) : Node.mk n.name n.value n.kids = n := by cases n; rfl
theorem order_spec (l : List Def) (nodes : List Node) (hl : l.length ≤ 1099511627776) (ho : okDs l) (hn : nodes.length ≤ 1099511627776) (hk : ∀ x ∈ nodes, x.kids.length ≤ 140737488355328) : pureW XX 97 [lD l, lN nodes] = some (lN (order l nodes)) := by
  refine pureW_in 51 Tryz.func97 Tryz.ntmps97 (by simp) (rfl : Tryz.f97.body = some _) fns_97 ?_
  simp (maxSteps := 200000) (disch := first | omega | (simp only [go_sem] <;> omega) | fail) only [go_sem]
  refine WP_range 3 0 nodes.length (fun i => S_97_3 (lD l) (lN nodes) (lN (order l (nodes.take i))) (vI i) []) (fun i => True) rfl rfl ?_ ?_ ?_ ?_
  · simp (maxSteps := 200000) (disch := first | omega | (simp only [go_sem] <;> omega) | fail) only [go_sem]
    rfl
  · trivial
  · intro i h _
    have hol := order_len l (nodes.take i)
    rw [List.length_take] at hol
    have hor : order l (nodes.take (i + 1)) = ins l (order l (nodes.take i)) nodes[i] := by
      rw [List.take_succ_eq_append_getElem h]; simp only [order]; rw [List.foldl_append]; rfl
    have hom : ∀ x ∈ order l (nodes.take i), x.kids.length ≤ 140737488355328 := fun x hx => hk x (List.mem_of_mem_take ((order_mem l _).1 hx))
    generalize order l (nodes.take i) = out at *
    simp (maxSteps := 200000) (disch := first | omega | (simp only [go_sem] <;> omega) | fail) only [go_sem, nat_int, h]
    refine WP_loopR 6 0 (fun (a : Nat) => S_97_6 (lD l) (lN nodes) (lN out) (vI i) (vI a) []) (fun a => a) (fun a => a ≤ out.length ∧ insPos l nodes[i] out out.length = insPos l nodes[i] out a) out.length rfl rfl ?_ ?_ ?_
    · simp (maxSteps := 200000) (disch := first | omega | (simp only [go_sem] <;> omega) | fail) only [go_sem]
    · exact ⟨Nat.le_refl _, rfl⟩
    · rintro a ⟨ha, hp⟩
      by_cases h0 : a = 0
      · have e0 : ((0 : Int) < (a : Int)) = False := eq_false (by omega)
        have hf : insPos l nodes[i] out out.length = a := by
          rw [hp]; subst h0; rfl
        have hins : ins l out nodes[i] = out.take a ++ nodes[i] :: out.drop a := by simp only [ins, hf]
        have ha' := eq_true ha
        have hdl : (out.drop a).length = out.length - a := by simp
        have htl : (out.take a).length = a := by simp; omega
        simp (maxSteps := 200000) (disch := first | omega | (simp only [go_sem] <;> omega) | fail) only [go_sem, nat_int, h, e0, ha', eNode_s, List.take_length, wrap_succ h (show nodes.length ≤ 140737488355328 by omega)]
        rw [gcK_mkT (by simp only [go_sem]) (by simp only [go_sem]), orO_some, hor, hins, node_mk, ← List.map_append, List.append_assoc]
        rfl
      have e0 : ((0 : Int) < (a : Int)) = True := eq_true (by omega)
      have hb : a - 1 < out.length := by omega
      have hb' : a - 1 + 1 = a := by omega
      have hbs := before_spec l nodes[i] out[a - 1] hl ho (hk _ (List.getElem_mem h)) (hom _ (List.getElem_mem hb))
      have hst : insPos l nodes[i] out a = if before l nodes[i] out[a - 1] then insPos l nodes[i] out (a - 1) else a := by
        conv => lhs; rw [← hb']
        simp only [insPos, List.getElem?_eq_getElem hb, hb']
      cases hc : before l nodes[i] out[a - 1] with
      | true =>
        rw [hc] at hbs hst
        simp (maxSteps := 200000) (disch := first | omega | (simp only [go_sem] <;> omega) | fail) only [go_sem, nat_int, h, e0, eNode_s, wrap_pred (Nat.pos_of_ne_zero h0) (show a ≤ 140737488355328 by omega), hb, callA_pure mode_151, hbs]
        exact ⟨a - 1, rfl, ⟨by omega, by rw [hp, hst]; rfl⟩, by omega⟩
      | false =>
        rw [hc] at hbs hst
        have hf : insPos l nodes[i] out out.length = a := by
          rw [hp, hst]; rfl
        have hins : ins l out nodes[i] = out.take a ++ nodes[i] :: out.drop a := by simp only [ins, hf]
        have ha' := eq_true ha
        have hdl : (out.drop a).length = out.length - a := by simp
        have htl : (out.take a).length = a := by simp; omega
        simp (maxSteps := 200000) (disch := first | omega | (simp only [go_sem] <;> omega) | fail) only [go_sem, nat_int, h, e0, ha', eNode_s, List.take_length, wrap_succ h (show nodes.length ≤ 140737488355328 by omega), wrap_pred (Nat.pos_of_ne_zero h0) (show a ≤ 140737488355328 by omega), hb, callA_pure mode_151, hbs]
        rw [gcK_mkT (by simp only [go_sem]) (by simp only [go_sem]), orO_some, hor, hins, node_mk, ← List.map_append, List.append_assoc]
        rfl
  · intro _
    simp (maxSteps := 200000) (disch := first | omega | (simp only [go_sem] <;> omega) | fail) only [go_sem, nat_int, List.take_length]
end Go.Abs.SA
end
section
namespace Go.Abs.SA
open Go.Proofs
mutual
def rdE (l : List Def) : Elem → Except Int (Def × Node)
  | .mk _ n _ t k => match place l n with
    | none => .error 11
    | some i => match l[i]? with
      | none => .error 11
      | some d =>
        if d.kind = 3 then (if k ≠ [] ∨ valueM d t = false then .error 12 else .ok (d, .mk n t []))
        else if t ≠ ⟨#[]⟩ then .error 12 else match rdL d.kids [] [] k with
          | .error e => .error e
          | .ok nodes => if (keyOf d (.mk n ⟨#[]⟩ nodes)).isSome then .ok (d, .mk n ⟨#[]⟩ nodes) else .error 13
def rdL (l : List Def) (out all : List Node) : List Elem → Except Int (List Node)
  | [] => if 256 < out.length then .error 2 else .ok (order l out)
  | e :: r => match rdE l e with
    | .error x => .error x
    | .ok (d, n) => if (sameAt d all n).isSome then .error 15 else rdL l (if d.kind ≠ 1 ∨ n.kids ≠ [] then out ++ [n] else out) (all ++ [n]) r
end
theorem rdE_s (l : List Def) (e : Elem) : rdE l e = match place l e.name with
    | none => .error 11
    | some i => match l[i]? with
      | none => .error 11
      | some d =>
        if d.kind = 3 then (if e.kids ≠ [] ∨ valueM d e.text = false then .error 12 else .ok (d, .mk e.name e.text []))
        else if e.text ≠ ⟨#[]⟩ then .error 12 else match rdL d.kids [] [] e.kids with
          | .error e => .error e
          | .ok nodes => if (keyOf d (.mk e.name ⟨#[]⟩ nodes)).isSome then .ok (d, .mk e.name ⟨#[]⟩ nodes) else .error 13 := by
  cases e; rw [rdE]; rfl
theorem rdL_nil (l : List Def) (out all : List Node) : rdL l out all [] = if 256 < out.length then .error 2 else .ok (order l out) := by rw [rdL]
theorem rdL_cons (l : List Def) (out all : List Node) (e : Elem) (r : List Elem) : rdL l out all (e :: r) = match rdE l e with
    | .error x => .error x
    | .ok (d, n) => if (sameAt d all n).isSome then .error 15 else rdL l (if d.kind ≠ 1 ∨ n.kids ≠ [] then out ++ [n] else out) (all ++ [n]) r := by rw [rdL]
mutual
theorem rdE_err (l : List Def) : ∀ (e : Elem) (x : Int), rdE l e = .error x → x ≠ 0
  | .mk s n a t k, x, h => by
    rw [rdE] at h
    split at h
    · cases h; decide
    · split at h
      · cases h; decide
      · split at h
        · split at h
          · cases h; decide
          · cases h
        · split at h
          · cases h; decide
          · split at h
            · rename_i d _ _ _ e he
              cases h
              exact rdL_err _ _ _ k _ he
            · split at h
              · cases h
              · cases h; decide
theorem rdL_err (l : List Def) (out all : List Node) : ∀ (es : List Elem) (x : Int), rdL l out all es = .error x → x ≠ 0
  | [], x, h => by
    rw [rdL] at h
    split at h
    · cases h; decide
    · cases h
  | e :: r, x, h => by
    rw [rdL] at h
    split at h
    · rename_i y hy
      cases h
      exact rdE_err l e _ hy
    · split at h
      · cases h; decide
      · exact rdL_err l _ _ r x h
end
theorem rdL_len (l : List Def) : ∀ (es : List Elem) (out all nodes : List Node), rdL l out all es = .ok nodes → nodes.length ≤ out.length + es.length
  | [], out, all, nodes, h => by
    rw [rdL_nil] at h
    split at h
    · cases h
    · cases h; simp [order_len]
  | e :: r, out, all, nodes, h => by
    rw [rdL_cons] at h
    split at h
    · cases h
    · split at h
      · cases h
      · have := rdL_len l r _ _ _ h
        simp only [List.length_cons]
        split at this
        · simp at this; omega
        · omega
end Go.Abs.SA
end
section
namespace Go.Abs.SA
open Go.Proofs
theorem len_cntEs : ∀ (l : List Elem), l.length ≤ cntEs l
  | [] => by simp [cntEs]
  | e :: r => by have := len_cntEs r; simp only [cntEs, List.length_cons]; rw [cntE_s]; omega
def aRead : Except Int (List Node) → AV
  | .error x => .tup [lN [], vI x]
  | .ok l => .tup [lN l, vI 0]
theorem read_spec : ∀ (k : Nat) (l : List Def) (elems : List Elem), cntEs elems < k → k ≤ 100000 → okEs elems → l.length ≤ 1099511627776 → okDs l → pureW XX 52 [lD l, lE elems] = some (aRead (rdL l [] [] elems)) := by
  intro k
  induction k with
  | zero => intro l elems h; omega
  | succ k ih =>
    intro l elems hc hk hok hl hod
    have hcnt := len_cntEs elems
    refine pureW_in 109 Tryz.func52 Tryz.ntmps52 (by simp) (rfl : Tryz.f52.body = some _) fns_52 ?_
    simp (maxSteps := 200000) (disch := first | omega | (simp only [go_sem] <;> omega) | fail) only [go_sem]
    refine WP_loopR 3 2 (fun (a : Nat × List Node × List Node) => S_52_3 (lD l) (lE elems) (.sl 0 0 a.2.1.length false) (.sl 1 0 a.2.2.length false) (vI a.1) [.arr 75 3 (a.2.1.map eNode), .arr 75 3 (a.2.2.map eNode)]) (fun a => elems.length - a.1) (fun a => a.1 ≤ elems.length ∧ a.2.1.length ≤ a.1 ∧ a.2.2.length ≤ a.1 ∧ (∀ x ∈ a.2.2, x.kids.length ≤ 100000) ∧ (∀ x ∈ a.2.1, x.kids.length ≤ 100000) ∧ rdL l [] [] elems = rdL l a.2.1 a.2.2 (elems.drop a.1)) (0, [], []) rfl rfl ?_ ?_ ?_
    · simp (maxSteps := 200000) (disch := first | omega | (simp only [go_sem] <;> omega) | fail) only [go_sem]; rfl
    · simp
    · rintro ⟨i, out, all⟩ ⟨hi, ho, ha, hka, hko, hr⟩
      simp only at hi ho ha hka hko hr
      by_cases h : i < elems.length
      case neg =>
        rw [List.drop_of_length_le (by omega), rdL_nil] at hr
        have hor := order_spec l out hl hod (by omega) (fun x hx => by have := hko x hx; omega)
        by_cases hb : (256 : Int) < (out.length : Int)
        · rw [if_pos (by omega)] at hr
          rw [hr]
          simp (maxSteps := 200000) (disch := first | omega | (simp only [go_sem] <;> omega) | fail) only [go_sem, nat_int, h, hb]
          rfl
        · rw [if_neg (by omega)] at hr
          rw [hr]
          simp (maxSteps := 200000) (disch := first | omega | (simp only [go_sem] <;> omega) | fail) only [go_sem, nat_int, h, hb, callA_data mode_97, hor]
          rfl
      have heo := okEs_mem hok (List.getElem_mem h)
      obtain ⟨b1, b2, b3, b4, b5, b6⟩ := okE_s heo
      have hkc := cntE_kids h
      have hlk := len_cntEs elems[i].kids
      have pl := place_spec l elems[i].name (by omega)
      rw [List.drop_eq_getElem_cons h, rdL_cons, rdE_s] at hr
      cases hp : place l elems[i].name with
      | none =>
        rw [hp] at pl hr
        simp only at hr
        have n1 : ((-1 : Int) < 0) = True := eq_true (by omega)
        rw [hr]
        simp (maxSteps := 200000) (disch := first | omega | (simp only [go_sem] <;> omega) | fail) only [go_sem, nat_int, h, eElem_s, callA_pure mode_92, pl, posI, n1]
        rfl
      | some j =>
      rw [hp] at pl hr
      obtain ⟨hj, hjn⟩ := place_some hp
      have n1 : ((j : Int) < 0) = False := eq_false (by omega)
      obtain ⟨o1, o2, o3, o4⟩ := okD_s (okDs_mem hod (List.getElem_mem hj))
      simp only [List.getElem?_eq_getElem hj] at hr
      by_cases hk3 : l[j].kind = 3
      · have hk3' := eq_true hk3
        have hvs := value_spec l[j] elems[i].text (by omega)
        rw [if_pos hk3] at hr
        by_cases hkk : (0 : Int) < (elems[i].kids.length : Int)
        · have : elems[i].kids ≠ [] := by intro hh; rw [hh] at hkk; simp at hkk
          rw [if_pos (.inl this)] at hr
          simp only at hr
          rw [hr]
          simp (maxSteps := 200000) (disch := first | omega | (simp only [go_sem] <;> omega) | fail) only [go_sem, nat_int, h, hj, eElem_s, eDef_s, callA_pure mode_92, pl, posI, n1, hk3', hkk]
          rfl
        · have hkn : elems[i].kids = [] := List.eq_nil_iff_length_eq_zero.2 (by omega)
          cases hva : valueM l[j] elems[i].text with
          | false =>
            rw [if_pos (.inr hva)] at hr
            simp only at hr
            rw [hr]
            rw [hva] at hvs
            simp (maxSteps := 200000) (disch := first | omega | (simp only [go_sem] <;> omega) | fail) only [go_sem, nat_int, h, hj, eElem_s, eDef_s, callA_pure mode_92, pl, posI, n1, hk3', hkk, callA_pure mode_103, hvs]
            rfl
          | true =>
            rw [if_neg (by simp [hkn, hva])] at hr
            simp only at hr
            rw [hva] at hvs
            have hn1 : (l[j].kind = 1) = False := eq_false (by omega)
            have hss := same_spec l[j] all (.mk elems[i].name elems[i].text []) o2 (by simp [Node.kids]) (by omega) (fun x hx => by have := hka x hx; omega)
            simp only [aNode, Node.name, Node.value, Node.kids, lN, List.map_nil] at hss
            cases hsa : sameAt l[j] all (.mk elems[i].name elems[i].text []) with
            | some q =>
              rw [hsa] at hss hr
              simp only [Option.isSome, if_true] at hr
              have n2 : (0 ≤ (q : Int)) = True := eq_true (by omega)
              rw [hr]
              simp (maxSteps := 200000) (disch := first | omega | (simp only [go_sem] <;> omega) | fail) only [go_sem, nat_int, h, hj, eElem_s, eDef_s, callA_pure mode_92, pl, posI, n1, hk3', hkk, callA_pure mode_103, hvs, callA_pure mode_94, hss, n2]
              rfl
            | none =>
              rw [hsa] at hss hr
              simp only [Option.isSome] at hr
              rw [if_neg (by simp), if_pos (.inl (by omega))] at hr
              have n2 : (0 ≤ (-1 : Int)) = False := eq_false (by omega)
              simp (maxSteps := 200000) (disch := first | omega | (simp only [go_sem] <;> omega) | fail) only [go_sem, nat_int, h, hj, eElem_s, eDef_s, callA_pure mode_92, pl, posI, n1, hk3', hkk, callA_pure mode_103, hvs, callA_pure mode_94, hss, n2, hn1, ne_eq, not_false_eq_true, wrap_succ h (show elems.length ≤ 140737488355328 by omega)]
              refine ⟨(i + 1, out ++ [.mk elems[i].name elems[i].text []], all ++ [.mk elems[i].name elems[i].text []]), by simp [eNode_s, Node.name, Node.value, Node.kids], ⟨by simp; omega, by simp; omega, by simp; omega, ?_, ?_, hr⟩, by simp; omega⟩
              · intro x hx
                rcases List.mem_append.1 hx with hx | hx
                · exact hka x hx
                · rw [List.mem_singleton.1 hx]; simp [Node.kids]
              · intro x hx
                rcases List.mem_append.1 hx with hx | hx
                · exact hko x hx
                · rw [List.mem_singleton.1 hx]; simp [Node.kids]
      · have hi2 := ih l[j].kids elems[i].kids (by omega) (by omega) b6 o3 o4
        rw [if_neg hk3] at hr
        by_cases q0 : elems[i].text = ⟨#[]⟩
        case neg =>
          rw [if_pos q0] at hr
          simp only at hr
          rw [hr]
          simp (maxSteps := 200000) (disch := first | omega | (simp only [go_sem] <;> omega) | fail) only [go_sem, nat_int, h, hj, eElem_s, eDef_s, callA_pure mode_92, pl, posI, n1, hk3, q0, ne_eq, not_false_eq_true]
          rfl
        rw [if_neg (by simp [q0])] at hr
        have q1 := eq_true q0
        cases hrd : rdL l[j].kids [] [] elems[i].kids with
        | error x =>
          rw [hrd] at hi2 hr
          have hx := rdL_err _ _ _ _ _ hrd
          simp only at hr
          simp only [aRead] at hi2
          rw [hr]
          simp (maxSteps := 200000) (disch := first | omega | (simp only [go_sem] <;> omega) | fail) only [go_sem, nat_int, h, hj, eElem_s, eDef_s, callA_pure mode_92, pl, posI, n1, hk3, q1, ne_eq, not_true, not_false_eq_true, callA_data mode_52, hi2, hx]
          rfl
        | ok nodes =>
        rw [hrd] at hi2 hr
        have hnl := rdL_len _ _ _ _ _ hrd
        simp only at hr
        simp only [aRead] at hi2
        have hnk : (nodes.length : Nat) ≤ 100000 := by simp at hnl; omega
        have hks := key_spec l[j] (.mk elems[i].name ⟨#[]⟩ nodes) o2 (by simp only [Node.kids]; omega)
        simp only [aNode, Node.name, Node.value, Node.kids] at hks
        cases hky : keyOf l[j] (.mk elems[i].name ⟨#[]⟩ nodes) with
        | none =>
          rw [hky] at hr hks
          simp only [Option.isSome, Bool.false_eq_true, if_false] at hr
          simp only [kO, Option.isSome, Option.getD_none] at hks
          rw [hr]
          simp (maxSteps := 200000) (disch := first | omega | (simp only [go_sem] <;> omega) | fail) only [go_sem, nat_int, h, hj, eElem_s, eDef_s, callA_pure mode_92, pl, posI, n1, hk3, q1, ne_eq, not_true, not_false_eq_true, callA_data mode_52, hi2, callA_data mode_57, hks]
          rfl
        | some ks =>
        rw [hky] at hr hks
        simp only [Option.isSome, if_true] at hr
        simp only [kO, Option.isSome, Option.getD_some] at hks
        have hss := same_spec l[j] all (.mk elems[i].name ⟨#[]⟩ nodes) o2 (by simp only [Node.kids]; omega) (by omega) (fun x hx => by have := hka x hx; omega)
        simp only [aNode, Node.name, Node.value, Node.kids] at hss
        cases hsa : sameAt l[j] all (.mk elems[i].name ⟨#[]⟩ nodes) with
        | some q =>
          rw [hsa] at hss hr
          simp only [Option.isSome, if_true] at hr
          have n2 : (0 ≤ (q : Int)) = True := eq_true (by omega)
          rw [hr]
          simp (maxSteps := 200000) (disch := first | omega | (simp only [go_sem] <;> omega) | fail) only [go_sem, nat_int, h, hj, eElem_s, eDef_s, callA_pure mode_92, pl, posI, n1, hk3, q1, ne_eq, not_true, not_false_eq_true, callA_data mode_52, hi2, callA_data mode_57, hks, callA_pure mode_94, hss, n2]
          rfl
        | none =>
        rw [hsa] at hss hr
        simp only [Option.isSome] at hr
        rw [if_neg (by simp)] at hr
        have n2 : (0 ≤ (-1 : Int)) = False := eq_false (by omega)
        by_cases hk1 : l[j].kind = 1
        · have hk1' := eq_true hk1
          by_cases hn0 : (0 : Int) < (nodes.length : Int)
          · have : nodes ≠ [] := by intro hh; rw [hh] at hn0; simp at hn0
            rw [if_pos (.inr this)] at hr
            simp (maxSteps := 200000) (disch := first | omega | (simp only [go_sem] <;> omega) | fail) only [go_sem, nat_int, h, hj, eElem_s, eDef_s, callA_pure mode_92, pl, posI, n1, hk3, q1, ne_eq, not_true, not_false_eq_true, callA_data mode_52, hi2, callA_data mode_57, hks, callA_pure mode_94, hss, n2, hk1', hn0, wrap_succ h (show elems.length ≤ 140737488355328 by omega)]
            refine ⟨(i + 1, out ++ [.mk elems[i].name ⟨#[]⟩ nodes], all ++ [.mk elems[i].name ⟨#[]⟩ nodes]), by simp [eNode_s, Node.name, Node.value, Node.kids], ⟨by simp; omega, by simp; omega, by simp; omega, ?_, ?_, hr⟩, by simp; omega⟩
            · intro x hx
              rcases List.mem_append.1 hx with hx | hx
              · exact hka x hx
              · rw [List.mem_singleton.1 hx]; exact hnk
            · intro x hx
              rcases List.mem_append.1 hx with hx | hx
              · exact hko x hx
              · rw [List.mem_singleton.1 hx]; exact hnk
          · have : nodes = [] := List.eq_nil_iff_length_eq_zero.2 (by omega)
            rw [if_neg (by simp [hk1, Node.kids, this])] at hr
            simp (maxSteps := 200000) (disch := first | omega | (simp only [go_sem] <;> omega) | fail) only [go_sem, nat_int, h, hj, eElem_s, eDef_s, callA_pure mode_92, pl, posI, n1, hk3, q1, ne_eq, not_true, not_false_eq_true, callA_data mode_52, hi2, callA_data mode_57, hks, callA_pure mode_94, hss, n2, hk1', hn0, wrap_succ h (show elems.length ≤ 140737488355328 by omega)]
            refine ⟨(i + 1, out, all ++ [.mk elems[i].name ⟨#[]⟩ nodes]), by simp [eNode_s, Node.name, Node.value, Node.kids], ⟨by simp; omega, by simp; omega, by simp; omega, ?_, ?_, hr⟩, by simp; omega⟩
            · intro x hx
              rcases List.mem_append.1 hx with hx | hx
              · exact hka x hx
              · rw [List.mem_singleton.1 hx]; exact hnk
            · exact hko
        · rw [if_pos (.inl hk1)] at hr
          simp (maxSteps := 200000) (disch := first | omega | (simp only [go_sem] <;> omega) | fail) only [go_sem, nat_int, h, hj, eElem_s, eDef_s, callA_pure mode_92, pl, posI, n1, hk3, q1, ne_eq, not_true, not_false_eq_true, callA_data mode_52, hi2, callA_data mode_57, hks, callA_pure mode_94, hss, n2, hk1, wrap_succ h (show elems.length ≤ 140737488355328 by omega)]
          refine ⟨(i + 1, out ++ [.mk elems[i].name ⟨#[]⟩ nodes], all ++ [.mk elems[i].name ⟨#[]⟩ nodes]), by simp [eNode_s, Node.name, Node.value, Node.kids], ⟨by simp; omega, by simp; omega, by simp; omega, ?_, ?_, hr⟩, by simp; omega⟩
          · intro x hx
            rcases List.mem_append.1 hx with hx | hx
            · exact hka x hx
            · rw [List.mem_singleton.1 hx]; exact hnk
          · intro x hx
            rcases List.mem_append.1 hx with hx | hx
            · exact hko x hx
            · rw [List.mem_singleton.1 hx]; exact hnk
end Go.Abs.SA
end
section
namespace Go.Abs.SA
open Go.Proofs
mutual
theorem smallN_cnt : ∀ (e : Elem) (n : Int), 0 ≤ smallN n e → cntE e + smallN n e ≤ n
  | .mk s nm a t k, n, h => by
    have hw : 1 ≤ wE (.mk s nm a t k) := by unfold wE; omega
    rw [smallN] at h ⊢
    rw [cntE]
    split at h
    · omega
    · rename_i hn
      rw [if_neg hn]
      have := smallL_cnt k _ h
      omega
theorem smallL_cnt : ∀ (l : List Elem) (n : Int), 0 ≤ smallL n l → cntEs l + smallL n l ≤ n
  | [], n, h => by simp [cntEs, smallL]
  | e :: r, n, h => by
    rw [smallL] at h ⊢
    rw [cntEs]
    split at h
    · omega
    · rename_i hn
      rw [if_neg hn]
      have h1 := smallL_cnt r _ h
      have h2 := smallN_cnt e n (by omega)
      omega
end
def tree (l : List Elem) : Option (List Node) := if smallL 300 l < 0 then none else match rdL schema [] [] l with
  | .error _ => none
  | .ok n => some n
theorem okDs_schema : okDs schema := by simp [okDs, okD, schema, leafD, portD]
end Go.Abs.SA
end
section
namespace Go.Abs.SA
open Go.Proofs
theorem cntL_app : ∀ (a b : List Node), cntL (a ++ b) = cntL a + cntL b
  | [], b => by simp [cntL]
  | x :: r, b => by rw [List.cons_append, cntL_cons, cntL_cons, cntL_app r b]; omega
theorem cnt_ins (l : List Def) (out : List Node) (n : Node) : cntL (ins l out n) = cntL out + cntN n := by
  have h := cntL_app (out.take (insPos l n out out.length)) (out.drop (insPos l n out out.length))
  rw [List.take_append_drop] at h
  rw [ins, cntL_app, cntL_cons]; omega
theorem cnt_foldl (l : List Def) : ∀ (ns out : List Node), cntL (ns.foldl (ins l) out) = cntL out + cntL ns
  | [], out => by simp [cntL]
  | n :: r, out => by rw [List.foldl_cons, cnt_foldl l r, cnt_ins, cntL_cons]; omega
theorem cnt_order (l : List Def) (ns : List Node) : cntL (order l ns) = cntL ns := by rw [order, cnt_foldl]; simp [cntL]
mutual
theorem rdE_cnt (l : List Def) : ∀ (e : Elem) (d : Def) (n : Node), rdE l e = .ok (d, n) → cntN n ≤ cntE e
  | .mk s nm a t k, d, n, h => by
    rw [rdE] at h
    split at h
    · cases h
    · split at h
      · cases h
      · split at h
        · split at h
          · cases h
          · cases h; simp [cntN, cntL, cntE]
        · split at h
          · cases h
          · split at h
            · cases h
            · rename_i d' _ _ _ nodes hn
              split at h
              · cases h
                have := rdL_cnt _ k _ _ _ hn
                rw [cntN, cntE]; simp only [cntL] at this; omega
              · cases h
theorem rdL_cnt (l : List Def) : ∀ (es : List Elem) (out all nodes : List Node), rdL l out all es = .ok nodes → cntL nodes ≤ cntL out + cntEs es
  | [], out, all, nodes, h => by
    rw [rdL] at h
    split at h
    · cases h
    · cases h; rw [cnt_order]; omega
  | e :: r, out, all, nodes, h => by
    rw [rdL] at h
    split at h
    · cases h
    · rename_i d n hn
      split at h
      · cases h
      · have h1 := rdL_cnt l r _ _ _ h
        have h2 := rdE_cnt l e d n hn
        rw [cntEs]
        split at h1
        · rw [cntL_app, cntL_cons] at h1; simp only [cntL] at h1; omega
        · omega
end
end Go.Abs.SA
end
section
namespace Go.Abs.SA
open Go.Proofs
theorem XX_ok : XX.ok = true := by kernel_rfl
theorem reach_s : reachBytes = 140737488351232 := rfl
theorem o_str (k : Nat) : Opens Tryz.prog k 9 eS (fun s => s.size ≤ 140737488355328) :=
  (Opens.string k Tryz.underlying9).map id (fun _ => rfl) (fun s h => by rw [reach_s] at h; simp only [id]; omega)
theorem o_int (k : Nat) : Opens Tryz.prog k 3 (fun n : Int => [vI n]) (fun n => (Lit.int .i64 n).wf = true) := Opens.int k Tryz.underlying3
theorem o_bool (k : Nat) : Opens Tryz.prog k 4 (fun n : Bool => [vB n]) (fun n => True) := Opens.bool k Tryz.underlying4
def okS (l : List Str) : Prop := l.length ≤ 140737488355328 ∧ ∀ s ∈ l, s.size ≤ 140737488355328
theorem by_9 : Tryz.prog.bytesOf 9 = 16 := by kernel_rfl
theorem by_36 : Tryz.prog.bytesOf 36 = 96 := by kernel_rfl
theorem by_40 : Tryz.prog.bytesOf 40 = 32 := by kernel_rfl
theorem ce_9 : Tryz.prog.cellsOf 9 = 1 := by kernel_rfl
theorem ce_3 : Tryz.prog.cellsOf 3 = 1 := by kernel_rfl
theorem ce_4 : Tryz.prog.cellsOf 4 = 1 := by kernel_rfl
theorem ce_33 : Tryz.prog.cellsOf 33 = 1 := by kernel_rfl
theorem ce_22 : Tryz.prog.cellsOf 22 = 1 := by kernel_rfl
theorem ce_34 : Tryz.prog.cellsOf 34 = 1 := by kernel_rfl
theorem ce_36 : Tryz.prog.cellsOf 36 = 5 := by kernel_rfl
theorem ce_40 : Tryz.prog.cellsOf 40 = 2 := by kernel_rfl
theorem o_strs (k : Nat) : Opens Tryz.prog k 33 (fun l : List Str => [lS l]) okS :=
  (Opens.slice' (fun j _ => o_str j) Tryz.underlying33 (fun _ => ce_9.symm)).map id (fun _ => rfl) (fun l h => ⟨by
    have := h.1; rw [by_9, reach_s] at this; simp only [id]; omega, h.2⟩)
theorem o_struct {P : Program} {α β : Type} {t n : Nat} {fs : Array Field} {enc : α → List AV} {ok : α → Prop} {enc' : β → List AV} {ok' : β → Prop} (h : ∀ k, OpensF P k 0 fs.toList n enc ok) (ht : P.underlying t = some (.struct fs)) (hn : P.cellsOf t = n)
    (g : α → β) (hg : ∀ x, enc' (g x) = enc x) (ho : ∀ x, ok x → ok' (g x)) : ∀ k, Opens P k t enc' ok'
  | 0 => Opens.zero _ _ _
  | k + 1 => (Opens.struct (h k) ht hn).map g hg ho
theorem o_attr : ∀ k, Opens Tryz.prog k 40 eAttr (fun _ => True) :=
  o_struct (fun k => OpensF.cons (m := 1) (o_str k) (OpensF.cons (m := 1) (o_str k) (OpensF.nil k 2) rfl ce_9) rfl ce_9) Tryz.underlying40 ce_40
    (fun x => (x.1, x.2.1)) (fun x => rfl) (fun x h => trivial)
theorem o_attrs (k : Nat) : Opens Tryz.prog k 34 (fun l : List (Str × Str) => [.fs (l.map eAttr) false]) (fun l => l.length ≤ 140737488355328) :=
  (Opens.slice' (fun j _ => o_attr j) Tryz.underlying34 (fun x => by rw [ce_40]; rfl)).map id (fun _ => rfl) (fun l h => by
    have := h.1; rw [by_40, reach_s] at this; simp only [id]; omega)
theorem okEs_all : ∀ {l : List Elem}, (∀ e ∈ l, okE e) → okEs l
  | [], _ => by simp [okEs]
  | e :: r, h => by simp only [okEs]; exact ⟨h e (by simp), okEs_all fun x hx => h x (by simp [hx])⟩
theorem o_elems_of {k : Nat} (h : ∀ j, j + 1 ≤ k → Opens Tryz.prog j 36 eElem okE) : Opens Tryz.prog k 22 (fun l : List Elem => [lE l]) (fun l => l.length ≤ 140737488355328 ∧ okEs l) :=
  (Opens.slice' h Tryz.underlying22 (fun x => by rw [ce_36]; exact eElem_len x)).map id (fun _ => rfl) (fun l h => ⟨by
    have := h.1; rw [by_36, reach_s] at this; simp only [id]; omega, okEs_all h.2⟩)
theorem o_elem : ∀ k, Opens Tryz.prog k 36 eElem okE :=
  Opens.rec fun k ih =>
    (Opens.struct (OpensF.cons (m := 1) (o_str k) (OpensF.cons (m := 1) (o_str k) (OpensF.cons (m := 1) (o_attrs k) (OpensF.cons (m := 1) (o_str k) (OpensF.cons (m := 1) (o_elems_of fun j hj => ih j (by omega)) (OpensF.nil k 5) rfl ce_22) rfl ce_9) rfl ce_34) rfl ce_9) rfl ce_9) Tryz.underlying36 ce_36).map
      (fun x => .mk x.1 x.2.1 x.2.2.1 x.2.2.2.1 x.2.2.2.2.1) (fun x => by simp [eElem, eElems_map, eS]) (fun x h => by
        obtain ⟨h1, h2, h3, h4, ⟨h5, h6⟩, -⟩ := h
        exact ⟨h1, h2, h3, h4, h5, h6⟩)
theorem o_elems (k : Nat) : Opens Tryz.prog k 22 (fun l : List Elem => [lE l]) (fun l => l.length ≤ 140737488355328 ∧ okEs l) := o_elems_of fun j _ => o_elem j
end Go.Abs.SA
end
section
namespace Go.Abs.SA
open Go.Proofs
theorem bne_f' (b : Bool) : (b != false) = b := by cases b <;> rfl
theorem bne_t' (b : Bool) : (b != true) = !b := by cases b <;> rfl
theorem beq_self' (b : Bool) : (b == b) = true := by cases b <;> rfl
attribute [go_sem] bne_f' bne_t' beq_self'
abbrev sG : Str := ⟨#[103]⟩
abbrev sH : Str := ⟨#[104]⟩
end Go.Abs.SA
end
section
namespace Go.Abs.SA
open Go.Proofs
end Go.Abs.SA
end
section
namespace Go.Abs.SA
open Go.Proofs
end Go.Abs.SA
end
section
namespace Go.Abs.SA
open Go.Proofs
end Go.Abs.SA
end
section
namespace Go.Abs.SA
open Go.Proofs
end Go.Abs.SA
end
section
namespace Go.Abs.SA
open Go.Proofs
theorem isKey_spec (x : Node) (k : Str) : pureW XX 109 [aNode x, .fp [vS k]] = some (vB (decide (x.name = k))) := by
  refine pureW_in 8 Tryz.func109 Tryz.ntmps109 (by simp) (rfl : Tryz.f109.body = some _) fns_109 ?_
  simp (maxSteps := 200000) (disch := first | omega | (simp only [go_sem] <;> omega) | fail) only [go_sem]
theorem findIdx_step {α : Type} (q : α → Bool) (l : List α) {i : Nat} (h : i < l.length) : (l.drop i).findIdx? q = if q l[i] then some 0 else ((l.drop (i + 1)).findIdx? q).map (· + 1) := by
  rw [List.drop_eq_getElem_cons h, List.findIdx?_cons]
theorem indexKey_spec (l : List Node) (k : Str) (hl : l.length ≤ 140737488355328)  : pureW XX 108 [lN l, .fn 109 [.fp [vS k]]] = some (vI (posI (l.findIdx? fun x => decide (x.name = k)))) := by
  refine pureW_in 19 Tryz.func108 Tryz.ntmps108 (by simp) (rfl : Tryz.f108.body = some _) fns_108 ?_
  simp (maxSteps := 200000) (disch := first | omega | (simp only [go_sem] <;> omega) | fail) only [go_sem]
  refine WP_range 2 0 l.length (fun i => S_108_2 (lN l) (.fn 109 [.fp [vS k]]) (vI l.length) (vI i) []) (fun i => (l.findIdx? fun x => decide (x.name = k)) = ((l.drop i).findIdx? fun x => decide (x.name = k)).map (· + i)) rfl rfl ?_ ?_ ?_ ?_
  · simp (maxSteps := 200000) (disch := first | omega | (simp only [go_sem] <;> omega) | fail) only [go_sem]; rfl
  · simp
  · intro i h hI
    rw [findIdx_step _ _ h] at hI
    have hk := isKey_spec l[i] k
    cases hv : (fun x => decide (x.name = k)) l[i] with
    | true =>
      simp only at hv
      rw [hv] at hk hI
      simp (maxSteps := 200000) (disch := first | omega | (simp only [go_sem] <;> omega) | fail) only [go_sem, nat_int, h, eNode_s, callA_pure mode_109, hk]
      rw [hI]
      simp [posI]
    | false =>
      simp only at hv
      rw [hv] at hk hI
      simp (maxSteps := 200000) (disch := first | omega | (simp only [go_sem] <;> omega) | fail) only [go_sem, nat_int, h, eNode_s, callA_pure mode_109, hk, wrap_succ h hl]
      rw [hI]
      simp
      congr 1
      funext x
      simp
      omega
  · intro hI
    simp (maxSteps := 200000) (disch := first | omega | (simp only [go_sem] <;> omega) | fail) only [go_sem, nat_int]
    rw [hI]
    simp [posI]
theorem leafV_idx (l : List Node) (k : Str) : leafV l k = match l.findIdx? fun x => decide (x.name = k) with
    | some i => (l[i]?).map Node.value
    | none => none := by
  unfold leafV
  induction l with
  | nil => rfl
  | cons x r ih =>
    rw [List.find?_cons, List.findIdx?_cons]
    by_cases h : x.name = k
    · simp [h]
    · simp only [h, decide_false, Bool.false_eq_true, if_false]
      rw [ih]
      cases r.findIdx? fun x => decide (x.name = k) with
      | none => rfl
      | some i => simp
theorem modelKey_spec (d : Def) (n : Node) (hd : d.keys.length ≤ 1099511627776) (hn : n.kids.length ≤ 140737488355328) : pureW XX 56 [aDef d, aNode n] = some (kO (keyOf d n)) := by
  refine pureW_in 34 Tryz.func56 Tryz.ntmps56 (by simp) (rfl : Tryz.f56.body = some _) fns_56 ?_
  simp (maxSteps := 200000) (disch := first | omega | (simp only [go_sem] <;> omega) | fail) only [go_sem]
  refine WP_range 3 3 d.keys.length (fun i => S_56_3 (.ptr 1 0) (.sl 2 0 ((d.keys.take i).filterMap (leafV n.kids)).length false) (lS d.keys) (vI d.keys.length) (vI i) [.var [vS d.name, vI d.kind, vI d.type, lS d.values, vB d.must, lS d.keys, lD d.kids], .var [vS n.name, vS n.value, lN n.kids], .arr 9 1 (((d.keys.take i).filterMap (leafV n.kids)).map eS)]) (fun i => ∀ k ∈ d.keys.take i, (leafV n.kids k).isSome = true) rfl rfl ?_ ?_ ?_ ?_
  · simp (maxSteps := 200000) (disch := first | omega | (simp only [go_sem] <;> omega) | fail) only [go_sem]; rfl
  · simp
  · intro i h hI
    have hol : ((d.keys.take i).filterMap (leafV n.kids)).length ≤ i := by
      have := List.length_filterMap_le (leafV n.kids) (d.keys.take i)
      rw [List.length_take] at this; omega
    have hk1 := List.take_succ_eq_append_getElem h
    have hx := indexKey_spec n.kids d.keys[i] hn
    have hlv := leafV_idx n.kids d.keys[i]
    cases hf : n.kids.findIdx? fun x => decide (x.name = d.keys[i]) with
    | none =>
      rw [hf] at hx hlv
      simp only at hlv
      have hkn : keyOf d n = none := by
        unfold keyOf
        rw [if_neg]
        simp only [List.all_eq_true]
        intro hh
        have := hh _ (List.getElem_mem h)
        simp [hlv] at this
      have n1 : ((-1 : Int) < 0) = True := eq_true (by omega)
      simp (maxSteps := 200000) (disch := first | omega | (simp only [go_sem] <;> omega) | fail) only [go_sem, nat_int, h, eS_s, callA_pure mode_108, hx, posI, n1, hkn, Option.getD_none]
      rfl
    | some j =>
      rw [hf] at hx hlv
      simp only at hlv
      have hj : j < n.kids.length := by
        rw [List.findIdx?_eq_some_iff_getElem] at hf; exact hf.1
      rw [List.getElem?_eq_getElem hj, Option.map_some] at hlv
      have n1 : ((j : Int) < 0) = False := eq_false (by omega)
      have hall : ∀ k ∈ d.keys.take (i + 1), (leafV n.kids k).isSome = true := by
        rw [hk1]
        intro k hk
        rcases List.mem_append.1 hk with hk | hk
        · exact hI k hk
        · simp at hk; subst hk; simp [hlv]
      have hbs : (d.keys.take (i + 1)).filterMap (leafV n.kids) = (d.keys.take i).filterMap (leafV n.kids) ++ [n.kids[j].value] := by
        rw [hk1, List.filterMap_append]; simp [hlv]
      generalize (d.keys.take i).filterMap (leafV n.kids) = base at *
      simp (maxSteps := 200000) (disch := first | omega | (simp only [go_sem] <;> omega) | fail) only [go_sem, nat_int, h, hj, eS_s, eNode_s, callA_pure mode_108, hx, posI, n1, wrap_succ h (show d.keys.length ≤ 140737488355328 by omega), hbs]
      exact hall
  · intro hI
    rw [List.take_length] at hI
    have hk : keyOf d n = some (d.keys.filterMap (leafV n.kids)) := by
      unfold keyOf; rw [if_pos (by simpa using hI)]
    simp (maxSteps := 200000) (disch := first | omega | (simp only [go_sem] <;> omega) | fail) only [go_sem, nat_int, List.take_length, hk, Option.getD_some]
    rfl
theorem isSame_spec (d : Def) (n x : Node) (key : List Str) (hd : d.keys.length ≤ 1099511627776) (hx : x.kids.length ≤ 140737488355328) : pureW XX 110 [aNode x, .fp [vS d.name, vI d.kind, vI d.type, lS d.values, vB d.must, lS d.keys, lD d.kids], .fp [vS n.name, vS n.value, lN n.kids], .fp [lS key]] = some (vB (decide (x.name = n.name) && decide (keyD d x = key))) := by
  refine pureW_in 24 Tryz.func110 Tryz.ntmps110 (by simp) (rfl : Tryz.f110.body = some _) fns_110 ?_
  have hk := modelKey_spec d x hd hx
  have he := equal_spec (keyD d x) key (by have := keyD_len d x; omega)
  by_cases h1 : x.name = n.name
  · have h1' := eq_true h1
    simp (maxSteps := 200000) (disch := first | omega | (simp only [go_sem] <;> omega) | fail) only [go_sem, callA_data mode_56, hk, keyD_fold, h1', callA_pure mode_111, he]
  · simp (maxSteps := 200000) (disch := first | omega | (simp only [go_sem] <;> omega) | fail) only [go_sem, callA_data mode_56, hk, keyD_fold, h1, callA_pure mode_111, he]
theorem indexSame_spec (d : Def) (n : Node) (key : List Str) (l : List Node) (hl : l.length ≤ 140737488355328) (hd : d.keys.length ≤ 1099511627776) (hk : ∀ x ∈ l, x.kids.length ≤ 140737488355328) : pureW XX 108 [lN l, .fn 110 [.fp [vS d.name, vI d.kind, vI d.type, lS d.values, vB d.must, lS d.keys, lD d.kids], .fp [vS n.name, vS n.value, lN n.kids], .fp [lS key]]] = some (vI (posI (l.findIdx? fun x => (decide (x.name = n.name) && decide (keyD d x = key))))) := by
  refine pureW_in 19 Tryz.func108 Tryz.ntmps108 (by simp) (rfl : Tryz.f108.body = some _) fns_108 ?_
  simp (maxSteps := 200000) (disch := first | omega | (simp only [go_sem] <;> omega) | fail) only [go_sem]
  refine WP_range 2 0 l.length (fun i => S_108_2 (lN l) (.fn 110 [.fp [vS d.name, vI d.kind, vI d.type, lS d.values, vB d.must, lS d.keys, lD d.kids], .fp [vS n.name, vS n.value, lN n.kids], .fp [lS key]]) (vI l.length) (vI i) []) (fun i => (l.findIdx? fun x => (decide (x.name = n.name) && decide (keyD d x = key))) = ((l.drop i).findIdx? fun x => (decide (x.name = n.name) && decide (keyD d x = key))).map (· + i)) rfl rfl ?_ ?_ ?_ ?_
  · simp (maxSteps := 200000) (disch := first | omega | (simp only [go_sem] <;> omega) | fail) only [go_sem]; rfl
  · simp
  · intro i h hI
    rw [findIdx_step _ _ h] at hI
    have hk := isSame_spec d n l[i] key hd (hk _ (List.getElem_mem h))
    cases hv : (fun x => (decide (x.name = n.name) && decide (keyD d x = key))) l[i] with
    | true =>
      simp only at hv
      rw [hv] at hk hI
      simp (maxSteps := 200000) (disch := first | omega | (simp only [go_sem] <;> omega) | fail) only [go_sem, nat_int, h, eNode_s, callA_pure mode_110, hk]
      rw [hI]
      simp [posI]
    | false =>
      simp only at hv
      rw [hv] at hk hI
      simp (maxSteps := 200000) (disch := first | omega | (simp only [go_sem] <;> omega) | fail) only [go_sem, nat_int, h, eNode_s, callA_pure mode_110, hk, wrap_succ h hl]
      rw [hI]
      simp
      congr 1
      funext x
      simp
      omega
  · intro hI
    simp (maxSteps := 200000) (disch := first | omega | (simp only [go_sem] <;> omega) | fail) only [go_sem, nat_int]
    rw [hI]
    simp [posI]
theorem cmpS_zero : ∀ (a b : List Str), cmpS a b = 0 ↔ a = b
  | [], b => by
    simp only [cmpS]
    constructor
    · intro h
      exact (List.eq_nil_iff_length_eq_zero.2 (by omega)).symm
    · rintro rfl; rfl
  | a :: r, [] => by simp [cmpS]; omega
  | a :: r, b :: q => by
    rw [cmpS]
    have hs : ∀ s : Str, sless s s = false := by
      intro s
      have : ∀ l : List UInt8, Op.bytesLess l l = false := by
        intro l
        induction l with
        | nil => rfl
        | cons x l ih => simp [Op.bytesLess, ih]
      exact this _
    by_cases h1 : sless a b = true
    · rw [if_pos h1]
      constructor
      · intro h; cases h
      · intro h; cases h; rw [hs] at h1; cases h1
    · simp only [Bool.not_eq_true] at h1
      rw [if_neg (by simp [h1])]
      by_cases h2 : a = b
      · subst h2
        rw [if_neg (by simp), cmpS_zero r q]
        simp
      · rw [if_pos (by simp [h1, h2])]
        simp [h2]
theorem same_pred (d : Def) (n : Node) : (fun x : Node => decide (x.name = n.name) && decide (keyD d x = keyD d n)) = sameN d n := by
  funext x
  unfold sameN
  congr 1
  exact decide_eq_decide.2 (cmpS_zero _ _).symm
theorem modelSame_spec (d : Def) (l : List Node) (n : Node) (hd : d.keys.length ≤ 1099511627776) (hn : n.kids.length ≤ 140737488355328) (hl : l.length ≤ 140737488355328) (hk : ∀ x ∈ l, x.kids.length ≤ 140737488355328) : pureW XX 58 [aDef d, lN l, aNode n] = some (vI (posI (sameAt d l n))) := by
  refine pureW_in 18 Tryz.func58 Tryz.ntmps58 (by simp) (rfl : Tryz.f58.body = some _) fns_58 ?_
  have hx := modelKey_spec d n hd hn
  have hi := indexSame_spec d n (keyD d n) l hl hd hk
  rw [same_pred] at hi
  simp (maxSteps := 200000) (disch := first | omega | (simp only [go_sem] <;> omega) | fail) only [go_sem, callA_data mode_56, hx, keyD_fold, callA_pure mode_108, hi]
  rfl
end Go.Abs.SA
end
section
namespace Go.Abs.SA
open Go.Proofs
end Go.Abs.SA
end
section
namespace Go.Abs.SA
open Go.Proofs
end Go.Abs.SA
end
section
namespace Go.Abs.SA
open Go.Proofs
theorem sameAt_lt {d : Def} {l : List Node} {n : Node} {i : Nat} (h : sameAt d l n = some i) : i < l.length := by
  unfold sameAt at h
  rw [List.findIdx?_eq_some_iff_getElem] at h
  exact h.1
end Go.Abs.SA
end
section
namespace Go.Abs.SA
open Go.Proofs
theorem rdE_place {l : List Def} {e : Elem} {d : Def} {n : Node} (h : rdE l e = .ok (d, n)) : d ∈ l ∧ n.name = d.name := by
  rw [rdE_s] at h
  split at h
  · cases h
  · rename_i i hp
    obtain ⟨hi, hn⟩ := place_some hp
    rw [List.getElem?_eq_getElem hi] at h
    simp only at h
    split at h
    · split at h
      · cases h
      · cases h; exact ⟨List.getElem_mem hi, hn.symm⟩
    · split at h
      · cases h
      · split at h
        · cases h
        · split at h
          · cases h; exact ⟨List.getElem_mem hi, hn.symm⟩
          · cases h
theorem rdL_place (l : List Def) : ∀ (es : List Elem) (out all nodes : List Node), (∀ x ∈ out, ∃ d ∈ l, x.name = d.name) → rdL l out all es = .ok nodes → ∀ x ∈ nodes, ∃ d ∈ l, x.name = d.name
  | [], out, all, nodes, ho, h => by
    rw [rdL] at h
    split at h
    · cases h
    · cases h
      exact fun x hx => ho x ((order_mem l out).1 hx)
  | e :: r, out, all, nodes, ho, h => by
    rw [rdL] at h
    split at h
    · cases h
    · rename_i d n hn
      split at h
      · cases h
      · refine rdL_place l r _ _ _ ?_ h
        have h2 := rdE_place hn
        split
        · intro x hx
          rcases List.mem_append.1 hx with hx | hx
          · exact ho x hx
          · rw [List.mem_singleton.1 hx]; exact ⟨d, h2⟩
        · exact ho
end Go.Abs.SA
end
section
namespace Go.Abs.SA
open Go.Proofs
end Go.Abs.SA
end
section
namespace Go.Abs.SA
open Go.Proofs
mutual
def wfD : Def → Prop
  | .mk _ _ _ _ _ _ k => wfDs k
def wfDs : List Def → Prop
  | [] => True
  | d :: r => (∀ x ∈ r, d.name ≠ x.name) ∧ wfD d ∧ wfDs r
end
theorem wfD_s (d : Def) : wfD d = wfDs d.kids := by cases d; rw [wfD]; rfl
theorem wfDs_mem : ∀ {l : List Def} {d : Def}, wfDs l → d ∈ l → wfD d
  | x :: r, d, h, hm => by
    rw [wfDs] at h
    rcases List.mem_cons.1 hm with rfl | hm
    · exact h.2.1
    · exact wfDs_mem h.2.2 hm
theorem wfDs_inj : ∀ {l : List Def} {a b : Def}, wfDs l → a ∈ l → b ∈ l → a.name = b.name → a = b
  | x :: r, a, b, h, ha, hb, he => by
    rw [wfDs] at h
    rcases List.mem_cons.1 ha with e1 | ha1
    · rcases List.mem_cons.1 hb with e2 | hb1
      · rw [e1, e2]
      · rw [e1] at he; exact absurd he (h.1 b hb1)
    · rcases List.mem_cons.1 hb with e2 | hb1
      · rw [e2] at he; exact absurd he.symm (h.1 a ha1)
      · exact wfDs_inj h.2.2 ha1 hb1 he
end Go.Abs.SA
end
section
namespace Go.Abs.SA
open Go.Proofs
theorem sameN_iff {d : Def} {n x : Node} : sameN d n x = true ↔ x.name = n.name ∧ keyD d x = keyD d n := by
  simp [sameN, cmpS_zero]
mutual
def goodN (l : List Def) (a : List Node) : Node → Prop
  | .mk n v k => ∃ d ∈ l, n = d.name ∧ (∀ y ∈ a, sameN d (.mk n v k) y = true → y = .mk n v k) ∧ goodL d.kids k k
def goodL (l : List Def) (a : List Node) : List Node → Prop
  | [] => True
  | x :: r => goodN l a x ∧ goodL l a r
end
theorem goodN_s {l : List Def} {a : List Node} {x : Node} : goodN l a x ↔ ∃ d ∈ l, x.name = d.name ∧ (∀ y ∈ a, sameN d x y = true → y = x) ∧ goodL d.kids x.kids x.kids := by
  cases x; rw [goodN]; rfl
theorem goodL_iff {l : List Def} {a : List Node} : ∀ {b : List Node}, goodL l a b ↔ ∀ x ∈ b, goodN l a x
  | [] => by simp [goodL]
  | x :: r => by rw [goodL, goodL_iff (b := r)]; simp
mutual
theorem rdE_good (l : List Def) (hw : wfDs l) : ∀ (e : Elem) (d : Def) (n : Node), rdE l e = .ok (d, n) → goodL d.kids n.kids n.kids
  | .mk s nm a t k, d, n, h => by
    rw [rdE] at h
    split at h
    · cases h
    · split at h
      · cases h
      · rename_i d' hd'
        split at h
        · split at h
          · cases h
          · cases h; simp [Node.kids, goodL]
        · split at h
          · cases h
          · split at h
            · cases h
            · rename_i nodes hn
              split at h
              · cases h
                have hwd := wfDs_mem hw (List.mem_of_getElem? hd')
                rw [wfD_s] at hwd
                exact rdL_good _ hwd k [] [] _ (by simp) (by simp) (by simp) hn
              · cases h
theorem rdL_good (l : List Def) (hw : wfDs l) : ∀ (es : List Elem) (out all nodes : List Node), (∀ x ∈ out, x ∈ all) → (∀ x ∈ all, ∃ d ∈ l, x.name = d.name ∧ goodL d.kids x.kids x.kids) →
    (∀ x ∈ all, ∀ y ∈ all, ∀ d ∈ l, x.name = d.name → sameN d x y = true → y = x) → rdL l out all es = .ok nodes → goodL l nodes nodes
  | [], out, all, nodes, h1, h2, h3, h => by
    rw [rdL] at h
    split at h
    · cases h
    · cases h
      rw [goodL_iff]
      intro x hx
      have hxa := h1 x ((order_mem l out).1 hx)
      obtain ⟨d, hd, he, hg⟩ := h2 x hxa
      rw [goodN_s]
      exact ⟨d, hd, he, fun y hy hs => h3 x hxa y (h1 y ((order_mem l out).1 hy)) d hd he hs, hg⟩
  | e :: r, out, all, nodes, h1, h2, h3, h => by
    rw [rdL] at h
    split at h
    · cases h
    · rename_i d n hn
      split at h
      · cases h
      · rename_i hsn
        have hpl := rdE_place hn
        have hgd := rdE_good l hw e d n hn
        have hno : ∀ x ∈ all, sameN d n x = false := by
          intro x hx
          have : sameAt d all n = none := by
            cases hq : sameAt d all n with
            | none => rfl
            | some i => rw [hq] at hsn; simp at hsn
          unfold sameAt at this
          rw [List.findIdx?_eq_none_iff] at this
          exact this x hx
        refine rdL_good l hw r _ _ _ ?_ ?_ ?_ h
        · intro x hx
          split at hx
          · rcases List.mem_append.1 hx with hx | hx
            · exact List.mem_append.2 (.inl (h1 x hx))
            · exact List.mem_append.2 (.inr hx)
          · exact List.mem_append.2 (.inl (h1 x hx))
        · intro x hx
          rcases List.mem_append.1 hx with hx | hx
          · exact h2 x hx
          · rw [List.mem_singleton.1 hx]; exact ⟨d, hpl.1, hpl.2, hgd⟩
        · intro x hx y hy d' hd' he hs
          rcases List.mem_append.1 hx with hx | hx
          · rcases List.mem_append.1 hy with hy | hy
            · exact h3 x hx y hy d' hd' he hs
            · rw [List.mem_singleton.1 hy] at hs ⊢
              obtain ⟨s1, s2⟩ := sameN_iff.1 hs
              have : d' = d := wfDs_inj hw hd' hpl.1 (he.symm.trans (s1.symm.trans hpl.2))
              subst this
              have := hno x hx
              rw [sameN_iff.2 ⟨s1.symm, s2.symm⟩] at this
              cases this
          · rw [List.mem_singleton.1 hx] at hs he ⊢
            rcases List.mem_append.1 hy with hy | hy
            · have : d' = d := wfDs_inj hw hd' hpl.1 (he.symm.trans hpl.2)
              subst this
              rw [hno y hy] at hs
              cases hs
            · exact List.mem_singleton.1 hy
end
theorem wf_schema : wfDs schema := by
  simp [wfDs, wfD, schema, leafD, portD, sName, Def.name]
theorem sameAt_self {d : Def} {a : List Node} {x : Node} (hx : x ∈ a) (hu : ∀ y ∈ a, sameN d x y = true → y = x) : ∃ i, ∃ hi : i < a.length, sameAt d a x = some i ∧ a[i] = x := by
  cases h : sameAt d a x with
  | none =>
    unfold sameAt at h
    rw [List.findIdx?_eq_none_iff] at h
    have := h x hx
    rw [sameN_iff.2 ⟨rfl, rfl⟩] at this
    cases this
  | some i =>
    have hi := sameAt_lt h
    refine ⟨i, hi, rfl, ?_⟩
    unfold sameAt at h
    rw [List.findIdx?_eq_some_iff_getElem] at h
    exact hu _ (List.getElem_mem hi) h.2.1
theorem good_cond {l : List Def} {a : List Node} (hw : wfDs l) (hg : goodL l a a) : ∀ d ∈ l, ∀ x ∈ a, x.name = d.name → (∀ y ∈ a, sameN d x y = true → y = x) ∧ goodL d.kids x.kids x.kids := by
  intro d hd x hx he
  obtain ⟨d', hd', he', h1, h2⟩ := goodN_s.1 (goodL_iff.1 hg x hx)
  have : d' = d := wfDs_inj hw hd' hd (he'.symm.trans he)
  subst this
  exact ⟨h1, h2⟩
def eG (g : List Str) : List AV := [lS g]
theorem eG_len (g : List Str) : (eG g).length = 1 := rfl
instance : EL eG 1 := ⟨eG_len⟩
def three : List (List Str) := [[], [sG], [sH, sG]]
end Go.Abs.SA
end
section
namespace Go.Abs.SA
open Go.Proofs
theorem isDef_spec (d : Def) (k : Str) : pureW XX 107 [aDef d, .fp [vS k]] = some (vB (decide (d.name = k))) := by
  refine pureW_in 8 Tryz.func107 Tryz.ntmps107 (by simp) (rfl : Tryz.f107.body = some _) fns_107 ?_
  simp (maxSteps := 200000) (disch := first | omega | (simp only [go_sem] <;> omega) | fail) only [go_sem]
theorem indexDef_spec (l : List Def) (k : Str) (hl : l.length ≤ 140737488355328)  : pureW XX 106 [lD l, .fn 107 [.fp [vS k]]] = some (vI (posI (l.findIdx? fun x => decide (x.name = k)))) := by
  refine pureW_in 19 Tryz.func106 Tryz.ntmps106 (by simp) (rfl : Tryz.f106.body = some _) fns_106 ?_
  simp (maxSteps := 200000) (disch := first | omega | (simp only [go_sem] <;> omega) | fail) only [go_sem]
  refine WP_range 2 0 l.length (fun i => S_106_2 (lD l) (.fn 107 [.fp [vS k]]) (vI l.length) (vI i) []) (fun i => (l.findIdx? fun x => decide (x.name = k)) = ((l.drop i).findIdx? fun x => decide (x.name = k)).map (· + i)) rfl rfl ?_ ?_ ?_ ?_
  · simp (maxSteps := 200000) (disch := first | omega | (simp only [go_sem] <;> omega) | fail) only [go_sem]; rfl
  · simp
  · intro i h hI
    rw [findIdx_step _ _ h] at hI
    have hk := isDef_spec l[i] k
    cases hv : (fun x => decide (x.name = k)) l[i] with
    | true =>
      simp only at hv
      rw [hv] at hk hI
      simp (maxSteps := 200000) (disch := first | omega | (simp only [go_sem] <;> omega) | fail) only [go_sem, nat_int, h, eDef_s, callA_pure mode_107, hk]
      rw [hI]
      simp [posI]
    | false =>
      simp only at hv
      rw [hv] at hk hI
      simp (maxSteps := 200000) (disch := first | omega | (simp only [go_sem] <;> omega) | fail) only [go_sem, nat_int, h, eDef_s, callA_pure mode_107, hk, wrap_succ h hl]
      rw [hI]
      simp
      congr 1
      funext x
      simp
      omega
  · intro hI
    simp (maxSteps := 200000) (disch := first | omega | (simp only [go_sem] <;> omega) | fail) only [go_sem, nat_int]
    rw [hI]
    simp [posI]
theorem find_spec (l : List Def) (k : Str) (hl : l.length ≤ 140737488355328) : pureW XX 55 [lD l, vS k] = some (vI (posI (place l k))) := by
  refine pureW_in 8 Tryz.func55 Tryz.ntmps55 (by simp) (rfl : Tryz.f55.body = some _) fns_55 ?_
  have hi := indexDef_spec l k hl
  simp (maxSteps := 200000) (disch := first | omega | (simp only [go_sem] <;> omega) | fail) only [go_sem, callA_pure mode_106, hi]
  rfl
inductive Pk where
  | nil
  | mk (all : Bool) (kids : List Pk)
  deriving Inhabited
mutual
def aPk : Pk → AV
  | .nil => .v (.pointer none)
  | .mk a k => .fp [vB a, .fs (ePks k) false]
def ePks : List Pk → List (List AV)
  | [] => []
  | p :: r => [aPk p] :: ePks r
end
def ePk (p : Pk) : List AV := [aPk p]
theorem ePk_len (p : Pk) : (ePk p).length = 1 := rfl
attribute [go_sem] ePk_len
instance : EL ePk 1 := ⟨ePk_len⟩
end Go.Abs.SA
end
section
namespace Go.Abs.SA
open Go.Proofs
end Go.Abs.SA
end
section
namespace Go.Abs.SA
open Go.Proofs
end Go.Abs.SA
end
section
namespace Go.Abs.SA
open Go.Proofs
end Go.Abs.SA
end
section
namespace Go.Abs.SA
open Go.Proofs
end Go.Abs.SA
end
section
namespace Go.Abs.SA
open Go.Proofs
end Go.Abs.SA
end
section
namespace Go.Abs.SA
open Go.Proofs
end Go.Abs.SA
end
section
namespace Go.Abs.SA
open Go.Proofs
end Go.Abs.SA
end
section
namespace Go.Abs.SA
open Go.Proofs
end Go.Abs.SA
end
section
namespace Go.Abs.SA
open Go.Proofs
end Go.Abs.SA
end
section
namespace Go.Abs.SA
open Go.Proofs
end Go.Abs.SA
end
section
namespace Go.Abs.SA
open Go.Proofs
mutual
def ndN : Node → Prop
  | .mk _ _ k => k.Nodup ∧ ndL k
def ndL : List Node → Prop
  | [] => True
  | x :: r => ndN x ∧ ndL r
end
theorem ndL_iff : ∀ {l : List Node}, ndL l ↔ ∀ x ∈ l, ndN x
  | [] => by simp [ndL]
  | x :: r => by rw [ndL, ndL_iff (l := r)]; simp
theorem ins_perm (l : List Def) (out : List Node) (n : Node) : (ins l out n).Perm (n :: out) := by
  unfold ins
  refine List.perm_middle.trans ?_
  rw [List.take_append_drop]
theorem foldl_ins_perm (l : List Def) : ∀ (ns out : List Node), (ns.foldl (ins l) out).Perm (ns ++ out)
  | [], out => by simp
  | n :: r, out => by
    rw [List.foldl_cons]
    refine (foldl_ins_perm l r _).trans ?_
    refine ((ins_perm l out n).append_left r).trans ?_
    rw [List.cons_append]
    exact List.perm_middle
theorem order_perm (l : List Def) (ns : List Node) : (order l ns).Perm ns := by
  have := foldl_ins_perm l ns []
  rwa [List.append_nil] at this
mutual
theorem rdE_nd (l : List Def) : ∀ (e : Elem) (d : Def) (n : Node), rdE l e = .ok (d, n) → ndN n
  | .mk s nm a t k, d, n, h => by
    rw [rdE] at h
    split at h
    · cases h
    · split at h
      · cases h
      · split at h
        · split at h
          · cases h
          · cases h; simp [ndN, ndL]
        · split at h
          · cases h
          · split at h
            · cases h
            · rename_i d' _ _ _ nodes hn
              split at h
              · cases h
                rw [ndN]
                exact rdL_nd _ k [] [] _ (by simp) (by simp) (by simp [ndL]) hn
              · cases h
theorem rdL_nd (l : List Def) : ∀ (es : List Elem) (out all nodes : List Node), out.Nodup → (∀ x ∈ out, x ∈ all) → ndL out → rdL l out all es = .ok nodes → nodes.Nodup ∧ ndL nodes
  | [], out, all, nodes, h1, h2, h3, h => by
    rw [rdL] at h
    split at h
    · cases h
    · cases h
      refine ⟨(order_perm l out).nodup_iff.2 h1, ?_⟩
      rw [ndL_iff] at h3 ⊢
      exact fun x hx => h3 x ((order_mem l out).1 hx)
  | e :: r, out, all, nodes, h1, h2, h3, h => by
    rw [rdL] at h
    split at h
    · cases h
    · rename_i d n hn
      split at h
      · cases h
      · rename_i hsn
        have hnd := rdE_nd l e d n hn
        have hno : n ∉ all := by
          intro hx
          have : sameAt d all n = none := by
            cases hq : sameAt d all n with
            | none => rfl
            | some i => rw [hq] at hsn; simp at hsn
          unfold sameAt at this
          rw [List.findIdx?_eq_none_iff] at this
          have := this n hx
          rw [sameN_iff.2 ⟨rfl, rfl⟩] at this
          cases this
        refine rdL_nd l r _ _ _ ?_ ?_ ?_ h
        · split
          · rw [List.nodup_append]
            refine ⟨h1, by simp, fun a ha b hb => ?_⟩
            rw [List.mem_singleton] at hb
            subst hb
            rintro rfl
            exact hno (h2 _ ha)
          · exact h1
        · intro x hx
          split at hx
          · rcases List.mem_append.1 hx with hx | hx
            · exact List.mem_append.2 (.inl (h2 x hx))
            · exact List.mem_append.2 (.inr hx)
          · exact List.mem_append.2 (.inl (h2 x hx))
        · split
          · rw [ndL_iff] at h3 ⊢
            intro x hx
            rcases List.mem_append.1 hx with hx | hx
            · exact h3 x hx
            · rw [List.mem_singleton.1 hx]; exact hnd
          · exact h3
end
end Go.Abs.SA
end
