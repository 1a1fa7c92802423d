/- YtmjhgjgfinhiaaaGreatDoorVa5: a part of the interpreter by which the claim is shown, and of the walks: no conditions of its own: every theorem states its own. -/
import Derived.Test.YtmjhgjgfinhiaaaGreatDoorVa4
set_option linter.unusedVariables false
set_option linter.unusedSimpArgs false
set_option linter.unusedSectionVars false
set_option maxHeartbeats 8000000
set_option maxRecDepth 100000
section
namespace Go.Abs.SA
open Go.Proofs
abbrev Str := ByteArray
abbrev vS (s : Str) : AV := .v (.string s)
abbrev vI (n : Int) : AV := .v (.int .i64 n)
abbrev vB (b : Bool) : AV := .v (.bool b)
abbrev eS (s : Str) : List AV := [vS s]
abbrev lS (l : List Str) : AV := .fs (l.map eS) false
theorem eS_len (s : Str) : (eS s).length = 1 := rfl
attribute [go_sem] eS_len
instance : EL eS 1 := ⟨eS_len⟩
theorem snoc_S (l : List Str) (x : Str) : l.map eS ++ [[.v (.string x)]] = (l ++ [x]).map eS := by simp
attribute [go_sem] snoc_S
def posI : Option Nat → Int
  | some i => i
  | none => -1
theorem nat_int {i n : Nat} : ((i : Int) < (n : Int)) = (i < n) := propext (by omega)
theorem nat_int_ne {i n : Nat} : ((i : Int) ≠ (n : Int)) = (i ≠ n) := propext (by omega)
def has (l : List Str) (v : Str) : Bool := l.any fun x => decide (v = x)
theorem index_spec (xs : List Str) (v : Str) (hl : xs.length ≤ 140737488355328) : pureW XX 142 [lS xs, vS v] = some (vI (posI (xs.findIdx? (v = ·)))) := by
  refine pureW_in 19 Tryz.func142 Tryz.ntmps142 (by simp) (rfl : Tryz.f142.body = some _) fns_142 ?_
  simp only [go_sem]
  refine WP_range 2 0 xs.length (fun i => S_142_2 (lS xs) (vS v) (vI xs.length) (vI i) []) (fun i => xs.findIdx? (v = ·) = ((xs.drop i).findIdx? (v = ·)).map (· + i)) rfl rfl ?_ ?_ ?_ ?_
  · simp only [go_sem]; rfl
  · simp
  · intro i h hI
    rw [List.drop_eq_getElem_cons h, List.findIdx?_cons] at hI
    by_cases hv : v = xs[i]
    · simp only [go_sem, nat_int, h, ← hv]
      rw [hI]
      simp [← hv, posI]
    · simp only [go_sem, nat_int, h, hv, wrap_succ h hl]
      rw [hI]
      simp [hv]
      congr 1
      funext x
      simp
      omega
  · intro hI
    simp only [go_sem, nat_int, Nat.lt_irrefl]
    rw [hI]
    simp [posI]
theorem posI_geq (o : Option Nat) : (0 ≤ posI o) = (o.isSome = true) := by
  cases o <;> simp [posI]
theorem contains_spec (xs : List Str) (v : Str) (hl : xs.length ≤ 140737488355328) : pureW XX 117 [lS xs, vS v] = some (vB (has xs v)) := by
  refine pureW_in 9 Tryz.func117 Tryz.ntmps117 (by simp) (rfl : Tryz.f117.body = some _) fns_117 ?_
  simp only [go_sem, callA_pure mode_142, index_spec _ _ hl, pureR, AV.scalar, posI_geq]
  simp [has]
theorem drop_eq {α : Type} {xs ys : List α} {i : Nat} (h1 : i < xs.length) (h2 : i < ys.length) : (xs.drop i = ys.drop i) = (xs[i] = ys[i] ∧ xs.drop (i + 1) = ys.drop (i + 1)) := by
  rw [List.drop_eq_getElem_cons h1, List.drop_eq_getElem_cons h2, List.cons.injEq]
theorem equal_spec (xs ys : List Str) (hl : xs.length ≤ 140737488355328) : pureW XX 111 [lS xs, lS ys] = some (vB (decide (xs = ys))) := by
  refine pureW_in 26 Tryz.func111 Tryz.ntmps111 (by simp) (rfl : Tryz.f111.body = some _) fns_111 ?_
  by_cases hn : xs.length = ys.length
  · simp only [go_sem, nat_int_ne, hn, ne_eq, not_true]
    refine WP_range 4 0 ys.length (fun i => S_111_4 (lS xs) (lS ys) (vI xs.length) (vI i) []) (fun i => (xs = ys) = (xs.drop i = ys.drop i)) rfl rfl ?_ ?_ ?_ ?_
    · simp only [go_sem]; rw [hn]; rfl
    · simp
    · intro i h hI
      rw [drop_eq (by omega) h] at hI
      by_cases hv : xs[i] = ys[i]
      · simp only [go_sem, nat_int, h, hn, hv, ne_eq, not_true, wrap_succ h (hn ▸ hl)]
        simp [hI, hv]
      · simp only [go_sem, nat_int, h, hn, hv, ne_eq, not_false_eq_true]
        simp [hI, hv]
    · intro hI
      simp only [go_sem, nat_int, hn, Nat.lt_irrefl]
      simp [hI, List.drop_of_length_le (Nat.le_of_eq hn)]
  · have hne : xs ≠ ys := fun e => hn (by rw [e])
    simp only [go_sem, nat_int_ne, hn, ne_eq, not_false_eq_true, hne]
end Go.Abs.SA
end
section
namespace Go.Abs.SA
open Go.Proofs
theorem has_spec (xs : List Str) (v : Str) (hl : xs.length ≤ 140737488355328) : pureW XX 96 [lS xs, vS v] = some (vB (has xs v)) := by
  refine pureW_in 18 Tryz.func96 Tryz.ntmps96 (by simp) (rfl : Tryz.f96.body = some _) fns_96 ?_
  simp only [go_sem]
  refine WP_range 2 0 xs.length (fun i => S_96_2 (lS xs) (vS v) (vI i) []) (fun i => has xs v = has (xs.drop i) v) rfl rfl ?_ ?_ ?_ ?_
  · simp only [go_sem]; rfl
  · simp
  · intro i h hI
    rw [List.drop_eq_getElem_cons h] at hI
    by_cases hv : xs[i] = v
    · simp only [go_sem, nat_int, h, hv]
      rw [hI]; simp [has, hv]
    · simp only [go_sem, nat_int, h, hv, wrap_succ h hl]
      rw [hI, has, List.any_cons, decide_eq_false (Ne.symm hv), Bool.false_or]; rfl
  · intro hI
    simp only [go_sem, nat_int, Nat.lt_irrefl]
    rw [hI]; simp [has]
end Go.Abs.SA
end
section
namespace Go.Abs.SA
open Go.Proofs
structure Rule where
  group : Str
  rights : Int
  path : List Str
  permit : Bool
structure Policy where
  rules : List Rule
  read : Bool
  write : Bool
def eRule (r : Rule) : List AV := [vS r.group, vI r.rights, lS r.path, vB r.permit]
theorem eRule_len (r : Rule) : (eRule r).length = 4 := rfl
theorem eS_s (s : Str) : eS s = [vS s] := nr rfl
attribute [go_sem] eRule_len
instance : EL eRule 4 := ⟨eRule_len⟩
inductive Node where
  | mk (name value : Str) (kids : List Node)
def Node.name : Node → Str | .mk n _ _ => n
def Node.value : Node → Str | .mk _ v _ => v
def Node.kids : Node → List Node | .mk _ _ k => k
mutual
def eNode : Node → List AV
  | .mk n v k => [vS n, vS v, .fs (eNodes k) false]
def eNodes : List Node → List (List AV)
  | [] => []
  | n :: r => eNode n :: eNodes r
end
theorem eNodes_map : ∀ (l : List Node), eNodes l = l.map eNode
  | [] => rfl
  | n :: r => by simp [eNodes, eNodes_map r]
theorem eNode_s (n : Node) : eNode n = [vS n.name, vS n.value, .fs (n.kids.map eNode) false] := by
  cases n; simp [eNode, eNodes_map, Node.name, Node.value, Node.kids]
theorem eNode_len (n : Node) : (eNode n).length = 3 := by rw [eNode_s]; rfl
attribute [go_sem] eNode_len
instance : EL eNode 3 := ⟨eNode_len⟩
theorem snoc_N (l : List Node) (a b : Str) (k : List Node) : l.map eNode ++ [[.v (.string a), .v (.string b), .fs (k.map eNode) false]] = (l ++ [Node.mk a b k]).map eNode := by
  simp [eNode_s, Node.name, Node.value, Node.kids]
attribute [go_sem] snoc_N
abbrev lN (l : List Node) : AV := .fs (l.map eNode) false
def Rule.says (groups : List Str) (right : Int) (path : List Str) (r : Rule) : Bool :=
  decide (bitI .and .i64 r.rights right ≠ 0) && (decide (r.group = ⟨#[]⟩) || has groups r.group) && decide (r.path <+: path)
def may (p : Policy) (groups : List Str) (right : Int) (path : List Str) : Bool :=
  match p.rules.find? (Rule.says groups right path) with
  | some r => r.permit
  | none => if right = 1 then p.read else p.write
structure Policy.ok (p : Policy) : Prop where
  len : p.rules.length ≤ 140737488355328
  path : ∀ r ∈ p.rules, r.path.length ≤ 140737488355328
end Go.Abs.SA
end
section
namespace Go.Abs.SA
open Go.Proofs
noncomputable instance : DecidableEq Node := fun a b => Classical.propDecidable (a = b)
mutual
def cntN : Node → Nat
  | .mk _ _ k => 1 + cntL k
def cntL : List Node → Nat
  | [] => 0
  | x :: r => cntN x + cntL r
end
theorem cntN_s (n : Node) : cntN n = 1 + cntL n.kids := by cases n; simp [cntN, Node.kids]
theorem cntL_cons (x : Node) (r : List Node) : cntL (x :: r) = cntN x + cntL r := by simp [cntL]
theorem len_cnt : ∀ (l : List Node), l.length ≤ cntL l
  | [] => Nat.zero_le _
  | x :: r => by have := len_cnt r; have := cntN_s x; rw [cntL_cons, List.length_cons]; omega
theorem cnt_mem : ∀ {l : List Node} {x : Node}, x ∈ l → cntN x ≤ cntL l
  | y :: r, x, h => by
    rw [cntL_cons]
    rcases List.mem_cons.1 h with rfl | h
    · omega
    · have := cnt_mem h; omega
theorem cnt_kids {l : List Node} {i : Nat} (h : i < l.length) : cntL l[i].kids < cntL l := by
  have := cnt_mem (List.getElem_mem h); rw [cntN_s] at this; omega
theorem node_eq (a b : Node) : (a = b) = (a.name = b.name ∧ a.value = b.value ∧ a.kids = b.kids) := by
  cases a; cases b; simp [Node.name, Node.value, Node.kids]
end Go.Abs.SA
end
section
namespace Go.Abs.SA
open Go.Proofs
end Go.Abs.SA
end
section
namespace Go.Abs.SA
open Go.Proofs
end Go.Abs.SA
end
section
namespace Go.Abs.SA
open Go.Proofs
end Go.Abs.SA
end
section
namespace Go.Abs.SA
open Go.Proofs
inductive Elem where
  | mk (space name : Str) (attrs : List (Str × Str)) (text : Str) (kids : List Elem)
def Elem.space : Elem → Str | .mk s _ _ _ _ => s
def Elem.name : Elem → Str | .mk _ n _ _ _ => n
def Elem.attrs : Elem → List (Str × Str) | .mk _ _ a _ _ => a
def Elem.text : Elem → Str | .mk _ _ _ t _ => t
def Elem.kids : Elem → List Elem | .mk _ _ _ _ k => k
def eAttr (a : Str × Str) : List AV := [vS a.1, vS a.2]
mutual
def eElem : Elem → List AV
  | .mk s n a t k => [vS s, vS n, .fs (a.map eAttr) false, vS t, .fs (eElems k) false]
def eElems : List Elem → List (List AV)
  | [] => []
  | e :: r => eElem e :: eElems r
end
theorem eElems_map : ∀ (l : List Elem), eElems l = l.map eElem
  | [] => rfl
  | n :: r => by simp [eElems, eElems_map r]
theorem eElem_s (e : Elem) : eElem e = [vS e.space, vS e.name, .fs (e.attrs.map eAttr) false, vS e.text, .fs (e.kids.map eElem) false] := by
  cases e; simp [eElem, eElems_map, Elem.space, Elem.name, Elem.attrs, Elem.text, Elem.kids]
theorem eElem_len (e : Elem) : (eElem e).length = 5 := by rw [eElem_s]; rfl
attribute [go_sem] eElem_len
instance : EL eElem 5 := ⟨eElem_len⟩
abbrev lE (l : List Elem) : AV := .fs (l.map eElem) false
mutual
def okE : Elem → Prop
  | .mk s n a t k => s.size ≤ 140737488355328 ∧ n.size ≤ 140737488355328 ∧ a.length ≤ 140737488355328 ∧ t.size ≤ 140737488355328 ∧ k.length ≤ 140737488355328 ∧ okEs k
def okEs : List Elem → Prop
  | [] => True
  | e :: r => okE e ∧ okEs r
end
theorem okEs_mem : ∀ {l : List Elem} {e : Elem}, okEs l → e ∈ l → okE e
  | x :: r, e, h, hm => by
    simp only [okEs] at h
    rcases List.mem_cons.1 hm with rfl | hm
    · exact h.1
    · exact okEs_mem h.2 hm
theorem okE_s {e : Elem} (h : okE e) : e.space.size ≤ 140737488355328 ∧ e.name.size ≤ 140737488355328 ∧ e.attrs.length ≤ 140737488355328 ∧ e.text.size ≤ 140737488355328 ∧ e.kids.length ≤ 140737488355328 ∧ okEs e.kids := by
  cases e; simpa [okE, Elem.space, Elem.name, Elem.attrs, Elem.text, Elem.kids] using h
def wE (e : Elem) : Nat := 1 + (e.text.size + e.space.size + e.name.size) / 50 + e.attrs.length
mutual
def smallN (n : Int) : Elem → Int
  | .mk s nm a t k => if n - wE (.mk s nm a t k) < 0 then n - wE (.mk s nm a t k) else smallL (n - wE (.mk s nm a t k)) k
def smallL (n : Int) : List Elem → Int
  | [] => n
  | e :: r => if n - wE e < 0 then n - wE e else smallL (smallN n e) r
end
theorem smallN_s (n : Int) (e : Elem) : smallN n e = if n - wE e < 0 then n - wE e else smallL (n - wE e) e.kids := by
  cases e; simp only [smallN, Elem.kids]
end Go.Abs.SA
end
section
namespace Go.Abs.SA
open Go.Proofs
theorem wE_bd {e : Elem} (h : okE e) : 1 ≤ wE e ∧ wE e ≤ 562949953421312 := by
  obtain ⟨h1, h2, h3, h4, _⟩ := okE_s h
  unfold wE; omega
theorem smallL_cons (n : Int) (e : Elem) (r : List Elem) : smallL n (e :: r) = if n - wE e < 0 then n - wE e else smallL (smallN n e) r := by simp only [smallL]
mutual
theorem smallN_bd : ∀ (e : Elem) (m : Int), 0 ≤ m → okE e → -(m + 1) * 562949953421312 ≤ smallN m e ∧ smallN m e ≤ m ∧ (0 ≤ m - wE e → -m * 562949953421312 ≤ smallN m e ∧ smallN m e < m)
  | .mk s nm a t k, m, hm, h => by
    have hw := wE_bd h
    have hk : okEs k := by simp only [okE] at h; exact h.2.2.2.2.2
    simp only [smallN]
    split
    · refine ⟨by omega, by omega, fun h => by omega⟩
    · rename_i hn
      have := smallL_bd k (m - wE (.mk s nm a t k)) (by omega) hk
      refine ⟨by omega, by omega, fun h => by omega⟩
theorem smallL_bd : ∀ (l : List Elem) (m : Int), 0 ≤ m → okEs l → -(m + 1) * 562949953421312 ≤ smallL m l ∧ smallL m l ≤ m
  | [], m, hm, h => by simp only [smallL]; omega
  | e :: r, m, hm, h => by
    simp only [okEs] at h
    have hw := wE_bd h.1
    have h1 := smallN_bd e m hm h.1
    simp only [smallL]
    split
    · omega
    · rename_i hn
      have h2 := h1.2.2 (by omega)
      by_cases h3 : 0 ≤ smallN m e
      · have := smallL_bd r (smallN m e) h3 h.2
        omega
      · cases r with
        | nil => simp only [smallL]; omega
        | cons e' r' =>
          simp only [okEs] at h
          have hw' := wE_bd h.2.1
          rw [smallL_cons, if_pos (by omega)]
          omega
end
mutual
def cntE : Elem → Nat
  | .mk _ _ _ _ k => 1 + cntEs k
def cntEs : List Elem → Nat
  | [] => 0
  | e :: r => cntE e + cntEs r
end
theorem cntE_s (e : Elem) : cntE e = 1 + cntEs e.kids := by cases e; simp [cntE, Elem.kids]
theorem cntE_mem : ∀ {l : List Elem} {x : Elem}, x ∈ l → cntE x ≤ cntEs l
  | y :: r, x, h => by
    simp only [cntEs]
    rcases List.mem_cons.1 h with rfl | h
    · omega
    · have := cntE_mem h; omega
theorem cntE_kids {l : List Elem} {i : Nat} (h : i < l.length) : cntEs l[i].kids < cntEs l := by
  have := cntE_mem (List.getElem_mem h); rw [cntE_s] at this; omega
theorem small_spec : ∀ (k : Nat) (l : List Elem) (n : Int), cntEs l < k → okEs l → l.length ≤ 140737488355328 → 0 ≤ n → n ≤ 300 → pureW XX 20 [lE l, vI n] = some (vI (smallL n l)) := by
  intro k
  induction k with
  | zero => intro l n h; omega
  | succ k ih =>
    intro l n hc hok hl h0 h300
    refine pureW_in 41 Tryz.func20 Tryz.ntmps20 (by simp) (rfl : Tryz.f20.body = some _) fns_20 ?_
    simp (maxSteps := 200000) (disch := first | omega | (simp only [go_sem] <;> omega) | fail) only [go_sem]
    refine WP_range 2 0 l.length (fun i => S_20_2 (vI ((l.take i).foldl smallN n)) (lE l) (vI l.length) (vI i) []) (fun i => smallL n l = smallL ((l.take i).foldl smallN n) (l.drop i) ∧ (l.take i).foldl smallN n ≤ 300 ∧ -(301 * 562949953421312) ≤ (l.take i).foldl smallN n) rfl rfl ?_ ?_ ?_ ?_
    · simp (maxSteps := 200000) (disch := first | omega | (simp only [go_sem] <;> omega) | fail) only [go_sem]; rfl
    · simp; omega
    · rintro i h ⟨hI, hu, hd⟩
      have hke := okEs_mem hok (List.getElem_mem h)
      obtain ⟨k1, k2, k3, k4, k5, k6⟩ := okE_s hke
      have hw := wE_bd hke
      have ht : (l.take (i + 1)).foldl smallN n = smallN ((l.take i).foldl smallN n) l[i] := by
        rw [List.take_succ_eq_append_getElem h, List.foldl_append]; rfl
      generalize (l.take i).foldl smallN n = m at *
      rw [List.drop_eq_getElem_cons h, smallL_cons] at hI
      have e1 : IntKind.i64.wrap ((l[i].text.size : Int) + (l[i].space.size : Int)) = ((l[i].text.size + l[i].space.size : Nat) : Int) := by rw [IntWalk.i64_in _ (by omega)]; omega
      have e2 : IntKind.i64.wrap (((l[i].text.size + l[i].space.size : Nat) : Int) + (l[i].name.size : Int)) = ((l[i].text.size + l[i].space.size + l[i].name.size : Nat) : Int) := by rw [IntWalk.i64_in _ (by omega)]; omega
      have e3 : IntKind.i64.wrap (((l[i].text.size + l[i].space.size + l[i].name.size : Nat) : Int).tdiv 50) = (((l[i].text.size + l[i].space.size + l[i].name.size) / 50 : Nat) : Int) := by
        rw [Int.tdiv_eq_ediv_of_nonneg (by omega), IntWalk.i64_in _ (by omega)]; omega
      have e4 : IntKind.i64.wrap (1 + (((l[i].text.size + l[i].space.size + l[i].name.size) / 50 : Nat) : Int)) = ((1 + (l[i].text.size + l[i].space.size + l[i].name.size) / 50 : Nat) : Int) := by rw [IntWalk.i64_in _ (by omega)]; omega
      have e5 : IntKind.i64.wrap (((1 + (l[i].text.size + l[i].space.size + l[i].name.size) / 50 : Nat) : Int) + (l[i].attrs.length : Int)) = (wE l[i] : Int) := by rw [IntWalk.i64_in _ (by omega)]; unfold wE; omega
      have e6 : IntKind.i64.wrap (m - (wE l[i] : Int)) = m - (wE l[i] : Int) := IntWalk.i64_in _ (by omega)
      by_cases h3 : m - (wE l[i] : Int) < 0
      · rw [if_pos h3] at hI
        simp (maxSteps := 200000) (disch := first | omega | (simp only [go_sem] <;> omega) | fail) only [go_sem, nat_int, h, eElem_s, e1, e2, e3, e4, e5, e6, h3, hI]
      · rw [if_neg h3] at hI
        have hs : smallL (m - wE l[i]) l[i].kids = smallN m l[i] := by rw [smallN_s, if_neg h3]
        have hk := ih l[i].kids (m - wE l[i]) (by have := cntE_kids h; omega) k6 k5 (by omega) (by omega)
        rw [hs] at hk
        have hb := smallN_bd l[i] m (by omega) hke
        simp (maxSteps := 200000) (disch := first | omega | (simp only [go_sem] <;> omega) | fail) only [go_sem, nat_int, h, eElem_s, e1, e2, e3, e4, e5, e6, h3, callA_pure mode_20, hk, wrap_succ h hl, ht]
        rw [gcK_mkT (by simp only [go_sem]) (by simp only [go_sem])]
        exact ⟨rfl, hI, by omega, by omega⟩
    · rintro ⟨hI, _⟩
      rw [List.drop_length, List.take_length] at hI
      simp (maxSteps := 200000) (disch := first | omega | (simp only [go_sem] <;> omega) | fail) only [go_sem, nat_int, List.take_length]
      rw [hI]; simp only [smallL]
end Go.Abs.SA
end
section
namespace Go.Abs.SA
open Go.Proofs
inductive Def where
  | mk (name : Str) (kind type : Int) (values : List Str) (must : Bool) (keys : List Str) (kids : List Def)
def Def.name : Def → Str | .mk n _ _ _ _ _ _ => n
def Def.kind : Def → Int | .mk _ k _ _ _ _ _ => k
def Def.type : Def → Int | .mk _ _ t _ _ _ _ => t
def Def.values : Def → List Str | .mk _ _ _ v _ _ _ => v
def Def.must : Def → Bool | .mk _ _ _ _ m _ _ => m
def Def.keys : Def → List Str | .mk _ _ _ _ _ k _ => k
def Def.kids : Def → List Def | .mk _ _ _ _ _ _ k => k
mutual
def eDef : Def → List AV
  | .mk n k t v m ks kd => [vS n, vI k, vI t, lS v, vB m, lS ks, .fs (eDefs kd) false]
def eDefs : List Def → List (List AV)
  | [] => []
  | e :: r => eDef e :: eDefs r
end
theorem eDefs_map : ∀ (l : List Def), eDefs l = l.map eDef
  | [] => rfl
  | n :: r => by simp [eDefs, eDefs_map r]
theorem eDef_s (e : Def) : eDef e = [vS e.name, vI e.kind, vI e.type, lS e.values, vB e.must, lS e.keys, .fs (e.kids.map eDef) false] := by
  cases e; simp [eDef, eDefs_map, Def.name, Def.kind, Def.type, Def.values, Def.must, Def.keys, Def.kids]
theorem eDef_len (e : Def) : (eDef e).length = 7 := by rw [eDef_s]; rfl
attribute [go_sem] eDef_len
instance : EL eDef 7 := ⟨eDef_len⟩
abbrev lD (l : List Def) : AV := .fs (l.map eDef) false
def leafD (n : Str) (t : Int) : Def := .mk n 3 t [] false [] []
def sName : Str := ⟨#[110, 97, 109, 101]⟩
def portD : Def := .mk ⟨#[112, 111, 114, 116]⟩ 2 0 [] false [sName] [leafD sName 0, leafD ⟨#[115, 112, 101, 101, 100]⟩ 1, leafD ⟨#[111, 110]⟩ 2]
def schema : List Def := [leafD ⟨#[104, 111, 115, 116]⟩ 0,
  .mk ⟨#[98, 111, 120]⟩ 1 0 [] false [] [leafD ⟨#[116, 105, 116, 108, 101]⟩ 0, .mk ⟨#[99, 111, 108, 111, 114]⟩ 3 3 [⟨#[114, 101, 100]⟩, ⟨#[103, 114, 101, 101, 110]⟩] false [] [], portD,
    .mk ⟨#[100, 101, 101, 112]⟩ 1 0 [] false [] [.mk ⟨#[105, 100]⟩ 3 1 [] true [] [], leafD ⟨#[110, 111, 116, 101]⟩ 0]],
  .mk ⟨#[112, 97, 105, 114]⟩ 2 0 [] false [⟨#[120]⟩, ⟨#[121]⟩] [leafD ⟨#[121]⟩ 0, leafD ⟨#[120]⟩ 1, leafD ⟨#[118]⟩ 0],
  .mk ⟨#[97, 114, 101, 97]⟩ 2 0 [] false [sName] [leafD sName 0, portD]]
theorem schema_spec : pureW XX 30 [] = some (lD schema) := by
  refine pureW_iff.2 ⟨60, ?_⟩
  rw [show lD schema = .fs (eDefs schema) false by rw [eDefs_map]]
  kernel_rfl
end Go.Abs.SA
end
section
namespace Go.Abs.SA
open Go.Proofs
def place (l : List Def) (name : Str) : Option Nat := l.findIdx? fun d => decide (d.name = name)
theorem place_spec (l : List Def) (name : Str) (hl : l.length ≤ 140737488355328) : pureW XX 92 [lD l, vS name] = some (vI (posI (place l name))) := by
  refine pureW_in 20 Tryz.func92 Tryz.ntmps92 (by simp) (rfl : Tryz.f92.body = some _) fns_92 ?_
  simp (maxSteps := 200000) (disch := first | omega | (simp only [go_sem] <;> omega) | fail) only [go_sem]
  refine WP_range 2 0 l.length (fun i => S_92_2 (lD l) (vS name) (vI i) []) (fun i => place l name = (place (l.drop i) name).map (· + i)) rfl rfl ?_ ?_ ?_ ?_
  · simp (maxSteps := 200000) (disch := first | omega | (simp only [go_sem] <;> omega) | fail) only [go_sem]; rfl
  · simp
  · intro i h hI
    rw [List.drop_eq_getElem_cons h] at hI
    simp only [place, List.findIdx?_cons] at hI
    by_cases hv : l[i].name = name
    · simp (maxSteps := 200000) (disch := first | omega | (simp only [go_sem] <;> omega) | fail) only [go_sem, nat_int, h, eDef_s, hv]
      simp only [place]
      rw [hI]
      simp [hv, posI]
    · simp (maxSteps := 200000) (disch := first | omega | (simp only [go_sem] <;> omega) | fail) only [go_sem, nat_int, h, eDef_s, hv, wrap_succ h hl]
      simp only [place]
      rw [hI]
      simp [hv]
      congr 1
      funext x
      simp
      omega
  · intro hI
    simp (maxSteps := 200000) (disch := first | omega | (simp only [go_sem] <;> omega) | fail) only [go_sem, nat_int]
    rw [hI]
    simp [place, posI]
end Go.Abs.SA
end
section
namespace Go.Abs.SA
open Go.Proofs
def cmpS : List Str → List Str → Int
  | [], b => -(b.length : Int)
  | a :: r, [] => (r.length : Int) + 1
  | a :: r, b :: q => if sless a b then -1 else if !(sless a b || decide (a = b)) then 1 else cmpS r q
theorem cmpS_end (a b : List Str) (h : a = [] ∨ b = []) : cmpS a b = (a.length : Int) - b.length := by
  cases a with
  | nil => simp [cmpS]
  | cons x r => cases b with
    | nil => simp [cmpS]
    | cons y q => simp at h
theorem compare_spec (a b : List Str) (ha : a.length ≤ 140737488355328) (hb : b.length ≤ 140737488355328) : pureW XX 150 [lS a, lS b] = some (vI (cmpS a b)) := by
  refine pureW_in 41 Tryz.func150 Tryz.ntmps150 (by simp) (rfl : Tryz.f150.body = some _) fns_150 ?_
  simp (maxSteps := 200000) (disch := first | omega | (simp only [go_sem] <;> omega) | fail) only [go_sem]
  refine WP_range 2 0 (min a.length b.length) (fun i => S_150_2 (lS a) (lS b) (vI i) []) (fun i => cmpS a b = cmpS (a.drop i) (b.drop i)) rfl rfl ?_ ?_ ?_ ?_
  · simp (maxSteps := 200000) (disch := first | omega | (simp only [go_sem] <;> omega) | fail) only [go_sem]; rfl
  · simp
  · intro i h hI
    have h1 : i < a.length := by omega
    have h2 : i < b.length := by omega
    rw [List.drop_eq_getElem_cons h1, List.drop_eq_getElem_cons h2, cmpS] at hI
    by_cases h3 : sless a[i] b[i] = true
    · rw [if_pos h3] at hI
      simp (maxSteps := 200000) (disch := first | omega | (simp only [go_sem] <;> omega) | fail) only [go_sem, nat_int, h1, h2, h3, hI]
    · simp only [Bool.not_eq_true] at h3
      rw [if_neg (by simp [h3])] at hI
      by_cases h4 : (sless a[i] b[i] || decide (a[i] = b[i])) = true
      · rw [if_neg (by simp [h4])] at hI
        rw [h3, Bool.false_or] at h4
        simp (maxSteps := 200000) (disch := first | omega | (simp only [go_sem] <;> omega) | fail) only [go_sem, nat_int, h1, h2, h3, h4, wrap_succ h1 ha]
        exact hI
      · simp only [Bool.not_eq_true] at h4
        rw [if_pos (by simp [h4])] at hI
        rw [h3, Bool.false_or] at h4
        simp (maxSteps := 200000) (disch := first | omega | (simp only [go_sem] <;> omega) | fail) only [go_sem, nat_int, h1, h2, h3, h4, hI]
  · intro hI
    have he : cmpS a b = (a.length : Int) - b.length := by
      rw [hI, cmpS_end _ _ (by simp only [List.drop_eq_nil_iff]; omega)]
      simp only [List.length_drop]; omega
    have e1 : IntKind.i64.wrap ((a.length : Int) - (b.length : Int)) = (a.length : Int) - b.length := IntWalk.i64_in _ (by omega)
    rw [he]
    by_cases h1 : min a.length b.length < a.length
    · have h2 : ¬ min a.length b.length < b.length := by omega
      simp (maxSteps := 200000) (disch := first | omega | (simp only [go_sem] <;> omega) | fail) only [go_sem, nat_int, h1, h2, e1]
    · simp (maxSteps := 200000) (disch := first | omega | (simp only [go_sem] <;> omega) | fail) only [go_sem, nat_int, h1, e1]
end Go.Abs.SA
end
section
namespace Go.Abs.SA
open Go.Proofs
def leafV (l : List Node) (k : Str) : Option Str := (l.find? fun x => decide (x.name = k)).map Node.value
theorem leafV_cons (x : Node) (r : List Node) (k : Str) : leafV (x :: r) k = if x.name = k then some x.value else leafV r k := by
  simp only [leafV, List.find?_cons]
  by_cases h : x.name = k <;> simp [h]
theorem leafV_nil (k : Str) : leafV [] k = none := rfl
def keyOf (d : Def) (n : Node) : Option (List Str) := if (d.keys.all fun k => (leafV n.kids k).isSome) = true then some (d.keys.filterMap (leafV n.kids)) else none
abbrev aDef (d : Def) : AV := .agg [vS d.name, vI d.kind, vI d.type, lS d.values, vB d.must, lS d.keys, lD d.kids]
abbrev aNode (n : Node) : AV := .agg [vS n.name, vS n.value, lN n.kids]
abbrev kO (o : Option (List Str)) : AV := .tup [lS (o.getD []), vB o.isSome]
theorem key_spec (d : Def) (n : Node) (hd : d.keys.length ≤ 1099511627776) (hn : n.kids.length ≤ 140737488355328) : pureW XX 57 [aDef d, aNode n] = some (kO (keyOf d n)) := by
  refine pureW_in 52 Tryz.func57 Tryz.ntmps57 (by simp) (rfl : Tryz.f57.body = some _) fns_57 ?_
  simp (maxSteps := 200000) (disch := first | omega | (simp only [go_sem] <;> omega) | fail) only [go_sem]
  refine WP_range 3 3 d.keys.length (fun i => S_57_3 (.ptr 0 0) (.ptr 1 0) (.sl 2 0 ((d.keys.take i).filterMap (leafV n.kids)).length false) (vI i) [.var [vS d.name, vI d.kind, vI d.type, lS d.values, vB d.must, lS d.keys, lD d.kids], .var [vS n.name, vS n.value, lN n.kids], .arr 9 1 (((d.keys.take i).filterMap (leafV n.kids)).map eS)]) (fun i => ∀ k ∈ d.keys.take i, (leafV n.kids k).isSome = true) rfl rfl ?_ ?_ ?_ ?_
  · simp (maxSteps := 200000) (disch := first | omega | (simp only [go_sem] <;> omega) | fail) only [go_sem]; rfl
  · simp
  · intro i h hI
    have hol : ((d.keys.take i).filterMap (leafV n.kids)).length ≤ i := by
      have := List.length_filterMap_le (leafV n.kids) (d.keys.take i)
      rw [List.length_take] at this; omega
    simp (maxSteps := 200000) (disch := first | omega | (simp only [go_sem] <;> omega) | fail) only [go_sem, nat_int, h]
    generalize hb : (d.keys.take i).filterMap (leafV n.kids) = base at *
    refine WP_loopR 7 3 (fun (a : Nat × Option Str) => S_57_7 (.ptr 0 0) (.ptr 1 0) (.sl 2 0 (base ++ a.2.toList).length false) (vI i) (vB a.2.isSome) (vI a.1) [.var [vS d.name, vI d.kind, vI d.type, lS d.values, vB d.must, lS d.keys, lD d.kids], .var [vS n.name, vS n.value, lN n.kids], .arr 9 1 ((base ++ a.2.toList).map eS)]) (fun a => n.kids.length - a.1) (fun a => a.1 ≤ n.kids.length ∧ match a.2 with
      | none => leafV n.kids d.keys[i] = leafV (n.kids.drop a.1) d.keys[i]
      | some v => leafV n.kids d.keys[i] = some v) (0, none) rfl rfl ?_ ?_ ?_
    · simp (maxSteps := 200000) (disch := first | omega | (simp only [go_sem] <;> omega) | fail) only [go_sem, Option.toList, Option.isSome]; rfl
    · simp
    · rintro ⟨j, o⟩ ⟨hj, ho⟩
      have hk1 := List.take_succ_eq_append_getElem h
      cases o with
      | none =>
        simp only at ho hj
        by_cases hjl : j < n.kids.length
        · rw [List.drop_eq_getElem_cons hjl, leafV_cons] at ho
          by_cases hv : n.kids[j].name = d.keys[i]
          · rw [if_pos hv] at ho
            simp (maxSteps := 200000) (disch := first | omega | (simp only [go_sem] <;> omega) | fail) only [go_sem, nat_int, h, hjl, eNode_s, hv, Option.toList, Option.isSome, wrap_succ hjl hn]
            exact ⟨(j + 1, some n.kids[j].value), by simp, ⟨by simp; omega, ho⟩, by simp; omega⟩
          · rw [if_neg hv] at ho
            simp (maxSteps := 200000) (disch := first | omega | (simp only [go_sem] <;> omega) | fail) only [go_sem, nat_int, h, hjl, eNode_s, hv, Option.toList, Option.isSome, wrap_succ hjl hn]
            exact ⟨(j + 1, none), by simp, ⟨by simp; omega, ho⟩, by simp; omega⟩
        · rw [List.drop_of_length_le (by omega), leafV_nil] at ho
          have hkn : keyOf d n = none := by
            unfold keyOf
            rw [if_neg]
            simp only [List.all_eq_true]
            intro hh
            have := hh _ (List.getElem_mem h)
            simp [ho] at this
          simp (maxSteps := 200000) (disch := first | omega | (simp only [go_sem] <;> omega) | fail) only [go_sem, nat_int, h, hjl, Option.toList, Option.isSome, hkn, Option.getD_none]
          rfl
      | some v =>
        simp only at ho hj
        have hall : ∀ k ∈ d.keys.take (i + 1), (leafV n.kids k).isSome = true := by
          rw [hk1]
          intro k hk
          rcases List.mem_append.1 hk with hk | hk
          · exact hI k hk
          · simp at hk; subst hk; simp [ho]
        have hbs : (d.keys.take (i + 1)).filterMap (leafV n.kids) = base ++ [v] := by
          rw [hk1, List.filterMap_append, hb]; simp [ho]
        by_cases hjl : j < n.kids.length
        · simp (maxSteps := 200000) (disch := first | omega | (simp only [go_sem] <;> omega) | fail) only [go_sem, nat_int, h, hjl, Option.toList, Option.isSome, wrap_succ h (show d.keys.length ≤ 140737488355328 by omega), hbs]
          exact hall
        · simp (maxSteps := 200000) (disch := first | omega | (simp only [go_sem] <;> omega) | fail) only [go_sem, nat_int, h, hjl, Option.toList, Option.isSome, wrap_succ h (show d.keys.length ≤ 140737488355328 by omega), hbs]
          exact hall
  · intro hI
    rw [List.take_length] at hI
    have hk : keyOf d n = some (d.keys.filterMap (leafV n.kids)) := by
      unfold keyOf; rw [if_pos (by simpa using hI)]
    simp (maxSteps := 200000) (disch := first | omega | (simp only [go_sem] <;> omega) | fail) only [go_sem, nat_int, List.take_length, hk, Option.isSome, Option.getD_some]
    rfl
end Go.Abs.SA
end
section
namespace Go.Abs.SA
open Go.Proofs
def keyD (d : Def) (n : Node) : List Str := (keyOf d n).getD []
def sameN (d : Def) (n x : Node) : Bool := decide (x.name = n.name) && decide (cmpS (keyD d x) (keyD d n) = 0)
def sameAt (d : Def) (l : List Node) (n : Node) : Option Nat := l.findIdx? (sameN d n)
theorem keyD_fold (d : Def) (n : Node) : (keyOf d n).getD [] = keyD d n := nr rfl
theorem keyD_len (d : Def) (n : Node) : (keyD d n).length ≤ d.keys.length := by
  unfold keyD keyOf
  split
  · exact List.length_filterMap_le _ _
  · simp
theorem same_spec (d : Def) (l : List Node) (n : Node) (hd : d.keys.length ≤ 1099511627776) (hn : n.kids.length ≤ 140737488355328) (hl : l.length ≤ 140737488355328) (hk : ∀ x ∈ l, x.kids.length ≤ 140737488355328) : pureW XX 94 [aDef d, lN l, aNode n] = some (vI (posI (sameAt d l n))) := by
  refine pureW_in 48 Tryz.func94 Tryz.ntmps94 (by simp) (rfl : Tryz.f94.body = some _) fns_94 ?_
  simp (maxSteps := 200000) (disch := first | omega | (simp only [go_sem] <;> omega) | fail) only [go_sem, callA_data mode_57, key_spec d n hd hn]
  refine WP_range 3 2 l.length (fun i => S_94_3 (lN l) (.ptr 0 0) (.ptr 1 0) (lS (keyD d n)) (vI i) [.var [vS d.name, vI d.kind, vI d.type, lS d.values, vB d.must, lS d.keys, lD d.kids], .var [vS n.name, vS n.value, lN n.kids]]) (fun i => sameAt d l n = (sameAt d (l.drop i) n).map (· + i)) rfl rfl ?_ ?_ ?_ ?_
  · simp (maxSteps := 200000) (disch := first | omega | (simp only [go_sem] <;> omega) | fail) only [go_sem]; rfl
  · simp
  · intro i h hI
    have hx := hk _ (List.getElem_mem h)
    rw [List.drop_eq_getElem_cons h] at hI
    simp only [sameAt, List.findIdx?_cons] at hI
    have hc : pureW XX 150 [lS (keyD d l[i]), lS (keyD d n)] = some (vI (cmpS (keyD d l[i]) (keyD d n))) := compare_spec _ _ (by have := keyD_len d l[i]; omega) (by have := keyD_len d n; omega)
    have hkx := key_spec d l[i] hd hx
    by_cases h1 : l[i].name = n.name
    · simp only [aNode, h1] at hkx
      by_cases h2 : cmpS (keyD d l[i]) (keyD d n) = 0
      · simp (maxSteps := 200000) (disch := first | omega | (simp only [go_sem] <;> omega) | fail) only [go_sem, callA_data mode_57, callA_pure mode_150, hkx, keyD_fold, hc, nat_int, h, eNode_s, h1, h2]
        simp only [sameAt]
        rw [hI]
        simp [sameN, h1, h2, posI]
      · simp (maxSteps := 200000) (disch := first | omega | (simp only [go_sem] <;> omega) | fail) only [go_sem, callA_data mode_57, callA_pure mode_150, hkx, keyD_fold, hc, nat_int, h, eNode_s, h1, h2, wrap_succ h hl]
        simp only [sameAt]
        rw [hI]
        simp [sameN, h1, h2]
        congr 1
        funext x
        simp
        omega
    · simp (maxSteps := 200000) (disch := first | omega | (simp only [go_sem] <;> omega) | fail) only [go_sem, callA_data mode_57, callA_pure mode_150, hkx, keyD_fold, hc, nat_int, h, eNode_s, h1, wrap_succ h hl]
      simp only [sameAt]
      rw [hI]
      simp [sameN, h1]
      congr 1
      funext x
      simp
      omega
  · intro hI
    simp (maxSteps := 200000) (disch := first | omega | (simp only [go_sem] <;> omega) | fail) only [go_sem, nat_int]
    rw [hI]
    simp [sameAt, posI]
end Go.Abs.SA
end
section
namespace Go.Abs.SA
open Go.Proofs
def allB (lo hi : Int) (s : Str) : Prop := ∀ i < s.size, lo ≤ byteAt s i ∧ byteAt s i ≤ hi
instance (lo hi : Int) (s : Str) : Decidable (allB lo hi s) := by unfold allB; infer_instance
def sign (s : Str) : Str := if 0 < s.size ∧ byteAt s 0 = 45 then s.extract 1 s.size else s
def numT (s : Str) : Bool := let t := sign s
  decide (1 ≤ t.size) && decide (t.size ≤ 18) && !(decide (byteAt t 0 = 48) && decide (s ≠ ⟨#[48]⟩)) && decide (allB 48 57 t)
def valueM (d : Def) (s : Str) : Bool :=
  decide (s.size ≤ 128) && decide (allB 32 126 s) &&
    (if d.type = 1 then numT s else if d.type = 2 then decide (s = ⟨#[116, 114, 117, 101]⟩) || decide (s = ⟨#[102, 97, 108, 115, 101]⟩) else if d.type = 3 then has d.values s else true)
theorem value_spec (d : Def) (s : Str) (hd : d.values.length ≤ 140737488355328) : pureW XX 103 [aDef d, vS s] = some (vB (valueM d s)) := by
  refine pureW_in 88 Tryz.func103 Tryz.ntmps103 (by simp) (rfl : Tryz.f103.body = some _) fns_103 ?_
  by_cases h1 : (128 : Int) < (s.size : Int)
  · simp (maxSteps := 200000) (disch := first | omega | (simp only [go_sem] <;> omega) | fail) only [go_sem, h1]
    have h2 : ¬ s.size ≤ 128 := by omega
    simp [valueM, h2]
  simp (maxSteps := 200000) (disch := first | omega | (simp only [go_sem] <;> omega) | fail) only [go_sem, h1]
  refine WP_range 4 1 s.size (fun i => S_103_4 (vS s) (.ptr 0 0) (vI i) [.var [vS d.name, vI d.kind, vI d.type, lS d.values, vB d.must, lS d.keys, lD d.kids]]) (fun i => ∀ j < i, 32 ≤ byteAt s j ∧ byteAt s j ≤ 126) rfl rfl ?_ ?_ ?_ ?_
  · simp (maxSteps := 200000) (disch := first | omega | (simp only [go_sem] <;> omega) | fail) only [go_sem]; rfl
  · simp
  · intro i h hI
    by_cases h2 : byteAt s i < 32
    · simp (maxSteps := 200000) (disch := first | omega | (simp only [go_sem] <;> omega) | fail) only [go_sem, nat_int, h, h2]
      have : ¬ allB 32 126 s := fun hh => by have := hh i h; omega
      simp [valueM, this]
    · by_cases h3 : 126 < byteAt s i
      · simp (maxSteps := 200000) (disch := first | omega | (simp only [go_sem] <;> omega) | fail) only [go_sem, nat_int, h, h2, h3]
        have : ¬ allB 32 126 s := fun hh => by have := hh i h; omega
        simp [valueM, this]
      · simp (maxSteps := 200000) (disch := first | omega | (simp only [go_sem] <;> omega) | fail) only [go_sem, nat_int, h, h2, h3, wrap_succ h (show s.size ≤ 140737488355328 by omega)]
        intro j hj
        rcases Nat.lt_succ_iff_lt_or_eq.1 hj with hj | rfl
        · exact hI j hj
        · omega
  · intro hI
    have ha : allB 32 126 s := hI
    have hs : s.size ≤ 128 := by omega
    have hv : valueM d s = (if d.type = 1 then numT s else if d.type = 2 then decide (s = ⟨#[116, 114, 117, 101]⟩) || decide (s = ⟨#[102, 97, 108, 115, 101]⟩) else if d.type = 3 then has d.values s else true) := by
      simp [valueM, ha, hs]
    rw [hv]
    by_cases t1 : d.type = 1
    · rw [if_pos t1]
      by_cases q0 : s = ⟨#[]⟩
      · subst q0
        have hz : ((((⟨#[]⟩ : ByteArray).size : Nat) : Int) < 1) = True := eq_true (by decide)
        have hz' : numT ⟨#[]⟩ = false := by decide
        simp (maxSteps := 200000) (disch := first | omega | (simp only [go_sem] <;> omega) | fail) only [go_sem, nat_int, t1, ne_eq, not_true, hz, hz']
      have hp : 0 < s.size := by
        apply Nat.pos_of_ne_zero
        intro hh
        exact q0 (ByteArray.ext (Array.size_eq_zero_iff.1 hh))
      have hp1 : 1 ≤ s.size := hp
      by_cases q1 : byteAt s 0 = 45
      · have hX0 : sign s = s.extract 1 s.size := by simp [sign, hp, q1]
        obtain ⟨t, hX⟩ : ∃ t, s.extract 1 s.size = t := ⟨_, rfl⟩
        have hT : sign s = t := hX0.trans hX
        have hsz : t.size ≤ 128 := by rw [← hX]; simp [ByteArray.size_extract]; omega
        have hnum : numT s = (decide (1 ≤ t.size) && decide (t.size ≤ 18) && !(decide (byteAt t 0 = 48) && decide (s ≠ ⟨#[48]⟩)) && decide (allB 48 57 t)) := by simp only [numT, hT]
        rw [hnum]
        by_cases u1 : (t.size : Int) < 1
        · have : ¬ 1 ≤ t.size := by omega
          simp (maxSteps := 200000) (disch := first | omega | (simp only [go_sem] <;> omega) | fail) only [go_sem, nat_int, t1, q0, q1, hX, hp1, u1, ne_eq, not_true, not_false_eq_true]
          simp [this]
        by_cases u2 : (18 : Int) < (t.size : Int)
        · have : ¬ t.size ≤ 18 := by omega
          simp (maxSteps := 200000) (disch := first | omega | (simp only [go_sem] <;> omega) | fail) only [go_sem, nat_int, t1, q0, q1, hX, hp1, u1, u2, ne_eq, not_true, not_false_eq_true]
          simp [this]
        have v1 : 1 ≤ t.size := by omega
        have v2 : t.size ≤ 18 := by omega
        by_cases u3 : byteAt t 0 = 48
        · have u3' := eq_true u3
          by_cases u4 : s = ⟨#[48]⟩
          · have u4' := eq_true u4
            simp (maxSteps := 200000) (disch := first | omega | (simp only [go_sem] <;> omega) | fail) only [go_sem, nat_int, t1, q0, q1, hX, hp1, u1, u2, ne_eq, not_true, not_false_eq_true, u3', u4']
            refine WP_range 16 1 t.size (fun i => S_103_16 (vS t) (vI i) [.var [vS d.name, vI d.kind, vI 1, lS d.values, vB d.must, lS d.keys, lD d.kids]]) (fun i => ∀ j < i, 48 ≤ byteAt t j ∧ byteAt t j ≤ 57) rfl rfl ?_ ?_ ?_ ?_
            · simp (maxSteps := 200000) (disch := first | omega | (simp only [go_sem] <;> omega) | fail) only [go_sem]; rfl
            · simp
            · intro i h hI
              by_cases h2 : byteAt t i < 48
              · simp (maxSteps := 200000) (disch := first | omega | (simp only [go_sem] <;> omega) | fail) only [go_sem, nat_int, h, h2]
                have : ¬ allB 48 57 t := fun hh => by have := hh i h; omega
                simp [this]
              · by_cases h3 : 57 < byteAt t i
                · simp (maxSteps := 200000) (disch := first | omega | (simp only [go_sem] <;> omega) | fail) only [go_sem, nat_int, h, h2, h3]
                  have : ¬ allB 48 57 t := fun hh => by have := hh i h; omega
                  simp [this]
                · simp (maxSteps := 200000) (disch := first | omega | (simp only [go_sem] <;> omega) | fail) only [go_sem, nat_int, h, h2, h3, wrap_succ h (show t.size ≤ 140737488355328 by omega)]
                  intro j hj
                  rcases Nat.lt_succ_iff_lt_or_eq.1 hj with hj | rfl
                  · exact hI j hj
                  · omega
            · intro hJ
              have hb : allB 48 57 t := hJ
              simp (maxSteps := 200000) (disch := first | omega | (simp only [go_sem] <;> omega) | fail) only [go_sem, nat_int]
              simp [v1, v2, hb]
              exact Or.inr u4
          · simp (maxSteps := 200000) (disch := first | omega | (simp only [go_sem] <;> omega) | fail) only [go_sem, nat_int, t1, q0, q1, hX, hp1, u1, u2, u3', u4, ne_eq, not_true, not_false_eq_true]
        · simp (maxSteps := 200000) (disch := first | omega | (simp only [go_sem] <;> omega) | fail) only [go_sem, nat_int, t1, q0, q1, hX, hp1, u1, u2, ne_eq, not_true, not_false_eq_true, u3]
          refine WP_range 16 1 t.size (fun i => S_103_16 (vS t) (vI i) [.var [vS d.name, vI d.kind, vI 1, lS d.values, vB d.must, lS d.keys, lD d.kids]]) (fun i => ∀ j < i, 48 ≤ byteAt t j ∧ byteAt t j ≤ 57) rfl rfl ?_ ?_ ?_ ?_
          · simp (maxSteps := 200000) (disch := first | omega | (simp only [go_sem] <;> omega) | fail) only [go_sem]; rfl
          · simp
          · intro i h hI
            by_cases h2 : byteAt t i < 48
            · simp (maxSteps := 200000) (disch := first | omega | (simp only [go_sem] <;> omega) | fail) only [go_sem, nat_int, h, h2]
              have : ¬ allB 48 57 t := fun hh => by have := hh i h; omega
              simp [this]
            · by_cases h3 : 57 < byteAt t i
              · simp (maxSteps := 200000) (disch := first | omega | (simp only [go_sem] <;> omega) | fail) only [go_sem, nat_int, h, h2, h3]
                have : ¬ allB 48 57 t := fun hh => by have := hh i h; omega
                simp [this]
              · simp (maxSteps := 200000) (disch := first | omega | (simp only [go_sem] <;> omega) | fail) only [go_sem, nat_int, h, h2, h3, wrap_succ h (show t.size ≤ 140737488355328 by omega)]
                intro j hj
                rcases Nat.lt_succ_iff_lt_or_eq.1 hj with hj | rfl
                · exact hI j hj
                · omega
          · intro hJ
            have hb : allB 48 57 t := hJ
            simp (maxSteps := 200000) (disch := first | omega | (simp only [go_sem] <;> omega) | fail) only [go_sem, nat_int]
            simp [v1, v2, hb, u3]
      · have hT : sign s = s := by simp [sign, q1]
        have hsz : s.size ≤ 128 := by omega
        have hnum : numT s = (decide (1 ≤ s.size) && decide (s.size ≤ 18) && !(decide (byteAt s 0 = 48) && decide (s ≠ ⟨#[48]⟩)) && decide (allB 48 57 s)) := by simp only [numT, hT]
        rw [hnum]
        by_cases u1 : (s.size : Int) < 1
        · have : ¬ 1 ≤ s.size := by omega
          simp (maxSteps := 200000) (disch := first | omega | (simp only [go_sem] <;> omega) | fail) only [go_sem, nat_int, t1, q0, q1, q0, u1, ne_eq, not_true, not_false_eq_true]
          simp [this]
        by_cases u2 : (18 : Int) < (s.size : Int)
        · have : ¬ s.size ≤ 18 := by omega
          simp (maxSteps := 200000) (disch := first | omega | (simp only [go_sem] <;> omega) | fail) only [go_sem, nat_int, t1, q0, q1, q0, u1, u2, ne_eq, not_true, not_false_eq_true]
          simp [this]
        have v1 : 1 ≤ s.size := by omega
        have v2 : s.size ≤ 18 := by omega
        by_cases u3 : byteAt s 0 = 48
        · have u3' := eq_true u3
          by_cases u4 : s = ⟨#[48]⟩
          · have u4' := eq_true u4
            simp (maxSteps := 200000) (disch := first | omega | (simp only [go_sem] <;> omega) | fail) only [go_sem, nat_int, t1, q0, q1, q0, u1, u2, ne_eq, not_true, not_false_eq_true, u3', u4']
            refine WP_range 16 1 s.size (fun i => S_103_16 (vS s) (vI i) [.var [vS d.name, vI d.kind, vI 1, lS d.values, vB d.must, lS d.keys, lD d.kids]]) (fun i => ∀ j < i, 48 ≤ byteAt s j ∧ byteAt s j ≤ 57) rfl rfl ?_ ?_ ?_ ?_
            · simp (maxSteps := 200000) (disch := first | omega | (simp only [go_sem] <;> omega) | fail) only [go_sem]; rfl
            · simp
            · intro i h hI
              by_cases h2 : byteAt s i < 48
              · simp (maxSteps := 200000) (disch := first | omega | (simp only [go_sem] <;> omega) | fail) only [go_sem, nat_int, h, h2]
                have : ¬ allB 48 57 s := fun hh => by have := hh i h; omega
                simp [this]
              · by_cases h3 : 57 < byteAt s i
                · simp (maxSteps := 200000) (disch := first | omega | (simp only [go_sem] <;> omega) | fail) only [go_sem, nat_int, h, h2, h3]
                  have : ¬ allB 48 57 s := fun hh => by have := hh i h; omega
                  simp [this]
                · simp (maxSteps := 200000) (disch := first | omega | (simp only [go_sem] <;> omega) | fail) only [go_sem, nat_int, h, h2, h3, wrap_succ h (show s.size ≤ 140737488355328 by omega)]
                  intro j hj
                  rcases Nat.lt_succ_iff_lt_or_eq.1 hj with hj | rfl
                  · exact hI j hj
                  · omega
            · intro hJ
              have hb : allB 48 57 s := hJ
              simp (maxSteps := 200000) (disch := first | omega | (simp only [go_sem] <;> omega) | fail) only [go_sem, nat_int]
              simp [v1, v2, hb]
              exact Or.inr u4
          · simp (maxSteps := 200000) (disch := first | omega | (simp only [go_sem] <;> omega) | fail) only [go_sem, nat_int, t1, q0, q1, q0, u1, u2, u3', u4, ne_eq, not_true, not_false_eq_true]
        · simp (maxSteps := 200000) (disch := first | omega | (simp only [go_sem] <;> omega) | fail) only [go_sem, nat_int, t1, q0, q1, q0, u1, u2, ne_eq, not_true, not_false_eq_true, u3]
          refine WP_range 16 1 s.size (fun i => S_103_16 (vS s) (vI i) [.var [vS d.name, vI d.kind, vI 1, lS d.values, vB d.must, lS d.keys, lD d.kids]]) (fun i => ∀ j < i, 48 ≤ byteAt s j ∧ byteAt s j ≤ 57) rfl rfl ?_ ?_ ?_ ?_
          · simp (maxSteps := 200000) (disch := first | omega | (simp only [go_sem] <;> omega) | fail) only [go_sem]; rfl
          · simp
          · intro i h hI
            by_cases h2 : byteAt s i < 48
            · simp (maxSteps := 200000) (disch := first | omega | (simp only [go_sem] <;> omega) | fail) only [go_sem, nat_int, h, h2]
              have : ¬ allB 48 57 s := fun hh => by have := hh i h; omega
              simp [this]
            · by_cases h3 : 57 < byteAt s i
              · simp (maxSteps := 200000) (disch := first | omega | (simp only [go_sem] <;> omega) | fail) only [go_sem, nat_int, h, h2, h3]
                have : ¬ allB 48 57 s := fun hh => by have := hh i h; omega
                simp [this]
              · simp (maxSteps := 200000) (disch := first | omega | (simp only [go_sem] <;> omega) | fail) only [go_sem, nat_int, h, h2, h3, wrap_succ h (show s.size ≤ 140737488355328 by omega)]
                intro j hj
                rcases Nat.lt_succ_iff_lt_or_eq.1 hj with hj | rfl
                · exact hI j hj
                · omega
          · intro hJ
            have hb : allB 48 57 s := hJ
            simp (maxSteps := 200000) (disch := first | omega | (simp only [go_sem] <;> omega) | fail) only [go_sem, nat_int]
            simp [v1, v2, hb, u3]
    · rw [if_neg t1]
      by_cases t2 : d.type = 2
      · rw [if_pos t2]
        have t2' := eq_true t2
        by_cases q1 : s = ⟨#[116, 114, 117, 101]⟩
        · have q1' := eq_true q1
          simp (maxSteps := 200000) (disch := first | omega | (simp only [go_sem] <;> omega) | fail) only [go_sem, nat_int, t1, t2', q1']
        · by_cases q2 : s = ⟨#[102, 97, 108, 115, 101]⟩
          · have q2' := eq_true q2
            simp (maxSteps := 200000) (disch := first | omega | (simp only [go_sem] <;> omega) | fail) only [go_sem, nat_int, t1, t2', q1, q2']
          · simp (maxSteps := 200000) (disch := first | omega | (simp only [go_sem] <;> omega) | fail) only [go_sem, nat_int, t1, t2', q1, q2]
      · rw [if_neg t2]
        by_cases t3 : d.type = 3
        · rw [if_pos t3]
          have t3' := eq_true t3
          simp (maxSteps := 200000) (disch := first | omega | (simp only [go_sem] <;> omega) | fail) only [go_sem, nat_int, t1, t2, t3', callA_pure mode_96, has_spec _ _ hd]
        · rw [if_neg t3]
          simp (maxSteps := 200000) (disch := first | omega | (simp only [go_sem] <;> omega) | fail) only [go_sem, nat_int, t1, t2, t3]
end Go.Abs.SA
end
section
namespace Go.Abs.SA
open Go.Proofs
mutual
def okD : Def → Prop
  | .mk _ _ _ v _ ks kd => v.length ≤ 1099511627776 ∧ ks.length ≤ 1099511627776 ∧ kd.length ≤ 1099511627776 ∧ okDs kd
def okDs : List Def → Prop
  | [] => True
  | d :: r => okD d ∧ okDs r
end
theorem okD_s {d : Def} (h : okD d) : d.values.length ≤ 1099511627776 ∧ d.keys.length ≤ 1099511627776 ∧ d.kids.length ≤ 1099511627776 ∧ okDs d.kids := by
  cases d; simpa [okD, Def.values, Def.keys, Def.kids] using h
theorem okDs_mem : ∀ {l : List Def} {d : Def}, okDs l → d ∈ l → okD d
  | x :: r, d, h, hm => by
    simp only [okDs] at h
    rcases List.mem_cons.1 hm with rfl | hm
    · exact h.1
    · exact okDs_mem h.2 hm
theorem place_some {l : List Def} {n : Str} {i : Nat} (h : place l n = some i) : ∃ hi : i < l.length, l[i].name = n := by
  unfold place at h
  rw [List.findIdx?_eq_some_iff_getElem] at h
  obtain ⟨hi, h1, _⟩ := h
  exact ⟨hi, by simpa using h1⟩
def before (l : List Def) (a b : Node) : Bool :=
  match place l a.name, place l b.name with
  | some i, some j => if i = j then (match l[i]? with
    | some d => decide (cmpS (keyD d a) (keyD d b) < 0)
    | none => false) else decide (i < j)
  | x, y => decide (posI x < posI y)
theorem before_spec (l : List Def) (a b : Node) (hl : l.length ≤ 1099511627776) (ho : okDs l) (ha : a.kids.length ≤ 140737488355328) (hb : b.kids.length ≤ 140737488355328) : pureW XX 151 [lD l, aNode a, aNode b] = some (vB (before l a b)) := by
  refine pureW_in 53 Tryz.func151 Tryz.ntmps151 (by simp) (rfl : Tryz.f151.body = some _) fns_151 ?_
  have pa := place_spec l a.name (by omega)
  have pb := place_spec l b.name (by omega)
  unfold before
  cases h1 : place l a.name with
  | none =>
    rw [h1] at pa
    cases h2 : place l b.name with
    | none =>
      rw [h2] at pb
      simp (maxSteps := 200000) (disch := first | omega | (simp only [go_sem] <;> omega) | fail) only [go_sem, callA_pure mode_92, pa, pb, posI, ne_eq, not_true, not_false_eq_true, Int.reduceNeg, Int.reduceLT, Int.reduceEq]
    | some j =>
      rw [h2] at pb
      have e1 : ((-1 : Int) = (j : Int)) = False := eq_false (by omega)
      have e2 : ((-1 : Int) < (j : Int)) = True := eq_true (by omega)
      simp (maxSteps := 200000) (disch := first | omega | (simp only [go_sem] <;> omega) | fail) only [go_sem, callA_pure mode_92, pa, pb, posI, ne_eq, not_true, not_false_eq_true, e1, e2]
  | some i =>
    rw [h1] at pa
    obtain ⟨hi, -⟩ := place_some h1
    cases h2 : place l b.name with
    | none =>
      rw [h2] at pb
      have e1 : ((i : Int) = -1) = False := eq_false (by omega)
      have e2 : ((i : Int) < -1) = False := eq_false (by omega)
      simp (maxSteps := 200000) (disch := first | omega | (simp only [go_sem] <;> omega) | fail) only [go_sem, callA_pure mode_92, pa, pb, posI, ne_eq, not_true, not_false_eq_true, e1, e2]
    | some j =>
      rw [h2] at pb
      by_cases hij : i = j
      · subst hij
        obtain ⟨-, o1, -, -⟩ := okD_s (okDs_mem ho (List.getElem_mem hi))
        have c1 := compare_spec (keyD l[i] a) (keyD l[i] b) (by have := keyD_len l[i] a; omega) (by have := keyD_len l[i] b; omega)
        have e2 : ((i : Int) < 0) = False := eq_false (by omega)
        simp (maxSteps := 200000) (disch := first | omega | (simp only [go_sem] <;> omega) | fail) only [go_sem, callA_pure mode_92, pa, pb, posI, ne_eq, not_true, not_false_eq_true, e2, hi, eDef_s, callA_data mode_57, key_spec l[i] a o1 ha, key_spec l[i] b o1 hb, keyD_fold, callA_pure mode_150, c1]
        simp [hi]
      · have e1 : ((i : Int) = (j : Int)) = False := eq_false (by omega)
        simp (maxSteps := 200000) (disch := first | omega | (simp only [go_sem] <;> omega) | fail) only [go_sem, callA_pure mode_92, pa, pb, posI, ne_eq, not_true, not_false_eq_true, e1, nat_int]
        simp [hij]
end Go.Abs.SA
end
section
namespace Go.Abs.SA
open Go.Proofs
def insPos (l : List Def) (n : Node) (out : List Node) : Nat → Nat
  | 0 => 0
  | k + 1 => match out[k]? with
    | some x => if before l n x then insPos l n out k else k + 1
    | none => k + 1
def ins (l : List Def) (out : List Node) (n : Node) : List Node := out.take (insPos l n out out.length) ++ n :: out.drop (insPos l n out out.length)
def order (l : List Def) (nodes : List Node) : List Node := nodes.foldl (ins l) []
theorem insPos_le (l : List Def) (n : Node) (out : List Node) : ∀ k, insPos l n out k ≤ k
  | 0 => by simp [insPos]
  | k + 1 => by
    have := insPos_le l n out k
    unfold insPos
    split
    · split <;> omega
    · omega
theorem ins_len (l : List Def) (out : List Node) (n : Node) : (ins l out n).length = out.length + 1 := by
  have := insPos_le l n out out.length
  simp [ins]; omega
theorem ins_mem {l : List Def} {out : List Node} {n x : Node} : x ∈ ins l out n ↔ x = n ∨ x ∈ out := by
  unfold ins
  constructor
  · intro h
    rcases List.mem_append.1 h with h | h
    · exact .inr (List.mem_of_mem_take h)
    · rcases List.mem_cons.1 h with h | h
      · exact .inl h
      · exact .inr (List.mem_of_mem_drop h)
  · rintro (rfl | h)
    · simp
    · rw [← List.take_append_drop (insPos l n out out.length) out] at h
      rcases List.mem_append.1 h with h | h
      · simp [h]
      · simp [h]
theorem foldl_ins_len (l : List Def) : ∀ (ns out : List Node), (ns.foldl (ins l) out).length = out.length + ns.length
  | [], out => by simp
  | n :: r, out => by simp [foldl_ins_len l r, ins_len]; omega
theorem foldl_ins_mem (l : List Def) {x : Node} : ∀ (ns out : List Node), x ∈ ns.foldl (ins l) out ↔ x ∈ ns ∨ x ∈ out
  | [], out => by simp
  | n :: r, out => by
    rw [List.foldl_cons, foldl_ins_mem l r, ins_mem, List.mem_cons]
    constructor
    · rintro (h | h | h) <;> simp [h]
    · rintro ((h | h) | h) <;> simp [h]
theorem order_len (l : List Def) (nodes : List Node) : (order l nodes).length = nodes.length := by simp [order, foldl_ins_len]
theorem order_mem (l : List Def) (nodes : List Node) {x : Node} : x ∈ order l nodes ↔ x ∈ nodes := by simp [order, foldl_ins_mem]
theorem node_mk (n : Node) : Node.mk n.name n.value n.kids = n := by cases n; rfl
theorem order_spec (l : List Def) (nodes : List Node) (hl : l.length ≤ 1099511627776) (ho : okDs l) (hn : nodes.length ≤ 1099511627776) (hk : ∀ x ∈ nodes, x.kids.length ≤ 140737488355328) : pureW XX 97 [lD l, lN nodes] = some (lN (order l nodes)) := by
  refine pureW_in 51 Tryz.func97 Tryz.ntmps97 (by simp) (rfl : Tryz.f97.body = some _) fns_97 ?_
  simp (maxSteps := 200000) (disch := first | omega | (simp only [go_sem] <;> omega) | fail) only [go_sem]
  refine WP_range 3 0 nodes.length (fun i => S_97_3 (lD l) (lN nodes) (lN (order l (nodes.take i))) (vI i) []) (fun i => True) rfl rfl ?_ ?_ ?_ ?_
  · simp (maxSteps := 200000) (disch := first | omega | (simp only [go_sem] <;> omega) | fail) only [go_sem]
    rfl
  · trivial
  · intro i h _
    have hol := order_len l (nodes.take i)
    rw [List.length_take] at hol
    have hor : order l (nodes.take (i + 1)) = ins l (order l (nodes.take i)) nodes[i] := by
      rw [List.take_succ_eq_append_getElem h]; simp only [order]; rw [List.foldl_append]; rfl
    have hom : ∀ x ∈ order l (nodes.take i), x.kids.length ≤ 140737488355328 := fun x hx => hk x (List.mem_of_mem_take ((order_mem l _).1 hx))
    generalize order l (nodes.take i) = out at *
    simp (maxSteps := 200000) (disch := first | omega | (simp only [go_sem] <;> omega) | fail) only [go_sem, nat_int, h]
    refine WP_loopR 6 0 (fun (a : Nat) => S_97_6 (lD l) (lN nodes) (lN out) (vI i) (vI a) []) (fun a => a) (fun a => a ≤ out.length ∧ insPos l nodes[i] out out.length = insPos l nodes[i] out a) out.length rfl rfl ?_ ?_ ?_
    · simp (maxSteps := 200000) (disch := first | omega | (simp only [go_sem] <;> omega) | fail) only [go_sem]
    · exact ⟨Nat.le_refl _, rfl⟩
    · rintro a ⟨ha, hp⟩
      by_cases h0 : a = 0
      · have e0 : ((0 : Int) < (a : Int)) = False := eq_false (by omega)
        have hf : insPos l nodes[i] out out.length = a := by
          rw [hp]; subst h0; rfl
        have hins : ins l out nodes[i] = out.take a ++ nodes[i] :: out.drop a := by simp only [ins, hf]
        have ha' := eq_true ha
        have hdl : (out.drop a).length = out.length - a := by simp
        have htl : (out.take a).length = a := by simp; omega
        simp (maxSteps := 200000) (disch := first | omega | (simp only [go_sem] <;> omega) | fail) only [go_sem, nat_int, h, e0, ha', eNode_s, List.take_length, wrap_succ h (show nodes.length ≤ 140737488355328 by omega)]
        rw [gcK_mkT (by simp only [go_sem]) (by simp only [go_sem]), orO_some, hor, hins, node_mk, ← List.map_append, List.append_assoc]
        rfl
      have e0 : ((0 : Int) < (a : Int)) = True := eq_true (by omega)
      have hb : a - 1 < out.length := by omega
      have hb' : a - 1 + 1 = a := by omega
      have hbs := before_spec l nodes[i] out[a - 1] hl ho (hk _ (List.getElem_mem h)) (hom _ (List.getElem_mem hb))
      have hst : insPos l nodes[i] out a = if before l nodes[i] out[a - 1] then insPos l nodes[i] out (a - 1) else a := by
        conv => lhs; rw [← hb']
        simp only [insPos, List.getElem?_eq_getElem hb, hb']
      cases hc : before l nodes[i] out[a - 1] with
      | true =>
        rw [hc] at hbs hst
        simp (maxSteps := 200000) (disch := first | omega | (simp only [go_sem] <;> omega) | fail) only [go_sem, nat_int, h, e0, eNode_s, wrap_pred (Nat.pos_of_ne_zero h0) (show a ≤ 140737488355328 by omega), hb, callA_pure mode_151, hbs]
        exact ⟨a - 1, rfl, ⟨by omega, by rw [hp, hst]; rfl⟩, by omega⟩
      | false =>
        rw [hc] at hbs hst
        have hf : insPos l nodes[i] out out.length = a := by
          rw [hp, hst]; rfl
        have hins : ins l out nodes[i] = out.take a ++ nodes[i] :: out.drop a := by simp only [ins, hf]
        have ha' := eq_true ha
        have hdl : (out.drop a).length = out.length - a := by simp
        have htl : (out.take a).length = a := by simp; omega
        simp (maxSteps := 200000) (disch := first | omega | (simp only [go_sem] <;> omega) | fail) only [go_sem, nat_int, h, e0, ha', eNode_s, List.take_length, wrap_succ h (show nodes.length ≤ 140737488355328 by omega), wrap_pred (Nat.pos_of_ne_zero h0) (show a ≤ 140737488355328 by omega), hb, callA_pure mode_151, hbs]
        rw [gcK_mkT (by simp only [go_sem]) (by simp only [go_sem]), orO_some, hor, hins, node_mk, ← List.map_append, List.append_assoc]
        rfl
  · intro _
    simp (maxSteps := 200000) (disch := first | omega | (simp only [go_sem] <;> omega) | fail) only [go_sem, nat_int, List.take_length]
end Go.Abs.SA
end
section
namespace Go.Abs.SA
open Go.Proofs
mutual
def rdE (l : List Def) : Elem → Except Int (Def × Node)
  | .mk _ n _ t k => match place l n with
    | none => .error 11
    | some i => match l[i]? with
      | none => .error 11
      | some d =>
        if d.kind = 3 then (if k ≠ [] ∨ valueM d t = false then .error 12 else .ok (d, .mk n t []))
        else if t ≠ ⟨#[]⟩ then .error 12 else match rdL d.kids [] [] k with
          | .error e => .error e
          | .ok nodes => if (keyOf d (.mk n ⟨#[]⟩ nodes)).isSome then .ok (d, .mk n ⟨#[]⟩ nodes) else .error 13
def rdL (l : List Def) (out all : List Node) : List Elem → Except Int (List Node)
  | [] => if 256 < out.length then .error 2 else .ok (order l out)
  | e :: r => match rdE l e with
    | .error x => .error x
    | .ok (d, n) => if (sameAt d all n).isSome then .error 15 else rdL l (if d.kind ≠ 1 ∨ n.kids ≠ [] then out ++ [n] else out) (all ++ [n]) r
end
theorem rdE_s (l : List Def) (e : Elem) : rdE l e = match place l e.name with
    | none => .error 11
    | some i => match l[i]? with
      | none => .error 11
      | some d =>
        if d.kind = 3 then (if e.kids ≠ [] ∨ valueM d e.text = false then .error 12 else .ok (d, .mk e.name e.text []))
        else if e.text ≠ ⟨#[]⟩ then .error 12 else match rdL d.kids [] [] e.kids with
          | .error e => .error e
          | .ok nodes => if (keyOf d (.mk e.name ⟨#[]⟩ nodes)).isSome then .ok (d, .mk e.name ⟨#[]⟩ nodes) else .error 13 := by
  cases e; rw [rdE]; rfl
theorem rdL_nil (l : List Def) (out all : List Node) : rdL l out all [] = if 256 < out.length then .error 2 else .ok (order l out) := by rw [rdL]
theorem rdL_cons (l : List Def) (out all : List Node) (e : Elem) (r : List Elem) : rdL l out all (e :: r) = match rdE l e with
    | .error x => .error x
    | .ok (d, n) => if (sameAt d all n).isSome then .error 15 else rdL l (if d.kind ≠ 1 ∨ n.kids ≠ [] then out ++ [n] else out) (all ++ [n]) r := by rw [rdL]
mutual
theorem rdE_err (l : List Def) : ∀ (e : Elem) (x : Int), rdE l e = .error x → x ≠ 0
  | .mk s n a t k, x, h => by
    rw [rdE] at h
    split at h
    · cases h; decide
    · split at h
      · cases h; decide
      · split at h
        · split at h
          · cases h; decide
          · cases h
        · split at h
          · cases h; decide
          · split at h
            · rename_i d _ _ _ e he
              cases h
              exact rdL_err _ _ _ k _ he
            · split at h
              · cases h
              · cases h; decide
theorem rdL_err (l : List Def) (out all : List Node) : ∀ (es : List Elem) (x : Int), rdL l out all es = .error x → x ≠ 0
  | [], x, h => by
    rw [rdL] at h
    split at h
    · cases h; decide
    · cases h
  | e :: r, x, h => by
    rw [rdL] at h
    split at h
    · rename_i y hy
      cases h
      exact rdE_err l e _ hy
    · split at h
      · cases h; decide
      · exact rdL_err l _ _ r x h
end
theorem rdL_len (l : List Def) : ∀ (es : List Elem) (out all nodes : List Node), rdL l out all es = .ok nodes → nodes.length ≤ out.length + es.length
  | [], out, all, nodes, h => by
    rw [rdL_nil] at h
    split at h
    · cases h
    · cases h; simp [order_len]
  | e :: r, out, all, nodes, h => by
    rw [rdL_cons] at h
    split at h
    · cases h
    · split at h
      · cases h
      · have := rdL_len l r _ _ _ h
        simp only [List.length_cons]
        split at this
        · simp at this; omega
        · omega
end Go.Abs.SA
end
section
namespace Go.Abs.SA
open Go.Proofs
theorem len_cntEs : ∀ (l : List Elem), l.length ≤ cntEs l
  | [] => by simp [cntEs]
  | e :: r => by have := len_cntEs r; simp only [cntEs, List.length_cons]; rw [cntE_s]; omega
def aRead : Except Int (List Node) → AV
  | .error x => .tup [lN [], vI x]
  | .ok l => .tup [lN l, vI 0]
theorem read_spec : ∀ (k : Nat) (l : List Def) (elems : List Elem), cntEs elems < k → k ≤ 100000 → okEs elems → l.length ≤ 1099511627776 → okDs l → pureW XX 52 [lD l, lE elems] = some (aRead (rdL l [] [] elems)) := by
  intro k
  induction k with
  | zero => intro l elems h; omega
  | succ k ih =>
    intro l elems hc hk hok hl hod
    have hcnt := len_cntEs elems
    refine pureW_in 109 Tryz.func52 Tryz.ntmps52 (by simp) (rfl : Tryz.f52.body = some _) fns_52 ?_
    simp (maxSteps := 200000) (disch := first | omega | (simp only [go_sem] <;> omega) | fail) only [go_sem]
    refine WP_loopR 3 2 (fun (a : Nat × List Node × List Node) => S_52_3 (lD l) (lE elems) (.sl 0 0 a.2.1.length false) (.sl 1 0 a.2.2.length false) (vI a.1) [.arr 75 3 (a.2.1.map eNode), .arr 75 3 (a.2.2.map eNode)]) (fun a => elems.length - a.1) (fun a => a.1 ≤ elems.length ∧ a.2.1.length ≤ a.1 ∧ a.2.2.length ≤ a.1 ∧ (∀ x ∈ a.2.2, x.kids.length ≤ 100000) ∧ (∀ x ∈ a.2.1, x.kids.length ≤ 100000) ∧ rdL l [] [] elems = rdL l a.2.1 a.2.2 (elems.drop a.1)) (0, [], []) rfl rfl ?_ ?_ ?_
    · simp (maxSteps := 200000) (disch := first | omega | (simp only [go_sem] <;> omega) | fail) only [go_sem]; rfl
    · simp
    · rintro ⟨i, out, all⟩ ⟨hi, ho, ha, hka, hko, hr⟩
      simp only at hi ho ha hka hko hr
      by_cases h : i < elems.length
      case neg =>
        rw [List.drop_of_length_le (by omega), rdL_nil] at hr
        have hor := order_spec l out hl hod (by omega) (fun x hx => by have := hko x hx; omega)
        by_cases hb : (256 : Int) < (out.length : Int)
        · rw [if_pos (by omega)] at hr
          rw [hr]
          simp (maxSteps := 200000) (disch := first | omega | (simp only [go_sem] <;> omega) | fail) only [go_sem, nat_int, h, hb]
          rfl
        · rw [if_neg (by omega)] at hr
          rw [hr]
          simp (maxSteps := 200000) (disch := first | omega | (simp only [go_sem] <;> omega) | fail) only [go_sem, nat_int, h, hb, callA_data mode_97, hor]
          rfl
      have heo := okEs_mem hok (List.getElem_mem h)
      obtain ⟨b1, b2, b3, b4, b5, b6⟩ := okE_s heo
      have hkc := cntE_kids h
      have hlk := len_cntEs elems[i].kids
      have pl := place_spec l elems[i].name (by omega)
      rw [List.drop_eq_getElem_cons h, rdL_cons, rdE_s] at hr
      cases hp : place l elems[i].name with
      | none =>
        rw [hp] at pl hr
        simp only at hr
        have n1 : ((-1 : Int) < 0) = True := eq_true (by omega)
        rw [hr]
        simp (maxSteps := 200000) (disch := first | omega | (simp only [go_sem] <;> omega) | fail) only [go_sem, nat_int, h, eElem_s, callA_pure mode_92, pl, posI, n1]
        rfl
      | some j =>
      rw [hp] at pl hr
      obtain ⟨hj, hjn⟩ := place_some hp
      have n1 : ((j : Int) < 0) = False := eq_false (by omega)
      obtain ⟨o1, o2, o3, o4⟩ := okD_s (okDs_mem hod (List.getElem_mem hj))
      simp only [List.getElem?_eq_getElem hj] at hr
      by_cases hk3 : l[j].kind = 3
      · have hk3' := eq_true hk3
        have hvs := value_spec l[j] elems[i].text (by omega)
        rw [if_pos hk3] at hr
        by_cases hkk : (0 : Int) < (elems[i].kids.length : Int)
        · have : elems[i].kids ≠ [] := by intro hh; rw [hh] at hkk; simp at hkk
          rw [if_pos (.inl this)] at hr
          simp only at hr
          rw [hr]
          simp (maxSteps := 200000) (disch := first | omega | (simp only [go_sem] <;> omega) | fail) only [go_sem, nat_int, h, hj, eElem_s, eDef_s, callA_pure mode_92, pl, posI, n1, hk3', hkk]
          rfl
        · have hkn : elems[i].kids = [] := List.eq_nil_iff_length_eq_zero.2 (by omega)
          cases hva : valueM l[j] elems[i].text with
          | false =>
            rw [if_pos (.inr hva)] at hr
            simp only at hr
            rw [hr]
            rw [hva] at hvs
            simp (maxSteps := 200000) (disch := first | omega | (simp only [go_sem] <;> omega) | fail) only [go_sem, nat_int, h, hj, eElem_s, eDef_s, callA_pure mode_92, pl, posI, n1, hk3', hkk, callA_pure mode_103, hvs]
            rfl
          | true =>
            rw [if_neg (by simp [hkn, hva])] at hr
            simp only at hr
            rw [hva] at hvs
            have hn1 : (l[j].kind = 1) = False := eq_false (by omega)
            have hss := same_spec l[j] all (.mk elems[i].name elems[i].text []) o2 (by simp [Node.kids]) (by omega) (fun x hx => by have := hka x hx; omega)
            simp only [aNode, Node.name, Node.value, Node.kids, lN, List.map_nil] at hss
            cases hsa : sameAt l[j] all (.mk elems[i].name elems[i].text []) with
            | some q =>
              rw [hsa] at hss hr
              simp only [Option.isSome, if_true] at hr
              have n2 : (0 ≤ (q : Int)) = True := eq_true (by omega)
              rw [hr]
              simp (maxSteps := 200000) (disch := first | omega | (simp only [go_sem] <;> omega) | fail) only [go_sem, nat_int, h, hj, eElem_s, eDef_s, callA_pure mode_92, pl, posI, n1, hk3', hkk, callA_pure mode_103, hvs, callA_pure mode_94, hss, n2]
              rfl
            | none =>
              rw [hsa] at hss hr
              simp only [Option.isSome] at hr
              rw [if_neg (by simp), if_pos (.inl (by omega))] at hr
              have n2 : (0 ≤ (-1 : Int)) = False := eq_false (by omega)
              simp (maxSteps := 200000) (disch := first | omega | (simp only [go_sem] <;> omega) | fail) only [go_sem, nat_int, h, hj, eElem_s, eDef_s, callA_pure mode_92, pl, posI, n1, hk3', hkk, callA_pure mode_103, hvs, callA_pure mode_94, hss, n2, hn1, ne_eq, not_false_eq_true, wrap_succ h (show elems.length ≤ 140737488355328 by omega)]
              refine ⟨(i + 1, out ++ [.mk elems[i].name elems[i].text []], all ++ [.mk elems[i].name elems[i].text []]), by simp [eNode_s, Node.name, Node.value, Node.kids], ⟨by simp; omega, by simp; omega, by simp; omega, ?_, ?_, hr⟩, by simp; omega⟩
              · intro x hx
                rcases List.mem_append.1 hx with hx | hx
                · exact hka x hx
                · rw [List.mem_singleton.1 hx]; simp [Node.kids]
              · intro x hx
                rcases List.mem_append.1 hx with hx | hx
                · exact hko x hx
                · rw [List.mem_singleton.1 hx]; simp [Node.kids]
      · have hi2 := ih l[j].kids elems[i].kids (by omega) (by omega) b6 o3 o4
        rw [if_neg hk3] at hr
        by_cases q0 : elems[i].text = ⟨#[]⟩
        case neg =>
          rw [if_pos q0] at hr
          simp only at hr
          rw [hr]
          simp (maxSteps := 200000) (disch := first | omega | (simp only [go_sem] <;> omega) | fail) only [go_sem, nat_int, h, hj, eElem_s, eDef_s, callA_pure mode_92, pl, posI, n1, hk3, q0, ne_eq, not_false_eq_true]
          rfl
        rw [if_neg (by simp [q0])] at hr
        have q1 := eq_true q0
        cases hrd : rdL l[j].kids [] [] elems[i].kids with
        | error x =>
          rw [hrd] at hi2 hr
          have hx := rdL_err _ _ _ _ _ hrd
          simp only at hr
          simp only [aRead] at hi2
          rw [hr]
          simp (maxSteps := 200000) (disch := first | omega | (simp only [go_sem] <;> omega) | fail) only [go_sem, nat_int, h, hj, eElem_s, eDef_s, callA_pure mode_92, pl, posI, n1, hk3, q1, ne_eq, not_true, not_false_eq_true, callA_data mode_52, hi2, hx]
          rfl
        | ok nodes =>
        rw [hrd] at hi2 hr
        have hnl := rdL_len _ _ _ _ _ hrd
        simp only at hr
        simp only [aRead] at hi2
        have hnk : (nodes.length : Nat) ≤ 100000 := by simp at hnl; omega
        have hks := key_spec l[j] (.mk elems[i].name ⟨#[]⟩ nodes) o2 (by simp only [Node.kids]; omega)
        simp only [aNode, Node.name, Node.value, Node.kids] at hks
        cases hky : keyOf l[j] (.mk elems[i].name ⟨#[]⟩ nodes) with
        | none =>
          rw [hky] at hr hks
          simp only [Option.isSome, Bool.false_eq_true, if_false] at hr
          simp only [kO, Option.isSome, Option.getD_none] at hks
          rw [hr]
          simp (maxSteps := 200000) (disch := first | omega | (simp only [go_sem] <;> omega) | fail) only [go_sem, nat_int, h, hj, eElem_s, eDef_s, callA_pure mode_92, pl, posI, n1, hk3, q1, ne_eq, not_true, not_false_eq_true, callA_data mode_52, hi2, callA_data mode_57, hks]
          rfl
        | some ks =>
        rw [hky] at hr hks
        simp only [Option.isSome, if_true] at hr
        simp only [kO, Option.isSome, Option.getD_some] at hks
        have hss := same_spec l[j] all (.mk elems[i].name ⟨#[]⟩ nodes) o2 (by simp only [Node.kids]; omega) (by omega) (fun x hx => by have := hka x hx; omega)
        simp only [aNode, Node.name, Node.value, Node.kids] at hss
        cases hsa : sameAt l[j] all (.mk elems[i].name ⟨#[]⟩ nodes) with
        | some q =>
          rw [hsa] at hss hr
          simp only [Option.isSome, if_true] at hr
          have n2 : (0 ≤ (q : Int)) = True := eq_true (by omega)
          rw [hr]
          simp (maxSteps := 200000) (disch := first | omega | (simp only [go_sem] <;> omega) | fail) only [go_sem, nat_int, h, hj, eElem_s, eDef_s, callA_pure mode_92, pl, posI, n1, hk3, q1, ne_eq, not_true, not_false_eq_true, callA_data mode_52, hi2, callA_data mode_57, hks, callA_pure mode_94, hss, n2]
          rfl
        | none =>
        rw [hsa] at hss hr
        simp only [Option.isSome] at hr
        rw [if_neg (by simp)] at hr
        have n2 : (0 ≤ (-1 : Int)) = False := eq_false (by omega)
        by_cases hk1 : l[j].kind = 1
        · have hk1' := eq_true hk1
          by_cases hn0 : (0 : Int) < (nodes.length : Int)
          · have : nodes ≠ [] := by intro hh; rw [hh] at hn0; simp at hn0
            rw [if_pos (.inr this)] at hr
            simp (maxSteps := 200000) (disch := first | omega | (simp only [go_sem] <;> omega) | fail) only [go_sem, nat_int, h, hj, eElem_s, eDef_s, callA_pure mode_92, pl, posI, n1, hk3, q1, ne_eq, not_true, not_false_eq_true, callA_data mode_52, hi2, callA_data mode_57, hks, callA_pure mode_94, hss, n2, hk1', hn0, wrap_succ h (show elems.length ≤ 140737488355328 by omega)]
            refine ⟨(i + 1, out ++ [.mk elems[i].name ⟨#[]⟩ nodes], all ++ [.mk elems[i].name ⟨#[]⟩ nodes]), by simp [eNode_s, Node.name, Node.value, Node.kids], ⟨by simp; omega, by simp; omega, by simp; omega, ?_, ?_, hr⟩, by simp; omega⟩
            · intro x hx
              rcases List.mem_append.1 hx with hx | hx
              · exact hka x hx
              · rw [List.mem_singleton.1 hx]; exact hnk
            · intro x hx
              rcases List.mem_append.1 hx with hx | hx
              · exact hko x hx
              · rw [List.mem_singleton.1 hx]; exact hnk
          · have : nodes = [] := List.eq_nil_iff_length_eq_zero.2 (by omega)
            rw [if_neg (by simp [hk1, Node.kids, this])] at hr
            simp (maxSteps := 200000) (disch := first | omega | (simp only [go_sem] <;> omega) | fail) only [go_sem, nat_int, h, hj, eElem_s, eDef_s, callA_pure mode_92, pl, posI, n1, hk3, q1, ne_eq, not_true, not_false_eq_true, callA_data mode_52, hi2, callA_data mode_57, hks, callA_pure mode_94, hss, n2, hk1', hn0, wrap_succ h (show elems.length ≤ 140737488355328 by omega)]
            refine ⟨(i + 1, out, all ++ [.mk elems[i].name ⟨#[]⟩ nodes]), by simp [eNode_s, Node.name, Node.value, Node.kids], ⟨by simp; omega, by simp; omega, by simp; omega, ?_, ?_, hr⟩, by simp; omega⟩
            · intro x hx
              rcases List.mem_append.1 hx with hx | hx
              · exact hka x hx
              · rw [List.mem_singleton.1 hx]; exact hnk
            · exact hko
        · rw [if_pos (.inl hk1)] at hr
          simp (maxSteps := 200000) (disch := first | omega | (simp only [go_sem] <;> omega) | fail) only [go_sem, nat_int, h, hj, eElem_s, eDef_s, callA_pure mode_92, pl, posI, n1, hk3, q1, ne_eq, not_true, not_false_eq_true, callA_data mode_52, hi2, callA_data mode_57, hks, callA_pure mode_94, hss, n2, hk1, wrap_succ h (show elems.length ≤ 140737488355328 by omega)]
          refine ⟨(i + 1, out ++ [.mk elems[i].name ⟨#[]⟩ nodes], all ++ [.mk elems[i].name ⟨#[]⟩ nodes]), by simp [eNode_s, Node.name, Node.value, Node.kids], ⟨by simp; omega, by simp; omega, by simp; omega, ?_, ?_, hr⟩, by simp; omega⟩
          · intro x hx
            rcases List.mem_append.1 hx with hx | hx
            · exact hka x hx
            · rw [List.mem_singleton.1 hx]; exact hnk
          · intro x hx
            rcases List.mem_append.1 hx with hx | hx
            · exact hko x hx
            · rw [List.mem_singleton.1 hx]; exact hnk
end Go.Abs.SA
end
section
namespace Go.Abs.SA
open Go.Proofs
mutual
theorem smallN_cnt : ∀ (e : Elem) (n : Int), 0 ≤ smallN n e → cntE e + smallN n e ≤ n
  | .mk s nm a t k, n, h => by
    have hw : 1 ≤ wE (.mk s nm a t k) := by unfold wE; omega
    rw [smallN] at h ⊢
    rw [cntE]
    split at h
    · omega
    · rename_i hn
      rw [if_neg hn]
      have := smallL_cnt k _ h
      omega
theorem smallL_cnt : ∀ (l : List Elem) (n : Int), 0 ≤ smallL n l → cntEs l + smallL n l ≤ n
  | [], n, h => by simp [cntEs, smallL]
  | e :: r, n, h => by
    rw [smallL] at h ⊢
    rw [cntEs]
    split at h
    · omega
    · rename_i hn
      rw [if_neg hn]
      have h1 := smallL_cnt r _ h
      have h2 := smallN_cnt e n (by omega)
      omega
end
def tree (l : List Elem) : Option (List Node) := if smallL 300 l < 0 then none else match rdL schema [] [] l with
  | .error _ => none
  | .ok n => some n
theorem okDs_schema : okDs schema := by simp [okDs, okD, schema, leafD, portD]
def aTree (l : List Elem) : AV := .tup [lN ((tree l).getD []), vB (tree l).isSome]
end Go.Abs.SA
end
section
namespace Go.Abs.SA
open Go.Proofs
theorem cntL_app : ∀ (a b : List Node), cntL (a ++ b) = cntL a + cntL b
  | [], b => by simp [cntL]
  | x :: r, b => by rw [List.cons_append, cntL_cons, cntL_cons, cntL_app r b]; omega
theorem cnt_ins (l : List Def) (out : List Node) (n : Node) : cntL (ins l out n) = cntL out + cntN n := by
  have h := cntL_app (out.take (insPos l n out out.length)) (out.drop (insPos l n out out.length))
  rw [List.take_append_drop] at h
  rw [ins, cntL_app, cntL_cons]; omega
theorem cnt_foldl (l : List Def) : ∀ (ns out : List Node), cntL (ns.foldl (ins l) out) = cntL out + cntL ns
  | [], out => by simp [cntL]
  | n :: r, out => by rw [List.foldl_cons, cnt_foldl l r, cnt_ins, cntL_cons]; omega
theorem cnt_order (l : List Def) (ns : List Node) : cntL (order l ns) = cntL ns := by rw [order, cnt_foldl]; simp [cntL]
mutual
theorem rdE_cnt (l : List Def) : ∀ (e : Elem) (d : Def) (n : Node), rdE l e = .ok (d, n) → cntN n ≤ cntE e
  | .mk s nm a t k, d, n, h => by
    rw [rdE] at h
    split at h
    · cases h
    · split at h
      · cases h
      · split at h
        · split at h
          · cases h
          · cases h; simp [cntN, cntL, cntE]
        · split at h
          · cases h
          · split at h
            · cases h
            · rename_i d' _ _ _ nodes hn
              split at h
              · cases h
                have := rdL_cnt _ k _ _ _ hn
                rw [cntN, cntE]; simp only [cntL] at this; omega
              · cases h
theorem rdL_cnt (l : List Def) : ∀ (es : List Elem) (out all nodes : List Node), rdL l out all es = .ok nodes → cntL nodes ≤ cntL out + cntEs es
  | [], out, all, nodes, h => by
    rw [rdL] at h
    split at h
    · cases h
    · cases h; rw [cnt_order]; omega
  | e :: r, out, all, nodes, h => by
    rw [rdL] at h
    split at h
    · cases h
    · rename_i d n hn
      split at h
      · cases h
      · have h1 := rdL_cnt l r _ _ _ h
        have h2 := rdE_cnt l e d n hn
        rw [cntEs]
        split at h1
        · rw [cntL_app, cntL_cons] at h1; simp only [cntL] at h1; omega
        · omega
end
theorem tree_some {l : List Elem} {n : List Node} (h : tree l = some n) : rdL schema [] [] l = .ok n ∧ cntEs l ≤ 300 ∧ cntL n ≤ 300 := by
  unfold tree at h
  split at h
  · cases h
  · rename_i hs
    have hc := smallL_cnt l 300 (by omega)
    split at h
    · cases h
    · rename_i m hm
      cases h
      have := rdL_cnt _ _ _ _ _ hm
      simp only [cntL] at this
      exact ⟨hm, by omega, by omega⟩
end Go.Abs.SA
end
section
namespace Go.Abs.SA
open Go.Proofs
theorem XX_ok : XX.ok = true := by kernel_rfl
theorem reach_s : reachBytes = 140737488351232 := rfl
theorem o_str (k : Nat) : Opens Tryz.prog k 9 eS (fun s => s.size ≤ 140737488355328) :=
  (Opens.string k Tryz.underlying9).map id (fun _ => rfl) (fun s h => by rw [reach_s] at h; simp only [id]; omega)
theorem by_36 : Tryz.prog.bytesOf 36 = 96 := by kernel_rfl
theorem by_40 : Tryz.prog.bytesOf 40 = 32 := by kernel_rfl
theorem ce_9 : Tryz.prog.cellsOf 9 = 1 := by kernel_rfl
theorem ce_22 : Tryz.prog.cellsOf 22 = 1 := by kernel_rfl
theorem ce_34 : Tryz.prog.cellsOf 34 = 1 := by kernel_rfl
theorem ce_36 : Tryz.prog.cellsOf 36 = 5 := by kernel_rfl
theorem ce_40 : Tryz.prog.cellsOf 40 = 2 := by kernel_rfl
theorem o_struct {P : Program} {α β : Type} {t n : Nat} {fs : Array Field} {enc : α → List AV} {ok : α → Prop} {enc' : β → List AV} {ok' : β → Prop} (h : ∀ k, OpensF P k 0 fs.toList n enc ok) (ht : P.underlying t = some (.struct fs)) (hn : P.cellsOf t = n)
    (g : α → β) (hg : ∀ x, enc' (g x) = enc x) (ho : ∀ x, ok x → ok' (g x)) : ∀ k, Opens P k t enc' ok'
  | 0 => Opens.zero _ _ _
  | k + 1 => (Opens.struct (h k) ht hn).map g hg ho
theorem o_attr : ∀ k, Opens Tryz.prog k 40 eAttr (fun _ => True) :=
  o_struct (fun k => OpensF.cons (m := 1) (o_str k) (OpensF.cons (m := 1) (o_str k) (OpensF.nil k 2) rfl ce_9) rfl ce_9) Tryz.underlying40 ce_40
    (fun x => (x.1, x.2.1)) (fun x => rfl) (fun x h => trivial)
theorem o_attrs (k : Nat) : Opens Tryz.prog k 34 (fun l : List (Str × Str) => [.fs (l.map eAttr) false]) (fun l => l.length ≤ 140737488355328) :=
  (Opens.slice' (fun j _ => o_attr j) Tryz.underlying34 (fun x => by rw [ce_40]; rfl)).map id (fun _ => rfl) (fun l h => by
    have := h.1; rw [by_40, reach_s] at this; simp only [id]; omega)
theorem okEs_all : ∀ {l : List Elem}, (∀ e ∈ l, okE e) → okEs l
  | [], _ => by simp [okEs]
  | e :: r, h => by simp only [okEs]; exact ⟨h e (by simp), okEs_all fun x hx => h x (by simp [hx])⟩
theorem o_elems_of {k : Nat} (h : ∀ j, j + 1 ≤ k → Opens Tryz.prog j 36 eElem okE) : Opens Tryz.prog k 22 (fun l : List Elem => [lE l]) (fun l => l.length ≤ 140737488355328 ∧ okEs l) :=
  (Opens.slice' h Tryz.underlying22 (fun x => by rw [ce_36]; exact eElem_len x)).map id (fun _ => rfl) (fun l h => ⟨by
    have := h.1; rw [by_36, reach_s] at this; simp only [id]; omega, okEs_all h.2⟩)
theorem o_elem : ∀ k, Opens Tryz.prog k 36 eElem okE :=
  Opens.rec fun k ih =>
    (Opens.struct (OpensF.cons (m := 1) (o_str k) (OpensF.cons (m := 1) (o_str k) (OpensF.cons (m := 1) (o_attrs k) (OpensF.cons (m := 1) (o_str k) (OpensF.cons (m := 1) (o_elems_of fun j hj => ih j (by omega)) (OpensF.nil k 5) rfl ce_22) rfl ce_9) rfl ce_34) rfl ce_9) rfl ce_9) Tryz.underlying36 ce_36).map
      (fun x => .mk x.1 x.2.1 x.2.2.1 x.2.2.2.1 x.2.2.2.2.1) (fun x => by simp [eElem, eElems_map, eS]) (fun x h => by
        obtain ⟨h1, h2, h3, h4, ⟨h5, h6⟩, -⟩ := h
        exact ⟨h1, h2, h3, h4, h5, h6⟩)
theorem o_elems (k : Nat) : Opens Tryz.prog k 22 (fun l : List Elem => [lE l]) (fun l => l.length ≤ 140737488355328 ∧ okEs l) := o_elems_of fun j _ => o_elem j
end Go.Abs.SA
end
section
namespace Go.Abs.SA
open Go.Proofs
theorem bne_f' (b : Bool) : (b != false) = b := by cases b <;> rfl
theorem bne_t' (b : Bool) : (b != true) = !b := by cases b <;> rfl
theorem beq_self' (b : Bool) : (b == b) = true := by cases b <;> rfl
attribute [go_sem] bne_f' bne_t' beq_self'
abbrev sG : Str := ⟨#[103]⟩
abbrev sH : Str := ⟨#[104]⟩
end Go.Abs.SA
end
section
namespace Go.Abs.SA
open Go.Proofs
end Go.Abs.SA
end
section
namespace Go.Abs.SA
open Go.Proofs
theorem nodeEq_spec (x y : Node) (ih : pureW XX 34 [lN x.kids, lN y.kids] = some (vB (decide (x.kids = y.kids)))) : pureW XX 85 [aNode x, aNode y] = some (vB (decide (x = y))) := by
  refine pureW_in 24 Tryz.func85 Tryz.ntmps85 (by simp) (rfl : Tryz.f85.body = some _) fns_85 ?_
  rw [show decide (x = y) = decide (x.name = y.name ∧ x.value = y.value ∧ x.kids = y.kids) from decide_eq_decide.2 (by rw [node_eq])]
  by_cases h1 : x.name = y.name
  · have h1' := eq_true h1
    by_cases h2 : x.value = y.value
    · have h2' := eq_true h2
      by_cases h3 : x.kids = y.kids
      · have h3' := eq_true h3
        rw [decide_eq_true h3] at ih
        simp (maxSteps := 200000) (disch := first | omega | (simp only [go_sem] <;> omega) | fail) only [go_sem, h1', h2', h3', callA_pure mode_34, ih]
      · rw [decide_eq_false h3] at ih
        simp (maxSteps := 200000) (disch := first | omega | (simp only [go_sem] <;> omega) | fail) only [go_sem, h1', h2', h3, callA_pure mode_34, ih]
    · simp (maxSteps := 200000) (disch := first | omega | (simp only [go_sem] <;> omega) | fail) only [go_sem, h1', h2]
      simp
  · simp (maxSteps := 200000) (disch := first | omega | (simp only [go_sem] <;> omega) | fail) only [go_sem, h1]
    simp
theorem modelEqual_spec : ∀ (n : Nat) (a b : List Node), cntL a < n → n ≤ 140737488355328 → pureW XX 34 [lN a, lN b] = some (vB (decide (a = b))) := by
  intro n
  induction n with
  | zero => intro a b h _; omega
  | succ n ih =>
    intro a b hc hB
    have hl : a.length ≤ 140737488355328 := by have := len_cnt a; omega
    have h40 : pureW XX 84 [lN a, lN b, .fn 85 []] = some (vB (decide (a = b))) := by
      refine pureW_in 32 Tryz.func84 Tryz.ntmps84 (by simp) (rfl : Tryz.f84.body = some _) fns_84 ?_
      by_cases hn : a.length = b.length
      · simp (maxSteps := 200000) (disch := first | omega | (simp only [go_sem] <;> omega) | fail) only [go_sem, nat_int_ne, hn, ne_eq, not_true]
        refine WP_range 4 0 b.length (fun i => S_84_4 (lN b) (.fn 85 []) (lN a) (vI b.length) (vI i) []) (fun i => (a = b) = (a.drop i = b.drop i)) rfl rfl ?_ ?_ ?_ ?_
        · simp (maxSteps := 200000) (disch := first | omega | (simp only [go_sem] <;> omega) | fail) only [go_sem]; rfl
        · simp
        · intro i h hI
          have h2 : i < a.length := by omega
          rw [drop_eq h2 h] at hI
          have hk := nodeEq_spec a[i] b[i] (ih a[i].kids b[i].kids (by have := cnt_kids h2; omega) (by omega))
          by_cases h3 : a[i] = b[i]
          · rw [decide_eq_true h3] at hk
            simp (maxSteps := 200000) (disch := first | omega | (simp only [go_sem] <;> omega) | fail) only [go_sem, nat_int, h, h2, hn, eNode_s, wrap_succ h (show b.length ≤ 140737488355328 by omega), callA_pure mode_85, hk]
            rw [gcK_mkT (by simp only [go_sem]) (by simp only [go_sem])]
            simp [hI, h3]
          · rw [decide_eq_false h3] at hk
            simp (maxSteps := 200000) (disch := first | omega | (simp only [go_sem] <;> omega) | fail) only [go_sem, nat_int, h, h2, hn, eNode_s, wrap_succ h (show b.length ≤ 140737488355328 by omega), callA_pure mode_85, hk]
            simp [hI, h3]
        · intro hI
          simp (maxSteps := 200000) (disch := first | omega | (simp only [go_sem] <;> omega) | fail) only [go_sem, nat_int]
          rw [decide_eq_true (by rw [hI, List.drop_of_length_le (by omega), List.drop_of_length_le (by omega)])]
      · have : a ≠ b := fun e => hn (by rw [e])
        simp (maxSteps := 200000) (disch := first | omega | (simp only [go_sem] <;> omega) | fail) only [go_sem, nat_int_ne, hn, ne_eq, not_false_eq_true]
        simp [this]
    refine pureW_in 8 Tryz.func34 Tryz.ntmps34 (by simp) (rfl : Tryz.f34.body = some _) fns_34 ?_
    simp (maxSteps := 200000) (disch := first | omega | (simp only [go_sem] <;> omega) | fail) only [go_sem, callA_pure mode_84, h40]
end Go.Abs.SA
end
section
namespace Go.Abs.SA
open Go.Proofs
end Go.Abs.SA
end
section
namespace Go.Abs.SA
open Go.Proofs
end Go.Abs.SA
end
section
namespace Go.Abs.SA
open Go.Proofs
theorem isKey_spec (x : Node) (k : Str) : pureW XX 109 [aNode x, .fp [vS k]] = some (vB (decide (x.name = k))) := by
  refine pureW_in 8 Tryz.func109 Tryz.ntmps109 (by simp) (rfl : Tryz.f109.body = some _) fns_109 ?_
  simp (maxSteps := 200000) (disch := first | omega | (simp only [go_sem] <;> omega) | fail) only [go_sem]
theorem findIdx_step {α : Type} (q : α → Bool) (l : List α) {i : Nat} (h : i < l.length) : (l.drop i).findIdx? q = if q l[i] then some 0 else ((l.drop (i + 1)).findIdx? q).map (· + 1) := by
  rw [List.drop_eq_getElem_cons h, List.findIdx?_cons]
theorem indexKey_spec (l : List Node) (k : Str) (hl : l.length ≤ 140737488355328)  : pureW XX 108 [lN l, .fn 109 [.fp [vS k]]] = some (vI (posI (l.findIdx? fun x => decide (x.name = k)))) := by
  refine pureW_in 19 Tryz.func108 Tryz.ntmps108 (by simp) (rfl : Tryz.f108.body = some _) fns_108 ?_
  simp (maxSteps := 200000) (disch := first | omega | (simp only [go_sem] <;> omega) | fail) only [go_sem]
  refine WP_range 2 0 l.length (fun i => S_108_2 (lN l) (.fn 109 [.fp [vS k]]) (vI l.length) (vI i) []) (fun i => (l.findIdx? fun x => decide (x.name = k)) = ((l.drop i).findIdx? fun x => decide (x.name = k)).map (· + i)) rfl rfl ?_ ?_ ?_ ?_
  · simp (maxSteps := 200000) (disch := first | omega | (simp only [go_sem] <;> omega) | fail) only [go_sem]; rfl
  · simp
  · intro i h hI
    rw [findIdx_step _ _ h] at hI
    have hk := isKey_spec l[i] k
    cases hv : (fun x => decide (x.name = k)) l[i] with
    | true =>
      simp only at hv
      rw [hv] at hk hI
      simp (maxSteps := 200000) (disch := first | omega | (simp only [go_sem] <;> omega) | fail) only [go_sem, nat_int, h, eNode_s, callA_pure mode_109, hk]
      rw [hI]
      simp [posI]
    | false =>
      simp only at hv
      rw [hv] at hk hI
      simp (maxSteps := 200000) (disch := first | omega | (simp only [go_sem] <;> omega) | fail) only [go_sem, nat_int, h, eNode_s, callA_pure mode_109, hk, wrap_succ h hl]
      rw [hI]
      simp
      congr 1
      funext x
      simp
      omega
  · intro hI
    simp (maxSteps := 200000) (disch := first | omega | (simp only [go_sem] <;> omega) | fail) only [go_sem, nat_int]
    rw [hI]
    simp [posI]
theorem leafV_idx (l : List Node) (k : Str) : leafV l k = match l.findIdx? fun x => decide (x.name = k) with
    | some i => (l[i]?).map Node.value
    | none => none := by
  unfold leafV
  induction l with
  | nil => rfl
  | cons x r ih =>
    rw [List.find?_cons, List.findIdx?_cons]
    by_cases h : x.name = k
    · simp [h]
    · simp only [h, decide_false, Bool.false_eq_true, if_false]
      rw [ih]
      cases r.findIdx? fun x => decide (x.name = k) with
      | none => rfl
      | some i => simp
theorem modelKey_spec (d : Def) (n : Node) (hd : d.keys.length ≤ 1099511627776) (hn : n.kids.length ≤ 140737488355328) : pureW XX 56 [aDef d, aNode n] = some (kO (keyOf d n)) := by
  refine pureW_in 34 Tryz.func56 Tryz.ntmps56 (by simp) (rfl : Tryz.f56.body = some _) fns_56 ?_
  simp (maxSteps := 200000) (disch := first | omega | (simp only [go_sem] <;> omega) | fail) only [go_sem]
  refine WP_range 3 3 d.keys.length (fun i => S_56_3 (.ptr 1 0) (.sl 2 0 ((d.keys.take i).filterMap (leafV n.kids)).length false) (lS d.keys) (vI d.keys.length) (vI i) [.var [vS d.name, vI d.kind, vI d.type, lS d.values, vB d.must, lS d.keys, lD d.kids], .var [vS n.name, vS n.value, lN n.kids], .arr 9 1 (((d.keys.take i).filterMap (leafV n.kids)).map eS)]) (fun i => ∀ k ∈ d.keys.take i, (leafV n.kids k).isSome = true) rfl rfl ?_ ?_ ?_ ?_
  · simp (maxSteps := 200000) (disch := first | omega | (simp only [go_sem] <;> omega) | fail) only [go_sem]; rfl
  · simp
  · intro i h hI
    have hol : ((d.keys.take i).filterMap (leafV n.kids)).length ≤ i := by
      have := List.length_filterMap_le (leafV n.kids) (d.keys.take i)
      rw [List.length_take] at this; omega
    have hk1 := List.take_succ_eq_append_getElem h
    have hx := indexKey_spec n.kids d.keys[i] hn
    have hlv := leafV_idx n.kids d.keys[i]
    cases hf : n.kids.findIdx? fun x => decide (x.name = d.keys[i]) with
    | none =>
      rw [hf] at hx hlv
      simp only at hlv
      have hkn : keyOf d n = none := by
        unfold keyOf
        rw [if_neg]
        simp only [List.all_eq_true]
        intro hh
        have := hh _ (List.getElem_mem h)
        simp [hlv] at this
      have n1 : ((-1 : Int) < 0) = True := eq_true (by omega)
      simp (maxSteps := 200000) (disch := first | omega | (simp only [go_sem] <;> omega) | fail) only [go_sem, nat_int, h, eS_s, callA_pure mode_108, hx, posI, n1, hkn, Option.getD_none]
      rfl
    | some j =>
      rw [hf] at hx hlv
      simp only at hlv
      have hj : j < n.kids.length := by
        rw [List.findIdx?_eq_some_iff_getElem] at hf; exact hf.1
      rw [List.getElem?_eq_getElem hj, Option.map_some] at hlv
      have n1 : ((j : Int) < 0) = False := eq_false (by omega)
      have hall : ∀ k ∈ d.keys.take (i + 1), (leafV n.kids k).isSome = true := by
        rw [hk1]
        intro k hk
        rcases List.mem_append.1 hk with hk | hk
        · exact hI k hk
        · simp at hk; subst hk; simp [hlv]
      have hbs : (d.keys.take (i + 1)).filterMap (leafV n.kids) = (d.keys.take i).filterMap (leafV n.kids) ++ [n.kids[j].value] := by
        rw [hk1, List.filterMap_append]; simp [hlv]
      generalize (d.keys.take i).filterMap (leafV n.kids) = base at *
      simp (maxSteps := 200000) (disch := first | omega | (simp only [go_sem] <;> omega) | fail) only [go_sem, nat_int, h, hj, eS_s, eNode_s, callA_pure mode_108, hx, posI, n1, wrap_succ h (show d.keys.length ≤ 140737488355328 by omega), hbs]
      exact hall
  · intro hI
    rw [List.take_length] at hI
    have hk : keyOf d n = some (d.keys.filterMap (leafV n.kids)) := by
      unfold keyOf; rw [if_pos (by simpa using hI)]
    simp (maxSteps := 200000) (disch := first | omega | (simp only [go_sem] <;> omega) | fail) only [go_sem, nat_int, List.take_length, hk, Option.getD_some]
    rfl
theorem isSame_spec (d : Def) (n x : Node) (key : List Str) (hd : d.keys.length ≤ 1099511627776) (hx : x.kids.length ≤ 140737488355328) : pureW XX 110 [aNode x, .fp [vS d.name, vI d.kind, vI d.type, lS d.values, vB d.must, lS d.keys, lD d.kids], .fp [vS n.name, vS n.value, lN n.kids], .fp [lS key]] = some (vB (decide (x.name = n.name) && decide (keyD d x = key))) := by
  refine pureW_in 24 Tryz.func110 Tryz.ntmps110 (by simp) (rfl : Tryz.f110.body = some _) fns_110 ?_
  have hk := modelKey_spec d x hd hx
  have he := equal_spec (keyD d x) key (by have := keyD_len d x; omega)
  by_cases h1 : x.name = n.name
  · have h1' := eq_true h1
    simp (maxSteps := 200000) (disch := first | omega | (simp only [go_sem] <;> omega) | fail) only [go_sem, callA_data mode_56, hk, keyD_fold, h1', callA_pure mode_111, he]
  · simp (maxSteps := 200000) (disch := first | omega | (simp only [go_sem] <;> omega) | fail) only [go_sem, callA_data mode_56, hk, keyD_fold, h1, callA_pure mode_111, he]
theorem indexSame_spec (d : Def) (n : Node) (key : List Str) (l : List Node) (hl : l.length ≤ 140737488355328) (hd : d.keys.length ≤ 1099511627776) (hk : ∀ x ∈ l, x.kids.length ≤ 140737488355328) : pureW XX 108 [lN l, .fn 110 [.fp [vS d.name, vI d.kind, vI d.type, lS d.values, vB d.must, lS d.keys, lD d.kids], .fp [vS n.name, vS n.value, lN n.kids], .fp [lS key]]] = some (vI (posI (l.findIdx? fun x => (decide (x.name = n.name) && decide (keyD d x = key))))) := by
  refine pureW_in 19 Tryz.func108 Tryz.ntmps108 (by simp) (rfl : Tryz.f108.body = some _) fns_108 ?_
  simp (maxSteps := 200000) (disch := first | omega | (simp only [go_sem] <;> omega) | fail) only [go_sem]
  refine WP_range 2 0 l.length (fun i => S_108_2 (lN l) (.fn 110 [.fp [vS d.name, vI d.kind, vI d.type, lS d.values, vB d.must, lS d.keys, lD d.kids], .fp [vS n.name, vS n.value, lN n.kids], .fp [lS key]]) (vI l.length) (vI i) []) (fun i => (l.findIdx? fun x => (decide (x.name = n.name) && decide (keyD d x = key))) = ((l.drop i).findIdx? fun x => (decide (x.name = n.name) && decide (keyD d x = key))).map (· + i)) rfl rfl ?_ ?_ ?_ ?_
  · simp (maxSteps := 200000) (disch := first | omega | (simp only [go_sem] <;> omega) | fail) only [go_sem]; rfl
  · simp
  · intro i h hI
    rw [findIdx_step _ _ h] at hI
    have hk := isSame_spec d n l[i] key hd (hk _ (List.getElem_mem h))
    cases hv : (fun x => (decide (x.name = n.name) && decide (keyD d x = key))) l[i] with
    | true =>
      simp only at hv
      rw [hv] at hk hI
      simp (maxSteps := 200000) (disch := first | omega | (simp only [go_sem] <;> omega) | fail) only [go_sem, nat_int, h, eNode_s, callA_pure mode_110, hk]
      rw [hI]
      simp [posI]
    | false =>
      simp only at hv
      rw [hv] at hk hI
      simp (maxSteps := 200000) (disch := first | omega | (simp only [go_sem] <;> omega) | fail) only [go_sem, nat_int, h, eNode_s, callA_pure mode_110, hk, wrap_succ h hl]
      rw [hI]
      simp
      congr 1
      funext x
      simp
      omega
  · intro hI
    simp (maxSteps := 200000) (disch := first | omega | (simp only [go_sem] <;> omega) | fail) only [go_sem, nat_int]
    rw [hI]
    simp [posI]
theorem cmpS_zero : ∀ (a b : List Str), cmpS a b = 0 ↔ a = b
  | [], b => by
    simp only [cmpS]
    constructor
    · intro h
      exact (List.eq_nil_iff_length_eq_zero.2 (by omega)).symm
    · rintro rfl; rfl
  | a :: r, [] => by simp [cmpS]; omega
  | a :: r, b :: q => by
    rw [cmpS]
    have hs : ∀ s : Str, sless s s = false := by
      intro s
      have : ∀ l : List UInt8, Op.bytesLess l l = false := by
        intro l
        induction l with
        | nil => rfl
        | cons x l ih => simp [Op.bytesLess, ih]
      exact this _
    by_cases h1 : sless a b = true
    · rw [if_pos h1]
      constructor
      · intro h; cases h
      · intro h; cases h; rw [hs] at h1; cases h1
    · simp only [Bool.not_eq_true] at h1
      rw [if_neg (by simp [h1])]
      by_cases h2 : a = b
      · subst h2
        rw [if_neg (by simp), cmpS_zero r q]
        simp
      · rw [if_pos (by simp [h1, h2])]
        simp [h2]
theorem same_pred (d : Def) (n : Node) : (fun x : Node => decide (x.name = n.name) && decide (keyD d x = keyD d n)) = sameN d n := by
  funext x
  unfold sameN
  congr 1
  exact decide_eq_decide.2 (cmpS_zero _ _).symm
theorem modelSame_spec (d : Def) (l : List Node) (n : Node) (hd : d.keys.length ≤ 1099511627776) (hn : n.kids.length ≤ 140737488355328) (hl : l.length ≤ 140737488355328) (hk : ∀ x ∈ l, x.kids.length ≤ 140737488355328) : pureW XX 58 [aDef d, lN l, aNode n] = some (vI (posI (sameAt d l n))) := by
  refine pureW_in 18 Tryz.func58 Tryz.ntmps58 (by simp) (rfl : Tryz.f58.body = some _) fns_58 ?_
  have hx := modelKey_spec d n hd hn
  have hi := indexSame_spec d n (keyD d n) l hl hd hk
  rw [same_pred] at hi
  simp (maxSteps := 200000) (disch := first | omega | (simp only [go_sem] <;> omega) | fail) only [go_sem, callA_data mode_56, hx, keyD_fold, callA_pure mode_108, hi]
  rfl
end Go.Abs.SA
end
section
namespace Go.Abs.SA
open Go.Proofs
end Go.Abs.SA
end
section
namespace Go.Abs.SA
open Go.Proofs
mutual
def cntD : Def → Nat
  | .mk _ _ _ _ _ _ k => 1 + cntDs k
def cntDs : List Def → Nat
  | [] => 0
  | d :: r => cntD d + cntDs r
end
theorem cntD_s (d : Def) : cntD d = 1 + cntDs d.kids := by cases d; rw [cntD]; rfl
theorem cntD_mem : ∀ {l : List Def} {d : Def}, d ∈ l → cntD d ≤ cntDs l
  | x :: r, d, h => by
    rw [cntDs]
    rcases List.mem_cons.1 h with rfl | h
    · omega
    · have := cntD_mem h; omega
end Go.Abs.SA
end
section
namespace Go.Abs.SA
open Go.Proofs
theorem sameAt_lt {d : Def} {l : List Node} {n : Node} {i : Nat} (h : sameAt d l n = some i) : i < l.length := by
  unfold sameAt at h
  rw [List.findIdx?_eq_some_iff_getElem] at h
  exact h.1
theorem kids_le {l : List Node} {x : Node} (h : x ∈ l) : x.kids.length ≤ cntL l := by
  have h1 := cnt_mem h
  have h2 := len_cnt x.kids
  rw [cntN_s] at h1
  omega
end Go.Abs.SA
end
section
namespace Go.Abs.SA
open Go.Proofs
theorem rdE_place {l : List Def} {e : Elem} {d : Def} {n : Node} (h : rdE l e = .ok (d, n)) : d ∈ l ∧ n.name = d.name := by
  rw [rdE_s] at h
  split at h
  · cases h
  · rename_i i hp
    obtain ⟨hi, hn⟩ := place_some hp
    rw [List.getElem?_eq_getElem hi] at h
    simp only at h
    split at h
    · split at h
      · cases h
      · cases h; exact ⟨List.getElem_mem hi, hn.symm⟩
    · split at h
      · cases h
      · split at h
        · cases h
        · split at h
          · cases h; exact ⟨List.getElem_mem hi, hn.symm⟩
          · cases h
end Go.Abs.SA
end
section
namespace Go.Abs.SA
open Go.Proofs
end Go.Abs.SA
end
section
namespace Go.Abs.SA
open Go.Proofs
mutual
def wfD : Def → Prop
  | .mk _ _ _ _ _ _ k => wfDs k
def wfDs : List Def → Prop
  | [] => True
  | d :: r => (∀ x ∈ r, d.name ≠ x.name) ∧ wfD d ∧ wfDs r
end
theorem wfD_s (d : Def) : wfD d = wfDs d.kids := by cases d; rw [wfD]; rfl
theorem wfDs_mem : ∀ {l : List Def} {d : Def}, wfDs l → d ∈ l → wfD d
  | x :: r, d, h, hm => by
    rw [wfDs] at h
    rcases List.mem_cons.1 hm with rfl | hm
    · exact h.2.1
    · exact wfDs_mem h.2.2 hm
theorem wfDs_inj : ∀ {l : List Def} {a b : Def}, wfDs l → a ∈ l → b ∈ l → a.name = b.name → a = b
  | x :: r, a, b, h, ha, hb, he => by
    rw [wfDs] at h
    rcases List.mem_cons.1 ha with e1 | ha1
    · rcases List.mem_cons.1 hb with e2 | hb1
      · rw [e1, e2]
      · rw [e1] at he; exact absurd he (h.1 b hb1)
    · rcases List.mem_cons.1 hb with e2 | hb1
      · rw [e2] at he; exact absurd he.symm (h.1 a ha1)
      · exact wfDs_inj h.2.2 ha1 hb1 he
theorem place_mem {l : List Def} {d : Def} {n : Str} (hd : d ∈ l) (hn : n = d.name) : ∃ i, place l n = some i := by
  cases h : place l n with
  | some i => exact ⟨i, rfl⟩
  | none =>
    unfold place at h
    rw [List.findIdx?_eq_none_iff] at h
    have := h d hd
    simp [hn] at this
end Go.Abs.SA
end
section
namespace Go.Abs.SA
open Go.Proofs
theorem sameN_iff {d : Def} {n x : Node} : sameN d n x = true ↔ x.name = n.name ∧ keyD d x = keyD d n := by
  simp [sameN, cmpS_zero]
mutual
def goodN (l : List Def) (a : List Node) : Node → Prop
  | .mk n v k => ∃ d ∈ l, n = d.name ∧ (∀ y ∈ a, sameN d (.mk n v k) y = true → y = .mk n v k) ∧ goodL d.kids k k
def goodL (l : List Def) (a : List Node) : List Node → Prop
  | [] => True
  | x :: r => goodN l a x ∧ goodL l a r
end
theorem goodN_s {l : List Def} {a : List Node} {x : Node} : goodN l a x ↔ ∃ d ∈ l, x.name = d.name ∧ (∀ y ∈ a, sameN d x y = true → y = x) ∧ goodL d.kids x.kids x.kids := by
  cases x; rw [goodN]; rfl
theorem goodL_iff {l : List Def} {a : List Node} : ∀ {b : List Node}, goodL l a b ↔ ∀ x ∈ b, goodN l a x
  | [] => by simp [goodL]
  | x :: r => by rw [goodL, goodL_iff (b := r)]; simp
mutual
theorem rdE_good (l : List Def) (hw : wfDs l) : ∀ (e : Elem) (d : Def) (n : Node), rdE l e = .ok (d, n) → goodL d.kids n.kids n.kids
  | .mk s nm a t k, d, n, h => by
    rw [rdE] at h
    split at h
    · cases h
    · split at h
      · cases h
      · rename_i d' hd'
        split at h
        · split at h
          · cases h
          · cases h; simp [Node.kids, goodL]
        · split at h
          · cases h
          · split at h
            · cases h
            · rename_i nodes hn
              split at h
              · cases h
                have hwd := wfDs_mem hw (List.mem_of_getElem? hd')
                rw [wfD_s] at hwd
                exact rdL_good _ hwd k [] [] _ (by simp) (by simp) (by simp) hn
              · cases h
theorem rdL_good (l : List Def) (hw : wfDs l) : ∀ (es : List Elem) (out all nodes : List Node), (∀ x ∈ out, x ∈ all) → (∀ x ∈ all, ∃ d ∈ l, x.name = d.name ∧ goodL d.kids x.kids x.kids) →
    (∀ x ∈ all, ∀ y ∈ all, ∀ d ∈ l, x.name = d.name → sameN d x y = true → y = x) → rdL l out all es = .ok nodes → goodL l nodes nodes
  | [], out, all, nodes, h1, h2, h3, h => by
    rw [rdL] at h
    split at h
    · cases h
    · cases h
      rw [goodL_iff]
      intro x hx
      have hxa := h1 x ((order_mem l out).1 hx)
      obtain ⟨d, hd, he, hg⟩ := h2 x hxa
      rw [goodN_s]
      exact ⟨d, hd, he, fun y hy hs => h3 x hxa y (h1 y ((order_mem l out).1 hy)) d hd he hs, hg⟩
  | e :: r, out, all, nodes, h1, h2, h3, h => by
    rw [rdL] at h
    split at h
    · cases h
    · rename_i d n hn
      split at h
      · cases h
      · rename_i hsn
        have hpl := rdE_place hn
        have hgd := rdE_good l hw e d n hn
        have hno : ∀ x ∈ all, sameN d n x = false := by
          intro x hx
          have : sameAt d all n = none := by
            cases hq : sameAt d all n with
            | none => rfl
            | some i => rw [hq] at hsn; simp at hsn
          unfold sameAt at this
          rw [List.findIdx?_eq_none_iff] at this
          exact this x hx
        refine rdL_good l hw r _ _ _ ?_ ?_ ?_ h
        · intro x hx
          split at hx
          · rcases List.mem_append.1 hx with hx | hx
            · exact List.mem_append.2 (.inl (h1 x hx))
            · exact List.mem_append.2 (.inr hx)
          · exact List.mem_append.2 (.inl (h1 x hx))
        · intro x hx
          rcases List.mem_append.1 hx with hx | hx
          · exact h2 x hx
          · rw [List.mem_singleton.1 hx]; exact ⟨d, hpl.1, hpl.2, hgd⟩
        · intro x hx y hy d' hd' he hs
          rcases List.mem_append.1 hx with hx | hx
          · rcases List.mem_append.1 hy with hy | hy
            · exact h3 x hx y hy d' hd' he hs
            · rw [List.mem_singleton.1 hy] at hs ⊢
              obtain ⟨s1, s2⟩ := sameN_iff.1 hs
              have : d' = d := wfDs_inj hw hd' hpl.1 (he.symm.trans (s1.symm.trans hpl.2))
              subst this
              have := hno x hx
              rw [sameN_iff.2 ⟨s1.symm, s2.symm⟩] at this
              cases this
          · rw [List.mem_singleton.1 hx] at hs he ⊢
            rcases List.mem_append.1 hy with hy | hy
            · have : d' = d := wfDs_inj hw hd' hpl.1 (he.symm.trans hpl.2)
              subst this
              rw [hno y hy] at hs
              cases hs
            · exact List.mem_singleton.1 hy
end
theorem wf_schema : wfDs schema := by
  simp [wfDs, wfD, schema, leafD, portD, sName, Def.name]
theorem tree_good {l : List Elem} {n : List Node} (h : tree l = some n) : goodL schema n n := rdL_good _ wf_schema _ _ _ _ (by simp) (by simp) (by simp) (tree_some h).1
def eG (g : List Str) : List AV := [lS g]
theorem eG_len (g : List Str) : (eG g).length = 1 := rfl
instance : EL eG 1 := ⟨eG_len⟩
def three : List (List Str) := [[], [sG], [sH, sG]]
end Go.Abs.SA
end
section
namespace Go.Abs.SA
open Go.Proofs
theorem isDef_spec (d : Def) (k : Str) : pureW XX 107 [aDef d, .fp [vS k]] = some (vB (decide (d.name = k))) := by
  refine pureW_in 8 Tryz.func107 Tryz.ntmps107 (by simp) (rfl : Tryz.f107.body = some _) fns_107 ?_
  simp (maxSteps := 200000) (disch := first | omega | (simp only [go_sem] <;> omega) | fail) only [go_sem]
theorem indexDef_spec (l : List Def) (k : Str) (hl : l.length ≤ 140737488355328)  : pureW XX 106 [lD l, .fn 107 [.fp [vS k]]] = some (vI (posI (l.findIdx? fun x => decide (x.name = k)))) := by
  refine pureW_in 19 Tryz.func106 Tryz.ntmps106 (by simp) (rfl : Tryz.f106.body = some _) fns_106 ?_
  simp (maxSteps := 200000) (disch := first | omega | (simp only [go_sem] <;> omega) | fail) only [go_sem]
  refine WP_range 2 0 l.length (fun i => S_106_2 (lD l) (.fn 107 [.fp [vS k]]) (vI l.length) (vI i) []) (fun i => (l.findIdx? fun x => decide (x.name = k)) = ((l.drop i).findIdx? fun x => decide (x.name = k)).map (· + i)) rfl rfl ?_ ?_ ?_ ?_
  · simp (maxSteps := 200000) (disch := first | omega | (simp only [go_sem] <;> omega) | fail) only [go_sem]; rfl
  · simp
  · intro i h hI
    rw [findIdx_step _ _ h] at hI
    have hk := isDef_spec l[i] k
    cases hv : (fun x => decide (x.name = k)) l[i] with
    | true =>
      simp only at hv
      rw [hv] at hk hI
      simp (maxSteps := 200000) (disch := first | omega | (simp only [go_sem] <;> omega) | fail) only [go_sem, nat_int, h, eDef_s, callA_pure mode_107, hk]
      rw [hI]
      simp [posI]
    | false =>
      simp only at hv
      rw [hv] at hk hI
      simp (maxSteps := 200000) (disch := first | omega | (simp only [go_sem] <;> omega) | fail) only [go_sem, nat_int, h, eDef_s, callA_pure mode_107, hk, wrap_succ h hl]
      rw [hI]
      simp
      congr 1
      funext x
      simp
      omega
  · intro hI
    simp (maxSteps := 200000) (disch := first | omega | (simp only [go_sem] <;> omega) | fail) only [go_sem, nat_int]
    rw [hI]
    simp [posI]
theorem find_spec (l : List Def) (k : Str) (hl : l.length ≤ 140737488355328) : pureW XX 55 [lD l, vS k] = some (vI (posI (place l k))) := by
  refine pureW_in 8 Tryz.func55 Tryz.ntmps55 (by simp) (rfl : Tryz.f55.body = some _) fns_55 ?_
  have hi := indexDef_spec l k hl
  simp (maxSteps := 200000) (disch := first | omega | (simp only [go_sem] <;> omega) | fail) only [go_sem, callA_pure mode_106, hi]
  rfl
inductive Pk where
  | nil
  | mk (all : Bool) (kids : List Pk)
  deriving Inhabited
mutual
def aPk : Pk → AV
  | .nil => .v (.pointer none)
  | .mk a k => .fp [vB a, .fs (ePks k) false]
def ePks : List Pk → List (List AV)
  | [] => []
  | p :: r => [aPk p] :: ePks r
end
def ePk (p : Pk) : List AV := [aPk p]
theorem ePks_map : ∀ (l : List Pk), ePks l = l.map ePk
  | [] => by rw [ePks]; rfl
  | p :: r => by rw [ePks, ePks_map r]; rfl
theorem ePk_len (p : Pk) : (ePk p).length = 1 := rfl
theorem ePk_s (p : Pk) : ePk p = [aPk p] := nr rfl
theorem aPk_nil : aPk .nil = .v (.pointer none) := by rw [aPk]
theorem aPk_mk (a : Bool) (k : List Pk) : aPk (.mk a k) = .fp [vB a, .fs (k.map ePk) false] := by rw [aPk, ePks_map]
attribute [go_sem] ePk_len
instance : EL ePk 1 := ⟨ePk_len⟩
abbrev lP (l : List Pk) : AV := .fs (l.map ePk) false
theorem aPk_lt (n : Nat) (p : Pk) : AV.lt n (aPk p) = true := by cases p <;> (rw [aPk]; rfl)
theorem aPk_frz (h : List Blk) (k : Nat) (p : Pk) : frz h k (aPk p) = some (aPk p) := by cases p <;> (rw [aPk]; first | exact frz_v .. | exact frz_fp ..)
theorem aPk_cells (p : Pk) : (aPk p).cells? = some [aPk p] := by cases p <;> (rw [aPk]; rfl)
theorem aPk_norm (p : Pk) : normC (aPk p) = aPk p := by cases p <;> (rw [aPk]; rfl)
theorem aPk_ids (p : Pk) : idsOf (aPk p) = [] := by cases p <;> (rw [aPk]; rfl)
theorem aPk_sub (hm : List Blk) (is : List Nat) (p : Pk) : AV.sub hm is (aPk p) = aPk p := by cases p <;> (rw [aPk]; first | exact sub_v .. | exact sub_fp ..)
theorem aPk_ren (f : Nat → Option Nat) (p : Pk) : AV.ren f (aPk p) = aPk p := by cases p <;> (rw [aPk]; first | exact ren_v .. | exact ren_fp ..)
theorem set_P (l : List Pk) (i : Nat) (p : Pk) : (l.map ePk).set i [aPk p] = (l.set i p).map ePk := by rw [List.map_set]; rfl
theorem mk_P (k : List Pk) : AV.fp [.v (.bool false), .fs (k.map ePk) false] = aPk (.mk false k) := (aPk_mk false k).symm
attribute [go_sem] aPk_lt aPk_frz aPk_cells aPk_norm aPk_ids aPk_sub aPk_ren set_P
abbrev wholeP : Pk := .mk true []
theorem whole_spec : pureW XX 193 [] = some (aPk wholeP) := by
  rw [aPk_mk]
  refine pureW_in 3 Tryz.func193 Tryz.ntmps193 (by simp) (rfl : Tryz.f193.body = some _) fns_193 ?_
  simp (maxSteps := 200000) (disch := first | omega | (simp only [go_sem] <;> omega) | fail) only [go_sem]
theorem none_spec (n : Nat) (hn : n ≤ 1099511627776) : loudW XX 139 [vI n] [] = some (.ptr 1 0, [.arr 115 1 ((List.replicate n Pk.nil).map ePk), .var [vB false, .sl 0 0 n false]]) := by
  refine loudW_in 7 Tryz.func139 Tryz.ntmps139 (by simp) (rfl : Tryz.f139.body = some _) fns_139 ?_
  simp (maxSteps := 200000) (disch := first | omega | (simp only [go_sem] <;> omega) | fail) only [go_sem]
  simp [ePk, aPk_nil]
end Go.Abs.SA
end
section
namespace Go.Abs.SA
open Go.Proofs
mutual
def joinP : Pk → Pk → Pk
  | .nil, q => q
  | .mk a k, .nil => .mk a k
  | .mk a k, .mk b m => if a || b then wholeP else .mk false (joinL k m)
def joinL : List Pk → List Pk → List Pk
  | p :: r, q :: s => joinP p q :: joinL r s
  | _, _ => []
end
inductive Shape : Pk → Pk → Prop
  | nil (q : Pk) : Shape .nil q
  | nil' (p : Pk) : Shape p .nil
  | all (a b : Bool) (k m : List Pk) (h : (a || b) = true) : Shape (.mk a k) (.mk b m)
  | some (k m : List Pk) (hl : k.length = m.length) (h : ∀ (i : Nat) (p q : Pk), k[i]? = some p → m[i]? = some q → Shape p q) : Shape (.mk false k) (.mk false m)
theorem join_nil (q : Pk) : loudW XX 140 [aPk .nil, aPk q] [] = some (aPk q, []) := by
  rw [aPk_nil]
  refine loudW_in 64 Tryz.func140 Tryz.ntmps140 (by simp) (rfl : Tryz.f140.body = some _) fns_140 ?_
  simp (maxSteps := 200000) (disch := first | omega | (simp only [go_sem] <;> omega) | fail) only [go_sem]
theorem join_nil' (a : Bool) (k : List Pk) : loudW XX 140 [aPk (.mk a k), aPk .nil] [] = some (aPk (.mk a k), []) := by
  rw [aPk_nil, aPk_mk]
  refine loudW_in 64 Tryz.func140 Tryz.ntmps140 (by simp) (rfl : Tryz.f140.body = some _) fns_140 ?_
  simp (maxSteps := 200000) (disch := first | omega | (simp only [go_sem] <;> omega) | fail) only [go_sem]
theorem join_all (a b : Bool) (k m : List Pk) (h : (a || b) = true) : loudW XX 140 [aPk (.mk a k), aPk (.mk b m)] [] = some (aPk wholeP, []) := by
  rw [aPk_mk, aPk_mk]
  refine loudW_in 64 Tryz.func140 Tryz.ntmps140 (by simp) (rfl : Tryz.f140.body = some _) fns_140 ?_
  have hw := whole_spec
  cases a with
  | true =>
    simp (maxSteps := 200000) (disch := first | omega | (simp only [go_sem] <;> omega) | fail) only [go_sem, callA_data mode_193, hw]
  | false =>
    simp only [Bool.false_or] at h
    subst h
    simp (maxSteps := 200000) (disch := first | omega | (simp only [go_sem] <;> omega) | fail) only [go_sem, callA_data mode_193, hw]
theorem joinL_len : ∀ (k m : List Pk), (joinL k m).length = min k.length m.length
  | [], m => by rw [joinL]; simp; intros; simp_all
  | p :: r, [] => by rw [joinL]; simp; intros; simp_all
  | p :: r, q :: s => by rw [joinL, List.length_cons, joinL_len r s]; simp
theorem joinL_get : ∀ (k m : List Pk) (i : Nat) (h1 : i < k.length) (h2 : i < m.length) (h3 : i < (joinL k m).length), (joinL k m)[i] = joinP k[i] m[i]
  | p :: r, q :: s, 0, h1, h2, h3 => by simp [joinL]
  | p :: r, q :: s, i + 1, h1, h2, h3 => by
    simp only [joinL, List.getElem_cons_succ]
    exact joinL_get r s i (by simpa using h1) (by simpa using h2) _
def upto (l : List Pk) (i : Nat) : List Pk := l.take i ++ List.replicate (l.length - i) .nil
theorem upto_len (l : List Pk) (i : Nat) : (upto l i).length = l.length := by simp [upto]; omega
theorem upto_zero (l : List Pk) : upto l 0 = List.replicate l.length .nil := by simp [upto]
theorem upto_all (l : List Pk) : upto l l.length = l := by simp [upto]
theorem upto_get (l : List Pk) (i j : Nat) (h : j < l.length) : (upto l i)[j]? = some (if j < i then l[j] else .nil) := by
  unfold upto
  by_cases hj : j < i
  · rw [List.getElem?_append_left (by simp; omega), if_pos hj, List.getElem?_take, if_pos hj, List.getElem?_eq_getElem h]
  · rw [List.getElem?_append_right (by simp; omega), if_neg hj, List.getElem?_replicate, if_pos (by simp; omega)]
theorem upto_set (l : List Pk) {i : Nat} (h : i < l.length) : (upto l i).set i l[i] = upto l (i + 1) := by
  apply List.ext_getElem?
  intro j
  by_cases hj : j < l.length
  · rw [upto_get l (i + 1) j hj, List.getElem?_set, upto_len]
    by_cases he : i = j
    · subst he; simp [h]
    · rw [if_neg he, upto_get l i j hj]
      by_cases hlt : j < i
      · rw [if_pos hlt, if_pos (by omega)]
      · rw [if_neg hlt, if_neg (by omega)]
  · rw [List.getElem?_eq_none (by simp [upto_len]; omega), List.getElem?_eq_none (by simp [upto_len]; omega)]
mutual
def cntP : Pk → Nat
  | .nil => 1
  | .mk _ k => 1 + cntPs k
def cntPs : List Pk → Nat
  | [] => 0
  | p :: r => cntP p + cntPs r
end
theorem cntP_mem : ∀ {l : List Pk} {p : Pk}, p ∈ l → cntP p ≤ cntPs l
  | x :: r, p, h => by
    rw [cntPs]
    rcases List.mem_cons.1 h with rfl | h
    · omega
    · have := cntP_mem h; omega
theorem join_cases {p q : Pk} (h : Shape p q) : loudW XX 140 [aPk p, aPk q] [] = some (aPk (joinP p q), []) ∨ ∃ c c', p = .mk false c ∧ q = .mk false c' := by
  cases h with
  | nil q => left; rw [joinP]; exact join_nil q
  | nil' p =>
    left
    cases p with
    | nil => rw [joinP]; exact join_nil _
    | mk a k => rw [joinP]; exact join_nil' a k
  | all a b k m h => left; rw [joinP, if_pos h]; exact join_all a b k m h
  | some k m hl h => exact .inr ⟨k, m, rfl, rfl⟩
theorem join_spec : ∀ (n : Nat) (k m : List Pk), cntPs k < n → n ≤ 1000000 → Shape (.mk false k) (.mk false m) → k.length ≤ 1099511627776 → 
    loudW XX 140 [aPk (.mk false k), aPk (.mk false m)] [] = some (.ptr 1 0, [.arr 115 1 ((joinL k m).map ePk), .var [vB false, .sl 0 0 (joinL k m).length false]]) := by
  intro n
  induction n with
  | zero => intro k m h; omega
  | succ n ih =>
    intro k m hn hnb hs hk
    have hlm : k.length = m.length := by
      cases hs with
      | all _ _ _ _ h => simp at h
      | some _ _ h _ => exact h
    have hjl : (joinL k m).length = k.length := by rw [joinL_len]; omega
    rw [aPk_mk, aPk_mk, hjl]
    refine loudW_in 64 Tryz.func140 Tryz.ntmps140 (by simp) (rfl : Tryz.f140.body = some _) fns_140 ?_
    have hnn := none_spec k.length hk
    simp (maxSteps := 200000) (disch := first | omega | (simp only [go_sem] <;> omega) | fail) only [go_sem, callA_fresh mode_139, hnn]
    refine WP_range 9 2 k.length (fun i => S_140_9 (.fp [vB false, lP k]) (.fp [vB false, lP m]) (.ptr 1 0) (vI k.length) (vI i) [.arr 115 1 ((upto (joinL k m) i).map ePk), .var [vB false, .sl 0 0 k.length false]]) (fun _ => True) rfl rfl ?_ ?_ ?_ ?_
    · simp (maxSteps := 200000) (disch := first | omega | (simp only [go_sem] <;> omega) | fail) only [go_sem]
      rw [upto_zero, hjl]
      rfl
    · trivial
    · intro i h _
      have h2 : i < m.length := by omega
      have hls : i < (upto (joinL k m) i).length := by rw [upto_len]; omega
      have hset := upto_set (joinL k m) (i := i) (by omega)
      rw [joinL_get k m i h h2] at hset
      have hul := upto_len (joinL k m) i
      have hsh : Shape k[i] m[i] := by
        cases hs with
        | all _ _ _ _ h => simp at h
        | some _ _ _ hq => exact hq i _ _ (List.getElem?_eq_getElem h) (List.getElem?_eq_getElem h2)
      have hws := wrap_succ h (show k.length ≤ 140737488355328 by omega)
      rcases join_cases hsh with hj | ⟨c, c', e1, e2⟩
      · generalize upto (joinL k m) i = u at *
        simp (maxSteps := 200000) (disch := first | omega | (simp only [go_sem] <;> omega) | fail) only [go_sem, nat_int, h, h2, ePk_s, callA_fresh mode_140, hj, hls, hws]
        rw [hset]
      · have hcm := cntP_mem (List.getElem_mem h)
        rw [e1, cntP] at hcm
        rw [e1, e2] at hsh
        have hcl : c.length ≤ 1099511627776 := by
          have : ∀ l : List Pk, l.length ≤ cntPs l := by
            intro l
            induction l with
            | nil => simp
            | cons p r ih2 => rw [cntPs, List.length_cons]; have : 1 ≤ cntP p := by cases p <;> simp [cntP]
                              omega
          have := this c
          omega
        have hj := ih c c' (by omega) (by omega) hsh hcl
        rw [e1, e2, joinP, if_neg (by simp)] at hset
        generalize upto (joinL k m) i = u at *
        generalize joinL c c' = cc at *
        have hcc := mk_P cc
        simp (maxSteps := 200000) (disch := first | omega | (simp only [go_sem] <;> omega) | fail) only [go_sem, nat_int, h, h2, ePk_s, e1, e2, callA_fresh mode_140, hj, hls, hws, hcc]
        rw [hset]
    · intro _
      simp (maxSteps := 200000) (disch := first | omega | (simp only [go_sem] <;> omega) | fail) only [go_sem, nat_int]
      rw [← hjl, upto_all]
end Go.Abs.SA
end
section
namespace Go.Abs.SA
open Go.Proofs
mutual
def fitP : Pk → Node → Prop
  | .nil, _ => True
  | .mk a k, n => (a = true ∧ k = []) ∨ (a = false ∧ fitL k n.kids)
def fitL : List Pk → List Node → Prop
  | [], [] => True
  | p :: r, n :: s => fitP p n ∧ fitL r s
  | _, _ => False
end
theorem fitL_len : ∀ {k : List Pk} {s : List Node}, fitL k s → k.length = s.length
  | [], [], _ => rfl
  | p :: r, n :: s, h => by rw [fitL] at h; simp [fitL_len h.2]
  | [], n :: s, h => by simp [fitL] at h
  | p :: r, [], h => by simp [fitL] at h
theorem fitL_get : ∀ {k : List Pk} {s : List Node} {i : Nat} (h : fitL k s) (h1 : i < k.length) (h2 : i < s.length), fitP k[i] s[i]
  | p :: r, n :: s, 0, h, h1, h2 => by rw [fitL] at h; exact h.1
  | p :: r, n :: s, i + 1, h, h1, h2 => by
    rw [fitL] at h
    simpa using fitL_get h.2 (by simpa using h1) (by simpa using h2)
theorem fitL_iff : ∀ {k : List Pk} {s : List Node}, fitL k s ↔ k.length = s.length ∧ ∀ (i : Nat) (h1 : i < k.length) (h2 : i < s.length), fitP k[i] s[i]
  | k, s => by
    constructor
    · intro h; exact ⟨fitL_len h, fun i h1 h2 => fitL_get h h1 h2⟩
    · rintro ⟨hl, h⟩
      induction k generalizing s with
      | nil => cases s with
        | nil => rw [fitL]; trivial
        | cons _ _ => simp at hl
      | cons p r ih => cases s with
        | nil => simp at hl
        | cons n s =>
          rw [fitL]
          exact ⟨h 0 (by simp) (by simp), ih s (by simpa using hl) (fun i h1 h2 => h (i + 1) (by simpa using h1) (by simpa using h2))⟩
theorem fit_shape : ∀ (f : Nat) {p q : Pk} {n : Node}, cntN n < f → fitP p n → fitP q n → Shape p q := by
  intro f
  induction f with
  | zero => intro p q n h; omega
  | succ f ih =>
    intro p q n hc hp hq
    cases p with
    | nil => exact .nil q
    | mk a k =>
      cases q with
      | nil => exact .nil' _
      | mk b m =>
        rw [fitP] at hp hq
        rcases hp with ⟨rfl, -⟩ | ⟨rfl, hp⟩
        · exact .all _ _ _ _ (by simp)
        · rcases hq with ⟨rfl, -⟩ | ⟨rfl, hq⟩
          · exact .all _ _ _ _ (by simp)
          · have l1 := fitL_len hp
            have l2 := fitL_len hq
            refine .some k m (by omega) (fun i x y hx hy => ?_)
            obtain ⟨hi, rfl⟩ := List.getElem?_eq_some_iff.1 hx
            obtain ⟨hj, rfl⟩ := List.getElem?_eq_some_iff.1 hy
            have h3 : i < n.kids.length := by omega
            refine ih (n := n.kids[i]) ?_ (fitL_get hp hi h3) (fitL_get hq hj h3)
            have := cnt_mem (List.getElem_mem h3)
            rw [cntN_s] at hc; omega
theorem fit_join : ∀ (f : Nat) {p q : Pk} {n : Node}, cntN n < f → fitP p n → fitP q n → fitP (joinP p q) n := by
  intro f
  induction f with
  | zero => intro p q n h; omega
  | succ f ih =>
    intro p q n hc hp hq
    cases p with
    | nil => rw [joinP]; exact hq
    | mk a k =>
      cases q with
      | nil => rw [joinP]; exact hp
      | mk b m =>
        rw [joinP]
        rw [fitP] at hp hq
        rcases hp with ⟨rfl, -⟩ | ⟨rfl, hp⟩
        · simp [fitP]
        · rcases hq with ⟨rfl, -⟩ | ⟨rfl, hq⟩
          · simp [fitP]
          · simp only [Bool.or_self, Bool.false_eq_true, if_false]
            rw [fitP]
            refine .inr ⟨rfl, ?_⟩
            have l1 := fitL_len hp
            have l2 := fitL_len hq
            rw [fitL_iff]
            refine ⟨by rw [joinL_len]; omega, fun i h1 h2 => ?_⟩
            rw [joinL_get k m i (by omega) (by omega)]
            refine ih ?_ (fitL_get hp (by omega) h2) (fitL_get hq (by omega) h2)
            have := cnt_mem (List.getElem_mem h2)
            rw [cntN_s] at hc; omega
mutual
theorem fit_cnt : ∀ (p : Pk) (n : Node), fitP p n → cntP p ≤ cntN n
  | .nil, n, h => by rw [cntP, cntN_s]; omega
  | .mk a k, n, h => by
    rw [fitP] at h
    rw [cntP, cntN_s]
    rcases h with ⟨-, rfl⟩ | ⟨-, h⟩
    · rw [cntPs]; omega
    · have := fitL_cnt k n.kids h; omega
theorem fitL_cnt : ∀ (k : List Pk) (s : List Node), fitL k s → cntPs k ≤ cntL s
  | [], [], h => by rw [cntPs]; omega
  | p :: r, n :: s, h => by
    rw [fitL] at h
    have h1 := fit_cnt p n h.1
    have h2 := fitL_cnt r s h.2
    rw [cntPs, cntL_cons]; omega
  | [], n :: s, h => by simp [fitL] at h
  | p :: r, [], h => by simp [fitL] at h
end
mutual
def cutN : Pk → Node → List Node
  | .nil, _ => []
  | .mk a k, n => [if a then n else .mk n.name n.value (cutL k n.kids)]
def cutL : List Pk → List Node → List Node
  | p :: r, n :: s => cutN p n ++ cutL r s
  | _, _ => []
end
theorem cutL_take : ∀ (k : List Pk) (s : List Node) (i : Nat) (h1 : i < k.length) (h2 : i < s.length), cutL (k.take (i + 1)) (s.take (i + 1)) = cutL (k.take i) (s.take i) ++ cutN k[i] s[i]
  | p :: r, n :: s, 0, h1, h2 => by simp [cutL]
  | p :: r, n :: s, i + 1, h1, h2 => by
    simp only [List.take_succ_cons, List.getElem_cons_succ]
    rw [cutL, cutL, cutL_take r s i (by simpa using h1) (by simpa using h2), List.append_assoc]
theorem cutN_len (p : Pk) (n : Node) : (cutN p n).length ≤ 1 := by cases p <;> simp [cutN]
theorem cutL_len : ∀ (k : List Pk) (s : List Node), (cutL k s).length ≤ s.length
  | p :: r, n :: s => by have := cutL_len r s; have := cutN_len p n; rw [cutL, List.length_append, List.length_cons]; omega
  | [], s => by simp [cutL]
  | p :: r, [] => by simp [cutL]
theorem cut_spec : ∀ (f : Nat) (k : List Pk) (s : List Node), cntL s < f → f ≤ 1000000 → fitL k s → pureW XX 83 [aPk (.mk false k), lN s] = some (lN (cutL k s)) := by
  intro f
  induction f with
  | zero => intro k s h; omega
  | succ f ih =>
    intro k s hc hf hfit
    have hls := len_cnt s
    have hlk := fitL_len hfit
    rw [aPk_mk]
    refine pureW_in 41 Tryz.func83 Tryz.ntmps83 (by simp) (rfl : Tryz.f83.body = some _) fns_83 ?_
    simp (maxSteps := 200000) (disch := first | omega | (simp only [go_sem] <;> omega) | fail) only [go_sem]
    refine WP_range 3 1 s.length (fun i => S_83_3 (.fp [vB false, lP k]) (.sl 0 0 (cutL (k.take i) (s.take i)).length false) (lN s) (vI s.length) (vI i) [.arr 75 3 ((cutL (k.take i) (s.take i)).map eNode)]) (fun _ => True) rfl rfl ?_ ?_ ?_ ?_
    · simp (maxSteps := 200000) (disch := first | omega | (simp only [go_sem] <;> omega) | fail) only [go_sem]; rfl
    · trivial
    · intro i h _
      have hk : i < k.length := by omega
      have hol := cutL_len (k.take i) (s.take i)
      rw [List.length_take] at hol
      have hfi := fitL_get hfit hk h
      have hws := wrap_succ h (show s.length ≤ 140737488355328 by omega)
      rw [cutL_take k s i hk h]
      generalize cutL (k.take i) (s.take i) = base at *
      cases hki : k[i] with
      | nil =>
        have hkn : aPk k[i] = .v (.pointer none) := by rw [hki, aPk_nil]
        rw [cutN]
        simp (maxSteps := 200000) (disch := first | omega | (simp only [go_sem] <;> omega) | fail) only [go_sem, nat_int, h, hk, eNode_s, ePk_s, hkn, hws]
      | mk a c =>
        rw [hki, fitP] at hfi
        have hkn : aPk k[i] = .fp [vB a, lP c] := by rw [hki, aPk_mk]
        rw [cutN]
        cases a with
        | true =>
          simp (maxSteps := 200000) (disch := first | omega | (simp only [go_sem] <;> omega) | fail) only [go_sem, nat_int, h, hk, eNode_s, ePk_s, hkn, hws]
          rw [node_mk]
        | false =>
          have hcut := ih c s[i].kids (by have := cnt_kids h; omega) (by omega) (by simpa using hfi)
          rw [aPk_mk] at hcut
          simp (maxSteps := 200000) (disch := first | omega | (simp only [go_sem] <;> omega) | fail) only [go_sem, nat_int, h, hk, eNode_s, ePk_s, hkn, hws, callA_data mode_83, hcut]
    · intro _
      rw [← hlk]
      simp (maxSteps := 200000) (disch := first | omega | (simp only [go_sem] <;> omega) | fail) only [go_sem, nat_int, List.take_length]
      rw [hlk, List.take_length]
end Go.Abs.SA
end
section
namespace Go.Abs.SA
open Go.Proofs
def isTest (kd : List Def) (k : Elem) : Bool := match place kd k.name with
  | none => false
  | some i => match kd[i]? with
    | none => false
    | some d => decide (d.kind = 3) && !decide (k.text = ⟨#[]⟩)
def leafAt (ns : List Node) (k : Elem) : Option Nat := ns.findIdx? fun x => decide (x.name = k.name) && decide (x.value = k.text)
def scan (kd : List Def) (ns : List Node) : List Elem → List Pk → Bool → List Elem → Option (List Pk × Bool × List Elem)
  | [], out, m, rest => some (out, m, rest)
  | k :: r, out, m, rest => if isTest kd k then (match leafAt ns k with
      | none => none
      | some i => scan kd ns r (out.set i wholeP) true rest) else scan kd ns r out m (rest ++ [k])
def keyed (keys : List Str) : List Node → List Pk → List Pk
  | n :: s, p :: r => (if has keys n.name then wholeP else p) :: keyed keys s r
  | _, r => r
def isNil : Pk → Bool
  | .nil => true
  | _ => false
mutual
def fitsD : Def → Node → Elem → Pk
  | .mk nm kind t v ms ks kd, n, f =>
    if kind = 3 then (if f.kids ≠ [] ∨ (f.text ≠ ⟨#[]⟩ ∧ f.text ≠ n.value) then .nil else wholeP)
    else if f.text ≠ ⟨#[]⟩ then .nil
    else if f.kids = [] then wholeP
    else match scan kd n.kids f.kids (List.replicate n.kids.length .nil) false [] with
      | none => .nil
      | some (out, m, rest) =>
        if m = true ∧ rest = [] then wholeP
        else if (joinL out (n.kids.map fun x => pickN kd x rest)).all isNil then .nil
        else .mk false (keyed ks n.kids (joinL out (n.kids.map fun x => pickN kd x rest)))
def pickN : List Def → Node → List Elem → Pk
  | [], _, _ => .nil
  | d :: r, n, fs => if d.name = n.name then fs.foldl (fun p f => if f.name = n.name then joinP p (fitsD d n f) else p) .nil else pickN r n fs
end
theorem fitsD_s (d : Def) (n : Node) (f : Elem) : fitsD d n f = (if d.kind = 3 then (if f.kids ≠ [] ∨ (f.text ≠ ⟨#[]⟩ ∧ f.text ≠ n.value) then .nil else wholeP)
    else if f.text ≠ ⟨#[]⟩ then .nil
    else if f.kids = [] then wholeP
    else match scan d.kids n.kids f.kids (List.replicate n.kids.length .nil) false [] with
      | none => .nil
      | some (out, m, rest) =>
        if m = true ∧ rest = [] then wholeP
        else if (joinL out (n.kids.map fun x => pickN d.kids x rest)).all isNil then .nil
        else .mk false (keyed d.keys n.kids (joinL out (n.kids.map fun x => pickN d.kids x rest)))) := by
  cases d; rw [fitsD]; rfl
theorem pickN_s (l : List Def) (n : Node) (fs : List Elem) : pickN l n fs = match place l n.name with
    | none => .nil
    | some i => match l[i]? with
      | none => .nil
      | some d => fs.foldl (fun p f => if f.name = n.name then joinP p (fitsD d n f) else p) .nil := by
  induction l with
  | nil => rw [pickN]; rfl
  | cons d r ih =>
    rw [pickN]
    by_cases h : d.name = n.name
    · simp [place, List.findIdx?_cons, h]
    · rw [if_neg h, ih]
      simp only [place, List.findIdx?_cons, h, decide_false, Bool.false_eq_true, if_false]
      cases r.findIdx? fun d => decide (d.name = n.name) with
      | none => rfl
      | some i => simp
abbrev aElem (e : Elem) : AV := .agg [vS e.space, vS e.name, .fs (e.attrs.map eAttr) false, vS e.text, lE e.kids]
end Go.Abs.SA
end
section
namespace Go.Abs.SA
open Go.Proofs
theorem isLeaf_spec (x : Node) (k : Elem) : pureW XX 194 [aNode x, .fp [vS k.space, vS k.name, .fs (k.attrs.map eAttr) false, vS k.text, lE k.kids]] = some (vB (decide (x.name = k.name) && decide (x.value = k.text))) := by
  refine pureW_in 16 Tryz.func194 Tryz.ntmps194 (by simp) (rfl : Tryz.f194.body = some _) fns_194 ?_
  by_cases h1 : x.name = k.name
  · have h1' := eq_true h1
    simp (maxSteps := 200000) (disch := first | omega | (simp only [go_sem] <;> omega) | fail) only [go_sem, h1']
  · simp (maxSteps := 200000) (disch := first | omega | (simp only [go_sem] <;> omega) | fail) only [go_sem, h1]
theorem indexLeaf_spec (l : List Node) (k : Elem) (hl : l.length ≤ 140737488355328)  : pureW XX 108 [lN l, .fn 194 [.fp [vS k.space, vS k.name, .fs (k.attrs.map eAttr) false, vS k.text, lE k.kids]]] = some (vI (posI (l.findIdx? fun x => (decide (x.name = k.name) && decide (x.value = k.text))))) := by
  refine pureW_in 19 Tryz.func108 Tryz.ntmps108 (by simp) (rfl : Tryz.f108.body = some _) fns_108 ?_
  simp (maxSteps := 200000) (disch := first | omega | (simp only [go_sem] <;> omega) | fail) only [go_sem]
  refine WP_range 2 0 l.length (fun i => S_108_2 (lN l) (.fn 194 [.fp [vS k.space, vS k.name, .fs (k.attrs.map eAttr) false, vS k.text, lE k.kids]]) (vI l.length) (vI i) []) (fun i => (l.findIdx? fun x => (decide (x.name = k.name) && decide (x.value = k.text))) = ((l.drop i).findIdx? fun x => (decide (x.name = k.name) && decide (x.value = k.text))).map (· + i)) rfl rfl ?_ ?_ ?_ ?_
  · simp (maxSteps := 200000) (disch := first | omega | (simp only [go_sem] <;> omega) | fail) only [go_sem]; rfl
  · simp
  · intro i h hI
    rw [findIdx_step _ _ h] at hI
    have hk := isLeaf_spec l[i] k
    cases hv : (fun x => (decide (x.name = k.name) && decide (x.value = k.text))) l[i] with
    | true =>
      simp only at hv
      rw [hv] at hk hI
      simp (maxSteps := 200000) (disch := first | omega | (simp only [go_sem] <;> omega) | fail) only [go_sem, nat_int, h, eNode_s, callA_pure mode_194, hk]
      rw [hI]
      simp [posI]
    | false =>
      simp only at hv
      rw [hv] at hk hI
      simp (maxSteps := 200000) (disch := first | omega | (simp only [go_sem] <;> omega) | fail) only [go_sem, nat_int, h, eNode_s, callA_pure mode_194, hk, wrap_succ h hl]
      rw [hI]
      simp
      congr 1
      funext x
      simp
      omega
  · intro hI
    simp (maxSteps := 200000) (disch := first | omega | (simp only [go_sem] <;> omega) | fail) only [go_sem, nat_int]
    rw [hI]
    simp [posI]
theorem isPick_spec (p : Pk) : pureW XX 196 [aPk p] = some (vB (!isNil p)) := by
  cases p with
  | nil =>
    rw [aPk_nil]
    refine pureW_in 5 Tryz.func196 Tryz.ntmps196 (by simp) (rfl : Tryz.f196.body = some _) fns_196 ?_
    simp (maxSteps := 200000) (disch := first | omega | (simp only [go_sem] <;> omega) | fail) only [go_sem]
    rfl
  | mk a k =>
    rw [aPk_mk]
    refine pureW_in 5 Tryz.func196 Tryz.ntmps196 (by simp) (rfl : Tryz.f196.body = some _) fns_196 ?_
    simp (maxSteps := 200000) (disch := first | omega | (simp only [go_sem] <;> omega) | fail) only [go_sem]
    rfl
theorem indexPick_spec (l : List Pk) (hl : l.length ≤ 140737488355328)  : pureW XX 239 [lP l, .fn 196 []] = some (vI (posI (l.findIdx? fun x => !isNil x))) := by
  refine pureW_in 19 Tryz.func239 Tryz.ntmps239 (by simp) (rfl : Tryz.f239.body = some _) fns_239 ?_
  simp (maxSteps := 200000) (disch := first | omega | (simp only [go_sem] <;> omega) | fail) only [go_sem]
  refine WP_range 2 0 l.length (fun i => S_239_2 (lP l) (.fn 196 []) (vI l.length) (vI i) []) (fun i => (l.findIdx? fun x => !isNil x) = ((l.drop i).findIdx? fun x => !isNil x).map (· + i)) rfl rfl ?_ ?_ ?_ ?_
  · simp (maxSteps := 200000) (disch := first | omega | (simp only [go_sem] <;> omega) | fail) only [go_sem]; rfl
  · simp
  · intro i h hI
    rw [findIdx_step _ _ h] at hI
    have hk := isPick_spec l[i]
    cases hv : (fun x => !isNil x) l[i] with
    | true =>
      simp only at hv
      rw [hv] at hk hI
      simp (maxSteps := 200000) (disch := first | omega | (simp only [go_sem] <;> omega) | fail) only [go_sem, nat_int, h, ePk_s, callA_pure mode_196, hk]
      rw [hI]
      simp [posI]
    | false =>
      simp only at hv
      rw [hv] at hk hI
      simp (maxSteps := 200000) (disch := first | omega | (simp only [go_sem] <;> omega) | fail) only [go_sem, nat_int, h, ePk_s, callA_pure mode_196, hk, wrap_succ h hl]
      rw [hI]
      simp
      congr 1
      funext x
      simp
      omega
  · intro hI
    simp (maxSteps := 200000) (disch := first | omega | (simp only [go_sem] <;> omega) | fail) only [go_sem, nat_int]
    rw [hI]
    simp [posI]
theorem anyPick_spec (l : List Pk) (hl : l.length ≤ 140737488355328) : pureW XX 195 [lP l, .fn 196 []] = some (vB (!l.all isNil)) := by
  refine pureW_in 9 Tryz.func195 Tryz.ntmps195 (by simp) (rfl : Tryz.f195.body = some _) fns_195 ?_
  have hi := indexPick_spec l hl
  cases hf : l.findIdx? fun x => !isNil x with
  | none =>
    rw [hf] at hi
    rw [List.findIdx?_eq_none_iff] at hf
    have ha : l.all isNil = true := by
      rw [List.all_eq_true]
      intro x hx
      simpa using hf x hx
    rw [ha]
    simp only [posI] at hi
    have n1 : (0 ≤ (-1 : Int)) = False := eq_false (by omega)
    simp (maxSteps := 200000) (disch := first | omega | (simp only [go_sem] <;> omega) | fail) only [go_sem, callA_pure mode_239, hi, n1]
  | some i =>
    rw [hf] at hi
    rw [List.findIdx?_eq_some_iff_getElem] at hf
    obtain ⟨h1, h2, -⟩ := hf
    have ha : l.all isNil = false := by
      rw [List.all_eq_false]
      exact ⟨l[i], List.getElem_mem h1, by simpa using h2⟩
    rw [ha]
    simp only [posI] at hi
    have n1 : (0 ≤ (i : Int)) = True := eq_true (by omega)
    simp (maxSteps := 200000) (disch := first | omega | (simp only [go_sem] <;> omega) | fail) only [go_sem, callA_pure mode_239, hi, n1]
theorem fitL_rep (s : List Node) : fitL (List.replicate s.length .nil) s := by
  rw [fitL_iff]
  refine ⟨by simp, fun i h1 h2 => ?_⟩
  rw [List.getElem_replicate, fitP]
  trivial
theorem fitL_set {k : List Pk} {s : List Node} (h : fitL k s) (i : Nat) (p : Pk) (hp : ∀ (hi : i < s.length), fitP p s[i]) : fitL (k.set i p) s := by
  rw [fitL_iff] at h ⊢
  refine ⟨by simpa using h.1, fun j h1 h2 => ?_⟩
  rw [List.getElem_set]
  split
  · rename_i e; subst e; exact hp h2
  · exact h.2 j (by simpa using h1) h2
theorem fit_whole (n : Node) : fitP wholeP n := by rw [fitP]; exact .inl ⟨rfl, rfl⟩
theorem fit_nil (n : Node) : fitP .nil n := by rw [fitP]; trivial
theorem scan_fit (kd : List Def) (ns : List Node) : ∀ (es : List Elem) (out : List Pk) (m : Bool) (rest : List Elem) (o' : List Pk) (m' : Bool) (r' : List Elem), fitL out ns → scan kd ns es out m rest = some (o', m', r') → fitL o' ns
  | [], out, m, rest, o', m', r', h, hs => by rw [scan] at hs; cases hs; exact h
  | k :: r, out, m, rest, o', m', r', h, hs => by
    rw [scan] at hs
    split at hs
    · split at hs
      · cases hs
      · rename_i i _
        exact scan_fit kd ns r _ _ _ _ _ _ (fitL_set h i wholeP (fun _ => fit_whole _)) hs
    · exact scan_fit kd ns r _ _ _ _ _ _ h hs
theorem keyed_fit (keys : List Str) : ∀ (s : List Node) (k : List Pk), fitL k s → fitL (keyed keys s k) s
  | n :: s, p :: r, h => by
    rw [fitL] at h
    rw [keyed, fitL]
    refine ⟨?_, keyed_fit keys s r h.2⟩
    split
    · exact fit_whole _
    · exact h.1
  | [], [], h => by rw [keyed]; exact h; intros; simp_all
  | [], p :: r, h => by simp [fitL] at h
  | n :: s, [], h => by simp [fitL] at h
theorem joinL_fit {k m : List Pk} {s : List Node} (hk : fitL k s) (hm : fitL m s) : fitL (joinL k m) s := by
  have l1 := fitL_len hk
  have l2 := fitL_len hm
  rw [fitL_iff]
  refine ⟨by rw [joinL_len]; omega, fun i h1 h2 => ?_⟩
  rw [joinL_get k m i (by omega) (by omega)]
  exact fit_join (cntN s[i] + 1) (by omega) (fitL_get hk (by omega) h2) (fitL_get hm (by omega) h2)
theorem mapPick_fit {s : List Node} {g : Node → Pk} (h : ∀ x ∈ s, fitP (g x) x) : fitL (s.map g) s := by
  rw [fitL_iff]
  refine ⟨by simp, fun i h1 h2 => ?_⟩
  rw [List.getElem_map]
  exact h _ (List.getElem_mem h2)
mutual
theorem fits_fit : ∀ (d : Def) (n : Node) (f : Elem), fitP (fitsD d n f) n
  | .mk nm kind t v ms ks kd, n, f => by
    rw [fitsD]
    split
    · split
      · exact fit_nil _
      · exact fit_whole _
    · split
      · exact fit_nil _
      · split
        · exact fit_whole _
        · split
          · exact fit_nil _
          · rename_i out m rest hsc
            split
            · exact fit_whole _
            · split
              · exact fit_nil _
              · rw [fitP]
                exact .inr ⟨rfl, keyed_fit ks _ _ (joinL_fit (scan_fit _ _ _ _ _ _ _ _ _ (fitL_rep _) hsc) (mapPick_fit fun x _ => pick_fit kd x rest))⟩
theorem pick_fit : ∀ (l : List Def) (n : Node) (fs : List Elem), fitP (pickN l n fs) n
  | [], n, fs => by rw [pickN]; exact fit_nil _
  | d :: r, n, fs => by
    rw [pickN]
    split
    · have : ∀ (fs : List Elem) (p : Pk), fitP p n → fitP (fs.foldl (fun p f => if f.name = n.name then joinP p (fitsD d n f) else p) p) n := by
        intro fs
        induction fs with
        | nil => intro p hp; exact hp
        | cons f fs ih =>
          intro p hp
          rw [List.foldl_cons]
          apply ih
          split
          · exact fit_join (cntN n + 1) (by omega) hp (fits_fit d n f)
          · exact hp
      exact this fs _ (fit_nil _)
    · exact pick_fit r n fs
end
end Go.Abs.SA
end
section
namespace Go.Abs.SA
open Go.Proofs
theorem scan_cnt (kd : List Def) (ns : List Node) : ∀ (es : List Elem) (out : List Pk) (m : Bool) (rest : List Elem) (o' : List Pk) (m' : Bool) (r' : List Elem), scan kd ns es out m rest = some (o', m', r') → cntEs r' ≤ cntEs rest + cntEs es
  | [], out, m, rest, o', m', r', hs => by rw [scan] at hs; cases hs; omega
  | k :: r, out, m, rest, o', m', r', hs => by
    rw [scan] at hs
    have happ : ∀ (a : List Elem) (k : Elem), cntEs (a ++ [k]) = cntEs a + cntE k := by
      intro a k
      induction a with
      | nil => simp [cntEs]
      | cons x a ih => rw [List.cons_append, cntEs, ih, cntEs]; omega
    split at hs
    · split at hs
      · cases hs
      · have := scan_cnt kd ns r _ _ _ _ _ _ hs; rw [cntEs]; omega
    · have := scan_cnt kd ns r _ _ _ _ _ _ hs; rw [happ] at this; rw [cntEs]; omega
theorem snoc_E (l : List Elem) (e : Elem) : l.map eElem ++ [[vS e.space, vS e.name, .fs (e.attrs.map eAttr) false, vS e.text, .fs (e.kids.map eElem) false]] = (l ++ [e]).map eElem := by
  simp [eElem_s]
def keyTo (keys : List Str) (ns : List Node) (J : List Pk) (i : Nat) : List Pk := J.mapIdx fun j p => if j < i ∧ (ns[j]?).any (fun x => has keys x.name) = true then wholeP else p
theorem keyTo_len (keys : List Str) (ns : List Node) (J : List Pk) (i : Nat) : (keyTo keys ns J i).length = J.length := by simp [keyTo]
theorem keyTo_zero (keys : List Str) (ns : List Node) (J : List Pk) : keyTo keys ns J 0 = J := by
  apply List.ext_getElem?
  intro j
  simp [keyTo, List.getElem?_mapIdx]
theorem keyTo_succ (keys : List Str) (ns : List Node) (J : List Pk) {i : Nat} (h : i < ns.length) (hJ : J.length = ns.length) : keyTo keys ns J (i + 1) = if has keys ns[i].name = true then (keyTo keys ns J i).set i wholeP else keyTo keys ns J i := by
  apply List.ext_getElem?
  intro j
  by_cases hj : j < J.length
  · have hn : ns[j]? = some ns[j] := List.getElem?_eq_getElem (by omega)
    have e1 : (keyTo keys ns J (i + 1))[j]? = some (if j < i + 1 ∧ has keys ns[j].name = true then wholeP else J[j]) := by
      simp [keyTo, List.getElem?_mapIdx, List.getElem?_eq_getElem hj, hn]
    have e2 : (keyTo keys ns J i)[j]? = some (if j < i ∧ has keys ns[j].name = true then wholeP else J[j]) := by
      simp [keyTo, List.getElem?_mapIdx, List.getElem?_eq_getElem hj, hn]
    rw [e1]
    by_cases hh : has keys ns[i].name = true
    · rw [if_pos hh, List.getElem?_set, keyTo_len]
      by_cases he : i = j
      · subst he; simp [hj, hh]
      · rw [if_neg he, e2]
        congr 1
        have : (j < i + 1) = (j < i) := propext (by omega)
        simp only [this]
    · rw [if_neg hh, e2]
      by_cases he : j = i
      · subst he; simp [hh]
      · have : (j < i + 1) = (j < i) := propext (by omega)
        simp only [this]
  · have l1 : (keyTo keys ns J (i + 1))[j]? = none := List.getElem?_eq_none (by rw [keyTo_len]; omega)
    rw [l1]
    split
    · rw [List.getElem?_eq_none (by simp [keyTo_len]; omega)]
    · rw [List.getElem?_eq_none (by rw [keyTo_len]; omega)]
theorem keyed_get (keys : List Str) : ∀ (s : List Node) (k : List Pk) (hl : k.length = s.length) (j : Nat) (hj : j < k.length) (hs : j < s.length), (keyed keys s k)[j]? = some (if has keys s[j].name = true then wholeP else k[j])
  | n :: s, p :: r, hl, 0, hj, hs => by rw [keyed]; rfl
  | n :: s, p :: r, hl, j + 1, hj, hs => by
    rw [keyed, List.getElem?_cons_succ]
    exact keyed_get keys s r (by simpa using hl) j (by simpa using hj) (by simpa using hs)
theorem keyed_len (keys : List Str) : ∀ (s : List Node) (k : List Pk), k.length = s.length → (keyed keys s k).length = k.length
  | n :: s, p :: r, hl => by rw [keyed]; simp [keyed_len keys s r (by simpa using hl)]
  | [], [], hl => by rw [keyed]; intros; simp_all
theorem keyTo_all (keys : List Str) (ns : List Node) (J : List Pk) (hJ : J.length = ns.length) : keyTo keys ns J ns.length = keyed keys ns J := by
  apply List.ext_getElem?
  intro j
  by_cases hj : j < J.length
  · have hn : ns[j]? = some ns[j] := List.getElem?_eq_getElem (by omega)
    rw [keyed_get keys ns J hJ j hj (by omega)]
    simp [keyTo, List.getElem?_mapIdx, List.getElem?_eq_getElem hj, hn]
    have : j < ns.length := by omega
    simp [this]
  · rw [List.getElem?_eq_none (by rw [keyTo_len]; omega), List.getElem?_eq_none (by rw [keyed_len keys ns J hJ]; omega)]
end Go.Abs.SA
end
section
namespace Go.Abs.SA
open Go.Proofs
def fitsR (d : Def) (n : Node) : Option (List Pk × Bool × List Elem) → Pk
  | none => .nil
  | some (out, m, rest) =>
        if m = true ∧ rest = [] then wholeP
        else if (joinL out (n.kids.map fun x => pickN d.kids x rest)).all isNil then .nil
        else .mk false (keyed d.keys n.kids (joinL out (n.kids.map fun x => pickN d.kids x rest)))
theorem fitsD_r (d : Def) (n : Node) (f : Elem) : fitsD d n f = (if d.kind = 3 then (if f.kids ≠ [] ∨ (f.text ≠ ⟨#[]⟩ ∧ f.text ≠ n.value) then .nil else wholeP)
    else if f.text ≠ ⟨#[]⟩ then .nil
    else if f.kids = [] then wholeP
    else fitsR d n (scan d.kids n.kids f.kids (List.replicate n.kids.length .nil) false [])) := by
  rw [fitsD_s]
  cases scan d.kids n.kids f.kids (List.replicate n.kids.length .nil) false [] <;> rfl
theorem fits_of (d : Def) (nd : Node) (f : Elem) (hod : okD d) (hcn : cntN nd ≤ 900000) (hcf : cntE f ≤ 900000)
    (hB : ∀ (nodes : List Node) (fs : List Elem), cntL nodes ≤ 900000 → cntEs fs ≤ 900000 → pureW XX 82 [lD d.kids, lN nodes, lE fs] = some (aPk (.mk false (nodes.map fun x => pickN d.kids x fs)))) :
    pureW XX 141 [aDef d, aNode nd, aElem f] = some (aPk (fitsD d nd f)) := by
  obtain ⟨o1, o2, o3, o4⟩ := okD_s hod
  have hkn : nd.kids.length ≤ 900000 := by have := len_cnt nd.kids; rw [cntN_s] at hcn; omega
  have hkf : f.kids.length ≤ 900000 := by have := len_cntEs f.kids; rw [cntE_s] at hcf; omega
  have hw := whole_spec
  rw [fitsD_r]
  refine pureW_in 140 Tryz.func141 Tryz.ntmps141 (by simp) (rfl : Tryz.f141.body = some _) fns_141 ?_
  by_cases hk3 : d.kind = 3
  · have hk3' := eq_true hk3
    rw [if_pos hk3]
    by_cases hkk : (0 : Int) < (f.kids.length : Int)
    · have : f.kids ≠ [] := by intro hh; rw [hh] at hkk; simp at hkk
      rw [if_pos (.inl this), aPk_nil]
      simp (maxSteps := 200000) (disch := first | omega | (simp only [go_sem] <;> omega) | fail) only [go_sem, hk3', hkk]
    · have hkz : f.kids = [] := List.eq_nil_iff_length_eq_zero.2 (by omega)
      by_cases ht : f.text = ⟨#[]⟩
      · have ht' := eq_true ht
        rw [if_neg (by simp [hkz, ht])]
        simp (maxSteps := 200000) (disch := first | omega | (simp only [go_sem] <;> omega) | fail) only [go_sem, hk3', hkk, ht', ne_eq, not_true, callA_data mode_193, hw]
      · by_cases hv : f.text = nd.value
        · have hv' := eq_true hv
          rw [if_neg (by simp [hkz, hv])]
          simp (maxSteps := 200000) (disch := first | omega | (simp only [go_sem] <;> omega) | fail) only [go_sem, hk3', hkk, ht, hv', ne_eq, not_true, not_false_eq_true, callA_data mode_193, hw]
        · rw [if_pos (.inr ⟨ht, hv⟩), aPk_nil]
          simp (maxSteps := 200000) (disch := first | omega | (simp only [go_sem] <;> omega) | fail) only [go_sem, hk3', hkk, ht, hv, ne_eq, not_true, not_false_eq_true]
  rw [if_neg hk3]
  by_cases ht : f.text = ⟨#[]⟩
  case neg =>
    rw [if_pos ht, aPk_nil]
    simp (maxSteps := 200000) (disch := first | omega | (simp only [go_sem] <;> omega) | fail) only [go_sem, hk3, ht, ne_eq, not_false_eq_true]
  have ht' := eq_true ht
  rw [if_neg (by simp [ht])]
  by_cases hkz : f.kids.length = 0
  · have hkz' : ((f.kids.length : Int) = 0) = True := eq_true (by omega)
    rw [if_pos (List.eq_nil_iff_length_eq_zero.2 hkz)]
    simp (maxSteps := 200000) (disch := first | omega | (simp only [go_sem] <;> omega) | fail) only [go_sem, hk3, ht', ne_eq, not_true, hkz', callA_data mode_193, hw]
  have hkz' : ((f.kids.length : Int) = 0) = False := eq_false (by omega)
  rw [if_neg (fun e => hkz (by rw [e]; rfl))]
  have hnn := none_spec nd.kids.length (by omega)
  generalize hR : fitsR d nd (scan d.kids nd.kids f.kids (List.replicate nd.kids.length .nil) false []) = R
  simp (maxSteps := 200000) (disch := first | omega | (simp only [go_sem] <;> omega) | fail) only [go_sem, hk3, ht', ne_eq, not_true, hkz', callA_fresh mode_139, hnn]
  refine WP_loopR 12 6 (fun (a : Nat × List Pk × Bool × List Elem) => S_141_12 (.ptr 0 0) (.ptr 1 0) (.sl 3 0 a.2.2.2.length false) (.ptr 5 0) (vB a.2.2.1) (lE f.kids) (vI f.kids.length) (vI a.1)
    [.var [vS d.name, vI d.kind, vI d.type, lS d.values, vB d.must, lS d.keys, lD d.kids], .var [vS nd.name, vS nd.value, lN nd.kids], .var [vS f.space, vS f.name, .fs (f.attrs.map eAttr) false, vS f.text, lE f.kids],
     .arr 36 5 (a.2.2.2.map eElem), .arr 115 1 (a.2.1.map ePk), .var [vB false, .sl 4 0 nd.kids.length false]]) (fun a => f.kids.length - a.1)
    (fun a => a.1 ≤ f.kids.length ∧ a.2.2.2.length ≤ a.1 ∧ fitL a.2.1 nd.kids ∧ scan d.kids nd.kids f.kids (List.replicate nd.kids.length .nil) false [] = scan d.kids nd.kids (f.kids.drop a.1) a.2.1 a.2.2.1 a.2.2.2)
    (0, List.replicate nd.kids.length .nil, false, []) rfl rfl ?_ ?_ ?_
  · simp (maxSteps := 200000) (disch := first | omega | (simp only [go_sem] <;> omega) | fail) only [go_sem]; rfl
  · exact ⟨by simp, by simp, fitL_rep _, rfl⟩
  · rintro ⟨i, out, m, rest⟩ ⟨hi, hr, hfit, hsc⟩
    simp only at hi hr hfit hsc
    have hol := fitL_len hfit
    by_cases h : i < f.kids.length
    case neg =>
      rw [List.drop_of_length_le (by omega), scan] at hsc
      rw [hsc] at hR
      simp only [fitsR] at hR
      by_cases hmr : m = true ∧ rest = []
      · obtain ⟨rfl, rfl⟩ := hmr
        have n0 : (((0 : Nat) : Int) = 0) = True := eq_true rfl
        rw [if_pos ⟨rfl, rfl⟩] at hR
        subst hR
        simp (maxSteps := 200000) (disch := first | omega | (simp only [go_sem] <;> omega) | fail) only [go_sem, nat_int, h, List.length_nil, n0, callA_data mode_193, hw]
      rw [if_neg hmr] at hR
      have hrc := scan_cnt _ _ _ _ _ _ _ _ _ hsc
      have hsome := hB nd.kids rest (by rw [cntN_s] at hcn; omega) (by simp only [cntEs] at hrc; rw [cntE_s] at hcf; omega)
      have hfs := mapPick_fit (s := nd.kids) (g := fun x => pickN d.kids x rest) (fun x _ => pick_fit d.kids x rest)
      generalize hsl : nd.kids.map (fun x => pickN d.kids x rest) = sl at *
      have hlsl := fitL_len hfs
      have hJf := joinL_fit hfit hfs
      have hJl := fitL_len hJf
      have hcnt := fitL_cnt out nd.kids hfit
      rw [cntN_s] at hcn
      have hjn := join_spec (cntPs out + 1) out sl (by omega) (by omega) (fit_shape (cntN nd + 1) (n := nd) (by omega) (by rw [fitP]; exact .inr ⟨rfl, hfit⟩) (by rw [fitP]; exact .inr ⟨rfl, hfs⟩)) (by omega)
      have hjo := mk_P out
      have hjs := mk_P sl
      have hany := anyPick_spec (joinL out sl) (by omega)
      generalize joinL out sl = J at *
      cases hall : J.all isNil with
      | true =>
        rw [hall] at hany
        rw [hall, if_pos rfl] at hR
        subst hR
        rw [aPk_nil]
        cases m with
        | false =>
          simp (maxSteps := 200000) (disch := first | omega | (simp only [go_sem] <;> omega) | fail) only [go_sem, nat_int, h, callA_data mode_82, hsome, callA_fresh mode_140, hjn, hjo, hjs, callA_pure mode_195, hany]
        | true =>
          have hrn : ((rest.length : Int) = 0) = False := eq_false (by
            intro e
            exact hmr ⟨rfl, List.eq_nil_iff_length_eq_zero.2 (by omega)⟩)
          simp (maxSteps := 200000) (disch := first | omega | (simp only [go_sem] <;> omega) | fail) only [go_sem, nat_int, h, hrn, callA_data mode_82, hsome, callA_fresh mode_140, hjn, hjo, hjs, callA_pure mode_195, hany]
      | false =>
        rw [hall] at hany
        rw [hall, if_neg (by simp)] at hR
        subst hR
        cases m with
        | false =>
          simp (maxSteps := 200000) (disch := first | omega | (simp only [go_sem] <;> omega) | fail) only [go_sem, nat_int, h, callA_data mode_82, hsome, callA_fresh mode_140, hjn, hjo, hjs, callA_pure mode_195, hany]
          refine WP_range 28 8 nd.kids.length (fun i => S_141_28 (.ptr 0 0) (.ptr 7 0) (lN nd.kids) (vI nd.kids.length) (vI i)
            [.var [vS d.name, vI d.kind, vI d.type, lS d.values, vB d.must, lS d.keys, lD d.kids], .var [vS nd.name, vS nd.value, lN nd.kids], .var [vS f.space, vS f.name, .fs (f.attrs.map eAttr) false, vS f.text, lE f.kids],
             .dead, .dead, .dead, .arr 115 1 ((keyTo d.keys nd.kids J i).map ePk), .var [vB false, .sl 6 0 J.length false]]) (fun _ => True) rfl rfl ?_ ?_ ?_ ?_
          · simp (maxSteps := 200000) (disch := first | omega | (simp only [go_sem] <;> omega) | fail) only [go_sem, keyTo_zero]; rfl
          · trivial
          · intro j hj _
            have hjk : j < (keyTo d.keys nd.kids J j).length := by rw [keyTo_len]; omega
            have hjJ : j < J.length := by omega
            have hws2 := wrap_succ hj (show nd.kids.length ≤ 140737488355328 by omega)
            have hct := contains_spec d.keys nd.kids[j].name (by omega)
            have hks := keyTo_succ d.keys nd.kids J hj (by omega)
            cases hhas : has d.keys nd.kids[j].name with
            | true =>
              rw [hhas] at hct hks
              rw [if_pos rfl] at hks
              rw [hks]
              generalize keyTo d.keys nd.kids J j = u at *
              simp (maxSteps := 200000) (disch := first | omega | (simp only [go_sem] <;> omega) | fail) only [go_sem, nat_int, hj, hjk, hjJ, eNode_s, callA_pure mode_117, hct, callA_data mode_193, hw, hws2]
            | false =>
              rw [hhas] at hct hks
              rw [if_neg (by simp)] at hks
              rw [hks]
              generalize keyTo d.keys nd.kids J j = u at *
              simp (maxSteps := 200000) (disch := first | omega | (simp only [go_sem] <;> omega) | fail) only [go_sem, nat_int, hj, hjk, hjJ, eNode_s, callA_pure mode_117, hct, hws2]
          · intro _
            rw [keyTo_all _ _ _ (by omega)]
            have hkl := keyed_len d.keys nd.kids J (by omega)
            generalize keyed d.keys nd.kids J = KK at *
            simp (maxSteps := 200000) (disch := first | omega | (simp only [go_sem] <;> omega) | fail) only [go_sem, nat_int, aPk_mk]
        | true =>
          have hrn : ((rest.length : Int) = 0) = False := eq_false (by
            intro e
            exact hmr ⟨rfl, List.eq_nil_iff_length_eq_zero.2 (by omega)⟩)
          simp (maxSteps := 200000) (disch := first | omega | (simp only [go_sem] <;> omega) | fail) only [go_sem, nat_int, h, hrn, callA_data mode_82, hsome, callA_fresh mode_140, hjn, hjo, hjs, callA_pure mode_195, hany]
          refine WP_range 28 8 nd.kids.length (fun i => S_141_28 (.ptr 0 0) (.ptr 7 0) (lN nd.kids) (vI nd.kids.length) (vI i)
            [.var [vS d.name, vI d.kind, vI d.type, lS d.values, vB d.must, lS d.keys, lD d.kids], .var [vS nd.name, vS nd.value, lN nd.kids], .var [vS f.space, vS f.name, .fs (f.attrs.map eAttr) false, vS f.text, lE f.kids],
             .dead, .dead, .dead, .arr 115 1 ((keyTo d.keys nd.kids J i).map ePk), .var [vB false, .sl 6 0 J.length false]]) (fun _ => True) rfl rfl ?_ ?_ ?_ ?_
          · simp (maxSteps := 200000) (disch := first | omega | (simp only [go_sem] <;> omega) | fail) only [go_sem, keyTo_zero]; rfl
          · trivial
          · intro j hj _
            have hjk : j < (keyTo d.keys nd.kids J j).length := by rw [keyTo_len]; omega
            have hjJ : j < J.length := by omega
            have hws2 := wrap_succ hj (show nd.kids.length ≤ 140737488355328 by omega)
            have hct := contains_spec d.keys nd.kids[j].name (by omega)
            have hks := keyTo_succ d.keys nd.kids J hj (by omega)
            cases hhas : has d.keys nd.kids[j].name with
            | true =>
              rw [hhas] at hct hks
              rw [if_pos rfl] at hks
              rw [hks]
              generalize keyTo d.keys nd.kids J j = u at *
              simp (maxSteps := 200000) (disch := first | omega | (simp only [go_sem] <;> omega) | fail) only [go_sem, nat_int, hj, hjk, hjJ, eNode_s, callA_pure mode_117, hct, callA_data mode_193, hw, hws2]
            | false =>
              rw [hhas] at hct hks
              rw [if_neg (by simp)] at hks
              rw [hks]
              generalize keyTo d.keys nd.kids J j = u at *
              simp (maxSteps := 200000) (disch := first | omega | (simp only [go_sem] <;> omega) | fail) only [go_sem, nat_int, hj, hjk, hjJ, eNode_s, callA_pure mode_117, hct, hws2]
          · intro _
            rw [keyTo_all _ _ _ (by omega)]
            have hkl := keyed_len d.keys nd.kids J (by omega)
            generalize keyed d.keys nd.kids J = KK at *
            simp (maxSteps := 200000) (disch := first | omega | (simp only [go_sem] <;> omega) | fail) only [go_sem, nat_int, aPk_mk]
    have hws := wrap_succ h (show f.kids.length ≤ 140737488355328 by omega)
    rw [List.drop_eq_getElem_cons h, scan] at hsc
    have pl := find_spec d.kids f.kids[i].name (by omega)
    have hnot : isTest d.kids f.kids[i] = false → scan d.kids nd.kids f.kids (List.replicate nd.kids.length .nil) false [] = scan d.kids nd.kids (f.kids.drop (i + 1)) out m (rest ++ [f.kids[i]]) := by
      intro ht; rw [hsc, ht]; rfl
    cases hp : place d.kids f.kids[i].name with
    | none =>
      rw [hp] at pl
      simp only [posI] at pl
      have n1 : ((-1 : Int) < 0) = True := eq_true (by omega)
      simp (maxSteps := 200000) (disch := first | omega | (simp only [go_sem] <;> omega) | fail) only [go_sem, nat_int, h, eElem_s, eDef_s, callA_pure mode_55, pl, n1, hws, snoc_E]
      exact ⟨(i + 1, out, m, rest ++ [f.kids[i]]), by simp, ⟨by simp; omega, by simp; omega, hfit, hnot (by simp [isTest, hp])⟩, by simp; omega⟩
    | some q =>
    obtain ⟨hq, hqn⟩ := place_some hp
    rw [hp] at pl
    simp only [posI] at pl
    have n1 : ((q : Int) < 0) = False := eq_false (by omega)
    by_cases hk : d.kids[q].kind = 3
    case neg =>
      simp (maxSteps := 200000) (disch := first | omega | (simp only [go_sem] <;> omega) | fail) only [go_sem, nat_int, h, hq, eElem_s, eDef_s, callA_pure mode_55, pl, n1, hws, snoc_E, hk, ne_eq, not_false_eq_true]
      exact ⟨(i + 1, out, m, rest ++ [f.kids[i]]), by simp, ⟨by simp; omega, by simp; omega, hfit, hnot (by simp [isTest, hp, List.getElem?_eq_getElem hq, hk])⟩, by simp; omega⟩
    have hk' := eq_true hk
    by_cases htx : f.kids[i].text = ⟨#[]⟩
    · have htx' := eq_true htx
      simp (maxSteps := 200000) (disch := first | omega | (simp only [go_sem] <;> omega) | fail) only [go_sem, nat_int, h, hq, eElem_s, eDef_s, callA_pure mode_55, pl, n1, hws, snoc_E, hk', htx', ne_eq, not_true]
      exact ⟨(i + 1, out, m, rest ++ [f.kids[i]]), by simp, ⟨by simp; omega, by simp; omega, hfit, hnot (by simp [isTest, hp, List.getElem?_eq_getElem hq, htx])⟩, by simp; omega⟩
    have hte : isTest d.kids f.kids[i] = true := by simp [isTest, hp, List.getElem?_eq_getElem hq, hk, htx]
    rw [hte, if_pos rfl] at hsc
    have hix := indexLeaf_spec nd.kids f.kids[i] (by omega)
    cases hat : leafAt nd.kids f.kids[i] with
    | none =>
      rw [hat] at hsc
      simp only at hsc
      rw [hsc] at hR
      simp only [fitsR] at hR
      subst hR
      simp only [leafAt] at hat
      rw [hat] at hix
      simp only [posI] at hix
      have n2 : ((-1 : Int) < 0) = True := eq_true (by omega)
      simp (maxSteps := 200000) (disch := first | omega | (simp only [go_sem] <;> omega) | fail) only [go_sem, nat_int, h, hq, eElem_s, eDef_s, callA_pure mode_55, pl, n1, hws, hk', htx, ne_eq, not_true, callA_pure mode_108, hix, n2, aPk_nil]
    | some z =>
      rw [hat] at hsc
      simp only at hsc
      have hz : z < nd.kids.length := by
        simp only [leafAt] at hat
        rw [List.findIdx?_eq_some_iff_getElem] at hat
        exact hat.1
      have hzo : z < out.length := by omega
      simp only [leafAt] at hat
      rw [hat] at hix
      simp only [posI] at hix
      have n2 : ((z : Int) < 0) = False := eq_false (by omega)
      simp (maxSteps := 200000) (disch := first | omega | (simp only [go_sem] <;> omega) | fail) only [go_sem, nat_int, h, hq, hz, hzo, eElem_s, eDef_s, callA_pure mode_55, pl, n1, hws, hk', htx, ne_eq, not_true, callA_pure mode_108, hix, n2, callA_data mode_193, hw]
      exact ⟨(i + 1, out.set z wholeP, true, rest), by simp, ⟨by simp; omega, by simp; omega, fitL_set hfit z wholeP (fun _ => fit_whole _), hsc⟩, by simp; omega⟩
end Go.Abs.SA
end
section
namespace Go.Abs.SA
open Go.Proofs
def stepP (d : Def) (n : Node) (p : Pk) (f : Elem) : Pk := if f.name = n.name then joinP p (fitsD d n f) else p
theorem pickN_t (l : List Def) (n : Node) (fs : List Elem) {q : Nat} (h : place l n.name = some q) (hq : q < l.length) : pickN l n fs = fs.foldl (stepP l[q] n) .nil := by
  rw [pickN_s, h]; simp only [List.getElem?_eq_getElem hq]; rfl
theorem fold_fit (d : Def) (n : Node) : ∀ (fs : List Elem) (p : Pk), fitP p n → fitP (fs.foldl (stepP d n) p) n
  | [], p, h => h
  | f :: fs, p, h => by
    rw [List.foldl_cons]
    apply fold_fit d n fs
    unfold stepP
    split
    · exact fit_join (cntN n + 1) (by omega) h (fits_fit d n f)
    · exact h
theorem upto_nil (J : List Pk) {i : Nat} (h : i < J.length) : (upto J i).set i .nil = upto J i := by
  apply List.ext_getElem?
  intro j
  rw [List.getElem?_set, upto_len]
  by_cases he : i = j
  · subst he
    rw [if_pos rfl, if_pos h, upto_get J i i h, if_neg (by omega)]
  · rw [if_neg he]
theorem some_spec : ∀ (n : Nat) (l : List Def) (nodes : List Node) (fs : List Elem), cntDs l < n → okDs l → l.length ≤ 1099511627776 → cntL nodes ≤ 900000 → cntEs fs ≤ 900000 →
    pureW XX 82 [lD l, lN nodes, lE fs] = some (aPk (.mk false (nodes.map fun x => pickN l x fs))) := by
  intro n
  induction n with
  | zero => intro l nodes fs h; omega
  | succ n ih =>
    intro l nodes fs hc hod hl hcn hcf
    have hln := len_cnt nodes
    have hlf := len_cntEs fs
    refine pureW_in 66 Tryz.func82 Tryz.ntmps82 (by simp) (rfl : Tryz.f82.body = some _) fns_82 ?_
    have hnn := none_spec nodes.length (by omega)
    simp (maxSteps := 200000) (disch := first | omega | (simp only [go_sem] <;> omega) | fail) only [go_sem, callA_fresh mode_139, hnn]
    have hJl : (nodes.map fun x => pickN l x fs).length = nodes.length := by simp
    have hJg : ∀ (i : Nat) (h : i < nodes.length) (h' : i < (nodes.map fun x => pickN l x fs).length), (nodes.map fun x => pickN l x fs)[i] = pickN l nodes[i] fs := by intro i h h'; simp
    generalize (nodes.map fun x => pickN l x fs) = J at *
    refine WP_range 3 2 nodes.length (fun i => S_82_3 (lD l) (lE fs) (.ptr 1 0) (lN nodes) (vI nodes.length) (vI i) [.arr 115 1 ((upto J i).map ePk), .var [vB false, .sl 0 0 nodes.length false]]) (fun _ => True) rfl rfl ?_ ?_ ?_ ?_
    · simp (maxSteps := 200000) (disch := first | omega | (simp only [go_sem] <;> omega) | fail) only [go_sem]
      rw [upto_zero, hJl]
      rfl
    · trivial
    · intro i h _
      have hJi : i < J.length := by omega
      have hg := hJg i h hJi
      have hwi := wrap_succ h (show nodes.length ≤ 140737488355328 by omega)
      have pl := find_spec l nodes[i].name (by omega)
      have hfull := upto_set J hJi
      rw [hg] at hfull
      have hni := cnt_mem (List.getElem_mem h)
      cases hp : place l nodes[i].name with
      | none =>
        rw [hp] at pl
        simp only [posI] at pl
        have n1 : (0 ≤ (-1 : Int)) = False := eq_false (by omega)
        have hpk : pickN l nodes[i] fs = .nil := by rw [pickN_s, hp]
        rw [hpk, upto_nil J hJi] at hfull
        simp (maxSteps := 200000) (disch := first | omega | (simp only [go_sem] <;> omega) | fail) only [go_sem, nat_int, h, eNode_s, callA_pure mode_55, pl]
        refine WP_range 7 3 fs.length (fun j => S_82_7 (lD l) (lE fs) (.ptr 1 0) (vI i) (.ptr 2 0) (vI (-1)) (lN nodes) (vI nodes.length) (vI i) (lE fs) (vI fs.length) (vI j) [.arr 115 1 ((upto J i).map ePk), .var [vB false, .sl 0 0 nodes.length false], .var [vS nodes[i].name, vS nodes[i].value, lN nodes[i].kids]]) (fun _ => True) rfl rfl ?_ ?_ ?_ ?_
        · simp (maxSteps := 200000) (disch := first | omega | (simp only [go_sem] <;> omega) | fail) only [go_sem]; rfl
        · trivial
        · intro j hj _
          simp (maxSteps := 200000) (disch := first | omega | (simp only [go_sem] <;> omega) | fail) only [go_sem, nat_int, hj, eElem_s, n1, wrap_succ hj (show fs.length ≤ 140737488355328 by omega)]
        · intro _
          simp (maxSteps := 200000) (disch := first | omega | (simp only [go_sem] <;> omega) | fail) only [go_sem, nat_int, hwi]
          rw [hfull]
      | some q =>
        obtain ⟨hq, hqn⟩ := place_some hp
        rw [hp] at pl
        simp only [posI] at pl
        have n1 : (0 ≤ (q : Int)) = True := eq_true (by omega)
        have hod2 := okDs_mem hod (List.getElem_mem hq)
        obtain ⟨o1, o2, o3, o4⟩ := okD_s hod2
        have hcd := cntD_mem (List.getElem_mem hq)
        rw [cntD_s] at hcd
        have hpk := pickN_t l nodes[i] fs hp hq
        simp (maxSteps := 200000) (disch := first | omega | (simp only [go_sem] <;> omega) | fail) only [go_sem, nat_int, h, eNode_s, callA_pure mode_55, pl]
        refine WP_range 7 3 fs.length (fun j => S_82_7 (lD l) (lE fs) (.ptr 1 0) (vI i) (.ptr 2 0) (vI q) (lN nodes) (vI nodes.length) (vI i) (lE fs) (vI fs.length) (vI j) [.arr 115 1 (((upto J i).set i ((fs.take j).foldl (stepP l[q] nodes[i]) .nil)).map ePk), .var [vB false, .sl 0 0 nodes.length false], .var [vS nodes[i].name, vS nodes[i].value, lN nodes[i].kids]]) (fun _ => True) rfl rfl ?_ ?_ ?_ ?_
        · simp (maxSteps := 200000) (disch := first | omega | (simp only [go_sem] <;> omega) | fail) only [go_sem]
          rw [List.foldl_nil, upto_nil J hJi]
          rfl
        · trivial
        · intro j hj _
          have hws := wrap_succ hj (show fs.length ≤ 140737488355328 by omega)
          have hacc := fold_fit l[q] nodes[i] (fs.take j) .nil (fit_nil _)
          have htk : (fs.take (j + 1)).foldl (stepP l[q] nodes[i]) .nil = stepP l[q] nodes[i] ((fs.take j).foldl (stepP l[q] nodes[i]) .nil) fs[j] := by
            rw [List.take_succ_eq_append_getElem hj, List.foldl_append]; rfl
          rw [htk]
          generalize (fs.take j).foldl (stepP l[q] nodes[i]) .nil = acc at *
          have hset : ∀ x, ((upto J i).set i acc).set i x = (upto J i).set i x := fun x => List.set_set ..
          have hul : ((upto J i).set i acc).length = nodes.length := by rw [List.length_set, upto_len, hJl]
          have hui : ∀ hh : i < ((upto J i).set i acc).length, ((upto J i).set i acc)[i] = acc := fun hh => List.getElem_set_self hh
          obtain ⟨u, hu⟩ : ∃ u, (upto J i).set i acc = u := ⟨_, rfl⟩
          rw [hu] at hul
          simp only [hu] at hset hui
          have hiu : i < u.length := by omega
          have hui := hui hiu
          unfold stepP
          rw [hu]
          by_cases hnm : fs[j].name = nodes[i].name
          case neg =>
            rw [if_neg hnm, hu]
            simp (maxSteps := 200000) (disch := first | omega | (simp only [go_sem] <;> omega) | fail) only [go_sem, nat_int, hj, eElem_s, n1, hnm, hws]
          have hnm' := eq_true hnm
          rw [if_pos hnm, ← hset (joinP acc (fitsD l[q] nodes[i] fs[j]))]
          have hfi := fits_of l[q] nodes[i] fs[j] hod2 (by omega) (by have := cntE_mem (List.getElem_mem hj); omega) (fun ns es h1 h2 => ih l[q].kids ns es (by omega) o4 o3 h1 h2)
          have hff := fits_fit l[q] nodes[i] fs[j]
          generalize fitsD l[q] nodes[i] fs[j] = F at *
          have hsh := fit_shape (cntN nodes[i] + 1) (n := nodes[i]) (by omega) hacc hff
          rcases join_cases hsh with hjc | ⟨c, c', e1, e2⟩
          · simp (maxSteps := 200000) (disch := first | omega | (simp only [go_sem] <;> omega) | fail) only [go_sem, nat_int, h, hj, hq, eElem_s, eNode_s, eDef_s, n1, hnm', hws, hiu, hui, ePk_s, callA_data mode_141, hfi, callA_fresh mode_140, hjc]
          · have hac := fit_cnt acc nodes[i] hacc
            rw [e1, cntP] at hac
            have hcl : c.length ≤ 1099511627776 := by
              have : ∀ l : List Pk, l.length ≤ cntPs l := by
                intro l
                induction l with
                | nil => simp
                | cons p r ih2 => rw [cntPs, List.length_cons]; have : 1 ≤ cntP p := by cases p <;> simp [cntP]
                                  omega
              have := this c
              omega
            have hjc := join_spec (cntPs c + 1) c c' (by omega) (by omega) (by rw [← e1, ← e2]; exact hsh) hcl
            subst e1
            subst e2
            rw [joinP, if_neg (by simp)]
            generalize joinL c c' = cc at *
            have hcc := mk_P cc
            simp (maxSteps := 200000) (disch := first | omega | (simp only [go_sem] <;> omega) | fail) only [go_sem, nat_int, h, hj, hq, eElem_s, eNode_s, eDef_s, n1, hnm', hws, hiu, hui, ePk_s, callA_data mode_141, hfi, callA_fresh mode_140, hjc, hcc]
        · intro _
          rw [List.take_length, ← hpk, hfull]
          simp (maxSteps := 200000) (disch := first | omega | (simp only [go_sem] <;> omega) | fail) only [go_sem, nat_int, hwi]
    · intro _
      rw [show upto J nodes.length = J from by rw [← hJl]; exact upto_all J]
      simp (maxSteps := 200000) (disch := first | omega | (simp only [go_sem] <;> omega) | fail) only [go_sem, nat_int, aPk_mk]
def sieveF (l : List Def) (nodes : List Node) (fs : List Elem) : List Node := cutL (nodes.map fun x => pickN l x fs) nodes
theorem filter_spec (l : List Def) (nodes : List Node) (fs : List Elem) (hod : okDs l) (hl : l.length ≤ 1099511627776) (hcn : cntL nodes ≤ 900000) (hcf : cntEs fs ≤ 900000) :
    pureW XX 32 [lD l, lN nodes, lE fs] = some (lN (sieveF l nodes fs)) := by
  refine pureW_in 13 Tryz.func32 Tryz.ntmps32 (by simp) (rfl : Tryz.f32.body = some _) fns_32 ?_
  have hs := some_spec (cntDs l + 1) l nodes fs (by omega) hod hl hcn hcf
  have hfit := mapPick_fit (s := nodes) (g := fun x => pickN l x fs) (fun x _ => pick_fit l x fs)
  have hc := cut_spec (cntL nodes + 1) _ nodes (by omega) (by omega) hfit
  unfold sieveF
  generalize (nodes.map fun x => pickN l x fs) = J at *
  rw [aPk_mk] at hs hc
  simp (maxSteps := 200000) (disch := first | omega | (simp only [go_sem] <;> omega) | fail) only [go_sem, callA_data mode_82, hs, callA_data mode_83, hc]
end Go.Abs.SA
end
