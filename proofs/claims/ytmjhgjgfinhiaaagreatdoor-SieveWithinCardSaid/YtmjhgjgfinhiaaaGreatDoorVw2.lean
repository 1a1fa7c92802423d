/- YtmjhgjgfinhiaaaGreatDoorVw2: a part of the interpreter by which the claim is shown, and of the walks: no conditions of its own: every theorem states its own. -/
import Derived.Test.YtmjhgjgfinhiaaaGreatDoorVw1
import Derived.Test.YtmjhgjgfinhiaaaGreatDoorVa6
set_option linter.unusedVariables false
set_option linter.unusedSimpArgs false
set_option linter.unusedSectionVars false
set_option maxHeartbeats 8000000
set_option maxRecDepth 100000
section
namespace Go.Abs.SA
open Go.Proofs
mutual
def nW : Node → Nat
  | .mk n v k => n.size + v.size + nWs k + 1
def nWs : List Node → Nat
  | [] => 0
  | x :: r => nW x + nWs r
end
mutual
theorem eW_elemN : ∀ x : Node, eW (elemN ⟨#[]⟩ x) = nW x
  | .mk n v k => by
    rw [elemN, eW, nW, eWs_elemL k]
    simp only [List.map_nil, List.sum_nil]
    rw [show ByteArray.size ⟨#[]⟩ = 0 from rfl]; omega
theorem eWs_elemL : ∀ l : List Node, eWs (elemL ⟨#[]⟩ l) = nWs l
  | [] => rfl
  | x :: r => by rw [elemL, eWs, nWs, eW_elemN x, eWs_elemL r]
end
def textE (l : List Node) : Elem := .mk ⟨#[]⟩ ⟨#[99, 111, 110, 102, 105, 103]⟩ [] ⟨#[]⟩ (l.map (elemN ⟨#[]⟩))
def textN (l : List Node) : Str := mkS (writeB (textE l) [])
theorem eW_textE (l : List Node) : eW (textE l) = nWs l + 7 := by
  unfold textE
  rw [eW, ← elemL_map, eWs_elemL]
  simp only [List.map_nil, List.sum_nil]
  rw [show ByteArray.size ⟨#[]⟩ = 0 from rfl, show ByteArray.size ⟨#[99, 111, 110, 102, 105, 103]⟩ = 6 from rfl]; omega
theorem modelText_spec (l : List Node) (hc : cntL l < 1000000) (hb : nWs l ≤ 60000000) : pureW XX 31 [lN l] = some (vS (textN l)) := by
  have he := elems_spec ⟨#[]⟩ (cntL l + 1) l (by omega) (by omega)
  have hw := writeB_le (eW (textE l) + 1) (textE l) [] (by omega)
  rw [eW_textE] at hw
  have ht := text_spec (textE l) (by omega)
  rw [eElem_s] at ht
  unfold textN
  simp only [textE, Elem.space, Elem.name, Elem.attrs, Elem.text, Elem.kids, List.map_nil] at ht ⊢
  obtain ⟨R, hR⟩ : ∃ R, writeB (.mk ⟨#[]⟩ ⟨#[99, 111, 110, 102, 105, 103]⟩ [] ⟨#[]⟩ (l.map (elemN ⟨#[]⟩))) [] = R := ⟨_, rfl⟩
  rw [hR] at ht ⊢
  refine pureW_in 7 Tryz.func31 Tryz.ntmps31 (by simp) (rfl : Tryz.f31.body = some _) fns_31 ?_
  simp (maxSteps := 200000) (disch := first | omega | (simp only [go_sem] <;> omega) | fail) only [go_sem, callA_data mode_81, he, callA_pure mode_43, ht]
end Go.Abs.SA
end
section
namespace Go.Abs.SA
open Go.Proofs
mutual
def tW : Elem → Nat
  | .mk s nm a t k => wE (.mk s nm a t k) + tWs k
def tWs : List Elem → Nat
  | [] => 0
  | e :: r => tW e + tWs r
end
mutual
theorem smallN_tW : ∀ (e : Elem) (n : Int), 0 ≤ smallN n e → tW e + smallN n e ≤ n
  | .mk s nm a t k, n, h => by
    rw [smallN] at h ⊢
    rw [tW]
    split at h
    · omega
    · rename_i hn
      rw [if_neg hn]
      have := smallL_tW k _ h
      omega
theorem smallL_tW : ∀ (l : List Elem) (n : Int), 0 ≤ smallL n l → tWs l + smallL n l ≤ n
  | [], n, h => by simp [tWs, smallL]
  | e :: r, n, h => by
    rw [smallL] at h ⊢
    rw [tWs]
    split at h
    · omega
    · rename_i hn
      rw [if_neg hn]
      have h1 := smallL_tW r _ h
      have h2 := smallN_tW e n (by omega)
      omega
end
theorem nWs_sum : ∀ l : List Node, nWs l = (l.map nW).sum
  | [] => rfl
  | x :: r => by simp only [nWs, List.map_cons, List.sum_cons, nWs_sum r]
theorem nWs_order (l : List Def) (ns : List Node) : nWs (order l ns) = nWs ns := by
  rw [nWs_sum, nWs_sum]
  exact ((order_perm l ns).map nW).sum_nat
theorem nWs_app (a b : List Node) : nWs (a ++ b) = nWs a + nWs b := by
  simp only [nWs_sum, List.map_append, List.sum_append]
mutual
theorem rdE_tW (l : List Def) : ∀ (e : Elem) (d : Def) (n : Node), rdE l e = .ok (d, n) → nW n ≤ 50 * tW e
  | .mk s nm a t k, d, n, h => by
    have hz : ByteArray.size ⟨#[]⟩ = 0 := rfl
    rw [rdE] at h
    split at h
    · cases h
    · split at h
      · cases h
      · split at h
        · split at h
          · cases h
          · cases h
            simp only [nW, nWs, tW, wE, Elem.text, Elem.space, Elem.name, Elem.attrs]
            omega
        · split at h
          · cases h
          · split at h
            · cases h
            · rename_i d' _ _ _ nodes hn
              split at h
              · cases h
                have := rdL_tW _ k _ _ _ hn
                simp only [nW, nWs, tW, wE, Elem.text, Elem.space, Elem.name, Elem.attrs, hz] at this ⊢
                omega
              · cases h
theorem rdL_tW (l : List Def) : ∀ (es : List Elem) (out all nodes : List Node), rdL l out all es = .ok nodes → nWs nodes ≤ nWs out + 50 * tWs es
  | [], out, all, nodes, h => by
    rw [rdL] at h
    split at h
    · cases h
    · cases h; rw [nWs_order]; omega
  | e :: r, out, all, nodes, h => by
    rw [rdL] at h
    split at h
    · cases h
    · rename_i d n hn
      split at h
      · cases h
      · have h1 := rdL_tW l r _ _ _ h
        have h2 := rdE_tW l e d n hn
        rw [tWs]
        split at h1
        · rw [nWs_app] at h1; simp only [nWs] at h1; omega
        · omega
end
theorem tree_nW {l : List Elem} {n : List Node} (h : tree l = some n) : nWs n ≤ 15000 := by
  have hr := (tree_some h).1
  unfold tree at h
  split at h
  · cases h
  · rename_i hs
    have hc := smallL_tW l 300 (by omega)
    have := rdL_tW _ _ _ _ _ hr
    simp only [nWs] at this
    omega
theorem within_all {l : List Def} {nodes : List Node} {a : List Elem} (hw : wfDs l) (hg : goodL l nodes nodes) (hnd : nodes.Nodup) (hnds : ndL nodes) : withinL l (sieveF l nodes a) nodes = true := by
  have hk : kpNs l nodes (List.replicate nodes.length wholeP) := kpNs_whole l nodes _
  have hle : ∀ (J : List Pk) (k : Nat), leL J (List.replicate k wholeP) := by
    intro J
    induction J with
    | nil => intro k; exact leL_nill _
    | cons q J ih =>
      intro k
      cases k with
      | zero => exact leL_nilr _
      | succ k => rw [List.replicate_succ, leL]; exact ⟨leP_true _ _, ih k⟩
  have := cut_within (cntL nodes + 1) l nodes (nodes.map fun x => pickN l x a) (List.replicate nodes.length wholeP) (by omega) hw hg hnd hnds (mapPick_fit fun x _ => pick_fit l x a) (fitL_whole nodes) (kpNs_map _ _ _ fun x _ => pick_kp l x a hw) hk (hle _ _)
  rw [cutL_whole] at this
  exact this
theorem sieve_none (l : List Def) : ∀ (n : List Node), sieveF l n [] = [] := by
  intro n
  unfold sieveF
  induction n with
  | nil => simp [cutL]
  | cons x s ih =>
    rw [List.map_cons]
    have hp : pickN l x [] = .nil := by
      rw [pickN_s]
      split
      · rfl
      · split
        · rfl
        · rfl
    rw [hp, cutL_nil]; exact ih
end Go.Abs.SA
end
section
namespace Go.Abs.SA
open Go.Proofs
theorem sieveWithin_law (elems b : List Elem) (hok : okEs elems) (hl : elems.length ≤ 140737488355328) (hokb : okEs b) (hlb : b.length ≤ 140737488355328) :
    pureW XX 5 [lE elems, lE b] = some (vB true) := by
  refine pureW_in 56 Tryz.func5 Tryz.ntmps5 (by simp) (rfl : Tryz.f5.body = some _) fns_5 ?_
  have ht := tree16_spec elems hok hl
  cases htr : tree elems with
  | none =>
    simp only [aTree, htr, Option.isSome, Option.getD_none] at ht
    simp (maxSteps := 200000) (disch := first | omega | (simp only [go_sem] <;> omega) | fail) only [go_sem, callA_pure mode_28, fit16_spec, callA_data mode_29, ht]
  | some n =>
  simp only [aTree, htr, Option.isSome, Option.getD_some] at ht
  obtain ⟨-, -, hn⟩ := tree_some htr
  have hnw := tree_nW htr
  have hsb := small_spec (cntEs b + 1) b 300 (by omega) hokb hlb (by omega) (by omega)
  by_cases hb : smallL 300 b < 0
  · simp (maxSteps := 200000) (disch := first | omega | (simp only [go_sem] <;> omega) | fail) only [go_sem, callA_pure mode_28, fit16_spec, callA_data mode_29, ht, callA_pure mode_20, hsb, hb]
  have hcb := smallL_cnt b 300 (by omega)
  have hb2 := len_cntEs b
  have h1 := filter_spec schema n b okDs_schema (by decide) (by omega) (by omega)
  have h2 := filter_spec schema n [] okDs_schema (by decide) (by omega) (by simp [cntEs])
  have hw1 := within_all (a := b) wf_schema (tree_good htr) (tree_nd htr).1 (tree_nd htr).2
  have c1 := sieve_cnt schema n b
  have h3 := filter_spec schema (sieveF schema n b) b okDs_schema (by decide) (by omega) (by omega)
  rw [sieve_idem] at h3
  rw [sieve_none] at h2
  simp only [lE, lN, List.map_nil] at h2
  have htx := modelText_spec n (by omega) (by omega)
  obtain ⟨T, hT⟩ : ∃ T, textN n = T := ⟨_, rfl⟩
  rw [hT] at htx
  generalize sieveF schema n b = A at *
  have w1 := within_spec (cntL A + 1) schema A n (by omega) okDs_schema (by decide) (by omega) (by omega)
  rw [hw1] at w1
  have e2 := modelEqual_spec (cntL A + 1) A A (by omega) (by omega)
  rw [decide_eq_true rfl] at e2
  have z0 : (((0 : Nat) : Int) = 0) = True := eq_true rfl
  simp (maxSteps := 200000) (disch := first | omega | (simp only [go_sem] <;> omega) | fail) only [go_sem, callA_pure mode_28, fit16_spec, callA_data mode_29, ht, callA_pure mode_20, hsb, hb, callA_data mode_30, schema_spec, callA_pure mode_31, htx, callA_data mode_32, h1, h2, h3, callA_pure mode_33, w1, callA_pure mode_34, e2, z0, List.length_nil]
end Go.Abs.SA
end
