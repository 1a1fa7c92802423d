/- YtgpadcipdbifkaaA15: a part of the interpreter by which the claim is shown, and of the walks: no conditions of its own: every theorem states its own. -/
import Derived.Test.YtgpadcipdbifkaaA14
section
set_option linter.unusedVariables false
set_option linter.unusedSimpArgs false
set_option maxRecDepth 100000
set_option maxHeartbeats 4000000
set_option linter.unusedSimpArgs false
set_option linter.unusedVariables false
namespace Go.Abs.SA
open Go.Proofs

mutual
/-- A node as an element. -/
def elemN (sp : Str) : Node → Elem
  | .mk n v k => .mk sp n [] v (elemL sp k)
def elemL (sp : Str) : List Node → List Elem
  | [] => []
  | x :: r => elemN sp x :: elemL sp r
end
theorem elemL_map (sp : Str) : ∀ (l : List Node), elemL sp l = l.map (elemN sp)
  | [] => by rw [elemL]; rfl
  | x :: r => by rw [elemL, elemL_map sp r]; rfl
theorem elemN_s (sp : Str) (n : Node) : elemN sp n = .mk sp n.name [] n.value (n.kids.map (elemN sp)) := by cases n; rw [elemN, elemL_map]; rfl
theorem snoc_E0 (l : List Elem) (s n t : Str) (k : List Elem) : l.map eElem ++ [[vS s, vS n, .fs [] false, vS t, .fs (k.map eElem) false]] = (l ++ [Elem.mk s n [] t k]).map eElem := by
  simp [eElem_s, Elem.space, Elem.name, Elem.attrs, Elem.text, Elem.kids]
theorem elems_spec (sp : Str) : ∀ (n : Nat) (l : List Node), cntL l < n → n ≤ 1000000 → pureW XX 30 [lN l, vS sp] = some (lE (l.map (elemN sp))) := by
  intro n
  induction n with
  | zero => intro l h; omega
  | succ n ih =>
    intro l hc hn
    have hl := len_cnt l
    refine pureW_in 29 Try.func30 Try.ntmps30 (by simp) (rfl : Try.f30.body = some _) fns_30 ?_
    simp (maxSteps := 200000) (disch := first | (simp only [go_sem, Nat.reduceAdd, Nat.reduceSub, Nat.reduceMul, Nat.reduceLeDiff, Nat.reduceEqDiff, Nat.reduceLT, Nat.reduceBEq, Nat.reduceBNe, Nat.reducePow, ↓reduceIte]; done) | omega | (simp only [go_sem, Nat.reduceAdd, Nat.reduceSub, Nat.reduceMul, Nat.reduceLeDiff, Nat.reduceEqDiff, Nat.reduceLT, Nat.reduceBEq, Nat.reduceBNe, Nat.reducePow, ↓reduceIte] <;> omega) | fail) only [go_sem, Nat.reduceAdd, Nat.reduceSub, Nat.reduceMul, Nat.reduceLeDiff, Nat.reduceEqDiff, Nat.reduceLT, Nat.reduceBEq, Nat.reduceBNe, Nat.reducePow, ↓reduceIte]
    refine WP_range 3 1 l.length (fun i => S_30_3 (vS sp) (.sl 0 0 i false) (lN l) (vI l.length) (vI i) [.arr 57 5 (((l.take i).map (elemN sp)).map eElem)]) (fun _ => True) rfl rfl ?_ ?_ ?_ ?_
    · simp (maxSteps := 200000) (disch := first | (simp only [go_sem, Nat.reduceAdd, Nat.reduceSub, Nat.reduceMul, Nat.reduceLeDiff, Nat.reduceEqDiff, Nat.reduceLT, Nat.reduceBEq, Nat.reduceBNe, Nat.reducePow, ↓reduceIte]; done) | omega | (simp only [go_sem, Nat.reduceAdd, Nat.reduceSub, Nat.reduceMul, Nat.reduceLeDiff, Nat.reduceEqDiff, Nat.reduceLT, Nat.reduceBEq, Nat.reduceBNe, Nat.reducePow, ↓reduceIte] <;> omega) | fail) only [go_sem, Nat.reduceAdd, Nat.reduceSub, Nat.reduceMul, Nat.reduceLeDiff, Nat.reduceEqDiff, Nat.reduceLT, Nat.reduceBEq, Nat.reduceBNe, Nat.reducePow, ↓reduceIte]; rfl
    · trivial
    · intro i h _
      have hk := ih l[i].kids (by have := cnt_kids h; omega) (by omega)
      have ht : (l.take (i + 1)).map (elemN sp) = (l.take i).map (elemN sp) ++ [Elem.mk sp l[i].name [] l[i].value (l[i].kids.map (elemN sp))] := by
        rw [List.take_succ_eq_append_getElem h, List.map_append, List.map_cons, List.map_nil, elemN_s]
      rw [ht]
      have hbl : ((l.take i).map (elemN sp)).length = i := by simp; omega
      generalize (l.take i).map (elemN sp) = base at *
      simp (maxSteps := 200000) (disch := first | (simp only [go_sem, Nat.reduceAdd, Nat.reduceSub, Nat.reduceMul, Nat.reduceLeDiff, Nat.reduceEqDiff, Nat.reduceLT, Nat.reduceBEq, Nat.reduceBNe, Nat.reducePow, ↓reduceIte]; done) | omega | (simp only [go_sem, Nat.reduceAdd, Nat.reduceSub, Nat.reduceMul, Nat.reduceLeDiff, Nat.reduceEqDiff, Nat.reduceLT, Nat.reduceBEq, Nat.reduceBNe, Nat.reducePow, ↓reduceIte] <;> omega) | fail) only [go_sem, Nat.reduceAdd, Nat.reduceSub, Nat.reduceMul, Nat.reduceLeDiff, Nat.reduceEqDiff, Nat.reduceLT, Nat.reduceBEq, Nat.reduceBNe, Nat.reducePow, ↓reduceIte, nat_int, h, eNode_s, callA_data mode_30, hk, snoc_E0, wrap_succ h (show l.length ≤ 140737488355328 by omega)]
    · intro _
      simp (maxSteps := 200000) (disch := first | (simp only [go_sem, Nat.reduceAdd, Nat.reduceSub, Nat.reduceMul, Nat.reduceLeDiff, Nat.reduceEqDiff, Nat.reduceLT, Nat.reduceBEq, Nat.reduceBNe, Nat.reducePow, ↓reduceIte]; done) | omega | (simp only [go_sem, Nat.reduceAdd, Nat.reduceSub, Nat.reduceMul, Nat.reduceLeDiff, Nat.reduceEqDiff, Nat.reduceLT, Nat.reduceBEq, Nat.reduceBNe, Nat.reducePow, ↓reduceIte] <;> omega) | fail) only [go_sem, Nat.reduceAdd, Nat.reduceSub, Nat.reduceMul, Nat.reduceLeDiff, Nat.reduceEqDiff, Nat.reduceLT, Nat.reduceBEq, Nat.reduceBNe, Nat.reducePow, ↓reduceIte, nat_int, List.take_length]
end Go.Abs.SA
end

section
set_option linter.unusedVariables false
set_option linter.unusedSimpArgs false
set_option maxRecDepth 100000
set_option maxHeartbeats 4000000
set_option linter.unusedSimpArgs false
set_option linter.unusedVariables false
namespace Go.Abs.SA
open Go.Proofs

mutual
theorem joinP_comm : ∀ (p q : Pk), joinP p q = joinP q p
  | .nil, .nil => rfl
  | .nil, .mk b m => by rw [joinP, joinP]
  | .mk a k, .nil => by rw [joinP, joinP]
  | .mk a k, .mk b m => by
    rw [joinP, joinP, joinL_comm k m, Bool.or_comm]
theorem joinL_comm : ∀ (k m : List Pk), joinL k m = joinL m k
  | [], [] => rfl
  | [], q :: s => by rw [joinL, joinL] <;> (intros; simp_all)
  | p :: r, [] => by rw [joinL, joinL] <;> (intros; simp_all)
  | p :: r, q :: s => by rw [joinL, joinL, joinP_comm p q, joinL_comm r s]
end
mutual
theorem joinP_assoc : ∀ (p q r : Pk), joinP (joinP p q) r = joinP p (joinP q r)
  | .nil, q, r => by rw [joinP, joinP]
  | .mk a k, .nil, r => by rw [joinP, joinP]
  | .mk a k, .mk b m, .nil => by
    rw [show joinP (.mk b m) .nil = .mk b m from by rw [joinP]]
    generalize joinP (.mk a k) (.mk b m) = x
    cases x <;> rw [joinP]
  | .mk a k, .mk b m, .mk c n => by
    cases a <;> cases b <;> cases c <;> simp [joinP, joinL_assoc k m n]
theorem joinL_assoc : ∀ (k m n : List Pk), joinL (joinL k m) n = joinL k (joinL m n)
  | p :: r, q :: s, x :: t => by simp only [joinL]; rw [joinP_assoc p q x, joinL_assoc r s t]
  | [], m, n => by simp [joinL]
  | p :: r, [], n => by simp [joinL]
  | p :: r, q :: s, [] => by simp [joinL]
end
theorem fold_join (d : Def) (n : Node) : ∀ (fs : List Elem) (p : Pk), fs.foldl (stepP d n) p = joinP p (fs.foldl (stepP d n) .nil)
  | [], p => by cases p <;> simp [joinP]
  | f :: fs, p => by
    rw [List.foldl_cons, List.foldl_cons, fold_join d n fs (stepP d n p f), fold_join d n fs (stepP d n .nil f)]
    generalize fs.foldl (stepP d n) .nil = z
    unfold stepP
    split
    · rw [show joinP .nil (fitsD d n f) = fitsD d n f from by rw [joinP], joinP_assoc]
    · rw [show joinP .nil z = z from by rw [joinP]]
/-- Two filters, one behind the other. -/
theorem pickN_app (l : List Def) (n : Node) (a b : List Elem) : pickN l n (a ++ b) = joinP (pickN l n a) (pickN l n b) := by
  cases hp : place l n.name with
  | none => simp only [pickN_s, hp]; rw [joinP]
  | some q =>
    obtain ⟨hq, -⟩ := place_some hp
    rw [pickN_t l n _ hp hq, pickN_t l n _ hp hq, pickN_t l n _ hp hq, List.foldl_append, fold_join]
theorem sieve_comm (l : List Def) (n : List Node) (a b : List Elem) : sieveF l n (a ++ b) = sieveF l n (b ++ a) := by
  unfold sieveF
  congr 1
  apply List.map_congr_left
  intro x _
  rw [pickN_app, pickN_app, joinP_comm]
end Go.Abs.SA
end

section
set_option linter.unusedVariables false
set_option linter.unusedSimpArgs false
set_option maxRecDepth 100000
set_option maxHeartbeats 4000000
set_option linter.unusedSimpArgs false
set_option linter.unusedVariables false
namespace Go.Abs.SA
open Go.Proofs

mutual
theorem joinP_self : ∀ (p : Pk) (n : Node), fitP p n → joinP p p = p
  | .nil, n, h => by rw [joinP]
  | .mk a k, n, h => by
    rw [fitP] at h
    rw [joinP]
    rcases h with ⟨rfl, rfl⟩ | ⟨rfl, h⟩
    · rfl
    · simp only [Bool.or_self, Bool.false_eq_true, if_false]
      rw [joinL_self k n.kids h]
theorem joinL_self : ∀ (k : List Pk) (s : List Node), fitL k s → joinL k k = k
  | [], s, h => by rw [joinL] <;> (intros; simp_all)
  | p :: r, n :: s, h => by
    rw [fitL] at h
    rw [joinL, joinP_self p n h.1, joinL_self r s h.2]
  | p :: r, [], h => by simp [fitL] at h
end
theorem sieve_twice (l : List Def) (n : List Node) (a : List Elem) : sieveF l n (a ++ a) = sieveF l n a := by
  unfold sieveF
  congr 1
  apply List.map_congr_left
  intro x _
  rw [pickN_app, joinP_self _ x (pick_fit l x a)]
theorem cutL_count : ∀ (k : List Pk) (s : List Node), k.length = s.length → (cutL k s).length = (k.filter fun p => !isNil p).length
  | [], [], _ => by simp [cutL]
  | p :: r, n :: s, h => by
    rw [cutL, List.length_append, cutL_count r s (by simpa using h)]
    cases p with
    | nil => simp [cutN, isNil]
    | mk a k => simp [cutN, isNil]; omega
theorem sieve_len (l : List Def) (n : List Node) (a b : List Elem) : (sieveF l n (a ++ b)).length ≤ (sieveF l n a).length + (sieveF l n b).length := by
  unfold sieveF
  rw [cutL_count _ _ (by simp), cutL_count _ _ (by simp), cutL_count _ _ (by simp)]
  induction n with
  | nil => simp
  | cons x r ih =>
    simp only [List.map_cons, List.filter_cons]
    rw [pickN_app, joinP_nil]
    cases isNil (pickN l x a) <;> cases isNil (pickN l x b) <;> simp at ih ⊢ <;> omega
end Go.Abs.SA
end

section
set_option linter.unusedVariables false
set_option linter.unusedSimpArgs false
set_option maxRecDepth 100000
set_option maxHeartbeats 4000000
set_option linter.unusedSimpArgs false
set_option linter.unusedVariables false
namespace Go.Abs.SA
open Go.Proofs

/-! No node stands twice in a tree that was read. -/
mutual
def ndN : Node → Prop
  | .mk _ _ k => k.Nodup ∧ ndL k
def ndL : List Node → Prop
  | [] => True
  | x :: r => ndN x ∧ ndL r
end
theorem ndN_s {n : Node} : ndN n ↔ n.kids.Nodup ∧ ndL n.kids := by cases n; rw [ndN]; rfl
theorem ndL_iff : ∀ {l : List Node}, ndL l ↔ ∀ x ∈ l, ndN x
  | [] => by simp [ndL]
  | x :: r => by rw [ndL, ndL_iff (l := r)]; simp
theorem ins_perm (l : List Def) (out : List Node) (n : Node) : (ins l out n).Perm (n :: out) := by
  unfold ins
  refine List.perm_middle.trans ?_
  rw [List.take_append_drop]
theorem foldl_ins_perm (l : List Def) : ∀ (ns out : List Node), (ns.foldl (ins l) out).Perm (ns ++ out)
  | [], out => by simp
  | n :: r, out => by
    rw [List.foldl_cons]
    refine (foldl_ins_perm l r _).trans ?_
    refine ((ins_perm l out n).append_left r).trans ?_
    rw [List.cons_append]
    exact List.perm_middle
theorem order_perm (l : List Def) (ns : List Node) : (order l ns).Perm ns := by
  have := foldl_ins_perm l ns []
  rwa [List.append_nil] at this
mutual
theorem rdE_nd (l : List Def) : ∀ (e : Elem) (d : Def) (n : Node), rdE l e = .ok (d, n) → ndN n
  | .mk s nm a t k, d, n, h => by
    rw [rdE] at h
    split at h
    · cases h
    · split at h
      · cases h
      · split at h
        · split at h
          · cases h
          · cases h; simp [ndN, ndL]
        · split at h
          · cases h
          · split at h
            · cases h
            · rename_i d' _ _ _ nodes hn
              split at h
              · cases h
                rw [ndN]
                exact rdL_nd _ k [] [] _ (by simp) (by simp) (by simp [ndL]) hn
              · cases h
theorem rdL_nd (l : List Def) : ∀ (es : List Elem) (out all nodes : List Node), out.Nodup → (∀ x ∈ out, x ∈ all) → ndL out → rdL l out all es = .ok nodes → nodes.Nodup ∧ ndL nodes
  | [], out, all, nodes, h1, h2, h3, h => by
    rw [rdL] at h
    split at h
    · cases h
    · cases h
      refine ⟨(order_perm l out).nodup_iff.2 h1, ?_⟩
      rw [ndL_iff] at h3 ⊢
      exact fun x hx => h3 x ((order_mem l out).1 hx)
  | e :: r, out, all, nodes, h1, h2, h3, h => by
    rw [rdL] at h
    split at h
    · cases h
    · rename_i d n hn
      split at h
      · cases h
      · rename_i hsn
        have hnd := rdE_nd l e d n hn
        have hno : n ∉ all := by
          intro hx
          have : sameAt d all n = none := by
            cases hq : sameAt d all n with
            | none => rfl
            | some i => rw [hq] at hsn; simp at hsn
          unfold sameAt at this
          rw [List.findIdx?_eq_none_iff] at this
          have := this n hx
          rw [sameN_iff.2 ⟨rfl, rfl⟩] at this
          cases this
        refine rdL_nd l r _ _ _ ?_ ?_ ?_ h
        · split
          · rw [List.nodup_append]
            refine ⟨h1, by simp, fun a ha b hb => ?_⟩
            rw [List.mem_singleton] at hb
            subst hb
            rintro rfl
            exact hno (h2 _ ha)
          · exact h1
        · intro x hx
          split at hx
          · rcases List.mem_append.1 hx with hx | hx
            · exact List.mem_append.2 (.inl (h2 x hx))
            · exact List.mem_append.2 (.inr hx)
          · exact List.mem_append.2 (.inl (h2 x hx))
        · split
          · rw [ndL_iff] at h3 ⊢
            intro x hx
            rcases List.mem_append.1 hx with hx | hx
            · exact h3 x hx
            · rw [List.mem_singleton.1 hx]; exact hnd
          · exact h3
end
theorem tree_nd {l : List Elem} {n : List Node} (h : tree l = some n) : n.Nodup ∧ ndL n := rdL_nd _ _ _ _ _ (by simp) (by simp) (by simp [ndL]) (tree_some h).1

/-! Entries have their keys. -/
theorem rdE_key {l : List Def} {e : Elem} {d : Def} {n : Node} (h : rdE l e = .ok (d, n)) (hk : d.kind ≠ 3) : (keyOf d n).isSome = true := by
  rw [rdE_s] at h
  split at h
  · cases h
  · split at h
    · cases h
    · split at h
      · split at h
        · cases h
        · cases h; contradiction
      · split at h
        · cases h
        · split at h
          · cases h
          · split at h
            · rename_i hs; cases h; exact hs
            · cases h
theorem rdL_key (l : List Def) (hw : wfDs l) : ∀ (es : List Elem) (out all nodes : List Node), (∀ x ∈ out, ∀ d ∈ l, x.name = d.name → d.kind ≠ 3 → (keyOf d x).isSome = true) → rdL l out all es = .ok nodes → ∀ x ∈ nodes, ∀ d ∈ l, x.name = d.name → d.kind ≠ 3 → (keyOf d x).isSome = true
  | [], out, all, nodes, h1, h => by
    rw [rdL] at h
    split at h
    · cases h
    · cases h
      exact fun x hx => h1 x ((order_mem l out).1 hx)
  | e :: r, out, all, nodes, h1, h => by
    rw [rdL] at h
    split at h
    · cases h
    · rename_i d n hn
      split at h
      · cases h
      · refine rdL_key l hw r _ _ _ ?_ h
        intro x hx
        split at hx
        · rcases List.mem_append.1 hx with hx | hx
          · exact h1 x hx
          · rw [List.mem_singleton.1 hx]
            intro d' hd' he hk
            have hpl := rdE_place hn
            have := wfDs_inj hw hd' hpl.1 (he.symm.trans hpl.2)
            subst this
            exact rdE_key hn hk
        · exact h1 x hx
theorem tree_key {l : List Elem} {n : List Node} (h : tree l = some n) : ∀ x ∈ n, ∀ d ∈ schema, x.name = d.name → d.kind ≠ 3 → (keyOf d x).isSome = true := rdL_key _ wf_schema _ _ _ _ (by simp) (tree_some h).1
end Go.Abs.SA
end

section
set_option linter.unusedVariables false
set_option linter.unusedSimpArgs false
set_option maxRecDepth 100000
set_option maxHeartbeats 4000000
set_option linter.unusedSimpArgs false
set_option linter.unusedVariables false
namespace Go.Abs.SA
open Go.Proofs

/-! What is chosen of an entry has its keys. -/
def kpL (keys : List Str) : List Pk → List Node → Prop
  | p :: r, n :: s => (has keys n.name = true → p = wholeP) ∧ kpL keys r s
  | _, _ => True
mutual
def kpN : List Def → Node → Pk → Prop
  | l, .mk nm _ ks, .mk false c => ∀ d ∈ l, nm = d.name → kpL d.keys c ks ∧ kpNs d.kids ks c
  | _, _, _ => True
def kpNs : List Def → List Node → List Pk → Prop
  | l, n :: s, p :: r => kpN l n p ∧ kpNs l s r
  | _, _, _ => True
end
def kpD (d : Def) (n : Node) (p : Pk) : Prop := ∀ c, p = .mk false c → kpL d.keys c n.kids ∧ kpNs d.kids n.kids c
theorem kpN_nil (l : List Def) (n : Node) : kpN l n .nil := by cases n; rw [kpN] <;> first | trivial | (intros; simp_all)
theorem kpN_all (l : List Def) (n : Node) (c : List Pk) : kpN l n (.mk true c) := by cases n; rw [kpN] <;> first | trivial | (intros; simp_all)
theorem kpN_some {l : List Def} {n : Node} {c : List Pk} : kpN l n (.mk false c) ↔ ∀ d ∈ l, n.name = d.name → kpL d.keys c n.kids ∧ kpNs d.kids n.kids c := by cases n; rw [kpN]; rfl
theorem kpN_iff {l : List Def} {n : Node} {p : Pk} : kpN l n p ↔ ∀ d ∈ l, n.name = d.name → kpD d n p := by
  unfold kpD
  cases p with
  | nil => simp [kpN_nil]
  | mk a c => cases a <;> simp [kpN_all, kpN_some]
theorem kpNs_nilr (l : List Def) (s : List Node) : kpNs l s [] := by cases s <;> (rw [kpNs] <;> first | trivial | (intros; simp_all))
theorem kpNs_nill (l : List Def) (r : List Pk) : kpNs l [] r := by rw [kpNs] <;> first | trivial | (intros; simp_all)
theorem kpNs_cons {l : List Def} {n : Node} {s : List Node} {p : Pk} {r : List Pk} : kpNs l (n :: s) (p :: r) ↔ kpN l n p ∧ kpNs l s r := by rw [kpNs]
theorem kpL_join (keys : List Str) : ∀ (c m : List Pk) (s : List Node), kpL keys c s → kpL keys m s → kpL keys (joinL c m) s
  | p :: r, q :: t, n :: s, h1, h2 => by
    rw [joinL]
    rw [kpL] at h1 h2 ⊢
    refine ⟨fun h => ?_, kpL_join keys r t s h1.2 h2.2⟩
    rw [h1.1 h, h2.1 h]; rfl
  | [], m, s, h1, h2 => by
    have : joinL [] m = [] := by simp [joinL]
    rw [this]; exact h1
  | p :: r, [], s, h1, h2 => by
    have : joinL (p :: r) [] = [] := by simp [joinL]
    rw [this]; exact h2
  | p :: r, q :: t, [], h1, h2 => by rw [kpL] <;> first | trivial | (intros; simp_all)
mutual
theorem kpN_join : ∀ (n : Node) (l : List Def) (p q : Pk), kpN l n p → kpN l n q → kpN l n (joinP p q)
  | n, l, .nil, q, h1, h2 => by
    rw [show joinP .nil q = q from by rw [joinP]]; exact h2
  | n, l, .mk a c, .nil, h1, h2 => by
    rw [show joinP (.mk a c) .nil = .mk a c from by rw [joinP]]; exact h1
  | .mk nm v ks, l, .mk a c, .mk b m, h1, h2 => by
    rw [joinP]
    cases a <;> cases b
    · simp only [Bool.or_self, Bool.false_eq_true, if_false]
      rw [kpN_some] at h1 h2 ⊢
      intro d hd he
      obtain ⟨a1, a2⟩ := h1 d hd he
      obtain ⟨b1, b2⟩ := h2 d hd he
      exact ⟨kpL_join _ _ _ _ a1 b1, kpNs_join ks d.kids c m a2 b2⟩
    · exact kpN_all ..
    · exact kpN_all ..
    · exact kpN_all ..
theorem kpNs_join : ∀ (s : List Node) (l : List Def) (c m : List Pk), kpNs l s c → kpNs l s m → kpNs l s (joinL c m)
  | [], l, c, m, h1, h2 => kpNs_nill ..
  | n :: s, l, [], m, h1, h2 => by
    rw [show joinL [] m = [] from by simp [joinL]]
    exact kpNs_nilr ..
  | n :: s, l, p :: r, [], h1, h2 => by
    rw [show joinL (p :: r) [] = [] from by simp [joinL]]
    exact kpNs_nilr ..
  | n :: s, l, p :: r, q :: t, h1, h2 => by
    rw [kpNs_cons] at h1 h2
    rw [joinL, kpNs_cons]
    exact ⟨kpN_join n l p q h1.1 h2.1, kpNs_join s l r t h1.2 h2.2⟩
end
theorem kpD_join {d : Def} {n : Node} {p q : Pk} (h1 : kpD d n p) (h2 : kpD d n q) : kpD d n (joinP p q) := by
  have a1 : kpN [.mk n.name d.kind d.type d.values d.must d.keys d.kids] n p := by
    rw [kpN_iff]; intro d' hd' _; rw [List.mem_singleton.1 hd']; exact h1
  have a2 : kpN [.mk n.name d.kind d.type d.values d.must d.keys d.kids] n q := by
    rw [kpN_iff]; intro d' hd' _; rw [List.mem_singleton.1 hd']; exact h2
  have := kpN_join n _ p q a1 a2
  rw [kpN_iff] at this
  exact this (.mk n.name d.kind d.type d.values d.must d.keys d.kids) (List.mem_singleton.2 rfl) rfl
theorem kpNs_set (l : List Def) : ∀ (s : List Node) (r : List Pk) (i : Nat), kpNs l s r → kpNs l s (r.set i wholeP)
  | [], r, i, h => kpNs_nill ..
  | n :: s, [], i, h => h
  | n :: s, p :: r, 0, h => by
    rw [kpNs_cons] at h
    rw [List.set_cons_zero, kpNs_cons]
    exact ⟨kpN_all .., h.2⟩
  | n :: s, p :: r, i + 1, h => by
    rw [kpNs_cons] at h
    rw [List.set_cons_succ, kpNs_cons]
    exact ⟨h.1, kpNs_set l s r i h.2⟩
theorem kpNs_rep (l : List Def) : ∀ (s : List Node) (k : Nat), kpNs l s (List.replicate k .nil)
  | [], k => kpNs_nill ..
  | n :: s, 0 => kpNs_nilr ..
  | n :: s, k + 1 => by
    rw [List.replicate_succ, kpNs_cons]
    exact ⟨kpN_nil .., kpNs_rep l s k⟩
theorem kpNs_map (l : List Def) (g : Node → Pk) : ∀ (s : List Node), (∀ x ∈ s, kpN l x (g x)) → kpNs l s (s.map g)
  | [], h => kpNs_nill ..
  | n :: s, h => by
    rw [List.map_cons, kpNs_cons]
    exact ⟨h n (by simp), kpNs_map l g s fun x hx => h x (by simp [hx])⟩
theorem kpNs_scan (l kd : List Def) (ns : List Node) : ∀ (es : List Elem) (out : List Pk) (m : Bool) (rest : List Elem) (o' : List Pk) (m' : Bool) (r' : List Elem), kpNs l ns out → scan kd ns es out m rest = some (o', m', r') → kpNs l ns o'
  | [], out, m, rest, o', m', r', h, hs => by rw [scan] at hs; cases hs; exact h
  | k :: r, out, m, rest, o', m', r', h, hs => by
    rw [scan] at hs
    split at hs
    · split at hs
      · cases hs
      · rename_i i _
        exact kpNs_scan l kd ns r _ _ _ _ _ _ (kpNs_set l ns out i h) hs
    · exact kpNs_scan l kd ns r _ _ _ _ _ _ h hs
theorem kpNs_keyed (l : List Def) (keys : List Str) : ∀ (s : List Node) (k : List Pk), kpNs l s k → kpNs l s (keyed keys s k)
  | [], k, h => kpNs_nill ..
  | n :: s, [], h => by rw [keyed] <;> first | exact kpNs_nilr .. | (intros; simp_all)
  | n :: s, p :: r, h => by
    rw [kpNs_cons] at h
    rw [keyed, kpNs_cons]
    refine ⟨?_, kpNs_keyed l keys s r h.2⟩
    split
    · exact kpN_all ..
    · exact h.1
theorem kpL_keyed (keys : List Str) : ∀ (s : List Node) (k : List Pk), kpL keys (keyed keys s k) s
  | [], k => by
    unfold kpL
    split <;> trivial
  | n :: s, [] => by
    rw [keyed] <;> first | (unfold kpL; trivial) | (intros; simp_all)
  | n :: s, p :: r => by
    rw [keyed, kpL]
    refine ⟨fun h => by rw [if_pos h], kpL_keyed keys s r⟩
mutual
theorem fits_kp : ∀ (d : Def) (n : Node) (f : Elem), wfD d → kpD d n (fitsD d n f)
  | .mk nm kind t v ms ks kd, n, f, hw => by
    have hnil : kpD (.mk nm kind t v ms ks kd) n .nil := fun c h => nomatch h
    have hall : kpD (.mk nm kind t v ms ks kd) n wholeP := fun c h => by cases h
    rw [fitsD]
    split
    · split
      · exact hnil
      · exact hall
    · split
      · exact hnil
      · split
        · exact hall
        · split
          · exact hnil
          · rename_i out m rest hsc
            split
            · exact hall
            · split
              · exact hnil
              · intro c hc
                cases hc
                refine ⟨kpL_keyed _ _ _, kpNs_keyed _ _ _ _ (kpNs_join _ _ _ _ (kpNs_scan _ _ _ _ _ _ _ _ _ _ (kpNs_rep _ _ _) hsc) (kpNs_map _ _ _ fun x _ => ?_))⟩
                rw [wfD] at hw
                exact pick_kp kd x rest hw
theorem pick_kp : ∀ (l : List Def) (n : Node) (fs : List Elem), wfDs l → kpN l n (pickN l n fs)
  | [], n, fs, hw => by rw [pickN]; exact kpN_nil ..
  | d :: r, n, fs, hw => by
    have hw' := hw
    rw [wfDs] at hw'
    rw [pickN]
    split
    · rename_i hn
      rw [kpN_iff]
      intro d' hd' he
      have hdd : d' = d := wfDs_inj hw hd' (by simp) (he.symm.trans hn.symm)
      rw [hdd]
      have : ∀ (fs : List Elem) (p : Pk), kpD d n p → kpD d n (fs.foldl (fun p f => if f.name = n.name then joinP p (fitsD d n f) else p) p) := by
        intro fs
        induction fs with
        | nil => intro p hp; exact hp
        | cons f fs ih =>
          intro p hp
          rw [List.foldl_cons]
          apply ih
          split
          · exact kpD_join hp (fits_kp d n f hw'.2.1)
          · exact hp
      exact this fs _ (fun c h => nomatch h)
    · rename_i hn
      have := pick_kp r n fs hw'.2.2
      rw [kpN_iff] at this ⊢
      intro d' hd' he
      rcases List.mem_cons.1 hd' with rfl | hd'
      · exact absurd he.symm hn
      · exact this d' hd' he
end
/-- The keys of what is chosen. -/
theorem leafV_cut (keys : List Str) (k : Str) (hk : has keys k = true) : ∀ (c : List Pk) (s : List Node), fitL c s → kpL keys c s → leafV (cutL c s) k = leafV s k
  | [], [], _, _ => by simp [cutL]
  | [], n :: s, h, _ => by simp [fitL] at h
  | p :: r, [], h, _ => by simp [fitL] at h
  | p :: r, n :: s, h, hp => by
    rw [fitL] at h
    rw [kpL] at hp
    have ih := leafV_cut keys k hk r s h.2 hp.2
    rw [cutL, leafV_cons]
    by_cases he : n.name = k
    · rw [if_pos he, hp.1 (by rw [he]; exact hk)]
      simp [wholeP, cutN, leafV_cons, he]
    · rw [if_neg he]
      cases p with
      | nil => simpa [cutN] using ih
      | mk a c => 
        cases a <;> simp [cutN, leafV_cons, he, ih, Node.name] <;> (intro h; exact absurd h he)
theorem has_mem {l : List Str} {v : Str} : has l v = true ↔ v ∈ l := by
  simp [has, List.any_eq_true]
theorem filterMap_eq {α β : Type} {f g : α → Option β} : ∀ {l : List α}, (∀ x ∈ l, f x = g x) → l.filterMap f = l.filterMap g
  | [], _ => rfl
  | x :: r, h => by
    rw [List.filterMap_cons, List.filterMap_cons, h x (by simp), filterMap_eq (l := r) fun y hy => h y (by simp [hy])]
theorem keyOf_cut {d : Def} {n : Node} {c : List Pk} {nm v : Str} (h : fitL c n.kids) (hp : kpL d.keys c n.kids) : keyOf d (.mk nm v (cutL c n.kids)) = keyOf d n := by
  have h1 : ∀ k ∈ d.keys, leafV (cutL c n.kids) k = leafV n.kids k := fun k hk => leafV_cut d.keys k (has_mem.2 hk) c n.kids h hp
  have e1 : (d.keys.all fun k => (leafV (cutL c n.kids) k).isSome) = (d.keys.all fun k => (leafV n.kids k).isSome) := by
    rw [Bool.eq_iff_iff, List.all_eq_true, List.all_eq_true]
    constructor <;> intro hh k hk
    · rw [← h1 k hk]; exact hh k hk
    · rw [h1 k hk]; exact hh k hk
  have e2 : d.keys.filterMap (leafV (cutL c n.kids)) = d.keys.filterMap (leafV n.kids) := filterMap_eq h1
  unfold keyOf
  rw [show (Node.mk nm v (cutL c n.kids)).kids = cutL c n.kids from rfl, e1, e2]
end Go.Abs.SA
end

section
set_option linter.unusedVariables false
set_option linter.unusedSimpArgs false
set_option maxRecDepth 100000
set_option maxHeartbeats 4000000
set_option linter.unusedSimpArgs false
set_option linter.unusedVariables false
namespace Go.Abs.SA
open Go.Proofs

/-! One chooses no more than another. -/
mutual
def leP : Pk → Pk → Prop
  | .nil, _ => True
  | .mk _ _, .nil => False
  | .mk true _, .mk b _ => b = true
  | .mk false c, .mk b m => b = true ∨ leL c m
def leL : List Pk → List Pk → Prop
  | p :: r, q :: s => leP p q ∧ leL r s
  | _, _ => True
end
theorem leL_nilr (r : List Pk) : leL r [] := by cases r <;> (rw [leL] <;> first | trivial | (intros; simp_all))
theorem leL_nill (r : List Pk) : leL [] r := by rw [leL] <;> first | trivial | (intros; simp_all)
theorem leL_get : ∀ {c m : List Pk} {i : Nat} (h : leL c m) (h1 : i < c.length) (h2 : i < m.length), leP c[i] m[i]
  | [], m, i, h, h1, h2 => absurd h1 (by simp)
  | p :: r, [], i, h, h1, h2 => absurd h2 (by simp)
  | p :: r, q :: s, 0, h, h1, h2 => by rw [leL] at h; exact h.1
  | p :: r, q :: s, i + 1, h, h1, h2 => by rw [leL] at h; exact leL_get h.2 (by simpa using h1) (by simpa using h2)
mutual
theorem leP_refl : ∀ p, leP p p
  | .nil => by rw [leP]; trivial
  | .mk true c => by rw [leP]
  | .mk false c => by rw [leP]; exact .inr (leL_refl c)
theorem leL_refl : ∀ c, leL c c
  | [] => leL_nill _
  | p :: r => by rw [leL]; exact ⟨leP_refl p, leL_refl r⟩
end
mutual
theorem leP_join : ∀ p q, leP p (joinP p q)
  | .nil, q => by rw [leP]; trivial
  | .mk a c, .nil => by
    rw [show joinP (.mk a c) .nil = .mk a c from by rw [joinP]]; exact leP_refl _
  | .mk true c, .mk b m => by
    rw [joinP, Bool.true_or, if_pos rfl, wholeP, leP]
  | .mk false c, .mk true m => by
    rw [joinP, Bool.or_true, if_pos rfl, wholeP, leP]; exact .inl rfl
  | .mk false c, .mk false m => by
    rw [joinP, Bool.or_self, if_neg (by simp), leP]
    exact .inr (leL_join c m)
theorem leL_join : ∀ c m, leL c (joinL c m)
  | [], m => leL_nill _
  | p :: r, [] => by
    rw [show joinL (p :: r) [] = [] from by simp [joinL]]
    exact leL_nilr _
  | p :: r, q :: s => by
    rw [joinL, leL]
    exact ⟨leP_join p q, leL_join r s⟩
end
/-- The picks of a node's nodes. -/
def kidsP (n : Node) : Pk → List Pk
  | .mk true _ => List.replicate n.kids.length wholeP
  | .mk false c => c
  | .nil => []
theorem cutL_whole : ∀ (s : List Node), cutL (List.replicate s.length wholeP) s = s
  | [] => by simp [cutL]
  | n :: s => by
    rw [List.length_cons, List.replicate_succ, cutL, cutL_whole s]
    simp [wholeP, cutN]
theorem fitL_whole : ∀ (s : List Node), fitL (List.replicate s.length wholeP) s := by
  intro s
  rw [fitL_iff]
  refine ⟨by simp, fun i h1 h2 => ?_⟩
  rw [List.getElem_replicate]
  exact fit_whole _
theorem cutN_mk {p : Pk} {n : Node} (h : p ≠ .nil) : cutN p n = [.mk n.name n.value (cutL (kidsP n p) n.kids)] := by
  cases p with
  | nil => contradiction
  | mk a c => 
    cases a
    · simp [cutN, kidsP, Node.name, Node.value, Node.kids]
    · rw [kidsP, cutL_whole]
      simp [cutN, node_mk]
theorem fit_kids {p : Pk} {n : Node} (h : fitP p n) (hp : p ≠ .nil) : fitL (kidsP n p) n.kids := by
  cases p with
  | nil => contradiction
  | mk a c =>
    cases a
    · rw [fitP] at h
      rcases h with ⟨h, -⟩ | ⟨-, h⟩
      · cases h
      · exact h
    · exact fitL_whole _
theorem kpL_rep (keys : List Str) : ∀ (s : List Node) (k : Nat), kpL keys (List.replicate k wholeP) s
  | [], k => by unfold kpL; split <;> first | trivial | simp_all
  | n :: s, 0 => by unfold kpL; trivial
  | n :: s, k + 1 => by
    rw [List.replicate_succ, kpL]
    exact ⟨fun _ => rfl, kpL_rep keys s k⟩
theorem kpNs_whole (l : List Def) : ∀ (s : List Node) (k : Nat), kpNs l s (List.replicate k wholeP)
  | [], k => kpNs_nill ..
  | n :: s, 0 => kpNs_nilr ..
  | n :: s, k + 1 => by
    rw [List.replicate_succ, kpNs_cons]
    exact ⟨kpN_all .., kpNs_whole l s k⟩
theorem kp_kids {l : List Def} {d : Def} {n : Node} {p : Pk} (hd : d ∈ l) (he : n.name = d.name) (h : kpN l n p) : kpL d.keys (kidsP n p) n.kids ∧ kpNs d.kids n.kids (kidsP n p) := by
  cases p with
  | nil => exact ⟨by rw [kidsP]; unfold kpL; trivial, by rw [kidsP]; exact kpNs_nilr ..⟩
  | mk a c =>
    cases a
    · exact kpN_some.1 h d hd he
    · exact ⟨kpL_rep .., kpNs_whole ..⟩
theorem le_kids {p q : Pk} {n : Node} (h : leP p q) (hp : p ≠ .nil) (hq : fitP q n) (hf : fitP p n) : q ≠ .nil ∧ leL (kidsP n p) (kidsP n q) := by
  cases p with
  | nil => contradiction
  | mk a c =>
    cases q with
    | nil => cases a <;> simp [leP] at h
    | mk b m =>
      refine ⟨by simp, ?_⟩
      cases a <;> cases b
      · rw [leP] at h
        rcases h with h | h
        · cases h
        · exact h
      · rw [kidsP, kidsP]
        have hl := fitL_len (fit_kids hf (by simp))
        rw [kidsP] at hl
        rw [← hl]
        clear hl h hf hq hp
        induction c with
        | nil => exact leL_nill _
        | cons p r ih =>
          rw [List.length_cons, List.replicate_succ, leL]
          refine ⟨?_, ih⟩
          cases p with
          | nil => rw [leP]; trivial
          | mk a c => cases a <;> simp [wholeP, leP]
      · simp [leP] at h
      · exact leL_refl _
theorem cutL_mem {c : List Pk} {s : List Node} {x : Node} : x ∈ cutL c s ↔ ∃ i, ∃ (h1 : i < c.length) (h2 : i < s.length), x ∈ cutN c[i] s[i] := by
  induction c generalizing s with
  | nil => cases s <;> simp [cutL]
  | cons p r ih =>
    cases s with
    | nil => simp [cutL]
    | cons n s =>
      rw [cutL, List.mem_append, ih]
      constructor
      · rintro (h | ⟨i, h1, h2, h⟩)
        · exact ⟨0, by simp, by simp, h⟩
        · exact ⟨i + 1, by simpa using h1, by simpa using h2, by simpa using h⟩
      · rintro ⟨i, h1, h2, h⟩
        cases i with
        | zero => exact .inl (by simpa using h)
        | succ i => exact .inr ⟨i, by simpa using h1, by simpa using h2, by simpa using h⟩

mutual
/-- Does a node stand in a list? -/
def withinN (l : List Def) : Node → List Node → Bool
  | .mk nm v k, b => match place l nm with
    | none => false
    | some i => match l[i]? with
      | none => false
      | some d => match sameAt d b (.mk nm v k) with
        | none => false
        | some j => match b[j]? with
          | none => false
          | some y => decide (y.value = v) && withinL d.kids k y.kids
/-- Do all of a list stand in another one? -/
def withinL (l : List Def) : List Node → List Node → Bool
  | [], _ => true
  | n :: r, b => withinN l n b && withinL l r b
end
theorem withinN_s (l : List Def) (n : Node) (b : List Node) : withinN l n b = match place l n.name with
    | none => false
    | some i => match l[i]? with
      | none => false
      | some d => match sameAt d b n with
        | none => false
        | some j => match b[j]? with
          | none => false
          | some y => decide (y.value = n.value) && withinL d.kids n.kids y.kids := by cases n; rw [withinN]; rfl
theorem withinL_iff {l : List Def} {b : List Node} : ∀ {a : List Node}, withinL l a b = true ↔ ∀ x ∈ a, withinN l x b = true
  | [] => by simp [withinL]
  | x :: r => by rw [withinL, Bool.and_eq_true, withinL_iff (a := r)]; simp
theorem nodup_inj {α : Type} {l : List α} (h : l.Nodup) {i j : Nat} (hi : i < l.length) (hj : j < l.length) (he : l[i] = l[j]) : i = j := by
  have hp := List.pairwise_iff_getElem.1 h
  rcases Nat.lt_trichotomy i j with h1 | h1 | h1
  · exact absurd he (hp i j hi hj h1)
  · exact h1
  · exact absurd he.symm (hp j i hj hi h1)
theorem place_of {l : List Def} (hw : wfDs l) {d : Def} {nm : Str} (hd : d ∈ l) (he : nm = d.name) : ∃ i, place l nm = some i ∧ l[i]? = some d := by
  obtain ⟨i, hi⟩ := place_mem hd he
  obtain ⟨hq, hqn⟩ := place_some hi
  refine ⟨i, hi, ?_⟩
  rw [List.getElem?_eq_getElem hq]
  congr 1
  exact wfDs_inj hw (List.getElem_mem hq) hd (hqn.trans he)
theorem cut_within : ∀ (f : Nat) (l : List Def) (nodes : List Node) (ks ms : List Pk), cntL nodes < f → wfDs l → goodL l nodes nodes → nodes.Nodup → ndL nodes → fitL ks nodes → fitL ms nodes →
    kpNs l nodes ks → kpNs l nodes ms → leL ks ms → withinL l (cutL ks nodes) (cutL ms nodes) = true := by
  intro f
  induction f with
  | zero => intro l nodes ks ms h; omega
  | succ f ih =>
    intro l nodes ks ms hc hw hg hnd hnds hk hm kk km hle
    have kget : ∀ {c : List Pk} {s : List Node} {i : Nat}, kpNs l s c → ∀ (h1 : i < c.length) (h2 : i < s.length), kpN l s[i] c[i] := by
      intro c
      induction c with
      | nil => intro s i h h1; simp at h1
      | cons p r ih2 =>
        intro s i h h1 h2
        cases s with
        | nil => simp at h2
        | cons n s =>
          rw [kpNs_cons] at h
          cases i with
          | zero => exact h.1
          | succ i => exact ih2 h.2 (by simpa using h1) (by simpa using h2)
    have lk := fitL_len hk
    have lm := fitL_len hm
    rw [withinL_iff]
    intro x hx
    obtain ⟨i, hi1, hi2, hxi⟩ := cutL_mem.1 hx
    have hp : ks[i] ≠ .nil := by intro h; rw [h] at hxi; simp [cutN] at hxi
    rw [cutN_mk hp, List.mem_singleton] at hxi
    obtain ⟨d, hd, he, hu, hgk⟩ := goodN_s.1 (goodL_iff.1 hg nodes[i] (List.getElem_mem hi2))
    have hfk := fitL_get hk hi1 hi2
    have hfm := fitL_get hm (by omega) hi2
    obtain ⟨hq, hlk⟩ := le_kids (leL_get hle hi1 (by omega)) hp hfm hfk
    have kpk := kp_kids hd he (kget kk hi1 hi2)
    have kpm := kp_kids hd he (kget km (by omega) hi2)
    have hkx : keyD d x = keyD d nodes[i] := by
      unfold keyD; rw [hxi, keyOf_cut (fit_kids hfk hp) kpk.1]
    have hxn : x.name = nodes[i].name := by rw [hxi]; rfl
    -- what stands there
    have hall : ∀ z ∈ cutL ms nodes, sameN d x z = true → z = .mk nodes[i].name nodes[i].value (cutL (kidsP nodes[i] ms[i]) nodes[i].kids) := by
      intro z hz hs
      obtain ⟨j, hj1, hj2, hzj⟩ := cutL_mem.1 hz
      have hpj : ms[j] ≠ .nil := by intro h; rw [h] at hzj; simp [cutN] at hzj
      rw [cutN_mk hpj, List.mem_singleton] at hzj
      obtain ⟨s1, s2⟩ := sameN_iff.1 hs
      have hzn : z.name = nodes[j].name := by rw [hzj]; rfl
      have hej : nodes[j].name = d.name := by rw [← hzn, s1, hxn, he]
      have kpj := kp_kids hd hej (kget km hj1 hj2)
      have hkz : keyD d z = keyD d nodes[j] := by
        unfold keyD; rw [hzj, keyOf_cut (fit_kids (fitL_get hm hj1 hj2) hpj) kpj.1]
      have : nodes[j] = nodes[i] := hu _ (List.getElem_mem hj2) (sameN_iff.2 ⟨by rw [hej, he], by rw [← hkz, s2, hkx]⟩)
      have hij : j = i := nodup_inj hnd hj2 hi2 this
      subst hij
      exact hzj
    have hmem : (Node.mk nodes[i].name nodes[i].value (cutL (kidsP nodes[i] ms[i]) nodes[i].kids)) ∈ cutL ms nodes := cutL_mem.2 ⟨i, by omega, hi2, by rw [cutN_mk hq]; exact List.mem_singleton.2 rfl⟩
    have hsm : sameN d x (Node.mk nodes[i].name nodes[i].value (cutL (kidsP nodes[i] ms[i]) nodes[i].kids)) = true := by
      refine sameN_iff.2 ⟨hxn.symm, ?_⟩
      rw [hkx]
      unfold keyD; rw [keyOf_cut (fit_kids hfm hq) kpm.1]
    obtain ⟨q, hq1, hq2⟩ := place_of hw hd (hxn.trans he)
    rw [withinN_s, hq1]
    simp only [hq2]
    cases hsa : sameAt d (cutL ms nodes) x with
    | none =>
      unfold sameAt at hsa
      rw [List.findIdx?_eq_none_iff] at hsa
      have := hsa _ hmem
      rw [hsm] at this
      cases this
    | some j =>
      have hj := sameAt_lt hsa
      unfold sameAt at hsa
      rw [List.findIdx?_eq_some_iff_getElem] at hsa
      have hz := hall _ (List.getElem_mem hj) hsa.2.1
      simp only [List.getElem?_eq_getElem hj, hz]
      rw [Bool.and_eq_true]
      refine ⟨by rw [hxi]; simp [Node.value], ?_⟩
      rw [hxi]
      simp only [Node.kids]
      have hni := cnt_mem (List.getElem_mem hi2)
      have hndi := ndN_s.1 (ndL_iff.1 hnds _ (List.getElem_mem hi2))
      have hwd := wfDs_mem hw hd
      rw [wfD_s] at hwd
      have hkk : ∀ n : Node, (Node.kids n) = n.kids := fun n => rfl
      exact ih d.kids nodes[i].kids _ _ (by have : cntL nodes[i].kids < cntN nodes[i] := (by cases nodes[i]; simp [cntN, Node.kids]); omega) hwd hgk hndi.1 hndi.2 (fit_kids hfk hp) (fit_kids hfm hq) kpk.2 kpm.2 hlk
theorem sieve_within {l : List Def} {nodes : List Node} {a b : List Elem} (hw : wfDs l) (hg : goodL l nodes nodes) (hnd : nodes.Nodup) (hnds : ndL nodes) : withinL l (sieveF l nodes a) (sieveF l nodes (a ++ b)) = true := by
  refine cut_within (cntL nodes + 1) l nodes _ _ (by omega) hw hg hnd hnds (mapPick_fit fun x _ => pick_fit l x a) (mapPick_fit fun x _ => pick_fit l x (a ++ b)) (kpNs_map _ _ _ fun x _ => pick_kp l x a hw) (kpNs_map _ _ _ fun x _ => pick_kp l x _ hw) ?_
  clear hg hnd hnds
  induction nodes with
  | nil => exact leL_nill _
  | cons n s ih =>
    rw [List.map_cons, List.map_cons, leL]
    refine ⟨?_, ih⟩
    rw [pickN_app]
    exact leP_join _ _
end Go.Abs.SA
end

section
set_option linter.unusedVariables false
set_option linter.unusedSimpArgs false
set_option maxRecDepth 100000
set_option maxHeartbeats 4000000
set_option linter.unusedSimpArgs false
set_option linter.unusedVariables false
namespace Go.Abs.SA
open Go.Proofs

/-- The value of a key. -/
def kv (x : Node) (k : Str) : Str := (leafV x.kids k).getD ⟨#[]⟩
/-- Elements that ask for an entry by its keys. -/
def byKeys (d : Def) (x : Node) : List Elem := d.keys.map fun k => .mk ⟨#[]⟩ k [] (kv x k) []
def askE (d : Def) (x : Node) : Elem := .mk ⟨#[]⟩ x.name [] ⟨#[]⟩ (byKeys d x)
theorem keyOf_kv {d : Def} {x : Node} (h : (keyOf d x).isSome = true) : keyOf d x = some (d.keys.map (kv x)) ∧ ∀ k ∈ d.keys, leafV x.kids k = some (kv x k) := by
  unfold keyOf at h ⊢
  split at h
  · rename_i ha
    rw [List.all_eq_true] at ha
    have h2 : ∀ k ∈ d.keys, leafV x.kids k = some (kv x k) := by
      intro k hk
      have := ha k hk
      unfold kv
      cases hl : leafV x.kids k with
      | none => rw [hl] at this; cases this
      | some v => rfl
    refine ⟨?_, h2⟩
    rw [if_pos (List.all_eq_true.2 ha), ← List.filterMap_eq_map]
    congr 1
    apply filterMap_eq
    intro k hk
    rw [h2 k hk]; rfl
  · cases h
theorem leafV_mem {l : List Node} {k v : Str} (h : leafV l k = some v) : ∃ z ∈ l, z.name = k ∧ z.value = v := by
  unfold leafV at h
  rw [Option.map_eq_some_iff] at h
  obtain ⟨z, hz, hv⟩ := h
  have := List.find?_some hz
  exact ⟨z, List.mem_of_find?_eq_some hz, by simpa using this, hv⟩
theorem leafAt_some {l : List Node} {e : Elem} : (leafAt l e).isSome = true ↔ ∃ z ∈ l, z.name = e.name ∧ z.value = e.text := by
  unfold leafAt
  rw [List.findIdx?_isSome, List.any_eq_true]
  simp
theorem scan_yes (kd : List Def) (ns : List Node) : ∀ (es : List Elem) (out : List Pk) (m : Bool) (rest : List Elem), (∀ k ∈ es, isTest kd k = true) → (∀ k ∈ es, (leafAt ns k).isSome = true) → ∃ o', scan kd ns es out m rest = some (o', m || !es.isEmpty, rest)
  | [], out, m, rest, h1, h2 => ⟨out, by rw [scan]; simp⟩
  | k :: r, out, m, rest, h1, h2 => by
    have hs := h2 k (by simp)
    cases hl : leafAt ns k with
    | none => rw [hl] at hs; cases hs
    | some i =>
      obtain ⟨o', ho⟩ := scan_yes kd ns r (out.set i wholeP) true rest (fun k hk => h1 k (by simp [hk])) (fun k hk => h2 k (by simp [hk]))
      refine ⟨o', ?_⟩
      rw [scan, if_pos (h1 k (by simp)), hl]
      simp only
      rw [ho]
      simp
theorem scan_no (kd : List Def) (ns : List Node) : ∀ (es : List Elem) (out : List Pk) (m : Bool) (rest : List Elem), (∀ k ∈ es, isTest kd k = true) → (∃ k ∈ es, leafAt ns k = none) → scan kd ns es out m rest = none
  | [], out, m, rest, h1, h2 => by obtain ⟨k, hk, -⟩ := h2; simp at hk
  | k :: r, out, m, rest, h1, h2 => by
    rw [scan, if_pos (h1 k (by simp))]
    cases hl : leafAt ns k with
    | none => rfl
    | some i =>
      simp only
      apply scan_no kd ns r _ _ _ (fun k hk => h1 k (by simp [hk]))
      obtain ⟨k', hk', hn⟩ := h2
      rcases List.mem_cons.1 hk' with rfl | hk'
      · rw [hl] at hn; cases hn
      · exact ⟨k', hk', hn⟩
/-- Keys are leaves of an entry. -/
def keysOk (d : Def) : Prop := d.keys ≠ [] ∧ ∀ k ∈ d.keys, ∃ d' ∈ d.kids, k = d'.name ∧ d'.kind = 3 ∧ d'.keys = []
theorem keys_schema : ∀ d ∈ schema, d.kind = 2 → keysOk d := by
  intro d hd hk
  simp only [schema, List.mem_cons, List.not_mem_nil, or_false] at hd
  rcases hd with rfl | rfl | rfl | rfl
  · simp [leafD, Def.kind] at hk
  · simp [Def.kind] at hk
  · simp [keysOk, Def.keys, Def.kids, leafD, Def.name, Def.kind]
  · simp [keysOk, Def.keys, Def.kids, leafD, portD, Def.name, Def.kind]
theorem keyD_none {d : Def} (h : d.keys = []) (x : Node) : keyD d x = [] := by
  simp [keyD, keyOf, h]
theorem ask_whole {l : List Def} {n : List Node} {d : Def} {x : Node} (hw : wfDs l) (hg : goodL l n n) (hnd : n.Nodup) (hx : x ∈ n) (hd : d ∈ l) (he : x.name = d.name) (h2 : d.kind = 2) (hk : keysOk d)
    (hs : (keyOf d x).isSome = true) (hne : ∀ k ∈ d.keys, kv x k ≠ ⟨#[]⟩) : sieveF l n [askE d x] = [x] := by
  obtain ⟨hkx, hlv⟩ := keyOf_kv hs
  have hwd := wfDs_mem hw hd
  rw [wfD_s] at hwd
  have ht : ∀ e ∈ byKeys d x, isTest d.kids e = true := by
    intro e hm
    unfold byKeys at hm
    obtain ⟨k, hkm, rfl⟩ := List.mem_map.1 hm
    obtain ⟨d', hd', hn, h3, -⟩ := hk.2 k hkm
    obtain ⟨i, hi, hgi⟩ := place_of hwd hd' hn
    unfold isTest
    have hi' : place d.kids (Elem.mk ⟨#[]⟩ k [] (kv x k) []).name = some i := hi
    have hne' : ¬ (Elem.mk ⟨#[]⟩ k [] (kv x k) []).text = ⟨#[]⟩ := hne k hkm
    rw [hi']
    simp only [hgi, h3, decide_true, Bool.true_and, decide_eq_false hne', Bool.not_false]
  have hb : byKeys d x ≠ [] := by
    unfold byKeys
    intro h
    exact hk.1 (List.map_eq_nil_iff.1 h)
  have hp : ∀ y ∈ n, pickN l y [askE d x] = if y = x then wholeP else .nil := by
    intro y hy
    rw [pickN_s]
    by_cases hn : x.name = y.name
    · obtain ⟨q, hq1, hq2⟩ := place_of hw hd (hn.symm.trans he)
      rw [hq1]
      simp only [hq2, List.foldl_cons, List.foldl_nil]
      rw [if_pos (show (askE d x).name = y.name from hn), show joinP .nil (fitsD d y (askE d x)) = fitsD d y (askE d x) from by rw [joinP], fitsD_s]
      have k3 : ¬ d.kind = 3 := by rw [h2]; decide
      rw [if_neg k3, if_neg (show ¬ (askE d x).text ≠ ⟨#[]⟩ from fun h => h rfl), if_neg (show ¬ (askE d x).kids = [] from hb)]
      by_cases hyx : y = x
      · subst hyx
        rw [if_pos rfl]
        obtain ⟨o', ho⟩ := scan_yes d.kids y.kids (byKeys d y) (List.replicate y.kids.length .nil) false [] ht (by
          intro e hm
          unfold byKeys at hm
          obtain ⟨k, hkm, rfl⟩ := List.mem_map.1 hm
          exact leafAt_some.2 (leafV_mem (hlv k hkm)))
        rw [show (askE d y).kids = byKeys d y from rfl, ho]
        have : (byKeys d y).isEmpty = false := by
          cases hbe : byKeys d y with
          | nil => exact absurd hbe hb
          | cons a b => rfl
        simp [this]
      · rw [if_neg hyx]
        have : ∃ k ∈ byKeys d x, leafAt y.kids k = none := by
          apply Classical.byContradiction
          intro hcon
          apply hyx
          have hall : ∀ k ∈ d.keys, leafV y.kids k = some (kv x k) := by
            intro k hkm
            have h1 : (leafAt y.kids (.mk ⟨#[]⟩ k [] (kv x k) [])).isSome = true := by
              cases hl : leafAt y.kids (.mk ⟨#[]⟩ k [] (kv x k) []) with
              | none => exact absurd ⟨_, List.mem_map.2 ⟨k, hkm, rfl⟩, hl⟩ hcon
              | some i => rfl
            obtain ⟨z, hz, hzn, hzv⟩ := leafAt_some.1 h1
            obtain ⟨d', hd', hn', h3, hk0⟩ := hk.2 k hkm
            obtain ⟨hu, hgk⟩ := good_cond hw hg d hd y hy (hn.symm.trans he)
            cases hlv : leafV y.kids k with
            | none =>
              unfold leafV at hlv
              rw [Option.map_eq_none_iff, List.find?_eq_none] at hlv
              have := hlv z hz
              simp [show z.name = k from hzn] at this
            | some w =>
              obtain ⟨z', hz', hzn', hzv'⟩ := leafV_mem hlv
              obtain ⟨hu', -⟩ := good_cond hwd hgk d' hd' z hz ((show z.name = k from hzn).trans hn')
              have := hu' z' hz' (sameN_iff.2 ⟨by rw [hzn']; exact hzn.symm, by rw [keyD_none hk0, keyD_none hk0]⟩)
              rw [← hzv', this]
              exact congrArg some hzv
          have hky : keyOf d y = keyOf d x := by
            rw [hkx]
            unfold keyOf
            rw [if_pos (List.all_eq_true.2 fun k hkm => by rw [hall k hkm]; rfl), ← List.filterMap_eq_map]
            congr 1
            apply filterMap_eq
            intro k hkm
            rw [hall k hkm]; rfl
          obtain ⟨hu, -⟩ := good_cond hw hg d hd x hx he
          exact hu y hy (sameN_iff.2 ⟨hn.symm, by unfold keyD; rw [hky]⟩)
        rw [show (askE d x).kids = byKeys d x from rfl, scan_no _ _ _ _ _ _ ht this]
    · have : y ≠ x := by rintro rfl; exact hn rfl
      rw [if_neg this]
      split
      · rfl
      · split
        · rfl
        · simp only [List.foldl_cons, List.foldl_nil]
          rw [if_neg (show ¬ (askE d x).name = y.name from hn)]
  unfold sieveF
  rw [List.map_congr_left hp]
  clear hp hg ht
  induction n with
  | nil => simp at hx
  | cons a r ih =>
    rw [List.map_cons, cutL]
    rw [List.nodup_cons] at hnd
    rcases List.mem_cons.1 hx with rfl | hx
    · rw [if_pos rfl]
      have : cutL (r.map fun y => if y = x then wholeP else .nil) r = [] := by
        have hxr := hnd.1
        clear ih hnd hx hs hkx hlv hne hb he
        induction r with
        | nil => simp [cutL]
        | cons b r ih =>
          rw [List.map_cons, cutL, ih (by simp at hxr; exact hxr.2), if_neg (by simp at hxr; exact fun h => hxr.1 h.symm)]
          simp [cutN]
      rw [this]
      simp [wholeP, cutN]
    · have : a ≠ x := by rintro rfl; exact hnd.1 hx
      rw [if_neg this, ih hnd.2 hx]
      simp [cutN]
/-- What is chosen has its keys. -/
theorem sieve_key {l : List Elem} {n : List Node} (h : tree l = some n) (fs : List Elem) : ∀ x ∈ sieveF schema n fs, ∃ d ∈ schema, x.name = d.name ∧ (keyOf d x).isSome = true := by
  intro x hx
  unfold sieveF at hx
  obtain ⟨i, h1, h2, hxi⟩ := cutL_mem.1 hx
  rw [List.getElem_map] at hxi
  have hp : pickN schema n[i] fs ≠ .nil := by intro h; rw [h] at hxi; simp [cutN] at hxi
  rw [cutN_mk hp, List.mem_singleton] at hxi
  obtain ⟨d, hd, he⟩ := tree_place h n[i] (List.getElem_mem h2)
  have kp := kp_kids hd he (pick_kp schema n[i] fs wf_schema)
  refine ⟨d, hd, by rw [hxi]; exact he, ?_⟩
  rw [hxi, keyOf_cut (fit_kids (pick_fit ..) hp) kp.1]
  by_cases h3 : d.kind = 3
  · have : d.keys = [] := by
      simp only [schema, List.mem_cons, List.not_mem_nil, or_false] at hd
      rcases hd with rfl | rfl | rfl | rfl
      · rfl
      · rfl
      · simp [Def.kind] at h3
      · simp [Def.kind] at h3
    simp [keyOf, this]
  · exact tree_key h _ (List.getElem_mem h2) d hd he h3
end Go.Abs.SA
end
