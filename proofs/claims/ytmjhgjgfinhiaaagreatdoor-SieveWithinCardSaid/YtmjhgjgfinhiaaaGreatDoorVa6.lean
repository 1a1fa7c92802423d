/- YtmjhgjgfinhiaaaGreatDoorVa6: a part of the interpreter by which the claim is shown, and of the walks: no conditions of its own: every theorem states its own. -/
import Derived.Test.YtmjhgjgfinhiaaaGreatDoorVa5
set_option linter.unusedVariables false
set_option linter.unusedSimpArgs false
set_option linter.unusedSectionVars false
set_option maxHeartbeats 8000000
set_option maxRecDepth 100000
section
namespace Go.Abs.SA
open Go.Proofs
mutual
theorem joinP_assoc : ∀ (p q r : Pk), joinP (joinP p q) r = joinP p (joinP q r)
  | .nil, q, r => by rw [joinP, joinP]
  | .mk a k, .nil, r => by rw [joinP, joinP]
  | .mk a k, .mk b m, .nil => by
    rw [show joinP (.mk b m) .nil = .mk b m from by rw [joinP]]
    generalize joinP (.mk a k) (.mk b m) = x
    cases x <;> rw [joinP]
  | .mk a k, .mk b m, .mk c n => by
    cases a <;> cases b <;> cases c <;> simp [joinP, joinL_assoc k m n]
theorem joinL_assoc : ∀ (k m n : List Pk), joinL (joinL k m) n = joinL k (joinL m n)
  | p :: r, q :: s, x :: t => by simp only [joinL]; rw [joinP_assoc p q x, joinL_assoc r s t]
  | [], m, n => by simp [joinL]
  | p :: r, [], n => by simp [joinL]
  | p :: r, q :: s, [] => by simp [joinL]
end
theorem fold_join (d : Def) (n : Node) : ∀ (fs : List Elem) (p : Pk), fs.foldl (stepP d n) p = joinP p (fs.foldl (stepP d n) .nil)
  | [], p => by cases p <;> simp [joinP]
  | f :: fs, p => by
    rw [List.foldl_cons, List.foldl_cons, fold_join d n fs (stepP d n p f), fold_join d n fs (stepP d n .nil f)]
    generalize fs.foldl (stepP d n) .nil = z
    unfold stepP
    split
    · rw [show joinP .nil (fitsD d n f) = fitsD d n f from by rw [joinP], joinP_assoc]
    · rw [show joinP .nil z = z from by rw [joinP]]
end Go.Abs.SA
end
section
namespace Go.Abs.SA
open Go.Proofs
inductive Mk where
  | mk (on all : Bool) (kids : List Mk)
  deriving Inhabited
def Mk.on : Mk → Bool | .mk o _ _ => o
def Mk.all : Mk → Bool | .mk _ a _ => a
def Mk.kids : Mk → List Mk | .mk _ _ k => k
mutual
def eMk : Mk → List AV
  | .mk o a k => [vB o, vB a, .fs (eMks k) false]
def eMks : List Mk → List (List AV)
  | [] => []
  | m :: r => eMk m :: eMks r
end
theorem eMks_map : ∀ (l : List Mk), eMks l = l.map eMk
  | [] => by rw [eMks]; rfl
  | m :: r => by rw [eMks, eMks_map r]; rfl
theorem eMk_s (m : Mk) : eMk m = [vB m.on, vB m.all, .fs (m.kids.map eMk) false] := by cases m; rw [eMk, eMks_map]; rfl
theorem eMk_len (m : Mk) : (eMk m).length = 3 := by rw [eMk_s]; rfl
attribute [go_sem] eMk_len
instance : EL eMk 3 := ⟨eMk_len⟩
abbrev offM : Mk := .mk false false []
end Go.Abs.SA
end
section
namespace Go.Abs.SA
open Go.Proofs
end Go.Abs.SA
end
section
namespace Go.Abs.SA
open Go.Proofs
abbrev onM : Mk := .mk true true []
def keyedM (keys : List Str) : List Node → List Mk → List Mk
  | n :: s, p :: r => (if has keys n.name then onM else p) :: keyedM keys s r
  | _, r => r
mutual
def rel : Mk → Pk → Prop
  | m, .nil => m = offM
  | m, .mk true _ => m.on = true ∧ m.all = true
  | m, .mk false k => m.on = true ∧ m.all = false ∧ relL m.kids k
def relL : List Mk → List Pk → Prop
  | [], [] => True
  | m :: r, p :: s => rel m p ∧ relL r s
  | _, _ => False
end
end Go.Abs.SA
end
section
namespace Go.Abs.SA
open Go.Proofs
theorem rel_some {m : Mk} {k : List Pk} : rel m (.mk false k) ↔ m.on = true ∧ m.all = false ∧ relL m.kids k := by rw [rel]
end Go.Abs.SA
end
section
namespace Go.Abs.SA
open Go.Proofs
end Go.Abs.SA
end
section
namespace Go.Abs.SA
open Go.Proofs
end Go.Abs.SA
end
section
namespace Go.Abs.SA
open Go.Proofs
end Go.Abs.SA
end
section
namespace Go.Abs.SA
open Go.Proofs
mutual
def ndN : Node → Prop
  | .mk _ _ k => k.Nodup ∧ ndL k
def ndL : List Node → Prop
  | [] => True
  | x :: r => ndN x ∧ ndL r
end
theorem ndN_s {n : Node} : ndN n ↔ n.kids.Nodup ∧ ndL n.kids := by cases n; rw [ndN]; rfl
theorem ndL_iff : ∀ {l : List Node}, ndL l ↔ ∀ x ∈ l, ndN x
  | [] => by simp [ndL]
  | x :: r => by rw [ndL, ndL_iff (l := r)]; simp
theorem ins_perm (l : List Def) (out : List Node) (n : Node) : (ins l out n).Perm (n :: out) := by
  unfold ins
  refine List.perm_middle.trans ?_
  rw [List.take_append_drop]
theorem foldl_ins_perm (l : List Def) : ∀ (ns out : List Node), (ns.foldl (ins l) out).Perm (ns ++ out)
  | [], out => by simp
  | n :: r, out => by
    rw [List.foldl_cons]
    refine (foldl_ins_perm l r _).trans ?_
    refine ((ins_perm l out n).append_left r).trans ?_
    rw [List.cons_append]
    exact List.perm_middle
theorem order_perm (l : List Def) (ns : List Node) : (order l ns).Perm ns := by
  have := foldl_ins_perm l ns []
  rwa [List.append_nil] at this
mutual
theorem rdE_nd (l : List Def) : ∀ (e : Elem) (d : Def) (n : Node), rdE l e = .ok (d, n) → ndN n
  | .mk s nm a t k, d, n, h => by
    rw [rdE] at h
    split at h
    · cases h
    · split at h
      · cases h
      · split at h
        · split at h
          · cases h
          · cases h; simp [ndN, ndL]
        · split at h
          · cases h
          · split at h
            · cases h
            · rename_i d' _ _ _ nodes hn
              split at h
              · cases h
                rw [ndN]
                exact rdL_nd _ k [] [] _ (by simp) (by simp) (by simp [ndL]) hn
              · cases h
theorem rdL_nd (l : List Def) : ∀ (es : List Elem) (out all nodes : List Node), out.Nodup → (∀ x ∈ out, x ∈ all) → ndL out → rdL l out all es = .ok nodes → nodes.Nodup ∧ ndL nodes
  | [], out, all, nodes, h1, h2, h3, h => by
    rw [rdL] at h
    split at h
    · cases h
    · cases h
      refine ⟨(order_perm l out).nodup_iff.2 h1, ?_⟩
      rw [ndL_iff] at h3 ⊢
      exact fun x hx => h3 x ((order_mem l out).1 hx)
  | e :: r, out, all, nodes, h1, h2, h3, h => by
    rw [rdL] at h
    split at h
    · cases h
    · rename_i d n hn
      split at h
      · cases h
      · rename_i hsn
        have hnd := rdE_nd l e d n hn
        have hno : n ∉ all := by
          intro hx
          have : sameAt d all n = none := by
            cases hq : sameAt d all n with
            | none => rfl
            | some i => rw [hq] at hsn; simp at hsn
          unfold sameAt at this
          rw [List.findIdx?_eq_none_iff] at this
          have := this n hx
          rw [sameN_iff.2 ⟨rfl, rfl⟩] at this
          cases this
        refine rdL_nd l r _ _ _ ?_ ?_ ?_ h
        · split
          · rw [List.nodup_append]
            refine ⟨h1, by simp, fun a ha b hb => ?_⟩
            rw [List.mem_singleton] at hb
            subst hb
            rintro rfl
            exact hno (h2 _ ha)
          · exact h1
        · intro x hx
          split at hx
          · rcases List.mem_append.1 hx with hx | hx
            · exact List.mem_append.2 (.inl (h2 x hx))
            · exact List.mem_append.2 (.inr hx)
          · exact List.mem_append.2 (.inl (h2 x hx))
        · split
          · rw [ndL_iff] at h3 ⊢
            intro x hx
            rcases List.mem_append.1 hx with hx | hx
            · exact h3 x hx
            · rw [List.mem_singleton.1 hx]; exact hnd
          · exact h3
end
theorem tree_nd {l : List Elem} {n : List Node} (h : tree l = some n) : n.Nodup ∧ ndL n := rdL_nd _ _ _ _ _ (by simp) (by simp) (by simp [ndL]) (tree_some h).1
end Go.Abs.SA
end
section
namespace Go.Abs.SA
open Go.Proofs
def kpL (keys : List Str) : List Pk → List Node → Prop
  | p :: r, n :: s => (has keys n.name = true → p = wholeP) ∧ kpL keys r s
  | _, _ => True
mutual
def kpN : List Def → Node → Pk → Prop
  | l, .mk nm _ ks, .mk false c => ∀ d ∈ l, nm = d.name → kpL d.keys c ks ∧ kpNs d.kids ks c
  | _, _, _ => True
def kpNs : List Def → List Node → List Pk → Prop
  | l, n :: s, p :: r => kpN l n p ∧ kpNs l s r
  | _, _, _ => True
end
def kpD (d : Def) (n : Node) (p : Pk) : Prop := ∀ c, p = .mk false c → kpL d.keys c n.kids ∧ kpNs d.kids n.kids c
theorem kpN_nil (l : List Def) (n : Node) : kpN l n .nil := by cases n; rw [kpN] <;> first | trivial | (intros; simp_all)
theorem kpN_all (l : List Def) (n : Node) (c : List Pk) : kpN l n (.mk true c) := by cases n; rw [kpN] <;> first | trivial | (intros; simp_all)
theorem kpN_some {l : List Def} {n : Node} {c : List Pk} : kpN l n (.mk false c) ↔ ∀ d ∈ l, n.name = d.name → kpL d.keys c n.kids ∧ kpNs d.kids n.kids c := by cases n; rw [kpN]; rfl
theorem kpN_iff {l : List Def} {n : Node} {p : Pk} : kpN l n p ↔ ∀ d ∈ l, n.name = d.name → kpD d n p := by
  unfold kpD
  cases p with
  | nil => simp [kpN_nil]
  | mk a c => cases a <;> simp [kpN_all, kpN_some]
theorem kpNs_nilr (l : List Def) (s : List Node) : kpNs l s [] := by cases s <;> (rw [kpNs] <;> first | trivial | (intros; simp_all))
theorem kpNs_nill (l : List Def) (r : List Pk) : kpNs l [] r := by rw [kpNs] <;> first | trivial | (intros; simp_all)
theorem kpNs_cons {l : List Def} {n : Node} {s : List Node} {p : Pk} {r : List Pk} : kpNs l (n :: s) (p :: r) ↔ kpN l n p ∧ kpNs l s r := by rw [kpNs]
theorem kpL_join (keys : List Str) : ∀ (c m : List Pk) (s : List Node), kpL keys c s → kpL keys m s → kpL keys (joinL c m) s
  | p :: r, q :: t, n :: s, h1, h2 => by
    rw [joinL]
    rw [kpL] at h1 h2 ⊢
    refine ⟨fun h => ?_, kpL_join keys r t s h1.2 h2.2⟩
    rw [h1.1 h, h2.1 h]; rfl
  | [], m, s, h1, h2 => by
    have : joinL [] m = [] := by simp [joinL]
    rw [this]; exact h1
  | p :: r, [], s, h1, h2 => by
    have : joinL (p :: r) [] = [] := by simp [joinL]
    rw [this]; exact h2
  | p :: r, q :: t, [], h1, h2 => by rw [kpL] <;> first | trivial | (intros; simp_all)
mutual
theorem kpN_join : ∀ (n : Node) (l : List Def) (p q : Pk), kpN l n p → kpN l n q → kpN l n (joinP p q)
  | n, l, .nil, q, h1, h2 => by
    rw [show joinP .nil q = q from by rw [joinP]]; exact h2
  | n, l, .mk a c, .nil, h1, h2 => by
    rw [show joinP (.mk a c) .nil = .mk a c from by rw [joinP]]; exact h1
  | .mk nm v ks, l, .mk a c, .mk b m, h1, h2 => by
    rw [joinP]
    cases a <;> cases b
    · simp only [Bool.or_self, Bool.false_eq_true, if_false]
      rw [kpN_some] at h1 h2 ⊢
      intro d hd he
      obtain ⟨a1, a2⟩ := h1 d hd he
      obtain ⟨b1, b2⟩ := h2 d hd he
      exact ⟨kpL_join _ _ _ _ a1 b1, kpNs_join ks d.kids c m a2 b2⟩
    · exact kpN_all ..
    · exact kpN_all ..
    · exact kpN_all ..
theorem kpNs_join : ∀ (s : List Node) (l : List Def) (c m : List Pk), kpNs l s c → kpNs l s m → kpNs l s (joinL c m)
  | [], l, c, m, h1, h2 => kpNs_nill ..
  | n :: s, l, [], m, h1, h2 => by
    rw [show joinL [] m = [] from by simp [joinL]]
    exact kpNs_nilr ..
  | n :: s, l, p :: r, [], h1, h2 => by
    rw [show joinL (p :: r) [] = [] from by simp [joinL]]
    exact kpNs_nilr ..
  | n :: s, l, p :: r, q :: t, h1, h2 => by
    rw [kpNs_cons] at h1 h2
    rw [joinL, kpNs_cons]
    exact ⟨kpN_join n l p q h1.1 h2.1, kpNs_join s l r t h1.2 h2.2⟩
end
theorem kpD_join {d : Def} {n : Node} {p q : Pk} (h1 : kpD d n p) (h2 : kpD d n q) : kpD d n (joinP p q) := by
  have a1 : kpN [.mk n.name d.kind d.type d.values d.must d.keys d.kids] n p := by
    rw [kpN_iff]; intro d' hd' _; rw [List.mem_singleton.1 hd']; exact h1
  have a2 : kpN [.mk n.name d.kind d.type d.values d.must d.keys d.kids] n q := by
    rw [kpN_iff]; intro d' hd' _; rw [List.mem_singleton.1 hd']; exact h2
  have := kpN_join n _ p q a1 a2
  rw [kpN_iff] at this
  exact this (.mk n.name d.kind d.type d.values d.must d.keys d.kids) (List.mem_singleton.2 rfl) rfl
theorem kpNs_set (l : List Def) : ∀ (s : List Node) (r : List Pk) (i : Nat), kpNs l s r → kpNs l s (r.set i wholeP)
  | [], r, i, h => kpNs_nill ..
  | n :: s, [], i, h => h
  | n :: s, p :: r, 0, h => by
    rw [kpNs_cons] at h
    rw [List.set_cons_zero, kpNs_cons]
    exact ⟨kpN_all .., h.2⟩
  | n :: s, p :: r, i + 1, h => by
    rw [kpNs_cons] at h
    rw [List.set_cons_succ, kpNs_cons]
    exact ⟨h.1, kpNs_set l s r i h.2⟩
theorem kpNs_rep (l : List Def) : ∀ (s : List Node) (k : Nat), kpNs l s (List.replicate k .nil)
  | [], k => kpNs_nill ..
  | n :: s, 0 => kpNs_nilr ..
  | n :: s, k + 1 => by
    rw [List.replicate_succ, kpNs_cons]
    exact ⟨kpN_nil .., kpNs_rep l s k⟩
theorem kpNs_map (l : List Def) (g : Node → Pk) : ∀ (s : List Node), (∀ x ∈ s, kpN l x (g x)) → kpNs l s (s.map g)
  | [], h => kpNs_nill ..
  | n :: s, h => by
    rw [List.map_cons, kpNs_cons]
    exact ⟨h n (by simp), kpNs_map l g s fun x hx => h x (by simp [hx])⟩
theorem kpNs_scan (l kd : List Def) (ns : List Node) : ∀ (es : List Elem) (out : List Pk) (m : Bool) (rest : List Elem) (o' : List Pk) (m' : Bool) (r' : List Elem), kpNs l ns out → scan kd ns es out m rest = some (o', m', r') → kpNs l ns o'
  | [], out, m, rest, o', m', r', h, hs => by rw [scan] at hs; cases hs; exact h
  | k :: r, out, m, rest, o', m', r', h, hs => by
    rw [scan] at hs
    split at hs
    · split at hs
      · cases hs
      · rename_i i _
        exact kpNs_scan l kd ns r _ _ _ _ _ _ (kpNs_set l ns out i h) hs
    · exact kpNs_scan l kd ns r _ _ _ _ _ _ h hs
theorem kpNs_keyed (l : List Def) (keys : List Str) : ∀ (s : List Node) (k : List Pk), kpNs l s k → kpNs l s (keyed keys s k)
  | [], k, h => kpNs_nill ..
  | n :: s, [], h => by rw [keyed] <;> first | exact kpNs_nilr .. | (intros; simp_all)
  | n :: s, p :: r, h => by
    rw [kpNs_cons] at h
    rw [keyed, kpNs_cons]
    refine ⟨?_, kpNs_keyed l keys s r h.2⟩
    split
    · exact kpN_all ..
    · exact h.1
theorem kpL_keyed (keys : List Str) : ∀ (s : List Node) (k : List Pk), kpL keys (keyed keys s k) s
  | [], k => by
    unfold kpL
    split <;> trivial
  | n :: s, [] => by
    rw [keyed] <;> first | (unfold kpL; trivial) | (intros; simp_all)
  | n :: s, p :: r => by
    rw [keyed, kpL]
    refine ⟨fun h => by rw [if_pos h], kpL_keyed keys s r⟩
mutual
theorem fits_kp : ∀ (d : Def) (n : Node) (f : Elem), wfD d → kpD d n (fitsD d n f)
  | .mk nm kind t v ms ks kd, n, f, hw => by
    have hnil : kpD (.mk nm kind t v ms ks kd) n .nil := fun c h => nomatch h
    have hall : kpD (.mk nm kind t v ms ks kd) n wholeP := fun c h => by cases h
    rw [fitsD]
    split
    · split
      · exact hnil
      · exact hall
    · split
      · exact hnil
      · split
        · exact hall
        · split
          · exact hnil
          · rename_i out m rest hsc
            split
            · exact hall
            · split
              · exact hnil
              · intro c hc
                cases hc
                refine ⟨kpL_keyed _ _ _, kpNs_keyed _ _ _ _ (kpNs_join _ _ _ _ (kpNs_scan _ _ _ _ _ _ _ _ _ _ (kpNs_rep _ _ _) hsc) (kpNs_map _ _ _ fun x _ => ?_))⟩
                rw [wfD] at hw
                exact pick_kp kd x rest hw
theorem pick_kp : ∀ (l : List Def) (n : Node) (fs : List Elem), wfDs l → kpN l n (pickN l n fs)
  | [], n, fs, hw => by rw [pickN]; exact kpN_nil ..
  | d :: r, n, fs, hw => by
    have hw' := hw
    rw [wfDs] at hw'
    rw [pickN]
    split
    · rename_i hn
      rw [kpN_iff]
      intro d' hd' he
      have hdd : d' = d := wfDs_inj hw hd' (by simp) (he.symm.trans hn.symm)
      rw [hdd]
      have : ∀ (fs : List Elem) (p : Pk), kpD d n p → kpD d n (fs.foldl (fun p f => if f.name = n.name then joinP p (fitsD d n f) else p) p) := by
        intro fs
        induction fs with
        | nil => intro p hp; exact hp
        | cons f fs ih =>
          intro p hp
          rw [List.foldl_cons]
          apply ih
          split
          · exact kpD_join hp (fits_kp d n f hw'.2.1)
          · exact hp
      exact this fs _ (fun c h => nomatch h)
    · rename_i hn
      have := pick_kp r n fs hw'.2.2
      rw [kpN_iff] at this ⊢
      intro d' hd' he
      rcases List.mem_cons.1 hd' with rfl | hd'
      · exact absurd he.symm hn
      · exact this d' hd' he
end
theorem leafV_cut (keys : List Str) (k : Str) (hk : has keys k = true) : ∀ (c : List Pk) (s : List Node), fitL c s → kpL keys c s → leafV (cutL c s) k = leafV s k
  | [], [], _, _ => by simp [cutL]
  | [], n :: s, h, _ => by simp [fitL] at h
  | p :: r, [], h, _ => by simp [fitL] at h
  | p :: r, n :: s, h, hp => by
    rw [fitL] at h
    rw [kpL] at hp
    have ih := leafV_cut keys k hk r s h.2 hp.2
    rw [cutL, leafV_cons]
    by_cases he : n.name = k
    · rw [if_pos he, hp.1 (by rw [he]; exact hk)]
      simp [wholeP, cutN, leafV_cons, he]
    · rw [if_neg he]
      cases p with
      | nil => simpa [cutN] using ih
      | mk a c => 
        cases a <;> simp [cutN, leafV_cons, he, ih, Node.name] <;> (intro h; exact absurd h he)
theorem has_mem {l : List Str} {v : Str} : has l v = true ↔ v ∈ l := by
  simp [has, List.any_eq_true]
theorem filterMap_eq {α β : Type} {f g : α → Option β} : ∀ {l : List α}, (∀ x ∈ l, f x = g x) → l.filterMap f = l.filterMap g
  | [], _ => rfl
  | x :: r, h => by
    rw [List.filterMap_cons, List.filterMap_cons, h x (by simp), filterMap_eq (l := r) fun y hy => h y (by simp [hy])]
theorem keyOf_cut {d : Def} {n : Node} {c : List Pk} {nm v : Str} (h : fitL c n.kids) (hp : kpL d.keys c n.kids) : keyOf d (.mk nm v (cutL c n.kids)) = keyOf d n := by
  have h1 : ∀ k ∈ d.keys, leafV (cutL c n.kids) k = leafV n.kids k := fun k hk => leafV_cut d.keys k (has_mem.2 hk) c n.kids h hp
  have e1 : (d.keys.all fun k => (leafV (cutL c n.kids) k).isSome) = (d.keys.all fun k => (leafV n.kids k).isSome) := by
    rw [Bool.eq_iff_iff, List.all_eq_true, List.all_eq_true]
    constructor <;> intro hh k hk
    · rw [← h1 k hk]; exact hh k hk
    · rw [h1 k hk]; exact hh k hk
  have e2 : d.keys.filterMap (leafV (cutL c n.kids)) = d.keys.filterMap (leafV n.kids) := filterMap_eq h1
  unfold keyOf
  rw [show (Node.mk nm v (cutL c n.kids)).kids = cutL c n.kids from rfl, e1, e2]
end Go.Abs.SA
end
section
namespace Go.Abs.SA
open Go.Proofs
mutual
def leP : Pk → Pk → Prop
  | .nil, _ => True
  | .mk _ _, .nil => False
  | .mk true _, .mk b _ => b = true
  | .mk false c, .mk b m => b = true ∨ leL c m
def leL : List Pk → List Pk → Prop
  | p :: r, q :: s => leP p q ∧ leL r s
  | _, _ => True
end
theorem leL_nilr (r : List Pk) : leL r [] := by cases r <;> (rw [leL] <;> first | trivial | (intros; simp_all))
theorem leL_nill (r : List Pk) : leL [] r := by rw [leL] <;> first | trivial | (intros; simp_all)
theorem leL_get : ∀ {c m : List Pk} {i : Nat} (h : leL c m) (h1 : i < c.length) (h2 : i < m.length), leP c[i] m[i]
  | [], m, i, h, h1, h2 => absurd h1 (by simp)
  | p :: r, [], i, h, h1, h2 => absurd h2 (by simp)
  | p :: r, q :: s, 0, h, h1, h2 => by rw [leL] at h; exact h.1
  | p :: r, q :: s, i + 1, h, h1, h2 => by rw [leL] at h; exact leL_get h.2 (by simpa using h1) (by simpa using h2)
mutual
theorem leP_refl : ∀ p, leP p p
  | .nil => by rw [leP]; trivial
  | .mk true c => by rw [leP]
  | .mk false c => by rw [leP]; exact .inr (leL_refl c)
theorem leL_refl : ∀ c, leL c c
  | [] => leL_nill _
  | p :: r => by rw [leL]; exact ⟨leP_refl p, leL_refl r⟩
end
def kidsP (n : Node) : Pk → List Pk
  | .mk true _ => List.replicate n.kids.length wholeP
  | .mk false c => c
  | .nil => []
theorem cutL_whole : ∀ (s : List Node), cutL (List.replicate s.length wholeP) s = s
  | [] => by simp [cutL]
  | n :: s => by
    rw [List.length_cons, List.replicate_succ, cutL, cutL_whole s]
    simp [wholeP, cutN]
theorem fitL_whole : ∀ (s : List Node), fitL (List.replicate s.length wholeP) s := by
  intro s
  rw [fitL_iff]
  refine ⟨by simp, fun i h1 h2 => ?_⟩
  rw [List.getElem_replicate]
  exact fit_whole _
theorem cutN_mk {p : Pk} {n : Node} (h : p ≠ .nil) : cutN p n = [.mk n.name n.value (cutL (kidsP n p) n.kids)] := by
  cases p with
  | nil => contradiction
  | mk a c => 
    cases a
    · simp [cutN, kidsP, Node.name, Node.value, Node.kids]
    · rw [kidsP, cutL_whole]
      simp [cutN, node_mk]
theorem fit_kids {p : Pk} {n : Node} (h : fitP p n) (hp : p ≠ .nil) : fitL (kidsP n p) n.kids := by
  cases p with
  | nil => contradiction
  | mk a c =>
    cases a
    · rw [fitP] at h
      rcases h with ⟨h, -⟩ | ⟨-, h⟩
      · cases h
      · exact h
    · exact fitL_whole _
theorem kpL_rep (keys : List Str) : ∀ (s : List Node) (k : Nat), kpL keys (List.replicate k wholeP) s
  | [], k => by unfold kpL; split <;> first | trivial | simp_all
  | n :: s, 0 => by unfold kpL; trivial
  | n :: s, k + 1 => by
    rw [List.replicate_succ, kpL]
    exact ⟨fun _ => rfl, kpL_rep keys s k⟩
theorem kpNs_whole (l : List Def) : ∀ (s : List Node) (k : Nat), kpNs l s (List.replicate k wholeP)
  | [], k => kpNs_nill ..
  | n :: s, 0 => kpNs_nilr ..
  | n :: s, k + 1 => by
    rw [List.replicate_succ, kpNs_cons]
    exact ⟨kpN_all .., kpNs_whole l s k⟩
theorem kp_kids {l : List Def} {d : Def} {n : Node} {p : Pk} (hd : d ∈ l) (he : n.name = d.name) (h : kpN l n p) : kpL d.keys (kidsP n p) n.kids ∧ kpNs d.kids n.kids (kidsP n p) := by
  cases p with
  | nil => exact ⟨by rw [kidsP]; unfold kpL; trivial, by rw [kidsP]; exact kpNs_nilr ..⟩
  | mk a c =>
    cases a
    · exact kpN_some.1 h d hd he
    · exact ⟨kpL_rep .., kpNs_whole ..⟩
theorem le_kids {p q : Pk} {n : Node} (h : leP p q) (hp : p ≠ .nil) (hq : fitP q n) (hf : fitP p n) : q ≠ .nil ∧ leL (kidsP n p) (kidsP n q) := by
  cases p with
  | nil => contradiction
  | mk a c =>
    cases q with
    | nil => cases a <;> simp [leP] at h
    | mk b m =>
      refine ⟨by simp, ?_⟩
      cases a <;> cases b
      · rw [leP] at h
        rcases h with h | h
        · cases h
        · exact h
      · rw [kidsP, kidsP]
        have hl := fitL_len (fit_kids hf (by simp))
        rw [kidsP] at hl
        rw [← hl]
        clear hl h hf hq hp
        induction c with
        | nil => exact leL_nill _
        | cons p r ih =>
          rw [List.length_cons, List.replicate_succ, leL]
          refine ⟨?_, ih⟩
          cases p with
          | nil => rw [leP]; trivial
          | mk a c => cases a <;> simp [wholeP, leP]
      · simp [leP] at h
      · exact leL_refl _
theorem cutL_mem {c : List Pk} {s : List Node} {x : Node} : x ∈ cutL c s ↔ ∃ i, ∃ (h1 : i < c.length) (h2 : i < s.length), x ∈ cutN c[i] s[i] := by
  induction c generalizing s with
  | nil => cases s <;> simp [cutL]
  | cons p r ih =>
    cases s with
    | nil => simp [cutL]
    | cons n s =>
      rw [cutL, List.mem_append, ih]
      constructor
      · rintro (h | ⟨i, h1, h2, h⟩)
        · exact ⟨0, by simp, by simp, h⟩
        · exact ⟨i + 1, by simpa using h1, by simpa using h2, by simpa using h⟩
      · rintro ⟨i, h1, h2, h⟩
        cases i with
        | zero => exact .inl (by simpa using h)
        | succ i => exact .inr ⟨i, by simpa using h1, by simpa using h2, by simpa using h⟩
mutual
def withinN (l : List Def) : Node → List Node → Bool
  | .mk nm v k, b => match place l nm with
    | none => false
    | some i => match l[i]? with
      | none => false
      | some d => match sameAt d b (.mk nm v k) with
        | none => false
        | some j => match b[j]? with
          | none => false
          | some y => decide (y.value = v) && withinL d.kids k y.kids
def withinL (l : List Def) : List Node → List Node → Bool
  | [], _ => true
  | n :: r, b => withinN l n b && withinL l r b
end
theorem withinN_s (l : List Def) (n : Node) (b : List Node) : withinN l n b = match place l n.name with
    | none => false
    | some i => match l[i]? with
      | none => false
      | some d => match sameAt d b n with
        | none => false
        | some j => match b[j]? with
          | none => false
          | some y => decide (y.value = n.value) && withinL d.kids n.kids y.kids := by cases n; rw [withinN]; rfl
theorem withinL_iff {l : List Def} {b : List Node} : ∀ {a : List Node}, withinL l a b = true ↔ ∀ x ∈ a, withinN l x b = true
  | [] => by simp [withinL]
  | x :: r => by rw [withinL, Bool.and_eq_true, withinL_iff (a := r)]; simp
theorem nodup_inj {α : Type} {l : List α} (h : l.Nodup) {i j : Nat} (hi : i < l.length) (hj : j < l.length) (he : l[i] = l[j]) : i = j := by
  have hp := List.pairwise_iff_getElem.1 h
  rcases Nat.lt_trichotomy i j with h1 | h1 | h1
  · exact absurd he (hp i j hi hj h1)
  · exact h1
  · exact absurd he.symm (hp j i hj hi h1)
theorem place_of {l : List Def} (hw : wfDs l) {d : Def} {nm : Str} (hd : d ∈ l) (he : nm = d.name) : ∃ i, place l nm = some i ∧ l[i]? = some d := by
  obtain ⟨i, hi⟩ := place_mem hd he
  obtain ⟨hq, hqn⟩ := place_some hi
  refine ⟨i, hi, ?_⟩
  rw [List.getElem?_eq_getElem hq]
  congr 1
  exact wfDs_inj hw (List.getElem_mem hq) hd (hqn.trans he)
theorem cut_within : ∀ (f : Nat) (l : List Def) (nodes : List Node) (ks ms : List Pk), cntL nodes < f → wfDs l → goodL l nodes nodes → nodes.Nodup → ndL nodes → fitL ks nodes → fitL ms nodes →
    kpNs l nodes ks → kpNs l nodes ms → leL ks ms → withinL l (cutL ks nodes) (cutL ms nodes) = true := by
  intro f
  induction f with
  | zero => intro l nodes ks ms h; omega
  | succ f ih =>
    intro l nodes ks ms hc hw hg hnd hnds hk hm kk km hle
    have kget : ∀ {c : List Pk} {s : List Node} {i : Nat}, kpNs l s c → ∀ (h1 : i < c.length) (h2 : i < s.length), kpN l s[i] c[i] := by
      intro c
      induction c with
      | nil => intro s i h h1; simp at h1
      | cons p r ih2 =>
        intro s i h h1 h2
        cases s with
        | nil => simp at h2
        | cons n s =>
          rw [kpNs_cons] at h
          cases i with
          | zero => exact h.1
          | succ i => exact ih2 h.2 (by simpa using h1) (by simpa using h2)
    have lk := fitL_len hk
    have lm := fitL_len hm
    rw [withinL_iff]
    intro x hx
    obtain ⟨i, hi1, hi2, hxi⟩ := cutL_mem.1 hx
    have hp : ks[i] ≠ .nil := by intro h; rw [h] at hxi; simp [cutN] at hxi
    rw [cutN_mk hp, List.mem_singleton] at hxi
    obtain ⟨d, hd, he, hu, hgk⟩ := goodN_s.1 (goodL_iff.1 hg nodes[i] (List.getElem_mem hi2))
    have hfk := fitL_get hk hi1 hi2
    have hfm := fitL_get hm (by omega) hi2
    obtain ⟨hq, hlk⟩ := le_kids (leL_get hle hi1 (by omega)) hp hfm hfk
    have kpk := kp_kids hd he (kget kk hi1 hi2)
    have kpm := kp_kids hd he (kget km (by omega) hi2)
    have hkx : keyD d x = keyD d nodes[i] := by
      unfold keyD; rw [hxi, keyOf_cut (fit_kids hfk hp) kpk.1]
    have hxn : x.name = nodes[i].name := by rw [hxi]; rfl
    -- what stands there
    have hall : ∀ z ∈ cutL ms nodes, sameN d x z = true → z = .mk nodes[i].name nodes[i].value (cutL (kidsP nodes[i] ms[i]) nodes[i].kids) := by
      intro z hz hs
      obtain ⟨j, hj1, hj2, hzj⟩ := cutL_mem.1 hz
      have hpj : ms[j] ≠ .nil := by intro h; rw [h] at hzj; simp [cutN] at hzj
      rw [cutN_mk hpj, List.mem_singleton] at hzj
      obtain ⟨s1, s2⟩ := sameN_iff.1 hs
      have hzn : z.name = nodes[j].name := by rw [hzj]; rfl
      have hej : nodes[j].name = d.name := by rw [← hzn, s1, hxn, he]
      have kpj := kp_kids hd hej (kget km hj1 hj2)
      have hkz : keyD d z = keyD d nodes[j] := by
        unfold keyD; rw [hzj, keyOf_cut (fit_kids (fitL_get hm hj1 hj2) hpj) kpj.1]
      have : nodes[j] = nodes[i] := hu _ (List.getElem_mem hj2) (sameN_iff.2 ⟨by rw [hej, he], by rw [← hkz, s2, hkx]⟩)
      have hij : j = i := nodup_inj hnd hj2 hi2 this
      subst hij
      exact hzj
    have hmem : (Node.mk nodes[i].name nodes[i].value (cutL (kidsP nodes[i] ms[i]) nodes[i].kids)) ∈ cutL ms nodes := cutL_mem.2 ⟨i, by omega, hi2, by rw [cutN_mk hq]; exact List.mem_singleton.2 rfl⟩
    have hsm : sameN d x (Node.mk nodes[i].name nodes[i].value (cutL (kidsP nodes[i] ms[i]) nodes[i].kids)) = true := by
      refine sameN_iff.2 ⟨hxn.symm, ?_⟩
      rw [hkx]
      unfold keyD; rw [keyOf_cut (fit_kids hfm hq) kpm.1]
    obtain ⟨q, hq1, hq2⟩ := place_of hw hd (hxn.trans he)
    rw [withinN_s, hq1]
    simp only [hq2]
    cases hsa : sameAt d (cutL ms nodes) x with
    | none =>
      unfold sameAt at hsa
      rw [List.findIdx?_eq_none_iff] at hsa
      have := hsa _ hmem
      rw [hsm] at this
      cases this
    | some j =>
      have hj := sameAt_lt hsa
      unfold sameAt at hsa
      rw [List.findIdx?_eq_some_iff_getElem] at hsa
      have hz := hall _ (List.getElem_mem hj) hsa.2.1
      simp only [List.getElem?_eq_getElem hj, hz]
      rw [Bool.and_eq_true]
      refine ⟨by rw [hxi]; simp [Node.value], ?_⟩
      rw [hxi]
      simp only [Node.kids]
      have hni := cnt_mem (List.getElem_mem hi2)
      have hndi := ndN_s.1 (ndL_iff.1 hnds _ (List.getElem_mem hi2))
      have hwd := wfDs_mem hw hd
      rw [wfD_s] at hwd
      have hkk : ∀ n : Node, (Node.kids n) = n.kids := fun n => rfl
      exact ih d.kids nodes[i].kids _ _ (by have : cntL nodes[i].kids < cntN nodes[i] := (by cases nodes[i]; simp [cntN, Node.kids]); omega) hwd hgk hndi.1 hndi.2 (fit_kids hfk hp) (fit_kids hfm hq) kpk.2 kpm.2 hlk
end Go.Abs.SA
end
section
namespace Go.Abs.SA
open Go.Proofs
end Go.Abs.SA
end
section
namespace Go.Abs.SA
open Go.Proofs
theorem within_spec : ∀ (n : Nat) (l : List Def) (a b : List Node), cntL a < n → okDs l → l.length ≤ 1099511627776 → cntL a ≤ 900000 → cntL b ≤ 900000 →
    pureW XX 33 [lD l, lN a, lN b] = some (vB (withinL l a b)) := by
  intro n
  induction n with
  | zero => intro l a b h; omega
  | succ n ih =>
    intro l a b hc hod hl hca hcb
    have hla := len_cnt a
    have hlb := len_cnt b
    refine pureW_in 59 Tryz.func33 Tryz.ntmps33 (by simp) (rfl : Tryz.f33.body = some _) fns_33 ?_
    simp (maxSteps := 200000) (disch := first | omega | (simp only [go_sem] <;> omega) | fail) only [go_sem]
    refine WP_range 2 0 a.length (fun i => S_33_2 (lD l) (lN b) (lN a) (vI a.length) (vI i) []) (fun i => withinL l a b = withinL l (a.drop i) b) rfl rfl ?_ ?_ ?_ ?_
    · simp (maxSteps := 200000) (disch := first | omega | (simp only [go_sem] <;> omega) | fail) only [go_sem]; rfl
    · simp
    · intro i h hI
      rw [List.drop_eq_getElem_cons h, withinL, withinN_s] at hI
      have pl := find_spec l a[i].name (by omega)
      have hws := wrap_succ h (show a.length ≤ 140737488355328 by omega)
      have n1 : ((-1 : Int) < 0) = True := eq_true (by omega)
      have hca2 := cnt_mem (List.getElem_mem h)
      have hak := cnt_kids h
      cases hp : place l a[i].name with
      | none =>
        rw [hp] at pl hI
        simp only [posI] at pl
        simp only [Bool.false_and] at hI
        simp (maxSteps := 200000) (disch := first | omega | (simp only [go_sem] <;> omega) | fail) only [go_sem, nat_int, h, eNode_s, callA_pure mode_55, pl, n1]
        rw [hI]
      | some q =>
        obtain ⟨hq, hqn⟩ := place_some hp
        rw [hp] at pl hI
        simp only [posI] at pl
        simp only [List.getElem?_eq_getElem hq] at hI
        have n2 : ((q : Int) < 0) = False := eq_false (by omega)
        obtain ⟨o1, o2, o3, o4⟩ := okD_s (okDs_mem hod (List.getElem_mem hq))
        have hsm := modelSame_spec l[q] b a[i] o2 (by have := kids_le (List.getElem_mem h); omega) (by omega) (fun x hx => by have := kids_le hx; omega)
        cases hs : sameAt l[q] b a[i] with
        | none =>
          rw [hs] at hsm hI
          simp only [posI] at hsm
          simp only [Bool.false_and] at hI
          simp (maxSteps := 200000) (disch := first | omega | (simp only [go_sem] <;> omega) | fail) only [go_sem, nat_int, h, hq, eNode_s, eDef_s, callA_pure mode_55, pl, n2, callA_pure mode_58, hsm, n1]
          rw [hI]
        | some j =>
          have hj := sameAt_lt hs
          rw [hs] at hsm hI
          simp only [posI] at hsm
          simp only [List.getElem?_eq_getElem hj] at hI
          have n3 : ((j : Int) < 0) = False := eq_false (by omega)
          by_cases hv : b[j].value = a[i].value
          case neg =>
            simp only [hv, decide_false, Bool.false_and] at hI
            simp (maxSteps := 200000) (disch := first | omega | (simp only [go_sem] <;> omega) | fail) only [go_sem, nat_int, h, hq, hj, eNode_s, eDef_s, callA_pure mode_55, pl, n2, callA_pure mode_58, hsm, n3, ne_eq, hv, not_false_eq_true]
            rw [hI]
          have hv' := eq_true hv
          have hch := ih l[q].kids a[i].kids b[j].kids (by omega) o4 (by omega) (by omega) (by have := cnt_kids hj; omega)
          cases hw : withinL l[q].kids a[i].kids b[j].kids with
          | false =>
            rw [hw] at hch hI
            simp only [Bool.and_false, Bool.false_and] at hI
            simp (maxSteps := 200000) (disch := first | omega | (simp only [go_sem] <;> omega) | fail) only [go_sem, nat_int, h, hq, hj, eNode_s, eDef_s, callA_pure mode_55, pl, n2, callA_pure mode_58, hsm, n3, ne_eq, hv', not_true, callA_pure mode_33, hch]
            rw [hI]
          | true =>
            rw [hw] at hch hI
            simp only [hv, decide_true, Bool.true_and, Bool.and_true] at hI
            simp (maxSteps := 200000) (disch := first | omega | (simp only [go_sem] <;> omega) | fail) only [go_sem, nat_int, h, hq, hj, eNode_s, eDef_s, callA_pure mode_55, pl, n2, callA_pure mode_58, hsm, n3, ne_eq, hv', not_true, callA_pure mode_33, hch, hws]
            rw [gcK_mkT (by simp only [go_sem]) (by simp only [go_sem])]
            exact ⟨rfl, hI⟩
    · intro hI
      rw [List.drop_length, withinL] at hI
      rw [hI]
      simp (maxSteps := 200000) (disch := first | omega | (simp only [go_sem] <;> omega) | fail) only [go_sem, nat_int]
end Go.Abs.SA
end
section
namespace Go.Abs.SA
open Go.Proofs
mutual
def resP : Pk → Pk → Pk
  | _, .nil => .nil
  | .nil, .mk _ _ => .nil
  | .mk true _, .mk b m => .mk b m
  | .mk false k, .mk b m => .mk b (resL k m)
def resL : List Pk → List Pk → List Pk
  | .nil :: k, _ :: m => resL k m
  | .mk a j :: k, q :: m => resP (.mk a j) q :: resL k m
  | _, _ => []
end
theorem resP_nil (p : Pk) : resP p .nil = .nil := by cases p <;> simp [resP]
theorem resP_true (c : List Pk) (q : Pk) : resP (.mk true c) q = q := by cases q <;> simp [resP]
theorem leP_true (q : Pk) (c : List Pk) : leP q (.mk true c) := by
  cases q with
  | nil => rw [leP]; trivial
  | mk a k => cases a <;> rw [leP] <;> simp
theorem leP_nil (p : Pk) : leP .nil p := by rw [leP]; trivial
theorem leP_whole {p : Pk} {c : List Pk} (h : leP (.mk true c) p) : ∃ c', p = .mk true c' := by
  cases p with
  | nil => rw [leP] at h; exact h.elim
  | mk b m => rw [leP] at h; subst h; exact ⟨m, rfl⟩
theorem leP_none {q : Pk} (h : leP q .nil) : q = .nil := by
  cases q with
  | nil => rfl
  | mk a k => rw [leP] at h; exact h.elim
theorem leP_false {q : Pk} {k : List Pk} (h : leP q (.mk false k)) : q = .nil ∨ ∃ m, q = .mk false m ∧ leL m k := by
  cases q with
  | nil => exact .inl rfl
  | mk a m =>
    cases a with
    | true => rw [leP] at h; cases h
    | false =>
      rw [leP] at h
      rcases h with h | h
      · cases h
      · exact .inr ⟨m, rfl, h⟩
mutual
theorem leP_of_join : ∀ (a b p : Pk) (n : Node), fitP a n → fitP b n → leP (joinP a b) p → leP a p ∧ leP b p
  | .nil, b, p, n, _, _, h => by rw [joinP] at h; exact ⟨leP_nil _, h⟩
  | .mk x k, .nil, p, n, _, _, h => by rw [joinP] at h; exact ⟨h, leP_nil _⟩
  | .mk x k, .mk y m, p, n, ha, hb, h => by
    rw [joinP] at h
    rw [fitP] at ha hb
    split at h
    · obtain ⟨c', rfl⟩ := leP_whole h
      exact ⟨leP_true _ _, leP_true _ _⟩
    · rename_i hxy
      obtain ⟨rfl, rfl⟩ : x = false ∧ y = false := by cases x <;> cases y <;> simp_all
      simp only [Bool.false_eq_true, false_and, true_and, false_or] at ha hb
      cases p with
      | nil => rw [leP] at h; exact h.elim
      | mk z c =>
        cases z with
        | true => exact ⟨leP_true _ _, leP_true _ _⟩
        | false =>
          rw [leP] at h
          rcases h with h | h
          · cases h
          · obtain ⟨h1, h2⟩ := leL_of_join k m c n.kids ha hb h
            constructor
            · rw [leP]; exact .inr h1
            · rw [leP]; exact .inr h2
theorem leL_of_join : ∀ (a b p : List Pk) (s : List Node), fitL a s → fitL b s → leL (joinL a b) p → leL a p ∧ leL b p
  | [], [], p, s, _, _, _ => ⟨leL_nill _, leL_nill _⟩
  | [], y :: b, p, [], _, hb, _ => by simp [fitL] at hb
  | [], y :: b, p, n :: s, ha, _, _ => by simp [fitL] at ha
  | x :: a, [], p, [], ha, _, _ => by simp [fitL] at ha
  | x :: a, [], p, n :: s, _, hb, _ => by simp [fitL] at hb
  | x :: a, y :: b, p, [], ha, _, _ => by simp [fitL] at ha
  | x :: a, y :: b, [], n :: s, _, _, _ => ⟨leL_nilr _, leL_nilr _⟩
  | x :: a, y :: b, q :: p, n :: s, ha, hb, h => by
    rw [fitL] at ha hb
    rw [joinL, leL] at h
    obtain ⟨h1, h2⟩ := leP_of_join x y q n ha.1 hb.1 h.1
    obtain ⟨h3, h4⟩ := leL_of_join a b p s ha.2 hb.2 h.2
    constructor
    · rw [leL]; exact ⟨h1, h3⟩
    · rw [leL]; exact ⟨h2, h4⟩
end
mutual
theorem resP_join : ∀ (p a b : Pk), leP a p → leP b p → resP p (joinP a b) = joinP (resP p a) (resP p b)
  | .nil, a, b, ha, hb => by
    rw [leP_none ha, leP_none hb]; rw [joinP, resP_nil, joinP]
  | .mk true c, a, b, _, _ => by rw [resP_true, resP_true, resP_true]
  | .mk false k, a, b, ha, hb => by
    rcases leP_false ha with rfl | ⟨m, rfl, h1⟩
    · rw [joinP, resP_nil, joinP]
    · rcases leP_false hb with rfl | ⟨m', rfl, h2⟩
      · rw [show joinP (.mk false m) .nil = .mk false m from by rw [joinP], resP_nil]
        rw [resP, joinP]
      · rw [joinP, if_neg (by simp), resP, resP, resP, joinP, if_neg (by simp), resL_join k m m' h1 h2]
theorem resL_join : ∀ (k a b : List Pk), leL a k → leL b k → resL k (joinL a b) = joinL (resL k a) (resL k b)
  | [], a, b, _, _ => by simp [resL, joinL]
  | p :: k, [], b, _, _ => by
    have : ∀ q : List Pk, joinL [] q = [] := fun q => by simp [joinL]
    cases p <;> simp [resL, this]
  | p :: k, x :: a, [], _, _ => by
    have : ∀ q : List Pk, joinL q [] = [] := fun q => by cases q <;> simp [joinL]
    cases p <;> simp [resL, this]
  | .nil :: k, x :: a, y :: b, ha, hb => by
    rw [leL] at ha hb
    rw [joinL, resL, resL, resL, resL_join k a b ha.2 hb.2]
  | .mk z j :: k, x :: a, y :: b, ha, hb => by
    rw [leL] at ha hb
    rw [joinL, resL, resL, resL, joinL, resP_join (.mk z j) x y ha.1 hb.1, resL_join k a b ha.2 hb.2]
end
end Go.Abs.SA
end
section
namespace Go.Abs.SA
open Go.Proofs
def cut1 : Pk → Node → Node
  | .mk false k, n => .mk n.name n.value (cutL k n.kids)
  | _, n => n
theorem cutN_1 (a : Bool) (k : List Pk) (n : Node) : cutN (.mk a k) n = [cut1 (.mk a k) n] := by
  cases a <;> rw [cutN] <;> rfl
theorem cut1_nv (p : Pk) (n : Node) : (cut1 p n).name = n.name ∧ (cut1 p n).value = n.value := by
  cases p with
  | nil => exact ⟨rfl, rfl⟩
  | mk a k => cases a <;> exact ⟨rfl, rfl⟩
theorem cutL_nil (r : List Pk) (n : Node) (s : List Node) : cutL (.nil :: r) (n :: s) = cutL r s := by rw [cutL, cutN]; rfl
theorem cutL_mk (a : Bool) (k : List Pk) (r : List Pk) (n : Node) (s : List Node) : cutL (.mk a k :: r) (n :: s) = cut1 (.mk a k) n :: cutL r s := by rw [cutL, cutN_1]; rfl
mutual
theorem cutP_self : ∀ (p : Pk) (n : Node), fitP p n → p ≠ .nil → cutN (resP p p) (cut1 p n) = [cut1 p n]
  | .nil, n, _, h => absurd rfl h
  | .mk true k, n, _, _ => by rw [resP_true, cutN_1]; rfl
  | .mk false k, n, h, _ => by
    rw [fitP] at h
    simp only [Bool.false_eq_true, false_and, true_and, false_or] at h
    have e := cutL_self k n.kids h
    rw [resP, cutN]
    have h1 : (cut1 (.mk false k) n).kids = cutL k n.kids := rfl
    rw [if_neg (by simp), h1, e]
    rfl
theorem cutL_self : ∀ (k : List Pk) (s : List Node), fitL k s → cutL (resL k k) (cutL k s) = cutL k s
  | [], s, _ => by simp [cutL]
  | p :: r, [], h => by simp [fitL] at h
  | .nil :: r, n :: s, h => by
    rw [fitL] at h
    rw [cutL_nil, resL, cutL_self r s h.2]
  | .mk a j :: r, n :: s, h => by
    rw [fitL] at h
    have h1 := cutP_self (.mk a j) n h.1 (by simp)
    rw [cutL_mk, resL, cutL, h1, cutL_self r s h.2]; rfl
end
theorem map_res (g : Node → Pk) : ∀ (k : List Pk) (s : List Node), fitL k s → leL (s.map g) k → (∀ n ∈ s, ∀ p, fitP p n → p ≠ .nil → leP (g n) p → g (cut1 p n) = resP p (g n)) → (cutL k s).map g = resL k (s.map g)
  | [], s, h, _, _ => by cases s <;> simp [cutL, resL]
  | p :: r, [], h, _, _ => by simp [fitL] at h
  | .nil :: r, n :: s, h, hl, hg => by
    rw [fitL] at h
    rw [List.map_cons, leL] at hl
    rw [cutL_nil, List.map_cons, resL, map_res g r s h.2 hl.2 (fun x hx => hg x (by simp [hx]))]
  | .mk a j :: r, n :: s, h, hl, hg => by
    rw [fitL] at h
    rw [List.map_cons, leL] at hl
    rw [cutL_mk, List.map_cons, List.map_cons, resL, map_res g r s h.2 hl.2 (fun x hx => hg x (by simp [hx])), hg n (by simp) _ h.1 (by simp) hl.1]
theorem resL_rep : ∀ (k : List Pk) (s : List Node), fitL k s → resL k (List.replicate s.length .nil) = List.replicate (cutL k s).length .nil
  | [], [], _ => by simp [cutL, resL]
  | [], n :: s, h => by simp [fitL] at h
  | p :: r, [], h => by simp [fitL] at h
  | .nil :: r, n :: s, h => by
    rw [fitL] at h
    rw [cutL_nil, List.length_cons, List.replicate_succ, resL, resL_rep r s h.2]
  | .mk a j :: r, n :: s, h => by
    rw [fitL] at h
    rw [cutL_mk, List.length_cons, List.length_cons, List.replicate_succ, List.replicate_succ, resL, resL_rep r s h.2, resP_nil]
theorem isNil_res {a : Bool} {j : List Pk} {q : Pk} : isNil (resP (.mk a j) q) = isNil q := by
  cases q with
  | nil => rw [resP_nil]
  | mk b m => cases a <;> rw [resP] <;> rfl
theorem all_res : ∀ (k J : List Pk), J.length = k.length → leL J k → (resL k J).all isNil = J.all isNil
  | [], [], _, _ => by simp [resL]
  | [], q :: J, h, _ => by simp at h
  | p :: k, [], h, _ => by simp at h
  | .nil :: k, q :: J, h, hl => by
    rw [leL] at hl
    rw [leP_none hl.1, resL, all_res k J (by simpa using h) hl.2]; rfl
  | .mk a j :: k, q :: J, h, hl => by
    rw [leL] at hl
    rw [resL, List.all_cons, List.all_cons, all_res k J (by simpa using h) hl.2, isNil_res]
theorem leL_keyed (ks : List Str) : ∀ (s : List Node) (J k : List Pk), leL (keyed ks s J) k → leL J k
  | [], J, k, h => by rw [keyed] at h <;> first | exact h | (intros; simp_all)
  | n :: s, [], k, h => leL_nill _
  | n :: s, q :: J, [], h => leL_nilr _
  | n :: s, q :: J, p :: k, h => by
    rw [keyed, leL] at h
    rw [leL]
    refine ⟨?_, leL_keyed ks s J k h.2⟩
    have h1 := h.1
    split at h1
    · obtain ⟨c, rfl⟩ := leP_whole h1
      exact leP_true _ _
    · exact h1
theorem keyed_res (ks : List Str) : ∀ (k : List Pk) (s : List Node) (J : List Pk), fitL k s → leL (keyed ks s J) k → keyed ks (cutL k s) (resL k J) = resL k (keyed ks s J)
  | [], [], J, _, _ => by
    have h1 : keyed ks [] J = J := by rw [keyed] <;> (intros; simp_all)
    have h2 : cutL [] [] = [] := by simp [cutL]
    have h3 : ∀ q, keyed ks [] q = q := fun q => by rw [keyed] <;> (intros; simp_all)
    rw [h1, h2, h3]
  | [], n :: s, J, h, _ => by simp [fitL] at h
  | p :: k, [], J, h, _ => by simp [fitL] at h
  | .nil :: k, n :: s, [], h, _ => by
    have h3 : ∀ x q, keyed ks (x :: q) [] = [] := fun x q => by rw [keyed] <;> (intros; simp_all)
    have h4 : ∀ q, keyed ks q [] = [] := fun q => by cases q <;> (rw [keyed] <;> (intros; simp_all))
    simp [h4, resL]
  | .mk a j :: k, n :: s, [], h, _ => by
    have h4 : ∀ q, keyed ks q [] = [] := fun q => by cases q <;> (rw [keyed] <;> (intros; simp_all))
    simp [h4, resL]
  | .nil :: k, n :: s, q :: J, h, hl => by
    rw [fitL] at h
    rw [keyed, leL] at hl
    rw [cutL_nil, keyed, resL, resL, keyed_res ks k s J h.2 hl.2]
  | .mk a j :: k, n :: s, q :: J, h, hl => by
    rw [fitL] at h
    rw [keyed, leL] at hl
    rw [cutL_mk, keyed, resL, resL, keyed, keyed_res ks k s J h.2 hl.2, (cut1_nv _ _).1]
    have h1 := hl.1
    split
    · rename_i hk
      rw [if_pos hk] at h1
      obtain ⟨c, hc⟩ := leP_whole h1
      rw [hc, resP_true]
    · rfl
end Go.Abs.SA
end
section
namespace Go.Abs.SA
open Go.Proofs
theorem leaf_cons (n : Node) (s : List Node) (e : Elem) : leafAt (n :: s) e = if (decide (n.name = e.name) && decide (n.value = e.text)) = true then some 0 else (leafAt s e).map (· + 1) := by
  unfold leafAt; rw [List.findIdx?_cons]
theorem leaf_cut (e : Elem) : ∀ (k : List Pk) (s : List Node), fitL k s → (leafAt s e = none → leafAt (cutL k s) e = none) ∧
    (∀ i, leafAt s e = some i → ∀ c, k[i]? = some (.mk true c) → ∃ j, leafAt (cutL k s) e = some j ∧ ∀ out : List Pk, out.length = s.length → resL k (out.set i wholeP) = (resL k out).set j wholeP)
  | [], [], _ => ⟨fun _ => by simp [cutL, leafAt], fun i h => by simp [leafAt] at h⟩
  | [], n :: s, h => by simp [fitL] at h
  | p :: r, [], h => by simp [fitL] at h
  | .nil :: r, n :: s, h => by
    rw [fitL] at h
    obtain ⟨h1, h2⟩ := leaf_cut e r s h.2
    rw [cutL_nil, leaf_cons]
    constructor
    · intro hn
      split at hn
      · cases hn
      · exact h1 (by simpa using hn)
    · intro i hi c hc
      split at hi
      · cases hi; simp at hc
      · obtain ⟨i', hi', rfl⟩ := Option.map_eq_some_iff.1 hi
        obtain ⟨j, hj, ho⟩ := h2 i' hi' c (by simpa using hc)
        refine ⟨j, hj, fun out hl => ?_⟩
        cases out with
        | nil => simp at hl
        | cons o out => rw [List.set_cons_succ, resL, resL, ho out (by simpa using hl)]
  | .mk a q :: r, n :: s, h => by
    rw [fitL] at h
    obtain ⟨h1, h2⟩ := leaf_cut e r s h.2
    rw [cutL_mk, leaf_cons, leaf_cons, (cut1_nv _ _).1, (cut1_nv _ _).2]
    constructor
    · intro hn
      split at hn
      · cases hn
      · rename_i hp
        rw [if_neg hp, h1 (by simpa using hn)]; rfl
    · intro i hi c hc
      split at hi
      · rename_i hp
        cases hi
        rw [if_pos hp]
        refine ⟨0, rfl, fun out hl => ?_⟩
        cases out with
        | nil => simp at hl
        | cons o out =>
          simp only [List.getElem?_cons_zero, Option.some.injEq] at hc
          rw [hc, List.set_cons_zero, resL, resL, List.set_cons_zero, resP_true]
      · rename_i hp
        obtain ⟨i', hi', rfl⟩ := Option.map_eq_some_iff.1 hi
        obtain ⟨j, hj, ho⟩ := h2 i' hi' c (by simpa using hc)
        rw [if_neg hp, hj]
        refine ⟨j + 1, rfl, fun out hl => ?_⟩
        cases out with
        | nil => simp at hl
        | cons o out => rw [List.set_cons_succ, resL, resL, List.set_cons_succ, ho out (by simpa using hl)]
theorem scan_none_cut (kd : List Def) {k : List Pk} {s : List Node} (hf : fitL k s) : ∀ (es : List Elem) (out out' : List Pk) (m m' : Bool) (rest rest' : List Elem), scan kd s es out m rest = none → scan kd (cutL k s) es out' m' rest' = none
  | [], out, out', m, m', rest, rest', h => by rw [scan] at h; cases h
  | e :: r, out, out', m, m', rest, rest', h => by
    rw [scan] at h ⊢
    split
    · rename_i ht
      rw [if_pos ht] at h
      have hl := leaf_cut e k s hf
      cases hs : leafAt s e with
      | none => rw [hl.1 hs]
      | some i =>
        rw [hs] at h
        cases leafAt (cutL k s) e with
        | none => rfl
        | some j => exact scan_none_cut kd hf r _ _ _ _ _ _ h
    · rename_i ht
      rw [if_neg ht] at h
      exact scan_none_cut kd hf r _ _ _ _ _ _ h
theorem scan_keep (kd : List Def) (s : List Node) : ∀ (es : List Elem) (out : List Pk) (m : Bool) (rest : List Elem) (o' : List Pk) (m' : Bool) (r' : List Elem), scan kd s es out m rest = some (o', m', r') → o'.length = out.length ∧ ∀ i : Nat, out[i]? = some wholeP → o'[i]? = some wholeP
  | [], out, m, rest, o', m', r', h => by rw [scan] at h; cases h; exact ⟨rfl, fun _ h => h⟩
  | e :: r, out, m, rest, o', m', r', h => by
    rw [scan] at h
    split at h
    · cases hs : leafAt s e with
      | none => rw [hs] at h; cases h
      | some i =>
        rw [hs] at h
        obtain ⟨h1, h2⟩ := scan_keep kd s r _ _ _ _ _ _ h
        refine ⟨by rw [h1, List.length_set], fun j hj => h2 j ?_⟩
        rw [List.getElem?_set]
        split
        · rename_i he
          subst he
          have : i < out.length := (List.getElem?_eq_some_iff.1 hj).1
          rw [if_pos this]
        · exact hj
    · exact scan_keep kd s r _ _ _ _ _ _ h
theorem leaf_lt {s : List Node} {e : Elem} {i : Nat} (h : leafAt s e = some i) : i < s.length := by
  unfold leafAt at h
  rw [List.findIdx?_eq_some_iff_findIdx_eq] at h
  exact h.1
theorem scan_cut (kd : List Def) {k : List Pk} {s : List Node} (hf : fitL k s) : ∀ (es : List Elem) (out : List Pk) (m : Bool) (rest : List Elem) (o' : List Pk) (m' : Bool) (r' : List Elem), out.length = s.length → scan kd s es out m rest = some (o', m', r') → leL o' k → scan kd (cutL k s) es (resL k out) m rest = some (resL k o', m', r')
  | [], out, m, rest, o', m', r', hl, h, hk => by rw [scan] at h ⊢; cases h; rfl
  | e :: r, out, m, rest, o', m', r', hl, h, hk => by
    rw [scan] at h ⊢
    split
    · rename_i ht
      rw [if_pos ht] at h
      cases hs : leafAt s e with
      | none => rw [hs] at h; cases h
      | some i =>
        rw [hs] at h
        simp only at h
        obtain ⟨h1, h2⟩ := scan_keep kd s r _ _ _ _ _ _ h
        have hi := leaf_lt hs
        have hkl := fitL_len hf
        have hw := h2 i (by rw [List.getElem?_set_self (by omega)])
        obtain ⟨hlo, hwo⟩ := List.getElem?_eq_some_iff.1 hw
        have hle := leL_get hk hlo (by omega : i < k.length)
        rw [hwo] at hle
        obtain ⟨c, hc⟩ := leP_whole hle
        obtain ⟨j, hj, ho⟩ := (leaf_cut e k s hf).2 i hs c (by rw [List.getElem?_eq_getElem (by omega), hc])
        rw [hj]
        simp only
        rw [← ho out hl]
        exact scan_cut kd hf r _ _ _ _ _ _ (by rw [List.length_set]; exact hl) h hk
    · rename_i ht
      rw [if_neg ht] at h
      exact scan_cut kd hf r _ _ _ _ _ _ hl h hk
theorem leL_allNil : ∀ (J k : List Pk), J.all isNil = true → leL J k
  | [], k, _ => leL_nill _
  | q :: J, [], _ => leL_nilr _
  | .nil :: J, p :: k, h => by rw [leL]; exact ⟨leP_nil _, leL_allNil J k (by simpa [isNil] using h)⟩
  | .mk a c :: J, p :: k, h => by simp [isNil] at h
theorem fits_res (d : Def) (fe : Elem) (n : Node) (k : List Pk) (hf : fitL k n.kids)
    (IH : ∀ x ∈ n.kids, ∀ (rest : List Elem) (p : Pk), fitP p x → p ≠ .nil → leP (pickN d.kids x rest) p → pickN d.kids (cut1 p x) rest = resP p (pickN d.kids x rest))
    (h : leP (fitsD d n fe) (.mk false k)) : fitsD d (cut1 (.mk false k) n) fe = resP (.mk false k) (fitsD d n fe) := by
  have hkids : (cut1 (.mk false k) n).kids = cutL k n.kids := rfl
  have hval := (cut1_nv (.mk false k) n).2
  have nowhole : ¬ leP wholeP (.mk false k) := fun hh => by obtain ⟨c, hc⟩ := leP_whole hh; cases hc
  rw [fitsD_s] at h ⊢
  rw [fitsD_s d n fe]
  rw [hkids, hval]
  split
  · rename_i h3
    rw [if_pos h3] at h
    split
    · rw [resP_nil]
    · rename_i h4
      rw [if_neg h4] at h
      exact absurd h nowhole
  · rename_i h3
    rw [if_neg h3] at h
    split
    · rw [resP_nil]
    · rename_i h4
      rw [if_neg h4] at h
      split
      · rename_i h5
        rw [if_pos h5] at h
        exact absurd h nowhole
      · rename_i h5
        rw [if_neg h5] at h
        cases hs : scan d.kids n.kids fe.kids (List.replicate n.kids.length .nil) false [] with
        | none =>
          rw [scan_none_cut d.kids hf fe.kids _ _ _ _ _ _ hs, resP_nil]
        | some q =>
          obtain ⟨out, m, rest⟩ := q
          rw [hs] at h
          simp only at h ⊢
          have hrep : fitL (List.replicate n.kids.length Pk.nil) n.kids := by
            rw [fitL_iff]
            refine ⟨by simp, fun i h1 h2 => ?_⟩
            rw [List.getElem_replicate]; exact fit_nil _
          have hfo := scan_fit d.kids n.kids fe.kids _ _ _ _ _ _ hrep hs
          have hfp : fitL (n.kids.map fun x => pickN d.kids x rest) n.kids := mapPick_fit fun x _ => pick_fit d.kids x rest
          by_cases hw : m = true ∧ rest = []
          · rw [if_pos hw] at h
            exact absurd h nowhole
          · rw [if_neg hw] at h
            have hJ : leL (joinL out (n.kids.map fun x => pickN d.kids x rest)) k := by
              by_cases ha : (joinL out (n.kids.map fun x => pickN d.kids x rest)).all isNil = true
              · exact leL_allNil _ _ ha
              · rw [if_neg ha] at h
                rcases leP_false h with hh | ⟨m', he, hh⟩
                · cases hh
                · cases he
                  exact leL_keyed d.keys _ _ _ hh
            obtain ⟨ho, hp⟩ := leL_of_join out _ k n.kids hfo hfp hJ
            have hsc := scan_cut d.kids hf fe.kids _ _ _ _ _ _ (by simp) hs ho
            rw [resL_rep k n.kids hf] at hsc
            rw [hsc]
            simp only
            rw [if_neg hw, if_neg hw]
            rw [map_res (fun x => pickN d.kids x rest) k n.kids hf hp (fun x hx p h1 h2 h3 => IH x hx rest p h1 h2 h3)]
            rw [← resL_join k out _ ho hp]
            have hlen : (joinL out (n.kids.map fun x => pickN d.kids x rest)).length = k.length := by
              rw [joinL_len, fitL_len hfo, fitL_len hf, List.length_map]; omega
            rw [all_res k _ hlen hJ]
            by_cases ha : (joinL out (n.kids.map fun x => pickN d.kids x rest)).all isNil = true
            · rw [if_pos ha, if_pos ha, resP_nil]
            · rw [if_neg ha] at h
              rw [if_neg ha, if_neg ha]
              rcases leP_false h with hh | ⟨m', he, hh⟩
              · cases hh
              · cases he
                rw [keyed_res d.keys k n.kids _ hf hh, resP]
theorem cnt_le : ∀ {l : List Node} {x : Node}, x ∈ l → cntN x ≤ cntL l
  | y :: r, x, h => by
    rcases List.mem_cons.1 h with rfl | h
    · simp [cntL]
    · have := cnt_le h; simp only [cntL]; omega
theorem pick_res : ∀ (f : Nat) (n : Node) (l : List Def) (fs : List Elem) (p : Pk), cntN n < f → fitP p n → p ≠ .nil → leP (pickN l n fs) p → pickN l (cut1 p n) fs = resP p (pickN l n fs) := by
  intro f
  induction f with
  | zero => intro n l fs p h; omega
  | succ f ih =>
    intro n l fs p hc hf hp hle
    cases p with
    | nil => exact absurd rfl hp
    | mk a k =>
      cases a with
      | true => rw [resP_true]; rfl
      | false =>
        rw [fitP] at hf
        simp only [Bool.false_eq_true, false_and, true_and, false_or] at hf
        have hnm := (cut1_nv (.mk false k) n).1
        cases hpl : place l n.name with
        | none =>
          rw [pickN_s l n, pickN_s, hnm, hpl, resP_nil]
        | some q =>
          by_cases hq : q < l.length
          · have hpl' : place l (cut1 (.mk false k) n).name = some q := by rw [hnm]; exact hpl
            rw [pickN_t l n fs hpl hq] at hle ⊢
            rw [pickN_t l _ fs hpl' hq]
            have key : ∀ (fs : List Elem), leP (fs.foldl (stepP l[q] n) .nil) (.mk false k) → fs.foldl (stepP l[q] (cut1 (.mk false k) n)) .nil = resP (.mk false k) (fs.foldl (stepP l[q] n) .nil) := by
              intro fs
              induction fs with
              | nil => intro _; rw [List.foldl_nil, List.foldl_nil, resP_nil]
              | cons e r ihr =>
                intro h
                rw [List.foldl_cons, fold_join] at h
                rw [List.foldl_cons, List.foldl_cons, fold_join, fold_join l[q] n r]
                have hfe : fitP (stepP l[q] n .nil e) n := by
                  unfold stepP; split
                  · rw [joinP]; exact fits_fit _ _ _
                  · exact fit_nil _
                obtain ⟨h1, h2⟩ := leP_of_join _ _ _ n hfe (fold_fit _ _ r _ (fit_nil _)) h
                rw [ihr h2, resP_join _ _ _ h1 h2]
                congr 1
                unfold stepP at h1 ⊢
                rw [hnm]
                split
                · rename_i hne
                  rw [if_pos hne, joinP] at h1
                  rw [joinP, joinP]
                  refine fits_res l[q] e n k hf (fun x hx rest p hfx hpx hlx => ih x l[q].kids rest p ?_ hfx hpx hlx) h1
                  have := cnt_le hx
                  have := cntN_s n
                  omega
                · rw [resP_nil]
            exact key fs hle
          · rw [pickN_s l n, pickN_s, hnm, hpl]
            simp only [List.getElem?_eq_none (by omega : l.length ≤ q)]
            rw [resP_nil]
theorem sieve_idem (l : List Def) (fs : List Elem) : ∀ (n : List Node), sieveF l (sieveF l n fs) fs = sieveF l n fs := by
  intro n
  unfold sieveF
  induction n with
  | nil => simp [cutL]
  | cons x s ih =>
    rw [List.map_cons]
    obtain ⟨p, hp⟩ : ∃ p, pickN l x fs = p := ⟨_, rfl⟩
    rw [hp]
    cases p with
    | nil => rw [cutL_nil]; exact ih
    | mk a k =>
      have hf := pick_fit l x fs
      rw [hp] at hf
      have hr := pick_res (cntN x + 1) x l fs (.mk a k) (by omega) hf (by simp) (by rw [hp]; exact leP_refl _)
      rw [hp] at hr
      rw [cutL_mk, List.map_cons, cutL, hr, cutP_self _ _ hf (by simp), ih]
      rfl
end Go.Abs.SA
end
section
namespace Go.Abs.SA
open Go.Proofs
end Go.Abs.SA
end
section
namespace Go.Abs.SA
open Go.Proofs
theorem stEl2_mapN {α : Type} {l : List α} {enc : α → List AV} {e id j n : Nat} {t' : List AV} {h' : List Blk} {new : List AV} [h3 : EL enc n] (hj : j < l.length) (hn : new.length = n) :
    stEl2 n id j 0 t' h' (some (.arr e n (l.map enc))) (some new) = some ⟨t', h'.set id (.arr e n ((l.map enc).set j (new.map normC)))⟩ := by
  simp only [stEl2]
  rw [List.getElem?_map, List.getElem?_eq_getElem hj]
  simp only [Option.map_some]
  have h1 : (enc l[j]).length = n := h3.len _
  rw [if_pos ⟨hn, by omega⟩]
  have h2 : (enc l[j]).drop n = [] := List.drop_eq_nil_of_le (by omega)
  simp [splice, hn, h2]
attribute [go_sem] stEl2_mapN
end Go.Abs.SA
end
section
namespace Go.Abs.SA
open Go.Proofs
end Go.Abs.SA
end
section
namespace Go.Abs.SA
open Go.Proofs
theorem tree16_spec (l : List Elem) (hok : okEs l) (hl : l.length ≤ 140737488355328) : pureW XX 29 [lE l] = some (aTree l) := by
  refine pureW_in 18 Tryz.func29 Tryz.ntmps29 (by simp) (rfl : Tryz.f29.body = some _) fns_29 ?_
  have hs := small_spec (cntEs l + 1) l 300 (by omega) hok hl (by omega) (by omega)
  unfold aTree tree
  by_cases h : smallL 300 l < 0
  · simp (maxSteps := 200000) (disch := first | omega | (simp only [go_sem] <;> omega) | fail) only [go_sem, callA_pure mode_20, hs, h]
    rfl
  · have hc := smallL_cnt l 300 (by omega)
    have hr := read_spec 400 schema l (by omega) (by omega) hok (by decide) okDs_schema
    cases hrd : rdL schema [] [] l with
    | error x =>
      rw [hrd] at hr
      have hx := rdL_err _ _ _ _ _ hrd
      simp only [aRead] at hr
      simp (maxSteps := 200000) (disch := first | omega | (simp only [go_sem] <;> omega) | fail) only [go_sem, callA_pure mode_20, hs, h, callA_data mode_30, schema_spec, callA_data mode_52, hr, hx]
      rfl
    | ok n =>
      rw [hrd] at hr
      simp only [aRead] at hr
      simp (maxSteps := 200000) (disch := first | omega | (simp only [go_sem] <;> omega) | fail) only [go_sem, callA_pure mode_20, hs, h, callA_data mode_30, schema_spec, callA_data mode_52, hr]
      rfl
def eT (n t : Str) : Elem := .mk ⟨#[]⟩ n [] t []
def eK (n : Str) (k : List Elem) : Elem := .mk ⟨#[]⟩ n [] ⟨#[]⟩ k
def sPair : Str := ⟨#[112, 97, 105, 114]⟩
def fitTree : List Elem := [eK sPair [eT ⟨#[120]⟩ ⟨#[49]⟩, eT ⟨#[121]⟩ ⟨#[97]⟩, eT ⟨#[118]⟩ ⟨#[119]⟩], eK sPair [eT ⟨#[120]⟩ ⟨#[50]⟩, eT ⟨#[121]⟩ ⟨#[97]⟩]]
def fitFilter : List Elem := [eK sPair [eT ⟨#[120]⟩ ⟨#[49]⟩, eT ⟨#[118]⟩ ⟨#[]⟩]]
def fitTest : Bool := match tree fitTree with
  | some [a, b] => (match sieveF schema [a, b] fitFilter with
    | [c] => c.kids.length == 3
    | _ => false)
  | _ => false
theorem fitTest_true : fitTest = true := by kernel_rfl
theorem idxK2_lit (h : List Blk) (c : List AV) (fl : Bool) (k : IntKind) (d : TD) (n b : Nat) (z : Option Value) (h1 : c.length = n) (h2 : 0 < n) : idxK2 h (.fs [c] fl) (.v (.int k 0)) (some ⟨d, n, b, z⟩) = some (.fp c) := by
  simp [idxK2, h1, h2]
theorem fit16_spec : pureW XX 28 [] = some (vB true) := by
  have ht := tree16_spec fitTree (by simp [fitTree, okEs, okE, eK, eT, sPair, ByteArray.size]) (by simp [fitTree])
  have h1 : ∃ a b, tree fitTree = some [a, b] ∧ ∃ c, sieveF schema [a, b] fitFilter = [c] ∧ c.kids.length = 3 := by
    have h := fitTest_true
    unfold fitTest at h
    split at h
    · rename_i a b e
      split at h
      · rename_i c e2
        exact ⟨a, b, e, c, e2, by simpa using h⟩
      · cases h
    · cases h
  obtain ⟨a, b, h1, c, h2, h3⟩ := h1
  simp only [aTree, h1, Option.isSome, Option.getD_some] at ht
  obtain ⟨-, -, hn⟩ := tree_some h1
  have hf := filter_spec schema [a, b] fitFilter okDs_schema (by decide) (by omega) (by decide)
  rw [h2] at hf
  have e1 : lE fitTree = .fs (eElems fitTree) false := by rw [eElems_map]
  have e2 : lE fitFilter = .fs (eElems fitFilter) false := by rw [eElems_map]
  rw [e1] at ht
  rw [e2] at hf
  simp only [fitTree, fitFilter, eElems, eElem, eK, eT, sPair, List.map_nil, lN, List.map_cons, eNode_s c] at ht hf
  have n22 : (((2 : Nat) : Int) = 2) = True := eq_true rfl
  have n11 : (((1 : Nat) : Int) = 1) = True := eq_true rfl
  have n33 : (((3 : Nat) : Int) = 3) = True := eq_true rfl
  refine pureW_in 42 Tryz.func28 Tryz.ntmps28 (by simp) (rfl : Tryz.f28.body = some _) fns_28 ?_
  simp (maxSteps := 200000) (disch := first | omega | (simp only [go_sem] <;> omega) | fail) only [go_sem, callA_data mode_29, ht, callA_data mode_30, schema_spec, callA_data mode_32, hf, h3, n22, n11, n33, idxK2_lit]
end Go.Abs.SA
end
section
namespace Go.Abs.SA
open Go.Proofs
theorem cutL_cnt : ∀ (f : Nat) (k : List Pk) (s : List Node), cntL s < f → cntL (cutL k s) ≤ cntL s := by
  intro f
  induction f with
  | zero => intro k s h; omega
  | succ f ih =>
    intro k s
    induction s generalizing k with
    | nil => intro _; cases k <;> simp [cutL, cntL]
    | cons x r ih2 =>
      intro hh
      cases k with
      | nil => simp [cutL, cntL]
      | cons p k =>
        rw [cutL, cntL_app, cntL_cons]
        rw [cntL_cons, cntN_s] at hh
        have h1 := ih2 k (by omega)
        have h2 : cntL (cutN p x) ≤ cntN x := by
          cases p with
          | nil => rw [cutN]; simp [cntL]
          | mk a c =>
            rw [cutN]
            cases a with
            | true => simp [cntL]
            | false =>
              have := ih c x.kids (by omega)
              rw [cntN_s x]
              simp only [Bool.false_eq_true, if_false, cntL, cntN]
              omega
        omega
theorem sieve_cnt (l : List Def) (n : List Node) (fs : List Elem) : cntL (sieveF l n fs) ≤ cntL n := cutL_cnt (cntL n + 1) _ _ (by omega)
end Go.Abs.SA
end
section
namespace Go.Abs.SA
open Go.Proofs
mutual
def elemN (sp : Str) : Node → Elem
  | .mk n v k => .mk sp n [] v (elemL sp k)
def elemL (sp : Str) : List Node → List Elem
  | [] => []
  | x :: r => elemN sp x :: elemL sp r
end
theorem elemL_map (sp : Str) : ∀ (l : List Node), elemL sp l = l.map (elemN sp)
  | [] => by rw [elemL]; rfl
  | x :: r => by rw [elemL, elemL_map sp r]; rfl
theorem elemN_s (sp : Str) (n : Node) : elemN sp n = .mk sp n.name [] n.value (n.kids.map (elemN sp)) := by cases n; rw [elemN, elemL_map]; rfl
theorem snoc_E0 (l : List Elem) (s n t : Str) (k : List Elem) : l.map eElem ++ [[vS s, vS n, .fs [] false, vS t, .fs (k.map eElem) false]] = (l ++ [Elem.mk s n [] t k]).map eElem := by
  simp [eElem_s, Elem.space, Elem.name, Elem.attrs, Elem.text, Elem.kids]
theorem elems_spec (sp : Str) : ∀ (n : Nat) (l : List Node), cntL l < n → n ≤ 1000000 → pureW XX 81 [lN l, vS sp] = some (lE (l.map (elemN sp))) := by
  intro n
  induction n with
  | zero => intro l h; omega
  | succ n ih =>
    intro l hc hn
    have hl := len_cnt l
    refine pureW_in 29 Tryz.func81 Tryz.ntmps81 (by simp) (rfl : Tryz.f81.body = some _) fns_81 ?_
    simp (maxSteps := 200000) (disch := first | omega | (simp only [go_sem] <;> omega) | fail) only [go_sem]
    refine WP_range 3 1 l.length (fun i => S_81_3 (vS sp) (.sl 0 0 i false) (lN l) (vI l.length) (vI i) [.arr 36 5 (((l.take i).map (elemN sp)).map eElem)]) (fun _ => True) rfl rfl ?_ ?_ ?_ ?_
    · simp (maxSteps := 200000) (disch := first | omega | (simp only [go_sem] <;> omega) | fail) only [go_sem]; rfl
    · trivial
    · intro i h _
      have hk := ih l[i].kids (by have := cnt_kids h; omega) (by omega)
      have ht : (l.take (i + 1)).map (elemN sp) = (l.take i).map (elemN sp) ++ [Elem.mk sp l[i].name [] l[i].value (l[i].kids.map (elemN sp))] := by
        rw [List.take_succ_eq_append_getElem h, List.map_append, List.map_cons, List.map_nil, elemN_s]
      rw [ht]
      have hbl : ((l.take i).map (elemN sp)).length = i := by simp; omega
      generalize (l.take i).map (elemN sp) = base at *
      simp (maxSteps := 200000) (disch := first | omega | (simp only [go_sem] <;> omega) | fail) only [go_sem, nat_int, h, eNode_s, callA_data mode_81, hk, snoc_E0, wrap_succ h (show l.length ≤ 140737488355328 by omega)]
    · intro _
      simp (maxSteps := 200000) (disch := first | omega | (simp only [go_sem] <;> omega) | fail) only [go_sem, nat_int, List.take_length]
end Go.Abs.SA
end
