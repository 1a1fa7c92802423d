/- YtmjhgjgfinhiaaaDoorA10: a part of the interpreter by which the claim is shown, and of the walks: no conditions of its own: every theorem states its own. -/
import Derived.Test.YtmjhgjgfinhiaaaDoorA9
section
set_option linter.unusedVariables false
set_option linter.unusedSimpArgs false
set_option linter.unusedSectionVars false
set_option maxRecDepth 100000
set_option maxHeartbeats 4000000
set_option linter.unusedSimpArgs false
set_option linter.unusedVariables false
namespace Go.Abs.SA
open Go.Proofs

/-! A tree said as changes. -/
abbrev inn (o : Int) : Int := if o ≠ 0 then 1 else o
mutual
def cNn (o : Int) : Node → Chg
  | .mk n v k => .mk n v o (cNl (inn o) k)
def cNl (o : Int) : List Node → List Chg
  | [] => []
  | x :: r => cNn o x :: cNl o r
end
theorem cNl_map (o : Int) : ∀ l : List Node, cNl o l = l.map (cNn o)
  | [] => rfl
  | x :: r => by rw [cNl, cNl_map o r]; rfl
theorem cNn_name (o : Int) (x : Node) : (cNn o x).name = x.name := by cases x; rw [cNn]; rfl
theorem cNn_value (o : Int) (x : Node) : (cNn o x).value = x.value := by cases x; rw [cNn]; rfl
theorem cNn_op (o : Int) (x : Node) : (cNn o x).op = o := by cases x; rw [cNn]; rfl
theorem cNn_kids (o : Int) (x : Node) : (cNn o x).kids = cNl (inn o) x.kids := by cases x; rw [cNn]; rfl
theorem cNn_s (o : Int) (x : Node) : cNn o x = .mk x.name x.value o (cNl (inn o) x.kids) := by cases x; rw [cNn]; rfl
theorem dst_nodup {l : List Def} {ns : List Node} (h : dst l ns) : ns.Nodup := List.Pairwise.imp (fun {a b} hab e => hab (by rw [e])) h
theorem filter_one {α : Type} {p : α → Bool} {x : α} : ∀ {l : List α}, l.Nodup → x ∈ l → p x = true → (∀ y ∈ l, p y = true → y = x) → l.filter p = [x]
  | y :: r, hn, hx, hp, hu => by
    rw [List.nodup_cons] at hn
    have hr : x ∉ r → r.filter p = [] := fun hxr => by
      rw [List.filter_eq_nil_iff]
      intro z hz hpz
      exact hxr ((hu z (List.mem_cons_of_mem _ hz) hpz) ▸ hz)
    rcases List.mem_cons.1 hx with e | hx'
    · subst e
      rw [List.filter_cons, if_pos hp, hr hn.1]
    · have : ¬ p y = true := fun hpy => hn.1 ((hu y (by simp) hpy) ▸ hx')
      rw [List.filter_cons, if_neg this]
      exact filter_one hn.2 hx' hp fun z hz => hu z (List.mem_cons_of_mem _ hz)
/-- A key stands there once. -/
theorem key_once {d : Def} (hk : kfD d) (hw : wfDs d.kids) {ns : List Node} (hd : dst d.kids ns) {s : Str} (hs : s ∈ d.keys) (hv : (leafV ns s).isSome = true) : ∃ x ∈ ns, x.name = s ∧ leafV ns s = some x.value ∧ (ns.filter fun y => decide (y.name = s)) = [x] := by
  obtain ⟨_, _, k3, _, k5⟩ := kfD_s.1 hk
  obtain ⟨e, e1, e2, e3⟩ := k3 s hs
  subst e2
  obtain ⟨v, hv⟩ := Option.isSome_iff_exists.1 hv
  obtain ⟨x, x1, x2, x3⟩ := (leafV_iff hw k5 e1 e3 hd v).1 hv
  refine ⟨x, x1, x2, by rw [hv, x3], filter_one (dst_nodup hd) x1 (by simpa using x2) fun y hy hp => ?_⟩
  simp only [decide_eq_true_eq] at hp
  exact dst_eq hd hy x1 (by rw [leaf_id hw k5 e1 e3 hp, leaf_id hw k5 e1 e3 x2])
theorem keyOf_all {d : Def} {x : Node} (h : (keyOf d x).isSome = true) : ∀ s ∈ d.keys, (leafV x.kids s).isSome = true := by
  unfold keyOf at h
  split at h
  · rename_i hh; rw [List.all_eq_true] at hh; exact hh
  · cases h
theorem filter_cNl (o : Int) (s : Str) : ∀ l : List Node, ((cNl o l).filter fun x => decide (x.name = s)) = cNl o (l.filter fun x => decide (x.name = s))
  | [] => rfl
  | x :: r => by
    rw [cNl, List.filter_cons, List.filter_cons, cNn_name, filter_cNl o s r]
    split
    · rw [cNl]
    · rfl
theorem keysOk_cN {d : Def} (hk : kfD d) (hw : wfDs d.kids) {x : Node} (hd : dst d.kids x.kids) (h : (keyOf d x).isSome = true) {o : Int} (ho : o < 4) : keysOk d (cNl o x.kids) = true := by
  unfold keysOk
  rw [List.all_eq_true]
  intro s hs
  obtain ⟨y, y1, y2, y3, y4⟩ := key_once hk hw hd hs (keyOf_all h s hs)
  unfold keyOk
  rw [filter_cNl, y4]
  simp only [Bool.and_eq_true, decide_eq_true_eq, List.all_eq_true, cNl, List.length_cons, List.length_nil, Nat.zero_add, and_true]
  intro z hz
  rw [cNl_map] at hz
  obtain ⟨q, _, rfl⟩ := List.mem_map.1 hz
  rw [cNn_op]
  simp [ho]
theorem inn_lt (o : Int) : inn o < 4 := by unfold inn; split <;> omega
mutual
theorem chE_cN {l : List Def} (hw : wfDs l) (hk : kfDs l) (sp : Str) (o : Int) : ∀ (x : Node), gdN l x → chE l o (elemN sp x) = .ok (cNn o x)
  | .mk n v k, hg => by
    obtain ⟨d, d1, d2, d3, d4⟩ := gdN_s.1 hg
    obtain ⟨i, p1, p2⟩ := place_of hw d1
    have hn : n = d.name := d2
    rw [elemN, chE, hn, p1]
    simp only [p2, atOp]
    by_cases h3 : d.kind = 3
    · obtain ⟨q1, q2⟩ := d3 h3
      have q1' : k = [] := q1
      have q2' : valueM d v = true := q2
      subst q1'
      rw [if_pos h3, if_neg (by rw [q2']; simp [elemL]), cNn, cNl]
    · obtain ⟨q1, q2, q3, q4, q5, q6, q7⟩ := d4 h3
      have q1' : v = ⟨#[]⟩ := q1
      rw [if_neg h3, if_neg (by rw [q1']; simp)]
      rw [chL_cN (wf_kids hw d1) (kfD_s.1 (kfDs_iff.1 hk d d1)).2.2.2.2 sp (inn o) k q2]
      simp only
      have := keysOk_cN (kfDs_iff.1 hk d d1) (wf_kids hw d1) q3 q7 (inn_lt o)
      rw [if_neg (by rw [show cNl (inn o) k = cNl (inn o) (Node.mk n v k).kids from rfl, this]; simp), cNn, q1']
theorem chL_cN {l : List Def} (hw : wfDs l) (hk : kfDs l) (sp : Str) (o : Int) : ∀ (ns : List Node), gdL l ns → chL l o (elemL sp ns) = .ok (cNl o ns)
  | [], _ => by rw [elemL, chL_nil]; rfl
  | x :: r, h => by
    rw [gdL] at h
    rw [elemL, chL_cons, chE_cN hw hk sp o x h.1]
    simp only
    rw [chL_cN hw hk sp o r h.2]
    rfl
end
theorem gc_cN {l : List Def} (hw : wfDs l) (hk : kfDs l) (o : Int) {ns : List Node} (h : gdL l ns) : gcL l (cNl o ns) := chL_gc l o _ _ (chL_cN hw hk ⟨#[]⟩ o ns h)
/-- The keys of a node said as a change are its own. -/
theorem fresh_cN {d : Def} (hk : kfD d) (hw : wfDs d.kids) {o : Int} {x : Node} (hg : gdL d.kids x.kids) (hd : dst d.kids x.kids) (h : (keyOf d x).isSome = true) : ∀ y, y ∈ (freshD d (cNn o x)).kids ↔ y ∈ x.kids ∧ has d.keys y.name = true := by
  obtain ⟨k1, k2, k3, k4, k5⟩ := kfD_s.1 hk
  have hlen : ∀ s ∈ d.keys, ((cNn o x).kids.filter fun y => decide (y.name = s)).length = 1 := by
    intro s hs
    obtain ⟨y, y1, y2, y3, y4⟩ := key_once hk hw hd hs (keyOf_all h s hs)
    rw [cNn_kids, filter_cNl, y4]; rfl
  have hval : ∀ s ∈ d.keys, ∃ y ∈ x.kids, y.name = s ∧ keyV (cNn o x) s = y.value ∧ y = .mk s y.value [] := by
    intro s hs
    obtain ⟨y, y1, y2, y3, y4⟩ := key_once hk hw hd hs (keyOf_all h s hs)
    refine ⟨y, y1, y2, ?_, ?_⟩
    · unfold keyV
      rw [cNn_kids, filter_cNl, y4]
      simp [cNl, cNn_value]
    · obtain ⟨e, e1, e2, e3⟩ := k3 s hs
      obtain ⟨e', f1, f2, f3, _⟩ := gdN_s.1 (gdL_iff.1 hg y y1)
      have : e' = e := wfDs_inj hw f1 e1 (f2.symm.trans (y2.trans e2.symm))
      subst this
      have hkk := (f3 e3).1
      rw [← y2, ← hkk, node_mk]
  intro y
  rw [fresh_kids hlen, List.mem_map]
  constructor
  · rintro ⟨s, hs, rfl⟩
    obtain ⟨z, z1, z2, z3, z4⟩ := hval s hs
    rw [z3, ← z4]
    exact ⟨z1, by rw [z2]; exact has_iff.2 hs⟩
  · rintro ⟨hy, hh⟩
    have hs := has_iff.1 hh
    obtain ⟨z, z1, z2, z3, z4⟩ := hval y.name hs
    refine ⟨y.name, hs, ?_⟩
    rw [z3, ← z4]
    obtain ⟨e, e1, e2, e3⟩ := k3 y.name hs
    exact dst_eq hd z1 hy (by rw [leaf_id hw k5 e1 e3 (z2.trans e2.symm), leaf_id hw k5 e1 e3 e2.symm])
theorem fresh_all {l : List Def} (hw : wfDs l) (hk : kfDs l) {d : Def} (hd : d ∈ l) {o : Int} {x : Node} (hg : gdN l x) (hx : x.name = d.name) (h3 : d.kind ≠ 3) :
    Un d.kids (freshD d (cNn o x)).kids ∧ (∀ y, y ∈ (freshD d (cNn o x)).kids ↔ y ∈ x.kids ∧ has d.keys y.name = true) ∧ idN l (freshD d (cNn o x)) = idN l x := by
  have hkd := kfDs_iff.1 hk d hd
  have hwk := wf_kids hw hd
  obtain ⟨d', d1, d2, d3, d4⟩ := gdN_s.1 hg
  have : d' = d := wfDs_inj hw d1 hd (d2.symm.trans hx)
  subst this
  obtain ⟨q1, q2, q3, q4, q5, q6, q7⟩ := d4 h3
  have hgc : gcL d'.kids (cNn o x).kids := by rw [cNn_kids]; exact gc_cN hwk (kfD_s.1 hkd).2.2.2.2 _ q2
  obtain ⟨f1, f2⟩ := fresh_un hwk hkd hgc (fun _ => by rw [cNn_kids]; exact keysOk_cN hkd hwk q3 q7 (inn_lt o))
  have hm := fresh_cN (o := o) hkd hwk q2 q3 q7
  refine ⟨f1, hm, ?_⟩
  have fn : (freshD d' (cNn o x)).name = d'.name := by show (cNn o x).name = _; rw [cNn_name]; exact hx
  unfold idN
  rw [keyL_of hw hd fn, keyL_of hw hd hx, fn, hx]
  congr 1
  unfold keyD
  have := keyOf_congr hkd hwk (freshD d' (cNn o x)).name (freshD d' (cNn o x)).value x.name x.value f1.ds q3 fun y hy => by rw [hm y]; simp [hy]
  rw [node_mk, node_mk] at this
  rw [this]
theorem fresh_leaf {l : List Def} (hw : wfDs l) (hk : kfDs l) {d : Def} (hd : d ∈ l) {o : Int} {x : Node} (hg : gdN l x) (hx : x.name = d.name) (h3 : d.kind = 3) : freshD d (cNn o x) = x := by
  obtain ⟨d', d1, d2, d3, d4⟩ := gdN_s.1 hg
  have : d' = d := wfDs_inj hw d1 hd (d2.symm.trans hx)
  subst this
  have hk0 := (kfD_s.1 (kfDs_iff.1 hk d' hd)).1 (by omega)
  obtain ⟨q1, q2⟩ := d3 h3
  unfold freshD
  rw [if_pos h3, hk0, cNn_name, cNn_value]
  show Node.mk x.name x.value [] = x
  rw [← q1, node_mk]
theorem fresh_id {l : List Def} (hw : wfDs l) (hk : kfDs l) {d : Def} (hd : d ∈ l) {o : Int} {x : Node} (hg : gdN l x) (hx : x.name = d.name) : idN l (freshD d (cNn o x)) = idN l x ∧ (freshD d (cNn o x)).name = d.name := by
  refine ⟨?_, by show (cNn o x).name = _; rw [cNn_name]; exact hx⟩
  by_cases h3 : d.kind = 3
  · rw [fresh_leaf hw hk hd hg hx h3]
  · exact (fresh_all hw hk hd hg hx h3).2.2
theorem has_nil (s : Str) : has [] s = false := rfl
end Go.Abs.SA
end

section
set_option linter.unusedVariables false
set_option linter.unusedSimpArgs false
set_option linter.unusedSectionVars false
set_option maxRecDepth 100000
set_option maxHeartbeats 4000000
set_option linter.unusedSimpArgs false
set_option linter.unusedVariables false
namespace Go.Abs.SA
open Go.Proofs

/-! What one change does, said once more. -/
theorem one1_no {d : Def} {ns : List Node} {c : Chg} (hs : sameAt d ns (freshD d c) = none) : one1 d ns c = (if c.op = 4 then .error 16 else if 4 ≤ c.op then .ok ns
      else if c.op = 0 ∧ (d.kind = 3 ∨ d.kind = 2) then .error 16
      else if d.kind = 3 then .ok (ns ++ [freshD d c])
      else match apS d.kids d.keys (freshD d c).kids c.kids with
        | .error e => .error e
        | .ok r => if d.kind = 1 ∧ order d.kids r = [] then .ok ns else .ok (ns ++ [.mk c.name ⟨#[]⟩ (order d.kids r)])) := by
  cases c with
  | mk n v o ks => rw [one1, hs]; rfl
theorem one1_yes {d : Def} {ns : List Node} {c : Chg} {i : Nat} (hi : i < ns.length) (hs : sameAt d ns (freshD d c) = some i) : one1 d ns c = (if c.op = 3 then .error 15 else if 4 ≤ c.op then .ok (ns.eraseIdx i)
        else if d.kind = 3 then (if c.op = 0 then .ok ns else .ok (ns.set i (freshD d c)))
        else match apS d.kids d.keys (if c.op ≠ 2 then ns[i].kids else (freshD d c).kids) c.kids with
          | .error e => .error e
          | .ok r => if d.kind = 1 ∧ order d.kids r = [] then .ok (ns.eraseIdx i) else .ok (ns.set i (.mk ns[i].name ns[i].value (order d.kids r)))) := by
  cases c with
  | mk n v o ks =>
    rw [one1, hs]
    simp only [List.getElem?_eq_getElem hi]
    rfl
theorem gd_at {l : List Def} (hw : wfDs l) {d : Def} (hd : d ∈ l) {x : Node} (hg : gdN l x) (hx : x.name = d.name) : (d.kind = 3 → x.kids = [] ∧ valueM d x.value = true) ∧ (d.kind ≠ 3 → x.value = ⟨#[]⟩ ∧ gdL d.kids x.kids ∧ dst d.kids x.kids ∧ Srt.Ord (before d.kids) x.kids ∧ x.kids.length ≤ 256 ∧ (d.kind = 1 → x.kids ≠ []) ∧ (keyOf d x).isSome = true) := by
  obtain ⟨d', d1, d2, d3, d4⟩ := gdN_s.1 hg
  have : d' = d := wfDs_inj hw d1 hd (d2.symm.trans hx)
  subst this
  exact ⟨d3, d4⟩
theorem fresh_perm {l : List Def} (hw : wfDs l) (hk : kfDs l) {d : Def} (hd : d ∈ l) {o : Int} {x : Node} (hg : gdN l x) (hx : x.name = d.name) (h3 : d.kind ≠ 3) :
    ((freshD d (cNn o x)).kids ++ x.kids.filter fun y => !has d.keys y.name).Perm x.kids := by
  obtain ⟨f1, f2, _⟩ := fresh_all (o := o) hw hk hd hg hx h3
  obtain ⟨_, _, q3, _⟩ := (gd_at hw hd hg hx).2 h3
  have hp : (freshD d (cNn o x)).kids.Perm (x.kids.filter fun y => has d.keys y.name) := by
    rw [List.perm_ext_iff_of_nodup (dst_nodup f1.ds) ((dst_nodup q3).sublist List.filter_sublist)]
    intro y
    rw [f2 y, List.mem_filter]
  exact (hp.append_right _).trans (List.filter_append_perm (fun y : Node => has d.keys y.name) x.kids)
theorem same_none {l : List Def} (hw : wfDs l) (hk : kfDs l) {d : Def} (hd : d ∈ l) {o : Int} {x : Node} (hg : gdN l x) (hx : x.name = d.name) {ns : List Node} : sameAt d ns (freshD d (cNn o x)) = none ↔ ∀ y ∈ ns, idN l y ≠ idN l x := by
  obtain ⟨h1, h2⟩ := fresh_id (o := o) hw hk hd hg hx
  rw [sameAt_none hw hd h2, h1]
theorem same_some {l : List Def} (hw : wfDs l) (hk : kfDs l) {d : Def} (hd : d ∈ l) {o : Int} {x : Node} (hg : gdN l x) (hx : x.name = d.name) {ns : List Node} {i : Nat} (h : sameAt d ns (freshD d (cNn o x)) = some i) : ∃ hi : i < ns.length, idN l ns[i] = idN l x := by
  obtain ⟨h1, h2⟩ := fresh_id (o := o) hw hk hd hg hx
  obtain ⟨hi, h3⟩ := sameAt_id hw hd h2 h
  exact ⟨hi, by rw [h3, h1]⟩
theorem mk_eq {x : Node} {v : Str} (h : x.value = v) : Node.mk x.name v x.kids = x := by rw [← h, node_mk]
mutual
/-- A node that isn't there is made. -/
theorem new_one : ∀ (x : Node) {l : List Def} (hw : wfDs l) (hk : kfDs l) {d : Def} (hd : d ∈ l) (hg : gdN l x) (hx : x.name = d.name) (ns : List Node) (hn : ∀ y ∈ ns, idN l y ≠ idN l x) (o : Int) (h1 : 1 ≤ o) (h4 : o < 4), one1 d ns (cNn o x) = .ok (ns ++ [x])
  | .mk n v k, l, hw, hk, d, hd, hg, hx, ns, hn, o, h1, h4 => by
    rw [one1_no ((same_none hw hk hd hg hx).2 hn), cNn_op, if_neg (by omega), if_neg (by omega), if_neg (by omega)]
    by_cases h3 : d.kind = 3
    · rw [if_pos h3, fresh_leaf hw hk hd hg hx h3]
    · rw [if_neg h3]
      have hr := box_new (.mk n v k) hw hk hd hg hx h3 o (by omega) (app_all k (wf_kids hw hd) (kfD_s.1 (kfDs_iff.1 hk d hd)).2.2.2.2 d.keys (freshD d (cNn o (.mk n v k))).kids)
      obtain ⟨r, r1, r2⟩ := hr
      rw [r1]
      simp only
      obtain ⟨q1, q2, q3, q4, q5, q6, q7⟩ := (gd_at hw hd hg hx).2 h3
      rw [r2, if_neg (fun hh => q6 hh.1 hh.2), cNn_name]
      congr 3
      exact mk_eq q1
theorem app_all : ∀ (ks : List Node) {l : List Def} (hw : wfDs l) (hk : kfDs l) (sk : List Str) (ns : List Node), gdL l ks → dst l (ns ++ ks.filter fun y => !has sk y.name) → (ns ++ ks.filter fun y => !has sk y.name).length ≤ 256 → apS l sk ns (cNl 1 ks) = .ok (ns ++ ks.filter fun y => !has sk y.name)
  | [], l, hw, hk, sk, ns, _, _, _ => by rw [cNl, apS_nil]; simp
  | x :: r, l, hw, hk, sk, ns, hg, hd, hl => by
    rw [gdL] at hg
    rw [cNl, apS_cons, cNn_name]
    by_cases hs : has sk x.name = true
    · rw [if_pos hs]
      rw [List.filter_cons, if_neg (by simp [hs])] at hd hl ⊢
      exact app_all r hw hk sk ns hg.2 hd hl
    · rw [if_neg hs]
      rw [List.filter_cons, if_pos (by simpa using hs)] at hd hl ⊢
      obtain ⟨d, d1, d2⟩ := gdN_def hg.1
      obtain ⟨i, p1, p2⟩ := place_of hw d1
      rw [d2, p1]
      simp only [p2]
      have hnew : ∀ y ∈ ns, idN l y ≠ idN l x := fun y hy => (List.pairwise_append.1 hd).2.2 y hy x (by simp)
      rw [new_one x hw hk d1 hg.1 d2 ns hnew 1 (by omega) (by omega)]
      simp only
      have hlen : ¬ 256 < (ns ++ [x]).length := by
        rw [List.length_append, List.length_cons] at hl
        rw [List.length_append, List.length_singleton]; omega
      rw [if_neg hlen, app_all r hw hk sk (ns ++ [x]) hg.2 (by simpa using hd) (by simpa using hl)]
      simp
/-- The kids of a node that is made anew. -/
theorem box_new : ∀ (x : Node) {l : List Def} (hw : wfDs l) (hk : kfDs l) {d : Def} (hd : d ∈ l) (hg : gdN l x) (hx : x.name = d.name) (h3 : d.kind ≠ 3) (o : Int) (h1 : o ≠ 0)
    (ha : gdL d.kids x.kids → dst d.kids ((freshD d (cNn o x)).kids ++ x.kids.filter fun y => !has d.keys y.name) → ((freshD d (cNn o x)).kids ++ x.kids.filter fun y => !has d.keys y.name).length ≤ 256 → apS d.kids d.keys (freshD d (cNn o x)).kids (cNl 1 x.kids) = .ok ((freshD d (cNn o x)).kids ++ x.kids.filter fun y => !has d.keys y.name)),
    ∃ r, apS d.kids d.keys (freshD d (cNn o x)).kids (cNn o x).kids = .ok r ∧ order d.kids r = x.kids
  | .mk n v k, l, hw, hk, d, hd, hg, hx, h3, o, h1, ha => by
    obtain ⟨q1, q2, q3, q4, q5, q6, q7⟩ := (gd_at hw hd hg hx).2 h3
    have hp := fresh_perm (o := o) hw hk hd hg hx h3
    have hds := dst_perm hp.symm q3
    have hc := ha q2 hds (by rw [hp.length_eq]; exact q5)
    rw [cNn_kids, show inn o = 1 from if_pos h1]
    refine ⟨_, hc, order_uniq hp hds (fun y hy => gdN_def (gdL_iff.1 q2 y (hp.mem_iff.1 hy))) q4⟩
end
mutual
/-- A node that is there, said again, stays. -/
theorem keep_one : ∀ (x : Node) {l : List Def} (hw : wfDs l) (hk : kfDs l) {d : Def} (hd : d ∈ l) (hg : gdN l x) (hx : x.name = d.name) (ns : List Node) (hn : dst l ns) (hm : x ∈ ns) (o : Int) (h1 : o = 0 ∨ o = 1), one1 d ns (cNn o x) = .ok ns
  | .mk n v k, l, hw, hk, d, hd, hg, hx, ns, hn, hm, o, h1 => by
    cases hs : sameAt d ns (freshD d (cNn o (.mk n v k))) with
    | none => exact absurd rfl ((same_none hw hk hd hg hx).1 hs _ hm)
    | some i =>
      obtain ⟨hi, hid⟩ := same_some hw hk hd hg hx hs
      have hxi : ns[i] = .mk n v k := dst_eq hn (List.getElem_mem hi) hm hid
      have hset : ns.set i (.mk n v k) = ns := by rw [← hxi]; exact set_eq_self (List.getElem?_eq_getElem hi)
      rw [one1_yes hi hs, cNn_op, if_neg (by omega), if_neg (by omega)]
      by_cases h3 : d.kind = 3
      · rw [if_pos h3, fresh_leaf hw hk hd hg hx h3, hset]
        split <;> rfl
      · obtain ⟨q1, q2, q3, q4, q5, q6, q7⟩ := (gd_at hw hd hg hx).2 h3
        rw [if_neg h3, if_pos (by omega), hxi, cNn_kids]
        have := keep_all k (wf_kids hw hd) (kfD_s.1 (kfDs_iff.1 hk d hd)).2.2.2.2 d.keys k q2 (fun _ h => h) q3 q5 (inn o) (by rcases h1 with rfl | rfl <;> simp [inn])
        rw [show (Node.mk n v k).kids = k from rfl, this]
        simp only
        rw [order_ord (show Srt.Ord (before d.kids) k from q4), if_neg (fun hh => q6 hh.1 hh.2)]
        show Except.ok (ns.set i (.mk n v k)) = _
        rw [hset]
theorem keep_all : ∀ (ks : List Node) {l : List Def} (hw : wfDs l) (hk : kfDs l) (sk : List Str) (ns : List Node) (hg : gdL l ks) (hm : ∀ x ∈ ks, x ∈ ns) (hd : dst l ns) (hl : ns.length ≤ 256) (o : Int) (h1 : o = 0 ∨ o = 1), apS l sk ns (cNl o ks) = .ok ns
  | [], l, hw, hk, sk, ns, _, _, _, _, o, _ => by rw [cNl, apS_nil]
  | x :: r, l, hw, hk, sk, ns, hg, hm, hd, hl, o, h1 => by
    rw [gdL] at hg
    rw [cNl, apS_cons, cNn_name]
    have ih := keep_all r hw hk sk ns hg.2 (fun y hy => hm y (List.mem_cons_of_mem _ hy)) hd hl o h1
    by_cases hs : has sk x.name = true
    · rw [if_pos hs]; exact ih
    · rw [if_neg hs]
      obtain ⟨d, d1, d2⟩ := gdN_def hg.1
      obtain ⟨i, p1, p2⟩ := place_of hw d1
      rw [d2, p1]
      simp only [p2]
      rw [keep_one x hw hk d1 hg.1 d2 ns hd (hm x (by simp)) o h1]
      simp only
      rw [if_neg (by omega)]; exact ih
end
mutual
/-- Where nothing is there, what is said without an operation is told. -/
theorem nil_one : ∀ (x : Node) {l : List Def} (hw : wfDs l) (hk : kfDs l) {d : Def} (hd : d ∈ l) (hg : gdN l x) (hx : x.name = d.name) (ns : List Node) (hn : ∀ y ∈ ns, idN l y ≠ idN l x), one1 d ns (cNn 0 x) = .error 16
  | .mk n v k, l, hw, hk, d, hd, hg, hx, ns, hn => by
    rw [one1_no ((same_none hw hk hd hg hx).2 hn), cNn_op, if_neg (by omega), if_neg (by omega)]
    by_cases h32 : d.kind = 3 ∨ d.kind = 2
    · rw [if_pos ⟨rfl, h32⟩]
    · have h3 : d.kind ≠ 3 := fun hh => h32 (.inl hh)
      have h2 : d.kind ≠ 2 := fun hh => h32 (.inr hh)
      rw [if_neg (fun hh => h32 hh.2), if_neg h3]
      obtain ⟨q1, q2, q3, q4, q5, q6, q7⟩ := (gd_at hw hd hg hx).2 h3
      obtain ⟨k1, k2, k3, k4, k5⟩ := kfD_s.1 (kfDs_iff.1 hk d hd)
      have hf : (freshD d (cNn 0 (.mk n v k))).kids = [] := by
        show (d.keys.flatMap _) = []
        rw [k1 h2]; rfl
      -- no definition of another kind has anything of its own
      rw [hf, k1 h2, cNn_kids, show inn 0 = 0 from rfl]
      have hne : k ≠ [] := by
        intro hh
        rcases k4.2 with h1 | h1 | h1
        · exact q6 h1 hh
        · exact h2 h1
        · exact h3 h1
      rw [show (Node.mk n v k).kids = k from rfl, nil_all k (wf_kids hw hd) k5 q2 hne]
theorem nil_all : ∀ (ks : List Node) {l : List Def} (hw : wfDs l) (hk : kfDs l) (hg : gdL l ks) (hne : ks ≠ []), apS l [] [] (cNl 0 ks) = .error 16
  | [], l, hw, hk, hg, hne => absurd rfl hne
  | x :: r, l, hw, hk, hg, hne => by
    rw [gdL] at hg
    rw [cNl, apS_cons, cNn_name, if_neg (by rw [has_nil]; simp)]
    obtain ⟨d, d1, d2⟩ := gdN_def hg.1
    obtain ⟨i, p1, p2⟩ := place_of hw d1
    rw [d2, p1]
    simp only [p2]
    rw [nil_one x hw hk d1 hg.1 d2 [] (by simp)]
end
mutual
/-- What is said without an operation changes nothing, or is told. -/
theorem none_one : ∀ (x : Node) {l : List Def} (hw : wfDs l) (hk : kfDs l) {d : Def} (hd : d ∈ l) (hg : gdN l x) (hx : x.name = d.name) (ns : List Node) (hu : Un l ns), one1 d ns (cNn 0 x) = .ok ns ∨ one1 d ns (cNn 0 x) = .error 16
  | .mk n v k, l, hw, hk, d, hd, hg, hx, ns, hu => by
    cases hs : sameAt d ns (freshD d (cNn 0 (.mk n v k))) with
    | none => exact .inr (nil_one _ hw hk hd hg hx ns ((same_none hw hk hd hg hx).1 hs))
    | some i =>
      obtain ⟨hi, hid⟩ := same_some hw hk hd hg hx hs
      have hyn : ns[i].name = d.name := (Prod.mk.inj hid).1.trans hx
      have hyg := gdL_iff.1 hu.gd _ (List.getElem_mem hi)
      rw [one1_yes hi hs, cNn_op, if_neg (by omega), if_neg (by omega)]
      by_cases h3 : d.kind = 3
      · rw [if_pos h3]; exact .inl rfl
      · obtain ⟨q1, q2, q3, q4, q5, q6, q7⟩ := (gd_at hw hd hg hx).2 h3
        obtain ⟨y1, y2, y3, y4, y5, y6, y7⟩ := (gd_at hw hd hyg hyn).2 h3
        rw [if_neg h3, if_pos (by omega), cNn_kids, show inn 0 = 0 from rfl]
        rcases none_all k (wf_kids hw hd) (kfD_s.1 (kfDs_iff.1 hk d hd)).2.2.2.2 d.keys ns[i].kids q2 ⟨y2, y3, y5⟩ with h | h
        · left
          rw [show (Node.mk n v k).kids = k from rfl, h]
          simp only
          rw [order_ord y4, if_neg (fun hh => y6 hh.1 hh.2), node_mk, set_eq_self (List.getElem?_eq_getElem hi)]
        · right
          rw [show (Node.mk n v k).kids = k from rfl, h]
theorem none_all : ∀ (ks : List Node) {l : List Def} (hw : wfDs l) (hk : kfDs l) (sk : List Str) (ns : List Node) (hg : gdL l ks) (hu : Un l ns), apS l sk ns (cNl 0 ks) = .ok ns ∨ apS l sk ns (cNl 0 ks) = .error 16
  | [], l, hw, hk, sk, ns, _, _ => by rw [cNl, apS_nil]; exact .inl rfl
  | x :: r, l, hw, hk, sk, ns, hg, hu => by
    rw [gdL] at hg
    rw [cNl, apS_cons, cNn_name]
    have ih := none_all r hw hk sk ns hg.2 hu
    by_cases hs : has sk x.name = true
    · rw [if_pos hs]; exact ih
    · rw [if_neg hs]
      obtain ⟨d, d1, d2⟩ := gdN_def hg.1
      obtain ⟨i, p1, p2⟩ := place_of hw d1
      rw [d2, p1]
      simp only [p2]
      rcases none_one x hw hk d1 hg.1 d2 ns hu with h | h
      · rw [h]
        simp only
        rw [if_neg (by have := hu.le; omega)]; exact ih
      · rw [h]; exact .inr rfl
end
/-- A node that is there is replaced, one that isn't is made. -/
theorem repl_one {x : Node} {l : List Def} (hw : wfDs l) (hk : kfDs l) {d : Def} (hd : d ∈ l) (hg : gdN l x) (hx : x.name = d.name) {ns : List Node} (hu : Un l ns) :
    (one1 d ns (cNn 2 x) = .ok (ns ++ [x]) ∧ ∀ y ∈ ns, idN l y ≠ idN l x) ∨ ∃ i, ∃ hi : i < ns.length, idN l ns[i] = idN l x ∧ one1 d ns (cNn 2 x) = .ok (ns.set i x) := by
  cases hs : sameAt d ns (freshD d (cNn 2 x)) with
  | none =>
    have hn := (same_none hw hk hd hg hx).1 hs
    exact .inl ⟨new_one x hw hk hd hg hx ns hn 2 (by omega) (by omega), hn⟩
  | some i =>
    right
    obtain ⟨hi, hid⟩ := same_some hw hk hd hg hx hs
    have hyn : ns[i].name = d.name := (Prod.mk.inj hid).1.trans hx
    refine ⟨i, hi, hid, ?_⟩
    rw [one1_yes hi hs, cNn_op, if_neg (by omega), if_neg (by omega)]
    by_cases h3 : d.kind = 3
    · rw [if_pos h3, if_neg (by omega), fresh_leaf hw hk hd hg hx h3]
    · obtain ⟨q1, q2, q3, q4, q5, q6, q7⟩ := (gd_at hw hd hg hx).2 h3
      obtain ⟨y1, _⟩ := (gd_at hw hd (gdL_iff.1 hu.gd _ (List.getElem_mem hi)) hyn).2 h3
      rw [if_neg h3, if_neg (by omega)]
      obtain ⟨r, r1, r2⟩ := box_new x hw hk hd hg hx h3 2 (by omega) (app_all x.kids (wf_kids hw hd) (kfD_s.1 (kfDs_iff.1 hk d hd)).2.2.2.2 d.keys (freshD d (cNn 2 x)).kids)
      rw [r1]
      simp only
      rw [r2, if_neg (fun hh => q6 hh.1 hh.2), hyn, y1]
      congr 2
      rw [← hx]; exact mk_eq q1
end Go.Abs.SA
end

section
set_option linter.unusedVariables false
set_option linter.unusedSimpArgs false
set_option linter.unusedSectionVars false
set_option maxRecDepth 100000
set_option maxHeartbeats 8000000
set_option linter.unusedSimpArgs false
set_option linter.unusedVariables false
namespace Go.Abs.SA
open Go.Proofs

/-! The laws of Change, plain. -/
theorem apD_of {l : List Def} {ns r : List Node} {cs : List Chg} (h : apS l [] ns cs = .ok r) : apD l ns cs = .ok (order l r) := by unfold apD; rw [h]
theorem apD_ofE {l : List Def} {ns : List Node} {cs : List Chg} {e : Int} (h : apS l [] ns cs = .error e) : apD l ns cs = .error e := by unfold apD; rw [h]
theorem apS_one {l : List Def} (hw : wfDs l) {d : Def} (hd : d ∈ l) {ns : List Node} {c : Chg} (hc : c.name = d.name) : apS l [] ns [c] = match one1 d ns c with
    | .error e => .error e
    | .ok m => if 256 < m.length then .error 2 else .ok m := by
  rw [apS_cons, if_neg (by rw [has_nil]; simp)]
  obtain ⟨i, p1, p2⟩ := place_of hw hd
  rw [hc, p1]
  simp only [p2]
  cases one1 d ns c with
  | error e => rfl
  | ok m => simp only [apS_nil]
theorem nones_plain {l : List Def} (hw : wfDs l) (hk : kfDs l) {n m : List Node} (hn : Tr l n) (hm : Tr l m) : apD l n (cNl 0 m) = .ok n ∨ apD l n (cNl 0 m) = .error 16 := by
  rcases none_all m hw hk [] n hm.gd hn.un with h | h
  · left; rw [apD_of h, order_ord hn.or]
  · right; exact apD_ofE h
theorem ord_erase {l : List Def} {n : List Node} (h : Srt.Ord (before l) n) (i : Nat) : Srt.Ord (before l) (n.eraseIdx i) := List.Pairwise.sublist (List.eraseIdx_sublist _ _) h
theorem tr_erase {l : List Def} {n : List Node} (h : Tr l n) (i : Nat) : Tr l (n.eraseIdx i) :=
  ⟨gdL_perm (fun x hx => List.mem_of_mem_eraseIdx hx) h.gd, h.ds.sublist (List.eraseIdx_sublist _ _), ord_erase h.or i, by have := h.le; rw [List.length_eraseIdx]; split <;> omega⟩
theorem nodup_inj {α : Type} {l : List α} (h : l.Nodup) {i j : Nat} (hi : i < l.length) (hj : j < l.length) (e : l[i] = l[j]) : i = j := by
  have hp := List.pairwise_iff_getElem.1 h
  rcases Nat.lt_trichotomy i j with h1 | h1 | h1
  · exact absurd e (hp i j hi hj h1)
  · exact h1
  · exact absurd e.symm (hp j i hj hi h1)
theorem erase_new {l : List Def} {n : List Node} (h : dst l n) {i : Nat} (hi : i < n.length) : ∀ y ∈ n.eraseIdx i, idN l y ≠ idN l n[i] := by
  intro y hy he
  have hyn := List.mem_of_mem_eraseIdx hy
  have e := dst_eq h hyn (List.getElem_mem hi) he
  have hnd := dst_nodup h
  obtain ⟨j, hj, hji, hjy⟩ := List.mem_eraseIdx_iff_getElem.1 hy
  rw [e] at hjy
  exact hji (nodup_inj hnd hj hi hjy)
theorem erase_perm {α : Type} : ∀ (n : List α) (i : Nat) (hi : i < n.length), (n.eraseIdx i ++ [n[i]]).Perm n
  | x :: r, 0, hi => by
    simp only [List.eraseIdx_zero, List.tail_cons, List.getElem_cons_zero]
    exact List.perm_append_comm
  | x :: r, i + 1, hi => by
    simp only [List.eraseIdx_cons_succ, List.getElem_cons_succ, List.cons_append]
    exact (erase_perm r i (by simpa using hi)).cons x
section
variable {l : List Def} (hw : wfDs l) (hk : kfDs l) {n : List Node} (hn : Tr l n) {i : Nat} (hi : i < n.length)
include hw hk hn hi
theorem at_here {d : Def} (hd : d ∈ l) (hx : n[i].name = d.name) (o : Int) : sameAt d n (freshD d (cNn o n[i])) = some i := by
  have hg := gdL_iff.1 hn.gd _ (List.getElem_mem hi)
  cases hs : sameAt d n (freshD d (cNn o n[i])) with
  | none => exact absurd rfl ((same_none hw hk hd hg hx).1 hs _ (List.getElem_mem hi))
  | some j =>
    obtain ⟨hj, hid⟩ := same_some hw hk hd hg hx hs
    have := dst_eq hn.ds (List.getElem_mem hj) (List.getElem_mem hi) hid
    rw [nodup_inj (dst_nodup hn.ds) hj hi this]
theorem rem_here (o : Int) (ho : 4 ≤ o) : apD l n [cNn o n[i]] = .ok (n.eraseIdx i) := by
  have hg := gdL_iff.1 hn.gd _ (List.getElem_mem hi)
  obtain ⟨d, d1, d2⟩ := gdN_def hg
  have h1 : apS l [] n [cNn o n[i]] = .ok (n.eraseIdx i) := by
    rw [apS_one hw d1 ((cNn_name _ _).trans d2), one1_yes hi (at_here hw hk hn hi d1 d2 o), cNn_op, if_neg (by omega), if_pos ho]
    simp only
    rw [if_neg]
    have := (tr_erase hn i).le; omega
  rw [apD_of h1, order_ord (ord_erase hn.or i)]
theorem rem_gone : apD l (n.eraseIdx i) [cNn 5 n[i]] = .ok (n.eraseIdx i) := by
  have hg := gdL_iff.1 hn.gd _ (List.getElem_mem hi)
  obtain ⟨d, d1, d2⟩ := gdN_def hg
  have h1 : apS l [] (n.eraseIdx i) [cNn 5 n[i]] = .ok (n.eraseIdx i) := by
    rw [apS_one hw d1 ((cNn_name _ _).trans d2), one1_no ((same_none hw hk d1 hg d2).2 (erase_new hn.ds hi)), cNn_op, if_neg (by omega), if_pos (by omega)]
    simp only
    rw [if_neg]
    have := (tr_erase hn i).le; omega
  rw [apD_of h1, order_ord (ord_erase hn.or i)]
theorem del_gone : apD l (n.eraseIdx i) [cNn 4 n[i]] = .error 16 := by
  have hg := gdL_iff.1 hn.gd _ (List.getElem_mem hi)
  obtain ⟨d, d1, d2⟩ := gdN_def hg
  refine apD_ofE ?_
  rw [apS_one hw d1 ((cNn_name _ _).trans d2), one1_no ((same_none hw hk d1 hg d2).2 (erase_new hn.ds hi)), cNn_op, if_pos rfl]
theorem cre_here : apD l n [cNn 3 n[i]] = .error 15 := by
  have hg := gdL_iff.1 hn.gd _ (List.getElem_mem hi)
  obtain ⟨d, d1, d2⟩ := gdN_def hg
  refine apD_ofE ?_
  rw [apS_one hw d1 ((cNn_name _ _).trans d2), one1_yes hi (at_here hw hk hn hi d1 d2 3), cNn_op, if_pos rfl]
theorem cre_gone : apD l (n.eraseIdx i) [cNn 3 n[i]] = .ok n := by
  have hg := gdL_iff.1 hn.gd _ (List.getElem_mem hi)
  obtain ⟨d, d1, d2⟩ := gdN_def hg
  have hp := erase_perm n i hi
  have h1 : apS l [] (n.eraseIdx i) [cNn 3 n[i]] = .ok (n.eraseIdx i ++ [n[i]]) := by
    rw [apS_one hw d1 ((cNn_name _ _).trans d2), new_one n[i] hw hk d1 hg d2 _ (erase_new hn.ds hi) 3 (by omega) (by omega)]
    simp only
    rw [if_neg]
    rw [hp.length_eq]; have := hn.le; omega
  rw [apD_of h1, order_uniq hp (dst_perm hp.symm hn.ds) (fun x hx => gdN_def (gdL_iff.1 hn.gd x (hp.mem_iff.1 hx))) hn.or]
end
theorem merge_nil {l : List Def} (hw : wfDs l) (hk : kfDs l) {m : List Node} (hm : Tr l m) : apD l [] (cNl 1 m) = .ok m := by
  have hf : (m.filter fun y => !has [] y.name) = m := List.filter_eq_self.2 fun x _ => by rw [has_nil]; rfl
  have := app_all m hw hk [] [] hm.gd (by rw [hf]; simpa using hm.ds) (by rw [hf]; simpa using hm.le)
  rw [hf, List.nil_append] at this
  rw [apD_of this, order_ord hm.or]
theorem merge_self {l : List Def} (hw : wfDs l) (hk : kfDs l) {m : List Node} (hm : Tr l m) : apD l m (cNl 1 m) = .ok m := by
  rw [apD_of (keep_all m hw hk [] m hm.gd (fun _ h => h) hm.ds hm.le 1 (.inr rfl)), order_ord hm.or]
theorem repl_all {l : List Def} (hw : wfDs l) (hk : kfDs l) : ∀ (ks ns : List Node), gdL l ks → dst l ks → Un l ns → apS l [] ns (cNl 2 ks) = .error 2 ∨ ∃ r, apS l [] ns (cNl 2 ks) = .ok r ∧ Un l r ∧ (∀ y ∈ ns, (∀ x ∈ ks, idN l y ≠ idN l x) → y ∈ r) ∧ ∀ x ∈ ks, x ∈ r
  | [], ns, _, _, hu => .inr ⟨ns, by rw [cNl, apS_nil], hu, fun y hy _ => hy, by simp⟩
  | x :: r, ns, hg, hd, hu => by
    rw [gdL] at hg
    have hd' := List.pairwise_cons.1 hd
    obtain ⟨d, d1, d2⟩ := gdN_def hg.1
    obtain ⟨i, p1, p2⟩ := place_of hw d1
    rw [cNl, apS_cons, cNn_name, if_neg (by rw [has_nil]; simp), d2, p1]
    simp only [p2]
    have step : ∃ m, one1 d ns (cNn 2 x) = .ok m ∧ gdL l m ∧ dst l m ∧ x ∈ m ∧ ∀ y ∈ ns, idN l y ≠ idN l x → y ∈ m := by
      rcases repl_one hw hk d1 hg.1 d2 hu with ⟨h, hn⟩ | ⟨j, hj, hid, h⟩
      · have hkp := keeps_new hw d1 hu hg.1 d2 hn
        exact ⟨_, h, hkp.gd, hkp.ds, by simp, fun y hy _ => List.mem_append.2 (.inl hy)⟩
      · have hkp := keeps_set ns[j].name hu hj rfl hg.1 hid.symm
        refine ⟨_, h, hkp.gd, hkp.ds, List.mem_set hj x, fun y hy hyx => ?_⟩
        exact (mem_set_other hj (fun e => hyx (by rw [e]; exact hid)) (fun e => hyx (by rw [e]))).2 hy
    obtain ⟨m, m1, m2, m3, m4, m5⟩ := step
    rw [m1]
    simp only
    by_cases hl : 256 < m.length
    · rw [if_pos hl]; exact .inl rfl
    · rw [if_neg hl]
      rcases repl_all hw hk r m hg.2 hd'.2 ⟨m2, m3, by omega⟩ with h | ⟨q, q1, q2, q3, q4⟩
      · exact .inl h
      · refine .inr ⟨q, q1, q2, fun y hy hh => q3 y (m5 y hy (hh x (by simp))) fun z hz => hh z (List.mem_cons_of_mem _ hz), fun z hz => ?_⟩
        rcases List.mem_cons.1 hz with rfl | hz
        · exact q3 z m4 fun w hw' => hd'.1 w hw'
        · exact q4 z hz
theorem repl_plain {l : List Def} (hw : wfDs l) (hk : kfDs l) {n m : List Node} (hn : Tr l n) (hm : Tr l m) : apD l n (cNl 2 m) = .error 2 ∨ ∃ x, apD l n (cNl 2 m) = .ok x ∧ Tr l x ∧ ∀ k ∈ m, k ∈ x := by
  rcases repl_all hw hk m n hm.gd hm.ds hn.un with h | ⟨r, r1, r2, _, r4⟩
  · exact .inl (apD_ofE h)
  · exact .inr ⟨order l r, apD_of r1, r2.tr, fun k hk' => (order_mem l r).2 (r4 k hk')⟩
theorem sameAt_mem {l : List Def} (hw : wfDs l) {d : Def} (hd : d ∈ l) {x : List Node} (hx : dst l x) {k : Node} (hk : k ∈ x) (hn : k.name = d.name) : ∃ i, ∃ hi : i < x.length, sameAt d x k = some i ∧ x[i] = k := by
  cases hs : sameAt d x k with
  | none => exact absurd rfl ((sameAt_none hw hd hn).1 hs k hk)
  | some i =>
    obtain ⟨hi, hid⟩ := sameAt_id hw hd hn hs
    exact ⟨i, hi, rfl, dst_eq hx (List.getElem_mem hi) hk hid⟩
end Go.Abs.SA
end

section
set_option linter.unusedVariables false
set_option linter.unusedSimpArgs false
set_option linter.unusedSectionVars false
set_option maxRecDepth 100000
set_option maxHeartbeats 16000000
set_option linter.unusedSimpArgs false
set_option linter.unusedVariables false
namespace Go.Abs.SA
open Go.Proofs

/-! ChangeNones, ChangeRemoves, ChangeMerges. -/
/-- A tree of the laws, said as changes. -/
theorem saidAs {m : List Node} (h : Tr schema m) (hc : cntL m ≤ 300) (op : Int) : pureW XX 14 [lN m, vS ⟨#[]⟩] = some (lE (m.map (elemN ⟨#[]⟩))) ∧ pureW XX 11 [lD schema, lE (m.map (elemN ⟨#[]⟩)), vI op] = some (aChs (.ok (cNl op m))) := by
  refine ⟨elems_spec ⟨#[]⟩ (cntL m + 1) m (Nat.lt_succ_self _) (by omega), ?_⟩
  have := chRead_spec 400 schema op (m.map (elemN ⟨#[]⟩)) (by rw [cnt_elemM]; omega) (by omega) (by rw [← elemL_map]; exact gd_okEs _ (by decide) m schema nm_schema h.gd) (by decide) okDs_schema
  rw [← elemL_map, chL_cN wf_schema kf_schema ⟨#[]⟩ op m h.gd] at this
  rw [← elemL_map]
  exact this
mutual
theorem sz_cNn (o : Int) : ∀ x : Node, szC (cNn o x) = cntN x
  | .mk n v k => by rw [cNn, szC, cntN, sz_cNl _ k]
theorem sz_cNl (o : Int) : ∀ l : List Node, szCl (cNl o l) = cntL l
  | [] => by rw [cNl]; rfl
  | x :: r => by rw [cNl, szCl, cntL_cons, sz_cNn o x, sz_cNl o r]
end
theorem nones_law (was elems : List Elem) (hok : okEs was) (hl : was.length ≤ 140737488355328) (hok2 : okEs elems) (hl2 : elems.length ≤ 140737488355328) : pureW XX 6 [lE was, lE elems] = some (vB true) := by
  have ht := tree15_spec was hok hl
  have ht2 := tree15_spec elems hok2 hl2
  unfold aTree at ht ht2
  refine pureW_in 56 Tryd.func6 Tryd.ntmps6 (by simp) (rfl : Tryd.f6.body = some _) fns_6 ?_
  cases hT : tree was with
  | none =>
    rw [hT] at ht
    simp only [Option.isSome_none] at ht
    simp (maxSteps := 200000) (disch := first | (simp only [go_sem, Nat.reduceAdd, Nat.reduceSub, Nat.reduceMul, Nat.reduceLeDiff, Nat.reduceEqDiff, Nat.reduceLT, Nat.reduceBEq, Nat.reduceBNe, Nat.reducePow, ↓reduceIte]; done) | omega | (simp only [go_sem, Nat.reduceAdd, Nat.reduceSub, Nat.reduceMul, Nat.reduceLeDiff, Nat.reduceEqDiff, Nat.reduceLT, Nat.reduceBEq, Nat.reduceBNe, Nat.reducePow, ↓reduceIte] <;> omega) | fail) only [go_sem, Nat.reduceAdd, Nat.reduceSub, Nat.reduceMul, Nat.reduceLeDiff, Nat.reduceEqDiff, Nat.reduceLT, Nat.reduceBEq, Nat.reduceBNe, Nat.reducePow, ↓reduceIte, callA_pure mode_7, fit15_spec, callA_data mode_8, ht, ht2]
  | some n =>
    rw [hT] at ht
    simp only [Option.isSome_some, Option.getD_some] at ht
    cases hT2 : tree elems with
    | none =>
      rw [hT2] at ht2
      simp only [Option.isSome_none] at ht2
      simp (maxSteps := 200000) (disch := first | (simp only [go_sem, Nat.reduceAdd, Nat.reduceSub, Nat.reduceMul, Nat.reduceLeDiff, Nat.reduceEqDiff, Nat.reduceLT, Nat.reduceBEq, Nat.reduceBNe, Nat.reducePow, ↓reduceIte]; done) | omega | (simp only [go_sem, Nat.reduceAdd, Nat.reduceSub, Nat.reduceMul, Nat.reduceLeDiff, Nat.reduceEqDiff, Nat.reduceLT, Nat.reduceBEq, Nat.reduceBNe, Nat.reducePow, ↓reduceIte] <;> omega) | fail) only [go_sem, Nat.reduceAdd, Nat.reduceSub, Nat.reduceMul, Nat.reduceLeDiff, Nat.reduceEqDiff, Nat.reduceLT, Nat.reduceBEq, Nat.reduceBNe, Nat.reducePow, ↓reduceIte, callA_pure mode_7, fit15_spec, callA_data mode_8, ht, ht2]
    | some m =>
      rw [hT2] at ht2
      simp only [Option.isSome_some, Option.getD_some] at ht2
      obtain ⟨_, tc1, tc2⟩ := tree_some hT
      obtain ⟨_, tm1, tm2⟩ := tree_some hT2
      obtain ⟨hb1, hb2⟩ := saidAs (tree_tr hT2) tm2 0
      simp only [aChs] at hb2
      have hap := applyS n (cNl 0 m) (by omega) (by rw [sz_cNl]; omega)
      have ze : ((0 : Int) = 0) = True := eq_true rfl
      rcases nones_plain wf_schema kf_schema (tree_tr hT) (tree_tr hT2) with hA | hA
      · rw [hA] at hap
        simp only [aAp] at hap
        have heq := modelEqual_spec (cntL n + 1) n n (Nat.lt_succ_self _) (by omega)
        simp only [decide_true] at heq
        simp (maxSteps := 200000) (disch := first | (simp only [go_sem, Nat.reduceAdd, Nat.reduceSub, Nat.reduceMul, Nat.reduceLeDiff, Nat.reduceEqDiff, Nat.reduceLT, Nat.reduceBEq, Nat.reduceBNe, Nat.reducePow, ↓reduceIte]; done) | omega | (simp only [go_sem, Nat.reduceAdd, Nat.reduceSub, Nat.reduceMul, Nat.reduceLeDiff, Nat.reduceEqDiff, Nat.reduceLT, Nat.reduceBEq, Nat.reduceBNe, Nat.reducePow, ↓reduceIte] <;> omega) | fail) only [go_sem, Nat.reduceAdd, Nat.reduceSub, Nat.reduceMul, Nat.reduceLeDiff, Nat.reduceEqDiff, Nat.reduceLT, Nat.reduceBEq, Nat.reduceBNe, Nat.reducePow, ↓reduceIte, callA_pure mode_7, fit15_spec, callA_data mode_8, ht, ht2, callA_data mode_10, schema_spec, callA_data mode_14, hb1, callA_data mode_11, hb2, callA_data mode_12, hap, ze, callA_pure mode_15, heq, ne_eq, not_true]
      · rw [hA] at hap
        simp only [aAp] at hap
        have z16 : ((16 : Int) = 0) = False := eq_false (by decide)
        have y16 : ((16 : Int) = 16) = True := eq_true rfl
        simp (maxSteps := 200000) (disch := first | (simp only [go_sem, Nat.reduceAdd, Nat.reduceSub, Nat.reduceMul, Nat.reduceLeDiff, Nat.reduceEqDiff, Nat.reduceLT, Nat.reduceBEq, Nat.reduceBNe, Nat.reducePow, ↓reduceIte]; done) | omega | (simp only [go_sem, Nat.reduceAdd, Nat.reduceSub, Nat.reduceMul, Nat.reduceLeDiff, Nat.reduceEqDiff, Nat.reduceLT, Nat.reduceBEq, Nat.reduceBNe, Nat.reducePow, ↓reduceIte] <;> omega) | fail) only [go_sem, Nat.reduceAdd, Nat.reduceSub, Nat.reduceMul, Nat.reduceLeDiff, Nat.reduceEqDiff, Nat.reduceLT, Nat.reduceBEq, Nat.reduceBNe, Nat.reducePow, ↓reduceIte, callA_pure mode_7, fit15_spec, callA_data mode_8, ht, ht2, callA_data mode_10, schema_spec, callA_data mode_14, hb1, callA_data mode_11, hb2, callA_data mode_12, hap, ze, z16, y16, ne_eq, not_true, decide_true]
/-- A place among so many. -/
theorem place_rem (a : Int) {n : Nat} (hn : 0 < n) (hb : n ≤ 1000000) (h1 : -9223372036854775808 ≤ a) (h2 : a ≤ 9223372036854775807) : ∃ i : Nat, i < n ∧ (IntKind.i64.wrap (a.tmod (n : Int) + (n : Int))).tmod (n : Int) = (i : Int) := by
  have hlt : (a.tmod (n : Int)).natAbs < n := by
    have := Int.natAbs_tmod a (n : Int)
    rw [this, Int.natAbs_natCast]
    exact Nat.mod_lt _ hn
  rw [IntWalk.i64_in _ (by omega)]
  have h0 : 0 ≤ a.tmod (n : Int) + (n : Int) := by omega
  obtain ⟨k, hk⟩ := Int.eq_ofNat_of_zero_le h0
  rw [hk]
  exact ⟨k % n, Nat.mod_lt _ hn, by rw [Int.tmod_eq_emod_of_nonneg (by omega)]; exact (Int.natCast_emod k n).symm⟩
/-- What the laws' act answers. -/
theorem act_spec (t : List Node) (x : Node) (op : Int) (es : List Elem) (he : pureW XX 11 [lD schema, lE es, vI op] = some (aChs (.ok [cNn op x]))) (ha : pureW XX 12 [lD schema, lN t, lC [cNn op x]] = some (aAp (apD schema t [cNn op x]))) :
    pureW XX 18 [lN t, vI op, .fp [lD schema], .fp [lE es]] = some (aAp (apD schema t [cNn op x])) := by
  simp only [aChs] at he
  have ze : ((0 : Int) = 0) = True := eq_true rfl
  obtain ⟨C, hC⟩ : ∃ C, C = [cNn op x] := ⟨_, rfl⟩
  rw [← hC] at he ha ⊢
  refine pureW_in 26 Tryd.func18 Tryd.ntmps18 (by simp) (rfl : Tryd.f18.body = some _) fns_18 ?_
  cases hA : apD schema t C with
  | error e =>
    rw [hA] at ha
    simp only [aAp] at ha
    simp (maxSteps := 200000) (disch := first | (simp only [go_sem, Nat.reduceAdd, Nat.reduceSub, Nat.reduceMul, Nat.reduceLeDiff, Nat.reduceEqDiff, Nat.reduceLT, Nat.reduceBEq, Nat.reduceBNe, Nat.reducePow, ↓reduceIte]; done) | omega | (simp only [go_sem, Nat.reduceAdd, Nat.reduceSub, Nat.reduceMul, Nat.reduceLeDiff, Nat.reduceEqDiff, Nat.reduceLT, Nat.reduceBEq, Nat.reduceBNe, Nat.reducePow, ↓reduceIte] <;> omega) | fail) only [go_sem, Nat.reduceAdd, Nat.reduceSub, Nat.reduceMul, Nat.reduceLeDiff, Nat.reduceEqDiff, Nat.reduceLT, Nat.reduceBEq, Nat.reduceBNe, Nat.reducePow, ↓reduceIte, callA_data mode_11, he, ze, callA_data mode_12, ha, ne_eq, not_true]
    rfl
  | ok r =>
    rw [hA] at ha
    simp only [aAp] at ha
    simp (maxSteps := 200000) (disch := first | (simp only [go_sem, Nat.reduceAdd, Nat.reduceSub, Nat.reduceMul, Nat.reduceLeDiff, Nat.reduceEqDiff, Nat.reduceLT, Nat.reduceBEq, Nat.reduceBNe, Nat.reducePow, ↓reduceIte]; done) | omega | (simp only [go_sem, Nat.reduceAdd, Nat.reduceSub, Nat.reduceMul, Nat.reduceLeDiff, Nat.reduceEqDiff, Nat.reduceLT, Nat.reduceBEq, Nat.reduceBNe, Nat.reducePow, ↓reduceIte] <;> omega) | fail) only [go_sem, Nat.reduceAdd, Nat.reduceSub, Nat.reduceMul, Nat.reduceLeDiff, Nat.reduceEqDiff, Nat.reduceLT, Nat.reduceBEq, Nat.reduceBNe, Nat.reducePow, ↓reduceIte, callA_data mode_11, he, ze, callA_data mode_12, ha, ne_eq, not_true]
    rfl
theorem removes_law (was : List Elem) (a : Int) (hok : okEs was) (hl : was.length ≤ 140737488355328) (h1 : -9223372036854775808 ≤ a) (h2 : a ≤ 9223372036854775807) : pureW XX 5 [lE was, vI a] = some (vB true) := by
  have ht := tree15_spec was hok hl
  unfold aTree at ht
  refine pureW_in 129 Tryd.func5 Tryd.ntmps5 (by simp) (rfl : Tryd.f5.body = some _) fns_5 ?_
  cases hT : tree was with
  | none =>
    rw [hT] at ht
    simp only [Option.isSome_none] at ht
    simp (maxSteps := 200000) (disch := first | (simp only [go_sem, Nat.reduceAdd, Nat.reduceSub, Nat.reduceMul, Nat.reduceLeDiff, Nat.reduceEqDiff, Nat.reduceLT, Nat.reduceBEq, Nat.reduceBNe, Nat.reducePow, ↓reduceIte]; done) | omega | (simp only [go_sem, Nat.reduceAdd, Nat.reduceSub, Nat.reduceMul, Nat.reduceLeDiff, Nat.reduceEqDiff, Nat.reduceLT, Nat.reduceBEq, Nat.reduceBNe, Nat.reducePow, ↓reduceIte] <;> omega) | fail) only [go_sem, Nat.reduceAdd, Nat.reduceSub, Nat.reduceMul, Nat.reduceLeDiff, Nat.reduceEqDiff, Nat.reduceLT, Nat.reduceBEq, Nat.reduceBNe, Nat.reducePow, ↓reduceIte, callA_pure mode_7, fit15_spec, callA_data mode_8, ht]
  | some n =>
    rw [hT] at ht
    simp only [Option.isSome_some, Option.getD_some] at ht
    obtain ⟨_, tc1, tc2⟩ := tree_some hT
    have hln := len_cnt n
    by_cases h0 : n.length = 0
    · have h0' : (((n.length : Nat) : Int) = 0) = True := eq_true (by omega)
      simp (maxSteps := 200000) (disch := first | (simp only [go_sem, Nat.reduceAdd, Nat.reduceSub, Nat.reduceMul, Nat.reduceLeDiff, Nat.reduceEqDiff, Nat.reduceLT, Nat.reduceBEq, Nat.reduceBNe, Nat.reducePow, ↓reduceIte]; done) | omega | (simp only [go_sem, Nat.reduceAdd, Nat.reduceSub, Nat.reduceMul, Nat.reduceLeDiff, Nat.reduceEqDiff, Nat.reduceLT, Nat.reduceBEq, Nat.reduceBNe, Nat.reducePow, ↓reduceIte] <;> omega) | fail) only [go_sem, Nat.reduceAdd, Nat.reduceSub, Nat.reduceMul, Nat.reduceLeDiff, Nat.reduceEqDiff, Nat.reduceLT, Nat.reduceBEq, Nat.reduceBNe, Nat.reducePow, ↓reduceIte, callA_pure mode_7, fit15_spec, callA_data mode_8, ht, h0']
    have h0' : (((n.length : Nat) : Int) = 0) = False := eq_false (by omega)
    obtain ⟨i, hi, hrem⟩ := place_rem a (n := n.length) (by omega) (by omega) h1 h2
    have htr := tree_tr hT
    have hg := gdL_iff.1 htr.gd _ (List.getElem_mem hi)
    have hcx : cntN n[i] ≤ 300 := by have := cnt_mem (List.getElem_mem hi); omega
    have hone : Tr schema [n[i]] := ⟨by rw [gdL_iff]; intro x hx; rw [List.mem_singleton.1 hx]; exact hg, List.pairwise_singleton _ _, Srt.Ord.one (lt := before schema) n[i], by simp⟩
    have hc1 : cntL [n[i]] = cntN n[i] := by rw [cntL_cons]; simp [cntL]
    obtain ⟨es, hes⟩ : ∃ es, es = [n[i]].map (elemN ⟨#[]⟩) := ⟨_, rfl⟩
    have said : ∀ op, pureW XX 11 [lD schema, lE es, vI op] = some (aChs (.ok [cNn op n[i]])) := fun op => by
      have := (saidAs hone (by omega) op).2
      rw [hes]; exact this
    have hel : pureW XX 14 [.fs (((n.take (i + 1)).drop i).map eNode) false, vS ⟨#[]⟩] = some (lE es) := by
      rw [show (n.take (i + 1)).drop i = [n[i]] by rw [List.drop_take, Nat.add_sub_cancel_left, List.drop_eq_getElem_cons hi]; rfl, hes]; exact (saidAs hone (by omega) 0).1
    have hce : ∀ op, szCl [cNn op n[i]] ≤ 1000 := fun op => by rw [szCl, sz_cNn]; simp [szCl]; omega
    have her : cntL (n.eraseIdx i) ≤ 300 := by have := cnt_erase n i; omega
    have act : ∀ t op, cntL t ≤ 300 → pureW XX 18 [lN t, vI op, .fp [lD schema], .fp [lE es]] = some (aAp (apD schema t [cNn op n[i]])) := fun t op htc => act_spec t n[i] op es (said op) (applyS t _ (by omega) (hce op))
    have a1 := act n 5 tc2
    have a2 := act (n.eraseIdx i) 5 her
    have a3 := act n 4 tc2
    have a4 := act (n.eraseIdx i) 4 her
    have a5 := act (n.eraseIdx i) 3 her
    have a6 := act n 3 tc2
    rw [rem_here wf_schema kf_schema htr hi 5 (by omega)] at a1
    rw [rem_gone wf_schema kf_schema htr hi] at a2
    rw [rem_here wf_schema kf_schema htr hi 4 (by omega)] at a3
    rw [del_gone wf_schema kf_schema htr hi] at a4
    rw [cre_gone wf_schema kf_schema htr hi] at a5
    rw [cre_here wf_schema kf_schema htr hi] at a6
    obtain ⟨E, hE⟩ : ∃ E, E = n.eraseIdx i := ⟨_, rfl⟩
    rw [← hE] at a1 a2 a3 a4 a5 her
    have hlE : E.length = n.length - 1 := by rw [hE, List.length_eraseIdx, if_pos hi]
    have q1 := modelEqual_spec 1000 E E (by omega) (by omega)
    have q2 := modelEqual_spec 1000 n n (by omega) (by omega)
    simp only [decide_true] at q1 q2
    simp only [aAp] at a1 a2 a3 a4 a5 a6
    have hwi := wrap_succ hi (show n.length ≤ 140737488355328 by omega)
    have hws : IntKind.i64.wrap ((n.length : Int) - 1) = ((n.length : Int) - 1) := by rw [IntWalk.i64_in _ (by omega)]
    have hle : (((E.length : Nat) : Int) = ((n.length : Nat) : Int) - 1) = True := eq_true (by omega)
    have ze : ((0 : Int) = 0) = True := eq_true rfl
    have y16 : ((16 : Int) = 16) = True := eq_true rfl
    have y15 : ((15 : Int) = 15) = True := eq_true rfl
    have hi1 : i + 1 ≤ n.length := hi
    have hii : i ≤ i + 1 := by omega
    have hw0 : IntKind.i64.wrap 0 = 0 := by decide
    have hnz : ¬ ((n.length : Nat) : Int) = 0 := by omega
    clear hone said act hg htr hE
    simp (maxSteps := 200000) (disch := first | (simp only [go_sem, Nat.reduceAdd, Nat.reduceSub, Nat.reduceMul, Nat.reduceLeDiff, Nat.reduceEqDiff, Nat.reduceLT, Nat.reduceBEq, Nat.reduceBNe, Nat.reducePow, ↓reduceIte]; done) | omega | (simp only [go_sem, Nat.reduceAdd, Nat.reduceSub, Nat.reduceMul, Nat.reduceLeDiff, Nat.reduceEqDiff, Nat.reduceLT, Nat.reduceBEq, Nat.reduceBNe, Nat.reducePow, ↓reduceIte] <;> omega) | fail) only [go_sem, Nat.reduceAdd, Nat.reduceSub, Nat.reduceMul, Nat.reduceLeDiff, Nat.reduceEqDiff, Nat.reduceLT, Nat.reduceBEq, Nat.reduceBNe, Nat.reducePow, ↓reduceIte, callA_pure mode_7, fit15_spec, callA_data mode_8, ht, h0', callA_data mode_10, schema_spec, bin_rem, hnz, hrem, hwi, hi1, hii, callA_data mode_14, hel, callA_data mode_18, a1, a2, a3, a4, a5, a6, callA_pure mode_15, q1, q2, hws, hle, ze, y15, y16, hw0, Int.add_zero, decide_true]
theorem removes_lawW (was : List Elem) (a : Int) (hok : okEs was) (hl : was.length ≤ 140737488355328) (hw : (Lit.int .i64 a).wf = true) : pureW XX 5 [lE was, vI a] = some (vB true) := by
  have h3 : IntKind.i64.min ≤ a ∧ a ≤ IntKind.i64.max := by simpa [Lit.wf] using hw
  have e1 : IntKind.i64.min = -9223372036854775808 := rfl
  have e2 : IntKind.i64.max = 9223372036854775807 := rfl
  exact removes_law was a hok hl (by omega) (by omega)
theorem merges_law (was elems : List Elem) (hok : okEs was) (hl : was.length ≤ 140737488355328) (hok2 : okEs elems) (hl2 : elems.length ≤ 140737488355328) : pureW XX 4 [lE was, lE elems] = some (vB true) := by
  have ht := tree15_spec was hok hl
  have ht2 := tree15_spec elems hok2 hl2
  unfold aTree at ht ht2
  refine pureW_in 132 Tryd.func4 Tryd.ntmps4 (by simp) (rfl : Tryd.f4.body = some _) fns_4 ?_
  cases hT : tree was with
  | none =>
    rw [hT] at ht
    simp only [Option.isSome_none] at ht
    simp (maxSteps := 200000) (disch := first | (simp only [go_sem, Nat.reduceAdd, Nat.reduceSub, Nat.reduceMul, Nat.reduceLeDiff, Nat.reduceEqDiff, Nat.reduceLT, Nat.reduceBEq, Nat.reduceBNe, Nat.reducePow, ↓reduceIte]; done) | omega | (simp only [go_sem, Nat.reduceAdd, Nat.reduceSub, Nat.reduceMul, Nat.reduceLeDiff, Nat.reduceEqDiff, Nat.reduceLT, Nat.reduceBEq, Nat.reduceBNe, Nat.reducePow, ↓reduceIte] <;> omega) | fail) only [go_sem, Nat.reduceAdd, Nat.reduceSub, Nat.reduceMul, Nat.reduceLeDiff, Nat.reduceEqDiff, Nat.reduceLT, Nat.reduceBEq, Nat.reduceBNe, Nat.reducePow, ↓reduceIte, callA_pure mode_7, fit15_spec, callA_data mode_8, ht, ht2]
  | some n =>
    rw [hT] at ht
    simp only [Option.isSome_some, Option.getD_some] at ht
    cases hT2 : tree elems with
    | none =>
      rw [hT2] at ht2
      simp only [Option.isSome_none] at ht2
      simp (maxSteps := 200000) (disch := first | (simp only [go_sem, Nat.reduceAdd, Nat.reduceSub, Nat.reduceMul, Nat.reduceLeDiff, Nat.reduceEqDiff, Nat.reduceLT, Nat.reduceBEq, Nat.reduceBNe, Nat.reducePow, ↓reduceIte]; done) | omega | (simp only [go_sem, Nat.reduceAdd, Nat.reduceSub, Nat.reduceMul, Nat.reduceLeDiff, Nat.reduceEqDiff, Nat.reduceLT, Nat.reduceBEq, Nat.reduceBNe, Nat.reducePow, ↓reduceIte] <;> omega) | fail) only [go_sem, Nat.reduceAdd, Nat.reduceSub, Nat.reduceMul, Nat.reduceLeDiff, Nat.reduceEqDiff, Nat.reduceLT, Nat.reduceBEq, Nat.reduceBNe, Nat.reducePow, ↓reduceIte, callA_pure mode_7, fit15_spec, callA_data mode_8, ht, ht2]
    | some m =>
      rw [hT2] at ht2
      simp only [Option.isSome_some, Option.getD_some] at ht2
      obtain ⟨_, tc1, tc2⟩ := tree_some hT
      obtain ⟨_, tm1, tm2⟩ := tree_some hT2
      have htr := tree_tr hT
      have hmr := tree_tr hT2
      obtain ⟨hb1, hb2⟩ := saidAs hmr tm2 1
      obtain ⟨_, hb3⟩ := saidAs hmr tm2 2
      simp only [aChs] at hb2 hb3
      have hp1 := applyS [] (cNl 1 m) (by decide) (by rw [sz_cNl]; omega)
      have hp2 := applyS m (cNl 1 m) (by omega) (by rw [sz_cNl]; omega)
      have hp3 := applyS n (cNl 2 m) (by omega) (by rw [sz_cNl]; omega)
      rw [merge_nil wf_schema kf_schema hmr] at hp1
      rw [merge_self wf_schema kf_schema hmr] at hp2
      simp only [aAp] at hp1 hp2
      rw [show lN [] = AV.fs [] false from rfl] at hp1
      have heq := modelEqual_spec (cntL m + 1) m m (Nat.lt_succ_self _) (by omega)
      simp only [decide_true] at heq
      have ze : ((0 : Int) = 0) = True := eq_true rfl
      have hw0 : IntKind.i64.wrap 0 = 0 := by decide
      rcases repl_plain wf_schema kf_schema htr hmr with hA | ⟨x, hA, hxt, hxm⟩
      · rw [hA] at hp3
        simp only [aAp] at hp3
        have z2 : ((2 : Int) = 2) = True := eq_true rfl
        simp (maxSteps := 200000) (disch := first | (simp only [go_sem, Nat.reduceAdd, Nat.reduceSub, Nat.reduceMul, Nat.reduceLeDiff, Nat.reduceEqDiff, Nat.reduceLT, Nat.reduceBEq, Nat.reduceBNe, Nat.reducePow, ↓reduceIte]; done) | omega | (simp only [go_sem, Nat.reduceAdd, Nat.reduceSub, Nat.reduceMul, Nat.reduceLeDiff, Nat.reduceEqDiff, Nat.reduceLT, Nat.reduceBEq, Nat.reduceBNe, Nat.reducePow, ↓reduceIte] <;> omega) | fail) only [go_sem, Nat.reduceAdd, Nat.reduceSub, Nat.reduceMul, Nat.reduceLeDiff, Nat.reduceEqDiff, Nat.reduceLT, Nat.reduceBEq, Nat.reduceBNe, Nat.reducePow, ↓reduceIte, callA_pure mode_7, fit15_spec, callA_data mode_8, ht, ht2, callA_data mode_10, schema_spec, callA_data mode_14, hb1, callA_data mode_11, hb2, hb3, callA_data mode_12, hp1, hp2, hp3, ze, z2, hw0, Int.add_zero, callA_pure mode_15, heq, ne_eq, not_true, decide_true]
      · have hxc := apD_cnt kf_schema hA
        rw [sz_cNl] at hxc
        rw [hA] at hp3
        simp only [aAp] at hp3
        have z2 : ((0 : Int) = 2) = False := eq_false (by decide)
        have hml := len_cnt m
        have hxl := len_cnt x
        simp (maxSteps := 200000) (disch := first | (simp only [go_sem, Nat.reduceAdd, Nat.reduceSub, Nat.reduceMul, Nat.reduceLeDiff, Nat.reduceEqDiff, Nat.reduceLT, Nat.reduceBEq, Nat.reduceBNe, Nat.reducePow, ↓reduceIte]; done) | omega | (simp only [go_sem, Nat.reduceAdd, Nat.reduceSub, Nat.reduceMul, Nat.reduceLeDiff, Nat.reduceEqDiff, Nat.reduceLT, Nat.reduceBEq, Nat.reduceBNe, Nat.reducePow, ↓reduceIte] <;> omega) | fail) only [go_sem, Nat.reduceAdd, Nat.reduceSub, Nat.reduceMul, Nat.reduceLeDiff, Nat.reduceEqDiff, Nat.reduceLT, Nat.reduceBEq, Nat.reduceBNe, Nat.reducePow, ↓reduceIte, callA_pure mode_7, fit15_spec, callA_data mode_8, ht, ht2, callA_data mode_10, schema_spec, callA_data mode_14, hb1, callA_data mode_11, hb2, hb3, callA_data mode_12, hp1, hp2, hp3, ze, z2, hw0, Int.add_zero, callA_pure mode_15, heq, ne_eq, not_true, decide_true]
        refine WP_range 18 0 m.length (fun i => S_4_18 (lD schema) (vI 0) (lN x) (lN m) (vI m.length) (vI i) []) (fun _ => True) rfl rfl ?_ ?_ ?_ ?_
        · simp (maxSteps := 200000) (disch := first | (simp only [go_sem, Nat.reduceAdd, Nat.reduceSub, Nat.reduceMul, Nat.reduceLeDiff, Nat.reduceEqDiff, Nat.reduceLT, Nat.reduceBEq, Nat.reduceBNe, Nat.reducePow, ↓reduceIte]; done) | omega | (simp only [go_sem, Nat.reduceAdd, Nat.reduceSub, Nat.reduceMul, Nat.reduceLeDiff, Nat.reduceEqDiff, Nat.reduceLT, Nat.reduceBEq, Nat.reduceBNe, Nat.reducePow, ↓reduceIte] <;> omega) | fail) only [go_sem, Nat.reduceAdd, Nat.reduceSub, Nat.reduceMul, Nat.reduceLeDiff, Nat.reduceEqDiff, Nat.reduceLT, Nat.reduceBEq, Nat.reduceBNe, Nat.reducePow, ↓reduceIte]; rfl
        · trivial
        · intro i h _
          have hws := wrap_succ h (show m.length ≤ 140737488355328 by omega)
          have hkm := List.getElem_mem h
          obtain ⟨d, d1, d2⟩ := gdN_def (gdL_iff.1 hmr.gd _ hkm)
          obtain ⟨j, p1, p2⟩ := place_of wf_schema d1
          obtain ⟨hj, _⟩ := place_some p1
          have hjd : schema[j] = d := by rw [List.getElem?_eq_getElem hj] at p2; exact Option.some.inj p2
          have pl := find_spec schema m[i].name (by decide)
          rw [d2, p1] at pl
          simp only [posI] at pl
          rw [← d2] at pl
          obtain ⟨a, ha, hs, hxa⟩ := sameAt_mem wf_schema d1 hxt.ds (hxm _ hkm) d2
          obtain ⟨o1, o2, o3, o4⟩ := okD_s (okDs_mem okDs_schema d1)
          have hsm := modelSame_spec d x m[i] o2 (by have := cnt_mem hkm; rw [cntN_s] at this; have := len_cnt m[i].kids; omega) (by omega) (fun y hy => by have := cnt_mem hy; rw [cntN_s] at this; have := len_cnt y.kids; omega)
          rw [hs] at hsm
          simp only [posI] at hsm
          rw [← hjd] at hsm
          have n1 : ((a : Int) < 0) = False := eq_false (by omega)
          have hwa := wrap_succ ha (show x.length ≤ 140737488355328 by omega)
          have ha1 : a + 1 ≤ x.length := ha
          have haa : a ≤ a + 1 := by omega
          have heq2 : pureW XX 15 [.fs (((x.take (a + 1)).drop a).map eNode) false, .fs [[vS m[i].name, vS m[i].value, .fs (m[i].kids.map eNode) false]] false] = some (vB true) := by
            have := modelEqual_spec (cntL [m[i]] + 1) [m[i]] [m[i]] (Nat.lt_succ_self _) (by have := cnt_mem hkm; rw [cntL_cons]; simp [cntL]; omega)
            simp only [decide_true] at this
            rw [show (x.take (a + 1)).drop a = [m[i]] by rw [List.drop_take, Nat.add_sub_cancel_left, List.drop_eq_getElem_cons ha, hxa]; rfl]
            rw [show AV.fs [[vS m[i].name, vS m[i].value, .fs (m[i].kids.map eNode) false]] false = lN [m[i]] by rw [lN, List.map_cons, List.map_nil, eNode_s]]
            exact this
          simp (maxSteps := 200000) (disch := first | (simp only [go_sem, Nat.reduceAdd, Nat.reduceSub, Nat.reduceMul, Nat.reduceLeDiff, Nat.reduceEqDiff, Nat.reduceLT, Nat.reduceBEq, Nat.reduceBNe, Nat.reducePow, ↓reduceIte]; done) | omega | (simp only [go_sem, Nat.reduceAdd, Nat.reduceSub, Nat.reduceMul, Nat.reduceLeDiff, Nat.reduceEqDiff, Nat.reduceLT, Nat.reduceBEq, Nat.reduceBNe, Nat.reducePow, ↓reduceIte] <;> omega) | fail) only [go_sem, Nat.reduceAdd, Nat.reduceSub, Nat.reduceMul, Nat.reduceLeDiff, Nat.reduceEqDiff, Nat.reduceLT, Nat.reduceBEq, Nat.reduceBNe, Nat.reducePow, ↓reduceIte, nat_int, h, hj, eNode_s, eDef_s, callA_pure mode_17, pl, callA_pure mode_16, hsm, n1, hwa, ha1, haa, callA_pure mode_15, heq2, hws]
          rw [gcK_mkT (by simp only [go_sem, Nat.reduceAdd, Nat.reduceSub, Nat.reduceMul, Nat.reduceLeDiff, Nat.reduceEqDiff, Nat.reduceLT, Nat.reduceBEq, Nat.reduceBNe, Nat.reducePow, ↓reduceIte]) (by simp only [go_sem, Nat.reduceAdd, Nat.reduceSub, Nat.reduceMul, Nat.reduceLeDiff, Nat.reduceEqDiff, Nat.reduceLT, Nat.reduceBEq, Nat.reduceBNe, Nat.reducePow, ↓reduceIte])]
          rfl
        · intro _
          simp (maxSteps := 200000) (disch := first | (simp only [go_sem, Nat.reduceAdd, Nat.reduceSub, Nat.reduceMul, Nat.reduceLeDiff, Nat.reduceEqDiff, Nat.reduceLT, Nat.reduceBEq, Nat.reduceBNe, Nat.reducePow, ↓reduceIte]; done) | omega | (simp only [go_sem, Nat.reduceAdd, Nat.reduceSub, Nat.reduceMul, Nat.reduceLeDiff, Nat.reduceEqDiff, Nat.reduceLT, Nat.reduceBEq, Nat.reduceBNe, Nat.reducePow, ↓reduceIte] <;> omega) | fail) only [go_sem, Nat.reduceAdd, Nat.reduceSub, Nat.reduceMul, Nat.reduceLeDiff, Nat.reduceEqDiff, Nat.reduceLT, Nat.reduceBEq, Nat.reduceBNe, Nat.reducePow, ↓reduceIte, nat_int, ze]
end Go.Abs.SA
end
