/- YtmjhgjgfinhiaaaDoorA9: a part of the interpreter by which the claim is shown, and of the walks: no conditions of its own: every theorem states its own. -/
import Derived.Test.YtmjhgjgfinhiaaaDoorA8
section
set_option linter.unusedVariables false
set_option linter.unusedSimpArgs false
set_option linter.unusedSectionVars false
set_option maxRecDepth 100000
set_option maxHeartbeats 4000000
set_option linter.unusedSimpArgs false
set_option linter.unusedVariables false
namespace Go.Abs.SA
open Go.Proofs

/-! Plain: what a node is told by. -/
def idN (l : List Def) (x : Node) : Str × List Str := (x.name, keyL l x)
theorem place_of {l : List Def} (hw : wfDs l) {d : Def} (hd : d ∈ l) : ∃ i, place l d.name = some i ∧ l[i]? = some d := by
  cases h : place l d.name with
  | none =>
    unfold place at h
    rw [List.findIdx?_eq_none_iff] at h
    have := h d hd
    simp at this
  | some i =>
    obtain ⟨hi, hn⟩ := place_some h
    refine ⟨i, rfl, ?_⟩
    rw [List.getElem?_eq_getElem hi, wfDs_inj hw (List.getElem_mem hi) hd hn]
theorem keyL_of {l : List Def} (hw : wfDs l) {d : Def} (hd : d ∈ l) {x : Node} (hx : x.name = d.name) : keyL l x = keyD d x := by
  obtain ⟨i, h1, h2⟩ := place_of hw hd
  unfold keyL
  rw [hx, h1]
  simp only [h2]
theorem sameN_id {l : List Def} (hw : wfDs l) {d : Def} (hd : d ∈ l) {n x : Node} (hn : n.name = d.name) : sameN d n x = true ↔ idN l x = idN l n := by
  rw [sameN_iff]
  unfold idN
  rw [Prod.mk.injEq, keyL_of hw hd hn]
  constructor
  · rintro ⟨h1, h2⟩
    exact ⟨h1, by rw [keyL_of hw hd (h1.trans hn)]; exact h2⟩
  · rintro ⟨h1, h2⟩
    exact ⟨h1, by rw [keyL_of hw hd (h1.trans hn)] at h2; exact h2⟩
/-- No two of them are the same one. -/
def dst (l : List Def) (ns : List Node) : Prop := ns.Pairwise fun a b => idN l a ≠ idN l b
theorem place_inj {l : List Def} {a b : Str} {d : Def} (hd : d ∈ l) (ha : a = d.name) (h : posI (place l a) = posI (place l b)) : a = b := by
  cases h1 : place l a with
  | none =>
    unfold place at h1
    rw [List.findIdx?_eq_none_iff] at h1
    have := h1 d hd
    simp [ha] at this
  | some i =>
    cases h2 : place l b with
    | none => rw [h1, h2] at h; simp only [posI] at h; omega
    | some j =>
      rw [h1, h2] at h
      simp only [posI] at h
      have : i = j := by omega
      subst this
      obtain ⟨_, e1⟩ := place_some h1
      obtain ⟨_, e2⟩ := place_some h2
      exact e1.symm.trans e2
theorem before_id {l : List Def} {a b : Node} {d : Def} (hd : d ∈ l) (ha : a.name = d.name) (h1 : before l a b = false) (h2 : before l b a = false) : idN l a = idN l b := by
  rw [← Bool.not_eq_true, before_iff] at h1 h2
  have hp : posI (place l a.name) = posI (place l b.name) := by omega
  have hn := place_inj hd ha hp
  have hk : cmp2 (keyL l a) (keyL l b) = 0 := by
    have := cmp2_neg (keyL l a) (keyL l b)
    have := cmp2_neg (keyL l b) (keyL l a)
    rw [hp] at h1 h2
    have k1 : ¬ cmp2 (keyL l a) (keyL l b) < 0 := fun h => h1 (.inr ⟨rfl, h⟩)
    have k2 : ¬ cmp2 (keyL l b) (keyL l a) < 0 := fun h => h2 (.inr ⟨rfl, h⟩)
    omega
  unfold idN
  rw [hn, (cmp2_zero _ _).1 hk]
theorem dst_eq {l : List Def} {ns : List Node} (h : dst l ns) {a b : Node} (ha : a ∈ ns) (hb : b ∈ ns) (he : idN l a = idN l b) : a = b := by
  induction h with
  | nil => cases ha
  | @cons x r h1 h2 ih =>
    rcases List.mem_cons.1 ha with e1 | ha'
    · rcases List.mem_cons.1 hb with e2 | hb'
      · rw [e1, e2]
      · rw [e1] at he; exact absurd he (h1 b hb')
    · rcases List.mem_cons.1 hb with e2 | hb'
      · rw [e2] at he; exact absurd he.symm (h1 a ha')
      · exact ih ha' hb'
theorem dst_perm {l : List Def} {a b : List Node} (h : a.Perm b) (g : dst l a) : dst l b := h.pairwise g (fun h => Ne.symm h)
/-- One order alone. -/
theorem order_uniq {l : List Def} {a b : List Node} (hp : a.Perm b) (hd : dst l a) (hn : ∀ x ∈ a, ∃ d ∈ l, x.name = d.name) (ho : Srt.Ord (before l) b) : order l a = b := by
  have h1 : Srt.Ord (before l) (order l a) := by rw [order_srt]; exact Srt.ord_srt (wk_before l) a
  have h2 : (order l a).Perm b := (order_perm l a).trans hp
  refine List.Perm.eq_of_pairwise (le := fun a b => before l b a = false) (fun x y hx hy e1 e2 => ?_) h1 ho h2
  have hxa := (order_perm l a).mem_iff.1 hx
  have hya := hp.mem_iff.2 hy
  obtain ⟨d, hd1, hd2⟩ := hn x hxa
  exact dst_eq hd hxa hya (before_id hd1 hd2 e2 e1)
theorem order_ord {l : List Def} {a : List Node} (h : Srt.Ord (before l) a) : order l a = a := by rw [order_srt]; exact Srt.srt_ord (wk_before l) h
theorem ord_order (l : List Def) (a : List Node) : Srt.Ord (before l) (order l a) := by rw [order_srt]; exact Srt.ord_srt (wk_before l) a

mutual
/-- A node of a tree. -/
def gdN (l : List Def) : Node → Prop
  | .mk n v k => ∃ d, d ∈ l ∧ n = d.name ∧ (d.kind = 3 → k = [] ∧ valueM d v = true) ∧ (d.kind ≠ 3 → v = ⟨#[]⟩ ∧ gdL d.kids k ∧ dst d.kids k ∧ Srt.Ord (before d.kids) k ∧ k.length ≤ 256 ∧ (d.kind = 1 → k ≠ []) ∧ (keyOf d (.mk n v k)).isSome = true)
def gdL (l : List Def) : List Node → Prop
  | [] => True
  | x :: r => gdN l x ∧ gdL l r
end
theorem gdN_s {l : List Def} {x : Node} : gdN l x ↔ ∃ d, d ∈ l ∧ x.name = d.name ∧ (d.kind = 3 → x.kids = [] ∧ valueM d x.value = true) ∧ (d.kind ≠ 3 → x.value = ⟨#[]⟩ ∧ gdL d.kids x.kids ∧ dst d.kids x.kids ∧ Srt.Ord (before d.kids) x.kids ∧ x.kids.length ≤ 256 ∧ (d.kind = 1 → x.kids ≠ []) ∧ (keyOf d x).isSome = true) := by
  cases x; rw [gdN]; rfl
theorem gdL_iff {l : List Def} : ∀ {a : List Node}, gdL l a ↔ ∀ x ∈ a, gdN l x
  | [] => by simp [gdL]
  | x :: r => by rw [gdL, gdL_iff (a := r)]; simp
theorem gdN_def {l : List Def} {x : Node} (h : gdN l x) : ∃ d ∈ l, x.name = d.name := by
  obtain ⟨d, h1, h2, _⟩ := gdN_s.1 h
  exact ⟨d, h1, h2⟩
/-- A tree. -/
structure Tr (l : List Def) (ns : List Node) : Prop where
  gd : gdL l ns
  ds : dst l ns
  or : Srt.Ord (before l) ns
  le : ns.length ≤ 256
/-- Why a tree is read again as it is. -/
theorem back_loop {l : List Def} (hw : wfDs l) (sp : Str) :
    ∀ (r a : List Node), (∀ x ∈ r, ∃ d ∈ l, x.name = d.name ∧ (d.kind ≠ 1 ∨ x.kids ≠ []) ∧ rdE l (elemN sp x) = .ok (d, x)) → dst l (a ++ r) → (a ++ r).length ≤ 256 → rdL l a a (r.map (elemN sp)) = .ok (order l (a ++ r))
  | [], a, _, hd, hl => by rw [List.map_nil, rdL_nil, List.append_nil, if_neg (by rw [List.append_nil] at hl; omega)]
  | x :: r, a, ih, hd, hl => by
    obtain ⟨d, d1, d2, d3, d4⟩ := ih x (by simp)
    rw [List.map_cons, rdL_cons, d4]
    simp only
    have hs : sameAt d a x = none := by
      unfold sameAt
      rw [List.findIdx?_eq_none_iff]
      intro y hy
      rw [← Bool.not_eq_true, sameN_id hw d1 d2]
      have := List.pairwise_append.1 hd
      exact this.2.2 y hy x (by simp)
    rw [hs]
    simp only [Option.isSome_none, Bool.false_eq_true, ↓reduceIte, if_pos d3]
    have := back_loop hw sp r (a ++ [x]) (fun y hy => ih y (List.mem_cons_of_mem _ hy)) (by simpa using hd) (by simpa using hl)
    simpa using this
theorem back_one (sp : Str) : ∀ (k : Nat) (l : List Def) (x : Node), cntN x < k → wfDs l → gdN l x → ∃ d ∈ l, x.name = d.name ∧ (d.kind ≠ 1 ∨ x.kids ≠ []) ∧ rdE l (elemN sp x) = .ok (d, x)
  | 0, l, x, h, _, _ => by omega
  | k + 1, l, x, h, hw, hg => by
    obtain ⟨d, d1, d2, d3, d4⟩ := gdN_s.1 hg
    obtain ⟨i, p1, p2⟩ := place_of hw d1
    refine ⟨d, d1, d2, ?_, ?_⟩
    · by_cases h1 : d.kind = 1
      · exact .inr ((d4 (by omega)).2.2.2.2.2.1 h1)
      · exact .inl h1
    · rw [elemN_s, rdE, d2, p1]
      simp only [p2]
      by_cases h3 : d.kind = 3
      · obtain ⟨q1, q2⟩ := d3 h3
        rw [if_pos h3, if_neg (by rw [q1, q2]; simp)]
        rw [← d2, ← q1, node_mk]
      · obtain ⟨q1, q2, q3, q4, q5, q6, q7⟩ := d4 h3
        rw [if_neg h3, if_neg (by rw [q1]; simp)]
        rw [cntN_k] at h
        have hwk : wfDs d.kids := by have := wfDs_mem hw d1; rwa [wfD_s] at this
        have hb := back_loop hwk sp x.kids [] (fun y hy => back_one sp k d.kids y (by have := cnt_mem hy; omega) hwk (gdL_iff.1 q2 y hy)) (by simpa using q3) (by simpa using q5)
        rw [hb, List.nil_append, order_ord q4]
        simp only
        have e : Node.mk d.name ⟨#[]⟩ x.kids = x := by rw [← d2, ← q1, node_mk]
        rw [e, if_pos q7]
theorem back_ok {l : List Def} (hw : wfDs l) (sp : Str) {ns : List Node} (h : Tr l ns) : rdL l [] [] (ns.map (elemN sp)) = .ok ns := by
  have := back_loop hw sp ns [] (fun y hy => back_one sp (cntN y + 1) l y (Nat.lt_succ_self _) hw (gdL_iff.1 h.gd y hy)) (by simpa using h.ds) (by simpa using h.le)
  rw [this, List.nil_append, order_ord h.or]
end Go.Abs.SA
end

section
set_option linter.unusedVariables false
set_option linter.unusedSimpArgs false
set_option linter.unusedSectionVars false
set_option maxRecDepth 100000
set_option maxHeartbeats 4000000
set_option linter.unusedSimpArgs false
set_option linter.unusedVariables false
namespace Go.Abs.SA
open Go.Proofs

/-! What is read is a tree; elements as changes. -/
theorem dst_snoc {l : List Def} {a : List Node} {x : Node} (h : dst l a) (g : ∀ y ∈ a, idN l y ≠ idN l x) : dst l (a ++ [x]) :=
  List.pairwise_append.2 ⟨h, List.pairwise_singleton _ _, fun y hy z hz => by rw [List.mem_singleton.1 hz]; exact g y hy⟩
theorem wf_kids {l : List Def} (hw : wfDs l) {d : Def} (hd : d ∈ l) : wfDs d.kids := by have := wfDs_mem hw hd; rwa [wfD_s] at this
theorem sameAt_none {l : List Def} (hw : wfDs l) {d : Def} (hd : d ∈ l) {a : List Node} {x : Node} (hx : x.name = d.name) : sameAt d a x = none ↔ ∀ y ∈ a, idN l y ≠ idN l x := by
  unfold sameAt
  rw [List.findIdx?_eq_none_iff]
  constructor
  · intro h y hy he
    have := h y hy
    rw [(sameN_id hw hd hx).2 he] at this
    cases this
  · intro h y hy
    rw [← Bool.not_eq_true, sameN_id hw hd hx]
    exact h y hy
theorem gdL_perm {l : List Def} {a b : List Node} (h : ∀ x, x ∈ b → x ∈ a) (g : gdL l a) : gdL l b := gdL_iff.2 fun x hx => gdL_iff.1 g x (h x hx)
mutual
theorem rdE_gd (l : List Def) (hw : wfDs l) : ∀ (e : Elem) (d : Def) (n : Node), rdE l e = .ok (d, n) → d ∈ l ∧ n.name = d.name ∧ ((d.kind ≠ 1 ∨ n.kids ≠ []) → gdN l n)
  | .mk s n a t k, d, x, h => by
    rw [rdE] at h
    split at h
    · cases h
    · rename_i i hi
      split at h
      · cases h
      · rename_i e he
        obtain ⟨hlt, hn⟩ := place_some hi
        have hel : e ∈ l := List.mem_of_getElem? he
        have hen : e.name = n := by rw [List.getElem?_eq_getElem hlt] at he; cases he; exact hn
        split at h
        · rename_i h3
          split at h
          · cases h
          · rename_i hv
            cases h
            refine ⟨hel, hen.symm, fun _ => gdN_s.2 ⟨d, hel, hen.symm, fun _ => ⟨rfl, ?_⟩, fun hh => absurd h3 hh⟩⟩
            cases hvv : valueM d t with
            | true => exact hvv
            | false => exact absurd (.inr hvv) hv
        · rename_i h3
          split at h
          · cases h
          · split at h
            · cases h
            · rename_i nodes hr
              have ht := rdL_tr e.kids (wf_kids hw hel) k [] [] nodes (by simp [gdL]) List.Pairwise.nil (by simp) hr
              split at h
              · rename_i hk
                cases h
                refine ⟨hel, hen.symm, fun hc => gdN_s.2 ⟨d, hel, hen.symm, fun hh => absurd hh h3, fun _ => ⟨rfl, ht.gd, ht.ds, ht.or, ht.le, fun h1 => ?_, hk⟩⟩⟩
                rcases hc with hc | hc
                · exact absurd h1 hc
                · exact hc
              · cases h
theorem rdL_tr (l : List Def) (hw : wfDs l) : ∀ (es : List Elem) (out all ns : List Node), gdL l out → dst l out → (∀ x ∈ out, x ∈ all) → rdL l out all es = .ok ns → Tr l ns
  | [], out, all, ns, h1, h2, h3, h => by
    rw [rdL_nil] at h
    split at h
    · cases h
    · cases h
      exact ⟨gdL_perm (fun x hx => (order_mem l out).1 hx) h1, dst_perm (order_perm l out).symm h2, ord_order l out, by rw [order_len]; omega⟩
  | e :: r, out, all, ns, h1, h2, h3, h => by
    rw [rdL_cons] at h
    split at h
    · cases h
    · rename_i d n he
      obtain ⟨g1, g2, g3⟩ := rdE_gd l hw e d n he
      split at h
      · cases h
      · rename_i hs
        have hs' : sameAt d all n = none := by
          cases hq : sameAt d all n with
          | none => rfl
          | some _ => rw [hq] at hs; simp at hs
        have hno := (sameAt_none hw g1 g2).1 hs'
        refine rdL_tr l hw r _ _ ns ?_ ?_ ?_ h
        · split
          · rename_i hc
            rw [gdL_iff]
            intro x hx
            rcases List.mem_append.1 hx with hx | hx
            · exact gdL_iff.1 h1 x hx
            · rw [List.mem_singleton.1 hx]; exact g3 hc
          · exact h1
        · split
          · exact dst_snoc h2 fun y hy => hno y (h3 y hy)
          · exact h2
        · intro x hx
          split at hx
          · rcases List.mem_append.1 hx with hx | hx
            · exact List.mem_append.2 (.inl (h3 x hx))
            · exact List.mem_append.2 (.inr hx)
          · exact List.mem_append.2 (.inl (h3 x hx))
end
mutual
/-- A change of a schema. -/
def gcN (l : List Def) : Chg → Prop
  | .mk n v o ks => ∃ d, d ∈ l ∧ n = d.name ∧ (d.kind = 3 → ks = [] ∧ (o < 4 → valueM d v = true)) ∧ (d.kind ≠ 3 → gcL d.kids ks ∧ (d.kind = 2 → keysOk d ks = true))
def gcL (l : List Def) : List Chg → Prop
  | [] => True
  | c :: r => gcN l c ∧ gcL l r
end
theorem gcN_s {l : List Def} {c : Chg} : gcN l c ↔ ∃ d, d ∈ l ∧ c.name = d.name ∧ (d.kind = 3 → c.kids = [] ∧ (c.op < 4 → valueM d c.value = true)) ∧ (d.kind ≠ 3 → gcL d.kids c.kids ∧ (d.kind = 2 → keysOk d c.kids = true)) := by
  cases c; rw [gcN]; rfl
theorem gcL_iff {l : List Def} : ∀ {a : List Chg}, gcL l a ↔ ∀ x ∈ a, gcN l x
  | [] => by simp [gcL]
  | x :: r => by rw [gcL, gcL_iff (a := r)]; simp
mutual
theorem chE_gc (l : List Def) (op : Int) : ∀ (e : Elem) (c : Chg), chE l op e = .ok c → gcN l c
  | .mk s n a t k, c, h => by
    rw [chE] at h
    split at h
    · cases h
    · rename_i i hi
      split at h
      · cases h
      · rename_i d hd
        obtain ⟨hlt, hn⟩ := place_some hi
        have hel : d ∈ l := List.mem_of_getElem? hd
        have hen : d.name = n := by rw [List.getElem?_eq_getElem hlt] at hd; cases hd; exact hn
        split at h
        · cases h
        · rename_i o ho
          split at h
          · rename_i h3
            split at h
            · cases h
            · rename_i hv
              cases h
              refine gcN_s.2 ⟨d, hel, hen.symm, fun _ => ⟨rfl, fun ho4 => ?_⟩, fun hh => absurd h3 hh⟩
              simp only [Chg.op] at ho4
              show valueM d t = true
              cases hvv : valueM d t with
              | true => rfl
              | false => exact absurd (.inr ⟨fun hh => by omega, hvv⟩) hv
          · rename_i h3
            split at h
            · cases h
            · split at h
              · cases h
              · rename_i ks hks
                split at h
                · cases h
                · rename_i hkk
                  cases h
                  refine gcN_s.2 ⟨d, hel, hen.symm, fun hh => absurd hh h3, fun _ => ⟨chL_gc d.kids _ k ks hks, fun h2 => ?_⟩⟩
                  show keysOk d ks = true
                  cases hq : keysOk d ks with
                  | true => rfl
                  | false => exact absurd ⟨h2, hq⟩ hkk
theorem chL_gc (l : List Def) (op : Int) : ∀ (es : List Elem) (cs : List Chg), chL l op es = .ok cs → gcL l cs
  | [], cs, h => by rw [chL_nil] at h; cases h; simp [gcL]
  | e :: r, cs, h => by
    rw [chL_cons] at h
    split at h
    · cases h
    · rename_i c hc
      split at h
      · cases h
      · rename_i cs' hcs
        cases h
        rw [gcL]
        exact ⟨chE_gc l op e c hc, chL_gc l op r cs' hcs⟩
end
/-! Keys are leaves, and no name stands twice among them. -/
mutual
def kfD : Def → Prop
  | .mk _ k _ _ _ ks kd => (k ≠ 2 → ks = []) ∧ ks.Nodup ∧ (∀ s ∈ ks, ∃ e ∈ kd, e.name = s ∧ e.kind = 3) ∧ (ks.length ≤ 100 ∧ (k = 1 ∨ k = 2 ∨ k = 3)) ∧ kfDs kd
def kfDs : List Def → Prop
  | [] => True
  | d :: r => kfD d ∧ kfDs r
end
theorem kfD_s {d : Def} : kfD d ↔ (d.kind ≠ 2 → d.keys = []) ∧ d.keys.Nodup ∧ (∀ s ∈ d.keys, ∃ e ∈ d.kids, e.name = s ∧ e.kind = 3) ∧ (d.keys.length ≤ 100 ∧ (d.kind = 1 ∨ d.kind = 2 ∨ d.kind = 3)) ∧ kfDs d.kids := by cases d; rw [kfD]; rfl
theorem kfDs_iff : ∀ {l : List Def}, kfDs l ↔ ∀ x ∈ l, kfD x
  | [] => by simp [kfDs]
  | y :: r => by rw [kfDs, kfDs_iff (l := r)]; simp
theorem kf_schema : kfDs schema := by
  simp [kfDs, kfD, schema, leafD, portD, sName, Def.name, Def.kind]
theorem few_schema : fewDs schema := by
  simp [fewDs, fewD, schema, leafD, portD]
theorem leaf_id {l : List Def} (hw : wfDs l) (hk : kfDs l) {e : Def} (he : e ∈ l) (h3 : e.kind = 3) {x : Node} (hx : x.name = e.name) : idN l x = (e.name, []) := by
  unfold idN
  rw [keyL_of hw he hx, hx]
  have hke := (kfD_s.1 (kfDs_iff.1 hk e he)).1 (by omega)
  unfold keyD keyOf
  rw [hke]
  simp
/-- A key's value is told by what stands there. -/
theorem leafV_iff {l : List Def} (hw : wfDs l) (hk : kfDs l) {e : Def} (he : e ∈ l) (h3 : e.kind = 3) {ns : List Node} (hd : dst l ns) (v : Str) : leafV ns e.name = some v ↔ ∃ x ∈ ns, x.name = e.name ∧ x.value = v := by
  unfold leafV
  rw [Option.map_eq_some_iff]
  constructor
  · rintro ⟨x, h1, h2⟩
    have := List.find?_some h1
    exact ⟨x, List.mem_of_find?_eq_some h1, by simpa using this, h2⟩
  · rintro ⟨x, h1, h2, h4⟩
    cases hf : ns.find? fun y => decide (y.name = e.name) with
    | none =>
      rw [List.find?_eq_none] at hf
      have := hf x h1
      simp [h2] at this
    | some y =>
      refine ⟨y, rfl, ?_⟩
      have hy := List.find?_some hf
      simp only [decide_eq_true_eq] at hy
      have := dst_eq hd h1 (List.mem_of_find?_eq_some hf) (by rw [leaf_id hw hk he h3 h2, leaf_id hw hk he h3 hy])
      rw [← this]; exact h4
theorem leafV_congr {l : List Def} (hw : wfDs l) (hk : kfDs l) {e : Def} (he : e ∈ l) (h3 : e.kind = 3) {a b : List Node} (ha : dst l a) (hb : dst l b) (h : ∀ x, x.name = e.name → (x ∈ a ↔ x ∈ b)) : leafV a e.name = leafV b e.name := by
  apply Option.ext
  intro v
  rw [leafV_iff hw hk he h3 ha, leafV_iff hw hk he h3 hb]
  constructor
  · rintro ⟨x, h1, h2, h4⟩; exact ⟨x, (h x h2).1 h1, h2, h4⟩
  · rintro ⟨x, h1, h2, h4⟩; exact ⟨x, (h x h2).2 h1, h2, h4⟩
theorem filterMap_cg {α β : Type} {f g : α → Option β} : ∀ {l : List α}, (∀ x ∈ l, f x = g x) → l.filterMap f = l.filterMap g
  | [], _ => rfl
  | x :: r, h => by rw [List.filterMap_cons, List.filterMap_cons, h x (by simp), filterMap_cg fun y hy => h y (List.mem_cons_of_mem _ hy)]
theorem keyOf_congr {d : Def} (hd : kfD d) (hw : wfDs d.kids) {a b : List Node} (n v n' v' : Str) (ha : dst d.kids a) (hb : dst d.kids b) (h : ∀ x, has d.keys x.name = true → (x ∈ a ↔ x ∈ b)) : keyOf d (.mk n v a) = keyOf d (.mk n' v' b) := by
  obtain ⟨_, _, k3, _, k5⟩ := kfD_s.1 hd
  have key : ∀ s ∈ d.keys, leafV a s = leafV b s := by
    intro s hs
    obtain ⟨e, e1, rfl, e3⟩ := k3 s hs
    exact leafV_congr hw k5 e1 e3 ha hb fun x hx => h x (has_iff.2 (hx ▸ hs))
  have h1 : (d.keys.all fun k => (leafV a k).isSome) = (d.keys.all fun k => (leafV b k).isSome) := by
    rw [Bool.eq_iff_iff, List.all_eq_true, List.all_eq_true]
    constructor
    · intro hh s hs; rw [← key s hs]; exact hh s hs
    · intro hh s hs; rw [key s hs]; exact hh s hs
  unfold keyOf
  show (if (d.keys.all fun k => (leafV a k).isSome) = true then some (d.keys.filterMap (leafV a)) else none) = (if (d.keys.all fun k => (leafV b k).isSome) = true then some (d.keys.filterMap (leafV b)) else none)
  simp only [h1]
  rw [filterMap_cg key]
end Go.Abs.SA
end

section
set_option linter.unusedVariables false
set_option linter.unusedSimpArgs false
set_option linter.unusedSectionVars false
set_option maxRecDepth 100000
set_option maxHeartbeats 4000000
set_option linter.unusedSimpArgs false
set_option linter.unusedVariables false
namespace Go.Abs.SA
open Go.Proofs

/-! What a change keeps. -/
/-- A tree whose nodes may stand in any order. -/
structure Un (l : List Def) (ns : List Node) : Prop where
  gd : gdL l ns
  ds : dst l ns
  le : ns.length ≤ 256
theorem Tr.un {l : List Def} {ns : List Node} (h : Tr l ns) : Un l ns := ⟨h.gd, h.ds, h.le⟩
theorem Un.tr {l : List Def} {ns : List Node} (h : Un l ns) : Tr l (order l ns) :=
  ⟨gdL_perm (fun x hx => (order_mem l ns).1 hx) h.gd, dst_perm (order_perm l ns).symm h.ds, ord_order l ns, by rw [order_len]; exact h.le⟩
def keyV (c : Chg) (k : Str) : Str := (((c.kids.filter fun x => decide (x.name = k))).head?.map Chg.value).getD ⟨#[]⟩
/-- The keys of a change, as nodes. -/
theorem fresh_kids {d : Def} {c : Chg} (h : ∀ k ∈ d.keys, (c.kids.filter fun x => decide (x.name = k)).length = 1) : (freshD d c).kids = d.keys.map fun k => .mk k (keyV c k) [] := by
  show (d.keys.flatMap fun k => (c.kids.filter fun x => decide (x.name = k)).map fun x => Node.mk k x.value []) = _
  have : ∀ (ks : List Str), (∀ k ∈ ks, (c.kids.filter fun x => decide (x.name = k)).length = 1) → (ks.flatMap fun k => (c.kids.filter fun x => decide (x.name = k)).map fun x => Node.mk k x.value []) = ks.map fun k => .mk k (keyV c k) [] := by
    intro ks
    induction ks with
    | nil => intro _; rfl
    | cons k r ih =>
      intro h
      rw [List.flatMap_cons, List.map_cons, ih fun k hk => h k (List.mem_cons_of_mem _ hk)]
      have h1 := h k (by simp)
      unfold keyV
      cases hf : c.kids.filter fun x => decide (x.name = k) with
      | nil => rw [hf] at h1; simp at h1
      | cons a q =>
        rw [hf] at h1
        cases q with
        | nil => simp
        | cons _ _ => simp at h1
  exact this d.keys h
theorem keysOk_len {d : Def} {ks : List Chg} (h : keysOk d ks = true) : ∀ k ∈ d.keys, (ks.filter fun x => decide (x.name = k)).length = 1 := by
  intro k hk
  unfold keysOk at h
  rw [List.all_eq_true] at h
  have := h k hk
  unfold keyOk at this
  simp only [Bool.and_eq_true, decide_eq_true_eq] at this
  exact this.2
theorem keysOk_op {d : Def} {ks : List Chg} (h : keysOk d ks = true) : ∀ x ∈ ks, has d.keys x.name = true → x.op < 4 := by
  intro x hx hh
  unfold keysOk at h
  rw [List.all_eq_true] at h
  have := h x.name (has_iff.1 hh)
  unfold keyOk at this
  simp only [Bool.and_eq_true, decide_eq_true_eq, List.all_eq_true, Bool.or_eq_true, Bool.not_eq_true', decide_eq_false_iff_not] at this
  rcases this.1 x hx with h | h
  · exact absurd rfl h
  · exact h
theorem keyV_mem {c : Chg} {k : Str} (h : (c.kids.filter fun x => decide (x.name = k)).length = 1) : ∃ x ∈ c.kids, x.name = k ∧ keyV c k = x.value := by
  unfold keyV
  cases hf : c.kids.filter fun x => decide (x.name = k) with
  | nil => rw [hf] at h; simp at h
  | cons a q =>
    have : a ∈ c.kids.filter fun x => decide (x.name = k) := by rw [hf]; simp
    rw [List.mem_filter] at this
    exact ⟨a, this.1, by simpa using this.2, by simp⟩
theorem fresh_un {d : Def} (hw : wfDs d.kids) (hk : kfD d) {c : Chg} (hc : gcL d.kids c.kids) (h2 : d.kind = 2 → keysOk d c.kids = true) : Un d.kids (freshD d c).kids ∧ (keyOf d (freshD d c)).isSome = true := by
  obtain ⟨k1, k2, k3, k4, k5⟩ := kfD_s.1 hk
  by_cases hd : d.kind = 2
  · have hks := h2 hd
    have hf := fresh_kids (keysOk_len hks)
    have hgd : gdL d.kids (freshD d c).kids := by
      rw [hf, gdL_iff]
      intro x hx
      obtain ⟨k, hkk, rfl⟩ := List.mem_map.1 hx
      obtain ⟨e, e1, e2, e3⟩ := k3 k hkk
      obtain ⟨y, y1, y2, y3⟩ := keyV_mem (keysOk_len hks k hkk)
      obtain ⟨e', f1, f2, f3, _⟩ := gcN_s.1 (gcL_iff.1 hc y y1)
      have he : e' = e := wfDs_inj hw f1 e1 (f2.symm.trans (y2.trans e2.symm))
      subst he
      have hv := (f3 e3).2 (keysOk_op hks y y1 (has_iff.2 (y2 ▸ hkk)))
      exact gdN_s.2 ⟨e', e1, e2.symm, fun _ => ⟨rfl, by show valueM e' (keyV c k) = true; rw [y3]; exact hv⟩, fun hh => absurd e3 hh⟩
    have hds : dst d.kids (freshD d c).kids := by
      rw [hf]
      unfold dst
      rw [List.pairwise_map]
      exact List.Pairwise.imp (fun {a b} hab => fun he => hab (Prod.mk.inj he).1) k2
    refine ⟨⟨hgd, hds, by rw [hf, List.length_map]; omega⟩, ?_⟩
    unfold keyOf
    rw [if_pos]
    · rfl
    · rw [List.all_eq_true]
      intro k hkk
      obtain ⟨e, e1, e2, e3⟩ := k3 k hkk
      have : leafV (freshD d c).kids e.name = some (keyV c k) := (leafV_iff hw k5 e1 e3 hds _).2 ⟨.mk k (keyV c k) [], by rw [hf]; exact List.mem_map.2 ⟨k, hkk, rfl⟩, e2.symm, rfl⟩
      rw [← e2, this]; rfl
  · have hke := k1 hd
    have hf : (freshD d c).kids = [] := by
      show (d.keys.flatMap _) = []
      rw [hke]; rfl
    refine ⟨by rw [hf]; exact ⟨by simp [gdL], List.Pairwise.nil, by simp⟩, ?_⟩
    unfold keyOf
    rw [hke]; rfl
theorem set_eq_self {α : Type} {l : List α} {i : Nat} {x : α} (h : l[i]? = some x) : l.set i x = l := by
  apply List.ext_getElem?
  intro j
  rw [List.getElem?_set]
  split
  · rename_i hj
    subst hj
    split
    · exact h.symm
    · rename_i hn
      rw [List.getElem?_eq_none (by omega)] at h
      cases h
  · rfl
theorem dst_set {l : List Def} {ns : List Node} (h : dst l ns) {i : Nat} (hi : i < ns.length) {y : Node} (hy : idN l y = idN l ns[i]) : dst l (ns.set i y) := by
  unfold dst at h ⊢
  rw [← List.pairwise_map (f := idN l) (R := fun a b => a ≠ b)] at h ⊢
  rw [List.map_set, hy]
  have : (ns.map (idN l)).set i (idN l ns[i]) = ns.map (idN l) := by
    apply set_eq_self
    rw [List.getElem?_map, List.getElem?_eq_getElem hi]; rfl
  rw [this]; exact h
theorem mem_set_other {ns : List Node} {i : Nat} (hi : i < ns.length) {y x : Node} (h1 : x ≠ ns[i]) (h2 : x ≠ y) : x ∈ ns.set i y ↔ x ∈ ns := by
  constructor
  · intro h
    rcases List.mem_or_eq_of_mem_set h with h | h
    · exact h
    · exact absurd h h2
  · intro h
    obtain ⟨j, hj, rfl⟩ := List.mem_iff_getElem.1 h
    have hij : i ≠ j := by rintro rfl; exact h1 rfl
    exact List.mem_iff_getElem.2 ⟨j, by simpa using hj, by rw [List.getElem_set_ne hij]⟩
theorem mem_erase_other {ns : List Node} {i : Nat} (hi : i < ns.length) {x : Node} (h1 : x ≠ ns[i]) : x ∈ ns.eraseIdx i ↔ x ∈ ns := by
  constructor
  · exact List.mem_of_mem_eraseIdx
  · intro h
    obtain ⟨j, hj, rfl⟩ := List.mem_iff_getElem.1 h
    have hij : j ≠ i := by rintro rfl; exact h1 rfl
    exact List.mem_eraseIdx_iff_getElem.2 ⟨j, hj, hij, rfl⟩
theorem sameAt_id {l : List Def} (hw : wfDs l) {d : Def} (hd : d ∈ l) {ns : List Node} {x : Node} (hx : x.name = d.name) {i : Nat} (h : sameAt d ns x = some i) : ∃ hi : i < ns.length, idN l ns[i] = idN l x := by
  unfold sameAt at h
  obtain ⟨h1, h2, _⟩ := List.findIdx?_eq_some_iff_getElem.1 h
  exact ⟨h1, (sameN_id hw hd hx).1 h2⟩
/-- What one change does: it keeps a tree, and the nodes of other names. -/
structure Keeps (l : List Def) (nm : Str) (ns m : List Node) : Prop where
  gd : gdL l m
  ds : dst l m
  ot : ∀ x, x.name ≠ nm → (x ∈ m ↔ x ∈ ns)
theorem keeps_same {l : List Def} {ns : List Node} (nm : Str) (h : Un l ns) : Keeps l nm ns ns := ⟨h.gd, h.ds, fun _ _ => Iff.rfl⟩
theorem keeps_new {l : List Def} (hw : wfDs l) {d : Def} (hd : d ∈ l) {ns : List Node} (h : Un l ns) {x : Node} (hg : gdN l x) (hx : x.name = d.name) (hn : ∀ y ∈ ns, idN l y ≠ idN l x) : Keeps l d.name ns (ns ++ [x]) := by
  refine ⟨gdL_iff.2 fun y hy => ?_, dst_snoc h.ds hn, fun y hy => ?_⟩
  · rcases List.mem_append.1 hy with hy | hy
    · exact gdL_iff.1 h.gd y hy
    · rw [List.mem_singleton.1 hy]; exact hg
  · rw [List.mem_append, List.mem_singleton]
    exact ⟨fun hh => hh.elim id fun e => absurd (e ▸ hx) hy, .inl⟩
theorem keeps_erase {l : List Def} {ns : List Node} (nm : Str) (h : Un l ns) {i : Nat} (hi : i < ns.length) (hnm : ns[i].name = nm) : Keeps l nm ns (ns.eraseIdx i) :=
  ⟨gdL_perm (fun x hx => List.mem_of_mem_eraseIdx hx) h.gd, h.ds.sublist (List.eraseIdx_sublist _ _), fun y hy => mem_erase_other hi fun e => hy (e ▸ hnm)⟩
theorem keeps_set {l : List Def} {ns : List Node} (nm : Str) (h : Un l ns) {i : Nat} (hi : i < ns.length) (hnm : ns[i].name = nm) {y : Node} (hg : gdN l y) (hid : idN l y = idN l ns[i]) : Keeps l nm ns (ns.set i y) := by
  have hyn : y.name = nm := by rw [← hnm]; exact (Prod.mk.inj hid).1
  refine ⟨gdL_iff.2 fun x hx => ?_, dst_set h.ds hi hid, fun x hx => mem_set_other hi (fun e => hx (e ▸ hnm)) (fun e => hx (e ▸ hyn))⟩
  rcases List.mem_or_eq_of_mem_set hx with hx | hx
  · exact gdL_iff.1 h.gd x hx
  · rw [hx]; exact hg
mutual
theorem one1_keeps {l : List Def} (hw : wfDs l) (hk : kfDs l) {d : Def} (hd : d ∈ l) {ns : List Node} (hu : Un l ns) : ∀ (c : Chg) (m : List Node), gcN l c → c.name = d.name → one1 d ns c = .ok m → Keeps l d.name ns m
  | .mk n v o ks, m, hc, hn, h => by
    obtain ⟨d', d1, d2, d3, d4⟩ := gcN_s.1 hc
    have : d' = d := wfDs_inj hw d1 hd (d2.symm.trans hn)
    subst this
    have hkd := kfDs_iff.1 hk d' hd
    have hwk := wf_kids hw hd
    obtain ⟨k1, k2, k3, k4, k5⟩ := kfD_s.1 hkd
    have fn : (freshD d' (.mk n v o ks)).name = d'.name := hn
    -- the node of a leaf
    have leafG : d'.kind = 3 → o < 4 → gdN l (freshD d' (.mk n v o ks)) := fun h3 ho => by
      refine gdN_s.2 ⟨d', hd, fn, fun _ => ⟨?_, ?_⟩, fun hh => absurd h3 hh⟩
      · show (d'.keys.flatMap _) = []
        rw [k1 (by omega)]; rfl
      · show valueM d' (if d'.kind = 3 then v else _) = true
        rw [if_pos h3]; exact (d3 h3).2 ho
    -- the kids of another node
    have box : d'.kind ≠ 3 → ∀ was r, Un d'.kids was → apS d'.kids d'.keys was ks = .ok r → Tr d'.kids (order d'.kids r) ∧ ∀ x, has d'.keys x.name = true → (x ∈ order d'.kids r ↔ x ∈ was) := fun h3 was r hwas hr => by
      have := apS_keeps hwk k5 ks d'.keys was r hwas (d4 h3).1 hr
      exact ⟨this.1.tr, fun x hx => (order_mem _ _).trans (this.2 x hx)⟩
    have mk : d'.kind ≠ 3 → ∀ (y : Node) was r, y.name = d'.name → y.value = ⟨#[]⟩ → (keyOf d' (.mk y.name y.value was)).isSome = true → Un d'.kids was → apS d'.kids d'.keys was ks = .ok r → ¬ (d'.kind = 1 ∧ order d'.kids r = []) →
        gdN l (.mk y.name y.value (order d'.kids r)) ∧ idN l (.mk y.name y.value (order d'.kids r)) = (d'.name, keyD d' (.mk y.name y.value was)) := fun h3 y was r y1 y2 y3 hwas hr he => by
      obtain ⟨b1, b2⟩ := box h3 was r hwas hr
      have hkey : keyOf d' (.mk y.name y.value (order d'.kids r)) = keyOf d' (.mk y.name y.value was) := keyOf_congr hkd hwk _ _ _ _ b1.ds hwas.ds b2
      refine ⟨gdN_s.2 ⟨d', hd, y1, fun hh => absurd hh h3, fun _ => ⟨y2, b1.gd, b1.ds, b1.or, b1.le, fun h1 hh => he ⟨h1, hh⟩, by rw [hkey]; exact y3⟩⟩, ?_⟩
      unfold idN
      rw [keyL_of hw hd (x := .mk y.name y.value (order d'.kids r)) y1]
      refine Prod.ext y1 ?_
      unfold keyD
      rw [hkey]
    rw [one1] at h
    split at h
    · rename_i hs
      have hnone := (sameAt_none hw hd fn).1 hs
      split at h
      · cases h
      · split at h
        · cases h; exact keeps_same _ hu
        · split at h
          · cases h
          · split at h
            · rename_i h3
              cases h
              exact keeps_new hw hd hu (leafG h3 (by omega)) fn hnone
            · rename_i h3
              split at h
              · cases h
              · rename_i r hr
                obtain ⟨f1, f2⟩ := fresh_un hwk hkd (c := .mk n v o ks) (d4 h3).1 (d4 h3).2
                split at h
                · cases h; exact keeps_same _ hu
                · rename_i he
                  cases h
                  have hfv : (freshD d' (.mk n v o ks)).value = ⟨#[]⟩ := if_neg h3
                  have hm := mk h3 (.mk n ⟨#[]⟩ []) _ r hn rfl (by
                    have := f2
                    rw [show freshD d' (.mk n v o ks) = .mk n ⟨#[]⟩ (freshD d' (.mk n v o ks)).kids by rw [← hfv]; rfl] at this
                    exact this) f1 hr he
                  refine keeps_new hw hd hu hm.1 hn fun y hy hh => hnone y hy ?_
                  rw [hh]
                  refine hm.2.trans ?_
                  unfold idN
                  rw [keyL_of hw hd fn, fn]
                  congr 1
    · rename_i i hs
      obtain ⟨hi, hid⟩ := sameAt_id hw hd fn hs
      have hin : ns[i].name = d'.name := (Prod.mk.inj hid).1.trans fn
      rw [List.getElem?_eq_getElem hi] at h
      simp only at h
      split at h
      · cases h
      · split at h
        · cases h; exact keeps_erase _ hu hi hin
        · split at h
          · rename_i h3
            split at h
            · cases h; exact keeps_same _ hu
            · cases h; exact keeps_set _ hu hi hin (leafG h3 (by omega)) hid.symm
          · rename_i h3
            split at h
            · cases h
            · rename_i r hr
              obtain ⟨f1, f2⟩ := fresh_un hwk hkd (c := .mk n v o ks) (d4 h3).1 (d4 h3).2
              obtain ⟨e, e1, e2, e3, e4⟩ := gdN_s.1 (gdL_iff.1 hu.gd _ (List.getElem_mem hi))
              have hed : e = d' := wfDs_inj hw e1 hd (e2.symm.trans hin)
              subst hed
              obtain ⟨q1, q2, q3, q4, q5, q6, q7⟩ := e4 h3
              split at h
              · cases h; exact keeps_erase _ hu hi hin
              · rename_i he
                cases h
                have hidk : keyD e ns[i] = keyD e (freshD e (.mk n v o ks)) := by
                  have := (Prod.mk.inj hid).2
                  rwa [keyL_of hw hd hin, keyL_of hw hd fn] at this
                have hfv : (freshD e (.mk n v o ks)).value = ⟨#[]⟩ := if_neg h3
                have hwas : ∀ was, was = (if o ≠ 2 then ns[i].kids else (freshD e (.mk n v o ks)).kids) → Un e.kids was ∧ (keyOf e (.mk ns[i].name ns[i].value was)).isSome = true ∧ keyD e (.mk ns[i].name ns[i].value was) = keyD e ns[i] := by
                  rintro was rfl
                  split
                  · exact ⟨⟨q2, q3, q5⟩, by rw [node_mk]; exact q7, by rw [node_mk]⟩
                  · have hkk : keyOf e (.mk ns[i].name ns[i].value (freshD e (.mk n v o ks)).kids) = keyOf e (freshD e (.mk n v o ks)) := by
                      unfold keyOf; rfl
                    refine ⟨f1, by rw [hkk]; exact f2, ?_⟩
                    rw [hidk]
                    unfold keyD
                    rw [hkk]
                obtain ⟨w1, w2, w3⟩ := hwas _ rfl
                have hm := mk h3 ns[i] _ r hin q1 w2 w1 hr he
                refine keeps_set _ hu hi hin hm.1 (hm.2.trans ?_)
                unfold idN
                rw [keyL_of hw hd hin]
                exact Prod.ext hin.symm w3
theorem apS_keeps {l : List Def} (hw : wfDs l) (hk : kfDs l) : ∀ (cs : List Chg) (sk : List Str) (ns r : List Node), Un l ns → gcL l cs → apS l sk ns cs = .ok r → Un l r ∧ ∀ x, has sk x.name = true → (x ∈ r ↔ x ∈ ns)
  | [], sk, ns, r, hu, _, h => by rw [apS_nil] at h; cases h; exact ⟨hu, fun _ _ => Iff.rfl⟩
  | c :: cs, sk, ns, r, hu, hc, h => by
    rw [gcL] at hc
    rw [apS_cons] at h
    split at h
    · exact apS_keeps hw hk cs sk ns r hu hc.2 h
    · rename_i hsk
      split at h
      · cases h
      · rename_i i hp
        split at h
        · cases h
        · rename_i d hd
          obtain ⟨hi, hin⟩ := place_some hp
          have hdl : d ∈ l := List.mem_of_getElem? hd
          have hdn : c.name = d.name := by rw [List.getElem?_eq_getElem hi] at hd; cases hd; exact hin.symm
          split at h
          · cases h
          · rename_i m hm
            split at h
            · cases h
            · have h1 := one1_keeps hw hk hdl hu c m hc.1 hdn hm
              have h2 := apS_keeps hw hk cs sk m r ⟨h1.gd, h1.ds, by omega⟩ hc.2 h
              refine ⟨h2.1, fun x hx => (h2.2 x hx).trans (h1.ot x fun e => hsk ?_)⟩
              rw [hdn, ← e]; exact hx
end
/-- What changes make of a tree is a tree. -/
theorem apD_tr {l : List Def} (hw : wfDs l) (hk : kfDs l) {ns : List Node} (hu : Tr l ns) {cs : List Chg} (hc : gcL l cs) {r : List Node} (h : apD l ns cs = .ok r) : Tr l r := by
  unfold apD at h
  split at h
  · cases h
  · rename_i q hq
    cases h
    exact (apS_keeps hw hk cs [] ns q hu.un hc hq).1.tr
end Go.Abs.SA
end

section
set_option linter.unusedVariables false
set_option linter.unusedSimpArgs false
set_option linter.unusedSectionVars false
set_option maxRecDepth 100000
set_option maxHeartbeats 8000000
set_option linter.unusedSimpArgs false
set_option linter.unusedVariables false
namespace Go.Abs.SA
open Go.Proofs

/-! How many nodes there are. -/
mutual
theorem chE_sz (l : List Def) (op : Int) : ∀ (e : Elem) (c : Chg), chE l op e = .ok c → szC c ≤ cntE e
  | .mk s n a t k, c, h => by
    rw [chE] at h
    split at h
    · cases h
    · split at h
      · cases h
      · split at h
        · cases h
        · split at h
          · split at h
            · cases h
            · cases h; rw [szC, szCl, cntE]; omega
          · split at h
            · cases h
            · split at h
              · cases h
              · rename_i ks hks
                split at h
                · cases h
                · cases h
                  have := chL_sz _ _ k ks hks
                  rw [szC, cntE]; omega
theorem chL_sz (l : List Def) (op : Int) : ∀ (es : List Elem) (cs : List Chg), chL l op es = .ok cs → szCl cs ≤ cntEs es
  | [], cs, h => by rw [chL_nil] at h; cases h; simp [szCl]
  | e :: r, cs, h => by
    rw [chL_cons] at h
    split at h
    · cases h
    · rename_i c hc
      split at h
      · cases h
      · rename_i cs' hcs
        cases h
        have h1 := chE_sz l op e c hc
        have h2 := chL_sz l op r cs' hcs
        rw [szCl, cntEs]; omega
end
theorem szCl_len : ∀ (l : List Chg), l.length ≤ szCl l
  | [] => by simp [szCl]
  | c :: r => by have := szCl_len r; rw [szCl, szC_s, List.length_cons]; omega
mutual
theorem okG_sz : ∀ (c : Chg), szC c ≤ 1000 → okG c
  | .mk n v o ks, h => by
    rw [szC] at h
    rw [okG]
    have := szCl_len ks
    exact ⟨by omega, okGl_sz ks (by omega)⟩
theorem okGl_sz : ∀ (l : List Chg), szCl l ≤ 1000 → okGl l
  | [], _ => by simp [okGl]
  | c :: r, h => by
    rw [szCl] at h
    rw [okGl]
    exact ⟨okG_sz c (by omega), okGl_sz r (by omega)⟩
end
mutual
theorem okT_cnt : ∀ (x : Node), cntN x ≤ 1048576 → okT x
  | .mk n v k, h => by
    rw [cntN] at h
    rw [okT]
    have := len_cnt k
    exact ⟨by omega, okTl_cnt k (by omega)⟩
theorem okTl_cnt : ∀ (l : List Node), cntL l ≤ 1048576 → okTl l
  | [], _ => by simp [okTl]
  | x :: r, h => by
    rw [cntL_cons] at h
    rw [okTl]
    exact ⟨okT_cnt x (by omega), okTl_cnt r (by omega)⟩
end
theorem szCl_two (p : Chg → Bool) : ∀ l : List Chg, szCl (l.filter p) + szCl (l.filter fun c => !p c) = szCl l
  | [] => by simp [szCl]
  | x :: r => by
    have := szCl_two p r
    rw [List.filter_cons, List.filter_cons]
    cases hp : p x
    · simp only [Bool.false_eq_true, ↓reduceIte, Bool.not_false, szCl]; omega
    · simp only [↓reduceIte, Bool.not_true, Bool.false_eq_true, szCl]; omega
theorem fresh_cnt (c : Chg) : ∀ (ks : List Str), ks.Nodup → cntL (ks.flatMap fun k => (c.kids.filter fun x => decide (x.name = k)).map fun x => Node.mk k x.value []) ≤ szCl (c.kids.filter fun x => has ks x.name)
  | [], _ => by simp [cntL]
  | k :: r, h => by
    rw [List.nodup_cons] at h
    have ih := fresh_cnt c r h.2
    rw [List.flatMap_cons, cntL_app]
    have h1 : ∀ l : List Chg, cntL ((l.filter fun x => decide (x.name = k)).map fun x => Node.mk k x.value []) + szCl (l.filter fun x => has r x.name) ≤ szCl (l.filter fun x => has (k :: r) x.name) := by
      intro l
      induction l with
      | nil => simp [cntL, szCl]
      | cons x q ih =>
        by_cases hx : x.name = k
        · have e1 : has (k :: r) x.name = true := has_iff.2 (by simp [hx])
          have e2 : has r x.name = false := by
            rw [← Bool.not_eq_true, has_iff, hx]; exact h.1
          simp only [List.filter_cons, hx, e1, e2, decide_true, ↓reduceIte, List.map_cons, cntL_cons, szCl, Bool.false_eq_true]
          rw [hx] at e1 e2
          simp only [e1, e2, ↓reduceIte, Bool.false_eq_true, szCl]
          rw [cntN, szC_s]
          simp only [cntL]
          omega
        · have e3 : has (k :: r) x.name = has r x.name := by
            rw [Bool.eq_iff_iff, has_iff, has_iff]; simp [hx]
          simp only [List.filter_cons, hx, decide_false, Bool.false_eq_true, ↓reduceIte, e3]
          cases has r x.name with
          | true => simp only [↓reduceIte, szCl]; omega
          | false => simp only [Bool.false_eq_true, ↓reduceIte]; exact ih
    have := h1 c.kids
    omega
theorem cnt_erase : ∀ (ns : List Node) (i : Nat), cntL (ns.eraseIdx i) ≤ cntL ns
  | [], _ => by simp
  | x :: r, 0 => by rw [List.eraseIdx_zero, List.tail_cons, cntL_cons]; omega
  | x :: r, i + 1 => by have := cnt_erase r i; rw [List.eraseIdx_cons_succ, cntL_cons, cntL_cons]; omega
theorem cnt_set : ∀ (ns : List Node) (i : Nat) (h : i < ns.length) (y : Node), cntL (ns.set i y) + cntN ns[i] = cntL ns + cntN y
  | x :: r, 0, h, y => by simp [cntL_cons]; omega
  | x :: r, i + 1, h, y => by
    have := cnt_set r i (by simpa using h) y
    simp only [List.set_cons_succ, cntL_cons, List.getElem_cons_succ]
    omega
mutual
theorem one1_cnt {d : Def} (hk : kfD d) (ns : List Node) : ∀ (c : Chg) (m : List Node), one1 d ns c = .ok m → cntL m ≤ cntL ns + szC c
  | .mk n v o ks, m, h => by
    obtain ⟨k1, k2, k3, k4, k5⟩ := kfD_s.1 hk
    have f0 := fresh_cnt (.mk n v o ks) d.keys k2
    have ff : cntL (freshD d (.mk n v o ks)).kids ≤ szCl (ks.filter fun x => has d.keys x.name) := f0
    have ft := szCl_two (fun x : Chg => has d.keys x.name) ks
    have fN : cntN (freshD d (.mk n v o ks)) ≤ 1 + szCl ks := by rw [cntN_s]; omega
    rw [szC]
    rw [one1] at h
    split at h
    · split at h
      · cases h
      · split at h
        · cases h; omega
        · split at h
          · cases h
          · split at h
            · cases h; rw [cntL_app, cntL_cons]; simp only [cntL]; omega
            · split at h
              · cases h
              · rename_i r hr
                have := apS_cnt k5 ks d.keys _ r hr
                split at h
                · cases h; omega
                · cases h
                  rw [cntL_app, cntL_cons, cntN, cnt_order]; simp only [cntL]; omega
    · rename_i i hs
      obtain ⟨hi, _⟩ := sameAt_some hs
      rw [List.getElem?_eq_getElem hi] at h
      simp only at h
      have er := cnt_erase ns i
      have hx := cntN_s ns[i]
      split at h
      · cases h
      · split at h
        · cases h; omega
        · split at h
          · split at h
            · cases h; omega
            · cases h; have := cnt_set ns i hi (freshD d (.mk n v o ks)); omega
          · split at h
            · cases h
            · rename_i r hr
              have := apS_cnt k5 ks d.keys _ r hr
              split at h
              · cases h; omega
              · cases h
                have h2 := cnt_set ns i hi (.mk ns[i].name ns[i].value (order d.kids r))
                rw [cntN, cnt_order] at h2
                split at this <;> omega
theorem apS_cnt {l : List Def} (hk : kfDs l) : ∀ (cs : List Chg) (sk : List Str) (ns r : List Node), apS l sk ns cs = .ok r → cntL r ≤ cntL ns + szCl (cs.filter fun c => !has sk c.name)
  | [], sk, ns, r, h => by rw [apS_nil] at h; cases h; simp
  | c :: cs, sk, ns, r, h => by
    rw [apS_cons] at h
    split at h
    · rename_i hs
      have := apS_cnt hk cs sk ns r h
      rw [List.filter_cons, if_neg (by simp [hs])]; exact this
    · rename_i hs
      rw [List.filter_cons, if_pos (by simpa using hs), szCl]
      split at h
      · cases h
      · split at h
        · cases h
        · rename_i d hd
          split at h
          · cases h
          · rename_i m hm
            split at h
            · cases h
            · have h1 := one1_cnt (kfDs_iff.1 hk d (List.mem_of_getElem? hd)) ns c m hm
              have h2 := apS_cnt hk cs sk m r h
              omega
end
theorem apD_cnt {l : List Def} (hk : kfDs l) {ns : List Node} {cs : List Chg} {r : List Node} (h : apD l ns cs = .ok r) : cntL r ≤ cntL ns + szCl cs := by
  unfold apD at h
  split at h
  · cases h
  · rename_i q hq
    cases h
    have := apS_cnt hk cs [] ns q hq
    have h2 := szCl_filter (fun c : Chg => !has [] c.name) cs
    rw [cnt_order]; omega
theorem apD_err {l : List Def} {ns : List Node} {cs : List Chg} {e : Int} (h : apD l ns cs = .error e) : e ≠ 0 := by
  unfold apD at h
  split at h
  · rename_i e' he; cases h; exact apS_err _ _ _ _ _ he
  · cases h
/-- change.Apply over the schema of the laws. -/
theorem applyS (ns : List Node) (cs : List Chg) (hn : cntL ns ≤ 10000) (hc : szCl cs ≤ 1000) : pureW XX 12 [lD schema, lN ns, lC cs] = some (aAp (apD schema ns cs)) := by
  have h1 := len_cnt ns
  have h2 := szCl_len cs
  exact apply_spec (szCl cs + 1) schema ns cs (Nat.lt_succ_self _) (by decide) okDs_schema few_schema (by omega) (okTl_cnt ns (by omega)) (by omega) (okGl_sz cs hc)
mutual
theorem cnt_elemN (sp : Str) : ∀ x : Node, cntE (elemN sp x) = cntN x
  | .mk n v k => by rw [elemN, cntE, cntN, cnt_elemL sp k]
theorem cnt_elemL (sp : Str) : ∀ l : List Node, cntEs (elemL sp l) = cntL l
  | [] => by rw [elemL]; rfl
  | x :: r => by rw [elemL, cntEs, cntL_cons, cnt_elemN sp x, cnt_elemL sp r]
end
theorem cnt_elemM (sp : Str) (l : List Node) : cntEs (l.map (elemN sp)) = cntL l := by rw [← elemL_map, cnt_elemL]

/-! The laws' head. -/
def sHost : Str := ⟨#[104, 111, 115, 116]⟩
def sH1 : Str := ⟨#[104]⟩
theorem idxK2_map0 {h : List Blk} {α : Type} {l : List α} {enc : α → List AV} {fl : Bool} {k : IntKind} {d : TD} {n c : Nat} {z : Option Value} [hc : EL enc n] (hi : 0 < l.length) (hn : 0 < n) :
    idxK2 h (.fs (l.map enc) fl) (.v (.int k 0)) (some ⟨d, n, c, z⟩) = some (.fp (enc l[0])) := by
  simpa using idxK2_map (h := h) (l := l) (enc := enc) (fl := fl) (k := k) (d := d) (n := n) (c := c) (z := z) 0 hi hn
theorem fit15_spec : pureW XX 7 [] = some (vB true) := by
  have a1 := applyS [] [.mk sHost sH1 3 []] (by decide) (by decide)
  have a2 := applyS [.mk sHost sH1 []] [.mk sHost sH1 3 []] (by decide) (by decide)
  have a3 := applyS [.mk sHost sH1 []] [.mk sHost ⟨#[]⟩ 4 []] (by decide) (by decide)
  rw [show apD schema [] [.mk sHost sH1 3 []] = .ok [.mk sHost sH1 []] by kernel_rfl] at a1
  rw [show apD schema [.mk sHost sH1 []] [.mk sHost sH1 3 []] = .error 15 by kernel_rfl] at a2
  rw [show apD schema [.mk sHost sH1 []] [.mk sHost ⟨#[]⟩ 4 []] = .ok [] by kernel_rfl] at a3
  have ho := opN_spec ⟨#[114, 101, 109, 111, 118, 101]⟩
  rw [show opN ⟨#[114, 101, 109, 111, 118, 101]⟩ = 5 by kernel_rfl] at ho
  rw [show lC [.mk sHost sH1 3 []] = .fs [[vS ⟨#[104, 111, 115, 116]⟩, vS ⟨#[104]⟩, vI 3, .fs [] false]] false from rfl] at a1 a2
  rw [show lC [.mk sHost ⟨#[]⟩ 4 []] = .fs [[vS ⟨#[104, 111, 115, 116]⟩, vS ⟨#[]⟩, vI 4, .fs [] false]] false from rfl] at a3
  obtain ⟨L, hL⟩ : ∃ L, L = [Node.mk sHost sH1 []] := ⟨_, rfl⟩
  rw [← hL] at a1 a2 a3
  have hl1 : L.length = 1 := by rw [hL]; rfl
  have hl0 : (0 < L.length) = True := eq_true (by omega)
  have hg0 : ∀ h, (L[0]'h).value = ⟨#[104]⟩ := fun h => by subst hL; rfl
  simp only [aAp] at a1 a2 a3
  rw [show lN [] = AV.fs [] false from rfl] at a1 a2 a3
  have z1 : (((1 : Nat) : Int) = 1) = True := eq_true rfl
  have z0 : (((0 : Nat) : Int) = 0) = True := eq_true rfl
  refine pureW_in 63 Tryd.func7 Tryd.ntmps7 (by simp) (rfl : Tryd.f7.body = some _) fns_7 ?_
  simp (maxSteps := 200000) (disch := first | (simp only [go_sem, Nat.reduceAdd, Nat.reduceSub, Nat.reduceMul, Nat.reduceLeDiff, Nat.reduceEqDiff, Nat.reduceLT, Nat.reduceBEq, Nat.reduceBNe, Nat.reducePow, ↓reduceIte]; done) | omega | (simp only [go_sem, Nat.reduceAdd, Nat.reduceSub, Nat.reduceMul, Nat.reduceLeDiff, Nat.reduceEqDiff, Nat.reduceLT, Nat.reduceBEq, Nat.reduceBNe, Nat.reducePow, ↓reduceIte] <;> omega) | fail) only [go_sem, Nat.reduceAdd, Nat.reduceSub, Nat.reduceMul, Nat.reduceLeDiff, Nat.reduceEqDiff, Nat.reduceLT, Nat.reduceBEq, Nat.reduceBNe, Nat.reducePow, ↓reduceIte, callA_data mode_10, schema_spec, callA_data mode_12, a1, a2, a3, callA_pure mode_19, ho, z1, z0, decide_true, hl1, hl0, hg0, idxK2_map0, eNode_s]
theorem tree15_spec (l : List Elem) (hok : okEs l) (hl : l.length ≤ 140737488355328) : pureW XX 8 [lE l] = some (aTree l) := by
  refine pureW_in 18 Tryd.func8 Tryd.ntmps8 (by simp) (rfl : Tryd.f8.body = some _) fns_8 ?_
  have hs := small_spec (cntEs l + 1) l 300 (by omega) hok hl (by omega) (by omega)
  unfold aTree tree
  by_cases h : smallL 300 l < 0
  · simp (maxSteps := 200000) (disch := first | (simp only [go_sem, Nat.reduceAdd, Nat.reduceSub, Nat.reduceMul, Nat.reduceLeDiff, Nat.reduceEqDiff, Nat.reduceLT, Nat.reduceBEq, Nat.reduceBNe, Nat.reducePow, ↓reduceIte]; done) | omega | (simp only [go_sem, Nat.reduceAdd, Nat.reduceSub, Nat.reduceMul, Nat.reduceLeDiff, Nat.reduceEqDiff, Nat.reduceLT, Nat.reduceBEq, Nat.reduceBNe, Nat.reducePow, ↓reduceIte] <;> omega) | fail) only [go_sem, Nat.reduceAdd, Nat.reduceSub, Nat.reduceMul, Nat.reduceLeDiff, Nat.reduceEqDiff, Nat.reduceLT, Nat.reduceBEq, Nat.reduceBNe, Nat.reducePow, ↓reduceIte, callA_pure mode_9, hs, h]
    rfl
  · have hc := smallL_cnt l 300 (by omega)
    have hr := modelRead_spec 400 schema l (by omega) (by omega) hok wk_schema (by decide) okDs_schema
    cases hrd : rdL schema [] [] l with
    | error x =>
      rw [hrd] at hr
      have hx := rdL_err _ _ _ _ _ hrd
      simp only [aRead] at hr
      simp (maxSteps := 200000) (disch := first | (simp only [go_sem, Nat.reduceAdd, Nat.reduceSub, Nat.reduceMul, Nat.reduceLeDiff, Nat.reduceEqDiff, Nat.reduceLT, Nat.reduceBEq, Nat.reduceBNe, Nat.reducePow, ↓reduceIte]; done) | omega | (simp only [go_sem, Nat.reduceAdd, Nat.reduceSub, Nat.reduceMul, Nat.reduceLeDiff, Nat.reduceEqDiff, Nat.reduceLT, Nat.reduceBEq, Nat.reduceBNe, Nat.reducePow, ↓reduceIte] <;> omega) | fail) only [go_sem, Nat.reduceAdd, Nat.reduceSub, Nat.reduceMul, Nat.reduceLeDiff, Nat.reduceEqDiff, Nat.reduceLT, Nat.reduceBEq, Nat.reduceBNe, Nat.reducePow, ↓reduceIte, callA_pure mode_9, hs, h, callA_data mode_10, schema_spec, callA_data mode_13, hr, hx]
      rfl
    | ok n =>
      rw [hrd] at hr
      simp only [aRead] at hr
      simp (maxSteps := 200000) (disch := first | (simp only [go_sem, Nat.reduceAdd, Nat.reduceSub, Nat.reduceMul, Nat.reduceLeDiff, Nat.reduceEqDiff, Nat.reduceLT, Nat.reduceBEq, Nat.reduceBNe, Nat.reducePow, ↓reduceIte]; done) | omega | (simp only [go_sem, Nat.reduceAdd, Nat.reduceSub, Nat.reduceMul, Nat.reduceLeDiff, Nat.reduceEqDiff, Nat.reduceLT, Nat.reduceBEq, Nat.reduceBNe, Nat.reducePow, ↓reduceIte] <;> omega) | fail) only [go_sem, Nat.reduceAdd, Nat.reduceSub, Nat.reduceMul, Nat.reduceLeDiff, Nat.reduceEqDiff, Nat.reduceLT, Nat.reduceBEq, Nat.reduceBNe, Nat.reducePow, ↓reduceIte, callA_pure mode_9, hs, h, callA_data mode_10, schema_spec, callA_data mode_13, hr]
      rfl
end Go.Abs.SA
end

section
set_option linter.unusedVariables false
set_option linter.unusedSimpArgs false
set_option linter.unusedSectionVars false
set_option maxRecDepth 100000
set_option maxHeartbeats 8000000
set_option linter.unusedSimpArgs false
set_option linter.unusedVariables false
namespace Go.Abs.SA
open Go.Proofs

/-! ChangeTrees. -/
mutual
/-- Names that may be. -/
def nmD : Def → Prop
  | .mk n _ _ _ _ _ kd => n.size ≤ 1000 ∧ nmDs kd
def nmDs : List Def → Prop
  | [] => True
  | d :: r => nmD d ∧ nmDs r
end
theorem nmD_s {d : Def} : nmD d ↔ d.name.size ≤ 1000 ∧ nmDs d.kids := by cases d; rw [nmD]; rfl
theorem nmDs_iff : ∀ {l : List Def}, nmDs l ↔ ∀ x ∈ l, nmD x
  | [] => by simp [nmDs]
  | y :: r => by rw [nmDs, nmDs_iff (l := r)]; simp
theorem nm_schema : nmDs schema := by
  simp only [nmDs, nmD, schema, leafD, portD, sName, and_true, true_and]
  decide
theorem val_size {d : Def} {v : Str} (h : valueM d v = true) : v.size ≤ 128 := by
  unfold valueM at h
  simp only [Bool.and_eq_true, decide_eq_true_eq] at h
  exact h.1.1
mutual
theorem gd_okE (sp : Str) (hsp : sp.size ≤ 1000) : ∀ (x : Node) (l : List Def), nmDs l → gdN l x → okE (elemN sp x)
  | .mk n v k, l, hn, hg => by
    rw [gdN] at hg
    obtain ⟨d, d1, d2, d3, d4⟩ := hg
    obtain ⟨m1, m2⟩ := nmD_s.1 (nmDs_iff.1 hn d d1)
    rw [elemN, okE]
    have hl : (elemL sp k).length = k.length := by rw [elemL_map, List.length_map]
    by_cases h3 : d.kind = 3
    · obtain ⟨rfl, hv⟩ := d3 h3
      have := val_size hv
      refine ⟨by omega, by rw [d2]; omega, by simp, by omega, by rw [hl]; simp, by simp [elemL, okEs]⟩
    · obtain ⟨rfl, g1, g2, g3, g4, _⟩ := d4 h3
      refine ⟨by omega, by rw [d2]; omega, by simp, by decide, by rw [hl]; omega, gd_okEs sp hsp k d.kids m2 g1⟩
theorem gd_okEs (sp : Str) (hsp : sp.size ≤ 1000) : ∀ (k : List Node) (l : List Def), nmDs l → gdL l k → okEs (elemL sp k)
  | [], l, _, _ => by simp [elemL, okEs]
  | x :: r, l, hn, hg => by
    rw [gdL] at hg
    rw [elemL, okEs]
    exact ⟨gd_okE sp hsp x l hn hg.1, gd_okEs sp hsp r l hn hg.2⟩
end
theorem tree_tr {l : List Elem} {n : List Node} (h : tree l = some n) : Tr schema n := rdL_tr _ wf_schema _ _ _ _ (by simp [gdL]) List.Pairwise.nil (by simp) (tree_some h).1
theorem chL_err' {l : List Def} {op : Int} {es : List Elem} {x : Int} (h : chL l op es = .error x) : x ≠ 0 := chL_err l op es x h
/-- Reading a tree's own elements again. -/
theorem readBack {a : List Node} (h : Tr schema a) (hc : cntL a < 10000) : pureW XX 14 [lN a, vS ⟨#[]⟩] = some (lE (a.map (elemN ⟨#[]⟩))) ∧ pureW XX 13 [lD schema, lE (a.map (elemN ⟨#[]⟩))] = some (aRead (.ok a)) := by
  refine ⟨elems_spec ⟨#[]⟩ (cntL a + 1) a (Nat.lt_succ_self _) (by omega), ?_⟩
  have := modelRead_spec 20000 schema (a.map (elemN ⟨#[]⟩)) (by rw [cnt_elemM]; omega) (by omega) (by rw [← elemL_map]; exact gd_okEs _ (by decide) a schema nm_schema h.gd) wk_schema (by decide) okDs_schema
  rw [back_ok wf_schema _ h] at this
  exact this
theorem trees_law (was elems : List Elem) (hok : okEs was) (hl : was.length ≤ 140737488355328) (hok2 : okEs elems) (hl2 : elems.length ≤ 140737488355328) : pureW XX 3 [lE was, lE elems] = some (vB true) := by
  have ht := tree15_spec was hok hl
  unfold aTree at ht
  refine pureW_in 63 Tryd.func3 Tryd.ntmps3 (by simp) (rfl : Tryd.f3.body = some _) fns_3 ?_
  cases hT : tree was with
  | none =>
    rw [hT] at ht
    simp only [Option.isSome_none] at ht
    simp (maxSteps := 200000) (disch := first | (simp only [go_sem, Nat.reduceAdd, Nat.reduceSub, Nat.reduceMul, Nat.reduceLeDiff, Nat.reduceEqDiff, Nat.reduceLT, Nat.reduceBEq, Nat.reduceBNe, Nat.reducePow, ↓reduceIte]; done) | omega | (simp only [go_sem, Nat.reduceAdd, Nat.reduceSub, Nat.reduceMul, Nat.reduceLeDiff, Nat.reduceEqDiff, Nat.reduceLT, Nat.reduceBEq, Nat.reduceBNe, Nat.reducePow, ↓reduceIte] <;> omega) | fail) only [go_sem, Nat.reduceAdd, Nat.reduceSub, Nat.reduceMul, Nat.reduceLeDiff, Nat.reduceEqDiff, Nat.reduceLT, Nat.reduceBEq, Nat.reduceBNe, Nat.reducePow, ↓reduceIte, callA_pure mode_7, fit15_spec, callA_data mode_8, ht]
  | some n =>
    rw [hT] at ht
    simp only [Option.isSome_some, Option.getD_some] at ht
    have hs := small_spec (cntEs elems + 1) elems 300 (by omega) hok2 hl2 (by omega) (by omega)
    by_cases hsm : smallL 300 elems < 0
    · simp (maxSteps := 200000) (disch := first | (simp only [go_sem, Nat.reduceAdd, Nat.reduceSub, Nat.reduceMul, Nat.reduceLeDiff, Nat.reduceEqDiff, Nat.reduceLT, Nat.reduceBEq, Nat.reduceBNe, Nat.reducePow, ↓reduceIte]; done) | omega | (simp only [go_sem, Nat.reduceAdd, Nat.reduceSub, Nat.reduceMul, Nat.reduceLeDiff, Nat.reduceEqDiff, Nat.reduceLT, Nat.reduceBEq, Nat.reduceBNe, Nat.reducePow, ↓reduceIte] <;> omega) | fail) only [go_sem, Nat.reduceAdd, Nat.reduceSub, Nat.reduceMul, Nat.reduceLeDiff, Nat.reduceEqDiff, Nat.reduceLT, Nat.reduceBEq, Nat.reduceBNe, Nat.reducePow, ↓reduceIte, callA_pure mode_7, fit15_spec, callA_data mode_8, ht, callA_pure mode_9, hs, hsm]
    have hce := smallL_cnt elems 300 (by omega)
    have hch := chRead_spec 400 schema 1 elems (by omega) (by omega) hok2 (by decide) okDs_schema
    obtain ⟨_, tc1, tc2⟩ := tree_some hT
    cases hC : chL schema 1 elems with
    | error x =>
      rw [hC] at hch
      simp only [aChs] at hch
      have hx := chL_err' hC
      simp (maxSteps := 200000) (disch := first | (simp only [go_sem, Nat.reduceAdd, Nat.reduceSub, Nat.reduceMul, Nat.reduceLeDiff, Nat.reduceEqDiff, Nat.reduceLT, Nat.reduceBEq, Nat.reduceBNe, Nat.reducePow, ↓reduceIte]; done) | omega | (simp only [go_sem, Nat.reduceAdd, Nat.reduceSub, Nat.reduceMul, Nat.reduceLeDiff, Nat.reduceEqDiff, Nat.reduceLT, Nat.reduceBEq, Nat.reduceBNe, Nat.reducePow, ↓reduceIte] <;> omega) | fail) only [go_sem, Nat.reduceAdd, Nat.reduceSub, Nat.reduceMul, Nat.reduceLeDiff, Nat.reduceEqDiff, Nat.reduceLT, Nat.reduceBEq, Nat.reduceBNe, Nat.reducePow, ↓reduceIte, callA_pure mode_7, fit15_spec, callA_data mode_8, ht, callA_pure mode_9, hs, hsm, callA_data mode_10, schema_spec, callA_data mode_11, hch, hx, ne_eq, not_false_eq_true]
    | ok cs =>
      rw [hC] at hch
      simp only [aChs] at hch
      have hsz := chL_sz _ _ _ _ hC
      have hap := applyS n cs (by omega) (by omega)
      have ze : ((0 : Int) = 0) = True := eq_true rfl
      cases hA : apD schema n cs with
      | error e =>
        rw [hA] at hap
        simp only [aAp] at hap
        rw [show lN [] = AV.fs [] false from rfl] at hap
        have he := apD_err hA
        have z0 : (((0 : Nat) : Int) = 0) = True := eq_true rfl
        simp (maxSteps := 200000) (disch := first | (simp only [go_sem, Nat.reduceAdd, Nat.reduceSub, Nat.reduceMul, Nat.reduceLeDiff, Nat.reduceEqDiff, Nat.reduceLT, Nat.reduceBEq, Nat.reduceBNe, Nat.reducePow, ↓reduceIte]; done) | omega | (simp only [go_sem, Nat.reduceAdd, Nat.reduceSub, Nat.reduceMul, Nat.reduceLeDiff, Nat.reduceEqDiff, Nat.reduceLT, Nat.reduceBEq, Nat.reduceBNe, Nat.reducePow, ↓reduceIte] <;> omega) | fail) only [go_sem, Nat.reduceAdd, Nat.reduceSub, Nat.reduceMul, Nat.reduceLeDiff, Nat.reduceEqDiff, Nat.reduceLT, Nat.reduceBEq, Nat.reduceBNe, Nat.reducePow, ↓reduceIte, callA_pure mode_7, fit15_spec, callA_data mode_8, ht, callA_pure mode_9, hs, hsm, callA_data mode_10, schema_spec, callA_data mode_11, hch, callA_data mode_12, hap, he, z0, ze, ne_eq, not_false_eq_true, not_true, decide_true]
      | ok a =>
        rw [hA] at hap
        simp only [aAp] at hap
        have htr := apD_tr wf_schema kf_schema (tree_tr hT) (chL_gc _ _ _ _ hC) hA
        have hcn := apD_cnt kf_schema hA
        obtain ⟨hb1, hb2⟩ := readBack htr (by omega)
        simp only [aRead] at hb2
        have heq := modelEqual_spec (cntL a + 1) a a (Nat.lt_succ_self _) (by omega)
        simp only [decide_true] at heq
        simp (maxSteps := 200000) (disch := first | (simp only [go_sem, Nat.reduceAdd, Nat.reduceSub, Nat.reduceMul, Nat.reduceLeDiff, Nat.reduceEqDiff, Nat.reduceLT, Nat.reduceBEq, Nat.reduceBNe, Nat.reducePow, ↓reduceIte]; done) | omega | (simp only [go_sem, Nat.reduceAdd, Nat.reduceSub, Nat.reduceMul, Nat.reduceLeDiff, Nat.reduceEqDiff, Nat.reduceLT, Nat.reduceBEq, Nat.reduceBNe, Nat.reducePow, ↓reduceIte] <;> omega) | fail) only [go_sem, Nat.reduceAdd, Nat.reduceSub, Nat.reduceMul, Nat.reduceLeDiff, Nat.reduceEqDiff, Nat.reduceLT, Nat.reduceBEq, Nat.reduceBNe, Nat.reducePow, ↓reduceIte, callA_pure mode_7, fit15_spec, callA_data mode_8, ht, callA_pure mode_9, hs, hsm, callA_data mode_10, schema_spec, callA_data mode_11, hch, callA_data mode_12, hap, ze, callA_data mode_14, hb1, callA_data mode_13, hb2, callA_pure mode_15, heq, ne_eq, not_true, not_false_eq_true, decide_true]
end Go.Abs.SA
end
