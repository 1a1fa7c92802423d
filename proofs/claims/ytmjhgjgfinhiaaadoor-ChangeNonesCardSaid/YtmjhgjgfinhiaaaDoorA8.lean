/- YtmjhgjgfinhiaaaDoorA8: a part of the interpreter by which the claim is shown, and of the walks: no conditions of its own: every theorem states its own. -/
import Derived.Test.YtmjhgjgfinhiaaaDoorA7
section
set_option linter.unusedVariables false
set_option linter.unusedSimpArgs false
set_option linter.unusedSectionVars false
set_option maxRecDepth 100000
set_option maxHeartbeats 4000000
set_option linter.unusedSimpArgs false
set_option linter.unusedVariables false
namespace Go.Abs.SA
open Go.Proofs

mutual
/-- One change among nodes. -/
def one1 (d : Def) (nodes : List Node) : Chg → Except Int (List Node)
  | .mk n v o ks => match sameAt d nodes (freshD d (.mk n v o ks)) with
    | none =>
      if o = 4 then .error 16 else if 4 ≤ o then .ok nodes
      else if o = 0 ∧ (d.kind = 3 ∨ d.kind = 2) then .error 16
      else if d.kind = 3 then .ok (nodes ++ [freshD d (.mk n v o ks)])
      else match apS d.kids d.keys (freshD d (.mk n v o ks)).kids ks with
        | .error e => .error e
        | .ok r => if d.kind = 1 ∧ order d.kids r = [] then .ok nodes else .ok (nodes ++ [.mk n ⟨#[]⟩ (order d.kids r)])
    | some i => match nodes[i]? with
      | none => .error 1
      | some x =>
        if o = 3 then .error 15 else if 4 ≤ o then .ok (nodes.eraseIdx i)
        else if d.kind = 3 then (if o = 0 then .ok nodes else .ok (nodes.set i (freshD d (.mk n v o ks))))
        else match apS d.kids d.keys (if o ≠ 2 then x.kids else (freshD d (.mk n v o ks)).kids) ks with
          | .error e => .error e
          | .ok r => if d.kind = 1 ∧ order d.kids r = [] then .ok (nodes.eraseIdx i) else .ok (nodes.set i (.mk x.name x.value (order d.kids r)))
/-- Changes, one behind the other, but for those of some names. -/
def apS (l : List Def) (sk : List Str) (nodes : List Node) : List Chg → Except Int (List Node)
  | [] => .ok nodes
  | c :: r => if has sk c.name then apS l sk nodes r else match place l c.name with
    | none => .error 11
    | some i => match l[i]? with
      | none => .error 11
      | some d => match one1 d nodes c with
        | .error e => .error e
        | .ok m => if 256 < m.length then .error 2 else apS l sk m r
end
theorem apS_nil (l : List Def) (sk : List Str) (nodes : List Node) : apS l sk nodes [] = .ok nodes := by rw [apS]
theorem apS_cons (l : List Def) (sk : List Str) (nodes : List Node) (c : Chg) (r : List Chg) : apS l sk nodes (c :: r) = if has sk c.name then apS l sk nodes r else match place l c.name with
    | none => .error 11
    | some i => match l[i]? with
      | none => .error 11
      | some d => match one1 d nodes c with
        | .error e => .error e
        | .ok m => if 256 < m.length then .error 2 else apS l sk m r := by rw [apS]
theorem apS_skip (l : List Def) (sk : List Str) : ∀ (ks : List Chg) (nodes : List Node), apS l [] nodes (ks.filter fun c => !has sk c.name) = apS l sk nodes ks
  | [], nodes => by rw [List.filter_nil, apS_nil, apS_nil]
  | c :: r, nodes => by
    rw [apS_cons l sk]
    cases h : has sk c.name with
    | true =>
      rw [List.filter_cons, if_neg (by simp [h]), if_pos rfl]
      exact apS_skip l sk r nodes
    | false =>
      rw [List.filter_cons, if_pos (by simp [h]), if_neg (by simp), apS_cons, if_neg (by simp [has])]
      split
      · rfl
      · split
        · rfl
        · split
          · rfl
          · split
            · rfl
            · exact apS_skip l sk r _
/-- What change.Apply answers. -/
def apD (l : List Def) (nodes : List Node) (cs : List Chg) : Except Int (List Node) := match apS l [] nodes cs with
  | .error e => .error e
  | .ok r => .ok (order l r)
mutual
theorem one1_err (d : Def) (ns : List Node) : ∀ (c : Chg) (e : Int), one1 d ns c = .error e → e ≠ 0
  | .mk n v o ks, e, h => by
    rw [one1] at h
    split at h
    · split at h
      · cases h; decide
      · split at h
        · cases h
        · split at h
          · cases h; decide
          · split at h
            · cases h
            · split at h
              · rename_i e1 he; cases h; exact apS_err d.kids d.keys _ ks e he
              · split at h <;> cases h
    · split at h
      · cases h; decide
      · split at h
        · cases h; decide
        · split at h
          · cases h
          · split at h
            · split at h <;> cases h
            · split at h
              · rename_i e1 he; cases h; exact apS_err d.kids d.keys _ ks e he
              · split at h <;> cases h
theorem apS_err (l : List Def) (sk : List Str) (ns : List Node) : ∀ (cs : List Chg) (e : Int), apS l sk ns cs = .error e → e ≠ 0
  | [], e, h => by rw [apS_nil] at h; cases h
  | c :: r, e, h => by
    rw [apS_cons] at h
    split at h
    · exact apS_err l sk ns r e h
    · split at h
      · cases h; decide
      · split at h
        · cases h; decide
        · split at h
          · rename_i e1 he; cases h; exact one1_err _ _ c e he
          · split at h
            · cases h; decide
            · exact apS_err l sk _ r e h
end
/-! Sizes. -/
theorem order_ok {l : List Def} {ns : List Node} (h : okTl ns) : okTl (order l ns) := okTl_iff.2 fun x hx => okTl_iff.1 h x ((order_mem l ns).1 hx)
theorem freshD_kids (d : Def) (c : Chg) (hd : d.keys.length ≤ 1024) (hc : c.kids.length ≤ 1024) : (freshD d c).kids.length ≤ 1048576 := by
  have : ∀ (ks : List Str), (ks.flatMap fun k => (c.kids.filter fun x => decide (x.name = k)).map fun x => Node.mk k x.value []).length ≤ ks.length * c.kids.length := by
    intro ks
    induction ks with
    | nil => simp
    | cons k r ih =>
      rw [List.flatMap_cons, List.length_append, List.length_map, List.length_cons, Nat.succ_mul]
      have := List.length_filter_le (fun x : Chg => decide (x.name = k)) c.kids
      omega
  have h := this d.keys
  have h2 : d.keys.length * c.kids.length ≤ 1024 * 1024 := Nat.mul_le_mul hd hc
  show (d.keys.flatMap _).length ≤ _
  omega
theorem freshD_ok (d : Def) (c : Chg) : okTl (freshD d c).kids := by
  rw [okTl_iff]
  intro x hx
  simp only [freshD, Node.kids, List.mem_flatMap, List.mem_map] at hx
  obtain ⟨k, _, y, _, rfl⟩ := hx
  rw [okT_s]
  simp [Node.kids, okTl]
mutual
def okG : Chg → Prop
  | .mk _ _ _ ks => ks.length ≤ 1024 ∧ okGl ks
def okGl : List Chg → Prop
  | [] => True
  | c :: r => okG c ∧ okGl r
end
theorem okG_s {c : Chg} : okG c ↔ c.kids.length ≤ 1024 ∧ okGl c.kids := by cases c; rw [okG]; rfl
theorem okGl_iff : ∀ {l : List Chg}, okGl l ↔ ∀ x ∈ l, okG x
  | [] => by simp [okGl]
  | y :: r => by rw [okGl, okGl_iff (l := r)]; simp
mutual
/-- No more than so many keys. -/
def fewD : Def → Prop
  | .mk _ _ _ _ _ ks kd => ks.length ≤ 1024 ∧ fewDs kd
def fewDs : List Def → Prop
  | [] => True
  | d :: r => fewD d ∧ fewDs r
end
theorem fewD_s {d : Def} : fewD d ↔ d.keys.length ≤ 1024 ∧ fewDs d.kids := by cases d; rw [fewD]; rfl
theorem fewDs_iff : ∀ {l : List Def}, fewDs l ↔ ∀ x ∈ l, fewD x
  | [] => by simp [fewDs]
  | y :: r => by rw [fewDs, fewDs_iff (l := r)]; simp
theorem okTl_erase {ns : List Node} (h : okTl ns) (i : Nat) : okTl (ns.eraseIdx i) := okTl_iff.2 fun x hx => okTl_iff.1 h x (List.mem_of_mem_eraseIdx hx)
theorem okTl_app {a b : List Node} (h : okTl a) (g : okTl b) : okTl (a ++ b) := okTl_iff.2 fun x hx => by
  rcases List.mem_append.1 hx with hx | hx
  · exact okTl_iff.1 h x hx
  · exact okTl_iff.1 g x hx
theorem okTl_set {ns : List Node} (h : okTl ns) (i : Nat) {x : Node} (g : okT x) : okTl (ns.set i x) := okTl_iff.2 fun y hy => by
  rcases List.mem_or_eq_of_mem_set hy with hy | rfl
  · exact okTl_iff.1 h y hy
  · exact g
mutual
theorem one1_ok (d : Def) (hd : fewD d) (ns : List Node) (h : okTl ns) : ∀ (c : Chg) (m : List Node), okG c → one1 d ns c = .ok m → okTl m ∧ m.length ≤ ns.length + 1
  | .mk n v o ks, m, hc, ho => by
    obtain ⟨k1, k2⟩ := fewD_s.1 hd
    obtain ⟨c1, c2⟩ := okG_s.1 hc
    have f1 := freshD_kids d (.mk n v o ks) k1 c1
    have f2 := freshD_ok d (.mk n v o ks)
    have ff : okT (freshD d (.mk n v o ks)) := okT_s.2 ⟨f1, f2⟩
    have sub : ∀ was r, okTl was → was.length ≤ 1048576 → apS d.kids d.keys was ks = .ok r → okTl (order d.kids r) ∧ (order d.kids r).length ≤ 1048576 := fun was r w1 w2 hr => by
      obtain ⟨q1, q2⟩ := apS_ok d.kids k2 d.keys was w1 w2 ks r c2 hr
      exact ⟨order_ok q1, by rw [order_len]; exact q2⟩
    rw [one1] at ho
    split at ho
    · split at ho
      · cases ho
      · split at ho
        · cases ho; exact ⟨h, by omega⟩
        · split at ho
          · cases ho
          · split at ho
            · cases ho
              exact ⟨okTl_app h (okTl_iff.2 (by intro x hx; rw [List.mem_singleton] at hx; subst hx; exact ff)), by simp⟩
            · split at ho
              · cases ho
              · rename_i r hr
                obtain ⟨q1, q2⟩ := sub _ r f2 f1 hr
                split at ho
                · cases ho; exact ⟨h, by omega⟩
                · cases ho
                  exact ⟨okTl_app h (okTl_iff.2 (by intro x hx; rw [List.mem_singleton] at hx; subst hx; exact okT_s.2 ⟨q2, q1⟩)), by simp⟩
    · split at ho
      · cases ho
      · rename_i i _ x hx
        have hxk := okT_s.1 (okTl_iff.1 h x (List.mem_of_getElem? hx))
        split at ho
        · cases ho
        · split at ho
          · cases ho; exact ⟨okTl_erase h _, by rw [List.length_eraseIdx]; split <;> omega⟩
          · split at ho
            · split at ho
              · cases ho; exact ⟨h, by omega⟩
              · cases ho; exact ⟨okTl_set h _ ff, by simp⟩
            · split at ho
              · cases ho
              · rename_i r hr
                obtain ⟨q1, q2⟩ := sub _ r (by split <;> first | exact hxk.2 | exact f2) (by split <;> first | exact hxk.1 | exact f1) hr
                split at ho
                · cases ho; exact ⟨okTl_erase h _, by rw [List.length_eraseIdx]; split <;> omega⟩
                · cases ho; exact ⟨okTl_set h _ (okT_s.2 ⟨q2, q1⟩), by simp⟩
theorem apS_ok (l : List Def) (hl : fewDs l) (sk : List Str) (ns : List Node) (h : okTl ns) (hn : ns.length ≤ 1048576) : ∀ (cs : List Chg) (r : List Node), okGl cs → apS l sk ns cs = .ok r → okTl r ∧ r.length ≤ 1048576
  | [], r, _, hr => by rw [apS_nil] at hr; cases hr; exact ⟨h, hn⟩
  | c :: cs, r, hc, hr => by
    rw [okGl] at hc
    rw [apS_cons] at hr
    split at hr
    · exact apS_ok l hl sk ns h hn cs r hc.2 hr
    · split at hr
      · cases hr
      · split at hr
        · cases hr
        · rename_i i _ _ d hd
          split at hr
          · cases hr
          · rename_i m hm
            split at hr
            · cases hr
            · have := one1_ok d (fewDs_iff.1 hl d (List.mem_of_getElem? hd)) ns h c m hc.1 hm
              exact apS_ok l hl sk m this.1 (by omega) cs r hc.2 hr
end
end Go.Abs.SA
end

section
set_option linter.unusedVariables false
set_option linter.unusedSimpArgs false
set_option linter.unusedSectionVars false
set_option maxRecDepth 100000
set_option maxHeartbeats 8000000
set_option linter.unusedSimpArgs false
set_option linter.unusedVariables false
namespace Go.Abs.SA
open Go.Proofs

theorem rens_map (f : Nat → Option Nat) : ∀ l : List AV, AV.rens f l = l.map (AV.ren f)
  | [] => by rw [AV.rens]; rfl
  | x :: r => by rw [AV.rens, rens_map f r]; rfl
/-- A call that is handed an array, which may grow, beside a variable in which no block is named; it leaves blocks of its own behind. -/
theorem callX_gr {X : Abs.X} {t : List AV} {f k e sz : Nat} {es es' : List (List AV)} {cs xs : List AV} {r : AV} {bs : List Blk} (hl : (X.live f).contains k = true) (h2 : AV.lts 0 xs = false) (hi : addNew [] (idsOfs xs) = [0]) (hx : AV.rens (fun i => posOf i [0]) xs = xs) (hc : idsOfs cs = [])
    (hb : ∀ b ∈ bs, ∀ f, b.ren f = b) (hr : ∀ n, r.ren (backF n [0]) = r) (hw : loudW X k xs [.arr e sz es] = some (r, .arr e sz es' :: bs)) :
    ∃ g : AV → AV, (∀ x, idsOf x = [] → g x = x) ∧ callX X (orW X) ⟨t, [.arr e sz es, .var cs]⟩ f k xs = some (.st r ⟨t.map g, [.arr e sz es', .var cs] ++ bs⟩) := by
  refine ⟨AV.ren (keepF (badL [0] [.arr e sz es] (.arr e sz es' :: bs))), fun x hx => ren_noids _ x hx, ?_⟩
  rw [callX_live _ _ hl h2]
  have hre : reach [.arr e sz es, .var cs] 6 (addNew [] (idsOfs xs)) = [0] := by
    rw [hi]
    simp [addNew, reach]
  unfold callL
  dsimp only
  rw [hre]
  have hcnd : dist [0] = true ∧ [0].all (fun i => decide (i < [Blk.arr e sz es, Blk.var cs].length)) = true := by simp [dist]
  rw [if_pos hcnd]
  have hm : ([0].map fun i => (([Blk.arr e sz es, Blk.var cs].getD i .dead).ren fun k => posOf k [0])) = [.arr e sz es] := by
    simp [Blk.ren]
  simp only [hm, hx]
  rw [show (orW X).loud k xs [.arr e sz es] = some (r, .arr e sz es' :: bs) from hw]
  dsimp only
  rw [hr, rens_map]
  congr 3
  unfold putBack
  have hbs : bs.map (Blk.ren (backF [Blk.arr e sz es, Blk.var cs].length [0])) = bs := by
    conv => rhs; rw [← List.map_id bs]
    exact List.map_congr_left fun b hbb => hb b hbb _
  simp [Blk.ren, rens_noids _ cs hc, posOf]
  simpa using hbs
end Go.Abs.SA
end

section
set_option linter.unusedVariables false
set_option linter.unusedSimpArgs false
set_option linter.unusedSectionVars false
set_option maxRecDepth 100000
set_option maxHeartbeats 16000000
set_option linter.unusedSimpArgs false
set_option linter.unusedVariables false
namespace Go.Abs.SA
open Go.Proofs

/-- What change.one answers: it leaves the array, longer by what is no longer wanted, and blocks of its own. -/
def oneOk (args : List AV) (ns T : List Node) : Except Int (List Node) → Prop
  | .error e => ∃ bs, (∀ b ∈ bs, ∀ f : Nat → Option Nat, b.ren f = b) ∧ loudW XX 24 args [.arr 41 3 ((ns ++ T).map eNode)] = some (.tup [.fs [] true, vI e], .arr 41 3 ((ns ++ T).map eNode) :: bs)
  | .ok m => ∃ T' bs, (okN T → okN T') ∧ (∀ b ∈ bs, ∀ f : Nat → Option Nat, b.ren f = b) ∧ loudW XX 24 args [.arr 41 3 ((ns ++ T).map eNode)] = some (.tup [.sl 0 0 m.length false, vI 0], .arr 41 3 ((m ++ T').map eNode) :: bs)
theorem okN_z {T : List Node} (h : okN T) : okN (zN :: T) := by
  intro x hx
  rcases List.mem_cons.1 hx with rfl | hx
  · simp [Node.kids]
  · exact h x hx
theorem okN_t {T : List Node} (h : okN T) : okN T.tail := fun x hx => h x (List.mem_of_mem_tail hx)
theorem okN_zt {T : List Node} (h : okN T) : okN (zN :: T.tail) := okN_z (okN_t h)
theorem x24 (s : St) (k : Nat) (xs : List AV) (h : k ≠ 39) : callX XX (orW XX) s 24 k xs = callA XX (orW XX) s k xs := by
  rw [callX_if live_24, if_neg]
  simp
  intro hk
  exact absurd hk h
/-- What change.Apply answers, as a value. -/
def aAp : Except Int (List Node) → AV
  | .error e => .tup [lN [], vI e]
  | .ok m => .tup [lN m, vI 0]
theorem ren_var (f : Nat → Option Nat) (cs : List AV) (h : idsOfs cs = []) : (Blk.var cs).ren f = .var cs := by simp [Blk.ren, rens_noids _ cs h]
/-- The blocks that change.one leaves behind. -/
abbrev bsO (d : Def) (c : Chg) (b : List AV) : List Blk := [.var [vS d.name, vI d.kind, vI d.type, lS d.values, vB d.must, lS d.keys, lD d.kids], .var [vS c.name, vS c.value, vI c.op, lC c.kids], .var b]
theorem bsO_ok (d : Def) (c : Chg) (x : Node) : ∀ b ∈ bsO d c [vS x.name, vS x.value, lN x.kids], ∀ f : Nat → Option Nat, b.ren f = b := by
  intro b hb f
  simp only [bsO, List.mem_cons, List.not_mem_nil, or_false] at hb
  rcases hb with rfl | rfl | rfl <;> exact ren_var _ _ (by simp [idsOfs, idsOf])
/-- A call that is handed the first array alone and gives a part of it. -/
theorem callX_arr0 {X : Abs.X} {t : List AV} {rest : List Blk} {f k e sz : Nat} {es es' : List (List AV)} {xs : List AV} {r : AV} (hl : (X.live f).contains k = true) (h2 : AV.lts 0 xs = false) (hi : addNew [] (idsOfs xs) = [0]) (hx : AV.rens (fun i => posOf i [0]) xs = xs) (he : es'.length = es.length) (hr : ∀ n, r.ren (backF n [0]) = r)
    (hw : loudW X k xs [.arr e sz es] = some (r, [.arr e sz es'])) : callX X (orW X) ⟨t, .arr e sz es :: rest⟩ f k xs = some (.st r ⟨t, .arr e sz es' :: rest⟩) := by
  rw [callX_live _ _ hl h2]
  have hre : reach (.arr e sz es :: rest) 6 (addNew [] (idsOfs xs)) = [0] := by
    rw [hi]
    simp [addNew, reach]
  have hbl : badL [0] [.arr e sz es] [.arr e sz es'] = [] := by simp [badL, badB, he]
  unfold callL
  dsimp only
  rw [hre]
  have hcnd : dist [0] = true ∧ [0].all (fun i => decide (i < (Blk.arr e sz es :: rest).length)) = true := by simp [dist]
  rw [if_pos hcnd]
  have hm : ([0].map fun i => (((Blk.arr e sz es :: rest).getD i .dead).ren fun k => posOf k [0])) = [.arr e sz es] := by
    simp [Blk.ren]
  simp only [hm, hx]
  rw [show (orW X).loud k xs [.arr e sz es] = some (r, [.arr e sz es']) from hw]
  dsimp only
  rw [hr, hbl, rens_id keepF_nil]
  congr 3
  unfold putBack
  simp only [List.drop_succ_cons, List.drop_nil, List.length_cons, List.length_nil, List.map_nil, List.append_nil, List.mapIdx_cons]
  congr 1
  apply List.ext_getElem?
  intro q
  rw [List.getElem?_mapIdx]
  cases rest[q]? with
  | none => rfl
  | some b =>
    simp only [Option.map_some, posOf]
    rw [if_neg (by omega)]
    simp only [Option.map_none]
    rw [bren_id keepF_nil]
theorem one_some (d : Def) (c : Chg) (ns T : List Node) (hd : d.keys.length ≤ 1048576) (hc : c.kids.length ≤ 1048576) (hn : ns.length ≤ 1048576) (hkn : ∀ x ∈ ns, x.kids.length ≤ 140737488355328) (hfr : (freshD d c).kids.length ≤ 140737488355328) (i : Nat) (hi : i < ns.length) (hs : sameAt d ns (freshD d c) = some i)
    (hbox : ¬ (¬ c.op = 3 ∧ ¬ 4 ≤ c.op ∧ ¬ d.kind = 3)) :
    oneOk [aDef d, .sl 0 0 ns.length false, aChg c] ns T (one1 d ns c) := by
  have hf := fresh_spec d c hd hc
  have hsm := modelSame_spec d ns (freshD d c) (by omega) hfr (by omega) hkn
  rw [hs] at hsm
  simp only [posI] at hsm
  have n1 : (0 ≤ (i : Int)) = True := eq_true (by omega)
  have n2 : ((i : Int) < 0) = False := eq_false (by omega)
  have hfz := frzSl_pre (enc := eNode) (e := 41) (sz := 3) ns T
  have ho1 : one1 d ns c = (if c.op = 3 then .error 15 else if 4 ≤ c.op then .ok (ns.eraseIdx i)
        else if d.kind = 3 then (if c.op = 0 then .ok ns else .ok (ns.set i (freshD d c)))
        else match apS d.kids d.keys (if c.op ≠ 2 then ns[i].kids else (freshD d c).kids) c.kids with
          | .error e => .error e
          | .ok r => if d.kind = 1 ∧ order d.kids r = [] then .ok (ns.eraseIdx i) else .ok (ns.set i (.mk ns[i].name ns[i].value (order d.kids r)))) := by
    cases c with
    | mk n v o ks =>
      rw [one1, hs]
      simp only [List.getElem?_eq_getElem hi]
      rfl
  rw [ho1]
  by_cases h3 : c.op = 3
  · rw [if_pos h3]
    have h3' := eq_true h3
    refine ⟨bsO d c [vS (freshD d c).name, vS (freshD d c).value, lN (freshD d c).kids], bsO_ok _ _ _, ?_⟩
    refine loudW_in 147 Tryd.func24 Tryd.ntmps24 (by simp) (rfl : Tryd.f24.body = some _) fns_24 ?_
    simp (maxSteps := 200000) (disch := first | (simp only [go_sem, Nat.reduceAdd, Nat.reduceSub, Nat.reduceMul, Nat.reduceLeDiff, Nat.reduceEqDiff, Nat.reduceLT, Nat.reduceBEq, Nat.reduceBNe, Nat.reducePow, ↓reduceIte]; done) | omega | (simp only [go_sem, Nat.reduceAdd, Nat.reduceSub, Nat.reduceMul, Nat.reduceLeDiff, Nat.reduceEqDiff, Nat.reduceLT, Nat.reduceBEq, Nat.reduceBNe, Nat.reducePow, ↓reduceIte] <;> omega) | fail) only [go_sem, Nat.reduceAdd, Nat.reduceSub, Nat.reduceMul, Nat.reduceLeDiff, Nat.reduceEqDiff, Nat.reduceLT, Nat.reduceBEq, Nat.reduceBNe, Nat.reducePow, ↓reduceIte, x24, callA_data mode_38, hf, callA_pure mode_16, hfz, hsm, h3', n1]
  rw [if_neg h3]
  by_cases h4 : 4 ≤ c.op
  · rw [if_pos h4]
    have h4' := eq_true h4
    have h3' := eq_false h3
    refine ⟨zN :: T, bsO d c [vS (freshD d c).name, vS (freshD d c).value, lN (freshD d c).kids], okN_z, bsO_ok _ _ _, ?_⟩
    have hdl := delete_spec ns T i ns.length rfl (by omega) hi
    have hcx : ∀ t, callX XX (orW XX) ⟨t, .arr 41 3 ((ns ++ T).map eNode) :: bsO d c [vS (freshD d c).name, vS (freshD d c).value, lN (freshD d c).kids]⟩ 24 39 [.sl 0 0 ns.length false, vI i, vI ((i + 1 : Nat) : Int)] = some (.st (.sl 0 0 (ns.length - 1) false) ⟨t, .arr 41 3 ((ns.eraseIdx i ++ zN :: T).map eNode) :: bsO d c [vS (freshD d c).name, vS (freshD d c).value, lN (freshD d c).kids]⟩) := fun t =>
      callX_arr0 (by rw [live_24]; rfl) (by simp [AV.lts, AV.lt]) (by simp [idsOfs, idsOf, addNew]) (by simp [AV.rens, AV.ren, posOf]) (by simp [List.length_eraseIdx, hi]; omega) (fun n => by simp [AV.ren, backF]) hdl
    have hel : (ns.eraseIdx i).length = ns.length - 1 := by rw [List.length_eraseIdx, if_pos hi]
    have hwi := wrap_succ hi (show ns.length ≤ 140737488355328 by omega)
    rw [hel]
    refine loudW_in 147 Tryd.func24 Tryd.ntmps24 (by simp) (rfl : Tryd.f24.body = some _) fns_24 ?_
    by_cases h44 : c.op = 4
    · have h44' := eq_true h44
      simp (maxSteps := 200000) (disch := first | (simp only [go_sem, Nat.reduceAdd, Nat.reduceSub, Nat.reduceMul, Nat.reduceLeDiff, Nat.reduceEqDiff, Nat.reduceLT, Nat.reduceBEq, Nat.reduceBNe, Nat.reducePow, ↓reduceIte]; done) | omega | (simp only [go_sem, Nat.reduceAdd, Nat.reduceSub, Nat.reduceMul, Nat.reduceLeDiff, Nat.reduceEqDiff, Nat.reduceLT, Nat.reduceBEq, Nat.reduceBNe, Nat.reducePow, ↓reduceIte] <;> omega) | fail) only [go_sem, Nat.reduceAdd, Nat.reduceSub, Nat.reduceMul, Nat.reduceLeDiff, Nat.reduceEqDiff, Nat.reduceLT, Nat.reduceBEq, Nat.reduceBNe, Nat.reducePow, ↓reduceIte, x24, callA_data mode_38, hf, callA_pure mode_16, hfz, hsm, h3', h4', h44', n1, n2, hwi, hcx]
    · have h44' := eq_false h44
      simp (maxSteps := 200000) (disch := first | (simp only [go_sem, Nat.reduceAdd, Nat.reduceSub, Nat.reduceMul, Nat.reduceLeDiff, Nat.reduceEqDiff, Nat.reduceLT, Nat.reduceBEq, Nat.reduceBNe, Nat.reducePow, ↓reduceIte]; done) | omega | (simp only [go_sem, Nat.reduceAdd, Nat.reduceSub, Nat.reduceMul, Nat.reduceLeDiff, Nat.reduceEqDiff, Nat.reduceLT, Nat.reduceBEq, Nat.reduceBNe, Nat.reducePow, ↓reduceIte] <;> omega) | fail) only [go_sem, Nat.reduceAdd, Nat.reduceSub, Nat.reduceMul, Nat.reduceLeDiff, Nat.reduceEqDiff, Nat.reduceLT, Nat.reduceBEq, Nat.reduceBNe, Nat.reducePow, ↓reduceIte, x24, callA_data mode_38, hf, callA_pure mode_16, hfz, hsm, h3', h4', h44', n1, n2, hwi, hcx]
  rw [if_neg h4]
  have h3' := eq_false h3
  have h4' := eq_false h4
  have h44' : (c.op = 4) = False := eq_false (by omega)
  have hiT : i < (ns ++ T).length := by rw [List.length_append]; omega
  by_cases hk : d.kind = 3
  · have hk' := eq_true hk
    have hk2' : (d.kind = 2) = False := eq_false (by omega)
    rw [if_pos hk]
    by_cases h0 : c.op = 0
    · have h0' := eq_true h0
      rw [if_pos h0]
      refine ⟨T, bsO d c [vS (freshD d c).name, vS (freshD d c).value, lN (freshD d c).kids], id, bsO_ok _ _ _, ?_⟩
      refine loudW_in 147 Tryd.func24 Tryd.ntmps24 (by simp) (rfl : Tryd.f24.body = some _) fns_24 ?_
      simp (maxSteps := 200000) (disch := first | (simp only [go_sem, Nat.reduceAdd, Nat.reduceSub, Nat.reduceMul, Nat.reduceLeDiff, Nat.reduceEqDiff, Nat.reduceLT, Nat.reduceBEq, Nat.reduceBNe, Nat.reducePow, ↓reduceIte]; done) | omega | (simp only [go_sem, Nat.reduceAdd, Nat.reduceSub, Nat.reduceMul, Nat.reduceLeDiff, Nat.reduceEqDiff, Nat.reduceLT, Nat.reduceBEq, Nat.reduceBNe, Nat.reducePow, ↓reduceIte] <;> omega) | fail) only [go_sem, Nat.reduceAdd, Nat.reduceSub, Nat.reduceMul, Nat.reduceLeDiff, Nat.reduceEqDiff, Nat.reduceLT, Nat.reduceBEq, Nat.reduceBNe, Nat.reducePow, ↓reduceIte, x24, callA_data mode_38, hf, callA_pure mode_16, hfz, hsm, h3', h4', h44', h0', hk', n1, n2]
    · have h0' := eq_false h0
      rw [if_neg h0]
      refine ⟨T, bsO d c [vS (freshD d c).name, vS (freshD d c).value, lN (freshD d c).kids], id, bsO_ok _ _ _, ?_⟩
      have hst : ((ns ++ T).map eNode).set i [vS (freshD d c).name, vS (freshD d c).value, .fs ((freshD d c).kids.map eNode) false] = (ns.set i (freshD d c) ++ T).map eNode := by
        rw [set_N, List.set_append_left _ _ hi]
      refine loudW_in 147 Tryd.func24 Tryd.ntmps24 (by simp) (rfl : Tryd.f24.body = some _) fns_24 ?_
      simp (maxSteps := 200000) (disch := first | (simp only [go_sem, Nat.reduceAdd, Nat.reduceSub, Nat.reduceMul, Nat.reduceLeDiff, Nat.reduceEqDiff, Nat.reduceLT, Nat.reduceBEq, Nat.reduceBNe, Nat.reducePow, ↓reduceIte]; done) | omega | (simp only [go_sem, Nat.reduceAdd, Nat.reduceSub, Nat.reduceMul, Nat.reduceLeDiff, Nat.reduceEqDiff, Nat.reduceLT, Nat.reduceBEq, Nat.reduceBNe, Nat.reducePow, ↓reduceIte] <;> omega) | fail) only [go_sem, Nat.reduceAdd, Nat.reduceSub, Nat.reduceMul, Nat.reduceLeDiff, Nat.reduceEqDiff, Nat.reduceLT, Nat.reduceBEq, Nat.reduceBNe, Nat.reducePow, ↓reduceIte, x24, callA_data mode_38, hf, callA_pure mode_16, hfz, hsm, h3', h4', h44', h0', hk', hk2', n1, n2, hi, hiT, hst, List.length_set]
  · exact absurd ⟨h3, h4, hk⟩ hbox
end Go.Abs.SA
end

section
set_option linter.unusedVariables false
set_option linter.unusedSimpArgs false
set_option linter.unusedSectionVars false
set_option maxRecDepth 100000
set_option maxHeartbeats 16000000
set_option linter.unusedSimpArgs false
set_option linter.unusedVariables false
namespace Go.Abs.SA
open Go.Proofs

theorem boxR_err (d : Def) (c : Chg) (ns T : List Node) (hd : d.keys.length ≤ 1048576) (hc : c.kids.length ≤ 1048576) (hn : ns.length ≤ 1048576) (hkn : ∀ x ∈ ns, x.kids.length ≤ 140737488355328) (hfr : (freshD d c).kids.length ≤ 140737488355328) (i : Nat) (hi : i < ns.length) (hs : sameAt d ns (freshD d c) = some i)
    (hap : ∀ was, was = ns[i].kids ∨ was = (freshD d c).kids → pureW XX 12 [lD d.kids, lN was, lC (c.kids.filter fun x => !has d.keys x.name)] = some (aAp (apD d.kids was (c.kids.filter fun x => !has d.keys x.name)))) (h3 : ¬ c.op = 3) (h4 : ¬ 4 ≤ c.op) (hk : ¬ d.kind = 3) (h2 : c.op = 2) (F : List Chg) (hF : (c.kids.filter fun x => !has d.keys x.name) = F) (e : Int) (he : e ≠ 0)
    (ha : pureW XX 12 [lD d.kids, lN (freshD d c).kids, lC F] = some (.tup [lN [], vI e])) :
    loudW XX 24 [aDef d, .sl 0 0 ns.length false, aChg c] [.arr 41 3 ((ns ++ T).map eNode)] = some (.tup [.fs [] true, vI e], .arr 41 3 ((ns ++ T).map eNode) :: bsO d c [vS (freshD d c).name, vS (freshD d c).value, lN (freshD d c).kids]) := by
  have hf := fresh_spec d c hd hc
  have hsm := modelSame_spec d ns (freshD d c) (by omega) hfr (by omega) hkn
  rw [hs] at hsm
  simp only [posI] at hsm
  have n1 : (0 ≤ (i : Int)) = True := eq_true (by omega)
  have n2 : ((i : Int) < 0) = False := eq_false (by omega)
  have hfz := frzSl_pre (enc := eNode) (e := 41) (sz := 3) ns T
  have hgn : ∀ (h : i < (ns ++ T).length), (ns ++ T)[i] = ns[i] := fun h => List.getElem_append_left hi
  have h3' := eq_false h3
  have h4' := eq_false h4
  have h44' : (c.op = 4) = False := eq_false (by omega)
  have hk' := eq_false hk
  have hiT : i < (ns ++ T).length := by rw [List.length_append]; omega
  have hsk := skip_spec d c.kids (by omega) hc
  have ze : ((0 : Int) = 0) = True := eq_true rfl
  rw [hF] at hsk
  have h2' := eq_true h2
  have he0 : (e = 0) = False := eq_false he
  refine loudW_in 147 Tryd.func24 Tryd.ntmps24 (by simp) (rfl : Tryd.f24.body = some _) fns_24 ?_
  rcases Classical.propComplete (d.kind = 2) with k2 | k2 <;> rcases Classical.propComplete (c.op = 0) with h0' | h0' <;> first
    | (exfalso; have := of_eq_true h0'; omega)
    | (simp (maxSteps := 200000) (disch := first | (simp only [go_sem, Nat.reduceAdd, Nat.reduceSub, Nat.reduceMul, Nat.reduceLeDiff, Nat.reduceEqDiff, Nat.reduceLT, Nat.reduceBEq, Nat.reduceBNe, Nat.reducePow, ↓reduceIte]; done) | omega | (simp only [go_sem, Nat.reduceAdd, Nat.reduceSub, Nat.reduceMul, Nat.reduceLeDiff, Nat.reduceEqDiff, Nat.reduceLT, Nat.reduceBEq, Nat.reduceBNe, Nat.reducePow, ↓reduceIte] <;> omega) | fail) only [go_sem, Nat.reduceAdd, Nat.reduceSub, Nat.reduceMul, Nat.reduceLeDiff, Nat.reduceEqDiff, Nat.reduceLT, Nat.reduceBEq, Nat.reduceBNe, Nat.reducePow, ↓reduceIte, x24, callA_data mode_38, hf, callA_pure mode_16, hfz, hsm, h3', h4', h44', h0', h2', hk', k2, n1, n2, hi, hiT, hgn, callA_data mode_40, hsk, callA_data mode_12, ha, ne_eq, not_true, not_false_eq_true, he0])
theorem boxR_ok (d : Def) (c : Chg) (ns T : List Node) (hd : d.keys.length ≤ 1048576) (hc : c.kids.length ≤ 1048576) (hn : ns.length ≤ 1048576) (hkn : ∀ x ∈ ns, x.kids.length ≤ 140737488355328) (hfr : (freshD d c).kids.length ≤ 140737488355328) (i : Nat) (hi : i < ns.length) (hs : sameAt d ns (freshD d c) = some i)
    (hap : ∀ was, was = ns[i].kids ∨ was = (freshD d c).kids → pureW XX 12 [lD d.kids, lN was, lC (c.kids.filter fun x => !has d.keys x.name)] = some (aAp (apD d.kids was (c.kids.filter fun x => !has d.keys x.name)))) (h3 : ¬ c.op = 3) (h4 : ¬ 4 ≤ c.op) (hk : ¬ d.kind = 3) (h2 : c.op = 2) (F : List Chg) (hF : (c.kids.filter fun x => !has d.keys x.name) = F) (K : List Node) (hKl : K.length ≤ 1048576) (he : ¬ (d.kind = 1 ∧ K = []))
    (ha : pureW XX 12 [lD d.kids, lN (freshD d c).kids, lC F] = some (.tup [lN K, vI 0])) :
    loudW XX 24 [aDef d, .sl 0 0 ns.length false, aChg c] [.arr 41 3 ((ns ++ T).map eNode)] = some (.tup [.sl 0 0 ns.length false, vI 0], .arr 41 3 ((ns.set i (.mk ns[i].name ns[i].value K) ++ T).map eNode) :: (bsO d c [vS (freshD d c).name, vS (freshD d c).value, lN (freshD d c).kids] ++ [.dead])) := by
  have hf := fresh_spec d c hd hc
  have hsm := modelSame_spec d ns (freshD d c) (by omega) hfr (by omega) hkn
  rw [hs] at hsm
  simp only [posI] at hsm
  have n1 : (0 ≤ (i : Int)) = True := eq_true (by omega)
  have n2 : ((i : Int) < 0) = False := eq_false (by omega)
  have hfz := frzSl_pre (enc := eNode) (e := 41) (sz := 3) ns T
  have hgn : ∀ (h : i < (ns ++ T).length), (ns ++ T)[i] = ns[i] := fun h => List.getElem_append_left hi
  have h3' := eq_false h3
  have h4' := eq_false h4
  have h44' : (c.op = 4) = False := eq_false (by omega)
  have hk' := eq_false hk
  have hiT : i < (ns ++ T).length := by rw [List.length_append]; omega
  have hsk := skip_spec d c.kids (by omega) hc
  have ze : ((0 : Int) = 0) = True := eq_true rfl
  rw [hF] at hsk
  have h2' := eq_true h2
  have hst : ∀ (t' : List AV) (h' : List Blk), stEl2 1 0 i 2 t' h' (some (.arr 41 3 ((ns ++ T).map eNode))) (some [.fs (K.map eNode) false]) = some ⟨t', h'.set 0 (.arr 41 3 ((ns.set i (.mk ns[i].name ns[i].value K) ++ T).map eNode))⟩ := by
    intro t' h'
    have h0 := stEl2_fld (n := 1) (id := 0) (o := 2) (e := 41) (sz := 3) (l := ns ++ T) (enc := eNode) (t' := t') (h' := h') (new := [.fs (K.map eNode) false]) hiT rfl (by decide)
    have e1 : splice (eNode (ns ++ T)[i]) 2 ([AV.fs (K.map eNode) false].map normC) = eNode (.mk ns[i].name ns[i].value K) := by
      rw [hgn, eNode_s, eNode_s]
      simp [splice, normC, Node.name, Node.value, Node.kids]
    rw [e1, ← List.map_set, List.set_append_left _ _ hi] at h0
    exact h0
  have hkk : (d.kind = 1) = False ∨ ((d.kind = 1) = True ∧ (((K.length : Nat) : Int) = 0) = False) := by
    by_cases hk1 : d.kind = 1
    · refine .inr ⟨eq_true hk1, eq_false fun hh => he ⟨hk1, List.eq_nil_of_length_eq_zero (by omega)⟩⟩
    · exact .inl (eq_false hk1)
  refine loudW_in 147 Tryd.func24 Tryd.ntmps24 (by simp) (rfl : Tryd.f24.body = some _) fns_24 ?_
  rcases Classical.propComplete (d.kind = 2) with k2 | k2 <;> rcases Classical.propComplete (c.op = 0) with h0' | h0' <;> rcases hkk with k1 | ⟨k1, kl⟩ <;> first
    | (exfalso; have := of_eq_true h0'; omega)
    | (exfalso; have := of_eq_true k1; have := of_eq_true k2; omega)
    | (simp (maxSteps := 200000) (disch := first | (simp only [go_sem, Nat.reduceAdd, Nat.reduceSub, Nat.reduceMul, Nat.reduceLeDiff, Nat.reduceEqDiff, Nat.reduceLT, Nat.reduceBEq, Nat.reduceBNe, Nat.reducePow, ↓reduceIte]; done) | omega | (simp only [go_sem, Nat.reduceAdd, Nat.reduceSub, Nat.reduceMul, Nat.reduceLeDiff, Nat.reduceEqDiff, Nat.reduceLT, Nat.reduceBEq, Nat.reduceBNe, Nat.reducePow, ↓reduceIte] <;> omega) | fail) only [go_sem, Nat.reduceAdd, Nat.reduceSub, Nat.reduceMul, Nat.reduceLeDiff, Nat.reduceEqDiff, Nat.reduceLT, Nat.reduceBEq, Nat.reduceBNe, Nat.reducePow, ↓reduceIte, x24, callA_data mode_38, hf, callA_pure mode_16, hfz, hsm, h3', h4', h44', h0', h2', hk', k2, n1, n2, hi, hiT, hgn, callA_data mode_40, hsk, callA_data mode_12, ha, ne_eq, not_true, not_false_eq_true, k1, ze, hst]; done)
    | (simp (maxSteps := 200000) (disch := first | (simp only [go_sem, Nat.reduceAdd, Nat.reduceSub, Nat.reduceMul, Nat.reduceLeDiff, Nat.reduceEqDiff, Nat.reduceLT, Nat.reduceBEq, Nat.reduceBNe, Nat.reducePow, ↓reduceIte]; done) | omega | (simp only [go_sem, Nat.reduceAdd, Nat.reduceSub, Nat.reduceMul, Nat.reduceLeDiff, Nat.reduceEqDiff, Nat.reduceLT, Nat.reduceBEq, Nat.reduceBNe, Nat.reducePow, ↓reduceIte] <;> omega) | fail) only [go_sem, Nat.reduceAdd, Nat.reduceSub, Nat.reduceMul, Nat.reduceLeDiff, Nat.reduceEqDiff, Nat.reduceLT, Nat.reduceBEq, Nat.reduceBNe, Nat.reducePow, ↓reduceIte, x24, callA_data mode_38, hf, callA_pure mode_16, hfz, hsm, h3', h4', h44', h0', h2', hk', k2, n1, n2, hi, hiT, hgn, callA_data mode_40, hsk, callA_data mode_12, ha, ne_eq, not_true, not_false_eq_true, k1, kl, ze, hst]; done)
theorem boxR_del (d : Def) (c : Chg) (ns T : List Node) (hd : d.keys.length ≤ 1048576) (hc : c.kids.length ≤ 1048576) (hn : ns.length ≤ 1048576) (hkn : ∀ x ∈ ns, x.kids.length ≤ 140737488355328) (hfr : (freshD d c).kids.length ≤ 140737488355328) (i : Nat) (hi : i < ns.length) (hs : sameAt d ns (freshD d c) = some i)
    (hap : ∀ was, was = ns[i].kids ∨ was = (freshD d c).kids → pureW XX 12 [lD d.kids, lN was, lC (c.kids.filter fun x => !has d.keys x.name)] = some (aAp (apD d.kids was (c.kids.filter fun x => !has d.keys x.name)))) (h3 : ¬ c.op = 3) (h4 : ¬ 4 ≤ c.op) (hk : ¬ d.kind = 3) (h2 : c.op = 2) (F : List Chg) (hF : (c.kids.filter fun x => !has d.keys x.name) = F)  (k1h : d.kind = 1)
    (ha : pureW XX 12 [lD d.kids, lN (freshD d c).kids, lC F] = some (.tup [lN [], vI 0])) :
    loudW XX 24 [aDef d, .sl 0 0 ns.length false, aChg c] [.arr 41 3 ((ns ++ T).map eNode)] = some (.tup [.sl 0 0 (ns.length - 1) false, vI 0], .arr 41 3 ((ns.eraseIdx i ++ zN :: T).map eNode) :: (bsO d c [vS (freshD d c).name, vS (freshD d c).value, lN (freshD d c).kids] ++ [.dead])) := by
  have hf := fresh_spec d c hd hc
  have hsm := modelSame_spec d ns (freshD d c) (by omega) hfr (by omega) hkn
  rw [hs] at hsm
  simp only [posI] at hsm
  have n1 : (0 ≤ (i : Int)) = True := eq_true (by omega)
  have n2 : ((i : Int) < 0) = False := eq_false (by omega)
  have hfz := frzSl_pre (enc := eNode) (e := 41) (sz := 3) ns T
  have hgn : ∀ (h : i < (ns ++ T).length), (ns ++ T)[i] = ns[i] := fun h => List.getElem_append_left hi
  have h3' := eq_false h3
  have h4' := eq_false h4
  have h44' : (c.op = 4) = False := eq_false (by omega)
  have hk' := eq_false hk
  have hiT : i < (ns ++ T).length := by rw [List.length_append]; omega
  have hsk := skip_spec d c.kids (by omega) hc
  have ze : ((0 : Int) = 0) = True := eq_true rfl
  rw [hF] at hsk
  have h2' := eq_true h2
  have hst : ∀ (t' : List AV) (h' : List Blk), stEl2 1 0 i 2 t' h' (some (.arr 41 3 ((ns ++ T).map eNode))) (some [.fs [] false]) = some ⟨t', h'.set 0 (.arr 41 3 ((ns.set i (.mk ns[i].name ns[i].value []) ++ T).map eNode))⟩ := by
    intro t' h'
    have h0 := stEl2_fld (n := 1) (id := 0) (o := 2) (e := 41) (sz := 3) (l := ns ++ T) (enc := eNode) (t' := t') (h' := h') (new := [.fs [] false]) hiT rfl (by decide)
    have e1 : splice (eNode (ns ++ T)[i]) 2 ([AV.fs [] false].map normC) = eNode (.mk ns[i].name ns[i].value []) := by
      rw [hgn, eNode_s, eNode_s]
      simp [splice, normC, Node.name, Node.value, Node.kids]
    rw [e1, ← List.map_set, List.set_append_left _ _ hi] at h0
    exact h0
  have hdl := delete_spec (ns.set i (.mk ns[i].name ns[i].value [])) T i ns.length (by simp) (by omega) hi
  have hee : (ns.set i (.mk ns[i].name ns[i].value [])).eraseIdx i = ns.eraseIdx i := by
    apply List.ext_getElem?
    intro j
    rw [List.getElem?_eraseIdx, List.getElem?_eraseIdx]
    split
    · rw [List.getElem?_set_ne (by omega)]
    · rw [List.getElem?_set_ne (by omega)]
  rw [hee] at hdl
  have hcx : ∀ t, callX XX (orW XX) ⟨t, .arr 41 3 ((ns.set i (.mk ns[i].name ns[i].value []) ++ T).map eNode) :: (bsO d c [vS (freshD d c).name, vS (freshD d c).value, lN (freshD d c).kids] ++ [.dead])⟩ 24 39 [.sl 0 0 ns.length false, vI i, vI ((i + 1 : Nat) : Int)] = some (.st (.sl 0 0 (ns.length - 1) false) ⟨t, .arr 41 3 ((ns.eraseIdx i ++ zN :: T).map eNode) :: (bsO d c [vS (freshD d c).name, vS (freshD d c).value, lN (freshD d c).kids] ++ [.dead])⟩) := fun t =>
    callX_arr0 (by rw [live_24]; rfl) (by simp [AV.lts, AV.lt]) (by simp [idsOfs, idsOf, addNew]) (by simp [AV.rens, AV.ren, posOf]) (by simp [List.length_eraseIdx, hi]; omega) (fun n => by simp [AV.ren, backF]) hdl
  have hwi := wrap_succ hi (show ns.length ≤ 140737488355328 by omega)
  simp only [bsO, List.cons_append, List.nil_append] at hcx
  have z0 : (((0 : Nat) : Int) = 0) = True := eq_true rfl
  have k1 := eq_true k1h
  have k2 : (d.kind = 2) = False := eq_false (by omega)
  have he' : ([] : List Node).map eNode = [] := rfl
  rw [show lN [] = AV.fs [] false from rfl] at ha
  refine loudW_in 147 Tryd.func24 Tryd.ntmps24 (by simp) (rfl : Tryd.f24.body = some _) fns_24 ?_
  rcases Classical.propComplete (c.op = 0) with h0' | h0' <;> first
    | (exfalso; have := of_eq_true h0'; omega)
    | (simp (maxSteps := 200000) (disch := first | (simp only [go_sem, Nat.reduceAdd, Nat.reduceSub, Nat.reduceMul, Nat.reduceLeDiff, Nat.reduceEqDiff, Nat.reduceLT, Nat.reduceBEq, Nat.reduceBNe, Nat.reducePow, ↓reduceIte]; done) | omega | (simp only [go_sem, Nat.reduceAdd, Nat.reduceSub, Nat.reduceMul, Nat.reduceLeDiff, Nat.reduceEqDiff, Nat.reduceLT, Nat.reduceBEq, Nat.reduceBNe, Nat.reducePow, ↓reduceIte] <;> omega) | fail) only [go_sem, Nat.reduceAdd, Nat.reduceSub, Nat.reduceMul, Nat.reduceLeDiff, Nat.reduceEqDiff, Nat.reduceLT, Nat.reduceBEq, Nat.reduceBNe, Nat.reducePow, ↓reduceIte, x24, callA_data mode_38, hf, callA_pure mode_16, hfz, hsm, h3', h4', h44', h0', h2', hk', k2, n1, n2, hi, hiT, hgn, callA_data mode_40, hsk, callA_data mode_12, ha, ne_eq, not_true, not_false_eq_true, k1, ze, z0, hst, hwi, hcx, bsO, List.cons_append, List.nil_append]; done)
end Go.Abs.SA
end

section
set_option linter.unusedVariables false
set_option linter.unusedSimpArgs false
set_option linter.unusedSectionVars false
set_option maxRecDepth 100000
set_option maxHeartbeats 16000000
set_option linter.unusedSimpArgs false
set_option linter.unusedVariables false
namespace Go.Abs.SA
open Go.Proofs

theorem boxM_err (d : Def) (c : Chg) (ns T : List Node) (hd : d.keys.length ≤ 1048576) (hc : c.kids.length ≤ 1048576) (hn : ns.length ≤ 1048576) (hkn : ∀ x ∈ ns, x.kids.length ≤ 140737488355328) (hfr : (freshD d c).kids.length ≤ 140737488355328) (i : Nat) (hi : i < ns.length) (hs : sameAt d ns (freshD d c) = some i)
    (hap : ∀ was, was = ns[i].kids ∨ was = (freshD d c).kids → pureW XX 12 [lD d.kids, lN was, lC (c.kids.filter fun x => !has d.keys x.name)] = some (aAp (apD d.kids was (c.kids.filter fun x => !has d.keys x.name)))) (h3 : ¬ c.op = 3) (h4 : ¬ 4 ≤ c.op) (hk : ¬ d.kind = 3) (h2 : ¬ c.op = 2) (F : List Chg) (hF : (c.kids.filter fun x => !has d.keys x.name) = F) (e : Int) (he : e ≠ 0)
    (ha : pureW XX 12 [lD d.kids, lN ns[i].kids, lC F] = some (.tup [lN [], vI e])) :
    loudW XX 24 [aDef d, .sl 0 0 ns.length false, aChg c] [.arr 41 3 ((ns ++ T).map eNode)] = some (.tup [.fs [] true, vI e], .arr 41 3 ((ns ++ T).map eNode) :: bsO d c [vS (freshD d c).name, vS (freshD d c).value, lN (freshD d c).kids]) := by
  have hf := fresh_spec d c hd hc
  have hsm := modelSame_spec d ns (freshD d c) (by omega) hfr (by omega) hkn
  rw [hs] at hsm
  simp only [posI] at hsm
  have n1 : (0 ≤ (i : Int)) = True := eq_true (by omega)
  have n2 : ((i : Int) < 0) = False := eq_false (by omega)
  have hfz := frzSl_pre (enc := eNode) (e := 41) (sz := 3) ns T
  have hgn : ∀ (h : i < (ns ++ T).length), (ns ++ T)[i] = ns[i] := fun h => List.getElem_append_left hi
  have h3' := eq_false h3
  have h4' := eq_false h4
  have h44' : (c.op = 4) = False := eq_false (by omega)
  have hk' := eq_false hk
  have hiT : i < (ns ++ T).length := by rw [List.length_append]; omega
  have hsk := skip_spec d c.kids (by omega) hc
  have ze : ((0 : Int) = 0) = True := eq_true rfl
  rw [hF] at hsk
  have h2' := eq_false h2
  have he0 : (e = 0) = False := eq_false he
  refine loudW_in 147 Tryd.func24 Tryd.ntmps24 (by simp) (rfl : Tryd.f24.body = some _) fns_24 ?_
  rcases Classical.propComplete (d.kind = 2) with k2 | k2 <;> rcases Classical.propComplete (c.op = 0) with h0' | h0' <;> first
    | (exfalso; have := of_eq_true h0'; omega)
    | (simp (maxSteps := 200000) (disch := first | (simp only [go_sem, Nat.reduceAdd, Nat.reduceSub, Nat.reduceMul, Nat.reduceLeDiff, Nat.reduceEqDiff, Nat.reduceLT, Nat.reduceBEq, Nat.reduceBNe, Nat.reducePow, ↓reduceIte]; done) | omega | (simp only [go_sem, Nat.reduceAdd, Nat.reduceSub, Nat.reduceMul, Nat.reduceLeDiff, Nat.reduceEqDiff, Nat.reduceLT, Nat.reduceBEq, Nat.reduceBNe, Nat.reducePow, ↓reduceIte] <;> omega) | fail) only [go_sem, Nat.reduceAdd, Nat.reduceSub, Nat.reduceMul, Nat.reduceLeDiff, Nat.reduceEqDiff, Nat.reduceLT, Nat.reduceBEq, Nat.reduceBNe, Nat.reducePow, ↓reduceIte, x24, callA_data mode_38, hf, callA_pure mode_16, hfz, hsm, h3', h4', h44', h0', h2', hk', k2, n1, n2, hi, hiT, hgn, eNode_s, callA_data mode_40, hsk, callA_data mode_12, ha, ne_eq, not_true, not_false_eq_true, he0])
theorem boxM_ok (d : Def) (c : Chg) (ns T : List Node) (hd : d.keys.length ≤ 1048576) (hc : c.kids.length ≤ 1048576) (hn : ns.length ≤ 1048576) (hkn : ∀ x ∈ ns, x.kids.length ≤ 140737488355328) (hfr : (freshD d c).kids.length ≤ 140737488355328) (i : Nat) (hi : i < ns.length) (hs : sameAt d ns (freshD d c) = some i)
    (hap : ∀ was, was = ns[i].kids ∨ was = (freshD d c).kids → pureW XX 12 [lD d.kids, lN was, lC (c.kids.filter fun x => !has d.keys x.name)] = some (aAp (apD d.kids was (c.kids.filter fun x => !has d.keys x.name)))) (h3 : ¬ c.op = 3) (h4 : ¬ 4 ≤ c.op) (hk : ¬ d.kind = 3) (h2 : ¬ c.op = 2) (F : List Chg) (hF : (c.kids.filter fun x => !has d.keys x.name) = F) (K : List Node) (hKl : K.length ≤ 1048576) (he : ¬ (d.kind = 1 ∧ K = []))
    (ha : pureW XX 12 [lD d.kids, lN ns[i].kids, lC F] = some (.tup [lN K, vI 0])) :
    loudW XX 24 [aDef d, .sl 0 0 ns.length false, aChg c] [.arr 41 3 ((ns ++ T).map eNode)] = some (.tup [.sl 0 0 ns.length false, vI 0], .arr 41 3 ((ns.set i (.mk ns[i].name ns[i].value K) ++ T).map eNode) :: (bsO d c [vS (freshD d c).name, vS (freshD d c).value, lN (freshD d c).kids] ++ [.dead])) := by
  have hf := fresh_spec d c hd hc
  have hsm := modelSame_spec d ns (freshD d c) (by omega) hfr (by omega) hkn
  rw [hs] at hsm
  simp only [posI] at hsm
  have n1 : (0 ≤ (i : Int)) = True := eq_true (by omega)
  have n2 : ((i : Int) < 0) = False := eq_false (by omega)
  have hfz := frzSl_pre (enc := eNode) (e := 41) (sz := 3) ns T
  have hgn : ∀ (h : i < (ns ++ T).length), (ns ++ T)[i] = ns[i] := fun h => List.getElem_append_left hi
  have h3' := eq_false h3
  have h4' := eq_false h4
  have h44' : (c.op = 4) = False := eq_false (by omega)
  have hk' := eq_false hk
  have hiT : i < (ns ++ T).length := by rw [List.length_append]; omega
  have hsk := skip_spec d c.kids (by omega) hc
  have ze : ((0 : Int) = 0) = True := eq_true rfl
  rw [hF] at hsk
  have h2' := eq_false h2
  have hst : ∀ (t' : List AV) (h' : List Blk), stEl2 1 0 i 2 t' h' (some (.arr 41 3 ((ns ++ T).map eNode))) (some [.fs (K.map eNode) false]) = some ⟨t', h'.set 0 (.arr 41 3 ((ns.set i (.mk ns[i].name ns[i].value K) ++ T).map eNode))⟩ := by
    intro t' h'
    have h0 := stEl2_fld (n := 1) (id := 0) (o := 2) (e := 41) (sz := 3) (l := ns ++ T) (enc := eNode) (t' := t') (h' := h') (new := [.fs (K.map eNode) false]) hiT rfl (by decide)
    have e1 : splice (eNode (ns ++ T)[i]) 2 ([AV.fs (K.map eNode) false].map normC) = eNode (.mk ns[i].name ns[i].value K) := by
      rw [hgn, eNode_s, eNode_s]
      simp [splice, normC, Node.name, Node.value, Node.kids]
    rw [e1, ← List.map_set, List.set_append_left _ _ hi] at h0
    exact h0
  have hkk : (d.kind = 1) = False ∨ ((d.kind = 1) = True ∧ (((K.length : Nat) : Int) = 0) = False) := by
    by_cases hk1 : d.kind = 1
    · refine .inr ⟨eq_true hk1, eq_false fun hh => he ⟨hk1, List.eq_nil_of_length_eq_zero (by omega)⟩⟩
    · exact .inl (eq_false hk1)
  refine loudW_in 147 Tryd.func24 Tryd.ntmps24 (by simp) (rfl : Tryd.f24.body = some _) fns_24 ?_
  rcases Classical.propComplete (d.kind = 2) with k2 | k2 <;> rcases Classical.propComplete (c.op = 0) with h0' | h0' <;> rcases hkk with k1 | ⟨k1, kl⟩ <;> first
    | (exfalso; have := of_eq_true h0'; omega)
    | (exfalso; have := of_eq_true k1; have := of_eq_true k2; omega)
    | (simp (maxSteps := 200000) (disch := first | (simp only [go_sem, Nat.reduceAdd, Nat.reduceSub, Nat.reduceMul, Nat.reduceLeDiff, Nat.reduceEqDiff, Nat.reduceLT, Nat.reduceBEq, Nat.reduceBNe, Nat.reducePow, ↓reduceIte]; done) | omega | (simp only [go_sem, Nat.reduceAdd, Nat.reduceSub, Nat.reduceMul, Nat.reduceLeDiff, Nat.reduceEqDiff, Nat.reduceLT, Nat.reduceBEq, Nat.reduceBNe, Nat.reducePow, ↓reduceIte] <;> omega) | fail) only [go_sem, Nat.reduceAdd, Nat.reduceSub, Nat.reduceMul, Nat.reduceLeDiff, Nat.reduceEqDiff, Nat.reduceLT, Nat.reduceBEq, Nat.reduceBNe, Nat.reducePow, ↓reduceIte, x24, callA_data mode_38, hf, callA_pure mode_16, hfz, hsm, h3', h4', h44', h0', h2', hk', k2, n1, n2, hi, hiT, hgn, eNode_s, callA_data mode_40, hsk, callA_data mode_12, ha, ne_eq, not_true, not_false_eq_true, k1, ze, hst]; done)
    | (simp (maxSteps := 200000) (disch := first | (simp only [go_sem, Nat.reduceAdd, Nat.reduceSub, Nat.reduceMul, Nat.reduceLeDiff, Nat.reduceEqDiff, Nat.reduceLT, Nat.reduceBEq, Nat.reduceBNe, Nat.reducePow, ↓reduceIte]; done) | omega | (simp only [go_sem, Nat.reduceAdd, Nat.reduceSub, Nat.reduceMul, Nat.reduceLeDiff, Nat.reduceEqDiff, Nat.reduceLT, Nat.reduceBEq, Nat.reduceBNe, Nat.reducePow, ↓reduceIte] <;> omega) | fail) only [go_sem, Nat.reduceAdd, Nat.reduceSub, Nat.reduceMul, Nat.reduceLeDiff, Nat.reduceEqDiff, Nat.reduceLT, Nat.reduceBEq, Nat.reduceBNe, Nat.reducePow, ↓reduceIte, x24, callA_data mode_38, hf, callA_pure mode_16, hfz, hsm, h3', h4', h44', h0', h2', hk', k2, n1, n2, hi, hiT, hgn, eNode_s, callA_data mode_40, hsk, callA_data mode_12, ha, ne_eq, not_true, not_false_eq_true, k1, kl, ze, hst]; done)
theorem boxM_del (d : Def) (c : Chg) (ns T : List Node) (hd : d.keys.length ≤ 1048576) (hc : c.kids.length ≤ 1048576) (hn : ns.length ≤ 1048576) (hkn : ∀ x ∈ ns, x.kids.length ≤ 140737488355328) (hfr : (freshD d c).kids.length ≤ 140737488355328) (i : Nat) (hi : i < ns.length) (hs : sameAt d ns (freshD d c) = some i)
    (hap : ∀ was, was = ns[i].kids ∨ was = (freshD d c).kids → pureW XX 12 [lD d.kids, lN was, lC (c.kids.filter fun x => !has d.keys x.name)] = some (aAp (apD d.kids was (c.kids.filter fun x => !has d.keys x.name)))) (h3 : ¬ c.op = 3) (h4 : ¬ 4 ≤ c.op) (hk : ¬ d.kind = 3) (h2 : ¬ c.op = 2) (F : List Chg) (hF : (c.kids.filter fun x => !has d.keys x.name) = F)  (k1h : d.kind = 1)
    (ha : pureW XX 12 [lD d.kids, lN ns[i].kids, lC F] = some (.tup [lN [], vI 0])) :
    loudW XX 24 [aDef d, .sl 0 0 ns.length false, aChg c] [.arr 41 3 ((ns ++ T).map eNode)] = some (.tup [.sl 0 0 (ns.length - 1) false, vI 0], .arr 41 3 ((ns.eraseIdx i ++ zN :: T).map eNode) :: (bsO d c [vS (freshD d c).name, vS (freshD d c).value, lN (freshD d c).kids] ++ [.dead])) := by
  have hf := fresh_spec d c hd hc
  have hsm := modelSame_spec d ns (freshD d c) (by omega) hfr (by omega) hkn
  rw [hs] at hsm
  simp only [posI] at hsm
  have n1 : (0 ≤ (i : Int)) = True := eq_true (by omega)
  have n2 : ((i : Int) < 0) = False := eq_false (by omega)
  have hfz := frzSl_pre (enc := eNode) (e := 41) (sz := 3) ns T
  have hgn : ∀ (h : i < (ns ++ T).length), (ns ++ T)[i] = ns[i] := fun h => List.getElem_append_left hi
  have h3' := eq_false h3
  have h4' := eq_false h4
  have h44' : (c.op = 4) = False := eq_false (by omega)
  have hk' := eq_false hk
  have hiT : i < (ns ++ T).length := by rw [List.length_append]; omega
  have hsk := skip_spec d c.kids (by omega) hc
  have ze : ((0 : Int) = 0) = True := eq_true rfl
  rw [hF] at hsk
  have h2' := eq_false h2
  have hst : ∀ (t' : List AV) (h' : List Blk), stEl2 1 0 i 2 t' h' (some (.arr 41 3 ((ns ++ T).map eNode))) (some [.fs [] false]) = some ⟨t', h'.set 0 (.arr 41 3 ((ns.set i (.mk ns[i].name ns[i].value []) ++ T).map eNode))⟩ := by
    intro t' h'
    have h0 := stEl2_fld (n := 1) (id := 0) (o := 2) (e := 41) (sz := 3) (l := ns ++ T) (enc := eNode) (t' := t') (h' := h') (new := [.fs [] false]) hiT rfl (by decide)
    have e1 : splice (eNode (ns ++ T)[i]) 2 ([AV.fs [] false].map normC) = eNode (.mk ns[i].name ns[i].value []) := by
      rw [hgn, eNode_s, eNode_s]
      simp [splice, normC, Node.name, Node.value, Node.kids]
    rw [e1, ← List.map_set, List.set_append_left _ _ hi] at h0
    exact h0
  have hdl := delete_spec (ns.set i (.mk ns[i].name ns[i].value [])) T i ns.length (by simp) (by omega) hi
  have hee : (ns.set i (.mk ns[i].name ns[i].value [])).eraseIdx i = ns.eraseIdx i := by
    apply List.ext_getElem?
    intro j
    rw [List.getElem?_eraseIdx, List.getElem?_eraseIdx]
    split
    · rw [List.getElem?_set_ne (by omega)]
    · rw [List.getElem?_set_ne (by omega)]
  rw [hee] at hdl
  have hcx : ∀ t, callX XX (orW XX) ⟨t, .arr 41 3 ((ns.set i (.mk ns[i].name ns[i].value []) ++ T).map eNode) :: (bsO d c [vS (freshD d c).name, vS (freshD d c).value, lN (freshD d c).kids] ++ [.dead])⟩ 24 39 [.sl 0 0 ns.length false, vI i, vI ((i + 1 : Nat) : Int)] = some (.st (.sl 0 0 (ns.length - 1) false) ⟨t, .arr 41 3 ((ns.eraseIdx i ++ zN :: T).map eNode) :: (bsO d c [vS (freshD d c).name, vS (freshD d c).value, lN (freshD d c).kids] ++ [.dead])⟩) := fun t =>
    callX_arr0 (by rw [live_24]; rfl) (by simp [AV.lts, AV.lt]) (by simp [idsOfs, idsOf, addNew]) (by simp [AV.rens, AV.ren, posOf]) (by simp [List.length_eraseIdx, hi]; omega) (fun n => by simp [AV.ren, backF]) hdl
  have hwi := wrap_succ hi (show ns.length ≤ 140737488355328 by omega)
  simp only [bsO, List.cons_append, List.nil_append] at hcx
  have z0 : (((0 : Nat) : Int) = 0) = True := eq_true rfl
  have k1 := eq_true k1h
  have k2 : (d.kind = 2) = False := eq_false (by omega)
  have he' : ([] : List Node).map eNode = [] := rfl
  rw [show lN [] = AV.fs [] false from rfl] at ha
  refine loudW_in 147 Tryd.func24 Tryd.ntmps24 (by simp) (rfl : Tryd.f24.body = some _) fns_24 ?_
  rcases Classical.propComplete (c.op = 0) with h0' | h0' <;> first
    | (exfalso; have := of_eq_true h0'; omega)
    | (simp (maxSteps := 200000) (disch := first | (simp only [go_sem, Nat.reduceAdd, Nat.reduceSub, Nat.reduceMul, Nat.reduceLeDiff, Nat.reduceEqDiff, Nat.reduceLT, Nat.reduceBEq, Nat.reduceBNe, Nat.reducePow, ↓reduceIte]; done) | omega | (simp only [go_sem, Nat.reduceAdd, Nat.reduceSub, Nat.reduceMul, Nat.reduceLeDiff, Nat.reduceEqDiff, Nat.reduceLT, Nat.reduceBEq, Nat.reduceBNe, Nat.reducePow, ↓reduceIte] <;> omega) | fail) only [go_sem, Nat.reduceAdd, Nat.reduceSub, Nat.reduceMul, Nat.reduceLeDiff, Nat.reduceEqDiff, Nat.reduceLT, Nat.reduceBEq, Nat.reduceBNe, Nat.reducePow, ↓reduceIte, x24, callA_data mode_38, hf, callA_pure mode_16, hfz, hsm, h3', h4', h44', h0', h2', hk', k2, n1, n2, hi, hiT, hgn, eNode_s, callA_data mode_40, hsk, callA_data mode_12, ha, ne_eq, not_true, not_false_eq_true, k1, ze, z0, hst, hwi, hcx, bsO, List.cons_append, List.nil_append]; done)
end Go.Abs.SA
end

section
set_option linter.unusedVariables false
set_option linter.unusedSimpArgs false
set_option linter.unusedSectionVars false
set_option maxRecDepth 100000
set_option maxHeartbeats 16000000
set_option linter.unusedSimpArgs false
set_option linter.unusedVariables false
namespace Go.Abs.SA
open Go.Proofs

theorem none_gone4 (d : Def) (c : Chg) (ns T : List Node) (hd : d.keys.length ≤ 1048576) (hc : c.kids.length ≤ 1048576) (hn : ns.length ≤ 1048576) (hkn : ∀ x ∈ ns, x.kids.length ≤ 140737488355328) (hfr : (freshD d c).kids.length ≤ 140737488355328) (hs : sameAt d ns (freshD d c) = none) (h4 : c.op = 4) :
    loudW XX 24 [aDef d, .sl 0 0 ns.length false, aChg c] [.arr 41 3 ((ns ++ T).map eNode)] = some (.tup [.fs [] true, vI 16], .arr 41 3 ((ns ++ T).map eNode) :: bsO d c [vS (freshD d c).name, vS (freshD d c).value, lN (freshD d c).kids]) := by
  have hf := fresh_spec d c hd hc
  have hsm := modelSame_spec d ns (freshD d c) (by omega) hfr (by omega) hkn
  rw [hs] at hsm
  simp only [posI] at hsm
  have n1 : (0 ≤ (-1 : Int)) = False := eq_false (by omega)
  have n2 : ((-1 : Int) < 0) = True := eq_true (by omega)
  have hfz := frzSl_pre (enc := eNode) (e := 41) (sz := 3) ns T
  have h4' := eq_true h4
  have h4g : (4 ≤ c.op) = True := eq_true (by omega)
  have h3' : (c.op = 3) = False := eq_false (by omega)
  refine loudW_in 147 Tryd.func24 Tryd.ntmps24 (by simp) (rfl : Tryd.f24.body = some _) fns_24 ?_
  simp (maxSteps := 200000) (disch := first | (simp only [go_sem, Nat.reduceAdd, Nat.reduceSub, Nat.reduceMul, Nat.reduceLeDiff, Nat.reduceEqDiff, Nat.reduceLT, Nat.reduceBEq, Nat.reduceBNe, Nat.reducePow, ↓reduceIte]; done) | omega | (simp only [go_sem, Nat.reduceAdd, Nat.reduceSub, Nat.reduceMul, Nat.reduceLeDiff, Nat.reduceEqDiff, Nat.reduceLT, Nat.reduceBEq, Nat.reduceBNe, Nat.reducePow, ↓reduceIte] <;> omega) | fail) only [go_sem, Nat.reduceAdd, Nat.reduceSub, Nat.reduceMul, Nat.reduceLeDiff, Nat.reduceEqDiff, Nat.reduceLT, Nat.reduceBEq, Nat.reduceBNe, Nat.reducePow, ↓reduceIte, x24, callA_data mode_38, hf, callA_pure mode_16, hfz, hsm, n1, n2, h3', h4', h4g]
theorem none_keep (d : Def) (c : Chg) (ns T : List Node) (hd : d.keys.length ≤ 1048576) (hc : c.kids.length ≤ 1048576) (hn : ns.length ≤ 1048576) (hkn : ∀ x ∈ ns, x.kids.length ≤ 140737488355328) (hfr : (freshD d c).kids.length ≤ 140737488355328) (hs : sameAt d ns (freshD d c) = none) (h4 : 4 ≤ c.op) (h5 : ¬ c.op = 4) :
    loudW XX 24 [aDef d, .sl 0 0 ns.length false, aChg c] [.arr 41 3 ((ns ++ T).map eNode)] = some (.tup [.sl 0 0 ns.length false, vI 0], .arr 41 3 ((ns ++ T).map eNode) :: bsO d c [vS (freshD d c).name, vS (freshD d c).value, lN (freshD d c).kids]) := by
  have hf := fresh_spec d c hd hc
  have hsm := modelSame_spec d ns (freshD d c) (by omega) hfr (by omega) hkn
  rw [hs] at hsm
  simp only [posI] at hsm
  have n1 : (0 ≤ (-1 : Int)) = False := eq_false (by omega)
  have n2 : ((-1 : Int) < 0) = True := eq_true (by omega)
  have hfz := frzSl_pre (enc := eNode) (e := 41) (sz := 3) ns T
  have h4' := eq_true h4
  have h44' := eq_false h5
  have h3' : (c.op = 3) = False := eq_false (by omega)
  refine loudW_in 147 Tryd.func24 Tryd.ntmps24 (by simp) (rfl : Tryd.f24.body = some _) fns_24 ?_
  simp (maxSteps := 200000) (disch := first | (simp only [go_sem, Nat.reduceAdd, Nat.reduceSub, Nat.reduceMul, Nat.reduceLeDiff, Nat.reduceEqDiff, Nat.reduceLT, Nat.reduceBEq, Nat.reduceBNe, Nat.reducePow, ↓reduceIte]; done) | omega | (simp only [go_sem, Nat.reduceAdd, Nat.reduceSub, Nat.reduceMul, Nat.reduceLeDiff, Nat.reduceEqDiff, Nat.reduceLT, Nat.reduceBEq, Nat.reduceBNe, Nat.reducePow, ↓reduceIte] <;> omega) | fail) only [go_sem, Nat.reduceAdd, Nat.reduceSub, Nat.reduceMul, Nat.reduceLeDiff, Nat.reduceEqDiff, Nat.reduceLT, Nat.reduceBEq, Nat.reduceBNe, Nat.reducePow, ↓reduceIte, x24, callA_data mode_38, hf, callA_pure mode_16, hfz, hsm, n1, n2, h3', h4', h44']
theorem none_gone0 (d : Def) (c : Chg) (ns T : List Node) (hd : d.keys.length ≤ 1048576) (hc : c.kids.length ≤ 1048576) (hn : ns.length ≤ 1048576) (hkn : ∀ x ∈ ns, x.kids.length ≤ 140737488355328) (hfr : (freshD d c).kids.length ≤ 140737488355328) (hs : sameAt d ns (freshD d c) = none) (h0 : c.op = 0) (hk : d.kind = 3 ∨ d.kind = 2) :
    loudW XX 24 [aDef d, .sl 0 0 ns.length false, aChg c] [.arr 41 3 ((ns ++ T).map eNode)] = some (.tup [.fs [] true, vI 16], .arr 41 3 ((ns ++ T).map eNode) :: bsO d c [vS (freshD d c).name, vS (freshD d c).value, lN (freshD d c).kids]) := by
  have hf := fresh_spec d c hd hc
  have hsm := modelSame_spec d ns (freshD d c) (by omega) hfr (by omega) hkn
  rw [hs] at hsm
  simp only [posI] at hsm
  have n1 : (0 ≤ (-1 : Int)) = False := eq_false (by omega)
  have n2 : ((-1 : Int) < 0) = True := eq_true (by omega)
  have hfz := frzSl_pre (enc := eNode) (e := 41) (sz := 3) ns T
  have h0' := eq_true h0
  have h3' : (c.op = 3) = False := eq_false (by omega)
  have h4' : (4 ≤ c.op) = False := eq_false (by omega)
  have h44' : (c.op = 4) = False := eq_false (by omega)
  refine loudW_in 147 Tryd.func24 Tryd.ntmps24 (by simp) (rfl : Tryd.f24.body = some _) fns_24 ?_
  rcases hk with hk | hk
  · have hk' := eq_true hk
    simp (maxSteps := 200000) (disch := first | (simp only [go_sem, Nat.reduceAdd, Nat.reduceSub, Nat.reduceMul, Nat.reduceLeDiff, Nat.reduceEqDiff, Nat.reduceLT, Nat.reduceBEq, Nat.reduceBNe, Nat.reducePow, ↓reduceIte]; done) | omega | (simp only [go_sem, Nat.reduceAdd, Nat.reduceSub, Nat.reduceMul, Nat.reduceLeDiff, Nat.reduceEqDiff, Nat.reduceLT, Nat.reduceBEq, Nat.reduceBNe, Nat.reducePow, ↓reduceIte] <;> omega) | fail) only [go_sem, Nat.reduceAdd, Nat.reduceSub, Nat.reduceMul, Nat.reduceLeDiff, Nat.reduceEqDiff, Nat.reduceLT, Nat.reduceBEq, Nat.reduceBNe, Nat.reducePow, ↓reduceIte, x24, callA_data mode_38, hf, callA_pure mode_16, hfz, hsm, n1, n2, h3', h4', h44', h0', hk']
  · have hk' := eq_true hk
    have hk3 : (d.kind = 3) = False := eq_false (by omega)
    simp (maxSteps := 200000) (disch := first | (simp only [go_sem, Nat.reduceAdd, Nat.reduceSub, Nat.reduceMul, Nat.reduceLeDiff, Nat.reduceEqDiff, Nat.reduceLT, Nat.reduceBEq, Nat.reduceBNe, Nat.reducePow, ↓reduceIte]; done) | omega | (simp only [go_sem, Nat.reduceAdd, Nat.reduceSub, Nat.reduceMul, Nat.reduceLeDiff, Nat.reduceEqDiff, Nat.reduceLT, Nat.reduceBEq, Nat.reduceBNe, Nat.reducePow, ↓reduceIte] <;> omega) | fail) only [go_sem, Nat.reduceAdd, Nat.reduceSub, Nat.reduceMul, Nat.reduceLeDiff, Nat.reduceEqDiff, Nat.reduceLT, Nat.reduceBEq, Nat.reduceBNe, Nat.reducePow, ↓reduceIte, x24, callA_data mode_38, hf, callA_pure mode_16, hfz, hsm, n1, n2, h3', h4', h44', h0', hk', hk3]
end Go.Abs.SA
end

section
set_option linter.unusedVariables false
set_option linter.unusedSimpArgs false
set_option linter.unusedSectionVars false
set_option maxRecDepth 100000
set_option maxHeartbeats 16000000
set_option linter.unusedSimpArgs false
set_option linter.unusedVariables false
namespace Go.Abs.SA
open Go.Proofs

theorem none_leaf (d : Def) (c : Chg) (ns T : List Node) (hd : d.keys.length ≤ 1048576) (hc : c.kids.length ≤ 1048576) (hn : ns.length ≤ 1048576) (hkn : ∀ x ∈ ns, x.kids.length ≤ 140737488355328) (hfr : (freshD d c).kids.length ≤ 140737488355328) (hs : sameAt d ns (freshD d c) = none) (h4 : ¬ 4 ≤ c.op) (h0 : ¬ c.op = 0) (hk : d.kind = 3) :
    loudW XX 24 [aDef d, .sl 0 0 ns.length false, aChg c] [.arr 41 3 ((ns ++ T).map eNode)] = some (.tup [.sl 0 0 (ns.length + 1) false, vI 0], .arr 41 3 (((ns ++ [freshD d c]) ++ T.tail).map eNode) :: bsO d c [vS (freshD d c).name, vS (freshD d c).value, lN (freshD d c).kids]) := by
  have hf := fresh_spec d c hd hc
  have hsm := modelSame_spec d ns (freshD d c) (by omega) hfr (by omega) hkn
  rw [hs] at hsm
  simp only [posI] at hsm
  have n1 : (0 ≤ (-1 : Int)) = False := eq_false (by omega)
  have n2 : ((-1 : Int) < 0) = True := eq_true (by omega)
  have hfz := frzSl_pre (enc := eNode) (e := 41) (sz := 3) ns T
  have h0' := eq_false h0
  have h4' := eq_false h4
  have h44' : (c.op = 4) = False := eq_false (by omega)
  have hk' := eq_true hk
  have hk2 : (d.kind = 2) = False := eq_false (by omega)
  have hx : [vS (freshD d c).name, vS (freshD d c).value, lN (freshD d c).kids] = eNode (freshD d c) := (eNode_s _).symm
  refine loudW_in 147 Tryd.func24 Tryd.ntmps24 (by simp) (rfl : Tryd.f24.body = some _) fns_24 ?_
  cases T with
  | nil =>
    rw [List.append_nil] at hfz ⊢
    have he : ns.map eNode ++ [[vS (freshD d c).name, vS (freshD d c).value, lN (freshD d c).kids]] = ((ns ++ [freshD d c]) ++ ([] : List Node).tail).map eNode := by
      rw [hx]; simp
    rcases Classical.propComplete (c.op = 3) with h3' | h3'
    · simp (maxSteps := 200000) (disch := first | (simp only [go_sem, Nat.reduceAdd, Nat.reduceSub, Nat.reduceMul, Nat.reduceLeDiff, Nat.reduceEqDiff, Nat.reduceLT, Nat.reduceBEq, Nat.reduceBNe, Nat.reducePow, ↓reduceIte]; done) | omega | (simp only [go_sem, Nat.reduceAdd, Nat.reduceSub, Nat.reduceMul, Nat.reduceLeDiff, Nat.reduceEqDiff, Nat.reduceLT, Nat.reduceBEq, Nat.reduceBNe, Nat.reducePow, ↓reduceIte] <;> omega) | fail) only [go_sem, Nat.reduceAdd, Nat.reduceSub, Nat.reduceMul, Nat.reduceLeDiff, Nat.reduceEqDiff, Nat.reduceLT, Nat.reduceBEq, Nat.reduceBNe, Nat.reducePow, ↓reduceIte, x24, callA_data mode_38, hf, callA_pure mode_16, hfz, hsm, n1, n2, h3', h4', h44', h0', hk', hk2, he, List.length_map]
    · simp (maxSteps := 200000) (disch := first | (simp only [go_sem, Nat.reduceAdd, Nat.reduceSub, Nat.reduceMul, Nat.reduceLeDiff, Nat.reduceEqDiff, Nat.reduceLT, Nat.reduceBEq, Nat.reduceBNe, Nat.reducePow, ↓reduceIte]; done) | omega | (simp only [go_sem, Nat.reduceAdd, Nat.reduceSub, Nat.reduceMul, Nat.reduceLeDiff, Nat.reduceEqDiff, Nat.reduceLT, Nat.reduceBEq, Nat.reduceBNe, Nat.reducePow, ↓reduceIte] <;> omega) | fail) only [go_sem, Nat.reduceAdd, Nat.reduceSub, Nat.reduceMul, Nat.reduceLeDiff, Nat.reduceEqDiff, Nat.reduceLT, Nat.reduceBEq, Nat.reduceBNe, Nat.reducePow, ↓reduceIte, x24, callA_data mode_38, hf, callA_pure mode_16, hfz, hsm, n1, n2, h3', h4', h44', h0', hk', hk2, he, List.length_map]
  | cons y T =>
    have hlt : ns.length < (ns ++ y :: T).length := by simp
    have he : ((ns ++ y :: T).map eNode).set ns.length [vS (freshD d c).name, vS (freshD d c).value, lN (freshD d c).kids] = ((ns ++ [freshD d c]) ++ (y :: T).tail).map eNode := by
      rw [hx, ← List.map_set, List.set_append_right _ _ (Nat.le_refl _)]; simp
    rcases Classical.propComplete (c.op = 3) with h3' | h3'
    · simp (maxSteps := 200000) (disch := first | (simp only [go_sem, Nat.reduceAdd, Nat.reduceSub, Nat.reduceMul, Nat.reduceLeDiff, Nat.reduceEqDiff, Nat.reduceLT, Nat.reduceBEq, Nat.reduceBNe, Nat.reducePow, ↓reduceIte]; done) | omega | (simp only [go_sem, Nat.reduceAdd, Nat.reduceSub, Nat.reduceMul, Nat.reduceLeDiff, Nat.reduceEqDiff, Nat.reduceLT, Nat.reduceBEq, Nat.reduceBNe, Nat.reducePow, ↓reduceIte] <;> omega) | fail) only [go_sem, Nat.reduceAdd, Nat.reduceSub, Nat.reduceMul, Nat.reduceLeDiff, Nat.reduceEqDiff, Nat.reduceLT, Nat.reduceBEq, Nat.reduceBNe, Nat.reducePow, ↓reduceIte, x24, callA_data mode_38, hf, callA_pure mode_16, hfz, hsm, n1, n2, h3', h4', h44', h0', hk', hk2, he, List.length_map, hlt]
    · simp (maxSteps := 200000) (disch := first | (simp only [go_sem, Nat.reduceAdd, Nat.reduceSub, Nat.reduceMul, Nat.reduceLeDiff, Nat.reduceEqDiff, Nat.reduceLT, Nat.reduceBEq, Nat.reduceBNe, Nat.reducePow, ↓reduceIte]; done) | omega | (simp only [go_sem, Nat.reduceAdd, Nat.reduceSub, Nat.reduceMul, Nat.reduceLeDiff, Nat.reduceEqDiff, Nat.reduceLT, Nat.reduceBEq, Nat.reduceBNe, Nat.reducePow, ↓reduceIte] <;> omega) | fail) only [go_sem, Nat.reduceAdd, Nat.reduceSub, Nat.reduceMul, Nat.reduceLeDiff, Nat.reduceEqDiff, Nat.reduceLT, Nat.reduceBEq, Nat.reduceBNe, Nat.reducePow, ↓reduceIte, x24, callA_data mode_38, hf, callA_pure mode_16, hfz, hsm, n1, n2, h3', h4', h44', h0', hk', hk2, he, List.length_map, hlt]
end Go.Abs.SA
end

section
set_option linter.unusedVariables false
set_option linter.unusedSimpArgs false
set_option linter.unusedSectionVars false
set_option maxRecDepth 100000
set_option maxHeartbeats 16000000
set_option linter.unusedSimpArgs false
set_option linter.unusedVariables false
namespace Go.Abs.SA
open Go.Proofs

theorem none_box_err (d : Def) (c : Chg) (ns T : List Node) (hd : d.keys.length ≤ 1048576) (hc : c.kids.length ≤ 1048576) (hn : ns.length ≤ 1048576) (hkn : ∀ x ∈ ns, x.kids.length ≤ 140737488355328) (hfr : (freshD d c).kids.length ≤ 140737488355328) (hs : sameAt d ns (freshD d c) = none) (h4 : ¬ 4 ≤ c.op) (hk : ¬ d.kind = 3) (h02 : ¬ (c.op = 0 ∧ d.kind = 2)) (F : List Chg) (hF : (c.kids.filter fun x => !has d.keys x.name) = F) (e : Int) (he : e ≠ 0) (ha : pureW XX 12 [lD d.kids, lN (freshD d c).kids, lC F] = some (.tup [lN [], vI e])) :
    loudW XX 24 [aDef d, .sl 0 0 ns.length false, aChg c] [.arr 41 3 ((ns ++ T).map eNode)] = some (.tup [.fs [] true, vI e], .arr 41 3 ((ns ++ T).map eNode) :: bsO d c [vS (freshD d c).name, vS (freshD d c).value, lN (freshD d c).kids]) := by
  have hf := fresh_spec d c hd hc
  have hsm := modelSame_spec d ns (freshD d c) (by omega) hfr (by omega) hkn
  rw [hs] at hsm
  simp only [posI] at hsm
  have n1 : (0 ≤ (-1 : Int)) = False := eq_false (by omega)
  have n2 : ((-1 : Int) < 0) = True := eq_true (by omega)
  have hfz := frzSl_pre (enc := eNode) (e := 41) (sz := 3) ns T
  have h4' := eq_false h4
  have h44' : (c.op = 4) = False := eq_false (by omega)
  have hk' := eq_false hk
  have hsk := skip_spec d c.kids (by omega) hc
  rw [hF] at hsk
  have ze : ((0 : Int) = 0) = True := eq_true rfl
  have he0 : (e = 0) = False := eq_false he
  have tri : ((c.op = 3) = True ∧ (c.op = 0) = False ∧ True = True) ∨ ((c.op = 3) = False ∧ (c.op = 0) = True ∧ (d.kind = 2) = False) ∨ ((c.op = 3) = False ∧ (c.op = 0) = False ∧ True = True) := by
    by_cases q3 : c.op = 3
    · exact .inl ⟨eq_true q3, eq_false (by omega), rfl⟩
    · by_cases q0 : c.op = 0
      · exact .inr (.inl ⟨eq_false q3, eq_true q0, eq_false fun hh => h02 ⟨q0, hh⟩⟩)
      · exact .inr (.inr ⟨eq_false q3, eq_false q0, rfl⟩)
  refine loudW_in 147 Tryd.func24 Tryd.ntmps24 (by simp) (rfl : Tryd.f24.body = some _) fns_24 ?_
  rcases tri with ⟨h3', h0', k2⟩ | ⟨h3', h0', k2⟩ | ⟨h3', h0', k2⟩
  · simp (maxSteps := 200000) (disch := first | (simp only [go_sem, Nat.reduceAdd, Nat.reduceSub, Nat.reduceMul, Nat.reduceLeDiff, Nat.reduceEqDiff, Nat.reduceLT, Nat.reduceBEq, Nat.reduceBNe, Nat.reducePow, ↓reduceIte]; done) | omega | (simp only [go_sem, Nat.reduceAdd, Nat.reduceSub, Nat.reduceMul, Nat.reduceLeDiff, Nat.reduceEqDiff, Nat.reduceLT, Nat.reduceBEq, Nat.reduceBNe, Nat.reducePow, ↓reduceIte] <;> omega) | fail) only [go_sem, Nat.reduceAdd, Nat.reduceSub, Nat.reduceMul, Nat.reduceLeDiff, Nat.reduceEqDiff, Nat.reduceLT, Nat.reduceBEq, Nat.reduceBNe, Nat.reducePow, ↓reduceIte, x24, callA_data mode_38, hf, callA_pure mode_16, hfz, hsm, n1, n2, h4', h44', hk', h3', h0', k2, callA_data mode_40, hsk, callA_data mode_12, ha, ne_eq, not_true, not_false_eq_true, he0]
  · simp (maxSteps := 200000) (disch := first | (simp only [go_sem, Nat.reduceAdd, Nat.reduceSub, Nat.reduceMul, Nat.reduceLeDiff, Nat.reduceEqDiff, Nat.reduceLT, Nat.reduceBEq, Nat.reduceBNe, Nat.reducePow, ↓reduceIte]; done) | omega | (simp only [go_sem, Nat.reduceAdd, Nat.reduceSub, Nat.reduceMul, Nat.reduceLeDiff, Nat.reduceEqDiff, Nat.reduceLT, Nat.reduceBEq, Nat.reduceBNe, Nat.reducePow, ↓reduceIte] <;> omega) | fail) only [go_sem, Nat.reduceAdd, Nat.reduceSub, Nat.reduceMul, Nat.reduceLeDiff, Nat.reduceEqDiff, Nat.reduceLT, Nat.reduceBEq, Nat.reduceBNe, Nat.reducePow, ↓reduceIte, x24, callA_data mode_38, hf, callA_pure mode_16, hfz, hsm, n1, n2, h4', h44', hk', h3', h0', k2, callA_data mode_40, hsk, callA_data mode_12, ha, ne_eq, not_true, not_false_eq_true, he0]
  · simp (maxSteps := 200000) (disch := first | (simp only [go_sem, Nat.reduceAdd, Nat.reduceSub, Nat.reduceMul, Nat.reduceLeDiff, Nat.reduceEqDiff, Nat.reduceLT, Nat.reduceBEq, Nat.reduceBNe, Nat.reducePow, ↓reduceIte]; done) | omega | (simp only [go_sem, Nat.reduceAdd, Nat.reduceSub, Nat.reduceMul, Nat.reduceLeDiff, Nat.reduceEqDiff, Nat.reduceLT, Nat.reduceBEq, Nat.reduceBNe, Nat.reducePow, ↓reduceIte] <;> omega) | fail) only [go_sem, Nat.reduceAdd, Nat.reduceSub, Nat.reduceMul, Nat.reduceLeDiff, Nat.reduceEqDiff, Nat.reduceLT, Nat.reduceBEq, Nat.reduceBNe, Nat.reducePow, ↓reduceIte, x24, callA_data mode_38, hf, callA_pure mode_16, hfz, hsm, n1, n2, h4', h44', hk', h3', h0', k2, callA_data mode_40, hsk, callA_data mode_12, ha, ne_eq, not_true, not_false_eq_true, he0]
theorem none_box_ok (d : Def) (c : Chg) (ns T : List Node) (hd : d.keys.length ≤ 1048576) (hc : c.kids.length ≤ 1048576) (hn : ns.length ≤ 1048576) (hkn : ∀ x ∈ ns, x.kids.length ≤ 140737488355328) (hfr : (freshD d c).kids.length ≤ 140737488355328) (hs : sameAt d ns (freshD d c) = none) (h4 : ¬ 4 ≤ c.op) (hk : ¬ d.kind = 3) (h02 : ¬ (c.op = 0 ∧ d.kind = 2)) (F : List Chg) (hF : (c.kids.filter fun x => !has d.keys x.name) = F) (K : List Node) (hKl : K.length ≤ 1048576) (he : ¬ (d.kind = 1 ∧ K = [])) (ha : pureW XX 12 [lD d.kids, lN (freshD d c).kids, lC F] = some (.tup [lN K, vI 0])) :
    loudW XX 24 [aDef d, .sl 0 0 ns.length false, aChg c] [.arr 41 3 ((ns ++ T).map eNode)] = some (.tup [.sl 0 0 (ns.length + 1) false, vI 0], .arr 41 3 (((ns ++ [Node.mk c.name ⟨#[]⟩ K]) ++ T.tail).map eNode) :: (bsO d c [vS (freshD d c).name, vS (freshD d c).value, lN (freshD d c).kids] ++ [.dead])) := by
  have hf := fresh_spec d c hd hc
  have hsm := modelSame_spec d ns (freshD d c) (by omega) hfr (by omega) hkn
  rw [hs] at hsm
  simp only [posI] at hsm
  have n1 : (0 ≤ (-1 : Int)) = False := eq_false (by omega)
  have n2 : ((-1 : Int) < 0) = True := eq_true (by omega)
  have hfz := frzSl_pre (enc := eNode) (e := 41) (sz := 3) ns T
  have h4' := eq_false h4
  have h44' : (c.op = 4) = False := eq_false (by omega)
  have hk' := eq_false hk
  have hsk := skip_spec d c.kids (by omega) hc
  rw [hF] at hsk
  have ze : ((0 : Int) = 0) = True := eq_true rfl
  have hkk : (d.kind = 1) = False ∨ ((d.kind = 1) = True ∧ (((K.length : Nat) : Int) = 0) = False) := by
    by_cases hk1 : d.kind = 1
    · refine .inr ⟨eq_true hk1, eq_false fun hh => he ⟨hk1, List.eq_nil_of_length_eq_zero (by omega)⟩⟩
    · exact .inl (eq_false hk1)
  have hx : [vS c.name, vS ⟨#[]⟩, .fs (K.map eNode) false] = eNode (Node.mk c.name ⟨#[]⟩ K) := by rw [eNode_s]; rfl
  have tri : ((c.op = 3) = True ∧ (c.op = 0) = False ∧ True = True) ∨ ((c.op = 3) = False ∧ (c.op = 0) = True ∧ (d.kind = 2) = False) ∨ ((c.op = 3) = False ∧ (c.op = 0) = False ∧ True = True) := by
    by_cases q3 : c.op = 3
    · exact .inl ⟨eq_true q3, eq_false (by omega), rfl⟩
    · by_cases q0 : c.op = 0
      · exact .inr (.inl ⟨eq_false q3, eq_true q0, eq_false fun hh => h02 ⟨q0, hh⟩⟩)
      · exact .inr (.inr ⟨eq_false q3, eq_false q0, rfl⟩)
  refine loudW_in 147 Tryd.func24 Tryd.ntmps24 (by simp) (rfl : Tryd.f24.body = some _) fns_24 ?_
  cases T with
  | nil =>
    rw [List.append_nil] at hfz ⊢
    have he : ns.map eNode ++ [[vS c.name, vS ⟨#[]⟩, .fs (K.map eNode) false]] = ((ns ++ [Node.mk c.name ⟨#[]⟩ K]) ++ ([] : List Node).tail).map eNode := by
      rw [hx]; simp
    rcases tri with ⟨h3', h0', k2⟩ | ⟨h3', h0', k2⟩ | ⟨h3', h0', k2⟩ <;> rcases hkk with k1 | ⟨k1, kl⟩
    · simp (maxSteps := 200000) (disch := first | (simp only [go_sem, Nat.reduceAdd, Nat.reduceSub, Nat.reduceMul, Nat.reduceLeDiff, Nat.reduceEqDiff, Nat.reduceLT, Nat.reduceBEq, Nat.reduceBNe, Nat.reducePow, ↓reduceIte]; done) | omega | (simp only [go_sem, Nat.reduceAdd, Nat.reduceSub, Nat.reduceMul, Nat.reduceLeDiff, Nat.reduceEqDiff, Nat.reduceLT, Nat.reduceBEq, Nat.reduceBNe, Nat.reducePow, ↓reduceIte] <;> omega) | fail) only [go_sem, Nat.reduceAdd, Nat.reduceSub, Nat.reduceMul, Nat.reduceLeDiff, Nat.reduceEqDiff, Nat.reduceLT, Nat.reduceBEq, Nat.reduceBNe, Nat.reducePow, ↓reduceIte, x24, callA_data mode_38, hf, callA_pure mode_16, hfz, hsm, n1, n2, h4', h44', hk', h3', h0', k2, callA_data mode_40, hsk, callA_data mode_12, ha, ne_eq, not_true, not_false_eq_true, k1, ze, he, List.length_map]
    · simp (maxSteps := 200000) (disch := first | (simp only [go_sem, Nat.reduceAdd, Nat.reduceSub, Nat.reduceMul, Nat.reduceLeDiff, Nat.reduceEqDiff, Nat.reduceLT, Nat.reduceBEq, Nat.reduceBNe, Nat.reducePow, ↓reduceIte]; done) | omega | (simp only [go_sem, Nat.reduceAdd, Nat.reduceSub, Nat.reduceMul, Nat.reduceLeDiff, Nat.reduceEqDiff, Nat.reduceLT, Nat.reduceBEq, Nat.reduceBNe, Nat.reducePow, ↓reduceIte] <;> omega) | fail) only [go_sem, Nat.reduceAdd, Nat.reduceSub, Nat.reduceMul, Nat.reduceLeDiff, Nat.reduceEqDiff, Nat.reduceLT, Nat.reduceBEq, Nat.reduceBNe, Nat.reducePow, ↓reduceIte, x24, callA_data mode_38, hf, callA_pure mode_16, hfz, hsm, n1, n2, h4', h44', hk', h3', h0', k2, callA_data mode_40, hsk, callA_data mode_12, ha, ne_eq, not_true, not_false_eq_true, k1, kl, ze, he, List.length_map]
    · simp (maxSteps := 200000) (disch := first | (simp only [go_sem, Nat.reduceAdd, Nat.reduceSub, Nat.reduceMul, Nat.reduceLeDiff, Nat.reduceEqDiff, Nat.reduceLT, Nat.reduceBEq, Nat.reduceBNe, Nat.reducePow, ↓reduceIte]; done) | omega | (simp only [go_sem, Nat.reduceAdd, Nat.reduceSub, Nat.reduceMul, Nat.reduceLeDiff, Nat.reduceEqDiff, Nat.reduceLT, Nat.reduceBEq, Nat.reduceBNe, Nat.reducePow, ↓reduceIte] <;> omega) | fail) only [go_sem, Nat.reduceAdd, Nat.reduceSub, Nat.reduceMul, Nat.reduceLeDiff, Nat.reduceEqDiff, Nat.reduceLT, Nat.reduceBEq, Nat.reduceBNe, Nat.reducePow, ↓reduceIte, x24, callA_data mode_38, hf, callA_pure mode_16, hfz, hsm, n1, n2, h4', h44', hk', h3', h0', k2, callA_data mode_40, hsk, callA_data mode_12, ha, ne_eq, not_true, not_false_eq_true, k1, ze, he, List.length_map]
    · simp (maxSteps := 200000) (disch := first | (simp only [go_sem, Nat.reduceAdd, Nat.reduceSub, Nat.reduceMul, Nat.reduceLeDiff, Nat.reduceEqDiff, Nat.reduceLT, Nat.reduceBEq, Nat.reduceBNe, Nat.reducePow, ↓reduceIte]; done) | omega | (simp only [go_sem, Nat.reduceAdd, Nat.reduceSub, Nat.reduceMul, Nat.reduceLeDiff, Nat.reduceEqDiff, Nat.reduceLT, Nat.reduceBEq, Nat.reduceBNe, Nat.reducePow, ↓reduceIte] <;> omega) | fail) only [go_sem, Nat.reduceAdd, Nat.reduceSub, Nat.reduceMul, Nat.reduceLeDiff, Nat.reduceEqDiff, Nat.reduceLT, Nat.reduceBEq, Nat.reduceBNe, Nat.reducePow, ↓reduceIte, x24, callA_data mode_38, hf, callA_pure mode_16, hfz, hsm, n1, n2, h4', h44', hk', h3', h0', k2, callA_data mode_40, hsk, callA_data mode_12, ha, ne_eq, not_true, not_false_eq_true, k1, kl, ze, he, List.length_map]
    · simp (maxSteps := 200000) (disch := first | (simp only [go_sem, Nat.reduceAdd, Nat.reduceSub, Nat.reduceMul, Nat.reduceLeDiff, Nat.reduceEqDiff, Nat.reduceLT, Nat.reduceBEq, Nat.reduceBNe, Nat.reducePow, ↓reduceIte]; done) | omega | (simp only [go_sem, Nat.reduceAdd, Nat.reduceSub, Nat.reduceMul, Nat.reduceLeDiff, Nat.reduceEqDiff, Nat.reduceLT, Nat.reduceBEq, Nat.reduceBNe, Nat.reducePow, ↓reduceIte] <;> omega) | fail) only [go_sem, Nat.reduceAdd, Nat.reduceSub, Nat.reduceMul, Nat.reduceLeDiff, Nat.reduceEqDiff, Nat.reduceLT, Nat.reduceBEq, Nat.reduceBNe, Nat.reducePow, ↓reduceIte, x24, callA_data mode_38, hf, callA_pure mode_16, hfz, hsm, n1, n2, h4', h44', hk', h3', h0', k2, callA_data mode_40, hsk, callA_data mode_12, ha, ne_eq, not_true, not_false_eq_true, k1, ze, he, List.length_map]
    · simp (maxSteps := 200000) (disch := first | (simp only [go_sem, Nat.reduceAdd, Nat.reduceSub, Nat.reduceMul, Nat.reduceLeDiff, Nat.reduceEqDiff, Nat.reduceLT, Nat.reduceBEq, Nat.reduceBNe, Nat.reducePow, ↓reduceIte]; done) | omega | (simp only [go_sem, Nat.reduceAdd, Nat.reduceSub, Nat.reduceMul, Nat.reduceLeDiff, Nat.reduceEqDiff, Nat.reduceLT, Nat.reduceBEq, Nat.reduceBNe, Nat.reducePow, ↓reduceIte] <;> omega) | fail) only [go_sem, Nat.reduceAdd, Nat.reduceSub, Nat.reduceMul, Nat.reduceLeDiff, Nat.reduceEqDiff, Nat.reduceLT, Nat.reduceBEq, Nat.reduceBNe, Nat.reducePow, ↓reduceIte, x24, callA_data mode_38, hf, callA_pure mode_16, hfz, hsm, n1, n2, h4', h44', hk', h3', h0', k2, callA_data mode_40, hsk, callA_data mode_12, ha, ne_eq, not_true, not_false_eq_true, k1, kl, ze, he, List.length_map]
  | cons y T =>
    have hlt : ns.length < (ns ++ y :: T).length := by simp
    have he : ((ns ++ y :: T).map eNode).set ns.length [vS c.name, vS ⟨#[]⟩, .fs (K.map eNode) false] = ((ns ++ [Node.mk c.name ⟨#[]⟩ K]) ++ (y :: T).tail).map eNode := by
      rw [hx, ← List.map_set, List.set_append_right _ _ (Nat.le_refl _)]; simp
    rcases tri with ⟨h3', h0', k2⟩ | ⟨h3', h0', k2⟩ | ⟨h3', h0', k2⟩ <;> rcases hkk with k1 | ⟨k1, kl⟩
    · simp (maxSteps := 200000) (disch := first | (simp only [go_sem, Nat.reduceAdd, Nat.reduceSub, Nat.reduceMul, Nat.reduceLeDiff, Nat.reduceEqDiff, Nat.reduceLT, Nat.reduceBEq, Nat.reduceBNe, Nat.reducePow, ↓reduceIte]; done) | omega | (simp only [go_sem, Nat.reduceAdd, Nat.reduceSub, Nat.reduceMul, Nat.reduceLeDiff, Nat.reduceEqDiff, Nat.reduceLT, Nat.reduceBEq, Nat.reduceBNe, Nat.reducePow, ↓reduceIte] <;> omega) | fail) only [go_sem, Nat.reduceAdd, Nat.reduceSub, Nat.reduceMul, Nat.reduceLeDiff, Nat.reduceEqDiff, Nat.reduceLT, Nat.reduceBEq, Nat.reduceBNe, Nat.reducePow, ↓reduceIte, x24, callA_data mode_38, hf, callA_pure mode_16, hfz, hsm, n1, n2, h4', h44', hk', h3', h0', k2, callA_data mode_40, hsk, callA_data mode_12, ha, ne_eq, not_true, not_false_eq_true, k1, ze, he, List.length_map, hlt]
    · simp (maxSteps := 200000) (disch := first | (simp only [go_sem, Nat.reduceAdd, Nat.reduceSub, Nat.reduceMul, Nat.reduceLeDiff, Nat.reduceEqDiff, Nat.reduceLT, Nat.reduceBEq, Nat.reduceBNe, Nat.reducePow, ↓reduceIte]; done) | omega | (simp only [go_sem, Nat.reduceAdd, Nat.reduceSub, Nat.reduceMul, Nat.reduceLeDiff, Nat.reduceEqDiff, Nat.reduceLT, Nat.reduceBEq, Nat.reduceBNe, Nat.reducePow, ↓reduceIte] <;> omega) | fail) only [go_sem, Nat.reduceAdd, Nat.reduceSub, Nat.reduceMul, Nat.reduceLeDiff, Nat.reduceEqDiff, Nat.reduceLT, Nat.reduceBEq, Nat.reduceBNe, Nat.reducePow, ↓reduceIte, x24, callA_data mode_38, hf, callA_pure mode_16, hfz, hsm, n1, n2, h4', h44', hk', h3', h0', k2, callA_data mode_40, hsk, callA_data mode_12, ha, ne_eq, not_true, not_false_eq_true, k1, kl, ze, he, List.length_map, hlt]
    · simp (maxSteps := 200000) (disch := first | (simp only [go_sem, Nat.reduceAdd, Nat.reduceSub, Nat.reduceMul, Nat.reduceLeDiff, Nat.reduceEqDiff, Nat.reduceLT, Nat.reduceBEq, Nat.reduceBNe, Nat.reducePow, ↓reduceIte]; done) | omega | (simp only [go_sem, Nat.reduceAdd, Nat.reduceSub, Nat.reduceMul, Nat.reduceLeDiff, Nat.reduceEqDiff, Nat.reduceLT, Nat.reduceBEq, Nat.reduceBNe, Nat.reducePow, ↓reduceIte] <;> omega) | fail) only [go_sem, Nat.reduceAdd, Nat.reduceSub, Nat.reduceMul, Nat.reduceLeDiff, Nat.reduceEqDiff, Nat.reduceLT, Nat.reduceBEq, Nat.reduceBNe, Nat.reducePow, ↓reduceIte, x24, callA_data mode_38, hf, callA_pure mode_16, hfz, hsm, n1, n2, h4', h44', hk', h3', h0', k2, callA_data mode_40, hsk, callA_data mode_12, ha, ne_eq, not_true, not_false_eq_true, k1, ze, he, List.length_map, hlt]
    · simp (maxSteps := 200000) (disch := first | (simp only [go_sem, Nat.reduceAdd, Nat.reduceSub, Nat.reduceMul, Nat.reduceLeDiff, Nat.reduceEqDiff, Nat.reduceLT, Nat.reduceBEq, Nat.reduceBNe, Nat.reducePow, ↓reduceIte]; done) | omega | (simp only [go_sem, Nat.reduceAdd, Nat.reduceSub, Nat.reduceMul, Nat.reduceLeDiff, Nat.reduceEqDiff, Nat.reduceLT, Nat.reduceBEq, Nat.reduceBNe, Nat.reducePow, ↓reduceIte] <;> omega) | fail) only [go_sem, Nat.reduceAdd, Nat.reduceSub, Nat.reduceMul, Nat.reduceLeDiff, Nat.reduceEqDiff, Nat.reduceLT, Nat.reduceBEq, Nat.reduceBNe, Nat.reducePow, ↓reduceIte, x24, callA_data mode_38, hf, callA_pure mode_16, hfz, hsm, n1, n2, h4', h44', hk', h3', h0', k2, callA_data mode_40, hsk, callA_data mode_12, ha, ne_eq, not_true, not_false_eq_true, k1, kl, ze, he, List.length_map, hlt]
    · simp (maxSteps := 200000) (disch := first | (simp only [go_sem, Nat.reduceAdd, Nat.reduceSub, Nat.reduceMul, Nat.reduceLeDiff, Nat.reduceEqDiff, Nat.reduceLT, Nat.reduceBEq, Nat.reduceBNe, Nat.reducePow, ↓reduceIte]; done) | omega | (simp only [go_sem, Nat.reduceAdd, Nat.reduceSub, Nat.reduceMul, Nat.reduceLeDiff, Nat.reduceEqDiff, Nat.reduceLT, Nat.reduceBEq, Nat.reduceBNe, Nat.reducePow, ↓reduceIte] <;> omega) | fail) only [go_sem, Nat.reduceAdd, Nat.reduceSub, Nat.reduceMul, Nat.reduceLeDiff, Nat.reduceEqDiff, Nat.reduceLT, Nat.reduceBEq, Nat.reduceBNe, Nat.reducePow, ↓reduceIte, x24, callA_data mode_38, hf, callA_pure mode_16, hfz, hsm, n1, n2, h4', h44', hk', h3', h0', k2, callA_data mode_40, hsk, callA_data mode_12, ha, ne_eq, not_true, not_false_eq_true, k1, ze, he, List.length_map, hlt]
    · simp (maxSteps := 200000) (disch := first | (simp only [go_sem, Nat.reduceAdd, Nat.reduceSub, Nat.reduceMul, Nat.reduceLeDiff, Nat.reduceEqDiff, Nat.reduceLT, Nat.reduceBEq, Nat.reduceBNe, Nat.reducePow, ↓reduceIte]; done) | omega | (simp only [go_sem, Nat.reduceAdd, Nat.reduceSub, Nat.reduceMul, Nat.reduceLeDiff, Nat.reduceEqDiff, Nat.reduceLT, Nat.reduceBEq, Nat.reduceBNe, Nat.reducePow, ↓reduceIte] <;> omega) | fail) only [go_sem, Nat.reduceAdd, Nat.reduceSub, Nat.reduceMul, Nat.reduceLeDiff, Nat.reduceEqDiff, Nat.reduceLT, Nat.reduceBEq, Nat.reduceBNe, Nat.reducePow, ↓reduceIte, x24, callA_data mode_38, hf, callA_pure mode_16, hfz, hsm, n1, n2, h4', h44', hk', h3', h0', k2, callA_data mode_40, hsk, callA_data mode_12, ha, ne_eq, not_true, not_false_eq_true, k1, kl, ze, he, List.length_map, hlt]
end Go.Abs.SA
end

section
set_option linter.unusedVariables false
set_option linter.unusedSimpArgs false
set_option linter.unusedSectionVars false
set_option maxRecDepth 100000
set_option maxHeartbeats 16000000
set_option linter.unusedSimpArgs false
set_option linter.unusedVariables false
namespace Go.Abs.SA
open Go.Proofs

theorem none_box_del (d : Def) (c : Chg) (ns T : List Node) (hd : d.keys.length ≤ 1048576) (hc : c.kids.length ≤ 1048576) (hn : ns.length ≤ 1048576) (hkn : ∀ x ∈ ns, x.kids.length ≤ 140737488355328) (hfr : (freshD d c).kids.length ≤ 140737488355328) (hs : sameAt d ns (freshD d c) = none) (h4 : ¬ 4 ≤ c.op) (hk : ¬ d.kind = 3) (k1h : d.kind = 1) (F : List Chg) (hF : (c.kids.filter fun x => !has d.keys x.name) = F) (ha : pureW XX 12 [lD d.kids, lN (freshD d c).kids, lC F] = some (.tup [lN [], vI 0])) :
    loudW XX 24 [aDef d, .sl 0 0 ns.length false, aChg c] [.arr 41 3 ((ns ++ T).map eNode)] = some (.tup [.sl 0 0 ns.length false, vI 0], .arr 41 3 ((ns ++ zN :: T.tail).map eNode) :: (bsO d c [vS (freshD d c).name, vS (freshD d c).value, lN (freshD d c).kids] ++ [.dead])) := by
  have hf := fresh_spec d c hd hc
  have hsm := modelSame_spec d ns (freshD d c) (by omega) hfr (by omega) hkn
  rw [hs] at hsm
  simp only [posI] at hsm
  have n1 : (0 ≤ (-1 : Int)) = False := eq_false (by omega)
  have n2 : ((-1 : Int) < 0) = True := eq_true (by omega)
  have hfz := frzSl_pre (enc := eNode) (e := 41) (sz := 3) ns T
  have h4' := eq_false h4
  have h44' : (c.op = 4) = False := eq_false (by omega)
  have hk' := eq_false hk
  have hsk := skip_spec d c.kids (by omega) hc
  rw [hF] at hsk
  have ze : ((0 : Int) = 0) = True := eq_true rfl
  have k1 := eq_true k1h
  have k2' : (d.kind = 2) = False := eq_false (by omega)
  have h02 : ¬ (c.op = 0 ∧ d.kind = 2) := by rintro ⟨_, hh⟩; omega
  have hx : [vS c.name, vS ⟨#[]⟩, .fs [] false] = eNode (Node.mk c.name ⟨#[]⟩ []) := by rw [eNode_s]; rfl
  have z0 : (((0 : Nat) : Int) = 0) = True := eq_true rfl
  rw [show lN [] = AV.fs [] false from rfl] at ha
  have tri : ((c.op = 3) = True ∧ (c.op = 0) = False ∧ True = True) ∨ ((c.op = 3) = False ∧ (c.op = 0) = True ∧ (d.kind = 2) = False) ∨ ((c.op = 3) = False ∧ (c.op = 0) = False ∧ True = True) := by
    by_cases q3 : c.op = 3
    · exact .inl ⟨eq_true q3, eq_false (by omega), rfl⟩
    · by_cases q0 : c.op = 0
      · exact .inr (.inl ⟨eq_false q3, eq_true q0, eq_false fun hh => h02 ⟨q0, hh⟩⟩)
      · exact .inr (.inr ⟨eq_false q3, eq_false q0, rfl⟩)
  refine loudW_in 147 Tryd.func24 Tryd.ntmps24 (by simp) (rfl : Tryd.f24.body = some _) fns_24 ?_
  have hdl := delete_spec (ns ++ [Node.mk c.name ⟨#[]⟩ []]) T.tail ns.length (ns.length + 1) (by simp) (by omega) (by omega)
  rw [List.eraseIdx_append_of_length_le (Nat.le_refl _), Nat.sub_self, show ([Node.mk c.name ⟨#[]⟩ []] : List Node).eraseIdx 0 = [] from rfl, List.append_nil, Nat.add_sub_cancel] at hdl
  have hcx : ∀ t, callX XX (orW XX) ⟨t, .arr 41 3 (((ns ++ [Node.mk c.name ⟨#[]⟩ []]) ++ T.tail).map eNode) :: (bsO d c [vS (freshD d c).name, vS (freshD d c).value, lN (freshD d c).kids] ++ [.dead])⟩ 24 39 [.sl 0 0 (ns.length + 1) false, vI ns.length, vI ((ns.length + 1 : Nat) : Int)] = some (.st (.sl 0 0 ns.length false) ⟨t, .arr 41 3 ((ns ++ zN :: T.tail).map eNode) :: (bsO d c [vS (freshD d c).name, vS (freshD d c).value, lN (freshD d c).kids] ++ [.dead])⟩) := fun t =>
    callX_arr0 (by rw [live_24]; rfl) (by simp [AV.lts, AV.lt]) (by simp [idsOfs, idsOf, addNew]) (by simp [AV.rens, AV.ren, posOf]) (by simp) (fun n => by simp [AV.ren, backF]) hdl
  simp only [bsO, List.cons_append, List.nil_append] at hcx
  have hwi := wrap_succ (Nat.lt_succ_self ns.length) (show ns.length + 1 ≤ 140737488355328 by omega)
  cases T with
  | nil =>
    rw [List.append_nil] at hfz ⊢
    have he : ns.map eNode ++ [[vS c.name, vS ⟨#[]⟩, .fs [] false]] = ((ns ++ [Node.mk c.name ⟨#[]⟩ []]) ++ ([] : List Node).tail).map eNode := by
      rw [hx]; simp
    rcases tri with ⟨h3', h0', k2⟩ | ⟨h3', h0', k2⟩ | ⟨h3', h0', k2⟩
    · simp (maxSteps := 200000) (disch := first | (simp only [go_sem, Nat.reduceAdd, Nat.reduceSub, Nat.reduceMul, Nat.reduceLeDiff, Nat.reduceEqDiff, Nat.reduceLT, Nat.reduceBEq, Nat.reduceBNe, Nat.reducePow, ↓reduceIte]; done) | omega | (simp only [go_sem, Nat.reduceAdd, Nat.reduceSub, Nat.reduceMul, Nat.reduceLeDiff, Nat.reduceEqDiff, Nat.reduceLT, Nat.reduceBEq, Nat.reduceBNe, Nat.reducePow, ↓reduceIte] <;> omega) | fail) only [go_sem, Nat.reduceAdd, Nat.reduceSub, Nat.reduceMul, Nat.reduceLeDiff, Nat.reduceEqDiff, Nat.reduceLT, Nat.reduceBEq, Nat.reduceBNe, Nat.reducePow, ↓reduceIte, x24, callA_data mode_38, hf, callA_pure mode_16, hfz, hsm, n1, n2, h4', h44', hk', h3', h0', k2, callA_data mode_40, hsk, callA_data mode_12, ha, ne_eq, not_true, not_false_eq_true, k1, ze, z0, he, List.length_map, hwi, hcx, bsO, List.cons_append, List.nil_append]
    · simp (maxSteps := 200000) (disch := first | (simp only [go_sem, Nat.reduceAdd, Nat.reduceSub, Nat.reduceMul, Nat.reduceLeDiff, Nat.reduceEqDiff, Nat.reduceLT, Nat.reduceBEq, Nat.reduceBNe, Nat.reducePow, ↓reduceIte]; done) | omega | (simp only [go_sem, Nat.reduceAdd, Nat.reduceSub, Nat.reduceMul, Nat.reduceLeDiff, Nat.reduceEqDiff, Nat.reduceLT, Nat.reduceBEq, Nat.reduceBNe, Nat.reducePow, ↓reduceIte] <;> omega) | fail) only [go_sem, Nat.reduceAdd, Nat.reduceSub, Nat.reduceMul, Nat.reduceLeDiff, Nat.reduceEqDiff, Nat.reduceLT, Nat.reduceBEq, Nat.reduceBNe, Nat.reducePow, ↓reduceIte, x24, callA_data mode_38, hf, callA_pure mode_16, hfz, hsm, n1, n2, h4', h44', hk', h3', h0', k2, callA_data mode_40, hsk, callA_data mode_12, ha, ne_eq, not_true, not_false_eq_true, k1, ze, z0, he, List.length_map, hwi, hcx, bsO, List.cons_append, List.nil_append]
    · simp (maxSteps := 200000) (disch := first | (simp only [go_sem, Nat.reduceAdd, Nat.reduceSub, Nat.reduceMul, Nat.reduceLeDiff, Nat.reduceEqDiff, Nat.reduceLT, Nat.reduceBEq, Nat.reduceBNe, Nat.reducePow, ↓reduceIte]; done) | omega | (simp only [go_sem, Nat.reduceAdd, Nat.reduceSub, Nat.reduceMul, Nat.reduceLeDiff, Nat.reduceEqDiff, Nat.reduceLT, Nat.reduceBEq, Nat.reduceBNe, Nat.reducePow, ↓reduceIte] <;> omega) | fail) only [go_sem, Nat.reduceAdd, Nat.reduceSub, Nat.reduceMul, Nat.reduceLeDiff, Nat.reduceEqDiff, Nat.reduceLT, Nat.reduceBEq, Nat.reduceBNe, Nat.reducePow, ↓reduceIte, x24, callA_data mode_38, hf, callA_pure mode_16, hfz, hsm, n1, n2, h4', h44', hk', h3', h0', k2, callA_data mode_40, hsk, callA_data mode_12, ha, ne_eq, not_true, not_false_eq_true, k1, ze, z0, he, List.length_map, hwi, hcx, bsO, List.cons_append, List.nil_append]
  | cons y T =>
    have hlt : ns.length < (ns ++ y :: T).length := by simp
    have he : ((ns ++ y :: T).map eNode).set ns.length [vS c.name, vS ⟨#[]⟩, .fs [] false] = ((ns ++ [Node.mk c.name ⟨#[]⟩ []]) ++ (y :: T).tail).map eNode := by
      rw [hx, ← List.map_set, List.set_append_right _ _ (Nat.le_refl _)]; simp
    rcases tri with ⟨h3', h0', k2⟩ | ⟨h3', h0', k2⟩ | ⟨h3', h0', k2⟩
    · simp (maxSteps := 200000) (disch := first | (simp only [go_sem, Nat.reduceAdd, Nat.reduceSub, Nat.reduceMul, Nat.reduceLeDiff, Nat.reduceEqDiff, Nat.reduceLT, Nat.reduceBEq, Nat.reduceBNe, Nat.reducePow, ↓reduceIte]; done) | omega | (simp only [go_sem, Nat.reduceAdd, Nat.reduceSub, Nat.reduceMul, Nat.reduceLeDiff, Nat.reduceEqDiff, Nat.reduceLT, Nat.reduceBEq, Nat.reduceBNe, Nat.reducePow, ↓reduceIte] <;> omega) | fail) only [go_sem, Nat.reduceAdd, Nat.reduceSub, Nat.reduceMul, Nat.reduceLeDiff, Nat.reduceEqDiff, Nat.reduceLT, Nat.reduceBEq, Nat.reduceBNe, Nat.reducePow, ↓reduceIte, x24, callA_data mode_38, hf, callA_pure mode_16, hfz, hsm, n1, n2, h4', h44', hk', h3', h0', k2, callA_data mode_40, hsk, callA_data mode_12, ha, ne_eq, not_true, not_false_eq_true, k1, ze, z0, he, List.length_map, hlt, hwi, hcx, bsO, List.cons_append, List.nil_append]
    · simp (maxSteps := 200000) (disch := first | (simp only [go_sem, Nat.reduceAdd, Nat.reduceSub, Nat.reduceMul, Nat.reduceLeDiff, Nat.reduceEqDiff, Nat.reduceLT, Nat.reduceBEq, Nat.reduceBNe, Nat.reducePow, ↓reduceIte]; done) | omega | (simp only [go_sem, Nat.reduceAdd, Nat.reduceSub, Nat.reduceMul, Nat.reduceLeDiff, Nat.reduceEqDiff, Nat.reduceLT, Nat.reduceBEq, Nat.reduceBNe, Nat.reducePow, ↓reduceIte] <;> omega) | fail) only [go_sem, Nat.reduceAdd, Nat.reduceSub, Nat.reduceMul, Nat.reduceLeDiff, Nat.reduceEqDiff, Nat.reduceLT, Nat.reduceBEq, Nat.reduceBNe, Nat.reducePow, ↓reduceIte, x24, callA_data mode_38, hf, callA_pure mode_16, hfz, hsm, n1, n2, h4', h44', hk', h3', h0', k2, callA_data mode_40, hsk, callA_data mode_12, ha, ne_eq, not_true, not_false_eq_true, k1, ze, z0, he, List.length_map, hlt, hwi, hcx, bsO, List.cons_append, List.nil_append]
    · simp (maxSteps := 200000) (disch := first | (simp only [go_sem, Nat.reduceAdd, Nat.reduceSub, Nat.reduceMul, Nat.reduceLeDiff, Nat.reduceEqDiff, Nat.reduceLT, Nat.reduceBEq, Nat.reduceBNe, Nat.reducePow, ↓reduceIte]; done) | omega | (simp only [go_sem, Nat.reduceAdd, Nat.reduceSub, Nat.reduceMul, Nat.reduceLeDiff, Nat.reduceEqDiff, Nat.reduceLT, Nat.reduceBEq, Nat.reduceBNe, Nat.reducePow, ↓reduceIte] <;> omega) | fail) only [go_sem, Nat.reduceAdd, Nat.reduceSub, Nat.reduceMul, Nat.reduceLeDiff, Nat.reduceEqDiff, Nat.reduceLT, Nat.reduceBEq, Nat.reduceBNe, Nat.reducePow, ↓reduceIte, x24, callA_data mode_38, hf, callA_pure mode_16, hfz, hsm, n1, n2, h4', h44', hk', h3', h0', k2, callA_data mode_40, hsk, callA_data mode_12, ha, ne_eq, not_true, not_false_eq_true, k1, ze, z0, he, List.length_map, hlt, hwi, hcx, bsO, List.cons_append, List.nil_append]
end Go.Abs.SA
end

section
set_option linter.unusedVariables false
set_option linter.unusedSimpArgs false
set_option linter.unusedSectionVars false
set_option maxRecDepth 100000
set_option maxHeartbeats 16000000
set_option linter.unusedSimpArgs false
set_option linter.unusedVariables false
namespace Go.Abs.SA
open Go.Proofs

/-! change.one, whole. -/
theorem bsD_ok (d : Def) (c : Chg) (x : Node) : ∀ b ∈ bsO d c [vS x.name, vS x.value, lN x.kids] ++ [.dead], ∀ f : Nat → Option Nat, b.ren f = b := by
  intro b hb f
  rcases List.mem_append.1 hb with hb | hb
  · exact bsO_ok _ _ _ b hb f
  · rw [List.mem_singleton] at hb; subst hb; rfl
theorem okTl_kids {ns : List Node} (h : okTl ns) : ∀ x ∈ ns, x.kids.length ≤ 1048576 := fun x hx => (okT_s.1 (okTl_iff.1 h x hx)).1
theorem sameAt_some {d : Def} {ns : List Node} {n : Node} {i : Nat} (h : sameAt d ns n = some i) : ∃ h : i < ns.length, True := by
  unfold sameAt at h
  obtain ⟨h1, _, _⟩ := List.findIdx?_eq_some_iff_getElem.1 h
  exact ⟨h1, trivial⟩
theorem one_spec (d : Def) (c : Chg) (ns T : List Node) (hd : fewD d) (hc : okG c) (hn : ns.length ≤ 1048576) (hk : okTl ns)
    (hap : ∀ was, okTl was → was.length ≤ 1048576 → pureW XX 12 [lD d.kids, lN was, lC (c.kids.filter fun x => !has d.keys x.name)] = some (aAp (apD d.kids was (c.kids.filter fun x => !has d.keys x.name)))) :
    oneOk [aDef d, .sl 0 0 ns.length false, aChg c] ns T (one1 d ns c) := by
  obtain ⟨k1, k2⟩ := fewD_s.1 hd
  obtain ⟨c1, c2⟩ := okG_s.1 hc
  have f1 := freshD_kids d c k1 c1
  have f2 := freshD_ok d c
  have hd' : d.keys.length ≤ 1048576 := by omega
  have hc' : c.kids.length ≤ 1048576 := by omega
  have hkn : ∀ x ∈ ns, x.kids.length ≤ 140737488355328 := fun x hx => by have := okTl_kids hk x hx; omega
  have hfr : (freshD d c).kids.length ≤ 140737488355328 := by omega
  have hapF := hap
  obtain ⟨F, hF⟩ : ∃ F, (c.kids.filter fun x => !has d.keys x.name) = F := ⟨_, rfl⟩
  have hapS : ∀ was, apS d.kids d.keys was c.kids = apS d.kids [] was F := fun was => by rw [← hF]; exact (apS_skip _ _ _ _).symm
  have hG : okGl F := by
    rw [← hF, okGl_iff]
    exact fun x hx => okGl_iff.1 c2 x (List.mem_filter.1 hx).1
  rw [hF] at hap
  cases hs : sameAt d ns (freshD d c) with
  | none =>
    have h1 : one1 d ns c = (if c.op = 4 then .error 16 else if 4 ≤ c.op then .ok ns
      else if c.op = 0 ∧ (d.kind = 3 ∨ d.kind = 2) then .error 16
      else if d.kind = 3 then .ok (ns ++ [freshD d c])
      else match apS d.kids d.keys (freshD d c).kids c.kids with
        | .error e => .error e
        | .ok r => if d.kind = 1 ∧ order d.kids r = [] then .ok ns else .ok (ns ++ [.mk c.name ⟨#[]⟩ (order d.kids r)])) := by
      cases c with
      | mk n v o ks => rw [one1, hs]; rfl
    rw [h1]
    by_cases h4 : c.op = 4
    · rw [if_pos h4]
      exact ⟨_, bsO_ok _ _ _, none_gone4 d c ns T hd' hc' hn hkn hfr hs h4⟩
    rw [if_neg h4]
    by_cases h5 : 4 ≤ c.op
    · rw [if_pos h5]
      exact ⟨T, _, id, bsO_ok _ _ _, none_keep d c ns T hd' hc' hn hkn hfr hs h5 h4⟩
    rw [if_neg h5]
    by_cases h0 : c.op = 0 ∧ (d.kind = 3 ∨ d.kind = 2)
    · rw [if_pos h0]
      exact ⟨_, bsO_ok _ _ _, none_gone0 d c ns T hd' hc' hn hkn hfr hs h0.1 h0.2⟩
    rw [if_neg h0]
    by_cases h3 : d.kind = 3
    · rw [if_pos h3]
      have := none_leaf d c ns T hd' hc' hn hkn hfr hs h5 (fun hh => h0 ⟨hh, .inl h3⟩) h3
      exact ⟨T.tail, _, okN_t, bsO_ok _ _ _, by rw [List.length_append]; exact this⟩
    rw [if_neg h3, hapS]
    have h02 : ¬ (c.op = 0 ∧ d.kind = 2) := fun hh => h0 ⟨hh.1, .inr hh.2⟩
    have ha := hap (freshD d c).kids f2 f1
    unfold apD at ha
    cases hR : apS d.kids [] (freshD d c).kids F with
    | error e =>
      rw [hR] at ha
      exact ⟨_, bsO_ok _ _ _, none_box_err d c ns T hd' hc' hn hkn hfr hs h5 h3 h02 F hF e (apS_err _ _ _ _ _ hR) ha⟩
    | ok r =>
      rw [hR] at ha
      have hr := apS_ok d.kids k2 [] (freshD d c).kids f2 f1 F r hG hR
      dsimp only
      by_cases he : d.kind = 1 ∧ order d.kids r = []
      · rw [if_pos he]
        simp only [aAp] at ha
        rw [he.2] at ha
        exact ⟨_, _, okN_zt, bsD_ok _ _ _, none_box_del d c ns T hd' hc' hn hkn hfr hs h5 h3 he.1 F hF ha⟩
      · rw [if_neg he]
        have := none_box_ok d c ns T hd' hc' hn hkn hfr hs h5 h3 h02 F hF (order d.kids r) (by rw [order_len]; exact hr.2) he ha
        exact ⟨T.tail, _, okN_t, bsD_ok _ _ _, by rw [List.length_append]; exact this⟩
  | some i =>
    obtain ⟨hi, _⟩ := sameAt_some hs
    have ho1 : one1 d ns c = (if c.op = 3 then .error 15 else if 4 ≤ c.op then .ok (ns.eraseIdx i)
        else if d.kind = 3 then (if c.op = 0 then .ok ns else .ok (ns.set i (freshD d c)))
        else match apS d.kids d.keys (if c.op ≠ 2 then ns[i].kids else (freshD d c).kids) c.kids with
          | .error e => .error e
          | .ok r => if d.kind = 1 ∧ order d.kids r = [] then .ok (ns.eraseIdx i) else .ok (ns.set i (.mk ns[i].name ns[i].value (order d.kids r)))) := by
      cases c with
      | mk n v o ks =>
        rw [one1, hs]
        simp only [List.getElem?_eq_getElem hi]
        rfl
    by_cases hbox : ¬ c.op = 3 ∧ ¬ 4 ≤ c.op ∧ ¬ d.kind = 3
    · obtain ⟨h3, h4, hk3⟩ := hbox
      rw [ho1, if_neg h3, if_neg h4, if_neg hk3, hapS]
      have hnk := okT_s.1 (okTl_iff.1 hk _ (List.getElem_mem hi))
      have hap0 : ∀ was, was = ns[i].kids ∨ was = (freshD d c).kids → _ := fun was hw => hapF was (by rcases hw with rfl | rfl; exact hnk.2; exact f2) (by rcases hw with rfl | rfl; exact hnk.1; exact f1)
      by_cases h2 : c.op = 2
      · rw [if_neg (by simp [h2])]
        have ha := hap (freshD d c).kids f2 f1
        unfold apD at ha
        cases hR : apS d.kids [] (freshD d c).kids F with
        | error e =>
          rw [hR] at ha
          exact ⟨_, bsO_ok _ _ _, boxR_err d c ns T hd' hc' hn hkn hfr i hi hs hap0 h3 h4 hk3 h2 F hF e (apS_err _ _ _ _ _ hR) ha⟩
        | ok r =>
          rw [hR] at ha
          have hr := apS_ok d.kids k2 [] (freshD d c).kids f2 f1 F r hG hR
          dsimp only
          by_cases he : d.kind = 1 ∧ order d.kids r = []
          · rw [if_pos he]
            simp only [aAp] at ha
            rw [he.2] at ha
            have := boxR_del d c ns T hd' hc' hn hkn hfr i hi hs hap0 h3 h4 hk3 h2 F hF he.1 ha
            exact ⟨_, _, okN_z, bsD_ok _ _ _, by rw [List.length_eraseIdx, if_pos hi]; exact this⟩
          · rw [if_neg he]
            have := boxR_ok d c ns T hd' hc' hn hkn hfr i hi hs hap0 h3 h4 hk3 h2 F hF (order d.kids r) (by rw [order_len]; exact hr.2) he ha
            exact ⟨T, _, id, bsD_ok _ _ _, by rw [List.length_set]; exact this⟩
      · rw [if_pos h2]
        have ha := hap ns[i].kids hnk.2 hnk.1
        unfold apD at ha
        cases hR : apS d.kids [] ns[i].kids F with
        | error e =>
          rw [hR] at ha
          exact ⟨_, bsO_ok _ _ _, boxM_err d c ns T hd' hc' hn hkn hfr i hi hs hap0 h3 h4 hk3 h2 F hF e (apS_err _ _ _ _ _ hR) ha⟩
        | ok r =>
          rw [hR] at ha
          have hr := apS_ok d.kids k2 [] ns[i].kids hnk.2 hnk.1 F r hG hR
          dsimp only
          by_cases he : d.kind = 1 ∧ order d.kids r = []
          · rw [if_pos he]
            simp only [aAp] at ha
            rw [he.2] at ha
            have := boxM_del d c ns T hd' hc' hn hkn hfr i hi hs hap0 h3 h4 hk3 h2 F hF he.1 ha
            exact ⟨_, _, okN_z, bsD_ok _ _ _, by rw [List.length_eraseIdx, if_pos hi]; exact this⟩
          · rw [if_neg he]
            have := boxM_ok d c ns T hd' hc' hn hkn hfr i hi hs hap0 h3 h4 hk3 h2 F hF (order d.kids r) (by rw [order_len]; exact hr.2) he ha
            exact ⟨T, _, id, bsD_ok _ _ _, by rw [List.length_set]; exact this⟩
    · have := one_some d c ns T hd' hc' hn hkn hfr i hi hs hbox
      exact this
end Go.Abs.SA
end

section
set_option linter.unusedVariables false
set_option linter.unusedSimpArgs false
set_option linter.unusedSectionVars false
set_option maxRecDepth 100000
set_option maxHeartbeats 16000000
set_option linter.unusedSimpArgs false
set_option linter.unusedVariables false
namespace Go.Abs.SA
open Go.Proofs

/-! change.Apply. -/
mutual
def szC : Chg → Nat
  | .mk _ _ _ ks => 1 + szCl ks
def szCl : List Chg → Nat
  | [] => 0
  | c :: r => szC c + szCl r
end
theorem szC_s (c : Chg) : szC c = 1 + szCl c.kids := by cases c; rw [szC]; rfl
theorem szCl_mem : ∀ {l : List Chg} {c : Chg}, c ∈ l → szC c ≤ szCl l
  | x :: r, c, h => by
    rw [szCl]
    rcases List.mem_cons.1 h with rfl | h
    · omega
    · have := szCl_mem h; omega
theorem szCl_filter (p : Chg → Bool) : ∀ l : List Chg, szCl (l.filter p) ≤ szCl l
  | [] => by simp
  | x :: r => by
    have := szCl_filter p r
    rw [List.filter_cons]
    split
    · rw [szCl, szCl]; omega
    · rw [szCl]; omega
theorem okN_of {ns : List Node} (h : okTl ns) : okN ns := fun x hx => by have := okTl_kids h x hx; omega
/-- A call that is handed an array, which may grow, beside a variable in which no block is named; it leaves blocks of its own behind. -/
theorem callX_gr2 {X : Abs.X} {f k e sz : Nat} {es es' : List (List AV)} {cs xs : List AV} {r : AV} {bs : List Blk} (hl : (X.live f).contains k = true) (h2 : AV.lts 0 xs = false) (hi : addNew [] (idsOfs xs) = [0]) (hx : AV.rens (fun i => posOf i [0]) xs = xs) (hc : idsOfs cs = [])
    (hb : ∀ b ∈ bs, ∀ f, b.ren f = b) (hr : ∀ n, r.ren (backF n [0]) = r) (hw : loudW X k xs [.arr e sz es] = some (r, .arr e sz es' :: bs)) :
    ∃ g : AV → AV, (∀ x, g (.v x) = .v x) ∧ (∀ es b, g (.fs es b) = .fs es b) ∧ g (.tup []) = .tup [] ∧ ∀ t, callX X (orW X) ⟨t, [.arr e sz es, .var cs]⟩ f k xs = some (.st r ⟨t.map g, [.arr e sz es', .var cs] ++ bs⟩) := by
  refine ⟨AV.ren (keepF (badL [0] [.arr e sz es] (.arr e sz es' :: bs))), fun x => ren_noids _ _ (by simp [idsOf]), fun es b => ren_noids _ _ (by simp [idsOf]), ren_noids _ _ (by simp [idsOf, idsOfs]), fun t => ?_⟩
  rw [callX_live _ _ hl h2]
  have hre : reach [.arr e sz es, .var cs] 6 (addNew [] (idsOfs xs)) = [0] := by
    rw [hi]
    simp [addNew, reach]
  unfold callL
  dsimp only
  rw [hre]
  have hcnd : dist [0] = true ∧ [0].all (fun i => decide (i < [Blk.arr e sz es, Blk.var cs].length)) = true := by simp [dist]
  rw [if_pos hcnd]
  have hm : ([0].map fun i => (([Blk.arr e sz es, Blk.var cs].getD i .dead).ren fun k => posOf k [0])) = [.arr e sz es] := by
    simp [Blk.ren]
  simp only [hm, hx]
  rw [show (orW X).loud k xs [.arr e sz es] = some (r, .arr e sz es' :: bs) from hw]
  dsimp only
  rw [hr, rens_map]
  congr 3
  unfold putBack
  have hbs : bs.map (Blk.ren (backF [Blk.arr e sz es, Blk.var cs].length [0])) = bs := by
    conv => rhs; rw [← List.map_id bs]
    exact List.map_congr_left fun b hbb => hb b hbb _
  simp [Blk.ren, rens_noids _ cs hc, posOf]
  simpa using hbs
theorem apply_spec : ∀ (k : Nat) (l : List Def) (nodes : List Node) (cs : List Chg), szCl cs < k → l.length ≤ 1099511627776 → okDs l → fewDs l → nodes.length ≤ 1048576 → okTl nodes → cs.length ≤ 1048576 → okGl cs →
    pureW XX 12 [lD l, lN nodes, lC cs] = some (aAp (apD l nodes cs)) := by
  intro k
  induction k with
  | zero => intro l nodes cs h; omega
  | succ k ih =>
    intro l nodes cs hsz hl ho hf hn hk hcl hg
    have hcp := copy_spec (cntL nodes + 1) nodes (Nat.lt_succ_self _) hn hk
    refine pureW_in 48 Tryd.func12 Tryd.ntmps12 (by simp) (rfl : Tryd.f12.body = some _) fns_12 ?_
    simp (maxSteps := 200000) (disch := first | (simp only [go_sem, Nat.reduceAdd, Nat.reduceSub, Nat.reduceMul, Nat.reduceLeDiff, Nat.reduceEqDiff, Nat.reduceLT, Nat.reduceBEq, Nat.reduceBNe, Nat.reducePow, ↓reduceIte]; done) | omega | (simp only [go_sem, Nat.reduceAdd, Nat.reduceSub, Nat.reduceMul, Nat.reduceLeDiff, Nat.reduceEqDiff, Nat.reduceLT, Nat.reduceBEq, Nat.reduceBNe, Nat.reducePow, ↓reduceIte] <;> omega) | fail) only [go_sem, Nat.reduceAdd, Nat.reduceSub, Nat.reduceMul, Nat.reduceLeDiff, Nat.reduceEqDiff, Nat.reduceLT, Nat.reduceBEq, Nat.reduceBNe, Nat.reducePow, ↓reduceIte, callA_fresh mode_23, hcp]
    refine WP_loopR 3 1 (fun (a : Nat × List Node × List Node) => S_12_3 (lD l) (.sl 0 0 a.2.1.length false) (lC cs) (vI cs.length) (vI a.1) [.arr 41 3 ((a.2.1 ++ a.2.2).map eNode)]) (fun a => cs.length - a.1) (fun a => a.1 ≤ cs.length ∧ apS l [] nodes cs = apS l [] a.2.1 (cs.drop a.1) ∧ okTl a.2.1 ∧ a.2.1.length ≤ 1048576 ∧ okN a.2.2) (0, nodes, []) rfl rfl ?_ ?_ ?_
    · simp (maxSteps := 200000) (disch := first | (simp only [go_sem, Nat.reduceAdd, Nat.reduceSub, Nat.reduceMul, Nat.reduceLeDiff, Nat.reduceEqDiff, Nat.reduceLT, Nat.reduceBEq, Nat.reduceBNe, Nat.reducePow, ↓reduceIte]; done) | omega | (simp only [go_sem, Nat.reduceAdd, Nat.reduceSub, Nat.reduceMul, Nat.reduceLeDiff, Nat.reduceEqDiff, Nat.reduceLT, Nat.reduceBEq, Nat.reduceBNe, Nat.reducePow, ↓reduceIte] <;> omega) | fail) only [go_sem, Nat.reduceAdd, Nat.reduceSub, Nat.reduceMul, Nat.reduceLeDiff, Nat.reduceEqDiff, Nat.reduceLT, Nat.reduceBEq, Nat.reduceBNe, Nat.reducePow, ↓reduceIte, List.append_nil]; rfl
    · exact ⟨Nat.zero_le _, rfl, hk, hn, by intro x hx; cases hx⟩
    · rintro ⟨i, ns, T⟩ ⟨hi, hr, hkn, hnl, hT⟩
      simp only at hi hr hkn hnl hT
      unfold apD
      by_cases h : i < cs.length
      case neg =>
        rw [List.drop_of_length_le (by omega), apS_nil] at hr
        rw [hr]
        have hms := modelOrder_spec l ns T ns.length hl ho rfl (by omega) (okN_of hkn) hT
        have hcx : ∀ t, callX XX (orW XX) ⟨t, [.arr 41 3 ((ns ++ T).map eNode)]⟩ 12 25 [lD l, .sl 0 0 ns.length false] = some (.st (.tup []) ⟨t, hS l (order l ns ++ T)⟩) := by
          intro t
          exact callX_arrW (bs := [.var [lD l]]) 0 (by rw [live_12]; rfl) (by simp [AV.lts, AV.lt]) (by simp [idsOfs, idsOf]) rfl (by simp [order_len]) (by simp [idsOf, idsOfs]) (by intro b hb f; rw [List.mem_singleton.1 hb]; rfl) (by unfold hS at hms; simpa [AV.rens, AV.ren, posOf] using hms)
        have hfz := frzSl_pre (enc := eNode) (e := 41) (sz := 3) (order l ns) T
        rw [order_len] at hfz
        unfold hS at hcx
        simp (maxSteps := 200000) (disch := first | (simp only [go_sem, Nat.reduceAdd, Nat.reduceSub, Nat.reduceMul, Nat.reduceLeDiff, Nat.reduceEqDiff, Nat.reduceLT, Nat.reduceBEq, Nat.reduceBNe, Nat.reducePow, ↓reduceIte]; done) | omega | (simp only [go_sem, Nat.reduceAdd, Nat.reduceSub, Nat.reduceMul, Nat.reduceLeDiff, Nat.reduceEqDiff, Nat.reduceLT, Nat.reduceBEq, Nat.reduceBNe, Nat.reducePow, ↓reduceIte] <;> omega) | fail) only [go_sem, Nat.reduceAdd, Nat.reduceSub, Nat.reduceMul, Nat.reduceLeDiff, Nat.reduceEqDiff, Nat.reduceLT, Nat.reduceBEq, Nat.reduceBNe, Nat.reducePow, ↓reduceIte, nat_int, h, hcx, hfz]
        rfl
      have hws := wrap_succ h (show cs.length ≤ 140737488355328 by omega)
      have pl := find_spec l cs[i].name (by omega)
      rw [List.drop_eq_getElem_cons h, apS_cons, if_neg (by simp [has])] at hr
      cases hp : place l cs[i].name with
      | none =>
        rw [hp] at pl hr
        simp only at hr
        have n1 : ((-1 : Int) < 0) = True := eq_true (by omega)
        rw [hr]
        simp (maxSteps := 200000) (disch := first | (simp only [go_sem, Nat.reduceAdd, Nat.reduceSub, Nat.reduceMul, Nat.reduceLeDiff, Nat.reduceEqDiff, Nat.reduceLT, Nat.reduceBEq, Nat.reduceBNe, Nat.reducePow, ↓reduceIte]; done) | omega | (simp only [go_sem, Nat.reduceAdd, Nat.reduceSub, Nat.reduceMul, Nat.reduceLeDiff, Nat.reduceEqDiff, Nat.reduceLT, Nat.reduceBEq, Nat.reduceBNe, Nat.reducePow, ↓reduceIte] <;> omega) | fail) only [go_sem, Nat.reduceAdd, Nat.reduceSub, Nat.reduceMul, Nat.reduceLeDiff, Nat.reduceEqDiff, Nat.reduceLT, Nat.reduceBEq, Nat.reduceBNe, Nat.reducePow, ↓reduceIte, nat_int, h, eChg_s, callA_pure mode_17, pl, posI, n1]
        rfl
      | some j =>
      rw [hp] at pl hr
      obtain ⟨hj, hjn⟩ := place_some hp
      have n1 : ((j : Int) < 0) = False := eq_false (by omega)
      simp only [List.getElem?_eq_getElem hj] at hr
      have hdj := fewDs_iff.1 hf l[j] (List.getElem_mem hj)
      have hgi := okGl_iff.1 hg cs[i] (List.getElem_mem h)
      obtain ⟨o1, o2, o3, o4⟩ := okD_s (okDs_mem ho (List.getElem_mem hj))
      have hsc := szCl_mem (List.getElem_mem h)
      rw [szC_s] at hsc
      have hone := one_spec l[j] cs[i] ns T hdj hgi hnl hkn (fun was w1 w2 => by
        have hsf := szCl_filter (fun x : Chg => !has l[j].keys x.name) cs[i].kids
        have hlf := List.length_filter_le (fun x : Chg => !has l[j].keys x.name) cs[i].kids
        have hg2 := okG_s.1 hgi
        exact ih l[j].kids was _ (by omega) o3 o4 (fewD_s.1 hdj).2 w2 w1 (by omega) (okGl_iff.2 fun x hx => okGl_iff.1 hg2.2 x (List.mem_filter.1 hx).1))
      cases hR : one1 l[j] ns cs[i] with
      | error e =>
        rw [hR] at hone hr
        simp only at hr
        rw [hr]
        obtain ⟨bs, hb, hone⟩ := hone
        have he0 : (e = 0) = False := eq_false (one1_err _ _ _ _ hR)
        obtain ⟨g, g1, g2, g3, hcx⟩ := callX_gr2 (f := 12) (cs := [vS cs[i].name, vS cs[i].value, vI cs[i].op, .fs (cs[i].kids.map eChg) false]) (by rw [live_12]; rfl) (by simp [AV.lts, AV.lt]) (by simp [idsOfs, idsOf, addNew]) (by simp [AV.rens, AV.ren, posOf]) (by simp [idsOfs, idsOf]) hb (fun n => by simp [AV.ren, AV.rens]) hone
        simp (maxSteps := 200000) (disch := first | (simp only [go_sem, Nat.reduceAdd, Nat.reduceSub, Nat.reduceMul, Nat.reduceLeDiff, Nat.reduceEqDiff, Nat.reduceLT, Nat.reduceBEq, Nat.reduceBNe, Nat.reducePow, ↓reduceIte]; done) | omega | (simp only [go_sem, Nat.reduceAdd, Nat.reduceSub, Nat.reduceMul, Nat.reduceLeDiff, Nat.reduceEqDiff, Nat.reduceLT, Nat.reduceBEq, Nat.reduceBNe, Nat.reducePow, ↓reduceIte] <;> omega) | fail) only [go_sem, Nat.reduceAdd, Nat.reduceSub, Nat.reduceMul, Nat.reduceLeDiff, Nat.reduceEqDiff, Nat.reduceLT, Nat.reduceBEq, Nat.reduceBNe, Nat.reducePow, ↓reduceIte, nat_int, h, hj, eChg_s, eDef_s, callA_pure mode_17, pl, posI, n1, hcx, mkT_map, List.map_cons, List.map_nil, g1, g2, g3, he0, ne_eq, not_true, not_false_eq_true]
        rfl
      | ok m =>
        rw [hR] at hone hr
        simp only at hr
        obtain ⟨T', bs, hT', hb, hone⟩ := hone
        have hmo := one1_ok l[j] hdj ns hkn cs[i] m hgi hR
        obtain ⟨g, g1, g2, g3, hcx⟩ := callX_gr2 (f := 12) (cs := [vS cs[i].name, vS cs[i].value, vI cs[i].op, .fs (cs[i].kids.map eChg) false]) (by rw [live_12]; rfl) (by simp [AV.lts, AV.lt]) (by simp [idsOfs, idsOf, addNew]) (by simp [AV.rens, AV.ren, posOf]) (by simp [idsOfs, idsOf]) hb (fun n => by simp [AV.ren, AV.rens, backF]) hone
        have ze : ((0 : Int) = 0) = True := eq_true rfl
        by_cases hm : 256 < m.length
        · rw [if_pos hm] at hr
          rw [hr]
          have hm' : ((256 : Int) < ((m.length : Nat) : Int)) = True := eq_true (by omega)
          simp (maxSteps := 200000) (disch := first | (simp only [go_sem, Nat.reduceAdd, Nat.reduceSub, Nat.reduceMul, Nat.reduceLeDiff, Nat.reduceEqDiff, Nat.reduceLT, Nat.reduceBEq, Nat.reduceBNe, Nat.reducePow, ↓reduceIte]; done) | omega | (simp only [go_sem, Nat.reduceAdd, Nat.reduceSub, Nat.reduceMul, Nat.reduceLeDiff, Nat.reduceEqDiff, Nat.reduceLT, Nat.reduceBEq, Nat.reduceBNe, Nat.reducePow, ↓reduceIte] <;> omega) | fail) only [go_sem, Nat.reduceAdd, Nat.reduceSub, Nat.reduceMul, Nat.reduceLeDiff, Nat.reduceEqDiff, Nat.reduceLT, Nat.reduceBEq, Nat.reduceBNe, Nat.reducePow, ↓reduceIte, nat_int, h, hj, eChg_s, eDef_s, callA_pure mode_17, pl, posI, n1, hcx, mkT_map, List.map_cons, List.map_nil, g1, g2, g3, ze, hm', ne_eq, not_true, not_false_eq_true]
          rfl
        · rw [if_neg hm] at hr
          have hm' : ((256 : Int) < ((m.length : Nat) : Int)) = False := eq_false (by omega)
          simp (maxSteps := 200000) (disch := first | (simp only [go_sem, Nat.reduceAdd, Nat.reduceSub, Nat.reduceMul, Nat.reduceLeDiff, Nat.reduceEqDiff, Nat.reduceLT, Nat.reduceBEq, Nat.reduceBNe, Nat.reducePow, ↓reduceIte]; done) | omega | (simp only [go_sem, Nat.reduceAdd, Nat.reduceSub, Nat.reduceMul, Nat.reduceLeDiff, Nat.reduceEqDiff, Nat.reduceLT, Nat.reduceBEq, Nat.reduceBNe, Nat.reducePow, ↓reduceIte] <;> omega) | fail) only [go_sem, Nat.reduceAdd, Nat.reduceSub, Nat.reduceMul, Nat.reduceLeDiff, Nat.reduceEqDiff, Nat.reduceLT, Nat.reduceBEq, Nat.reduceBNe, Nat.reducePow, ↓reduceIte, nat_int, h, hj, eChg_s, eDef_s, callA_pure mode_17, pl, posI, n1, hcx, mkT_map, List.map_cons, List.map_nil, g1, g2, g3, ze, hm', hws, ne_eq, not_true, not_false_eq_true]
          exact ⟨(i + 1, m, T'), rfl, ⟨h, hr, hmo.1, by simp only; omega, hT' hT⟩, by simp only; omega⟩
end Go.Abs.SA
end
