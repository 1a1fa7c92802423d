/- YtgpadcipdbifkaaA13: a part of the interpreter by which the claim is shown, and of the walks: no conditions of its own: every theorem states its own. -/
import Derived.Test.YtgpadcipdbifkaaA12
section
set_option linter.unusedVariables false
set_option linter.unusedSimpArgs false
/-! A loop's head at which one array of the call's own is kept besides. -/
set_option linter.unusedVariables false
set_option linter.unusedSimpArgs false
namespace Go.Abs

mutual
theorem ren_lt' {n : Nat} {is : List Nat} : ∀ {x : AV}, x.lt n = true → x.ren (gcF n is) = x
  | .sl id off len full, h => by simp [AV.lt] at h; simp [AV.ren, gcF, h]
  | .ptr id off, h => by simp [AV.lt] at h; simp [AV.ren, gcF, h]
  | .eptr id j o, h => by simp [AV.lt] at h; simp [AV.ren, gcF, h]
  | .fn f caps, h => by simp only [AV.ren]; rw [rens_lt' (by simpa [AV.lt] using h)]
  | .agg cs, h => by simp only [AV.ren]; rw [rens_lt' (by simpa [AV.lt] using h)]
  | .tup vs, h => by simp only [AV.ren]; rw [rens_lt' (by simpa [AV.lt] using h)]
  | .junk, h => rfl
  | .v _, h => rfl
  | .fs _ _, h => rfl
  | .fp _, h => rfl
theorem rens_lt' {n : Nat} {is : List Nat} : ∀ {xs : List AV}, AV.lts n xs = true → AV.rens (gcF n is) xs = xs
  | [], h => rfl
  | x :: xs, h => by
    simp only [AV.lts, Bool.and_eq_true] at h
    simp only [AV.rens]
    rw [ren_lt' h.1, rens_lt' h.2]
end
theorem addNew_mem {p : Nat → Prop} : ∀ {l acc : List Nat}, (∀ i ∈ acc, p i) → (∀ i ∈ l, p i) → ∀ i ∈ addNew acc l, p i
  | [], acc, ha, hl => ha
  | x :: xs, acc, ha, hl => by
    simp only [addNew]
    split
    · exact addNew_mem ha fun i hi => hl i (by simp [hi])
    · refine addNew_mem (fun i hi => ?_) fun i hi => hl i (by simp [hi])
      simp at hi
      rcases hi with hi | rfl
      · exact ha i hi
      · exact hl _ (by simp)
theorem addNew_sub : ∀ {l acc : List Nat} {i : Nat}, i ∈ acc ∨ i ∈ l → i ∈ addNew acc l
  | [], acc, i, h => by simpa [addNew] using h
  | x :: xs, acc, i, h => by
    simp only [addNew]
    split
    · rename_i hx
      apply addNew_sub
      rcases h with h | h
      · exact .inl h
      · rcases List.mem_cons.1 h with rfl | h
        · exact .inl hx
        · exact .inr h
    · apply addNew_sub
      rcases h with h | h
      · exact .inl (by simp [h])
      · rcases List.mem_cons.1 h with rfl | h
        · exact .inl (by simp)
        · exact .inr h
theorem addNew_nodup : ∀ {l acc : List Nat}, acc.Nodup → (addNew acc l).Nodup
  | [], acc, h => h
  | x :: xs, acc, h => by
    simp only [addNew]
    split
    · exact addNew_nodup h
    · rename_i hx
      apply addNew_nodup
      rw [List.nodup_append]
      exact ⟨h, by simp, fun a ha b hb => by simp at hb; subst hb; exact fun e => hx (e ▸ ha)⟩
def stepF (h : List Blk) (l : List Nat) (i : Nat) : List Nat := match h[i]? with
      | some (.var cs) => addNew l (idsOfs cs)
      | _ => l
theorem reach_all {h : List Blk} {p : Nat → Prop} (hp : ∀ i, p i → ∀ cs, h[i]? = some (.var cs) → ∀ j ∈ idsOfs cs, p j) (e : Nat) : ∀ {k : Nat} {acc : List Nat}, acc.Nodup → (∀ i ∈ acc, p i) → e ∈ acc →
    (reach h k acc).Nodup ∧ (∀ i ∈ reach h k acc, p i) ∧ e ∈ reach h k acc
  | 0, acc, h1, h2, h3 => ⟨by simpa [reach] using h1, by simpa [reach] using h2, by simpa [reach] using h3⟩
  | k + 1, acc, h1, h2, h3 => by
    have hm : ∀ (is l : List Nat), (∀ i ∈ is, p i) → l.Nodup → (∀ i ∈ l, p i) → e ∈ l → (is.foldl (stepF h) l).Nodup ∧ (∀ i ∈ is.foldl (stepF h) l, p i) ∧ e ∈ is.foldl (stepF h) l := by
      intro is
      induction is with
      | nil => intro l _ a b c; exact ⟨a, b, c⟩
      | cons x xs ih =>
        intro l hx a b c
        rw [List.foldl_cons]
        have key : (stepF h l x).Nodup ∧ (∀ i ∈ stepF h l x, p i) ∧ e ∈ stepF h l x := by
          unfold stepF
          split
          · rename_i cs hcs
            exact ⟨addNew_nodup a, addNew_mem b (hp x (hx x (by simp)) cs hcs), addNew_sub (.inl c)⟩
          · exact ⟨a, b, c⟩
        exact ih _ (fun i hi => hx i (by simp [hi])) key.1 key.2.1 key.2.2
    have h4 := hm acc acc h2 h1 h2 h3
    simp only [reach]
    split
    · exact ⟨h1, h2, h3⟩
    · exact reach_all hp e h4.1 h4.2.1 h4.2.2
theorem filter_one {l : List Nat} {q : Nat → Bool} {e : Nat} (hn : l.Nodup) (he : e ∈ l) (hq : q e = true) (ho : ∀ i ∈ l, q i = true → i = e) : l.filter q = [e] := by
  induction l with
  | nil => simp at he
  | cons x xs ih =>
    rw [List.nodup_cons] at hn
    by_cases hx : x = e
    · subst hx
      rw [List.filter_cons, if_pos hq]
      congr 1
      rw [List.filter_eq_nil_iff]
      intro i hi hqi
      have := ho i (by simp [hi]) hqi
      subst this
      exact hn.1 hi
    · have hqx : q x = false := by
        cases h : q x with
        | false => rfl
        | true => exact absurd (ho x (by simp) h) hx
      rw [List.filter_cons, if_neg (by simp [hqx])]
      refine ih hn.2 ?_ (fun i hi => ho i (by simp [hi]))
      rcases List.mem_cons.1 he with he | he
      · exact absurd he.symm hx
      · exact he
theorem headIds_mem {h : List Blk} {i : Nat} {cs : List AV} (hi : h[i]? = some (.var cs)) : ∀ j ∈ idsOfs cs, j ∈ headIds h := by
  induction h generalizing i with
  | nil => simp at hi
  | cons b h ih =>
    intro j hj
    cases i with
    | zero => simp at hi; subst hi; simp [headIds, hj]
    | succ i =>
      have := ih (by simpa using hi) j hj
      cases b <;> simp [headIds, this]
/-- One array besides the first n blocks is wanted. -/
theorem gcK_one (e : Nat) {n m ty sz : Nat} {es : List (List AV)} {l : List (Nat × AV)} {h : List Blk} (h1 : ltE n l = true) (he : n ≤ e) (hb : h[e]? = some (.arr ty sz es)) (h2 : (headIds (h.take n)).all (fun i => decide (i < n) || decide (i = e)) = true) (h3 : (headIds (h.take n)).contains e = true) :
    gcK n (mkT m .junk l) h = some ⟨mkT m .junk l, (h.take n).map (Blk.ren (gcF n [e])) ++ [.arr ty sz es]⟩ := by
  have ht : AV.lts n (mkT m .junk l) = true := lts_all fun x hx => by
    simp only [mkT, List.mem_map] at hx
    obtain ⟨k, _, rfl⟩ := hx
    exact lk_lt rfl k h1
  have h2' : ∀ i ∈ headIds (h.take n), i < n ∨ i = e := fun i hi => by
    have := List.all_eq_true.1 h2 i hi
    simpa using this
  have h3' : e ∈ headIds (h.take n) := by simpa using h3
  have hacc : ∀ i ∈ idsOfs (mkT m .junk l) ++ headIds (h.take n), i < n ∨ i = e := by
    intro i hi
    rcases List.mem_append.1 hi with hi | hi
    · exact .inl (idsOfs_lt ht i hi)
    · exact h2' i hi
  have hp : ∀ i, (i < n ∨ i = e) → ∀ cs, h[i]? = some (.var cs) → ∀ j ∈ idsOfs cs, j < n ∨ j = e := by
    intro i hi cs hcs j hj
    rcases hi with hi | rfl
    · have : (h.take n)[i]? = some (.var cs) := by rw [List.getElem?_take, if_pos hi]; exact hcs
      exact h2' j (headIds_mem this j hj)
    · rw [hb] at hcs; cases hcs
  have hr := reach_all (k := 6) hp e (acc := addNew [] (idsOfs (mkT m .junk l) ++ headIds (h.take n))) (addNew_nodup List.nodup_nil) (addNew_mem (by simp) hacc) (addNew_sub (.inr (by simp [h3'])))
  have hf := filter_one (q := fun i => decide (n ≤ i)) hr.1 hr.2.2 (by simpa using he) (fun i hi hq => by
    rcases hr.2.1 i hi with h | h
    · simp at hq; omega
    · exact h)
  unfold gcK
  simp only [hf]
  rw [if_pos (by rfl), rens_lt' ht]
  simp only [List.map_append, List.map_cons, List.map_nil]
  rw [List.getD_eq_getElem?_getD, hb]
  rfl
theorem gcF_s (n : Nat) (is : List Nat) (i : Nat) : gcF n is i = if i < n then some i else (posOf i is).map (n + ·) := nr rfl

/-! A call that is handed one array, which it does not write. -/
mutual
theorem ren_id {f : Nat → Option Nat} (hf : ∀ i, f i = some i) : ∀ x : AV, x.ren f = x
  | .sl id off len full => by rw [AV.ren, hf]
  | .ptr id off => by rw [AV.ren, hf]
  | .eptr id i o => by rw [AV.ren, hf]
  | .fn g caps => by rw [AV.ren, rens_id hf caps]
  | .agg cs => by rw [AV.ren, rens_id hf cs]
  | .tup vs => by rw [AV.ren, rens_id hf vs]
  | .junk => by rw [AV.ren] <;> simp
  | .v x => by rw [AV.ren] <;> simp
  | .fs es b => by rw [AV.ren] <;> simp
  | .fp cs => by rw [AV.ren] <;> simp
theorem rens_id {f : Nat → Option Nat} (hf : ∀ i, f i = some i) : ∀ xs : List AV, AV.rens f xs = xs
  | [] => by rw [AV.rens]
  | x :: xs => by rw [AV.rens, ren_id hf x, rens_id hf xs]
end
theorem bren_id {f : Nat → Option Nat} (hf : ∀ i, f i = some i) (b : Blk) : b.ren f = b := by
  cases b with
  | var cs => simp [Blk.ren, rens_id hf]
  | dead => rfl
  | arr e sz es => rfl
theorem keepF_nil (i : Nat) : keepF [] i = some i := by simp [keepF]
theorem putBack_arr {h bs : List Blk} {id e sz : Nat} {es : List (List AV)} (hh : h[id]? = some (.arr e sz es)) : putBack h [id] (.arr e sz es :: bs) [] = h ++ bs.map (Blk.ren (backF h.length [id])) := by
  unfold putBack
  congr 1
  apply List.ext_getElem?
  intro i
  rw [List.getElem?_mapIdx]
  cases hi : h[i]? with
  | none => rfl
  | some b =>
    simp only [Option.map_some, posOf]
    by_cases he : id = i
    · subst he
      rw [hh] at hi
      cases hi
      simp [Blk.ren]
    · simp only [he, if_false, Option.map_none]
      rw [bren_id keepF_nil]
theorem callL_arr {X : Abs.X} {s : St} {k id e sz : Nat} {es : List (List AV)} {xs : List AV} {r : AV} {bs : List Blk} (hi : idsOfs xs = [id]) (hh : s.h[id]? = some (.arr e sz es))
    (hl : loudW X k (AV.rens (fun i => posOf i [id]) xs) [.arr e sz es] = some (r, .arr e sz es :: bs)) :
    callL (orW X) s k xs = some (.st (r.ren (backF s.h.length [id])) ⟨s.t, s.h ++ bs.map (Blk.ren (backF s.h.length [id]))⟩) := by
  have hlt := (List.getElem?_eq_some_iff.1 hh).1
  have hr : reach s.h 6 (addNew [] (idsOfs xs)) = [id] := by
    rw [hi]
    simp [addNew, reach, hh]
  have hd : s.h.getD id .dead = .arr e sz es := by rw [List.getD_eq_getElem?_getD, hh]; rfl
  have hbl : badL [id] [.arr e sz es] (.arr e sz es :: bs) = [] := by simp [badL, badB]
  unfold callL
  dsimp only
  rw [hr]
  have hc : dist [id] = true ∧ [id].all (fun i => decide (i < s.h.length)) = true := by simp [dist, hlt]
  rw [if_pos hc]
  have hm : ([id].map fun i => (s.h.getD i .dead).ren fun k => posOf k [id]) = [.arr e sz es] := by
    simp only [List.map_cons, List.map_nil, hd]; rfl
  simp only [hm]
  rw [show (orW X).loud k (AV.rens (fun k => posOf k [id]) xs) [.arr e sz es] = some (r, .arr e sz es :: bs) from hl]
  dsimp only
  rw [hbl, putBack_arr hh, rens_id keepF_nil]

end Go.Abs
end

section
set_option linter.unusedVariables false
set_option linter.unusedSimpArgs false
set_option maxRecDepth 100000
set_option maxHeartbeats 4000000
set_option linter.unusedSimpArgs false
set_option linter.unusedVariables false
namespace Go.Abs.SA
open Go.Proofs

/-! Marks. -/
inductive Mk where
  | mk (on all : Bool) (kids : List Mk)
  deriving Inhabited
def Mk.on : Mk → Bool | .mk o _ _ => o
def Mk.all : Mk → Bool | .mk _ a _ => a
def Mk.kids : Mk → List Mk | .mk _ _ k => k
mutual
def eMk : Mk → List AV
  | .mk o a k => [vB o, vB a, .fs (eMks k) false]
def eMks : List Mk → List (List AV)
  | [] => []
  | m :: r => eMk m :: eMks r
end
theorem eMks_map : ∀ (l : List Mk), eMks l = l.map eMk
  | [] => by rw [eMks]; rfl
  | m :: r => by rw [eMks, eMks_map r]; rfl
theorem eMk_s (m : Mk) : eMk m = [vB m.on, vB m.all, .fs (m.kids.map eMk) false] := by cases m; rw [eMk, eMks_map]; rfl
theorem eMk_len (m : Mk) : (eMk m).length = 3 := by rw [eMk_s]; rfl
attribute [go_sem] eMk_len
instance : EL eMk 3 := ⟨eMk_len⟩
abbrev lM (l : List Mk) : AV := .fs (l.map eMk) false
abbrev aMk (m : Mk) : AV := .agg [vB m.on, vB m.all, lM m.kids]
abbrev offM : Mk := .mk false false []
theorem snoc_M (l : List Mk) (a b : Bool) (k : List Mk) : l.map eMk ++ [[vB a, vB b, .fs (k.map eMk) false]] = (l ++ [Mk.mk a b k]).map eMk := by
  simp [eMk_s, Mk.on, Mk.all, Mk.kids]
theorem mk_M (m : Mk) : Mk.mk m.on m.all m.kids = m := by cases m; rfl
theorem mk_on (o a : Bool) (k : List Mk) : (Mk.mk o a k).on = o := nr rfl
theorem mk_all (o a : Bool) (k : List Mk) : (Mk.mk o a k).all = a := nr rfl
theorem mk_kids (o a : Bool) (k : List Mk) : (Mk.mk o a k).kids = k := nr rfl
mutual
/-- What either chooses. -/
def bothM : Mk → Mk → Mk
  | .mk o a k, m => .mk (o || m.on) (a || m.all) (bothL k m.kids)
def bothL : List Mk → List Mk → List Mk
  | [], s => s
  | x :: r, [] => x :: r
  | x :: r, y :: s => bothM x y :: bothL r s
end
theorem bothM_s (x y : Mk) : bothM x y = .mk (x.on || y.on) (x.all || y.all) (bothL x.kids y.kids) := by cases x; rw [bothM]; rfl
theorem bothL_nil (k : List Mk) : bothL k [] = k := by cases k <;> rw [bothL]
theorem bothM_off (x : Mk) : bothM x offM = x := by cases x; simp [bothM_s, Mk.on, Mk.all, Mk.kids, bothL_nil]
theorem off_bothM (y : Mk) : bothM offM y = y := by cases y; simp [bothM_s, Mk.on, Mk.all, Mk.kids, bothL]
theorem bothL_len : ∀ (k s : List Mk), (bothL k s).length = max k.length s.length
  | [], s => by rw [bothL]; simp
  | x :: r, [] => by rw [bothL]; simp
  | x :: r, y :: s => by rw [bothL, List.length_cons, bothL_len r s]; simp
theorem bothL_get : ∀ (k s : List Mk) (i : Nat) (h : i < (bothL k s).length), (bothL k s)[i] = bothM (k.getD i offM) (s.getD i offM)
  | [], s, i, h => by
    simp only [bothL] at h ⊢
    rw [List.getD_nil, off_bothM, List.getD_eq_getElem?_getD, List.getElem?_eq_getElem h]; rfl
  | x :: r, [], i, h => by
    simp only [bothL] at h ⊢
    rw [List.getD_nil, bothM_off, List.getD_eq_getElem?_getD, List.getElem?_eq_getElem h]; rfl
  | x :: r, y :: s, 0, h => by simp [bothL]
  | x :: r, y :: s, i + 1, h => by
    simp only [bothL, List.getElem_cons_succ]
    exact bothL_get r s i (by simpa [bothL] using h)
mutual
def cntM : Mk → Nat
  | .mk _ _ k => 1 + cntMs k
def cntMs : List Mk → Nat
  | [] => 0
  | m :: r => cntM m + cntMs r
end
theorem cntM_s (m : Mk) : cntM m = 1 + cntMs m.kids := by cases m; rw [cntM]; rfl
theorem cntM_mem : ∀ {l : List Mk} {m : Mk}, m ∈ l → cntM m ≤ cntMs l
  | x :: r, m, h => by
    rw [cntMs]
    rcases List.mem_cons.1 h with rfl | h
    · omega
    · have := cntM_mem h; omega
theorem len_cntMs : ∀ (l : List Mk), l.length ≤ cntMs l
  | [] => by simp [cntMs]
  | m :: r => by have := len_cntMs r; rw [cntMs, cntM_s, List.length_cons]; omega
end Go.Abs.SA
end

section
set_option linter.unusedVariables false
set_option linter.unusedSimpArgs false
set_option maxRecDepth 100000
set_option maxHeartbeats 4000000
set_option linter.unusedSimpArgs false
set_option linter.unusedVariables false
namespace Go.Abs.SA
open Go.Proofs

theorem both_spec : ∀ (n : Nat) (x y : Mk), cntM x + cntM y < n → n ≤ 10000000 → pureW XX 65 [aMk x, aMk y] = some (aMk (bothM x y)) := by
  intro n
  induction n with
  | zero => intro x y h; omega
  | succ n ih =>
    intro x y hc hn
    rw [cntM_s, cntM_s] at hc
    have l1 := len_cntMs x.kids
    have l2 := len_cntMs y.kids
    rw [bothM_s]
    have hlen := bothL_len x.kids y.kids
    have hget := bothL_get x.kids y.kids
    refine pureW_in 67 Try.func65 Try.ntmps65 (by simp) (rfl : Try.f65.body = some _) fns_65 ?_
    generalize bothL x.kids y.kids = J at *
    cases ho : x.on with
    | true =>
      cases ha : x.all with
      | true =>
        rw [Bool.true_or, Bool.true_or]
        simp (maxSteps := 200000) (disch := first | (simp only [go_sem, Nat.reduceAdd, Nat.reduceSub, Nat.reduceMul, Nat.reduceLeDiff, Nat.reduceEqDiff, Nat.reduceLT, Nat.reduceBEq, Nat.reduceBNe, Nat.reducePow, ↓reduceIte]; done) | omega | (simp only [go_sem, Nat.reduceAdd, Nat.reduceSub, Nat.reduceMul, Nat.reduceLeDiff, Nat.reduceEqDiff, Nat.reduceLT, Nat.reduceBEq, Nat.reduceBNe, Nat.reducePow, ↓reduceIte] <;> omega) | fail) only [go_sem, Nat.reduceAdd, Nat.reduceSub, Nat.reduceMul, Nat.reduceLeDiff, Nat.reduceEqDiff, Nat.reduceLT, Nat.reduceBEq, Nat.reduceBNe, Nat.reducePow, ↓reduceIte, ho, ha]
        refine WP_loopR 3 4 (fun (i : Nat) => S_65_3 (.ptr 0 0) (.ptr 1 0) (.ptr 2 0) (.ptr 3 0) (vI i) ([.var [vB true, vB true, lM x.kids], .var [vB y.on, vB y.all, lM y.kids], .var [vB false, vB false, .fs [] true]] ++ (if i = 0 then [.var [vB true, vB true, .fs [] true]] else [.var [vB true, vB true, .sl 4 0 i false], .arr 100 3 ((J.take i).map eMk)]))) (fun i => J.length - i) (fun i => i ≤ J.length) 0 rfl rfl ?_ ?_ ?_
        · simp (maxSteps := 200000) (disch := first | (simp only [go_sem, Nat.reduceAdd, Nat.reduceSub, Nat.reduceMul, Nat.reduceLeDiff, Nat.reduceEqDiff, Nat.reduceLT, Nat.reduceBEq, Nat.reduceBNe, Nat.reducePow, ↓reduceIte]; done) | omega | (simp only [go_sem, Nat.reduceAdd, Nat.reduceSub, Nat.reduceMul, Nat.reduceLeDiff, Nat.reduceEqDiff, Nat.reduceLT, Nat.reduceBEq, Nat.reduceBNe, Nat.reducePow, ↓reduceIte] <;> omega) | fail) only [go_sem, Nat.reduceAdd, Nat.reduceSub, Nat.reduceMul, Nat.reduceLeDiff, Nat.reduceEqDiff, Nat.reduceLT, Nat.reduceBEq, Nat.reduceBNe, Nat.reducePow, ↓reduceIte]; rfl
        · simp
        · intro i hi
          have hJJ : ∀ h : i < J.length, J.take (i + 1) = J.take i ++ [Mk.mk J[i].on J[i].all J[i].kids] := fun h => by rw [mk_M, List.take_succ_eq_append_getElem h]
          have hws : IntKind.i64.wrap ((i : Int) + 1) = ((i + 1 : Nat) : Int) := by rw [IntWalk.i64_in _ (by omega)]; rfl
          by_cases h1 : i < x.kids.length
          · by_cases h2 : i < y.kids.length
            · skip
              have hiJ : i < J.length := by omega
              have hJJ := hJJ hiJ
              have hg := hget i hiJ
              rw [List.getD_eq_getElem?_getD, List.getD_eq_getElem?_getD, List.getElem?_eq_getElem h1, List.getElem?_eq_getElem h2] at hg
              simp only [Option.getD_some, Option.getD_none] at hg
              have hc1 : cntM x.kids[i] ≤ cntMs x.kids + 1 := by have := cntM_mem (List.getElem_mem h1); omega
              have hc2 : cntM y.kids[i] ≤ cntMs y.kids + 1 := by have := cntM_mem (List.getElem_mem h2); omega
              have hb := ih x.kids[i] y.kids[i] (by have := cntM_mem (List.getElem_mem h1); have := cntM_mem (List.getElem_mem h2); omega) (by omega)
              rw [← hg] at hb
              generalize J[i] = jj at *
              cases i with
              | zero =>
                simp (maxSteps := 200000) (disch := first | (simp only [go_sem, Nat.reduceAdd, Nat.reduceSub, Nat.reduceMul, Nat.reduceLeDiff, Nat.reduceEqDiff, Nat.reduceLT, Nat.reduceBEq, Nat.reduceBNe, Nat.reducePow, ↓reduceIte]; done) | omega | (simp only [go_sem, Nat.reduceAdd, Nat.reduceSub, Nat.reduceMul, Nat.reduceLeDiff, Nat.reduceEqDiff, Nat.reduceLT, Nat.reduceBEq, Nat.reduceBNe, Nat.reducePow, ↓reduceIte] <;> omega) | fail) only [go_sem, Nat.reduceAdd, Nat.reduceSub, Nat.reduceMul, Nat.reduceLeDiff, Nat.reduceEqDiff, Nat.reduceLT, Nat.reduceBEq, Nat.reduceBNe, Nat.reducePow, ↓reduceIte, if_pos, ho, ha, nat_int, h1, h2, eMk_s, callA_data mode_65, hb, hws, true_or, or_true]
                refine ⟨1, ?_, by omega, by omega⟩
                rw [gcK_one 6 (by simp only [go_sem, Nat.reduceAdd, Nat.reduceSub, Nat.reduceMul, Nat.reduceLeDiff, Nat.reduceEqDiff, Nat.reduceLT, Nat.reduceBEq, Nat.reduceBNe, Nat.reducePow, ↓reduceIte]) (by omega) rfl (by simp [headIds, idsOfs, idsOf]) (by simp [headIds, idsOfs, idsOf])]
                rw [if_neg (by omega), hJJ]
                simp [bren_var, rens_cons, rens_nil, ren_v, ren_fs, ren_sl, gcF_s, posOf, renSl_some, eMk_s, Mk.on, Mk.all, Mk.kids]
              | succ i =>
                have hsw : i + 1 ≠ 0 := by omega
                have htl : (J.take (i + 1)).length = i + 1 := by simp; omega
                have hcast : ((i + 1 : Nat) : Int) = (i : Int) + 1 := by omega
                rw [if_neg hsw]
                generalize hJt : J.take (i + 1) = Jt at *
                simp (maxSteps := 200000) (disch := first | (simp only [go_sem, Nat.reduceAdd, Nat.reduceSub, Nat.reduceMul, Nat.reduceLeDiff, Nat.reduceEqDiff, Nat.reduceLT, Nat.reduceBEq, Nat.reduceBNe, Nat.reducePow, ↓reduceIte]; done) | omega | (simp only [go_sem, Nat.reduceAdd, Nat.reduceSub, Nat.reduceMul, Nat.reduceLeDiff, Nat.reduceEqDiff, Nat.reduceLT, Nat.reduceBEq, Nat.reduceBNe, Nat.reducePow, ↓reduceIte] <;> omega) | fail) only [go_sem, Nat.reduceAdd, Nat.reduceSub, Nat.reduceMul, Nat.reduceLeDiff, Nat.reduceEqDiff, Nat.reduceLT, Nat.reduceBEq, Nat.reduceBNe, Nat.reducePow, ↓reduceIte, ho, ha, nat_int, h1, h2, eMk_s, callA_data mode_65, hb, hws]
                refine ⟨i + 1 + 1, ?_, by omega, by omega⟩
                rw [gcK_one 4 (by simp only [go_sem, Nat.reduceAdd, Nat.reduceSub, Nat.reduceMul, Nat.reduceLeDiff, Nat.reduceEqDiff, Nat.reduceLT, Nat.reduceBEq, Nat.reduceBNe, Nat.reducePow, ↓reduceIte]) (by omega) rfl (by simp [headIds, idsOfs, idsOf]) (by simp [headIds, idsOfs, idsOf])]
                rw [if_neg (by omega), hJJ]
                simp [bren_var, rens_cons, rens_nil, ren_v, ren_fs, ren_sl, gcF_s, posOf, renSl_some, eMk_s, Mk.on, Mk.all, Mk.kids]
            · skip
              have hiJ : i < J.length := by omega
              have hJJ := hJJ hiJ
              have hg := hget i hiJ
              rw [List.getD_eq_getElem?_getD, List.getD_eq_getElem?_getD, List.getElem?_eq_getElem h1, List.getElem?_eq_none (by omega)] at hg
              simp only [Option.getD_some, Option.getD_none] at hg
              have hc1 : cntM x.kids[i] ≤ cntMs x.kids + 1 := by have := cntM_mem (List.getElem_mem h1); omega
              have hc2 : cntM offM ≤ cntMs y.kids + 1 := by simp [cntM, cntMs]
              have hb := ih x.kids[i] offM (by have := cntM_mem (List.getElem_mem h1); have : cntM offM = 1 := rfl; omega) (by omega)
              rw [← hg] at hb
              rw [show aMk offM = .agg [vB false, vB false, .fs [] false] from rfl] at hb
              generalize J[i] = jj at *
              cases i with
              | zero =>
                simp (maxSteps := 200000) (disch := first | (simp only [go_sem, Nat.reduceAdd, Nat.reduceSub, Nat.reduceMul, Nat.reduceLeDiff, Nat.reduceEqDiff, Nat.reduceLT, Nat.reduceBEq, Nat.reduceBNe, Nat.reducePow, ↓reduceIte]; done) | omega | (simp only [go_sem, Nat.reduceAdd, Nat.reduceSub, Nat.reduceMul, Nat.reduceLeDiff, Nat.reduceEqDiff, Nat.reduceLT, Nat.reduceBEq, Nat.reduceBNe, Nat.reducePow, ↓reduceIte] <;> omega) | fail) only [go_sem, Nat.reduceAdd, Nat.reduceSub, Nat.reduceMul, Nat.reduceLeDiff, Nat.reduceEqDiff, Nat.reduceLT, Nat.reduceBEq, Nat.reduceBNe, Nat.reducePow, ↓reduceIte, if_pos, ho, ha, nat_int, h1, h2, eMk_s, callA_data mode_65, hb, hws, true_or, or_true]
                refine ⟨1, ?_, by omega, by omega⟩
                rw [gcK_one 6 (by simp only [go_sem, Nat.reduceAdd, Nat.reduceSub, Nat.reduceMul, Nat.reduceLeDiff, Nat.reduceEqDiff, Nat.reduceLT, Nat.reduceBEq, Nat.reduceBNe, Nat.reducePow, ↓reduceIte]) (by omega) rfl (by simp [headIds, idsOfs, idsOf]) (by simp [headIds, idsOfs, idsOf])]
                rw [if_neg (by omega), hJJ]
                simp [bren_var, rens_cons, rens_nil, ren_v, ren_fs, ren_sl, gcF_s, posOf, renSl_some, eMk_s, Mk.on, Mk.all, Mk.kids]
              | succ i =>
                have hsw : i + 1 ≠ 0 := by omega
                have htl : (J.take (i + 1)).length = i + 1 := by simp; omega
                have hcast : ((i + 1 : Nat) : Int) = (i : Int) + 1 := by omega
                rw [if_neg hsw]
                generalize hJt : J.take (i + 1) = Jt at *
                simp (maxSteps := 200000) (disch := first | (simp only [go_sem, Nat.reduceAdd, Nat.reduceSub, Nat.reduceMul, Nat.reduceLeDiff, Nat.reduceEqDiff, Nat.reduceLT, Nat.reduceBEq, Nat.reduceBNe, Nat.reducePow, ↓reduceIte]; done) | omega | (simp only [go_sem, Nat.reduceAdd, Nat.reduceSub, Nat.reduceMul, Nat.reduceLeDiff, Nat.reduceEqDiff, Nat.reduceLT, Nat.reduceBEq, Nat.reduceBNe, Nat.reducePow, ↓reduceIte] <;> omega) | fail) only [go_sem, Nat.reduceAdd, Nat.reduceSub, Nat.reduceMul, Nat.reduceLeDiff, Nat.reduceEqDiff, Nat.reduceLT, Nat.reduceBEq, Nat.reduceBNe, Nat.reducePow, ↓reduceIte, ho, ha, nat_int, h1, h2, eMk_s, callA_data mode_65, hb, hws]
                refine ⟨i + 1 + 1, ?_, by omega, by omega⟩
                rw [gcK_one 4 (by simp only [go_sem, Nat.reduceAdd, Nat.reduceSub, Nat.reduceMul, Nat.reduceLeDiff, Nat.reduceEqDiff, Nat.reduceLT, Nat.reduceBEq, Nat.reduceBNe, Nat.reducePow, ↓reduceIte]) (by omega) rfl (by simp [headIds, idsOfs, idsOf]) (by simp [headIds, idsOfs, idsOf])]
                rw [if_neg (by omega), hJJ]
                simp [bren_var, rens_cons, rens_nil, ren_v, ren_fs, ren_sl, gcF_s, posOf, renSl_some, eMk_s, Mk.on, Mk.all, Mk.kids]
          · by_cases h2 : i < y.kids.length
            · skip
              have hiJ : i < J.length := by omega
              have hJJ := hJJ hiJ
              have hg := hget i hiJ
              rw [List.getD_eq_getElem?_getD, List.getD_eq_getElem?_getD, List.getElem?_eq_none (by omega), List.getElem?_eq_getElem h2] at hg
              simp only [Option.getD_some, Option.getD_none] at hg
              have hc1 : cntM offM ≤ cntMs x.kids + 1 := by simp [cntM, cntMs]
              have hc2 : cntM y.kids[i] ≤ cntMs y.kids + 1 := by have := cntM_mem (List.getElem_mem h2); omega
              have hb := ih offM y.kids[i] (by have : cntM offM = 1 := rfl; have := cntM_mem (List.getElem_mem h2); omega) (by omega)
              rw [← hg] at hb
              rw [show aMk offM = .agg [vB false, vB false, .fs [] false] from rfl] at hb
              generalize J[i] = jj at *
              cases i with
              | zero =>
                simp (maxSteps := 200000) (disch := first | (simp only [go_sem, Nat.reduceAdd, Nat.reduceSub, Nat.reduceMul, Nat.reduceLeDiff, Nat.reduceEqDiff, Nat.reduceLT, Nat.reduceBEq, Nat.reduceBNe, Nat.reducePow, ↓reduceIte]; done) | omega | (simp only [go_sem, Nat.reduceAdd, Nat.reduceSub, Nat.reduceMul, Nat.reduceLeDiff, Nat.reduceEqDiff, Nat.reduceLT, Nat.reduceBEq, Nat.reduceBNe, Nat.reducePow, ↓reduceIte] <;> omega) | fail) only [go_sem, Nat.reduceAdd, Nat.reduceSub, Nat.reduceMul, Nat.reduceLeDiff, Nat.reduceEqDiff, Nat.reduceLT, Nat.reduceBEq, Nat.reduceBNe, Nat.reducePow, ↓reduceIte, if_pos, ho, ha, nat_int, h1, h2, eMk_s, callA_data mode_65, hb, hws, true_or, or_true]
                refine ⟨1, ?_, by omega, by omega⟩
                rw [gcK_one 6 (by simp only [go_sem, Nat.reduceAdd, Nat.reduceSub, Nat.reduceMul, Nat.reduceLeDiff, Nat.reduceEqDiff, Nat.reduceLT, Nat.reduceBEq, Nat.reduceBNe, Nat.reducePow, ↓reduceIte]) (by omega) rfl (by simp [headIds, idsOfs, idsOf]) (by simp [headIds, idsOfs, idsOf])]
                rw [if_neg (by omega), hJJ]
                simp [bren_var, rens_cons, rens_nil, ren_v, ren_fs, ren_sl, gcF_s, posOf, renSl_some, eMk_s, Mk.on, Mk.all, Mk.kids]
              | succ i =>
                have hsw : i + 1 ≠ 0 := by omega
                have htl : (J.take (i + 1)).length = i + 1 := by simp; omega
                have hcast : ((i + 1 : Nat) : Int) = (i : Int) + 1 := by omega
                rw [if_neg hsw]
                generalize hJt : J.take (i + 1) = Jt at *
                simp (maxSteps := 200000) (disch := first | (simp only [go_sem, Nat.reduceAdd, Nat.reduceSub, Nat.reduceMul, Nat.reduceLeDiff, Nat.reduceEqDiff, Nat.reduceLT, Nat.reduceBEq, Nat.reduceBNe, Nat.reducePow, ↓reduceIte]; done) | omega | (simp only [go_sem, Nat.reduceAdd, Nat.reduceSub, Nat.reduceMul, Nat.reduceLeDiff, Nat.reduceEqDiff, Nat.reduceLT, Nat.reduceBEq, Nat.reduceBNe, Nat.reducePow, ↓reduceIte] <;> omega) | fail) only [go_sem, Nat.reduceAdd, Nat.reduceSub, Nat.reduceMul, Nat.reduceLeDiff, Nat.reduceEqDiff, Nat.reduceLT, Nat.reduceBEq, Nat.reduceBNe, Nat.reducePow, ↓reduceIte, ho, ha, nat_int, h1, h2, eMk_s, callA_data mode_65, hb, hws]
                refine ⟨i + 1 + 1, ?_, by omega, by omega⟩
                rw [gcK_one 4 (by simp only [go_sem, Nat.reduceAdd, Nat.reduceSub, Nat.reduceMul, Nat.reduceLeDiff, Nat.reduceEqDiff, Nat.reduceLT, Nat.reduceBEq, Nat.reduceBNe, Nat.reducePow, ↓reduceIte]) (by omega) rfl (by simp [headIds, idsOfs, idsOf]) (by simp [headIds, idsOfs, idsOf])]
                rw [if_neg (by omega), hJJ]
                simp [bren_var, rens_cons, rens_nil, ren_v, ren_fs, ren_sl, gcF_s, posOf, renSl_some, eMk_s, Mk.on, Mk.all, Mk.kids]
            · skip
              have hiJ : i = J.length := by omega
              cases i with
              | zero =>
                have hJ0 : J = [] := List.eq_nil_iff_length_eq_zero.2 (by omega)
                subst hJ0
                simp (maxSteps := 200000) (disch := first | (simp only [go_sem, Nat.reduceAdd, Nat.reduceSub, Nat.reduceMul, Nat.reduceLeDiff, Nat.reduceEqDiff, Nat.reduceLT, Nat.reduceBEq, Nat.reduceBNe, Nat.reducePow, ↓reduceIte]; done) | omega | (simp only [go_sem, Nat.reduceAdd, Nat.reduceSub, Nat.reduceMul, Nat.reduceLeDiff, Nat.reduceEqDiff, Nat.reduceLT, Nat.reduceBEq, Nat.reduceBNe, Nat.reducePow, ↓reduceIte] <;> omega) | fail) only [go_sem, Nat.reduceAdd, Nat.reduceSub, Nat.reduceMul, Nat.reduceLeDiff, Nat.reduceEqDiff, Nat.reduceLT, Nat.reduceBEq, Nat.reduceBNe, Nat.reducePow, ↓reduceIte, if_pos, ho, ha, nat_int, h1, h2, mk_on, mk_all, mk_kids]
                rfl
              | succ i =>
                have hsw : i + 1 ≠ 0 := by omega
                rw [if_neg hsw, List.take_of_length_le (by omega)]
                simp (maxSteps := 200000) (disch := first | (simp only [go_sem, Nat.reduceAdd, Nat.reduceSub, Nat.reduceMul, Nat.reduceLeDiff, Nat.reduceEqDiff, Nat.reduceLT, Nat.reduceBEq, Nat.reduceBNe, Nat.reducePow, ↓reduceIte]; done) | omega | (simp only [go_sem, Nat.reduceAdd, Nat.reduceSub, Nat.reduceMul, Nat.reduceLeDiff, Nat.reduceEqDiff, Nat.reduceLT, Nat.reduceBEq, Nat.reduceBNe, Nat.reducePow, ↓reduceIte] <;> omega) | fail) only [go_sem, Nat.reduceAdd, Nat.reduceSub, Nat.reduceMul, Nat.reduceLeDiff, Nat.reduceEqDiff, Nat.reduceLT, Nat.reduceBEq, Nat.reduceBNe, Nat.reducePow, ↓reduceIte, ho, ha, nat_int, h1, h2, mk_on, mk_all, mk_kids]
                rfl
      | false =>
        rw [Bool.true_or, Bool.false_or]
        simp (maxSteps := 200000) (disch := first | (simp only [go_sem, Nat.reduceAdd, Nat.reduceSub, Nat.reduceMul, Nat.reduceLeDiff, Nat.reduceEqDiff, Nat.reduceLT, Nat.reduceBEq, Nat.reduceBNe, Nat.reducePow, ↓reduceIte]; done) | omega | (simp only [go_sem, Nat.reduceAdd, Nat.reduceSub, Nat.reduceMul, Nat.reduceLeDiff, Nat.reduceEqDiff, Nat.reduceLT, Nat.reduceBEq, Nat.reduceBNe, Nat.reducePow, ↓reduceIte] <;> omega) | fail) only [go_sem, Nat.reduceAdd, Nat.reduceSub, Nat.reduceMul, Nat.reduceLeDiff, Nat.reduceEqDiff, Nat.reduceLT, Nat.reduceBEq, Nat.reduceBNe, Nat.reducePow, ↓reduceIte, ho, ha]
        refine WP_loopR 3 4 (fun (i : Nat) => S_65_3 (.ptr 0 0) (.ptr 1 0) (.ptr 2 0) (.ptr 3 0) (vI i) ([.var [vB true, vB false, lM x.kids], .var [vB y.on, vB y.all, lM y.kids], .var [vB false, vB false, .fs [] true]] ++ (if i = 0 then [.var [vB true, vB y.all, .fs [] true]] else [.var [vB true, vB y.all, .sl 4 0 i false], .arr 100 3 ((J.take i).map eMk)]))) (fun i => J.length - i) (fun i => i ≤ J.length) 0 rfl rfl ?_ ?_ ?_
        · simp (maxSteps := 200000) (disch := first | (simp only [go_sem, Nat.reduceAdd, Nat.reduceSub, Nat.reduceMul, Nat.reduceLeDiff, Nat.reduceEqDiff, Nat.reduceLT, Nat.reduceBEq, Nat.reduceBNe, Nat.reducePow, ↓reduceIte]; done) | omega | (simp only [go_sem, Nat.reduceAdd, Nat.reduceSub, Nat.reduceMul, Nat.reduceLeDiff, Nat.reduceEqDiff, Nat.reduceLT, Nat.reduceBEq, Nat.reduceBNe, Nat.reducePow, ↓reduceIte] <;> omega) | fail) only [go_sem, Nat.reduceAdd, Nat.reduceSub, Nat.reduceMul, Nat.reduceLeDiff, Nat.reduceEqDiff, Nat.reduceLT, Nat.reduceBEq, Nat.reduceBNe, Nat.reducePow, ↓reduceIte]; rfl
        · simp
        · intro i hi
          have hJJ : ∀ h : i < J.length, J.take (i + 1) = J.take i ++ [Mk.mk J[i].on J[i].all J[i].kids] := fun h => by rw [mk_M, List.take_succ_eq_append_getElem h]
          have hws : IntKind.i64.wrap ((i : Int) + 1) = ((i + 1 : Nat) : Int) := by rw [IntWalk.i64_in _ (by omega)]; rfl
          by_cases h1 : i < x.kids.length
          · by_cases h2 : i < y.kids.length
            · skip
              have hiJ : i < J.length := by omega
              have hJJ := hJJ hiJ
              have hg := hget i hiJ
              rw [List.getD_eq_getElem?_getD, List.getD_eq_getElem?_getD, List.getElem?_eq_getElem h1, List.getElem?_eq_getElem h2] at hg
              simp only [Option.getD_some, Option.getD_none] at hg
              have hc1 : cntM x.kids[i] ≤ cntMs x.kids + 1 := by have := cntM_mem (List.getElem_mem h1); omega
              have hc2 : cntM y.kids[i] ≤ cntMs y.kids + 1 := by have := cntM_mem (List.getElem_mem h2); omega
              have hb := ih x.kids[i] y.kids[i] (by have := cntM_mem (List.getElem_mem h1); have := cntM_mem (List.getElem_mem h2); omega) (by omega)
              rw [← hg] at hb
              generalize J[i] = jj at *
              cases i with
              | zero =>
                simp (maxSteps := 200000) (disch := first | (simp only [go_sem, Nat.reduceAdd, Nat.reduceSub, Nat.reduceMul, Nat.reduceLeDiff, Nat.reduceEqDiff, Nat.reduceLT, Nat.reduceBEq, Nat.reduceBNe, Nat.reducePow, ↓reduceIte]; done) | omega | (simp only [go_sem, Nat.reduceAdd, Nat.reduceSub, Nat.reduceMul, Nat.reduceLeDiff, Nat.reduceEqDiff, Nat.reduceLT, Nat.reduceBEq, Nat.reduceBNe, Nat.reducePow, ↓reduceIte] <;> omega) | fail) only [go_sem, Nat.reduceAdd, Nat.reduceSub, Nat.reduceMul, Nat.reduceLeDiff, Nat.reduceEqDiff, Nat.reduceLT, Nat.reduceBEq, Nat.reduceBNe, Nat.reducePow, ↓reduceIte, if_pos, ho, ha, nat_int, h1, h2, eMk_s, callA_data mode_65, hb, hws, true_or, or_true]
                refine ⟨1, ?_, by omega, by omega⟩
                rw [gcK_one 6 (by simp only [go_sem, Nat.reduceAdd, Nat.reduceSub, Nat.reduceMul, Nat.reduceLeDiff, Nat.reduceEqDiff, Nat.reduceLT, Nat.reduceBEq, Nat.reduceBNe, Nat.reducePow, ↓reduceIte]) (by omega) rfl (by simp [headIds, idsOfs, idsOf]) (by simp [headIds, idsOfs, idsOf])]
                rw [if_neg (by omega), hJJ]
                simp [bren_var, rens_cons, rens_nil, ren_v, ren_fs, ren_sl, gcF_s, posOf, renSl_some, eMk_s, Mk.on, Mk.all, Mk.kids]
              | succ i =>
                have hsw : i + 1 ≠ 0 := by omega
                have htl : (J.take (i + 1)).length = i + 1 := by simp; omega
                have hcast : ((i + 1 : Nat) : Int) = (i : Int) + 1 := by omega
                rw [if_neg hsw]
                generalize hJt : J.take (i + 1) = Jt at *
                simp (maxSteps := 200000) (disch := first | (simp only [go_sem, Nat.reduceAdd, Nat.reduceSub, Nat.reduceMul, Nat.reduceLeDiff, Nat.reduceEqDiff, Nat.reduceLT, Nat.reduceBEq, Nat.reduceBNe, Nat.reducePow, ↓reduceIte]; done) | omega | (simp only [go_sem, Nat.reduceAdd, Nat.reduceSub, Nat.reduceMul, Nat.reduceLeDiff, Nat.reduceEqDiff, Nat.reduceLT, Nat.reduceBEq, Nat.reduceBNe, Nat.reducePow, ↓reduceIte] <;> omega) | fail) only [go_sem, Nat.reduceAdd, Nat.reduceSub, Nat.reduceMul, Nat.reduceLeDiff, Nat.reduceEqDiff, Nat.reduceLT, Nat.reduceBEq, Nat.reduceBNe, Nat.reducePow, ↓reduceIte, ho, ha, nat_int, h1, h2, eMk_s, callA_data mode_65, hb, hws]
                refine ⟨i + 1 + 1, ?_, by omega, by omega⟩
                rw [gcK_one 4 (by simp only [go_sem, Nat.reduceAdd, Nat.reduceSub, Nat.reduceMul, Nat.reduceLeDiff, Nat.reduceEqDiff, Nat.reduceLT, Nat.reduceBEq, Nat.reduceBNe, Nat.reducePow, ↓reduceIte]) (by omega) rfl (by simp [headIds, idsOfs, idsOf]) (by simp [headIds, idsOfs, idsOf])]
                rw [if_neg (by omega), hJJ]
                simp [bren_var, rens_cons, rens_nil, ren_v, ren_fs, ren_sl, gcF_s, posOf, renSl_some, eMk_s, Mk.on, Mk.all, Mk.kids]
            · skip
              have hiJ : i < J.length := by omega
              have hJJ := hJJ hiJ
              have hg := hget i hiJ
              rw [List.getD_eq_getElem?_getD, List.getD_eq_getElem?_getD, List.getElem?_eq_getElem h1, List.getElem?_eq_none (by omega)] at hg
              simp only [Option.getD_some, Option.getD_none] at hg
              have hc1 : cntM x.kids[i] ≤ cntMs x.kids + 1 := by have := cntM_mem (List.getElem_mem h1); omega
              have hc2 : cntM offM ≤ cntMs y.kids + 1 := by simp [cntM, cntMs]
              have hb := ih x.kids[i] offM (by have := cntM_mem (List.getElem_mem h1); have : cntM offM = 1 := rfl; omega) (by omega)
              rw [← hg] at hb
              rw [show aMk offM = .agg [vB false, vB false, .fs [] false] from rfl] at hb
              generalize J[i] = jj at *
              cases i with
              | zero =>
                simp (maxSteps := 200000) (disch := first | (simp only [go_sem, Nat.reduceAdd, Nat.reduceSub, Nat.reduceMul, Nat.reduceLeDiff, Nat.reduceEqDiff, Nat.reduceLT, Nat.reduceBEq, Nat.reduceBNe, Nat.reducePow, ↓reduceIte]; done) | omega | (simp only [go_sem, Nat.reduceAdd, Nat.reduceSub, Nat.reduceMul, Nat.reduceLeDiff, Nat.reduceEqDiff, Nat.reduceLT, Nat.reduceBEq, Nat.reduceBNe, Nat.reducePow, ↓reduceIte] <;> omega) | fail) only [go_sem, Nat.reduceAdd, Nat.reduceSub, Nat.reduceMul, Nat.reduceLeDiff, Nat.reduceEqDiff, Nat.reduceLT, Nat.reduceBEq, Nat.reduceBNe, Nat.reducePow, ↓reduceIte, if_pos, ho, ha, nat_int, h1, h2, eMk_s, callA_data mode_65, hb, hws, true_or, or_true]
                refine ⟨1, ?_, by omega, by omega⟩
                rw [gcK_one 6 (by simp only [go_sem, Nat.reduceAdd, Nat.reduceSub, Nat.reduceMul, Nat.reduceLeDiff, Nat.reduceEqDiff, Nat.reduceLT, Nat.reduceBEq, Nat.reduceBNe, Nat.reducePow, ↓reduceIte]) (by omega) rfl (by simp [headIds, idsOfs, idsOf]) (by simp [headIds, idsOfs, idsOf])]
                rw [if_neg (by omega), hJJ]
                simp [bren_var, rens_cons, rens_nil, ren_v, ren_fs, ren_sl, gcF_s, posOf, renSl_some, eMk_s, Mk.on, Mk.all, Mk.kids]
              | succ i =>
                have hsw : i + 1 ≠ 0 := by omega
                have htl : (J.take (i + 1)).length = i + 1 := by simp; omega
                have hcast : ((i + 1 : Nat) : Int) = (i : Int) + 1 := by omega
                rw [if_neg hsw]
                generalize hJt : J.take (i + 1) = Jt at *
                simp (maxSteps := 200000) (disch := first | (simp only [go_sem, Nat.reduceAdd, Nat.reduceSub, Nat.reduceMul, Nat.reduceLeDiff, Nat.reduceEqDiff, Nat.reduceLT, Nat.reduceBEq, Nat.reduceBNe, Nat.reducePow, ↓reduceIte]; done) | omega | (simp only [go_sem, Nat.reduceAdd, Nat.reduceSub, Nat.reduceMul, Nat.reduceLeDiff, Nat.reduceEqDiff, Nat.reduceLT, Nat.reduceBEq, Nat.reduceBNe, Nat.reducePow, ↓reduceIte] <;> omega) | fail) only [go_sem, Nat.reduceAdd, Nat.reduceSub, Nat.reduceMul, Nat.reduceLeDiff, Nat.reduceEqDiff, Nat.reduceLT, Nat.reduceBEq, Nat.reduceBNe, Nat.reducePow, ↓reduceIte, ho, ha, nat_int, h1, h2, eMk_s, callA_data mode_65, hb, hws]
                refine ⟨i + 1 + 1, ?_, by omega, by omega⟩
                rw [gcK_one 4 (by simp only [go_sem, Nat.reduceAdd, Nat.reduceSub, Nat.reduceMul, Nat.reduceLeDiff, Nat.reduceEqDiff, Nat.reduceLT, Nat.reduceBEq, Nat.reduceBNe, Nat.reducePow, ↓reduceIte]) (by omega) rfl (by simp [headIds, idsOfs, idsOf]) (by simp [headIds, idsOfs, idsOf])]
                rw [if_neg (by omega), hJJ]
                simp [bren_var, rens_cons, rens_nil, ren_v, ren_fs, ren_sl, gcF_s, posOf, renSl_some, eMk_s, Mk.on, Mk.all, Mk.kids]
          · by_cases h2 : i < y.kids.length
            · skip
              have hiJ : i < J.length := by omega
              have hJJ := hJJ hiJ
              have hg := hget i hiJ
              rw [List.getD_eq_getElem?_getD, List.getD_eq_getElem?_getD, List.getElem?_eq_none (by omega), List.getElem?_eq_getElem h2] at hg
              simp only [Option.getD_some, Option.getD_none] at hg
              have hc1 : cntM offM ≤ cntMs x.kids + 1 := by simp [cntM, cntMs]
              have hc2 : cntM y.kids[i] ≤ cntMs y.kids + 1 := by have := cntM_mem (List.getElem_mem h2); omega
              have hb := ih offM y.kids[i] (by have : cntM offM = 1 := rfl; have := cntM_mem (List.getElem_mem h2); omega) (by omega)
              rw [← hg] at hb
              rw [show aMk offM = .agg [vB false, vB false, .fs [] false] from rfl] at hb
              generalize J[i] = jj at *
              cases i with
              | zero =>
                simp (maxSteps := 200000) (disch := first | (simp only [go_sem, Nat.reduceAdd, Nat.reduceSub, Nat.reduceMul, Nat.reduceLeDiff, Nat.reduceEqDiff, Nat.reduceLT, Nat.reduceBEq, Nat.reduceBNe, Nat.reducePow, ↓reduceIte]; done) | omega | (simp only [go_sem, Nat.reduceAdd, Nat.reduceSub, Nat.reduceMul, Nat.reduceLeDiff, Nat.reduceEqDiff, Nat.reduceLT, Nat.reduceBEq, Nat.reduceBNe, Nat.reducePow, ↓reduceIte] <;> omega) | fail) only [go_sem, Nat.reduceAdd, Nat.reduceSub, Nat.reduceMul, Nat.reduceLeDiff, Nat.reduceEqDiff, Nat.reduceLT, Nat.reduceBEq, Nat.reduceBNe, Nat.reducePow, ↓reduceIte, if_pos, ho, ha, nat_int, h1, h2, eMk_s, callA_data mode_65, hb, hws, true_or, or_true]
                refine ⟨1, ?_, by omega, by omega⟩
                rw [gcK_one 6 (by simp only [go_sem, Nat.reduceAdd, Nat.reduceSub, Nat.reduceMul, Nat.reduceLeDiff, Nat.reduceEqDiff, Nat.reduceLT, Nat.reduceBEq, Nat.reduceBNe, Nat.reducePow, ↓reduceIte]) (by omega) rfl (by simp [headIds, idsOfs, idsOf]) (by simp [headIds, idsOfs, idsOf])]
                rw [if_neg (by omega), hJJ]
                simp [bren_var, rens_cons, rens_nil, ren_v, ren_fs, ren_sl, gcF_s, posOf, renSl_some, eMk_s, Mk.on, Mk.all, Mk.kids]
              | succ i =>
                have hsw : i + 1 ≠ 0 := by omega
                have htl : (J.take (i + 1)).length = i + 1 := by simp; omega
                have hcast : ((i + 1 : Nat) : Int) = (i : Int) + 1 := by omega
                rw [if_neg hsw]
                generalize hJt : J.take (i + 1) = Jt at *
                simp (maxSteps := 200000) (disch := first | (simp only [go_sem, Nat.reduceAdd, Nat.reduceSub, Nat.reduceMul, Nat.reduceLeDiff, Nat.reduceEqDiff, Nat.reduceLT, Nat.reduceBEq, Nat.reduceBNe, Nat.reducePow, ↓reduceIte]; done) | omega | (simp only [go_sem, Nat.reduceAdd, Nat.reduceSub, Nat.reduceMul, Nat.reduceLeDiff, Nat.reduceEqDiff, Nat.reduceLT, Nat.reduceBEq, Nat.reduceBNe, Nat.reducePow, ↓reduceIte] <;> omega) | fail) only [go_sem, Nat.reduceAdd, Nat.reduceSub, Nat.reduceMul, Nat.reduceLeDiff, Nat.reduceEqDiff, Nat.reduceLT, Nat.reduceBEq, Nat.reduceBNe, Nat.reducePow, ↓reduceIte, ho, ha, nat_int, h1, h2, eMk_s, callA_data mode_65, hb, hws]
                refine ⟨i + 1 + 1, ?_, by omega, by omega⟩
                rw [gcK_one 4 (by simp only [go_sem, Nat.reduceAdd, Nat.reduceSub, Nat.reduceMul, Nat.reduceLeDiff, Nat.reduceEqDiff, Nat.reduceLT, Nat.reduceBEq, Nat.reduceBNe, Nat.reducePow, ↓reduceIte]) (by omega) rfl (by simp [headIds, idsOfs, idsOf]) (by simp [headIds, idsOfs, idsOf])]
                rw [if_neg (by omega), hJJ]
                simp [bren_var, rens_cons, rens_nil, ren_v, ren_fs, ren_sl, gcF_s, posOf, renSl_some, eMk_s, Mk.on, Mk.all, Mk.kids]
            · skip
              have hiJ : i = J.length := by omega
              cases i with
              | zero =>
                have hJ0 : J = [] := List.eq_nil_iff_length_eq_zero.2 (by omega)
                subst hJ0
                simp (maxSteps := 200000) (disch := first | (simp only [go_sem, Nat.reduceAdd, Nat.reduceSub, Nat.reduceMul, Nat.reduceLeDiff, Nat.reduceEqDiff, Nat.reduceLT, Nat.reduceBEq, Nat.reduceBNe, Nat.reducePow, ↓reduceIte]; done) | omega | (simp only [go_sem, Nat.reduceAdd, Nat.reduceSub, Nat.reduceMul, Nat.reduceLeDiff, Nat.reduceEqDiff, Nat.reduceLT, Nat.reduceBEq, Nat.reduceBNe, Nat.reducePow, ↓reduceIte] <;> omega) | fail) only [go_sem, Nat.reduceAdd, Nat.reduceSub, Nat.reduceMul, Nat.reduceLeDiff, Nat.reduceEqDiff, Nat.reduceLT, Nat.reduceBEq, Nat.reduceBNe, Nat.reducePow, ↓reduceIte, if_pos, ho, ha, nat_int, h1, h2, mk_on, mk_all, mk_kids]
                rfl
              | succ i =>
                have hsw : i + 1 ≠ 0 := by omega
                rw [if_neg hsw, List.take_of_length_le (by omega)]
                simp (maxSteps := 200000) (disch := first | (simp only [go_sem, Nat.reduceAdd, Nat.reduceSub, Nat.reduceMul, Nat.reduceLeDiff, Nat.reduceEqDiff, Nat.reduceLT, Nat.reduceBEq, Nat.reduceBNe, Nat.reducePow, ↓reduceIte]; done) | omega | (simp only [go_sem, Nat.reduceAdd, Nat.reduceSub, Nat.reduceMul, Nat.reduceLeDiff, Nat.reduceEqDiff, Nat.reduceLT, Nat.reduceBEq, Nat.reduceBNe, Nat.reducePow, ↓reduceIte] <;> omega) | fail) only [go_sem, Nat.reduceAdd, Nat.reduceSub, Nat.reduceMul, Nat.reduceLeDiff, Nat.reduceEqDiff, Nat.reduceLT, Nat.reduceBEq, Nat.reduceBNe, Nat.reducePow, ↓reduceIte, ho, ha, nat_int, h1, h2, mk_on, mk_all, mk_kids]
                rfl
    | false =>
      cases ha : x.all with
      | true =>
        rw [Bool.false_or, Bool.true_or]
        simp (maxSteps := 200000) (disch := first | (simp only [go_sem, Nat.reduceAdd, Nat.reduceSub, Nat.reduceMul, Nat.reduceLeDiff, Nat.reduceEqDiff, Nat.reduceLT, Nat.reduceBEq, Nat.reduceBNe, Nat.reducePow, ↓reduceIte]; done) | omega | (simp only [go_sem, Nat.reduceAdd, Nat.reduceSub, Nat.reduceMul, Nat.reduceLeDiff, Nat.reduceEqDiff, Nat.reduceLT, Nat.reduceBEq, Nat.reduceBNe, Nat.reducePow, ↓reduceIte] <;> omega) | fail) only [go_sem, Nat.reduceAdd, Nat.reduceSub, Nat.reduceMul, Nat.reduceLeDiff, Nat.reduceEqDiff, Nat.reduceLT, Nat.reduceBEq, Nat.reduceBNe, Nat.reducePow, ↓reduceIte, ho, ha]
        refine WP_loopR 3 4 (fun (i : Nat) => S_65_3 (.ptr 0 0) (.ptr 1 0) (.ptr 2 0) (.ptr 3 0) (vI i) ([.var [vB false, vB true, lM x.kids], .var [vB y.on, vB y.all, lM y.kids], .var [vB false, vB false, .fs [] true]] ++ (if i = 0 then [.var [vB y.on, vB true, .fs [] true]] else [.var [vB y.on, vB true, .sl 4 0 i false], .arr 100 3 ((J.take i).map eMk)]))) (fun i => J.length - i) (fun i => i ≤ J.length) 0 rfl rfl ?_ ?_ ?_
        · simp (maxSteps := 200000) (disch := first | (simp only [go_sem, Nat.reduceAdd, Nat.reduceSub, Nat.reduceMul, Nat.reduceLeDiff, Nat.reduceEqDiff, Nat.reduceLT, Nat.reduceBEq, Nat.reduceBNe, Nat.reducePow, ↓reduceIte]; done) | omega | (simp only [go_sem, Nat.reduceAdd, Nat.reduceSub, Nat.reduceMul, Nat.reduceLeDiff, Nat.reduceEqDiff, Nat.reduceLT, Nat.reduceBEq, Nat.reduceBNe, Nat.reducePow, ↓reduceIte] <;> omega) | fail) only [go_sem, Nat.reduceAdd, Nat.reduceSub, Nat.reduceMul, Nat.reduceLeDiff, Nat.reduceEqDiff, Nat.reduceLT, Nat.reduceBEq, Nat.reduceBNe, Nat.reducePow, ↓reduceIte]; rfl
        · simp
        · intro i hi
          have hJJ : ∀ h : i < J.length, J.take (i + 1) = J.take i ++ [Mk.mk J[i].on J[i].all J[i].kids] := fun h => by rw [mk_M, List.take_succ_eq_append_getElem h]
          have hws : IntKind.i64.wrap ((i : Int) + 1) = ((i + 1 : Nat) : Int) := by rw [IntWalk.i64_in _ (by omega)]; rfl
          by_cases h1 : i < x.kids.length
          · by_cases h2 : i < y.kids.length
            · skip
              have hiJ : i < J.length := by omega
              have hJJ := hJJ hiJ
              have hg := hget i hiJ
              rw [List.getD_eq_getElem?_getD, List.getD_eq_getElem?_getD, List.getElem?_eq_getElem h1, List.getElem?_eq_getElem h2] at hg
              simp only [Option.getD_some, Option.getD_none] at hg
              have hc1 : cntM x.kids[i] ≤ cntMs x.kids + 1 := by have := cntM_mem (List.getElem_mem h1); omega
              have hc2 : cntM y.kids[i] ≤ cntMs y.kids + 1 := by have := cntM_mem (List.getElem_mem h2); omega
              have hb := ih x.kids[i] y.kids[i] (by have := cntM_mem (List.getElem_mem h1); have := cntM_mem (List.getElem_mem h2); omega) (by omega)
              rw [← hg] at hb
              generalize J[i] = jj at *
              cases i with
              | zero =>
                simp (maxSteps := 200000) (disch := first | (simp only [go_sem, Nat.reduceAdd, Nat.reduceSub, Nat.reduceMul, Nat.reduceLeDiff, Nat.reduceEqDiff, Nat.reduceLT, Nat.reduceBEq, Nat.reduceBNe, Nat.reducePow, ↓reduceIte]; done) | omega | (simp only [go_sem, Nat.reduceAdd, Nat.reduceSub, Nat.reduceMul, Nat.reduceLeDiff, Nat.reduceEqDiff, Nat.reduceLT, Nat.reduceBEq, Nat.reduceBNe, Nat.reducePow, ↓reduceIte] <;> omega) | fail) only [go_sem, Nat.reduceAdd, Nat.reduceSub, Nat.reduceMul, Nat.reduceLeDiff, Nat.reduceEqDiff, Nat.reduceLT, Nat.reduceBEq, Nat.reduceBNe, Nat.reducePow, ↓reduceIte, if_pos, ho, ha, nat_int, h1, h2, eMk_s, callA_data mode_65, hb, hws, true_or, or_true]
                refine ⟨1, ?_, by omega, by omega⟩
                rw [gcK_one 6 (by simp only [go_sem, Nat.reduceAdd, Nat.reduceSub, Nat.reduceMul, Nat.reduceLeDiff, Nat.reduceEqDiff, Nat.reduceLT, Nat.reduceBEq, Nat.reduceBNe, Nat.reducePow, ↓reduceIte]) (by omega) rfl (by simp [headIds, idsOfs, idsOf]) (by simp [headIds, idsOfs, idsOf])]
                rw [if_neg (by omega), hJJ]
                simp [bren_var, rens_cons, rens_nil, ren_v, ren_fs, ren_sl, gcF_s, posOf, renSl_some, eMk_s, Mk.on, Mk.all, Mk.kids]
              | succ i =>
                have hsw : i + 1 ≠ 0 := by omega
                have htl : (J.take (i + 1)).length = i + 1 := by simp; omega
                have hcast : ((i + 1 : Nat) : Int) = (i : Int) + 1 := by omega
                rw [if_neg hsw]
                generalize hJt : J.take (i + 1) = Jt at *
                simp (maxSteps := 200000) (disch := first | (simp only [go_sem, Nat.reduceAdd, Nat.reduceSub, Nat.reduceMul, Nat.reduceLeDiff, Nat.reduceEqDiff, Nat.reduceLT, Nat.reduceBEq, Nat.reduceBNe, Nat.reducePow, ↓reduceIte]; done) | omega | (simp only [go_sem, Nat.reduceAdd, Nat.reduceSub, Nat.reduceMul, Nat.reduceLeDiff, Nat.reduceEqDiff, Nat.reduceLT, Nat.reduceBEq, Nat.reduceBNe, Nat.reducePow, ↓reduceIte] <;> omega) | fail) only [go_sem, Nat.reduceAdd, Nat.reduceSub, Nat.reduceMul, Nat.reduceLeDiff, Nat.reduceEqDiff, Nat.reduceLT, Nat.reduceBEq, Nat.reduceBNe, Nat.reducePow, ↓reduceIte, ho, ha, nat_int, h1, h2, eMk_s, callA_data mode_65, hb, hws]
                refine ⟨i + 1 + 1, ?_, by omega, by omega⟩
                rw [gcK_one 4 (by simp only [go_sem, Nat.reduceAdd, Nat.reduceSub, Nat.reduceMul, Nat.reduceLeDiff, Nat.reduceEqDiff, Nat.reduceLT, Nat.reduceBEq, Nat.reduceBNe, Nat.reducePow, ↓reduceIte]) (by omega) rfl (by simp [headIds, idsOfs, idsOf]) (by simp [headIds, idsOfs, idsOf])]
                rw [if_neg (by omega), hJJ]
                simp [bren_var, rens_cons, rens_nil, ren_v, ren_fs, ren_sl, gcF_s, posOf, renSl_some, eMk_s, Mk.on, Mk.all, Mk.kids]
            · skip
              have hiJ : i < J.length := by omega
              have hJJ := hJJ hiJ
              have hg := hget i hiJ
              rw [List.getD_eq_getElem?_getD, List.getD_eq_getElem?_getD, List.getElem?_eq_getElem h1, List.getElem?_eq_none (by omega)] at hg
              simp only [Option.getD_some, Option.getD_none] at hg
              have hc1 : cntM x.kids[i] ≤ cntMs x.kids + 1 := by have := cntM_mem (List.getElem_mem h1); omega
              have hc2 : cntM offM ≤ cntMs y.kids + 1 := by simp [cntM, cntMs]
              have hb := ih x.kids[i] offM (by have := cntM_mem (List.getElem_mem h1); have : cntM offM = 1 := rfl; omega) (by omega)
              rw [← hg] at hb
              rw [show aMk offM = .agg [vB false, vB false, .fs [] false] from rfl] at hb
              generalize J[i] = jj at *
              cases i with
              | zero =>
                simp (maxSteps := 200000) (disch := first | (simp only [go_sem, Nat.reduceAdd, Nat.reduceSub, Nat.reduceMul, Nat.reduceLeDiff, Nat.reduceEqDiff, Nat.reduceLT, Nat.reduceBEq, Nat.reduceBNe, Nat.reducePow, ↓reduceIte]; done) | omega | (simp only [go_sem, Nat.reduceAdd, Nat.reduceSub, Nat.reduceMul, Nat.reduceLeDiff, Nat.reduceEqDiff, Nat.reduceLT, Nat.reduceBEq, Nat.reduceBNe, Nat.reducePow, ↓reduceIte] <;> omega) | fail) only [go_sem, Nat.reduceAdd, Nat.reduceSub, Nat.reduceMul, Nat.reduceLeDiff, Nat.reduceEqDiff, Nat.reduceLT, Nat.reduceBEq, Nat.reduceBNe, Nat.reducePow, ↓reduceIte, if_pos, ho, ha, nat_int, h1, h2, eMk_s, callA_data mode_65, hb, hws, true_or, or_true]
                refine ⟨1, ?_, by omega, by omega⟩
                rw [gcK_one 6 (by simp only [go_sem, Nat.reduceAdd, Nat.reduceSub, Nat.reduceMul, Nat.reduceLeDiff, Nat.reduceEqDiff, Nat.reduceLT, Nat.reduceBEq, Nat.reduceBNe, Nat.reducePow, ↓reduceIte]) (by omega) rfl (by simp [headIds, idsOfs, idsOf]) (by simp [headIds, idsOfs, idsOf])]
                rw [if_neg (by omega), hJJ]
                simp [bren_var, rens_cons, rens_nil, ren_v, ren_fs, ren_sl, gcF_s, posOf, renSl_some, eMk_s, Mk.on, Mk.all, Mk.kids]
              | succ i =>
                have hsw : i + 1 ≠ 0 := by omega
                have htl : (J.take (i + 1)).length = i + 1 := by simp; omega
                have hcast : ((i + 1 : Nat) : Int) = (i : Int) + 1 := by omega
                rw [if_neg hsw]
                generalize hJt : J.take (i + 1) = Jt at *
                simp (maxSteps := 200000) (disch := first | (simp only [go_sem, Nat.reduceAdd, Nat.reduceSub, Nat.reduceMul, Nat.reduceLeDiff, Nat.reduceEqDiff, Nat.reduceLT, Nat.reduceBEq, Nat.reduceBNe, Nat.reducePow, ↓reduceIte]; done) | omega | (simp only [go_sem, Nat.reduceAdd, Nat.reduceSub, Nat.reduceMul, Nat.reduceLeDiff, Nat.reduceEqDiff, Nat.reduceLT, Nat.reduceBEq, Nat.reduceBNe, Nat.reducePow, ↓reduceIte] <;> omega) | fail) only [go_sem, Nat.reduceAdd, Nat.reduceSub, Nat.reduceMul, Nat.reduceLeDiff, Nat.reduceEqDiff, Nat.reduceLT, Nat.reduceBEq, Nat.reduceBNe, Nat.reducePow, ↓reduceIte, ho, ha, nat_int, h1, h2, eMk_s, callA_data mode_65, hb, hws]
                refine ⟨i + 1 + 1, ?_, by omega, by omega⟩
                rw [gcK_one 4 (by simp only [go_sem, Nat.reduceAdd, Nat.reduceSub, Nat.reduceMul, Nat.reduceLeDiff, Nat.reduceEqDiff, Nat.reduceLT, Nat.reduceBEq, Nat.reduceBNe, Nat.reducePow, ↓reduceIte]) (by omega) rfl (by simp [headIds, idsOfs, idsOf]) (by simp [headIds, idsOfs, idsOf])]
                rw [if_neg (by omega), hJJ]
                simp [bren_var, rens_cons, rens_nil, ren_v, ren_fs, ren_sl, gcF_s, posOf, renSl_some, eMk_s, Mk.on, Mk.all, Mk.kids]
          · by_cases h2 : i < y.kids.length
            · skip
              have hiJ : i < J.length := by omega
              have hJJ := hJJ hiJ
              have hg := hget i hiJ
              rw [List.getD_eq_getElem?_getD, List.getD_eq_getElem?_getD, List.getElem?_eq_none (by omega), List.getElem?_eq_getElem h2] at hg
              simp only [Option.getD_some, Option.getD_none] at hg
              have hc1 : cntM offM ≤ cntMs x.kids + 1 := by simp [cntM, cntMs]
              have hc2 : cntM y.kids[i] ≤ cntMs y.kids + 1 := by have := cntM_mem (List.getElem_mem h2); omega
              have hb := ih offM y.kids[i] (by have : cntM offM = 1 := rfl; have := cntM_mem (List.getElem_mem h2); omega) (by omega)
              rw [← hg] at hb
              rw [show aMk offM = .agg [vB false, vB false, .fs [] false] from rfl] at hb
              generalize J[i] = jj at *
              cases i with
              | zero =>
                simp (maxSteps := 200000) (disch := first | (simp only [go_sem, Nat.reduceAdd, Nat.reduceSub, Nat.reduceMul, Nat.reduceLeDiff, Nat.reduceEqDiff, Nat.reduceLT, Nat.reduceBEq, Nat.reduceBNe, Nat.reducePow, ↓reduceIte]; done) | omega | (simp only [go_sem, Nat.reduceAdd, Nat.reduceSub, Nat.reduceMul, Nat.reduceLeDiff, Nat.reduceEqDiff, Nat.reduceLT, Nat.reduceBEq, Nat.reduceBNe, Nat.reducePow, ↓reduceIte] <;> omega) | fail) only [go_sem, Nat.reduceAdd, Nat.reduceSub, Nat.reduceMul, Nat.reduceLeDiff, Nat.reduceEqDiff, Nat.reduceLT, Nat.reduceBEq, Nat.reduceBNe, Nat.reducePow, ↓reduceIte, if_pos, ho, ha, nat_int, h1, h2, eMk_s, callA_data mode_65, hb, hws, true_or, or_true]
                refine ⟨1, ?_, by omega, by omega⟩
                rw [gcK_one 6 (by simp only [go_sem, Nat.reduceAdd, Nat.reduceSub, Nat.reduceMul, Nat.reduceLeDiff, Nat.reduceEqDiff, Nat.reduceLT, Nat.reduceBEq, Nat.reduceBNe, Nat.reducePow, ↓reduceIte]) (by omega) rfl (by simp [headIds, idsOfs, idsOf]) (by simp [headIds, idsOfs, idsOf])]
                rw [if_neg (by omega), hJJ]
                simp [bren_var, rens_cons, rens_nil, ren_v, ren_fs, ren_sl, gcF_s, posOf, renSl_some, eMk_s, Mk.on, Mk.all, Mk.kids]
              | succ i =>
                have hsw : i + 1 ≠ 0 := by omega
                have htl : (J.take (i + 1)).length = i + 1 := by simp; omega
                have hcast : ((i + 1 : Nat) : Int) = (i : Int) + 1 := by omega
                rw [if_neg hsw]
                generalize hJt : J.take (i + 1) = Jt at *
                simp (maxSteps := 200000) (disch := first | (simp only [go_sem, Nat.reduceAdd, Nat.reduceSub, Nat.reduceMul, Nat.reduceLeDiff, Nat.reduceEqDiff, Nat.reduceLT, Nat.reduceBEq, Nat.reduceBNe, Nat.reducePow, ↓reduceIte]; done) | omega | (simp only [go_sem, Nat.reduceAdd, Nat.reduceSub, Nat.reduceMul, Nat.reduceLeDiff, Nat.reduceEqDiff, Nat.reduceLT, Nat.reduceBEq, Nat.reduceBNe, Nat.reducePow, ↓reduceIte] <;> omega) | fail) only [go_sem, Nat.reduceAdd, Nat.reduceSub, Nat.reduceMul, Nat.reduceLeDiff, Nat.reduceEqDiff, Nat.reduceLT, Nat.reduceBEq, Nat.reduceBNe, Nat.reducePow, ↓reduceIte, ho, ha, nat_int, h1, h2, eMk_s, callA_data mode_65, hb, hws]
                refine ⟨i + 1 + 1, ?_, by omega, by omega⟩
                rw [gcK_one 4 (by simp only [go_sem, Nat.reduceAdd, Nat.reduceSub, Nat.reduceMul, Nat.reduceLeDiff, Nat.reduceEqDiff, Nat.reduceLT, Nat.reduceBEq, Nat.reduceBNe, Nat.reducePow, ↓reduceIte]) (by omega) rfl (by simp [headIds, idsOfs, idsOf]) (by simp [headIds, idsOfs, idsOf])]
                rw [if_neg (by omega), hJJ]
                simp [bren_var, rens_cons, rens_nil, ren_v, ren_fs, ren_sl, gcF_s, posOf, renSl_some, eMk_s, Mk.on, Mk.all, Mk.kids]
            · skip
              have hiJ : i = J.length := by omega
              cases i with
              | zero =>
                have hJ0 : J = [] := List.eq_nil_iff_length_eq_zero.2 (by omega)
                subst hJ0
                simp (maxSteps := 200000) (disch := first | (simp only [go_sem, Nat.reduceAdd, Nat.reduceSub, Nat.reduceMul, Nat.reduceLeDiff, Nat.reduceEqDiff, Nat.reduceLT, Nat.reduceBEq, Nat.reduceBNe, Nat.reducePow, ↓reduceIte]; done) | omega | (simp only [go_sem, Nat.reduceAdd, Nat.reduceSub, Nat.reduceMul, Nat.reduceLeDiff, Nat.reduceEqDiff, Nat.reduceLT, Nat.reduceBEq, Nat.reduceBNe, Nat.reducePow, ↓reduceIte] <;> omega) | fail) only [go_sem, Nat.reduceAdd, Nat.reduceSub, Nat.reduceMul, Nat.reduceLeDiff, Nat.reduceEqDiff, Nat.reduceLT, Nat.reduceBEq, Nat.reduceBNe, Nat.reducePow, ↓reduceIte, if_pos, ho, ha, nat_int, h1, h2, mk_on, mk_all, mk_kids]
                rfl
              | succ i =>
                have hsw : i + 1 ≠ 0 := by omega
                rw [if_neg hsw, List.take_of_length_le (by omega)]
                simp (maxSteps := 200000) (disch := first | (simp only [go_sem, Nat.reduceAdd, Nat.reduceSub, Nat.reduceMul, Nat.reduceLeDiff, Nat.reduceEqDiff, Nat.reduceLT, Nat.reduceBEq, Nat.reduceBNe, Nat.reducePow, ↓reduceIte]; done) | omega | (simp only [go_sem, Nat.reduceAdd, Nat.reduceSub, Nat.reduceMul, Nat.reduceLeDiff, Nat.reduceEqDiff, Nat.reduceLT, Nat.reduceBEq, Nat.reduceBNe, Nat.reducePow, ↓reduceIte] <;> omega) | fail) only [go_sem, Nat.reduceAdd, Nat.reduceSub, Nat.reduceMul, Nat.reduceLeDiff, Nat.reduceEqDiff, Nat.reduceLT, Nat.reduceBEq, Nat.reduceBNe, Nat.reducePow, ↓reduceIte, ho, ha, nat_int, h1, h2, mk_on, mk_all, mk_kids]
                rfl
      | false =>
        rw [Bool.false_or, Bool.false_or]
        simp (maxSteps := 200000) (disch := first | (simp only [go_sem, Nat.reduceAdd, Nat.reduceSub, Nat.reduceMul, Nat.reduceLeDiff, Nat.reduceEqDiff, Nat.reduceLT, Nat.reduceBEq, Nat.reduceBNe, Nat.reducePow, ↓reduceIte]; done) | omega | (simp only [go_sem, Nat.reduceAdd, Nat.reduceSub, Nat.reduceMul, Nat.reduceLeDiff, Nat.reduceEqDiff, Nat.reduceLT, Nat.reduceBEq, Nat.reduceBNe, Nat.reducePow, ↓reduceIte] <;> omega) | fail) only [go_sem, Nat.reduceAdd, Nat.reduceSub, Nat.reduceMul, Nat.reduceLeDiff, Nat.reduceEqDiff, Nat.reduceLT, Nat.reduceBEq, Nat.reduceBNe, Nat.reducePow, ↓reduceIte, ho, ha]
        refine WP_loopR 3 4 (fun (i : Nat) => S_65_3 (.ptr 0 0) (.ptr 1 0) (.ptr 2 0) (.ptr 3 0) (vI i) ([.var [vB false, vB false, lM x.kids], .var [vB y.on, vB y.all, lM y.kids], .var [vB false, vB false, .fs [] true]] ++ (if i = 0 then [.var [vB y.on, vB y.all, .fs [] true]] else [.var [vB y.on, vB y.all, .sl 4 0 i false], .arr 100 3 ((J.take i).map eMk)]))) (fun i => J.length - i) (fun i => i ≤ J.length) 0 rfl rfl ?_ ?_ ?_
        · simp (maxSteps := 200000) (disch := first | (simp only [go_sem, Nat.reduceAdd, Nat.reduceSub, Nat.reduceMul, Nat.reduceLeDiff, Nat.reduceEqDiff, Nat.reduceLT, Nat.reduceBEq, Nat.reduceBNe, Nat.reducePow, ↓reduceIte]; done) | omega | (simp only [go_sem, Nat.reduceAdd, Nat.reduceSub, Nat.reduceMul, Nat.reduceLeDiff, Nat.reduceEqDiff, Nat.reduceLT, Nat.reduceBEq, Nat.reduceBNe, Nat.reducePow, ↓reduceIte] <;> omega) | fail) only [go_sem, Nat.reduceAdd, Nat.reduceSub, Nat.reduceMul, Nat.reduceLeDiff, Nat.reduceEqDiff, Nat.reduceLT, Nat.reduceBEq, Nat.reduceBNe, Nat.reducePow, ↓reduceIte]; rfl
        · simp
        · intro i hi
          have hJJ : ∀ h : i < J.length, J.take (i + 1) = J.take i ++ [Mk.mk J[i].on J[i].all J[i].kids] := fun h => by rw [mk_M, List.take_succ_eq_append_getElem h]
          have hws : IntKind.i64.wrap ((i : Int) + 1) = ((i + 1 : Nat) : Int) := by rw [IntWalk.i64_in _ (by omega)]; rfl
          by_cases h1 : i < x.kids.length
          · by_cases h2 : i < y.kids.length
            · skip
              have hiJ : i < J.length := by omega
              have hJJ := hJJ hiJ
              have hg := hget i hiJ
              rw [List.getD_eq_getElem?_getD, List.getD_eq_getElem?_getD, List.getElem?_eq_getElem h1, List.getElem?_eq_getElem h2] at hg
              simp only [Option.getD_some, Option.getD_none] at hg
              have hc1 : cntM x.kids[i] ≤ cntMs x.kids + 1 := by have := cntM_mem (List.getElem_mem h1); omega
              have hc2 : cntM y.kids[i] ≤ cntMs y.kids + 1 := by have := cntM_mem (List.getElem_mem h2); omega
              have hb := ih x.kids[i] y.kids[i] (by have := cntM_mem (List.getElem_mem h1); have := cntM_mem (List.getElem_mem h2); omega) (by omega)
              rw [← hg] at hb
              generalize J[i] = jj at *
              cases i with
              | zero =>
                simp (maxSteps := 200000) (disch := first | (simp only [go_sem, Nat.reduceAdd, Nat.reduceSub, Nat.reduceMul, Nat.reduceLeDiff, Nat.reduceEqDiff, Nat.reduceLT, Nat.reduceBEq, Nat.reduceBNe, Nat.reducePow, ↓reduceIte]; done) | omega | (simp only [go_sem, Nat.reduceAdd, Nat.reduceSub, Nat.reduceMul, Nat.reduceLeDiff, Nat.reduceEqDiff, Nat.reduceLT, Nat.reduceBEq, Nat.reduceBNe, Nat.reducePow, ↓reduceIte] <;> omega) | fail) only [go_sem, Nat.reduceAdd, Nat.reduceSub, Nat.reduceMul, Nat.reduceLeDiff, Nat.reduceEqDiff, Nat.reduceLT, Nat.reduceBEq, Nat.reduceBNe, Nat.reducePow, ↓reduceIte, if_pos, ho, ha, nat_int, h1, h2, eMk_s, callA_data mode_65, hb, hws, true_or, or_true]
                refine ⟨1, ?_, by omega, by omega⟩
                rw [gcK_one 6 (by simp only [go_sem, Nat.reduceAdd, Nat.reduceSub, Nat.reduceMul, Nat.reduceLeDiff, Nat.reduceEqDiff, Nat.reduceLT, Nat.reduceBEq, Nat.reduceBNe, Nat.reducePow, ↓reduceIte]) (by omega) rfl (by simp [headIds, idsOfs, idsOf]) (by simp [headIds, idsOfs, idsOf])]
                rw [if_neg (by omega), hJJ]
                simp [bren_var, rens_cons, rens_nil, ren_v, ren_fs, ren_sl, gcF_s, posOf, renSl_some, eMk_s, Mk.on, Mk.all, Mk.kids]
              | succ i =>
                have hsw : i + 1 ≠ 0 := by omega
                have htl : (J.take (i + 1)).length = i + 1 := by simp; omega
                have hcast : ((i + 1 : Nat) : Int) = (i : Int) + 1 := by omega
                rw [if_neg hsw]
                generalize hJt : J.take (i + 1) = Jt at *
                simp (maxSteps := 200000) (disch := first | (simp only [go_sem, Nat.reduceAdd, Nat.reduceSub, Nat.reduceMul, Nat.reduceLeDiff, Nat.reduceEqDiff, Nat.reduceLT, Nat.reduceBEq, Nat.reduceBNe, Nat.reducePow, ↓reduceIte]; done) | omega | (simp only [go_sem, Nat.reduceAdd, Nat.reduceSub, Nat.reduceMul, Nat.reduceLeDiff, Nat.reduceEqDiff, Nat.reduceLT, Nat.reduceBEq, Nat.reduceBNe, Nat.reducePow, ↓reduceIte] <;> omega) | fail) only [go_sem, Nat.reduceAdd, Nat.reduceSub, Nat.reduceMul, Nat.reduceLeDiff, Nat.reduceEqDiff, Nat.reduceLT, Nat.reduceBEq, Nat.reduceBNe, Nat.reducePow, ↓reduceIte, ho, ha, nat_int, h1, h2, eMk_s, callA_data mode_65, hb, hws]
                refine ⟨i + 1 + 1, ?_, by omega, by omega⟩
                rw [gcK_one 4 (by simp only [go_sem, Nat.reduceAdd, Nat.reduceSub, Nat.reduceMul, Nat.reduceLeDiff, Nat.reduceEqDiff, Nat.reduceLT, Nat.reduceBEq, Nat.reduceBNe, Nat.reducePow, ↓reduceIte]) (by omega) rfl (by simp [headIds, idsOfs, idsOf]) (by simp [headIds, idsOfs, idsOf])]
                rw [if_neg (by omega), hJJ]
                simp [bren_var, rens_cons, rens_nil, ren_v, ren_fs, ren_sl, gcF_s, posOf, renSl_some, eMk_s, Mk.on, Mk.all, Mk.kids]
            · skip
              have hiJ : i < J.length := by omega
              have hJJ := hJJ hiJ
              have hg := hget i hiJ
              rw [List.getD_eq_getElem?_getD, List.getD_eq_getElem?_getD, List.getElem?_eq_getElem h1, List.getElem?_eq_none (by omega)] at hg
              simp only [Option.getD_some, Option.getD_none] at hg
              have hc1 : cntM x.kids[i] ≤ cntMs x.kids + 1 := by have := cntM_mem (List.getElem_mem h1); omega
              have hc2 : cntM offM ≤ cntMs y.kids + 1 := by simp [cntM, cntMs]
              have hb := ih x.kids[i] offM (by have := cntM_mem (List.getElem_mem h1); have : cntM offM = 1 := rfl; omega) (by omega)
              rw [← hg] at hb
              rw [show aMk offM = .agg [vB false, vB false, .fs [] false] from rfl] at hb
              generalize J[i] = jj at *
              cases i with
              | zero =>
                simp (maxSteps := 200000) (disch := first | (simp only [go_sem, Nat.reduceAdd, Nat.reduceSub, Nat.reduceMul, Nat.reduceLeDiff, Nat.reduceEqDiff, Nat.reduceLT, Nat.reduceBEq, Nat.reduceBNe, Nat.reducePow, ↓reduceIte]; done) | omega | (simp only [go_sem, Nat.reduceAdd, Nat.reduceSub, Nat.reduceMul, Nat.reduceLeDiff, Nat.reduceEqDiff, Nat.reduceLT, Nat.reduceBEq, Nat.reduceBNe, Nat.reducePow, ↓reduceIte] <;> omega) | fail) only [go_sem, Nat.reduceAdd, Nat.reduceSub, Nat.reduceMul, Nat.reduceLeDiff, Nat.reduceEqDiff, Nat.reduceLT, Nat.reduceBEq, Nat.reduceBNe, Nat.reducePow, ↓reduceIte, if_pos, ho, ha, nat_int, h1, h2, eMk_s, callA_data mode_65, hb, hws, true_or, or_true]
                refine ⟨1, ?_, by omega, by omega⟩
                rw [gcK_one 6 (by simp only [go_sem, Nat.reduceAdd, Nat.reduceSub, Nat.reduceMul, Nat.reduceLeDiff, Nat.reduceEqDiff, Nat.reduceLT, Nat.reduceBEq, Nat.reduceBNe, Nat.reducePow, ↓reduceIte]) (by omega) rfl (by simp [headIds, idsOfs, idsOf]) (by simp [headIds, idsOfs, idsOf])]
                rw [if_neg (by omega), hJJ]
                simp [bren_var, rens_cons, rens_nil, ren_v, ren_fs, ren_sl, gcF_s, posOf, renSl_some, eMk_s, Mk.on, Mk.all, Mk.kids]
              | succ i =>
                have hsw : i + 1 ≠ 0 := by omega
                have htl : (J.take (i + 1)).length = i + 1 := by simp; omega
                have hcast : ((i + 1 : Nat) : Int) = (i : Int) + 1 := by omega
                rw [if_neg hsw]
                generalize hJt : J.take (i + 1) = Jt at *
                simp (maxSteps := 200000) (disch := first | (simp only [go_sem, Nat.reduceAdd, Nat.reduceSub, Nat.reduceMul, Nat.reduceLeDiff, Nat.reduceEqDiff, Nat.reduceLT, Nat.reduceBEq, Nat.reduceBNe, Nat.reducePow, ↓reduceIte]; done) | omega | (simp only [go_sem, Nat.reduceAdd, Nat.reduceSub, Nat.reduceMul, Nat.reduceLeDiff, Nat.reduceEqDiff, Nat.reduceLT, Nat.reduceBEq, Nat.reduceBNe, Nat.reducePow, ↓reduceIte] <;> omega) | fail) only [go_sem, Nat.reduceAdd, Nat.reduceSub, Nat.reduceMul, Nat.reduceLeDiff, Nat.reduceEqDiff, Nat.reduceLT, Nat.reduceBEq, Nat.reduceBNe, Nat.reducePow, ↓reduceIte, ho, ha, nat_int, h1, h2, eMk_s, callA_data mode_65, hb, hws]
                refine ⟨i + 1 + 1, ?_, by omega, by omega⟩
                rw [gcK_one 4 (by simp only [go_sem, Nat.reduceAdd, Nat.reduceSub, Nat.reduceMul, Nat.reduceLeDiff, Nat.reduceEqDiff, Nat.reduceLT, Nat.reduceBEq, Nat.reduceBNe, Nat.reducePow, ↓reduceIte]) (by omega) rfl (by simp [headIds, idsOfs, idsOf]) (by simp [headIds, idsOfs, idsOf])]
                rw [if_neg (by omega), hJJ]
                simp [bren_var, rens_cons, rens_nil, ren_v, ren_fs, ren_sl, gcF_s, posOf, renSl_some, eMk_s, Mk.on, Mk.all, Mk.kids]
          · by_cases h2 : i < y.kids.length
            · skip
              have hiJ : i < J.length := by omega
              have hJJ := hJJ hiJ
              have hg := hget i hiJ
              rw [List.getD_eq_getElem?_getD, List.getD_eq_getElem?_getD, List.getElem?_eq_none (by omega), List.getElem?_eq_getElem h2] at hg
              simp only [Option.getD_some, Option.getD_none] at hg
              have hc1 : cntM offM ≤ cntMs x.kids + 1 := by simp [cntM, cntMs]
              have hc2 : cntM y.kids[i] ≤ cntMs y.kids + 1 := by have := cntM_mem (List.getElem_mem h2); omega
              have hb := ih offM y.kids[i] (by have : cntM offM = 1 := rfl; have := cntM_mem (List.getElem_mem h2); omega) (by omega)
              rw [← hg] at hb
              rw [show aMk offM = .agg [vB false, vB false, .fs [] false] from rfl] at hb
              generalize J[i] = jj at *
              cases i with
              | zero =>
                simp (maxSteps := 200000) (disch := first | (simp only [go_sem, Nat.reduceAdd, Nat.reduceSub, Nat.reduceMul, Nat.reduceLeDiff, Nat.reduceEqDiff, Nat.reduceLT, Nat.reduceBEq, Nat.reduceBNe, Nat.reducePow, ↓reduceIte]; done) | omega | (simp only [go_sem, Nat.reduceAdd, Nat.reduceSub, Nat.reduceMul, Nat.reduceLeDiff, Nat.reduceEqDiff, Nat.reduceLT, Nat.reduceBEq, Nat.reduceBNe, Nat.reducePow, ↓reduceIte] <;> omega) | fail) only [go_sem, Nat.reduceAdd, Nat.reduceSub, Nat.reduceMul, Nat.reduceLeDiff, Nat.reduceEqDiff, Nat.reduceLT, Nat.reduceBEq, Nat.reduceBNe, Nat.reducePow, ↓reduceIte, if_pos, ho, ha, nat_int, h1, h2, eMk_s, callA_data mode_65, hb, hws, true_or, or_true]
                refine ⟨1, ?_, by omega, by omega⟩
                rw [gcK_one 6 (by simp only [go_sem, Nat.reduceAdd, Nat.reduceSub, Nat.reduceMul, Nat.reduceLeDiff, Nat.reduceEqDiff, Nat.reduceLT, Nat.reduceBEq, Nat.reduceBNe, Nat.reducePow, ↓reduceIte]) (by omega) rfl (by simp [headIds, idsOfs, idsOf]) (by simp [headIds, idsOfs, idsOf])]
                rw [if_neg (by omega), hJJ]
                simp [bren_var, rens_cons, rens_nil, ren_v, ren_fs, ren_sl, gcF_s, posOf, renSl_some, eMk_s, Mk.on, Mk.all, Mk.kids]
              | succ i =>
                have hsw : i + 1 ≠ 0 := by omega
                have htl : (J.take (i + 1)).length = i + 1 := by simp; omega
                have hcast : ((i + 1 : Nat) : Int) = (i : Int) + 1 := by omega
                rw [if_neg hsw]
                generalize hJt : J.take (i + 1) = Jt at *
                simp (maxSteps := 200000) (disch := first | (simp only [go_sem, Nat.reduceAdd, Nat.reduceSub, Nat.reduceMul, Nat.reduceLeDiff, Nat.reduceEqDiff, Nat.reduceLT, Nat.reduceBEq, Nat.reduceBNe, Nat.reducePow, ↓reduceIte]; done) | omega | (simp only [go_sem, Nat.reduceAdd, Nat.reduceSub, Nat.reduceMul, Nat.reduceLeDiff, Nat.reduceEqDiff, Nat.reduceLT, Nat.reduceBEq, Nat.reduceBNe, Nat.reducePow, ↓reduceIte] <;> omega) | fail) only [go_sem, Nat.reduceAdd, Nat.reduceSub, Nat.reduceMul, Nat.reduceLeDiff, Nat.reduceEqDiff, Nat.reduceLT, Nat.reduceBEq, Nat.reduceBNe, Nat.reducePow, ↓reduceIte, ho, ha, nat_int, h1, h2, eMk_s, callA_data mode_65, hb, hws]
                refine ⟨i + 1 + 1, ?_, by omega, by omega⟩
                rw [gcK_one 4 (by simp only [go_sem, Nat.reduceAdd, Nat.reduceSub, Nat.reduceMul, Nat.reduceLeDiff, Nat.reduceEqDiff, Nat.reduceLT, Nat.reduceBEq, Nat.reduceBNe, Nat.reducePow, ↓reduceIte]) (by omega) rfl (by simp [headIds, idsOfs, idsOf]) (by simp [headIds, idsOfs, idsOf])]
                rw [if_neg (by omega), hJJ]
                simp [bren_var, rens_cons, rens_nil, ren_v, ren_fs, ren_sl, gcF_s, posOf, renSl_some, eMk_s, Mk.on, Mk.all, Mk.kids]
            · skip
              have hiJ : i = J.length := by omega
              cases i with
              | zero =>
                have hJ0 : J = [] := List.eq_nil_iff_length_eq_zero.2 (by omega)
                subst hJ0
                simp (maxSteps := 200000) (disch := first | (simp only [go_sem, Nat.reduceAdd, Nat.reduceSub, Nat.reduceMul, Nat.reduceLeDiff, Nat.reduceEqDiff, Nat.reduceLT, Nat.reduceBEq, Nat.reduceBNe, Nat.reducePow, ↓reduceIte]; done) | omega | (simp only [go_sem, Nat.reduceAdd, Nat.reduceSub, Nat.reduceMul, Nat.reduceLeDiff, Nat.reduceEqDiff, Nat.reduceLT, Nat.reduceBEq, Nat.reduceBNe, Nat.reducePow, ↓reduceIte] <;> omega) | fail) only [go_sem, Nat.reduceAdd, Nat.reduceSub, Nat.reduceMul, Nat.reduceLeDiff, Nat.reduceEqDiff, Nat.reduceLT, Nat.reduceBEq, Nat.reduceBNe, Nat.reducePow, ↓reduceIte, if_pos, ho, ha, nat_int, h1, h2, mk_on, mk_all, mk_kids]
                rfl
              | succ i =>
                have hsw : i + 1 ≠ 0 := by omega
                rw [if_neg hsw, List.take_of_length_le (by omega)]
                simp (maxSteps := 200000) (disch := first | (simp only [go_sem, Nat.reduceAdd, Nat.reduceSub, Nat.reduceMul, Nat.reduceLeDiff, Nat.reduceEqDiff, Nat.reduceLT, Nat.reduceBEq, Nat.reduceBNe, Nat.reducePow, ↓reduceIte]; done) | omega | (simp only [go_sem, Nat.reduceAdd, Nat.reduceSub, Nat.reduceMul, Nat.reduceLeDiff, Nat.reduceEqDiff, Nat.reduceLT, Nat.reduceBEq, Nat.reduceBNe, Nat.reducePow, ↓reduceIte] <;> omega) | fail) only [go_sem, Nat.reduceAdd, Nat.reduceSub, Nat.reduceMul, Nat.reduceLeDiff, Nat.reduceEqDiff, Nat.reduceLT, Nat.reduceBEq, Nat.reduceBNe, Nat.reducePow, ↓reduceIte, ho, ha, nat_int, h1, h2, mk_on, mk_all, mk_kids]
                rfl
end Go.Abs.SA
end

section
set_option linter.unusedVariables false
set_option linter.unusedSimpArgs false
set_option maxRecDepth 100000
set_option maxHeartbeats 4000000
set_option linter.unusedSimpArgs false
set_option linter.unusedVariables false
namespace Go.Abs.SA
open Go.Proofs

theorem refLeaf_spec (n : Node) (name value : Str) (hl : n.kids.length ≤ 140737488355328) : pureW XX 74 [aNode n, vS name, vS value] = some (vI (posI (n.kids.findIdx? fun x => decide (x.name = name) && decide (x.value = value)))) := by
  refine pureW_in 34 Try.func74 Try.ntmps74 (by simp) (rfl : Try.f74.body = some _) fns_74 ?_
  simp (maxSteps := 200000) (disch := first | (simp only [go_sem, Nat.reduceAdd, Nat.reduceSub, Nat.reduceMul, Nat.reduceLeDiff, Nat.reduceEqDiff, Nat.reduceLT, Nat.reduceBEq, Nat.reduceBNe, Nat.reducePow, ↓reduceIte]; done) | omega | (simp only [go_sem, Nat.reduceAdd, Nat.reduceSub, Nat.reduceMul, Nat.reduceLeDiff, Nat.reduceEqDiff, Nat.reduceLT, Nat.reduceBEq, Nat.reduceBNe, Nat.reducePow, ↓reduceIte] <;> omega) | fail) only [go_sem, Nat.reduceAdd, Nat.reduceSub, Nat.reduceMul, Nat.reduceLeDiff, Nat.reduceEqDiff, Nat.reduceLT, Nat.reduceBEq, Nat.reduceBNe, Nat.reducePow, ↓reduceIte]
  refine WP_range 2 1 n.kids.length (fun i => S_74_2 (vS name) (vS value) (.ptr 0 0) (vI i) [.var [vS n.name, vS n.value, lN n.kids]]) (fun i => (n.kids.findIdx? fun x => decide (x.name = name) && decide (x.value = value)) = ((n.kids.drop i).findIdx? fun x => decide (x.name = name) && decide (x.value = value)).map (· + i)) rfl rfl ?_ ?_ ?_ ?_
  · simp (maxSteps := 200000) (disch := first | (simp only [go_sem, Nat.reduceAdd, Nat.reduceSub, Nat.reduceMul, Nat.reduceLeDiff, Nat.reduceEqDiff, Nat.reduceLT, Nat.reduceBEq, Nat.reduceBNe, Nat.reducePow, ↓reduceIte]; done) | omega | (simp only [go_sem, Nat.reduceAdd, Nat.reduceSub, Nat.reduceMul, Nat.reduceLeDiff, Nat.reduceEqDiff, Nat.reduceLT, Nat.reduceBEq, Nat.reduceBNe, Nat.reducePow, ↓reduceIte] <;> omega) | fail) only [go_sem, Nat.reduceAdd, Nat.reduceSub, Nat.reduceMul, Nat.reduceLeDiff, Nat.reduceEqDiff, Nat.reduceLT, Nat.reduceBEq, Nat.reduceBNe, Nat.reducePow, ↓reduceIte]; rfl
  · simp
  · intro i h hI
    rw [findIdx_step _ _ h] at hI
    have hno : (decide (n.kids[i].name = name) && decide (n.kids[i].value = value)) = false → (n.kids.findIdx? fun x => decide (x.name = name) && decide (x.value = value)) = ((n.kids.drop (i + 1)).findIdx? fun x => decide (x.name = name) && decide (x.value = value)).map (· + (i + 1)) := by
      intro hv
      rw [hI, hv]
      simp
      congr 1
      funext x
      simp
      omega
    by_cases h1 : n.kids[i].name = name
    · have h1' := eq_true h1
      by_cases h2 : n.kids[i].value = value
      · have h2' := eq_true h2
        simp (maxSteps := 200000) (disch := first | (simp only [go_sem, Nat.reduceAdd, Nat.reduceSub, Nat.reduceMul, Nat.reduceLeDiff, Nat.reduceEqDiff, Nat.reduceLT, Nat.reduceBEq, Nat.reduceBNe, Nat.reducePow, ↓reduceIte]; done) | omega | (simp only [go_sem, Nat.reduceAdd, Nat.reduceSub, Nat.reduceMul, Nat.reduceLeDiff, Nat.reduceEqDiff, Nat.reduceLT, Nat.reduceBEq, Nat.reduceBNe, Nat.reducePow, ↓reduceIte] <;> omega) | fail) only [go_sem, Nat.reduceAdd, Nat.reduceSub, Nat.reduceMul, Nat.reduceLeDiff, Nat.reduceEqDiff, Nat.reduceLT, Nat.reduceBEq, Nat.reduceBNe, Nat.reducePow, ↓reduceIte, nat_int, h, eNode_s, h1', h2']
        rw [hI]
        simp [h1, h2, posI]
      · simp (maxSteps := 200000) (disch := first | (simp only [go_sem, Nat.reduceAdd, Nat.reduceSub, Nat.reduceMul, Nat.reduceLeDiff, Nat.reduceEqDiff, Nat.reduceLT, Nat.reduceBEq, Nat.reduceBNe, Nat.reducePow, ↓reduceIte]; done) | omega | (simp only [go_sem, Nat.reduceAdd, Nat.reduceSub, Nat.reduceMul, Nat.reduceLeDiff, Nat.reduceEqDiff, Nat.reduceLT, Nat.reduceBEq, Nat.reduceBNe, Nat.reducePow, ↓reduceIte] <;> omega) | fail) only [go_sem, Nat.reduceAdd, Nat.reduceSub, Nat.reduceMul, Nat.reduceLeDiff, Nat.reduceEqDiff, Nat.reduceLT, Nat.reduceBEq, Nat.reduceBNe, Nat.reducePow, ↓reduceIte, nat_int, h, eNode_s, h1', h2, wrap_succ h hl]
        exact hno (by simp [h2])
    · simp (maxSteps := 200000) (disch := first | (simp only [go_sem, Nat.reduceAdd, Nat.reduceSub, Nat.reduceMul, Nat.reduceLeDiff, Nat.reduceEqDiff, Nat.reduceLT, Nat.reduceBEq, Nat.reduceBNe, Nat.reducePow, ↓reduceIte]; done) | omega | (simp only [go_sem, Nat.reduceAdd, Nat.reduceSub, Nat.reduceMul, Nat.reduceLeDiff, Nat.reduceEqDiff, Nat.reduceLT, Nat.reduceBEq, Nat.reduceBNe, Nat.reducePow, ↓reduceIte] <;> omega) | fail) only [go_sem, Nat.reduceAdd, Nat.reduceSub, Nat.reduceMul, Nat.reduceLeDiff, Nat.reduceEqDiff, Nat.reduceLT, Nat.reduceBEq, Nat.reduceBNe, Nat.reducePow, ↓reduceIte, nat_int, h, eNode_s, h1, wrap_succ h hl]
      exact hno (by simp [h1])
  · intro hI
    simp (maxSteps := 200000) (disch := first | (simp only [go_sem, Nat.reduceAdd, Nat.reduceSub, Nat.reduceMul, Nat.reduceLeDiff, Nat.reduceEqDiff, Nat.reduceLT, Nat.reduceBEq, Nat.reduceBNe, Nat.reducePow, ↓reduceIte]; done) | omega | (simp only [go_sem, Nat.reduceAdd, Nat.reduceSub, Nat.reduceMul, Nat.reduceLeDiff, Nat.reduceEqDiff, Nat.reduceLT, Nat.reduceBEq, Nat.reduceBNe, Nat.reducePow, ↓reduceIte] <;> omega) | fail) only [go_sem, Nat.reduceAdd, Nat.reduceSub, Nat.reduceMul, Nat.reduceLeDiff, Nat.reduceEqDiff, Nat.reduceLT, Nat.reduceBEq, Nat.reduceBNe, Nat.reducePow, ↓reduceIte, nat_int]
    rw [hI]
    simp [posI]
/-! What is cut. -/
mutual
def cutMN : Mk → Node → List Node
  | .mk o a k, n => if o then [if a then n else .mk n.name n.value (cutML k n.kids)] else []
def cutML : List Mk → List Node → List Node
  | m :: r, n :: s => cutMN m n ++ cutML r s
  | _, _ => []
end
theorem cutMN_s (m : Mk) (n : Node) : cutMN m n = if m.on then [if m.all then n else .mk n.name n.value (cutML m.kids n.kids)] else [] := by cases m; rw [cutMN]; rfl
theorem cutMN_len (m : Mk) (n : Node) : (cutMN m n).length ≤ 1 := by rw [cutMN_s]; split <;> simp
theorem cutML_len : ∀ (k : List Mk) (s : List Node), (cutML k s).length ≤ s.length
  | p :: r, n :: s => by have := cutML_len r s; have := cutMN_len p n; rw [cutML, List.length_append, List.length_cons]; omega
  | [], s => by simp [cutML]
  | p :: r, [] => by simp [cutML]
def optCut (o : Option Mk) (n : Node) : List Node := match o with
  | some m => cutMN m n
  | none => []
theorem cutML_take : ∀ (k : List Mk) (s : List Node) (i : Nat) (h2 : i < s.length), cutML k (s.take (i + 1)) = cutML k (s.take i) ++ optCut k[i]? s[i]
  | [], s, i, h2 => by simp [cutML, optCut]
  | p :: r, n :: s, 0, h2 => by simp [cutML, optCut]
  | p :: r, n :: s, i + 1, h2 => by
    simp only [List.take_succ_cons, List.getElem_cons_succ, List.getElem?_cons_succ]
    rw [cutML, cutML, cutML_take r s i (by simpa using h2), List.append_assoc]
theorem cutML_nil (k : List Mk) : cutML k [] = [] := by cases k <;> simp [cutML]
theorem nat_le {i n : Nat} : ((i : Int) ≤ (n : Int)) = (i ≤ n) := propext (by omega)
theorem refCut_spec : ∀ (f : Nat) (k : List Mk) (s : List Node), cntL s < f → f ≤ 1000000 → pureW XX 45 [lN s, lM k] = some (lN (cutML k s)) := by
  intro f
  induction f with
  | zero => intro k s h; omega
  | succ f ih =>
    intro k s hc hf
    have hls := len_cnt s
    refine pureW_in 50 Try.func45 Try.ntmps45 (by simp) (rfl : Try.f45.body = some _) fns_45 ?_
    simp (maxSteps := 200000) (disch := first | (simp only [go_sem, Nat.reduceAdd, Nat.reduceSub, Nat.reduceMul, Nat.reduceLeDiff, Nat.reduceEqDiff, Nat.reduceLT, Nat.reduceBEq, Nat.reduceBNe, Nat.reducePow, ↓reduceIte]; done) | omega | (simp only [go_sem, Nat.reduceAdd, Nat.reduceSub, Nat.reduceMul, Nat.reduceLeDiff, Nat.reduceEqDiff, Nat.reduceLT, Nat.reduceBEq, Nat.reduceBNe, Nat.reducePow, ↓reduceIte] <;> omega) | fail) only [go_sem, Nat.reduceAdd, Nat.reduceSub, Nat.reduceMul, Nat.reduceLeDiff, Nat.reduceEqDiff, Nat.reduceLT, Nat.reduceBEq, Nat.reduceBNe, Nat.reducePow, ↓reduceIte]
    refine WP_range 3 1 s.length (fun i => S_45_3 (lN s) (lM k) (.sl 0 0 (cutML k (s.take i)).length false) (vI i) [.arr 59 3 ((cutML k (s.take i)).map eNode)]) (fun _ => True) rfl rfl ?_ ?_ ?_ ?_
    · simp (maxSteps := 200000) (disch := first | (simp only [go_sem, Nat.reduceAdd, Nat.reduceSub, Nat.reduceMul, Nat.reduceLeDiff, Nat.reduceEqDiff, Nat.reduceLT, Nat.reduceBEq, Nat.reduceBNe, Nat.reducePow, ↓reduceIte]; done) | omega | (simp only [go_sem, Nat.reduceAdd, Nat.reduceSub, Nat.reduceMul, Nat.reduceLeDiff, Nat.reduceEqDiff, Nat.reduceLT, Nat.reduceBEq, Nat.reduceBNe, Nat.reducePow, ↓reduceIte] <;> omega) | fail) only [go_sem, Nat.reduceAdd, Nat.reduceSub, Nat.reduceMul, Nat.reduceLeDiff, Nat.reduceEqDiff, Nat.reduceLT, Nat.reduceBEq, Nat.reduceBNe, Nat.reducePow, ↓reduceIte]
      rw [cutML_nil]
      rfl
    · trivial
    · intro i h _
      have hol := cutML_len k (s.take i)
      rw [List.length_take] at hol
      have hws := wrap_succ h (show s.length ≤ 140737488355328 by omega)
      rw [cutML_take k s i h]
      generalize cutML k (s.take i) = base at *
      generalize hM : optCut k[i]? s[i] = M
      by_cases hk : i < k.length
      case neg =>
        have hk2 : k.length ≤ i := by omega
        rw [List.getElem?_eq_none hk2] at hM
        simp only [optCut] at hM
        subst hM
        rw [List.append_nil]
        simp (maxSteps := 200000) (disch := first | (simp only [go_sem, Nat.reduceAdd, Nat.reduceSub, Nat.reduceMul, Nat.reduceLeDiff, Nat.reduceEqDiff, Nat.reduceLT, Nat.reduceBEq, Nat.reduceBNe, Nat.reducePow, ↓reduceIte]; done) | omega | (simp only [go_sem, Nat.reduceAdd, Nat.reduceSub, Nat.reduceMul, Nat.reduceLeDiff, Nat.reduceEqDiff, Nat.reduceLT, Nat.reduceBEq, Nat.reduceBNe, Nat.reducePow, ↓reduceIte] <;> omega) | fail) only [go_sem, Nat.reduceAdd, Nat.reduceSub, Nat.reduceMul, Nat.reduceLeDiff, Nat.reduceEqDiff, Nat.reduceLT, Nat.reduceBEq, Nat.reduceBNe, Nat.reducePow, ↓reduceIte, nat_int, nat_le, h, hk2, hws]
      have hk2 : ¬ k.length ≤ i := by omega
      rw [List.getElem?_eq_getElem hk] at hM
      simp only [optCut, cutMN_s] at hM
      cases ho : k[i].on with
      | false =>
        rw [ho, if_neg (by simp)] at hM
        subst hM
        rw [List.append_nil]
        simp (maxSteps := 200000) (disch := first | (simp only [go_sem, Nat.reduceAdd, Nat.reduceSub, Nat.reduceMul, Nat.reduceLeDiff, Nat.reduceEqDiff, Nat.reduceLT, Nat.reduceBEq, Nat.reduceBNe, Nat.reducePow, ↓reduceIte]; done) | omega | (simp only [go_sem, Nat.reduceAdd, Nat.reduceSub, Nat.reduceMul, Nat.reduceLeDiff, Nat.reduceEqDiff, Nat.reduceLT, Nat.reduceBEq, Nat.reduceBNe, Nat.reducePow, ↓reduceIte] <;> omega) | fail) only [go_sem, Nat.reduceAdd, Nat.reduceSub, Nat.reduceMul, Nat.reduceLeDiff, Nat.reduceEqDiff, Nat.reduceLT, Nat.reduceBEq, Nat.reduceBNe, Nat.reducePow, ↓reduceIte, nat_int, nat_le, h, hk, hk2, eMk_s, ho, hws]
      | true =>
        rw [ho, if_pos rfl] at hM
        cases ha : k[i].all with
        | true =>
          rw [ha, if_pos rfl] at hM
          subst hM
          simp (maxSteps := 200000) (disch := first | (simp only [go_sem, Nat.reduceAdd, Nat.reduceSub, Nat.reduceMul, Nat.reduceLeDiff, Nat.reduceEqDiff, Nat.reduceLT, Nat.reduceBEq, Nat.reduceBNe, Nat.reducePow, ↓reduceIte]; done) | omega | (simp only [go_sem, Nat.reduceAdd, Nat.reduceSub, Nat.reduceMul, Nat.reduceLeDiff, Nat.reduceEqDiff, Nat.reduceLT, Nat.reduceBEq, Nat.reduceBNe, Nat.reducePow, ↓reduceIte] <;> omega) | fail) only [go_sem, Nat.reduceAdd, Nat.reduceSub, Nat.reduceMul, Nat.reduceLeDiff, Nat.reduceEqDiff, Nat.reduceLT, Nat.reduceBEq, Nat.reduceBNe, Nat.reducePow, ↓reduceIte, nat_int, nat_le, h, hk, hk2, eMk_s, eNode_s, ho, ha, hws]
          rw [node_mk]
        | false =>
          rw [ha, if_neg (by simp)] at hM
          subst hM
          have hcut := ih k[i].kids s[i].kids (by have := cnt_kids h; omega) (by omega)
          simp (maxSteps := 200000) (disch := first | (simp only [go_sem, Nat.reduceAdd, Nat.reduceSub, Nat.reduceMul, Nat.reduceLeDiff, Nat.reduceEqDiff, Nat.reduceLT, Nat.reduceBEq, Nat.reduceBNe, Nat.reducePow, ↓reduceIte]; done) | omega | (simp only [go_sem, Nat.reduceAdd, Nat.reduceSub, Nat.reduceMul, Nat.reduceLeDiff, Nat.reduceEqDiff, Nat.reduceLT, Nat.reduceBEq, Nat.reduceBNe, Nat.reducePow, ↓reduceIte] <;> omega) | fail) only [go_sem, Nat.reduceAdd, Nat.reduceSub, Nat.reduceMul, Nat.reduceLeDiff, Nat.reduceEqDiff, Nat.reduceLT, Nat.reduceBEq, Nat.reduceBNe, Nat.reducePow, ↓reduceIte, nat_int, nat_le, h, hk, hk2, eMk_s, eNode_s, ho, ha, hws, callA_data mode_45, hcut]
    · intro _
      simp (maxSteps := 200000) (disch := first | (simp only [go_sem, Nat.reduceAdd, Nat.reduceSub, Nat.reduceMul, Nat.reduceLeDiff, Nat.reduceEqDiff, Nat.reduceLT, Nat.reduceBEq, Nat.reduceBNe, Nat.reducePow, ↓reduceIte]; done) | omega | (simp only [go_sem, Nat.reduceAdd, Nat.reduceSub, Nat.reduceMul, Nat.reduceLeDiff, Nat.reduceEqDiff, Nat.reduceLT, Nat.reduceBEq, Nat.reduceBNe, Nat.reducePow, ↓reduceIte] <;> omega) | fail) only [go_sem, Nat.reduceAdd, Nat.reduceSub, Nat.reduceMul, Nat.reduceLeDiff, Nat.reduceEqDiff, Nat.reduceLT, Nat.reduceBEq, Nat.reduceBNe, Nat.reducePow, ↓reduceIte, nat_int, List.take_length]
end Go.Abs.SA
end

section
set_option linter.unusedVariables false
set_option linter.unusedSimpArgs false
set_option maxRecDepth 100000
set_option maxHeartbeats 4000000
set_option linter.unusedSimpArgs false
set_option linter.unusedVariables false
namespace Go.Abs.SA
open Go.Proofs

abbrev onM : Mk := .mk true true []
/-- The tests of an element, as the document has it. -/
def scanM (kd : List Def) (ns : List Node) : List Elem → List Mk → Bool → List Elem → Option (List Mk × Bool × List Elem)
  | [], out, m, rest => some (out, m, rest)
  | k :: r, out, m, rest => if isTest kd k then (match leafAt ns k with
      | none => none
      | some i => scanM kd ns r (out.set i onM) true rest) else scanM kd ns r out m (rest ++ [k])
def keyedM (keys : List Str) : List Node → List Mk → List Mk
  | n :: s, p :: r => (if has keys n.name then onM else p) :: keyedM keys s r
  | _, r => r
def zipM : List Mk → List Mk → List Mk
  | x :: r, y :: s => bothM x y :: zipM r s
  | _, _ => []
mutual
/-- What one element chooses of a node, as the document has it. -/
def oneD : Def → Node → Elem → Mk
  | .mk nm kind t v ms ks kd, n, f =>
    if kind = 3 then .mk (decide (f.kids = [] ∧ (f.text = ⟨#[]⟩ ∨ f.text = n.value)) ) (decide (f.kids = [] ∧ (f.text = ⟨#[]⟩ ∨ f.text = n.value))) []
    else if f.text ≠ ⟨#[]⟩ then offM
    else if f.kids = [] then onM
    else match scanM kd n.kids f.kids (List.replicate n.kids.length offM) false [] with
      | none => offM
      | some (out, m, rest) =>
        if m = true ∧ rest = [] then onM
        else if (m || (n.kids.map fun x => markN kd x rest).any Mk.on) = false then offM
        else .mk true false (keyedM ks n.kids (zipM out (n.kids.map fun x => markN kd x rest)))
/-- What elements choose of a node, as the document has it. -/
def markN : List Def → Node → List Elem → Mk
  | [], _, _ => offM
  | d :: r, n, fs => if d.name = n.name then fs.foldl (fun p f => if f.name = n.name then bothM p (oneD d n f) else p) offM else markN r n fs
end
/-! The two say the same. -/
mutual
def rel : Mk → Pk → Prop
  | m, .nil => m = offM
  | m, .mk true _ => m.on = true ∧ m.all = true
  | m, .mk false k => m.on = true ∧ m.all = false ∧ relL m.kids k
def relL : List Mk → List Pk → Prop
  | [], [] => True
  | m :: r, p :: s => rel m p ∧ relL r s
  | _, _ => False
end
end Go.Abs.SA
end

section
set_option linter.unusedVariables false
set_option linter.unusedSimpArgs false
set_option maxRecDepth 100000
set_option maxHeartbeats 4000000
set_option linter.unusedSimpArgs false
set_option linter.unusedVariables false
namespace Go.Abs.SA
open Go.Proofs

theorem relL_iff : ∀ {k : List Mk} {s : List Pk}, relL k s ↔ k.length = s.length ∧ ∀ (i : Nat) (h1 : i < k.length) (h2 : i < s.length), rel k[i] s[i]
  | [], [] => by simp [relL]
  | m :: r, [] => by simp [relL]
  | [], p :: s => by simp [relL]
  | m :: r, p :: s => by
    rw [relL, relL_iff (k := r) (s := s)]
    constructor
    · rintro ⟨h1, h2, h3⟩
      refine ⟨by simp [h2], fun i a b => ?_⟩
      cases i with
      | zero => exact h1
      | succ i => exact h3 i (by simpa using a) (by simpa using b)
    · rintro ⟨h1, h2⟩
      exact ⟨h2 0 (by simp) (by simp), by simpa using h1, fun i a b => h2 (i + 1) (by simpa using a) (by simpa using b)⟩
theorem rel_nil {m : Mk} : rel m .nil ↔ m = offM := by rw [rel]
theorem rel_all {m : Mk} {k : List Pk} : rel m (.mk true k) ↔ m.on = true ∧ m.all = true := by rw [rel]
theorem rel_some {m : Mk} {k : List Pk} : rel m (.mk false k) ↔ m.on = true ∧ m.all = false ∧ relL m.kids k := by rw [rel]
theorem rel_on {m : Mk} {p : Pk} (h : rel m p) : m.on = !isNil p := by
  cases p with
  | nil => rw [rel_nil] at h; subst h; rfl
  | mk a k =>
    cases a with
    | true => rw [rel_all] at h; rw [h.1]; rfl
    | false => rw [rel_some] at h; rw [h.1]; rfl
theorem rel_both : ∀ (f : Nat) {m m' : Mk} {p p' : Pk} {n : Node}, cntN n < f → fitP p n → fitP p' n → rel m p → rel m' p' → rel (bothM m m') (joinP p p') := by
  intro f
  induction f with
  | zero => intro m m' p p' n h; omega
  | succ f ih =>
    intro m m' p p' n hc hf hf' hm hm'
    cases p with
    | nil =>
      rw [rel_nil] at hm
      subst hm
      rw [off_bothM, joinP]
      exact hm'
    | mk a k =>
      cases p' with
      | nil =>
        rw [rel_nil] at hm'
        subst hm'
        rw [bothM_off, joinP]
        exact hm
      | mk b k2 =>
        rw [joinP, bothM_s]
        cases a with
        | true =>
          rw [rel_all] at hm
          simp only [Bool.true_or, if_true]
          rw [rel_all]
          simp [Mk.on, Mk.all, hm.1, hm.2]
          have h1 := hm.1
          have h2 := hm.2
          simp only [Mk.on, Mk.all] at h1 h2
          simp [h1, h2]
        | false =>
          cases b with
          | true =>
            rw [rel_all] at hm'
            simp only [Bool.or_true, if_true]
            rw [rel_all, mk_on, mk_all, hm'.1, hm'.2]
            simp
          | false =>
            rw [rel_some] at hm hm'
            simp only [Bool.or_self, Bool.false_eq_true, if_false]
            rw [rel_some, mk_on, mk_all, mk_kids, hm.1, hm.2.1, hm'.2.1]
            refine ⟨rfl, rfl, ?_⟩
            rw [fitP] at hf hf'
            have g1 : fitL k n.kids := by simpa using hf
            have g2 : fitL k2 n.kids := by simpa using hf'
            have l1 := fitL_len g1
            have l2 := fitL_len g2
            obtain ⟨r1, r2⟩ := relL_iff.1 hm.2.2
            obtain ⟨s1, s2⟩ := relL_iff.1 hm'.2.2
            rw [relL_iff]
            refine ⟨by rw [bothL_len, joinL_len]; omega, fun i h1 h2 => ?_⟩
            have hl := bothL_len m.kids m'.kids
            have hj := joinL_len k k2
            have hi1 : i < m.kids.length := by omega
            have hi2 : i < m'.kids.length := by omega
            have hi3 : i < n.kids.length := by omega
            rw [bothL_get, joinL_get k k2 i (by omega) (by omega)]
            rw [List.getD_eq_getElem?_getD, List.getD_eq_getElem?_getD, List.getElem?_eq_getElem hi1, List.getElem?_eq_getElem hi2]
            refine ih (n := n.kids[i]) ?_ (fitL_get g1 (by omega) hi3) (fitL_get g2 (by omega) hi3) (r2 i hi1 (by omega)) (s2 i hi2 (by omega))
            have := cnt_mem (List.getElem_mem hi3)
            rw [cntN_s] at hc; omega
theorem rel_whole : rel onM wholeP := by rw [rel_all]; exact ⟨rfl, rfl⟩
theorem rel_off : rel offM .nil := by rw [rel_nil]
theorem relL_rep (n : Nat) : relL (List.replicate n offM) (List.replicate n .nil) := by
  rw [relL_iff]
  refine ⟨by simp, fun i h1 h2 => ?_⟩
  rw [List.getElem_replicate, List.getElem_replicate]
  exact rel_off
theorem relL_set {k : List Mk} {s : List Pk} (h : relL k s) (i : Nat) : relL (k.set i onM) (s.set i wholeP) := by
  rw [relL_iff] at h ⊢
  refine ⟨by simpa using h.1, fun j h1 h2 => ?_⟩
  rw [List.getElem_set, List.getElem_set]
  split
  · exact rel_whole
  · exact h.2 j (by simpa using h1) (by simpa using h2)
theorem scan_rel (kd : List Def) (ns : List Node) : ∀ (es : List Elem) (om : List Mk) (op : List Pk) (b : Bool) (rest : List Elem), relL om op →
    (scanM kd ns es om b rest = none ∧ scan kd ns es op b rest = none) ∨ ∃ om' op' b' r', scanM kd ns es om b rest = some (om', b', r') ∧ scan kd ns es op b rest = some (op', b', r') ∧ relL om' op'
  | [], om, op, b, rest, h => .inr ⟨om, op, b, rest, by rw [scanM], by rw [scan], h⟩
  | k :: r, om, op, b, rest, h => by
    rw [scanM, scan]
    split
    · cases leafAt ns k with
      | none => exact .inl ⟨rfl, rfl⟩
      | some i => exact scan_rel kd ns r _ _ _ _ (relL_set h i)
    · exact scan_rel kd ns r _ _ _ _ h
end Go.Abs.SA
end

section
set_option linter.unusedVariables false
set_option linter.unusedSimpArgs false
set_option maxRecDepth 100000
set_option maxHeartbeats 4000000
set_option linter.unusedSimpArgs false
set_option linter.unusedVariables false
namespace Go.Abs.SA
open Go.Proofs

theorem leafAt_lt {ns : List Node} {k : Elem} {i : Nat} (h : leafAt ns k = some i) : i < ns.length := by
  unfold leafAt at h
  rw [List.findIdx?_eq_some_iff_getElem] at h
  exact h.1
theorem all_set {l : List Pk} {i : Nat} (h : i < l.length) : (l.set i wholeP).all isNil = false := by
  rw [List.all_eq_false]
  exact ⟨wholeP, List.mem_iff_getElem.2 ⟨i, by simpa using h, by simp⟩, by simp [isNil]⟩
theorem scan_any (kd : List Def) (ns : List Node) : ∀ (es : List Elem) (out : List Pk) (m : Bool) (rest : List Elem) (o' : List Pk) (m' : Bool) (r' : List Elem), out.length = ns.length → out.all isNil = !m → scan kd ns es out m rest = some (o', m', r') → o'.length = ns.length ∧ o'.all isNil = !m'
  | [], out, m, rest, o', m', r', hl, h, hs => by rw [scan] at hs; cases hs; exact ⟨hl, h⟩
  | k :: r, out, m, rest, o', m', r', hl, h, hs => by
    rw [scan] at hs
    split at hs
    · split at hs
      · cases hs
      · rename_i i hi
        have := leafAt_lt hi
        exact scan_any kd ns r _ _ _ _ _ _ (by simpa using hl) (by rw [all_set (by omega)]; rfl) hs
    · exact scan_any kd ns r _ _ _ _ _ _ hl h hs
theorem rep_all (n : Nat) : (List.replicate n Pk.nil).all isNil = true := by
  rw [List.all_eq_true]
  intro x hx
  rw [List.eq_of_mem_replicate hx]; rfl
theorem joinP_nil (p q : Pk) : isNil (joinP p q) = (isNil p && isNil q) := by
  cases p with
  | nil => rw [joinP]; rfl
  | mk a k => cases q with
    | nil => rw [joinP]; rfl
    | mk b m => rw [joinP]; split <;> rfl
theorem joinL_nil : ∀ (k m : List Pk), k.length = m.length → (joinL k m).all isNil = (k.all isNil && m.all isNil)
  | [], [], _ => by rw [joinL]; rfl; intros; simp_all
  | p :: r, q :: s, h => by
    rw [joinL, List.all_cons, List.all_cons, List.all_cons, joinP_nil, joinL_nil r s (by simpa using h)]
    cases isNil p <;> cases isNil q <;> simp
theorem relL_any : ∀ {k : List Mk} {s : List Pk}, relL k s → k.any Mk.on = !s.all isNil
  | [], [], _ => rfl
  | m :: r, p :: s, h => by
    rw [relL] at h
    rw [List.any_cons, List.all_cons, rel_on h.1, relL_any h.2]
    cases isNil p <;> simp
  | [], p :: s, h => by simp [relL] at h
  | m :: r, [], h => by simp [relL] at h
theorem zip_rel : ∀ {a b : List Mk} {k s : List Pk} {ns : List Node}, relL a k → relL b s → fitL k ns → fitL s ns → relL (zipM a b) (joinL k s)
  | [], [], [], [], [], _, _, _, _ => by rw [zipM, joinL]; rw [relL]; trivial; all_goals (intros; simp_all)
  | m :: a, m' :: b, p :: k, q :: s, n :: ns, h1, h2, f1, f2 => by
    rw [relL] at h1 h2
    rw [fitL] at f1 f2
    rw [zipM, joinL, relL]
    exact ⟨rel_both (cntN n + 1) (by omega) f1.1 f2.1 h1.1 h2.1, zip_rel h1.2 h2.2 f1.2 f2.2⟩
  | [], _ :: _, [], [], _, _, h, _, _ => by simp [relL] at h
  | [], _, _ :: _, _, _, h, _, _, _ => by simp [relL] at h
  | _ :: _, _, [], _, _, h, _, _, _ => by simp [relL] at h
  | _, [], _, _ :: _, _, _, h, _, _ => by simp [relL] at h
  | _, _ :: _, _, [], _, _, h, _, _ => by simp [relL] at h
  | _, _, [], _, _ :: _, _, _, h, _ => by simp [fitL] at h
  | _, _, _ :: _, _, [], _, _, h, _ => by simp [fitL] at h
  | _, _, _, [], _ :: _, _, _, _, h => by simp [fitL] at h
  | _, _, _, _ :: _, [], _, _, _, h => by simp [fitL] at h
theorem keyed_rel (keys : List Str) : ∀ {s : List Node} {k : List Mk} {p : List Pk}, relL k p → relL (keyedM keys s k) (keyed keys s p)
  | n :: s, m :: k, q :: p, h => by
    rw [relL] at h
    rw [keyedM, keyed, relL]
    refine ⟨?_, keyed_rel keys h.2⟩
    split
    · exact rel_whole
    · exact h.1
  | [], k, p, h => by rw [keyedM, keyed]; exact h; all_goals (intros; simp_all)
  | n :: s, [], [], h => by rw [keyedM, keyed]; exact h; all_goals (intros; simp_all)
  | n :: s, m :: k, [], h => by simp [relL] at h
  | n :: s, [], q :: p, h => by simp [relL] at h
theorem relL_map {ns : List Node} {g : Node → Mk} {h : Node → Pk} (hr : ∀ x ∈ ns, rel (g x) (h x)) : relL (ns.map g) (ns.map h) := by
  rw [relL_iff]
  refine ⟨by simp, fun i h1 h2 => ?_⟩
  rw [List.getElem_map, List.getElem_map]
  exact hr _ (List.getElem_mem _)
mutual
theorem one_rel : ∀ (d : Def) (n : Node) (f : Elem), rel (oneD d n f) (fitsD d n f)
  | .mk nm kind t v ms ks kd, n, f => by
    rw [oneD, fitsD]
    split
    · by_cases hb : f.kids = [] ∧ (f.text = ⟨#[]⟩ ∨ f.text = n.value)
      · rw [decide_eq_true hb, if_neg]
        · exact rel_whole
        · rintro (h | ⟨h1, h2⟩)
          · exact h hb.1
          · exact hb.2.elim h1 h2
      · rw [decide_eq_false hb, if_pos]
        · exact rel_off
        · by_cases h1 : f.kids = []
          · refine .inr ⟨fun h => hb ⟨h1, .inl h⟩, fun h => hb ⟨h1, .inr h⟩⟩
          · exact .inl h1
    · split
      · exact rel_off
      · split
        · exact rel_whole
        · have hlr := relL_rep n.kids.length
          rcases scan_rel kd n.kids f.kids _ _ false [] hlr with ⟨e1, e2⟩ | ⟨om, op, b, r, e1, e2, hr⟩
          · rw [e1, e2]; exact rel_off
          · rw [e1, e2]
            simp only
            obtain ⟨hl, ha⟩ := scan_any kd n.kids _ _ _ _ _ _ _ (by simp) (by rw [rep_all]; rfl) e2
            have hfit := scan_fit kd n.kids _ _ _ _ _ _ _ (fitL_rep _) e2
            have hfs := mapPick_fit (s := n.kids) (g := fun x => pickN kd x r) (fun x _ => pick_fit kd x r)
            have hms := relL_map (ns := n.kids) (g := fun x => markN kd x r) (h := fun x => pickN kd x r) (fun x _ => mark_rel kd x r)
            split
            · exact rel_whole
            · rw [joinL_nil _ _ (by simp [hl]), ha, relL_any hms]
              cases hc : (b || !(n.kids.map fun x => pickN kd x r).all isNil) with
              | true =>
                rw [if_neg (by simp), if_neg (by
                  revert hc
                  cases b <;> simp)]
                rw [rel_some]
                exact ⟨rfl, rfl, keyed_rel ks (zip_rel hr hms hfit hfs)⟩
              | false =>
                rw [if_pos rfl, if_pos (by
                  revert hc
                  cases b <;> simp)]
                exact rel_off
theorem mark_rel : ∀ (l : List Def) (n : Node) (fs : List Elem), rel (markN l n fs) (pickN l n fs)
  | [], n, fs => by rw [markN, pickN]; exact rel_off
  | d :: r, n, fs => by
    rw [markN, pickN]
    split
    · have : ∀ (fs : List Elem) (m : Mk) (p : Pk), rel m p → fitP p n → rel (fs.foldl (fun p f => if f.name = n.name then bothM p (oneD d n f) else p) m) (fs.foldl (fun p f => if f.name = n.name then joinP p (fitsD d n f) else p) p) := by
        intro fs
        induction fs with
        | nil => intro m p h _; exact h
        | cons f fs ih =>
          intro m p h hp
          rw [List.foldl_cons, List.foldl_cons]
          have hf := fits_fit d n f
          split
          · exact ih _ _ (rel_both (cntN n + 1) (by omega) hp hf h (one_rel d n f)) (fit_join (cntN n + 1) (by omega) hp hf)
          · exact ih _ _ h hp
      exact this fs _ _ rel_off (fit_nil _)
    · exact mark_rel r n fs
end
mutual
theorem cut_rel : ∀ (p : Pk) (m : Mk) (n : Node), rel m p → cutMN m n = cutN p n
  | .nil, m, n, h => by rw [rel_nil] at h; subst h; rw [cutMN_s, cutN]; rfl
  | .mk true k, m, n, h => by rw [rel_all] at h; rw [cutMN_s, cutN, h.1, h.2]; rfl
  | .mk false k, m, n, h => by
    rw [rel_some] at h
    rw [cutMN_s, cutN, h.1, h.2.1, cutL_rel k m.kids n.kids h.2.2]; rfl
theorem cutL_rel : ∀ (k : List Pk) (l : List Mk) (s : List Node), relL l k → cutML l s = cutL k s
  | [], [], s, h => by simp [cutML, cutL]
  | p :: k, m :: l, [], h => by simp [cutML, cutL]
  | p :: k, m :: l, n :: s, h => by
    rw [relL] at h
    rw [cutML, cutL, cut_rel p m n h.1, cutL_rel k l s h.2]
  | [], m :: l, s, h => by simp [relL] at h
  | p :: k, [], s, h => by simp [relL] at h
end
/-- Both leave the same. -/
theorem filters_same (l : List Def) (nodes : List Node) (fs : List Elem) : cutML (nodes.map fun x => markN l x fs) nodes = sieveF l nodes fs :=
  cutL_rel _ _ _ (relL_map fun x _ => mark_rel l x fs)
end Go.Abs.SA
end

section
set_option linter.unusedVariables false
set_option linter.unusedSimpArgs false
set_option maxRecDepth 100000
set_option maxHeartbeats 4000000
set_option linter.unusedSimpArgs false
set_option linter.unusedVariables false
namespace Go.Abs.SA
open Go.Proofs

mutual
/-- A mark of a node: no more marks than nodes. -/
def fitM : Mk → Node → Prop
  | .mk _ _ k, n => fitML k n.kids
def fitML : List Mk → List Node → Prop
  | [], _ => True
  | m :: r, n :: s => fitM m n ∧ fitML r s
  | _ :: _, [] => False
end
theorem fitM_s (m : Mk) (n : Node) : fitM m n = fitML m.kids n.kids := by cases m; rw [fitM]; rfl
theorem fitML_nil (s : List Node) : fitML [] s := by rw [fitML]; trivial
mutual
theorem fitM_both : ∀ (x : Mk) (y : Mk) (n : Node), fitM x n → fitM y n → fitM (bothM x y) n
  | .mk o a k, y, n, hx, hy => by
    rw [fitM] at hx
    rw [fitM_s] at hy
    rw [bothM, fitM]
    exact fitML_both k y.kids n.kids hx hy
theorem fitML_both : ∀ (k s : List Mk) (ns : List Node), fitML k ns → fitML s ns → fitML (bothL k s) ns
  | [], s, ns, h1, h2 => by rw [bothL]; exact h2
  | x :: r, [], ns, h1, h2 => by rw [bothL]; exact h1
  | x :: r, y :: s, [], h1, h2 => by simp [fitML] at h1
  | x :: r, y :: s, n :: ns, h1, h2 => by
    rw [fitML] at h1 h2
    rw [bothL, fitML]
    exact ⟨fitM_both x y n h1.1 h2.1, fitML_both r s ns h1.2 h2.2⟩
end
theorem fitM_off (n : Node) : fitM offM n := by rw [fitM]; exact fitML_nil _
theorem fitM_on (n : Node) : fitM onM n := by rw [fitM]; exact fitML_nil _
theorem fitML_rep : ∀ (s : List Node), fitML (List.replicate s.length offM) s
  | [] => by simp [fitML]
  | n :: s => by rw [List.length_cons, List.replicate_succ, fitML]; exact ⟨fitM_off n, fitML_rep s⟩
theorem fitML_set : ∀ (k : List Mk) (s : List Node) (i : Nat), fitML k s → fitML (k.set i onM) s
  | [], s, i, h => by simpa using h
  | m :: k, [], i, h => by simp [fitML] at h
  | m :: k, n :: s, 0, h => by rw [fitML] at h; rw [List.set_cons_zero, fitML]; exact ⟨fitM_on n, h.2⟩
  | m :: k, n :: s, i + 1, h => by rw [fitML] at h; rw [List.set_cons_succ, fitML]; exact ⟨h.1, fitML_set k s i h.2⟩
theorem fitML_scan (kd : List Def) (ns : List Node) : ∀ (es : List Elem) (out : List Mk) (m : Bool) (rest : List Elem) (o' : List Mk) (m' : Bool) (r' : List Elem), fitML out ns → scanM kd ns es out m rest = some (o', m', r') → fitML o' ns
  | [], out, m, rest, o', m', r', h, hs => by rw [scanM] at hs; cases hs; exact h
  | k :: r, out, m, rest, o', m', r', h, hs => by
    rw [scanM] at hs
    split at hs
    · split at hs
      · cases hs
      · exact fitML_scan kd ns r _ _ _ _ _ _ (fitML_set _ _ _ h) hs
    · exact fitML_scan kd ns r _ _ _ _ _ _ h hs
theorem fitML_keyed (keys : List Str) : ∀ (s : List Node) (k : List Mk), fitML k s → fitML (keyedM keys s k) s
  | n :: s, p :: r, h => by
    rw [fitML] at h
    rw [keyedM, fitML]
    refine ⟨?_, fitML_keyed keys s r h.2⟩
    split
    · exact fitM_on _
    · exact h.1
  | [], k, h => by rw [keyedM]; exact h; all_goals (intros; simp_all)
  | n :: s, [], h => by rw [keyedM]; exact h; all_goals (intros; simp_all)
theorem fitML_zip : ∀ (k s : List Mk) (ns : List Node), fitML k ns → fitML s ns → fitML (zipM k s) ns
  | [], s, ns, h1, h2 => by rw [zipM]; exact fitML_nil _; all_goals (intros; simp_all)
  | x :: r, [], ns, h1, h2 => by rw [zipM]; exact fitML_nil _; all_goals (intros; simp_all)
  | x :: r, y :: s, [], h1, h2 => by simp [fitML] at h1
  | x :: r, y :: s, n :: ns, h1, h2 => by
    rw [fitML] at h1 h2
    rw [zipM, fitML]
    exact ⟨fitM_both x y n h1.1 h2.1, fitML_zip r s ns h1.2 h2.2⟩
theorem fitML_map {g : Node → Mk} : ∀ (s : List Node), (∀ x ∈ s, fitM (g x) x) → fitML (s.map g) s
  | [], h => by simp [fitML]
  | n :: s, h => by rw [List.map_cons, fitML]; exact ⟨h n (by simp), fitML_map s fun x hx => h x (by simp [hx])⟩
mutual
theorem one_fit : ∀ (d : Def) (n : Node) (f : Elem), fitM (oneD d n f) n
  | .mk nm kind t v ms ks kd, n, f => by
    rw [oneD]
    split
    · rw [fitM]; exact fitML_nil _
    · split
      · exact fitM_off _
      · split
        · exact fitM_on _
        · split
          · exact fitM_off _
          · rename_i out m rest hsc
            split
            · exact fitM_on _
            · split
              · exact fitM_off _
              · rw [fitM]
                exact fitML_keyed ks _ _ (fitML_zip _ _ _ (fitML_scan _ _ _ _ _ _ _ _ _ (fitML_rep _) hsc) (fitML_map _ fun x _ => mark_fit kd x rest))
theorem mark_fit : ∀ (l : List Def) (n : Node) (fs : List Elem), fitM (markN l n fs) n
  | [], n, fs => by rw [markN]; exact fitM_off _
  | d :: r, n, fs => by
    rw [markN]
    split
    · have : ∀ (fs : List Elem) (p : Mk), fitM p n → fitM (fs.foldl (fun p f => if f.name = n.name then bothM p (oneD d n f) else p) p) n := by
        intro fs
        induction fs with
        | nil => intro p hp; exact hp
        | cons f fs ih =>
          intro p hp
          rw [List.foldl_cons]
          apply ih
          split
          · exact fitM_both _ _ _ hp (one_fit d n f)
          · exact hp
      exact this fs _ (fitM_off _)
    · exact mark_fit r n fs
end
mutual
theorem fitM_cnt : ∀ (m : Mk) (n : Node), fitM m n → cntM m ≤ cntN n
  | .mk o a k, n, h => by
    rw [fitM] at h
    have := fitML_cnt k n.kids h
    rw [cntM, cntN_s]; omega
theorem fitML_cnt : ∀ (k : List Mk) (s : List Node), fitML k s → cntMs k ≤ cntL s
  | [], s, h => by rw [cntMs]; omega
  | m :: k, [], h => by simp [fitML] at h
  | m :: k, n :: s, h => by
    rw [fitML] at h
    have h1 := fitM_cnt m n h.1
    have h2 := fitML_cnt k s h.2
    rw [cntMs, cntL_cons]; omega
end
theorem zipM_len : ∀ (k s : List Mk), (zipM k s).length = min k.length s.length
  | [], s => by rw [zipM]; simp; all_goals (intros; simp_all)
  | x :: r, [] => by rw [zipM]; simp; all_goals (intros; simp_all)
  | x :: r, y :: s => by rw [zipM, List.length_cons, zipM_len r s]; simp
theorem zipM_get : ∀ (k s : List Mk) (i : Nat) (h1 : i < k.length) (h2 : i < s.length) (h3 : i < (zipM k s).length), (zipM k s)[i] = bothM k[i] s[i]
  | p :: r, q :: s, 0, h1, h2, h3 => by simp [zipM]
  | p :: r, q :: s, i + 1, h1, h2, h3 => by
    simp only [zipM, List.getElem_cons_succ]
    exact zipM_get r s i (by simpa using h1) (by simpa using h2) _
theorem keyedM_len (keys : List Str) : ∀ (s : List Node) (k : List Mk), (keyedM keys s k).length = k.length
  | n :: s, p :: r => by rw [keyedM]; simp [keyedM_len keys s r]
  | [], k => by rw [keyedM]; all_goals (intros; simp_all)
  | n :: s, [] => by rw [keyedM]; all_goals (intros; simp_all)
theorem keyedM_get (keys : List Str) : ∀ (s : List Node) (k : List Mk) (j : Nat) (hj : j < k.length) (hs : j < s.length) (h3 : j < (keyedM keys s k).length), (keyedM keys s k)[j] = if has keys s[j].name = true then onM else k[j]
  | n :: s, p :: r, 0, hj, hs, h3 => by simp [keyedM]
  | n :: s, p :: r, j + 1, hj, hs, h3 => by
    simp only [keyedM, List.getElem_cons_succ]
    exact keyedM_get keys s r j (by simpa using hj) (by simpa using hs) _
/-- The first i of one list, the rest of another. -/
def mixM (T out : List Mk) (i : Nat) : List Mk := T.take i ++ out.drop i
theorem mixM_len {T out : List Mk} (h : T.length = out.length) (i : Nat) : (mixM T out i).length = out.length := by simp [mixM]; omega
theorem mixM_zero (T out : List Mk) : mixM T out 0 = out := by simp [mixM]
theorem mixM_all {T out : List Mk} (h : T.length = out.length) : mixM T out T.length = T := by
  unfold mixM; rw [List.take_length, List.drop_of_length_le (by omega), List.append_nil]
theorem mixM_get {T out : List Mk} (h : T.length = out.length) {i : Nat} (hi : i < out.length) (h3 : i < (mixM T out i).length) : (mixM T out i)[i] = out[i] := by
  have e : (mixM T out i)[i]? = some out[i] := by
    unfold mixM
    rw [List.getElem?_append_right (by simp; omega), List.getElem?_drop]
    have : i + (i - (T.take i).length) = i := by simp; omega
    rw [this, List.getElem?_eq_getElem hi]
  rw [List.getElem?_eq_getElem h3] at e
  exact Option.some.inj e
theorem mixM_set {T out : List Mk} (h : T.length = out.length) {i : Nat} (hi : i < T.length) : (mixM T out i).set i T[i] = mixM T out (i + 1) := by
  unfold mixM
  rw [List.set_append_right _ _ (by simp; omega)]
  have : i - (T.take i).length = 0 := by simp; omega
  rw [this, List.drop_eq_getElem_cons (show i < out.length by omega), List.set_cons_zero, List.take_succ_eq_append_getElem hi, List.append_assoc]
  rfl
end Go.Abs.SA
end
