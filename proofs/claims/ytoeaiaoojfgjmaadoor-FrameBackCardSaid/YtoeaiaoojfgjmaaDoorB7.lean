/- YtoeaiaoojfgjmaaDoorB7: a part of the interpreter by which the claim is shown, and of the walks: no conditions of its own: every theorem states its own. -/
import Derived.Test.YtoeaiaoojfgjmaaDoorB6
import Derived.Lib.IndexMore
section
set_option linter.unusedVariables false
set_option linter.unusedSimpArgs false
set_option linter.unusedSectionVars false
set_option maxRecDepth 100000
set_option maxHeartbeats 8000000
set_option linter.unusedSimpArgs false
set_option linter.unusedVariables false
namespace Go.Abs.BB
open Go.Proofs

theorem callX_var2 {X : Abs.X} {t : List AV} {bs : List Blk} {f k : Nat} {cs cs' ds ds' xs : List AV} {r : AV} (hl : (X.live f).contains k = true) (h2 : AV.lts 0 xs = false) (hi : idsOfs xs = [0, 1]) (hc : idsOfs cs = []) (hc' : idsOfs cs' = []) (hd : idsOfs ds = []) (hd' : idsOfs ds' = []) (hr : idsOf r = [])
    (hw : loudW X k (AV.rens (fun i => posOf i [0, 1]) xs) [.var cs, .var ds] = some (r, [.var cs', .var ds'])) : callX X (orW X) ⟨t, .var cs :: .var ds :: bs⟩ f k xs = some (.st r ⟨t, .var cs' :: .var ds' :: bs⟩) := by
  rw [callX_live _ _ hl h2]
  have hre : reach (.var cs :: .var ds :: bs) 6 (addNew [] (idsOfs xs)) = [0, 1] := by
    rw [hi]
    simp [addNew, reach, hc, hd]
  have hbl : badL [0, 1] [.var cs, .var ds] [.var cs', .var ds'] = [] := by simp [badL, badB]
  have hpb : putBack (.var cs :: .var ds :: bs) [0, 1] [.var cs', .var ds'] [] = .var cs' :: .var ds' :: bs := by
    unfold putBack
    simp only [List.drop_succ_cons, List.drop_nil, List.length_cons, List.length_nil, List.map_nil, List.append_nil]
    apply List.ext_getElem?
    intro i
    rw [List.getElem?_mapIdx]
    match i with
    | 0 => simp [posOf, Blk.ren, rens_noids _ cs' hc']
    | 1 => simp [posOf, Blk.ren, rens_noids _ ds' hd']
    | i + 2 =>
      simp only [List.getElem?_cons_succ]
      cases bs[i]? with
      | none => rfl
      | some b =>
        have : posOf (i + 2) [0, 1] = none := by simp [posOf]
        simp [this, bren_id keepF_nil]
  unfold callL
  dsimp only
  rw [hre]
  have hcnd : dist [0, 1] = true ∧ [0, 1].all (fun i => decide (i < (Blk.var cs :: Blk.var ds :: bs).length)) = true := by simp [dist]
  rw [if_pos hcnd]
  have hm : ([0, 1].map fun i => ((Blk.var cs :: Blk.var ds :: bs).getD i .dead).ren fun k => posOf k [0, 1]) = [.var cs, .var ds] := by
    simp [Blk.ren, rens_noids _ cs hc, rens_noids _ ds hd]
  simp only [hm]
  rw [show (orW X).loud k (AV.rens (fun k => posOf k [0, 1]) xs) [.var cs, .var ds] = some (r, [.var cs', .var ds']) from hw]
  dsimp only
  rw [hbl, hpb, rens_id keepF_nil, ren_noids _ r hr]
theorem alike_live (c : Bool) (b m : Str) (s : Bool) (hb : b.size ≤ 1000000000) (hm : m.size ≤ 1000000000) :
    loudW XX 12 [.ptr 0 0, .ptr 1 0] [dB c b m s 0, mB c b m s false] = some (.tup [vB true, vB (decide ((nextR c b m s).e = 0))], (outD c (nextR c b m s)).2 ++ (outR c (nextR c b m s)).2) := by
  refine loudW_in 30 Tryd.func12 Tryd.ntmps12 (by simp) (rfl : Tryd.f12.body = some _) fns_12 ?_
  have hn := fun t => call_next 12 (by rw [live_12]; rfl) t [mB c b m s false] c b m s hb hm
  have hr : ∀ t (x : Blk), callX XX (orW XX) ⟨t, [x, mB c b m s false]⟩ 12 16 [.ptr 1 0] = some (.st (.tup [vS (nextR c b m s).r, vI (nextR c b m s).e]) ⟨t, [x, mB c (nextR c b m s).b (nextR c b m s).m (nextR c b m s).s (nextR c b m s).bad]⟩) :=
    fun t x => callX_var 1 (by rw [live_12]; rfl) rfl rfl rfl rfl rfl rfl (refNext_spec c b m s hb hm)
  generalize nextR c b m s = R at *
  simp (maxSteps := 200000) (disch := first | (simp only [go_sem, Nat.reduceAdd, Nat.reduceSub, Nat.reduceMul, Nat.reduceLeDiff, Nat.reduceEqDiff, Nat.reduceLT, Nat.reduceBEq, Nat.reduceBNe, Nat.reducePow, ↓reduceIte]; done) | omega | (simp only [go_sem, Nat.reduceAdd, Nat.reduceSub, Nat.reduceMul, Nat.reduceLeDiff, Nat.reduceEqDiff, Nat.reduceLT, Nat.reduceBEq, Nat.reduceBNe, Nat.reducePow, ↓reduceIte] <;> omega) | fail) only [go_sem, Nat.reduceAdd, Nat.reduceSub, Nat.reduceMul, Nat.reduceLeDiff, Nat.reduceEqDiff, Nat.reduceLT, Nat.reduceBEq, Nat.reduceBNe, Nat.reducePow, ↓reduceIte, hn, hr]
theorem alike_dead (c : Bool) (b m : Str) (s : Bool) (e : Int) (c2 : Bool) (b2 m2 : Str) (s2 : Bool) (he : e ≠ 0) :
    loudW XX 12 [.ptr 0 0, .ptr 1 0] [dB c b m s e, mB c2 b2 m2 s2 true] = some (.tup [vB true, vB false], [dB c b m s e, mB c2 b2 m2 s2 true]) := by
  refine loudW_in 30 Tryd.func12 Tryd.ntmps12 (by simp) (rfl : Tryd.f12.body = some _) fns_12 ?_
  have hn : ∀ t, callX XX (orW XX) ⟨t, [dB c b m s e, mB c2 b2 m2 s2 true]⟩ 12 14 [.ptr 0 0] = some (.st (.tup [vS e0, vI 9]) ⟨t, [dB c b m s e, mB c2 b2 m2 s2 true]⟩) :=
    fun t => callX_var 0 (by rw [live_12]; rfl) rfl rfl rfl rfl rfl rfl (next_bad c b m s e he)
  have hr : ∀ t, callX XX (orW XX) ⟨t, [dB c b m s e, mB c2 b2 m2 s2 true]⟩ 12 16 [.ptr 1 0] = some (.st (.tup [vS e0, vI 9]) ⟨t, [dB c b m s e, mB c2 b2 m2 s2 true]⟩) :=
    fun t => callX_var 1 (by rw [live_12]; rfl) rfl rfl rfl rfl rfl rfl (refNext_bad c2 b2 m2 s2)
  have g9 : ((9 : Int) = 0) = False := eq_false (by omega)
  simp (maxSteps := 200000) (disch := first | (simp only [go_sem, Nat.reduceAdd, Nat.reduceSub, Nat.reduceMul, Nat.reduceLeDiff, Nat.reduceEqDiff, Nat.reduceLT, Nat.reduceBEq, Nat.reduceBNe, Nat.reducePow, ↓reduceIte]; done) | omega | (simp only [go_sem, Nat.reduceAdd, Nat.reduceSub, Nat.reduceMul, Nat.reduceLeDiff, Nat.reduceEqDiff, Nat.reduceLT, Nat.reduceBEq, Nat.reduceBNe, Nat.reducePow, ↓reduceIte] <;> omega) | fail) only [go_sem, Nat.reduceAdd, Nat.reduceSub, Nat.reduceMul, Nat.reduceLeDiff, Nat.reduceEqDiff, Nat.reduceLT, Nat.reduceBEq, Nat.reduceBNe, Nat.reducePow, ↓reduceIte, hn, hr, g9]
end Go.Abs.BB
end

section
set_option linter.unusedVariables false
set_option linter.unusedSimpArgs false
set_option linter.unusedSectionVars false
set_option maxRecDepth 100000
set_option maxHeartbeats 8000000
set_option linter.unusedSimpArgs false
set_option linter.unusedVariables false
namespace Go.Abs.BB
open Go.Proofs

theorem step_more {b m b' m' : Str} {s : Bool} (h : step b m s = .more b' m') : b'.size < b.size ∧ b'.size + m'.size ≤ b.size + m.size := by
  have h1 := more_lt h
  refine ⟨h1, ?_⟩
  unfold step at h
  split at h
  · cases h
  · split at h
    · cases h
    · split at h
      · split at h <;> cases h
      · split at h
        · cases h
        · split at h
          · cases h
          · split at h
            · cases h
            · rename_i n _ _ hb
              cases h
              simp only [ByteArray.size_append, ByteArray.size_extract]
              omega
theorem step_fail {b m : Str} {s : Bool} {e : Int} (h : step b m s = .fail e) : e = 2 ∨ e = 3 := by
  unfold step at h
  split at h
  · cases h; exact .inr rfl
  · split at h
    · cases h
    · split at h
      · split at h <;> cases h
        exact .inr rfl
      · split at h
        · cases h; exact .inr rfl
        · split at h
          · cases h; exact .inl rfl
          · split at h <;> cases h
theorem step_msg {b m x : Str} {s : Bool} (h : step b m s = .msg x) : x.size < b.size := by
  unfold step at h
  by_cases c1 : badH (headS b) = true
  · rw [if_pos c1] at h; cases h
  rw [if_neg c1] at h
  by_cases c2 : nlI b = 0
  · rw [if_pos c2] at h; cases h
  rw [if_neg c2] at h
  have hl := nl_lt (b := b) (Nat.pos_of_ne_zero c2)
  by_cases c3 : headS b = s2H
  · rw [if_pos c3] at h
    cases s with
    | false => rw [if_neg (by simp)] at h; cases h
    | true =>
      rw [if_pos rfl] at h
      have h' := Out.msg.inj h
      rw [← h', ByteArray.size_extract]
      generalize nlI b = i at *
      omega
  · rw [if_neg c3] at h
    generalize sizeS ((headS b).extract (min (headS b).size 2) (headS b).size) = o at h
    cases o with
    | none => cases h
    | some n =>
      simp only at h
      by_cases c4 : 16384 < m.size + n
      · rw [if_pos c4] at h; cases h
      · rw [if_neg c4] at h
        by_cases c5 : b.size < nlI b + 1 + n
        · rw [if_pos c5] at h; cases h
        · rw [if_neg c5] at h; cases h
theorem run_facts : ∀ (k : Nat) (b m : Str) (s : Bool), (runK k b m s).b.size ≤ b.size ∧ (runK k b m s).b.size + (runK k b m s).m.size ≤ b.size + m.size ∧ (∀ e, (runK k b m s).out = .fail e → e = 2 ∨ e = 3) ∧ ∀ x, (runK k b m s).out = .msg x → x.size < (runK k b m s).b.size
  | 0, b, m, s => ⟨Nat.le_refl _, Nat.le_refl _, fun e h => by simp [runK] at h, fun x h => by simp [runK] at h⟩
  | k + 1, b, m, s => by
    cases hs : step b m s with
    | more b' m' =>
      obtain ⟨h1, h2⟩ := step_more hs
      rw [runK_more hs]
      obtain ⟨a1, a2, a3, a4⟩ := run_facts k b' m' true
      exact ⟨by omega, by omega, a3, a4⟩
    | fail e =>
      rw [runK_end hs (by simp)]
      exact ⟨Nat.le_refl _, Nat.le_refl _, fun e' h => by cases h; exact step_fail hs, fun x h => by cases h⟩
    | wait =>
      rw [runK_end hs (by simp)]
      exact ⟨Nat.le_refl _, Nat.le_refl _, fun e' h => by (cases h), fun x h => by cases h⟩
    | msg x =>
      rw [runK_end hs (by simp)]
      exact ⟨Nat.le_refl _, Nat.le_refl _, fun e' h => by (cases h), fun y h => by cases h; exact step_msg hs⟩
theorem next_facts (c : Bool) (b m : Str) (s : Bool) : ((nextR c b m s).bad = false → (nextR c b m s).b.size + (nextR c b m s).m.size ≤ b.size + m.size) ∧ ((nextR c b m s).e = 0 → (nextR c b m s).bad = false ∧ (nextR c b m s).b.size < b.size) ∧ ((nextR c b m s).bad = true → (nextR c b m s).e ≠ 0) := by
  unfold nextR
  cases c with
  | false =>
    rw [if_neg (by simp)]
    have hle : Lib.index (by' b) (by' sEnd) + 6 ≤ b.size ∨ Lib.index (by' b) (by' sEnd) = -1 := by
      rcases index_room (by' b) (by' sEnd) (by decide) with h | ⟨j, h, h2⟩
      · exact .inr h
      · left
        rw [h]
        rw [by_len, by_len, show sEnd.size = 6 from rfl] at h2
        omega
    unfold resF
    generalize Lib.index (by' b) (by' sEnd) = i at *
    split
    · exact ⟨fun h => (by cases h), fun h => by simp at h, fun _ => by simp⟩
    · split
      · exact ⟨fun _ => Nat.le_refl _, fun h => by simp at h, fun h => by cases h⟩
      · refine ⟨fun _ => ?_, fun _ => ⟨rfl, ?_⟩, fun h => by cases h⟩
        · simp only [ByteArray.size_extract]; omega
        · simp only [ByteArray.size_extract]; omega
  | true =>
    rw [if_pos rfl]
    obtain ⟨a1, a2, a3, a4⟩ := run_facts (b.size + 1) b m s
    have hno := runK_out (b.size + 1) b m s
    unfold runC resC
    generalize runK (b.size + 1) b m s = E at *
    obtain ⟨o, b', m', s'⟩ := E
    simp only at a1 a2 a3 a4 hno ⊢
    cases o with
    | fail e =>
      have := a3 e rfl
      exact ⟨fun h => (by cases h), fun h => by simp only at h; omega, fun _ => by simp only; omega⟩
    | wait => exact ⟨fun _ => a2, fun h => by simp at h, fun h => by cases h⟩
    | msg x =>
      have := a4 x rfl
      refine ⟨fun _ => ?_, fun _ => ⟨rfl, ?_⟩, fun h => by cases h⟩
      · simp only
        show x.size + 0 ≤ _
        omega
      · simp only; omega
    | more x y => exact absurd rfl (hno x y)
end Go.Abs.BB
end

section
set_option linter.unusedVariables false
set_option linter.unusedSimpArgs false
set_option linter.unusedSectionVars false
set_option maxRecDepth 100000
set_option maxHeartbeats 8000000
set_option linter.unusedSimpArgs false
set_option linter.unusedVariables false
namespace Go.Abs.BB
open Go.Proofs

/-- A slice of bytes, as a cell. -/
def eY (b : Str) : List AV := [.fs (ofBytes b) false]
theorem eY_s (b : Str) : eY b = [.fs (ofBytes b) false] := nr rfl
theorem eY_len (b : Str) : (eY b).length = 1 := rfl
instance : EL eY 1 := ⟨eY_len⟩
abbrev lY (l : List Str) : AV := .fs (l.map eY) false
def tot (l : List Str) : Nat := (l.map fun p => 1 + p.size).sum
theorem tot_snoc (l : List Str) (p : Str) : tot (l ++ [p]) = tot l + (1 + p.size) := by simp [tot]
theorem tot_app (l r : List Str) : tot (l ++ r) = tot l + tot r := by simp [tot]
theorem tot_mono (l : List Str) (i : Nat) : tot (l.take i) ≤ tot l := by
  have := tot_app (l.take i) (l.drop i)
  rw [List.take_append_drop] at this
  omega
/-- Both decoders: alike and going on, or both at their end. -/
inductive PS where
  | live (c : Bool) (b m : Str) (s : Bool)
  | dead (c : Bool) (s : Bool) (e : Int) (c2 : Bool) (b2 m2 : Str) (s2 : Bool)
abbrev blks : PS → List Blk
  | .live c b m s => [dB c b m s 0, mB c b m s false]
  | .dead c s e c2 b2 m2 s2 => [dB c e0 e0 s e, mB c2 b2 m2 s2 true]
def okP (T : Nat) : PS → Prop
  | .live _ b m _ => b.size + m.size ≤ T
  | .dead _ _ e _ _ _ _ => e ≠ 0
def szP : PS → Nat
  | .live _ b _ _ => b.size
  | _ => 0
def nextP : PS → PS
  | .live c b m s => if (nextR c b m s).bad = true then .dead c (nextR c b m s).s (nextR c b m s).e c (nextR c b m s).b (nextR c b m s).m (nextR c b m s).s else .live c (nextR c b m s).b (nextR c b m s).m (nextR c b m s).s
  | p => p
def goP : PS → Bool
  | .live c b m s => decide ((nextR c b m s).e = 0)
  | _ => false
theorem nextP_live (c : Bool) (b m : Str) (s : Bool) : nextP (.live c b m s) = if (nextR c b m s).bad = true then .dead c (nextR c b m s).s (nextR c b m s).e c (nextR c b m s).b (nextR c b m s).m (nextR c b m s).s else .live c (nextR c b m s).b (nextR c b m s).m (nextR c b m s).s := rfl
theorem goP_live (c : Bool) (b m : Str) (s : Bool) : goP (.live c b m s) = decide ((nextR c b m s).e = 0) := rfl
theorem okP_live (T : Nat) (c : Bool) (b m : Str) (s : Bool) : okP T (.live c b m s) ↔ b.size + m.size ≤ T := Iff.rfl
theorem call_alike (t : List AV) (p : PS) (T : Nat) (hT : T ≤ 100000) (h : okP T p) : callX XX (orW XX) ⟨t, blks p⟩ 3 12 [.ptr 0 0, .ptr 1 0] = some (.st (.tup [vB true, vB (goP p)]) ⟨t, blks (nextP p)⟩) := by
  cases p with
  | live c b m s =>
    rw [okP_live] at h
    have hk := alike_live c b m s (by omega) (by omega)
    have := callX_var2 (t := t) (bs := []) (f := 3) (k := 12) (xs := [.ptr 0 0, .ptr 1 0]) (by rw [live_3]; rfl) rfl rfl rfl rfl rfl rfl rfl hk
    rw [goP_live, nextP_live]
    refine this.trans ?_
    generalize nextR c b m s = R
    cases hb : R.bad <;> simp
  | dead c s e c2 b2 m2 s2 =>
    exact callX_var2 (bs := []) (by rw [live_3]; rfl) rfl rfl rfl rfl rfl rfl rfl (alike_dead c e0 e0 s e c2 b2 m2 s2 h)
theorem next_ok {T : Nat} {p : PS} (h : okP T p) : okP T (nextP p) ∧ (goP p = true → szP (nextP p) < szP p) := by
  cases p with
  | live c b m s =>
    obtain ⟨h1, h2, h3⟩ := next_facts c b m s
    rw [nextP_live, goP_live]
    rw [okP_live] at h
    cases hb : (nextR c b m s).bad with
    | true =>
      rw [if_pos rfl]
      refine ⟨h3 hb, fun hg => ?_⟩
      have := (h2 (by simpa using hg)).1
      rw [hb] at this; cases this
    | false =>
      rw [if_neg (by simp)]
      refine ⟨?_, fun hg => (h2 (by simpa using hg)).2⟩
      have := h1 hb
      rw [okP_live]
      omega
  | dead c s e c2 b2 m2 s2 => exact ⟨h, fun hg => by simp [goP] at hg⟩
theorem gcB (q : PS) (l : List (Nat × AV)) (h1 : ltE 2 l = true) : gcK 2 (mkT 71 .junk l) (blks q) = some ⟨mkT 71 .junk l, blks q⟩ := by
  cases q with
  | live c b m s => rw [gcK_mkT h1 (by rfl)]; rfl
  | dead c s e c2 b2 m2 s2 => rw [gcK_mkT h1 (by rfl)]; rfl
theorem blks_len (q : PS) : (blks q).length = 2 := by cases q <;> rfl
theorem runs_law (parts : List Str) (at_ : Int) (hl : parts.length ≤ 140737488355328) (hp : ∀ p ∈ parts, p.size ≤ 140737488355328) : pureW XX 3 [lY parts, vI at_] = some (vB true) := by
  refine pureW_in 71 Tryd.func3 Tryd.ntmps3 (by simp) (rfl : Tryd.f3.body = some _) fns_3 ?_
  simp (maxSteps := 200000) (disch := first | (simp only [go_sem, Nat.reduceAdd, Nat.reduceSub, Nat.reduceMul, Nat.reduceLeDiff, Nat.reduceEqDiff, Nat.reduceLT, Nat.reduceBEq, Nat.reduceBNe, Nat.reducePow, ↓reduceIte]; done) | omega | (simp only [go_sem, Nat.reduceAdd, Nat.reduceSub, Nat.reduceMul, Nat.reduceLeDiff, Nat.reduceEqDiff, Nat.reduceLT, Nat.reduceBEq, Nat.reduceBNe, Nat.reducePow, ↓reduceIte] <;> omega) | fail) only [go_sem, Nat.reduceAdd, Nat.reduceSub, Nat.reduceMul, Nat.reduceLeDiff, Nat.reduceEqDiff, Nat.reduceLT, Nat.reduceBEq, Nat.reduceBNe, Nat.reducePow, ↓reduceIte, callA_pure mode_9, fit_spec]
  refine WP_range 5 0 parts.length (fun i => S_3_5 (lY parts) (vI at_) (vI (tot (parts.take i))) (lY parts) (vI parts.length) (vI i) []) (fun i => tot (parts.take i) ≤ 40000) rfl rfl ?_ ?_ ?_ ?_
  · simp (maxSteps := 200000) (disch := first | (simp only [go_sem, Nat.reduceAdd, Nat.reduceSub, Nat.reduceMul, Nat.reduceLeDiff, Nat.reduceEqDiff, Nat.reduceLT, Nat.reduceBEq, Nat.reduceBNe, Nat.reducePow, ↓reduceIte]; done) | omega | (simp only [go_sem, Nat.reduceAdd, Nat.reduceSub, Nat.reduceMul, Nat.reduceLeDiff, Nat.reduceEqDiff, Nat.reduceLT, Nat.reduceBEq, Nat.reduceBNe, Nat.reducePow, ↓reduceIte] <;> omega) | fail) only [go_sem, Nat.reduceAdd, Nat.reduceSub, Nat.reduceMul, Nat.reduceLeDiff, Nat.reduceEqDiff, Nat.reduceLT, Nat.reduceBEq, Nat.reduceBNe, Nat.reducePow, ↓reduceIte]; rfl
  · simp [tot]
  · intro i h hI
    have hws := wrap_succ h hl
    have hpi := hp _ (List.getElem_mem h)
    have hL : parts[i].data.toList.length = parts[i].size := by_len _
    have htk : tot (parts.take (i + 1)) = tot (parts.take i) + (1 + parts[i].size) := by
      rw [List.take_succ_eq_append_getElem h, tot_snoc]
    have e1 : IntKind.i64.wrap (1 + (parts[i].size : Int)) = ((1 + parts[i].size : Nat) : Int) := by rw [IntWalk.i64_in _ (by omega)]; omega
    have e2 : IntKind.i64.wrap ((tot (parts.take i) : Int) + ((1 + parts[i].size : Nat) : Int)) = ((tot (parts.take (i + 1)) : Nat) : Int) := by rw [IntWalk.i64_in _ (by omega), htk]; omega
    by_cases hc : 40000 < tot (parts.take (i + 1))
    · have g : ((40000 : Int) < ((tot (parts.take (i + 1)) : Nat) : Int)) = True := eq_true (by omega)
      simp (maxSteps := 200000) (disch := first | (simp only [go_sem, Nat.reduceAdd, Nat.reduceSub, Nat.reduceMul, Nat.reduceLeDiff, Nat.reduceEqDiff, Nat.reduceLT, Nat.reduceBEq, Nat.reduceBNe, Nat.reducePow, ↓reduceIte]; done) | omega | (simp only [go_sem, Nat.reduceAdd, Nat.reduceSub, Nat.reduceMul, Nat.reduceLeDiff, Nat.reduceEqDiff, Nat.reduceLT, Nat.reduceBEq, Nat.reduceBNe, Nat.reducePow, ↓reduceIte] <;> omega) | fail) only [go_sem, Nat.reduceAdd, Nat.reduceSub, Nat.reduceMul, Nat.reduceLeDiff, Nat.reduceEqDiff, Nat.reduceLT, Nat.reduceBEq, Nat.reduceBNe, Nat.reducePow, ↓reduceIte, nat_int, h, eY_s, hL, e1, e2, g]
    · have g : ((40000 : Int) < ((tot (parts.take (i + 1)) : Nat) : Int)) = False := eq_false (by omega)
      simp (maxSteps := 200000) (disch := first | (simp only [go_sem, Nat.reduceAdd, Nat.reduceSub, Nat.reduceMul, Nat.reduceLeDiff, Nat.reduceEqDiff, Nat.reduceLT, Nat.reduceBEq, Nat.reduceBNe, Nat.reducePow, ↓reduceIte]; done) | omega | (simp only [go_sem, Nat.reduceAdd, Nat.reduceSub, Nat.reduceMul, Nat.reduceLeDiff, Nat.reduceEqDiff, Nat.reduceLT, Nat.reduceBEq, Nat.reduceBNe, Nat.reducePow, ↓reduceIte] <;> omega) | fail) only [go_sem, Nat.reduceAdd, Nat.reduceSub, Nat.reduceMul, Nat.reduceLeDiff, Nat.reduceEqDiff, Nat.reduceLT, Nat.reduceBEq, Nat.reduceBNe, Nat.reducePow, ↓reduceIte, nat_int, h, eY_s, hL, e1, e2, g, hws]
      omega
  · intro hI
    rw [List.take_length] at hI
    simp (maxSteps := 200000) (disch := first | (simp only [go_sem, Nat.reduceAdd, Nat.reduceSub, Nat.reduceMul, Nat.reduceLeDiff, Nat.reduceEqDiff, Nat.reduceLT, Nat.reduceBEq, Nat.reduceBNe, Nat.reducePow, ↓reduceIte]; done) | omega | (simp only [go_sem, Nat.reduceAdd, Nat.reduceSub, Nat.reduceMul, Nat.reduceLeDiff, Nat.reduceEqDiff, Nat.reduceLT, Nat.reduceBEq, Nat.reduceBNe, Nat.reducePow, ↓reduceIte] <;> omega) | fail) only [go_sem, Nat.reduceAdd, Nat.reduceSub, Nat.reduceMul, Nat.reduceLeDiff, Nat.reduceEqDiff, Nat.reduceLT, Nat.reduceBEq, Nat.reduceBNe, Nat.reducePow, ↓reduceIte, nat_int, Nat.lt_irrefl]
    refine WP_loopR 14 2 (fun (a : Nat × PS) => S_3_14 (vI at_) (.ptr 0 0) (.ptr 1 0) (lY parts) (vI parts.length) (vI a.1) (blks a.2)) (fun a => parts.length - a.1) (fun a => a.1 ≤ parts.length ∧ okP (tot (parts.take a.1)) a.2) (0, .live false e0 e0 false) rfl rfl ?_ ?_ ?_
    · simp (maxSteps := 200000) (disch := first | (simp only [go_sem, Nat.reduceAdd, Nat.reduceSub, Nat.reduceMul, Nat.reduceLeDiff, Nat.reduceEqDiff, Nat.reduceLT, Nat.reduceBEq, Nat.reduceBNe, Nat.reducePow, ↓reduceIte]; done) | omega | (simp only [go_sem, Nat.reduceAdd, Nat.reduceSub, Nat.reduceMul, Nat.reduceLeDiff, Nat.reduceEqDiff, Nat.reduceLT, Nat.reduceBEq, Nat.reduceBNe, Nat.reducePow, ↓reduceIte] <;> omega) | fail) only [go_sem, Nat.reduceAdd, Nat.reduceSub, Nat.reduceMul, Nat.reduceLeDiff, Nat.reduceEqDiff, Nat.reduceLT, Nat.reduceBEq, Nat.reduceBNe, Nat.reducePow, ↓reduceIte]; rfl
    · exact ⟨Nat.zero_le _, Nat.le_refl _⟩
    · rintro ⟨i, p⟩ ⟨hi, hok⟩
      simp only at hi hok
      by_cases h : i < parts.length
      case neg =>
        cases p with
        | live c b m s => simp (maxSteps := 200000) (disch := first | (simp only [go_sem, Nat.reduceAdd, Nat.reduceSub, Nat.reduceMul, Nat.reduceLeDiff, Nat.reduceEqDiff, Nat.reduceLT, Nat.reduceBEq, Nat.reduceBNe, Nat.reducePow, ↓reduceIte]; done) | omega | (simp only [go_sem, Nat.reduceAdd, Nat.reduceSub, Nat.reduceMul, Nat.reduceLeDiff, Nat.reduceEqDiff, Nat.reduceLT, Nat.reduceBEq, Nat.reduceBNe, Nat.reducePow, ↓reduceIte] <;> omega) | fail) only [go_sem, Nat.reduceAdd, Nat.reduceSub, Nat.reduceMul, Nat.reduceLeDiff, Nat.reduceEqDiff, Nat.reduceLT, Nat.reduceBEq, Nat.reduceBNe, Nat.reducePow, ↓reduceIte, nat_int, h]
        | dead c s e c2 b2 m2 s2 => simp (maxSteps := 200000) (disch := first | (simp only [go_sem, Nat.reduceAdd, Nat.reduceSub, Nat.reduceMul, Nat.reduceLeDiff, Nat.reduceEqDiff, Nat.reduceLT, Nat.reduceBEq, Nat.reduceBNe, Nat.reducePow, ↓reduceIte]; done) | omega | (simp only [go_sem, Nat.reduceAdd, Nat.reduceSub, Nat.reduceMul, Nat.reduceLeDiff, Nat.reduceEqDiff, Nat.reduceLT, Nat.reduceBEq, Nat.reduceBNe, Nat.reducePow, ↓reduceIte] <;> omega) | fail) only [go_sem, Nat.reduceAdd, Nat.reduceSub, Nat.reduceMul, Nat.reduceLeDiff, Nat.reduceEqDiff, Nat.reduceLT, Nat.reduceBEq, Nat.reduceBNe, Nat.reducePow, ↓reduceIte, nat_int, h]
      have hws := wrap_succ h hl
      have htm := tot_mono parts (i + 1)
      have htk : tot (parts.take (i + 1)) = tot (parts.take i) + (1 + parts[i].size) := by
        rw [List.take_succ_eq_append_getElem h, tot_snoc]
      have hsw := fun t bs c b m s e => call_switch 3 (by rw [live_3]; rfl) t bs c b m s e
      have hL : (parts[i].data.toList).length = parts[i].size := by_len _
      cases p with
      | live c b m s =>
        rw [okP_live] at hok
        have hfd := fun t bs c => call_feed 3 (by rw [live_3]; rfl) t bs c b m s 0 parts[i] false (by omega)
        rw [if_pos rfl] at hfd
        by_cases hat : (i : Int) = at_
        · have g := eq_true hat
          simp (maxSteps := 200000) (disch := first | (simp only [go_sem, Nat.reduceAdd, Nat.reduceSub, Nat.reduceMul, Nat.reduceLeDiff, Nat.reduceEqDiff, Nat.reduceLT, Nat.reduceBEq, Nat.reduceBNe, Nat.reducePow, ↓reduceIte]; done) | omega | (simp only [go_sem, Nat.reduceAdd, Nat.reduceSub, Nat.reduceMul, Nat.reduceLeDiff, Nat.reduceEqDiff, Nat.reduceLT, Nat.reduceBEq, Nat.reduceBNe, Nat.reducePow, ↓reduceIte] <;> omega) | fail) only [go_sem, Nat.reduceAdd, Nat.reduceSub, Nat.reduceMul, Nat.reduceLeDiff, Nat.reduceEqDiff, Nat.reduceLT, Nat.reduceBEq, Nat.reduceBNe, Nat.reducePow, ↓reduceIte, nat_int, h, eY_s, hsw, hfd, g]
          refine WP_loopR 23 2 (fun (a : Bool × PS) => S_3_23 (vI at_) (.ptr 0 0) (.ptr 1 0) (vB a.1) (lY parts) (vI parts.length) (vI i) (blks a.2)) (fun a => if a.1 = true then szP a.2 + 1 else 0) (fun a => okP (tot (parts.take (i + 1))) a.2) (true, PS.live true (b ++ parts[i]) m s) rfl rfl ?_ ?_ ?_
          · simp (maxSteps := 200000) (disch := first | (simp only [go_sem, Nat.reduceAdd, Nat.reduceSub, Nat.reduceMul, Nat.reduceLeDiff, Nat.reduceEqDiff, Nat.reduceLT, Nat.reduceBEq, Nat.reduceBNe, Nat.reducePow, ↓reduceIte]; done) | omega | (simp only [go_sem, Nat.reduceAdd, Nat.reduceSub, Nat.reduceMul, Nat.reduceLeDiff, Nat.reduceEqDiff, Nat.reduceLT, Nat.reduceBEq, Nat.reduceBNe, Nat.reducePow, ↓reduceIte] <;> omega) | fail) only [go_sem, Nat.reduceAdd, Nat.reduceSub, Nat.reduceMul, Nat.reduceLeDiff, Nat.reduceEqDiff, Nat.reduceLT, Nat.reduceBEq, Nat.reduceBNe, Nat.reducePow, ↓reduceIte]
          · rw [okP_live, ByteArray.size_append]; omega
          · rintro ⟨on, q⟩ hq
            simp only at hq
            cases on with
            | false =>
              simp (maxSteps := 200000) (disch := first | (simp only [go_sem, Nat.reduceAdd, Nat.reduceSub, Nat.reduceMul, Nat.reduceLeDiff, Nat.reduceEqDiff, Nat.reduceLT, Nat.reduceBEq, Nat.reduceBNe, Nat.reducePow, ↓reduceIte]; done) | omega | (simp only [go_sem, Nat.reduceAdd, Nat.reduceSub, Nat.reduceMul, Nat.reduceLeDiff, Nat.reduceEqDiff, Nat.reduceLT, Nat.reduceBEq, Nat.reduceBNe, Nat.reducePow, ↓reduceIte] <;> omega) | fail) only [go_sem, Nat.reduceAdd, Nat.reduceSub, Nat.reduceMul, Nat.reduceLeDiff, Nat.reduceEqDiff, Nat.reduceLT, Nat.reduceBEq, Nat.reduceBNe, Nat.reducePow, ↓reduceIte, hws, gcB]
              exact ⟨(i + 1, q), rfl, ⟨by simp only; omega, hq⟩, by simp only; omega⟩
            | true =>
              have hca := fun t => call_alike t q (tot (parts.take (i + 1))) (by omega) hq
              obtain ⟨hn1, hn2⟩ := next_ok hq
              simp (maxSteps := 200000) (disch := first | (simp only [go_sem, Nat.reduceAdd, Nat.reduceSub, Nat.reduceMul, Nat.reduceLeDiff, Nat.reduceEqDiff, Nat.reduceLT, Nat.reduceBEq, Nat.reduceBNe, Nat.reducePow, ↓reduceIte]; done) | omega | (simp only [go_sem, Nat.reduceAdd, Nat.reduceSub, Nat.reduceMul, Nat.reduceLeDiff, Nat.reduceEqDiff, Nat.reduceLT, Nat.reduceBEq, Nat.reduceBNe, Nat.reducePow, ↓reduceIte] <;> omega) | fail) only [go_sem, Nat.reduceAdd, Nat.reduceSub, Nat.reduceMul, Nat.reduceLeDiff, Nat.reduceEqDiff, Nat.reduceLT, Nat.reduceBEq, Nat.reduceBNe, Nat.reducePow, ↓reduceIte, hca, gcB]
              refine ⟨(goP q, nextP q), rfl, hn1, ?_⟩
              cases hg : goP q with
              | true => have := hn2 hg; simp; omega
              | false => simp
        · simp (maxSteps := 200000) (disch := first | (simp only [go_sem, Nat.reduceAdd, Nat.reduceSub, Nat.reduceMul, Nat.reduceLeDiff, Nat.reduceEqDiff, Nat.reduceLT, Nat.reduceBEq, Nat.reduceBNe, Nat.reducePow, ↓reduceIte]; done) | omega | (simp only [go_sem, Nat.reduceAdd, Nat.reduceSub, Nat.reduceMul, Nat.reduceLeDiff, Nat.reduceEqDiff, Nat.reduceLT, Nat.reduceBEq, Nat.reduceBNe, Nat.reducePow, ↓reduceIte] <;> omega) | fail) only [go_sem, Nat.reduceAdd, Nat.reduceSub, Nat.reduceMul, Nat.reduceLeDiff, Nat.reduceEqDiff, Nat.reduceLT, Nat.reduceBEq, Nat.reduceBNe, Nat.reducePow, ↓reduceIte, nat_int, h, eY_s, hsw, hfd, hat]
          refine WP_loopR 23 2 (fun (a : Bool × PS) => S_3_23 (vI at_) (.ptr 0 0) (.ptr 1 0) (vB a.1) (lY parts) (vI parts.length) (vI i) (blks a.2)) (fun a => if a.1 = true then szP a.2 + 1 else 0) (fun a => okP (tot (parts.take (i + 1))) a.2) (true, PS.live c (b ++ parts[i]) m s) rfl rfl ?_ ?_ ?_
          · simp (maxSteps := 200000) (disch := first | (simp only [go_sem, Nat.reduceAdd, Nat.reduceSub, Nat.reduceMul, Nat.reduceLeDiff, Nat.reduceEqDiff, Nat.reduceLT, Nat.reduceBEq, Nat.reduceBNe, Nat.reducePow, ↓reduceIte]; done) | omega | (simp only [go_sem, Nat.reduceAdd, Nat.reduceSub, Nat.reduceMul, Nat.reduceLeDiff, Nat.reduceEqDiff, Nat.reduceLT, Nat.reduceBEq, Nat.reduceBNe, Nat.reducePow, ↓reduceIte] <;> omega) | fail) only [go_sem, Nat.reduceAdd, Nat.reduceSub, Nat.reduceMul, Nat.reduceLeDiff, Nat.reduceEqDiff, Nat.reduceLT, Nat.reduceBEq, Nat.reduceBNe, Nat.reducePow, ↓reduceIte]
          · rw [okP_live, ByteArray.size_append]; omega
          · rintro ⟨on, q⟩ hq
            simp only at hq
            cases on with
            | false =>
              simp (maxSteps := 200000) (disch := first | (simp only [go_sem, Nat.reduceAdd, Nat.reduceSub, Nat.reduceMul, Nat.reduceLeDiff, Nat.reduceEqDiff, Nat.reduceLT, Nat.reduceBEq, Nat.reduceBNe, Nat.reducePow, ↓reduceIte]; done) | omega | (simp only [go_sem, Nat.reduceAdd, Nat.reduceSub, Nat.reduceMul, Nat.reduceLeDiff, Nat.reduceEqDiff, Nat.reduceLT, Nat.reduceBEq, Nat.reduceBNe, Nat.reducePow, ↓reduceIte] <;> omega) | fail) only [go_sem, Nat.reduceAdd, Nat.reduceSub, Nat.reduceMul, Nat.reduceLeDiff, Nat.reduceEqDiff, Nat.reduceLT, Nat.reduceBEq, Nat.reduceBNe, Nat.reducePow, ↓reduceIte, hws, gcB]
              exact ⟨(i + 1, q), rfl, ⟨by simp only; omega, hq⟩, by simp only; omega⟩
            | true =>
              have hca := fun t => call_alike t q (tot (parts.take (i + 1))) (by omega) hq
              obtain ⟨hn1, hn2⟩ := next_ok hq
              simp (maxSteps := 200000) (disch := first | (simp only [go_sem, Nat.reduceAdd, Nat.reduceSub, Nat.reduceMul, Nat.reduceLeDiff, Nat.reduceEqDiff, Nat.reduceLT, Nat.reduceBEq, Nat.reduceBNe, Nat.reducePow, ↓reduceIte]; done) | omega | (simp only [go_sem, Nat.reduceAdd, Nat.reduceSub, Nat.reduceMul, Nat.reduceLeDiff, Nat.reduceEqDiff, Nat.reduceLT, Nat.reduceBEq, Nat.reduceBNe, Nat.reducePow, ↓reduceIte] <;> omega) | fail) only [go_sem, Nat.reduceAdd, Nat.reduceSub, Nat.reduceMul, Nat.reduceLeDiff, Nat.reduceEqDiff, Nat.reduceLT, Nat.reduceBEq, Nat.reduceBNe, Nat.reducePow, ↓reduceIte, hca, gcB]
              refine ⟨(goP q, nextP q), rfl, hn1, ?_⟩
              cases hg : goP q with
              | true => have := hn2 hg; simp; omega
              | false => simp
      | dead c s e c2 b2 m2 s2 =>
        have he : ¬ e = 0 := hok
        have hfd := fun t bs c => call_feed 3 (by rw [live_3]; rfl) t bs c e0 e0 s e parts[i] false (by have := hp _ (List.getElem_mem h); show 0 + _ ≤ _; omega)
        rw [if_neg he] at hfd
        have g0 := eq_false he
        by_cases hat : (i : Int) = at_
        · have g := eq_true hat
          simp (maxSteps := 200000) (disch := first | (simp only [go_sem, Nat.reduceAdd, Nat.reduceSub, Nat.reduceMul, Nat.reduceLeDiff, Nat.reduceEqDiff, Nat.reduceLT, Nat.reduceBEq, Nat.reduceBNe, Nat.reducePow, ↓reduceIte]; done) | omega | (simp only [go_sem, Nat.reduceAdd, Nat.reduceSub, Nat.reduceMul, Nat.reduceLeDiff, Nat.reduceEqDiff, Nat.reduceLT, Nat.reduceBEq, Nat.reduceBNe, Nat.reducePow, ↓reduceIte] <;> omega) | fail) only [go_sem, Nat.reduceAdd, Nat.reduceSub, Nat.reduceMul, Nat.reduceLeDiff, Nat.reduceEqDiff, Nat.reduceLT, Nat.reduceBEq, Nat.reduceBNe, Nat.reducePow, ↓reduceIte, nat_int, h, eY_s, hsw, hfd, g, g0]
          refine WP_loopR 23 2 (fun (a : Bool × PS) => S_3_23 (vI at_) (.ptr 0 0) (.ptr 1 0) (vB a.1) (lY parts) (vI parts.length) (vI i) (blks a.2)) (fun a => if a.1 = true then szP a.2 + 1 else 0) (fun a => okP (tot (parts.take (i + 1))) a.2) (true, PS.dead true s e true b2 m2 s2) rfl rfl ?_ ?_ ?_
          · simp (maxSteps := 200000) (disch := first | (simp only [go_sem, Nat.reduceAdd, Nat.reduceSub, Nat.reduceMul, Nat.reduceLeDiff, Nat.reduceEqDiff, Nat.reduceLT, Nat.reduceBEq, Nat.reduceBNe, Nat.reducePow, ↓reduceIte]; done) | omega | (simp only [go_sem, Nat.reduceAdd, Nat.reduceSub, Nat.reduceMul, Nat.reduceLeDiff, Nat.reduceEqDiff, Nat.reduceLT, Nat.reduceBEq, Nat.reduceBNe, Nat.reducePow, ↓reduceIte] <;> omega) | fail) only [go_sem, Nat.reduceAdd, Nat.reduceSub, Nat.reduceMul, Nat.reduceLeDiff, Nat.reduceEqDiff, Nat.reduceLT, Nat.reduceBEq, Nat.reduceBNe, Nat.reducePow, ↓reduceIte]
          · exact he
          · rintro ⟨on, q⟩ hq
            simp only at hq
            cases on with
            | false =>
              simp (maxSteps := 200000) (disch := first | (simp only [go_sem, Nat.reduceAdd, Nat.reduceSub, Nat.reduceMul, Nat.reduceLeDiff, Nat.reduceEqDiff, Nat.reduceLT, Nat.reduceBEq, Nat.reduceBNe, Nat.reducePow, ↓reduceIte]; done) | omega | (simp only [go_sem, Nat.reduceAdd, Nat.reduceSub, Nat.reduceMul, Nat.reduceLeDiff, Nat.reduceEqDiff, Nat.reduceLT, Nat.reduceBEq, Nat.reduceBNe, Nat.reducePow, ↓reduceIte] <;> omega) | fail) only [go_sem, Nat.reduceAdd, Nat.reduceSub, Nat.reduceMul, Nat.reduceLeDiff, Nat.reduceEqDiff, Nat.reduceLT, Nat.reduceBEq, Nat.reduceBNe, Nat.reducePow, ↓reduceIte, hws, gcB]
              exact ⟨(i + 1, q), rfl, ⟨by simp only; omega, hq⟩, by simp only; omega⟩
            | true =>
              have hca := fun t => call_alike t q (tot (parts.take (i + 1))) (by omega) hq
              obtain ⟨hn1, hn2⟩ := next_ok hq
              simp (maxSteps := 200000) (disch := first | (simp only [go_sem, Nat.reduceAdd, Nat.reduceSub, Nat.reduceMul, Nat.reduceLeDiff, Nat.reduceEqDiff, Nat.reduceLT, Nat.reduceBEq, Nat.reduceBNe, Nat.reducePow, ↓reduceIte]; done) | omega | (simp only [go_sem, Nat.reduceAdd, Nat.reduceSub, Nat.reduceMul, Nat.reduceLeDiff, Nat.reduceEqDiff, Nat.reduceLT, Nat.reduceBEq, Nat.reduceBNe, Nat.reducePow, ↓reduceIte] <;> omega) | fail) only [go_sem, Nat.reduceAdd, Nat.reduceSub, Nat.reduceMul, Nat.reduceLeDiff, Nat.reduceEqDiff, Nat.reduceLT, Nat.reduceBEq, Nat.reduceBNe, Nat.reducePow, ↓reduceIte, hca, gcB]
              refine ⟨(goP q, nextP q), rfl, hn1, ?_⟩
              cases hg : goP q with
              | true => have := hn2 hg; simp; omega
              | false => simp
        · simp (maxSteps := 200000) (disch := first | (simp only [go_sem, Nat.reduceAdd, Nat.reduceSub, Nat.reduceMul, Nat.reduceLeDiff, Nat.reduceEqDiff, Nat.reduceLT, Nat.reduceBEq, Nat.reduceBNe, Nat.reducePow, ↓reduceIte]; done) | omega | (simp only [go_sem, Nat.reduceAdd, Nat.reduceSub, Nat.reduceMul, Nat.reduceLeDiff, Nat.reduceEqDiff, Nat.reduceLT, Nat.reduceBEq, Nat.reduceBNe, Nat.reducePow, ↓reduceIte] <;> omega) | fail) only [go_sem, Nat.reduceAdd, Nat.reduceSub, Nat.reduceMul, Nat.reduceLeDiff, Nat.reduceEqDiff, Nat.reduceLT, Nat.reduceBEq, Nat.reduceBNe, Nat.reducePow, ↓reduceIte, nat_int, h, eY_s, hsw, hfd, hat, g0]
          refine WP_loopR 23 2 (fun (a : Bool × PS) => S_3_23 (vI at_) (.ptr 0 0) (.ptr 1 0) (vB a.1) (lY parts) (vI parts.length) (vI i) (blks a.2)) (fun a => if a.1 = true then szP a.2 + 1 else 0) (fun a => okP (tot (parts.take (i + 1))) a.2) (true, PS.dead c s e c2 b2 m2 s2) rfl rfl ?_ ?_ ?_
          · simp (maxSteps := 200000) (disch := first | (simp only [go_sem, Nat.reduceAdd, Nat.reduceSub, Nat.reduceMul, Nat.reduceLeDiff, Nat.reduceEqDiff, Nat.reduceLT, Nat.reduceBEq, Nat.reduceBNe, Nat.reducePow, ↓reduceIte]; done) | omega | (simp only [go_sem, Nat.reduceAdd, Nat.reduceSub, Nat.reduceMul, Nat.reduceLeDiff, Nat.reduceEqDiff, Nat.reduceLT, Nat.reduceBEq, Nat.reduceBNe, Nat.reducePow, ↓reduceIte] <;> omega) | fail) only [go_sem, Nat.reduceAdd, Nat.reduceSub, Nat.reduceMul, Nat.reduceLeDiff, Nat.reduceEqDiff, Nat.reduceLT, Nat.reduceBEq, Nat.reduceBNe, Nat.reducePow, ↓reduceIte]
          · exact he
          · rintro ⟨on, q⟩ hq
            simp only at hq
            cases on with
            | false =>
              simp (maxSteps := 200000) (disch := first | (simp only [go_sem, Nat.reduceAdd, Nat.reduceSub, Nat.reduceMul, Nat.reduceLeDiff, Nat.reduceEqDiff, Nat.reduceLT, Nat.reduceBEq, Nat.reduceBNe, Nat.reducePow, ↓reduceIte]; done) | omega | (simp only [go_sem, Nat.reduceAdd, Nat.reduceSub, Nat.reduceMul, Nat.reduceLeDiff, Nat.reduceEqDiff, Nat.reduceLT, Nat.reduceBEq, Nat.reduceBNe, Nat.reducePow, ↓reduceIte] <;> omega) | fail) only [go_sem, Nat.reduceAdd, Nat.reduceSub, Nat.reduceMul, Nat.reduceLeDiff, Nat.reduceEqDiff, Nat.reduceLT, Nat.reduceBEq, Nat.reduceBNe, Nat.reducePow, ↓reduceIte, hws, gcB]
              exact ⟨(i + 1, q), rfl, ⟨by simp only; omega, hq⟩, by simp only; omega⟩
            | true =>
              have hca := fun t => call_alike t q (tot (parts.take (i + 1))) (by omega) hq
              obtain ⟨hn1, hn2⟩ := next_ok hq
              simp (maxSteps := 200000) (disch := first | (simp only [go_sem, Nat.reduceAdd, Nat.reduceSub, Nat.reduceMul, Nat.reduceLeDiff, Nat.reduceEqDiff, Nat.reduceLT, Nat.reduceBEq, Nat.reduceBNe, Nat.reducePow, ↓reduceIte]; done) | omega | (simp only [go_sem, Nat.reduceAdd, Nat.reduceSub, Nat.reduceMul, Nat.reduceLeDiff, Nat.reduceEqDiff, Nat.reduceLT, Nat.reduceBEq, Nat.reduceBNe, Nat.reducePow, ↓reduceIte] <;> omega) | fail) only [go_sem, Nat.reduceAdd, Nat.reduceSub, Nat.reduceMul, Nat.reduceLeDiff, Nat.reduceEqDiff, Nat.reduceLT, Nat.reduceBEq, Nat.reduceBNe, Nat.reducePow, ↓reduceIte, hca, gcB]
              refine ⟨(goP q, nextP q), rfl, hn1, ?_⟩
              cases hg : goP q with
              | true => have := hn2 hg; simp; omega
              | false => simp
end Go.Abs.BB
end

section
set_option linter.unusedVariables false
set_option linter.unusedSimpArgs false
set_option linter.unusedSectionVars false
set_option maxRecDepth 100000
set_option maxHeartbeats 8000000
set_option linter.unusedSimpArgs false
set_option linter.unusedVariables false
namespace Go.Abs.BB
open Go.Proofs

/-! Digits. -/
theorem dd_all : ∀ (n u : Nat), u < n → ∀ c ∈ dd u, isD c = true
  | 0, u, h => by omega
  | n + 1, u, h => by
    by_cases h0 : u = 0
    · subst h0; simp [dd]
    · rw [dd_step (by omega)]
      intro c hc
      rcases List.mem_append.1 hc with h1 | h1
      · exact dd_all n (u / 10) (by omega) c h1
      · obtain rfl := List.mem_singleton.1 h1
        have : (UInt8.ofNat (48 + u % 10)).toNat = 48 + u % 10 := by rw [UInt8.toNat_ofNat']; omega
        simp only [isD, this, Bool.and_eq_true, decide_eq_true_eq]; omega
theorem dd_val : ∀ (n u : Nat), u < n → valN (dd u) = u
  | 0, u, h => by omega
  | n + 1, u, h => by
    by_cases h0 : u = 0
    · subst h0; rfl
    · rw [dd_step (by omega), valN_snoc, dd_val n (u / 10) (by omega)]
      have : (UInt8.ofNat (48 + u % 10)).toNat = 48 + u % 10 := by rw [UInt8.toNat_ofNat']; omega
      rw [this]; omega
theorem dd_pos {u : Nat} (h : 0 < u) : 0 < (dd u).length := by rw [dd_step h]; simp
theorem dd_head : ∀ (n u : Nat), u < n → (h : 0 < u) → (dd u)[0]'(dd_pos h) ≠ 48
  | 0, u, h, _ => by omega
  | n + 1, u, h, h1 => by
    have e := dd_step h1
    by_cases h0 : u < 10
    · have : dd u = [UInt8.ofNat (48 + u % 10)] := by rw [e, show u / 10 = 0 by omega]; rfl
      simp only [this, List.getElem_cons_zero]
      intro hc
      have h2 := congrArg UInt8.toNat hc
      rw [UInt8.toNat_ofNat'] at h2
      have : (48 : UInt8).toNat = 48 := rfl
      omega
    · have ih := dd_head n (u / 10) (by omega) (by omega)
      have h2 := dd_pos (u := u / 10) (by omega)
      simp only [e]
      rw [List.getElem_append_left h2]
      exact ih
theorem dd_le : ∀ (k u : Nat), u < 10 ^ k → (dd u).length ≤ k
  | 0, u, h => by have : u = 0 := by simpa using h
                  subst this; simp [dd]
  | k + 1, u, h => by
    by_cases h0 : u = 0
    · subst h0; simp [dd]
    · rw [dd_step (by omega), List.length_append, List.length_singleton]
      have := dd_le k (u / 10) (by rw [Nat.pow_succ] at h; omega)
      omega

/-! A piece of a message. -/
def hdS (n : Nat) : Str := sNH ++ ⟨(dd n).toArray⟩
def pcS (x : Str) : Str := ((sNH ++ ⟨(dd x.size).toArray⟩) ++ sNL) ++ x
theorem hd_by (n : Nat) : by' (hdS n) = [10, 35] ++ dd n := by unfold hdS; rw [by_app]; rfl
theorem hd_size (n : Nat) : (hdS n).size = 2 + (dd n).length := by rw [← by_len, hd_by]; simp; omega
theorem pc_by (x : Str) : by' (pcS x) = ([10, 35] ++ dd x.size) ++ (10 :: by' x) := by
  unfold pcS; rw [by_app, by_app, by_app]; simp [by', sNH, sNL]
theorem pc_size (x : Str) : (pcS x).size = 3 + (dd x.size).length + x.size := by rw [← by_len, pc_by]; simp only [List.length_append, List.length_cons, List.length_nil, by_len]; omega
theorem pc_enc (x : Str) (h : x.size ≠ 0) : encS x true = pcS x ++ sTail := by
  unfold encS pcS
  rw [if_neg (by simp), if_neg (fun e => h ((size_nil x).1 e))]
/-- The end of a line, in bytes. -/
theorem nl_of_by {b : Str} {p q : List UInt8} {a : UInt8} (h : by' b = a :: (p ++ 10 :: q)) (hp : ∀ c ∈ p, c ≠ 10) : nlI b = p.length + 1 := by
  have hl := by_len b
  rw [h] at hl
  simp at hl
  refine nl_is (by omega) (by omega) ?_ (fun j h1 h2 => ?_)
  · rw [byteAt_eq (l := a :: (p ++ 10 :: q)) h (by simp)]
    simp
  · rw [byteAt_eq (l := a :: (p ++ 10 :: q)) h (by simp; omega)]
    obtain ⟨j, rfl⟩ : ∃ k, j = k + 1 := ⟨j - 1, by omega⟩
    simp only [List.getElem_cons_succ]
    rw [List.getElem_append_left (by omega)]
    have := hp _ (List.getElem_mem (show j < p.length by omega))
    intro hc
    apply this
    have h2 : p[j].toNat = (10 : UInt8).toNat := by show _ = 10; omega
    exact UInt8.toNat_inj.1 h2
theorem ext_by {b : Str} {i j : Nat} {l : List UInt8} (h : by' b = l) : by' (b.extract i j) = (l.drop i).take (j - i) := by rw [by_ext, h]
theorem of_by (l : List UInt8) : by' ⟨l.toArray⟩ = l := by simp [by']
theorem head_by {b : Str} {p q : List UInt8} {a : UInt8} (h : by' b = a :: (p ++ 10 :: q)) (hp : ∀ c ∈ p, c ≠ 10) : by' (headS b) = a :: p := by
  have hn := nl_of_by h hp
  unfold headS
  rw [if_pos (by omega), hn, ext_by h]
  simp
theorem size_of_by {b : Str} {l : List UInt8} (h : by' b = l) : b.size = l.length := by rw [← h, by_len]
theorem digit_ne {c : UInt8} (h : isD c = true) : c ≠ 10 ∧ c ≠ 35 := by
  simp [isD] at h
  constructor
  · rintro rfl; have : (10 : UInt8).toNat = 10 := rfl; omega
  · rintro rfl; have : (35 : UInt8).toNat = 35 := rfl; omega
theorem step_pc (x r m : Str) (s : Bool) (h0 : x.size ≠ 0) (h1 : m.size + x.size ≤ 16384) : step (pcS x ++ r) m s = .more r (m ++ x) := by
  have hD := dd_all (x.size + 1) x.size (by omega)
  have hV := dd_val (x.size + 1) x.size (by omega)
  have hp := dd_pos (u := x.size) (by omega)
  have hh := dd_head (x.size + 1) x.size (by omega) (by omega)
  have hle := dd_le 5 x.size (by omega)
  have hb : by' (pcS x ++ r) = 10 :: ((35 :: dd x.size) ++ 10 :: (by' x ++ by' r)) := by rw [by_app, pc_by]; simp
  have hno : ∀ c ∈ (35 :: dd x.size), c ≠ (10 : UInt8) := by
    intro c hc
    rcases List.mem_cons.1 hc with rfl | hc
    · decide
    · exact (digit_ne (hD c hc)).1
  have hn := nl_of_by hb hno
  have hH := head_by hb hno
  have hHs : (headS (pcS x ++ r)).size = 2 + (dd x.size).length := by rw [size_of_by hH]; simp; omega
  have hsz : (pcS x ++ r).size = 3 + (dd x.size).length + x.size + r.size := by rw [ByteArray.size_append, pc_size]
  unfold step
  have hbad : badH (headS (pcS x ++ r)) = false := by
    unfold badH hasP
    have e2 : sNH.size = 2 := rfl
    have z : ((headS (pcS x ++ r)).extract 0 (min (headS (pcS x ++ r)).size 2)) = sNH := by
      rw [hHs, Nat.min_eq_right (by omega), ← by_inj, ext_by hH]
      simp [sNH, by']
    rw [z]
    have z2 : sNH.extract 0 sNH.size = sNH := by kernel_rfl
    rw [z2, hHs]
    simp; omega
  rw [hbad, if_neg (by simp), hn, if_neg (by omega)]
  have hns : headS (pcS x ++ r) ≠ s2H := by
    intro hc
    have hc' := hH
    rw [hc] at hc'
    have e3 : by' s2H = [10, 35, 35] := rfl
    rw [e3] at hc'
    have h3 : dd x.size = [35] := by simpa using hc'.symm
    have := (digit_ne (hD 35 (by rw [h3]; simp))).2
    exact this rfl
  rw [if_neg hns, sizeS_T]
  have hb2 : byteAt (headS (pcS x ++ r)) 2 ≠ 48 := by
    rw [byteAt_eq (l := 10 :: 35 :: dd x.size) hH (by simp; omega)]
    simp only [List.getElem_cons_succ]
    intro hc
    apply hh
    have h2 : ((dd x.size)[0]).toNat = (48 : UInt8).toNat := by show _ = 48; omega
    exact UInt8.toNat_inj.1 h2
  have hdr : (by' (headS (pcS x ++ r))).drop 2 = dd x.size := by rw [hH]; rfl
  rw [if_neg (by rw [hHs]; exact fun h => h.elim (fun h => by omega) hb2), hdr, if_pos (by simpa [List.all_eq_true] using hD), hV]
  simp only
  have hl : (35 :: dd x.size).length + 1 = 2 + (dd x.size).length := by simp; omega
  rw [if_neg (by omega), if_neg (by rw [hsz, hl]; omega), hl]
  have d1 : (by' (pcS x ++ r)).drop (2 + (dd x.size).length + 1) = by' x ++ by' r := by
    rw [hb, show 10 :: ((35 :: dd x.size) ++ 10 :: (by' x ++ by' r)) = (10 :: 35 :: dd x.size ++ [10]) ++ (by' x ++ by' r) by simp]
    exact List.drop_left' (by simp; omega)
  have k1 : (pcS x ++ r).extract (2 + (dd x.size).length + 1) (2 + (dd x.size).length + 1 + x.size) = x := by
    rw [← by_inj, by_ext, d1, Nat.add_sub_cancel_left]
    exact List.take_left' (by_len x)
  have k2 : (pcS x ++ r).extract (2 + (dd x.size).length + 1 + x.size) (pcS x ++ r).size = r := by
    rw [← by_inj, by_ext, ← List.drop_drop, d1, List.drop_left' (by_len x)]
    exact List.take_of_length_le (by rw [by_len, hsz]; omega)
  rw [k1, k2]
theorem step_tail (r m : Str) : step (sTail ++ r) m true = .msg r := by
  have hb : by' (sTail ++ r) = 10 :: ([35, 35] ++ 10 :: by' r) := by rw [by_app]; rfl
  have hno : ∀ c ∈ [35, 35], c ≠ (10 : UInt8) := by decide
  have hn := nl_of_by hb hno
  have hH := head_by hb hno
  have hs2 : headS (sTail ++ r) = s2H := by rw [← by_inj, hH]; rfl
  unfold step
  rw [hs2, show badH s2H = false from by kernel_rfl, if_neg (by simp), hn, if_neg (by simp), if_pos rfl, if_pos rfl]
  have hz : (sTail ++ r).size = 4 + r.size := by rw [ByteArray.size_append]; rfl
  have hl : [35, 35].length + 1 + 1 = 4 := rfl
  have hd : (by' (sTail ++ r)).drop 4 = by' r := by rw [hb]; rfl
  rw [show ([35, 35] : List UInt8).length + 1 + 1 = 4 from rfl, show (sTail ++ r).extract 4 (sTail ++ r).size = r by
    rw [← by_inj, by_ext, hd]
    exact List.take_of_length_le (by rw [by_len, hz]; omega)]
theorem run_fuel : ∀ (n : Nat) (b m : Str) (s : Bool) (k : Nat), b.size < n → b.size < k → runK k b m s = runC b m s
  | 0, b, m, s, k, h, _ => by omega
  | n + 1, b, m, s, k, h, hk => by
    obtain ⟨k, rfl⟩ : ∃ j, k = j + 1 := ⟨k - 1, by omega⟩
    unfold runC
    rw [runK_s, runK_s]
    cases hs : step b m s with
    | more b' m' =>
      have := more_lt hs
      simp only [contK]
      rw [run_fuel n b' m' true k (by omega) (by omega), run_fuel n b' m' true b.size (by omega) (by omega)]
    | _ => rfl
theorem runC_more {b m b' m' : Str} {s : Bool} (h : step b m s = .more b' m') : runC b m s = runC b' m' true := by
  have := more_lt h
  rw [show runC b m s = runK b.size b' m' true from runK_more h]
  exact run_fuel (b.size + 1) b' m' true b.size (by omega) this
theorem runC_end {b m : Str} {s : Bool} {o : Out} (h : step b m s = o) (hn : ∀ b' m', o ≠ .more b' m') : runC b m s = ⟨o, b, m, s⟩ := runK_end h hn
end Go.Abs.BB
end

section
set_option linter.unusedVariables false
set_option linter.unusedSimpArgs false
set_option linter.unusedSectionVars false
set_option maxRecDepth 100000
set_option maxHeartbeats 8000000
set_option linter.unusedSimpArgs false
set_option linter.unusedVariables false
namespace Go.Abs.BB
open Go.Proofs

theorem app_assoc (a b c : Str) : a ++ b ++ c = a ++ (b ++ c) := by rw [← by_inj]; simp only [by_app, List.append_assoc]
theorem app_nil (a : Str) : a ++ e0 = a := by rw [← by_inj, by_app]; simp [by', e0]
theorem nil_app (a : Str) : e0 ++ a = a := by rw [← by_inj, by_app]; simp [by', e0]
/-- What has been written is what has been cut off. -/
def chI (msg s rest : Str) (i : Nat) : Prop := rest.size ≠ 0 ∧ s.size ≤ 8 * i + 3000 ∧ ∃ u, msg = u ++ rest ∧ s.size + rest.size ≤ 8 * i + msg.size ∧ ∀ r, ∃ g, runC (s ++ r) e0 false = runC r u g
theorem chI_start (msg : Str) (h : msg.size ≠ 0) : chI msg e0 msg 0 := by
  have z : e0.size = 0 := rfl
  exact ⟨h, by omega, e0, (nil_app _).symm, by omega, fun r => ⟨false, by rw [nil_app]⟩⟩
theorem chI_step {msg s rest : Str} {i n : Nat} (h : chI msg s rest i) (hm : msg.size ≤ 3000) (h1 : 1 ≤ n) (h2 : n < rest.size) : chI msg (s ++ pcS (rest.extract 0 n)) (rest.extract n rest.size) (i + 1) := by
  obtain ⟨a1, a2, u, a3, a4, a5⟩ := h
  have z1 : (rest.extract 0 n).size = n := by rw [ByteArray.size_extract]; omega
  have z2 : (rest.extract n rest.size).size = rest.size - n := by rw [ByteArray.size_extract]; omega
  have zm : msg.size = u.size + rest.size := by rw [a3, ByteArray.size_append]
  have hle := dd_le 5 n (by omega)
  have zp := pc_size (rest.extract 0 n)
  rw [z1] at zp
  have hsp : rest.extract 0 n ++ rest.extract n rest.size = rest := by
    rw [← by_inj, by_app, by_ext, by_ext, Nat.sub_zero, List.drop_zero]
    rw [List.take_of_length_le (l := List.drop n _) (by rw [List.length_drop, by_len]; omega)]
    exact List.take_append_drop _ _
  refine ⟨by omega, by rw [ByteArray.size_append]; omega, u ++ rest.extract 0 n, by rw [app_assoc, hsp]; exact a3, by rw [ByteArray.size_append]; omega, fun r => ?_⟩
  obtain ⟨g, hg⟩ := a5 (pcS (rest.extract 0 n) ++ r)
  refine ⟨true, ?_⟩
  rw [app_assoc, hg]
  exact runC_more (step_pc _ _ _ _ (by omega) (by omega))
theorem chI_mono {msg s rest : Str} {i : Nat} (h : chI msg s rest i) : chI msg s rest (i + 1) := by
  obtain ⟨a1, a2, u, a3, a4, a5⟩ := h
  exact ⟨a1, by omega, u, a3, by omega, a5⟩
theorem chI_end {msg s rest : Str} {i : Nat} (h : chI msg s rest i) (hm : msg.size ≤ 3000) : nextR true (s ++ encS rest true) e0 false = ⟨msg, 0, e0, e0, false, false⟩ := by
  obtain ⟨a1, a2, u, a3, a4, a5⟩ := h
  have zm : msg.size = u.size + rest.size := by rw [a3, ByteArray.size_append]
  obtain ⟨g, hg⟩ := a5 (encS rest true)
  unfold nextR
  rw [if_pos rfl, hg, pc_enc _ a1, runC_more (step_pc rest sTail u g a1 (by omega)), ← a3]
  have ht := step_tail e0 msg
  rw [app_nil] at ht
  rw [runC_end ht (fun _ _ h => by cases h)]
  rfl
theorem next_e0 : nextR true e0 e0 false = ⟨e0, 4, e0, e0, false, false⟩ := by kernel_rfl
/-- Where it is cut. -/
theorem cut_at (c : Int) (k : Nat) (hk : 0 < k) (hk2 : k ≤ 3000) : ∃ n : Nat, n < k ∧ IntKind.i64.wrap (IntKind.i64.wrap (c.tmod k + (k + 1 : Nat)) - 1) = ((c.tmod k + k : Int)) ∧ (c.tmod k + k).tmod k = (n : Int) := by
  have h1 := Int.tmod_lt_of_pos c (show (0 : Int) < k by omega)
  have h2 : -(k : Int) < c.tmod k := by
    have := Int.lt_tmod_of_pos c (show (0 : Int) < k by omega)
    omega
  refine ⟨((c.tmod k + k).tmod k).toNat, ?_, ?_, ?_⟩
  · have := Int.tmod_lt_of_pos (c.tmod k + k) (show (0 : Int) < k by omega)
    omega
  · have e1 : IntKind.i64.wrap (c.tmod k + (k + 1 : Nat)) = c.tmod k + (k + 1 : Nat) := IntWalk.i64_in _ (by omega)
    rw [e1, IntWalk.i64_in _ (by omega)]; omega
  · have : 0 ≤ (c.tmod k + k).tmod k := Int.tmod_nonneg _ (by omega)
    omega
def eI (n : Int) : List AV := [vI n]
theorem eI_s (n : Int) : eI n = [vI n] := nr rfl
instance : EL eI 1 := ⟨fun _ => rfl⟩
abbrev lI (l : List Int) : AV := .fs (l.map eI) false
theorem chunks_law (msg : Str) (cuts : List Int) (hs : msg.size ≤ 140737488355328) (hl : cuts.length ≤ 140737488355328) : pureW XX 8 [vS msg, lI cuts] = some (vB true) := by
  refine pureW_in 95 Tryd.func8 Tryd.ntmps8 (by simp) (rfl : Tryd.f8.body = some _) fns_8 ?_
  by_cases h0 : msg = ⟨#[]⟩
  · simp (maxSteps := 200000) (disch := first | (simp only [go_sem, Nat.reduceAdd, Nat.reduceSub, Nat.reduceMul, Nat.reduceLeDiff, Nat.reduceEqDiff, Nat.reduceLT, Nat.reduceBEq, Nat.reduceBNe, Nat.reducePow, ↓reduceIte]; done) | omega | (simp only [go_sem, Nat.reduceAdd, Nat.reduceSub, Nat.reduceMul, Nat.reduceLeDiff, Nat.reduceEqDiff, Nat.reduceLT, Nat.reduceBEq, Nat.reduceBNe, Nat.reducePow, ↓reduceIte] <;> omega) | fail) only [go_sem, Nat.reduceAdd, Nat.reduceSub, Nat.reduceMul, Nat.reduceLeDiff, Nat.reduceEqDiff, Nat.reduceLT, Nat.reduceBEq, Nat.reduceBNe, Nat.reducePow, ↓reduceIte, callA_pure mode_9, fit_spec, h0]
  by_cases h1 : (3000 : Int) < (msg.size : Int)
  · have g := eq_true h1
    simp (maxSteps := 200000) (disch := first | (simp only [go_sem, Nat.reduceAdd, Nat.reduceSub, Nat.reduceMul, Nat.reduceLeDiff, Nat.reduceEqDiff, Nat.reduceLT, Nat.reduceBEq, Nat.reduceBNe, Nat.reducePow, ↓reduceIte]; done) | omega | (simp only [go_sem, Nat.reduceAdd, Nat.reduceSub, Nat.reduceMul, Nat.reduceLeDiff, Nat.reduceEqDiff, Nat.reduceLT, Nat.reduceBEq, Nat.reduceBNe, Nat.reducePow, ↓reduceIte] <;> omega) | fail) only [go_sem, Nat.reduceAdd, Nat.reduceSub, Nat.reduceMul, Nat.reduceLeDiff, Nat.reduceEqDiff, Nat.reduceLT, Nat.reduceBEq, Nat.reduceBNe, Nat.reducePow, ↓reduceIte, callA_pure mode_9, fit_spec, h0, g]
  by_cases h2 : (50 : Int) < (cuts.length : Int)
  · have g := eq_false h1
    have g2 := eq_true h2
    simp (maxSteps := 200000) (disch := first | (simp only [go_sem, Nat.reduceAdd, Nat.reduceSub, Nat.reduceMul, Nat.reduceLeDiff, Nat.reduceEqDiff, Nat.reduceLT, Nat.reduceBEq, Nat.reduceBNe, Nat.reducePow, ↓reduceIte]; done) | omega | (simp only [go_sem, Nat.reduceAdd, Nat.reduceSub, Nat.reduceMul, Nat.reduceLeDiff, Nat.reduceEqDiff, Nat.reduceLT, Nat.reduceBEq, Nat.reduceBNe, Nat.reducePow, ↓reduceIte] <;> omega) | fail) only [go_sem, Nat.reduceAdd, Nat.reduceSub, Nat.reduceMul, Nat.reduceLeDiff, Nat.reduceEqDiff, Nat.reduceLT, Nat.reduceBEq, Nat.reduceBNe, Nat.reducePow, ↓reduceIte, callA_pure mode_9, fit_spec, h0, g, g2]
  have g := eq_false h1
  have g2 := eq_false h2
  simp (maxSteps := 200000) (disch := first | (simp only [go_sem, Nat.reduceAdd, Nat.reduceSub, Nat.reduceMul, Nat.reduceLeDiff, Nat.reduceEqDiff, Nat.reduceLT, Nat.reduceBEq, Nat.reduceBNe, Nat.reducePow, ↓reduceIte]; done) | omega | (simp only [go_sem, Nat.reduceAdd, Nat.reduceSub, Nat.reduceMul, Nat.reduceLeDiff, Nat.reduceEqDiff, Nat.reduceLT, Nat.reduceBEq, Nat.reduceBNe, Nat.reducePow, ↓reduceIte] <;> omega) | fail) only [go_sem, Nat.reduceAdd, Nat.reduceSub, Nat.reduceMul, Nat.reduceLeDiff, Nat.reduceEqDiff, Nat.reduceLT, Nat.reduceBEq, Nat.reduceBNe, Nat.reducePow, ↓reduceIte, callA_pure mode_9, fit_spec, h0, g, g2]
  refine WP_loopR 7 0 (fun (a : Nat × Str × Str) => S_8_7 (vS msg) (vS a.2.1) (vS a.2.2) (lI cuts) (vI cuts.length) (vI a.1) []) (fun a => cuts.length - a.1) (fun a => a.1 ≤ cuts.length ∧ chI msg a.2.1 a.2.2 a.1) (0, e0, msg) rfl rfl ?_ ?_ ?_
  · simp (maxSteps := 200000) (disch := first | (simp only [go_sem, Nat.reduceAdd, Nat.reduceSub, Nat.reduceMul, Nat.reduceLeDiff, Nat.reduceEqDiff, Nat.reduceLT, Nat.reduceBEq, Nat.reduceBNe, Nat.reducePow, ↓reduceIte]; done) | omega | (simp only [go_sem, Nat.reduceAdd, Nat.reduceSub, Nat.reduceMul, Nat.reduceLeDiff, Nat.reduceEqDiff, Nat.reduceLT, Nat.reduceBEq, Nat.reduceBNe, Nat.reducePow, ↓reduceIte] <;> omega) | fail) only [go_sem, Nat.reduceAdd, Nat.reduceSub, Nat.reduceMul, Nat.reduceLeDiff, Nat.reduceEqDiff, Nat.reduceLT, Nat.reduceBEq, Nat.reduceBNe, Nat.reducePow, ↓reduceIte]; rfl
  · exact ⟨Nat.zero_le _, chI_start msg (fun h => h0 ((size_nil _).2 h))⟩
  · rintro ⟨i, s, rest⟩ ⟨hi, hI⟩
    simp only at hi hI
    by_cases h : i < cuts.length
    · have hws := wrap_succ h hl
      obtain ⟨a1, a2, u, a3, a4, a5⟩ := id hI
      have zm : msg.size = u.size + rest.size := by rw [a3, ByteArray.size_append]
      by_cases hr : (1 : Int) < (rest.size : Int)
      · have g3 := eq_true hr
        obtain ⟨k, hk⟩ : ∃ k : Nat, rest.size = k + 1 := ⟨rest.size - 1, by omega⟩
        obtain ⟨n, hn, c1, c2⟩ := cut_at cuts[i] k (by omega) (by omega)
        have e1 : IntKind.i64.wrap (((k + 1 : Nat) : Int) - 1) = (k : Int) := by rw [IntWalk.i64_in _ (by omega)]; omega
        have g6 : ((pcS (rest.extract 0 (n + 1))).size ≤ (pcS (rest.extract 0 (n + 1))).size + 4) = True := eq_true (by omega)
        have g5 : (n ≤ k) = True := eq_true (by omega)
        have g4 : ((1 : Int) < ((k + 1 : Nat) : Int)) = True := eq_true (by omega)
        have z1 : (rest.extract 0 (n + 1)).size = n + 1 := by rw [ByteArray.size_extract]; omega
        have hne : (rest.extract 0 (n + 1)).size ≠ 0 := by omega
        have hen := refEnc_spec (rest.extract 0 (n + 1)) true (by omega)
        rw [pc_enc _ hne] at hen
        have zp := pc_size (rest.extract 0 (n + 1))
        rw [z1] at zp
        have zd := dd_le 5 (n + 1) (by omega)
        have zt : (pcS (rest.extract 0 (n + 1)) ++ sTail).size = (pcS (rest.extract 0 (n + 1))).size + 4 := by rw [ByteArray.size_append]; rfl
        have e2 : IntKind.i64.wrap ((((pcS (rest.extract 0 (n + 1))).size + 4 : Nat) : Int) - 4) = ((pcS (rest.extract 0 (n + 1))).size : Int) := by rw [IntWalk.i64_in _ (by omega)]; omega
        have hx : (pcS (rest.extract 0 (n + 1)) ++ sTail).extract 0 (pcS (rest.extract 0 (n + 1))).size = pcS (rest.extract 0 (n + 1)) := by
          rw [← by_inj, by_ext, by_app, List.drop_zero, Nat.sub_zero]
          exact List.take_left' (by_len _)
        have e3 : IntKind.i64.wrap ((n : Int) + 1) = ((n + 1 : Nat) : Int) := by rw [IntWalk.i64_in _ (by omega)]; omega
        simp (maxSteps := 200000) (disch := first | (simp only [go_sem, Nat.reduceAdd, Nat.reduceSub, Nat.reduceMul, Nat.reduceLeDiff, Nat.reduceEqDiff, Nat.reduceLT, Nat.reduceBEq, Nat.reduceBNe, Nat.reducePow, ↓reduceIte]; done) | omega | (simp only [go_sem, Nat.reduceAdd, Nat.reduceSub, Nat.reduceMul, Nat.reduceLeDiff, Nat.reduceEqDiff, Nat.reduceLT, Nat.reduceBEq, Nat.reduceBNe, Nat.reducePow, ↓reduceIte] <;> omega) | fail) only [go_sem, Nat.reduceAdd, Nat.reduceSub, Nat.reduceMul, Nat.reduceLeDiff, Nat.reduceEqDiff, Nat.reduceLT, Nat.reduceBEq, Nat.reduceBNe, Nat.reducePow, ↓reduceIte, nat_int, h, eI_s, g4, g5, g6, hk, e1, c1, c2, e3, callA_pure mode_15, hen, zt, e2, hx, hws]
        have hst := chI_step (n := n + 1) hI (by omega) (by omega) (by omega)
        rw [hk] at hst
        exact ⟨(i + 1, s ++ pcS (rest.extract 0 (n + 1)), rest.extract (n + 1) (k + 1)), rfl, ⟨by show i + 1 ≤ _; omega, hst⟩, by show cuts.length - (i + 1) < _; omega⟩
      · have g3 := eq_false hr
        simp (maxSteps := 200000) (disch := first | (simp only [go_sem, Nat.reduceAdd, Nat.reduceSub, Nat.reduceMul, Nat.reduceLeDiff, Nat.reduceEqDiff, Nat.reduceLT, Nat.reduceBEq, Nat.reduceBNe, Nat.reducePow, ↓reduceIte]; done) | omega | (simp only [go_sem, Nat.reduceAdd, Nat.reduceSub, Nat.reduceMul, Nat.reduceLeDiff, Nat.reduceEqDiff, Nat.reduceLT, Nat.reduceBEq, Nat.reduceBNe, Nat.reducePow, ↓reduceIte] <;> omega) | fail) only [go_sem, Nat.reduceAdd, Nat.reduceSub, Nat.reduceMul, Nat.reduceLeDiff, Nat.reduceEqDiff, Nat.reduceLT, Nat.reduceBEq, Nat.reduceBNe, Nat.reducePow, ↓reduceIte, nat_int, h, eI_s, g3, hws]
        exact ⟨(i + 1, s, rest), rfl, ⟨by show i + 1 ≤ _; omega, chI_mono hI⟩, by show cuts.length - (i + 1) < _; omega⟩
    · obtain ⟨a1, a2, u, a3, a4, a5⟩ := id hI
      have zm : msg.size = u.size + rest.size := by rw [a3, ByteArray.size_append]
      have hen := refEnc_spec rest true (by omega)
      have hz : (encS rest true).size ≤ 4000 := by
        have := dd_le 5 rest.size (by omega)
        rw [pc_enc _ a1, ByteArray.size_append, pc_size]
        have : sTail.size = 4 := rfl
        omega
      have hsw := fun t => call_switch 8 (by rw [live_8]; rfl) t [] false e0 e0 false 0
      have hz2 : (s ++ encS rest true).size = s.size + (encS rest true).size := by rw [ByteArray.size_append]
      have ze : e0.size = 0 := rfl
      have hfd := fun t => call_feed 8 (by rw [live_8]; rfl) t [] true e0 e0 false 0 (s ++ encS rest true) false (by omega)
      rw [if_pos rfl, nil_app] at hfd
      have hn1 := fun t => call_next 8 (by rw [live_8]; rfl) t [] true (s ++ encS rest true) e0 false (by omega) (by decide)
      rw [chI_end hI (by omega)] at hn1
      have hn2 := fun t => call_next 8 (by rw [live_8]; rfl) t [] true e0 e0 false (by decide) (by decide)
      rw [next_e0] at hn2
      simp only [Bool.false_eq_true, if_false] at hn1 hn2
      simp (maxSteps := 200000) (disch := first | (simp only [go_sem, Nat.reduceAdd, Nat.reduceSub, Nat.reduceMul, Nat.reduceLeDiff, Nat.reduceEqDiff, Nat.reduceLT, Nat.reduceBEq, Nat.reduceBNe, Nat.reducePow, ↓reduceIte]; done) | omega | (simp only [go_sem, Nat.reduceAdd, Nat.reduceSub, Nat.reduceMul, Nat.reduceLeDiff, Nat.reduceEqDiff, Nat.reduceLT, Nat.reduceBEq, Nat.reduceBNe, Nat.reducePow, ↓reduceIte] <;> omega) | fail) only [go_sem, Nat.reduceAdd, Nat.reduceSub, Nat.reduceMul, Nat.reduceLeDiff, Nat.reduceEqDiff, Nat.reduceLT, Nat.reduceBEq, Nat.reduceBNe, Nat.reducePow, ↓reduceIte, nat_int, h, callA_pure mode_15, hen, hz2, hsw, hfd, hn1, hn2]
end Go.Abs.BB
end

section
set_option linter.unusedVariables false
set_option linter.unusedSimpArgs false
set_option linter.unusedSectionVars false
set_option maxRecDepth 100000
set_option maxHeartbeats 8000000
set_option linter.unusedSimpArgs false
set_option linter.unusedVariables false
namespace Go.Abs.BB
open Go.Proofs

abbrev nilP : AV := .v (.pointer none)
theorem feed_nil (x : Str) (f : Bool) : pureW XX 11 [nilP, .fs (ofBytes x) f] = some (.tup []) := by
  refine pureW_in 22 Tryd.func11 Tryd.ntmps11 (by simp) (rfl : Tryd.f11.body = some _) fns_11 ?_
  simp (maxSteps := 200000) (disch := first | (simp only [go_sem, Nat.reduceAdd, Nat.reduceSub, Nat.reduceMul, Nat.reduceLeDiff, Nat.reduceEqDiff, Nat.reduceLT, Nat.reduceBEq, Nat.reduceBNe, Nat.reducePow, ↓reduceIte]; done) | omega | (simp only [go_sem, Nat.reduceAdd, Nat.reduceSub, Nat.reduceMul, Nat.reduceLeDiff, Nat.reduceEqDiff, Nat.reduceLT, Nat.reduceBEq, Nat.reduceBNe, Nat.reducePow, ↓reduceIte] <;> omega) | fail) only [go_sem, Nat.reduceAdd, Nat.reduceSub, Nat.reduceMul, Nat.reduceLeDiff, Nat.reduceEqDiff, Nat.reduceLT, Nat.reduceBEq, Nat.reduceBNe, Nat.reducePow, ↓reduceIte]
theorem switch_nil : pureW XX 10 [nilP] = some (.tup []) := by
  refine pureW_in 7 Tryd.func10 Tryd.ntmps10 (by simp) (rfl : Tryd.f10.body = some _) fns_10 ?_
  simp (maxSteps := 200000) (disch := first | (simp only [go_sem, Nat.reduceAdd, Nat.reduceSub, Nat.reduceMul, Nat.reduceLeDiff, Nat.reduceEqDiff, Nat.reduceLT, Nat.reduceBEq, Nat.reduceBNe, Nat.reducePow, ↓reduceIte]; done) | omega | (simp only [go_sem, Nat.reduceAdd, Nat.reduceSub, Nat.reduceMul, Nat.reduceLeDiff, Nat.reduceEqDiff, Nat.reduceLT, Nat.reduceBEq, Nat.reduceBNe, Nat.reducePow, ↓reduceIte] <;> omega) | fail) only [go_sem, Nat.reduceAdd, Nat.reduceSub, Nat.reduceMul, Nat.reduceLeDiff, Nat.reduceEqDiff, Nat.reduceLT, Nat.reduceBEq, Nat.reduceBNe, Nat.reducePow, ↓reduceIte]
theorem next_nil : pureW XX 14 [nilP] = some (.tup [vS e0, vI 1]) := by
  refine pureW_in 68 Tryd.func14 Tryd.ntmps14 (by simp) (rfl : Tryd.f14.body = some _) fns_14 ?_
  simp (maxSteps := 200000) (disch := first | (simp only [go_sem, Nat.reduceAdd, Nat.reduceSub, Nat.reduceMul, Nat.reduceLeDiff, Nat.reduceEqDiff, Nat.reduceLT, Nat.reduceBEq, Nat.reduceBNe, Nat.reducePow, ↓reduceIte]; done) | omega | (simp only [go_sem, Nat.reduceAdd, Nat.reduceSub, Nat.reduceMul, Nat.reduceLeDiff, Nat.reduceEqDiff, Nat.reduceLT, Nat.reduceBEq, Nat.reduceBNe, Nat.reducePow, ↓reduceIte] <;> omega) | fail) only [go_sem, Nat.reduceAdd, Nat.reduceSub, Nat.reduceMul, Nat.reduceLeDiff, Nat.reduceEqDiff, Nat.reduceLT, Nat.reduceBEq, Nat.reduceBNe, Nat.reducePow, ↓reduceIte]
def sX : Str := ⟨#[120]⟩
theorem next_x : nextR true sX e0 false = ⟨e0, 3, sX, e0, false, true⟩ := by kernel_rfl
theorem none_law (b : Str) (hb : b.size ≤ 140737488355328) : pureW XX 7 [.fs (ofBytes b) false] = some (vB true) := by
  refine pureW_in 50 Tryd.func7 Tryd.ntmps7 (by simp) (rfl : Tryd.f7.body = some _) fns_7 ?_
  have hl : (by' b).length = b.size := by_len b
  by_cases h1 : (3000 : Int) < (b.size : Int)
  · have g := eq_true h1
    simp (maxSteps := 200000) (disch := first | (simp only [go_sem, Nat.reduceAdd, Nat.reduceSub, Nat.reduceMul, Nat.reduceLeDiff, Nat.reduceEqDiff, Nat.reduceLT, Nat.reduceBEq, Nat.reduceBNe, Nat.reducePow, ↓reduceIte]; done) | omega | (simp only [go_sem, Nat.reduceAdd, Nat.reduceSub, Nat.reduceMul, Nat.reduceLeDiff, Nat.reduceEqDiff, Nat.reduceLT, Nat.reduceBEq, Nat.reduceBNe, Nat.reducePow, ↓reduceIte] <;> omega) | fail) only [go_sem, Nat.reduceAdd, Nat.reduceSub, Nat.reduceMul, Nat.reduceLeDiff, Nat.reduceEqDiff, Nat.reduceLT, Nat.reduceBEq, Nat.reduceBNe, Nat.reducePow, ↓reduceIte, callA_pure mode_9, fit_spec, hl, g]
  have g := eq_false h1
  have hsw := fun t => call_switch 7 (by rw [live_7]; rfl) t [] false e0 e0 false 0
  have ze : e0.size = 0 := rfl
  have zx : sX.size = 1 := rfl
  have hf1 : ∀ t, callX XX (orW XX) ⟨t, [dB true e0 e0 false 0, .dead]⟩ 7 11 [.ptr 0 0, .fs [[.v (.int .u8 120)]] false] = some (.st (.tup []) ⟨t, [dB true sX e0 false 0, .dead]⟩) := fun t =>
    call_feed 7 (by rw [live_7]; rfl) t [.dead] true e0 e0 false 0 sX false (by omega)
  have hn1 := fun t => call_next 7 (by rw [live_7]; rfl) t [.dead] true sX e0 false (by omega) (by omega)
  rw [next_x] at hn1
  simp only [if_true] at hn1
  have hf2 := fun t => call_feed 7 (by rw [live_7]; rfl) t [.dead] true e0 e0 false 3 b false (by omega)
  rw [if_neg (by decide)] at hf2
  have hn2 : ∀ t, callX XX (orW XX) ⟨t, [dB true e0 e0 false 3, .dead]⟩ 7 14 [.ptr 0 0] = some (.st (.tup [vS e0, vI 9]) ⟨t, [dB true e0 e0 false 3, .dead]⟩) := fun t =>
    callX_var 0 (by rw [live_7]; rfl) rfl rfl rfl rfl rfl rfl (next_bad true e0 e0 false 3 (by decide))
  simp (maxSteps := 200000) (disch := first | (simp only [go_sem, Nat.reduceAdd, Nat.reduceSub, Nat.reduceMul, Nat.reduceLeDiff, Nat.reduceEqDiff, Nat.reduceLT, Nat.reduceBEq, Nat.reduceBNe, Nat.reducePow, ↓reduceIte]; done) | omega | (simp only [go_sem, Nat.reduceAdd, Nat.reduceSub, Nat.reduceMul, Nat.reduceLeDiff, Nat.reduceEqDiff, Nat.reduceLT, Nat.reduceBEq, Nat.reduceBNe, Nat.reducePow, ↓reduceIte] <;> omega) | fail) only [go_sem, Nat.reduceAdd, Nat.reduceSub, Nat.reduceMul, Nat.reduceLeDiff, Nat.reduceEqDiff, Nat.reduceLT, Nat.reduceBEq, Nat.reduceBNe, Nat.reducePow, ↓reduceIte, callA_pure mode_9, fit_spec, hl, g, callA_pure mode_11, callA_pure mode_10, callA_pure mode_14, feed_nil, switch_nil, next_nil, hsw, hf1, hn1, hf2, hn2]
end Go.Abs.BB
end

section
set_option linter.unusedVariables false
set_option linter.unusedSimpArgs false
set_option linter.unusedSectionVars false
set_option maxRecDepth 100000
set_option maxHeartbeats 8000000
set_option linter.unusedSimpArgs false
set_option linter.unusedVariables false
namespace Go.Abs.BB
open Go.Proofs

/-- A piece that makes the message too long. -/
theorem step_over (x r m : Str) (s : Bool) (h0 : x.size ≠ 0) (h2 : x.size < 100000) (h1 : 16384 < m.size + x.size) : step (pcS x ++ r) m s = .fail 2 := by
  have hD := dd_all (x.size + 1) x.size (by omega)
  have hV := dd_val (x.size + 1) x.size (by omega)
  have hp := dd_pos (u := x.size) (by omega)
  have hh := dd_head (x.size + 1) x.size (by omega) (by omega)
  have hle := dd_le 5 x.size (by omega)
  have hb : by' (pcS x ++ r) = 10 :: ((35 :: dd x.size) ++ 10 :: (by' x ++ by' r)) := by rw [by_app, pc_by]; simp
  have hno : ∀ c ∈ (35 :: dd x.size), c ≠ (10 : UInt8) := by
    intro c hc
    rcases List.mem_cons.1 hc with rfl | hc
    · decide
    · exact (digit_ne (hD c hc)).1
  have hn := nl_of_by hb hno
  have hH := head_by hb hno
  have hHs : (headS (pcS x ++ r)).size = 2 + (dd x.size).length := by rw [size_of_by hH]; simp; omega
  unfold step
  have hbad : badH (headS (pcS x ++ r)) = false := by
    unfold badH hasP
    have z : ((headS (pcS x ++ r)).extract 0 (min (headS (pcS x ++ r)).size 2)) = sNH := by
      rw [hHs, Nat.min_eq_right (by omega), ← by_inj, ext_by hH]
      simp [sNH, by']
    rw [z]
    have z2 : sNH.extract 0 sNH.size = sNH := by kernel_rfl
    rw [z2, hHs]
    simp; omega
  rw [hbad, if_neg (by simp), hn, if_neg (by omega)]
  have hns : headS (pcS x ++ r) ≠ s2H := by
    intro hc
    have hc' := hH
    rw [hc] at hc'
    have e3 : by' s2H = [10, 35, 35] := rfl
    rw [e3] at hc'
    have h3 : dd x.size = [35] := by simpa using hc'.symm
    have := (digit_ne (hD 35 (by rw [h3]; simp))).2
    exact this rfl
  rw [if_neg hns, sizeS_T]
  have hb2 : byteAt (headS (pcS x ++ r)) 2 ≠ 48 := by
    rw [byteAt_eq (l := 10 :: 35 :: dd x.size) hH (by simp; omega)]
    simp only [List.getElem_cons_succ]
    intro hc
    apply hh
    have h2 : ((dd x.size)[0]).toNat = (48 : UInt8).toNat := by show _ = 48; omega
    exact UInt8.toNat_inj.1 h2
  have hdr : (by' (headS (pcS x ++ r))).drop 2 = dd x.size := by rw [hH]; rfl
  rw [if_neg (by rw [hHs]; exact fun h => h.elim (fun h => by omega) hb2), hdr, if_pos (by simpa [List.all_eq_true] using hD), hV]
  simp only
  rw [if_pos h1]

/-- A text of so many of one letter. -/
def xs (n : Nat) : Str := ⟨(List.replicate n 120).toArray⟩
theorem xs_by (n : Nat) : by' (xs n) = List.replicate n 120 := of_by _
theorem xs_size (n : Nat) : (xs n).size = n := by rw [← by_len, xs_by, List.length_replicate]
theorem xs_ext (n i j : Nat) (h : i ≤ j) (h2 : j ≤ n) : (xs n).extract i j = xs (j - i) := by
  rw [← by_inj, by_ext, xs_by, xs_by, List.drop_replicate, List.take_replicate]
  congr 1; omega
theorem xs_app (n m : Nat) : xs n ++ xs m = xs (n + m) := by
  rw [← by_inj, by_app, xs_by, xs_by, xs_by, List.replicate_append_replicate]
/-- What has been fed of a message of so many letters, in pieces. -/
def lgI (i off : Nat) (B : Str) : Prop := (off ≤ 16384 ∧ ∀ r, ∃ g, (0 < i → g = true) ∧ runC (B ++ r) e0 false = runC r (xs off) g) ∨ (16384 < off ∧ ∀ r, (runC (B ++ r) e0 false).out = .fail 2)
theorem lgI_0 : lgI 0 0 e0 := .inl ⟨by omega, fun r => ⟨false, by omega, by rw [nil_app]; rfl⟩⟩
theorem lgI_step {i off n : Nat} {B : Str} (h : lgI i off B) (h0 : n ≠ 0) (hn : n < 100000) : lgI (i + 1) (off + n) (B ++ pcS (xs n)) := by
  rcases h with ⟨h1, h2⟩ | ⟨h1, h2⟩
  · by_cases hc : off + n ≤ 16384
    · refine .inl ⟨hc, fun r => ?_⟩
      obtain ⟨g, _, hg⟩ := h2 (pcS (xs n) ++ r)
      refine ⟨true, fun _ => rfl, ?_⟩
      rw [app_assoc, hg, runC_more (step_pc _ _ _ _ (by rw [xs_size]; exact h0) (by rw [xs_size, xs_size]; exact hc)), xs_app]
    · refine .inr ⟨by omega, fun r => ?_⟩
      obtain ⟨g, _, hg⟩ := h2 (pcS (xs n) ++ r)
      rw [app_assoc, hg, runC_end (step_over _ _ _ _ (by rw [xs_size]; exact h0) (by rw [xs_size]; exact hn) (by rw [xs_size, xs_size]; omega)) (fun _ _ h => by cases h)]
  · refine .inr ⟨by omega, fun r => ?_⟩
    rw [app_assoc]
    exact h2 _
theorem lgI_ok {i off : Nat} {B : Str} (h : lgI i off B) (h0 : 0 < i) (hn : off ≤ 16384) : nextR true (B ++ sTail) e0 false = ⟨xs off, 0, e0, e0, false, false⟩ := by
  rcases h with ⟨_, h2⟩ | ⟨h1, _⟩
  · obtain ⟨g, hg0, hg⟩ := h2 sTail
    have ht := step_tail e0 (xs off)
    rw [app_nil] at ht
    unfold nextR
    rw [if_pos rfl, hg, hg0 h0, runC_end ht (fun _ _ h => by cases h)]
    rfl
  · omega
theorem lgI_bad {i off : Nat} {B : Str} (h : lgI i off B) (hn : 16384 < off) : (nextR true (B ++ sTail) e0 false).r = e0 ∧ (nextR true (B ++ sTail) e0 false).e = 2 ∧ (nextR true (B ++ sTail) e0 false).bad = true := by
  rcases h with ⟨h1, _⟩ | ⟨_, h2⟩
  · omega
  · have h3 := h2 sTail
    unfold nextR
    rw [if_pos rfl]
    unfold resC
    rw [h3]
    exact ⟨rfl, rfl, rfl⟩
/-- No end where there is no bracket. -/
theorem no_end {l r : List UInt8} (hl : ∀ c ∈ l, c ≠ 93) : ∀ j, j < l.length → Lib.occAt (l ++ r) (by' sEnd) j = false := by
  intro j hj
  cases h : Lib.occAt (l ++ r) (by' sEnd) j with
  | false => rfl
  | true =>
    have := Lib.occAt_head (s := l ++ r) (sub := by' sEnd) (c := 93) (t := [93, 62, 93, 93, 62]) rfl h
    rw [List.getElem?_append_left hj, List.getElem?_eq_getElem hj] at this
    exact absurd (Option.some.inj this) (hl _ (List.getElem_mem hj))
theorem index_end {l r : List UInt8} (hl : ∀ c ∈ l, c ≠ 93) : Lib.index (l ++ (by' sEnd ++ r)) (by' sEnd) = (l.length : Int) := by
  refine Lib.index_first (by simp) ?_ (no_end hl)
  rw [Lib.occAt_iff_take _ _ _ (by simp), List.drop_left, List.take_left]
  simp
theorem index_noend {l : List UInt8} (hl : ∀ c ∈ l, c ≠ 93) : Lib.index l (by' sEnd) = -1 := by
  refine Lib.index_none fun j hj => ?_
  rcases Nat.lt_or_ge j l.length with h | h
  · have := no_end (r := []) hl j h
    rwa [List.append_nil] at this
  · cases ho : Lib.occAt l (by' sEnd) j with
    | false => rfl
    | true =>
      have := Lib.occAt_head (s := l) (sub := by' sEnd) (c := 93) (t := [93, 62, 93, 93, 62]) rfl ho
      rw [List.getElem?_eq_none (by omega)] at this
      cases this
theorem xs_no (n : Nat) : ∀ c ∈ by' (xs n), c ≠ 93 := by
  intro c hc
  rw [xs_by] at hc
  rw [List.eq_of_mem_replicate hc]
  decide
theorem plain_wait (n : Nat) : nextR false (xs n) e0 false = if 16390 ≤ n then ⟨e0, 2, xs n, e0, false, true⟩ else ⟨e0, 4, xs n, e0, false, false⟩ := by
  unfold nextR resF
  rw [if_neg (by simp), index_noend (xs_no n), xs_size]
  by_cases h : 16390 ≤ n
  · rw [if_pos h, if_pos (.inr ⟨by omega, by omega⟩)]
  · rw [if_neg h, if_neg (by omega), if_pos (by omega)]
theorem plain_end (n : Nat) : nextR false (xs n ++ sEnd) e0 false = if 16384 < n then ⟨e0, 2, xs n ++ sEnd, e0, false, true⟩ else ⟨xs n, 0, e0, e0, false, false⟩ := by
  unfold nextR resF
  have hi : Lib.index (by' (xs n ++ sEnd)) (by' sEnd) = (n : Int) := by
    have := index_end (r := []) (xs_no n)
    rw [List.append_nil] at this
    rw [by_app, this, xs_by, List.length_replicate]
  rw [if_neg (by simp), hi]
  have hz : (xs n ++ sEnd).size = n + 6 := by rw [ByteArray.size_append, xs_size]; rfl
  by_cases h : 16384 < n
  · rw [if_pos h, if_pos (.inl (by omega))]
  · rw [if_neg h, if_neg (by omega), if_neg (by omega), Int.toNat_natCast, hz]
    have e1 : (xs n ++ sEnd).extract 0 n = xs n := by
      rw [← by_inj, by_ext, by_app, List.drop_zero, Nat.sub_zero]
      exact List.take_left' (by rw [by_len, xs_size])
    have e2 : (xs n ++ sEnd).extract (n + 6) (n + 6) = e0 := by
      rw [← by_inj, by_ext, Nat.sub_self]; simp [by', e0]
    rw [e1, e2]
end Go.Abs.BB
end

section
set_option linter.unusedVariables false
set_option linter.unusedSimpArgs false
set_option linter.unusedSectionVars false
set_option linter.unusedVariables false
set_option linter.unusedSimpArgs false
namespace Go.Abs

/-! make. -/
def makK2 (h : List Blk) (e : Nat) (n m : Int) : Option TI → Option (List AV) → Option Res
  | some ie, some z => if 0 ≤ n ∧ n ≤ m ∧ ie.bytes * m ≤ 2 ^ 47 ∧ z.length = ie.size ∧ 0 < ie.size ∧ 0 < ie.bytes then
        some (.new (.sl h.length 0 n.toNat false) [.arr e ie.size (List.replicate n.toNat (z.map normC))]) else none
  | _, _ => none
def makK (P : Program) (h : List Blk) (l c : AV) : Option TI → Option Res
  | some ⟨.slice e, _, _, _⟩ => match l, c with
    | .v (.int _ n), .v (.int _ m) => makK2 h e n m (tyOf P e) (zeroA P e)
    | _, _ => none
  | _ => none
theorem makeA_s {P : Program} (ts : List AV) (h : List Blk) (t : Nat) (l c : AV) : makeA P ⟨ts, h⟩ t l c = makK P h l c (tyOf P t) := by
  unfold makeA makK
  cases tyOf P t with
  | none => rfl
  | some q =>
    obtain ⟨d, a, b, z⟩ := q
    cases d with
    | slice e =>
      cases l with
      | v x => cases x <;> first | rfl | (cases c <;> first | rfl | (rename_i y; cases y <;> first | rfl | (dsimp only [makK2]; cases tyOf P e <;> cases zeroA P e <;> rfl)))
      | _ => first | rfl | (cases c <;> first | rfl | (rename_i y; cases y <;> rfl))
    | _ => rfl
theorem makK_slice {P : Program} (h : List Blk) (k k' : IntKind) (n m : Int) (e a b : Nat) (z : Option Value) : makK P h (.v (.int k n)) (.v (.int k' m)) (some ⟨.slice e, a, b, z⟩) = makK2 h e n m (tyOf P e) (zeroA P e) := nr rfl
theorem makK2_some (h : List Blk) (e : Nat) (n : Nat) (d : TD) (a b : Nat) (zz : Option Value) (z : List AV) (h1 : b * n ≤ 140737488355328) (h2 : z.length = a) (h3 : 0 < a) (h4 : 0 < b) :
    makK2 h e (n : Int) (n : Int) (some ⟨d, a, b, zz⟩) (some z) = some (.new (.sl h.length 0 n false) [.arr e a (List.replicate n (z.map normC))]) := by
  simp only [makK2]
  rw [if_pos ⟨by omega, by omega, by rw [← Int.natCast_mul]; omega, h2, h3, h4⟩]
  simp
attribute [go_sem] makeA_s makK_slice makK2_some
/-! Blocks that come of a call. -/
def renSl (off len : Nat) (b : Bool) : Option Nat → AV
  | some i => .sl i off len b
  | none => .junk
def renPtr (off : Nat) : Option Nat → AV
  | some i => .ptr i off
  | none => .junk
def renEp (i o : Nat) : Option Nat → AV
  | some j => .eptr j i o
  | none => .junk
theorem ren_sl (f : Nat → Option Nat) (id off len : Nat) (b : Bool) : AV.ren f (.sl id off len b) = renSl off len b (f id) := by rw [AV.ren]; cases f id <;> rfl
theorem ren_ptr (f : Nat → Option Nat) (id off : Nat) : AV.ren f (.ptr id off) = renPtr off (f id) := by rw [AV.ren]; cases f id <;> rfl
theorem ren_eptr (f : Nat → Option Nat) (id i o : Nat) : AV.ren f (.eptr id i o) = renEp i o (f id) := by rw [AV.ren]; cases f id <;> rfl
theorem renSl_some (off len i : Nat) (b : Bool) : renSl off len b (some i) = .sl i off len b := nr rfl
theorem renPtr_some (off i : Nat) : renPtr off (some i) = .ptr i off := nr rfl
theorem renEp_some (i o j : Nat) : renEp i o (some j) = .eptr j i o := nr rfl
theorem ren_v (f : Nat → Option Nat) (x : Value) : AV.ren f (.v x) = .v x := by rw [AV.ren] <;> simp
theorem ren_fs (f : Nat → Option Nat) (es : List (List AV)) (b : Bool) : AV.ren f (.fs es b) = .fs es b := by rw [AV.ren] <;> simp
theorem ren_fp (f : Nat → Option Nat) (cs : List AV) : AV.ren f (.fp cs) = .fp cs := by rw [AV.ren] <;> simp
theorem ren_junk (f : Nat → Option Nat) : AV.ren f .junk = .junk := by rw [AV.ren] <;> simp
theorem rens_nil (f : Nat → Option Nat) : AV.rens f [] = [] := by rw [AV.rens]
theorem rens_cons (f : Nat → Option Nat) (x : AV) (xs : List AV) : AV.rens f (x :: xs) = x.ren f :: AV.rens f xs := by rw [AV.rens]
theorem ren_agg (f : Nat → Option Nat) (cs : List AV) : AV.ren f (.agg cs) = .agg (AV.rens f cs) := by rw [AV.ren]
theorem bren_var (f : Nat → Option Nat) (cs : List AV) : Blk.ren f (.var cs) = .var (AV.rens f cs) := nr rfl
theorem bren_arr (f : Nat → Option Nat) (e sz : Nat) (es : List (List AV)) : Blk.ren f (.arr e sz es) = .arr e sz es := nr rfl
theorem bren_iter (f : Nat → Option Nat) (b : ByteArray) (p : Nat) : Blk.ren f (.iter b p) = .iter b p := nr rfl
theorem bren_dead (f : Nat → Option Nat) : Blk.ren f .dead = .dead := nr rfl
attribute [go_sem] ren_sl ren_ptr ren_eptr renSl_some renPtr_some renEp_some ren_v ren_fs ren_fp ren_junk rens_nil rens_cons ren_agg bren_var bren_arr bren_iter bren_dead
/-! A store into an element. -/
def stEl2 (n id j o : Nat) (t' : List AV) (h' : List Blk) : Option Blk → Option (List AV) → Option St
  | some (.arr e sz es), some new => (match es[j]? with
          | some c => if new.length = n ∧ o + new.length ≤ c.length then some ⟨t', h'.set id (.arr e sz (es.set j (splice c o (new.map normC))))⟩ else none
          | none => none)
  | _, _ => none
def stEl (n id j o : Nat) : Option (List AV × St) → Option St
  | some ([y], s') => stEl2 n id j o s'.t s'.h s'.h[id]? y.cells?
  | _ => none
theorem storeK_eptr (t : List AV) (h : List Blk) (id j o : Nat) (x : AV) (d : TD) (n c : Nat) (z : Option Value) : storeK ⟨t, h⟩ (.eptr id j o) x (some ⟨d, n, c, z⟩) = stEl n id j o (freeze ⟨t, h⟩ [x]) := by
  simp only [storeK, stEl]
  cases hf : freeze ⟨t, h⟩ [x] with
  | none => rfl
  | some p =>
    obtain ⟨ys, s'⟩ := p
    cases ys with
    | nil => rfl
    | cons y r =>
      cases r with
      | nil =>
        obtain ⟨t', h'⟩ := s'
        dsimp only [stEl2]
        cases h'[id]? with
        | none => rfl
        | some b => cases b with
          | arr e sz es => cases y.cells? <;> first | rfl | (dsimp only; cases es[j]? <;> rfl)
          | _ => cases y.cells? <;> rfl
      | cons _ _ => rfl
theorem stEl_some (n id j o : Nat) (y : AV) (t' : List AV) (h' : List Blk) : stEl n id j o (some ([y], ⟨t', h'⟩)) = stEl2 n id j o t' h' h'[id]? y.cells? := nr rfl
theorem stEl2_map {α : Type} {l : List α} {enc : α → List AV} {e id j : Nat} {t' : List AV} {h' : List Blk} {x : AV} [h3 : EL enc 1] (hj : j < l.length) :
    stEl2 1 id j 0 t' h' (some (.arr e 1 (l.map enc))) (some [x]) = some ⟨t', h'.set id (.arr e 1 ((l.map enc).set j [normC x]))⟩ := by
  simp only [stEl2]
  rw [List.getElem?_map, List.getElem?_eq_getElem hj]
  simp only [Option.map_some]
  rw [if_pos ⟨rfl, by rw [h3.len]; simp⟩]
  have h1 : (enc l[j]).length = 1 := h3.len _
  obtain ⟨c, hc⟩ := List.length_eq_one_iff.1 h1
  rw [hc]
  rfl
theorem reachK_if (h : List Blk) (k : Nat) (acc more : List Nat) : reachK h k acc more = if more.length = acc.length then acc else reach h k more := nr rfl
attribute [go_sem] reachK_if storeK_eptr stEl_some stEl2_map
end Go.Abs
end

section
set_option linter.unusedVariables false
set_option linter.unusedSimpArgs false
set_option linter.unusedSectionVars false
set_option maxRecDepth 100000
set_option maxHeartbeats 8000000
set_option linter.unusedSimpArgs false
set_option linter.unusedVariables false
namespace Go.Abs.BB
open Go.Proofs

theorem callX_va {X : Abs.X} {t : List AV} {bs : List Blk} {f k e sz : Nat} {es : List (List AV)} {cs cs' xs : List AV} {r : AV} (hl : (X.live f).contains k = true) (h2 : AV.lts 0 xs = false) (hi : idsOfs xs = [1, 0]) (hc : idsOfs cs = []) (hc' : idsOfs cs' = []) (hr : idsOf r = [])
    (hw : loudW X k (AV.rens (fun i => posOf i [1, 0]) xs) [.var cs, .arr e sz es] = some (r, [.var cs', .arr e sz es])) : callX X (orW X) ⟨t, .arr e sz es :: .var cs :: bs⟩ f k xs = some (.st r ⟨t, .arr e sz es :: .var cs' :: bs⟩) := by
  rw [callX_live _ _ hl h2]
  have hre : reach (.arr e sz es :: .var cs :: bs) 6 (addNew [] (idsOfs xs)) = [1, 0] := by
    rw [hi]
    simp [addNew, reach, hc]
  have hbl : badL [1, 0] [.var cs, .arr e sz es] [.var cs', .arr e sz es] = [] := by simp [badL, badB]
  have hpb : putBack (.arr e sz es :: .var cs :: bs) [1, 0] [.var cs', .arr e sz es] [] = .arr e sz es :: .var cs' :: bs := by
    unfold putBack
    simp only [List.drop_succ_cons, List.drop_nil, List.length_cons, List.length_nil, List.map_nil, List.append_nil]
    apply List.ext_getElem?
    intro i
    rw [List.getElem?_mapIdx]
    match i with
    | 0 => simp [posOf, Blk.ren]
    | 1 => simp [posOf, Blk.ren, rens_noids _ cs' hc']
    | i + 2 =>
      simp only [List.getElem?_cons_succ]
      cases bs[i]? with
      | none => rfl
      | some b =>
        have : posOf (i + 2) [1, 0] = none := by simp [posOf]
        simp [this, bren_id keepF_nil]
  unfold callL
  dsimp only
  rw [hre]
  have hcnd : dist [1, 0] = true ∧ [1, 0].all (fun i => decide (i < (Blk.arr e sz es :: Blk.var cs :: bs).length)) = true := by simp [dist]
  rw [if_pos hcnd]
  have hm : ([1, 0].map fun i => ((Blk.arr e sz es :: Blk.var cs :: bs).getD i .dead).ren fun k => posOf k [1, 0]) = [.var cs, .arr e sz es] := by
    simp [Blk.ren, rens_noids _ cs hc]
  simp only [hm]
  rw [show (orW X).loud k (AV.rens (fun k => posOf k [1, 0]) xs) [.var cs, .arr e sz es] = some (r, [.var cs', .arr e sz es]) from hw]
  dsimp only
  rw [hbl, hpb, rens_id keepF_nil, ren_noids _ r hr]
theorem feed_sl (c : Bool) (b m : Str) (s : Bool) (x : Str) (n : Nat) (f : Bool) (hn : x.size = n) (h : b.size + x.size ≤ 1000000000) : loudW XX 11 [.ptr 0 0, .sl 1 0 n f] [dB c b m s 0, .arr 5 1 (ofBytes x)] = some (.tup [], [dB c (b ++ x) m s 0, .arr 5 1 (ofBytes x)]) := by
  refine loudW_in 22 Tryd.func11 Tryd.ntmps11 (by simp) (rfl : Tryd.f11.body = some _) fns_11 ?_
  have hl : (by' x).length = n := by rw [by_len, hn]
  have hel : elemSl 1 0 n (some (.arr 5 1 (ofBytes x))) = some (ofBytes x) := elemSl_all _ rfl (by rw [List.length_map, hl])
  simp (maxSteps := 200000) (disch := first | (simp only [go_sem, Nat.reduceAdd, Nat.reduceSub, Nat.reduceMul, Nat.reduceLeDiff, Nat.reduceEqDiff, Nat.reduceLT, Nat.reduceBEq, Nat.reduceBNe, Nat.reducePow, ↓reduceIte]; done) | omega | (simp only [go_sem, Nat.reduceAdd, Nat.reduceSub, Nat.reduceMul, Nat.reduceLeDiff, Nat.reduceEqDiff, Nat.reduceLT, Nat.reduceBEq, Nat.reduceBNe, Nat.reducePow, ↓reduceIte] <;> omega) | fail) only [go_sem, Nat.reduceAdd, Nat.reduceSub, Nat.reduceMul, Nat.reduceLeDiff, Nat.reduceEqDiff, Nat.reduceLT, Nat.reduceBEq, Nat.reduceBNe, Nat.reducePow, ↓reduceIte, hel, hn]
theorem call1_next (f : FuncId) (hf : (XX.live f).contains 14 = true) (t : List AV) (a : Blk) (bs : List Blk) (c : Bool) (b m : Str) (s : Bool) (hb : b.size ≤ 1000000000) (hm : m.size ≤ 1000000000) :
    callX XX (orW XX) ⟨t, a :: dB c b m s 0 :: bs⟩ f 14 [.ptr 1 0] = some (.st (.tup [vS (nextR c b m s).r, vI (nextR c b m s).e]) ⟨t, a :: dB c (if (nextR c b m s).bad = true then e0 else (nextR c b m s).b) (if (nextR c b m s).bad = true then e0 else (nextR c b m s).m) (nextR c b m s).s (if (nextR c b m s).bad = true then (nextR c b m s).e else 0) :: bs⟩) :=
  callX_var 1 hf rfl rfl rfl rfl rfl rfl (next_spec c b m s hb hm)
theorem call1_bad (f : FuncId) (hf : (XX.live f).contains 14 = true) (t : List AV) (a : Blk) (bs : List Blk) (c : Bool) (b m : Str) (s : Bool) (e : Int) (he : e ≠ 0) :
    callX XX (orW XX) ⟨t, a :: dB c b m s e :: bs⟩ f 14 [.ptr 1 0] = some (.st (.tup [vS e0, vI 9]) ⟨t, a :: dB c b m s e :: bs⟩) :=
  callX_var 1 hf rfl rfl rfl rfl rfl rfl (next_bad c b m s e he)
theorem call1_feed (f : FuncId) (hf : (XX.live f).contains 11 = true) (t : List AV) (a : Blk) (bs : List Blk) (c : Bool) (b m : Str) (s : Bool) (e : Int) (x : Str) (fl : Bool) (h : b.size + x.size ≤ 1000000000) :
    callX XX (orW XX) ⟨t, a :: dB c b m s e :: bs⟩ f 11 [.ptr 1 0, .fs (ofBytes x) fl] = some (.st (.tup []) ⟨t, a :: dB c (if e = 0 then b ++ x else b) m s e :: bs⟩) :=
  callX_var 1 hf rfl rfl rfl rfl rfl rfl (feed_spec c b m s e x fl h)
theorem call1_switch (f : FuncId) (hf : (XX.live f).contains 10 = true) (t : List AV) (a : Blk) (bs : List Blk) (c : Bool) (b m : Str) (s : Bool) (e : Int) :
    callX XX (orW XX) ⟨t, a :: dB c b m s e :: bs⟩ f 10 [.ptr 1 0] = some (.st (.tup []) ⟨t, a :: dB true b m s e :: bs⟩) :=
  callX_var 1 hf rfl rfl rfl rfl rfl rfl (switch_spec c b m s e)
/-- A number of so many. -/
theorem tmod_pos (n k : Int) (h0 : 0 < k) (hk : k ≤ 1000) : ∃ q : Nat, (q : Int) < k ∧ IntKind.i64.wrap (n.tmod k + k) = n.tmod k + k ∧ (n.tmod k + k).tmod k = (q : Int) := by
  have h1 := Int.tmod_lt_of_pos n h0
  have h2 := Int.lt_tmod_of_pos n h0
  have h3 : 0 ≤ (n.tmod k + k).tmod k := Int.tmod_nonneg _ (by omega)
  have h4 := Int.tmod_lt_of_pos (n.tmod k + k) h0
  exact ⟨((n.tmod k + k).tmod k).toNat, by omega, IntWalk.i64_in _ (by omega), by omega⟩
instance : EL eB 1 := ⟨fun _ => rfl⟩
/-- So many letters are written. -/
def wr (z i : Nat) : Str := ⟨(List.replicate i (120 : UInt8) ++ List.replicate (z - i) (0 : UInt8)).toArray⟩
theorem wr_z (z : Nat) : wr z z = xs z := by simp [wr, xs]
theorem wr_0 (z : Nat) : List.replicate z [AV.v (.int .u8 0)] = ofBytes (wr z 0) := by simp [wr, ofBytes, eB]
theorem wr_set (z i : Nat) (h : i < z) : (ofBytes (wr z i)).set i [AV.v (.int .u8 120)] = ofBytes (wr z (i + 1)) := by
  have : [AV.v (.int .u8 120)] = eB 120 := rfl
  rw [this]
  unfold ofBytes wr
  rw [← List.map_set]
  congr 1
  simp only
  rw [List.set_append, if_neg (by simp)]
  simp only [List.length_replicate, Nat.sub_self]
  obtain ⟨k, hk⟩ : ∃ k, z - i = k + 1 := ⟨z - i - 1, by omega⟩
  rw [hk, show z - (i + 1) = k by omega, List.replicate_succ, List.set_cons_zero, List.replicate_succ' (n := i)]
  simp
theorem wr_len (z i : Nat) (h : i ≤ z) : (ofBytes (wr z i)).length = z := by simp [wr, ofBytes]; omega
/-- What has been fed. -/
def lgB (z P : Nat) : Nat → Str
  | 0 => e0
  | i + 1 => lgB z P i ++ pcS (xs (z * (i + 1) / P - z * i / P))
theorem mul_w (a b : Nat) (h : a * b ≤ 100000) : IntKind.i64.wrap ((a : Int) * (b : Int)) = ((a * b : Nat) : Int) := by
  rw [← Int.natCast_mul]
  generalize a * b = w at *
  exact IntWalk.i64_in _ (by omega)
theorem long_law (n : Int) (c : Bool) (p : Int) : pureW XX 5 [vI n, vB c, vI p] = some (vB true) := by
  refine pureW_in 121 Tryd.func5 Tryd.ntmps5 (by simp) (rfl : Tryd.f5.body = some _) fns_5 ?_
  obtain ⟨q, q1, q2, q3⟩ := tmod_pos n 20 (by omega) (by omega)
  have e1 : IntKind.i64.wrap (16374 + (q : Int)) = ((16374 + q : Nat) : Int) := by rw [IntWalk.i64_in _ (by omega)]; omega
  obtain ⟨z, hz⟩ : ∃ z, z = 16374 + q := ⟨_, rfl⟩
  rw [← hz] at e1
  simp (maxSteps := 200000) (disch := first | (simp only [go_sem, Nat.reduceAdd, Nat.reduceSub, Nat.reduceMul, Nat.reduceLeDiff, Nat.reduceEqDiff, Nat.reduceLT, Nat.reduceBEq, Nat.reduceBNe, Nat.reducePow, ↓reduceIte]; done) | omega | (simp only [go_sem, Nat.reduceAdd, Nat.reduceSub, Nat.reduceMul, Nat.reduceLeDiff, Nat.reduceEqDiff, Nat.reduceLT, Nat.reduceBEq, Nat.reduceBNe, Nat.reducePow, ↓reduceIte] <;> omega) | fail) only [go_sem, Nat.reduceAdd, Nat.reduceSub, Nat.reduceMul, Nat.reduceLeDiff, Nat.reduceEqDiff, Nat.reduceLT, Nat.reduceBEq, Nat.reduceBNe, Nat.reducePow, ↓reduceIte, callA_pure mode_9, fit_spec, q2, q3, e1]
  have hzb : 16374 ≤ z ∧ z < 16394 := by omega
  refine WP_range 7 1 z (fun i => S_5_7 (vB c) (vI p) (vI z) (.sl 0 0 z false) (vI z) (vI i) [.arr 5 1 (ofBytes (wr z i))]) (fun _ => True) rfl rfl ?_ trivial ?_ ?_
  · simp (maxSteps := 200000) (disch := first | (simp only [go_sem, Nat.reduceAdd, Nat.reduceSub, Nat.reduceMul, Nat.reduceLeDiff, Nat.reduceEqDiff, Nat.reduceLT, Nat.reduceBEq, Nat.reduceBNe, Nat.reducePow, ↓reduceIte]; done) | omega | (simp only [go_sem, Nat.reduceAdd, Nat.reduceSub, Nat.reduceMul, Nat.reduceLeDiff, Nat.reduceEqDiff, Nat.reduceLT, Nat.reduceBEq, Nat.reduceBNe, Nat.reducePow, ↓reduceIte] <;> omega) | fail) only [go_sem, Nat.reduceAdd, Nat.reduceSub, Nat.reduceMul, Nat.reduceLeDiff, Nat.reduceEqDiff, Nat.reduceLT, Nat.reduceBEq, Nat.reduceBNe, Nat.reducePow, ↓reduceIte]
    rw [wr_0]; rfl
  · intro i h _
    have hws := wrap_succ h (by omega)
    have hlz : (ofBytes (wr z i)).length = z := wr_len z i (by omega)
    have hl : (by' (wr z i)).length = z := by simpa using hlz
    have hst : ∀ t' h', stEl2 1 0 i 0 t' h' (some (.arr 5 1 (ofBytes (wr z i)))) (some [.v (.int .u8 120)]) = some ⟨t', h'.set 0 (.arr 5 1 (ofBytes (wr z (i + 1))))⟩ := fun t' h' => by
      rw [← wr_set z i h]
      exact stEl2_map (by rw [hl]; exact h)
    simp (maxSteps := 200000) (disch := first | (simp only [go_sem, Nat.reduceAdd, Nat.reduceSub, Nat.reduceMul, Nat.reduceLeDiff, Nat.reduceEqDiff, Nat.reduceLT, Nat.reduceBEq, Nat.reduceBNe, Nat.reducePow, ↓reduceIte]; done) | omega | (simp only [go_sem, Nat.reduceAdd, Nat.reduceSub, Nat.reduceMul, Nat.reduceLeDiff, Nat.reduceEqDiff, Nat.reduceLT, Nat.reduceBEq, Nat.reduceBNe, Nat.reducePow, ↓reduceIte] <;> omega) | fail) only [go_sem, Nat.reduceAdd, Nat.reduceSub, Nat.reduceMul, Nat.reduceLeDiff, Nat.reduceEqDiff, Nat.reduceLT, Nat.reduceBEq, Nat.reduceBNe, Nat.reducePow, ↓reduceIte, nat_int, h, hl, hws, hst]
  · intro _
    rw [wr_z]
    have hlx : (by' (xs z)).length = z := by rw [by_len, xs_size]
    have hxz := xs_size z
    have ze : e0.size = 0 := rfl
    cases c with
    | true =>
      obtain ⟨k, k1, k2, k3⟩ := tmod_pos p 4 (by omega) (by omega)
      have e2 : IntKind.i64.wrap ((k : Int) + 1) = ((k + 1 : Nat) : Int) := by rw [IntWalk.i64_in _ (by omega)]; omega
      have hsw := fun t a bs => call1_switch 5 (by rw [live_5]; rfl) t a bs false e0 e0 false 0
      simp (maxSteps := 200000) (disch := first | (simp only [go_sem, Nat.reduceAdd, Nat.reduceSub, Nat.reduceMul, Nat.reduceLeDiff, Nat.reduceEqDiff, Nat.reduceLT, Nat.reduceBEq, Nat.reduceBNe, Nat.reducePow, ↓reduceIte]; done) | omega | (simp only [go_sem, Nat.reduceAdd, Nat.reduceSub, Nat.reduceMul, Nat.reduceLeDiff, Nat.reduceEqDiff, Nat.reduceLT, Nat.reduceBEq, Nat.reduceBNe, Nat.reducePow, ↓reduceIte] <;> omega) | fail) only [go_sem, Nat.reduceAdd, Nat.reduceSub, Nat.reduceMul, Nat.reduceLeDiff, Nat.reduceEqDiff, Nat.reduceLT, Nat.reduceBEq, Nat.reduceBNe, Nat.reducePow, ↓reduceIte, nat_int, Nat.lt_irrefl, hsw, k2, k3, e2]
      generalize hP : k + 1 = P
      refine WP_range 16 2 P (fun i => S_5_16 (vI P) (vI z) (.sl 0 0 z false) (.ptr 1 0) (vI P) (vI i) [.arr 5 1 (ofBytes (xs z)), dB true (lgB z P i) e0 false 0]) (fun i => lgI i (z * i / P) (lgB z P i) ∧ (lgB z P i).size ≤ 20000 * i) rfl rfl ?_ ?_ ?_ ?_
      · simp (maxSteps := 200000) (disch := first | (simp only [go_sem, Nat.reduceAdd, Nat.reduceSub, Nat.reduceMul, Nat.reduceLeDiff, Nat.reduceEqDiff, Nat.reduceLT, Nat.reduceBEq, Nat.reduceBNe, Nat.reducePow, ↓reduceIte]; done) | omega | (simp only [go_sem, Nat.reduceAdd, Nat.reduceSub, Nat.reduceMul, Nat.reduceLeDiff, Nat.reduceEqDiff, Nat.reduceLT, Nat.reduceBEq, Nat.reduceBNe, Nat.reducePow, ↓reduceIte] <;> omega) | fail) only [go_sem, Nat.reduceAdd, Nat.reduceSub, Nat.reduceMul, Nat.reduceLeDiff, Nat.reduceEqDiff, Nat.reduceLT, Nat.reduceBEq, Nat.reduceBNe, Nat.reducePow, ↓reduceIte]; rfl
      · refine ⟨?_, by show e0.size ≤ _; omega⟩
        show lgI 0 (z * 0 / P) e0
        rw [Nat.mul_zero, Nat.zero_div]
        exact lgI_0
      · intro i h ⟨hI, hB⟩
        have hws := wrap_succ h (by omega)
        have b1 : z * i ≤ 16394 * 4 := Nat.mul_le_mul (by omega) (by omega)
        have b2 : z * (i + 1) ≤ 16394 * 4 := Nat.mul_le_mul (by omega) (by omega)
        have m1 := mul_w z i (by omega)
        have m2 := mul_w z (i + 1) (by omega)
        have o1 : z * (i + 1) / P ≤ z := by
          rw [Nat.div_le_iff_le_mul_add_pred (by omega)]
          have := Nat.mul_le_mul_left z (show i + 1 ≤ P by omega)
          rw [Nat.mul_comm P z]; omega
        have o2 : z * i / P + 1000 ≤ z * (i + 1) / P := by
          rw [Nat.le_div_iff_mul_le (by omega), Nat.add_mul]
          have h1 := Nat.div_mul_le_self (z * i) P
          have h2 : z * (i + 1) = z * i + z := Nat.mul_succ z i
          have h3 : 1000 * P ≤ 4000 := by omega
          omega
        have d1 : ∀ a : Nat, a ≤ 16394 * 4 → IntKind.i64.wrap ((a : Int).tdiv (P : Int)) = ((a / P : Nat) : Int) := fun a ha => by
          rw [show (a : Int).tdiv (P : Int) = ((a / P : Nat) : Int) from (Int.ofNat_tdiv a P).symm]
          have hd := Nat.div_le_self a P
          generalize a / P = w at *
          exact IntWalk.i64_in _ (by omega)
        have d2 := d1 (z * i) b1
        have d3 := d1 (z * (i + 1)) b2
        have p0 : ((P : Int) = 0) = False := eq_false (by omega)
        generalize hA : z * i / P = A at *
        generalize hC : z * (i + 1) / P = C at *
        have g1 : (C ≤ z) = True := eq_true o1
        have g2 : (A ≤ C) = True := eq_true (by omega)
        have hel : elemSl 1 A (C - A) (some (.arr 5 1 (ofBytes (xs z)))) = some (ofBytes (xs (C - A))) := by
          have hle : (ofBytes (xs z)).length = z := by rw [List.length_map, hlx]
          simp only [elemSl]
          rw [if_pos ⟨by rw [hle]; omega, trivial⟩]
          congr 1
          unfold cutEs
          split
          · rename_i hh
            rw [hle] at hh
            rw [hh.2]
          · show List.take _ (List.drop _ (List.map eB (by' (xs z)))) = List.map eB (by' (xs (C - A)))
            rw [xs_by, xs_by, List.map_replicate, List.map_replicate, List.drop_replicate, List.take_replicate]
            congr 1; omega
        have zx := xs_size (C - A)
        have hen := refEnc_spec (xs (C - A)) true (by omega)
        rw [pc_enc _ (by omega)] at hen
        have zp := pc_size (xs (C - A))
        rw [zx] at zp
        have zd := dd_le 5 (C - A) (by omega)
        have zt : (pcS (xs (C - A)) ++ sTail).size = (pcS (xs (C - A))).size + 4 := by rw [ByteArray.size_append]; rfl
        have e3 : IntKind.i64.wrap ((((pcS (xs (C - A))).size + 4 : Nat) : Int) - 4) = ((pcS (xs (C - A))).size : Int) := by rw [IntWalk.i64_in _ (by omega)]; omega
        have hx : (pcS (xs (C - A)) ++ sTail).extract 0 (pcS (xs (C - A))).size = pcS (xs (C - A)) := by
          rw [← by_inj, by_ext, by_app, List.drop_zero, Nat.sub_zero]
          exact List.take_left' (by_len _)
        have g3 : ((pcS (xs (C - A))).size ≤ (pcS (xs (C - A))).size + 4) = True := eq_true (by omega)
        have hfd := fun t a bs fl => call1_feed 5 (by rw [live_5]; rfl) t a bs true (lgB z P i) e0 false 0 (pcS (xs (C - A))) fl (by omega)
        simp only [if_true] at hfd
        simp (maxSteps := 200000) (disch := first | (simp only [go_sem, Nat.reduceAdd, Nat.reduceSub, Nat.reduceMul, Nat.reduceLeDiff, Nat.reduceEqDiff, Nat.reduceLT, Nat.reduceBEq, Nat.reduceBNe, Nat.reducePow, ↓reduceIte]; done) | omega | (simp only [go_sem, Nat.reduceAdd, Nat.reduceSub, Nat.reduceMul, Nat.reduceLeDiff, Nat.reduceEqDiff, Nat.reduceLT, Nat.reduceBEq, Nat.reduceBNe, Nat.reducePow, ↓reduceIte] <;> omega) | fail) only [go_sem, Nat.reduceAdd, Nat.reduceSub, Nat.reduceMul, Nat.reduceLeDiff, Nat.reduceEqDiff, Nat.reduceLT, Nat.reduceBEq, Nat.reduceBNe, Nat.reducePow, ↓reduceIte, nat_int, h, hlx, hws, m1, m2, d2, d3, p0, g1, g2, hel, callA_pure mode_15, hen, zt, e3, hx, g3, hfd]
        have hB1 : lgB z P (i + 1) = lgB z P i ++ pcS (xs (C - A)) := by rw [← hA, ← hC]; rfl
        have hst := lgI_step hI (n := C - A) (by omega) (by omega)
        rw [show A + (C - A) = C by omega] at hst
        rw [hB1]
        exact ⟨rfl, hst, by rw [ByteArray.size_append]; omega⟩
      · intro ⟨hI, hB⟩
        rw [Nat.mul_div_cancel _ (by omega)] at hI
        generalize lgB z P P = B at *
        have zt : sTail.size = 4 := rfl
        have hfd : ∀ t bs, callX XX (orW XX) ⟨t, .arr 5 1 (ofBytes (xs z)) :: dB true B e0 false 0 :: bs⟩ 5 11 [.ptr 1 0, .fs [[.v (.int .u8 10)], [.v (.int .u8 35)], [.v (.int .u8 35)], [.v (.int .u8 10)]] false] = some (.st (.tup []) ⟨t, .arr 5 1 (ofBytes (xs z)) :: dB true (B ++ sTail) e0 false 0 :: bs⟩) := fun t bs =>
          call1_feed 5 (by rw [live_5]; rfl) t _ bs true B e0 false 0 sTail false (by omega)
        have zb : (B ++ sTail).size = B.size + 4 := by rw [ByteArray.size_append, zt]
        have hn1 := fun t a bs => call1_next 5 (by rw [live_5]; rfl) t a bs true (B ++ sTail) e0 false (by omega) (by decide)
        by_cases hc : 16384 < z
        · obtain ⟨r1, r2, r3⟩ := lgI_bad hI hc
          rw [r1, r2, r3] at hn1
          simp only [if_true] at hn1
          generalize (nextR true (B ++ sTail) e0 false).s = s9 at hn1
          have hn2 := fun t a bs => call1_bad 5 (by rw [live_5]; rfl) t a bs true e0 e0 s9 2 (by decide)
          have g4 : ((16384 : Int) < (z : Int)) = True := eq_true (by omega)
          simp (maxSteps := 200000) (disch := first | (simp only [go_sem, Nat.reduceAdd, Nat.reduceSub, Nat.reduceMul, Nat.reduceLeDiff, Nat.reduceEqDiff, Nat.reduceLT, Nat.reduceBEq, Nat.reduceBNe, Nat.reducePow, ↓reduceIte]; done) | omega | (simp only [go_sem, Nat.reduceAdd, Nat.reduceSub, Nat.reduceMul, Nat.reduceLeDiff, Nat.reduceEqDiff, Nat.reduceLT, Nat.reduceBEq, Nat.reduceBNe, Nat.reducePow, ↓reduceIte] <;> omega) | fail) only [go_sem, Nat.reduceAdd, Nat.reduceSub, Nat.reduceMul, Nat.reduceLeDiff, Nat.reduceEqDiff, Nat.reduceLT, Nat.reduceBEq, Nat.reduceBNe, Nat.reducePow, ↓reduceIte, nat_int, Nat.lt_irrefl, hfd, hn1, g4, hn2]
        · rw [lgI_ok hI (by omega) (by omega)] at hn1
          simp only [Bool.false_eq_true, if_false] at hn1
          have g4 : ((16384 : Int) < (z : Int)) = False := eq_false (by omega)
          have hel : elemSl 1 0 z (some (.arr 5 1 (ofBytes (xs z)))) = some (ofBytes (xs z)) := elemSl_all _ rfl (by rw [List.length_map, hlx])
          simp (maxSteps := 200000) (disch := first | (simp only [go_sem, Nat.reduceAdd, Nat.reduceSub, Nat.reduceMul, Nat.reduceLeDiff, Nat.reduceEqDiff, Nat.reduceLT, Nat.reduceBEq, Nat.reduceBNe, Nat.reducePow, ↓reduceIte]; done) | omega | (simp only [go_sem, Nat.reduceAdd, Nat.reduceSub, Nat.reduceMul, Nat.reduceLeDiff, Nat.reduceEqDiff, Nat.reduceLT, Nat.reduceBEq, Nat.reduceBNe, Nat.reducePow, ↓reduceIte] <;> omega) | fail) only [go_sem, Nat.reduceAdd, Nat.reduceSub, Nat.reduceMul, Nat.reduceLeDiff, Nat.reduceEqDiff, Nat.reduceLT, Nat.reduceBEq, Nat.reduceBNe, Nat.reducePow, ↓reduceIte, nat_int, Nat.lt_irrefl, hfd, hn1, g4, hel]
    | false =>
      have g92 : ((9 : Int) = 2) = False := eq_false (by decide)
      have g42 : ((4 : Int) = 2) = False := eq_false (by decide)
      have hfd := fun t bs => callX_va (X := XX) (t := t) (bs := bs) (f := 5) (k := 11) (e := 5) (sz := 1) (xs := [.ptr 1 0, .sl 0 0 z false]) (by rw [live_5]; rfl) rfl rfl rfl rfl rfl (feed_sl false e0 e0 false (xs z) z false (xs_size z) (by omega))
      rw [nil_app] at hfd
      have hn1 := fun t a bs => call1_next 5 (by rw [live_5]; rfl) t a bs false (xs z) e0 false (by omega) (by decide)
      rw [plain_wait] at hn1
      by_cases hc : 16390 ≤ z
      · rw [if_pos hc] at hn1
        simp only [if_true] at hn1
        have g1 : ((16390 : Int) ≤ (z : Int)) = True := eq_true (by omega)
        have hf2 : ∀ t bs, callX XX (orW XX) ⟨t, .arr 5 1 (ofBytes (xs z)) :: dB false e0 e0 false 2 :: bs⟩ 5 11 [.ptr 1 0, .fs [[.v (.int .u8 93)], [.v (.int .u8 93)], [.v (.int .u8 62)], [.v (.int .u8 93)], [.v (.int .u8 93)], [.v (.int .u8 62)]] false] = some (.st (.tup []) ⟨t, .arr 5 1 (ofBytes (xs z)) :: dB false e0 e0 false 2 :: bs⟩) := fun t bs =>
          call1_feed 5 (by rw [live_5]; rfl) t _ bs false e0 e0 false 2 sEnd false (by decide)
        have hn2 := fun t a bs => call1_bad 5 (by rw [live_5]; rfl) t a bs false e0 e0 false 2 (by decide)
        have g4 : ((16384 : Int) < (z : Int)) = True := eq_true (by omega)
        simp (maxSteps := 200000) (disch := first | (simp only [go_sem, Nat.reduceAdd, Nat.reduceSub, Nat.reduceMul, Nat.reduceLeDiff, Nat.reduceEqDiff, Nat.reduceLT, Nat.reduceBEq, Nat.reduceBNe, Nat.reducePow, ↓reduceIte]; done) | omega | (simp only [go_sem, Nat.reduceAdd, Nat.reduceSub, Nat.reduceMul, Nat.reduceLeDiff, Nat.reduceEqDiff, Nat.reduceLT, Nat.reduceBEq, Nat.reduceBNe, Nat.reducePow, ↓reduceIte] <;> omega) | fail) only [go_sem, Nat.reduceAdd, Nat.reduceSub, Nat.reduceMul, Nat.reduceLeDiff, Nat.reduceEqDiff, Nat.reduceLT, Nat.reduceBEq, Nat.reduceBNe, Nat.reducePow, ↓reduceIte, nat_int, Nat.lt_irrefl, hfd, hn1, g1, hf2, hn2, g4, g92]
      · rw [if_neg hc] at hn1
        simp only [Bool.false_eq_true, if_false] at hn1
        have g1 : ((16390 : Int) ≤ (z : Int)) = False := eq_false (by omega)
        have ze6 : sEnd.size = 6 := rfl
        have zb : (xs z ++ sEnd).size = z + 6 := by rw [ByteArray.size_append, xs_size, ze6]
        have hf2 : ∀ t bs, callX XX (orW XX) ⟨t, .arr 5 1 (ofBytes (xs z)) :: dB false (xs z) e0 false 0 :: bs⟩ 5 11 [.ptr 1 0, .fs [[.v (.int .u8 93)], [.v (.int .u8 93)], [.v (.int .u8 62)], [.v (.int .u8 93)], [.v (.int .u8 93)], [.v (.int .u8 62)]] false] = some (.st (.tup []) ⟨t, .arr 5 1 (ofBytes (xs z)) :: dB false (xs z ++ sEnd) e0 false 0 :: bs⟩) := fun t bs =>
          call1_feed 5 (by rw [live_5]; rfl) t _ bs false (xs z) e0 false 0 sEnd false (by omega)
        have hn2 := fun t a bs => call1_next 5 (by rw [live_5]; rfl) t a bs false (xs z ++ sEnd) e0 false (by omega) (by decide)
        rw [plain_end] at hn2
        by_cases hc2 : 16384 < z
        · rw [if_pos hc2] at hn2
          simp only [if_true] at hn2
          have hn3 := fun t a bs => call1_bad 5 (by rw [live_5]; rfl) t a bs false e0 e0 false 2 (by decide)
          have g4 : ((16384 : Int) < (z : Int)) = True := eq_true (by omega)
          simp (maxSteps := 200000) (disch := first | (simp only [go_sem, Nat.reduceAdd, Nat.reduceSub, Nat.reduceMul, Nat.reduceLeDiff, Nat.reduceEqDiff, Nat.reduceLT, Nat.reduceBEq, Nat.reduceBNe, Nat.reducePow, ↓reduceIte]; done) | omega | (simp only [go_sem, Nat.reduceAdd, Nat.reduceSub, Nat.reduceMul, Nat.reduceLeDiff, Nat.reduceEqDiff, Nat.reduceLT, Nat.reduceBEq, Nat.reduceBNe, Nat.reducePow, ↓reduceIte] <;> omega) | fail) only [go_sem, Nat.reduceAdd, Nat.reduceSub, Nat.reduceMul, Nat.reduceLeDiff, Nat.reduceEqDiff, Nat.reduceLT, Nat.reduceBEq, Nat.reduceBNe, Nat.reducePow, ↓reduceIte, nat_int, Nat.lt_irrefl, hfd, hn1, g1, g42, hf2, hn2, g4, hn3]
        · rw [if_neg hc2] at hn2
          simp only [Bool.false_eq_true, if_false] at hn2
          have g4 : ((16384 : Int) < (z : Int)) = False := eq_false (by omega)
          have hel : elemSl 1 0 z (some (.arr 5 1 (ofBytes (xs z)))) = some (ofBytes (xs z)) := elemSl_all _ rfl (by rw [List.length_map, hlx])
          simp (maxSteps := 200000) (disch := first | (simp only [go_sem, Nat.reduceAdd, Nat.reduceSub, Nat.reduceMul, Nat.reduceLeDiff, Nat.reduceEqDiff, Nat.reduceLT, Nat.reduceBEq, Nat.reduceBNe, Nat.reducePow, ↓reduceIte]; done) | omega | (simp only [go_sem, Nat.reduceAdd, Nat.reduceSub, Nat.reduceMul, Nat.reduceLeDiff, Nat.reduceEqDiff, Nat.reduceLT, Nat.reduceBEq, Nat.reduceBNe, Nat.reducePow, ↓reduceIte] <;> omega) | fail) only [go_sem, Nat.reduceAdd, Nat.reduceSub, Nat.reduceMul, Nat.reduceLeDiff, Nat.reduceEqDiff, Nat.reduceLT, Nat.reduceBEq, Nat.reduceBNe, Nat.reducePow, ↓reduceIte, nat_int, Nat.lt_irrefl, hfd, hn1, g1, g42, hf2, hn2, g4, hel]
end Go.Abs.BB
end

section
set_option linter.unusedVariables false
set_option linter.unusedSimpArgs false
set_option linter.unusedSectionVars false
set_option maxRecDepth 100000
set_option maxHeartbeats 8000000
set_option linter.unusedSimpArgs false
set_option linter.unusedVariables false
namespace Go.Abs.BB
open Go.Proofs

theorem byteAt_app (b a : Str) (j : Nat) (h : j < b.size) : byteAt (b ++ a) j = byteAt b j := by
  rw [byteAt_by _ _ (by rw [ByteArray.size_append]; omega), byteAt_by _ _ h]
  simp only [by_app]
  rw [List.getElem_append_left]
theorem ext_app1 (b a : Str) (i j : Nat) (h : j ≤ b.size) : (b ++ a).extract i j = b.extract i j := by
  rw [← by_inj, by_ext, by_ext, by_app]
  rcases Nat.lt_or_ge j i with h1 | h1
  · rw [show j - i = 0 by omega]; simp
  · rw [List.drop_append_of_le_length (by rw [by_len]; omega), List.take_append_of_le_length (by rw [List.length_drop, by_len]; omega)]
theorem ext_app2 (b a : Str) (i : Nat) (h : i ≤ b.size) : (b ++ a).extract i (b ++ a).size = b.extract i b.size ++ a := by
  rw [← by_inj, by_app, by_ext, by_ext, by_app, List.drop_append_of_le_length (by rw [by_len]; omega)]
  rw [List.take_of_length_le (by rw [List.length_append, List.length_drop, by_len, by_len, ByteArray.size_append]; omega), List.take_of_length_le (by rw [List.length_drop, by_len]; omega)]
theorem byteAt_ext (b : Str) (k j : Nat) (h : j < k) (h2 : k ≤ b.size) : byteAt (b.extract 0 k) j = byteAt b j := by
  have hz : (b.extract 0 k).size = k := by rw [ByteArray.size_extract]; omega
  rw [byteAt_by _ _ (by omega), byteAt_by _ _ (by omega)]
  simp only [by_ext, List.drop_zero, Nat.sub_zero, List.getElem_take]
theorem nl_byte {b : Str} (h : 0 < nlI b) : 1 ≤ nlI b ∧ nlI b < b.size ∧ byteAt b (nlI b) = 10 ∧ ∀ j, 1 ≤ j → j < nlI b → byteAt b j ≠ 10 := by
  have hlt := nl_lt h
  obtain ⟨h1, h2, h3⟩ := nl_some h
  refine ⟨h, hlt, ?_, fun j j1 j2 hc => ?_⟩
  · rw [byteAt_by _ _ hlt, h2]; rfl
  · rw [byteAt_by _ _ (by omega)] at hc
    apply h3 j (by rw [by_len]; omega) j1 j2
    apply UInt8.toNat_inj.1
    show _ = 10
    omega
theorem nl_app {b : Str} (a : Str) (h : 0 < nlI b) : nlI (b ++ a) = nlI b := by
  obtain ⟨h1, h2, h3, h4⟩ := nl_byte h
  refine nl_is h1 (by rw [ByteArray.size_append]; omega) (by rw [byteAt_app _ _ _ h2]; exact h3) fun j j1 j2 => ?_
  rw [byteAt_app _ _ _ (by omega)]
  exact h4 j j1 j2
theorem head_app {b : Str} (a : Str) (h : 0 < nlI b) : headS (b ++ a) = headS b := by
  have hlt := nl_lt h
  unfold headS
  rw [nl_app a h, if_pos h, if_pos h, ext_app1 _ _ _ _ (by omega)]
theorem bad_app {b : Str} (a : Str) (h : nlI b = 0) (hb : badH (headS b) = true) : badH (headS (b ++ a)) = true := by
  have hh : headS b = b := by unfold headS; rw [if_neg (by omega)]
  rw [hh] at hb
  have key : b.size ≤ (headS (b ++ a)).size ∧ ∀ j, j < b.size → byteAt (headS (b ++ a)) j = byteAt b j := by
    unfold headS
    by_cases hk : 0 < nlI (b ++ a)
    · rw [if_pos hk]
      obtain ⟨h1, h2, h3, h4⟩ := nl_byte hk
      have hge : b.size ≤ nlI (b ++ a) := by
        rcases Nat.lt_or_ge (nlI (b ++ a)) b.size with hc | hc
        · rw [byteAt_app _ _ _ hc] at h3
          have := nl_is h1 hc h3 fun j j1 j2 => by
            rw [← byteAt_app b a _ (by omega)]
            exact h4 j j1 j2
          omega
        · exact hc
      refine ⟨by rw [ByteArray.size_extract]; omega, fun j hj => ?_⟩
      rw [byteAt_ext _ _ _ (by omega) (by omega), byteAt_app _ _ _ hj]
    · rw [if_neg hk]
      exact ⟨by rw [ByteArray.size_append]; omega, fun j hj => byteAt_app _ _ _ hj⟩
  obtain ⟨k1, k2⟩ := key
  rw [badH_ref] at hb ⊢
  simp only [Bool.or_eq_true, Bool.and_eq_true, decide_eq_true_eq] at hb ⊢
  rcases hb with (hb | ⟨hb, hc⟩) | ⟨hb, hc⟩
  · exact .inl (.inl (by omega))
  · exact .inl (.inr ⟨by omega, by rw [k2 0 hb]; exact hc⟩)
  · exact .inr ⟨by omega, by rw [k2 1 hb]; exact hc⟩
/-- What comes of a chunk comes of it whatever follows. -/
theorem step_app (b a m : Str) (s : Bool) : step b m s = .wait ∨ (∃ e, step b m s = .fail e ∧ step (b ++ a) m s = .fail e) ∨ (∃ x, step b m s = .msg x ∧ step (b ++ a) m s = .msg (x ++ a)) ∨ ∃ x y, step b m s = .more x y ∧ step (b ++ a) m s = .more (x ++ a) y := by
  by_cases hb : badH (headS b) = true
  · refine .inr (.inl ⟨3, ?_, ?_⟩)
    · unfold step; rw [if_pos hb]
    · unfold step
      rw [if_pos]
      by_cases hn : nlI b = 0
      · exact bad_app a hn hb
      · rw [head_app a (by omega)]; exact hb
  · by_cases hn : nlI b = 0
    · left
      unfold step
      rw [if_neg hb, if_pos hn]
    · have hp : 0 < nlI b := by omega
      have hlt := nl_lt hp
      have e1 := nl_app a hp
      have e2 := head_app a hp
      have hsz : (b ++ a).size = b.size + a.size := ByteArray.size_append
      by_cases h2 : headS b = s2H
      · by_cases hs : s = true
        · refine .inr (.inr (.inl ⟨b.extract (nlI b + 1) b.size, ?_, ?_⟩))
          · unfold step; rw [if_neg hb, if_neg hn, if_pos h2, if_pos hs]
          · unfold step; rw [e1, e2, if_neg hb, if_neg hn, if_pos h2, if_pos hs, ext_app2 _ _ _ (by omega)]
        · refine .inr (.inl ⟨3, ?_, ?_⟩)
          · unfold step; rw [if_neg hb, if_neg hn, if_pos h2, if_neg hs]
          · unfold step; rw [e1, e2, if_neg hb, if_neg hn, if_pos h2, if_neg hs]
      · cases hz : sizeS ((headS b).extract (min (headS b).size 2) (headS b).size) with
        | none =>
          refine .inr (.inl ⟨3, ?_, ?_⟩)
          · unfold step; rw [if_neg hb, if_neg hn, if_neg h2, hz]
          · unfold step; rw [e1, e2, if_neg hb, if_neg hn, if_neg h2, hz]
        | some n =>
          by_cases h3 : 16384 < m.size + n
          · refine .inr (.inl ⟨2, ?_, ?_⟩)
            · unfold step; rw [if_neg hb, if_neg hn, if_neg h2, hz]; simp only; rw [if_pos h3]
            · unfold step; rw [e1, e2, if_neg hb, if_neg hn, if_neg h2, hz]; simp only; rw [if_pos h3]
          · by_cases h4 : b.size < nlI b + 1 + n
            · left
              unfold step; rw [if_neg hb, if_neg hn, if_neg h2, hz]; simp only; rw [if_neg h3, if_pos h4]
            · refine .inr (.inr (.inr ⟨b.extract (nlI b + 1 + n) b.size, m ++ b.extract (nlI b + 1) (nlI b + 1 + n), ?_, ?_⟩))
              · unfold step; rw [if_neg hb, if_neg hn, if_neg h2, hz]; simp only; rw [if_neg h3, if_neg h4]
              · unfold step; rw [e1, e2, if_neg hb, if_neg hn, if_neg h2, hz]; simp only
                rw [if_neg h3, if_neg (by omega), ext_app2 _ _ _ (by omega), ext_app1 _ _ _ _ (by omega)]
/-- What a stream holds. -/
inductive Dec : Bool → Str → Str → Bool → List Str → Prop
  | nil (c : Bool) : Dec c e0 e0 false []
  | more {X m X' m' : Str} {s : Bool} {L : List Str} (h : step X m s = .more X' m') (d : Dec true X' m' true L) : Dec true X m s L
  | msg {X m X' : Str} {s : Bool} {L : List Str} (h : step X m s = .msg X') (d : Dec true X' e0 false L) : Dec true X m s (m :: L)
  | plain {X : Str} {i : Nat} {L : List Str} (h : Lib.index (by' X) (by' sEnd) = (i : Int)) (hi : i ≤ 16384) (d : Dec false (X.extract (i + 6) X.size) e0 false L) : Dec false X e0 false (X.extract 0 i :: L)
theorem app_e0 {b a : Str} (h : b ++ a = e0) : b = e0 ∧ a = e0 := by
  have := congrArg ByteArray.size h
  rw [ByteArray.size_append] at this
  have z : e0.size = 0 := rfl
  exact ⟨(size_nil b).2 (by omega), (size_nil a).2 (by omega)⟩
theorem step_e0 : step e0 e0 false = .wait := by kernel_rfl
theorem dec_wait {X m : Str} {s : Bool} {L : List Str} (d : Dec true X m s L) (h : step X m s = .wait) : L = [] := by
  cases d with
  | nil => rfl
  | more h' _ => rw [h] at h'; cases h'
  | msg h' _ => rw [h] at h'; cases h'
theorem dec_fail {X m : Str} {s : Bool} {L : List Str} {e : Int} (d : Dec true X m s L) (h : step X m s = .fail e) : False := by
  cases d with
  | nil => rw [step_e0] at h; cases h
  | more h' _ => rw [h] at h'; cases h'
  | msg h' _ => rw [h] at h'; cases h'
theorem dec_more {X m X' m' : Str} {s : Bool} {L : List Str} (d : Dec true X m s L) (h : step X m s = .more X' m') : Dec true X' m' true L := by
  cases d with
  | nil => rw [step_e0] at h; cases h
  | more h' d => rw [h] at h'; cases h'; exact d
  | msg h' _ => rw [h] at h'; cases h'
theorem dec_msg {X m X' : Str} {s : Bool} {L : List Str} (d : Dec true X m s L) (h : step X m s = .msg X') : ∃ L', L = m :: L' ∧ Dec true X' e0 false L' := by
  cases d with
  | nil => rw [step_e0] at h; cases h
  | more h' d => rw [h] at h'; cases h'
  | msg h' d => rw [h] at h'; cases h'; exact ⟨_, rfl, d⟩
/-- What Next makes of the stream, as far as it has come. -/
def nxI (c : Bool) (a b : Str) (L : List Str) (R : Res) : Prop :=
  R.bad = false ∧ ((R.e = 4 ∧ Dec c (R.b ++ a) R.m R.s L ∧ (a = e0 → L = [])) ∨ (R.e = 0 ∧ ∃ L', L = R.r :: L' ∧ Dec c (R.b ++ a) R.m R.s L' ∧ R.b.size < b.size))
theorem dec_run (a : Str) : ∀ (n : Nat) (b m : Str) (s : Bool) (L : List Str), b.size < n → Dec true (b ++ a) m s L → nxI true a b L (resC (runC b m s))
  | 0, b, m, s, L, h, _ => by omega
  | n + 1, b, m, s, L, h, d => by
    rcases step_app b a m s with h1 | ⟨e, h1, h2⟩ | ⟨x, h1, h2⟩ | ⟨x, y, h1, h2⟩
    · rw [runC_end h1 (fun _ _ h => by cases h)]
      refine ⟨rfl, .inl ⟨rfl, d, fun ha => ?_⟩⟩
      subst ha
      rw [app_nil] at d
      exact dec_wait d h1
    · exact absurd (dec_fail d h2) id
    · obtain ⟨L', h3, h4⟩ := dec_msg d h2
      rw [runC_end h1 (fun _ _ h => by cases h)]
      exact ⟨rfl, .inr ⟨rfl, L', h3, h4, step_msg h1⟩⟩
    · have h3 := dec_more d h2
      have h4 := more_lt h1
      rw [runC_more h1]
      obtain ⟨k1, k2⟩ := dec_run a n x y true L (by omega) h3
      refine ⟨k1, k2.imp id fun ⟨q1, L', q2, q3, q4⟩ => ⟨q1, L', q2, q3, by omega⟩⟩
theorem occ_app {b a x : List UInt8} {j : Nat} (h : Lib.occAt b x j = true) : Lib.occAt (b ++ a) x j = true := by
  rcases Lib.occAt_room h with h1 | h1
  · rw [Lib.occAt_iff_take _ _ _ h1] at h
    rw [Lib.occAt_iff_take _ _ _ (by rw [List.length_append]; omega)]
    rw [List.drop_append_of_le_length (by omega), List.take_append_of_le_length (by rw [List.length_drop]; omega)]
    exact h
  · subst h1
    simp [Lib.occAt]
theorem occ_back {b a x : List UInt8} {j : Nat} (hj : j + x.length ≤ b.length) (h : Lib.occAt (b ++ a) x j = true) : Lib.occAt b x j = true := by
  rw [Lib.occAt_iff_take _ _ _ (by rw [List.length_append]; omega)] at h
  rw [Lib.occAt_iff_take _ _ _ hj]
  rw [List.drop_append_of_le_length (by omega), List.take_append_of_le_length (by rw [List.length_drop]; omega)] at h
  exact h
end Go.Abs.BB
end

section
set_option linter.unusedVariables false
set_option linter.unusedSimpArgs false
set_option linter.unusedSectionVars false
set_option maxRecDepth 100000
set_option maxHeartbeats 8000000
set_option linter.unusedSimpArgs false
set_option linter.unusedVariables false
namespace Go.Abs.BB
open Go.Proofs

theorem index_has {s x : List UInt8} {i : Nat} (h : Lib.index s x = (i : Int)) : i ≤ s.length ∧ Lib.occAt s x i = true ∧ ∀ j, j < i → Lib.occAt s x j = false := by
  rcases Lib.index_spec s x with ⟨h1, _⟩ | ⟨k, h1, h2, h3, h4⟩
  · rw [h1] at h; omega
  · rw [h1] at h
    have : k = i := by omega
    subst this
    exact ⟨h2, h3, h4⟩
theorem index_front {b a x : List UInt8} {i : Nat} (hx : x ≠ []) (h : Lib.index (b ++ a) x = (i : Int)) : (i + x.length ≤ b.length → Lib.index b x = (i : Int)) ∧ (b.length < i + x.length → Lib.index b x = -1) := by
  obtain ⟨h1, h2, h3⟩ := index_has h
  have hno : ∀ j, j < i → Lib.occAt b x j = false := fun j hj => by
    cases ho : Lib.occAt b x j with
    | false => rfl
    | true => have := occ_app (a := a) ho; rw [h3 j hj] at this; cases this
  refine ⟨fun hl => Lib.index_first (by omega) (occ_back hl h2) hno, fun hl => Lib.index_none fun j hj => ?_⟩
  rcases Nat.lt_or_ge j i with hc | hc
  · exact hno j hc
  · cases ho : Lib.occAt b x j with
    | false => rfl
    | true =>
      rcases Lib.occAt_room ho with g | g
      · omega
      · exact absurd g hx
theorem dec_plain (a b : Str) (L : List Str) (d : Dec false (b ++ a) e0 false L) : nxI false a b L (nextR false b e0 false) := by
  have hne : by' sEnd ≠ [] := by decide
  have h6 : (by' sEnd).length = 6 := rfl
  unfold nextR
  rw [if_neg (by simp)]
  generalize hX : b ++ a = X at d
  cases d with
  | nil =>
    obtain ⟨rfl, rfl⟩ := app_e0 hX
    have hi : Lib.index (by' e0) (by' sEnd) = -1 := index_noend (by decide)
    rw [hi]
    unfold resF
    rw [if_neg (by decide), if_pos (by decide)]
    exact ⟨rfl, .inl ⟨rfl, Dec.nil _, fun _ => rfl⟩⟩
  | plain h hi d =>
    rename_i i L
    subst hX
    have h' := h
    rw [by_app] at h'
    obtain ⟨f1, f2⟩ := index_front hne h'
    obtain ⟨g1, g2, g3⟩ := index_has h
    rw [h6, by_len] at f1 f2
    have hsz : (b ++ a).size = b.size + a.size := ByteArray.size_append
    have groom : i + 6 ≤ (b ++ a).size := by
      rcases Lib.occAt_room g2 with g | g
      · rw [h6, by_len] at g; exact g
      · exact absurd g hne
    by_cases hl : i + 6 ≤ b.size
    · rw [f1 hl]
      unfold resF
      rw [if_neg (by omega), if_neg (by omega), Int.toNat_natCast]
      refine ⟨rfl, .inr ⟨rfl, L, ?_, ?_, ?_⟩⟩
      · show (b ++ a).extract 0 i :: L = b.extract 0 i :: L
        rw [ext_app1 _ _ _ _ (by omega)]
      · show Dec false (b.extract (i + 6) b.size ++ a) e0 false L
        rw [← ext_app2 _ _ _ hl]
        exact d
      · show (b.extract (i + 6) b.size).size < b.size
        rw [ByteArray.size_extract]; omega
    · rw [f2 (by omega)]
      unfold resF
      rw [if_neg (by omega), if_pos (by omega)]
      refine ⟨rfl, .inl ⟨rfl, Dec.plain h hi d, fun ha => ?_⟩⟩
      subst ha
      have : e0.size = 0 := rfl
      omega
theorem dec_next (c : Bool) (a b m : Str) (s : Bool) (L : List Str) (d : Dec c (b ++ a) m s L) : nxI c a b L (nextR c b m s) := by
  cases c with
  | true =>
    unfold nextR
    rw [if_pos rfl]
    exact dec_run a (b.size + 1) b m s L (Nat.lt_succ_self _) d
  | false =>
    have : m = e0 ∧ s = false := by
      generalize b ++ a = X at d
      cases d <;> exact ⟨rfl, rfl⟩
    obtain ⟨rfl, rfl⟩ := this
    exact dec_plain a b L d
/-- May a message be sent? -/
def okM (c : Bool) (x : Str) : Prop := x.size ≤ 5000 ∧ (c = true → x.size ≠ 0) ∧ (c = false → ∀ u ∈ by' x, u ≠ 93)
theorem dec_enc (c : Bool) (x r : Str) (L : List Str) (h : okM c x) (d : Dec c r e0 false L) : Dec c (encS x c ++ r) e0 false (x :: L) := by
  obtain ⟨h1, h2, h3⟩ := h
  cases c with
  | true =>
    have hx := h2 rfl
    rw [pc_enc x hx, app_assoc]
    have ze : e0.size = 0 := rfl
    refine Dec.more (step_pc x (sTail ++ r) e0 false hx (by omega)) ?_
    rw [nil_app]
    exact Dec.msg (step_tail r x) d
  | false =>
    have hn := h3 rfl
    have he : encS x false = x ++ sEnd := by unfold encS; rw [if_pos rfl]
    rw [he, app_assoc]
    have hi : Lib.index (by' (x ++ (sEnd ++ r))) (by' sEnd) = (x.size : Int) := by
      rw [by_app, by_app, index_end hn, by_len]
    have hz : (x ++ (sEnd ++ r)).size = x.size + (6 + r.size) := by rw [ByteArray.size_append, ByteArray.size_append]; rfl
    have k1 : (x ++ (sEnd ++ r)).extract 0 x.size = x := by
      rw [← by_inj, by_ext, by_app, List.drop_zero, Nat.sub_zero]
      exact List.take_left' (by_len _)
    have k2 : (x ++ (sEnd ++ r)).extract (x.size + 6) (x ++ (sEnd ++ r)).size = r := by
      rw [← by_inj, by_ext, by_app, by_app, ← List.drop_drop, List.drop_left' (by_len x), List.drop_left' (show (by' sEnd).length = 6 from rfl)]
      exact List.take_of_length_le (by rw [by_len, hz]; omega)
    have hd : Dec false ((x ++ (sEnd ++ r)).extract (x.size + 6) (x ++ (sEnd ++ r)).size) e0 false L := by rw [k2]; exact d
    have := Dec.plain hi (by omega) hd
    rw [k1] at this
    exact this
def streamS (c : Bool) : List Str → Str
  | [] => e0
  | x :: t => encS x c ++ streamS c t
theorem dec_stream (c : Bool) : ∀ l : List Str, (∀ x ∈ l, okM c x) → Dec c (streamS c l) e0 false l
  | [], _ => Dec.nil c
  | x :: t, h => dec_enc c x _ t (h x (List.mem_cons_self ..)) (dec_stream c t fun y hy => h y (List.mem_cons_of_mem _ hy))
theorem stream_snoc (c : Bool) (x : Str) : ∀ l : List Str, streamS c (l ++ [x]) = streamS c l ++ encS x c
  | [] => by show encS x c ++ e0 = e0 ++ encS x c; rw [app_nil, nil_app]
  | y :: t => by show encS y c ++ streamS c (t ++ [x]) = (encS y c ++ streamS c t) ++ encS x c; rw [stream_snoc c x t, app_assoc]
/-- Runes. -/
theorem dec_one {s : ByteArray} {i : Nat} (h : (s.get! i).toNat < 128) : Utf8.decode s i = ((s.get! i).toNat, 1) := by
  unfold Utf8.decode
  simp only [Nat.add_zero]
  rw [if_pos h]
theorem dec_wide (s : ByteArray) (i : Nat) (hi : i < s.size) : 1 ≤ (Utf8.decode s i).2 ∧ i + (Utf8.decode s i).2 ≤ s.size ∧ ∀ k, 1 ≤ k → k < (Utf8.decode s i).2 → 128 ≤ (s.get! (i + k)).toNat := by
  unfold Utf8.decode
  simp only [Nat.add_zero]
  have hc : ∀ k, ((decide (i + k < s.size) && (s.get! (i + k)).toNat / 64 == 2) = true) → i + k < s.size ∧ 128 ≤ (s.get! (i + k)).toNat := fun k h => by
    simp only [Bool.and_eq_true, decide_eq_true_eq, beq_iff_eq] at h
    omega
  have one : ∀ c : Nat, 1 ≤ (c, 1).2 ∧ i + (c, 1).2 ≤ s.size ∧ ∀ k, 1 ≤ k → k < (c, 1).2 → 128 ≤ (s.get! (i + k)).toNat := fun c => ⟨Nat.le_refl _, hi, fun k h1 h2 => by simp only at h2; omega⟩
  split
  · exact one _
  · split
    · rename_i h
      rw [Bool.and_eq_true] at h
      have c1 := hc 1 h.2
      split
      · refine ⟨by simp, by simp only; omega, fun k h1 h2 => ?_⟩
        simp only at h2
        rw [show k = 1 by omega]; exact c1.2
      · exact one _
    · split
      · rename_i h
        rw [Bool.and_eq_true, Bool.and_eq_true] at h
        have c1 := hc 1 h.1.2
        have c2 := hc 2 h.2
        split
        · refine ⟨by simp, by simp only; omega, fun k h1 h2 => ?_⟩
          simp only at h2
          rcases (show k = 1 ∨ k = 2 by omega) with rfl | rfl
          · exact c1.2
          · exact c2.2
        · exact one _
      · split
        · rename_i h
          rw [Bool.and_eq_true, Bool.and_eq_true, Bool.and_eq_true] at h
          have c1 := hc 1 h.1.1.2
          have c2 := hc 2 h.1.2
          have c3 := hc 3 h.2
          split
          · refine ⟨by simp, by simp only; omega, fun k h1 h2 => ?_⟩
            simp only at h2
            rcases (show k = 1 ∨ k = 2 ∨ k = 3 by omega) with rfl | rfl | rfl
            · exact c1.2
            · exact c2.2
            · exact c3.2
          · exact one _
        · exact one _
end Go.Abs.BB
end

section
set_option linter.unusedVariables false
set_option linter.unusedSimpArgs false
set_option linter.unusedSectionVars false
set_option maxRecDepth 100000
set_option maxHeartbeats 8000000
set_option linter.unusedSimpArgs false
set_option linter.unusedVariables false
namespace Go.Abs.BB
open Go.Proofs

def eZ (s : Str) : List AV := [vS s]
theorem eZ_s (s : Str) : eZ s = [vS s] := nr rfl
instance : EL eZ 1 := ⟨fun _ => rfl⟩
abbrev lZ (l : List Str) : AV := .fs (l.map eZ) false
theorem enc_size (x : Str) (c : Bool) (h : x.size ≤ 5000) : (encS x c).size ≤ x.size + 20 := by
  unfold encS
  split
  · rw [ByteArray.size_append]; show x.size + 6 ≤ _; omega
  · split
    · show 0 ≤ _; omega
    · have := dd_le 5 x.size (by omega)
      simp only [ByteArray.size_append]
      have h1 : (⟨(dd x.size).toArray⟩ : Str).size = (dd x.size).length := rfl
      have h2 : sNH.size = 2 := rfl
      have h3 : sNL.size = 1 := rfl
      have h4 : sTail.size = 4 := rfl
      omega
theorem enc_ne (x : Str) (c : Bool) (h : okM c x) : encS x c ≠ e0 := by
  intro he
  have hz := congrArg ByteArray.size he
  have z0 : e0.size = 0 := rfl
  unfold encS at hz
  cases c with
  | false =>
    rw [if_pos rfl, ByteArray.size_append] at hz
    have : sEnd.size = 6 := rfl
    omega
  | true =>
    rw [if_neg (by simp), if_neg (fun e => h.2.1 rfl ((size_nil x).1 e))] at hz
    rw [ByteArray.size_append] at hz
    have : sTail.size = 4 := rfl
    omega
theorem stream_nil {c : Bool} {l : List Str} (hok : ∀ x ∈ l, okM c x) (h : streamS c l = e0) : l = [] := by
  cases l with
  | nil => rfl
  | cons x t => exact absurd (app_e0 (b := encS x c) (a := streamS c t) h).1 (enc_ne x c (hok x (List.mem_cons_self ..)))
theorem byteAt_get (s : Str) (i : Nat) : byteAt s i = ((s.get! i).toNat : Int) := rfl
/-- A rune is gone over. -/
theorem rune_step {s : Str} {p : Nat} (hp : p < s.size) (h0 : byteAt s p ≠ 93) (hI : ∀ j, j < p → byteAt s j ≠ 93) : ∀ j, j < p + (Utf8.decode s p).2 → byteAt s j ≠ 93 := by
  obtain ⟨h1, h2, h3⟩ := dec_wide s p hp
  intro j hj
  rcases Nat.lt_trichotomy j p with h | h | h
  · exact hI j h
  · rw [h]; exact h0
  · have := h3 (j - p) (by omega) (by omega)
    rw [show p + (j - p) = j by omega] at this
    rw [byteAt_get]; omega
theorem no93 {s : Str} (h : ∀ j, j < s.size → byteAt s j ≠ 93) : ∀ u ∈ by' s, u ≠ 93 := by
  intro u hu hc
  obtain ⟨j, hj, he⟩ := List.mem_iff_getElem.1 hu
  rw [by_len] at hj
  apply h j hj
  rw [byteAt_by s j hj, he, hc]; rfl
theorem back_law (l : List Str) (c : Bool) (st : Int) (hl : l.length ≤ 140737488355328) (hp : ∀ s ∈ l, s.size ≤ 140737488355328) : pureW XX 4 [lZ l, vB c, vI st] = some (vB true) := by
  refine pureW_in 114 Tryd.func4 Tryd.ntmps4 (by simp) (rfl : Tryd.f4.body = some _) fns_4 ?_
  simp (maxSteps := 200000) (disch := first | (simp only [go_sem, Nat.reduceAdd, Nat.reduceSub, Nat.reduceMul, Nat.reduceLeDiff, Nat.reduceEqDiff, Nat.reduceLT, Nat.reduceBEq, Nat.reduceBNe, Nat.reducePow, ↓reduceIte]; done) | omega | (simp only [go_sem, Nat.reduceAdd, Nat.reduceSub, Nat.reduceMul, Nat.reduceLeDiff, Nat.reduceEqDiff, Nat.reduceLT, Nat.reduceBEq, Nat.reduceBNe, Nat.reducePow, ↓reduceIte] <;> omega) | fail) only [go_sem, Nat.reduceAdd, Nat.reduceSub, Nat.reduceMul, Nat.reduceLeDiff, Nat.reduceEqDiff, Nat.reduceLT, Nat.reduceBEq, Nat.reduceBNe, Nat.reducePow, ↓reduceIte, callA_pure mode_9, fit_spec]
  refine WP_loopR 5 0 (fun (i : Nat) => S_4_5 (lZ l) (vB c) (vI st) (vS (streamS c (l.take i))) (lZ l) (vI l.length) (vI i) []) (fun i => l.length - i) (fun i => i ≤ l.length ∧ (∀ x ∈ l.take i, okM c x) ∧ (streamS c (l.take i)).size ≤ 25100) 0 rfl rfl ?_ ?_ ?_
  · simp (maxSteps := 200000) (disch := first | (simp only [go_sem, Nat.reduceAdd, Nat.reduceSub, Nat.reduceMul, Nat.reduceLeDiff, Nat.reduceEqDiff, Nat.reduceLT, Nat.reduceBEq, Nat.reduceBNe, Nat.reducePow, ↓reduceIte]; done) | omega | (simp only [go_sem, Nat.reduceAdd, Nat.reduceSub, Nat.reduceMul, Nat.reduceLeDiff, Nat.reduceEqDiff, Nat.reduceLT, Nat.reduceBEq, Nat.reduceBNe, Nat.reducePow, ↓reduceIte] <;> omega) | fail) only [go_sem, Nat.reduceAdd, Nat.reduceSub, Nat.reduceMul, Nat.reduceLeDiff, Nat.reduceEqDiff, Nat.reduceLT, Nat.reduceBEq, Nat.reduceBNe, Nat.reducePow, ↓reduceIte]; rfl
  · exact ⟨Nat.zero_le _, by simp, by show 0 ≤ _; omega⟩
  · rintro i ⟨hi, hok, hsz⟩
    by_cases h : i < l.length
    case pos =>
      have hws := wrap_succ h hl
      have hx := hp _ (List.getElem_mem h)
      have htk : l.take (i + 1) = l.take i ++ [l[i]] := List.take_succ_eq_append_getElem h
      obtain ⟨x, hxi⟩ : ∃ x, l[i] = x := ⟨_, rfl⟩
      rw [hxi] at hx htk
      by_cases h1 : (5000 : Int) < (x.size : Int)
      · have g1 := eq_true h1
        simp (maxSteps := 200000) (disch := first | (simp only [go_sem, Nat.reduceAdd, Nat.reduceSub, Nat.reduceMul, Nat.reduceLeDiff, Nat.reduceEqDiff, Nat.reduceLT, Nat.reduceBEq, Nat.reduceBNe, Nat.reducePow, ↓reduceIte]; done) | omega | (simp only [go_sem, Nat.reduceAdd, Nat.reduceSub, Nat.reduceMul, Nat.reduceLeDiff, Nat.reduceEqDiff, Nat.reduceLT, Nat.reduceBEq, Nat.reduceBNe, Nat.reducePow, ↓reduceIte] <;> omega) | fail) only [go_sem, Nat.reduceAdd, Nat.reduceSub, Nat.reduceMul, Nat.reduceLeDiff, Nat.reduceEqDiff, Nat.reduceLT, Nat.reduceBEq, Nat.reduceBNe, Nat.reducePow, ↓reduceIte, nat_int, h, eZ_s, hxi, g1]
      have g1 := eq_false h1
      by_cases h2 : (20000 : Int) < ((streamS c (l.take i)).size : Int)
      · have g2 := eq_true h2
        simp (maxSteps := 200000) (disch := first | (simp only [go_sem, Nat.reduceAdd, Nat.reduceSub, Nat.reduceMul, Nat.reduceLeDiff, Nat.reduceEqDiff, Nat.reduceLT, Nat.reduceBEq, Nat.reduceBNe, Nat.reducePow, ↓reduceIte]; done) | omega | (simp only [go_sem, Nat.reduceAdd, Nat.reduceSub, Nat.reduceMul, Nat.reduceLeDiff, Nat.reduceEqDiff, Nat.reduceLT, Nat.reduceBEq, Nat.reduceBNe, Nat.reducePow, ↓reduceIte] <;> omega) | fail) only [go_sem, Nat.reduceAdd, Nat.reduceSub, Nat.reduceMul, Nat.reduceLeDiff, Nat.reduceEqDiff, Nat.reduceLT, Nat.reduceBEq, Nat.reduceBNe, Nat.reducePow, ↓reduceIte, nat_int, h, eZ_s, hxi, g1, g2]
      have g2 := eq_false h2
      by_cases h3 : c = true ∧ x = ⟨#[]⟩
      · obtain ⟨rfl, g3⟩ := h3
        have g3 := eq_true g3
        simp (maxSteps := 200000) (disch := first | (simp only [go_sem, Nat.reduceAdd, Nat.reduceSub, Nat.reduceMul, Nat.reduceLeDiff, Nat.reduceEqDiff, Nat.reduceLT, Nat.reduceBEq, Nat.reduceBNe, Nat.reducePow, ↓reduceIte]; done) | omega | (simp only [go_sem, Nat.reduceAdd, Nat.reduceSub, Nat.reduceMul, Nat.reduceLeDiff, Nat.reduceEqDiff, Nat.reduceLT, Nat.reduceBEq, Nat.reduceBNe, Nat.reducePow, ↓reduceIte] <;> omega) | fail) only [go_sem, Nat.reduceAdd, Nat.reduceSub, Nat.reduceMul, Nat.reduceLeDiff, Nat.reduceEqDiff, Nat.reduceLT, Nat.reduceBEq, Nat.reduceBNe, Nat.reducePow, ↓reduceIte, nat_int, h, eZ_s, hxi, g1, g2, g3]
      have hen := enc_spec x c (by omega)
      have hez := enc_size x c (by omega)
      have hfin : ∀ hn : (c = false → ∀ u ∈ by' x, u ≠ 93), (∀ y ∈ l.take (i + 1), okM c y) ∧ streamS c (l.take (i + 1)) = streamS c (l.take i) ++ encS x c := fun hn => by
        rw [htk]
        refine ⟨fun y hy => ?_, stream_snoc c x _⟩
        rcases List.mem_append.1 hy with hy | hy
        · exact hok y hy
        · obtain rfl := List.mem_singleton.1 hy
          exact ⟨by omega, fun hc hz => h3 ⟨hc, (size_nil y).2 hz⟩, hn⟩
      cases c with
      | true =>
        have g3 : (x = ⟨#[]⟩) = False := eq_false fun e => h3 ⟨rfl, e⟩
        simp (maxSteps := 200000) (disch := first | (simp only [go_sem, Nat.reduceAdd, Nat.reduceSub, Nat.reduceMul, Nat.reduceLeDiff, Nat.reduceEqDiff, Nat.reduceLT, Nat.reduceBEq, Nat.reduceBNe, Nat.reducePow, ↓reduceIte]; done) | omega | (simp only [go_sem, Nat.reduceAdd, Nat.reduceSub, Nat.reduceMul, Nat.reduceLeDiff, Nat.reduceEqDiff, Nat.reduceLT, Nat.reduceBEq, Nat.reduceBNe, Nat.reducePow, ↓reduceIte] <;> omega) | fail) only [go_sem, Nat.reduceAdd, Nat.reduceSub, Nat.reduceMul, Nat.reduceLeDiff, Nat.reduceEqDiff, Nat.reduceLT, Nat.reduceBEq, Nat.reduceBNe, Nat.reducePow, ↓reduceIte, nat_int, h, eZ_s, hxi, g1, g2, g3]
        refine WP_loopR 10 1 (fun (p : Nat) => S_4_10 (lZ l) (vB true) (vI st) (vS (streamS true (l.take i))) (vS x) (lZ l) (vI l.length) (vI i) (.ptr 0 0) [.iter x p]) (fun p => x.size - p) (fun p => p ≤ x.size) 0 rfl rfl ?_ (Nat.zero_le _) ?_
        · simp (maxSteps := 200000) (disch := first | (simp only [go_sem, Nat.reduceAdd, Nat.reduceSub, Nat.reduceMul, Nat.reduceLeDiff, Nat.reduceEqDiff, Nat.reduceLT, Nat.reduceBEq, Nat.reduceBNe, Nat.reducePow, ↓reduceIte]; done) | omega | (simp only [go_sem, Nat.reduceAdd, Nat.reduceSub, Nat.reduceMul, Nat.reduceLeDiff, Nat.reduceEqDiff, Nat.reduceLT, Nat.reduceBEq, Nat.reduceBNe, Nat.reducePow, ↓reduceIte] <;> omega) | fail) only [go_sem, Nat.reduceAdd, Nat.reduceSub, Nat.reduceMul, Nat.reduceLeDiff, Nat.reduceEqDiff, Nat.reduceLT, Nat.reduceBEq, Nat.reduceBNe, Nat.reducePow, ↓reduceIte]
        · intro p hp1
          by_cases hpx : p < x.size
          · obtain ⟨w1, w2, _⟩ := dec_wide x p hpx
            simp (maxSteps := 200000) (disch := first | (simp only [go_sem, Nat.reduceAdd, Nat.reduceSub, Nat.reduceMul, Nat.reduceLeDiff, Nat.reduceEqDiff, Nat.reduceLT, Nat.reduceBEq, Nat.reduceBNe, Nat.reducePow, ↓reduceIte]; done) | omega | (simp only [go_sem, Nat.reduceAdd, Nat.reduceSub, Nat.reduceMul, Nat.reduceLeDiff, Nat.reduceEqDiff, Nat.reduceLT, Nat.reduceBEq, Nat.reduceBNe, Nat.reducePow, ↓reduceIte] <;> omega) | fail) only [go_sem, Nat.reduceAdd, Nat.reduceSub, Nat.reduceMul, Nat.reduceLeDiff, Nat.reduceEqDiff, Nat.reduceLT, Nat.reduceBEq, Nat.reduceBNe, Nat.reducePow, ↓reduceIte, hpx]
            exact ⟨p + (Utf8.decode x p).2, rfl, w2, by omega⟩
          · obtain ⟨f1, f2⟩ := hfin (fun hc => by cases hc)
            simp (maxSteps := 200000) (disch := first | (simp only [go_sem, Nat.reduceAdd, Nat.reduceSub, Nat.reduceMul, Nat.reduceLeDiff, Nat.reduceEqDiff, Nat.reduceLT, Nat.reduceBEq, Nat.reduceBNe, Nat.reducePow, ↓reduceIte]; done) | omega | (simp only [go_sem, Nat.reduceAdd, Nat.reduceSub, Nat.reduceMul, Nat.reduceLeDiff, Nat.reduceEqDiff, Nat.reduceLT, Nat.reduceBEq, Nat.reduceBNe, Nat.reducePow, ↓reduceIte] <;> omega) | fail) only [go_sem, Nat.reduceAdd, Nat.reduceSub, Nat.reduceMul, Nat.reduceLeDiff, Nat.reduceEqDiff, Nat.reduceLT, Nat.reduceBEq, Nat.reduceBNe, Nat.reducePow, ↓reduceIte, hpx, callA_pure mode_13, hen, hws]
            refine ⟨i + 1, ?_, ⟨by omega, f1, ?_⟩, by omega⟩
            · rw [f2]; exact gcK_mkT rfl rfl
            · rw [f2, ByteArray.size_append]; omega
      | false =>
        simp (maxSteps := 200000) (disch := first | (simp only [go_sem, Nat.reduceAdd, Nat.reduceSub, Nat.reduceMul, Nat.reduceLeDiff, Nat.reduceEqDiff, Nat.reduceLT, Nat.reduceBEq, Nat.reduceBNe, Nat.reducePow, ↓reduceIte]; done) | omega | (simp only [go_sem, Nat.reduceAdd, Nat.reduceSub, Nat.reduceMul, Nat.reduceLeDiff, Nat.reduceEqDiff, Nat.reduceLT, Nat.reduceBEq, Nat.reduceBNe, Nat.reducePow, ↓reduceIte] <;> omega) | fail) only [go_sem, Nat.reduceAdd, Nat.reduceSub, Nat.reduceMul, Nat.reduceLeDiff, Nat.reduceEqDiff, Nat.reduceLT, Nat.reduceBEq, Nat.reduceBNe, Nat.reducePow, ↓reduceIte, nat_int, h, eZ_s, hxi, g1, g2]
        refine WP_loopR 10 1 (fun (p : Nat) => S_4_10 (lZ l) (vB false) (vI st) (vS (streamS false (l.take i))) (vS x) (lZ l) (vI l.length) (vI i) (.ptr 0 0) [.iter x p]) (fun p => x.size - p) (fun p => p ≤ x.size ∧ ∀ j, j < p → byteAt x j ≠ 93) 0 rfl rfl ?_ ⟨Nat.zero_le _, fun j hj => by omega⟩ ?_
        · simp (maxSteps := 200000) (disch := first | (simp only [go_sem, Nat.reduceAdd, Nat.reduceSub, Nat.reduceMul, Nat.reduceLeDiff, Nat.reduceEqDiff, Nat.reduceLT, Nat.reduceBEq, Nat.reduceBNe, Nat.reducePow, ↓reduceIte]; done) | omega | (simp only [go_sem, Nat.reduceAdd, Nat.reduceSub, Nat.reduceMul, Nat.reduceLeDiff, Nat.reduceEqDiff, Nat.reduceLT, Nat.reduceBEq, Nat.reduceBNe, Nat.reducePow, ↓reduceIte] <;> omega) | fail) only [go_sem, Nat.reduceAdd, Nat.reduceSub, Nat.reduceMul, Nat.reduceLeDiff, Nat.reduceEqDiff, Nat.reduceLT, Nat.reduceBEq, Nat.reduceBNe, Nat.reducePow, ↓reduceIte]
        · rintro p ⟨hp1, hI⟩
          by_cases hpx : p < x.size
          · obtain ⟨w1, w2, _⟩ := dec_wide x p hpx
            by_cases a : byteAt x p = 93
            · have ga := eq_true a
              simp (maxSteps := 200000) (disch := first | (simp only [go_sem, Nat.reduceAdd, Nat.reduceSub, Nat.reduceMul, Nat.reduceLeDiff, Nat.reduceEqDiff, Nat.reduceLT, Nat.reduceBEq, Nat.reduceBNe, Nat.reducePow, ↓reduceIte]; done) | omega | (simp only [go_sem, Nat.reduceAdd, Nat.reduceSub, Nat.reduceMul, Nat.reduceLeDiff, Nat.reduceEqDiff, Nat.reduceLT, Nat.reduceBEq, Nat.reduceBNe, Nat.reducePow, ↓reduceIte] <;> omega) | fail) only [go_sem, Nat.reduceAdd, Nat.reduceSub, Nat.reduceMul, Nat.reduceLeDiff, Nat.reduceEqDiff, Nat.reduceLT, Nat.reduceBEq, Nat.reduceBNe, Nat.reducePow, ↓reduceIte, hpx, ga]
            · have ga := eq_false a
              by_cases b : byteAt x p = 62
              · have gb := eq_true b
                simp (maxSteps := 200000) (disch := first | (simp only [go_sem, Nat.reduceAdd, Nat.reduceSub, Nat.reduceMul, Nat.reduceLeDiff, Nat.reduceEqDiff, Nat.reduceLT, Nat.reduceBEq, Nat.reduceBNe, Nat.reducePow, ↓reduceIte]; done) | omega | (simp only [go_sem, Nat.reduceAdd, Nat.reduceSub, Nat.reduceMul, Nat.reduceLeDiff, Nat.reduceEqDiff, Nat.reduceLT, Nat.reduceBEq, Nat.reduceBNe, Nat.reducePow, ↓reduceIte] <;> omega) | fail) only [go_sem, Nat.reduceAdd, Nat.reduceSub, Nat.reduceMul, Nat.reduceLeDiff, Nat.reduceEqDiff, Nat.reduceLT, Nat.reduceBEq, Nat.reduceBNe, Nat.reducePow, ↓reduceIte, hpx, ga, gb]
              · have gb := eq_false b
                simp (maxSteps := 200000) (disch := first | (simp only [go_sem, Nat.reduceAdd, Nat.reduceSub, Nat.reduceMul, Nat.reduceLeDiff, Nat.reduceEqDiff, Nat.reduceLT, Nat.reduceBEq, Nat.reduceBNe, Nat.reducePow, ↓reduceIte]; done) | omega | (simp only [go_sem, Nat.reduceAdd, Nat.reduceSub, Nat.reduceMul, Nat.reduceLeDiff, Nat.reduceEqDiff, Nat.reduceLT, Nat.reduceBEq, Nat.reduceBNe, Nat.reducePow, ↓reduceIte] <;> omega) | fail) only [go_sem, Nat.reduceAdd, Nat.reduceSub, Nat.reduceMul, Nat.reduceLeDiff, Nat.reduceEqDiff, Nat.reduceLT, Nat.reduceBEq, Nat.reduceBNe, Nat.reducePow, ↓reduceIte, hpx, ga, gb]
                exact ⟨p + (Utf8.decode x p).2, rfl, ⟨w2, rune_step hpx a hI⟩, by omega⟩
          · have hpe : p = x.size := by omega
            obtain ⟨f1, f2⟩ := hfin (fun _ => no93 (by rw [← hpe]; exact hI))
            simp (maxSteps := 200000) (disch := first | (simp only [go_sem, Nat.reduceAdd, Nat.reduceSub, Nat.reduceMul, Nat.reduceLeDiff, Nat.reduceEqDiff, Nat.reduceLT, Nat.reduceBEq, Nat.reduceBNe, Nat.reducePow, ↓reduceIte]; done) | omega | (simp only [go_sem, Nat.reduceAdd, Nat.reduceSub, Nat.reduceMul, Nat.reduceLeDiff, Nat.reduceEqDiff, Nat.reduceLT, Nat.reduceBEq, Nat.reduceBNe, Nat.reducePow, ↓reduceIte] <;> omega) | fail) only [go_sem, Nat.reduceAdd, Nat.reduceSub, Nat.reduceMul, Nat.reduceLeDiff, Nat.reduceEqDiff, Nat.reduceLT, Nat.reduceBEq, Nat.reduceBNe, Nat.reducePow, ↓reduceIte, hpx, callA_pure mode_13, hen, hws]
            refine ⟨i + 1, ?_, ⟨by omega, f1, ?_⟩, by omega⟩
            · rw [f2]; exact gcK_mkT rfl rfl
            · rw [f2, ByteArray.size_append]; omega
    case neg =>
      have hie : i = l.length := by omega
      subst hie
      rw [List.take_length] at hok hsz ⊢
      obtain ⟨q, q1, q2, q3⟩ := tmod_pos st 300 (by omega) (by omega)
      have e1 : IntKind.i64.wrap ((q : Int) + 1) = ((q + 1 : Nat) : Int) := by rw [IntWalk.i64_in _ (by omega)]; omega
      have hsw := fun t => call_switch 4 (by rw [live_4]; rfl) t [] false e0 e0 false 0
      have hd := dec_stream c l hok
      have hemp := stream_nil (c := c) hok
      generalize hA : streamS c l = A at *
      have hz0 : e0.size = 0 := rfl
      cases c with
      | true =>
        simp (maxSteps := 200000) (disch := first | (simp only [go_sem, Nat.reduceAdd, Nat.reduceSub, Nat.reduceMul, Nat.reduceLeDiff, Nat.reduceEqDiff, Nat.reduceLT, Nat.reduceBEq, Nat.reduceBNe, Nat.reducePow, ↓reduceIte]; done) | omega | (simp only [go_sem, Nat.reduceAdd, Nat.reduceSub, Nat.reduceMul, Nat.reduceLeDiff, Nat.reduceEqDiff, Nat.reduceLT, Nat.reduceBEq, Nat.reduceBNe, Nat.reducePow, ↓reduceIte] <;> omega) | fail) only [go_sem, Nat.reduceAdd, Nat.reduceSub, Nat.reduceMul, Nat.reduceLeDiff, Nat.reduceEqDiff, Nat.reduceLT, Nat.reduceBEq, Nat.reduceBNe, Nat.reducePow, ↓reduceIte, nat_int, h, q2, q3, e1, hsw]
        refine WP_loopR 21 1 (fun (a : Nat × Str × Str × Str × Bool) => S_4_21 (lZ l) (vI (q + 1 : Nat)) (vS a.2.1) (.ptr 0 0) (vI a.1) [dB true a.2.2.1 a.2.2.2.1 a.2.2.2.2 0]) (fun a => a.2.1.size) (fun a => a.1 ≤ l.length ∧ a.2.1.size + a.2.2.1.size + a.2.2.2.1.size ≤ 25100 ∧ Dec true (a.2.2.1 ++ a.2.1) a.2.2.2.1 a.2.2.2.2 (l.drop a.1) ∧ (a.2.1 = e0 → l.drop a.1 = [])) (0, A, e0, e0, false) rfl rfl ?_ ⟨Nat.zero_le _, by show A.size + e0.size + e0.size ≤ _; omega, by rw [nil_app]; exact hd, hemp⟩ ?_
        · simp (maxSteps := 200000) (disch := first | (simp only [go_sem, Nat.reduceAdd, Nat.reduceSub, Nat.reduceMul, Nat.reduceLeDiff, Nat.reduceEqDiff, Nat.reduceLT, Nat.reduceBEq, Nat.reduceBNe, Nat.reducePow, ↓reduceIte]; done) | omega | (simp only [go_sem, Nat.reduceAdd, Nat.reduceSub, Nat.reduceMul, Nat.reduceLeDiff, Nat.reduceEqDiff, Nat.reduceLT, Nat.reduceBEq, Nat.reduceBNe, Nat.reducePow, ↓reduceIte] <;> omega) | fail) only [go_sem, Nat.reduceAdd, Nat.reduceSub, Nat.reduceMul, Nat.reduceLeDiff, Nat.reduceEqDiff, Nat.reduceLT, Nat.reduceBEq, Nat.reduceBNe, Nat.reducePow, ↓reduceIte]; rfl
        · rintro ⟨k, A, b, m, s⟩ ⟨i1, i2, i3, i4⟩
          simp only at i1 i2 i3 i4
          by_cases hz : A.size = 0
          · have h0 := List.drop_eq_nil_iff.1 (i4 ((size_nil A).2 hz))
            have gz : ((0 : Int) < (A.size : Int)) = False := eq_false (by omega)
            have gk : ((k : Int) = (l.length : Int)) = True := eq_true (by omega)
            simp (maxSteps := 200000) (disch := first | (simp only [go_sem, Nat.reduceAdd, Nat.reduceSub, Nat.reduceMul, Nat.reduceLeDiff, Nat.reduceEqDiff, Nat.reduceLT, Nat.reduceBEq, Nat.reduceBNe, Nat.reducePow, ↓reduceIte]; done) | omega | (simp only [go_sem, Nat.reduceAdd, Nat.reduceSub, Nat.reduceMul, Nat.reduceLeDiff, Nat.reduceEqDiff, Nat.reduceLT, Nat.reduceBEq, Nat.reduceBNe, Nat.reducePow, ↓reduceIte] <;> omega) | fail) only [go_sem, Nat.reduceAdd, Nat.reduceSub, Nat.reduceMul, Nat.reduceLeDiff, Nat.reduceEqDiff, Nat.reduceLT, Nat.reduceBEq, Nat.reduceBNe, Nat.reducePow, ↓reduceIte, gz, gk]
          · have gz : ((0 : Int) < (A.size : Int)) = True := eq_true (by omega)
            have hmin : (if (A.size : Int) < ((q + 1 : Nat) : Int) then (A.size : Int) else ((q + 1 : Nat) : Int)) = ((min (q + 1) A.size : Nat) : Int) := by
              by_cases hc : (A.size : Int) < ((q + 1 : Nat) : Int)
              · rw [if_pos hc]; omega
              · rw [if_neg hc]; omega
            obtain ⟨N, hN⟩ : ∃ N, min (q + 1) A.size = N := ⟨_, rfl⟩
            rw [hN] at hmin
            have hN1 : 0 < N ∧ N ≤ A.size := by omega
            have gN : (N ≤ A.size) = True := eq_true hN1.2
            have z1 : (A.extract 0 N).size = N := by rw [ByteArray.size_extract]; omega
            have z2 : (A.extract N A.size).size = A.size - N := by rw [ByteArray.size_extract]; omega
            have hsp : A.extract 0 N ++ A.extract N A.size = A := by
              rw [← by_inj, by_app, by_ext, by_ext, Nat.sub_zero, List.drop_zero]
              rw [List.take_of_length_le (l := List.drop N _) (by rw [List.length_drop, by_len]; omega)]
              exact List.take_append_drop _ _
            have hfd := fun t => call_feed 4 (by rw [live_4]; rfl) t [] true b m s 0 (A.extract 0 N) false (by omega)
            simp only [if_true] at hfd
            have hsz2 : (b ++ A.extract 0 N).size = b.size + N := by rw [ByteArray.size_append, z1]
            have hD0 : Dec true ((b ++ A.extract 0 N) ++ A.extract N A.size) m s (l.drop k) := by rw [app_assoc, hsp]; exact i3
            simp (maxSteps := 200000) (disch := first | (simp only [go_sem, Nat.reduceAdd, Nat.reduceSub, Nat.reduceMul, Nat.reduceLeDiff, Nat.reduceEqDiff, Nat.reduceLT, Nat.reduceBEq, Nat.reduceBNe, Nat.reducePow, ↓reduceIte]; done) | omega | (simp only [go_sem, Nat.reduceAdd, Nat.reduceSub, Nat.reduceMul, Nat.reduceLeDiff, Nat.reduceEqDiff, Nat.reduceLT, Nat.reduceBEq, Nat.reduceBNe, Nat.reducePow, ↓reduceIte] <;> omega) | fail) only [go_sem, Nat.reduceAdd, Nat.reduceSub, Nat.reduceMul, Nat.reduceLeDiff, Nat.reduceEqDiff, Nat.reduceLT, Nat.reduceBEq, Nat.reduceBNe, Nat.reducePow, ↓reduceIte, gz, hmin, gN, hfd]
            generalize b ++ A.extract 0 N = B at *
            generalize A.extract N A.size = A' at *
            refine WP_loopR 25 1 (fun (a : Nat × Str × Str × Bool) => S_4_25 (lZ l) (vI (q + 1 : Nat)) (vS A') (.ptr 0 0) (vI a.1) [dB true a.2.1 a.2.2.1 a.2.2.2 0]) (fun a => l.length - a.1) (fun a => a.1 ≤ l.length ∧ A'.size + a.2.1.size + a.2.2.1.size ≤ 25100 ∧ Dec true (a.2.1 ++ A') a.2.2.1 a.2.2.2 (l.drop a.1)) (k, B, m, s) rfl rfl ?_ ⟨i1, by show A'.size + B.size + m.size ≤ _; omega, hD0⟩ ?_
            · simp (maxSteps := 200000) (disch := first | (simp only [go_sem, Nat.reduceAdd, Nat.reduceSub, Nat.reduceMul, Nat.reduceLeDiff, Nat.reduceEqDiff, Nat.reduceLT, Nat.reduceBEq, Nat.reduceBNe, Nat.reducePow, ↓reduceIte]; done) | omega | (simp only [go_sem, Nat.reduceAdd, Nat.reduceSub, Nat.reduceMul, Nat.reduceLeDiff, Nat.reduceEqDiff, Nat.reduceLT, Nat.reduceBEq, Nat.reduceBNe, Nat.reducePow, ↓reduceIte] <;> omega) | fail) only [go_sem, Nat.reduceAdd, Nat.reduceSub, Nat.reduceMul, Nat.reduceLeDiff, Nat.reduceEqDiff, Nat.reduceLT, Nat.reduceBEq, Nat.reduceBNe, Nat.reducePow, ↓reduceIte]
            · rintro ⟨k2, b2, m2, s2⟩ ⟨j1, j2, j3⟩
              simp only at j1 j2 j3
              have hn := fun t => call_next 4 (by rw [live_4]; rfl) t [] true b2 m2 s2 (by omega) (by omega)
              obtain ⟨n1, n2⟩ := dec_next true A' b2 m2 s2 _ j3
              have nf := (next_facts true b2 m2 s2).1 n1
              generalize nextR true b2 m2 s2 = R at *
              rw [n1] at hn
              simp only [Bool.false_eq_true, if_false] at hn
              rcases n2 with ⟨e4, d1, d2⟩ | ⟨e4, L', d1, d2, d3⟩
              · rw [e4] at hn
                simp (maxSteps := 200000) (disch := first | (simp only [go_sem, Nat.reduceAdd, Nat.reduceSub, Nat.reduceMul, Nat.reduceLeDiff, Nat.reduceEqDiff, Nat.reduceLT, Nat.reduceBEq, Nat.reduceBNe, Nat.reducePow, ↓reduceIte]; done) | omega | (simp only [go_sem, Nat.reduceAdd, Nat.reduceSub, Nat.reduceMul, Nat.reduceLeDiff, Nat.reduceEqDiff, Nat.reduceLT, Nat.reduceBEq, Nat.reduceBNe, Nat.reducePow, ↓reduceIte] <;> omega) | fail) only [go_sem, Nat.reduceAdd, Nat.reduceSub, Nat.reduceMul, Nat.reduceLeDiff, Nat.reduceEqDiff, Nat.reduceLT, Nat.reduceBEq, Nat.reduceBNe, Nat.reducePow, ↓reduceIte, hn]
                exact ⟨(k2, A', R.b, R.m, R.s), rfl, ⟨j1, by show A'.size + R.b.size + R.m.size ≤ _; omega, d1, d2⟩, by show A'.size < A.size; omega⟩
              · rw [e4] at hn
                have hk2 : k2 < l.length := by
                  rcases Nat.lt_or_ge k2 l.length with hc | hc
                  · exact hc
                  · rw [List.drop_eq_nil_iff.2 hc] at d1; cases d1
                have hdr := List.drop_eq_getElem_cons hk2
                rw [d1] at hdr
                have hr : l[k2] = R.r := (List.cons.inj hdr).1.symm
                have hL : L' = l.drop (k2 + 1) := (List.cons.inj hdr).2
                rw [hL] at d2
                have hws2 := wrap_succ hk2 hl
                have g04 : ((0 : Int) = 4) = False := eq_false (by decide)
                have gle : ((l.length : Int) ≤ (k2 : Int)) = False := eq_false (by omega)
                simp (maxSteps := 200000) (disch := first | (simp only [go_sem, Nat.reduceAdd, Nat.reduceSub, Nat.reduceMul, Nat.reduceLeDiff, Nat.reduceEqDiff, Nat.reduceLT, Nat.reduceBEq, Nat.reduceBNe, Nat.reducePow, ↓reduceIte]; done) | omega | (simp only [go_sem, Nat.reduceAdd, Nat.reduceSub, Nat.reduceMul, Nat.reduceLeDiff, Nat.reduceEqDiff, Nat.reduceLT, Nat.reduceBEq, Nat.reduceBNe, Nat.reducePow, ↓reduceIte] <;> omega) | fail) only [go_sem, Nat.reduceAdd, Nat.reduceSub, Nat.reduceMul, Nat.reduceLeDiff, Nat.reduceEqDiff, Nat.reduceLT, Nat.reduceBEq, Nat.reduceBNe, Nat.reducePow, ↓reduceIte, nat_int, hn, hk2, eZ_s, hr, hws2, g04, gle, ne_eq, not_true]
                exact ⟨(k2 + 1, R.b, R.m, R.s), rfl, ⟨Nat.succ_le_of_lt hk2, by show A'.size + R.b.size + R.m.size ≤ _; omega, d2⟩, by show l.length - (k2 + 1) < l.length - k2; omega⟩
      | false =>
        simp (maxSteps := 200000) (disch := first | (simp only [go_sem, Nat.reduceAdd, Nat.reduceSub, Nat.reduceMul, Nat.reduceLeDiff, Nat.reduceEqDiff, Nat.reduceLT, Nat.reduceBEq, Nat.reduceBNe, Nat.reducePow, ↓reduceIte]; done) | omega | (simp only [go_sem, Nat.reduceAdd, Nat.reduceSub, Nat.reduceMul, Nat.reduceLeDiff, Nat.reduceEqDiff, Nat.reduceLT, Nat.reduceBEq, Nat.reduceBNe, Nat.reducePow, ↓reduceIte] <;> omega) | fail) only [go_sem, Nat.reduceAdd, Nat.reduceSub, Nat.reduceMul, Nat.reduceLeDiff, Nat.reduceEqDiff, Nat.reduceLT, Nat.reduceBEq, Nat.reduceBNe, Nat.reducePow, ↓reduceIte, nat_int, h, q2, q3, e1, hsw]
        refine WP_loopR 21 1 (fun (a : Nat × Str × Str × Str × Bool) => S_4_21 (lZ l) (vI (q + 1 : Nat)) (vS a.2.1) (.ptr 0 0) (vI a.1) [dB false a.2.2.1 a.2.2.2.1 a.2.2.2.2 0]) (fun a => a.2.1.size) (fun a => a.1 ≤ l.length ∧ a.2.1.size + a.2.2.1.size + a.2.2.2.1.size ≤ 25100 ∧ Dec false (a.2.2.1 ++ a.2.1) a.2.2.2.1 a.2.2.2.2 (l.drop a.1) ∧ (a.2.1 = e0 → l.drop a.1 = [])) (0, A, e0, e0, false) rfl rfl ?_ ⟨Nat.zero_le _, by show A.size + e0.size + e0.size ≤ _; omega, by rw [nil_app]; exact hd, hemp⟩ ?_
        · simp (maxSteps := 200000) (disch := first | (simp only [go_sem, Nat.reduceAdd, Nat.reduceSub, Nat.reduceMul, Nat.reduceLeDiff, Nat.reduceEqDiff, Nat.reduceLT, Nat.reduceBEq, Nat.reduceBNe, Nat.reducePow, ↓reduceIte]; done) | omega | (simp only [go_sem, Nat.reduceAdd, Nat.reduceSub, Nat.reduceMul, Nat.reduceLeDiff, Nat.reduceEqDiff, Nat.reduceLT, Nat.reduceBEq, Nat.reduceBNe, Nat.reducePow, ↓reduceIte] <;> omega) | fail) only [go_sem, Nat.reduceAdd, Nat.reduceSub, Nat.reduceMul, Nat.reduceLeDiff, Nat.reduceEqDiff, Nat.reduceLT, Nat.reduceBEq, Nat.reduceBNe, Nat.reducePow, ↓reduceIte]; rfl
        · rintro ⟨k, A, b, m, s⟩ ⟨i1, i2, i3, i4⟩
          simp only at i1 i2 i3 i4
          by_cases hz : A.size = 0
          · have h0 := List.drop_eq_nil_iff.1 (i4 ((size_nil A).2 hz))
            have gz : ((0 : Int) < (A.size : Int)) = False := eq_false (by omega)
            have gk : ((k : Int) = (l.length : Int)) = True := eq_true (by omega)
            simp (maxSteps := 200000) (disch := first | (simp only [go_sem, Nat.reduceAdd, Nat.reduceSub, Nat.reduceMul, Nat.reduceLeDiff, Nat.reduceEqDiff, Nat.reduceLT, Nat.reduceBEq, Nat.reduceBNe, Nat.reducePow, ↓reduceIte]; done) | omega | (simp only [go_sem, Nat.reduceAdd, Nat.reduceSub, Nat.reduceMul, Nat.reduceLeDiff, Nat.reduceEqDiff, Nat.reduceLT, Nat.reduceBEq, Nat.reduceBNe, Nat.reducePow, ↓reduceIte] <;> omega) | fail) only [go_sem, Nat.reduceAdd, Nat.reduceSub, Nat.reduceMul, Nat.reduceLeDiff, Nat.reduceEqDiff, Nat.reduceLT, Nat.reduceBEq, Nat.reduceBNe, Nat.reducePow, ↓reduceIte, gz, gk]
          · have gz : ((0 : Int) < (A.size : Int)) = True := eq_true (by omega)
            have hmin : (if (A.size : Int) < ((q + 1 : Nat) : Int) then (A.size : Int) else ((q + 1 : Nat) : Int)) = ((min (q + 1) A.size : Nat) : Int) := by
              by_cases hc : (A.size : Int) < ((q + 1 : Nat) : Int)
              · rw [if_pos hc]; omega
              · rw [if_neg hc]; omega
            obtain ⟨N, hN⟩ : ∃ N, min (q + 1) A.size = N := ⟨_, rfl⟩
            rw [hN] at hmin
            have hN1 : 0 < N ∧ N ≤ A.size := by omega
            have gN : (N ≤ A.size) = True := eq_true hN1.2
            have z1 : (A.extract 0 N).size = N := by rw [ByteArray.size_extract]; omega
            have z2 : (A.extract N A.size).size = A.size - N := by rw [ByteArray.size_extract]; omega
            have hsp : A.extract 0 N ++ A.extract N A.size = A := by
              rw [← by_inj, by_app, by_ext, by_ext, Nat.sub_zero, List.drop_zero]
              rw [List.take_of_length_le (l := List.drop N _) (by rw [List.length_drop, by_len]; omega)]
              exact List.take_append_drop _ _
            have hfd := fun t => call_feed 4 (by rw [live_4]; rfl) t [] false b m s 0 (A.extract 0 N) false (by omega)
            simp only [if_true] at hfd
            have hsz2 : (b ++ A.extract 0 N).size = b.size + N := by rw [ByteArray.size_append, z1]
            have hD0 : Dec false ((b ++ A.extract 0 N) ++ A.extract N A.size) m s (l.drop k) := by rw [app_assoc, hsp]; exact i3
            simp (maxSteps := 200000) (disch := first | (simp only [go_sem, Nat.reduceAdd, Nat.reduceSub, Nat.reduceMul, Nat.reduceLeDiff, Nat.reduceEqDiff, Nat.reduceLT, Nat.reduceBEq, Nat.reduceBNe, Nat.reducePow, ↓reduceIte]; done) | omega | (simp only [go_sem, Nat.reduceAdd, Nat.reduceSub, Nat.reduceMul, Nat.reduceLeDiff, Nat.reduceEqDiff, Nat.reduceLT, Nat.reduceBEq, Nat.reduceBNe, Nat.reducePow, ↓reduceIte] <;> omega) | fail) only [go_sem, Nat.reduceAdd, Nat.reduceSub, Nat.reduceMul, Nat.reduceLeDiff, Nat.reduceEqDiff, Nat.reduceLT, Nat.reduceBEq, Nat.reduceBNe, Nat.reducePow, ↓reduceIte, gz, hmin, gN, hfd]
            generalize b ++ A.extract 0 N = B at *
            generalize A.extract N A.size = A' at *
            refine WP_loopR 25 1 (fun (a : Nat × Str × Str × Bool) => S_4_25 (lZ l) (vI (q + 1 : Nat)) (vS A') (.ptr 0 0) (vI a.1) [dB false a.2.1 a.2.2.1 a.2.2.2 0]) (fun a => l.length - a.1) (fun a => a.1 ≤ l.length ∧ A'.size + a.2.1.size + a.2.2.1.size ≤ 25100 ∧ Dec false (a.2.1 ++ A') a.2.2.1 a.2.2.2 (l.drop a.1)) (k, B, m, s) rfl rfl ?_ ⟨i1, by show A'.size + B.size + m.size ≤ _; omega, hD0⟩ ?_
            · simp (maxSteps := 200000) (disch := first | (simp only [go_sem, Nat.reduceAdd, Nat.reduceSub, Nat.reduceMul, Nat.reduceLeDiff, Nat.reduceEqDiff, Nat.reduceLT, Nat.reduceBEq, Nat.reduceBNe, Nat.reducePow, ↓reduceIte]; done) | omega | (simp only [go_sem, Nat.reduceAdd, Nat.reduceSub, Nat.reduceMul, Nat.reduceLeDiff, Nat.reduceEqDiff, Nat.reduceLT, Nat.reduceBEq, Nat.reduceBNe, Nat.reducePow, ↓reduceIte] <;> omega) | fail) only [go_sem, Nat.reduceAdd, Nat.reduceSub, Nat.reduceMul, Nat.reduceLeDiff, Nat.reduceEqDiff, Nat.reduceLT, Nat.reduceBEq, Nat.reduceBNe, Nat.reducePow, ↓reduceIte]
            · rintro ⟨k2, b2, m2, s2⟩ ⟨j1, j2, j3⟩
              simp only at j1 j2 j3
              have hn := fun t => call_next 4 (by rw [live_4]; rfl) t [] false b2 m2 s2 (by omega) (by omega)
              obtain ⟨n1, n2⟩ := dec_next false A' b2 m2 s2 _ j3
              have nf := (next_facts false b2 m2 s2).1 n1
              generalize nextR false b2 m2 s2 = R at *
              rw [n1] at hn
              simp only [Bool.false_eq_true, if_false] at hn
              rcases n2 with ⟨e4, d1, d2⟩ | ⟨e4, L', d1, d2, d3⟩
              · rw [e4] at hn
                simp (maxSteps := 200000) (disch := first | (simp only [go_sem, Nat.reduceAdd, Nat.reduceSub, Nat.reduceMul, Nat.reduceLeDiff, Nat.reduceEqDiff, Nat.reduceLT, Nat.reduceBEq, Nat.reduceBNe, Nat.reducePow, ↓reduceIte]; done) | omega | (simp only [go_sem, Nat.reduceAdd, Nat.reduceSub, Nat.reduceMul, Nat.reduceLeDiff, Nat.reduceEqDiff, Nat.reduceLT, Nat.reduceBEq, Nat.reduceBNe, Nat.reducePow, ↓reduceIte] <;> omega) | fail) only [go_sem, Nat.reduceAdd, Nat.reduceSub, Nat.reduceMul, Nat.reduceLeDiff, Nat.reduceEqDiff, Nat.reduceLT, Nat.reduceBEq, Nat.reduceBNe, Nat.reducePow, ↓reduceIte, hn]
                exact ⟨(k2, A', R.b, R.m, R.s), rfl, ⟨j1, by show A'.size + R.b.size + R.m.size ≤ _; omega, d1, d2⟩, by show A'.size < A.size; omega⟩
              · rw [e4] at hn
                have hk2 : k2 < l.length := by
                  rcases Nat.lt_or_ge k2 l.length with hc | hc
                  · exact hc
                  · rw [List.drop_eq_nil_iff.2 hc] at d1; cases d1
                have hdr := List.drop_eq_getElem_cons hk2
                rw [d1] at hdr
                have hr : l[k2] = R.r := (List.cons.inj hdr).1.symm
                have hL : L' = l.drop (k2 + 1) := (List.cons.inj hdr).2
                rw [hL] at d2
                have hws2 := wrap_succ hk2 hl
                have g04 : ((0 : Int) = 4) = False := eq_false (by decide)
                have gle : ((l.length : Int) ≤ (k2 : Int)) = False := eq_false (by omega)
                simp (maxSteps := 200000) (disch := first | (simp only [go_sem, Nat.reduceAdd, Nat.reduceSub, Nat.reduceMul, Nat.reduceLeDiff, Nat.reduceEqDiff, Nat.reduceLT, Nat.reduceBEq, Nat.reduceBNe, Nat.reducePow, ↓reduceIte]; done) | omega | (simp only [go_sem, Nat.reduceAdd, Nat.reduceSub, Nat.reduceMul, Nat.reduceLeDiff, Nat.reduceEqDiff, Nat.reduceLT, Nat.reduceBEq, Nat.reduceBNe, Nat.reducePow, ↓reduceIte] <;> omega) | fail) only [go_sem, Nat.reduceAdd, Nat.reduceSub, Nat.reduceMul, Nat.reduceLeDiff, Nat.reduceEqDiff, Nat.reduceLT, Nat.reduceBEq, Nat.reduceBNe, Nat.reducePow, ↓reduceIte, nat_int, hn, hk2, eZ_s, hr, hws2, g04, gle, ne_eq, not_true]
                exact ⟨(k2 + 1, R.b, R.m, R.s), rfl, ⟨Nat.succ_le_of_lt hk2, by show A'.size + R.b.size + R.m.size ≤ _; omega, d2⟩, by show l.length - (k2 + 1) < l.length - k2; omega⟩
end Go.Abs.BB
end
