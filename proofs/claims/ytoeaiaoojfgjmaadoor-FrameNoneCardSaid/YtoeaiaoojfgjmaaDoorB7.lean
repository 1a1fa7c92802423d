/- YtoeaiaoojfgjmaaDoorB7: a part of the interpreter by which the claim is shown, and of the walks: no conditions of its own: every theorem states its own. -/
import Derived.Test.YtoeaiaoojfgjmaaDoorB6
section
set_option linter.unusedVariables false
set_option linter.unusedSimpArgs false
set_option linter.unusedSectionVars false
set_option maxRecDepth 100000
set_option maxHeartbeats 8000000
set_option linter.unusedSimpArgs false
set_option linter.unusedVariables false
namespace Go.Abs.BB
open Go.Proofs

theorem callX_var2 {X : Abs.X} {t : List AV} {bs : List Blk} {f k : Nat} {cs cs' ds ds' xs : List AV} {r : AV} (hl : (X.live f).contains k = true) (h2 : AV.lts 0 xs = false) (hi : idsOfs xs = [0, 1]) (hc : idsOfs cs = []) (hc' : idsOfs cs' = []) (hd : idsOfs ds = []) (hd' : idsOfs ds' = []) (hr : idsOf r = [])
    (hw : loudW X k (AV.rens (fun i => posOf i [0, 1]) xs) [.var cs, .var ds] = some (r, [.var cs', .var ds'])) : callX X (orW X) ⟨t, .var cs :: .var ds :: bs⟩ f k xs = some (.st r ⟨t, .var cs' :: .var ds' :: bs⟩) := by
  rw [callX_live _ _ hl h2]
  have hre : reach (.var cs :: .var ds :: bs) 6 (addNew [] (idsOfs xs)) = [0, 1] := by
    rw [hi]
    simp [addNew, reach, hc, hd]
  have hbl : badL [0, 1] [.var cs, .var ds] [.var cs', .var ds'] = [] := by simp [badL, badB]
  have hpb : putBack (.var cs :: .var ds :: bs) [0, 1] [.var cs', .var ds'] [] = .var cs' :: .var ds' :: bs := by
    unfold putBack
    simp only [List.drop_succ_cons, List.drop_nil, List.length_cons, List.length_nil, List.map_nil, List.append_nil]
    apply List.ext_getElem?
    intro i
    rw [List.getElem?_mapIdx]
    match i with
    | 0 => simp [posOf, Blk.ren, rens_noids _ cs' hc']
    | 1 => simp [posOf, Blk.ren, rens_noids _ ds' hd']
    | i + 2 =>
      simp only [List.getElem?_cons_succ]
      cases bs[i]? with
      | none => rfl
      | some b =>
        have : posOf (i + 2) [0, 1] = none := by simp [posOf]
        simp [this, bren_id keepF_nil]
  unfold callL
  dsimp only
  rw [hre]
  have hcnd : dist [0, 1] = true ∧ [0, 1].all (fun i => decide (i < (Blk.var cs :: Blk.var ds :: bs).length)) = true := by simp [dist]
  rw [if_pos hcnd]
  have hm : ([0, 1].map fun i => ((Blk.var cs :: Blk.var ds :: bs).getD i .dead).ren fun k => posOf k [0, 1]) = [.var cs, .var ds] := by
    simp [Blk.ren, rens_noids _ cs hc, rens_noids _ ds hd]
  simp only [hm]
  rw [show (orW X).loud k (AV.rens (fun k => posOf k [0, 1]) xs) [.var cs, .var ds] = some (r, [.var cs', .var ds']) from hw]
  dsimp only
  rw [hbl, hpb, rens_id keepF_nil, ren_noids _ r hr]
theorem alike_live (c : Bool) (b m : Str) (s : Bool) (hb : b.size ≤ 1000000000) (hm : m.size ≤ 1000000000) :
    loudW XX 12 [.ptr 0 0, .ptr 1 0] [dB c b m s 0, mB c b m s false] = some (.tup [vB true, vB (decide ((nextR c b m s).e = 0))], (outD c (nextR c b m s)).2 ++ (outR c (nextR c b m s)).2) := by
  refine loudW_in 30 Tryd.func12 Tryd.ntmps12 (by simp) (rfl : Tryd.f12.body = some _) fns_12 ?_
  have hn := fun t => call_next 12 (by rw [live_12]; rfl) t [mB c b m s false] c b m s hb hm
  have hr : ∀ t (x : Blk), callX XX (orW XX) ⟨t, [x, mB c b m s false]⟩ 12 16 [.ptr 1 0] = some (.st (.tup [vS (nextR c b m s).r, vI (nextR c b m s).e]) ⟨t, [x, mB c (nextR c b m s).b (nextR c b m s).m (nextR c b m s).s (nextR c b m s).bad]⟩) :=
    fun t x => callX_var 1 (by rw [live_12]; rfl) rfl rfl rfl rfl rfl rfl (refNext_spec c b m s hb hm)
  generalize nextR c b m s = R at *
  simp (maxSteps := 200000) (disch := first | (simp only [go_sem, Nat.reduceAdd, Nat.reduceSub, Nat.reduceMul, Nat.reduceLeDiff, Nat.reduceEqDiff, Nat.reduceLT, Nat.reduceBEq, Nat.reduceBNe, Nat.reducePow, ↓reduceIte]; done) | omega | (simp only [go_sem, Nat.reduceAdd, Nat.reduceSub, Nat.reduceMul, Nat.reduceLeDiff, Nat.reduceEqDiff, Nat.reduceLT, Nat.reduceBEq, Nat.reduceBNe, Nat.reducePow, ↓reduceIte] <;> omega) | fail) only [go_sem, Nat.reduceAdd, Nat.reduceSub, Nat.reduceMul, Nat.reduceLeDiff, Nat.reduceEqDiff, Nat.reduceLT, Nat.reduceBEq, Nat.reduceBNe, Nat.reducePow, ↓reduceIte, hn, hr]
theorem alike_dead (c : Bool) (b m : Str) (s : Bool) (e : Int) (c2 : Bool) (b2 m2 : Str) (s2 : Bool) (he : e ≠ 0) :
    loudW XX 12 [.ptr 0 0, .ptr 1 0] [dB c b m s e, mB c2 b2 m2 s2 true] = some (.tup [vB true, vB false], [dB c b m s e, mB c2 b2 m2 s2 true]) := by
  refine loudW_in 30 Tryd.func12 Tryd.ntmps12 (by simp) (rfl : Tryd.f12.body = some _) fns_12 ?_
  have hn : ∀ t, callX XX (orW XX) ⟨t, [dB c b m s e, mB c2 b2 m2 s2 true]⟩ 12 14 [.ptr 0 0] = some (.st (.tup [vS e0, vI 9]) ⟨t, [dB c b m s e, mB c2 b2 m2 s2 true]⟩) :=
    fun t => callX_var 0 (by rw [live_12]; rfl) rfl rfl rfl rfl rfl rfl (next_bad c b m s e he)
  have hr : ∀ t, callX XX (orW XX) ⟨t, [dB c b m s e, mB c2 b2 m2 s2 true]⟩ 12 16 [.ptr 1 0] = some (.st (.tup [vS e0, vI 9]) ⟨t, [dB c b m s e, mB c2 b2 m2 s2 true]⟩) :=
    fun t => callX_var 1 (by rw [live_12]; rfl) rfl rfl rfl rfl rfl rfl (refNext_bad c2 b2 m2 s2)
  have g9 : ((9 : Int) = 0) = False := eq_false (by omega)
  simp (maxSteps := 200000) (disch := first | (simp only [go_sem, Nat.reduceAdd, Nat.reduceSub, Nat.reduceMul, Nat.reduceLeDiff, Nat.reduceEqDiff, Nat.reduceLT, Nat.reduceBEq, Nat.reduceBNe, Nat.reducePow, ↓reduceIte]; done) | omega | (simp only [go_sem, Nat.reduceAdd, Nat.reduceSub, Nat.reduceMul, Nat.reduceLeDiff, Nat.reduceEqDiff, Nat.reduceLT, Nat.reduceBEq, Nat.reduceBNe, Nat.reducePow, ↓reduceIte] <;> omega) | fail) only [go_sem, Nat.reduceAdd, Nat.reduceSub, Nat.reduceMul, Nat.reduceLeDiff, Nat.reduceEqDiff, Nat.reduceLT, Nat.reduceBEq, Nat.reduceBNe, Nat.reducePow, ↓reduceIte, hn, hr, g9]
end Go.Abs.BB
end

section
set_option linter.unusedVariables false
set_option linter.unusedSimpArgs false
set_option linter.unusedSectionVars false
set_option maxRecDepth 100000
set_option maxHeartbeats 8000000
set_option linter.unusedSimpArgs false
set_option linter.unusedVariables false
namespace Go.Abs.BB
open Go.Proofs

theorem step_more {b m b' m' : Str} {s : Bool} (h : step b m s = .more b' m') : b'.size < b.size ∧ b'.size + m'.size ≤ b.size + m.size := by
  have h1 := more_lt h
  refine ⟨h1, ?_⟩
  unfold step at h
  split at h
  · cases h
  · split at h
    · cases h
    · split at h
      · split at h <;> cases h
      · split at h
        · cases h
        · split at h
          · cases h
          · split at h
            · cases h
            · rename_i n _ _ hb
              cases h
              simp only [ByteArray.size_append, ByteArray.size_extract]
              omega
theorem step_fail {b m : Str} {s : Bool} {e : Int} (h : step b m s = .fail e) : e = 2 ∨ e = 3 := by
  unfold step at h
  split at h
  · cases h; exact .inr rfl
  · split at h
    · cases h
    · split at h
      · split at h <;> cases h
        exact .inr rfl
      · split at h
        · cases h; exact .inr rfl
        · split at h
          · cases h; exact .inl rfl
          · split at h <;> cases h
theorem step_msg {b m x : Str} {s : Bool} (h : step b m s = .msg x) : x.size < b.size := by
  unfold step at h
  by_cases c1 : badH (headS b) = true
  · rw [if_pos c1] at h; cases h
  rw [if_neg c1] at h
  by_cases c2 : nlI b = 0
  · rw [if_pos c2] at h; cases h
  rw [if_neg c2] at h
  have hl := nl_lt (b := b) (Nat.pos_of_ne_zero c2)
  by_cases c3 : headS b = s2H
  · rw [if_pos c3] at h
    cases s with
    | false => rw [if_neg (by simp)] at h; cases h
    | true =>
      rw [if_pos rfl] at h
      have h' := Out.msg.inj h
      rw [← h', ByteArray.size_extract]
      generalize nlI b = i at *
      omega
  · rw [if_neg c3] at h
    generalize sizeS ((headS b).extract (min (headS b).size 2) (headS b).size) = o at h
    cases o with
    | none => cases h
    | some n =>
      simp only at h
      by_cases c4 : 16384 < m.size + n
      · rw [if_pos c4] at h; cases h
      · rw [if_neg c4] at h
        by_cases c5 : b.size < nlI b + 1 + n
        · rw [if_pos c5] at h; cases h
        · rw [if_neg c5] at h; cases h
theorem run_facts : ∀ (k : Nat) (b m : Str) (s : Bool), (runK k b m s).b.size ≤ b.size ∧ (runK k b m s).b.size + (runK k b m s).m.size ≤ b.size + m.size ∧ (∀ e, (runK k b m s).out = .fail e → e = 2 ∨ e = 3) ∧ ∀ x, (runK k b m s).out = .msg x → x.size < (runK k b m s).b.size
  | 0, b, m, s => ⟨Nat.le_refl _, Nat.le_refl _, fun e h => by simp [runK] at h, fun x h => by simp [runK] at h⟩
  | k + 1, b, m, s => by
    cases hs : step b m s with
    | more b' m' =>
      obtain ⟨h1, h2⟩ := step_more hs
      rw [runK_more hs]
      obtain ⟨a1, a2, a3, a4⟩ := run_facts k b' m' true
      exact ⟨by omega, by omega, a3, a4⟩
    | fail e =>
      rw [runK_end hs (by simp)]
      exact ⟨Nat.le_refl _, Nat.le_refl _, fun e' h => by cases h; exact step_fail hs, fun x h => by cases h⟩
    | wait =>
      rw [runK_end hs (by simp)]
      exact ⟨Nat.le_refl _, Nat.le_refl _, fun e' h => by (cases h), fun x h => by cases h⟩
    | msg x =>
      rw [runK_end hs (by simp)]
      exact ⟨Nat.le_refl _, Nat.le_refl _, fun e' h => by (cases h), fun y h => by cases h; exact step_msg hs⟩
theorem next_facts (c : Bool) (b m : Str) (s : Bool) : ((nextR c b m s).bad = false → (nextR c b m s).b.size + (nextR c b m s).m.size ≤ b.size + m.size) ∧ ((nextR c b m s).e = 0 → (nextR c b m s).bad = false ∧ (nextR c b m s).b.size < b.size) ∧ ((nextR c b m s).bad = true → (nextR c b m s).e ≠ 0) := by
  unfold nextR
  cases c with
  | false =>
    rw [if_neg (by simp)]
    have hle : Lib.index (by' b) (by' sEnd) + 6 ≤ b.size ∨ Lib.index (by' b) (by' sEnd) = -1 := by
      rcases index_room (by' b) (by' sEnd) (by decide) with h | ⟨j, h, h2⟩
      · exact .inr h
      · left
        rw [h]
        rw [by_len, by_len, show sEnd.size = 6 from rfl] at h2
        omega
    unfold resF
    generalize Lib.index (by' b) (by' sEnd) = i at *
    split
    · exact ⟨fun h => (by cases h), fun h => by simp at h, fun _ => by simp⟩
    · split
      · exact ⟨fun _ => Nat.le_refl _, fun h => by simp at h, fun h => by cases h⟩
      · refine ⟨fun _ => ?_, fun _ => ⟨rfl, ?_⟩, fun h => by cases h⟩
        · simp only [ByteArray.size_extract]; omega
        · simp only [ByteArray.size_extract]; omega
  | true =>
    rw [if_pos rfl]
    obtain ⟨a1, a2, a3, a4⟩ := run_facts (b.size + 1) b m s
    have hno := runK_out (b.size + 1) b m s
    unfold runC resC
    generalize runK (b.size + 1) b m s = E at *
    obtain ⟨o, b', m', s'⟩ := E
    simp only at a1 a2 a3 a4 hno ⊢
    cases o with
    | fail e =>
      have := a3 e rfl
      exact ⟨fun h => (by cases h), fun h => by simp only at h; omega, fun _ => by simp only; omega⟩
    | wait => exact ⟨fun _ => a2, fun h => by simp at h, fun h => by cases h⟩
    | msg x =>
      have := a4 x rfl
      refine ⟨fun _ => ?_, fun _ => ⟨rfl, ?_⟩, fun h => by cases h⟩
      · simp only
        show x.size + 0 ≤ _
        omega
      · simp only; omega
    | more x y => exact absurd rfl (hno x y)
end Go.Abs.BB
end

section
set_option linter.unusedVariables false
set_option linter.unusedSimpArgs false
set_option linter.unusedSectionVars false
set_option maxRecDepth 100000
set_option maxHeartbeats 8000000
set_option linter.unusedSimpArgs false
set_option linter.unusedVariables false
namespace Go.Abs.BB
open Go.Proofs

/-- A slice of bytes, as a cell. -/
def eY (b : Str) : List AV := [.fs (ofBytes b) false]
theorem eY_s (b : Str) : eY b = [.fs (ofBytes b) false] := nr rfl
theorem eY_len (b : Str) : (eY b).length = 1 := rfl
instance : EL eY 1 := ⟨eY_len⟩
abbrev lY (l : List Str) : AV := .fs (l.map eY) false
def tot (l : List Str) : Nat := (l.map fun p => 1 + p.size).sum
theorem tot_snoc (l : List Str) (p : Str) : tot (l ++ [p]) = tot l + (1 + p.size) := by simp [tot]
theorem tot_app (l r : List Str) : tot (l ++ r) = tot l + tot r := by simp [tot]
theorem tot_mono (l : List Str) (i : Nat) : tot (l.take i) ≤ tot l := by
  have := tot_app (l.take i) (l.drop i)
  rw [List.take_append_drop] at this
  omega
/-- Both decoders: alike and going on, or both at their end. -/
inductive PS where
  | live (c : Bool) (b m : Str) (s : Bool)
  | dead (c : Bool) (s : Bool) (e : Int) (c2 : Bool) (b2 m2 : Str) (s2 : Bool)
abbrev blks : PS → List Blk
  | .live c b m s => [dB c b m s 0, mB c b m s false]
  | .dead c s e c2 b2 m2 s2 => [dB c e0 e0 s e, mB c2 b2 m2 s2 true]
def okP (T : Nat) : PS → Prop
  | .live _ b m _ => b.size + m.size ≤ T
  | .dead _ _ e _ _ _ _ => e ≠ 0
def szP : PS → Nat
  | .live _ b _ _ => b.size
  | _ => 0
def nextP : PS → PS
  | .live c b m s => if (nextR c b m s).bad = true then .dead c (nextR c b m s).s (nextR c b m s).e c (nextR c b m s).b (nextR c b m s).m (nextR c b m s).s else .live c (nextR c b m s).b (nextR c b m s).m (nextR c b m s).s
  | p => p
def goP : PS → Bool
  | .live c b m s => decide ((nextR c b m s).e = 0)
  | _ => false
theorem nextP_live (c : Bool) (b m : Str) (s : Bool) : nextP (.live c b m s) = if (nextR c b m s).bad = true then .dead c (nextR c b m s).s (nextR c b m s).e c (nextR c b m s).b (nextR c b m s).m (nextR c b m s).s else .live c (nextR c b m s).b (nextR c b m s).m (nextR c b m s).s := rfl
theorem goP_live (c : Bool) (b m : Str) (s : Bool) : goP (.live c b m s) = decide ((nextR c b m s).e = 0) := rfl
theorem okP_live (T : Nat) (c : Bool) (b m : Str) (s : Bool) : okP T (.live c b m s) ↔ b.size + m.size ≤ T := Iff.rfl
theorem call_alike (t : List AV) (p : PS) (T : Nat) (hT : T ≤ 100000) (h : okP T p) : callX XX (orW XX) ⟨t, blks p⟩ 3 12 [.ptr 0 0, .ptr 1 0] = some (.st (.tup [vB true, vB (goP p)]) ⟨t, blks (nextP p)⟩) := by
  cases p with
  | live c b m s =>
    rw [okP_live] at h
    have hk := alike_live c b m s (by omega) (by omega)
    have := callX_var2 (t := t) (bs := []) (f := 3) (k := 12) (xs := [.ptr 0 0, .ptr 1 0]) (by rw [live_3]; rfl) rfl rfl rfl rfl rfl rfl rfl hk
    rw [goP_live, nextP_live]
    refine this.trans ?_
    generalize nextR c b m s = R
    cases hb : R.bad <;> simp
  | dead c s e c2 b2 m2 s2 =>
    exact callX_var2 (bs := []) (by rw [live_3]; rfl) rfl rfl rfl rfl rfl rfl rfl (alike_dead c e0 e0 s e c2 b2 m2 s2 h)
theorem next_ok {T : Nat} {p : PS} (h : okP T p) : okP T (nextP p) ∧ (goP p = true → szP (nextP p) < szP p) := by
  cases p with
  | live c b m s =>
    obtain ⟨h1, h2, h3⟩ := next_facts c b m s
    rw [nextP_live, goP_live]
    rw [okP_live] at h
    cases hb : (nextR c b m s).bad with
    | true =>
      rw [if_pos rfl]
      refine ⟨h3 hb, fun hg => ?_⟩
      have := (h2 (by simpa using hg)).1
      rw [hb] at this; cases this
    | false =>
      rw [if_neg (by simp)]
      refine ⟨?_, fun hg => (h2 (by simpa using hg)).2⟩
      have := h1 hb
      rw [okP_live]
      omega
  | dead c s e c2 b2 m2 s2 => exact ⟨h, fun hg => by simp [goP] at hg⟩
theorem gcB (q : PS) (l : List (Nat × AV)) (h1 : ltE 2 l = true) : gcK 2 (mkT 71 .junk l) (blks q) = some ⟨mkT 71 .junk l, blks q⟩ := by
  cases q with
  | live c b m s => rw [gcK_mkT h1 (by rfl)]; rfl
  | dead c s e c2 b2 m2 s2 => rw [gcK_mkT h1 (by rfl)]; rfl
theorem blks_len (q : PS) : (blks q).length = 2 := by cases q <;> rfl
theorem runs_law (parts : List Str) (at_ : Int) (hl : parts.length ≤ 140737488355328) (hp : ∀ p ∈ parts, p.size ≤ 140737488355328) : pureW XX 3 [lY parts, vI at_] = some (vB true) := by
  refine pureW_in 71 Tryd.func3 Tryd.ntmps3 (by simp) (rfl : Tryd.f3.body = some _) fns_3 ?_
  simp (maxSteps := 200000) (disch := first | (simp only [go_sem, Nat.reduceAdd, Nat.reduceSub, Nat.reduceMul, Nat.reduceLeDiff, Nat.reduceEqDiff, Nat.reduceLT, Nat.reduceBEq, Nat.reduceBNe, Nat.reducePow, ↓reduceIte]; done) | omega | (simp only [go_sem, Nat.reduceAdd, Nat.reduceSub, Nat.reduceMul, Nat.reduceLeDiff, Nat.reduceEqDiff, Nat.reduceLT, Nat.reduceBEq, Nat.reduceBNe, Nat.reducePow, ↓reduceIte] <;> omega) | fail) only [go_sem, Nat.reduceAdd, Nat.reduceSub, Nat.reduceMul, Nat.reduceLeDiff, Nat.reduceEqDiff, Nat.reduceLT, Nat.reduceBEq, Nat.reduceBNe, Nat.reducePow, ↓reduceIte, callA_pure mode_9, fit_spec]
  refine WP_range 5 0 parts.length (fun i => S_3_5 (lY parts) (vI at_) (vI (tot (parts.take i))) (lY parts) (vI parts.length) (vI i) []) (fun i => tot (parts.take i) ≤ 40000) rfl rfl ?_ ?_ ?_ ?_
  · simp (maxSteps := 200000) (disch := first | (simp only [go_sem, Nat.reduceAdd, Nat.reduceSub, Nat.reduceMul, Nat.reduceLeDiff, Nat.reduceEqDiff, Nat.reduceLT, Nat.reduceBEq, Nat.reduceBNe, Nat.reducePow, ↓reduceIte]; done) | omega | (simp only [go_sem, Nat.reduceAdd, Nat.reduceSub, Nat.reduceMul, Nat.reduceLeDiff, Nat.reduceEqDiff, Nat.reduceLT, Nat.reduceBEq, Nat.reduceBNe, Nat.reducePow, ↓reduceIte] <;> omega) | fail) only [go_sem, Nat.reduceAdd, Nat.reduceSub, Nat.reduceMul, Nat.reduceLeDiff, Nat.reduceEqDiff, Nat.reduceLT, Nat.reduceBEq, Nat.reduceBNe, Nat.reducePow, ↓reduceIte]; rfl
  · simp [tot]
  · intro i h hI
    have hws := wrap_succ h hl
    have hpi := hp _ (List.getElem_mem h)
    have hL : parts[i].data.toList.length = parts[i].size := by_len _
    have htk : tot (parts.take (i + 1)) = tot (parts.take i) + (1 + parts[i].size) := by
      rw [List.take_succ_eq_append_getElem h, tot_snoc]
    have e1 : IntKind.i64.wrap (1 + (parts[i].size : Int)) = ((1 + parts[i].size : Nat) : Int) := by rw [IntWalk.i64_in _ (by omega)]; omega
    have e2 : IntKind.i64.wrap ((tot (parts.take i) : Int) + ((1 + parts[i].size : Nat) : Int)) = ((tot (parts.take (i + 1)) : Nat) : Int) := by rw [IntWalk.i64_in _ (by omega), htk]; omega
    by_cases hc : 40000 < tot (parts.take (i + 1))
    · have g : ((40000 : Int) < ((tot (parts.take (i + 1)) : Nat) : Int)) = True := eq_true (by omega)
      simp (maxSteps := 200000) (disch := first | (simp only [go_sem, Nat.reduceAdd, Nat.reduceSub, Nat.reduceMul, Nat.reduceLeDiff, Nat.reduceEqDiff, Nat.reduceLT, Nat.reduceBEq, Nat.reduceBNe, Nat.reducePow, ↓reduceIte]; done) | omega | (simp only [go_sem, Nat.reduceAdd, Nat.reduceSub, Nat.reduceMul, Nat.reduceLeDiff, Nat.reduceEqDiff, Nat.reduceLT, Nat.reduceBEq, Nat.reduceBNe, Nat.reducePow, ↓reduceIte] <;> omega) | fail) only [go_sem, Nat.reduceAdd, Nat.reduceSub, Nat.reduceMul, Nat.reduceLeDiff, Nat.reduceEqDiff, Nat.reduceLT, Nat.reduceBEq, Nat.reduceBNe, Nat.reducePow, ↓reduceIte, nat_int, h, eY_s, hL, e1, e2, g]
    · have g : ((40000 : Int) < ((tot (parts.take (i + 1)) : Nat) : Int)) = False := eq_false (by omega)
      simp (maxSteps := 200000) (disch := first | (simp only [go_sem, Nat.reduceAdd, Nat.reduceSub, Nat.reduceMul, Nat.reduceLeDiff, Nat.reduceEqDiff, Nat.reduceLT, Nat.reduceBEq, Nat.reduceBNe, Nat.reducePow, ↓reduceIte]; done) | omega | (simp only [go_sem, Nat.reduceAdd, Nat.reduceSub, Nat.reduceMul, Nat.reduceLeDiff, Nat.reduceEqDiff, Nat.reduceLT, Nat.reduceBEq, Nat.reduceBNe, Nat.reducePow, ↓reduceIte] <;> omega) | fail) only [go_sem, Nat.reduceAdd, Nat.reduceSub, Nat.reduceMul, Nat.reduceLeDiff, Nat.reduceEqDiff, Nat.reduceLT, Nat.reduceBEq, Nat.reduceBNe, Nat.reducePow, ↓reduceIte, nat_int, h, eY_s, hL, e1, e2, g, hws]
      omega
  · intro hI
    rw [List.take_length] at hI
    simp (maxSteps := 200000) (disch := first | (simp only [go_sem, Nat.reduceAdd, Nat.reduceSub, Nat.reduceMul, Nat.reduceLeDiff, Nat.reduceEqDiff, Nat.reduceLT, Nat.reduceBEq, Nat.reduceBNe, Nat.reducePow, ↓reduceIte]; done) | omega | (simp only [go_sem, Nat.reduceAdd, Nat.reduceSub, Nat.reduceMul, Nat.reduceLeDiff, Nat.reduceEqDiff, Nat.reduceLT, Nat.reduceBEq, Nat.reduceBNe, Nat.reducePow, ↓reduceIte] <;> omega) | fail) only [go_sem, Nat.reduceAdd, Nat.reduceSub, Nat.reduceMul, Nat.reduceLeDiff, Nat.reduceEqDiff, Nat.reduceLT, Nat.reduceBEq, Nat.reduceBNe, Nat.reducePow, ↓reduceIte, nat_int, Nat.lt_irrefl]
    refine WP_loopR 14 2 (fun (a : Nat × PS) => S_3_14 (vI at_) (.ptr 0 0) (.ptr 1 0) (lY parts) (vI parts.length) (vI a.1) (blks a.2)) (fun a => parts.length - a.1) (fun a => a.1 ≤ parts.length ∧ okP (tot (parts.take a.1)) a.2) (0, .live false e0 e0 false) rfl rfl ?_ ?_ ?_
    · simp (maxSteps := 200000) (disch := first | (simp only [go_sem, Nat.reduceAdd, Nat.reduceSub, Nat.reduceMul, Nat.reduceLeDiff, Nat.reduceEqDiff, Nat.reduceLT, Nat.reduceBEq, Nat.reduceBNe, Nat.reducePow, ↓reduceIte]; done) | omega | (simp only [go_sem, Nat.reduceAdd, Nat.reduceSub, Nat.reduceMul, Nat.reduceLeDiff, Nat.reduceEqDiff, Nat.reduceLT, Nat.reduceBEq, Nat.reduceBNe, Nat.reducePow, ↓reduceIte] <;> omega) | fail) only [go_sem, Nat.reduceAdd, Nat.reduceSub, Nat.reduceMul, Nat.reduceLeDiff, Nat.reduceEqDiff, Nat.reduceLT, Nat.reduceBEq, Nat.reduceBNe, Nat.reducePow, ↓reduceIte]; rfl
    · exact ⟨Nat.zero_le _, Nat.le_refl _⟩
    · rintro ⟨i, p⟩ ⟨hi, hok⟩
      simp only at hi hok
      by_cases h : i < parts.length
      case neg =>
        cases p with
        | live c b m s => simp (maxSteps := 200000) (disch := first | (simp only [go_sem, Nat.reduceAdd, Nat.reduceSub, Nat.reduceMul, Nat.reduceLeDiff, Nat.reduceEqDiff, Nat.reduceLT, Nat.reduceBEq, Nat.reduceBNe, Nat.reducePow, ↓reduceIte]; done) | omega | (simp only [go_sem, Nat.reduceAdd, Nat.reduceSub, Nat.reduceMul, Nat.reduceLeDiff, Nat.reduceEqDiff, Nat.reduceLT, Nat.reduceBEq, Nat.reduceBNe, Nat.reducePow, ↓reduceIte] <;> omega) | fail) only [go_sem, Nat.reduceAdd, Nat.reduceSub, Nat.reduceMul, Nat.reduceLeDiff, Nat.reduceEqDiff, Nat.reduceLT, Nat.reduceBEq, Nat.reduceBNe, Nat.reducePow, ↓reduceIte, nat_int, h]
        | dead c s e c2 b2 m2 s2 => simp (maxSteps := 200000) (disch := first | (simp only [go_sem, Nat.reduceAdd, Nat.reduceSub, Nat.reduceMul, Nat.reduceLeDiff, Nat.reduceEqDiff, Nat.reduceLT, Nat.reduceBEq, Nat.reduceBNe, Nat.reducePow, ↓reduceIte]; done) | omega | (simp only [go_sem, Nat.reduceAdd, Nat.reduceSub, Nat.reduceMul, Nat.reduceLeDiff, Nat.reduceEqDiff, Nat.reduceLT, Nat.reduceBEq, Nat.reduceBNe, Nat.reducePow, ↓reduceIte] <;> omega) | fail) only [go_sem, Nat.reduceAdd, Nat.reduceSub, Nat.reduceMul, Nat.reduceLeDiff, Nat.reduceEqDiff, Nat.reduceLT, Nat.reduceBEq, Nat.reduceBNe, Nat.reducePow, ↓reduceIte, nat_int, h]
      have hws := wrap_succ h hl
      have htm := tot_mono parts (i + 1)
      have htk : tot (parts.take (i + 1)) = tot (parts.take i) + (1 + parts[i].size) := by
        rw [List.take_succ_eq_append_getElem h, tot_snoc]
      have hsw := fun t bs c b m s e => call_switch 3 (by rw [live_3]; rfl) t bs c b m s e
      have hL : (parts[i].data.toList).length = parts[i].size := by_len _
      cases p with
      | live c b m s =>
        rw [okP_live] at hok
        have hfd := fun t bs c => call_feed 3 (by rw [live_3]; rfl) t bs c b m s 0 parts[i] false (by omega)
        rw [if_pos rfl] at hfd
        by_cases hat : (i : Int) = at_
        · have g := eq_true hat
          simp (maxSteps := 200000) (disch := first | (simp only [go_sem, Nat.reduceAdd, Nat.reduceSub, Nat.reduceMul, Nat.reduceLeDiff, Nat.reduceEqDiff, Nat.reduceLT, Nat.reduceBEq, Nat.reduceBNe, Nat.reducePow, ↓reduceIte]; done) | omega | (simp only [go_sem, Nat.reduceAdd, Nat.reduceSub, Nat.reduceMul, Nat.reduceLeDiff, Nat.reduceEqDiff, Nat.reduceLT, Nat.reduceBEq, Nat.reduceBNe, Nat.reducePow, ↓reduceIte] <;> omega) | fail) only [go_sem, Nat.reduceAdd, Nat.reduceSub, Nat.reduceMul, Nat.reduceLeDiff, Nat.reduceEqDiff, Nat.reduceLT, Nat.reduceBEq, Nat.reduceBNe, Nat.reducePow, ↓reduceIte, nat_int, h, eY_s, hsw, hfd, g]
          refine WP_loopR 23 2 (fun (a : Bool × PS) => S_3_23 (vI at_) (.ptr 0 0) (.ptr 1 0) (vB a.1) (lY parts) (vI parts.length) (vI i) (blks a.2)) (fun a => if a.1 = true then szP a.2 + 1 else 0) (fun a => okP (tot (parts.take (i + 1))) a.2) (true, PS.live true (b ++ parts[i]) m s) rfl rfl ?_ ?_ ?_
          · simp (maxSteps := 200000) (disch := first | (simp only [go_sem, Nat.reduceAdd, Nat.reduceSub, Nat.reduceMul, Nat.reduceLeDiff, Nat.reduceEqDiff, Nat.reduceLT, Nat.reduceBEq, Nat.reduceBNe, Nat.reducePow, ↓reduceIte]; done) | omega | (simp only [go_sem, Nat.reduceAdd, Nat.reduceSub, Nat.reduceMul, Nat.reduceLeDiff, Nat.reduceEqDiff, Nat.reduceLT, Nat.reduceBEq, Nat.reduceBNe, Nat.reducePow, ↓reduceIte] <;> omega) | fail) only [go_sem, Nat.reduceAdd, Nat.reduceSub, Nat.reduceMul, Nat.reduceLeDiff, Nat.reduceEqDiff, Nat.reduceLT, Nat.reduceBEq, Nat.reduceBNe, Nat.reducePow, ↓reduceIte]
          · rw [okP_live, ByteArray.size_append]; omega
          · rintro ⟨on, q⟩ hq
            simp only at hq
            cases on with
            | false =>
              simp (maxSteps := 200000) (disch := first | (simp only [go_sem, Nat.reduceAdd, Nat.reduceSub, Nat.reduceMul, Nat.reduceLeDiff, Nat.reduceEqDiff, Nat.reduceLT, Nat.reduceBEq, Nat.reduceBNe, Nat.reducePow, ↓reduceIte]; done) | omega | (simp only [go_sem, Nat.reduceAdd, Nat.reduceSub, Nat.reduceMul, Nat.reduceLeDiff, Nat.reduceEqDiff, Nat.reduceLT, Nat.reduceBEq, Nat.reduceBNe, Nat.reducePow, ↓reduceIte] <;> omega) | fail) only [go_sem, Nat.reduceAdd, Nat.reduceSub, Nat.reduceMul, Nat.reduceLeDiff, Nat.reduceEqDiff, Nat.reduceLT, Nat.reduceBEq, Nat.reduceBNe, Nat.reducePow, ↓reduceIte, hws, gcB]
              exact ⟨(i + 1, q), rfl, ⟨by simp only; omega, hq⟩, by simp only; omega⟩
            | true =>
              have hca := fun t => call_alike t q (tot (parts.take (i + 1))) (by omega) hq
              obtain ⟨hn1, hn2⟩ := next_ok hq
              simp (maxSteps := 200000) (disch := first | (simp only [go_sem, Nat.reduceAdd, Nat.reduceSub, Nat.reduceMul, Nat.reduceLeDiff, Nat.reduceEqDiff, Nat.reduceLT, Nat.reduceBEq, Nat.reduceBNe, Nat.reducePow, ↓reduceIte]; done) | omega | (simp only [go_sem, Nat.reduceAdd, Nat.reduceSub, Nat.reduceMul, Nat.reduceLeDiff, Nat.reduceEqDiff, Nat.reduceLT, Nat.reduceBEq, Nat.reduceBNe, Nat.reducePow, ↓reduceIte] <;> omega) | fail) only [go_sem, Nat.reduceAdd, Nat.reduceSub, Nat.reduceMul, Nat.reduceLeDiff, Nat.reduceEqDiff, Nat.reduceLT, Nat.reduceBEq, Nat.reduceBNe, Nat.reducePow, ↓reduceIte, hca, gcB]
              refine ⟨(goP q, nextP q), rfl, hn1, ?_⟩
              cases hg : goP q with
              | true => have := hn2 hg; simp; omega
              | false => simp
        · simp (maxSteps := 200000) (disch := first | (simp only [go_sem, Nat.reduceAdd, Nat.reduceSub, Nat.reduceMul, Nat.reduceLeDiff, Nat.reduceEqDiff, Nat.reduceLT, Nat.reduceBEq, Nat.reduceBNe, Nat.reducePow, ↓reduceIte]; done) | omega | (simp only [go_sem, Nat.reduceAdd, Nat.reduceSub, Nat.reduceMul, Nat.reduceLeDiff, Nat.reduceEqDiff, Nat.reduceLT, Nat.reduceBEq, Nat.reduceBNe, Nat.reducePow, ↓reduceIte] <;> omega) | fail) only [go_sem, Nat.reduceAdd, Nat.reduceSub, Nat.reduceMul, Nat.reduceLeDiff, Nat.reduceEqDiff, Nat.reduceLT, Nat.reduceBEq, Nat.reduceBNe, Nat.reducePow, ↓reduceIte, nat_int, h, eY_s, hsw, hfd, hat]
          refine WP_loopR 23 2 (fun (a : Bool × PS) => S_3_23 (vI at_) (.ptr 0 0) (.ptr 1 0) (vB a.1) (lY parts) (vI parts.length) (vI i) (blks a.2)) (fun a => if a.1 = true then szP a.2 + 1 else 0) (fun a => okP (tot (parts.take (i + 1))) a.2) (true, PS.live c (b ++ parts[i]) m s) rfl rfl ?_ ?_ ?_
          · simp (maxSteps := 200000) (disch := first | (simp only [go_sem, Nat.reduceAdd, Nat.reduceSub, Nat.reduceMul, Nat.reduceLeDiff, Nat.reduceEqDiff, Nat.reduceLT, Nat.reduceBEq, Nat.reduceBNe, Nat.reducePow, ↓reduceIte]; done) | omega | (simp only [go_sem, Nat.reduceAdd, Nat.reduceSub, Nat.reduceMul, Nat.reduceLeDiff, Nat.reduceEqDiff, Nat.reduceLT, Nat.reduceBEq, Nat.reduceBNe, Nat.reducePow, ↓reduceIte] <;> omega) | fail) only [go_sem, Nat.reduceAdd, Nat.reduceSub, Nat.reduceMul, Nat.reduceLeDiff, Nat.reduceEqDiff, Nat.reduceLT, Nat.reduceBEq, Nat.reduceBNe, Nat.reducePow, ↓reduceIte]
          · rw [okP_live, ByteArray.size_append]; omega
          · rintro ⟨on, q⟩ hq
            simp only at hq
            cases on with
            | false =>
              simp (maxSteps := 200000) (disch := first | (simp only [go_sem, Nat.reduceAdd, Nat.reduceSub, Nat.reduceMul, Nat.reduceLeDiff, Nat.reduceEqDiff, Nat.reduceLT, Nat.reduceBEq, Nat.reduceBNe, Nat.reducePow, ↓reduceIte]; done) | omega | (simp only [go_sem, Nat.reduceAdd, Nat.reduceSub, Nat.reduceMul, Nat.reduceLeDiff, Nat.reduceEqDiff, Nat.reduceLT, Nat.reduceBEq, Nat.reduceBNe, Nat.reducePow, ↓reduceIte] <;> omega) | fail) only [go_sem, Nat.reduceAdd, Nat.reduceSub, Nat.reduceMul, Nat.reduceLeDiff, Nat.reduceEqDiff, Nat.reduceLT, Nat.reduceBEq, Nat.reduceBNe, Nat.reducePow, ↓reduceIte, hws, gcB]
              exact ⟨(i + 1, q), rfl, ⟨by simp only; omega, hq⟩, by simp only; omega⟩
            | true =>
              have hca := fun t => call_alike t q (tot (parts.take (i + 1))) (by omega) hq
              obtain ⟨hn1, hn2⟩ := next_ok hq
              simp (maxSteps := 200000) (disch := first | (simp only [go_sem, Nat.reduceAdd, Nat.reduceSub, Nat.reduceMul, Nat.reduceLeDiff, Nat.reduceEqDiff, Nat.reduceLT, Nat.reduceBEq, Nat.reduceBNe, Nat.reducePow, ↓reduceIte]; done) | omega | (simp only [go_sem, Nat.reduceAdd, Nat.reduceSub, Nat.reduceMul, Nat.reduceLeDiff, Nat.reduceEqDiff, Nat.reduceLT, Nat.reduceBEq, Nat.reduceBNe, Nat.reducePow, ↓reduceIte] <;> omega) | fail) only [go_sem, Nat.reduceAdd, Nat.reduceSub, Nat.reduceMul, Nat.reduceLeDiff, Nat.reduceEqDiff, Nat.reduceLT, Nat.reduceBEq, Nat.reduceBNe, Nat.reducePow, ↓reduceIte, hca, gcB]
              refine ⟨(goP q, nextP q), rfl, hn1, ?_⟩
              cases hg : goP q with
              | true => have := hn2 hg; simp; omega
              | false => simp
      | dead c s e c2 b2 m2 s2 =>
        have he : ¬ e = 0 := hok
        have hfd := fun t bs c => call_feed 3 (by rw [live_3]; rfl) t bs c e0 e0 s e parts[i] false (by have := hp _ (List.getElem_mem h); show 0 + _ ≤ _; omega)
        rw [if_neg he] at hfd
        have g0 := eq_false he
        by_cases hat : (i : Int) = at_
        · have g := eq_true hat
          simp (maxSteps := 200000) (disch := first | (simp only [go_sem, Nat.reduceAdd, Nat.reduceSub, Nat.reduceMul, Nat.reduceLeDiff, Nat.reduceEqDiff, Nat.reduceLT, Nat.reduceBEq, Nat.reduceBNe, Nat.reducePow, ↓reduceIte]; done) | omega | (simp only [go_sem, Nat.reduceAdd, Nat.reduceSub, Nat.reduceMul, Nat.reduceLeDiff, Nat.reduceEqDiff, Nat.reduceLT, Nat.reduceBEq, Nat.reduceBNe, Nat.reducePow, ↓reduceIte] <;> omega) | fail) only [go_sem, Nat.reduceAdd, Nat.reduceSub, Nat.reduceMul, Nat.reduceLeDiff, Nat.reduceEqDiff, Nat.reduceLT, Nat.reduceBEq, Nat.reduceBNe, Nat.reducePow, ↓reduceIte, nat_int, h, eY_s, hsw, hfd, g, g0]
          refine WP_loopR 23 2 (fun (a : Bool × PS) => S_3_23 (vI at_) (.ptr 0 0) (.ptr 1 0) (vB a.1) (lY parts) (vI parts.length) (vI i) (blks a.2)) (fun a => if a.1 = true then szP a.2 + 1 else 0) (fun a => okP (tot (parts.take (i + 1))) a.2) (true, PS.dead true s e true b2 m2 s2) rfl rfl ?_ ?_ ?_
          · simp (maxSteps := 200000) (disch := first | (simp only [go_sem, Nat.reduceAdd, Nat.reduceSub, Nat.reduceMul, Nat.reduceLeDiff, Nat.reduceEqDiff, Nat.reduceLT, Nat.reduceBEq, Nat.reduceBNe, Nat.reducePow, ↓reduceIte]; done) | omega | (simp only [go_sem, Nat.reduceAdd, Nat.reduceSub, Nat.reduceMul, Nat.reduceLeDiff, Nat.reduceEqDiff, Nat.reduceLT, Nat.reduceBEq, Nat.reduceBNe, Nat.reducePow, ↓reduceIte] <;> omega) | fail) only [go_sem, Nat.reduceAdd, Nat.reduceSub, Nat.reduceMul, Nat.reduceLeDiff, Nat.reduceEqDiff, Nat.reduceLT, Nat.reduceBEq, Nat.reduceBNe, Nat.reducePow, ↓reduceIte]
          · exact he
          · rintro ⟨on, q⟩ hq
            simp only at hq
            cases on with
            | false =>
              simp (maxSteps := 200000) (disch := first | (simp only [go_sem, Nat.reduceAdd, Nat.reduceSub, Nat.reduceMul, Nat.reduceLeDiff, Nat.reduceEqDiff, Nat.reduceLT, Nat.reduceBEq, Nat.reduceBNe, Nat.reducePow, ↓reduceIte]; done) | omega | (simp only [go_sem, Nat.reduceAdd, Nat.reduceSub, Nat.reduceMul, Nat.reduceLeDiff, Nat.reduceEqDiff, Nat.reduceLT, Nat.reduceBEq, Nat.reduceBNe, Nat.reducePow, ↓reduceIte] <;> omega) | fail) only [go_sem, Nat.reduceAdd, Nat.reduceSub, Nat.reduceMul, Nat.reduceLeDiff, Nat.reduceEqDiff, Nat.reduceLT, Nat.reduceBEq, Nat.reduceBNe, Nat.reducePow, ↓reduceIte, hws, gcB]
              exact ⟨(i + 1, q), rfl, ⟨by simp only; omega, hq⟩, by simp only; omega⟩
            | true =>
              have hca := fun t => call_alike t q (tot (parts.take (i + 1))) (by omega) hq
              obtain ⟨hn1, hn2⟩ := next_ok hq
              simp (maxSteps := 200000) (disch := first | (simp only [go_sem, Nat.reduceAdd, Nat.reduceSub, Nat.reduceMul, Nat.reduceLeDiff, Nat.reduceEqDiff, Nat.reduceLT, Nat.reduceBEq, Nat.reduceBNe, Nat.reducePow, ↓reduceIte]; done) | omega | (simp only [go_sem, Nat.reduceAdd, Nat.reduceSub, Nat.reduceMul, Nat.reduceLeDiff, Nat.reduceEqDiff, Nat.reduceLT, Nat.reduceBEq, Nat.reduceBNe, Nat.reducePow, ↓reduceIte] <;> omega) | fail) only [go_sem, Nat.reduceAdd, Nat.reduceSub, Nat.reduceMul, Nat.reduceLeDiff, Nat.reduceEqDiff, Nat.reduceLT, Nat.reduceBEq, Nat.reduceBNe, Nat.reducePow, ↓reduceIte, hca, gcB]
              refine ⟨(goP q, nextP q), rfl, hn1, ?_⟩
              cases hg : goP q with
              | true => have := hn2 hg; simp; omega
              | false => simp
        · simp (maxSteps := 200000) (disch := first | (simp only [go_sem, Nat.reduceAdd, Nat.reduceSub, Nat.reduceMul, Nat.reduceLeDiff, Nat.reduceEqDiff, Nat.reduceLT, Nat.reduceBEq, Nat.reduceBNe, Nat.reducePow, ↓reduceIte]; done) | omega | (simp only [go_sem, Nat.reduceAdd, Nat.reduceSub, Nat.reduceMul, Nat.reduceLeDiff, Nat.reduceEqDiff, Nat.reduceLT, Nat.reduceBEq, Nat.reduceBNe, Nat.reducePow, ↓reduceIte] <;> omega) | fail) only [go_sem, Nat.reduceAdd, Nat.reduceSub, Nat.reduceMul, Nat.reduceLeDiff, Nat.reduceEqDiff, Nat.reduceLT, Nat.reduceBEq, Nat.reduceBNe, Nat.reducePow, ↓reduceIte, nat_int, h, eY_s, hsw, hfd, hat, g0]
          refine WP_loopR 23 2 (fun (a : Bool × PS) => S_3_23 (vI at_) (.ptr 0 0) (.ptr 1 0) (vB a.1) (lY parts) (vI parts.length) (vI i) (blks a.2)) (fun a => if a.1 = true then szP a.2 + 1 else 0) (fun a => okP (tot (parts.take (i + 1))) a.2) (true, PS.dead c s e c2 b2 m2 s2) rfl rfl ?_ ?_ ?_
          · simp (maxSteps := 200000) (disch := first | (simp only [go_sem, Nat.reduceAdd, Nat.reduceSub, Nat.reduceMul, Nat.reduceLeDiff, Nat.reduceEqDiff, Nat.reduceLT, Nat.reduceBEq, Nat.reduceBNe, Nat.reducePow, ↓reduceIte]; done) | omega | (simp only [go_sem, Nat.reduceAdd, Nat.reduceSub, Nat.reduceMul, Nat.reduceLeDiff, Nat.reduceEqDiff, Nat.reduceLT, Nat.reduceBEq, Nat.reduceBNe, Nat.reducePow, ↓reduceIte] <;> omega) | fail) only [go_sem, Nat.reduceAdd, Nat.reduceSub, Nat.reduceMul, Nat.reduceLeDiff, Nat.reduceEqDiff, Nat.reduceLT, Nat.reduceBEq, Nat.reduceBNe, Nat.reducePow, ↓reduceIte]
          · exact he
          · rintro ⟨on, q⟩ hq
            simp only at hq
            cases on with
            | false =>
              simp (maxSteps := 200000) (disch := first | (simp only [go_sem, Nat.reduceAdd, Nat.reduceSub, Nat.reduceMul, Nat.reduceLeDiff, Nat.reduceEqDiff, Nat.reduceLT, Nat.reduceBEq, Nat.reduceBNe, Nat.reducePow, ↓reduceIte]; done) | omega | (simp only [go_sem, Nat.reduceAdd, Nat.reduceSub, Nat.reduceMul, Nat.reduceLeDiff, Nat.reduceEqDiff, Nat.reduceLT, Nat.reduceBEq, Nat.reduceBNe, Nat.reducePow, ↓reduceIte] <;> omega) | fail) only [go_sem, Nat.reduceAdd, Nat.reduceSub, Nat.reduceMul, Nat.reduceLeDiff, Nat.reduceEqDiff, Nat.reduceLT, Nat.reduceBEq, Nat.reduceBNe, Nat.reducePow, ↓reduceIte, hws, gcB]
              exact ⟨(i + 1, q), rfl, ⟨by simp only; omega, hq⟩, by simp only; omega⟩
            | true =>
              have hca := fun t => call_alike t q (tot (parts.take (i + 1))) (by omega) hq
              obtain ⟨hn1, hn2⟩ := next_ok hq
              simp (maxSteps := 200000) (disch := first | (simp only [go_sem, Nat.reduceAdd, Nat.reduceSub, Nat.reduceMul, Nat.reduceLeDiff, Nat.reduceEqDiff, Nat.reduceLT, Nat.reduceBEq, Nat.reduceBNe, Nat.reducePow, ↓reduceIte]; done) | omega | (simp only [go_sem, Nat.reduceAdd, Nat.reduceSub, Nat.reduceMul, Nat.reduceLeDiff, Nat.reduceEqDiff, Nat.reduceLT, Nat.reduceBEq, Nat.reduceBNe, Nat.reducePow, ↓reduceIte] <;> omega) | fail) only [go_sem, Nat.reduceAdd, Nat.reduceSub, Nat.reduceMul, Nat.reduceLeDiff, Nat.reduceEqDiff, Nat.reduceLT, Nat.reduceBEq, Nat.reduceBNe, Nat.reducePow, ↓reduceIte, hca, gcB]
              refine ⟨(goP q, nextP q), rfl, hn1, ?_⟩
              cases hg : goP q with
              | true => have := hn2 hg; simp; omega
              | false => simp
end Go.Abs.BB
end

section
set_option linter.unusedVariables false
set_option linter.unusedSimpArgs false
set_option linter.unusedSectionVars false
set_option maxRecDepth 100000
set_option maxHeartbeats 8000000
set_option linter.unusedSimpArgs false
set_option linter.unusedVariables false
namespace Go.Abs.BB
open Go.Proofs

/-! Digits. -/
theorem dd_all : ∀ (n u : Nat), u < n → ∀ c ∈ dd u, isD c = true
  | 0, u, h => by omega
  | n + 1, u, h => by
    by_cases h0 : u = 0
    · subst h0; simp [dd]
    · rw [dd_step (by omega)]
      intro c hc
      rcases List.mem_append.1 hc with h1 | h1
      · exact dd_all n (u / 10) (by omega) c h1
      · obtain rfl := List.mem_singleton.1 h1
        have : (UInt8.ofNat (48 + u % 10)).toNat = 48 + u % 10 := by rw [UInt8.toNat_ofNat']; omega
        simp only [isD, this, Bool.and_eq_true, decide_eq_true_eq]; omega
theorem dd_val : ∀ (n u : Nat), u < n → valN (dd u) = u
  | 0, u, h => by omega
  | n + 1, u, h => by
    by_cases h0 : u = 0
    · subst h0; rfl
    · rw [dd_step (by omega), valN_snoc, dd_val n (u / 10) (by omega)]
      have : (UInt8.ofNat (48 + u % 10)).toNat = 48 + u % 10 := by rw [UInt8.toNat_ofNat']; omega
      rw [this]; omega
theorem dd_pos {u : Nat} (h : 0 < u) : 0 < (dd u).length := by rw [dd_step h]; simp
theorem dd_head : ∀ (n u : Nat), u < n → (h : 0 < u) → (dd u)[0]'(dd_pos h) ≠ 48
  | 0, u, h, _ => by omega
  | n + 1, u, h, h1 => by
    have e := dd_step h1
    by_cases h0 : u < 10
    · have : dd u = [UInt8.ofNat (48 + u % 10)] := by rw [e, show u / 10 = 0 by omega]; rfl
      simp only [this, List.getElem_cons_zero]
      intro hc
      have h2 := congrArg UInt8.toNat hc
      rw [UInt8.toNat_ofNat'] at h2
      have : (48 : UInt8).toNat = 48 := rfl
      omega
    · have ih := dd_head n (u / 10) (by omega) (by omega)
      have h2 := dd_pos (u := u / 10) (by omega)
      simp only [e]
      rw [List.getElem_append_left h2]
      exact ih
theorem dd_le : ∀ (k u : Nat), u < 10 ^ k → (dd u).length ≤ k
  | 0, u, h => by have : u = 0 := by simpa using h
                  subst this; simp [dd]
  | k + 1, u, h => by
    by_cases h0 : u = 0
    · subst h0; simp [dd]
    · rw [dd_step (by omega), List.length_append, List.length_singleton]
      have := dd_le k (u / 10) (by rw [Nat.pow_succ] at h; omega)
      omega

/-! A piece of a message. -/
def hdS (n : Nat) : Str := sNH ++ ⟨(dd n).toArray⟩
def pcS (x : Str) : Str := ((sNH ++ ⟨(dd x.size).toArray⟩) ++ sNL) ++ x
theorem hd_by (n : Nat) : by' (hdS n) = [10, 35] ++ dd n := by unfold hdS; rw [by_app]; rfl
theorem hd_size (n : Nat) : (hdS n).size = 2 + (dd n).length := by rw [← by_len, hd_by]; simp; omega
theorem pc_by (x : Str) : by' (pcS x) = ([10, 35] ++ dd x.size) ++ (10 :: by' x) := by
  unfold pcS; rw [by_app, by_app, by_app]; simp [by', sNH, sNL]
theorem pc_size (x : Str) : (pcS x).size = 3 + (dd x.size).length + x.size := by rw [← by_len, pc_by]; simp only [List.length_append, List.length_cons, List.length_nil, by_len]; omega
theorem pc_enc (x : Str) (h : x.size ≠ 0) : encS x true = pcS x ++ sTail := by
  unfold encS pcS
  rw [if_neg (by simp), if_neg (fun e => h ((size_nil x).1 e))]
/-- The end of a line, in bytes. -/
theorem nl_of_by {b : Str} {p q : List UInt8} {a : UInt8} (h : by' b = a :: (p ++ 10 :: q)) (hp : ∀ c ∈ p, c ≠ 10) : nlI b = p.length + 1 := by
  have hl := by_len b
  rw [h] at hl
  simp at hl
  refine nl_is (by omega) (by omega) ?_ (fun j h1 h2 => ?_)
  · rw [byteAt_eq (l := a :: (p ++ 10 :: q)) h (by simp)]
    simp
  · rw [byteAt_eq (l := a :: (p ++ 10 :: q)) h (by simp; omega)]
    obtain ⟨j, rfl⟩ : ∃ k, j = k + 1 := ⟨j - 1, by omega⟩
    simp only [List.getElem_cons_succ]
    rw [List.getElem_append_left (by omega)]
    have := hp _ (List.getElem_mem (show j < p.length by omega))
    intro hc
    apply this
    have h2 : p[j].toNat = (10 : UInt8).toNat := by show _ = 10; omega
    exact UInt8.toNat_inj.1 h2
theorem ext_by {b : Str} {i j : Nat} {l : List UInt8} (h : by' b = l) : by' (b.extract i j) = (l.drop i).take (j - i) := by rw [by_ext, h]
theorem of_by (l : List UInt8) : by' ⟨l.toArray⟩ = l := by simp [by']
theorem head_by {b : Str} {p q : List UInt8} {a : UInt8} (h : by' b = a :: (p ++ 10 :: q)) (hp : ∀ c ∈ p, c ≠ 10) : by' (headS b) = a :: p := by
  have hn := nl_of_by h hp
  unfold headS
  rw [if_pos (by omega), hn, ext_by h]
  simp
theorem size_of_by {b : Str} {l : List UInt8} (h : by' b = l) : b.size = l.length := by rw [← h, by_len]
theorem digit_ne {c : UInt8} (h : isD c = true) : c ≠ 10 ∧ c ≠ 35 := by
  simp [isD] at h
  constructor
  · rintro rfl; have : (10 : UInt8).toNat = 10 := rfl; omega
  · rintro rfl; have : (35 : UInt8).toNat = 35 := rfl; omega
theorem step_pc (x r m : Str) (s : Bool) (h0 : x.size ≠ 0) (h1 : m.size + x.size ≤ 16384) : step (pcS x ++ r) m s = .more r (m ++ x) := by
  have hD := dd_all (x.size + 1) x.size (by omega)
  have hV := dd_val (x.size + 1) x.size (by omega)
  have hp := dd_pos (u := x.size) (by omega)
  have hh := dd_head (x.size + 1) x.size (by omega) (by omega)
  have hle := dd_le 5 x.size (by omega)
  have hb : by' (pcS x ++ r) = 10 :: ((35 :: dd x.size) ++ 10 :: (by' x ++ by' r)) := by rw [by_app, pc_by]; simp
  have hno : ∀ c ∈ (35 :: dd x.size), c ≠ (10 : UInt8) := by
    intro c hc
    rcases List.mem_cons.1 hc with rfl | hc
    · decide
    · exact (digit_ne (hD c hc)).1
  have hn := nl_of_by hb hno
  have hH := head_by hb hno
  have hHs : (headS (pcS x ++ r)).size = 2 + (dd x.size).length := by rw [size_of_by hH]; simp; omega
  have hsz : (pcS x ++ r).size = 3 + (dd x.size).length + x.size + r.size := by rw [ByteArray.size_append, pc_size]
  unfold step
  have hbad : badH (headS (pcS x ++ r)) = false := by
    unfold badH hasP
    have e2 : sNH.size = 2 := rfl
    have z : ((headS (pcS x ++ r)).extract 0 (min (headS (pcS x ++ r)).size 2)) = sNH := by
      rw [hHs, Nat.min_eq_right (by omega), ← by_inj, ext_by hH]
      simp [sNH, by']
    rw [z]
    have z2 : sNH.extract 0 sNH.size = sNH := by kernel_rfl
    rw [z2, hHs]
    simp; omega
  rw [hbad, if_neg (by simp), hn, if_neg (by omega)]
  have hns : headS (pcS x ++ r) ≠ s2H := by
    intro hc
    have hc' := hH
    rw [hc] at hc'
    have e3 : by' s2H = [10, 35, 35] := rfl
    rw [e3] at hc'
    have h3 : dd x.size = [35] := by simpa using hc'.symm
    have := (digit_ne (hD 35 (by rw [h3]; simp))).2
    exact this rfl
  rw [if_neg hns, sizeS_T]
  have hb2 : byteAt (headS (pcS x ++ r)) 2 ≠ 48 := by
    rw [byteAt_eq (l := 10 :: 35 :: dd x.size) hH (by simp; omega)]
    simp only [List.getElem_cons_succ]
    intro hc
    apply hh
    have h2 : ((dd x.size)[0]).toNat = (48 : UInt8).toNat := by show _ = 48; omega
    exact UInt8.toNat_inj.1 h2
  have hdr : (by' (headS (pcS x ++ r))).drop 2 = dd x.size := by rw [hH]; rfl
  rw [if_neg (by rw [hHs]; exact fun h => h.elim (fun h => by omega) hb2), hdr, if_pos (by simpa [List.all_eq_true] using hD), hV]
  simp only
  have hl : (35 :: dd x.size).length + 1 = 2 + (dd x.size).length := by simp; omega
  rw [if_neg (by omega), if_neg (by rw [hsz, hl]; omega), hl]
  have d1 : (by' (pcS x ++ r)).drop (2 + (dd x.size).length + 1) = by' x ++ by' r := by
    rw [hb, show 10 :: ((35 :: dd x.size) ++ 10 :: (by' x ++ by' r)) = (10 :: 35 :: dd x.size ++ [10]) ++ (by' x ++ by' r) by simp]
    exact List.drop_left' (by simp; omega)
  have k1 : (pcS x ++ r).extract (2 + (dd x.size).length + 1) (2 + (dd x.size).length + 1 + x.size) = x := by
    rw [← by_inj, by_ext, d1, Nat.add_sub_cancel_left]
    exact List.take_left' (by_len x)
  have k2 : (pcS x ++ r).extract (2 + (dd x.size).length + 1 + x.size) (pcS x ++ r).size = r := by
    rw [← by_inj, by_ext, ← List.drop_drop, d1, List.drop_left' (by_len x)]
    exact List.take_of_length_le (by rw [by_len, hsz]; omega)
  rw [k1, k2]
theorem step_tail (r m : Str) : step (sTail ++ r) m true = .msg r := by
  have hb : by' (sTail ++ r) = 10 :: ([35, 35] ++ 10 :: by' r) := by rw [by_app]; rfl
  have hno : ∀ c ∈ [35, 35], c ≠ (10 : UInt8) := by decide
  have hn := nl_of_by hb hno
  have hH := head_by hb hno
  have hs2 : headS (sTail ++ r) = s2H := by rw [← by_inj, hH]; rfl
  unfold step
  rw [hs2, show badH s2H = false from by kernel_rfl, if_neg (by simp), hn, if_neg (by simp), if_pos rfl, if_pos rfl]
  have hz : (sTail ++ r).size = 4 + r.size := by rw [ByteArray.size_append]; rfl
  have hl : [35, 35].length + 1 + 1 = 4 := rfl
  have hd : (by' (sTail ++ r)).drop 4 = by' r := by rw [hb]; rfl
  rw [show ([35, 35] : List UInt8).length + 1 + 1 = 4 from rfl, show (sTail ++ r).extract 4 (sTail ++ r).size = r by
    rw [← by_inj, by_ext, hd]
    exact List.take_of_length_le (by rw [by_len, hz]; omega)]
theorem run_fuel : ∀ (n : Nat) (b m : Str) (s : Bool) (k : Nat), b.size < n → b.size < k → runK k b m s = runC b m s
  | 0, b, m, s, k, h, _ => by omega
  | n + 1, b, m, s, k, h, hk => by
    obtain ⟨k, rfl⟩ : ∃ j, k = j + 1 := ⟨k - 1, by omega⟩
    unfold runC
    rw [runK_s, runK_s]
    cases hs : step b m s with
    | more b' m' =>
      have := more_lt hs
      simp only [contK]
      rw [run_fuel n b' m' true k (by omega) (by omega), run_fuel n b' m' true b.size (by omega) (by omega)]
    | _ => rfl
theorem runC_more {b m b' m' : Str} {s : Bool} (h : step b m s = .more b' m') : runC b m s = runC b' m' true := by
  have := more_lt h
  rw [show runC b m s = runK b.size b' m' true from runK_more h]
  exact run_fuel (b.size + 1) b' m' true b.size (by omega) this
theorem runC_end {b m : Str} {s : Bool} {o : Out} (h : step b m s = o) (hn : ∀ b' m', o ≠ .more b' m') : runC b m s = ⟨o, b, m, s⟩ := runK_end h hn
end Go.Abs.BB
end

section
set_option linter.unusedVariables false
set_option linter.unusedSimpArgs false
set_option linter.unusedSectionVars false
set_option maxRecDepth 100000
set_option maxHeartbeats 8000000
set_option linter.unusedSimpArgs false
set_option linter.unusedVariables false
namespace Go.Abs.BB
open Go.Proofs

theorem app_assoc (a b c : Str) : a ++ b ++ c = a ++ (b ++ c) := by rw [← by_inj]; simp only [by_app, List.append_assoc]
theorem app_nil (a : Str) : a ++ e0 = a := by rw [← by_inj, by_app]; simp [by', e0]
theorem nil_app (a : Str) : e0 ++ a = a := by rw [← by_inj, by_app]; simp [by', e0]
/-- What has been written is what has been cut off. -/
def chI (msg s rest : Str) (i : Nat) : Prop := rest.size ≠ 0 ∧ s.size ≤ 8 * i + 3000 ∧ ∃ u, msg = u ++ rest ∧ s.size + rest.size ≤ 8 * i + msg.size ∧ ∀ r, ∃ g, runC (s ++ r) e0 false = runC r u g
theorem chI_start (msg : Str) (h : msg.size ≠ 0) : chI msg e0 msg 0 := by
  have z : e0.size = 0 := rfl
  exact ⟨h, by omega, e0, (nil_app _).symm, by omega, fun r => ⟨false, by rw [nil_app]⟩⟩
theorem chI_step {msg s rest : Str} {i n : Nat} (h : chI msg s rest i) (hm : msg.size ≤ 3000) (h1 : 1 ≤ n) (h2 : n < rest.size) : chI msg (s ++ pcS (rest.extract 0 n)) (rest.extract n rest.size) (i + 1) := by
  obtain ⟨a1, a2, u, a3, a4, a5⟩ := h
  have z1 : (rest.extract 0 n).size = n := by rw [ByteArray.size_extract]; omega
  have z2 : (rest.extract n rest.size).size = rest.size - n := by rw [ByteArray.size_extract]; omega
  have zm : msg.size = u.size + rest.size := by rw [a3, ByteArray.size_append]
  have hle := dd_le 5 n (by omega)
  have zp := pc_size (rest.extract 0 n)
  rw [z1] at zp
  have hsp : rest.extract 0 n ++ rest.extract n rest.size = rest := by
    rw [← by_inj, by_app, by_ext, by_ext, Nat.sub_zero, List.drop_zero]
    rw [List.take_of_length_le (l := List.drop n _) (by rw [List.length_drop, by_len]; omega)]
    exact List.take_append_drop _ _
  refine ⟨by omega, by rw [ByteArray.size_append]; omega, u ++ rest.extract 0 n, by rw [app_assoc, hsp]; exact a3, by rw [ByteArray.size_append]; omega, fun r => ?_⟩
  obtain ⟨g, hg⟩ := a5 (pcS (rest.extract 0 n) ++ r)
  refine ⟨true, ?_⟩
  rw [app_assoc, hg]
  exact runC_more (step_pc _ _ _ _ (by omega) (by omega))
theorem chI_mono {msg s rest : Str} {i : Nat} (h : chI msg s rest i) : chI msg s rest (i + 1) := by
  obtain ⟨a1, a2, u, a3, a4, a5⟩ := h
  exact ⟨a1, by omega, u, a3, by omega, a5⟩
theorem chI_end {msg s rest : Str} {i : Nat} (h : chI msg s rest i) (hm : msg.size ≤ 3000) : nextR true (s ++ encS rest true) e0 false = ⟨msg, 0, e0, e0, false, false⟩ := by
  obtain ⟨a1, a2, u, a3, a4, a5⟩ := h
  have zm : msg.size = u.size + rest.size := by rw [a3, ByteArray.size_append]
  obtain ⟨g, hg⟩ := a5 (encS rest true)
  unfold nextR
  rw [if_pos rfl, hg, pc_enc _ a1, runC_more (step_pc rest sTail u g a1 (by omega)), ← a3]
  have ht := step_tail e0 msg
  rw [app_nil] at ht
  rw [runC_end ht (fun _ _ h => by cases h)]
  rfl
theorem next_e0 : nextR true e0 e0 false = ⟨e0, 4, e0, e0, false, false⟩ := by kernel_rfl
/-- Where it is cut. -/
theorem cut_at (c : Int) (k : Nat) (hk : 0 < k) (hk2 : k ≤ 3000) : ∃ n : Nat, n < k ∧ IntKind.i64.wrap (IntKind.i64.wrap (c.tmod k + (k + 1 : Nat)) - 1) = ((c.tmod k + k : Int)) ∧ (c.tmod k + k).tmod k = (n : Int) := by
  have h1 := Int.tmod_lt_of_pos c (show (0 : Int) < k by omega)
  have h2 : -(k : Int) < c.tmod k := by
    have := Int.lt_tmod_of_pos c (show (0 : Int) < k by omega)
    omega
  refine ⟨((c.tmod k + k).tmod k).toNat, ?_, ?_, ?_⟩
  · have := Int.tmod_lt_of_pos (c.tmod k + k) (show (0 : Int) < k by omega)
    omega
  · have e1 : IntKind.i64.wrap (c.tmod k + (k + 1 : Nat)) = c.tmod k + (k + 1 : Nat) := IntWalk.i64_in _ (by omega)
    rw [e1, IntWalk.i64_in _ (by omega)]; omega
  · have : 0 ≤ (c.tmod k + k).tmod k := Int.tmod_nonneg _ (by omega)
    omega
def eI (n : Int) : List AV := [vI n]
theorem eI_s (n : Int) : eI n = [vI n] := nr rfl
instance : EL eI 1 := ⟨fun _ => rfl⟩
abbrev lI (l : List Int) : AV := .fs (l.map eI) false
theorem chunks_law (msg : Str) (cuts : List Int) (hs : msg.size ≤ 140737488355328) (hl : cuts.length ≤ 140737488355328) : pureW XX 8 [vS msg, lI cuts] = some (vB true) := by
  refine pureW_in 95 Tryd.func8 Tryd.ntmps8 (by simp) (rfl : Tryd.f8.body = some _) fns_8 ?_
  by_cases h0 : msg = ⟨#[]⟩
  · simp (maxSteps := 200000) (disch := first | (simp only [go_sem, Nat.reduceAdd, Nat.reduceSub, Nat.reduceMul, Nat.reduceLeDiff, Nat.reduceEqDiff, Nat.reduceLT, Nat.reduceBEq, Nat.reduceBNe, Nat.reducePow, ↓reduceIte]; done) | omega | (simp only [go_sem, Nat.reduceAdd, Nat.reduceSub, Nat.reduceMul, Nat.reduceLeDiff, Nat.reduceEqDiff, Nat.reduceLT, Nat.reduceBEq, Nat.reduceBNe, Nat.reducePow, ↓reduceIte] <;> omega) | fail) only [go_sem, Nat.reduceAdd, Nat.reduceSub, Nat.reduceMul, Nat.reduceLeDiff, Nat.reduceEqDiff, Nat.reduceLT, Nat.reduceBEq, Nat.reduceBNe, Nat.reducePow, ↓reduceIte, callA_pure mode_9, fit_spec, h0]
  by_cases h1 : (3000 : Int) < (msg.size : Int)
  · have g := eq_true h1
    simp (maxSteps := 200000) (disch := first | (simp only [go_sem, Nat.reduceAdd, Nat.reduceSub, Nat.reduceMul, Nat.reduceLeDiff, Nat.reduceEqDiff, Nat.reduceLT, Nat.reduceBEq, Nat.reduceBNe, Nat.reducePow, ↓reduceIte]; done) | omega | (simp only [go_sem, Nat.reduceAdd, Nat.reduceSub, Nat.reduceMul, Nat.reduceLeDiff, Nat.reduceEqDiff, Nat.reduceLT, Nat.reduceBEq, Nat.reduceBNe, Nat.reducePow, ↓reduceIte] <;> omega) | fail) only [go_sem, Nat.reduceAdd, Nat.reduceSub, Nat.reduceMul, Nat.reduceLeDiff, Nat.reduceEqDiff, Nat.reduceLT, Nat.reduceBEq, Nat.reduceBNe, Nat.reducePow, ↓reduceIte, callA_pure mode_9, fit_spec, h0, g]
  by_cases h2 : (50 : Int) < (cuts.length : Int)
  · have g := eq_false h1
    have g2 := eq_true h2
    simp (maxSteps := 200000) (disch := first | (simp only [go_sem, Nat.reduceAdd, Nat.reduceSub, Nat.reduceMul, Nat.reduceLeDiff, Nat.reduceEqDiff, Nat.reduceLT, Nat.reduceBEq, Nat.reduceBNe, Nat.reducePow, ↓reduceIte]; done) | omega | (simp only [go_sem, Nat.reduceAdd, Nat.reduceSub, Nat.reduceMul, Nat.reduceLeDiff, Nat.reduceEqDiff, Nat.reduceLT, Nat.reduceBEq, Nat.reduceBNe, Nat.reducePow, ↓reduceIte] <;> omega) | fail) only [go_sem, Nat.reduceAdd, Nat.reduceSub, Nat.reduceMul, Nat.reduceLeDiff, Nat.reduceEqDiff, Nat.reduceLT, Nat.reduceBEq, Nat.reduceBNe, Nat.reducePow, ↓reduceIte, callA_pure mode_9, fit_spec, h0, g, g2]
  have g := eq_false h1
  have g2 := eq_false h2
  simp (maxSteps := 200000) (disch := first | (simp only [go_sem, Nat.reduceAdd, Nat.reduceSub, Nat.reduceMul, Nat.reduceLeDiff, Nat.reduceEqDiff, Nat.reduceLT, Nat.reduceBEq, Nat.reduceBNe, Nat.reducePow, ↓reduceIte]; done) | omega | (simp only [go_sem, Nat.reduceAdd, Nat.reduceSub, Nat.reduceMul, Nat.reduceLeDiff, Nat.reduceEqDiff, Nat.reduceLT, Nat.reduceBEq, Nat.reduceBNe, Nat.reducePow, ↓reduceIte] <;> omega) | fail) only [go_sem, Nat.reduceAdd, Nat.reduceSub, Nat.reduceMul, Nat.reduceLeDiff, Nat.reduceEqDiff, Nat.reduceLT, Nat.reduceBEq, Nat.reduceBNe, Nat.reducePow, ↓reduceIte, callA_pure mode_9, fit_spec, h0, g, g2]
  refine WP_loopR 7 0 (fun (a : Nat × Str × Str) => S_8_7 (vS msg) (vS a.2.1) (vS a.2.2) (lI cuts) (vI cuts.length) (vI a.1) []) (fun a => cuts.length - a.1) (fun a => a.1 ≤ cuts.length ∧ chI msg a.2.1 a.2.2 a.1) (0, e0, msg) rfl rfl ?_ ?_ ?_
  · simp (maxSteps := 200000) (disch := first | (simp only [go_sem, Nat.reduceAdd, Nat.reduceSub, Nat.reduceMul, Nat.reduceLeDiff, Nat.reduceEqDiff, Nat.reduceLT, Nat.reduceBEq, Nat.reduceBNe, Nat.reducePow, ↓reduceIte]; done) | omega | (simp only [go_sem, Nat.reduceAdd, Nat.reduceSub, Nat.reduceMul, Nat.reduceLeDiff, Nat.reduceEqDiff, Nat.reduceLT, Nat.reduceBEq, Nat.reduceBNe, Nat.reducePow, ↓reduceIte] <;> omega) | fail) only [go_sem, Nat.reduceAdd, Nat.reduceSub, Nat.reduceMul, Nat.reduceLeDiff, Nat.reduceEqDiff, Nat.reduceLT, Nat.reduceBEq, Nat.reduceBNe, Nat.reducePow, ↓reduceIte]; rfl
  · exact ⟨Nat.zero_le _, chI_start msg (fun h => h0 ((size_nil _).2 h))⟩
  · rintro ⟨i, s, rest⟩ ⟨hi, hI⟩
    simp only at hi hI
    by_cases h : i < cuts.length
    · have hws := wrap_succ h hl
      obtain ⟨a1, a2, u, a3, a4, a5⟩ := id hI
      have zm : msg.size = u.size + rest.size := by rw [a3, ByteArray.size_append]
      by_cases hr : (1 : Int) < (rest.size : Int)
      · have g3 := eq_true hr
        obtain ⟨k, hk⟩ : ∃ k : Nat, rest.size = k + 1 := ⟨rest.size - 1, by omega⟩
        obtain ⟨n, hn, c1, c2⟩ := cut_at cuts[i] k (by omega) (by omega)
        have e1 : IntKind.i64.wrap (((k + 1 : Nat) : Int) - 1) = (k : Int) := by rw [IntWalk.i64_in _ (by omega)]; omega
        have g6 : ((pcS (rest.extract 0 (n + 1))).size ≤ (pcS (rest.extract 0 (n + 1))).size + 4) = True := eq_true (by omega)
        have g5 : (n ≤ k) = True := eq_true (by omega)
        have g4 : ((1 : Int) < ((k + 1 : Nat) : Int)) = True := eq_true (by omega)
        have z1 : (rest.extract 0 (n + 1)).size = n + 1 := by rw [ByteArray.size_extract]; omega
        have hne : (rest.extract 0 (n + 1)).size ≠ 0 := by omega
        have hen := refEnc_spec (rest.extract 0 (n + 1)) true (by omega)
        rw [pc_enc _ hne] at hen
        have zp := pc_size (rest.extract 0 (n + 1))
        rw [z1] at zp
        have zd := dd_le 5 (n + 1) (by omega)
        have zt : (pcS (rest.extract 0 (n + 1)) ++ sTail).size = (pcS (rest.extract 0 (n + 1))).size + 4 := by rw [ByteArray.size_append]; rfl
        have e2 : IntKind.i64.wrap ((((pcS (rest.extract 0 (n + 1))).size + 4 : Nat) : Int) - 4) = ((pcS (rest.extract 0 (n + 1))).size : Int) := by rw [IntWalk.i64_in _ (by omega)]; omega
        have hx : (pcS (rest.extract 0 (n + 1)) ++ sTail).extract 0 (pcS (rest.extract 0 (n + 1))).size = pcS (rest.extract 0 (n + 1)) := by
          rw [← by_inj, by_ext, by_app, List.drop_zero, Nat.sub_zero]
          exact List.take_left' (by_len _)
        have e3 : IntKind.i64.wrap ((n : Int) + 1) = ((n + 1 : Nat) : Int) := by rw [IntWalk.i64_in _ (by omega)]; omega
        simp (maxSteps := 200000) (disch := first | (simp only [go_sem, Nat.reduceAdd, Nat.reduceSub, Nat.reduceMul, Nat.reduceLeDiff, Nat.reduceEqDiff, Nat.reduceLT, Nat.reduceBEq, Nat.reduceBNe, Nat.reducePow, ↓reduceIte]; done) | omega | (simp only [go_sem, Nat.reduceAdd, Nat.reduceSub, Nat.reduceMul, Nat.reduceLeDiff, Nat.reduceEqDiff, Nat.reduceLT, Nat.reduceBEq, Nat.reduceBNe, Nat.reducePow, ↓reduceIte] <;> omega) | fail) only [go_sem, Nat.reduceAdd, Nat.reduceSub, Nat.reduceMul, Nat.reduceLeDiff, Nat.reduceEqDiff, Nat.reduceLT, Nat.reduceBEq, Nat.reduceBNe, Nat.reducePow, ↓reduceIte, nat_int, h, eI_s, g4, g5, g6, hk, e1, c1, c2, e3, callA_pure mode_15, hen, zt, e2, hx, hws]
        have hst := chI_step (n := n + 1) hI (by omega) (by omega) (by omega)
        rw [hk] at hst
        exact ⟨(i + 1, s ++ pcS (rest.extract 0 (n + 1)), rest.extract (n + 1) (k + 1)), rfl, ⟨by show i + 1 ≤ _; omega, hst⟩, by show cuts.length - (i + 1) < _; omega⟩
      · have g3 := eq_false hr
        simp (maxSteps := 200000) (disch := first | (simp only [go_sem, Nat.reduceAdd, Nat.reduceSub, Nat.reduceMul, Nat.reduceLeDiff, Nat.reduceEqDiff, Nat.reduceLT, Nat.reduceBEq, Nat.reduceBNe, Nat.reducePow, ↓reduceIte]; done) | omega | (simp only [go_sem, Nat.reduceAdd, Nat.reduceSub, Nat.reduceMul, Nat.reduceLeDiff, Nat.reduceEqDiff, Nat.reduceLT, Nat.reduceBEq, Nat.reduceBNe, Nat.reducePow, ↓reduceIte] <;> omega) | fail) only [go_sem, Nat.reduceAdd, Nat.reduceSub, Nat.reduceMul, Nat.reduceLeDiff, Nat.reduceEqDiff, Nat.reduceLT, Nat.reduceBEq, Nat.reduceBNe, Nat.reducePow, ↓reduceIte, nat_int, h, eI_s, g3, hws]
        exact ⟨(i + 1, s, rest), rfl, ⟨by show i + 1 ≤ _; omega, chI_mono hI⟩, by show cuts.length - (i + 1) < _; omega⟩
    · obtain ⟨a1, a2, u, a3, a4, a5⟩ := id hI
      have zm : msg.size = u.size + rest.size := by rw [a3, ByteArray.size_append]
      have hen := refEnc_spec rest true (by omega)
      have hz : (encS rest true).size ≤ 4000 := by
        have := dd_le 5 rest.size (by omega)
        rw [pc_enc _ a1, ByteArray.size_append, pc_size]
        have : sTail.size = 4 := rfl
        omega
      have hsw := fun t => call_switch 8 (by rw [live_8]; rfl) t [] false e0 e0 false 0
      have hz2 : (s ++ encS rest true).size = s.size + (encS rest true).size := by rw [ByteArray.size_append]
      have ze : e0.size = 0 := rfl
      have hfd := fun t => call_feed 8 (by rw [live_8]; rfl) t [] true e0 e0 false 0 (s ++ encS rest true) false (by omega)
      rw [if_pos rfl, nil_app] at hfd
      have hn1 := fun t => call_next 8 (by rw [live_8]; rfl) t [] true (s ++ encS rest true) e0 false (by omega) (by decide)
      rw [chI_end hI (by omega)] at hn1
      have hn2 := fun t => call_next 8 (by rw [live_8]; rfl) t [] true e0 e0 false (by decide) (by decide)
      rw [next_e0] at hn2
      simp only [Bool.false_eq_true, if_false] at hn1 hn2
      simp (maxSteps := 200000) (disch := first | (simp only [go_sem, Nat.reduceAdd, Nat.reduceSub, Nat.reduceMul, Nat.reduceLeDiff, Nat.reduceEqDiff, Nat.reduceLT, Nat.reduceBEq, Nat.reduceBNe, Nat.reducePow, ↓reduceIte]; done) | omega | (simp only [go_sem, Nat.reduceAdd, Nat.reduceSub, Nat.reduceMul, Nat.reduceLeDiff, Nat.reduceEqDiff, Nat.reduceLT, Nat.reduceBEq, Nat.reduceBNe, Nat.reducePow, ↓reduceIte] <;> omega) | fail) only [go_sem, Nat.reduceAdd, Nat.reduceSub, Nat.reduceMul, Nat.reduceLeDiff, Nat.reduceEqDiff, Nat.reduceLT, Nat.reduceBEq, Nat.reduceBNe, Nat.reducePow, ↓reduceIte, nat_int, h, callA_pure mode_15, hen, hz2, hsw, hfd, hn1, hn2]
end Go.Abs.BB
end

section
set_option linter.unusedVariables false
set_option linter.unusedSimpArgs false
set_option linter.unusedSectionVars false
set_option maxRecDepth 100000
set_option maxHeartbeats 8000000
set_option linter.unusedSimpArgs false
set_option linter.unusedVariables false
namespace Go.Abs.BB
open Go.Proofs

abbrev nilP : AV := .v (.pointer none)
theorem feed_nil (x : Str) (f : Bool) : pureW XX 11 [nilP, .fs (ofBytes x) f] = some (.tup []) := by
  refine pureW_in 22 Tryd.func11 Tryd.ntmps11 (by simp) (rfl : Tryd.f11.body = some _) fns_11 ?_
  simp (maxSteps := 200000) (disch := first | (simp only [go_sem, Nat.reduceAdd, Nat.reduceSub, Nat.reduceMul, Nat.reduceLeDiff, Nat.reduceEqDiff, Nat.reduceLT, Nat.reduceBEq, Nat.reduceBNe, Nat.reducePow, ↓reduceIte]; done) | omega | (simp only [go_sem, Nat.reduceAdd, Nat.reduceSub, Nat.reduceMul, Nat.reduceLeDiff, Nat.reduceEqDiff, Nat.reduceLT, Nat.reduceBEq, Nat.reduceBNe, Nat.reducePow, ↓reduceIte] <;> omega) | fail) only [go_sem, Nat.reduceAdd, Nat.reduceSub, Nat.reduceMul, Nat.reduceLeDiff, Nat.reduceEqDiff, Nat.reduceLT, Nat.reduceBEq, Nat.reduceBNe, Nat.reducePow, ↓reduceIte]
theorem switch_nil : pureW XX 10 [nilP] = some (.tup []) := by
  refine pureW_in 7 Tryd.func10 Tryd.ntmps10 (by simp) (rfl : Tryd.f10.body = some _) fns_10 ?_
  simp (maxSteps := 200000) (disch := first | (simp only [go_sem, Nat.reduceAdd, Nat.reduceSub, Nat.reduceMul, Nat.reduceLeDiff, Nat.reduceEqDiff, Nat.reduceLT, Nat.reduceBEq, Nat.reduceBNe, Nat.reducePow, ↓reduceIte]; done) | omega | (simp only [go_sem, Nat.reduceAdd, Nat.reduceSub, Nat.reduceMul, Nat.reduceLeDiff, Nat.reduceEqDiff, Nat.reduceLT, Nat.reduceBEq, Nat.reduceBNe, Nat.reducePow, ↓reduceIte] <;> omega) | fail) only [go_sem, Nat.reduceAdd, Nat.reduceSub, Nat.reduceMul, Nat.reduceLeDiff, Nat.reduceEqDiff, Nat.reduceLT, Nat.reduceBEq, Nat.reduceBNe, Nat.reducePow, ↓reduceIte]
theorem next_nil : pureW XX 14 [nilP] = some (.tup [vS e0, vI 1]) := by
  refine pureW_in 68 Tryd.func14 Tryd.ntmps14 (by simp) (rfl : Tryd.f14.body = some _) fns_14 ?_
  simp (maxSteps := 200000) (disch := first | (simp only [go_sem, Nat.reduceAdd, Nat.reduceSub, Nat.reduceMul, Nat.reduceLeDiff, Nat.reduceEqDiff, Nat.reduceLT, Nat.reduceBEq, Nat.reduceBNe, Nat.reducePow, ↓reduceIte]; done) | omega | (simp only [go_sem, Nat.reduceAdd, Nat.reduceSub, Nat.reduceMul, Nat.reduceLeDiff, Nat.reduceEqDiff, Nat.reduceLT, Nat.reduceBEq, Nat.reduceBNe, Nat.reducePow, ↓reduceIte] <;> omega) | fail) only [go_sem, Nat.reduceAdd, Nat.reduceSub, Nat.reduceMul, Nat.reduceLeDiff, Nat.reduceEqDiff, Nat.reduceLT, Nat.reduceBEq, Nat.reduceBNe, Nat.reducePow, ↓reduceIte]
def sX : Str := ⟨#[120]⟩
theorem next_x : nextR true sX e0 false = ⟨e0, 3, sX, e0, false, true⟩ := by kernel_rfl
theorem none_law (b : Str) (hb : b.size ≤ 140737488355328) : pureW XX 7 [.fs (ofBytes b) false] = some (vB true) := by
  refine pureW_in 50 Tryd.func7 Tryd.ntmps7 (by simp) (rfl : Tryd.f7.body = some _) fns_7 ?_
  have hl : (by' b).length = b.size := by_len b
  by_cases h1 : (3000 : Int) < (b.size : Int)
  · have g := eq_true h1
    simp (maxSteps := 200000) (disch := first | (simp only [go_sem, Nat.reduceAdd, Nat.reduceSub, Nat.reduceMul, Nat.reduceLeDiff, Nat.reduceEqDiff, Nat.reduceLT, Nat.reduceBEq, Nat.reduceBNe, Nat.reducePow, ↓reduceIte]; done) | omega | (simp only [go_sem, Nat.reduceAdd, Nat.reduceSub, Nat.reduceMul, Nat.reduceLeDiff, Nat.reduceEqDiff, Nat.reduceLT, Nat.reduceBEq, Nat.reduceBNe, Nat.reducePow, ↓reduceIte] <;> omega) | fail) only [go_sem, Nat.reduceAdd, Nat.reduceSub, Nat.reduceMul, Nat.reduceLeDiff, Nat.reduceEqDiff, Nat.reduceLT, Nat.reduceBEq, Nat.reduceBNe, Nat.reducePow, ↓reduceIte, callA_pure mode_9, fit_spec, hl, g]
  have g := eq_false h1
  have hsw := fun t => call_switch 7 (by rw [live_7]; rfl) t [] false e0 e0 false 0
  have ze : e0.size = 0 := rfl
  have zx : sX.size = 1 := rfl
  have hf1 : ∀ t, callX XX (orW XX) ⟨t, [dB true e0 e0 false 0, .dead]⟩ 7 11 [.ptr 0 0, .fs [[.v (.int .u8 120)]] false] = some (.st (.tup []) ⟨t, [dB true sX e0 false 0, .dead]⟩) := fun t =>
    call_feed 7 (by rw [live_7]; rfl) t [.dead] true e0 e0 false 0 sX false (by omega)
  have hn1 := fun t => call_next 7 (by rw [live_7]; rfl) t [.dead] true sX e0 false (by omega) (by omega)
  rw [next_x] at hn1
  simp only [if_true] at hn1
  have hf2 := fun t => call_feed 7 (by rw [live_7]; rfl) t [.dead] true e0 e0 false 3 b false (by omega)
  rw [if_neg (by decide)] at hf2
  have hn2 : ∀ t, callX XX (orW XX) ⟨t, [dB true e0 e0 false 3, .dead]⟩ 7 14 [.ptr 0 0] = some (.st (.tup [vS e0, vI 9]) ⟨t, [dB true e0 e0 false 3, .dead]⟩) := fun t =>
    callX_var 0 (by rw [live_7]; rfl) rfl rfl rfl rfl rfl rfl (next_bad true e0 e0 false 3 (by decide))
  simp (maxSteps := 200000) (disch := first | (simp only [go_sem, Nat.reduceAdd, Nat.reduceSub, Nat.reduceMul, Nat.reduceLeDiff, Nat.reduceEqDiff, Nat.reduceLT, Nat.reduceBEq, Nat.reduceBNe, Nat.reducePow, ↓reduceIte]; done) | omega | (simp only [go_sem, Nat.reduceAdd, Nat.reduceSub, Nat.reduceMul, Nat.reduceLeDiff, Nat.reduceEqDiff, Nat.reduceLT, Nat.reduceBEq, Nat.reduceBNe, Nat.reducePow, ↓reduceIte] <;> omega) | fail) only [go_sem, Nat.reduceAdd, Nat.reduceSub, Nat.reduceMul, Nat.reduceLeDiff, Nat.reduceEqDiff, Nat.reduceLT, Nat.reduceBEq, Nat.reduceBNe, Nat.reducePow, ↓reduceIte, callA_pure mode_9, fit_spec, hl, g, callA_pure mode_11, callA_pure mode_10, callA_pure mode_14, feed_nil, switch_nil, next_nil, hsw, hf1, hn1, hf2, hn2]
end Go.Abs.BB
end
