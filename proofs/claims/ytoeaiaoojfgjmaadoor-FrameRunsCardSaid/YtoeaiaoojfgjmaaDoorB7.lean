/- YtoeaiaoojfgjmaaDoorB7: a part of the interpreter by which the claim is shown, and of the walks: no conditions of its own: every theorem states its own. -/
import Derived.Test.YtoeaiaoojfgjmaaDoorB6
section
set_option linter.unusedVariables false
set_option linter.unusedSimpArgs false
set_option linter.unusedSectionVars false
set_option maxRecDepth 100000
set_option maxHeartbeats 8000000
set_option linter.unusedSimpArgs false
set_option linter.unusedVariables false
namespace Go.Abs.BB
open Go.Proofs

theorem callX_var2 {X : Abs.X} {t : List AV} {bs : List Blk} {f k : Nat} {cs cs' ds ds' xs : List AV} {r : AV} (hl : (X.live f).contains k = true) (h2 : AV.lts 0 xs = false) (hi : idsOfs xs = [0, 1]) (hc : idsOfs cs = []) (hc' : idsOfs cs' = []) (hd : idsOfs ds = []) (hd' : idsOfs ds' = []) (hr : idsOf r = [])
    (hw : loudW X k (AV.rens (fun i => posOf i [0, 1]) xs) [.var cs, .var ds] = some (r, [.var cs', .var ds'])) : callX X (orW X) ⟨t, .var cs :: .var ds :: bs⟩ f k xs = some (.st r ⟨t, .var cs' :: .var ds' :: bs⟩) := by
  rw [callX_live _ _ hl h2]
  have hre : reach (.var cs :: .var ds :: bs) 6 (addNew [] (idsOfs xs)) = [0, 1] := by
    rw [hi]
    simp [addNew, reach, hc, hd]
  have hbl : badL [0, 1] [.var cs, .var ds] [.var cs', .var ds'] = [] := by simp [badL, badB]
  have hpb : putBack (.var cs :: .var ds :: bs) [0, 1] [.var cs', .var ds'] [] = .var cs' :: .var ds' :: bs := by
    unfold putBack
    simp only [List.drop_succ_cons, List.drop_nil, List.length_cons, List.length_nil, List.map_nil, List.append_nil]
    apply List.ext_getElem?
    intro i
    rw [List.getElem?_mapIdx]
    match i with
    | 0 => simp [posOf, Blk.ren, rens_noids _ cs' hc']
    | 1 => simp [posOf, Blk.ren, rens_noids _ ds' hd']
    | i + 2 =>
      simp only [List.getElem?_cons_succ]
      cases bs[i]? with
      | none => rfl
      | some b =>
        have : posOf (i + 2) [0, 1] = none := by simp [posOf]
        simp [this, bren_id keepF_nil]
  unfold callL
  dsimp only
  rw [hre]
  have hcnd : dist [0, 1] = true ∧ [0, 1].all (fun i => decide (i < (Blk.var cs :: Blk.var ds :: bs).length)) = true := by simp [dist]
  rw [if_pos hcnd]
  have hm : ([0, 1].map fun i => ((Blk.var cs :: Blk.var ds :: bs).getD i .dead).ren fun k => posOf k [0, 1]) = [.var cs, .var ds] := by
    simp [Blk.ren, rens_noids _ cs hc, rens_noids _ ds hd]
  simp only [hm]
  rw [show (orW X).loud k (AV.rens (fun k => posOf k [0, 1]) xs) [.var cs, .var ds] = some (r, [.var cs', .var ds']) from hw]
  dsimp only
  rw [hbl, hpb, rens_id keepF_nil, ren_noids _ r hr]
theorem alike_live (c : Bool) (b m : Str) (s : Bool) (hb : b.size ≤ 1000000000) (hm : m.size ≤ 1000000000) :
    loudW XX 12 [.ptr 0 0, .ptr 1 0] [dB c b m s 0, mB c b m s false] = some (.tup [vB true, vB (decide ((nextR c b m s).e = 0))], (outD c (nextR c b m s)).2 ++ (outR c (nextR c b m s)).2) := by
  refine loudW_in 30 Tryd.func12 Tryd.ntmps12 (by simp) (rfl : Tryd.f12.body = some _) fns_12 ?_
  have hn := fun t => call_next 12 (by rw [live_12]; rfl) t [mB c b m s false] c b m s hb hm
  have hr : ∀ t (x : Blk), callX XX (orW XX) ⟨t, [x, mB c b m s false]⟩ 12 16 [.ptr 1 0] = some (.st (.tup [vS (nextR c b m s).r, vI (nextR c b m s).e]) ⟨t, [x, mB c (nextR c b m s).b (nextR c b m s).m (nextR c b m s).s (nextR c b m s).bad]⟩) :=
    fun t x => callX_var 1 (by rw [live_12]; rfl) rfl rfl rfl rfl rfl rfl (refNext_spec c b m s hb hm)
  generalize nextR c b m s = R at *
  simp (maxSteps := 200000) (disch := first | (simp only [go_sem, Nat.reduceAdd, Nat.reduceSub, Nat.reduceMul, Nat.reduceLeDiff, Nat.reduceEqDiff, Nat.reduceLT, Nat.reduceBEq, Nat.reduceBNe, Nat.reducePow, ↓reduceIte]; done) | omega | (simp only [go_sem, Nat.reduceAdd, Nat.reduceSub, Nat.reduceMul, Nat.reduceLeDiff, Nat.reduceEqDiff, Nat.reduceLT, Nat.reduceBEq, Nat.reduceBNe, Nat.reducePow, ↓reduceIte] <;> omega) | fail) only [go_sem, Nat.reduceAdd, Nat.reduceSub, Nat.reduceMul, Nat.reduceLeDiff, Nat.reduceEqDiff, Nat.reduceLT, Nat.reduceBEq, Nat.reduceBNe, Nat.reducePow, ↓reduceIte, hn, hr]
theorem alike_dead (c : Bool) (b m : Str) (s : Bool) (e : Int) (c2 : Bool) (b2 m2 : Str) (s2 : Bool) (he : e ≠ 0) :
    loudW XX 12 [.ptr 0 0, .ptr 1 0] [dB c b m s e, mB c2 b2 m2 s2 true] = some (.tup [vB true, vB false], [dB c b m s e, mB c2 b2 m2 s2 true]) := by
  refine loudW_in 30 Tryd.func12 Tryd.ntmps12 (by simp) (rfl : Tryd.f12.body = some _) fns_12 ?_
  have hn : ∀ t, callX XX (orW XX) ⟨t, [dB c b m s e, mB c2 b2 m2 s2 true]⟩ 12 14 [.ptr 0 0] = some (.st (.tup [vS e0, vI 9]) ⟨t, [dB c b m s e, mB c2 b2 m2 s2 true]⟩) :=
    fun t => callX_var 0 (by rw [live_12]; rfl) rfl rfl rfl rfl rfl rfl (next_bad c b m s e he)
  have hr : ∀ t, callX XX (orW XX) ⟨t, [dB c b m s e, mB c2 b2 m2 s2 true]⟩ 12 16 [.ptr 1 0] = some (.st (.tup [vS e0, vI 9]) ⟨t, [dB c b m s e, mB c2 b2 m2 s2 true]⟩) :=
    fun t => callX_var 1 (by rw [live_12]; rfl) rfl rfl rfl rfl rfl rfl (refNext_bad c2 b2 m2 s2)
  have g9 : ((9 : Int) = 0) = False := eq_false (by omega)
  simp (maxSteps := 200000) (disch := first | (simp only [go_sem, Nat.reduceAdd, Nat.reduceSub, Nat.reduceMul, Nat.reduceLeDiff, Nat.reduceEqDiff, Nat.reduceLT, Nat.reduceBEq, Nat.reduceBNe, Nat.reducePow, ↓reduceIte]; done) | omega | (simp only [go_sem, Nat.reduceAdd, Nat.reduceSub, Nat.reduceMul, Nat.reduceLeDiff, Nat.reduceEqDiff, Nat.reduceLT, Nat.reduceBEq, Nat.reduceBNe, Nat.reducePow, ↓reduceIte] <;> omega) | fail) only [go_sem, Nat.reduceAdd, Nat.reduceSub, Nat.reduceMul, Nat.reduceLeDiff, Nat.reduceEqDiff, Nat.reduceLT, Nat.reduceBEq, Nat.reduceBNe, Nat.reducePow, ↓reduceIte, hn, hr, g9]
end Go.Abs.BB
end

section
set_option linter.unusedVariables false
set_option linter.unusedSimpArgs false
set_option linter.unusedSectionVars false
set_option maxRecDepth 100000
set_option maxHeartbeats 8000000
set_option linter.unusedSimpArgs false
set_option linter.unusedVariables false
namespace Go.Abs.BB
open Go.Proofs

theorem step_more {b m b' m' : Str} {s : Bool} (h : step b m s = .more b' m') : b'.size < b.size ∧ b'.size + m'.size ≤ b.size + m.size := by
  have h1 := more_lt h
  refine ⟨h1, ?_⟩
  unfold step at h
  split at h
  · cases h
  · split at h
    · cases h
    · split at h
      · split at h <;> cases h
      · split at h
        · cases h
        · split at h
          · cases h
          · split at h
            · cases h
            · rename_i n _ _ hb
              cases h
              simp only [ByteArray.size_append, ByteArray.size_extract]
              omega
theorem step_fail {b m : Str} {s : Bool} {e : Int} (h : step b m s = .fail e) : e = 2 ∨ e = 3 := by
  unfold step at h
  split at h
  · cases h; exact .inr rfl
  · split at h
    · cases h
    · split at h
      · split at h <;> cases h
        exact .inr rfl
      · split at h
        · cases h; exact .inr rfl
        · split at h
          · cases h; exact .inl rfl
          · split at h <;> cases h
theorem step_msg {b m x : Str} {s : Bool} (h : step b m s = .msg x) : x.size < b.size := by
  unfold step at h
  by_cases c1 : badH (headS b) = true
  · rw [if_pos c1] at h; cases h
  rw [if_neg c1] at h
  by_cases c2 : nlI b = 0
  · rw [if_pos c2] at h; cases h
  rw [if_neg c2] at h
  have hl := nl_lt (b := b) (Nat.pos_of_ne_zero c2)
  by_cases c3 : headS b = s2H
  · rw [if_pos c3] at h
    cases s with
    | false => rw [if_neg (by simp)] at h; cases h
    | true =>
      rw [if_pos rfl] at h
      have h' := Out.msg.inj h
      rw [← h', ByteArray.size_extract]
      generalize nlI b = i at *
      omega
  · rw [if_neg c3] at h
    generalize sizeS ((headS b).extract (min (headS b).size 2) (headS b).size) = o at h
    cases o with
    | none => cases h
    | some n =>
      simp only at h
      by_cases c4 : 16384 < m.size + n
      · rw [if_pos c4] at h; cases h
      · rw [if_neg c4] at h
        by_cases c5 : b.size < nlI b + 1 + n
        · rw [if_pos c5] at h; cases h
        · rw [if_neg c5] at h; cases h
theorem run_facts : ∀ (k : Nat) (b m : Str) (s : Bool), (runK k b m s).b.size ≤ b.size ∧ (runK k b m s).b.size + (runK k b m s).m.size ≤ b.size + m.size ∧ (∀ e, (runK k b m s).out = .fail e → e = 2 ∨ e = 3) ∧ ∀ x, (runK k b m s).out = .msg x → x.size < (runK k b m s).b.size
  | 0, b, m, s => ⟨Nat.le_refl _, Nat.le_refl _, fun e h => by simp [runK] at h, fun x h => by simp [runK] at h⟩
  | k + 1, b, m, s => by
    cases hs : step b m s with
    | more b' m' =>
      obtain ⟨h1, h2⟩ := step_more hs
      rw [runK_more hs]
      obtain ⟨a1, a2, a3, a4⟩ := run_facts k b' m' true
      exact ⟨by omega, by omega, a3, a4⟩
    | fail e =>
      rw [runK_end hs (by simp)]
      exact ⟨Nat.le_refl _, Nat.le_refl _, fun e' h => by cases h; exact step_fail hs, fun x h => by cases h⟩
    | wait =>
      rw [runK_end hs (by simp)]
      exact ⟨Nat.le_refl _, Nat.le_refl _, fun e' h => by (cases h), fun x h => by cases h⟩
    | msg x =>
      rw [runK_end hs (by simp)]
      exact ⟨Nat.le_refl _, Nat.le_refl _, fun e' h => by (cases h), fun y h => by cases h; exact step_msg hs⟩
theorem next_facts (c : Bool) (b m : Str) (s : Bool) : ((nextR c b m s).bad = false → (nextR c b m s).b.size + (nextR c b m s).m.size ≤ b.size + m.size) ∧ ((nextR c b m s).e = 0 → (nextR c b m s).bad = false ∧ (nextR c b m s).b.size < b.size) ∧ ((nextR c b m s).bad = true → (nextR c b m s).e ≠ 0) := by
  unfold nextR
  cases c with
  | false =>
    rw [if_neg (by simp)]
    have hle : Lib.index (by' b) (by' sEnd) + 6 ≤ b.size ∨ Lib.index (by' b) (by' sEnd) = -1 := by
      rcases index_room (by' b) (by' sEnd) (by decide) with h | ⟨j, h, h2⟩
      · exact .inr h
      · left
        rw [h]
        rw [by_len, by_len, show sEnd.size = 6 from rfl] at h2
        omega
    unfold resF
    generalize Lib.index (by' b) (by' sEnd) = i at *
    split
    · exact ⟨fun h => (by cases h), fun h => by simp at h, fun _ => by simp⟩
    · split
      · exact ⟨fun _ => Nat.le_refl _, fun h => by simp at h, fun h => by cases h⟩
      · refine ⟨fun _ => ?_, fun _ => ⟨rfl, ?_⟩, fun h => by cases h⟩
        · simp only [ByteArray.size_extract]; omega
        · simp only [ByteArray.size_extract]; omega
  | true =>
    rw [if_pos rfl]
    obtain ⟨a1, a2, a3, a4⟩ := run_facts (b.size + 1) b m s
    have hno := runK_out (b.size + 1) b m s
    unfold runC resC
    generalize runK (b.size + 1) b m s = E at *
    obtain ⟨o, b', m', s'⟩ := E
    simp only at a1 a2 a3 a4 hno ⊢
    cases o with
    | fail e =>
      have := a3 e rfl
      exact ⟨fun h => (by cases h), fun h => by simp only at h; omega, fun _ => by simp only; omega⟩
    | wait => exact ⟨fun _ => a2, fun h => by simp at h, fun h => by cases h⟩
    | msg x =>
      have := a4 x rfl
      refine ⟨fun _ => ?_, fun _ => ⟨rfl, ?_⟩, fun h => by cases h⟩
      · simp only
        show x.size + 0 ≤ _
        omega
      · simp only; omega
    | more x y => exact absurd rfl (hno x y)
end Go.Abs.BB
end

section
set_option linter.unusedVariables false
set_option linter.unusedSimpArgs false
set_option linter.unusedSectionVars false
set_option maxRecDepth 100000
set_option maxHeartbeats 8000000
set_option linter.unusedSimpArgs false
set_option linter.unusedVariables false
namespace Go.Abs.BB
open Go.Proofs

/-- A slice of bytes, as a cell. -/
def eY (b : Str) : List AV := [.fs (ofBytes b) false]
theorem eY_s (b : Str) : eY b = [.fs (ofBytes b) false] := nr rfl
theorem eY_len (b : Str) : (eY b).length = 1 := rfl
instance : EL eY 1 := ⟨eY_len⟩
abbrev lY (l : List Str) : AV := .fs (l.map eY) false
def tot (l : List Str) : Nat := (l.map fun p => 1 + p.size).sum
theorem tot_snoc (l : List Str) (p : Str) : tot (l ++ [p]) = tot l + (1 + p.size) := by simp [tot]
theorem tot_app (l r : List Str) : tot (l ++ r) = tot l + tot r := by simp [tot]
theorem tot_mono (l : List Str) (i : Nat) : tot (l.take i) ≤ tot l := by
  have := tot_app (l.take i) (l.drop i)
  rw [List.take_append_drop] at this
  omega
/-- Both decoders: alike and going on, or both at their end. -/
inductive PS where
  | live (c : Bool) (b m : Str) (s : Bool)
  | dead (c : Bool) (s : Bool) (e : Int) (c2 : Bool) (b2 m2 : Str) (s2 : Bool)
abbrev blks : PS → List Blk
  | .live c b m s => [dB c b m s 0, mB c b m s false]
  | .dead c s e c2 b2 m2 s2 => [dB c e0 e0 s e, mB c2 b2 m2 s2 true]
def okP (T : Nat) : PS → Prop
  | .live _ b m _ => b.size + m.size ≤ T
  | .dead _ _ e _ _ _ _ => e ≠ 0
def szP : PS → Nat
  | .live _ b _ _ => b.size
  | _ => 0
def nextP : PS → PS
  | .live c b m s => if (nextR c b m s).bad = true then .dead c (nextR c b m s).s (nextR c b m s).e c (nextR c b m s).b (nextR c b m s).m (nextR c b m s).s else .live c (nextR c b m s).b (nextR c b m s).m (nextR c b m s).s
  | p => p
def goP : PS → Bool
  | .live c b m s => decide ((nextR c b m s).e = 0)
  | _ => false
theorem nextP_live (c : Bool) (b m : Str) (s : Bool) : nextP (.live c b m s) = if (nextR c b m s).bad = true then .dead c (nextR c b m s).s (nextR c b m s).e c (nextR c b m s).b (nextR c b m s).m (nextR c b m s).s else .live c (nextR c b m s).b (nextR c b m s).m (nextR c b m s).s := rfl
theorem goP_live (c : Bool) (b m : Str) (s : Bool) : goP (.live c b m s) = decide ((nextR c b m s).e = 0) := rfl
theorem okP_live (T : Nat) (c : Bool) (b m : Str) (s : Bool) : okP T (.live c b m s) ↔ b.size + m.size ≤ T := Iff.rfl
theorem call_alike (t : List AV) (p : PS) (T : Nat) (hT : T ≤ 100000) (h : okP T p) : callX XX (orW XX) ⟨t, blks p⟩ 3 12 [.ptr 0 0, .ptr 1 0] = some (.st (.tup [vB true, vB (goP p)]) ⟨t, blks (nextP p)⟩) := by
  cases p with
  | live c b m s =>
    rw [okP_live] at h
    have hk := alike_live c b m s (by omega) (by omega)
    have := callX_var2 (t := t) (bs := []) (f := 3) (k := 12) (xs := [.ptr 0 0, .ptr 1 0]) (by rw [live_3]; rfl) rfl rfl rfl rfl rfl rfl rfl hk
    rw [goP_live, nextP_live]
    refine this.trans ?_
    generalize nextR c b m s = R
    cases hb : R.bad <;> simp
  | dead c s e c2 b2 m2 s2 =>
    exact callX_var2 (bs := []) (by rw [live_3]; rfl) rfl rfl rfl rfl rfl rfl rfl (alike_dead c e0 e0 s e c2 b2 m2 s2 h)
theorem next_ok {T : Nat} {p : PS} (h : okP T p) : okP T (nextP p) ∧ (goP p = true → szP (nextP p) < szP p) := by
  cases p with
  | live c b m s =>
    obtain ⟨h1, h2, h3⟩ := next_facts c b m s
    rw [nextP_live, goP_live]
    rw [okP_live] at h
    cases hb : (nextR c b m s).bad with
    | true =>
      rw [if_pos rfl]
      refine ⟨h3 hb, fun hg => ?_⟩
      have := (h2 (by simpa using hg)).1
      rw [hb] at this; cases this
    | false =>
      rw [if_neg (by simp)]
      refine ⟨?_, fun hg => (h2 (by simpa using hg)).2⟩
      have := h1 hb
      rw [okP_live]
      omega
  | dead c s e c2 b2 m2 s2 => exact ⟨h, fun hg => by simp [goP] at hg⟩
theorem gcB (q : PS) (l : List (Nat × AV)) (h1 : ltE 2 l = true) : gcK 2 (mkT 71 .junk l) (blks q) = some ⟨mkT 71 .junk l, blks q⟩ := by
  cases q with
  | live c b m s => rw [gcK_mkT h1 (by rfl)]; rfl
  | dead c s e c2 b2 m2 s2 => rw [gcK_mkT h1 (by rfl)]; rfl
theorem blks_len (q : PS) : (blks q).length = 2 := by cases q <;> rfl
theorem runs_law (parts : List Str) (at_ : Int) (hl : parts.length ≤ 140737488355328) (hp : ∀ p ∈ parts, p.size ≤ 140737488355328) : pureW XX 3 [lY parts, vI at_] = some (vB true) := by
  refine pureW_in 71 Tryd.func3 Tryd.ntmps3 (by simp) (rfl : Tryd.f3.body = some _) fns_3 ?_
  simp (maxSteps := 200000) (disch := first | (simp only [go_sem, Nat.reduceAdd, Nat.reduceSub, Nat.reduceMul, Nat.reduceLeDiff, Nat.reduceEqDiff, Nat.reduceLT, Nat.reduceBEq, Nat.reduceBNe, Nat.reducePow, ↓reduceIte]; done) | omega | (simp only [go_sem, Nat.reduceAdd, Nat.reduceSub, Nat.reduceMul, Nat.reduceLeDiff, Nat.reduceEqDiff, Nat.reduceLT, Nat.reduceBEq, Nat.reduceBNe, Nat.reducePow, ↓reduceIte] <;> omega) | fail) only [go_sem, Nat.reduceAdd, Nat.reduceSub, Nat.reduceMul, Nat.reduceLeDiff, Nat.reduceEqDiff, Nat.reduceLT, Nat.reduceBEq, Nat.reduceBNe, Nat.reducePow, ↓reduceIte, callA_pure mode_9, fit_spec]
  refine WP_range 5 0 parts.length (fun i => S_3_5 (lY parts) (vI at_) (vI (tot (parts.take i))) (lY parts) (vI parts.length) (vI i) []) (fun i => tot (parts.take i) ≤ 40000) rfl rfl ?_ ?_ ?_ ?_
  · simp (maxSteps := 200000) (disch := first | (simp only [go_sem, Nat.reduceAdd, Nat.reduceSub, Nat.reduceMul, Nat.reduceLeDiff, Nat.reduceEqDiff, Nat.reduceLT, Nat.reduceBEq, Nat.reduceBNe, Nat.reducePow, ↓reduceIte]; done) | omega | (simp only [go_sem, Nat.reduceAdd, Nat.reduceSub, Nat.reduceMul, Nat.reduceLeDiff, Nat.reduceEqDiff, Nat.reduceLT, Nat.reduceBEq, Nat.reduceBNe, Nat.reducePow, ↓reduceIte] <;> omega) | fail) only [go_sem, Nat.reduceAdd, Nat.reduceSub, Nat.reduceMul, Nat.reduceLeDiff, Nat.reduceEqDiff, Nat.reduceLT, Nat.reduceBEq, Nat.reduceBNe, Nat.reducePow, ↓reduceIte]; rfl
  · simp [tot]
  · intro i h hI
    have hws := wrap_succ h hl
    have hpi := hp _ (List.getElem_mem h)
    have hL : parts[i].data.toList.length = parts[i].size := by_len _
    have htk : tot (parts.take (i + 1)) = tot (parts.take i) + (1 + parts[i].size) := by
      rw [List.take_succ_eq_append_getElem h, tot_snoc]
    have e1 : IntKind.i64.wrap (1 + (parts[i].size : Int)) = ((1 + parts[i].size : Nat) : Int) := by rw [IntWalk.i64_in _ (by omega)]; omega
    have e2 : IntKind.i64.wrap ((tot (parts.take i) : Int) + ((1 + parts[i].size : Nat) : Int)) = ((tot (parts.take (i + 1)) : Nat) : Int) := by rw [IntWalk.i64_in _ (by omega), htk]; omega
    by_cases hc : 40000 < tot (parts.take (i + 1))
    · have g : ((40000 : Int) < ((tot (parts.take (i + 1)) : Nat) : Int)) = True := eq_true (by omega)
      simp (maxSteps := 200000) (disch := first | (simp only [go_sem, Nat.reduceAdd, Nat.reduceSub, Nat.reduceMul, Nat.reduceLeDiff, Nat.reduceEqDiff, Nat.reduceLT, Nat.reduceBEq, Nat.reduceBNe, Nat.reducePow, ↓reduceIte]; done) | omega | (simp only [go_sem, Nat.reduceAdd, Nat.reduceSub, Nat.reduceMul, Nat.reduceLeDiff, Nat.reduceEqDiff, Nat.reduceLT, Nat.reduceBEq, Nat.reduceBNe, Nat.reducePow, ↓reduceIte] <;> omega) | fail) only [go_sem, Nat.reduceAdd, Nat.reduceSub, Nat.reduceMul, Nat.reduceLeDiff, Nat.reduceEqDiff, Nat.reduceLT, Nat.reduceBEq, Nat.reduceBNe, Nat.reducePow, ↓reduceIte, nat_int, h, eY_s, hL, e1, e2, g]
    · have g : ((40000 : Int) < ((tot (parts.take (i + 1)) : Nat) : Int)) = False := eq_false (by omega)
      simp (maxSteps := 200000) (disch := first | (simp only [go_sem, Nat.reduceAdd, Nat.reduceSub, Nat.reduceMul, Nat.reduceLeDiff, Nat.reduceEqDiff, Nat.reduceLT, Nat.reduceBEq, Nat.reduceBNe, Nat.reducePow, ↓reduceIte]; done) | omega | (simp only [go_sem, Nat.reduceAdd, Nat.reduceSub, Nat.reduceMul, Nat.reduceLeDiff, Nat.reduceEqDiff, Nat.reduceLT, Nat.reduceBEq, Nat.reduceBNe, Nat.reducePow, ↓reduceIte] <;> omega) | fail) only [go_sem, Nat.reduceAdd, Nat.reduceSub, Nat.reduceMul, Nat.reduceLeDiff, Nat.reduceEqDiff, Nat.reduceLT, Nat.reduceBEq, Nat.reduceBNe, Nat.reducePow, ↓reduceIte, nat_int, h, eY_s, hL, e1, e2, g, hws]
      omega
  · intro hI
    rw [List.take_length] at hI
    simp (maxSteps := 200000) (disch := first | (simp only [go_sem, Nat.reduceAdd, Nat.reduceSub, Nat.reduceMul, Nat.reduceLeDiff, Nat.reduceEqDiff, Nat.reduceLT, Nat.reduceBEq, Nat.reduceBNe, Nat.reducePow, ↓reduceIte]; done) | omega | (simp only [go_sem, Nat.reduceAdd, Nat.reduceSub, Nat.reduceMul, Nat.reduceLeDiff, Nat.reduceEqDiff, Nat.reduceLT, Nat.reduceBEq, Nat.reduceBNe, Nat.reducePow, ↓reduceIte] <;> omega) | fail) only [go_sem, Nat.reduceAdd, Nat.reduceSub, Nat.reduceMul, Nat.reduceLeDiff, Nat.reduceEqDiff, Nat.reduceLT, Nat.reduceBEq, Nat.reduceBNe, Nat.reducePow, ↓reduceIte, nat_int, Nat.lt_irrefl]
    refine WP_loopR 14 2 (fun (a : Nat × PS) => S_3_14 (vI at_) (.ptr 0 0) (.ptr 1 0) (lY parts) (vI parts.length) (vI a.1) (blks a.2)) (fun a => parts.length - a.1) (fun a => a.1 ≤ parts.length ∧ okP (tot (parts.take a.1)) a.2) (0, .live false e0 e0 false) rfl rfl ?_ ?_ ?_
    · simp (maxSteps := 200000) (disch := first | (simp only [go_sem, Nat.reduceAdd, Nat.reduceSub, Nat.reduceMul, Nat.reduceLeDiff, Nat.reduceEqDiff, Nat.reduceLT, Nat.reduceBEq, Nat.reduceBNe, Nat.reducePow, ↓reduceIte]; done) | omega | (simp only [go_sem, Nat.reduceAdd, Nat.reduceSub, Nat.reduceMul, Nat.reduceLeDiff, Nat.reduceEqDiff, Nat.reduceLT, Nat.reduceBEq, Nat.reduceBNe, Nat.reducePow, ↓reduceIte] <;> omega) | fail) only [go_sem, Nat.reduceAdd, Nat.reduceSub, Nat.reduceMul, Nat.reduceLeDiff, Nat.reduceEqDiff, Nat.reduceLT, Nat.reduceBEq, Nat.reduceBNe, Nat.reducePow, ↓reduceIte]; rfl
    · exact ⟨Nat.zero_le _, Nat.le_refl _⟩
    · rintro ⟨i, p⟩ ⟨hi, hok⟩
      simp only at hi hok
      by_cases h : i < parts.length
      case neg =>
        cases p with
        | live c b m s => simp (maxSteps := 200000) (disch := first | (simp only [go_sem, Nat.reduceAdd, Nat.reduceSub, Nat.reduceMul, Nat.reduceLeDiff, Nat.reduceEqDiff, Nat.reduceLT, Nat.reduceBEq, Nat.reduceBNe, Nat.reducePow, ↓reduceIte]; done) | omega | (simp only [go_sem, Nat.reduceAdd, Nat.reduceSub, Nat.reduceMul, Nat.reduceLeDiff, Nat.reduceEqDiff, Nat.reduceLT, Nat.reduceBEq, Nat.reduceBNe, Nat.reducePow, ↓reduceIte] <;> omega) | fail) only [go_sem, Nat.reduceAdd, Nat.reduceSub, Nat.reduceMul, Nat.reduceLeDiff, Nat.reduceEqDiff, Nat.reduceLT, Nat.reduceBEq, Nat.reduceBNe, Nat.reducePow, ↓reduceIte, nat_int, h]
        | dead c s e c2 b2 m2 s2 => simp (maxSteps := 200000) (disch := first | (simp only [go_sem, Nat.reduceAdd, Nat.reduceSub, Nat.reduceMul, Nat.reduceLeDiff, Nat.reduceEqDiff, Nat.reduceLT, Nat.reduceBEq, Nat.reduceBNe, Nat.reducePow, ↓reduceIte]; done) | omega | (simp only [go_sem, Nat.reduceAdd, Nat.reduceSub, Nat.reduceMul, Nat.reduceLeDiff, Nat.reduceEqDiff, Nat.reduceLT, Nat.reduceBEq, Nat.reduceBNe, Nat.reducePow, ↓reduceIte] <;> omega) | fail) only [go_sem, Nat.reduceAdd, Nat.reduceSub, Nat.reduceMul, Nat.reduceLeDiff, Nat.reduceEqDiff, Nat.reduceLT, Nat.reduceBEq, Nat.reduceBNe, Nat.reducePow, ↓reduceIte, nat_int, h]
      have hws := wrap_succ h hl
      have htm := tot_mono parts (i + 1)
      have htk : tot (parts.take (i + 1)) = tot (parts.take i) + (1 + parts[i].size) := by
        rw [List.take_succ_eq_append_getElem h, tot_snoc]
      have hsw := fun t bs c b m s e => call_switch 3 (by rw [live_3]; rfl) t bs c b m s e
      have hL : (parts[i].data.toList).length = parts[i].size := by_len _
      cases p with
      | live c b m s =>
        rw [okP_live] at hok
        have hfd := fun t bs c => call_feed 3 (by rw [live_3]; rfl) t bs c b m s 0 parts[i] false (by omega)
        rw [if_pos rfl] at hfd
        by_cases hat : (i : Int) = at_
        · have g := eq_true hat
          simp (maxSteps := 200000) (disch := first | (simp only [go_sem, Nat.reduceAdd, Nat.reduceSub, Nat.reduceMul, Nat.reduceLeDiff, Nat.reduceEqDiff, Nat.reduceLT, Nat.reduceBEq, Nat.reduceBNe, Nat.reducePow, ↓reduceIte]; done) | omega | (simp only [go_sem, Nat.reduceAdd, Nat.reduceSub, Nat.reduceMul, Nat.reduceLeDiff, Nat.reduceEqDiff, Nat.reduceLT, Nat.reduceBEq, Nat.reduceBNe, Nat.reducePow, ↓reduceIte] <;> omega) | fail) only [go_sem, Nat.reduceAdd, Nat.reduceSub, Nat.reduceMul, Nat.reduceLeDiff, Nat.reduceEqDiff, Nat.reduceLT, Nat.reduceBEq, Nat.reduceBNe, Nat.reducePow, ↓reduceIte, nat_int, h, eY_s, hsw, hfd, g]
          refine WP_loopR 23 2 (fun (a : Bool × PS) => S_3_23 (vI at_) (.ptr 0 0) (.ptr 1 0) (vB a.1) (lY parts) (vI parts.length) (vI i) (blks a.2)) (fun a => if a.1 = true then szP a.2 + 1 else 0) (fun a => okP (tot (parts.take (i + 1))) a.2) (true, PS.live true (b ++ parts[i]) m s) rfl rfl ?_ ?_ ?_
          · simp (maxSteps := 200000) (disch := first | (simp only [go_sem, Nat.reduceAdd, Nat.reduceSub, Nat.reduceMul, Nat.reduceLeDiff, Nat.reduceEqDiff, Nat.reduceLT, Nat.reduceBEq, Nat.reduceBNe, Nat.reducePow, ↓reduceIte]; done) | omega | (simp only [go_sem, Nat.reduceAdd, Nat.reduceSub, Nat.reduceMul, Nat.reduceLeDiff, Nat.reduceEqDiff, Nat.reduceLT, Nat.reduceBEq, Nat.reduceBNe, Nat.reducePow, ↓reduceIte] <;> omega) | fail) only [go_sem, Nat.reduceAdd, Nat.reduceSub, Nat.reduceMul, Nat.reduceLeDiff, Nat.reduceEqDiff, Nat.reduceLT, Nat.reduceBEq, Nat.reduceBNe, Nat.reducePow, ↓reduceIte]
          · rw [okP_live, ByteArray.size_append]; omega
          · rintro ⟨on, q⟩ hq
            simp only at hq
            cases on with
            | false =>
              simp (maxSteps := 200000) (disch := first | (simp only [go_sem, Nat.reduceAdd, Nat.reduceSub, Nat.reduceMul, Nat.reduceLeDiff, Nat.reduceEqDiff, Nat.reduceLT, Nat.reduceBEq, Nat.reduceBNe, Nat.reducePow, ↓reduceIte]; done) | omega | (simp only [go_sem, Nat.reduceAdd, Nat.reduceSub, Nat.reduceMul, Nat.reduceLeDiff, Nat.reduceEqDiff, Nat.reduceLT, Nat.reduceBEq, Nat.reduceBNe, Nat.reducePow, ↓reduceIte] <;> omega) | fail) only [go_sem, Nat.reduceAdd, Nat.reduceSub, Nat.reduceMul, Nat.reduceLeDiff, Nat.reduceEqDiff, Nat.reduceLT, Nat.reduceBEq, Nat.reduceBNe, Nat.reducePow, ↓reduceIte, hws, gcB]
              exact ⟨(i + 1, q), rfl, ⟨by simp only; omega, hq⟩, by simp only; omega⟩
            | true =>
              have hca := fun t => call_alike t q (tot (parts.take (i + 1))) (by omega) hq
              obtain ⟨hn1, hn2⟩ := next_ok hq
              simp (maxSteps := 200000) (disch := first | (simp only [go_sem, Nat.reduceAdd, Nat.reduceSub, Nat.reduceMul, Nat.reduceLeDiff, Nat.reduceEqDiff, Nat.reduceLT, Nat.reduceBEq, Nat.reduceBNe, Nat.reducePow, ↓reduceIte]; done) | omega | (simp only [go_sem, Nat.reduceAdd, Nat.reduceSub, Nat.reduceMul, Nat.reduceLeDiff, Nat.reduceEqDiff, Nat.reduceLT, Nat.reduceBEq, Nat.reduceBNe, Nat.reducePow, ↓reduceIte] <;> omega) | fail) only [go_sem, Nat.reduceAdd, Nat.reduceSub, Nat.reduceMul, Nat.reduceLeDiff, Nat.reduceEqDiff, Nat.reduceLT, Nat.reduceBEq, Nat.reduceBNe, Nat.reducePow, ↓reduceIte, hca, gcB]
              refine ⟨(goP q, nextP q), rfl, hn1, ?_⟩
              cases hg : goP q with
              | true => have := hn2 hg; simp; omega
              | false => simp
        · simp (maxSteps := 200000) (disch := first | (simp only [go_sem, Nat.reduceAdd, Nat.reduceSub, Nat.reduceMul, Nat.reduceLeDiff, Nat.reduceEqDiff, Nat.reduceLT, Nat.reduceBEq, Nat.reduceBNe, Nat.reducePow, ↓reduceIte]; done) | omega | (simp only [go_sem, Nat.reduceAdd, Nat.reduceSub, Nat.reduceMul, Nat.reduceLeDiff, Nat.reduceEqDiff, Nat.reduceLT, Nat.reduceBEq, Nat.reduceBNe, Nat.reducePow, ↓reduceIte] <;> omega) | fail) only [go_sem, Nat.reduceAdd, Nat.reduceSub, Nat.reduceMul, Nat.reduceLeDiff, Nat.reduceEqDiff, Nat.reduceLT, Nat.reduceBEq, Nat.reduceBNe, Nat.reducePow, ↓reduceIte, nat_int, h, eY_s, hsw, hfd, hat]
          refine WP_loopR 23 2 (fun (a : Bool × PS) => S_3_23 (vI at_) (.ptr 0 0) (.ptr 1 0) (vB a.1) (lY parts) (vI parts.length) (vI i) (blks a.2)) (fun a => if a.1 = true then szP a.2 + 1 else 0) (fun a => okP (tot (parts.take (i + 1))) a.2) (true, PS.live c (b ++ parts[i]) m s) rfl rfl ?_ ?_ ?_
          · simp (maxSteps := 200000) (disch := first | (simp only [go_sem, Nat.reduceAdd, Nat.reduceSub, Nat.reduceMul, Nat.reduceLeDiff, Nat.reduceEqDiff, Nat.reduceLT, Nat.reduceBEq, Nat.reduceBNe, Nat.reducePow, ↓reduceIte]; done) | omega | (simp only [go_sem, Nat.reduceAdd, Nat.reduceSub, Nat.reduceMul, Nat.reduceLeDiff, Nat.reduceEqDiff, Nat.reduceLT, Nat.reduceBEq, Nat.reduceBNe, Nat.reducePow, ↓reduceIte] <;> omega) | fail) only [go_sem, Nat.reduceAdd, Nat.reduceSub, Nat.reduceMul, Nat.reduceLeDiff, Nat.reduceEqDiff, Nat.reduceLT, Nat.reduceBEq, Nat.reduceBNe, Nat.reducePow, ↓reduceIte]
          · rw [okP_live, ByteArray.size_append]; omega
          · rintro ⟨on, q⟩ hq
            simp only at hq
            cases on with
            | false =>
              simp (maxSteps := 200000) (disch := first | (simp only [go_sem, Nat.reduceAdd, Nat.reduceSub, Nat.reduceMul, Nat.reduceLeDiff, Nat.reduceEqDiff, Nat.reduceLT, Nat.reduceBEq, Nat.reduceBNe, Nat.reducePow, ↓reduceIte]; done) | omega | (simp only [go_sem, Nat.reduceAdd, Nat.reduceSub, Nat.reduceMul, Nat.reduceLeDiff, Nat.reduceEqDiff, Nat.reduceLT, Nat.reduceBEq, Nat.reduceBNe, Nat.reducePow, ↓reduceIte] <;> omega) | fail) only [go_sem, Nat.reduceAdd, Nat.reduceSub, Nat.reduceMul, Nat.reduceLeDiff, Nat.reduceEqDiff, Nat.reduceLT, Nat.reduceBEq, Nat.reduceBNe, Nat.reducePow, ↓reduceIte, hws, gcB]
              exact ⟨(i + 1, q), rfl, ⟨by simp only; omega, hq⟩, by simp only; omega⟩
            | true =>
              have hca := fun t => call_alike t q (tot (parts.take (i + 1))) (by omega) hq
              obtain ⟨hn1, hn2⟩ := next_ok hq
              simp (maxSteps := 200000) (disch := first | (simp only [go_sem, Nat.reduceAdd, Nat.reduceSub, Nat.reduceMul, Nat.reduceLeDiff, Nat.reduceEqDiff, Nat.reduceLT, Nat.reduceBEq, Nat.reduceBNe, Nat.reducePow, ↓reduceIte]; done) | omega | (simp only [go_sem, Nat.reduceAdd, Nat.reduceSub, Nat.reduceMul, Nat.reduceLeDiff, Nat.reduceEqDiff, Nat.reduceLT, Nat.reduceBEq, Nat.reduceBNe, Nat.reducePow, ↓reduceIte] <;> omega) | fail) only [go_sem, Nat.reduceAdd, Nat.reduceSub, Nat.reduceMul, Nat.reduceLeDiff, Nat.reduceEqDiff, Nat.reduceLT, Nat.reduceBEq, Nat.reduceBNe, Nat.reducePow, ↓reduceIte, hca, gcB]
              refine ⟨(goP q, nextP q), rfl, hn1, ?_⟩
              cases hg : goP q with
              | true => have := hn2 hg; simp; omega
              | false => simp
      | dead c s e c2 b2 m2 s2 =>
        have he : ¬ e = 0 := hok
        have hfd := fun t bs c => call_feed 3 (by rw [live_3]; rfl) t bs c e0 e0 s e parts[i] false (by have := hp _ (List.getElem_mem h); show 0 + _ ≤ _; omega)
        rw [if_neg he] at hfd
        have g0 := eq_false he
        by_cases hat : (i : Int) = at_
        · have g := eq_true hat
          simp (maxSteps := 200000) (disch := first | (simp only [go_sem, Nat.reduceAdd, Nat.reduceSub, Nat.reduceMul, Nat.reduceLeDiff, Nat.reduceEqDiff, Nat.reduceLT, Nat.reduceBEq, Nat.reduceBNe, Nat.reducePow, ↓reduceIte]; done) | omega | (simp only [go_sem, Nat.reduceAdd, Nat.reduceSub, Nat.reduceMul, Nat.reduceLeDiff, Nat.reduceEqDiff, Nat.reduceLT, Nat.reduceBEq, Nat.reduceBNe, Nat.reducePow, ↓reduceIte] <;> omega) | fail) only [go_sem, Nat.reduceAdd, Nat.reduceSub, Nat.reduceMul, Nat.reduceLeDiff, Nat.reduceEqDiff, Nat.reduceLT, Nat.reduceBEq, Nat.reduceBNe, Nat.reducePow, ↓reduceIte, nat_int, h, eY_s, hsw, hfd, g, g0]
          refine WP_loopR 23 2 (fun (a : Bool × PS) => S_3_23 (vI at_) (.ptr 0 0) (.ptr 1 0) (vB a.1) (lY parts) (vI parts.length) (vI i) (blks a.2)) (fun a => if a.1 = true then szP a.2 + 1 else 0) (fun a => okP (tot (parts.take (i + 1))) a.2) (true, PS.dead true s e true b2 m2 s2) rfl rfl ?_ ?_ ?_
          · simp (maxSteps := 200000) (disch := first | (simp only [go_sem, Nat.reduceAdd, Nat.reduceSub, Nat.reduceMul, Nat.reduceLeDiff, Nat.reduceEqDiff, Nat.reduceLT, Nat.reduceBEq, Nat.reduceBNe, Nat.reducePow, ↓reduceIte]; done) | omega | (simp only [go_sem, Nat.reduceAdd, Nat.reduceSub, Nat.reduceMul, Nat.reduceLeDiff, Nat.reduceEqDiff, Nat.reduceLT, Nat.reduceBEq, Nat.reduceBNe, Nat.reducePow, ↓reduceIte] <;> omega) | fail) only [go_sem, Nat.reduceAdd, Nat.reduceSub, Nat.reduceMul, Nat.reduceLeDiff, Nat.reduceEqDiff, Nat.reduceLT, Nat.reduceBEq, Nat.reduceBNe, Nat.reducePow, ↓reduceIte]
          · exact he
          · rintro ⟨on, q⟩ hq
            simp only at hq
            cases on with
            | false =>
              simp (maxSteps := 200000) (disch := first | (simp only [go_sem, Nat.reduceAdd, Nat.reduceSub, Nat.reduceMul, Nat.reduceLeDiff, Nat.reduceEqDiff, Nat.reduceLT, Nat.reduceBEq, Nat.reduceBNe, Nat.reducePow, ↓reduceIte]; done) | omega | (simp only [go_sem, Nat.reduceAdd, Nat.reduceSub, Nat.reduceMul, Nat.reduceLeDiff, Nat.reduceEqDiff, Nat.reduceLT, Nat.reduceBEq, Nat.reduceBNe, Nat.reducePow, ↓reduceIte] <;> omega) | fail) only [go_sem, Nat.reduceAdd, Nat.reduceSub, Nat.reduceMul, Nat.reduceLeDiff, Nat.reduceEqDiff, Nat.reduceLT, Nat.reduceBEq, Nat.reduceBNe, Nat.reducePow, ↓reduceIte, hws, gcB]
              exact ⟨(i + 1, q), rfl, ⟨by simp only; omega, hq⟩, by simp only; omega⟩
            | true =>
              have hca := fun t => call_alike t q (tot (parts.take (i + 1))) (by omega) hq
              obtain ⟨hn1, hn2⟩ := next_ok hq
              simp (maxSteps := 200000) (disch := first | (simp only [go_sem, Nat.reduceAdd, Nat.reduceSub, Nat.reduceMul, Nat.reduceLeDiff, Nat.reduceEqDiff, Nat.reduceLT, Nat.reduceBEq, Nat.reduceBNe, Nat.reducePow, ↓reduceIte]; done) | omega | (simp only [go_sem, Nat.reduceAdd, Nat.reduceSub, Nat.reduceMul, Nat.reduceLeDiff, Nat.reduceEqDiff, Nat.reduceLT, Nat.reduceBEq, Nat.reduceBNe, Nat.reducePow, ↓reduceIte] <;> omega) | fail) only [go_sem, Nat.reduceAdd, Nat.reduceSub, Nat.reduceMul, Nat.reduceLeDiff, Nat.reduceEqDiff, Nat.reduceLT, Nat.reduceBEq, Nat.reduceBNe, Nat.reducePow, ↓reduceIte, hca, gcB]
              refine ⟨(goP q, nextP q), rfl, hn1, ?_⟩
              cases hg : goP q with
              | true => have := hn2 hg; simp; omega
              | false => simp
        · simp (maxSteps := 200000) (disch := first | (simp only [go_sem, Nat.reduceAdd, Nat.reduceSub, Nat.reduceMul, Nat.reduceLeDiff, Nat.reduceEqDiff, Nat.reduceLT, Nat.reduceBEq, Nat.reduceBNe, Nat.reducePow, ↓reduceIte]; done) | omega | (simp only [go_sem, Nat.reduceAdd, Nat.reduceSub, Nat.reduceMul, Nat.reduceLeDiff, Nat.reduceEqDiff, Nat.reduceLT, Nat.reduceBEq, Nat.reduceBNe, Nat.reducePow, ↓reduceIte] <;> omega) | fail) only [go_sem, Nat.reduceAdd, Nat.reduceSub, Nat.reduceMul, Nat.reduceLeDiff, Nat.reduceEqDiff, Nat.reduceLT, Nat.reduceBEq, Nat.reduceBNe, Nat.reducePow, ↓reduceIte, nat_int, h, eY_s, hsw, hfd, hat, g0]
          refine WP_loopR 23 2 (fun (a : Bool × PS) => S_3_23 (vI at_) (.ptr 0 0) (.ptr 1 0) (vB a.1) (lY parts) (vI parts.length) (vI i) (blks a.2)) (fun a => if a.1 = true then szP a.2 + 1 else 0) (fun a => okP (tot (parts.take (i + 1))) a.2) (true, PS.dead c s e c2 b2 m2 s2) rfl rfl ?_ ?_ ?_
          · simp (maxSteps := 200000) (disch := first | (simp only [go_sem, Nat.reduceAdd, Nat.reduceSub, Nat.reduceMul, Nat.reduceLeDiff, Nat.reduceEqDiff, Nat.reduceLT, Nat.reduceBEq, Nat.reduceBNe, Nat.reducePow, ↓reduceIte]; done) | omega | (simp only [go_sem, Nat.reduceAdd, Nat.reduceSub, Nat.reduceMul, Nat.reduceLeDiff, Nat.reduceEqDiff, Nat.reduceLT, Nat.reduceBEq, Nat.reduceBNe, Nat.reducePow, ↓reduceIte] <;> omega) | fail) only [go_sem, Nat.reduceAdd, Nat.reduceSub, Nat.reduceMul, Nat.reduceLeDiff, Nat.reduceEqDiff, Nat.reduceLT, Nat.reduceBEq, Nat.reduceBNe, Nat.reducePow, ↓reduceIte]
          · exact he
          · rintro ⟨on, q⟩ hq
            simp only at hq
            cases on with
            | false =>
              simp (maxSteps := 200000) (disch := first | (simp only [go_sem, Nat.reduceAdd, Nat.reduceSub, Nat.reduceMul, Nat.reduceLeDiff, Nat.reduceEqDiff, Nat.reduceLT, Nat.reduceBEq, Nat.reduceBNe, Nat.reducePow, ↓reduceIte]; done) | omega | (simp only [go_sem, Nat.reduceAdd, Nat.reduceSub, Nat.reduceMul, Nat.reduceLeDiff, Nat.reduceEqDiff, Nat.reduceLT, Nat.reduceBEq, Nat.reduceBNe, Nat.reducePow, ↓reduceIte] <;> omega) | fail) only [go_sem, Nat.reduceAdd, Nat.reduceSub, Nat.reduceMul, Nat.reduceLeDiff, Nat.reduceEqDiff, Nat.reduceLT, Nat.reduceBEq, Nat.reduceBNe, Nat.reducePow, ↓reduceIte, hws, gcB]
              exact ⟨(i + 1, q), rfl, ⟨by simp only; omega, hq⟩, by simp only; omega⟩
            | true =>
              have hca := fun t => call_alike t q (tot (parts.take (i + 1))) (by omega) hq
              obtain ⟨hn1, hn2⟩ := next_ok hq
              simp (maxSteps := 200000) (disch := first | (simp only [go_sem, Nat.reduceAdd, Nat.reduceSub, Nat.reduceMul, Nat.reduceLeDiff, Nat.reduceEqDiff, Nat.reduceLT, Nat.reduceBEq, Nat.reduceBNe, Nat.reducePow, ↓reduceIte]; done) | omega | (simp only [go_sem, Nat.reduceAdd, Nat.reduceSub, Nat.reduceMul, Nat.reduceLeDiff, Nat.reduceEqDiff, Nat.reduceLT, Nat.reduceBEq, Nat.reduceBNe, Nat.reducePow, ↓reduceIte] <;> omega) | fail) only [go_sem, Nat.reduceAdd, Nat.reduceSub, Nat.reduceMul, Nat.reduceLeDiff, Nat.reduceEqDiff, Nat.reduceLT, Nat.reduceBEq, Nat.reduceBNe, Nat.reducePow, ↓reduceIte, hca, gcB]
              refine ⟨(goP q, nextP q), rfl, hn1, ?_⟩
              cases hg : goP q with
              | true => have := hn2 hg; simp; omega
              | false => simp
end Go.Abs.BB
end
