/- YtmjhgjgfinhiaaaGreatDoorVr2: a part of the interpreter by which the claim is shown, and of the walks: no conditions of its own: every theorem states its own. -/
import Derived.Test.YtmjhgjgfinhiaaaGreatDoorVe1
import Derived.Test.YtmjhgjgfinhiaaaGreatDoorVr1
import Derived.Test.YtmjhgjgfinhiaaaGreatDoorVp1
import Derived.Test.YtmjhgjgfinhiaaaGreatDoorProg
import Derived.Tactics
import Derived.Tactics2
import Derived.Defers
import Derived.Laws.Pointers
import Derived.Laws.LoneSync
import Derived.RegionTactic
import Derived.RegionCalls
import Derived.ChangeAlike
import Derived.Laws.NewBlocks
import Derived.Shelf.Strings.Count
set_option linter.unusedVariables false
set_option linter.unusedSimpArgs false
set_option linter.unusedSectionVars false
set_option maxHeartbeats 8000000
set_option maxRecDepth 100000
section
namespace Go.Abs.SR
open Go.Proofs
open Go.Abs.SA (byteAt_list lS8_len)
def tabF (l : Tb) : List AV := tabC l ++ [.fs (keysC l) false]
theorem tabC_len (l : Tb) : (tabC l).length = 256 := by simp [tabC]
theorem tabF_len (l : Tb) : (tabF l).length = 257 := by simp [tabF, tabC_len]
theorem tabF_keys (l : Tb) : (tabF l).drop 256 = [.fs (keysC l) false] := by
  unfold tabF
  rw [List.drop_append_of_le_length (by rw [tabC_len]; exact Nat.le_refl _), List.drop_of_length_le (by rw [tabC_len]; exact Nat.le_refl _)]
  rfl
theorem tabF_at (l : Tb) (c : UInt8) : ∃ R, (tabF l).drop (c.toNat * 1) = cellOf (look l c.toNat) :: R := by
  have hc : c.toNat < 256 := UInt8.toNat_lt c
  have h : c.toNat < (tabF l).length := by rw [tabF_len]; omega
  refine ⟨(tabF l).drop (c.toNat + 1), ?_⟩
  rw [Nat.mul_one, List.drop_eq_getElem_cons h]
  congr 1
  have : (tabF l)[c.toNat]? = some (cellOf (look l c.toNat)) := by
    unfold tabF
    rw [List.getElem?_append_left (by rw [tabC_len]; exact hc)]
    simp [tabC, hc]
  rw [List.getElem?_eq_getElem h] at this
  exact Option.some.inj this
theorem mode_count : XX.mode 351 = .data := rfl
theorem countX (s : ByteArray) (c : UInt8) : pureW XX 351 [.v (.string s), bS [c]] = some (.v (.int .i64 (s.data.toList.count c))) := by
  refine loud_pureW (ext_loudW (r := .v (.int .i64 (s.data.toList.count c))) ?_) rfl
  rfl
abbrev vS (s : ByteArray) : AV := .v (.string s)
abbrev vI (n : Int) : AV := .v (.int .i64 n)
theorem cell_some (n : List UInt8) : cellOf (some n) = .fs (ofBytes ⟨n.toArray⟩) false := nr rfl
theorem cell_none : cellOf none = .v (.slice none 0 0) := nr rfl
theorem cell_cons (x : UInt8) (r : List UInt8) : cellOf (some (x :: r)) = .fs ([.v (.int .u8 (x.toNat : Int))] :: r.map eB) false := nr rfl
theorem bne_ft : (false != true) = true := rfl
theorem nat_int (i : Nat) : ((i : Int)).toNat = i := by omega
theorem ofB_len (n : List UInt8) : (ofBytes ⟨n.toArray⟩).length = n.length := by simp
abbrev kE (p : UInt8 × List UInt8) : List AV := [bS [p.1]]
instance : EL kE 1 := ⟨fun _ => rfl⟩
theorem keysC_eq (l : Tb) : keysC l = l.reverse.map kE := rfl
theorem bS_s (l : List UInt8) : bS l = .v (.string ⟨l.toArray⟩) := nr rfl
theorem idx1 {P : Program} (c : UInt8) (k : IntKind) (a b : Nat) (z : Option Value) : indexK P (.v (.string ⟨#[c]⟩)) (.v (.int k 0)) (some ⟨.str, a, b, z⟩) = some (.v (.int .u8 (c.toNat : Int))) := by
  rw [indexK_str _ _ _ _ _ _ (by omega) (by show 0 < 1; omega)]; rfl
def gS (s : List UInt8) (p : UInt8 × List UInt8) : Nat := s.count p.1 * (p.2.length - 1)
def qS (s : List UInt8) (p : UInt8 × List UInt8) : Bool := decide (s.count p.1 ≠ 0)
theorem sum_step (f : UInt8 × List UInt8 → Nat) (l : Tb) (i : Nat) (h : i < l.length) : ((l.take (i + 1)).map f).sum = ((l.take i).map f).sum + f l[i] := by
  rw [List.take_succ_eq_append_getElem h, List.map_append, List.sum_append]; simp only [List.map_cons, List.map_nil, List.sum_cons, List.sum_nil, Nat.add_zero]
theorem any_step (f : UInt8 × List UInt8 → Bool) (l : Tb) (i : Nat) (h : i < l.length) : (l.take (i + 1)).any f = ((l.take i).any f || f l[i]) := by
  rw [List.take_succ_eq_append_getElem h, List.any_append]; simp only [List.any_cons, List.any_nil, Bool.or_false]
theorem bsum_step (f : UInt8 → Nat) (l : List UInt8) (i : Nat) (h : i < l.length) : ((l.take (i + 1)).map f).sum = ((l.take i).map f).sum + f l[i] := by
  rw [List.take_succ_eq_append_getElem h, List.map_append, List.sum_append]; simp only [List.map_cons, List.map_nil, List.sum_cons, List.sum_nil, Nat.add_zero]
theorem bany_step (f : UInt8 → Bool) (l : List UInt8) (i : Nat) (h : i < l.length) : (l.take (i + 1)).any f = ((l.take i).any f || f l[i]) := by
  rw [List.take_succ_eq_append_getElem h, List.any_append]; simp only [List.any_cons, List.any_nil, Bool.or_false]
def fillE (l : Tb) (s : List UInt8) (i : Nat) : List (List AV) := (repl l (s.take i) ++ List.replicate ((repl l s).length - (repl l (s.take i)).length) 0).map eB
theorem fillE_0 (l : Tb) (s : List UInt8) : List.replicate (repl l s).length [AV.v (.int .u8 0)] = fillE l s 0 := by
  unfold fillE
  rw [show repl l (s.take 0) = [] from rfl]
  simp only [List.length_nil, Nat.sub_zero, List.nil_append, List.map_replicate]
  rfl
theorem fillE_end (l : Tb) (s : List UInt8) : fillE l s s.length = (repl l s).map eB := by
  unfold fillE
  rw [List.take_length, Nat.sub_self]
  simp
theorem repl_step (l : Tb) (s : List UInt8) (i : Nat) (h : i < s.length) : repl l (s.take (i + 1)) = repl l (s.take i) ++ (look l s[i].toNat).getD [s[i]] := by
  unfold repl
  rw [List.take_succ_eq_append_getElem h, List.flatMap_append]
  simp
theorem repl_room (l : Tb) (s : List UInt8) (i : Nat) (h : i < s.length) : (repl l (s.take i)).length + ((look l s[i].toNat).getD [s[i]]).length ≤ (repl l s).length := by
  have h1 := repl_step l s i h
  have h2 : repl l s = repl l (s.take (i + 1)) ++ repl l (s.drop (i + 1)) := by
    conv => lhs; rw [← List.take_append_drop (i + 1) s]
    unfold repl
    rw [List.flatMap_append]
  rw [h2, h1]
  simp only [List.length_append]
  omega
theorem fillE_step (l : Tb) (s : List UInt8) (i : Nat) (h : i < s.length) : fillE l s (i + 1) = (fillE l s i).take (repl l (s.take i)).length ++ ((look l s[i].toNat).getD [s[i]]).map eB ++ (fillE l s i).drop ((repl l (s.take i)).length + ((look l s[i].toNat).getD [s[i]]).length) := by
  have hr := repl_room l s i h
  unfold fillE
  rw [repl_step l s i h]
  generalize (look l s[i].toNat).getD [s[i]] = n at *
  generalize repl l (s.take i) = d at *
  rw [← List.map_take, ← List.map_drop, List.take_left, ← List.map_append, ← List.map_append]
  congr 1
  rw [List.append_assoc, List.append_assoc]
  congr 2
  rw [List.drop_append, List.drop_of_length_le (by omega), List.nil_append, List.drop_replicate, List.length_append]
  congr 1
  omega
theorem fillE_len (l : Tb) (s : List UInt8) (i : Nat) (h : (repl l (s.take i)).length ≤ (repl l s).length) : (fillE l s i).length = (repl l s).length := by
  unfold fillE
  simp only [List.length_map, List.length_append, List.length_replicate]
  omega
theorem cpK_true (s : St) (d : Option Nat) (r : Option (AV × List Blk)) : cpK s d True r = r.map fun r => put ⟨s.t, r.2⟩ d r.1 := by simp [cpK]
theorem st_b {t : Nat} {E : List (List AV)} (hE : ∀ e ∈ E, e.length = 1) {j : Nat} (hj : j < E.length) (x : AV) (hx : normC x = x) (t' : List AV) (h' : List Blk) : stEl2 1 0 j 0 t' h' (some (.arr t 1 E)) (some [x]) = some ⟨t', h'.set 0 (.arr t 1 (E.take j ++ [[x]] ++ E.drop (j + 1)))⟩ := by
  simp only [stEl2]
  rw [List.getElem?_eq_getElem hj]
  have h1 : (E[j]).length = 1 := hE _ (List.getElem_mem hj)
  dsimp only
  rw [if_pos ⟨rfl, by simp [h1]⟩]
  obtain ⟨y, hy⟩ : ∃ y, E[j] = [y] := List.length_eq_one_iff.1 h1
  have hset : E.set j [x] = E.take j ++ [[x]] ++ E.drop (j + 1) := by
    rw [List.set_eq_take_append_cons_drop, if_pos hj]; simp
  have hsp : splice [y] 0 ([x].map normC) = [x] := by simp [splice, hx]
  rw [hy, hsp, hset]
theorem copy_b {P : Program} {ts : List AV} {t e off len n1 n2 n4 : Nat} {z1 z2 : Option Value} {d : TD} {es src : List (List AV)} {fl fq : Bool} (h1 : tyOf P t = some ⟨.slice e, n1, n2, z1⟩) (h2 : tyOf P e = some ⟨d, 1, n4, z2⟩) (h3 : off + len ≤ es.length) (h4 : 0 < len) (h5 : ∀ c ∈ src, c.length = 1) (h6 : src ≠ []) (h7 : src.length ≤ len) :
    copyA P ⟨ts, [.arr e 1 es]⟩ t (.sl 0 off len fl) (.fs src fq) = some (.v (.int .i64 src.length), [.arr e 1 (es.take off ++ src ++ es.drop (off + src.length))]) := by
  unfold copyA
  rw [h1]
  dsimp only
  rw [h2]
  dsimp only [List.getElem?_cons_zero]
  rw [if_pos ⟨rfl, rfl, rfl, h3, h4⟩]
  have he : elemsA 1 [.arr e 1 es] (.fs src fq) = some src := by
    unfold elemsA; dsimp only; rw [if_pos h5]
  rw [he]
  dsimp only
  rw [if_neg h6, List.take_of_length_le h7]
  rfl
theorem repl_spec (l : Tb) (hl : TbOk l) (s : ByteArray) (hs : s.size ≤ 1073741824) : pureW XX 349 [.fp (tabF l), vS s] = some (vS ⟨(repl l s.data.toList).toArray⟩) := by
  have hkl : (keysC l).length = l.length := by simp [keysC]
  have hll := hl.len
  have htl := tabF_len l
  have h8 : IntKind.i64.wrap ((l.length : Int) * 8) = ((l.length * 8 : Nat) : Int) := by rw [IntWalk.i64_in _ (by omega)]; push_cast; rfl
  have hsl : s.data.toList.length = s.size := lS8_len s
  have hT := repl_len hl s.data.toList
  have hTb : (repl l s.data.toList).length ≤ 6442450944 := by have := sum_le hl s.data.toList; omega
  refine pureW_in 122 Tryz.func349 Tryz.ntmps349 (by simp) (rfl : Tryz.f349.body = some _) fns_349 ?_
  by_cases hc : l.length * 8 ≤ s.size
  · have hc' : (((l.length * 8 : Nat) : Int) ≤ (s.size : Int)) = True := eq_true (by omega)
    simp (maxSteps := 200000) (disch := first | omega | (simp only [go_sem] <;> omega) | fail) only [go_sem, tabF_len, tabF_keys, hkl, h8, hc']
    have hrl : l.reverse.length = l.length := List.length_reverse
    refine WP_range 5 0 l.length (fun i => S_349_5 (.fp (tabF l)) (vS s) (vI ((s.size + ((l.reverse.take i).map (gS s.data.toList)).sum : Nat) : Int)) (.v (.bool ((l.reverse.take i).any (qS s.data.toList)))) (.fs (l.reverse.map kE) false) (vI l.length) (vI i) []) (fun _ => True) rfl rfl ?_ ?_ ?_ ?_
    · simp (maxSteps := 200000) (disch := first | omega | (simp only [go_sem] <;> omega) | fail) only [go_sem, keysC_eq]; rfl
    · trivial
    · intro i h _
      have h' : i < l.reverse.length := by rw [hrl]; exact h
      have hi1 : ((i : Int) < (l.length : Int)) = True := eq_true (by omega)
      rw [sum_step _ _ _ h', any_step _ _ _ h']
      have hws := wrap_succ h (show l.length ≤ 140737488355328 by omega)
      obtain ⟨p, hp⟩ : ∃ p, l.reverse[i] = p := ⟨_, rfl⟩
      have hpl : p ∈ l := by rw [← hp]; exact List.mem_reverse.1 (List.getElem_mem h')
      rw [hp]
      have hcx := countX s p.1
      rw [bS_s] at hcx
      by_cases hz : s.data.toList.count p.1 = 0
      · have hz0 : (((0 : Nat) : Int) = 0) = True := eq_true rfl
        have hg0 : gS s.data.toList p = 0 := by simp [gS, hz]
        have hq0 : qS s.data.toList p = false := by simp [qS, hz]
        rw [hg0, hq0, Nat.add_zero, Bool.or_false]
        simp (maxSteps := 200000) (disch := first | omega | (simp only [go_sem] <;> omega) | fail) only [go_sem, hi1, hp, callA_data mode_count, hcx, hz, h', hws, bS_s, hz0, ne_eq, not_true, not_false_eq_true]
      · have hz0 : ((s.data.toList.count p.1 : Int) = 0) = False := eq_false (by omega)
        have hq0 : qS s.data.toList p = true := by unfold qS; exact decide_eq_true hz
        have hlook := look_of hl.nd hpl
        obtain ⟨R, htab⟩ := tabF_at l p.1
        rw [hlook, cell_some] at htab
        have hsz := hl.sz p hpl
        have h256 : p.1.toNat < 256 := UInt8.toNat_lt _
        have hne : p.2.length ≠ 0 := fun e => hsz.2 (List.eq_nil_of_length_eq_zero e)
        have hcnt : s.data.toList.count p.1 ≤ s.size := by rw [← hsl]; exact List.count_le_length
        have hgl : gS s.data.toList p ≤ 5368709120 := by
          unfold gS
          have : s.data.toList.count p.1 * (p.2.length - 1) ≤ 1073741824 * 5 := Nat.mul_le_mul (by omega) (by omega)
          omega
        have hle := sum_take_le (gS s.data.toList) l.reverse i
        have htot : (l.reverse.map (gS s.data.toList)).sum ≤ 5 * s.size := by
          have e1 : (l.reverse.map (gS s.data.toList)).sum = cntS l.reverse s.data.toList := rfl
          rw [e1, cntS_rev, cntS_eq hl.nd, ← hsl]
          exact sum_le hl _
        have w1 : IntKind.i64.wrap ((p.2.length : Int) - 1) = ((p.2.length - 1 : Nat) : Int) := by rw [IntWalk.i64_in _ (by omega)]; omega
        have w2 : IntKind.i64.wrap ((s.data.toList.count p.1 : Int) * ((p.2.length - 1 : Nat) : Int)) = ((gS s.data.toList p : Nat) : Int) := by
          rw [← Int.natCast_mul]
          show IntKind.i64.wrap ((gS s.data.toList p : Nat) : Int) = _
          rw [IntWalk.i64_in _ (by omega)]
        have w3 : IntKind.i64.wrap (((s.size + ((l.reverse.take i).map (gS s.data.toList)).sum : Nat) : Int) + ((gS s.data.toList p : Nat) : Int)) = ((s.size + (((l.reverse.take i).map (gS s.data.toList)).sum + gS s.data.toList p) : Nat) : Int) := by
          rw [IntWalk.i64_in _ (by omega)]; omega
        rw [hq0, Bool.or_true]
        simp (maxSteps := 200000) (disch := first | omega | (simp only [go_sem] <;> omega) | fail) only [go_sem, hi1, hp, callA_data mode_count, hcx, h', hws, bS_s, hz0, ne_eq, not_true, not_false_eq_true, idx1, tabF_len, htab, w1, w2, w3, ofB_len]
    · intro _
      have e1 : l.reverse.take l.length = l.reverse := List.take_of_length_le (by omega)
      have e2 : (l.reverse.map (gS s.data.toList)).sum = (s.data.toList.map (ext1 l)).sum := by
        show cntS l.reverse s.data.toList = _
        rw [cntS_rev, cntS_eq hl.nd]
      have e3 : l.reverse.any (qS s.data.toList) = s.data.toList.any (keyd l) := by
        rw [any_rev]; exact cnt_any l _
      rw [e1, e2, e3, ← hsl, ← hT]
      have hi1 : ((l.length : Int) < (l.length : Int)) = False := eq_false (by omega)
      simp (maxSteps := 200000) (disch := first | omega | (simp only [go_sem] <;> omega) | fail) only [go_sem, hi1]
      rcases Bool.eq_false_or_eq_true (s.data.toList.any (keyd l)) with ha | ha
      · simp (maxSteps := 200000) (disch := first | omega | (simp only [go_sem] <;> omega) | fail) only [go_sem, ha]
        have h0 : List.replicate (repl l s.data.toList).length [AV.v (.int .u8 0)] = fillE l s.data.toList 0 := fillE_0 l _
        rw [h0]
        refine WP_range 24 1 s.size (fun i => S_349_24 (.fp (tabF l)) (vS s) (.sl 0 0 (repl l s.data.toList).length false) (vI (repl l (s.data.toList.take i)).length) (vI i) [.arr 5 1 (fillE l s.data.toList i)]) (fun _ => True) rfl rfl ?_ ?_ ?_ ?_
        · simp (maxSteps := 200000) (disch := first | omega | (simp only [go_sem] <;> omega) | fail) only [go_sem]; rfl
        · trivial
        · intro i h _
          have h' : i < s.data.toList.length := by rw [hsl]; exact h
          have hi1 : ((i : Int) < (s.size : Int)) = True := eq_true (by omega)
          have hws := wrap_succ h (show s.size ≤ 140737488355328 by omega)
          have hbg := byteAt_list s i h
          have hst := fillE_step l s.data.toList i h'
          have hro := repl_room l s.data.toList i h'
          have hsp := repl_step l s.data.toList i h'
          obtain ⟨c, hcc⟩ : ∃ c, s.data.toList[i] = c := ⟨_, rfl⟩
          rw [show (Go.Abs.SA.lS8 s)[i] = c from hcc] at hbg
          rw [hcc] at hst hro hsp
          obtain ⟨R, htab⟩ := tabF_at l c
          have h256 : c.toNat < 256 := UInt8.toNat_lt _
          have hfl := fillE_len l s.data.toList i (by omega)
          rw [hst, hsp]
          obtain ⟨d, hd⟩ : ∃ d, repl l (s.data.toList.take i) = d := ⟨_, rfl⟩
          rw [hd] at hro ⊢
          obtain ⟨T, hTT⟩ : ∃ T, (repl l s.data.toList).length = T := ⟨_, rfl⟩
          rw [hTT] at hro hTb hfl ⊢
          obtain ⟨E, hE⟩ : ∃ E, fillE l s.data.toList i = E := ⟨_, rfl⟩
          rw [hE] at hfl ⊢
          cases hlk : look l c.toNat with
          | none =>
            rw [hlk, cell_none] at htab
            rw [hlk] at hro
            simp only [Option.getD_none, List.length_cons, List.length_nil, List.length_append, List.map_cons, List.map_nil] at hro ⊢
            have hw2 := wrap_succ (show d.length < T by omega) (by omega)
            have hEl : ∀ e ∈ E, e.length = 1 := by
              rw [← hE]; unfold fillE
              intro e he
              obtain ⟨y, _, rfl⟩ := List.mem_map.1 he
              rfl
            have hse := st_b (t := 5) hEl (show d.length < E.length by omega) (.v (.int .u8 (c.toNat : Int))) rfl
            simp (maxSteps := 200000) (disch := first | omega | (simp only [go_sem] <;> omega) | fail) only [go_sem, hi1, hbg, h, hws, htab, nat_int, bne_self_eq_false, tabF_len, hw2, hse]
            rfl
          | some n =>
            obtain ⟨q, hq, hq1, rfl⟩ := look_mem hlk
            have hsz := hl.sz q hq
            obtain ⟨x, r, hxr⟩ : ∃ x r, q.2 = x :: r := by
              cases hqq : q.2 with
              | nil => exact absurd hqq hsz.2
              | cons x r => exact ⟨x, r, rfl⟩
            rw [hlk, hxr, cell_cons] at htab
            rw [hlk] at hro
            rw [hxr] at hsz hro ⊢
            simp only [Option.getD_some, List.length_cons, List.length_append, List.map_cons] at hro ⊢
            have hcp : ∀ ts fl fq, copyA Tryz.prog ⟨ts, [.arr 5 1 E]⟩ 132 (.sl 0 d.length (T - d.length) fl) (.fs ([.v (.int .u8 (x.toNat : Int))] :: r.map eB) fq) = some (.v (.int .i64 ((r.length + 1 : Nat) : Int)), [.arr 5 1 (E.take d.length ++ ([.v (.int .u8 (x.toNat : Int))] :: r.map eB) ++ E.drop (d.length + (r.length + 1)))]) := by
              intro ts fl fq
              have := copy_b (P := Tryz.prog) (ts := ts) (fl := fl) (fq := fq) (es := E) (off := d.length) (len := T - d.length) (src := [.v (.int .u8 (x.toNat : Int))] :: r.map eB) ty_132 ty_5 (by omega) (by omega) (by intro c hc; rcases List.mem_cons.1 hc with rfl | hc; rfl; obtain ⟨y, _, rfl⟩ := List.mem_map.1 hc; rfl) (by simp) (by simp; omega)
              simpa using this
            have hw2 : IntKind.i64.wrap ((d.length : Int) + ((r.length + 1 : Nat) : Int)) = ((d.length + (r.length + 1) : Nat) : Int) := by rw [IntWalk.i64_in _ (by omega)]; omega
            have hdT : (d.length ≤ T) = True := eq_true (by omega)
            simp (maxSteps := 200000) (disch := first | omega | (simp only [go_sem] <;> omega) | fail) only [go_sem, hi1, hbg, h, hws, htab, nat_int, tabF_len, bne_ft, hcp, hw2, hdT, cpK_true]
            rfl
        · intro _
          have hi1 : ((s.size : Int) < (s.size : Int)) = False := eq_false (by omega)
          rw [show fillE l s.data.toList s.size = (repl l s.data.toList).map eB from by rw [← hsl]; exact fillE_end l _]
          simp (maxSteps := 200000) (disch := first | omega | (simp only [go_sem] <;> omega) | fail) only [go_sem, hi1]
      · simp (maxSteps := 200000) (disch := first | omega | (simp only [go_sem] <;> omega) | fail) only [go_sem, ha]
        rw [repl_none _ ha]
  · have hc' : (((l.length * 8 : Nat) : Int) ≤ (s.size : Int)) = False := eq_false (by omega)
    simp (maxSteps := 200000) (disch := first | omega | (simp only [go_sem] <;> omega) | fail) only [go_sem, tabF_len, tabF_keys, hkl, h8, hc']
    refine WP_range 13 0 s.size (fun i => S_349_13 (.fp (tabF l)) (vS s) (vI ((s.size + ((s.data.toList.take i).map (ext1 l)).sum : Nat) : Int)) (.v (.bool ((s.data.toList.take i).any (keyd l)))) (vI i) []) (fun _ => True) rfl rfl ?_ ?_ ?_ ?_
    · simp (maxSteps := 200000) (disch := first | omega | (simp only [go_sem] <;> omega) | fail) only [go_sem]; rfl
    · trivial
    · intro i h _
      have h' : i < s.data.toList.length := by rw [hsl]; exact h
      have hi1 : ((i : Int) < (s.size : Int)) = True := eq_true (by omega)
      rw [bsum_step _ _ _ h', bany_step _ _ _ h']
      have hws := wrap_succ h (show s.size ≤ 140737488355328 by omega)
      have hbg := byteAt_list s i h
      obtain ⟨c, hcc⟩ : ∃ c, s.data.toList[i] = c := ⟨_, rfl⟩
      rw [show (Go.Abs.SA.lS8 s)[i] = c from hcc] at hbg
      rw [hcc]
      obtain ⟨R, htab⟩ := tabF_at l c
      have h256 : c.toNat < 256 := UInt8.toNat_lt _
      have hle : ((s.data.toList.take i).map (ext1 l)).sum ≤ 5 * s.size := by
        refine Nat.le_trans (sum_le hl _) ?_
        rw [List.length_take]; omega
      cases hlk : look l c.toNat with
      | none =>
        have hg0 : ext1 l c = 0 := by unfold ext1; rw [hlk]
        have hq0 : keyd l c = false := by unfold keyd; rw [hlk]; rfl
        rw [hlk, cell_none] at htab
        rw [hg0, hq0, Nat.add_zero, Bool.or_false]
        simp (maxSteps := 200000) (disch := first | omega | (simp only [go_sem] <;> omega) | fail) only [go_sem, hi1, hbg, h, hws, htab, nat_int, bne_self_eq_false, tabF_len]
      | some n =>
        obtain ⟨q, hq, hq1, rfl⟩ := look_mem hlk
        have hsz := hl.sz q hq
        obtain ⟨x, r, hxr⟩ : ∃ x r, q.2 = x :: r := by
          cases hqq : q.2 with
          | nil => exact absurd hqq hsz.2
          | cons x r => exact ⟨x, r, rfl⟩
        have hg0 : ext1 l c = r.length := by unfold ext1; rw [hlk, hxr]; simp
        have hq0 : keyd l c = true := by unfold keyd; rw [hlk]; rfl
        rw [hlk, hxr, cell_cons] at htab
        rw [hxr] at hsz
        have hrl : r.length ≤ 5 := by have := hsz.1; simp only [List.length_cons] at this; omega
        rw [hg0, hq0, Bool.or_true]
        have w1 : IntKind.i64.wrap (((r.length + 1 : Nat) : Int) - 1) = ((r.length : Nat) : Int) := by rw [IntWalk.i64_in _ (by omega)]; omega
        have w3 : IntKind.i64.wrap (((s.size + ((s.data.toList.take i).map (ext1 l)).sum : Nat) : Int) + ((r.length : Nat) : Int)) = ((s.size + (((s.data.toList.take i).map (ext1 l)).sum + r.length) : Nat) : Int) := by
          rw [IntWalk.i64_in _ (by omega)]; omega
        simp (maxSteps := 200000) (disch := first | omega | (simp only [go_sem] <;> omega) | fail) only [go_sem, hi1, hbg, h, hws, htab, nat_int, w1, w3, tabF_len, bne_ft]
    · intro _
      have e1 : s.data.toList.take s.size = s.data.toList := List.take_of_length_le (by omega)
      rw [e1, ← hsl, ← hT]
      have hi1 : ((s.data.toList.length : Int) < (s.size : Int)) = False := eq_false (by omega)
      simp (maxSteps := 200000) (disch := first | omega | (simp only [go_sem] <;> omega) | fail) only [go_sem, hi1]
      rcases Bool.eq_false_or_eq_true (s.data.toList.any (keyd l)) with ha | ha
      · simp (maxSteps := 200000) (disch := first | omega | (simp only [go_sem] <;> omega) | fail) only [go_sem, ha]
        have h0 : List.replicate (repl l s.data.toList).length [AV.v (.int .u8 0)] = fillE l s.data.toList 0 := fillE_0 l _
        rw [h0]
        refine WP_range 24 1 s.size (fun i => S_349_24 (.fp (tabF l)) (vS s) (.sl 0 0 (repl l s.data.toList).length false) (vI (repl l (s.data.toList.take i)).length) (vI i) [.arr 5 1 (fillE l s.data.toList i)]) (fun _ => True) rfl rfl ?_ ?_ ?_ ?_
        · simp (maxSteps := 200000) (disch := first | omega | (simp only [go_sem] <;> omega) | fail) only [go_sem]; rfl
        · trivial
        · intro i h _
          have h' : i < s.data.toList.length := by rw [hsl]; exact h
          have hi1 : ((i : Int) < (s.size : Int)) = True := eq_true (by omega)
          have hws := wrap_succ h (show s.size ≤ 140737488355328 by omega)
          have hbg := byteAt_list s i h
          have hst := fillE_step l s.data.toList i h'
          have hro := repl_room l s.data.toList i h'
          have hsp := repl_step l s.data.toList i h'
          obtain ⟨c, hcc⟩ : ∃ c, s.data.toList[i] = c := ⟨_, rfl⟩
          rw [show (Go.Abs.SA.lS8 s)[i] = c from hcc] at hbg
          rw [hcc] at hst hro hsp
          obtain ⟨R, htab⟩ := tabF_at l c
          have h256 : c.toNat < 256 := UInt8.toNat_lt _
          have hfl := fillE_len l s.data.toList i (by omega)
          rw [hst, hsp]
          obtain ⟨d, hd⟩ : ∃ d, repl l (s.data.toList.take i) = d := ⟨_, rfl⟩
          rw [hd] at hro ⊢
          obtain ⟨T, hTT⟩ : ∃ T, (repl l s.data.toList).length = T := ⟨_, rfl⟩
          rw [hTT] at hro hTb hfl ⊢
          obtain ⟨E, hE⟩ : ∃ E, fillE l s.data.toList i = E := ⟨_, rfl⟩
          rw [hE] at hfl ⊢
          cases hlk : look l c.toNat with
          | none =>
            rw [hlk, cell_none] at htab
            rw [hlk] at hro
            simp only [Option.getD_none, List.length_cons, List.length_nil, List.length_append, List.map_cons, List.map_nil] at hro ⊢
            have hw2 := wrap_succ (show d.length < T by omega) (by omega)
            have hEl : ∀ e ∈ E, e.length = 1 := by
              rw [← hE]; unfold fillE
              intro e he
              obtain ⟨y, _, rfl⟩ := List.mem_map.1 he
              rfl
            have hse := st_b (t := 5) hEl (show d.length < E.length by omega) (.v (.int .u8 (c.toNat : Int))) rfl
            simp (maxSteps := 200000) (disch := first | omega | (simp only [go_sem] <;> omega) | fail) only [go_sem, hi1, hbg, h, hws, htab, nat_int, bne_self_eq_false, tabF_len, hw2, hse]
            rfl
          | some n =>
            obtain ⟨q, hq, hq1, rfl⟩ := look_mem hlk
            have hsz := hl.sz q hq
            obtain ⟨x, r, hxr⟩ : ∃ x r, q.2 = x :: r := by
              cases hqq : q.2 with
              | nil => exact absurd hqq hsz.2
              | cons x r => exact ⟨x, r, rfl⟩
            rw [hlk, hxr, cell_cons] at htab
            rw [hlk] at hro
            rw [hxr] at hsz hro ⊢
            simp only [Option.getD_some, List.length_cons, List.length_append, List.map_cons] at hro ⊢
            have hcp : ∀ ts fl fq, copyA Tryz.prog ⟨ts, [.arr 5 1 E]⟩ 132 (.sl 0 d.length (T - d.length) fl) (.fs ([.v (.int .u8 (x.toNat : Int))] :: r.map eB) fq) = some (.v (.int .i64 ((r.length + 1 : Nat) : Int)), [.arr 5 1 (E.take d.length ++ ([.v (.int .u8 (x.toNat : Int))] :: r.map eB) ++ E.drop (d.length + (r.length + 1)))]) := by
              intro ts fl fq
              have := copy_b (P := Tryz.prog) (ts := ts) (fl := fl) (fq := fq) (es := E) (off := d.length) (len := T - d.length) (src := [.v (.int .u8 (x.toNat : Int))] :: r.map eB) ty_132 ty_5 (by omega) (by omega) (by intro c hc; rcases List.mem_cons.1 hc with rfl | hc; rfl; obtain ⟨y, _, rfl⟩ := List.mem_map.1 hc; rfl) (by simp) (by simp; omega)
              simpa using this
            have hw2 : IntKind.i64.wrap ((d.length : Int) + ((r.length + 1 : Nat) : Int)) = ((d.length + (r.length + 1) : Nat) : Int) := by rw [IntWalk.i64_in _ (by omega)]; omega
            have hdT : (d.length ≤ T) = True := eq_true (by omega)
            simp (maxSteps := 200000) (disch := first | omega | (simp only [go_sem] <;> omega) | fail) only [go_sem, hi1, hbg, h, hws, htab, nat_int, tabF_len, bne_ft, hcp, hw2, hdT, cpK_true]
            rfl
        · intro _
          have hi1 : ((s.size : Int) < (s.size : Int)) = False := eq_false (by omega)
          rw [show fillE l s.data.toList s.size = (repl l s.data.toList).map eB from by rw [← hsl]; exact fillE_end l _]
          simp (maxSteps := 200000) (disch := first | omega | (simp only [go_sem] <;> omega) | fail) only [go_sem, hi1]
      · simp (maxSteps := 200000) (disch := first | omega | (simp only [go_sem] <;> omega) | fail) only [go_sem, ha]
        rw [repl_none _ ha]
end Go.Abs.SR
end
section
namespace Go.Abs.SR
open Go.Proofs
theorem disable (w : World) : (callFunc 302 #[]).run Tryz.prog w = .ok (.value (.tuple #[])) w := run_call_mark0 Tryz.func302 (by kernel_rfl) (by kernel_rfl) (by kernel_rfl) .disable (by kernel_rfl) w
theorem enable (w : World) : (callFunc 304 #[]).run Tryz.prog w = .ok (.value (.tuple #[])) w := run_call_mark0 Tryz.func304 (by kernel_rfl) (by kernel_rfl) (by kernel_rfl) .enable (by kernel_rfl) w
theorem acquire (a : Addr) (w : World) : (callFunc 305 #[.pointer (some a)]).run Tryz.prog w = .ok (.value (.tuple #[])) w := run_call_marked Tryz.func305 (by kernel_rfl) (by kernel_rfl) (by kernel_rfl) .acquire (by kernel_rfl) a w
theorem releaseMerge (a : Addr) (w : World) : (callFunc 307 #[.pointer (some a)]).run Tryz.prog w = .ok (.value (.tuple #[])) w := run_call_marked Tryz.func307 (by kernel_rfl) (by kernel_rfl) (by kernel_rfl) .releaseMerge (by kernel_rfl) a w
theorem store_deferred (a : Addr) (x : Value) (u : FrameMode) (w : World) (hc : w.cell? a = some x) (hz : w.frozen? a = false) :
    CallsD Tryz.prog 286 #[.pointer (some a), .bool true] u w fun e u' w' => u' = u ∧ (e = .returned (.tuple #[]) ∧ w' = w.drew.setCell a (.int .u32 1)) := by
  have hc' : w.drew.cell? a = some x := by go_simp
  have hz' : w.drew.frozen? a = false := by go_simp
  have hst := run_call_store (P := Tryz.prog) Tryz.func296 (by kernel_rfl) (by kernel_rfl) (by kernel_rfl) (by kernel_rfl) (k := .u32) (y := 1) hc' hz'
  go_enter_d Tryz.func286, Tryz.ntmps286
  go_wp2
  go_region_calls
  all_goals (go_end0; exact ⟨rfl, rfl⟩)
theorem unlock_deferred (a : Addr) (u : FrameMode) (w : World) (hc : w.cell? a = some (.int .i32 1)) (hz : w.frozen? a = false) :
    CallsD Tryz.prog 285 #[.pointer (some a)] u w fun e u' w' => u' = u ∧ (e = .returned (.tuple #[]) ∧ w' = w.setCell a (.int .i32 0)) := by
  have hd := disable
  have he := enable
  have hr := releaseMerge
  have hadd := run_call_add (P := Tryz.prog) Tryz.func308 (by kernel_rfl) (by kernel_rfl) (by kernel_rfl) .i32 (by kernel_rfl) (y := -1) (s := 0) hc hz (by simp [go_sem]; rfl)
  have hcv := run_convert_to_unsafe (P := Tryz.prog) (src := 375) (dst := 274) Tryz.underlying375 Tryz.underlying274 (by kernel_rfl) hc
  go_enter_d Tryz.func285, Tryz.ntmps285
  go_wp2
  go_end0
  go_wp2
  go_end0
  exact ⟨rfl, rfl⟩
theorem lock_free (a : Addr) (w : World) (hc : w.cell? a = some (.int .i32 0)) (hz : w.frozen? a = false) :
    Calls Tryz.prog 284 #[.pointer (some a)] w fun e w' => e = .returned (.tuple #[]) ∧ w' = w.setCell a (.int .i32 1) := by
  have hd := disable
  have he := enable
  have ha := acquire
  have hcas := run_call_cas_hit (P := Tryz.prog) Tryz.func303 (by kernel_rfl) (by kernel_rfl) (by kernel_rfl) .i32 (by kernel_rfl) (y := 1) hc hz
  have hc' : (w.setCell a (.int .i32 1)).cell? a = some (.int .i32 1) := World.cell?_setCell_same w a _ hc
  have hcv := run_convert_to_unsafe (P := Tryz.prog) (src := 375) (dst := 274) Tryz.underlying375 Tryz.underlying274 (by kernel_rfl) hc'
  go_enter Tryz.func284, Tryz.ntmps284
  go_wp2
  first | go_end0 | (simp only [Exit.inBlock, Exit.then]; refine bodyPost_ret (results_none rfl _ _ _) rfl ?_) | refine bodyPost_ret (results_none rfl _ _ _) rfl ?_
  go_wp2
  go_end0
  exact ⟨rfl, rfl⟩
end Go.Abs.SR
end
section
namespace Go.Abs.SR
open Go.Proofs Go.RowKit
theorem count_one (s : ByteArray) (c : UInt8) (w : World) : Calls Tryz.prog 351 #[.string s, .string ⟨#[c]⟩] w fun e w' => e = .returned (.int .i64 (Lib.countByte s.data.toList c)) ∧ w' = w := by
  have t3 := Tryz.underlying3; have a3 := Tryz.isAgg3; have z3 := Tryz.sizeOf3; have v3 := Tryz.zeroValue3
  have t4 := Tryz.underlying4; have a4 := Tryz.isAgg4; have z4 := Tryz.sizeOf4; have v4 := Tryz.zeroValue4
  have t5 := Tryz.underlying5; have a5 := Tryz.isAgg5; have z5 := Tryz.sizeOf5; have v5 := Tryz.zeroValue5
  have t9 := Tryz.underlying9; have a9 := Tryz.isAgg9; have z9 := Tryz.sizeOf9; have v9 := Tryz.zeroValue9
  go_enter Tryz.func351, Tryz.ntmps351
  go_wp2
  rw [run_callFunc_extern Tryz.func353 (by kernel_rfl) (by kernel_rfl) (by kernel_rfl) (e := Extern.BytealgCount.count) (by kernel_rfl), Lib.run_countString]
  simp only [Result.andThen]
  rw [Oper.upon_value]
  go_wp2
  go_ret
  exact ⟨rfl, rfl⟩
variable [Tabs]
theorem quiet_refl {S : Nat → Nat → Prop} {w : World} (h : ∀ b o, S b o → b < w.heap.size) : Quiet S w S w :=
  ⟨rfl, rfl, rfl, Nat.le_refl _, fun _ _ => rfl, fun _ _ h => h, fun _ _ h => .inl h, h⟩
theorem rels_two {μ : Nat → G} {S : Nat → Nat → Prop} {w : World} {n : Nat} {v v' : Value} {vs : List Value} (h : Rels μ S w n [.v v, .v v'] vs) : vs = [v, v'] := by
  obtain ⟨h1, h2⟩ := h
  match vs, h1 with
  | [u, u'], _ =>
    have a := (h2 0 (.v v) u rfl rfl).int
    have b := (h2 1 (.v v') u' rfl rfl).int
    rw [a, b]
theorem ext_ok : ExtOk XX := by
  refine ⟨?_, ExtLOk.none fun _ _ _ => rfl⟩
  intro f ys r hr
  have hr2 : extR f ys = some r := hr
  clear hr
  revert hr2
  intro hr
  unfold extR at hr
  split at hr
  · rename_i hf
    subst hf
    unfold ext_Count at hr
    split at hr
    · rename_i s x
      split at hr
      · rename_i c hc
        cases hr
        refine ⟨⟨_, Tryz.func351, by decide, rfl⟩, fun μ S w k vs hold htab hx => ?_⟩
        rw [rels_two hx]
        have hx' : x = ⟨#[c]⟩ := by
          cases x with
          | mk d => cases d with | mk l => simp at hc; subst hc; rfl
        subst hx'
        refine (count_one s c w).mono ?_
        rintro e w' ⟨rfl, rfl⟩
        exact ⟨_, S, rfl, quiet_refl hold, .v _ _ rfl⟩
      · cases hr
    · cases hr
  · cases hr
theorem xx_ok : XX.ok = true := by kernel_rfl
end Go.Abs.SR
end
section
namespace Go.Abs.SR
open Go.Proofs Go.RowKit
variable [Tabs]
theorem setv {h : List Blk} {μ : Nat → G} {S : Nat → Nat → Prop} {w : World} (hi : Inv h μ S w) {cells : List AV} {ty : Option Nat} (hid : h[0]? = some (.var cells ty)) {bk sz tot : Nat} (g2 : μ 0 = .blk bk sz tot) {off : Nat} (hoff : off < cells.length)
    {y : AV} {u : Value} (hy : Rel μ S w h.length y u) (hu : u.oneCell' = true) :
    Inv (h.set 0 (.var (cells.set off y) ty)) μ S (w.setCell ⟨bk, off, none⟩ u) ∧ Adv h μ S w (h.set 0 (.var (cells.set off y) ty)) μ S (w.setCell ⟨bk, off, none⟩ u) := by
  obtain ⟨bk', sz', tot', cs, e, z1, z2, z3, z4, z5, z6⟩ := hi.blk 0 _ hid
  rw [g2] at z1; cases z1
  have hother : ∀ k, k ≠ bk → (w.setCell ⟨bk, off, none⟩ u).heap[k]? = w.heap[k]? := fun k hk => RowKit.Below.heap_setCell w _ _ k hk
  have hheap : (w.setCell ⟨bk, off, none⟩ u).heap[bk]? = some (.cells (cs.setIfInBounds off u) (ty.getD e) (0, 0)) := by
    simp [World.setCell, Array.getElem?_modify, z2]
  have hsize : (w.setCell ⟨bk, off, none⟩ u).heap.size = w.heap.size := by simp [World.setCell]
  have hown : Go.Abs.owned h μ 0 bk := ⟨_, hid, by simp, sz, tot, g2⟩
  have hsame : Same S S w (w.setCell ⟨bk, off, none⟩ u) := fun b2 o hb => ⟨hb, hother b2 (fun e => z4 o (e ▸ hb))⟩
  have hmid : upd μ 0 (.blk bk sz tot) = μ := by
    funext k; simp only [upd]; split
    · rename_i hk; subst hk; exact g2.symm
    · rfl
  obtain ⟨q1, q2, q3, q4⟩ := set_blk hi hid (by simp) (.blk bk sz tot) (w' := w.setCell ⟨bk, off, none⟩ u) (b := .var (cells.set off y) ty) (by rw [hsize]; exact Nat.le_refl _) rfl rfl rfl
    (fun k hk hno => hother k (fun e => hno (e ▸ hown))) (by rintro k s t ⟨⟩; exact .inl hown) (fun _ => ⟨g2.symm, by simp⟩) (by rintro _ _ _ _ _ _ h1; cases h1) false (fun _ => g2.symm)
    (by
      rw [hmid]
      refine ⟨bk, sz, tot, _, e, g2, hheap, by simp [z3], z4, fun j x' v a b => ?_, fun v hv => ?_⟩
      · by_cases hj : j = off
        · subst hj
          rw [List.getElem?_set_self hoff] at a
          cases a
          rw [Array.getElem?_setIfInBounds_self_of_lt (by omega)] at b
          cases b
          exact hy.same hsame (fun _ _ => rfl)
        · rw [List.getElem?_set_ne (by omega)] at a
          rw [Array.getElem?_setIfInBounds_ne (by omega)] at b
          exact (z5 j x' v a b).same hsame (fun _ _ => rfl)
      · rcases Array.mem_or_eq_of_mem_setIfInBounds hv with h | h
        · exact z6 v h
        · rw [h]; exact hu)
  rw [hmid] at q1 q2
  simp only [Bool.false_eq_true, if_false, List.map_id'] at q1 q2
  exact ⟨q1, q2⟩
theorem cellv {h : List Blk} {μ : Nat → G} {S : Nat → Nat → Prop} {w : World} (hi : Inv h μ S w) {cells : List AV} {ty : Option Nat} (hid : h[0]? = some (.var cells ty)) {bk sz tot : Nat} (g2 : μ 0 = .blk bk sz tot) {off : Nat} {x : AV} (hx : cells[off]? = some x) :
    ∃ v, w.cell? ⟨bk, off, none⟩ = some v ∧ Rel μ S w h.length x v ∧ w.frozen? ⟨bk, off, none⟩ = false := by
  obtain ⟨bk', sz', tot', cs, e, z1, z2, z3, z4, z5, z6⟩ := hi.blk 0 _ hid
  rw [g2] at z1; cases z1
  have hlt : off < cs.size := by rw [z3]; exact (List.getElem?_eq_some_iff.1 hx).1
  refine ⟨cs[off], ?_, z5 off x _ hx (Array.getElem?_eq_getElem hlt), ?_⟩
  · simp [World.cell?, z2, Array.getElem?_eq_getElem hlt]
  · simp [World.frozen?, z2]
theorem inv_drew {h : List Blk} {μ : Nat → G} {S : Nat → Nat → Prop} {w : World} (hi : Inv h μ S w) : Inv h μ S w.drew ∧ Adv h μ S w h μ S w.drew :=
  ⟨(hi.keep (w' := w.drew) (fun _ _ => rfl) (Nat.le_refl _) (fun _ _ h => h) (fun _ _ h => .inl h) hi.old).1, Inv.keep_adv (fun _ _ => rfl) (Nat.le_refl _) (fun _ _ h => h) (fun _ _ h => .inl h) rfl rfl rfl⟩
def rep0 (l : Tb) : List Blk := [repB l 0 (.v .nilIface) (.sl 1 0 (2 * l.length) false) 0, flatB l]
def tabB (l : Tb) : List Blk := [flatB l, .arr 9 1 (keysC l), .var (tabC l ++ [.sl 2 0 l.length false])]
def done (l : Tb) : List Blk := repB l 0 (.ifc 349 (.ptr 3 0)) (.fs [] true) 1 :: tabB l
def Built (l : Tb) : Prop := rawN XX 30 246 [.ptr 0 0] (rep1 l) = some (.tup [], built l)
theorem build_ok {l : Tb} (hb : Built l) {μ : Nat → G} {S : Nat → Nat → Prop} {w : World} (hi : Inv (rep1 l) μ S w) {bk sz tot : Nat} (g2 : μ 0 = .blk bk sz tot) :
    Calls Tryz.prog 246 #[.pointer (some ⟨bk, 0, none⟩)] w fun e w' => e = .returned (.tuple #[]) ∧ ∃ μ' S', Inv (built l) μ' S' w' ∧ Adv (rep1 l) μ S w (built l) μ' S' w' := by
  have := (rawN_ok xx_ok ext_ok 30 _ _ _ _ _ hb).2 μ S w [.pointer (some ⟨bk, 0, none⟩)] hi ⟨rfl, fun j x v a b => by
    match j with
    | 0 => cases a; cases b; exact .ptr _ 0 0 bk sz tot (by simp [rep1]) g2
    | j + 1 => simp at a⟩
  refine this.mono ?_
  rintro e w' ⟨v, μ', S', rfl, q1, q2, q3⟩
  refine ⟨?_, μ', S', q1, q3⟩
  cases q2 with
  | tup _ _ vs h1 h2 =>
    have : vs = [] := List.eq_nil_of_length_eq_zero h1.symm
    subst this
    rfl
theorem slow_ok {l : Tb} (hb : Built l) {μ : Nat → G} {S : Nat → Nat → Prop} {w : World} (hi : Inv (rep0 l) μ S w) {bk sz tot : Nat} (g2 : μ 0 = .blk bk sz tot) :
    Calls Tryz.prog 268 #[.pointer (some ⟨bk, 0, none⟩), .func (.func 246) #[.pointer (some ⟨bk, 0, none⟩)] #[]] w fun e w' => e = .returned (.tuple #[]) ∧
      ∃ μ' S', Inv (done l) μ' S' w' ∧ Adv (rep0 l) μ S w (done l) μ' S' w' := by
  obtain ⟨v0, c0, r0, f0⟩ := cellv hi rfl g2 (off := 0) rfl
  obtain ⟨v1, c1, r1, f1⟩ := cellv hi rfl g2 (off := 1) rfl
  cases r0.int; cases r1.int
  obtain ⟨i1, a1⟩ := setv hi rfl g2 (off := 1) (by show 1 < 5; omega) (y := .v (.int .i32 1)) (u := .int .i32 1) (.v _ _ rfl) rfl
  have i1 : Inv (rep1 l) μ S (w.setCell ⟨bk, 1, none⟩ (.int .i32 1)) := i1
  have hbo := build_ok hb i1 g2
  have hl := run_call_load (P := Tryz.prog) Tryz.func283 (by kernel_rfl) (by kernel_rfl) (by kernel_rfl) .u32 (by kernel_rfl) (w := w.setCell ⟨bk, 1, none⟩ (.int .i32 1)) (a := ⟨bk, 0, none⟩) (x := 0) ((World.cell?_setCell_other _ ⟨bk, 1, none⟩ ⟨bk, 0, none⟩ _ (by simp)).trans c0)
  have hnot : ∀ (x : Bool) (w : World), (Op.unary .not (.bool x)).run Tryz.prog w = .ok (.bool (!x)) w := fun _ _ => rfl
  go_enter_defers Tryz.func268, Tryz.ntmps268
  go_wp2_with (first | (go_at_call 284; refine (lock_free ⟨bk, 1, none⟩ _ (by go_simp) (by go_simp)).mono ?_; rintro e w' ⟨rfl, rfl⟩) | (go_at_call 246; refine hbo.mono ?_; rintro e w2 ⟨rfl, μ2, S2, i2, a2⟩) | (go_at_call 267; go_in))
  have h2 : μ2 0 = .blk bk sz tot := ((a2.vk 0 (by simp [rep1]) (fun e sz es => by simp [rep1, repB])).1).trans g2
  obtain ⟨x0, d0, -, fr0⟩ := cellv i2 rfl h2 (off := 0) rfl
  obtain ⟨x1, d1, s1, fr1⟩ := cellv i2 rfl h2 (off := 1) rfl
  cases s1.int
  obtain ⟨i3, a3⟩ := inv_drew i2
  obtain ⟨i4, a4⟩ := setv i3 rfl h2 (off := 0) (by show 0 < 5; omega) (y := .v (.int .u32 1)) (u := .int .u32 1) (.v _ _ rfl) rfl
  obtain ⟨i5, a5⟩ := setv i4 rfl h2 (off := 1) (by show 1 < 5; omega) (y := .v (.int .i32 0)) (u := .int .i32 0) (.v _ _ rfl) rfl
  have i5 : Inv (done l) μ2 S2 _ := i5
  have aa : Adv (rep0 l) μ S w (done l) μ2 S2 _ := (((a1.trans a2).trans a3).trans a4).trans a5
  refine leaves_cons (f := 286) (args := #[.pointer (some ⟨bk, 0, none⟩), .bool true]) (by simp) (by simp [go_sem]) ?_
  refine (store_deferred ⟨bk, 0, none⟩ x0 .returning _ d0 fr0).mono ?_
  rintro e u' w'' ⟨rfl, rfl, rfl⟩
  refine leaves_cons (f := 285) (args := #[.pointer (some ⟨bk, 1, none⟩)]) (by simp [settle]) (by simp [go_sem]) ?_
  refine (unlock_deferred ⟨bk, 1, none⟩ _ _ ?_ (by simp [fr1])).mono ?_
  · refine (World.cell?_setCell_other _ ⟨bk, 0, none⟩ ⟨bk, 1, none⟩ _ (by simp)).trans ?_
    rw [World.cell?_drew]; exact d1
  rintro e u' w'' ⟨rfl, rfl, rfl⟩
  simp [Leaves, settle, results, Tryz.results268]
  exact ⟨_, _, i5, aa⟩
end Go.Abs.SR
end
section
namespace Go.Abs.SR
open Go.Proofs Go.RowKit
variable [Tabs]
theorem do_ok {l : Tb} (hb : Built l) {μ : Nat → G} {S : Nat → Nat → Prop} {w : World} (hi : Inv (rep0 l) μ S w) {bk sz tot : Nat} (g2 : μ 0 = .blk bk sz tot) :
    Calls Tryz.prog 245 #[.pointer (some ⟨bk, 0, none⟩), .func (.func 246) #[.pointer (some ⟨bk, 0, none⟩)] #[]] w fun e w' => e = .returned (.tuple #[]) ∧
      ∃ μ' S', Inv (done l) μ' S' w' ∧ Adv (rep0 l) μ S w (done l) μ' S' w' := by
  obtain ⟨v0, c0, r0, f0⟩ := cellv hi rfl g2 (off := 0) rfl
  cases r0.int
  have hso := slow_ok hb hi g2
  have hl := run_call_load (P := Tryz.prog) Tryz.func283 (by kernel_rfl) (by kernel_rfl) (by kernel_rfl) .u32 (by kernel_rfl) c0
  have hnot : ∀ (x : Bool) (w : World), (Op.unary .not (.bool x)).run Tryz.prog w = .ok (.bool (!x)) w := fun _ _ => rfl
  go_enter Tryz.func245, Tryz.ntmps245
  go_wp2_with (first | (go_at_call 268; refine hso.mono ?_; rintro e w2 ⟨rfl, hq⟩) | (go_at_call 267; go_in))
  go_end0
  exact ⟨rfl, hq⟩
structure Tbl (l : Tb) : Prop where
  ok : TbOk l
  built : Built l
  frz : Abs.frz (done l) 6 (.ptr 3 0) = some (.fp (tabF l))
theorem tbl_S : Tbl pairsS := ⟨ok_S, b_S, by kernel_rfl⟩
theorem tbl_E : Tbl pairsE := ⟨ok_E, b_E, by kernel_rfl⟩
theorem sa_old {h : List Blk} {μ : Nat → G} {S : Nat → Nat → Prop} {w : World} (hi : Inv h μ S w) : ∀ b o, SA h μ S b o → b < w.heap.size := by
  intro b o hs
  rcases hs.owned with hs | ⟨id, ho⟩
  · exact hi.old b o hs
  · exact (ho.lt hi).1
theorem table_ok {l : Tb} (hl : Tbl l) {μ : Nat → G} {S : Nat → Nat → Prop} {w : World} (hi : Inv (done l) μ S w) (s : ByteArray) (hs : s.size ≤ 1073741824) {T sz tot : Nat} (g : μ 3 = .blk T sz tot) :
    Calls Tryz.prog 349 #[.pointer (some ⟨T, 0, none⟩), .string s] w fun e w' => e = .returned (.string ⟨(repl l s.data.toList).toArray⟩) ∧ ∃ S', Quiet (SA (done l) μ S) w S' w' := by
  have hr : Rel μ S w (done l).length (.ptr 3 0) (.pointer (some ⟨T, 0, none⟩)) := .ptr _ 3 0 T sz tot (by simp [done, tabB]) g
  have hf := frz_ok hi 6 _ _ _ hr hl.frz
  refine (pureW_ok xx_ok ext_ok (repl_spec l hl.ok s hs) μ (SA (done l) μ S) w [.pointer (some ⟨T, 0, none⟩), .string s] (sa_old hi) (hi.tab.same (SA.same _ μ S w)) ⟨rfl, fun j x v a b => by
    match j with
    | 0 => cases a; cases b; exact hf
    | 1 => cases a; cases b; exact .v _ _ rfl
    | j + 2 => simp at a⟩).mono ?_
  rintro e w' ⟨v, S', rfl, hq, hv⟩
  exact ⟨by rw [hv.int], S', hq⟩
theorem done_cell {l : Tb} {μ : Nat → G} {S : Nat → Nat → Prop} {w : World} (hi : Inv (done l) μ S w) {bk sz tot : Nat} (g2 : μ 0 = .blk bk sz tot) :
    ∃ T szT totT, μ 3 = .blk T szT totT ∧ w.cell? ⟨bk, 3, none⟩ = some (.iface 349 (.pointer (some ⟨T, 0, none⟩))) := by
  obtain ⟨v, c, r, f⟩ := cellv hi rfl g2 (off := 3) rfl
  cases r with
  | ifc _ _ _ u h =>
    cases h with
    | ptr _ _ _ T szT totT h1 h2 => exact ⟨T, szT, totT, h2, c⟩
theorem replace_ok {l : Tb} (hl : Tbl l) {μ : Nat → G} {S : Nat → Nat → Prop} {w : World} (hi : Inv (rep0 l) μ S w) {bk sz tot : Nat} (g2 : μ 0 = .blk bk sz tot) (s : ByteArray) (hs : s.size ≤ 1073741824) :
    Calls Tryz.prog 205 #[.pointer (some ⟨bk, 0, none⟩), .string s] w fun e w' => e = .returned (.string ⟨(repl l s.data.toList).toArray⟩) ∧
      ∃ w2 μ2 S2 S', Inv (done l) μ2 S2 w2 ∧ Adv (rep0 l) μ S w (done l) μ2 S2 w2 ∧ Quiet (SA (done l) μ2 S2) w2 S' w' := by
  have hdo := do_ok hl.built hi g2
  have hmf : ∀ (fn : Fn) (first cap : Array Value) (w : World), (Instr.makeFunc fn first cap).run Tryz.prog w = .ok (.func fn first cap) w := fun _ _ _ _ => rfl
  go_enter Tryz.func205, Tryz.ntmps205
  have hm : ∀ (T : Nat) (w : World), (method 514 349 (.pointer (some ⟨T, 0, none⟩)) "Replace").run Tryz.prog w = .ok (349, .pointer (some ⟨T, 0, none⟩)) w := fun _ _ => by kernel_rfl
  go_wp2_with (first | (go_at_call 245; refine hdo.mono ?_; rintro e w2 ⟨rfl, μ2, S2, i2, a2⟩; obtain ⟨T, szT, totT, gT, c3⟩ := done_cell i2 (((a2.vk 0 (by simp [rep0]) (fun e sz es => by simp [rep0, repB])).1).trans g2)) | (go_at_call 349; refine (table_ok hl i2 s hs gT).mono ?_; rintro e w3 ⟨rfl, S3, q3⟩))
  go_ret
  exact ⟨rfl, _, _, _, _, i2, a2, q3⟩
theorem dead_ok {l : Tb} {μ : Nat → G} {S : Nat → Nat → Prop} {w : World} (hi : Inv (rep0 l) μ S w) {w2 w' : World} {μ2 : Nat → G} {S2 S' : Nat → Nat → Prop} (i2 : Inv (done l) μ2 S2 w2) (a2 : Adv (rep0 l) μ S w (done l) μ2 S2 w2) (q : Quiet (SA (done l) μ2 S2) w2 S' w') :
    Inv [.dead, .dead] μ S' w' ∧ Adv (rep0 l) μ S w [.dead, .dead] μ S' w' := by
  obtain ⟨q1, q2, q3, q4, q5, q6, q7, q8⟩ := q
  have hs : Same S2 S' w2 w' := fun b o hb => ⟨q6 _ _ (.inl hb), q5 _ (i2.old b o hb)⟩
  have hno : ∀ id k, ¬ Abs.owned [.dead, .dead] μ id k := by
    rintro id k ⟨b, hb, hd, _⟩
    match id with
    | 0 => cases hb; exact hd rfl
    | 1 => cases hb; exact hd rfl
    | id + 2 => simp at hb
  refine ⟨⟨fun id b hb => ?_, fun id id' k h => absurd h (hno id k), q8, i2.tab.same hs⟩, ?_⟩
  · match id with
    | 0 => cases hb; trivial
    | 1 => cases hb; trivial
    | id + 2 => simp at hb
  · refine ⟨q1.trans a2.os, q2.trans a2.tape, q3.trans a2.output, Nat.le_trans a2.size q4, fun k hk hn => ?_, fun b o hb => q6 _ _ (.inl (a2.sub b o hb)), fun b o hb => ?_, fun id k h => absurd h (hno id k), by simp [rep0], fun id hid hn => ?_, fun id e sz es e' sz' es' h1 h2 => ?_⟩
    · exact (q5 k (Nat.lt_of_lt_of_le hk a2.size)).trans (a2.keep k hk hn)
    · rcases q7 b o hb with h | h
      · rcases SA.owned h with h | ⟨id, h⟩
        · exact a2.new b o h
        · exact .inr (a2.own id b h)
      · exact .inr (.inr (Nat.le_trans a2.size h))
    · refine ⟨rfl, fun e sz es h => ?_⟩
      match id with
      | 0 => cases h
      | 1 => cases h
      | id + 2 => simp at h
    · match id with
      | 0 => cases h2
      | 1 => cases h2
      | id + 2 => simp at h2
end Go.Abs.SR
end
section
namespace Go.Abs.SA
open Go.Proofs Go.Sort Go.Shelf
variable [Tabs]
theorem flat_at (L : List (ByteArray × ByteArray)) (M : List (List UInt8)) (i j : Nat) (hi : i < M.length) (hj : j < 2) : (flatK (encP L) 2 M.toArray)[i * 2 + j]! = (encP L M[i])[j]! := by
  rw [get_flatK _ _ _ _ (by simp; omega)]
  have e1 : (i * 2 + j) / 2 = i := by omega
  have e2 : (i * 2 + j) % 2 = j := by omega
  rw [e1, e2, getElem!_pos M.toArray i (by simpa using hi)]
  rfl
theorem sw_heap {L : List (ByteArray × ByteArray)} (w : World) (g n : Nat) (d : Array (List UInt8)) (os : Array Obj) : (sortWorldK (encP L) 2 w g 0 n d os).heap = (w.heap.modify g (onCells (putCells id 0 (flatK (encP L) 2 d)))) ++ os := rfl
theorem sw_other {L : List (ByteArray × ByteArray)} (w : World) (g n : Nat) (d : Array (List UInt8)) (os : Array Obj) (k : Nat) (hk : k < w.heap.size) (h : k ≠ g) : (sortWorldK (encP L) 2 w g 0 n d os).heap[k]? = w.heap[k]? := by
  rw [sw_heap, Array.getElem?_append_left (by simpa using hk), Array.getElem?_modify, if_neg (fun e => h e.symm)]
theorem sw_size {L : List (ByteArray × ByteArray)} (w : World) (g n : Nat) (d : Array (List UInt8)) (os : Array Obj) : w.heap.size ≤ (sortWorldK (encP L) 2 w g 0 n d os).heap.size := by
  rw [sw_heap]; simp
theorem sw_at {L : List (ByteArray × ByteArray)} (w : World) (g n : Nat) (d : Array (List UInt8)) (os : Array Obj) {cs : Array Value} {e : Nat} {fr : Nat × Nat} (h : w.heap[g]? = some (.cells cs e fr)) :
    (sortWorldK (encP L) 2 w g 0 n d os).heap[g]? = some (.cells (putCells id 0 (flatK (encP L) 2 d) cs) e fr) := by
  have hg : g < w.heap.size := (Array.getElem?_eq_some_iff.1 h).1
  rw [sw_heap, Array.getElem?_append_left (by simpa using hg), Array.getElem?_modify, if_pos rfl, h]
  rfl
theorem put_at (F cs : Array Value) (t : Nat) (ht : t < F.size) (hc : t < cs.size) : (putCells id 0 F cs)[t]? = some F[t]! := by
  unfold putCells
  rw [Array.getElem?_mapIdx, Array.getElem?_eq_getElem hc]
  simp [ht]
theorem put_size (F cs : Array Value) : (putCells id 0 F cs).size = cs.size := by simp [putCells]
theorem sort_ok : LOk 135 extL_SortAttrs := by
  intro ys h r h' hr
  unfold extL_SortAttrs at hr
  split at hr
  case h_2 => cases hr
  rename_i n es
  split at hr
  case isFalse => cases hr
  rename_i hn
  obtain ⟨hn, hn6⟩ := hn
  subst hn
  rw [Option.map_eq_some_iff] at hr
  obtain ⟨es', hs, hr⟩ := hr
  cases hr
  refine ⟨enters_of Tryz.func135 (by decide) rfl, fun μ S w vs hi hx => ?_⟩
  unfold attrSort at hs
  rw [Option.bind_eq_some_iff] at hs
  obtain ⟨l, hk, hs⟩ := hs
  split at hs
  case isFalse => cases hs
  rename_i hd
  obtain ⟨L, rfl, rfl⟩ := attrKeys_spec hk
  rw [foldr_P] at hs
  simp only [Option.some.injEq, List.map_map] at hs
  have hes : es' = (srtP L).map avP := by rw [← hs]; rfl
  clear hs hk
  subst hes
  have hnd : (L.map nmP).Nodup := distB_nd (by rw [List.map_map] at hd; exact hd)
  obtain ⟨u, v, rfl, hu, hv⟩ : ∃ u v, vs = [u, v] ∧ Rel μ S w 1 (.sl 0 0 (L.map avP).length false) u ∧ Rel μ S w 1 (.fn 136 []) v := by
    obtain ⟨h1, h2⟩ := hx
    match vs, h1 with
    | [u, v], _ => exact ⟨u, v, rfl, h2 0 _ u rfl rfl, h2 1 _ v rfl rfl⟩
  have hv' : v = .func (.func 136) #[] #[] := by
    cases hv with
    | fn _ _ _ vs' h1 h2 =>
      have : vs' = [] := List.eq_nil_of_length_eq_zero (by simpa using h1.symm)
      subst this; rfl
  subst hv'
  obtain ⟨_, hel, hb⟩ := hi.blk 0 _ rfl
  have hlen : (L.map avP).length = L.length := List.length_map _
  rw [hlen] at hu
  have empty : L = [] → ∀ p cap, u = .slice p 0 cap → Calls Tryz.prog 135 [u, .func (.func 136) #[] #[]].toArray w fun e w' => ∃ v μ' S', e = .returned v ∧ Inv [.arr 40 2 ((srtP L).map avP)] μ' S' w' ∧ Rel μ' S' w' 1 (.tup []) v ∧
      Adv [.arr 40 2 (L.map avP)] μ S w [.arr 40 2 ((srtP L).map avP)] μ' S' w' := by
    rintro rfl p cap rfl
    refine (AnyF.slices_SortFunc_none Tryz.laysSlF06 p cap _ w).mono ?_
    rintro e w' ⟨rfl, rfl⟩
    exact ⟨_, μ, S, rfl, hi, .tup _ [] [] rfl (fun j x v a => by simp at a), Adv.refl _ _ _ _⟩
  obtain ⟨n, hn⟩ : ∃ n, L.length = n := ⟨_, rfl⟩
  rw [hn] at hu
  cases hu with
  | slnil _ _ _ x g1 g2 => exact empty (List.eq_nil_of_length_eq_zero hn) x 0 rfl
  | sl _ _ _ _ _ g sz1 tot1 cap g1 g2 g3 g4 g5 g6 =>
    by_cases h0 : n = 0
    · subst h0
      exact empty (List.eq_nil_of_length_eq_zero hn) _ cap rfl
    rcases hb with ⟨⟨y, p1, _⟩, _⟩ | ⟨g', tot', cs, q1, q2, q3, q4, q5, q6, q7, q8⟩
    · rw [g2] at p1; cases p1
    rw [g2] at q1; cases q1
    have hg : g < w.heap.size := (Array.getElem?_eq_some_iff.1 q2).1
    have hcell : ∀ i j, i < n → j < 2 → cs[i * 2 + j]? = some (encP L (L.map nmP)[i]!)[j]! := by
      intro i j hi' hj'
      have hiL : i < L.length := by omega
      have he : (L.map avP)[i]? = some (avP L[i]) := by rw [List.getElem?_map, List.getElem?_eq_getElem hiL]; rfl
      have hne : (L.map nmP)[i]! = nmP L[i] := by rw [getElem!_pos _ i (by simpa using hiL), List.getElem_map]
      rw [hne, encP_mem hnd (List.getElem_mem hiL)]
      rw [hlen] at q4
      obtain ⟨v, hv⟩ : ∃ v, cs[i * 2 + j]? = some v := ⟨_, Array.getElem?_eq_getElem (by omega)⟩
      rw [hv]
      match j with
      | 0 => have := q7 i _ 0 _ v he rfl hv; rw [this.int]; rfl
      | 1 => have := q7 i _ 1 _ v he rfl hv; rw [this.int]; rfl
    have hH : HoldsK (encP L) 2 w g 0 (L.map nmP).toArray := by
      intro t ht
      have ht2 : t < n * 2 := by simpa [size_flatK, hn] using ht
      have hlt : t < cs.size := by rw [hlen] at q4; omega
      have e : t = t / 2 * 2 + t % 2 := by omega
      refine ⟨?_, ?_⟩
      · have hc := hcell (t / 2) (t % 2) (by omega) (by omega)
        rw [← e] at hc
        have hf := flat_at L (L.map nmP) (t / 2) (t % 2) (by simp; omega) (by omega)
        rw [← e] at hf
        rw [hf, Nat.zero_add]
        rw [getElem!_pos (L.map nmP) (t / 2) (by simp; omega)] at hc
        simp [World.cell?, q2, hc]
      · simp [World.frozen?, q2]
    have eg : ∀ args w, (callFunc 136 args).run Tryz.prog w = .ok (.enter 136 args) w := Go.Proofs.enters_of Tryz.func136 (by kernel_rfl) rfl
    have hcmp : CmpLays Tryz.prog 136 #[] (encP L) 2 cfB g 0 (L.map nmP).toArray.size w := by
      intro m os dk hdk x y
      exact closure_cmp ⟨x.toArray⟩ (valP L x) ⟨y.toArray⟩ (valP L y) _
    have hsz : (L.map nmP).toArray.size = n := by simp [hn]
    have hcon := AnyQ.slices_SortFunc_total Tryz.laysSlF06 2 Tryz.isAgg40 Tryz.sizeOf40 (encP L) (fun _ => rfl) (fun x v hv => by
      simp only [encP, List.mem_cons, List.not_mem_nil, or_false] at hv
      rcases hv with rfl | rfl <;> rfl) cfB swoB 136 #[] g 0 cap (L.map nmP).toArray w eg hcmp hH hg (by rw [hsz]; rw [hlen, hn] at hn6; omega)
      (fun x y h1 h2 => by
        simp only [Go.Proofs.ltOf, decide_eq_false_iff_not] at h1 h2
        exact cb_anti x y (Int.not_lt.1 h1) (Int.not_lt.1 h2))
    rw [hsz] at hcon
    refine hcon.mono ?_
    rintro e w' ⟨rfl, n', os, rfl⟩
    rw [show (L.map nmP).toArray.toList = L.map nmP from rfl, srtN_merge, ← srtP_nm]
    have hown : Go.Abs.owned [.arr 40 2 (L.map avP)] μ 0 g := ⟨_, rfl, by simp, 2, tot1, g2⟩
    have hmid : upd μ 0 (.blk g 2 tot1) = μ := by
      funext k; simp only [upd]; split
      · rename_i hk; subst hk; exact g2.symm
      · rfl
    have hsl := srtP_len L
    obtain ⟨s1, s2, s3, s4⟩ := set_blk hi (id := 0) rfl (by simp) (.blk g 2 tot1) (w' := sortWorldK (encP L) 2 w g 0 n' ((srtP L).map nmP).toArray os) (b := .arr 40 2 ((srtP L).map avP)) (sw_size w g n' _ os) rfl rfl rfl
      (fun k hk hno => sw_other w g n' _ os k hk (fun e => hno (e ▸ hown))) (by rintro k s t ⟨⟩; exact .inl hown) (fun hh => absurd rfl (hh _ _ _))
      (by rintro e1 sz1 es1 e2 sz2 es2 h1 h2; cases h1; cases h2; exact ⟨by simp [hsl], fun _ => g2.symm⟩) false (fun _ => g2.symm)
      (by
        rw [hmid]
        refine ⟨by decide, fun c hc => ?_, .inr ⟨g, tot1, _, g2, sw_at w g n' _ os q2, by rw [put_size]; exact q3, by simpa [hsl] using q4, q5, q6, fun i c j x v h1 h2 h3 => ?_, fun j v h1 h2 => ?_⟩⟩
        · obtain ⟨p, _, rfl⟩ := List.mem_map.1 hc; rfl
        · rw [List.getElem?_map] at h1
          cases hp : (srtP L)[i]? with
          | none => rw [hp] at h1; cases h1
          | some p =>
            rw [hp] at h1
            simp only [Option.map_some, Option.some.injEq] at h1
            subst h1
            obtain ⟨hil, hpe⟩ := List.getElem?_eq_some_iff.1 hp
            have hpm : p ∈ L := srtP_mem L p (hpe ▸ List.getElem_mem hil)
            have hj2 : j < 2 := by have := (List.getElem?_eq_some_iff.1 h2).1; simpa using this
            rw [hlen] at q4
            have hput := put_at (flatK (encP L) 2 ((srtP L).map nmP).toArray) cs (i * 2 + j) (by rw [size_flatK]; simp; omega) (by omega)
            rw [hput] at h3
            cases h3
            rw [flat_at L _ i j (by simpa using hil) hj2, List.getElem_map, hpe, encP_mem hnd hpm]
            match j, hj2 with
            | 0, _ => simp at h2; subst h2; exact .v _ _ rfl
            | 1, _ => simp at h2; subst h2; exact .v _ _ rfl
        · rw [List.length_map, hsl] at h1
          rw [hlen] at q4
          have hput := put_at (flatK (encP L) 2 ((srtP L).map nmP).toArray) cs j (by rw [size_flatK]; simp [hsl]; omega) (by omega)
          rw [hput] at h2
          cases h2
          have e : j = j / 2 * 2 + j % 2 := by omega
          have hf := flat_at L ((srtP L).map nmP) (j / 2) (j % 2) (by simp [hsl]; omega) (by omega)
          rw [← e] at hf
          rw [hf]
          have : j % 2 = 0 ∨ j % 2 = 1 := by omega
          rcases this with h | h <;> rw [h] <;> rfl)
    rw [hmid] at s1 s2
    simp only [Bool.false_eq_true, if_false, List.map_id'] at s1 s2
    exact ⟨_, μ, S, rfl, s1, .tup _ [] [] rfl (fun j x v a => by simp at a), s2⟩
theorem strsOf_ok : ∀ {es : List (List AV)} {l : List (List UInt8)}, SR.strsOf es = some l → es = l.map fun x => [SR.bS x]
  | [], l, h => by cases h; rfl
  | c :: r, l, h => by
    unfold SR.strsOf at h
    split at h
    · rename_i hh; cases hh
    · rename_i s r' hh
      cases hh
      rw [Option.map_eq_some_iff] at h
      obtain ⟨l', h1, rfl⟩ := h
      rw [List.map_cons, ← strsOf_ok h1]
      rfl
    · cases h
theorem replace_lok : LOk 205 SR.extL_Replace := by
  have key : ∀ {l : SR.Tb} (hl : SR.Tbl l) (s : ByteArray) (hs : s.size ≤ 1073741824) (es : List (List AV)) (he : es = (SR.flat l).map fun x => [SR.bS x]) (μ : Nat → G) (S : Nat → Nat → Prop) (w : World) (vs : List Value),
      Inv [.var [.v (.int .u32 0), .v (.int .i32 0), .v (.int .u32 0), .v .nilIface, .sl 1 0 (2 * l.length) false] none, .arr 9 1 es] μ S w → Rels μ S w 2 [.ptr 0 0, .v (.string s)] vs →
      Calls Tryz.prog 205 vs.toArray w fun e w' => ∃ v μ' S', e = .returned v ∧ Inv [.dead, .dead] μ' S' w' ∧ Rel μ' S' w' 2 (.v (.string ⟨(SR.repl l s.data.toList).toArray⟩)) v ∧
        Adv [.var [.v (.int .u32 0), .v (.int .i32 0), .v (.int .u32 0), .v .nilIface, .sl 1 0 (2 * l.length) false] none, .arr 9 1 es] μ S w [.dead, .dead] μ' S' w' := by
    intro l hl s hs es he μ S w vs hi hx
    subst he
    have hi : Inv (SR.rep0 l) μ S w := hi
    obtain ⟨bk, sz, tot, cs, e, z1, _⟩ := hi.blk 0 _ rfl
    have hv : vs = [.pointer (some ⟨bk, 0, none⟩), .string s] := by
      obtain ⟨h1, h2⟩ := hx
      match vs, h1 with
      | [u, v], _ =>
        have a := h2 0 _ u rfl rfl
        have b := (h2 1 (.v (.string s)) v rfl rfl).int
        cases a with
        | ptr _ _ _ b' sz' tot' g1 g2 => rw [z1] at g2; cases g2; rw [b]
    subst hv
    refine (SR.replace_ok hl hi z1 s hs).mono ?_
    rintro e' w' ⟨rfl, w2, μ2, S2, S', i2, a2, q⟩
    obtain ⟨q1, q2⟩ := SR.dead_ok hi i2 a2 q
    exact ⟨_, μ, S', rfl, q1, .v _ _ rfl, q2⟩
  intro ys h r h' hr
  unfold SR.extL_Replace at hr
  split at hr
  · rename_i s n e es
    split at hr
    · rename_i hc
      obtain ⟨hs, rfl⟩ := hc
      split at hr
      · rename_i l hl
        have hes := strsOf_ok hl
        split at hr
        · rename_i hq
          obtain ⟨rfl, rfl⟩ := hq
          cases hr
          exact ⟨enters_of Tryz.func205 (by decide) rfl, fun μ S w vs hi hx => key SR.tbl_S s hs es hes μ S w vs hi hx⟩
        · split at hr
          · rename_i hq
            obtain ⟨rfl, rfl⟩ := hq
            cases hr
            exact ⟨enters_of Tryz.func205 (by decide) rfl, fun μ S w vs hi hx => key SR.tbl_E s hs es hes μ S w vs hi hx⟩
          · cases hr
      · cases hr
    · cases hr
  · cases hr
theorem extLY_ok {X : X} (hP : X.P = Tryz.prog) (hX : X.extL = extLY) : ExtLOk X := by
  intro f ys h r h' hr
  rw [hX] at hr
  rw [hP]
  unfold extLY at hr
  split at hr
  · rename_i hf; subst hf; exact clone_ok ys h r h' hr
  split at hr
  · rename_i hf; subst hf; exact cc_ok ys h r h' hr
  split at hr
  · rename_i hf; subst hf; exact str_ok ys h r h' hr
  split at hr
  · rename_i hf; subst hf; exact sort_ok ys h r h' hr
  split at hr
  · rename_i hf; subst hf; exact replace_lok ys h r h' hr
  · cases hr
end Go.Abs.SA
end
