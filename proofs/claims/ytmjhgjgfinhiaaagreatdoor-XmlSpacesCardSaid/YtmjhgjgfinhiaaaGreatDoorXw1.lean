/- YtmjhgjgfinhiaaaGreatDoorXw1: a part of the interpreter by which the claim is shown, and of the walks: no conditions of its own: every theorem states its own. -/
import Derived.Test.YtmjhgjgfinhiaaaGreatDoorXr2
import Derived.Test.YtmjhgjgfinhiaaaGreatDoorXa6
set_option linter.unusedVariables false
set_option linter.unusedSimpArgs false
set_option linter.unusedSectionVars false
set_option maxHeartbeats 8000000
set_option maxRecDepth 100000
section
namespace Go.Abs.SA
open Go.Proofs
def fS : List (List AV) := (SR.flat SR.pairsS).map fun x => [SR.bS x]
def fE : List (List AV) := (SR.flat SR.pairsE).map fun x => [SR.bS x]
theorem fS_eq : ([[.v (.string ⟨#[38]⟩)], [.v (.string ⟨#[38, 97, 109, 112, 59]⟩)], [.v (.string ⟨#[60]⟩)], [.v (.string ⟨#[38, 108, 116, 59]⟩)], [.v (.string ⟨#[62]⟩)], [.v (.string ⟨#[38, 103, 116, 59]⟩)], [.v (.string ⟨#[34]⟩)], [.v (.string ⟨#[38, 113, 117, 111, 116, 59]⟩)], [.v (.string ⟨#[13]⟩)], [.v (.string ⟨#[38, 35, 49, 51, 59]⟩)], [.v (.string ⟨#[10]⟩)], [.v (.string ⟨#[38, 35, 49, 48, 59]⟩)], [.v (.string ⟨#[9]⟩)], [.v (.string ⟨#[38, 35, 57, 59]⟩)]] : List (List AV)) = fS := by kernel_rfl
theorem fE_eq : ([[.v (.string ⟨#[38]⟩)], [.v (.string ⟨#[38, 97, 109, 112, 59]⟩)], [.v (.string ⟨#[60]⟩)], [.v (.string ⟨#[38, 108, 116, 59]⟩)], [.v (.string ⟨#[62]⟩)], [.v (.string ⟨#[38, 103, 116, 59]⟩)], [.v (.string ⟨#[34]⟩)], [.v (.string ⟨#[38, 113, 117, 111, 116, 59]⟩)], [.v (.string ⟨#[13]⟩)], [.v (.string ⟨#[38, 35, 49, 51, 59]⟩)], [.v (.string ⟨#[10]⟩)], [.v (.string ⟨#[38, 35, 49, 48, 59]⟩)], [.v (.string ⟨#[9]⟩)], [.v (.string ⟨#[38, 35, 57, 59]⟩)], [.v (.string ⟨#[32]⟩)], [.v (.string ⟨#[38, 35, 51, 50, 59]⟩)]] : List (List AV)) = fE := by kernel_rfl
def repZ (n : Nat) : Blk := .var [.v (.int .u32 0), .v (.int .i32 0), .v (.int .u32 0), .v .nilIface, .sl 0 0 n false]
theorem newRep_S : loudW XX 204 [.fs fS false] [] = some (.ptr 1 0, [.arr 9 1 fS, repZ 14]) := loudW_iff.2 ⟨20, by kernel_rfl⟩
theorem newRep_E : loudW XX 204 [.fs fE false] [] = some (.ptr 1 0, [.arr 9 1 fE, repZ 16]) := loudW_iff.2 ⟨20, by kernel_rfl⟩
theorem extLY_rep (ys : List AV) (h : List Blk) : extLY 205 ys h = SR.extL_Replace ys h := by unfold extLY; rfl
theorem extY_trim (ys : List AV) : extY 121 ys = ext_Trim ys := by unfold extY; rfl
theorem replace_S (s : Str) (hs : s.size ≤ 1073741824) : loudW XX 205 [.ptr 0 0, vS s] [.var [.v (.int .u32 0), .v (.int .i32 0), .v (.int .u32 0), .v .nilIface, .sl 1 0 14 false], .arr 9 1 fS] = some (vS ⟨(SR.repl SR.pairsS s.data.toList).toArray⟩, [.dead, .dead]) := by
  refine extL_loudW rfl ?_
  have h1 : SR.strsOf fS = some (SR.flat SR.pairsS) := by kernel_rfl
  rw [XX_extL]
  rw [extLY_rep]
  simp [SR.extL_Replace, hs, h1]
theorem replace_E (s : Str) (hs : s.size ≤ 1073741824) : loudW XX 205 [.ptr 0 0, vS s] [.var [.v (.int .u32 0), .v (.int .i32 0), .v (.int .u32 0), .v .nilIface, .sl 1 0 16 false], .arr 9 1 fE] = some (vS ⟨(SR.repl SR.pairsE s.data.toList).toArray⟩, [.dead, .dead]) := by
  refine extL_loudW rfl ?_
  have h1 : SR.strsOf fE = some (SR.flat SR.pairsE) := by kernel_rfl
  rw [XX_extL]
  rw [extLY_rep]
  have h2 : SR.flat SR.pairsE ≠ SR.flat SR.pairsS := by decide
  simp [SR.extL_Replace, hs, h1, h2]
theorem callRep {f : FuncId} (hf : (XX.live f).contains 205 = true) (s : Str) (n : Nat) (F : List (List AV)) (R : Str) (hw : loudW XX 205 [.ptr 0 0, vS s] [.var [.v (.int .u32 0), .v (.int .i32 0), .v (.int .u32 0), .v .nilIface, .sl 1 0 n false], .arr 9 1 F] = some (vS R, [.dead, .dead])) (ts : List AV) :
    callX XX (orW XX) ⟨ts, [.arr 9 1 F, Blk.ren (fun k => some k) (repZ n)]⟩ f 205 [.ptr 1 0, vS s] = some (.st (vS R) ⟨AV.rens (keepF [0]) ts, [.dead, .dead]⟩) := by
  rw [callX_live _ _ hf rfl]
  have hw' : (orW XX).loud 205 [.ptr 0 0, vS s] [.var [.v (.int .u32 0), .v (.int .i32 0), .v (.int .u32 0), .v .nilIface, .sl 1 0 n false], .arr 9 1 F] = some (vS R, [.dead, .dead]) := hw
  simp [callL, reach, addNew, idsOfs, idsOf, dist, AV.rens, AV.ren, posOf, Blk.ren, repZ, hw', badL, badB, putBack, backF]
theorem rens_tmp (bad : List Nat) (m : Nat) (d : AV) (l : List (Nat × AV)) : AV.rens (keepF bad) (mkT m d l) = mkT m (d.ren (keepF bad)) (l.map fun p => (p.1, p.2.ren (keepF bad))) := rens_mkT _ _ _ _
theorem escape_spec (s : Str) (hs : s.size ≤ 1073741824) : pureW XX 206 [vS s] = some (vS ⟨(SR.repl SR.pairsE s.data.toList).toArray⟩) := by
  have hc := callRep (f := 206) (by rw [live_206]; rfl) s 16 fE _ (replace_E s hs)
  refine pureW_in 7 Tryz.func206 Tryz.ntmps206 (by simp) (rfl : Tryz.f206.body = some _) fns_206 ?_
  simp (maxSteps := 200000) (disch := first | omega | (simp only [go_sem] <;> omega) | fail) only [go_sem, fE_eq, callA_fresh mode_204, newRep_E, hc, rens_tmp, AV.ren]
def softB (l : B8) : B8 := if Lib.trimB (SR.repl SR.pairsS l) 32 = [] then SR.repl SR.pairsE l else SR.repl SR.pairsS l
theorem trimSpX (s : Str) (h : s.size ≤ 9223372036854775807) : pureW XX 121 [vS s, vS spS] = some (vS (mkS (Lib.trimB (lS8 s) 32))) := by
  refine loud_pureW (ext_loudW (r := vS (mkS (Lib.trimB (lS8 s) 32))) ?_) rfl
  rw [XX_ext]
  rw [extY_trim]
  unfold ext_Trim
  dsimp only
  rw [if_neg (by rintro ⟨_, h | h⟩ <;> exact absurd h (by decide)), if_pos ⟨h, rfl⟩]
theorem soft_spec (s : Str) (hs : s.size ≤ 1073741824) : pureW XX 153 [vS s] = some (vS ⟨(softB s.data.toList).toArray⟩) := by
  have hc := callRep (f := 153) (by rw [live_153]; rfl) s 14 fS _ (replace_S s hs)
  obtain ⟨r, hr⟩ : ∃ r : Str, (⟨(SR.repl SR.pairsS s.data.toList).toArray⟩ : Str) = r := ⟨_, rfl⟩
  rw [hr] at hc
  have hr' : lS8 r = SR.repl SR.pairsS s.data.toList := by rw [← hr]
  have ht := trimSpX r (by
    have h1 := SR.repl_len SR.ok_S s.data.toList
    have h2 := SR.sum_le SR.ok_S s.data.toList
    have h3 := lS8_len r
    have h4 := lS8_len s
    rw [hr'] at h3
    simp only [lS8] at h4
    omega)
  have he := escape_spec s hs
  by_cases hb : Lib.trimB (SR.repl SR.pairsS s.data.toList) 32 = []
  · have hb' : (mkS (Lib.trimB (lS8 r) 32) = (⟨#[]⟩ : Str)) = True := eq_true (by rw [hr', hb])
    rw [show softB s.data.toList = SR.repl SR.pairsE s.data.toList from if_pos hb]
    refine pureW_in 14 Tryz.func153 Tryz.ntmps153 (by simp) (rfl : Tryz.f153.body = some _) fns_153 ?_
    simp (maxSteps := 200000) (disch := first | omega | (simp only [go_sem] <;> omega) | fail) only [go_sem, fS_eq, callA_fresh mode_204, newRep_S, hc, rens_tmp, AV.ren, callA_data mode_trim, ht, callA_pure mode_206, he, hb']
  · have hb' : (mkS (Lib.trimB (lS8 r) 32) = (⟨#[]⟩ : Str)) = False := eq_false (by
      rw [hr']; intro h
      have := congrArg lS8 h
      rw [lS8_mk] at this
      exact hb this)
    rw [show softB s.data.toList = SR.repl SR.pairsS s.data.toList from if_neg hb, hr]
    refine pureW_in 14 Tryz.func153 Tryz.ntmps153 (by simp) (rfl : Tryz.f153.body = some _) fns_153 ?_
    simp (maxSteps := 200000) (disch := first | omega | (simp only [go_sem] <;> omega) | fail) only [go_sem, fS_eq, callA_fresh mode_204, newRep_S, hc, rens_tmp, AV.ren, callA_data mode_trim, ht, callA_pure mode_206, he, hb']
end Go.Abs.SA
end
section
namespace Go.Abs.SA
open Go.Proofs
theorem mkS_app (a b : B8) : mkS (a ++ b) = mkS a ++ mkS b := by
  apply ByteArray.ext
  show (a ++ b).toArray = (mkS a ++ mkS b).data
  rw [ByteArray.data_append]
  simp
theorem dropW_nil (p : UInt8 → Bool) : ∀ l : B8, l.dropWhile p = [] ↔ l.all p = true
  | [] => by simp
  | c :: r => by
    rw [List.dropWhile_cons, List.all_cons]
    cases h : p c with
    | true => simpa using dropW_nil p r
    | false => simp
theorem dropW_all (p : UInt8 → Bool) : ∀ l : B8, l.all p = (l.dropWhile p).all p
  | [] => rfl
  | c :: r => by
    rw [List.dropWhile_cons]
    cases h : p c with
    | true => rw [List.all_cons, h, Bool.true_and]; simpa using dropW_all p r
    | false => simp
theorem trim_nil (l : B8) : Lib.trimB l 32 = [] ↔ l.all (fun c => c == 32) = true := by
  unfold Lib.trimB Lib.trimLeftB Lib.trimRightB
  rw [dropW_nil, List.all_reverse, ← dropW_all, List.all_reverse]
theorem repl_all (l : B8) : (SR.repl SR.pairsS l).all (fun c => c == 32) = l.all (fun c => c == 32) := by
  induction l with
  | nil => rfl
  | cons c r ih =>
    unfold SR.repl at ih ⊢
    rw [List.flatMap_cons, List.all_append, ih, List.all_cons]
    congr 1
    cases hh : SR.look SR.pairsS c.toNat with
    | none => simp
    | some n =>
      obtain ⟨p, hp, h1, rfl⟩ := SR.look_mem hh
      have h2 : c = p.1 := (UInt8.toNat_inj.1 h1).symm
      subst h2
      have h4 : ∀ q ∈ SR.pairsS, q.2.all (fun c => c == 32) = (q.1 == 32) := by decide
      exact h4 p hp
theorem softB_eq (l : B8) : softB l = SR.repl (if l.all (fun c => c == 32) then SR.pairsE else SR.pairsS) l := by
  unfold softB
  rw [← repl_all l]
  by_cases h : (SR.repl SR.pairsS l).all (fun c => c == 32) = true
  · rw [if_pos ((trim_nil _).2 h), if_pos h]
  · rw [if_neg (fun e => h ((trim_nil _).1 e)), if_neg h]
theorem refPlain_spec (s : Str) (hs : s.size ≤ 1073741824) : pureW XX 154 [vS s] = some (vS (mkS (softB (lS8 s)))) := by
  have hl : (lS8 s).length = s.size := lS8_len s
  obtain ⟨o, ho⟩ : ∃ o, (lS8 s).all (fun c => c == 32) = o := ⟨_, rfl⟩
  obtain ⟨T, hT⟩ : ∃ T, (if o = true then SR.pairsE else SR.pairsS) = T := ⟨_, rfl⟩
  have hok : SR.TbOk T := by rw [← hT]; cases o; exact SR.ok_S; exact SR.ok_E
  have htl := SR.repl_len hok (lS8 s)
  have hts := SR.sum_le hok (lS8 s)
  refine pureW_in 72 Tryz.func154 Tryz.ntmps154 (by simp) (rfl : Tryz.f154.body = some _) fns_154 ?_
  simp (maxSteps := 200000) (disch := first | omega | (simp only [go_sem] <;> omega) | fail) only [go_sem]
  refine WP_range 3 0 s.size (fun i => S_154_3 (vS s) (vB (((lS8 s).take i).all (fun c => c == 32))) (vI i) []) (fun _ => True) rfl rfl ?_ ?_ ?_ ?_
  · simp (maxSteps := 200000) (disch := first | omega | (simp only [go_sem] <;> omega) | fail) only [go_sem]; rfl
  · trivial
  · intro i h _
    have hi1 : ((i : Int) < (s.size : Int)) = True := eq_true (by omega)
    have hws := wrap_succ h (show s.size ≤ 140737488355328 by omega)
    have h' : i < (lS8 s).length := by rw [hl]; exact h
    have hbg := byteAt_list s i h
    have hst : ((lS8 s).take (i + 1)).all (fun c => c == 32) = (((lS8 s).take i).all (fun c => c == 32) && ((lS8 s)[i] == 32)) := by
      rw [List.take_succ_eq_append_getElem h', List.all_append]; simp
    rw [hst]
    generalize (lS8 s)[i] = c at *
    have hce : (decide ((c.toNat : Int) = 32)) = (c == 32) := by
      rw [Bool.eq_iff_iff]; simp only [decide_eq_true_eq, beq_iff_eq]
      constructor
      · intro h; exact UInt8.toNat_inj.1 (by show c.toNat = 32; omega)
      · intro h; subst h; rfl
    rcases Bool.eq_false_or_eq_true (((lS8 s).take i).all (fun c => c == 32)) with q | q
    · rw [q]
      simp (maxSteps := 200000) (disch := first | omega | (simp only [go_sem] <;> omega) | fail) only [go_sem, hi1, h, hbg, hws, nat_int, hce]
    · rw [q]
      simp (maxSteps := 200000) (disch := first | omega | (simp only [go_sem] <;> omega) | fail) only [go_sem, hi1, h, hbg, hws, nat_int, hce]
  · intro _
    have hi1 : ((s.size : Int) < (s.size : Int)) = False := eq_false (by omega)
    rw [List.take_of_length_le (show (lS8 s).length ≤ s.size by omega), ho]
    simp (maxSteps := 200000) (disch := first | omega | (simp only [go_sem] <;> omega) | fail) only [go_sem, hi1]
    refine WP_range 8 0 s.size (fun i => S_154_8 (vS s) (vB o) (vS (mkS (SR.repl T ((lS8 s).take i)))) (vI i) []) (fun _ => True) rfl rfl ?_ ?_ ?_ ?_
    · simp (maxSteps := 200000) (disch := first | omega | (simp only [go_sem] <;> omega) | fail) only [go_sem]; rfl
    · trivial
    · intro i h _
      have hi1 : ((i : Int) < (s.size : Int)) = True := eq_true (by omega)
      have hws := wrap_succ h (show s.size ≤ 140737488355328 by omega)
      have h' : i < (lS8 s).length := by rw [hl]; exact h
      have hbg := byteAt_list s i h
      have hst := SR.repl_step T (lS8 s) i h'
      have hro := SR.repl_room T (lS8 s) i h'
      have hex : s.extract i (i + 1) = mkS [(lS8 s)[i]] := by
        rw [ext_take]; congr 1; unfold rest
        rw [List.drop_eq_getElem_cons h']; rfl
      have hx1 : i ≤ s.size := by omega
      have hx2 : i + 1 ≤ s.size := by omega
      have hx3 : (i ≤ i + 1) = True := eq_true (by omega)
      rw [hst, mkS_app]
      generalize (lS8 s)[i] = c at *
      obtain ⟨d, hd⟩ : ∃ d, SR.repl T ((lS8 s).take i) = d := ⟨_, rfl⟩
      rw [hd] at hro ⊢
      have hds := mk_size d
      have hdl : d.length ≤ 6442450944 := by omega
      have hc32 : c.toNat < 256 := UInt8.toNat_lt c
      by_cases k38 : c = 38
      · subst k38
        have hbg : byteAt s i = 38 := hbg
        have hz : (⟨#[38, 97, 109, 112, 59]⟩ : ByteArray).size = 5 := rfl
        rw [show SR.look T (38 : UInt8).toNat = some [38, 97, 109, 112, 59] from by rw [← hT]; cases o <;> decide]
        simp (maxSteps := 200000) (disch := first | omega | (simp only [go_sem] <;> omega) | fail) only [go_sem, hi1, h, hbg, hws, nat_int, Int.reduceEq]
      by_cases k60 : c = 60
      · subst k60
        have hbg : byteAt s i = 60 := hbg
        have hz : (⟨#[38, 108, 116, 59]⟩ : ByteArray).size = 4 := rfl
        rw [show SR.look T (60 : UInt8).toNat = some [38, 108, 116, 59] from by rw [← hT]; cases o <;> decide]
        simp (maxSteps := 200000) (disch := first | omega | (simp only [go_sem] <;> omega) | fail) only [go_sem, hi1, h, hbg, hws, nat_int, Int.reduceEq]
      by_cases k62 : c = 62
      · subst k62
        have hbg : byteAt s i = 62 := hbg
        have hz : (⟨#[38, 103, 116, 59]⟩ : ByteArray).size = 4 := rfl
        rw [show SR.look T (62 : UInt8).toNat = some [38, 103, 116, 59] from by rw [← hT]; cases o <;> decide]
        simp (maxSteps := 200000) (disch := first | omega | (simp only [go_sem] <;> omega) | fail) only [go_sem, hi1, h, hbg, hws, nat_int, Int.reduceEq]
      by_cases k34 : c = 34
      · subst k34
        have hbg : byteAt s i = 34 := hbg
        have hz : (⟨#[38, 113, 117, 111, 116, 59]⟩ : ByteArray).size = 6 := rfl
        rw [show SR.look T (34 : UInt8).toNat = some [38, 113, 117, 111, 116, 59] from by rw [← hT]; cases o <;> decide]
        simp (maxSteps := 200000) (disch := first | omega | (simp only [go_sem] <;> omega) | fail) only [go_sem, hi1, h, hbg, hws, nat_int, Int.reduceEq]
      by_cases k13 : c = 13
      · subst k13
        have hbg : byteAt s i = 13 := hbg
        have hz : (⟨#[38, 35, 49, 51, 59]⟩ : ByteArray).size = 5 := rfl
        rw [show SR.look T (13 : UInt8).toNat = some [38, 35, 49, 51, 59] from by rw [← hT]; cases o <;> decide]
        simp (maxSteps := 200000) (disch := first | omega | (simp only [go_sem] <;> omega) | fail) only [go_sem, hi1, h, hbg, hws, nat_int, Int.reduceEq]
      by_cases k10 : c = 10
      · subst k10
        have hbg : byteAt s i = 10 := hbg
        have hz : (⟨#[38, 35, 49, 48, 59]⟩ : ByteArray).size = 5 := rfl
        rw [show SR.look T (10 : UInt8).toNat = some [38, 35, 49, 48, 59] from by rw [← hT]; cases o <;> decide]
        simp (maxSteps := 200000) (disch := first | omega | (simp only [go_sem] <;> omega) | fail) only [go_sem, hi1, h, hbg, hws, nat_int, Int.reduceEq]
      by_cases k9 : c = 9
      · subst k9
        have hbg : byteAt s i = 9 := hbg
        have hz : (⟨#[38, 35, 57, 59]⟩ : ByteArray).size = 4 := rfl
        rw [show SR.look T (9 : UInt8).toNat = some [38, 35, 57, 59] from by rw [← hT]; cases o <;> decide]
        simp (maxSteps := 200000) (disch := first | omega | (simp only [go_sem] <;> omega) | fail) only [go_sem, hi1, h, hbg, hws, nat_int, Int.reduceEq]
      by_cases k32 : c = 32
      · subst k32
        have hbg : byteAt s i = 32 := hbg
        cases o with
        | false =>
          have hz : (⟨#[32]⟩ : ByteArray).size = 1 := rfl
          rw [show SR.look T (32 : UInt8).toNat = none from by rw [← hT]; decide]
          simp (maxSteps := 200000) (disch := first | omega | (simp only [go_sem] <;> omega) | fail) only [go_sem, hi1, h, hbg, hws, nat_int, Int.reduceEq]
          try rfl
        | true =>
          have hz : (⟨#[38, 35, 51, 50, 59]⟩ : ByteArray).size = 5 := rfl
          rw [show SR.look T (32 : UInt8).toNat = some [38, 35, 51, 50, 59] from by rw [← hT]; decide]
          simp (maxSteps := 200000) (disch := first | omega | (simp only [go_sem] <;> omega) | fail) only [go_sem, hi1, h, hbg, hws, nat_int, Int.reduceEq]
          try rfl
      have n38 : ((c.toNat : Int) = 38) = False := eq_false fun e => k38 (UInt8.toNat_inj.1 (show c.toNat = (38 : UInt8).toNat by rw [show (38 : UInt8).toNat = 38 from rfl]; omega))
      have n60 : ((c.toNat : Int) = 60) = False := eq_false fun e => k60 (UInt8.toNat_inj.1 (show c.toNat = (60 : UInt8).toNat by rw [show (60 : UInt8).toNat = 60 from rfl]; omega))
      have n62 : ((c.toNat : Int) = 62) = False := eq_false fun e => k62 (UInt8.toNat_inj.1 (show c.toNat = (62 : UInt8).toNat by rw [show (62 : UInt8).toNat = 62 from rfl]; omega))
      have n34 : ((c.toNat : Int) = 34) = False := eq_false fun e => k34 (UInt8.toNat_inj.1 (show c.toNat = (34 : UInt8).toNat by rw [show (34 : UInt8).toNat = 34 from rfl]; omega))
      have n13 : ((c.toNat : Int) = 13) = False := eq_false fun e => k13 (UInt8.toNat_inj.1 (show c.toNat = (13 : UInt8).toNat by rw [show (13 : UInt8).toNat = 13 from rfl]; omega))
      have n10 : ((c.toNat : Int) = 10) = False := eq_false fun e => k10 (UInt8.toNat_inj.1 (show c.toNat = (10 : UInt8).toNat by rw [show (10 : UInt8).toNat = 10 from rfl]; omega))
      have n9 : ((c.toNat : Int) = 9) = False := eq_false fun e => k9 (UInt8.toNat_inj.1 (show c.toNat = (9 : UInt8).toNat by rw [show (9 : UInt8).toNat = 9 from rfl]; omega))
      have n32 : ((c.toNat : Int) = 32) = False := eq_false fun e => k32 (UInt8.toNat_inj.1 (show c.toNat = (32 : UInt8).toNat by rw [show (32 : UInt8).toNat = 32 from rfl]; omega))
      have hlk : SR.look T c.toNat = none := by
        cases hh : SR.look T c.toNat with
        | none => rfl
        | some n =>
          obtain ⟨p, hp, h1, _⟩ := SR.look_mem hh
          have h2 : p.1 = c := UInt8.toNat_inj.1 h1
          have h3 : p.1 ∈ T.map (·.1) := List.mem_map_of_mem hp
          have h4 : ∀ x ∈ T.map (·.1), x = 38 ∨ x = 60 ∨ x = 62 ∨ x = 34 ∨ x = 13 ∨ x = 10 ∨ x = 9 ∨ x = 32 := by rw [← hT]; cases o <;> decide
          rcases h4 _ h3 with e | e | e | e | e | e | e | e <;> exact absurd (h2.symm.trans e) (by assumption)
      rw [hlk]
      have hz : (mkS [c]).size = 1 := rfl
      simp (maxSteps := 200000) (disch := first | omega | (simp only [go_sem] <;> omega) | fail) only [go_sem, hi1, h, hbg, hws, nat_int, n38, n60, n62, n34, n13, n10, n9, n32, hx1, hx2, hx3, hex]
      try rfl
    · intro _
      have hi1 : ((s.size : Int) < (s.size : Int)) = False := eq_false (by omega)
      rw [List.take_of_length_le (show (lS8 s).length ≤ s.size by omega), softB_eq, ho, hT]
      simp (maxSteps := 200000) (disch := first | omega | (simp only [go_sem] <;> omega) | fail) only [go_sem, hi1]
end Go.Abs.SA
end
section
namespace Go.Abs.SA
open Go.Proofs
def attrB (a : Str × Str) : B8 := [32] ++ lS8 a.1 ++ [61, 34] ++ softB (lS8 a.2) ++ [34]
def nsB (sp S : B8) : B8 := if sp = S then [] else [32, 120, 109, 108, 110, 115, 61, 34] ++ softB sp ++ [34]
def headB (e : Elem) (S : B8) : B8 := [60] ++ lS8 e.name ++ nsB (lS8 e.space) S
mutual
def writeB : Elem → B8 → B8
  | .mk sp nm at' tx ks, S => headB (.mk sp nm at' tx ks) S ++ at'.flatMap attrB ++ (if (tx.size == 0 && ks.isEmpty) = true then [47, 62] else [62] ++ softB (lS8 tx) ++ writesB ks (lS8 sp) ++ [60, 47] ++ lS8 nm ++ [62])
def writesB : List Elem → B8 → B8
  | [], _ => []
  | e :: r, S => writeB e S ++ writesB r S
end
theorem writeB_s (e : Elem) (S : B8) : writeB e S = headB e S ++ e.attrs.flatMap attrB ++ (if (e.text.size == 0 && e.kids.isEmpty) = true then [47, 62] else [62] ++ softB (lS8 e.text) ++ writesB e.kids (lS8 e.space) ++ [60, 47] ++ lS8 e.name ++ [62]) := by
  cases e; rw [writeB]; rfl
theorem writesB_app : ∀ (a b : List Elem) (S : B8), writesB (a ++ b) S = writesB a S ++ writesB b S
  | [], b, S => rfl
  | e :: r, b, S => by simp only [List.cons_append, writesB, writesB_app r b S, List.append_assoc]
theorem writesB_step (l : List Elem) (S : B8) (i : Nat) (h : i < l.length) : writesB (l.take (i + 1)) S = writesB (l.take i) S ++ writeB l[i] S := by
  rw [List.take_succ_eq_append_getElem h, writesB_app]; simp [writesB]
theorem writesB_len (l : List Elem) (S : B8) (i : Nat) (h : i < l.length) : (writesB (l.take i) S).length + (writeB l[i] S).length ≤ (writesB l S).length := by
  conv => rhs; rw [← List.take_append_drop (i + 1) l, writesB_app, writesB_step l S i h]
  simp only [List.length_append]; omega
theorem attrs_step (l : List (Str × Str)) (i : Nat) (h : i < l.length) : (l.take (i + 1)).flatMap attrB = (l.take i).flatMap attrB ++ attrB l[i] := by
  rw [List.take_succ_eq_append_getElem h, List.flatMap_append]; simp
theorem attrs_len (l : List (Str × Str)) (i : Nat) (h : i < l.length) : ((l.take i).flatMap attrB).length + (attrB l[i]).length ≤ (l.flatMap attrB).length := by
  conv => rhs; rw [← List.take_append_drop (i + 1) l, List.flatMap_append, attrs_step l i h]
  simp only [List.length_append]; omega
class Sm (m : outParam Nat) (l : B8) : Prop where
  h : l.length ≤ m
instance : Sm 0 [] := ⟨Nat.le_refl _⟩
instance {m : Nat} {l : B8} {x : UInt8} [hm : Sm m l] : Sm (m + 1) (x :: l) := ⟨by have := hm.h; simp only [List.length_cons]; omega⟩
instance {m n : Nat} {a b : B8} [ha : Sm m a] [hb : Sm n b] : Sm (m + n) (a ++ b) := ⟨by have := ha.h; have := hb.h; simp only [List.length_append]; omega⟩
theorem cat {P : Program} {t m n : Nat} {a b : B8} [ha : Sm m a] [hb : Sm n b] (h : m + n ≤ 4611686018427387904) : binA P .add t (.v (.string (mkS a))) (.v (.string (mkS b))) = some (.v (.string (mkS (a ++ b)))) := by
  have h1 := ha.h
  have h2 := hb.h
  rw [sbin_add _ _ (by rw [mk_size, mk_size]; omega), mkS_app]
theorem softB_ge (l : B8) : l.length ≤ (softB l).length := by
  rw [softB_eq]
  split
  · rw [SR.repl_len SR.ok_E]; omega
  · rw [SR.repl_len SR.ok_S]; omega
theorem mk_inj {a b : B8} : mkS a = mkS b ↔ a = b := ⟨fun h => by have := congrArg lS8 h; simpa using this, fun h => by rw [h]⟩
end Go.Abs.SA
end
section
namespace Go.Abs.SA
open Go.Proofs
instance : EL eAttr 2 := ⟨fun _ => rfl⟩
theorem attrB_mk (an av : B8) : attrB (mkS an, mkS av) = [32] ++ an ++ [61, 34] ++ softB av ++ [34] := by simp only [attrB, lS8_mk]
theorem attrs_le (l : List (Str × Str)) : l.length ≤ (l.flatMap attrB).length := by
  induction l with
  | nil => simp
  | cons a r ih => simp only [List.flatMap_cons, List.length_append, List.length_cons, attrB]; omega
theorem writeB_pos (e : Elem) (S : B8) : 1 ≤ (writeB e S).length := by
  rw [writeB_s]; simp only [headB, List.length_append, List.length_cons]; omega
theorem kids_le (S : B8) : ∀ l : List Elem, l.length ≤ (writesB l S).length
  | [] => by simp
  | e :: r => by have := kids_le S r; have := writeB_pos e S; simp only [writesB, List.length_append, List.length_cons]; omega
theorem eElem_mk (sp nm : Str) (at' : List (Str × Str)) (tx : Str) (ks : List Elem) : eElem (.mk sp nm at' tx ks) = [vS sp, vS nm, .fs (at'.map eAttr) false, vS tx, .fs (ks.map eElem) false] := by
  rw [eElem_s]; rfl
theorem refWrite_spec : ∀ (k : Nat) (e : Elem) (S : B8), cntE e < k → (writeB e S).length ≤ 1073741824 → pureW XX 100 [.agg (eElem e), vS (mkS S)] = some (vS (mkS (writeB e S))) := by
  intro k
  induction k with
  | zero => intro e S h; omega
  | succ k ih =>
    intro e S hc hb
    obtain ⟨sp, nm, at', tx, ks⟩ := e
    obtain ⟨sp, rfl⟩ : ∃ l, sp = mkS l := ⟨lS8 sp, (mk_lS8 _).symm⟩
    obtain ⟨nm, rfl⟩ : ∃ l, nm = mkS l := ⟨lS8 nm, (mk_lS8 _).symm⟩
    obtain ⟨tx, rfl⟩ : ∃ l, tx = mkS l := ⟨lS8 tx, (mk_lS8 _).symm⟩
    rw [eElem_mk]
    rw [writeB_s] at hb ⊢
    simp only [Elem.attrs, Elem.text, Elem.kids, Elem.space, Elem.name, headB, lS8_mk, List.length_append] at hb ⊢
    haveI : Sm 1073741824 nm := ⟨by omega⟩
    have hal := attrs_le at'
    obtain ⟨H, hH⟩ : ∃ H, [60] ++ nm ++ nsB sp S = H := ⟨_, rfl⟩
    have hHl : H.length = 1 + nm.length + (nsB sp S).length := by rw [← hH]; simp only [List.length_append, List.length_cons, List.length_nil]; try omega
    rw [hH]
    obtain ⟨E, hE⟩ : ∃ E, (if ((mkS tx).size == 0 && ks.isEmpty) = true then [47, 62] else [62] ++ softB tx ++ writesB ks sp ++ [60, 47] ++ nm ++ [62]) = E := ⟨_, rfl⟩
    rw [hE] at hb ⊢
    obtain ⟨R, hR⟩ : ∃ R, H ++ at'.flatMap attrB ++ E = R := ⟨_, rfl⟩
    rw [hR]
    simp only [List.length_cons, List.length_nil] at hb
    haveI : Sm 1073741824 H := ⟨by omega⟩
    refine pureW_in 88 Tryz.func100 Tryz.ntmps100 (by simp) (rfl : Tryz.f100.body = some _) fns_100 ?_
    by_cases hsp : sp = S
    · have hsp' : (mkS sp = mkS S) = True := eq_true (by rw [hsp])
      have e1 : 60 :: nm = H := by rw [← hH, nsB, if_pos hsp]; simp
      simp (maxSteps := 200000) (disch := first | omega | (simp only [go_sem] <;> omega) | fail) only [go_sem, cat, hsp', ne_eq, not_true, e1]
      refine WP_range 5 1 at'.length (fun i => S_100_5 (.ptr 0 0) (vS (mkS (H ++ (at'.take i).flatMap attrB))) (vI i) [.var [vS (mkS sp), vS (mkS nm), .fs (at'.map eAttr) false, vS (mkS tx), .fs (ks.map eElem) false]]) (fun _ => True) rfl rfl ?_ ?_ ?_ ?_
      · simp (maxSteps := 200000) (disch := first | omega | (simp only [go_sem] <;> omega) | fail) only [go_sem, List.take_zero, List.flatMap_nil, List.append_nil]; rfl
      · trivial
      · intro i h _
        have hi1 : ((i : Int) < (at'.length : Int)) = True := eq_true (by omega)
        have hws := wrap_succ h (show at'.length ≤ 140737488355328 by omega)
        have hlen := attrs_len at' i h
        rw [attrs_step at' i h, ← List.append_assoc]
        obtain ⟨p, hp⟩ : ∃ p, (at'.take i).flatMap attrB = p := ⟨_, rfl⟩
        obtain ⟨⟨an, av⟩, hae⟩ : ∃ a, at'[i] = a := ⟨_, rfl⟩
        obtain ⟨an, rfl⟩ : ∃ l, an = mkS l := ⟨lS8 an, (mk_lS8 _).symm⟩
        obtain ⟨av, rfl⟩ : ∃ l, av = mkS l := ⟨lS8 av, (mk_lS8 _).symm⟩
        rw [hp, hae] at hlen ⊢
        rw [attrB_mk] at hlen ⊢
        simp only [List.length_append, List.length_cons, List.length_nil] at hlen
        have hge := softB_ge av
        have hpl := refPlain_spec (mkS av) (by rw [mk_size]; omega)
        rw [lS8_mk] at hpl
        haveI : Sm 1073741824 p := ⟨by omega⟩
        haveI : Sm 1073741824 an := ⟨by omega⟩
        haveI : Sm 1073741824 (softB av) := ⟨by omega⟩
        simp (maxSteps := 200000) (disch := first | omega | (simp only [go_sem] <;> omega) | fail) only [go_sem, hi1, hws, h, hae, cat, callA_pure mode_154, hpl, eAttr]
      · intro _
        have hi1 : ((at'.length : Int) < (at'.length : Int)) = False := eq_false (by omega)
        rw [List.take_length]
        obtain ⟨A, hA⟩ : ∃ A, at'.flatMap attrB = A := ⟨_, rfl⟩
        rw [hA] at hb hR ⊢
        haveI : Sm 1073741824 A := ⟨by omega⟩
        by_cases hc : ((mkS tx).size == 0 && ks.isEmpty) = true
        · rw [if_pos hc] at hE
          subst hE
          simp only [Bool.and_eq_true, beq_iff_eq, List.isEmpty_iff] at hc
          obtain ⟨h1, rfl⟩ := hc
          have h1 : tx = [] := by rw [mk_size] at h1; exact List.eq_nil_of_length_eq_zero h1
          subst h1
          have hi2 : (mkS [] = (⟨#[]⟩ : ByteArray)) = True := eq_true rfl
          have hi3 : (((0 : Nat) : Int) = 0) = True := eq_true rfl
          simp (maxSteps := 200000) (disch := first | omega | (simp only [go_sem] <;> omega) | fail) only [go_sem, hi1, hi2, hi3, cat]
          rw [← hR]
        · rw [if_neg hc] at hE
          subst hE
          simp only [List.length_append, List.length_cons, List.length_nil] at hb
          have hge := softB_ge tx
          have hpl := refPlain_spec (mkS tx) (by rw [mk_size]; omega)
          rw [lS8_mk] at hpl
          have hkl := kids_le sp ks
          haveI : Sm 1073741824 (softB tx) := ⟨by omega⟩
          have hB : (mkS tx = (⟨#[]⟩ : ByteArray)) = False ∨ ((mkS tx = (⟨#[]⟩ : ByteArray)) = True ∧ ((ks.length : Int) = 0) = False) := by
            by_cases h1 : tx = []
            · subst h1
              refine .inr ⟨eq_true rfl, eq_false fun h => hc ?_⟩
              have : ks = [] := List.eq_nil_of_length_eq_zero (by omega)
              subst this; rfl
            · exact .inl (eq_false fun h => h1 (mk_inj.1 h))
          rcases hB with hB | ⟨hB, hB2⟩
          · simp (maxSteps := 200000) (disch := first | omega | (simp only [go_sem] <;> omega) | fail) only [go_sem, hi1, hB, cat, callA_pure mode_154, hpl]
            obtain ⟨Q0, hQ⟩ : ∃ Q0, H ++ A ++ 62 :: softB tx = Q0 := ⟨_, rfl⟩
            have hQl : Q0.length = H.length + A.length + (1 + (softB tx).length) := by rw [← hQ]; simp only [List.length_append, List.length_cons]; omega
            rw [hQ]
            haveI : Sm 1073741824 Q0 := ⟨by omega⟩
            refine WP_range 12 1 ks.length (fun i => S_100_12 (.ptr 0 0) (vS (mkS (Q0 ++ writesB (ks.take i) sp))) (vI i) [.var [vS (mkS sp), vS (mkS nm), .fs (at'.map eAttr) false, vS (mkS tx), .fs (ks.map eElem) false]]) (fun _ => True) rfl rfl ?_ ?_ ?_ ?_
            · simp (maxSteps := 200000) (disch := first | omega | (simp only [go_sem] <;> omega) | fail) only [go_sem, List.take_zero, writesB, List.append_nil]; rfl
            · trivial
            · intro i h _
              have hi1 : ((i : Int) < (ks.length : Int)) = True := eq_true (by omega)
              have hws := wrap_succ h (show ks.length ≤ 140737488355328 by omega)
              have hlen := writesB_len ks sp i h
              have hk := ih ks[i] sp (by have := cntE_mem (List.getElem_mem h); have := cntE_s (.mk (mkS sp) (mkS nm) at' (mkS tx) ks); simp only [Elem.kids] at this; omega) (by omega)
              rw [writesB_step ks sp i h, ← List.append_assoc]
              obtain ⟨q, hq⟩ : ∃ q, writesB (ks.take i) sp = q := ⟨_, rfl⟩
              obtain ⟨z, hz⟩ : ∃ z, writeB ks[i] sp = z := ⟨_, rfl⟩
              rw [hq] at hlen ⊢
              rw [hz] at hlen hk ⊢
              rw [eElem_s] at hk
              haveI : Sm 1073741824 q := ⟨by omega⟩
              haveI : Sm 1073741824 z := ⟨by omega⟩
              simp (maxSteps := 200000) (disch := first | omega | (simp only [go_sem] <;> omega) | fail) only [go_sem, hi1, hws, h, cat, callA_pure mode_100, hk, eElem_s]
              try rfl
            · intro _
              have hi1 : ((ks.length : Int) < (ks.length : Int)) = False := eq_false (by omega)
              rw [List.take_length]
              haveI : Sm 1073741824 (writesB ks sp) := ⟨by omega⟩
              simp (maxSteps := 200000) (disch := first | omega | (simp only [go_sem] <;> omega) | fail) only [go_sem, hi1, cat]
              rw [← hR, ← hQ]
              simp
          · simp (maxSteps := 200000) (disch := first | omega | (simp only [go_sem] <;> omega) | fail) only [go_sem, hi1, hB, hB2, cat, callA_pure mode_154, hpl]
            obtain ⟨Q0, hQ⟩ : ∃ Q0, H ++ A ++ 62 :: softB tx = Q0 := ⟨_, rfl⟩
            have hQl : Q0.length = H.length + A.length + (1 + (softB tx).length) := by rw [← hQ]; simp only [List.length_append, List.length_cons]; omega
            rw [hQ]
            haveI : Sm 1073741824 Q0 := ⟨by omega⟩
            refine WP_range 12 1 ks.length (fun i => S_100_12 (.ptr 0 0) (vS (mkS (Q0 ++ writesB (ks.take i) sp))) (vI i) [.var [vS (mkS sp), vS (mkS nm), .fs (at'.map eAttr) false, vS (mkS tx), .fs (ks.map eElem) false]]) (fun _ => True) rfl rfl ?_ ?_ ?_ ?_
            · simp (maxSteps := 200000) (disch := first | omega | (simp only [go_sem] <;> omega) | fail) only [go_sem, List.take_zero, writesB, List.append_nil]; rfl
            · trivial
            · intro i h _
              have hi1 : ((i : Int) < (ks.length : Int)) = True := eq_true (by omega)
              have hws := wrap_succ h (show ks.length ≤ 140737488355328 by omega)
              have hlen := writesB_len ks sp i h
              have hk := ih ks[i] sp (by have := cntE_mem (List.getElem_mem h); have := cntE_s (.mk (mkS sp) (mkS nm) at' (mkS tx) ks); simp only [Elem.kids] at this; omega) (by omega)
              rw [writesB_step ks sp i h, ← List.append_assoc]
              obtain ⟨q, hq⟩ : ∃ q, writesB (ks.take i) sp = q := ⟨_, rfl⟩
              obtain ⟨z, hz⟩ : ∃ z, writeB ks[i] sp = z := ⟨_, rfl⟩
              rw [hq] at hlen ⊢
              rw [hz] at hlen hk ⊢
              rw [eElem_s] at hk
              haveI : Sm 1073741824 q := ⟨by omega⟩
              haveI : Sm 1073741824 z := ⟨by omega⟩
              simp (maxSteps := 200000) (disch := first | omega | (simp only [go_sem] <;> omega) | fail) only [go_sem, hi1, hws, h, cat, callA_pure mode_100, hk, eElem_s]
              try rfl
            · intro _
              have hi1 : ((ks.length : Int) < (ks.length : Int)) = False := eq_false (by omega)
              rw [List.take_length]
              haveI : Sm 1073741824 (writesB ks sp) := ⟨by omega⟩
              simp (maxSteps := 200000) (disch := first | omega | (simp only [go_sem] <;> omega) | fail) only [go_sem, hi1, cat]
              rw [← hR, ← hQ]
              simp
    · have hsp' : (mkS sp = mkS S) = False := eq_false (fun h => hsp (mk_inj.1 h))
      have hns : nsB sp S = [32, 120, 109, 108, 110, 115, 61, 34] ++ softB sp ++ [34] := by rw [nsB, if_neg hsp]
      have hnl : (nsB sp S).length = 9 + (softB sp).length := by rw [hns]; simp only [List.length_append, List.length_cons, List.length_nil]; omega
      have hge := softB_ge sp
      have hpl := refPlain_spec (mkS sp) (by rw [mk_size]; omega)
      rw [lS8_mk] at hpl
      haveI : Sm 1073741824 (softB sp) := ⟨by omega⟩
      have e1 : 60 :: (nm ++ 32 :: 120 :: 109 :: 108 :: 110 :: 115 :: 61 :: 34 :: (softB sp ++ [34])) = H := by rw [← hH, hns]; simp
      simp (maxSteps := 200000) (disch := first | omega | (simp only [go_sem] <;> omega) | fail) only [go_sem, cat, hsp', ne_eq, not_false_eq_true, callA_pure mode_154, hpl, e1]
      refine WP_range 5 1 at'.length (fun i => S_100_5 (.ptr 0 0) (vS (mkS (H ++ (at'.take i).flatMap attrB))) (vI i) [.var [vS (mkS sp), vS (mkS nm), .fs (at'.map eAttr) false, vS (mkS tx), .fs (ks.map eElem) false]]) (fun _ => True) rfl rfl ?_ ?_ ?_ ?_
      · simp (maxSteps := 200000) (disch := first | omega | (simp only [go_sem] <;> omega) | fail) only [go_sem, List.take_zero, List.flatMap_nil, List.append_nil]; rfl
      · trivial
      · intro i h _
        have hi1 : ((i : Int) < (at'.length : Int)) = True := eq_true (by omega)
        have hws := wrap_succ h (show at'.length ≤ 140737488355328 by omega)
        have hlen := attrs_len at' i h
        rw [attrs_step at' i h, ← List.append_assoc]
        obtain ⟨p, hp⟩ : ∃ p, (at'.take i).flatMap attrB = p := ⟨_, rfl⟩
        obtain ⟨⟨an, av⟩, hae⟩ : ∃ a, at'[i] = a := ⟨_, rfl⟩
        obtain ⟨an, rfl⟩ : ∃ l, an = mkS l := ⟨lS8 an, (mk_lS8 _).symm⟩
        obtain ⟨av, rfl⟩ : ∃ l, av = mkS l := ⟨lS8 av, (mk_lS8 _).symm⟩
        rw [hp, hae] at hlen ⊢
        rw [attrB_mk] at hlen ⊢
        simp only [List.length_append, List.length_cons, List.length_nil] at hlen
        have hge := softB_ge av
        have hpl := refPlain_spec (mkS av) (by rw [mk_size]; omega)
        rw [lS8_mk] at hpl
        haveI : Sm 1073741824 p := ⟨by omega⟩
        haveI : Sm 1073741824 an := ⟨by omega⟩
        haveI : Sm 1073741824 (softB av) := ⟨by omega⟩
        simp (maxSteps := 200000) (disch := first | omega | (simp only [go_sem] <;> omega) | fail) only [go_sem, hi1, hws, h, hae, cat, callA_pure mode_154, hpl, eAttr]
      · intro _
        have hi1 : ((at'.length : Int) < (at'.length : Int)) = False := eq_false (by omega)
        rw [List.take_length]
        obtain ⟨A, hA⟩ : ∃ A, at'.flatMap attrB = A := ⟨_, rfl⟩
        rw [hA] at hb hR ⊢
        haveI : Sm 1073741824 A := ⟨by omega⟩
        by_cases hc : ((mkS tx).size == 0 && ks.isEmpty) = true
        · rw [if_pos hc] at hE
          subst hE
          simp only [Bool.and_eq_true, beq_iff_eq, List.isEmpty_iff] at hc
          obtain ⟨h1, rfl⟩ := hc
          have h1 : tx = [] := by rw [mk_size] at h1; exact List.eq_nil_of_length_eq_zero h1
          subst h1
          have hi2 : (mkS [] = (⟨#[]⟩ : ByteArray)) = True := eq_true rfl
          have hi3 : (((0 : Nat) : Int) = 0) = True := eq_true rfl
          simp (maxSteps := 200000) (disch := first | omega | (simp only [go_sem] <;> omega) | fail) only [go_sem, hi1, hi2, hi3, cat]
          rw [← hR]
        · rw [if_neg hc] at hE
          subst hE
          simp only [List.length_append, List.length_cons, List.length_nil] at hb
          have hge := softB_ge tx
          have hpl := refPlain_spec (mkS tx) (by rw [mk_size]; omega)
          rw [lS8_mk] at hpl
          have hkl := kids_le sp ks
          haveI : Sm 1073741824 (softB tx) := ⟨by omega⟩
          have hB : (mkS tx = (⟨#[]⟩ : ByteArray)) = False ∨ ((mkS tx = (⟨#[]⟩ : ByteArray)) = True ∧ ((ks.length : Int) = 0) = False) := by
            by_cases h1 : tx = []
            · subst h1
              refine .inr ⟨eq_true rfl, eq_false fun h => hc ?_⟩
              have : ks = [] := List.eq_nil_of_length_eq_zero (by omega)
              subst this; rfl
            · exact .inl (eq_false fun h => h1 (mk_inj.1 h))
          rcases hB with hB | ⟨hB, hB2⟩
          · simp (maxSteps := 200000) (disch := first | omega | (simp only [go_sem] <;> omega) | fail) only [go_sem, hi1, hB, cat, callA_pure mode_154, hpl]
            obtain ⟨Q0, hQ⟩ : ∃ Q0, H ++ A ++ 62 :: softB tx = Q0 := ⟨_, rfl⟩
            have hQl : Q0.length = H.length + A.length + (1 + (softB tx).length) := by rw [← hQ]; simp only [List.length_append, List.length_cons]; omega
            rw [hQ]
            haveI : Sm 1073741824 Q0 := ⟨by omega⟩
            refine WP_range 12 1 ks.length (fun i => S_100_12 (.ptr 0 0) (vS (mkS (Q0 ++ writesB (ks.take i) sp))) (vI i) [.var [vS (mkS sp), vS (mkS nm), .fs (at'.map eAttr) false, vS (mkS tx), .fs (ks.map eElem) false]]) (fun _ => True) rfl rfl ?_ ?_ ?_ ?_
            · simp (maxSteps := 200000) (disch := first | omega | (simp only [go_sem] <;> omega) | fail) only [go_sem, List.take_zero, writesB, List.append_nil]; rfl
            · trivial
            · intro i h _
              have hi1 : ((i : Int) < (ks.length : Int)) = True := eq_true (by omega)
              have hws := wrap_succ h (show ks.length ≤ 140737488355328 by omega)
              have hlen := writesB_len ks sp i h
              have hk := ih ks[i] sp (by have := cntE_mem (List.getElem_mem h); have := cntE_s (.mk (mkS sp) (mkS nm) at' (mkS tx) ks); simp only [Elem.kids] at this; omega) (by omega)
              rw [writesB_step ks sp i h, ← List.append_assoc]
              obtain ⟨q, hq⟩ : ∃ q, writesB (ks.take i) sp = q := ⟨_, rfl⟩
              obtain ⟨z, hz⟩ : ∃ z, writeB ks[i] sp = z := ⟨_, rfl⟩
              rw [hq] at hlen ⊢
              rw [hz] at hlen hk ⊢
              rw [eElem_s] at hk
              haveI : Sm 1073741824 q := ⟨by omega⟩
              haveI : Sm 1073741824 z := ⟨by omega⟩
              simp (maxSteps := 200000) (disch := first | omega | (simp only [go_sem] <;> omega) | fail) only [go_sem, hi1, hws, h, cat, callA_pure mode_100, hk, eElem_s]
              try rfl
            · intro _
              have hi1 : ((ks.length : Int) < (ks.length : Int)) = False := eq_false (by omega)
              rw [List.take_length]
              haveI : Sm 1073741824 (writesB ks sp) := ⟨by omega⟩
              simp (maxSteps := 200000) (disch := first | omega | (simp only [go_sem] <;> omega) | fail) only [go_sem, hi1, cat]
              rw [← hR, ← hQ]
              simp
          · simp (maxSteps := 200000) (disch := first | omega | (simp only [go_sem] <;> omega) | fail) only [go_sem, hi1, hB, hB2, cat, callA_pure mode_154, hpl]
            obtain ⟨Q0, hQ⟩ : ∃ Q0, H ++ A ++ 62 :: softB tx = Q0 := ⟨_, rfl⟩
            have hQl : Q0.length = H.length + A.length + (1 + (softB tx).length) := by rw [← hQ]; simp only [List.length_append, List.length_cons]; omega
            rw [hQ]
            haveI : Sm 1073741824 Q0 := ⟨by omega⟩
            refine WP_range 12 1 ks.length (fun i => S_100_12 (.ptr 0 0) (vS (mkS (Q0 ++ writesB (ks.take i) sp))) (vI i) [.var [vS (mkS sp), vS (mkS nm), .fs (at'.map eAttr) false, vS (mkS tx), .fs (ks.map eElem) false]]) (fun _ => True) rfl rfl ?_ ?_ ?_ ?_
            · simp (maxSteps := 200000) (disch := first | omega | (simp only [go_sem] <;> omega) | fail) only [go_sem, List.take_zero, writesB, List.append_nil]; rfl
            · trivial
            · intro i h _
              have hi1 : ((i : Int) < (ks.length : Int)) = True := eq_true (by omega)
              have hws := wrap_succ h (show ks.length ≤ 140737488355328 by omega)
              have hlen := writesB_len ks sp i h
              have hk := ih ks[i] sp (by have := cntE_mem (List.getElem_mem h); have := cntE_s (.mk (mkS sp) (mkS nm) at' (mkS tx) ks); simp only [Elem.kids] at this; omega) (by omega)
              rw [writesB_step ks sp i h, ← List.append_assoc]
              obtain ⟨q, hq⟩ : ∃ q, writesB (ks.take i) sp = q := ⟨_, rfl⟩
              obtain ⟨z, hz⟩ : ∃ z, writeB ks[i] sp = z := ⟨_, rfl⟩
              rw [hq] at hlen ⊢
              rw [hz] at hlen hk ⊢
              rw [eElem_s] at hk
              haveI : Sm 1073741824 q := ⟨by omega⟩
              haveI : Sm 1073741824 z := ⟨by omega⟩
              simp (maxSteps := 200000) (disch := first | omega | (simp only [go_sem] <;> omega) | fail) only [go_sem, hi1, hws, h, cat, callA_pure mode_100, hk, eElem_s]
              try rfl
            · intro _
              have hi1 : ((ks.length : Int) < (ks.length : Int)) = False := eq_false (by omega)
              rw [List.take_length]
              haveI : Sm 1073741824 (writesB ks sp) := ⟨by omega⟩
              simp (maxSteps := 200000) (disch := first | omega | (simp only [go_sem] <;> omega) | fail) only [go_sem, hi1, cat]
              rw [← hR, ← hQ]
              simp
end Go.Abs.SA
end
