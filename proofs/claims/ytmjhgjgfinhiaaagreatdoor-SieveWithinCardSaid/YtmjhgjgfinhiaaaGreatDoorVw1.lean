/- YtmjhgjgfinhiaaaGreatDoorVw1: a part of the interpreter by which the claim is shown, and of the walks: no conditions of its own: every theorem states its own. -/
import Derived.Test.YtmjhgjgfinhiaaaGreatDoorVr2
set_option linter.unusedVariables false
set_option linter.unusedSimpArgs false
set_option linter.unusedSectionVars false
set_option maxHeartbeats 8000000
set_option maxRecDepth 100000
section
namespace Go.Abs.SA
open Go.Proofs
def fS : List (List AV) := (SR.flat SR.pairsS).map fun x => [SR.bS x]
def fE : List (List AV) := (SR.flat SR.pairsE).map fun x => [SR.bS x]
theorem fS_eq : ([[.v (.string ⟨#[38]⟩)], [.v (.string ⟨#[38, 97, 109, 112, 59]⟩)], [.v (.string ⟨#[60]⟩)], [.v (.string ⟨#[38, 108, 116, 59]⟩)], [.v (.string ⟨#[62]⟩)], [.v (.string ⟨#[38, 103, 116, 59]⟩)], [.v (.string ⟨#[34]⟩)], [.v (.string ⟨#[38, 113, 117, 111, 116, 59]⟩)], [.v (.string ⟨#[13]⟩)], [.v (.string ⟨#[38, 35, 49, 51, 59]⟩)], [.v (.string ⟨#[10]⟩)], [.v (.string ⟨#[38, 35, 49, 48, 59]⟩)], [.v (.string ⟨#[9]⟩)], [.v (.string ⟨#[38, 35, 57, 59]⟩)]] : List (List AV)) = fS := by kernel_rfl
theorem fE_eq : ([[.v (.string ⟨#[38]⟩)], [.v (.string ⟨#[38, 97, 109, 112, 59]⟩)], [.v (.string ⟨#[60]⟩)], [.v (.string ⟨#[38, 108, 116, 59]⟩)], [.v (.string ⟨#[62]⟩)], [.v (.string ⟨#[38, 103, 116, 59]⟩)], [.v (.string ⟨#[34]⟩)], [.v (.string ⟨#[38, 113, 117, 111, 116, 59]⟩)], [.v (.string ⟨#[13]⟩)], [.v (.string ⟨#[38, 35, 49, 51, 59]⟩)], [.v (.string ⟨#[10]⟩)], [.v (.string ⟨#[38, 35, 49, 48, 59]⟩)], [.v (.string ⟨#[9]⟩)], [.v (.string ⟨#[38, 35, 57, 59]⟩)], [.v (.string ⟨#[32]⟩)], [.v (.string ⟨#[38, 35, 51, 50, 59]⟩)]] : List (List AV)) = fE := by kernel_rfl
def repZ (n : Nat) : Blk := .var [.v (.int .u32 0), .v (.int .i32 0), .v (.int .u32 0), .v .nilIface, .sl 0 0 n false]
theorem newRep_S : loudW XX 204 [.fs fS false] [] = some (.ptr 1 0, [.arr 9 1 fS, repZ 14]) := loudW_iff.2 ⟨20, by kernel_rfl⟩
theorem newRep_E : loudW XX 204 [.fs fE false] [] = some (.ptr 1 0, [.arr 9 1 fE, repZ 16]) := loudW_iff.2 ⟨20, by kernel_rfl⟩
theorem extLY_rep (ys : List AV) (h : List Blk) : extLY 205 ys h = SR.extL_Replace ys h := by unfold extLY; rfl
theorem extY_trim (ys : List AV) : extY 121 ys = ext_Trim ys := by unfold extY; rfl
theorem replace_S (s : Str) (hs : s.size ≤ 1073741824) : loudW XX 205 [.ptr 0 0, vS s] [.var [.v (.int .u32 0), .v (.int .i32 0), .v (.int .u32 0), .v .nilIface, .sl 1 0 14 false], .arr 9 1 fS] = some (vS ⟨(SR.repl SR.pairsS s.data.toList).toArray⟩, [.dead, .dead]) := by
  refine extL_loudW rfl ?_
  have h1 : SR.strsOf fS = some (SR.flat SR.pairsS) := by kernel_rfl
  rw [XX_extL]
  rw [extLY_rep]
  simp [SR.extL_Replace, hs, h1]
theorem replace_E (s : Str) (hs : s.size ≤ 1073741824) : loudW XX 205 [.ptr 0 0, vS s] [.var [.v (.int .u32 0), .v (.int .i32 0), .v (.int .u32 0), .v .nilIface, .sl 1 0 16 false], .arr 9 1 fE] = some (vS ⟨(SR.repl SR.pairsE s.data.toList).toArray⟩, [.dead, .dead]) := by
  refine extL_loudW rfl ?_
  have h1 : SR.strsOf fE = some (SR.flat SR.pairsE) := by kernel_rfl
  rw [XX_extL]
  rw [extLY_rep]
  have h2 : SR.flat SR.pairsE ≠ SR.flat SR.pairsS := by decide
  simp [SR.extL_Replace, hs, h1, h2]
theorem callRep {f : FuncId} (hf : (XX.live f).contains 205 = true) (s : Str) (n : Nat) (F : List (List AV)) (R : Str) (hw : loudW XX 205 [.ptr 0 0, vS s] [.var [.v (.int .u32 0), .v (.int .i32 0), .v (.int .u32 0), .v .nilIface, .sl 1 0 n false], .arr 9 1 F] = some (vS R, [.dead, .dead])) (ts : List AV) :
    callX XX (orW XX) ⟨ts, [.arr 9 1 F, Blk.ren (fun k => some k) (repZ n)]⟩ f 205 [.ptr 1 0, vS s] = some (.st (vS R) ⟨AV.rens (keepF [0]) ts, [.dead, .dead]⟩) := by
  rw [callX_live _ _ hf rfl]
  have hw' : (orW XX).loud 205 [.ptr 0 0, vS s] [.var [.v (.int .u32 0), .v (.int .i32 0), .v (.int .u32 0), .v .nilIface, .sl 1 0 n false], .arr 9 1 F] = some (vS R, [.dead, .dead]) := hw
  simp [callL, reach, addNew, idsOfs, idsOf, dist, AV.rens, AV.ren, posOf, Blk.ren, repZ, hw', badL, badB, putBack, backF]
theorem rens_tmp (bad : List Nat) (m : Nat) (d : AV) (l : List (Nat × AV)) : AV.rens (keepF bad) (mkT m d l) = mkT m (d.ren (keepF bad)) (l.map fun p => (p.1, p.2.ren (keepF bad))) := rens_mkT _ _ _ _
theorem escape_spec (s : Str) (hs : s.size ≤ 1073741824) : pureW XX 206 [vS s] = some (vS ⟨(SR.repl SR.pairsE s.data.toList).toArray⟩) := by
  have hc := callRep (f := 206) (by rw [live_206]; rfl) s 16 fE _ (replace_E s hs)
  refine pureW_in 7 Tryz.func206 Tryz.ntmps206 (by simp) (rfl : Tryz.f206.body = some _) fns_206 ?_
  simp (maxSteps := 200000) (disch := first | omega | (simp only [go_sem] <;> omega) | fail) only [go_sem, fE_eq, callA_fresh mode_204, newRep_E, hc, rens_tmp, AV.ren]
def softB (l : B8) : B8 := if Lib.trimB (SR.repl SR.pairsS l) 32 = [] then SR.repl SR.pairsE l else SR.repl SR.pairsS l
theorem trimSpX (s : Str) (h : s.size ≤ 9223372036854775807) : pureW XX 121 [vS s, vS spS] = some (vS (mkS (Lib.trimB (lS8 s) 32))) := by
  refine loud_pureW (ext_loudW (r := vS (mkS (Lib.trimB (lS8 s) 32))) ?_) rfl
  rw [XX_ext]
  rw [extY_trim]
  unfold ext_Trim
  dsimp only
  rw [if_neg (by rintro ⟨_, h | h⟩ <;> exact absurd h (by decide)), if_pos ⟨h, rfl⟩]
theorem soft_spec (s : Str) (hs : s.size ≤ 1073741824) : pureW XX 153 [vS s] = some (vS ⟨(softB s.data.toList).toArray⟩) := by
  have hc := callRep (f := 153) (by rw [live_153]; rfl) s 14 fS _ (replace_S s hs)
  obtain ⟨r, hr⟩ : ∃ r : Str, (⟨(SR.repl SR.pairsS s.data.toList).toArray⟩ : Str) = r := ⟨_, rfl⟩
  rw [hr] at hc
  have hr' : lS8 r = SR.repl SR.pairsS s.data.toList := by rw [← hr]
  have ht := trimSpX r (by
    have h1 := SR.repl_len SR.ok_S s.data.toList
    have h2 := SR.sum_le SR.ok_S s.data.toList
    have h3 := lS8_len r
    have h4 := lS8_len s
    rw [hr'] at h3
    simp only [lS8] at h4
    omega)
  have he := escape_spec s hs
  by_cases hb : Lib.trimB (SR.repl SR.pairsS s.data.toList) 32 = []
  · have hb' : (mkS (Lib.trimB (lS8 r) 32) = (⟨#[]⟩ : Str)) = True := eq_true (by rw [hr', hb])
    rw [show softB s.data.toList = SR.repl SR.pairsE s.data.toList from if_pos hb]
    refine pureW_in 14 Tryz.func153 Tryz.ntmps153 (by simp) (rfl : Tryz.f153.body = some _) fns_153 ?_
    simp (maxSteps := 200000) (disch := first | omega | (simp only [go_sem] <;> omega) | fail) only [go_sem, fS_eq, callA_fresh mode_204, newRep_S, hc, rens_tmp, AV.ren, callA_data mode_trim, ht, callA_pure mode_206, he, hb']
  · have hb' : (mkS (Lib.trimB (lS8 r) 32) = (⟨#[]⟩ : Str)) = False := eq_false (by
      rw [hr']; intro h
      have := congrArg lS8 h
      rw [lS8_mk] at this
      exact hb this)
    rw [show softB s.data.toList = SR.repl SR.pairsS s.data.toList from if_neg hb, hr]
    refine pureW_in 14 Tryz.func153 Tryz.ntmps153 (by simp) (rfl : Tryz.f153.body = some _) fns_153 ?_
    simp (maxSteps := 200000) (disch := first | omega | (simp only [go_sem] <;> omega) | fail) only [go_sem, fS_eq, callA_fresh mode_204, newRep_S, hc, rens_tmp, AV.ren, callA_data mode_trim, ht, callA_pure mode_206, he, hb']
end Go.Abs.SA
end
section
namespace Go.Abs.SA
open Go.Proofs
theorem mkS_app (a b : B8) : mkS (a ++ b) = mkS a ++ mkS b := by
  apply ByteArray.ext
  show (a ++ b).toArray = (mkS a ++ mkS b).data
  rw [ByteArray.data_append]
  simp
theorem dropW_nil (p : UInt8 → Bool) : ∀ l : B8, l.dropWhile p = [] ↔ l.all p = true
  | [] => by simp
  | c :: r => by
    rw [List.dropWhile_cons, List.all_cons]
    cases h : p c with
    | true => simpa using dropW_nil p r
    | false => simp
theorem dropW_all (p : UInt8 → Bool) : ∀ l : B8, l.all p = (l.dropWhile p).all p
  | [] => rfl
  | c :: r => by
    rw [List.dropWhile_cons]
    cases h : p c with
    | true => rw [List.all_cons, h, Bool.true_and]; simpa using dropW_all p r
    | false => simp
theorem trim_nil (l : B8) : Lib.trimB l 32 = [] ↔ l.all (fun c => c == 32) = true := by
  unfold Lib.trimB Lib.trimLeftB Lib.trimRightB
  rw [dropW_nil, List.all_reverse, ← dropW_all, List.all_reverse]
theorem repl_all (l : B8) : (SR.repl SR.pairsS l).all (fun c => c == 32) = l.all (fun c => c == 32) := by
  induction l with
  | nil => rfl
  | cons c r ih =>
    unfold SR.repl at ih ⊢
    rw [List.flatMap_cons, List.all_append, ih, List.all_cons]
    congr 1
    cases hh : SR.look SR.pairsS c.toNat with
    | none => simp
    | some n =>
      obtain ⟨p, hp, h1, rfl⟩ := SR.look_mem hh
      have h2 : c = p.1 := (UInt8.toNat_inj.1 h1).symm
      subst h2
      have h4 : ∀ q ∈ SR.pairsS, q.2.all (fun c => c == 32) = (q.1 == 32) := by decide
      exact h4 p hp
theorem softB_eq (l : B8) : softB l = SR.repl (if l.all (fun c => c == 32) then SR.pairsE else SR.pairsS) l := by
  unfold softB
  rw [← repl_all l]
  by_cases h : (SR.repl SR.pairsS l).all (fun c => c == 32) = true
  · rw [if_pos ((trim_nil _).2 h), if_pos h]
  · rw [if_neg (fun e => h ((trim_nil _).1 e)), if_neg h]
end Go.Abs.SA
end
section
namespace Go.Abs.SA
open Go.Proofs
def attrB (a : Str × Str) : B8 := [32] ++ lS8 a.1 ++ [61, 34] ++ softB (lS8 a.2) ++ [34]
def nsB (sp S : B8) : B8 := if sp = S then [] else [32, 120, 109, 108, 110, 115, 61, 34] ++ softB sp ++ [34]
def headB (e : Elem) (S : B8) : B8 := [60] ++ lS8 e.name ++ nsB (lS8 e.space) S
mutual
def writeB : Elem → B8 → B8
  | .mk sp nm at' tx ks, S => headB (.mk sp nm at' tx ks) S ++ at'.flatMap attrB ++ (if (tx.size == 0 && ks.isEmpty) = true then [47, 62] else [62] ++ softB (lS8 tx) ++ writesB ks (lS8 sp) ++ [60, 47] ++ lS8 nm ++ [62])
def writesB : List Elem → B8 → B8
  | [], _ => []
  | e :: r, S => writeB e S ++ writesB r S
end
theorem writeB_s (e : Elem) (S : B8) : writeB e S = headB e S ++ e.attrs.flatMap attrB ++ (if (e.text.size == 0 && e.kids.isEmpty) = true then [47, 62] else [62] ++ softB (lS8 e.text) ++ writesB e.kids (lS8 e.space) ++ [60, 47] ++ lS8 e.name ++ [62]) := by
  cases e; rw [writeB]; rfl
theorem writesB_app : ∀ (a b : List Elem) (S : B8), writesB (a ++ b) S = writesB a S ++ writesB b S
  | [], b, S => rfl
  | e :: r, b, S => by simp only [List.cons_append, writesB, writesB_app r b S, List.append_assoc]
theorem writesB_step (l : List Elem) (S : B8) (i : Nat) (h : i < l.length) : writesB (l.take (i + 1)) S = writesB (l.take i) S ++ writeB l[i] S := by
  rw [List.take_succ_eq_append_getElem h, writesB_app]; simp [writesB]
theorem writesB_len (l : List Elem) (S : B8) (i : Nat) (h : i < l.length) : (writesB (l.take i) S).length + (writeB l[i] S).length ≤ (writesB l S).length := by
  conv => rhs; rw [← List.take_append_drop (i + 1) l, writesB_app, writesB_step l S i h]
  simp only [List.length_append]; omega
theorem attrs_step (l : List (Str × Str)) (i : Nat) (h : i < l.length) : (l.take (i + 1)).flatMap attrB = (l.take i).flatMap attrB ++ attrB l[i] := by
  rw [List.take_succ_eq_append_getElem h, List.flatMap_append]; simp
theorem attrs_len (l : List (Str × Str)) (i : Nat) (h : i < l.length) : ((l.take i).flatMap attrB).length + (attrB l[i]).length ≤ (l.flatMap attrB).length := by
  conv => rhs; rw [← List.take_append_drop (i + 1) l, List.flatMap_append, attrs_step l i h]
  simp only [List.length_append]; omega
class Sm (m : outParam Nat) (l : B8) : Prop where
  h : l.length ≤ m
instance : Sm 0 [] := ⟨Nat.le_refl _⟩
instance {m : Nat} {l : B8} {x : UInt8} [hm : Sm m l] : Sm (m + 1) (x :: l) := ⟨by have := hm.h; simp only [List.length_cons]; omega⟩
instance {m n : Nat} {a b : B8} [ha : Sm m a] [hb : Sm n b] : Sm (m + n) (a ++ b) := ⟨by have := ha.h; have := hb.h; simp only [List.length_append]; omega⟩
theorem cat {P : Program} {t m n : Nat} {a b : B8} [ha : Sm m a] [hb : Sm n b] (h : m + n ≤ 4611686018427387904) : binA P .add t (.v (.string (mkS a))) (.v (.string (mkS b))) = some (.v (.string (mkS (a ++ b)))) := by
  have h1 := ha.h
  have h2 := hb.h
  rw [sbin_add _ _ (by rw [mk_size, mk_size]; omega), mkS_app]
theorem softB_ge (l : B8) : l.length ≤ (softB l).length := by
  rw [softB_eq]
  split
  · rw [SR.repl_len SR.ok_E]; omega
  · rw [SR.repl_len SR.ok_S]; omega
theorem mk_inj {a b : B8} : mkS a = mkS b ↔ a = b := ⟨fun h => by have := congrArg lS8 h; simpa using this, fun h => by rw [h]⟩
end Go.Abs.SA
end
section
namespace Go.Abs.SA
open Go.Proofs
instance : EL eAttr 2 := ⟨fun _ => rfl⟩
theorem attrB_mk (an av : B8) : attrB (mkS an, mkS av) = [32] ++ an ++ [61, 34] ++ softB av ++ [34] := by simp only [attrB, lS8_mk]
theorem attrs_le (l : List (Str × Str)) : l.length ≤ (l.flatMap attrB).length := by
  induction l with
  | nil => simp
  | cons a r ih => simp only [List.flatMap_cons, List.length_append, List.length_cons, attrB]; omega
theorem writeB_pos (e : Elem) (S : B8) : 1 ≤ (writeB e S).length := by
  rw [writeB_s]; simp only [headB, List.length_append, List.length_cons]; omega
theorem kidsB_le (S : B8) : ∀ l : List Elem, l.length ≤ (writesB l S).length
  | [] => by simp
  | e :: r => by have := kidsB_le S r; have := writeB_pos e S; simp only [writesB, List.length_append, List.length_cons]; omega
theorem eElem_mk (sp nm : Str) (at' : List (Str × Str)) (tx : Str) (ks : List Elem) : eElem (.mk sp nm at' tx ks) = [vS sp, vS nm, .fs (at'.map eAttr) false, vS tx, .fs (ks.map eElem) false] := by
  rw [eElem_s]; rfl
end Go.Abs.SA
end
section
namespace Go.Abs.SA
open Go.Proofs
def nI : List (Nat × AV) → Bool
  | [] => true
  | p :: es => !(idsOf p.2).contains 1 && nI es
def nI1 (x : AV) : Bool := !(idsOf x).contains 1
theorem nI_nil : nI [] = true := nr rfl
theorem nI_cons (k : Nat) (x : AV) (es : List (Nat × AV)) : nI ((k, x) :: es) = (nI1 x && nI es) := nr rfl
theorem nI1_v (x : Value) : nI1 (.v x) = true := nr rfl
theorem nI1_fs (es : List (List AV)) (b : Bool) : nI1 (.fs es b) = true := nr rfl
theorem nI1_fp (cs : List AV) : nI1 (.fp cs) = true := nr rfl
theorem nI1_ptr (i o : Nat) : nI1 (.ptr i o) = !decide (i = 1) := nr (by
  by_cases h : i = 1
  · subst h; rfl
  · have : ¬ 1 = i := fun e => h e.symm
    simp [nI1, idsOf, h, this])
theorem nI1_tup0 : nI1 (.tup []) = true := nr rfl
theorem nI1_tup (x : AV) (xs : List AV) : nI1 (.tup (x :: xs)) = (nI1 x && nI1 (.tup xs)) := nr (by simp [nI1, idsOf, idsOfs, Bool.not_or])
theorem nI1_agg0 : nI1 (.agg []) = true := nr rfl
theorem nI1_agg (x : AV) (xs : List AV) : nI1 (.agg (x :: xs)) = (nI1 x && nI1 (.agg xs)) := nr (by simp [nI1, idsOf, idsOfs, Bool.not_or])
attribute [go_sem] nI_nil nI_cons nI1_v nI1_fs nI1_fp nI1_ptr nI1_tup0 nI1_tup nI1_agg0 nI1_agg
theorem nI_T {m : Nat} {d : AV} (hd : d = .junk ∨ d = .tup []) {es : List (Nat × AV)} (he : nI es = true) (bad : List Nat) (hb : ∀ i ∈ bad, i = 1) : AV.rens (keepF bad) (mkT m d es) = mkT m d es := by
  rw [rens_mkT]
  have hd' : d.ren (keepF bad) = d := by rcases hd with rfl | rfl <;> rfl
  rw [hd']
  congr 1
  conv => rhs; rw [← List.map_id es]
  refine List.map_congr_left fun p hp => ?_
  have key : ∀ {es : List (Nat × AV)}, nI es = true → ∀ p ∈ es, (idsOf p.2).contains 1 = false := by
    intro es
    induction es with
    | nil => intro _ p hp; cases hp
    | cons q r ih =>
      intro h p hp
      simp only [nI, Bool.and_eq_true, Bool.not_eq_true'] at h
      rcases List.mem_cons.1 hp with rfl | hp
      · exact h.1
      · exact ih h.2 p hp
  have h1 := key he p hp
  rw [ren_keepF bad p.2 (fun i hi hib => by
    have := hb i hib
    subst this
    have h2 : (idsOf p.2).contains 1 = true := List.contains_iff_mem.2 hi
    rw [h1] at h2; cases h2)]
  rfl
theorem bld_callW1 {f g : Nat} (hf : (XX.live f).contains g = true) (a : AV) (ha : a = .v (.pointer none) ∨ a = .ptr 0 0) (l l' : B8) (ys : List AV) (hy : idsOfs ys = []) (hlt : AV.lts 0 (.ptr 0 0 :: ys) = false) (r : AV) (hr : idsOf r = []) (cs1 : List AV) (hcs1 : idsOfs cs1 = []) (o1 : Option Nat) (m : Nat) (d : AV) (hd : d = .junk ∨ d = .tup []) (es : List (Nat × AV)) (he : nI es = true)
    (hw : loudW XX g (.ptr 0 0 :: ys) (bldB a l) = some (r, bldB (.ptr 0 0) l')) :
    callX XX (orW XX) ⟨mkT m d es, [.var [a, .sl 1 0 l.length false] (some 134), .arr 5 1 (l.map eB), .var cs1 o1]⟩ f g (.ptr 0 0 :: ys) =
      some (.st r ⟨mkT m d es, [.var [.ptr 0 0, .sl 1 0 l'.length false] (some 134), .arr 5 1 (l'.map eB), .var cs1 o1]⟩) := by
  rw [callX_live _ _ hf hlt]
  have hw' : (orW XX).loud g (.ptr 0 0 :: ys) (bldB a l) = some (r, bldB (.ptr 0 0) l') := hw
  have hT := fun b hb => nI_T (m := m) hd he b hb
  have hn : ∀ f, AV.rens f ys = ys := fun f => rens_noids f ys hy
  have hn1 : ∀ f, AV.ren f r = r := fun f => ren_noids f r hr
  have hm1 : ∀ f, AV.rens f cs1 = cs1 := fun f => rens_noids f cs1 hcs1
  unfold bldB at hw'
  rcases ha with rfl | rfl <;> by_cases ht : l.length = l'.length <;>
    simp only [ht, reduceIte] at * <;>
    simp [callL, reach, addNew, idsOfs, idsOf, dist, AV.rens, AV.ren, posOf, Blk.ren, hw', badL, badB, putBack, backF, hT, ht, keepF, hy, hn, hn1, hm1, hcs1]
class PA (a : AV) : Prop where
  h : a = .v (.pointer none) ∨ a = .ptr 0 0
instance : PA (.ptr 0 0) := ⟨.inr rfl⟩
class PD (d : AV) : Prop where
  h : d = .junk ∨ d = .tup []
instance : PD .junk := ⟨.inl rfl⟩
instance : PD (.tup []) := ⟨.inr rfl⟩
theorem cW1 {a : AV} [ha : PA a] {l t : B8} {p q : Nat} [hp : Sm p l] [hq : Sm q t] (h : p + q ≤ 68719476736) {N : Nat} (hN : N = l.length) {cs1 : List AV} (hcs1 : idsOfs cs1 = []) {o1 : Option Nat} {m : Nat} {d : AV} [hd : PD d] {es : List (Nat × AV)} (he : nI es = true) :
    callX XX (orW XX) ⟨mkT m d es, [.var [a, .sl 1 0 N false] (some 134), .arr 5 1 (l.map eB), .var cs1 o1]⟩ 98 152 [.ptr 0 0, .v (.string (mkS t))] =
      some (.st (.tup [.v (.int .i64 t.length), .v .nilIface]) ⟨mkT m d es, [.var [.ptr 0 0, .sl 1 0 (l ++ t).length false] (some 134), .arr 5 1 ((l ++ t).map eB), .var cs1 o1]⟩) := by
  subst hN
  have h1 := hp.h
  have h2 := hq.h
  exact bld_callW1 (by rw [live_98]; rfl) a ha.h l (l ++ t) [vS (mkS t)] rfl rfl _ rfl _ hcs1 _ m d hd.h es he (by
    have := writeS_spec a ha.h l (mkS t) (by rw [mk_size]; omega)
    rw [mk_size, lS8_mk] at this
    exact this)
theorem bld_callW2 {f g : Nat} (hf : (XX.live f).contains g = true) (a : AV) (ha : a = .v (.pointer none) ∨ a = .ptr 0 0) (l l' : B8) (ys : List AV) (hy : idsOfs ys = []) (hlt : AV.lts 0 (.ptr 0 0 :: ys) = false) (r : AV) (hr : idsOf r = []) (cs1 : List AV) (hcs1 : idsOfs cs1 = []) (o1 : Option Nat) (cs2 : List AV) (hcs2 : idsOfs cs2 = []) (o2 : Option Nat) (m : Nat) (d : AV) (hd : d = .junk ∨ d = .tup []) (es : List (Nat × AV)) (he : nI es = true)
    (hw : loudW XX g (.ptr 0 0 :: ys) (bldB a l) = some (r, bldB (.ptr 0 0) l')) :
    callX XX (orW XX) ⟨mkT m d es, [.var [a, .sl 1 0 l.length false] (some 134), .arr 5 1 (l.map eB), .var cs1 o1, .var cs2 o2]⟩ f g (.ptr 0 0 :: ys) =
      some (.st r ⟨mkT m d es, [.var [.ptr 0 0, .sl 1 0 l'.length false] (some 134), .arr 5 1 (l'.map eB), .var cs1 o1, .var cs2 o2]⟩) := by
  rw [callX_live _ _ hf hlt]
  have hw' : (orW XX).loud g (.ptr 0 0 :: ys) (bldB a l) = some (r, bldB (.ptr 0 0) l') := hw
  have hT := fun b hb => nI_T (m := m) hd he b hb
  have hn : ∀ f, AV.rens f ys = ys := fun f => rens_noids f ys hy
  have hn1 : ∀ f, AV.ren f r = r := fun f => ren_noids f r hr
  have hm1 : ∀ f, AV.rens f cs1 = cs1 := fun f => rens_noids f cs1 hcs1
  have hm2 : ∀ f, AV.rens f cs2 = cs2 := fun f => rens_noids f cs2 hcs2
  unfold bldB at hw'
  rcases ha with rfl | rfl <;> by_cases ht : l.length = l'.length <;>
    simp only [ht, reduceIte] at * <;>
    simp [callL, reach, addNew, idsOfs, idsOf, dist, AV.rens, AV.ren, posOf, Blk.ren, hw', badL, badB, putBack, backF, hT, ht, keepF, hy, hn, hn1, hm1, hcs1, hm2, hcs2]
theorem cW2 {a : AV} [ha : PA a] {l t : B8} {p q : Nat} [hp : Sm p l] [hq : Sm q t] (h : p + q ≤ 68719476736) {N : Nat} (hN : N = l.length) {cs1 : List AV} (hcs1 : idsOfs cs1 = []) {o1 : Option Nat} {cs2 : List AV} (hcs2 : idsOfs cs2 = []) {o2 : Option Nat} {m : Nat} {d : AV} [hd : PD d] {es : List (Nat × AV)} (he : nI es = true) :
    callX XX (orW XX) ⟨mkT m d es, [.var [a, .sl 1 0 N false] (some 134), .arr 5 1 (l.map eB), .var cs1 o1, .var cs2 o2]⟩ 98 152 [.ptr 0 0, .v (.string (mkS t))] =
      some (.st (.tup [.v (.int .i64 t.length), .v .nilIface]) ⟨mkT m d es, [.var [.ptr 0 0, .sl 1 0 (l ++ t).length false] (some 134), .arr 5 1 ((l ++ t).map eB), .var cs1 o1, .var cs2 o2]⟩) := by
  subst hN
  have h1 := hp.h
  have h2 := hq.h
  exact bld_callW2 (by rw [live_98]; rfl) a ha.h l (l ++ t) [vS (mkS t)] rfl rfl _ rfl _ hcs1 _ _ hcs2 _ m d hd.h es he (by
    have := writeS_spec a ha.h l (mkS t) (by rw [mk_size]; omega)
    rw [mk_size, lS8_mk] at this
    exact this)
theorem bld_callK2 {f g : Nat} (hf : (XX.live f).contains g = true) (a : AV) (ha : a = .v (.pointer none) ∨ a = .ptr 0 0) (l l' : B8) (ys : List AV) (hy : idsOfs ys = []) (hlt : AV.lts 0 (.ptr 0 0 :: ys) = false) (r : AV) (hr : idsOf r = []) (cs1 : List AV) (hcs1 : idsOfs cs1 = []) (o1 : Option Nat) (cs2 : List AV) (hcs2 : idsOfs cs2 = []) (o2 : Option Nat) (m : Nat) (d : AV) (hd : d = .junk ∨ d = .tup []) (es : List (Nat × AV)) (he : nI es = true) (cs' : List AV) (hcs' : idsOfs cs' = []) (o' : Option Nat)
    (hw : loudW XX g (.ptr 0 0 :: ys) (bldB a l) = some (r, bldB (.ptr 0 0) l' ++ [.var cs' o'])) :
    callX XX (orW XX) ⟨mkT m d es, [.var [a, .sl 1 0 l.length false] (some 134), .arr 5 1 (l.map eB), .var cs1 o1, .var cs2 o2]⟩ f g (.ptr 0 0 :: ys) =
      some (.st r ⟨mkT m d es, [.var [.ptr 0 0, .sl 1 0 l'.length false] (some 134), .arr 5 1 (l'.map eB), .var cs1 o1, .var cs2 o2, .var cs' o']⟩) := by
  rw [callX_live _ _ hf hlt]
  have hw' : (orW XX).loud g (.ptr 0 0 :: ys) (bldB a l) = some (r, bldB (.ptr 0 0) l' ++ [.var cs' o']) := hw
  have hT := fun b hb => nI_T (m := m) hd he b hb
  have hn : ∀ f, AV.rens f ys = ys := fun f => rens_noids f ys hy
  have hn1 : ∀ f, AV.ren f r = r := fun f => ren_noids f r hr
  have hm1 : ∀ f, AV.rens f cs1 = cs1 := fun f => rens_noids f cs1 hcs1
  have hm2 : ∀ f, AV.rens f cs2 = cs2 := fun f => rens_noids f cs2 hcs2
  have hm3 : ∀ f, AV.rens f cs' = cs' := fun f => rens_noids f cs' hcs'
  unfold bldB at hw'
  simp only [List.cons_append, List.nil_append] at hw'
  rcases ha with rfl | rfl <;> by_cases ht : l.length = l'.length <;>
    simp only [ht, reduceIte] at * <;>
    simp [callL, reach, addNew, idsOfs, idsOf, dist, AV.rens, AV.ren, posOf, Blk.ren, hw', badL, badB, putBack, backF, hT, ht, keepF, hy, hn, hn1, hm1, hcs1, hm2, hcs2, hm3]
end Go.Abs.SA
end
section
namespace Go.Abs.SA
open Go.Proofs
theorem cWe {a : AV} [ha : PA a] {l t : B8} {p q : Nat} [hp : Sm p l] [hq : Sm q t] (h : p + q ≤ 68719476736) {N : Nat} (hN : N = l.length) {sp nm tx : Str} {A K : List (List AV)} {o : Option Nat} {m : Nat} {d : AV} [hd : PD d] {es : List (Nat × AV)} (he : nI es = true) :
    callX XX (orW XX) ⟨mkT m d es, [.var [a, .sl 1 0 N false] (some 134), .arr 5 1 (l.map eB), .var [vS sp, vS nm, .fs A false, vS tx, .fs K false] o]⟩ 98 152 [.ptr 0 0, .v (.string (mkS t))] =
      some (.st (.tup [.v (.int .i64 t.length), .v .nilIface]) ⟨mkT m d es, [.var [.ptr 0 0, .sl 1 0 (l ++ t).length false] (some 134), .arr 5 1 ((l ++ t).map eB), .var [vS sp, vS nm, .fs A false, vS tx, .fs K false] o]⟩) := cW1 h hN rfl he
theorem cWa {a : AV} [ha : PA a] {l t : B8} {p q : Nat} [hp : Sm p l] [hq : Sm q t] (h : p + q ≤ 68719476736) {N : Nat} (hN : N = l.length) {sp nm tx : Str} {A K : List (List AV)} {o : Option Nat} {an av : Str} {o2 : Option Nat} {m : Nat} {d : AV} [hd : PD d] {es : List (Nat × AV)} (he : nI es = true) :
    callX XX (orW XX) ⟨mkT m d es, [.var [a, .sl 1 0 N false] (some 134), .arr 5 1 (l.map eB), .var [vS sp, vS nm, .fs A false, vS tx, .fs K false] o, .var [vS an, vS av] o2]⟩ 98 152 [.ptr 0 0, .v (.string (mkS t))] =
      some (.st (.tup [.v (.int .i64 t.length), .v .nilIface]) ⟨mkT m d es, [.var [.ptr 0 0, .sl 1 0 (l ++ t).length false] (some 134), .arr 5 1 ((l ++ t).map eB), .var [vS sp, vS nm, .fs A false, vS tx, .fs K false] o, .var [vS an, vS av] o2]⟩) := cW2 h hN rfl rfl he
abbrev hpW (L : B8) (sp nm : B8) (at' : List (Str × Str)) (tx : B8) (ks : List Elem) : List Blk := [.var [.ptr 0 0, .sl 1 0 L.length false] (some 134), .arr 5 1 (L.map eB), .var [vS (mkS sp), vS (mkS nm), .fs (at'.map eAttr) false, vS (mkS tx), .fs (ks.map eElem) false]]
theorem softX (l : B8) (h : l.length ≤ 1073741824) : pureW XX 153 [vS (mkS l)] = some (vS (mkS (softB l))) := by
  have := soft_spec (mkS l) (by rw [mk_size]; exact h)
  exact this
theorem write_spec : ∀ (k : Nat) (e : Elem) (S l : B8) (a : AV) (ha : PA a), cntE e < k → l.length + (writeB e S).length ≤ 1073741824 → loudW XX 98 [.ptr 0 0, .agg (eElem e), vS (mkS S)] (bldB a l) = some (.tup [], bldB (.ptr 0 0) (l ++ writeB e S) ++ [.var (eElem e)]) := by
  intro k
  induction k with
  | zero => intro e S l a ha h; omega
  | succ k ih =>
    intro e S l a ha hc hb
    obtain ⟨sp, nm, at', tx, ks⟩ := e
    obtain ⟨sp, rfl⟩ : ∃ l, sp = mkS l := ⟨lS8 sp, (mk_lS8 _).symm⟩
    obtain ⟨nm, rfl⟩ : ∃ l, nm = mkS l := ⟨lS8 nm, (mk_lS8 _).symm⟩
    obtain ⟨tx, rfl⟩ : ∃ l, tx = mkS l := ⟨lS8 tx, (mk_lS8 _).symm⟩
    rw [eElem_mk]
    rw [writeB_s] at hb ⊢
    simp only [Elem.attrs, Elem.text, Elem.kids, Elem.space, Elem.name, headB, lS8_mk, List.length_append] at hb ⊢
    haveI : Sm 1073741824 nm := ⟨by omega⟩
    haveI : Sm 1073741824 l := ⟨by omega⟩
    have hal := attrs_le at'
    obtain ⟨H, hH⟩ : ∃ H, l ++ ([60] ++ nm ++ nsB sp S) = H := ⟨_, rfl⟩
    have hHl : H.length = l.length + (1 + nm.length + (nsB sp S).length) := by rw [← hH]; simp only [List.length_append, List.length_cons, List.length_nil]; try omega
    obtain ⟨E, hE⟩ : ∃ E, (if ((mkS tx).size == 0 && ks.isEmpty) = true then [47, 62] else [62] ++ softB tx ++ writesB ks sp ++ [60, 47] ++ nm ++ [62]) = E := ⟨_, rfl⟩
    rw [hE] at hb ⊢
    obtain ⟨R, hR⟩ : ∃ R, H ++ at'.flatMap attrB ++ E = R := ⟨_, rfl⟩
    rw [show l ++ ([60] ++ nm ++ nsB sp S ++ at'.flatMap attrB ++ E) = R by rw [← hR, ← hH]; simp]
    simp only [List.length_cons, List.length_nil] at hb
    haveI : Sm 1073741824 H := ⟨by omega⟩
    unfold bldB
    refine loudW_in 81 Tryz.func98 Tryz.ntmps98 (by simp) (rfl : Tryz.f98.body = some _) fns_98 ?_
    by_cases hsp : sp = S
    · have hsp' : (mkS sp = mkS S) = True := eq_true (by rw [hsp])
      have e1 : l ++ 60 :: nm = H := by rw [← hH, nsB, if_pos hsp]; simp
      simp (maxSteps := 200000) (disch := first | omega | (simp only [go_sem] <;> omega) | fail) only [go_sem, cat, hsp', ne_eq, not_true, cWe, e1]
      refine WP_range 5 3 at'.length (fun i => S_98_5 (.ptr 0 0) (.ptr 2 0) (.fs (at'.map eAttr) false) (vI at'.length) (vI i) (hpW (H ++ (at'.take i).flatMap attrB) sp nm at' tx ks)) (fun _ => True) rfl rfl ?_ ?_ ?_ ?_
      · simp (maxSteps := 200000) (disch := first | omega | (simp only [go_sem] <;> omega) | fail) only [go_sem, List.take_zero, List.flatMap_nil, List.append_nil]; rfl
      · trivial
      · intro i h _
        have hi1 : ((i : Int) < (at'.length : Int)) = True := eq_true (by omega)
        have hws := wrap_succ h (show at'.length ≤ 140737488355328 by omega)
        have hlen := attrs_len at' i h
        rw [attrs_step at' i h, ← List.append_assoc]
        obtain ⟨p, hp⟩ : ∃ p, (at'.take i).flatMap attrB = p := ⟨_, rfl⟩
        obtain ⟨⟨an, av⟩, hae⟩ : ∃ a, at'[i] = a := ⟨_, rfl⟩
        obtain ⟨an, rfl⟩ : ∃ l, an = mkS l := ⟨lS8 an, (mk_lS8 _).symm⟩
        obtain ⟨av, rfl⟩ : ∃ l, av = mkS l := ⟨lS8 av, (mk_lS8 _).symm⟩
        rw [hp, hae] at hlen ⊢
        rw [attrB_mk] at hlen ⊢
        simp only [List.length_append, List.length_cons, List.length_nil] at hlen
        have hge := softB_ge av
        have hpl := softX av (by omega)
        haveI : Sm 1073741824 p := ⟨by omega⟩
        haveI : Sm 1073741824 an := ⟨by omega⟩
        haveI : Sm 1073741824 (softB av) := ⟨by omega⟩
        simp (maxSteps := 200000) (disch := first | omega | (simp only [go_sem] <;> omega) | fail) only [go_sem, hi1, hws, h, hae, cat, callA_pure mode_153, hpl, eAttr, cWa, List.length_append]
        simp only [S_98_5, hpW, show (H ++ p ++ 32 :: (an ++ [61, 34] ++ softB av ++ [34])).length = H.length + p.length + (an.length + 2 + (softB av).length + 1 + 1) by simp; omega]
        try rfl
      · intro _
        have hi1 : ((at'.length : Int) < (at'.length : Int)) = False := eq_false (by omega)
        rw [List.take_length]
        obtain ⟨A, hA⟩ : ∃ A, at'.flatMap attrB = A := ⟨_, rfl⟩
        rw [hA] at hb hR ⊢
        haveI : Sm 1073741824 A := ⟨by omega⟩
        by_cases hc : ((mkS tx).size == 0 && ks.isEmpty) = true
        · rw [if_pos hc] at hE
          subst hE
          simp only [Bool.and_eq_true, beq_iff_eq, List.isEmpty_iff] at hc
          obtain ⟨h1, rfl⟩ := hc
          have h1 : tx = [] := by rw [mk_size] at h1; exact List.eq_nil_of_length_eq_zero h1
          subst h1
          have hi2 : (mkS [] = (⟨#[]⟩ : ByteArray)) = True := eq_true rfl
          have hi3 : (((0 : Nat) : Int) = 0) = True := eq_true rfl
          simp (maxSteps := 200000) (disch := first | omega | (simp only [go_sem] <;> omega) | fail) only [go_sem, hi1, hi2, hi3, cat, cWe, List.length_append]
          simp only [← hR, List.length_append, List.length_cons, List.length_nil, Nat.add_assoc]
          done
        · rw [if_neg hc] at hE
          subst hE
          simp only [List.length_append, List.length_cons, List.length_nil] at hb
          have hge := softB_ge tx
          have hpl := softX tx (by omega)
          have hkl := kidsB_le sp ks
          haveI : Sm 1073741824 (softB tx) := ⟨by omega⟩
          have hB : (mkS tx = (⟨#[]⟩ : ByteArray)) = False ∨ ((mkS tx = (⟨#[]⟩ : ByteArray)) = True ∧ ((ks.length : Int) = 0) = False) := by
            by_cases h1 : tx = []
            · subst h1
              refine .inr ⟨eq_true rfl, eq_false fun h => hc ?_⟩
              have : ks = [] := List.eq_nil_of_length_eq_zero (by omega)
              subst this; rfl
            · exact .inl (eq_false fun h => h1 (mk_inj.1 h))
          rcases hB with hB | ⟨hB, hB2⟩
          · simp (maxSteps := 200000) (disch := first | omega | (simp only [go_sem] <;> omega) | fail) only [go_sem, hi1, hB, cat, callA_pure mode_153, hpl, cWe, List.length_append]
            obtain ⟨Q0, hQ⟩ : ∃ Q0, H ++ A ++ 62 :: softB tx = Q0 := ⟨_, rfl⟩
            have hQl : Q0.length = H.length + A.length + (1 + (softB tx).length) := by rw [← hQ]; simp only [List.length_append, List.length_cons]; omega
            rw [hQ]
            haveI : Sm 1073741824 Q0 := ⟨by omega⟩
            refine WP_range 13 3 ks.length (fun i => S_98_13 (.ptr 0 0) (.ptr 2 0) (.fs (ks.map eElem) false) (vI ks.length) (vI i) (hpW (Q0 ++ writesB (ks.take i) sp) sp nm at' tx ks)) (fun _ => True) rfl rfl ?_ ?_ ?_ ?_
            · simp (maxSteps := 200000) (disch := first | omega | (simp only [go_sem] <;> omega) | fail) only [go_sem, List.take_zero, writesB, List.append_nil]
              simp only [S_98_13, hpW, hQl, Nat.add_assoc, Nat.add_comm, Nat.add_left_comm]
              rfl
            · trivial
            · intro i h _
              have hi1 : ((i : Int) < (ks.length : Int)) = True := eq_true (by omega)
              have hws := wrap_succ h (show ks.length ≤ 140737488355328 by omega)
              have hlen := writesB_len ks sp i h
              have hk := fun (L : B8) (hL : L.length + (writeB ks[i] sp).length ≤ 1073741824) => ih ks[i] sp L (.ptr 0 0) inferInstance (by have := cntE_mem (List.getElem_mem h); have := cntE_s (.mk (mkS sp) (mkS nm) at' (mkS tx) ks); simp only [Elem.kids] at this; omega) hL
              rw [writesB_step ks sp i h, ← List.append_assoc]
              obtain ⟨q, hq⟩ : ∃ q, writesB (ks.take i) sp = q := ⟨_, rfl⟩
              obtain ⟨z, hz⟩ : ∃ z, writeB ks[i] sp = z := ⟨_, rfl⟩
              rw [hq] at hlen ⊢
              rw [hz] at hlen hk ⊢
              rw [eElem_s] at hk
              haveI : Sm 1073741824 q := ⟨by omega⟩
              haveI : Sm 1073741824 z := ⟨by omega⟩
              have hcall := fun (m : Nat) (d : AV) (hd : PD d) (es : List (Nat × AV)) (he : nI es = true) => bld_callK2 (f := 98) (g := 98) (by rw [live_98]; rfl) (.ptr 0 0) (.inr rfl) (Q0 ++ q) (Q0 ++ q ++ z) [.agg [vS ks[i].space, vS ks[i].name, .fs (ks[i].attrs.map eAttr) false, vS ks[i].text, .fs (ks[i].kids.map eElem) false], vS (mkS sp)] rfl rfl (.tup []) rfl [vS (mkS sp), vS (mkS nm), .fs (at'.map eAttr) false, vS (mkS tx), .fs (ks.map eElem) false] rfl none [vS ks[i].space, vS ks[i].name, .fs (ks[i].attrs.map eAttr) false, vS ks[i].text, .fs (ks[i].kids.map eElem) false] rfl none m d hd.h es he _ rfl none (hk (Q0 ++ q) (by simp only [List.length_append]; omega))
              simp only [List.length_append] at hcall
              simp (maxSteps := 200000) (disch := first | omega | (simp only [go_sem] <;> omega) | fail) only [go_sem, hi1, hws, h, cat, hcall, eElem_s]
              simp only [S_98_13, hpW, List.length_append]
              try rfl
            · intro _
              have hi1 : ((ks.length : Int) < (ks.length : Int)) = False := eq_false (by omega)
              rw [List.take_length]
              haveI : Sm 1073741824 (writesB ks sp) := ⟨by omega⟩
              simp (maxSteps := 200000) (disch := first | omega | (simp only [go_sem] <;> omega) | fail) only [go_sem, hi1, cat, cWe]
              rw [← hR, ← hQ]
              simp
              try omega
          · simp (maxSteps := 200000) (disch := first | omega | (simp only [go_sem] <;> omega) | fail) only [go_sem, hi1, hB, hB2, cat, callA_pure mode_153, hpl, cWe, List.length_append]
            obtain ⟨Q0, hQ⟩ : ∃ Q0, H ++ A ++ 62 :: softB tx = Q0 := ⟨_, rfl⟩
            have hQl : Q0.length = H.length + A.length + (1 + (softB tx).length) := by rw [← hQ]; simp only [List.length_append, List.length_cons]; omega
            rw [hQ]
            haveI : Sm 1073741824 Q0 := ⟨by omega⟩
            refine WP_range 13 3 ks.length (fun i => S_98_13 (.ptr 0 0) (.ptr 2 0) (.fs (ks.map eElem) false) (vI ks.length) (vI i) (hpW (Q0 ++ writesB (ks.take i) sp) sp nm at' tx ks)) (fun _ => True) rfl rfl ?_ ?_ ?_ ?_
            · simp (maxSteps := 200000) (disch := first | omega | (simp only [go_sem] <;> omega) | fail) only [go_sem, List.take_zero, writesB, List.append_nil]
              simp only [S_98_13, hpW, hQl, Nat.add_assoc, Nat.add_comm, Nat.add_left_comm]
              rfl
            · trivial
            · intro i h _
              have hi1 : ((i : Int) < (ks.length : Int)) = True := eq_true (by omega)
              have hws := wrap_succ h (show ks.length ≤ 140737488355328 by omega)
              have hlen := writesB_len ks sp i h
              have hk := fun (L : B8) (hL : L.length + (writeB ks[i] sp).length ≤ 1073741824) => ih ks[i] sp L (.ptr 0 0) inferInstance (by have := cntE_mem (List.getElem_mem h); have := cntE_s (.mk (mkS sp) (mkS nm) at' (mkS tx) ks); simp only [Elem.kids] at this; omega) hL
              rw [writesB_step ks sp i h, ← List.append_assoc]
              obtain ⟨q, hq⟩ : ∃ q, writesB (ks.take i) sp = q := ⟨_, rfl⟩
              obtain ⟨z, hz⟩ : ∃ z, writeB ks[i] sp = z := ⟨_, rfl⟩
              rw [hq] at hlen ⊢
              rw [hz] at hlen hk ⊢
              rw [eElem_s] at hk
              haveI : Sm 1073741824 q := ⟨by omega⟩
              haveI : Sm 1073741824 z := ⟨by omega⟩
              have hcall := fun (m : Nat) (d : AV) (hd : PD d) (es : List (Nat × AV)) (he : nI es = true) => bld_callK2 (f := 98) (g := 98) (by rw [live_98]; rfl) (.ptr 0 0) (.inr rfl) (Q0 ++ q) (Q0 ++ q ++ z) [.agg [vS ks[i].space, vS ks[i].name, .fs (ks[i].attrs.map eAttr) false, vS ks[i].text, .fs (ks[i].kids.map eElem) false], vS (mkS sp)] rfl rfl (.tup []) rfl [vS (mkS sp), vS (mkS nm), .fs (at'.map eAttr) false, vS (mkS tx), .fs (ks.map eElem) false] rfl none [vS ks[i].space, vS ks[i].name, .fs (ks[i].attrs.map eAttr) false, vS ks[i].text, .fs (ks[i].kids.map eElem) false] rfl none m d hd.h es he _ rfl none (hk (Q0 ++ q) (by simp only [List.length_append]; omega))
              simp only [List.length_append] at hcall
              simp (maxSteps := 200000) (disch := first | omega | (simp only [go_sem] <;> omega) | fail) only [go_sem, hi1, hws, h, cat, hcall, eElem_s]
              simp only [S_98_13, hpW, List.length_append]
              try rfl
            · intro _
              have hi1 : ((ks.length : Int) < (ks.length : Int)) = False := eq_false (by omega)
              rw [List.take_length]
              haveI : Sm 1073741824 (writesB ks sp) := ⟨by omega⟩
              simp (maxSteps := 200000) (disch := first | omega | (simp only [go_sem] <;> omega) | fail) only [go_sem, hi1, cat, cWe]
              rw [← hR, ← hQ]
              simp
              try omega
    · have hsp' : (mkS sp = mkS S) = False := eq_false (fun h => hsp (mk_inj.1 h))
      have hns : nsB sp S = [32, 120, 109, 108, 110, 115, 61, 34] ++ softB sp ++ [34] := by rw [nsB, if_neg hsp]
      have hnl : (nsB sp S).length = 9 + (softB sp).length := by rw [hns]; simp only [List.length_append, List.length_cons, List.length_nil]; omega
      have hge := softB_ge sp
      have hpl := softX sp (by omega)
      haveI : Sm 1073741824 (softB sp) := ⟨by omega⟩
      have e1 : l ++ 60 :: nm ++ 32 :: 120 :: 109 :: 108 :: 110 :: 115 :: 61 :: 34 :: (softB sp ++ [34]) = H := by rw [← hH, hns]; simp
      simp (maxSteps := 200000) (disch := first | omega | (simp only [go_sem] <;> omega) | fail) only [go_sem, cat, hsp', ne_eq, not_false_eq_true, callA_pure mode_153, hpl, cWe, List.length_append, e1]
      refine WP_range 5 3 at'.length (fun i => S_98_5 (.ptr 0 0) (.ptr 2 0) (.fs (at'.map eAttr) false) (vI at'.length) (vI i) (hpW (H ++ (at'.take i).flatMap attrB) sp nm at' tx ks)) (fun _ => True) rfl rfl ?_ ?_ ?_ ?_
      · simp (maxSteps := 200000) (disch := first | omega | (simp only [go_sem] <;> omega) | fail) only [go_sem, List.take_zero, List.flatMap_nil, List.append_nil]; rfl
      · trivial
      · intro i h _
        have hi1 : ((i : Int) < (at'.length : Int)) = True := eq_true (by omega)
        have hws := wrap_succ h (show at'.length ≤ 140737488355328 by omega)
        have hlen := attrs_len at' i h
        rw [attrs_step at' i h, ← List.append_assoc]
        obtain ⟨p, hp⟩ : ∃ p, (at'.take i).flatMap attrB = p := ⟨_, rfl⟩
        obtain ⟨⟨an, av⟩, hae⟩ : ∃ a, at'[i] = a := ⟨_, rfl⟩
        obtain ⟨an, rfl⟩ : ∃ l, an = mkS l := ⟨lS8 an, (mk_lS8 _).symm⟩
        obtain ⟨av, rfl⟩ : ∃ l, av = mkS l := ⟨lS8 av, (mk_lS8 _).symm⟩
        rw [hp, hae] at hlen ⊢
        rw [attrB_mk] at hlen ⊢
        simp only [List.length_append, List.length_cons, List.length_nil] at hlen
        have hge := softB_ge av
        have hpl := softX av (by omega)
        haveI : Sm 1073741824 p := ⟨by omega⟩
        haveI : Sm 1073741824 an := ⟨by omega⟩
        haveI : Sm 1073741824 (softB av) := ⟨by omega⟩
        simp (maxSteps := 200000) (disch := first | omega | (simp only [go_sem] <;> omega) | fail) only [go_sem, hi1, hws, h, hae, cat, callA_pure mode_153, hpl, eAttr, cWa, List.length_append]
        simp only [S_98_5, hpW, show (H ++ p ++ 32 :: (an ++ [61, 34] ++ softB av ++ [34])).length = H.length + p.length + (an.length + 2 + (softB av).length + 1 + 1) by simp; omega]
        try rfl
      · intro _
        have hi1 : ((at'.length : Int) < (at'.length : Int)) = False := eq_false (by omega)
        rw [List.take_length]
        obtain ⟨A, hA⟩ : ∃ A, at'.flatMap attrB = A := ⟨_, rfl⟩
        rw [hA] at hb hR ⊢
        haveI : Sm 1073741824 A := ⟨by omega⟩
        by_cases hc : ((mkS tx).size == 0 && ks.isEmpty) = true
        · rw [if_pos hc] at hE
          subst hE
          simp only [Bool.and_eq_true, beq_iff_eq, List.isEmpty_iff] at hc
          obtain ⟨h1, rfl⟩ := hc
          have h1 : tx = [] := by rw [mk_size] at h1; exact List.eq_nil_of_length_eq_zero h1
          subst h1
          have hi2 : (mkS [] = (⟨#[]⟩ : ByteArray)) = True := eq_true rfl
          have hi3 : (((0 : Nat) : Int) = 0) = True := eq_true rfl
          simp (maxSteps := 200000) (disch := first | omega | (simp only [go_sem] <;> omega) | fail) only [go_sem, hi1, hi2, hi3, cat, cWe, List.length_append]
          simp only [← hR, List.length_append, List.length_cons, List.length_nil, Nat.add_assoc]
          done
        · rw [if_neg hc] at hE
          subst hE
          simp only [List.length_append, List.length_cons, List.length_nil] at hb
          have hge := softB_ge tx
          have hpl := softX tx (by omega)
          have hkl := kidsB_le sp ks
          haveI : Sm 1073741824 (softB tx) := ⟨by omega⟩
          have hB : (mkS tx = (⟨#[]⟩ : ByteArray)) = False ∨ ((mkS tx = (⟨#[]⟩ : ByteArray)) = True ∧ ((ks.length : Int) = 0) = False) := by
            by_cases h1 : tx = []
            · subst h1
              refine .inr ⟨eq_true rfl, eq_false fun h => hc ?_⟩
              have : ks = [] := List.eq_nil_of_length_eq_zero (by omega)
              subst this; rfl
            · exact .inl (eq_false fun h => h1 (mk_inj.1 h))
          rcases hB with hB | ⟨hB, hB2⟩
          · simp (maxSteps := 200000) (disch := first | omega | (simp only [go_sem] <;> omega) | fail) only [go_sem, hi1, hB, cat, callA_pure mode_153, hpl, cWe, List.length_append]
            obtain ⟨Q0, hQ⟩ : ∃ Q0, H ++ A ++ 62 :: softB tx = Q0 := ⟨_, rfl⟩
            have hQl : Q0.length = H.length + A.length + (1 + (softB tx).length) := by rw [← hQ]; simp only [List.length_append, List.length_cons]; omega
            rw [hQ]
            haveI : Sm 1073741824 Q0 := ⟨by omega⟩
            refine WP_range 13 3 ks.length (fun i => S_98_13 (.ptr 0 0) (.ptr 2 0) (.fs (ks.map eElem) false) (vI ks.length) (vI i) (hpW (Q0 ++ writesB (ks.take i) sp) sp nm at' tx ks)) (fun _ => True) rfl rfl ?_ ?_ ?_ ?_
            · simp (maxSteps := 200000) (disch := first | omega | (simp only [go_sem] <;> omega) | fail) only [go_sem, List.take_zero, writesB, List.append_nil]
              simp only [S_98_13, hpW, hQl, Nat.add_assoc, Nat.add_comm, Nat.add_left_comm]
              rfl
            · trivial
            · intro i h _
              have hi1 : ((i : Int) < (ks.length : Int)) = True := eq_true (by omega)
              have hws := wrap_succ h (show ks.length ≤ 140737488355328 by omega)
              have hlen := writesB_len ks sp i h
              have hk := fun (L : B8) (hL : L.length + (writeB ks[i] sp).length ≤ 1073741824) => ih ks[i] sp L (.ptr 0 0) inferInstance (by have := cntE_mem (List.getElem_mem h); have := cntE_s (.mk (mkS sp) (mkS nm) at' (mkS tx) ks); simp only [Elem.kids] at this; omega) hL
              rw [writesB_step ks sp i h, ← List.append_assoc]
              obtain ⟨q, hq⟩ : ∃ q, writesB (ks.take i) sp = q := ⟨_, rfl⟩
              obtain ⟨z, hz⟩ : ∃ z, writeB ks[i] sp = z := ⟨_, rfl⟩
              rw [hq] at hlen ⊢
              rw [hz] at hlen hk ⊢
              rw [eElem_s] at hk
              haveI : Sm 1073741824 q := ⟨by omega⟩
              haveI : Sm 1073741824 z := ⟨by omega⟩
              have hcall := fun (m : Nat) (d : AV) (hd : PD d) (es : List (Nat × AV)) (he : nI es = true) => bld_callK2 (f := 98) (g := 98) (by rw [live_98]; rfl) (.ptr 0 0) (.inr rfl) (Q0 ++ q) (Q0 ++ q ++ z) [.agg [vS ks[i].space, vS ks[i].name, .fs (ks[i].attrs.map eAttr) false, vS ks[i].text, .fs (ks[i].kids.map eElem) false], vS (mkS sp)] rfl rfl (.tup []) rfl [vS (mkS sp), vS (mkS nm), .fs (at'.map eAttr) false, vS (mkS tx), .fs (ks.map eElem) false] rfl none [vS ks[i].space, vS ks[i].name, .fs (ks[i].attrs.map eAttr) false, vS ks[i].text, .fs (ks[i].kids.map eElem) false] rfl none m d hd.h es he _ rfl none (hk (Q0 ++ q) (by simp only [List.length_append]; omega))
              simp only [List.length_append] at hcall
              simp (maxSteps := 200000) (disch := first | omega | (simp only [go_sem] <;> omega) | fail) only [go_sem, hi1, hws, h, cat, hcall, eElem_s]
              simp only [S_98_13, hpW, List.length_append]
              try rfl
            · intro _
              have hi1 : ((ks.length : Int) < (ks.length : Int)) = False := eq_false (by omega)
              rw [List.take_length]
              haveI : Sm 1073741824 (writesB ks sp) := ⟨by omega⟩
              simp (maxSteps := 200000) (disch := first | omega | (simp only [go_sem] <;> omega) | fail) only [go_sem, hi1, cat, cWe]
              rw [← hR, ← hQ]
              simp
              try omega
          · simp (maxSteps := 200000) (disch := first | omega | (simp only [go_sem] <;> omega) | fail) only [go_sem, hi1, hB, hB2, cat, callA_pure mode_153, hpl, cWe, List.length_append]
            obtain ⟨Q0, hQ⟩ : ∃ Q0, H ++ A ++ 62 :: softB tx = Q0 := ⟨_, rfl⟩
            have hQl : Q0.length = H.length + A.length + (1 + (softB tx).length) := by rw [← hQ]; simp only [List.length_append, List.length_cons]; omega
            rw [hQ]
            haveI : Sm 1073741824 Q0 := ⟨by omega⟩
            refine WP_range 13 3 ks.length (fun i => S_98_13 (.ptr 0 0) (.ptr 2 0) (.fs (ks.map eElem) false) (vI ks.length) (vI i) (hpW (Q0 ++ writesB (ks.take i) sp) sp nm at' tx ks)) (fun _ => True) rfl rfl ?_ ?_ ?_ ?_
            · simp (maxSteps := 200000) (disch := first | omega | (simp only [go_sem] <;> omega) | fail) only [go_sem, List.take_zero, writesB, List.append_nil]
              simp only [S_98_13, hpW, hQl, Nat.add_assoc, Nat.add_comm, Nat.add_left_comm]
              rfl
            · trivial
            · intro i h _
              have hi1 : ((i : Int) < (ks.length : Int)) = True := eq_true (by omega)
              have hws := wrap_succ h (show ks.length ≤ 140737488355328 by omega)
              have hlen := writesB_len ks sp i h
              have hk := fun (L : B8) (hL : L.length + (writeB ks[i] sp).length ≤ 1073741824) => ih ks[i] sp L (.ptr 0 0) inferInstance (by have := cntE_mem (List.getElem_mem h); have := cntE_s (.mk (mkS sp) (mkS nm) at' (mkS tx) ks); simp only [Elem.kids] at this; omega) hL
              rw [writesB_step ks sp i h, ← List.append_assoc]
              obtain ⟨q, hq⟩ : ∃ q, writesB (ks.take i) sp = q := ⟨_, rfl⟩
              obtain ⟨z, hz⟩ : ∃ z, writeB ks[i] sp = z := ⟨_, rfl⟩
              rw [hq] at hlen ⊢
              rw [hz] at hlen hk ⊢
              rw [eElem_s] at hk
              haveI : Sm 1073741824 q := ⟨by omega⟩
              haveI : Sm 1073741824 z := ⟨by omega⟩
              have hcall := fun (m : Nat) (d : AV) (hd : PD d) (es : List (Nat × AV)) (he : nI es = true) => bld_callK2 (f := 98) (g := 98) (by rw [live_98]; rfl) (.ptr 0 0) (.inr rfl) (Q0 ++ q) (Q0 ++ q ++ z) [.agg [vS ks[i].space, vS ks[i].name, .fs (ks[i].attrs.map eAttr) false, vS ks[i].text, .fs (ks[i].kids.map eElem) false], vS (mkS sp)] rfl rfl (.tup []) rfl [vS (mkS sp), vS (mkS nm), .fs (at'.map eAttr) false, vS (mkS tx), .fs (ks.map eElem) false] rfl none [vS ks[i].space, vS ks[i].name, .fs (ks[i].attrs.map eAttr) false, vS ks[i].text, .fs (ks[i].kids.map eElem) false] rfl none m d hd.h es he _ rfl none (hk (Q0 ++ q) (by simp only [List.length_append]; omega))
              simp only [List.length_append] at hcall
              simp (maxSteps := 200000) (disch := first | omega | (simp only [go_sem] <;> omega) | fail) only [go_sem, hi1, hws, h, cat, hcall, eElem_s]
              simp only [S_98_13, hpW, List.length_append]
              try rfl
            · intro _
              have hi1 : ((ks.length : Int) < (ks.length : Int)) = False := eq_false (by omega)
              rw [List.take_length]
              haveI : Sm 1073741824 (writesB ks sp) := ⟨by omega⟩
              simp (maxSteps := 200000) (disch := first | omega | (simp only [go_sem] <;> omega) | fail) only [go_sem, hi1, cat, cWe]
              rw [← hR, ← hQ]
              simp
              try omega
end Go.Abs.SA
end
section
namespace Go.Abs.SA
open Go.Proofs
theorem txt_write {f : Nat} (hf : (XX.live f).contains 98 = true) (l' : B8) (x : Elem) (ys : List AV) (hy : idsOfs ys = []) (cs : List AV) (hcs : idsOfs cs = []) (m : Nat) (d : AV) (hd : d = .junk ∨ d = .tup []) (es : List (Nat × AV)) (he : nI es = true)
    (hw : loudW XX 98 (.ptr 0 0 :: ys) (bldB (.v (.pointer none)) []) = some (.tup [], bldB (.ptr 0 0) l' ++ [.var (eElem x)])) :
    callX XX (orW XX) ⟨mkT m d es, [.var cs, .arr 5 1 [], .var [.v (.pointer none), .sl 1 0 0 false] (some 134)]⟩ f 98 (.ptr 2 0 :: ys) =
      some (.st (.tup []) ⟨mkT m d es, [.var cs, .arr 5 1 (l'.map eB), .var [.ptr 2 0, .sl 1 0 l'.length false] (some 134), .var (eElem x)]⟩) := by
  rw [callX_live _ _ hf (by simp [AV.lts, AV.lt])]
  have hw' : (orW XX).loud 98 (.ptr 0 0 :: ys) [.var [.v (.pointer none), .sl 1 0 0 false] (some 134), .arr 5 1 []] = some (.tup [], bldB (.ptr 0 0) l' ++ [.var (eElem x)]) := hw
  have hT := fun b hb => nI_T (m := m) hd he b hb
  have hn : ∀ f, AV.rens f ys = ys := fun f => rens_noids f ys hy
  have hn2 : ∀ f, AV.rens f cs = cs := fun f => rens_noids f cs hcs
  have hx : ∀ f, AV.rens f (eElem x) = eElem x := fun f => rens_noids f _ (by rw [eElem_s]; rfl)
  unfold bldB at hw'
  simp only [List.cons_append, List.nil_append] at hw'
  by_cases ht : l' = []
  · subst ht
    simp [callL, reach, addNew, idsOfs, idsOf, dist, AV.rens, AV.ren, posOf, Blk.ren, hw', badL, badB, putBack, backF, hT, keepF, hy, hn, hn2, hcs, hx]
  · have ht' : ¬ 0 = l'.length := fun h => ht (List.eq_nil_of_length_eq_zero h.symm)
    simp [callL, reach, addNew, idsOfs, idsOf, dist, AV.rens, AV.ren, posOf, Blk.ren, hw', badL, badB, putBack, backF, hT, ht, ht', keepF, hy, hn, hn2, hcs, hx]
theorem txt_string {f : Nat} (hf : (XX.live f).contains 99 = true) (l : B8) (cs cs' : List AV) (hcs : idsOfs cs = []) (hcs' : idsOfs cs' = []) (m : Nat) (d : AV) (hd : d = .junk ∨ d = .tup []) (es : List (Nat × AV)) (he : nI es = true) :
    callX XX (orW XX) ⟨mkT m d es, [.var cs, .arr 5 1 (l.map eB), .var [.ptr 2 0, .sl 1 0 l.length false] (some 134), .var cs']⟩ f 99 [.ptr 2 0] =
      some (.st (vS (mkS l)) ⟨mkT m d es, [.var cs, .dead, .var [.ptr 2 0, .junk] (some 134), .var cs']⟩) := by
  rw [callX_live _ _ hf rfl]
  have hw' : (orW XX).loud 99 [.ptr 0 0] (bldB (.ptr 0 0) l) = some (vS (mkS l), [.var [.ptr 0 0, .junk] (some 134), .dead]) := string_spec (.ptr 0 0) (.inr rfl) l
  have hT := fun b hb => nI_T (m := m) hd he b hb
  have hn2 : ∀ f, AV.rens f cs = cs := fun f => rens_noids f cs hcs
  have hn3 : ∀ f, AV.rens f cs' = cs' := fun f => rens_noids f cs' hcs'
  unfold bldB at hw'
  simp [callL, reach, addNew, idsOfs, idsOf, dist, AV.rens, AV.ren, posOf, Blk.ren, hw', badL, badB, putBack, backF, hT, keepF, hn2, hn3, hcs]
theorem text_spec (e : Elem) (hb : (writeB e []).length ≤ 1073741824) : pureW XX 43 [.agg (eElem e)] = some (vS (mkS (writeB e []))) := by
  have hw := write_spec (cntE e + 1) e [] [] (.v (.pointer none)) ⟨.inl rfl⟩ (by omega) (by simpa using hb)
  obtain ⟨R, hR⟩ : ∃ R, writeB e [] = R := ⟨_, rfl⟩
  rw [hR, List.nil_append] at hw
  rw [hR]
  have hid : idsOfs (eElem e) = [] := by rw [eElem_s]; rfl
  have h1 := fun m d (hd : PD d) es he => txt_write (f := 43) (by rw [live_43]; rfl) R e [.agg (eElem e), .v (.string ⟨#[]⟩)] (by rw [eElem_s]; rfl) (eElem e) hid m d hd.h es he hw
  have h2 := fun m d (hd : PD d) es he => txt_string (f := 43) (by rw [live_43]; rfl) R (eElem e) (eElem e) hid hid m d hd.h es he
  rw [eElem_s] at h1 h2
  refine pureW_in 7 Tryz.func43 Tryz.ntmps43 (by simp) (rfl : Tryz.f43.body = some _) fns_43 ?_
  simp (maxSteps := 200000) (disch := first | omega | (simp only [go_sem] <;> omega) | fail) only [go_sem, eElem_s, h1, h2]
end Go.Abs.SA
end
section
namespace Go.Abs.SA
open Go.Proofs
def aW (a : Str × Str) : Nat := a.1.size + a.2.size + 1
mutual
def eW : Elem → Nat
  | .mk sp nm at' tx ks => sp.size + nm.size + tx.size + (at'.map aW).sum + eWs ks + 1
def eWs : List Elem → Nat
  | [] => 0
  | e :: r => eW e + eWs r
end
theorem eW_s (e : Elem) : eW e = e.space.size + e.name.size + e.text.size + (e.attrs.map aW).sum + eWs e.kids + 1 := by cases e; rw [eW]; rfl
end Go.Abs.SA
end
section
namespace Go.Abs.SA
open Go.Proofs
theorem softB_le (l : B8) : (softB l).length ≤ 6 * l.length := by
  rw [softB_eq]
  split
  · rw [SR.repl_len SR.ok_E]; have := SR.sum_le SR.ok_E l; omega
  · rw [SR.repl_len SR.ok_S]; have := SR.sum_le SR.ok_S l; omega
theorem attrB_le : ∀ (l : List (Str × Str)), (l.flatMap attrB).length ≤ 14 * (l.map aW).sum
  | [] => by simp
  | a :: r => by
    have := attrB_le r
    have h1 := softB_le (lS8 a.2)
    rw [lS8_len] at h1
    have h2 := lS8_len a.1
    simp only [List.flatMap_cons, List.length_append, List.map_cons, List.sum_cons, aW]
    simp only [attrB, List.length_append, List.length_cons, List.length_nil]
    omega
theorem writeB_le : ∀ (k : Nat) (e : Elem) (S : B8), eW e < k → (writeB e S).length ≤ 14 * eW e := by
  intro k
  induction k with
  | zero => intro e S h; omega
  | succ k ih =>
    intro e S h
    have hl : ∀ (l : List Elem) (S : B8), eWs l < k → (writesB l S).length ≤ 14 * eWs l := by
      intro l
      induction l with
      | nil => intro S _; simp [writesB]
      | cons x r ih2 =>
        intro S hm
        simp only [eWs] at hm
        have h1 := ih x S (by omega)
        have h2 := ih2 S (by omega)
        simp only [writesB, List.length_append, eWs]
        omega
    have hs := eW_s e
    have hk := hl e.kids (lS8 e.space) (by omega)
    have h1 := softB_le (lS8 e.space)
    have h2 := softB_le (lS8 e.text)
    have h3 := attrB_le e.attrs
    rw [lS8_len] at h1 h2
    have h4 := lS8_len e.name
    have hn : (nsB (lS8 e.space) S).length ≤ 9 + 6 * e.space.size := by
      unfold nsB; split
      · simp
      · simp only [List.length_append, List.length_cons, List.length_nil]; omega
    rw [writeB_s]
    unfold headB
    split <;> simp only [List.length_append, List.length_cons, List.length_nil] <;> omega
end Go.Abs.SA
end
