/- YtmjhgjgfinhiaaaGreatDoorXp2: a part of the interpreter by which the claim is shown, and of the walks: no conditions of its own: every theorem states its own. -/
import Derived.Test.YtmjhgjgfinhiaaaGreatDoorXp1
set_option linter.unusedVariables false
set_option linter.unusedSimpArgs false
set_option linter.unusedSectionVars false
set_option maxHeartbeats 8000000
set_option maxRecDepth 100000
section
namespace Go.Abs.SA
open Go.Proofs
abbrev Scp := List (B8 × B8)
def scA : Scp → AV
  | [] => .v (.pointer none)
  | (p, u) :: r => .fp [scA r, vS (mkS p), vS (mkS u)]
theorem scA_nil : scA [] = .v (.pointer none) := nr (by rw [scA])
theorem scA_cons (p u : B8) (r : Scp) : scA ((p, u) :: r) = .fp [scA r, vS (mkS p), vS (mkS u)] := nr (by rw [scA])
theorem scA_lt (n : Nat) (c : Scp) : (scA c).lt n = true := nr (by cases c <;> (rw [scA]; rfl))
theorem scA_frz (h : List Blk) (c : Scp) : frz h 6 (scA c) = some (scA c) := nr (by cases c <;> (rw [scA, frz.eq_def]))
theorem bne_tt : (true != true) = false := nr rfl
theorem bne_ft : (false != true) = true := nr rfl
attribute [go_sem] scA_lt scA_frz bne_tt bne_ft
def findM : Scp → B8 → B8 × Bool
  | [], q => ([], decide (q = []))
  | (p, u) :: r, q => if p = q then (u, true) else findM r q
theorem scFind_spec (c0 : Scp) (q : B8) : pureW XX 132 [scA c0, vS (mkS q)] = some (.tup [vS (mkS (findM c0 q).1), vB (findM c0 q).2]) := by
  obtain ⟨out, hout⟩ : ∃ o, findM c0 q = o := ⟨_, rfl⟩
  rw [hout]
  refine pureW_in 24 Tryz.func132 Tryz.ntmps132 (by simp) (rfl : Tryz.f132.body = some _) fns_132 ?_
  simp (maxSteps := 200000) (disch := first | omega | (simp only [go_sem] <;> omega) | fail) only [go_sem]
  refine WP_loopR 1 0 (fun (c : Scp) => S_132_1 (scA c) (vS (mkS q)) []) (fun c => c.length) (fun c => out = findM c q) c0 rfl rfl ?_ ?_ ?_
  · simp (maxSteps := 200000) (disch := first | omega | (simp only [go_sem] <;> omega) | fail) only [go_sem]
    try rfl
  · exact hout.symm
  rintro c hI
  cases c with
  | nil =>
    rw [findM] at hI
    subst hI
    have e : (mkS q = ⟨#[]⟩) = (q = []) := by rw [← mkS_inj]
    simp (maxSteps := 200000) (disch := first | omega | (simp only [go_sem] <;> omega) | fail) only [go_sem, scA_nil, e]
    try rfl
  | cons a r =>
    obtain ⟨p, u⟩ := a
    rw [findM] at hI
    by_cases h : p = q
    · rw [if_pos h] at hI
      subst hI
      have e : (mkS p = mkS q) = True := by rw [mkS_inj]; exact eq_true h
      simp (maxSteps := 200000) (disch := first | omega | (simp only [go_sem] <;> omega) | fail) only [go_sem, scA_cons, e]
      try rfl
    · rw [if_neg h] at hI
      have e : (mkS p = mkS q) = False := by rw [mkS_inj]; exact eq_false h
      simp (maxSteps := 200000) (disch := first | omega | (simp only [go_sem] <;> omega) | fail) only [go_sem, scA_cons, e]
      refine ⟨r, by try rfl, hI, by simp⟩
end Go.Abs.SA
end
section
namespace Go.Abs.SA
open Go.Proofs
def cA2 (a : B8 × B8) : List AV := [vS (mkS a.1), vS (mkS a.2)]
theorem cA2_s (a : B8 × B8) : cA2 a = [vS (mkS a.1), vS (mkS a.2)] := nr rfl
instance : EL cA2 2 := ⟨fun _ => rfl⟩
def named (l : B8) (a : B8 × B8) : Bool := decide (a.1 = l)
theorem elem2_spec (a : B8 × B8) (p l v : B8) : pureW XX 134 [.agg (cA2 a), .fp [vS (mkS p), vS (mkS l), vS (mkS v)]] = some (vB (named l a)) := by
  unfold named
  have e := mkS_inj a.1 l
  refine pureW_in 10 Tryz.func134 Tryz.ntmps134 (by simp) (rfl : Tryz.f134.body = some _) fns_134 ?_
  simp (maxSteps := 200000) (disch := first | omega | (simp only [go_sem] <;> omega) | fail) only [go_sem, cA2_s, e]
theorem indexAt_spec (ats : List (B8 × B8)) (p l v : B8) (hl : ats.length ≤ 140737488355328) : pureW XX 189 [.fs (ats.map cA2) false, .fn 134 [.fp [vS (mkS p), vS (mkS l), vS (mkS v)]]] = some (vI (posI (ats.findIdx? (named l)))) := by
  refine pureW_in 19 Tryz.func189 Tryz.ntmps189 (by simp) (rfl : Tryz.f189.body = some _) fns_189 ?_
  simp (maxSteps := 200000) (disch := first | omega | (simp only [go_sem] <;> omega) | fail) only [go_sem]
  refine WP_range 2 0 ats.length (fun i => S_189_2 (.fs (ats.map cA2) false) (.fn 134 [.fp [vS (mkS p), vS (mkS l), vS (mkS v)]]) (vI ats.length) (vI i) []) (fun i => (ats.findIdx? (named l)) = ((ats.drop i).findIdx? (named l)).map (· + i)) rfl rfl ?_ ?_ ?_ ?_
  · simp (maxSteps := 200000) (disch := first | omega | (simp only [go_sem] <;> omega) | fail) only [go_sem]; rfl
  · simp
  · intro i h hI
    rw [findIdx_stepA _ _ h] at hI
    have hk := elem2_spec ats[i] p l v
    rw [cA2_s] at hk
    cases hv : (named l) ats[i] with
    | true =>
      rw [hv] at hk hI
      simp (maxSteps := 200000) (disch := first | omega | (simp only [go_sem] <;> omega) | fail) only [go_sem, nat_int, h, cA2_s, callA_pure mode_134, hk]
      rw [hI]
      simp [posI]
    | false =>
      rw [hv] at hk hI
      simp (maxSteps := 200000) (disch := first | omega | (simp only [go_sem] <;> omega) | fail) only [go_sem, nat_int, h, cA2_s, callA_pure mode_134, hk, wrap_succ h hl]
      rw [hI]
      simp
      congr 1
      funext x
      simp
      omega
  · intro hI
    simp (maxSteps := 200000) (disch := first | omega | (simp only [go_sem] <;> omega) | fail) only [go_sem, nat_int]
    rw [hI]
    simp [posI]
theorem containsAt_spec (ats : List (B8 × B8)) (p l v : B8) (hl : ats.length ≤ 140737488355328) : pureW XX 133 [.fs (ats.map cA2) false, .fn 134 [.fp [vS (mkS p), vS (mkS l), vS (mkS v)]]] = some (vB (ats.any (named l))) := by
  have hx := indexAt_spec ats p l v hl
  refine pureW_in 9 Tryz.func133 Tryz.ntmps133 (by simp) (rfl : Tryz.f133.body = some _) fns_133 ?_
  cases hf : ats.findIdx? (named l) with
  | none =>
    rw [hf] at hx
    have : ats.any (named l) = false := by
      rw [List.any_eq_false]
      intro x hh
      have := List.findIdx?_eq_none_iff.1 hf x hh
      simpa using this
    have e : ((0 : Int) ≤ -1) = False := eq_false (by omega)
    simp (maxSteps := 200000) (disch := first | omega | (simp only [go_sem] <;> omega) | fail) only [go_sem, callA_pure mode_189, hx, posI, this, e]
  | some i =>
    rw [hf] at hx
    have : ats.any (named l) = true := by
      rw [List.any_eq_true]
      obtain ⟨h, h2, _⟩ := List.findIdx?_eq_some_iff_getElem.1 hf
      exact ⟨ats[i], List.getElem_mem h, h2⟩
    have e : ((0 : Int) ≤ (i : Int)) = True := eq_true (by omega)
    simp (maxSteps := 200000) (disch := first | omega | (simp only [go_sem] <;> omega) | fail) only [go_sem, callA_pure mode_189, hx, posI, this, e]
end Go.Abs.SA
end
section
namespace Go.Abs.SA
open Go.Proofs
abbrev xmlnsB : B8 := [120, 109, 108, 110, 115]
def scpM : List At3 → Scp → Option Scp
  | [], c => some c
  | (p, l, v) :: r, c =>
    if p ≠ [] ∧ l = xmlnsB then none
    else if p = [] ∧ l = xmlnsB then scpM r (([], v) :: c)
    else if p = xmlnsB then (if v = [] then none else scpM r ((l, v) :: c))
    else scpM r c
def pickM (c : Scp) : List At3 → List (B8 × B8) → Option (List (B8 × B8))
  | [], acc => some acc
  | (p, l, v) :: r, acc =>
    if p = xmlnsB ∨ (p = [] ∧ l = xmlnsB) then pickM c r acc
    else if (findM c p).2 = false ∨ acc.any (named l) = true then none
    else pickM c r (acc ++ [(l, v)])
def insA (x : B8 × B8) : List (B8 × B8) → List (B8 × B8)
  | [] => [x]
  | y :: r => if Lib.compareBytes y.1 x.1 < 0 then y :: insA x r else x :: y :: r
def srtA (l : List (B8 × B8)) : List (B8 × B8) := l.foldr insA []
abbrev strA (a : B8 × B8) : Str × Str := (mkS a.1, mkS a.2)
abbrev E0 : Elem := .mk ⟨#[]⟩ ⟨#[]⟩ [] ⟨#[]⟩ []
abbrev tltS : B8 := [60, 47]
abbrev cdaS : B8 := [60, 33, 91, 67, 68, 65, 84, 65, 91]
abbrev cdaE : B8 := [93, 93, 62]
mutual
def elemM : Nat → Scp → Int → B8 → (Int × Elem) × B8
  | 0, _, _, r => ((3, E0), r)
  | n + 1, c, d, r =>
    if Lib.hasPrefix r [60] then
      if 16 < d then ((10, E0), r.drop 1)
      else
        let w := (r.drop 1).takeWhile fun c => !stpB c
        let r2 := (r.drop 1).dropWhile fun c => !stpB c
        let nm := nmM w
        if nm.2.2 then
          match attM (r2.length + 1) [] r2 with
          | (none, q) => ((3, E0), q)
          | (some ats, q) =>
            match scpM ats c with
            | none => ((3, E0), q)
            | some c' =>
              if (findM c' nm.1).2 then
                match pickM c' ats [] with
                | none => ((3, E0), q)
                | some at' =>
                  if Lib.hasPrefix q [47, 62] then ((0, .mk (mkS (findM c' nm.1).1) (mkS nm.2.1) ((srtA at').map strA) ⟨#[]⟩ []), q.drop 2)
                  else if Lib.hasPrefix q [62] then
                    match insM n c' d [] false [] (q.drop 1) with
                    | ((e, t, ks), q2) =>
                      if e ≠ 0 then ((e, E0), q2)
                      else if Lib.hasPrefix q2 w then
                        let q3 := (q2.drop w.length).dropWhile blkB
                        if Lib.hasPrefix q3 [62] then ((0, .mk (mkS (findM c' nm.1).1) (mkS nm.2.1) ((srtA at').map strA) (mkS t) ks), q3.drop 1)
                        else ((3, E0), q3)
                      else ((3, E0), q2)
                  else ((3, E0), q)
              else ((3, E0), q)
        else ((3, E0), r2)
    else ((3, E0), r)
def insM : Nat → Scp → Int → List Elem → Bool → B8 → B8 → (Int × B8 × List Elem) × B8
  | 0, _, _, ks, _, _, r => ((3, [], ks), r)
  | n + 1, c, d, ks, mk, acc, r =>
    if Lib.indexByte r 60 < 0 then ((3, [], ks), r)
    else
      let raw := r.take (Lib.indexByte r 60).toNat
      let pl := plM (raw.length + 1) [] raw
      let r1 := r.drop (Lib.indexByte r 60).toNat
      if pl.2 then
        let acc1 := acc ++ pl.1
        let mk1 := mk || decide (Lib.trimS raw [32, 9, 13, 10] ≠ [])
        if Lib.hasPrefix r1 tltS then
          (if mk1 ∧ ks ≠ [] then ((3, [], ks), r1.drop 2)
           else ((0, if mk1 then acc1 else [], ks), r1.drop 2))
        else if Lib.hasPrefix r1 cmO then
          (match comT (r1.drop 4) with
          | (false, q) => ((3, [], ks), q)
          | (true, q) => insM n c d ks mk1 acc1 q)
        else if Lib.hasPrefix r1 cdaS then
          (match tillM (r1.drop 9) cdaE with
          | none => ((3, [], ks), r1.drop 9)
          | some (t, q) => insM n c d ks (mk1 || decide (t ≠ [])) (acc1 ++ t) q)
        else
          (match elemM n c (d + 1) r1 with
          | ((e, x), q) => if e ≠ 0 then ((e, [], ks), q) else if ks.length = 256 then ((2, [], ks), q) else insM n c d (ks ++ [x]) mk1 acc1 q)
      else ((3, [], ks), r)
end
def parseM (s : Str) : Int × Elem :=
  if 16384 < s.size then (2, E0)
  else if (lS8 s).all clB then
    (match (if Lib.hasPrefix (lS8 s) [60, 63, 120, 109, 108, 32] then (match tillM ((lS8 s).drop 6) [63, 62] with
      | none => none
      | some (t, q) => if Lib.containsAny t [60, 62] then none else some q) else some (lS8 s)) with
    | none => (3, E0)
    | some r => match comM (r.length + 1) r with
      | (false, _) => (3, E0)
      | (true, q) => match elemM (2 * q.length + 2) [] 1 q with
        | ((e, x), q2) => if e ≠ 0 then (e, E0) else match comM (q2.length + 1) q2 with
          | (true, []) => (0, x)
          | _ => (3, E0))
  else (3, E0)
end Go.Abs.SA
end
section
namespace Go.Abs.SA
open Go.Proofs
def frzV (n m k : Nat) (x : AV) (K : List Nat) (d : AV) (l : List (Nat × AV)) (h : List Blk) : Option St := (freeze ⟨mkT m d l, h⟩ [x]).bind fun p => gcK n (keepT K (setAll p.2.t [k] p.1)) p.2.h
theorem frzO_V (n m k : Nat) (K : List Nat) (d : AV) (l : List (Nat × AV)) (h : List Blk) : frzO n m k K d l h = frzV n m k (lk d l k) K d l h := nr rfl
theorem frzH_ptr (n m k id o : Nat) (kl : List (Nat × AV)) (h : List Blk) : frzH n m k (.ptr id o) kl h = none := nr rfl
theorem frzH_sc (n m k : Nat) (c : Scp) (kl : List (Nat × AV)) (h : List Blk) : frzH n m k (scA c) kl h = none := nr (by cases c <;> (rw [scA]; rfl))
theorem orO_none (b : Option St) : orO none b = b := nr rfl
theorem frzV_sc (n m k : Nat) (c : Scp) (K : List Nat) (d : AV) (l : List (Nat × AV)) (h : List Blk) : frzV n m k (scA c) K d l h = gcK n (mkT m .junk (K.map fun j => (j, if j = k then scA c else lk d l j))) h := nr (by
  unfold frzV
  have : freeze ⟨mkT m d l, h⟩ [scA c] = some ([scA c], ⟨mkT m d l, h⟩) := by
    rw [freeze_no (by simp only [AV.lts, scA_lt, Bool.and_self])]
    simp [frzs, mapO, scA_frz]
  rw [this, Option.bind_some]
  dsimp only
  rw [frzK_mkT'])
theorem frzV_new (n m k id : Nat) (c : Scp) (a b : Value) (K : List Nat) (d : AV) (l : List (Nat × AV)) (h : List Blk) (hb : h[id]? = some (.var [scA c, .v a, .v b])) :
    frzV n m k (.ptr id 0) K d l h = gcK n (mkT m .junk (K.map fun j => (j, if j = k then .fp [scA c, .v a, .v b] else AV.sub (maskL [id] 0 h) [id] (lk d l j)))) (offL (maskL [id] 0 h) [id] 0 h) := by
  unfold frzV
  rw [freeze_live (by simp [AV.lts, AV.lt])]
  have hi : idsOfs [scA c, .v a, .v b] = [] := by cases c <;> (simp only [scA]; rfl)
  have hr : reach h 6 (addNew [] (idsOfs [.ptr id 0])) = [id] := by
    have : addNew [] (idsOfs [AV.ptr id 0]) = [id] := by simp [idsOfs, idsOf, addNew]
    rw [this]
    simp [reach, hb, hi, addNew]
  rw [hr, frzIs_go, frzGo_s]
  have hm : (maskL [id] 0 h)[id]? = some (.var [scA c, .v a, .v b]) := by
    rw [← mask_s]; simp [mask, hb]
  have hf : frzs (maskL [id] 0 h) 6 [.ptr id 0] = some [.fp [scA c, .v a, .v b]] := by
    simp only [frzs, mapO]
    rw [frz.eq_def]
    simp only [hm]
    have hs : ∀ h k, frz h k (scA c) = some (scA c) := by intro h k; cases c <;> (rw [scA, frz.eq_def])
    have hv : ∀ h k (x : Value), frz h k (.v x) = some (.v x) := by intro h k x; rw [frz.eq_def]
    simp [mapO, hs, hv]
  rw [hf, Option.map_some, Option.bind_some]
  dsimp only
  rw [frzK_mkT]
theorem scA_cells (c : Scp) : (scA c).cells? = some [scA c] := nr (by cases c <;> (rw [scA]; rfl))
attribute [go_sem] scA_cells
theorem frz16_sc (n : Nat) (d : AV) (l : List (Nat × AV)) (h : List Blk) (c : Scp) : frzV n 242 1 (scA c) [0, 1, 2, 6, 8, 9, 11, 12, 14, 15, 73, 74, 75] d l h = gcK n (mkT 242 .junk [(0, lk d l 0), (1, scA c), (2, lk d l 2), (6, lk d l 6), (8, lk d l 8), (9, lk d l 9), (11, lk d l 11), (12, lk d l 12), (14, lk d l 14), (15, lk d l 15), (73, lk d l 73), (74, lk d l 74), (75, lk d l 75)]) h := nr (frzV_sc n 242 1 c [0, 1, 2, 6, 8, 9, 11, 12, 14, 15, 73, 74, 75] d l h)
theorem frz32_sc (n : Nat) (d : AV) (l : List (Nat × AV)) (h : List Blk) (c : Scp) : frzV n 242 1 (scA c) [0, 1, 2, 6, 8, 9, 14, 146, 147, 148] d l h = gcK n (mkT 242 .junk [(0, lk d l 0), (1, scA c), (2, lk d l 2), (6, lk d l 6), (8, lk d l 8), (9, lk d l 9), (14, lk d l 14), (146, lk d l 146), (147, lk d l 147), (148, lk d l 148)]) h := nr (frzV_sc n 242 1 c [0, 1, 2, 6, 8, 9, 14, 146, 147, 148] d l h)
theorem frz16_new (n id : Nat) (d : AV) (l : List (Nat × AV)) (h : List Blk) (c : Scp) (a b : Value) (hb : h[id]? = some (.var [scA c, .v a, .v b])) : frzV n 242 1 (.ptr id 0) [0, 1, 2, 6, 8, 9, 11, 12, 14, 15, 73, 74, 75] d l h = gcK n (mkT 242 .junk [(0, AV.sub (maskL [id] 0 h) [id] (lk d l 0)), (1, .fp [scA c, .v a, .v b]), (2, AV.sub (maskL [id] 0 h) [id] (lk d l 2)), (6, AV.sub (maskL [id] 0 h) [id] (lk d l 6)), (8, AV.sub (maskL [id] 0 h) [id] (lk d l 8)), (9, AV.sub (maskL [id] 0 h) [id] (lk d l 9)), (11, AV.sub (maskL [id] 0 h) [id] (lk d l 11)), (12, AV.sub (maskL [id] 0 h) [id] (lk d l 12)), (14, AV.sub (maskL [id] 0 h) [id] (lk d l 14)), (15, AV.sub (maskL [id] 0 h) [id] (lk d l 15)), (73, AV.sub (maskL [id] 0 h) [id] (lk d l 73)), (74, AV.sub (maskL [id] 0 h) [id] (lk d l 74)), (75, AV.sub (maskL [id] 0 h) [id] (lk d l 75))]) (offL (maskL [id] 0 h) [id] 0 h) := nr (frzV_new n 242 1 id c a b [0, 1, 2, 6, 8, 9, 11, 12, 14, 15, 73, 74, 75] d l h hb)
theorem kill_sc (n : Nat) (c : Scp) : AV.kill n (scA c) = scA c := nr (by cases c <;> (rw [scA]; rfl))
attribute [go_sem] frz16_sc frz32_sc kill_sc
theorem opA_assign_fn {X : Abs.X} {O : Or} {f : FuncId} {lm : Option Nat} {d : Option Nat} {ty : TypeId} {pos : String} {af : Array Edge} {g : Option (Nat × Bool)} {s : St} {k : FuncId} : opA X O f lm ⟨d, .assign (.func k), ty, pos, af, g⟩ s = some (.val (.fn k [])) := nr (by
  simp only [opA, adopts, isNilSlice, Bool.false_and]
  rfl)
attribute [go_sem] opA_assign_fn
attribute [go_sem] frzO_V frzH_ptr frzH_sc orO_none
theorem elem1_spec (e : Int) : pureW XX 129 [.v (.int .i64 e)] = some (.tup [.agg (eElem E0), .v (.int .i64 e)]) := by
  refine pureW_in 6 Tryz.func129 Tryz.ntmps129 (by simp) (rfl : Tryz.f129.body = some _) fns_129 ?_
  simp (maxSteps := 200000) (disch := first | omega | (simp only [go_sem] <;> omega) | fail) only [go_sem]
  rw [eElem_s]; rfl
end Go.Abs.SA
end
section
namespace Go.Abs.SA
open Go.Proofs
theorem attrKeys_map : ∀ l : List (B8 × B8), attrKeys (l.map cA2) = some (l.map fun a => (cA2 a, a.1))
  | [] => rfl
  | a :: l => by
    rw [List.map_cons, cA2_s, attrKeys, attrKeys_map l]
    simp [cA2_s]
theorem attrIns_map (x : B8 × B8) : ∀ l : List (B8 × B8), attrIns (cA2 x, x.1) (l.map fun a => (cA2 a, a.1)) = (insA x l).map fun a => (cA2 a, a.1)
  | [] => rfl
  | y :: r => by
    rw [List.map_cons, attrIns, insA]
    by_cases h : Lib.compareBytes y.1 x.1 < 0
    · rw [if_pos h, if_pos h, attrIns_map x r]; rfl
    · rw [if_neg h, if_neg h]; rfl
theorem foldr_ins : ∀ l : List (B8 × B8), (l.map fun a => (cA2 a, a.1)).foldr attrIns [] = (srtA l).map fun a => (cA2 a, a.1)
  | [] => rfl
  | x :: l => by
    rw [List.map_cons, List.foldr_cons, foldr_ins l, attrIns_map]
    rfl
theorem attrSort_map (l : List (B8 × B8)) (hd : distB (l.map (·.1)) = true) : attrSort (l.map cA2) = some ((srtA l).map cA2) := by
  unfold attrSort
  rw [attrKeys_map, Option.bind_some]
  have : ((l.map fun a => (cA2 a, a.1)).map (·.2)) = l.map (·.1) := by simp
  rw [this, if_pos hd, foldr_ins]
  simp
theorem insA_len (x : B8 × B8) : ∀ l, (insA x l).length = l.length + 1
  | [] => rfl
  | y :: r => by
    rw [insA]
    split
    · simp [insA_len x r]
    · simp
theorem srtA_len : ∀ l, (srtA l).length = l.length
  | [] => rfl
  | x :: l => by
    show (insA x (srtA l)).length = _
    rw [insA_len, srtA_len l]; rfl
theorem distB_app : ∀ (l : List B8) (x : B8), distB l = true → l.contains x = false → distB (l ++ [x]) = true
  | [], x, _, _ => rfl
  | y :: l, x, h, hc => by
    rw [distB, Bool.and_eq_true] at h
    rw [List.contains_cons, Bool.or_eq_false_iff] at hc
    rw [List.cons_append, distB, Bool.and_eq_true]
    refine ⟨?_, distB_app l x h.2 hc.2⟩
    have h1 : l.contains y = false := by simpa using h.1
    have h2 : (x == y) = false := hc.1
    have h3 : ¬ y = x := fun e => by rw [e] at h2; simp at h2
    have : (l ++ [x]).contains y = false := by
      rw [List.contains_eq_mem, decide_eq_false_iff_not, List.mem_append, not_or]
      refine ⟨by simpa [List.contains_eq_mem] using h1, by simpa using h3⟩
    rw [this]; rfl
theorem any_named (l : List (B8 × B8)) (x : B8) : l.any (named x) = (l.map (·.1)).contains x := by
  induction l with
  | nil => rfl
  | cons a l ih =>
    rw [List.any_cons, List.map_cons, List.contains_cons, ih]
    congr 1
    unfold named
    rw [Bool.eq_iff_iff, decide_eq_true_eq, beq_iff_eq]
    exact ⟨Eq.symm, Eq.symm⟩
theorem pickM_dist (c : Scp) : ∀ (r : List At3) (acc l : List (B8 × B8)), distB (acc.map (·.1)) = true → pickM c r acc = some l → distB (l.map (·.1)) = true ∧ l.length ≤ acc.length + r.length
  | [], acc, l, h, hp => by
    rw [pickM] at hp; cases hp; exact ⟨h, by simp⟩
  | (p, n, v) :: r, acc, l, h, hp => by
    rw [pickM] at hp
    split at hp
    · have := pickM_dist c r acc l h hp
      exact ⟨this.1, by rw [List.length_cons]; omega⟩
    · split at hp
      · cases hp
      · rename_i hn
        simp only [not_or] at hn
        have hc : (acc.map (·.1)).contains n = false := by
          rw [← any_named]
          simpa using hn.2
        have := pickM_dist c r (acc ++ [(n, v)]) l (by rw [List.map_append]; exact distB_app _ _ h hc) hp
        refine ⟨this.1, ?_⟩
        rw [List.length_append] at this
        rw [List.length_cons]
        have h1 := this.2
        simp only [List.length_cons, List.length_nil] at h1
        omega
theorem valM_suf (r : B8) : (valM r).2 <:+ r := by
  unfold valM
  split
  · exact List.suffix_refl _
  · rename_i q r5 hq
    have h5 : r5 <:+ r := by
      unfold quoM at hq
      split at hq
      · simp only [Option.some.injEq, Prod.mk.injEq] at hq
        rw [← hq.2]; exact List.drop_suffix _ _
      · split at hq
        · simp only [Option.some.injEq, Prod.mk.injEq] at hq
          rw [← hq.2]; exact List.drop_suffix _ _
        · cases hq
    split
    · exact h5
    · rename_i t r6 ht
      have h6 := (tillM_suf ht).1.trans h5
      split
      · exact h6
      · split <;> exact h6
theorem attM_ok : ∀ (n : Nat) (acc : List At3) (r : B8), acc.length ≤ 32 → (attM n acc r).2 <:+ r ∧ ∀ l, (attM n acc r).1 = some l → l.length ≤ 32
  | 0, acc, r, h => ⟨List.suffix_refl _, fun l hl => by cases hl⟩
  | n + 1, acc, r, h => by
    rw [attM]
    have h1 : r.dropWhile blkB <:+ r := List.dropWhile_suffix _
    split
    · exact ⟨List.nil_suffix, fun l hl => by cases hl⟩
    · rename_i c r0 hc
      rw [hc] at h1
      have h2 : ((c :: r0).dropWhile fun c => !stpB c) <:+ r := (List.dropWhile_suffix _).trans h1
      have h3 : ((c :: r0).dropWhile fun c => !stpB c).dropWhile blkB <:+ r := (List.dropWhile_suffix _).trans h2
      split
      · exact ⟨h1, fun l hl => by cases hl; exact h⟩
      · split
        · split
          · have h4 := (valM_suf (((((c :: r0).dropWhile fun c => !stpB c).dropWhile blkB).drop 1).dropWhile blkB)).trans (((List.dropWhile_suffix _).trans (List.drop_suffix 1 _)).trans h3)
            split
            · rename_i q hq
              rw [hq] at h4
              exact ⟨h4, fun l hl => by cases hl⟩
            · rename_i v q hq
              rw [hq] at h4
              split
              · exact ⟨h4, fun l hl => by cases hl⟩
              · rename_i hn
                have hl : acc.length ≠ 32 := fun e => hn (.inr e)
                have := attM_ok n (acc ++ [((nmM ((c :: r0).takeWhile fun c => !stpB c)).1, (nmM ((c :: r0).takeWhile fun c => !stpB c)).2.1, v)]) q (by rw [List.length_append]; simp only [List.length_cons, List.length_nil]; omega)
                exact ⟨this.1.trans h4, this.2⟩
          · exact ⟨h3, fun l hl => by cases hl⟩
        · exact ⟨h2, fun l hl => by cases hl⟩
end Go.Abs.SA
end
section
namespace Go.Abs.SA
open Go.Proofs
theorem tidy_el2 (s : Str) (q : B8) (b1 : Blk) (sp nm t : Str) (e : Int) (e1 e2 k1 k2 : Nat) (es ks : List (List AV)) (bs : List Blk) :
    tidyA 1 (.tup [.agg [vS sp, vS nm, .sl 2 0 es.length false, vS t, .sl 3 0 ks.length false], .v (.int .i64 e)], pR s q :: b1 :: .arr e1 k1 es :: .arr e2 k2 ks :: bs) =
      some (.tup [.agg [vS sp, vS nm, .fs es false, vS t, .fs ks false], .v (.int .i64 e)], [pR s q]) := by
  obtain ⟨x, hx⟩ : ∃ x : AV, .tup [.agg [vS sp, vS nm, .sl 2 0 es.length false, vS t, .sl 3 0 ks.length false], .v (.int .i64 e)] = x := ⟨_, rfl⟩
  refine tidy_of (h' := offL (maskL [2, 3] 0 (pR s q :: b1 :: .arr e1 k1 es :: .arr e2 k2 ks :: bs)) [2, 3] 1 (b1 :: .arr e1 k1 es :: .arr e2 k2 ks :: bs)) ?_ rfl
  have hr : reach (pR s q :: b1 :: .arr e1 k1 es :: .arr e2 k2 ks :: bs) 6 (addNew [] (idsOfs [.tup [.agg [vS sp, vS nm, .sl 2 0 es.length false, vS t, .sl 3 0 ks.length false], .v (.int .i64 e)]])) = [2, 3] := by
    have : addNew [] (idsOfs [AV.tup [.agg [vS sp, vS nm, .sl 2 0 es.length false, vS t, .sl 3 0 ks.length false], .v (.int .i64 e)]]) = [2, 3] := by simp [idsOfs, idsOf, addNew]
    rw [this]
    simp [reach]
  rw [freeze_live rfl, hr, frzIs_go, frzGo_s]
  simp only [maskL_cons, offL_cons, mem_cons', mem_nil', bsub_var]
  simp [frzs, mapO, frz, AV.subs, AV.sub, cutEs]
end Go.Abs.SA
end
section
namespace Go.Abs.SA
open Go.Proofs
def n3 : List (Nat × AV) → Bool
  | [] => true
  | p :: es => !(idsOf p.2).contains 3 && n3 es
def n31 (x : AV) : Bool := !(idsOf x).contains 3
theorem n3_nil : n3 [] = true := nr rfl
theorem n3_cons (k : Nat) (x : AV) (es : List (Nat × AV)) : n3 ((k, x) :: es) = (n31 x && n3 es) := nr rfl
theorem n31_v (x : Value) : n31 (.v x) = true := nr rfl
theorem n31_fs (es : List (List AV)) (b : Bool) : n31 (.fs es b) = true := nr rfl
theorem n31_ptr (i o : Nat) : n31 (.ptr i o) = !decide (i = 3) := nr (by
  by_cases h : i = 3
  · subst h; rfl
  · have : ¬ 3 = i := fun e => h e.symm
    simp [n31, idsOf, h, this])
theorem n31_sl (i o l : Nat) (b : Bool) : n31 (.sl i o l b) = !decide (i = 3) := nr (by
  by_cases h : i = 3
  · subst h; rfl
  · have : ¬ 3 = i := fun e => h e.symm
    simp [n31, idsOf, h, this])
theorem n31_tup0 : n31 (.tup []) = true := nr rfl
theorem n31_fn0 (f : Nat) : n31 (.fn f []) = true := nr rfl
theorem n31_sc (c : Scp) : n31 (scA c) = true := nr (by cases c <;> (rw [scA]; rfl))
attribute [go_sem] n3_nil n3_cons n31_v n31_fs n31_ptr n31_sl n31_tup0 n31_fn0 n31_sc
mutual
theorem ren_keepF (bad : List Nat) : ∀ x : AV, (∀ i ∈ idsOf x, i ∉ bad) → x.ren (keepF bad) = x
  | .sl id off len full, h => by rw [ren_sl, keepF_out (h id (by simp [idsOf]))]; rfl
  | .ptr id off, h => by rw [ren_ptr, keepF_out (h id (by simp [idsOf]))]; rfl
  | .eptr id i o, h => by rw [ren_eptr, keepF_out (h id (by simp [idsOf]))]; rfl
  | .fn g caps, h => by rw [idsOf] at h; rw [AV.ren, rens_keepF bad caps h]
  | .ifc t x, h => by rw [AV.ren, ren_keepF bad x (by simpa [idsOf] using h)]
  | .agg cs, h => by rw [idsOf] at h; rw [AV.ren, rens_keepF bad cs h]
  | .tup vs, h => by rw [idsOf] at h; rw [AV.ren, rens_keepF bad vs h]
  | .junk, h => by rw [AV.ren] <;> simp
  | .v x, h => by rw [AV.ren] <;> simp
  | .fs es b, h => by rw [AV.ren] <;> simp
  | .fp cs, h => by rw [AV.ren] <;> simp
theorem rens_keepF (bad : List Nat) : ∀ xs : List AV, (∀ i ∈ idsOfs xs, i ∉ bad) → AV.rens (keepF bad) xs = xs
  | [], h => by rw [AV.rens]
  | x :: xs, h => by
    rw [idsOfs] at h
    rw [AV.rens, ren_keepF bad x (fun i hi => h i (List.mem_append_left _ hi)), rens_keepF bad xs (fun i hi => h i (List.mem_append_right _ hi))]
end
theorem n3_T {m : Nat} {es : List (Nat × AV)} (he : n3 es = true) (bad : List Nat) (hb : ∀ i ∈ bad, i = 3) : AV.rens (keepF bad) (mkT m .junk es) = mkT m .junk es := by
  rw [rens_mkT]
  congr 1
  conv => rhs; rw [← List.map_id es]
  refine List.map_congr_left fun p hp => ?_
  have key : ∀ {es : List (Nat × AV)}, n3 es = true → ∀ p ∈ es, (idsOf p.2).contains 3 = false := by
    intro es
    induction es with
    | nil => intro _ p hp; cases hp
    | cons q r ih =>
      intro h p hp
      simp only [n3, Bool.and_eq_true] at h
      rcases List.mem_cons.1 hp with rfl | hp
      · simpa using h.1
      · exact ih h.2 p hp
  have h3 := key he p hp
  have : p.2.ren (keepF bad) = p.2 := ren_keepF bad p.2 fun i hi hib => by
    rw [hb i hib] at hi
    rw [List.contains_eq_mem, decide_eq_false_iff_not] at h3
    exact h3 hi
  rw [this]; rfl
end Go.Abs.SA
end
section
namespace Go.Abs.SA
open Go.Proofs
abbrev elB (sp nm t : Str) (na nk : Nat) : Blk := .var [vS sp, vS nm, .sl 2 0 na false, vS t, .sl 3 0 nk false]
abbrev atB (l : List (B8 × B8)) : Blk := .arr 40 2 (l.map cA2)
abbrev kiB (l : List Elem) : Blk := .arr 36 5 (l.map eElem)
theorem callX_in {f g : Nat} (hf : (XX.live f).contains g = true) (s : Str) (q q2 : B8) (cs : List AV) (hcs : idsOfs cs = []) (sp nm t' : Str) (l : List (B8 × B8)) (ks : List Elem) (c : Scp) (d e : Int) (m : Nat) (es : List (Nat × AV)) (he : n3 es = true)
    (hw : loudW XX g [.ptr 0 0, .ptr 1 0, scA c, vI d] [pR s q, elB sp nm ⟨#[]⟩ l.length 0, atB l, kiB []] = some (.v (.int .i64 e), [pR s q2, elB sp nm t' l.length ks.length, atB l, kiB ks])) :
    callX XX (orW XX) ⟨mkT m .junk es, [pR s q, .var cs, atB l, kiB [], elB sp nm ⟨#[]⟩ l.length 0]⟩ f g [.ptr 0 0, .ptr 4 0, scA c, vI d] =
      some (.st (.v (.int .i64 e)) ⟨mkT m .junk es, [pR s q2, .var cs, atB l, kiB ks, elB sp nm t' l.length ks.length]⟩) := by
  rw [callX_live _ _ hf rfl]
  have hw' : (orW XX).loud g [.ptr 0 0, .ptr 1 0, scA c, vI d] [pR s q, elB sp nm ⟨#[]⟩ l.length 0, atB l, kiB []] = some (.v (.int .i64 e), [pR s q2, elB sp nm t' l.length ks.length, atB l, kiB ks]) := hw
  have hsc : idsOf (scA c) = [] := by cases c <;> (rw [scA]; rfl)
  have hT := fun b hb => n3_T (m := m) he b hb
  have hn := fun f => rens_noids f cs hcs
  have hs := fun f => ren_noids f (scA c) hsc
  unfold elB atB kiB at *
  by_cases hk : ks.length = 0 <;>
    simp [callL, reach, addNew, idsOfs, idsOf, dist, AV.rens, AV.ren, posOf, Blk.ren, badL, badB, putBack, backF, keepF, hsc, hcs, hn, hs] at hw' ⊢ <;>
    simp [hw', hT, hk, badL, badB, Blk.ren, AV.rens, AV.ren, posOf, backF, keepF, hn, hs]
end Go.Abs.SA
end
section
namespace Go.Abs.SA
open Go.Proofs
theorem suf_ok : ∀ n : Nat, (∀ c d r, (elemM n c d r).2 <:+ r) ∧ (∀ c d ks mk acc r, (insM n c d ks mk acc r).2 <:+ r)
  | 0 => ⟨fun c d r => by rw [elemM]; exact List.suffix_refl _, fun c d ks mk acc r => by rw [insM]; exact List.suffix_refl _⟩
  | n + 1 => by
    obtain ⟨ihE, ihI⟩ := suf_ok n
    constructor
    · intro c d r
      rw [elemM]
      have hd : ∀ (k : Nat) (l : B8), l.drop k <:+ l := fun k l => List.drop_suffix _ _
      have h2 : ((r.drop 1).dropWhile fun c => !stpB c) <:+ r := (List.dropWhile_suffix _).trans (hd 1 r)
      have ha := (attM_ok ((((r.drop 1).dropWhile fun c => !stpB c).length) + 1) [] ((r.drop 1).dropWhile fun c => !stpB c) (by simp)).1.trans h2
      split
      · split
        · exact hd _ _
        · dsimp only
          split
          · split
            · rename_i q hq; rw [hq] at ha; exact ha
            · rename_i ats q hq
              rw [hq] at ha
              simp only at ha
              split
              · exact ha
              · split
                · split
                  · exact ha
                  · split
                    · exact (hd _ _).trans ha
                    · split
                      · have hi := fun c' => (ihI c' d [] false [] (q.drop 1)).trans ((hd 1 q).trans ha)
                        split
                        · exact hi _
                        · split
                          · split
                            · exact (hd _ _).trans ((List.dropWhile_suffix _).trans ((hd _ _).trans (hi _)))
                            · exact (List.dropWhile_suffix _).trans ((hd _ _).trans (hi _))
                          · exact hi _
                      · exact ha
                · exact ha
          · exact h2
      · exact List.suffix_refl _
    · intro c d ks mk acc r
      rw [insM]
      have hd : ∀ (k : Nat) (l : B8), l.drop k <:+ l := fun k l => List.drop_suffix _ _
      split
      · exact List.suffix_refl _
      · dsimp only
        have h1 := hd (Lib.indexByte r 60).toNat r
        split
        · split
          · split <;> exact (hd _ _).trans h1
          · split
            · have hc := (comT_suf ((r.drop (Lib.indexByte r 60).toNat).drop 4)).trans ((hd _ _).trans h1)
              split
              · rename_i q hq; rw [hq] at hc; exact hc
              · rename_i q hq; rw [hq] at hc; exact (ihI _ _ _ _ _ _).trans hc
            · split
              · split
                · exact (hd _ _).trans h1
                · rename_i t q ht
                  exact (ihI _ _ _ _ _ _).trans ((tillM_suf ht).1.trans ((hd _ _).trans h1))
              · have he := (ihE c (d + 1) (r.drop (Lib.indexByte r 60).toNat)).trans h1
                split
                · exact he
                · split
                  · exact he
                  · exact (ihI _ _ _ _ _ _).trans he
        · exact List.suffix_refl _
end Go.Abs.SA
end
section
namespace Go.Abs.SA
open Go.Proofs
abbrev elR (s : Str) : (Int × Elem) × B8 → AV × List Blk
  | ((e, x), q) => (.tup [.agg (eElem x), .v (.int .i64 e)], [pR s q])
def elemSp (s : Str) (n : Nat) : Prop := ∀ (c : Scp) (d : Int) (r : B8), r <:+ lS8 s → 2 * r.length + 1 ≤ n → 0 ≤ d → d ≤ 17 →
  loudW XX 79 [.ptr 0 0, scA c, vI d] [pR s r] = some (elR s (elemM n c d r))
def insSp (s : Str) (n : Nat) : Prop := ∀ (c : Scp) (d : Int) (sp nm : Str) (l : List (B8 × B8)) (r : B8), r <:+ lS8 s → 2 * r.length + 2 ≤ n → 0 ≤ d → d ≤ 16 →
  loudW XX 138 [.ptr 0 0, .ptr 1 0, scA c, vI d] [pR s r, elB sp nm ⟨#[]⟩ l.length 0, atB l, kiB []] =
    some (.v (.int .i64 (insM n c d [] false [] r).1.1), [pR s (insM n c d [] false [] r).2, elB sp nm (mkS (insM n c d [] false [] r).1.2.1) l.length (insM n c d [] false [] r).1.2.2.length, atB l, kiB (insM n c d [] false [] r).1.2.2])
theorem tidy_el (s : Str) (r : B8) (x : Elem) (e : Int) (bs : List Blk) : tidyA 1 (.tup [.agg (eElem x), .v (.int .i64 e)], pR s r :: bs) = some (elR s ((e, x), r)) := by
  refine tidy_of (h' := bs) ?_ rfl
  have hl : AV.lts 0 [.tup [.agg (eElem x), .v (.int .i64 e)]] = true := by rw [eElem_s]; rfl
  rw [freeze_no hl, eElem_s]
  rfl
theorem callX_elem (s : St) (xs : List AV) : callX XX (orW XX) s 79 133 xs = callA XX (orW XX) s 133 xs := by
  rw [callX_if live_79, if_neg (by simp)]
theorem take5 (x : Elem) : (eElem x).take 5 = eElem x := List.take_of_length_le (by rw [eElem_len]; exact Nat.le_refl _)
theorem elem_ok {s : Str} (hs : s.size ≤ 1000000) (n : Nat) (hin : ∀ m, m < n → insSp s m) : elemSp s n := by
  intro c d r h1 hn hd0 hd
  obtain ⟨out, hout⟩ : ∃ o, elemM n c d r = o := ⟨_, rfl⟩
  rw [hout]
  obtain ⟨n, rfl⟩ : ∃ k, n = k + 1 := ⟨n - 1, by omega⟩
  rw [elemM] at hout
  have f1 : (XX.live 79).contains 126 = true := by rw [live_79]; rfl
  have f2 : (XX.live 79).contains 130 = true := by rw [live_79]; rfl
  have f3 : (XX.live 79).contains 75 = true := by rw [live_79]; rfl
  have f4 : (XX.live 79).contains 131 = true := by rw [live_79]; rfl
  have c1 := fun t h => callP2 (t := t) (h := h) (xs := [vS ⟨#[60]⟩]) f3 rfl rfl (rskip h1 hs ⟨#[60]⟩)
  rw [show lS8 ⟨#[60]⟩ = [60] from rfl, show (ByteArray.mk #[60]).size = 1 from rfl] at c1
  have e3 := elem1_spec 3
  have e10 := elem1_spec 10
  refine loudT_in 242 Tryz.func79 Tryz.ntmps79 (by simp) (rfl : Tryz.f79.body = some _) fns_79 ?_
  rcases Bool.eq_false_or_eq_true (Lib.hasPrefix r [60]) with hp | hp
  case inr =>
    rw [hp] at c1 hout
    simp only [Bool.false_eq_true, ↓reduceIte] at c1 hout
    subst hout
    simp (maxSteps := 200000) (disch := first | omega | (simp only [go_sem] <;> omega) | fail) only [go_sem, c1, callA_data mode_129, e3, e10, take5]
    exact tidy_el _ _ _ _ _
  rw [hp] at c1 hout
  simp only [↓reduceIte] at c1 hout
  have hpl := pre_len hp
  rw [show ([60] : B8).length = 1 from rfl] at hpl
  obtain ⟨r1, hr1⟩ : ∃ x, r.drop 1 = x := ⟨_, rfl⟩
  have hr1s : r1 <:+ lS8 s := by rw [← hr1]; exact (List.drop_suffix _ _).trans h1
  have hr1l : r1.length + 1 = r.length := by rw [← hr1, List.length_drop]; omega
  rw [hr1] at c1 hout
  by_cases hd16 : 16 < d
  · rw [if_pos hd16] at hout
    subst hout
    have hd16' := eq_true hd16
    simp (maxSteps := 200000) (disch := first | omega | (simp only [go_sem] <;> omega) | fail) only [go_sem, c1, callA_data mode_129, e3, e10, take5, hd16']
    exact tidy_el _ _ _ _ _
  rw [if_neg hd16] at hout
  have hd16' := eq_false hd16
  have c2 := fun t h => callP2 (t := t) (h := h) (xs := []) f2 rfl rfl (rname hr1s hs)
  have hr2s : (r1.dropWhile fun c => !stpB c) <:+ lS8 s := (List.dropWhile_suffix _).trans hr1s
  have hr2l : (r1.dropWhile fun c => !stpB c).length ≤ r1.length := (List.dropWhile_suffix _).length_le
  have hwr : (r1.takeWhile fun c => !stpB c) ++ (r1.dropWhile fun c => !stpB c) = r1 := List.takeWhile_append_dropWhile
  obtain ⟨r2, hr2⟩ : ∃ q, (r1.dropWhile fun c => !stpB c) = q := ⟨_, rfl⟩
  obtain ⟨w, hw⟩ : ∃ q, (r1.takeWhile fun c => !stpB c) = q := ⟨_, rfl⟩
  rw [hw] at c2 hwr hout
  rw [hr2] at c2 hr2s hr2l hwr hout
  obtain ⟨nm, hnm⟩ : ∃ q, nmM w = q := ⟨_, rfl⟩
  rw [hnm] at c2 hout
  obtain ⟨p, l, ok⟩ := nm
  simp only at hout c2
  have ha1 : atR s r1 ≤ atR s r2 := by unfold atR; omega
  have ha2 : atR s r2 ≤ s.size := atR_le _ _
  have hex : s.extract (atR s r1) (atR s r2) = mkS w := by
    have e : atR s r2 = atR s r1 + w.length := by
      have := suf_len hr1s
      have := congrArg List.length hwr
      rw [List.length_append] at this
      unfold atR; omega
    rw [e, ext_take, rest_at hr1s, ← hwr, List.take_left]
  cases ok with
  | false =>
    simp only [Bool.false_eq_true, ↓reduceIte] at hout
    subst hout
    simp (maxSteps := 200000) (disch := first | omega | (simp only [go_sem] <;> omega) | fail) only [go_sem, c1, callA_data mode_129, e3, e10, take5, hd16', c2, ha1, ha2, hex]
    exact tidy_el _ _ _ _ _
  | true =>
  simp only [↓reduceIte] at hout
  obtain ⟨k1, k2⟩ := attM_ok (r2.length + 1) [] r2 (by simp)
  have hra := rattrs hs (r2.length + 1) r2 hr2s (by omega)
  obtain ⟨ao, hao⟩ : ∃ x, attM (r2.length + 1) [] r2 = x := ⟨_, rfl⟩
  rw [hao] at hra hout k1 k2
  obtain ⟨oa, q⟩ := ao
  simp only at k1 k2
  have hqs : q <:+ lS8 s := k1.trans hr2s
  have hql : q.length ≤ r2.length := k1.length_le
  cases oa with
  | none =>
    simp only at hout
    subst hout
    have c3 := fun t h => callP2 (t := t) (h := h) (xs := []) f4 rfl rfl hra
    simp (maxSteps := 200000) (disch := first | omega | (simp only [go_sem] <;> omega) | fail) only [go_sem, c1, callA_data mode_129, e3, e10, take5, hd16', c2, ha1, ha2, hex, c3]
    exact tidy_el _ _ _ _ _
  | some ats =>
  have hal := k2 ats rfl
  simp only at hout
  have c3 := fun t h => callP2 (t := t) (h := h) (xs := []) f4 rfl rfl hra
  simp (maxSteps := 200000) (disch := first | omega | (simp only [go_sem] <;> omega) | fail) only [go_sem, c1, callA_data mode_129, e3, e10, take5, hd16', c2, ha1, ha2, hex, c3]
  have hws1 : ∀ {i : Nat}, i < ats.length → IntKind.i64.wrap ((i : Int) + 1) = ((i + 1 : Nat) : Int) := fun h => wrap_succ h (by omega)
  have eN : ∀ x : B8, (mkS x = ⟨#[]⟩) = (x = []) := fun x => by rw [← mkS_inj]
  have eX : ∀ x : B8, (mkS x = ⟨#[120, 109, 108, 110, 115]⟩) = (x = xmlnsB) := fun x => by rw [← mkS_inj]
  refine WP_loopR 16 5 (fun (a : Nat × Scp) => S_79_16 (.ptr 0 0) (scA a.2) (vI d) (.ptr 1 0) (.ptr 4 0) (.fn 129 []) (vS (mkS p)) (vS (mkS l)) (vS (mkS w)) (.fs (ats.map cA3) false) (.fs (ats.map cA3) false) (vI ats.length) (vI a.1)
    [pR s q, .var [vS ⟨#[]⟩, vS ⟨#[]⟩, .fs [] true, vS ⟨#[]⟩, .fs [] true], .arr 40 2 [], .arr 36 5 [], elB ⟨#[]⟩ ⟨#[]⟩ ⟨#[]⟩ 0 0])
    (fun a => ats.length - a.1) (fun a => a.1 ≤ ats.length ∧ scpM ats c = scpM (ats.drop a.1) a.2) (0, c) rfl rfl ?_ ?_ ?_
  · simp (maxSteps := 200000) (disch := first | omega | (simp only [go_sem] <;> omega) | fail) only [go_sem, c1, callA_data mode_129, e3, e10, take5, hd16', c2, ha1, ha2, hex]
    try rfl
  · exact ⟨by simp, by simp⟩
  rintro ⟨i, c1'⟩ ⟨hi, hI⟩
  simp only at hi hI
  by_cases h : i < ats.length
  · rw [List.drop_eq_getElem_cons h] at hI
    obtain ⟨a, ha⟩ : ∃ a, ats[i] = a := ⟨_, rfl⟩
    have hat := cA3_s ats[i]
    rw [ha] at hat hI
    obtain ⟨ap, al, av⟩ := a
    rw [scpM] at hI
    have hlt := eq_true h
    by_cases g1 : ap = []
    · have g1' := eq_true g1
      have gx : (ap = xmlnsB) = False := eq_false (by rw [g1]; simp)
      by_cases g2 : al = xmlnsB
      · have g2' := eq_true g2
        rw [if_neg (by simp [g1]), if_pos ⟨g1, g2⟩] at hI
        simp (maxSteps := 200000) (disch := first | omega | (simp only [go_sem] <;> omega) | fail) only [go_sem, c1, callA_data mode_129, e3, e10, take5, hd16', c2, ha1, ha2, hex, nat_int, h, ha, hat, eN, eX, g1', g2', gx, ne_eq, not_true, not_false_eq_true, hws1 h]
        rw [frz16_new 5 6 _ _ _ c1' (.string ⟨#[]⟩) (.string (mkS av)) rfl]
        refine ⟨(i + 1, ([], av) :: c1'), ?_, ⟨by simp only; omega, hI⟩, by simp only; omega⟩
        simp only [go_sem, scA_cons]
      · have g2' := eq_false g2
        rw [if_neg (by simp [g1]), if_neg (by simp [g2]), if_neg (by simp [g1])] at hI
        simp (maxSteps := 200000) (disch := first | omega | (simp only [go_sem] <;> omega) | fail) only [go_sem, c1, callA_data mode_129, e3, e10, take5, hd16', c2, ha1, ha2, hex, nat_int, h, ha, hat, eN, eX, g1', g2', gx, ne_eq, not_true, not_false_eq_true, hws1 h]
        exact ⟨(i + 1, c1'), rfl, ⟨by simp only; omega, hI⟩, by simp only; omega⟩
    · have g1' := eq_false g1
      by_cases g2 : al = xmlnsB
      · have g2' := eq_true g2
        rw [if_pos ⟨g1, g2⟩] at hI
        rw [hI] at hout
        simp only at hout
        subst hout
        simp (maxSteps := 200000) (disch := first | omega | (simp only [go_sem] <;> omega) | fail) only [go_sem, c1, callA_data mode_129, e3, e10, take5, hd16', c2, ha1, ha2, hex, nat_int, h, ha, hat, eN, eX, g1', g2', ne_eq, not_true, not_false_eq_true]
        exact tidy_el _ _ _ _ _
      · have g2' := eq_false g2
        rw [if_neg (by simp [g2]), if_neg (by simp [g1])] at hI
        by_cases g3 : ap = xmlnsB
        · have g3' := eq_true g3
          rw [if_pos g3] at hI
          by_cases g4 : av = []
          · have g4' := eq_true g4
            rw [if_pos g4] at hI
            rw [hI] at hout
            simp only at hout
            subst hout
            simp (maxSteps := 200000) (disch := first | omega | (simp only [go_sem] <;> omega) | fail) only [go_sem, c1, callA_data mode_129, e3, e10, take5, hd16', c2, ha1, ha2, hex, nat_int, h, ha, hat, eN, eX, g1', g2', g3', g4', ne_eq, not_true, not_false_eq_true]
            exact tidy_el _ _ _ _ _
          · have g4' := eq_false g4
            rw [if_neg g4] at hI
            simp (maxSteps := 200000) (disch := first | omega | (simp only [go_sem] <;> omega) | fail) only [go_sem, c1, callA_data mode_129, e3, e10, take5, hd16', c2, ha1, ha2, hex, nat_int, h, ha, hat, eN, eX, g1', g2', g3', g4', ne_eq, not_true, not_false_eq_true, hws1 h]
            rw [frz16_new 5 6 _ _ _ c1' (.string (mkS al)) (.string (mkS av)) rfl]
            refine ⟨(i + 1, (al, av) :: c1'), ?_, ⟨by simp only; omega, hI⟩, by simp only; omega⟩
            simp only [go_sem, scA_cons]
        · have g3' := eq_false g3
          rw [if_neg g3] at hI
          simp (maxSteps := 200000) (disch := first | omega | (simp only [go_sem] <;> omega) | fail) only [go_sem, c1, callA_data mode_129, e3, e10, take5, hd16', c2, ha1, ha2, hex, nat_int, h, ha, hat, eN, eX, g1', g2', g3', ne_eq, not_true, not_false_eq_true, hws1 h]
          exact ⟨(i + 1, c1'), rfl, ⟨by simp only; omega, hI⟩, by simp only; omega⟩
  · have hlt := eq_false h
    rw [List.drop_of_length_le (by omega), scpM] at hI
    rw [hI] at hout
    simp only at hout
    have hfi := scFind_spec c1' p
    obtain ⟨fu, hfu⟩ : ∃ x, findM c1' p = x := ⟨_, rfl⟩
    rw [hfu] at hfi hout
    obtain ⟨u, fok⟩ := fu
    simp only at hfi hout
    cases fok with
    | false =>
      simp only [Bool.false_eq_true, ↓reduceIte] at hout
      subst hout
      simp (maxSteps := 200000) (disch := first | omega | (simp only [go_sem] <;> omega) | fail) only [go_sem, c1, callA_data mode_129, e3, e10, take5, hd16', c2, ha1, ha2, hex, nat_int, hlt, callA_pure mode_132, hfi]
      exact tidy_el _ _ _ _ _
    | true =>
    simp only [↓reduceIte] at hout
    simp (maxSteps := 200000) (disch := first | omega | (simp only [go_sem] <;> omega) | fail) only [go_sem, c1, callA_data mode_129, e3, e10, take5, hd16', c2, ha1, ha2, hex, nat_int, hlt, callA_pure mode_132, hfi]
    clear hI hlt h
    refine WP_loopR 32 5 (fun (a : Nat × List (B8 × B8)) => S_79_32 (.ptr 0 0) (scA c1') (vI d) (.ptr 1 0) (.ptr 4 0) (.fn 129 []) (vS (mkS w)) (.fs (ats.map cA3) false) (vI ats.length) (vI a.1)
      [pR s q, .var [vS ⟨#[]⟩, vS ⟨#[]⟩, .fs [] true, vS ⟨#[]⟩, .fs [] true], atB a.2, .arr 36 5 [], elB (mkS u) (mkS l) ⟨#[]⟩ a.2.length 0])
      (fun a => ats.length - a.1) (fun a => a.1 ≤ ats.length ∧ a.2.length ≤ a.1 ∧ pickM c1' ats [] = pickM c1' (ats.drop a.1) a.2) (0, []) rfl rfl ?_ ?_ ?_
    · simp (maxSteps := 200000) (disch := first | omega | (simp only [go_sem] <;> omega) | fail) only [go_sem, c1, callA_data mode_129, e3, e10, take5, hd16', c2, ha1, ha2, hex]
      try rfl
    · exact ⟨by simp, by simp, by simp⟩
    rintro ⟨i, acc⟩ ⟨hi, hac, hI⟩
    simp only at hi hac hI
    by_cases h : i < ats.length
    · rw [List.drop_eq_getElem_cons h] at hI
      obtain ⟨a, ha⟩ : ∃ a, ats[i] = a := ⟨_, rfl⟩
      have hat := cA3_s ats[i]
      rw [ha] at hat hI
      obtain ⟨ap, al, av⟩ := a
      rw [pickM] at hI
      by_cases g3 : ap = xmlnsB
      · have g3' := eq_true g3
        rw [if_pos (.inl g3)] at hI
        simp (maxSteps := 200000) (disch := first | omega | (simp only [go_sem] <;> omega) | fail) only [go_sem, c1, callA_data mode_129, e3, e10, take5, hd16', c2, ha1, ha2, hex, nat_int, h, ha, hat, eN, eX, g3', hws1 h]
        exact ⟨(i + 1, acc), rfl, ⟨by simp only; omega, by simp only; omega, hI⟩, by simp only; omega⟩
      have g3' := eq_false g3
      by_cases g5 : ap = [] ∧ al = xmlnsB
      · have g1' := eq_true g5.1
        have g2' := eq_true g5.2
        rw [if_pos (.inr g5)] at hI
        simp (maxSteps := 200000) (disch := first | omega | (simp only [go_sem] <;> omega) | fail) only [go_sem, c1, callA_data mode_129, e3, e10, take5, hd16', c2, ha1, ha2, hex, nat_int, h, ha, hat, eN, eX, g3', g1', g2', hws1 h]
        exact ⟨(i + 1, acc), rfl, ⟨by simp only; omega, by simp only; omega, hI⟩, by simp only; omega⟩
      rw [if_neg (by rintro (hh | hh); exact g3 hh; exact g5 hh)] at hI
      have hfi2 := scFind_spec c1' ap
      obtain ⟨fu2, hfu2⟩ : ∃ x, findM c1' ap = x := ⟨_, rfl⟩
      rw [hfu2] at hfi2 hI
      obtain ⟨u2, fok2⟩ := fu2
      simp only at hfi2 hI
      have hca := containsAt_spec acc ap al av (by omega)
      obtain ⟨cb, hcb⟩ : ∃ x, acc.any (named al) = x := ⟨_, rfl⟩
      rw [hcb] at hca hI
      by_cases g1 : ap = []
      · have g1' := eq_true g1
        have g2' : (al = xmlnsB) = False := eq_false fun e => g5 ⟨g1, e⟩
        cases fok2 with
        | false =>
          simp only [true_or, ↓reduceIte] at hI
          rw [hI] at hout
          simp only at hout
          subst hout
          simp (maxSteps := 200000) (disch := first | omega | (simp only [go_sem] <;> omega) | fail) only [go_sem, c1, callA_data mode_129, e3, e10, take5, hd16', c2, ha1, ha2, hex, nat_int, h, ha, hat, eN, eX, g3', g1', g2', callA_pure mode_132, hfi2]
          exact tidy_el _ _ _ _ _
        | true =>
        cases cb with
        | true =>
          simp only [or_true, ↓reduceIte] at hI
          rw [hI] at hout
          simp only at hout
          subst hout
          simp (maxSteps := 200000) (disch := first | omega | (simp only [go_sem] <;> omega) | fail) only [go_sem, c1, callA_data mode_129, e3, e10, take5, hd16', c2, ha1, ha2, hex, nat_int, h, ha, hat, eN, eX, g3', g1', g2', callA_pure mode_132, hfi2, callX_elem, callA_pure mode_133, hca]
          exact tidy_el _ _ _ _ _
        | false =>
          simp only [Bool.true_eq_false, Bool.false_eq_true, or_self, ↓reduceIte] at hI
          simp (maxSteps := 200000) (disch := first | omega | (simp only [go_sem] <;> omega) | fail) only [go_sem, c1, callA_data mode_129, e3, e10, take5, hd16', c2, ha1, ha2, hex, nat_int, h, ha, hat, eN, eX, g3', g1', g2', callA_pure mode_132, hfi2, callX_elem, callA_pure mode_133, hca, hws1 h]
          refine ⟨(i + 1, acc ++ [(al, av)]), ?_, ⟨by simp only; omega, by simp only [List.length_append, List.length_cons, List.length_nil]; omega, hI⟩, by simp only; omega⟩
          simp only [atB, elB, S_79_32, List.map_append, List.map_cons, List.map_nil, List.length_append, List.length_cons, List.length_nil, Nat.zero_add, cA2_s]
          try rfl
      · have g1' := eq_false g1
        cases fok2 with
        | false =>
          simp only [true_or, ↓reduceIte] at hI
          rw [hI] at hout
          simp only at hout
          subst hout
          simp (maxSteps := 200000) (disch := first | omega | (simp only [go_sem] <;> omega) | fail) only [go_sem, c1, callA_data mode_129, e3, e10, take5, hd16', c2, ha1, ha2, hex, nat_int, h, ha, hat, eN, eX, g3', g1', callA_pure mode_132, hfi2]
          exact tidy_el _ _ _ _ _
        | true =>
        cases cb with
        | true =>
          simp only [or_true, ↓reduceIte] at hI
          rw [hI] at hout
          simp only at hout
          subst hout
          simp (maxSteps := 200000) (disch := first | omega | (simp only [go_sem] <;> omega) | fail) only [go_sem, c1, callA_data mode_129, e3, e10, take5, hd16', c2, ha1, ha2, hex, nat_int, h, ha, hat, eN, eX, g3', g1', callA_pure mode_132, hfi2, callX_elem, callA_pure mode_133, hca]
          exact tidy_el _ _ _ _ _
        | false =>
          simp only [Bool.true_eq_false, Bool.false_eq_true, or_self, ↓reduceIte] at hI
          simp (maxSteps := 200000) (disch := first | omega | (simp only [go_sem] <;> omega) | fail) only [go_sem, c1, callA_data mode_129, e3, e10, take5, hd16', c2, ha1, ha2, hex, nat_int, h, ha, hat, eN, eX, g3', g1', callA_pure mode_132, hfi2, callX_elem, callA_pure mode_133, hca, hws1 h]
          refine ⟨(i + 1, acc ++ [(al, av)]), ?_, ⟨by simp only; omega, by simp only [List.length_append, List.length_cons, List.length_nil]; omega, hI⟩, by simp only; omega⟩
          simp only [atB, elB, S_79_32, List.map_append, List.map_cons, List.map_nil, List.length_append, List.length_cons, List.length_nil, Nat.zero_add, cA2_s]
          try rfl
    · have hlt := eq_false h
      rw [List.drop_of_length_le (by omega), pickM] at hI
      obtain ⟨dd, dl⟩ := pickM_dist c1' ats [] acc rfl hI
      rw [hI] at hout
      simp only at hout
      have hsrt := attrSort_map acc dd
      have hsl := srtA_len acc
      have hsw : loudW XX 135 [.sl 0 0 acc.length false, .fn 136 []] [atB acc] = some (.tup [], [atB (srtA acc)]) := by
        refine extL_loudW rfl ?_
        show (if acc.length = (acc.map cA2).length ∧ acc.length ≤ 1000000 then (attrSort (acc.map cA2)).map fun es' => (AV.tup [], [Blk.arr 40 2 es']) else none) = _
        rw [if_pos ⟨by simp, by omega⟩, hsrt]
        rfl
      have cs := fun t (h : List Blk) (hh : h[2]? = some (atB acc)) => callX_arrW (X := XX) (t := t) (h := h) (bs := []) (f := 79) (k := 135) 2 (xs := [.sl 2 0 acc.length false, .fn 136 []]) (by rw [live_79]; rfl) rfl rfl hh (by rw [List.length_map, List.length_map, hsl]) rfl (by simp) hsw
      have c5 := fun t h => callP2 (t := t) (h := h) (xs := [vS ⟨#[47, 62]⟩]) f3 rfl rfl (rskip hqs hs ⟨#[47, 62]⟩)
      rw [show lS8 ⟨#[47, 62]⟩ = [47, 62] from rfl, show (ByteArray.mk #[47, 62]).size = 2 from rfl] at c5
      rcases Bool.eq_false_or_eq_true (Lib.hasPrefix q [47, 62]) with hp5 | hp5
      · rw [hp5] at c5 hout
        simp only [↓reduceIte] at c5 hout
        subst hout
        simp (maxSteps := 200000) (disch := first | omega | (simp only [go_sem] <;> omega) | fail) only [go_sem, c1, callA_data mode_129, e3, e10, take5, hd16', c2, ha1, ha2, hex, nat_int, hlt, cs, c5]
        rw [← hsl]
        have := tidy_el2 s (q.drop 2) (.var [vS (mkS u), vS (mkS l), .sl 2 0 (srtA acc).length false, vS ⟨#[]⟩, .sl 3 0 0 false]) (mkS u) (mkS l) ⟨#[]⟩ 0 40 36 2 5 ((srtA acc).map cA2) [] [elB (mkS u) (mkS l) ⟨#[]⟩ (srtA acc).length 0]
        rw [List.length_map] at this
        rw [show elR s ((0, Elem.mk (mkS u) (mkS l) ((srtA acc).map strA) ⟨#[]⟩ []), q.drop 2) = (.tup [.agg [vS (mkS u), vS (mkS l), .fs ((srtA acc).map cA2) false, vS ⟨#[]⟩, .fs [] false], .v (.int .i64 0)], [pR s (q.drop 2)]) from by
          show (AV.tup [.agg (eElem _), _], _) = _
          rw [eElem_s]
          simp only [Elem.space, Elem.name, Elem.attrs, Elem.text, Elem.kids, List.map_map, List.map_nil]
          rfl]
        exact this
      · rw [hp5] at c5 hout
        simp only [Bool.false_eq_true, ↓reduceIte] at c5 hout
        have c6 := fun t h => callP2 (t := t) (h := h) (xs := [vS ⟨#[62]⟩]) f3 rfl rfl (rskip hqs hs ⟨#[62]⟩)
        rw [show lS8 ⟨#[62]⟩ = [62] from rfl, show (ByteArray.mk #[62]).size = 1 from rfl] at c6
        rcases Bool.eq_false_or_eq_true (Lib.hasPrefix q [62]) with hp6 | hp6
        · rw [hp6] at c6 hout
          simp only [↓reduceIte] at c6 hout
          have hq1 := pre_len hp6
          rw [show ([62] : B8).length = 1 from rfl] at hq1
          obtain ⟨q1, hq1e⟩ : ∃ x, q.drop 1 = x := ⟨_, rfl⟩
          have hq1l : q1.length + 1 = q.length := by rw [← hq1e, List.length_drop]; omega
          have hq1s : q1 <:+ lS8 s := by rw [← hq1e]; exact (List.drop_suffix _ _).trans hqs
          rw [hq1e] at c6 hout
          have hins := hin n (Nat.lt_succ_self n) c1' d (mkS u) (mkS l) (srtA acc) q1 hq1s (by omega) hd0 (by omega)
          have hsf := ((suf_ok n).2 c1' d [] false [] q1).trans hq1s
          obtain ⟨R, hR⟩ : ∃ x, insM n c1' d [] false [] q1 = x := ⟨_, rfl⟩
          rw [hR] at hins hsf hout
          obtain ⟨⟨e, t, ks⟩, q2⟩ := R
          simp only at hins hsf hout
          have c7 := fun (m : Nat) (es : List (Nat × AV)) (he : n3 es = true) => callX_in (f := 79) (g := 138) (by rw [live_79]; rfl) s q1 q2 [vS ⟨#[]⟩, vS ⟨#[]⟩, .fs [] true, vS ⟨#[]⟩, .fs [] true] rfl (mkS u) (mkS l) (mkS t) (srtA acc) ks c1' d e m es he hins
          rw [hsl] at c7
          simp only [kiB, List.map_nil] at c7
          by_cases he : e = 0
          · subst he
            have hz : ((0 : Int) = 0) = True := eq_true rfl
            simp only [ne_eq, not_true, ↓reduceIte] at hout
            have c8 := fun t h => callP2 (t := t) (h := h) (xs := [vS (mkS w)]) f3 rfl rfl (rskip hsf hs (mkS w))
            rw [lS8_mk, mk_size] at c8
            rcases Bool.eq_false_or_eq_true (Lib.hasPrefix q2 w) with hp8 | hp8
            · rw [hp8] at c8 hout
              simp only [↓reduceIte] at c8 hout
              have h9s : q2.drop w.length <:+ lS8 s := (List.drop_suffix _ _).trans hsf
              obtain ⟨q9, hq9⟩ : ∃ x, q2.drop w.length = x := ⟨_, rfl⟩
              rw [hq9] at h9s c8 hout
              have c9 := fun t h => callP2 (t := t) (h := h) (xs := []) f1 rfl rfl (rblank h9s hs)
              have h3s : (q9.dropWhile blkB) <:+ lS8 s := (List.dropWhile_suffix _).trans h9s
              obtain ⟨q3, hq3⟩ : ∃ x, q9.dropWhile blkB = x := ⟨_, rfl⟩
              rw [hq3] at h3s c9 hout
              have c10 := fun t h => callP2 (t := t) (h := h) (xs := [vS ⟨#[62]⟩]) f3 rfl rfl (rskip h3s hs ⟨#[62]⟩)
              rw [show lS8 ⟨#[62]⟩ = [62] from rfl, show (ByteArray.mk #[62]).size = 1 from rfl] at c10
              rcases Bool.eq_false_or_eq_true (Lib.hasPrefix q3 [62]) with hp10 | hp10
              · rw [hp10] at c10 hout
                simp only [↓reduceIte] at c10 hout
                subst hout
                simp (maxSteps := 200000) (disch := first | omega | (simp only [go_sem] <;> omega) | fail) only [go_sem, c1, callA_data mode_129, e3, e10, take5, hd16', c2, ha1, ha2, hex, nat_int, hlt, cs, c5, c6, c7, hz, ne_eq, not_true, not_false_eq_true, c8, c9, c10]
                have := tidy_el2 s (q3.drop 1) (.var [vS (mkS u), vS (mkS l), .sl 2 0 acc.length false, vS (mkS t), .sl 3 0 ks.length false]) (mkS u) (mkS l) (mkS t) 0 40 36 2 5 ((srtA acc).map cA2) (ks.map eElem) [elB (mkS u) (mkS l) (mkS t) acc.length ks.length]
                rw [List.length_map, List.length_map, hsl] at this
                rw [show elR s ((0, Elem.mk (mkS u) (mkS l) ((srtA acc).map strA) (mkS t) ks), q3.drop 1) = (.tup [.agg [vS (mkS u), vS (mkS l), .fs ((srtA acc).map cA2) false, vS (mkS t), .fs (ks.map eElem) false], .v (.int .i64 0)], [pR s (q3.drop 1)]) from by
                  show (AV.tup [.agg (eElem _), _], _) = _
                  rw [eElem_s]
                  simp only [Elem.space, Elem.name, Elem.attrs, Elem.text, Elem.kids, List.map_map]
                  rfl]
                exact this
              · rw [hp10] at c10 hout
                simp only [Bool.false_eq_true, ↓reduceIte] at c10 hout
                subst hout
                simp (maxSteps := 200000) (disch := first | omega | (simp only [go_sem] <;> omega) | fail) only [go_sem, c1, callA_data mode_129, e3, e10, take5, hd16', c2, ha1, ha2, hex, nat_int, hlt, cs, c5, c6, c7, hz, ne_eq, not_true, not_false_eq_true, c8, c9, c10]
                exact tidy_el _ _ _ _ _
            · rw [hp8] at c8 hout
              simp only [Bool.false_eq_true, ↓reduceIte] at c8 hout
              subst hout
              simp (maxSteps := 200000) (disch := first | omega | (simp only [go_sem] <;> omega) | fail) only [go_sem, c1, callA_data mode_129, e3, e10, take5, hd16', c2, ha1, ha2, hex, nat_int, hlt, cs, c5, c6, c7, hz, ne_eq, not_true, not_false_eq_true, c8]
              exact tidy_el _ _ _ _ _
          · have he' := eq_false he
            have e11 := elem1_spec e
            rw [if_pos he] at hout
            subst hout
            simp (maxSteps := 200000) (disch := first | omega | (simp only [go_sem] <;> omega) | fail) only [go_sem, c1, callA_data mode_129, e3, e10, take5, hd16', c2, ha1, ha2, hex, nat_int, hlt, cs, c5, c6, c7, he', e11, ne_eq, not_true, not_false_eq_true]
            exact tidy_el _ _ _ _ _
        · rw [hp6] at c6 hout
          simp only [Bool.false_eq_true, ↓reduceIte] at c6 hout
          subst hout
          simp (maxSteps := 200000) (disch := first | omega | (simp only [go_sem] <;> omega) | fail) only [go_sem, c1, callA_data mode_129, e3, e10, take5, hd16', c2, ha1, ha2, hex, nat_int, hlt, cs, c5, c6]
          exact tidy_el _ _ _ _ _
end Go.Abs.SA
end
section
namespace Go.Abs.SA
open Go.Proofs
def nK (k : Nat) : List (Nat × AV) → Bool
  | [] => true
  | p :: es => !(idsOf p.2).contains k && nK k es
def nK1 (k : Nat) (x : AV) : Bool := !(idsOf x).contains k
theorem nK_nil (k : Nat) : nK k [] = true := nr rfl
theorem nK_cons (k j : Nat) (x : AV) (es : List (Nat × AV)) : nK k ((j, x) :: es) = (nK1 k x && nK k es) := nr rfl
theorem nK1_v (k : Nat) (x : Value) : nK1 k (.v x) = true := nr rfl
theorem nK1_ptr (k i o : Nat) : nK1 k (.ptr i o) = !decide (i = k) := nr (by
  by_cases h : i = k
  · subst h; simp [nK1, idsOf]
  · have : ¬ k = i := fun e => h e.symm
    simp [nK1, idsOf, h, this])
theorem nK1_sl (k i o l : Nat) (b : Bool) : nK1 k (.sl i o l b) = !decide (i = k) := nr (by
  by_cases h : i = k
  · subst h; simp [nK1, idsOf]
  · have : ¬ k = i := fun e => h e.symm
    simp [nK1, idsOf, h, this])
theorem nK1_tup0 (k : Nat) : nK1 k (.tup []) = true := nr rfl
theorem nK1_tup (k : Nat) (x : AV) (xs : List AV) : nK1 k (.tup (x :: xs)) = (nK1 k x && nK1 k (.tup xs)) := nr (by simp [nK1, idsOf, idsOfs, Bool.not_or])
theorem nK1_sc (k : Nat) (c : Scp) : nK1 k (scA c) = true := nr (by cases c <;> (rw [scA]; rfl))
attribute [go_sem] nK_nil nK_cons nK1_v nK1_ptr nK1_sl nK1_tup0 nK1_tup nK1_sc
theorem nK_T {k m : Nat} {es : List (Nat × AV)} (he : nK k es = true) (bad : List Nat) (hb : ∀ i ∈ bad, i = k) : AV.rens (keepF bad) (mkT m .junk es) = mkT m .junk es := by
  rw [rens_mkT]
  congr 1
  conv => rhs; rw [← List.map_id es]
  refine List.map_congr_left fun p hp => ?_
  have key : ∀ {es : List (Nat × AV)}, nK k es = true → ∀ p ∈ es, (idsOf p.2).contains k = false := by
    intro es
    induction es with
    | nil => intro _ p hp; cases hp
    | cons q r ih =>
      intro h p hp
      simp only [nK, Bool.and_eq_true] at h
      rcases List.mem_cons.1 hp with rfl | hp
      · simpa using h.1
      · exact ih h.2 p hp
  have h3 := key he p hp
  have : p.2.ren (keepF bad) = p.2 := ren_keepF bad p.2 fun i hi hib => by
    rw [hb i hib] at hi
    rw [List.contains_eq_mem, decide_eq_false_iff_not] at h3
    exact h3 hi
  rw [this]; rfl
def bldA4 (b : Bool) : AV := if b then .ptr 5 0 else nilP
abbrev bldD (a : AV) (l : B8) : List Blk := [.arr 5 1 (l.map eB), .var [a, .sl 4 0 l.length false] (some 134)]
theorem bld_call4 {f g : Nat} (hf : (XX.live f).contains g = true) (b : Bool) (l l' : B8) (ys : List AV) (hy : idsOfs ys = []) (r : AV) (hr : idsOf r = []) (s : Str) (q : B8) (sp nm t : Str) (al : List (B8 × B8)) (ks : List Elem) (m : Nat) (es : List (Nat × AV)) (he : nK 4 es = true)
    (hw : loudW XX g (.ptr 0 0 :: ys) (bldB (bldA b) l) = some (r, bldB (.ptr 0 0) l')) :
    callX XX (orW XX) ⟨mkT m .junk es, pR s q :: elB sp nm t al.length ks.length :: atB al :: kiB ks :: bldD (bldA4 b) l⟩ f g (.ptr 5 0 :: ys) =
      some (.st r ⟨mkT m .junk es, pR s q :: elB sp nm t al.length ks.length :: atB al :: kiB ks :: bldD (bldA4 true) l'⟩) := by
  rw [callX_live _ _ hf (by simp [AV.lts, AV.lt])]
  have hw' : (orW XX).loud g (.ptr 0 0 :: ys) (bldB (bldA b) l) = some (r, bldB (.ptr 0 0) l') := hw
  have hT := fun b hb => nK_T (m := m) he b hb
  have hn : ∀ f, AV.rens f ys = ys := fun f => rens_noids f ys hy
  have hn1 : ∀ f, AV.ren f r = r := fun f => ren_noids f r hr
  have hN : bldA false = .v (.pointer none) := rfl
  have hN1 : bldA true = .ptr 0 0 := rfl
  have hN2 : bldA4 false = .v (.pointer none) := rfl
  have hN3 : bldA4 true = .ptr 5 0 := rfl
  unfold bldB at hw'
  unfold elB atB kiB
  cases b <;> by_cases ht : l.length = l'.length <;>
    simp [hN, hN1, hN2, hN3, ht] at hw' ⊢ <;>
    simp [callL, reach, addNew, idsOfs, idsOf, dist, AV.rens, AV.ren, posOf, Blk.ren, hw', badL, badB, putBack, backF, hT, ht, keepF, hy, hn, hn1, hN, hN1, hN2, hN3]
theorem bld_string4 {f : Nat} (hf : (XX.live f).contains 99 = true) (b : Bool) (l : B8) (s : Str) (q : B8) (sp nm t : Str) (al : List (B8 × B8)) (ks : List Elem) (m : Nat) (es : List (Nat × AV)) (he : nK 4 es = true) :
    callX XX (orW XX) ⟨mkT m .junk es, pR s q :: elB sp nm t al.length ks.length :: atB al :: kiB ks :: bldD (bldA4 b) l⟩ f 99 [.ptr 5 0] =
      some (.st (vS (mkS l)) ⟨mkT m .junk es, [pR s q, elB sp nm t al.length ks.length, atB al, kiB ks, .dead, .var [bldA4 b, .junk] (some 134)]⟩) := by
  rw [callX_live _ _ hf rfl]
  have hw' : (orW XX).loud 99 [.ptr 0 0] (bldB (bldA b) l) = some (vS (mkS l), [.var [bldA b, .junk] (some 134), .dead]) := string_spec (bldA b) (bldA_or b) l
  have hT := fun b hb => nK_T (m := m) he b hb
  have hN : bldA false = .v (.pointer none) := rfl
  have hN1 : bldA true = .ptr 0 0 := rfl
  have hN2 : bldA4 false = .v (.pointer none) := rfl
  have hN3 : bldA4 true = .ptr 5 0 := rfl
  unfold bldB at hw'
  unfold elB atB kiB
  cases b <;> simp [hN, hN1, hN2, hN3] at hw' ⊢ <;>
    simp [callL, reach, addNew, idsOfs, idsOf, dist, AV.rens, AV.ren, posOf, Blk.ren, hw', badL, badB, putBack, backF, hT, keepF, hN, hN1, hN2, hN3]
theorem tidy_in (s : Str) (q : B8) (sp nm t : Str) (e : Int) (na nk : Nat) (al : List (B8 × B8)) (ks : List Elem) (bs : List Blk) :
    tidyA 4 (.v (.int .i64 e), pR s q :: elB sp nm t na nk :: atB al :: kiB ks :: bs) = some (.v (.int .i64 e), [pR s q, elB sp nm t na nk, atB al, kiB ks]) := by
  have hf : ∀ h : List Blk, freeze ⟨[], h⟩ [AV.v (.int .i64 e)] = some ([AV.v (.int .i64 e)], ⟨[], h⟩) := fun h => by
    rw [freeze_no rfl]; rfl
  unfold tidyA
  rw [hf]
  simp [reach, addNew, headIds, idsOfs, idsOf, dist, Blk.ren, AV.rens, AV.ren, gcF, posOf]
theorem plM_len : ∀ (n : Nat) (acc l : B8), (plM n acc l).1.length ≤ acc.length + l.length
  | 0, acc, l => by rw [plM]; simp
  | n + 1, acc, l => by
    rw [plM]
    split
    · simp
    · split
      · refine Nat.le_trans (plM_len n _ _) ?_
        have h1 := cut_len2 (l.drop ((Lib.indexByte l 38).toNat + 1)) [59]
        have h2 := idxB_lt 38 l (by omega)
        rw [List.length_drop] at h1
        simp only [List.length_append, List.length_take, List.length_cons, List.length_nil]
        omega
      · simp
end Go.Abs.SA
end
