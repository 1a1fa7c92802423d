/- YtmjhgjgfinhiaaaGreatDoorVp1: a part of the interpreter by which the claim is shown, and of the walks: no conditions of its own: every theorem states its own. -/
import Derived.Test.YtmjhgjgfinhiaaaGreatDoorVa5
import Derived.Lib.TrimUEq
import Derived.Lib.RuneCount
set_option linter.unusedVariables false
set_option linter.unusedSimpArgs false
set_option linter.unusedSectionVars false
set_option maxHeartbeats 8000000
set_option maxRecDepth 100000
section
namespace Go.Abs.SA
open Go.Proofs
abbrev B8 := List UInt8
def rest (s : Str) (i : Nat) : B8 := (lS8 s).drop i
theorem lS8_len (s : Str) : (lS8 s).length = s.size := by
  show s.data.toList.length = s.data.size
  simp
theorem lS8_mk (l : B8) : lS8 (mkS l) = l := by simp
theorem mk_lS8 (s : Str) : mkS (lS8 s) = s := by cases s; simp
theorem mk_size (l : B8) : (mkS l).size = l.length := by
  show l.toArray.size = l.length
  simp
theorem byteAt_list (s : Str) (i : Nat) (h : i < s.size) : byteAt s i = (((lS8 s)[i]'(by rw [lS8_len]; exact h)).toNat : Int) := by
  unfold byteAt
  have h1 : i < s.data.size := h
  have e : s.get! i = s.data[i] := by
    have : s.get! i = s.data[i]! := rfl
    rw [this]; exact getElem!_pos s.data i h1
  rw [e]; simp
end Go.Abs.SA
end
section
namespace Go.Abs.SA
open Go.Proofs
abbrev bldB (a : AV) (l : B8) : List Blk := [.var [a, .sl 1 0 l.length false] (some 134), .arr 5 1 (l.map eB)]
theorem rens_mkT (f : Nat → Option Nat) (m : Nat) (d : AV) (l : List (Nat × AV)) : AV.rens f (mkT m d l) = mkT m (d.ren f) (l.map fun p => (p.1, p.2.ren f)) := by
  have : ∀ l : List AV, AV.rens f l = l.map (AV.ren f) := by
    intro l
    induction l with
    | nil => rw [AV.rens]; rfl
    | cons x r ih => rw [AV.rens, ih]; rfl
  rw [this, mkT_map]
theorem keepF_out {i : Nat} {bad : List Nat} (h : i ∉ bad) : keepF bad i = some i := by unfold keepF; rw [if_neg h]
theorem copyCheckX (a b : AV) (r : List Blk) (ha : a = .v (.pointer none) ∨ a = .ptr 0 0) : loudW XX 203 [.ptr 0 0] (.var [a, b] (some 134) :: r) = some (.tup [], .var [.ptr 0 0, b] (some 134) :: r) := by
  rcases ha with rfl | rfl
  · exact extL_loudW rfl rfl
  · exact extL_loudW rfl rfl
theorem opA_assign_nilI {X : Abs.X} {O : Or} {f : FuncId} {lm : Option Nat} {d : Option Nat} {ty : TypeId} {pos : String} {af : Array Edge} {g : Option (Nat × Bool)} {s : St} : opA X O f lm ⟨d, .assign (.const .nilIface), ty, pos, af, g⟩ s = some (.val (.v .nilIface)) := nr (by
  simp only [opA, adopts, isNilSlice, Bool.false_and]
  rfl)
attribute [go_sem] opA_assign_nilI
theorem eB_app (l m : B8) : l.map eB ++ m.map eB = (l ++ m).map eB := (List.map_append).symm
theorem writeS_spec (a : AV) (ha : a = .v (.pointer none) ∨ a = .ptr 0 0) (l : B8) (t : Str) (hl : l.length + t.size ≤ 1099511627776) :
    loudW XX 152 [.ptr 0 0, vS t] (bldB a l) = some (.tup [vI t.size, .v .nilIface], bldB (.ptr 0 0) (l ++ lS8 t)) := by
  have hcc : ∀ ts, callX XX (orW XX) ⟨ts, bldB a l⟩ 152 203 [.ptr 0 0] = some (.st (.tup []) ⟨ts, bldB (.ptr 0 0) l⟩) := by
    intro ts
    rw [callX_live _ _ (by rw [live_152]; rfl) rfl]
    have hw := copyCheckX a (.sl 1 0 l.length false) [.arr 5 1 (l.map eB)] ha
    have hw' : (orW XX).loud 203 [.ptr 0 0] [.var [a, .sl 1 0 l.length false] (some 134), .arr 5 1 (l.map eB)] = some (.tup [], [.var [.ptr 0 0, .sl 1 0 l.length false] (some 134), .arr 5 1 (l.map eB)]) := hw
    rcases ha with rfl | rfl
    · simp [callL, reach, addNew, idsOfs, idsOf, dist, AV.rens, AV.ren, posOf, Blk.ren, hw', badL, badB, putBack, backF, rens_id keepF_nil]
    · simp [callL, reach, addNew, idsOfs, idsOf, dist, AV.rens, AV.ren, posOf, Blk.ren, hw', badL, badB, putBack, backF, rens_id keepF_nil]
  have hlt : t.data.toList.length = t.size := lS8_len t
  unfold bldB at hcc ⊢
  refine loudW_in 19 Tryz.func152 Tryz.ntmps152 (by simp) (rfl : Tryz.f152.body = some _) fns_152 ?_
  simp (maxSteps := 200000) (disch := first | omega | (simp only [go_sem] <;> omega) | fail) only [go_sem, hcc, eB_app, ofBytes, List.length_map]
  all_goals simp [hlt]
end Go.Abs.SA
end
section
namespace Go.Abs.SA
open Go.Proofs
end Go.Abs.SA
end
section
namespace Go.Abs.SA
open Go.Proofs
end Go.Abs.SA
end
section
namespace Go.Abs.SA
open Go.Proofs
end Go.Abs.SA
end
section
namespace Go.Abs.SA
open Go.Proofs
end Go.Abs.SA
end
section
namespace Go.Abs.SA
open Go.Proofs
def low (c : UInt8) : Int := bitI .or .u8 (c.toNat : Int) 32
end Go.Abs.SA
end
section
namespace Go.Abs.SA
open Go.Proofs
theorem intsOf_eB (l : B8) : intsOf (l.map eB) = some (l.map fun c => (c.toNat : Int)) := by
  induction l with
  | nil => rfl
  | cons c l ih => simp [intsOf, eB, ih]
theorem string_spec (a : AV) (ha : a = .v (.pointer none) ∨ a = .ptr 0 0) (l : B8) :
    loudW XX 99 [.ptr 0 0] (bldB a l) = some (vS (mkS l), [.var [a, .junk] (some 134), .dead]) := by
  have e : bldEnd a l.length (l.map eB) = some (vS (mkS l), [.var [a, .junk] (some 134), .dead]) := by
    unfold bldEnd
    rw [if_pos (by simp), intsOf_eB]
    have hall : ((l.map fun c : UInt8 => (c.toNat : Int)).all fun n => decide (0 ≤ n) && decide (n < 256)) = true := by
      rw [List.all_eq_true]
      intro n hn
      obtain ⟨c, _, rfl⟩ := List.mem_map.1 hn
      have := UInt8.toNat_lt c
      simp only [Bool.and_eq_true, decide_eq_true_eq]
      omega
    simp only [hall, ↓reduceIte]
    simp only [List.map_map]
    have : (l.map ((fun n : Int => UInt8.ofNat n.toNat) ∘ fun c : UInt8 => (c.toNat : Int))) = l := by
      conv => rhs; rw [← List.map_id l]
      refine List.map_congr_left fun c _ => ?_
      simp
    rw [this]
  rcases ha with rfl | rfl
  · exact extL_loudW rfl e
  · exact extL_loudW rfl e
abbrev nilP : AV := .v (.pointer none)
def bldA (b : Bool) : AV := if b then .ptr 0 0 else nilP
attribute [go_sem] Bool.and_self
end Go.Abs.SA
end
section
namespace Go.Abs.SA
open Go.Proofs
end Go.Abs.SA
end
section
namespace Go.Abs.SA
open Go.Proofs
abbrev At3 := B8 × B8 × B8
def cA3 (a : At3) : List AV := [vS (mkS a.1), vS (mkS a.2.1), vS (mkS a.2.2)]
instance : EL cA3 3 := ⟨fun _ => rfl⟩
end Go.Abs.SA
end
section
namespace Go.Abs.SA
open Go.Proofs
theorem frz_fs (h : List Blk) (es : List (List AV)) (b : Bool) : frz h 6 (.fs es b) = some (.fs es false) := by rw [frz.eq_def]
end Go.Abs.SA
end
section
namespace Go.Abs.SA
open Go.Proofs
theorem bne_ft : (false != true) = true := nr rfl
attribute [go_sem] bne_ft
end Go.Abs.SA
end
section
namespace Go.Abs.SA
open Go.Proofs
def cA2 (a : B8 × B8) : List AV := [vS (mkS a.1), vS (mkS a.2)]
instance : EL cA2 2 := ⟨fun _ => rfl⟩
def named (l : B8) (a : B8 × B8) : Bool := decide (a.1 = l)
end Go.Abs.SA
end
section
namespace Go.Abs.SA
open Go.Proofs
end Go.Abs.SA
end
section
namespace Go.Abs.SA
open Go.Proofs
end Go.Abs.SA
end
section
namespace Go.Abs.SA
open Go.Proofs
end Go.Abs.SA
end
section
namespace Go.Abs.SA
open Go.Proofs
end Go.Abs.SA
end
section
namespace Go.Abs.SA
open Go.Proofs
def n3 : List (Nat × AV) → Bool
  | [] => true
  | p :: es => !(idsOf p.2).contains 3 && n3 es
mutual
theorem ren_keepF (bad : List Nat) : ∀ x : AV, (∀ i ∈ idsOf x, i ∉ bad) → x.ren (keepF bad) = x
  | .sl id off len full, h => by rw [ren_sl, keepF_out (h id (by simp [idsOf]))]; rfl
  | .ptr id off, h => by rw [ren_ptr, keepF_out (h id (by simp [idsOf]))]; rfl
  | .eptr id i o, h => by rw [ren_eptr, keepF_out (h id (by simp [idsOf]))]; rfl
  | .fn g caps, h => by rw [idsOf] at h; rw [AV.ren, rens_keepF bad caps h]
  | .ifc t x, h => by rw [AV.ren, ren_keepF bad x (by simpa [idsOf] using h)]
  | .agg cs, h => by rw [idsOf] at h; rw [AV.ren, rens_keepF bad cs h]
  | .tup vs, h => by rw [idsOf] at h; rw [AV.ren, rens_keepF bad vs h]
  | .junk, h => by rw [AV.ren] <;> simp
  | .v x, h => by rw [AV.ren] <;> simp
  | .fs es b, h => by rw [AV.ren] <;> simp
  | .fp cs, h => by rw [AV.ren] <;> simp
theorem rens_keepF (bad : List Nat) : ∀ xs : List AV, (∀ i ∈ idsOfs xs, i ∉ bad) → AV.rens (keepF bad) xs = xs
  | [], h => by rw [AV.rens]
  | x :: xs, h => by
    rw [idsOfs] at h
    rw [AV.rens, ren_keepF bad x (fun i hi => h i (List.mem_append_left _ hi)), rens_keepF bad xs (fun i hi => h i (List.mem_append_right _ hi))]
end
end Go.Abs.SA
end
