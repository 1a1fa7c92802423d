/- YtmjhgjgfinhiaaaGreatDoorXa6: a part of the interpreter by which the claim is shown, and of the walks: no conditions of its own: every theorem states its own. -/
import Derived.Test.YtmjhgjgfinhiaaaGreatDoorXa5
set_option linter.unusedVariables false
set_option linter.unusedSimpArgs false
set_option linter.unusedSectionVars false
set_option maxHeartbeats 8000000
set_option maxRecDepth 100000
section
namespace Go.Abs.SA
open Go.Proofs
mutual
def cntE : Elem → Nat
  | .mk _ _ _ _ k => 1 + cntEs k
def cntEs : List Elem → Nat
  | [] => 0
  | e :: r => cntE e + cntEs r
end
theorem cntE_s (e : Elem) : cntE e = 1 + cntEs e.kids := by cases e; simp [cntE, Elem.kids]
theorem cntE_mem : ∀ {l : List Elem} {x : Elem}, x ∈ l → cntE x ≤ cntEs l
  | y :: r, x, h => by
    simp only [cntEs]
    rcases List.mem_cons.1 h with rfl | h
    · omega
    · have := cntE_mem h; omega
end Go.Abs.SA
end
section
namespace Go.Abs.SA
open Go.Proofs
inductive Def where
  | mk (name : Str) (kind type : Int) (values : List Str) (must : Bool) (keys : List Str) (kids : List Def)
def Def.name : Def → Str | .mk n _ _ _ _ _ _ => n
def Def.kind : Def → Int | .mk _ k _ _ _ _ _ => k
def Def.type : Def → Int | .mk _ _ t _ _ _ _ => t
def Def.values : Def → List Str | .mk _ _ _ v _ _ _ => v
def Def.must : Def → Bool | .mk _ _ _ _ m _ _ => m
def Def.keys : Def → List Str | .mk _ _ _ _ _ k _ => k
def Def.kids : Def → List Def | .mk _ _ _ _ _ _ k => k
mutual
def eDef : Def → List AV
  | .mk n k t v m ks kd => [vS n, vI k, vI t, lS v, vB m, lS ks, .fs (eDefs kd) false]
def eDefs : List Def → List (List AV)
  | [] => []
  | e :: r => eDef e :: eDefs r
end
theorem eDefs_map : ∀ (l : List Def), eDefs l = l.map eDef
  | [] => rfl
  | n :: r => by simp [eDefs, eDefs_map r]
theorem eDef_s (e : Def) : eDef e = [vS e.name, vI e.kind, vI e.type, lS e.values, vB e.must, lS e.keys, .fs (e.kids.map eDef) false] := by
  cases e; simp [eDef, eDefs_map, Def.name, Def.kind, Def.type, Def.values, Def.must, Def.keys, Def.kids]
theorem eDef_len (e : Def) : (eDef e).length = 7 := by rw [eDef_s]; rfl
attribute [go_sem] eDef_len
instance : EL eDef 7 := ⟨eDef_len⟩
def leafD (n : Str) (t : Int) : Def := .mk n 3 t [] false [] []
def sName : Str := ⟨#[110, 97, 109, 101]⟩
def portD : Def := .mk ⟨#[112, 111, 114, 116]⟩ 2 0 [] false [sName] [leafD sName 0, leafD ⟨#[115, 112, 101, 101, 100]⟩ 1, leafD ⟨#[111, 110]⟩ 2]
def schema : List Def := [leafD ⟨#[104, 111, 115, 116]⟩ 0,
  .mk ⟨#[98, 111, 120]⟩ 1 0 [] false [] [leafD ⟨#[116, 105, 116, 108, 101]⟩ 0, .mk ⟨#[99, 111, 108, 111, 114]⟩ 3 3 [⟨#[114, 101, 100]⟩, ⟨#[103, 114, 101, 101, 110]⟩] false [] [], portD,
    .mk ⟨#[100, 101, 101, 112]⟩ 1 0 [] false [] [.mk ⟨#[105, 100]⟩ 3 1 [] true [] [], leafD ⟨#[110, 111, 116, 101]⟩ 0]],
  .mk ⟨#[112, 97, 105, 114]⟩ 2 0 [] false [⟨#[120]⟩, ⟨#[121]⟩] [leafD ⟨#[121]⟩ 0, leafD ⟨#[120]⟩ 1, leafD ⟨#[118]⟩ 0],
  .mk ⟨#[97, 114, 101, 97]⟩ 2 0 [] false [sName] [leafD sName 0, portD]]
end Go.Abs.SA
end
section
namespace Go.Abs.SA
open Go.Proofs
def place (l : List Def) (name : Str) : Option Nat := l.findIdx? fun d => decide (d.name = name)
end Go.Abs.SA
end
section
namespace Go.Abs.SA
open Go.Proofs
def cmpS : List Str → List Str → Int
  | [], b => -(b.length : Int)
  | a :: r, [] => (r.length : Int) + 1
  | a :: r, b :: q => if sless a b then -1 else if !(sless a b || decide (a = b)) then 1 else cmpS r q
end Go.Abs.SA
end
section
namespace Go.Abs.SA
open Go.Proofs
def leafV (l : List Node) (k : Str) : Option Str := (l.find? fun x => decide (x.name = k)).map Node.value
def keyOf (d : Def) (n : Node) : Option (List Str) := if (d.keys.all fun k => (leafV n.kids k).isSome) = true then some (d.keys.filterMap (leafV n.kids)) else none
end Go.Abs.SA
end
section
namespace Go.Abs.SA
open Go.Proofs
def keyD (d : Def) (n : Node) : List Str := (keyOf d n).getD []
def sameN (d : Def) (n x : Node) : Bool := decide (x.name = n.name) && decide (cmpS (keyD d x) (keyD d n) = 0)
def sameAt (d : Def) (l : List Node) (n : Node) : Option Nat := l.findIdx? (sameN d n)
end Go.Abs.SA
end
section
namespace Go.Abs.SA
open Go.Proofs
def allB (lo hi : Int) (s : Str) : Prop := ∀ i < s.size, lo ≤ byteAt s i ∧ byteAt s i ≤ hi
instance (lo hi : Int) (s : Str) : Decidable (allB lo hi s) := by unfold allB; infer_instance
def sign (s : Str) : Str := if 0 < s.size ∧ byteAt s 0 = 45 then s.extract 1 s.size else s
def numT (s : Str) : Bool := let t := sign s
  decide (1 ≤ t.size) && decide (t.size ≤ 18) && !(decide (byteAt t 0 = 48) && decide (s ≠ ⟨#[48]⟩)) && decide (allB 48 57 t)
def valueM (d : Def) (s : Str) : Bool :=
  decide (s.size ≤ 128) && decide (allB 32 126 s) &&
    (if d.type = 1 then numT s else if d.type = 2 then decide (s = ⟨#[116, 114, 117, 101]⟩) || decide (s = ⟨#[102, 97, 108, 115, 101]⟩) else if d.type = 3 then has d.values s else true)
end Go.Abs.SA
end
section
namespace Go.Abs.SA
open Go.Proofs
def before (l : List Def) (a b : Node) : Bool :=
  match place l a.name, place l b.name with
  | some i, some j => if i = j then (match l[i]? with
    | some d => decide (cmpS (keyD d a) (keyD d b) < 0)
    | none => false) else decide (i < j)
  | x, y => decide (posI x < posI y)
end Go.Abs.SA
end
section
namespace Go.Abs.SA
open Go.Proofs
def insPos (l : List Def) (n : Node) (out : List Node) : Nat → Nat
  | 0 => 0
  | k + 1 => match out[k]? with
    | some x => if before l n x then insPos l n out k else k + 1
    | none => k + 1
def ins (l : List Def) (out : List Node) (n : Node) : List Node := out.take (insPos l n out out.length) ++ n :: out.drop (insPos l n out out.length)
def order (l : List Def) (nodes : List Node) : List Node := nodes.foldl (ins l) []
end Go.Abs.SA
end
section
namespace Go.Abs.SA
open Go.Proofs
mutual
def rdE (l : List Def) : Elem → Except Int (Def × Node)
  | .mk _ n _ t k => match place l n with
    | none => .error 11
    | some i => match l[i]? with
      | none => .error 11
      | some d =>
        if d.kind = 3 then (if k ≠ [] ∨ valueM d t = false then .error 12 else .ok (d, .mk n t []))
        else if t ≠ ⟨#[]⟩ then .error 12 else match rdL d.kids [] [] k with
          | .error e => .error e
          | .ok nodes => if (keyOf d (.mk n ⟨#[]⟩ nodes)).isSome then .ok (d, .mk n ⟨#[]⟩ nodes) else .error 13
def rdL (l : List Def) (out all : List Node) : List Elem → Except Int (List Node)
  | [] => if 256 < out.length then .error 2 else .ok (order l out)
  | e :: r => match rdE l e with
    | .error x => .error x
    | .ok (d, n) => if (sameAt d all n).isSome then .error 15 else rdL l (if d.kind ≠ 1 ∨ n.kids ≠ [] then out ++ [n] else out) (all ++ [n]) r
end
end Go.Abs.SA
end
section
namespace Go.Abs.SA
open Go.Proofs
end Go.Abs.SA
end
section
namespace Go.Abs.SA
open Go.Proofs
def tree (l : List Elem) : Option (List Node) := if smallL 300 l < 0 then none else match rdL schema [] [] l with
  | .error _ => none
  | .ok n => some n
end Go.Abs.SA
end
section
namespace Go.Abs.SA
open Go.Proofs
end Go.Abs.SA
end
section
namespace Go.Abs.SA
open Go.Proofs
theorem XX_ok : XX.ok = true := by kernel_rfl
theorem reach_s : reachBytes = 140737488351232 := rfl
theorem ce_9 : Tryz.prog.cellsOf 9 = 1 := by kernel_rfl
theorem ce_22 : Tryz.prog.cellsOf 22 = 1 := by kernel_rfl
theorem ce_34 : Tryz.prog.cellsOf 34 = 1 := by kernel_rfl
theorem ce_36 : Tryz.prog.cellsOf 36 = 5 := by kernel_rfl
theorem ce_40 : Tryz.prog.cellsOf 40 = 2 := by kernel_rfl
end Go.Abs.SA
end
