/- YtmjhgjgfinhiaaaGreatDoorXa5: a part of the interpreter by which the claim is shown, and of the walks: no conditions of its own: every theorem states its own. -/
import Derived.Test.YtmjhgjgfinhiaaaGreatDoorXa4
set_option linter.unusedVariables false
set_option linter.unusedSimpArgs false
set_option linter.unusedSectionVars false
set_option maxHeartbeats 4000000
set_option maxRecDepth 100000
section
namespace Go.Abs.SA
open Go.Proofs
abbrev Str := ByteArray
abbrev vS (s : Str) : AV := .v (.string s)
abbrev vI (n : Int) : AV := .v (.int .i64 n)
abbrev vB (b : Bool) : AV := .v (.bool b)
abbrev eS (s : Str) : List AV := [vS s]
abbrev lS (l : List Str) : AV := .fs (l.map eS) false
theorem eS_len (s : Str) : (eS s).length = 1 := rfl
attribute [go_sem] eS_len
instance : EL eS 1 := ⟨eS_len⟩
def posI : Option Nat → Int
  | some i => i
  | none => -1
theorem nat_int {i n : Nat} : ((i : Int) < (n : Int)) = (i < n) := propext (by omega)
def has (l : List Str) (v : Str) : Bool := l.any fun x => decide (v = x)
end Go.Abs.SA
end
section
namespace Go.Abs.SA
open Go.Proofs
end Go.Abs.SA
end
section
namespace Go.Abs.SA
open Go.Proofs
structure Rule where
  group : Str
  rights : Int
  path : List Str
  permit : Bool
structure Policy where
  rules : List Rule
  read : Bool
  write : Bool
def eRule (r : Rule) : List AV := [vS r.group, vI r.rights, lS r.path, vB r.permit]
theorem eRule_len (r : Rule) : (eRule r).length = 4 := rfl
attribute [go_sem] eRule_len
instance : EL eRule 4 := ⟨eRule_len⟩
inductive Node where
  | mk (name value : Str) (kids : List Node)
def Node.name : Node → Str | .mk n _ _ => n
def Node.value : Node → Str | .mk _ v _ => v
def Node.kids : Node → List Node | .mk _ _ k => k
mutual
def eNode : Node → List AV
  | .mk n v k => [vS n, vS v, .fs (eNodes k) false]
def eNodes : List Node → List (List AV)
  | [] => []
  | n :: r => eNode n :: eNodes r
end
theorem eNodes_map : ∀ (l : List Node), eNodes l = l.map eNode
  | [] => rfl
  | n :: r => by simp [eNodes, eNodes_map r]
theorem eNode_s (n : Node) : eNode n = [vS n.name, vS n.value, .fs (n.kids.map eNode) false] := by
  cases n; simp [eNode, eNodes_map, Node.name, Node.value, Node.kids]
theorem eNode_len (n : Node) : (eNode n).length = 3 := by rw [eNode_s]; rfl
attribute [go_sem] eNode_len
instance : EL eNode 3 := ⟨eNode_len⟩
def Rule.says (groups : List Str) (right : Int) (path : List Str) (r : Rule) : Bool :=
  decide (bitI .and .i64 r.rights right ≠ 0) && (decide (r.group = ⟨#[]⟩) || has groups r.group) && decide (r.path <+: path)
def may (p : Policy) (groups : List Str) (right : Int) (path : List Str) : Bool :=
  match p.rules.find? (Rule.says groups right path) with
  | some r => r.permit
  | none => if right = 1 then p.read else p.write
structure Policy.ok (p : Policy) : Prop where
  len : p.rules.length ≤ 140737488355328
  path : ∀ r ∈ p.rules, r.path.length ≤ 140737488355328
end Go.Abs.SA
end
section
namespace Go.Abs.SA
open Go.Proofs
noncomputable instance : DecidableEq Node := fun a b => Classical.propDecidable (a = b)
end Go.Abs.SA
end
section
namespace Go.Abs.SA
open Go.Proofs
end Go.Abs.SA
end
section
namespace Go.Abs.SA
open Go.Proofs
end Go.Abs.SA
end
section
namespace Go.Abs.SA
open Go.Proofs
end Go.Abs.SA
end
section
namespace Go.Abs.SA
open Go.Proofs
inductive Elem where
  | mk (space name : Str) (attrs : List (Str × Str)) (text : Str) (kids : List Elem)
def Elem.space : Elem → Str | .mk s _ _ _ _ => s
def Elem.name : Elem → Str | .mk _ n _ _ _ => n
def Elem.attrs : Elem → List (Str × Str) | .mk _ _ a _ _ => a
def Elem.text : Elem → Str | .mk _ _ _ t _ => t
def Elem.kids : Elem → List Elem | .mk _ _ _ _ k => k
def eAttr (a : Str × Str) : List AV := [vS a.1, vS a.2]
mutual
def eElem : Elem → List AV
  | .mk s n a t k => [vS s, vS n, .fs (a.map eAttr) false, vS t, .fs (eElems k) false]
def eElems : List Elem → List (List AV)
  | [] => []
  | e :: r => eElem e :: eElems r
end
theorem eElems_map : ∀ (l : List Elem), eElems l = l.map eElem
  | [] => rfl
  | n :: r => by simp [eElems, eElems_map r]
theorem eElem_s (e : Elem) : eElem e = [vS e.space, vS e.name, .fs (e.attrs.map eAttr) false, vS e.text, .fs (e.kids.map eElem) false] := by
  cases e; simp [eElem, eElems_map, Elem.space, Elem.name, Elem.attrs, Elem.text, Elem.kids]
theorem eElem_len (e : Elem) : (eElem e).length = 5 := by rw [eElem_s]; rfl
attribute [go_sem] eElem_len
instance : EL eElem 5 := ⟨eElem_len⟩
abbrev lE (l : List Elem) : AV := .fs (l.map eElem) false
def wE (e : Elem) : Nat := 1 + (e.text.size + e.space.size + e.name.size) / 50 + e.attrs.length
mutual
def smallN (n : Int) : Elem → Int
  | .mk s nm a t k => if n - wE (.mk s nm a t k) < 0 then n - wE (.mk s nm a t k) else smallL (n - wE (.mk s nm a t k)) k
def smallL (n : Int) : List Elem → Int
  | [] => n
  | e :: r => if n - wE e < 0 then n - wE e else smallL (smallN n e) r
end
end Go.Abs.SA
end
