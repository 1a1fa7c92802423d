/- YtmjhgjgfinhiaaaGreatDoorXa1: a part of the interpreter by which the claim is shown, and of the walks: no conditions of its own: every theorem states its own. -/
import Derived.Calls
import Derived.Orders
import Derived.Laws.AppendOwn
import Derived.DataElems
import Derived.Laws.Cells
import Derived.Laws.Build
import Derived.Laws.MakeOwn
import Derived.Lib.AppendStr
set_option linter.unusedVariables false
set_option linter.unusedSimpArgs false
set_option linter.unusedSectionVars false
section
namespace Go.Abs
inductive AV where
  | junk
  | v (x : Value)
  | fs (es : List (List AV)) (full : Bool)
  | fp (cells : List AV)
  | sl (id off len : Nat) (full : Bool)
  | ptr (id off : Nat)
  | eptr (id i o : Nat)
  | fn (f : FuncId) (caps : List AV)
  | ifc (t : TypeId) (x : AV)
  | agg (cells : List AV)
  | tup (vs : List AV)
  deriving Inhabited
inductive Blk where
  | dead
  | var (cells : List AV) (ty : Option Nat := none)
  | arr (e sz : Nat) (es : List (List AV))
  | iter (s : ByteArray) (pos : Nat)
  deriving Inhabited
structure St where
  t : List AV
  h : List Blk
inductive Ex where
  | normal
  | exit (id : Nat)
  | ret
inductive TD where
  | int (k : IntKind)
  | bool
  | str
  | slice (e : Nat)
  | ptr (e : Nat)
  | struct (fs : List (Nat × Nat))
  | array (n e : Nat)
  | other
structure TI where
  d : TD
  size : Nat
  bytes : Nat
  zero : Option Value
def tdOf : TypeDesc → TD
  | .int k => .int k
  | .bool => .bool
  | .string => .str
  | .slice e => .slice e
  | .pointer e => .ptr e
  | .struct fs => .struct (fs.toList.map fun f => (f.offset, f.type))
  | .array n e => .array n e
  | _ => .other
def tyOf (P : Program) (t : TypeId) : Option TI :=
  match P.info? t, P.underlying t with
  | some i, some d => some ⟨tdOf d, i.size, i.bytes, i.zero⟩
  | _, _ => none
def TD.isAgg : TD → Bool
  | .struct _ => true
  | .array _ _ => true
  | _ => false
inductive Mode where
  | pure
  | data
  | fresh
structure X where
  P : Program
  mode : FuncId → Mode
  
  trim : FuncId → Nat → Option (List Nat × List Nat)
  
  adopt : FuncId → List Nat
  
  cls : FuncId → Nat → List Nat
  
  fns : List FuncId
  
  live : FuncId → List FuncId := fun _ => []
  
  ext : FuncId → List AV → Option AV := fun _ _ => none
  
  extL : FuncId → List AV → List Blk → Option (AV × List Blk) := fun _ _ _ => none
  
  tidy : FuncId → Bool := fun _ => false
  
  own : FuncId → List (Nat × Nat × Nat) := fun _ => []
  
  tyk : TypeId → Bool := fun _ => false
  
  nilT : TypeId → Bool := fun _ => false
def plainV : Value → Bool
  | .bool _ | .int _ _ | .float _ _ | .string _ | .pointer none | .map none | .chan none | .nilFunc | .nilIface | .slice none 0 0 => true
  | _ => false
def ofCell : Value → AV
  | .slice none 0 0 => .fs [] true
  | .bool b => .v (.bool b)
  | .int k n => .v (.int k n)
  | .string s => .v (.string s)
  | .pointer none => .v (.pointer none)
  | .map none => .v (.map none)
  | .nilFunc => .v .nilFunc
  | .nilIface => .v .nilIface
  | _ => .junk
def ofValue : Value → AV
  | .agg cs => if cs.toList.all (fun v => match v with | .agg _ => false | .tuple _ => false | _ => true) then .agg (cs.toList.map ofCell) else .junk
  | .tuple ⟨[]⟩ => .tup []
  | v => ofCell v
def ev (s : St) : Operand → AV
  | .tmp t => s.t.getD t (.tup [])
  | .const v => ofValue v
  | .func f => .fn f []
  | .global _ => .junk
def put (s : St) (d : Option Nat) (x : AV) : St :=
  match d with
  | some d => { s with t := s.t.set d x }
  | none => s
def AV.cells? : AV → Option (List AV)
  | .agg cs => some cs
  | .junk => none
  | .tup _ => none
  | x => some [x]
mutual
def AV.lt (n : Nat) : AV → Bool
  | .sl id _ _ _ => decide (id < n)
  | .ptr id _ => decide (id < n)
  | .eptr id _ _ => decide (id < n)
  | .fn _ caps => AV.lts n caps
  | .ifc _ x => x.lt n
  | .agg cs => AV.lts n cs
  | .tup vs => AV.lts n vs
  | _ => true
def AV.lts (n : Nat) : List AV → Bool
  | [] => true
  | x :: xs => x.lt n && AV.lts n xs
end
def Blk.lt (n : Nat) : Blk → Bool
  | .var cs _ => AV.lts n cs
  | _ => true
mutual
def AV.kill (i : Nat) : AV → AV
  | .sl id off len full => if id = i then .junk else .sl id off len full
  | .ptr id off => if id = i then .junk else .ptr id off
  | .eptr id j o => if id = i then .junk else .eptr id j o
  | .fn f caps => .fn f (AV.kills i caps)
  | .ifc t x => .ifc t (x.kill i)
  | .agg cs => .agg (AV.kills i cs)
  | .tup vs => .tup (AV.kills i vs)
  | x => x
def AV.kills (i : Nat) : List AV → List AV
  | [] => []
  | x :: xs => x.kill i :: AV.kills i xs
end
def Blk.kill (i : Nat) : Blk → Blk
  | .var cs ty => .var (AV.kills i cs) ty
  | b => b
def cutEs (es : List (List AV)) (off len : Nat) : List (List AV) := if off = 0 ∧ len = es.length then es else (es.drop off).take len
def cellsAt (lim : Option Nat) (h : List Blk) : AV → Option (List AV)
  | .fp cs => some cs
  | .ptr id off => if lim.all (id < ·) then (match h[id]? with
    | some (.var cs _) => if off ≤ cs.length then some (cs.drop off) else none
    | _ => none) else none
  | .eptr id i o => if lim.all (id < ·) then (match h[id]? with
    | some (.arr _ _ es) => match es[i]? with
      | some c => if o ≤ c.length then some (c.drop o) else none
      | none => none
    | _ => none) else none
  | _ => none
def mapO (g : AV → Option AV) : List AV → Option (List AV)
  | [] => some []
  | x :: xs => match g x with
    | some y => match mapO g xs with
      | some ys => some (y :: ys)
      | none => none
    | none => none
def frz (h : List Blk) (k : Nat) (x : AV) : Option AV :=
  match x with
  | .fs es _ => some (.fs es false)
  | .sl id off len _ => match h[id]? with
    | some (.arr _ _ es) => if off + len ≤ es.length then some (.fs (cutEs es off len) false) else none
    | _ => none
  | .ptr id off => match k with
    | 0 => none
    | k + 1 => match h[id]? with
      | some (.var cs _) => if off ≤ cs.length then (mapO (frz h k) (cs.drop off)).map .fp else none
      | _ => none
  | .eptr id i o => match h[id]? with
    | some (.arr _ _ es) => match es[i]? with
      | some c => if o ≤ c.length then some (.fp (c.drop o)) else none
      | none => none
    | _ => none
  | .fn f caps => match k with
    | 0 => none
    | k + 1 => (mapO (frz h k) caps).map (.fn f)
  | .ifc t x => match k with
    | 0 => none
    | k + 1 => (frz h k x).map (.ifc t)
  | .agg cs => match k with
    | 0 => none
    | k + 1 => (mapO (frz h k) cs).map .agg
  | .tup vs => match k with
    | 0 => none
    | k + 1 => (mapO (frz h k) vs).map .tup
  | .junk => some .junk
  | .v x => some (.v x)
  | .fp cs => some (.fp cs)
termination_by structural k
def frzs (h : List Blk) (k : Nat) (xs : List AV) : Option (List AV) := mapO (frz h k) xs
mutual
def idsOf : AV → List Nat
  | .sl id _ _ _ => [id]
  | .ptr id _ => [id]
  | .eptr id _ _ => [id]
  | .fn _ caps => idsOfs caps
  | .ifc _ x => idsOf x
  | .agg cs => idsOfs cs
  | .tup vs => idsOfs vs
  | _ => []
def idsOfs : List AV → List Nat
  | [] => []
  | x :: xs => idsOf x ++ idsOfs xs
end
def addNew (acc : List Nat) : List Nat → List Nat
  | [] => acc
  | i :: is => if i ∈ acc then addNew acc is else addNew (acc ++ [i]) is
def reach (h : List Blk) : Nat → List Nat → List Nat
  | 0, acc => acc
  | k + 1, acc =>
    let more := acc.foldl (fun l i => match h[i]? with
      | some (.var cs _) => addNew l (idsOfs cs)
      | _ => l) acc
    if more.length = acc.length then acc else reach h k more
mutual
def AV.sub (h : List Blk) (is : List Nat) : AV → AV
  | .sl id off len full => if id ∈ is then (frz h 6 (.sl id off len full)).getD .junk else .sl id off len full
  | .ptr id off => if id ∈ is then (frz h 6 (.ptr id off)).getD .junk else .ptr id off
  | .eptr id i o => if id ∈ is then (frz h 6 (.eptr id i o)).getD .junk else .eptr id i o
  | .fn f caps => .fn f (AV.subs h is caps)
  | .ifc t x => .ifc t (x.sub h is)
  | .agg cs => .agg (AV.subs h is cs)
  | .tup vs => .tup (AV.subs h is vs)
  | x => x
def AV.subs (h : List Blk) (is : List Nat) : List AV → List AV
  | [] => []
  | x :: xs => x.sub h is :: AV.subs h is xs
end
def mask (h : List Blk) (is : List Nat) : List Blk := h.mapIdx fun i b => if i ∈ is then b else .dead
def freeze (s : St) (xs : List AV) : Option (List AV × St) :=
  if AV.lts 0 xs then (match frzs [] 6 xs with | some ys => some (ys, s) | none => none) else
  let is := reach s.h 6 (addNew [] (idsOfs xs))
  let hm := mask s.h is
  match frzs hm 6 xs with
  | none => none
  | some ys => some (ys, ⟨s.t.map (AV.sub hm is), s.h.mapIdx fun i b => if i ∈ is then .dead else match b with
      | .var cs ty => .var (AV.subs hm is cs) ty
      | b => b⟩)
mutual
def AV.ren (f : Nat → Option Nat) : AV → AV
  | .sl id off len full => match f id with | some i => .sl i off len full | none => .junk
  | .ptr id off => match f id with | some i => .ptr i off | none => .junk
  | .eptr id i o => match f id with | some j => .eptr j i o | none => .junk
  | .fn g caps => .fn g (AV.rens f caps)
  | .ifc t x => .ifc t (x.ren f)
  | .agg cs => .agg (AV.rens f cs)
  | .tup vs => .tup (AV.rens f vs)
  | x => x
def AV.rens (f : Nat → Option Nat) : List AV → List AV
  | [] => []
  | x :: xs => x.ren f :: AV.rens f xs
end
def Blk.ren (f : Nat → Option Nat) : Blk → Blk
  | .var cs ty => .var (AV.rens f cs) ty
  | b => b
def binS (op : BinOp) (t : TypeId) (x y : Value) : Option Value :=
  match Go.binOp op t x y with
  | .pure v => if plainV v then some v else none
  | _ => none
def unS (op : UnOp) (x : Value) : Option Value :=
  match Op.unary op x with
  | .pure v => if plainV v then some v else none
  | _ => none
def isAddr : AV → Bool
  | .fp _ => true
  | .ptr _ _ => true
  | .eptr _ _ _ => true
  | _ => false
def eqA (d : TD) (x y : AV) : Option Bool :=
  match x, y with
  | .v (.bool a), .v (.bool b) => match d with | .bool => some (a == b) | _ => none
  | .v (.pointer none), .v (.pointer none) => match d with | .ptr _ => some true | _ => none
  | .v (.pointer none), y => match d with | .ptr _ => if isAddr y then some false else none | _ => none
  | x, .v (.pointer none) => match d with | .ptr _ => if isAddr x then some false else none | _ => none
  | .v (.slice none 0 0), .v (.slice none 0 0) => match d with | .slice _ => some true | _ => none
  | .fs ((_ :: _) :: _) _, .v (.slice none 0 0) => match d with | .slice _ => some false | _ => none
  | _, _ => none
def str2 (P : Program) (t : TypeId) : Bool :=
  match P.underlying t with
  | some (.struct fs) => match fs.toList with
    | [f, g] => f.name != "_" && g.name != "_" && f.offset == 0 && g.offset == 1 && (P.underlying f.type matches some .string) && (P.underlying g.type matches some .string) && !P.stoodInHeld t && !P.eqGuardType P.depth t
    | _ => false
  | _ => false
def binA (P : Program) (op : BinOp) (t : TypeId) (x y : AV) : Option AV :=
  match x, y with
  | .v (.int k a), .v (.int k' b) => (binS op t (.int k a) (.int k' b)).map .v
  | .v (.string a), .v (.string b) => (binS op t (.string a) (.string b)).map .v
  | .agg [.v (.string a), .v (.string b)], .agg [.v (.string c), .v (.string d)] => if str2 P t then (match op with
    | .eql => some (.v (.bool (a == c && b == d)))
    | .neq => some (.v (.bool !(a == c && b == d)))
    | _ => none) else none
  | x, y => match op with
    | .eql => match tyOf P t with | some i => (eqA i.d x y).map fun b => .v (.bool b) | none => none
    | .neq => match tyOf P t with | some i => (eqA i.d x y).map fun b => .v (.bool (!b)) | none => none
    | _ => none
def intOf? : AV → Option Int
  | .v (.int _ n) => some n
  | _ => none
def nat? (x : AV) (m : Nat) : Option Nat :=
  match x with
  | .v (.int _ n) => if 0 ≤ n ∧ n ≤ (m : Int) then some n.toNat else none
  | _ => none
def loadA (P : Program) (lim : Option Nat) (h : List Blk) (t : TypeId) (a : AV) : Option AV :=
  match tyOf P t with
  | none => none
  | some i => match cellsAt lim h a with
    | none => none
    | some cs => if i.d.isAgg then (if i.size ≤ cs.length then some (.agg (cs.take i.size)) else none) else cs.head?
def partA (P : Program) (t : TypeId) (cs : List AV) (off : Nat) : Option AV :=
  match tyOf P t with
  | none => none
  | some i => if i.d.isAgg then (if off + i.size ≤ cs.length then some (.agg ((cs.drop off).take i.size)) else none) else cs[off]?
def idxA (P : Program) (h : List Blk) (t : TypeId) (b i : AV) : Option AV :=
  match tyOf P t with
  | some ⟨.slice e, _, _, _⟩ => match tyOf P e, i with
    | some ie, .v (.int _ n) => match b with
      | .fs es _ => if 0 ≤ n then (match es[n.toNat]? with
        | some c => if c.length = ie.size ∧ 0 < ie.size then some (.fp c) else none
        | none => none) else none
      | .sl id off len _ => match h[id]? with
        | some (.arr _ sz _) => if 0 ≤ n ∧ n < (len : Int) ∧ sz = ie.size then some (.eptr id (off + n.toNat) 0) else none
        | _ => none
      | _ => none
    | _, _ => none
  | some ⟨.array m e, _, _, _⟩ => match tyOf P e, i with
    | some ie, .v (.int _ n) => if 0 ≤ n ∧ n < (m : Int) ∧ 0 < ie.size then (match b with
      | .fp cs => if n.toNat * ie.size ≤ cs.length then some (.fp (cs.drop (n.toNat * ie.size))) else none
      | .ptr id o => some (.ptr id (o + n.toNat * ie.size))
      | _ => none) else none
    | _, _ => none
  | _ => none
def fieldA (P : Program) (t : TypeId) (b : AV) (f : Nat) : Option AV :=
  match tyOf P t with
  | some ⟨.struct fs, _, _, _⟩ => match fs[f]? with
    | some (off, ft) => match tyOf P ft with
      | some i => if i.size = 0 then none else match b with
        | .fp cs => if off ≤ cs.length then some (.fp (cs.drop off)) else none
        | .ptr id o => some (.ptr id (o + off))
        | .eptr id j o => some (.eptr id j (o + off))
        | _ => none
      | none => none
    | none => none
  | _ => none
def fieldV (P : Program) (t : TypeId) (x : AV) (f : Nat) : Option AV :=
  match tyOf P t with
  | some ⟨.struct fs, _, _, _⟩ => match fs[f]?, x with
    | some (off, ft), .agg cs => partA P ft cs off
    | _, _ => none
  | _ => none
def indexV (P : Program) (t : TypeId) (x i : AV) : Option AV :=
  match tyOf P t, x, i with
  | some ⟨.str, _, _, _⟩, .v (.string s), .v (.int _ n) => if 0 ≤ n then (match s[n.toNat]? with
    | some b => some (.v (.int .u8 b.toNat))
    | none => none) else none
  | some ⟨.array m e, _, _, _⟩, .agg cs, .v (.int _ n) => match tyOf P e with
    | some ie => if 0 ≤ n ∧ n < (m : Int) then partA P e cs (n.toNat * ie.size) else none
    | none => none
  | _, _, _ => none
def lenA (P : Program) (t : TypeId) (x : AV) : Option Nat :=
  match tyOf P t, x with
  | some ⟨.slice _, _, _, _⟩, .fs es _ => some es.length
  | some ⟨.slice _, _, _, _⟩, .sl _ _ n _ => some n
  | some ⟨.str, _, _, _⟩, .v (.string s) => some s.size
  | _, _ => none
def cutB (len : Nat) (lo hi mx : Option AV) : Option (Nat × Nat × Bool) :=
  match (match hi with | some x => nat? x len | none => some len) with
  | none => none
  | some h => match (match lo with | some x => nat? x h | none => some 0) with
    | none => none
    | some l => match mx with
      | none => some (l, h, false)
      | some x => match hi, nat? x len with
        | some _, some m => if m = h then some (l, h, true) else none
        | _, _ => none
def cutJ (len : Nat) (lo hi mx : Option AV) : Bool :=
  match hi, mx with
  | some y, some z => match nat? z len with
    | some m => match nat? y m with
      | some h => match lo with
        | some x => (nat? x h).isSome
        | none => true
      | none => false
    | none => false
  | _, _ => false
def beyA (id off len : Nat) (full : Bool) (n : Nat) (lo hi mx : Option AV) : Option AV :=
  if cutJ len lo hi mx then some .junk else if full then none else match hi, mx with
  | some x, none => match cutB (n - off) lo (some x) none with
    | some (l, h, _) => if l < h then some (.sl id (off + l) (h - l) false) else none
    | none => none
  | _, _ => none
def sliceA (P : Program) (hp : List Blk) (t : TypeId) (x : AV) (lo hi mx : Option AV) : Option AV :=
  match tyOf P t with
  | some ⟨.str, _, _, _⟩ => match x, mx with
    | .v (.string s), none => match cutB s.size lo hi none with
      | some (l, h, _) => some (.v (.string (s.extract l h)))
      | none => none
    | _, _ => none
  | some ⟨.slice e, _, _, _⟩ => match tyOf P e with
    | none => none
    | some ie => if ie.size = 0 then none else match x with
      | .fs es full => match cutB es.length lo hi mx with
        | some (l, h, m) => if l = 0 ∨ ∀ c ∈ es, c.length = ie.size then some (.fs ((es.take h).drop l) (m || (full && decide (h = es.length) && decide (l < h)))) else none
        | none => none
      | .sl id off len full => match hp[id]? with
        | some (.arr _ sz es) => if sz ≠ ie.size then none else match cutB len lo hi mx with
          | some (l, h, m) =>
            if l = h ∧ l ≠ 0 then some (.fs [] m)
            else if m then some (.sl id (off + l) (h - l) true)
            else if full then (if h = len then some (.sl id (off + l) (h - l) true) else none)
            else some (.sl id (off + l) (h - l) false)
          | none => beyA id off len full es.length lo hi mx
        | _ => none
      | _ => none
  | _ => none
def normC : AV → AV
  | .fs es _ => .fs es false
  | x => x
def splice (cs : List AV) (off : Nat) (new : List AV) : List AV := cs.take off ++ new ++ cs.drop (off + new.length)
def fillA (place : Nat → Option (Nat × Nat)) (cells : List AV) : List (Nat × AV) → Option (List AV)
  | [] => some cells
  | (i, x) :: rest => match place i, x.cells? with
    | some (off, size), some cs => if cs.length = size ∧ off + size ≤ cells.length then fillA place (splice cells off cs) rest else none
    | _, _ => none
def placesOf (P : Program) : List (Nat × Nat) → Option (List (Nat × Nat))
  | [] => some []
  | (off, ft) :: r => match tyOf P ft, placesOf P r with
    | some i, some l => some ((off, i.size) :: l)
    | _, _ => none
def zeroA (P : Program) (t : TypeId) : Option (List AV) :=
  match tyOf P t with
  | some ⟨_, _, _, some z⟩ => (ofValue z).cells?
  | _ => none
def nilK : AV → AV
  | .fs [] true => .v (.slice none 0 0)
  | x => x
def buildN (P : Program) (t : TypeId) (parts : List (Nat × AV)) : Option AV :=
  match tyOf P t, zeroA P t with
  | some ⟨.struct fs, _, _, _⟩, some z => match placesOf P fs with
    | some pl => (fillA (fun i => pl[i]?) (z.map nilK) parts).map .agg
    | none => none
  | _, _ => none
def buildA (P : Program) (t : TypeId) (parts : List (Nat × AV)) : Option AV :=
  match tyOf P t, zeroA P t with
  | some ⟨.struct fs, _, _, _⟩, some z => match placesOf P fs with
    | some pl => (fillA (fun i => pl[i]?) z parts).map .agg
    | none => none
  | some ⟨.array _ e, _, _, _⟩, some z => match tyOf P e with
    | some ie => (fillA (fun i => some (i * ie.size, ie.size)) z parts).map .agg
    | none => none
  | _, _ => none
def setEs (sz : Nat) (es : List (List AV)) : List (Nat × AV) → Option (List (List AV))
  | [] => some es
  | (i, x) :: rest => match x.cells? with
    | some cs => if cs.length = sz ∧ i < es.length then setEs sz (es.set i (cs.map normC)) rest else none
    | none => none
def buildSliceA (P : Program) (t : TypeId) (len : Nat) (parts : List (Nat × AV)) : Option AV :=
  match tyOf P t with
  | some ⟨.slice e, _, _, _⟩ => match tyOf P e, zeroA P e with
    | some ie, some z => if len * ie.size ≤ 2 ^ 24 ∧ z.length = ie.size ∧ 0 < ie.size then
        (setEs ie.size (List.replicate len (z.map normC)) parts).map fun es => .fs es true
      else none
    | _, _ => none
  | _ => none
def convA (P : Program) (src dst : TypeId) (x : AV) : Option AV :=
  match tyOf P src, tyOf P dst, x with
  | some ⟨.int _, _, _, _⟩, some ⟨.int k, _, _, _⟩, .v (.int _ n) => some (.v (.int k (k.wrap n)))
  | some ⟨.str, _, _, _⟩, some ⟨.str, _, _, _⟩, .v (.string s) => some (.v (.string s))
  | _, _, _ => none
inductive Res where
  | val (x : AV)
  | new (x : AV) (bs : List Blk)
  | st (x : AV) (s : St)
structure Or where
  pure : FuncId → List AV → Option AV
  loud : FuncId → List AV → List Blk → Option (AV × List Blk)
mutual
def AV.scalar : AV → Bool
  | .v _ => true
  | .tup vs => AV.scalars vs
  | .agg cs => AV.scalars cs
  | _ => false
def AV.scalars : List AV → Bool
  | [] => true
  | x :: xs => x.scalar && AV.scalars xs
end
def callA (X : X) (O : Or) (s : St) (f : FuncId) (args : List AV) : Option Res :=
  match X.mode f with
  | .pure => match frzs s.h 6 args with
    | some ys => match O.pure f ys with
      | some r => if r.scalar then some (.val r) else none
      | none => none
    | none => none
  | .data => match freeze s args with
    | some (ys, s') => match O.pure f ys with
      | some r => if AV.lts 0 args then some (.val r) else some (.st r s')
      | none => none
    | none => none
  | .fresh => match freeze s args with
    | some (ys, s') => match O.loud f ys [] with
      | some (r, bs) =>
        let up : Nat → Option Nat := fun k => some (s'.h.length + k)
        if AV.lts 0 args then some (.new (r.ren up) (bs.map (Blk.ren up))) else some (.st (r.ren up) { s' with h := s'.h ++ bs.map (Blk.ren up) })
      | none => none
    | none => none
def posOf (i : Nat) : List Nat → Option Nat
  | [] => none
  | x :: xs => if x = i then some 0 else (posOf i xs).map (· + 1)
def dist : List Nat → Bool
  | [] => true
  | x :: xs => !xs.contains x && dist xs
def badB : Blk → Blk → Bool
  | .arr _ _ es, .arr _ _ es' => es.length != es'.length
  | .arr _ _ _, _ => true
  | _, _ => false
def badL : List Nat → List Blk → List Blk → List Nat
  | i :: is, b :: hs, b' :: h' => if badB b b' then i :: badL is hs h' else badL is hs h'
  | is, _, _ => is
def backF (n : Nat) (is : List Nat) (j : Nat) : Option Nat := match is[j]? with
  | some i => some i
  | none => some (n + (j - is.length))
def keepF (bad : List Nat) (i : Nat) : Option Nat := if i ∈ bad then none else some i
def putBack (h : List Blk) (is : List Nat) (h' : List Blk) (bad : List Nat) : List Blk :=
  (h.mapIdx fun i b => match posOf i is with
    | some j => (h'.getD j .dead).ren (backF h.length is)
    | none => b.ren (keepF bad)) ++ (h'.drop is.length).map (Blk.ren (backF h.length is))
def callL (O : Or) (s : St) (f : FuncId) (args : List AV) : Option Res :=
  let is := reach s.h 6 (addNew [] (idsOfs args))
  if dist is = true ∧ is.all (fun i => decide (i < s.h.length)) = true then
    let hs := is.map fun i => (s.h.getD i .dead).ren fun k => posOf k is
    match O.loud f (AV.rens (fun k => posOf k is) args) hs with
    | some (r, h') =>
      let bad := badL is hs h'
      some (.st (r.ren (backF s.h.length is)) ⟨AV.rens (keepF bad) s.t, putBack s.h is h' bad⟩)
    | none => none
  else none
def callX (X : X) (O : Or) (s : St) (f k : FuncId) (args : List AV) : Option Res :=
  if (X.live f).contains k && !AV.lts 0 args then callL O s k args else callA X O s k args
def storeA (P : Program) (s : St) (t : TypeId) (a x : AV) : Option St :=
  match tyOf P t with
  | none => none
  | some i => match a with
    | .ptr id off => match s.h[id]?, x.cells? with
      | some (.var cs ty), some new => if new.length = i.size ∧ off + new.length ≤ cs.length then some { s with h := s.h.set id (.var (splice cs off new) ty) } else none
      | _, _ => none
    | .eptr id j o => match freeze s [x] with
      | some ([y], s') => match s'.h[id]?, y.cells? with
        | some (.arr e sz es), some new => match es[j]? with
          | some c => if new.length = i.size ∧ o + new.length ≤ c.length then some { s' with h := s'.h.set id (.arr e sz (es.set j (splice c o (new.map normC)))) } else none
          | none => none
        | _, _ => none
      | _ => none
    | _ => none
def elemsA (sz : Nat) (h : List Blk) : AV → Option (List (List AV))
  | .fs es _ => if ∀ c ∈ es, c.length = sz then some es else none
  | .sl id off len _ => match h[id]? with
    | some (.arr _ sz' es) => if off + len ≤ es.length ∧ sz' = sz then some (cutEs es off len) else none
    | _ => none
  | _ => none
def intsOf : List (List AV) → Option (List Int)
  | [] => some []
  | [.v (.int .u8 n)] :: r => (intsOf r).map (n :: ·)
  | _ => none
def eB (x : UInt8) : List AV := [.v (.int .u8 x.toNat)]
abbrev ofBytes (b : ByteArray) : List (List AV) := b.data.toList.map eB
def TD.u8 : TD → Bool
  | .int .u8 => true
  | _ => false
def rowR2 (h : List Blk) (e : Nat) (y : AV) : Option TI → Res
  | some ie => if ie.d.u8 then (match y with
    | .fs es _ => .new (.sl h.length 0 es.length false) [.arr e ie.size es]
    | y => .val y) else .val y
  | none => .val y
def rowR (P : Program) (h : List Blk) (t : Option TI) (y : AV) : Res :=
  match t with
  | some ⟨.slice e, _, _, _⟩ => rowR2 h e y (tyOf P e)
  | _ => .val y
def isRow : AV → Bool
  | .sl _ _ _ _ => true
  | _ => false
def markA (P : Program) (s : St) (t : TypeId) (x : AV) : Option Res :=
  match tyOf P t with
  | some ⟨.slice e, _, _, _⟩ => match tyOf P e with
    | some ie => if ie.d.u8 then (match x with
      | .sl id off len _ => match s.h[id]? with
        | some (.arr _ _ es) => if 0 < len ∧ off = 0 ∧ len = es.length then
            some (.st (.fs es false) ⟨s.t.map (AV.kill id), (s.h.map (Blk.kill id)).set id .dead⟩) else none
        | _ => none
      | _ => none) else none
    | none => none
  | _ => none
def rangeA (s : St) (t : Option TI) (x : AV) : Option Res :=
  match t, x with
  | some ⟨.str, _, _, _⟩, .v (.string b) => some (.new (.ptr s.h.length 0) [.iter b 0])
  | _, _ => none
def nextA (s : St) (x : AV) : Option Res :=
  match x with
  | .ptr id off => match s.h[id]? with
    | some (.iter b pos) => if off ≠ 0 then none else if pos < b.size then
        some (.st (.tup [.v (.bool true), .v (.int .i64 pos), .v (.int .i32 (Utf8.decode b pos).1)]) ⟨s.t, s.h.set id (.iter b (pos + (Utf8.decode b pos).2))⟩)
      else some (.st (.tup [.v (.bool false)]) s)
    | _ => none
  | _ => none
def convB (P : Program) (h : List Blk) (src dst : TypeId) (x : AV) : Option AV :=
  match tyOf P src, tyOf P dst with
  | some ⟨.slice e, _, _, _⟩, some ⟨.str, _, _, _⟩ => match tyOf P e with
    | some ⟨.int .u8, _, _, _⟩ => match elemsA 1 h x with
      | some es => (intsOf es).map fun ns => .v (.string ⟨(ns.map fun n => UInt8.ofNat n.toNat).toArray⟩)
      | none => none
    | _ => none
  | some ⟨.str, _, _, _⟩, some ⟨.slice e, _, _, _⟩ => match tyOf P e, x with
    | some ⟨.int .u8, _, _, _⟩, .v (.string s) => if s.size ≤ 140737488355328 then some (.fs (ofBytes s) false) else none
    | _, _ => none
  | _, _ => convA P src dst x
def minA (x y : AV) : Option AV :=
  match x, y with
  | .v (.int k a), .v (.int _ b) => some (.v (.int k (if b < a then b else a)))
  | _, _ => none
def noNil (e : TypeId) (es new : List (List AV)) : Bool := decide (e = 5) && es.isEmpty && new.isEmpty
def appendN (s : St) (e : TypeId) (ie : TI) (b : AV) (new : List (List AV)) : Option Res :=
  match b with
  | .fs es true => if noNil e es new = true then none else if es ≠ [] ∧ new = [] then some (.val (.fs es true)) else if (es.length + new.length) * ie.bytes ≤ 2 ^ 47 ∧ (es = [] ∨ new ≠ []) ∧ (∀ c ∈ es, c.length = ie.size) then
      some (.new (.sl s.h.length 0 (es.length + new.length) false) [.arr e ie.size (es ++ new)]) else none
  | .sl id off len full => match s.h[id]? with
    | some (.arr e' sz es) => if e' = e ∧ sz = ie.size ∧ off + len ≤ es.length ∧ (len + new.length) * ie.bytes ≤ 2 ^ 47 then
        (if full then (if new = [] then none else some (.new (.sl s.h.length 0 (len + new.length) false) [.arr e ie.size (cutEs es off len ++ new)]))
        else if off = 0 ∧ len = es.length then
          some (.st (.sl id 0 (len + new.length) false) ⟨s.t.map (AV.kill id), (s.h.map (Blk.kill id)).set id (.arr e sz (es ++ new))⟩)
        else if off = 0 ∧ len + new.length ≤ es.length ∧ new ≠ [] then
          some (.st (.sl id 0 (len + new.length) false) ⟨s.t, s.h.set id (.arr e sz (es.take len ++ new ++ es.drop (len + new.length)))⟩)
        else if new = [] then some (.st (.sl id off len false) s)
        else none)
      else none
    | _ => none
  | _ => none
def appendA (P : Program) (s : St) (t : TypeId) (b x : AV) : Option Res :=
  match tyOf P t with
  | some ⟨.slice e, _, _, _⟩ => match tyOf P e with
    | none => none
    | some ie => if ie.size = 0 ∨ ie.bytes = 0 ∨ (zeroA P e).map List.length ≠ some ie.size then none else match elemsA ie.size s.h x with
      | none => none
      | some new => appendN s e ie b new
  | _ => none
def appendT (P : Program) (s : St) (t u : TypeId) (b x : AV) : Option Res :=
  match tyOf P t, tyOf P u, x with
  | some ⟨.slice e, _, _, _⟩, some ⟨.str, _, _, _⟩, .v (.string q) => match tyOf P e with
    | some ie => if ie.d.u8 && ie.size == 1 && ie.bytes == 1 && ((zeroA P e).map List.length == some 1) then appendN s e ie b (ofBytes q) else none
    | none => none
  | _, _, _ => none
def clearA (P : Program) (s : St) (t : TypeId) (x : AV) : Option Res :=
  match tyOf P t, x with
  | some ⟨.slice e, _, _, _⟩, .sl id off len _ => match tyOf P e, zeroA P e, s.h[id]? with
    | some ie, some z, some (.arr e' sz es) => if e' = e ∧ sz = ie.size ∧ z.length = ie.size ∧ 0 < len ∧ off + len ≤ es.length then
        some (.st (.tup []) ⟨s.t, s.h.set id (.arr e' sz (es.take off ++ List.replicate len (z.map normC) ++ es.drop (off + len)))⟩) else none
    | _, _, _ => none
  | _, _ => none
def makeA (P : Program) (s : St) (t : TypeId) (l c : AV) : Option Res :=
  match tyOf P t, l, c with
  | some ⟨.slice e, _, _, _⟩, .v (.int _ n), .v (.int _ m) => match tyOf P e, zeroA P e with
    | some ie, some z => if 0 ≤ n ∧ n ≤ m ∧ ie.bytes * m ≤ 2 ^ 47 ∧ z.length = ie.size ∧ 0 < ie.size ∧ 0 < ie.bytes then
        some (.new (.sl s.h.length 0 n.toNat false) [.arr e ie.size (List.replicate n.toNat (z.map normC))]) else none
    | _, _ => none
  | _, _, _ => none
def ownA (P : Program) (n : Nat) (z : List AV) : List (Nat × Nat × Nat) → Option (List AV × List Blk)
  | [] => some (z, [])
  | (_, off, e) :: r => match z[off]?, tyOf P e with
    | some (.fs [] true), some ie => if ie.size = 0 then none else match ownA P (n + 1) (z.set off (.sl n 0 0 false)) r with
      | some (z', bs) => some (z', .arr e ie.size [] :: bs)
      | none => none
    | _, _ => none
def ownF (d : Option Nat) : List (Nat × Nat × Nat) → List (Nat × Nat × Nat)
  | [] => []
  | p :: l => if d = some p.1 then p :: ownF d l else ownF d l
def ownOf (X : X) (f : FuncId) (d : Option Nat) : List (Nat × Nat × Nat) := ownF d (X.own f)
def allocR (s : St) (ty : Option Nat) (q : List AV × List Blk) : Res := .new (.ptr (s.h.length + q.2.length) 0) (q.2 ++ [.var q.1 ty])
def tyO (X : X) (t : TypeId) : Option Nat := if X.tyk t = true then some t else none
def isNilSlice : Operand → Bool
  | .const (.slice none 0 0) => true
  | _ => false
def evN (s : St) (y : Operand) : AV := if isNilSlice y then .v (.slice none 0 0) else ev s y
def bldA (X : X) (t : TypeId) (parts : List (Nat × AV)) : Option AV := if X.nilT t = true then buildN X.P t parts else buildA X.P t parts
def ifcA (P : Program) (t : TypeId) (x : AV) : Option AV := match tyOf P t with
  | some ⟨.ptr _, _, _, _⟩ => if isAddr x then some (.ifc t x) else none
  | _ => none
def copyA (P : Program) (s : St) (t : TypeId) (d x : AV) : Option (AV × List Blk) :=
  match tyOf P t, d with
  | some ⟨.slice e, _, _, _⟩, .sl id off len _ => match tyOf P e, s.h[id]? with
    | some ie, some (.arr e' sz es) => if e' = e ∧ ie.size = 1 ∧ sz = 1 ∧ off + len ≤ es.length ∧ 0 < len then (match elemsA 1 s.h x with
      | some src => if src = [] then none else some (.v (.int .i64 (src.take len).length), s.h.set id (.arr e' sz (es.take off ++ src.take len ++ es.drop (off + (src.take len).length))))
      | none => none) else none
    | _, _ => none
  | _, _ => none
def copyO (X : X) (s : St) (o : Oper) : Option (AV × List Blk) :=
  match o.op with
  | .call c => match c.callee with
    | .builtin .copy => match c.args.toList, c.argTypes.toList with
      | [d, x], [t, u] => if t = u then copyA X.P s t (ev s d) (ev s x) else none
      | _, _ => none
    | _ => none
  | _ => none
def adopts (X : X) (f : FuncId) (o : Oper) (x : Operand) : Bool :=
  isNilSlice x && (match o.dst with | some d => (X.adopt f).contains d | none => false)
def opA (X : X) (O : Or) (f : FuncId) (lim : Option Nat) (o : Oper) (s : St) : Option Res :=
  match o.op with
  | .move x => some (.val (ev s x))
  | .assign x =>
    if adopts X f o x then
      match tyOf X.P o.type with
      | some ⟨.slice e, _, _, _⟩ => match tyOf X.P e with
        | some ie => if ie.size = 0 then none else some (.new (.sl s.h.length 0 0 false) [.arr e ie.size []])
        | none => none
      | _ => none
    else some (.val (ev s x))
  | .pick c a b => match ev s c with
    | .v (.bool q) => some (.val (if q then ev s a else ev s b))
    | _ => none
  | .alloc t => ((zeroA X.P t).bind fun z => ownA X.P s.h.length z (ownOf X f o.dst)).map (allocR s (tyO X t))
  | .box _ x => ((ev s x).cells?).map fun cs => .new (.ptr s.h.length 0) [.var cs]
  | .build t parts => (bldA X t (parts.toList.map fun p => (p.1, ev s p.2))).map .val
  | .makeInterface t x => (ifcA X.P t (ev s x)).map .val
  | .buildSlice t len parts => match freeze s (parts.toList.map fun p => ev s p.2) with
    | some (ys, s') =>
      if AV.lts 0 (parts.toList.map fun p => ev s p.2) then (buildSliceA X.P t len ((parts.toList.map (·.1)).zip ys)).map (rowR X.P s.h (tyOf X.P t))
      else (buildSliceA X.P t len ((parts.toList.map (·.1)).zip ys)).map fun r => .st r s'
    | none => none
  | .load t a => (loadA X.P lim s.h t (ev s a)).map .val
  | .store t a x => (storeA X.P s t (ev s a) (ev s x)).map (.st (.tup []))
  | .nilCheck x => match ev s x with
    | .fp cs => some (.val (.fp cs))
    | .ptr id o => some (.val (.ptr id o))
    | .eptr id i o => some (.val (.eptr id i o))
    | .fn g caps => some (.val (.fn g caps))
    | _ => none
  | .binOp op t x y _ => (binA X.P op t (ev s x) (evN s y)).map .val
  | .unOp op _ x => match ev s x with
    | .v a => (unS op a).map fun b => .val (.v b)
    | _ => none
  | .convert src dst x => if isRow (ev s x) && src == dst then markA X.P s src (ev s x) else (convB X.P s.h src dst (ev s x)).map .val
  | .range t x => rangeA s (tyOf X.P t) (ev s x)
  | .next x b => if b then nextA s (ev s x) else none
  | .makeFunc g first captured => match g with
    | .func k => if first.size = 0 then some (.val (.fn k (captured.toList.map (ev s)))) else none
    | _ => none
  | .makeSlice t l c => makeA X.P s t (ev s l) (ev s c)
  | .slice t x lo hi mx => (sliceA X.P s.h t (ev s x) (lo.map (ev s)) (hi.map (ev s)) (mx.map (ev s))).map .val
  | .fieldAddr t x k => (fieldA X.P t (ev s x) k).map .val
  | .field t x k => (fieldV X.P t (ev s x) k).map .val
  | .indexAddr t x i => (idxA X.P s.h t (ev s x) (ev s i)).map .val
  | .index t x i => (indexV X.P t (ev s x) (ev s i)).map .val
  | .extract t i => match ev s t with
    | .tup vs => (vs[i]?).map .val
    | _ => none
  | .call c => match c.callee with
    | .value g => match ev s g with
      | .fn k caps => callX X O s f k (c.args.toList.map (ev s) ++ caps)
      | _ => none
    | .builtin .len => match c.args.toList, c.argTypes.toList with
      | [x], [t] => (lenA X.P t (ev s x)).map fun n => .val (.v (.int .i64 n))
      | _, _ => none
    | .builtin .min => match c.args.toList with
      | [x, y] => (minA (ev s x) (ev s y)).map .val
      | _ => none
    | .builtin .append => match c.args.toList, c.argTypes.toList with
      | [b, x], [t, u] => if t = u then appendA X.P s t (ev s b) (ev s x) else appendT X.P s t u (ev s b) (ev s x)
      | _, _ => none
    | .builtin .copy => match c.args.toList, c.argTypes.toList with
      | [d, x], [t, u] => if t = u then (copyA X.P s t (ev s d) (ev s x)).map fun r => .st r.1 ⟨s.t, r.2⟩ else none
      | _, _ => none
    | .builtin .clear => match c.args.toList, c.argTypes.toList with
      | [x], [t] => clearA X.P s t (ev s x)
      | _, _ => none
    | _ => none
  | _ => none
def doRes (s : St) (d : Option Nat) : Res → St
  | .val x => put s d x
  | .new x bs => put { s with h := s.h ++ bs } d x
  | .st x s' => put s' d x
def guardA (ops : Array Oper) (o : Oper) (s : St) : Option Bool :=
  match o.guard with
  | none => some true
  | some (j, want) => match (ops[j]?).bind (·.dst) with
    | none => some false
    | some d => match s.t[d]? with
      | none => some false
      | some (.v (.bool b)) => some (b == want)
      | some (.tup []) => some false
      | _ => none
def stepOp (X : X) (O : Or) (f : FuncId) (ops : Array Oper) (o : Oper) (s : St) : Option St :=
  match guardA ops o s with
  | some true => (opA X O f none o s).map (doRes s o.dst)
  | some false => some (put s o.dst (.tup []))
  | none => none
def runOps (X : X) (O : Or) (f : FuncId) (ops : Array Oper) : List Oper → St → Option St
  | [], s => some s
  | o :: r, s => match stepOp X O f ops o s with
    | some s' => runOps X O f ops r s'
    | none => none
def rank5 (cls : List Nat) (i : Nat) : Nat := ((cls.take i).filter (· == 5)).length
def cnt5 (cls : List Nat) : Nat := (cls.filter (· == 5)).length
def rsv (cls : List Nat) (s : St) : St := ⟨s.t, s.h ++ List.replicate (cnt5 cls) .dead⟩
def allocAt (P : Program) (s : St) (slot : Nat) (t : TypeId) : Option (AV × List Blk) :=
  match s.h[slot]?, zeroA P t with
  | some .dead, some z => if AV.lts 0 z then some (.ptr slot 0, s.h.set slot (.var z)) else none
  | _, _ => none
def fromA : Option Nat → AV → Bool
  | none, _ => true
  | some l, .ptr id _ => decide (l ≤ id)
  | _, _ => false
def stA (X : X) (s : St) (o : Oper) (lo : Option Nat) : Option (List Blk) :=
  match o.op with
  | .store t a x => if AV.lts 0 [ev s x] && fromA lo (ev s a) then (storeA X.P s t (ev s a) (ev s x)).map St.h else none
  | _ => none
def stV (X : X) (s : St) (o : Oper) : Option (List Blk) :=
  match o.op with
  | .store t a x => match ev s a with
    | .ptr id off => (storeA X.P s t (.ptr id off) (ev s x)).map St.h
    | _ => none
  | _ => none
def stE (X : X) (s : St) (o : Oper) : Option (List Blk) :=
  match o.op with
  | .store t a x => match ev s a with
    | .eptr id j k => if AV.lts 0 [ev s x] then (storeA X.P s t (.eptr id j k) (ev s x)).map St.h else none
    | _ => none
  | _ => none
def ixA (X : X) (s : St) (o : Oper) : Option AV :=
  match o.op with
  | .indexAddr t x i => idxA X.P s.h t (ev s x) (ev s i)
  | _ => none
def stepD (X : X) (O : Or) (f : FuncId) (lim : Nat) (cls : List Nat) (ops : Array Oper) (o : Oper) (i : Nat) (s : St) : Option St :=
  match guardA ops o s with
  | some true => match cls.getD i 0 with
    | 0 => match opA X O f none o ⟨s.t, s.h.take lim⟩ with
      | some (.val x) => some (put s o.dst x)
      | _ => none
    | 1 => match opA X O f none o s with
      | some (.val x) => some (put s o.dst x)
      | some (.new x bs) => some (put { s with h := s.h ++ bs } o.dst x)
      | _ => none
    | 3 => match opA X O f none o ⟨s.t, []⟩ with
      | some (.val x) => some (put s o.dst x)
      | _ => none
    | 4 => (stA X s o none).map fun h => put ⟨s.t, h⟩ o.dst (.tup [])
    | 5 => match o.op with
      | .alloc t => (allocAt X.P s (lim + rank5 cls i) t).map fun r => put ⟨s.t, r.2⟩ o.dst r.1
      | _ => none
    | 6 => (stA X s o (some lim)).map fun h => put ⟨s.t, h⟩ o.dst (.tup [])
    | 7 => match opA X O f none o ⟨s.t, s.h.take lim⟩ with
      | some (.val x) => if x.lt lim then some (put s o.dst x) else none
      | _ => none
    | 8 => match opA X O f none o ⟨s.t, []⟩ with
      | some (.val x) => if x.lt lim then some (put s o.dst x) else none
      | _ => none
    | 9 => (stV X s o).map fun h => put ⟨s.t, h⟩ o.dst (.tup [])
    | 10 => (stE X s o).map fun h => put ⟨s.t, h⟩ o.dst (.tup [])
    | 11 => (ixA X s o).map fun x => put s o.dst x
    | 12 => (copyO X s o).map fun r => put ⟨s.t, r.2⟩ o.dst r.1
    | _ => (opA X O f none o s).map (doRes s o.dst)
  | some false => some (put s o.dst (.tup []))
  | none => none
def runDrawn (X : X) (O : Or) (f : FuncId) (lim : Nat) (cls : List Nat) (ops : Array Oper) : List (Oper × Nat) → St → Option St
  | [], s => some s
  | p :: r, s => match stepD X O f lim cls ops p.1 p.2 s with
    | some s' => runDrawn X O f lim cls ops r s'
    | none => none
def setAll (t : List AV) : List Nat → List AV → List AV
  | k :: ks, y :: ys => setAll (t.set k y) ks ys
  | _, _ => t
def headIds : List Blk → List Nat
  | [] => []
  | .var cs _ :: h => idsOfs cs ++ headIds h
  | _ :: h => headIds h
def gcF (n : Nat) (is : List Nat) (i : Nat) : Option Nat := if i < n then some i else (posOf i is).map (n + ·)
def trimA (X : X) (f : FuncId) (rid : Nat) (n : Nat) (s : St) : Option St :=
  match X.trim f rid with
  | none => some s
  | some (keep, fz) =>
    match freeze s (fz.map fun k => s.t.getD k (.tup [])) with
    | none => none
    | some (ys, s1) =>
      let t := (setAll s1.t fz ys).mapIdx fun i x => if i ∈ keep then x else .junk
      let is := (reach s1.h 6 (addNew [] (idsOfs t ++ headIds (s1.h.take n)))).filter fun i => decide (n ≤ i)
      if dist is = true then some ⟨AV.rens (gcF n is) t, (s1.h.take n ++ is.map fun i => s1.h.getD i .dead).map (Blk.ren (gcF n is))⟩ else none
def iter (F : St → Option (Ex × St)) : Nat → St → Option (Ex × St)
  | 0, _ => none
  | n + 1, s => match F s with
    | some (.normal, s') => iter F n s'
    | r => r
def firstRid : Code → Nat
  | .region id _ _ => id
  | .seq a _ => firstRid a
  | .block _ b => firstRid b
  | .loop b => firstRid b
  | _ => 0
def codeA (X : X) (O : Or) (n : Nat) (f : FuncId) : Code → St → Option (Ex × St)
  | .skip, s => some (.normal, s)
  | .region id ops draw, s =>
    if draw then (runDrawn X O f s.h.length (X.cls f id) ops ops.toList.zipIdx (rsv (X.cls f id) s)).map fun s' => (.normal, s')
    else (runOps X O f ops ops.toList s).map fun s' => (.normal, s')
  | .seq a b, s => match codeA X O n f a s with
    | some (.normal, s') => codeA X O n f b s'
    | r => r
  | .cond c a b, s => match ev s c with
    | .v (.bool true) => codeA X O n f a s
    | .v (.bool false) => codeA X O n f b s
    | _ => none
  | .block id b, s => match codeA X O n f b s with
    | some (.exit id', s') => if id' = id then some (.normal, s') else some (.exit id', s')
    | r => r
  | .loop b, s => iter (fun s' => (trimA X f (firstRid b) s.h.length s').bind (codeA X O n f b)) n s
  | .exit id, s => some (.exit id, s)
  | .ret, s => some (.ret, s)
  | _, _ => none
def resultsA (P : Program) (s : St) : List ResultVar → Option (List AV)
  | [] => some []
  | .tmp t :: r => (resultsA P s r).map (s.t.getD t (.tup []) :: ·)
  | .cell a t :: r => match loadA P none s.h t (s.t.getD a (.tup [])), resultsA P s r with
    | some x, some xs => some (x :: xs)
    | _, _ => none
def oneOr (xs : List AV) : AV := match xs with | [x] => x | xs => .tup xs
def tidyA (n : Nat) (q : AV × List Blk) : Option (AV × List Blk) :=
  match freeze ⟨[], q.2⟩ [q.1] with
  | some ([y], s1) =>
    let is := (reach s1.h 6 (addNew [] (headIds (s1.h.take n)))).filter fun i => decide (n ≤ i)
    if dist is = true ∧ n ≤ s1.h.length then some (y, (s1.h.take n ++ is.map fun i => s1.h.getD i .dead).map (Blk.ren (gcF n is))) else none
  | _ => none
def extA (X : X) (f : FuncId) (args : List AV) (h : List Blk) : Option (AV × List Blk) :=
  match X.ext f args with
  | some r => some (r, h)
  | none => X.extL f args h
def endA (X : X) (f : FuncId) (n : Nat) (q : AV × List Blk) : Option (AV × List Blk) := if X.tidy f then tidyA n q else some q
def bodyA (X : X) (O : Or) (n : Nat) (f : FuncId) (args : List AV) (h : List Blk) : Option (AV × List Blk) :=
  match extA X f args h with
  | some r => some r
  | none => match X.P.funcs[f]? with
  | none => none
  | some fn => match fn.body with
    | none => none
    | some c => if X.fns.contains f then
      match codeA X O n f c ⟨args ++ List.replicate (fn.ntmps - args.length) (.tup []), h⟩ with
      | some (.exit _, _) => none
      | some (_, s) => (resultsA X.P s fn.results.toList).bind fun rs => endA X f h.length (oneOr rs, s.h)
      | none => none
      else none
def depsOf (o : Oper) : List Nat := (o.after.toList.filter (Region.binds .any)).map (·.on)
def ancs : List Oper → List (List Nat) → List (List Nat)
  | [], acc => acc
  | o :: r, acc => ancs r (acc ++ [(depsOf o).foldl (fun l e => addNew (addNew l [e]) (acc.getD e [])) []])
def comm (c d : Nat) : Bool :=
  let look (c : Nat) : Bool := c == 3 || c == 8
  let back (c : Nat) : Bool := c == 0 || c == 7
  let make (c : Nat) : Bool := c == 1 || c == 5 || c == 6
  let wr (c : Nat) : Bool := c == 4 || c == 9 || c == 10 || c == 11 || c == 12
  (look c || back c || make c || wr c) && (look d || back d || make d || wr d) && (look c || look d || (back c && (back d || make d)) || (make c && back d) || (c == 5 && d == 5) || ((c == 10 || c == 11) && d == 9))
def five (cls : List Nat) (n : Nat) : Bool := cnt5 cls == 0 || (decide (n ≤ cls.length) && cls.all fun c => c == 5 || c == 6 || c == 7 || c == 8)
def drawOk (cls : List Nat) (ops : Array Oper) : Bool :=
  let A := ancs ops.toList []
  five cls ops.size && ops.toList.zipIdx.all fun (o, i) => (depsOf o).all (· < i) && (ops.toList.take i).zipIdx.all fun (p, k) =>
    (A.getD i []).contains k || (comm (cls.getD k 0) (cls.getD i 0) && p.apart ops o)
def codeOk (X : X) (f : FuncId) : Code → Bool
  | .region id ops true => drawOk (X.cls f id) ops
  | .seq a b => codeOk X f a && codeOk X f b
  | .cond _ a b => codeOk X f a && codeOk X f b
  | .block _ b => codeOk X f b
  | .loop b => codeOk X f b
  | _ => true
def X.ok (X : X) : Bool := X.P.follows .mixedOrders && X.fns.all fun f => match X.P.funcs[f]? with
  | some fn => fn.name != "runtime.NumGoroutine" && (match fn.body with | some c => codeOk X f c | none => true)
  | none => true
def rawN (X : X) : Nat → FuncId → List AV → List Blk → Option (AV × List Blk)
  | 0, _, _, _ => none
  | n + 1, f, args, h => bodyA X ⟨fun g ys => match rawN X n g ys [] with
      | some (r, h') => frz h' 6 r
      | none => none, rawN X n⟩ n f args h
end Go.Abs
end
section
namespace Go.Abs
inductive G where
  | nilA (a : Option Addr)
  | blk (b sz tot : Nat)
abbrev G.nil : G := .nilA none
def At (S : Nat → Nat → Prop) (w : World) (ad : Addr) (v : Value) : Prop := w.cell? ad = some v ∧ S ad.block ad.off ∧ v.oneCell' = true
inductive Rel (μ : Nat → G) (S : Nat → Nat → Prop) (w : World) : Nat → AV → Value → Prop
  | junk (n : Nat) (x : Value) : Rel μ S w n .junk x
  | v (n : Nat) (x : Value) (h : plainV x = true) : Rel μ S w n (.v x) x
  | fs (n : Nat) (es : List (List AV)) (full : Bool) (a : Option Addr) (cap : Nat) (V : Nat → Nat → Value) (h1 : es.length ≤ cap) (h2 : cap ≤ maxLen) (h3 : full = true → cap = es.length)
      (h4 : ∀ (i : Nat) (c : List AV) (j : Nat) (x : AV), es[i]? = some c → c[j]? = some x → ∃ ad, a = some ad ∧ At S w (ad.add (i * c.length + j)) (V i j))
      (h5 : ∀ (i : Nat) (c : List AV) (j : Nat) (x : AV), es[i]? = some c → c[j]? = some x → Rel μ S w 0 x (V i j)) : Rel μ S w n (.fs es full) (.slice a es.length cap)
  | fp (n : Nat) (cs : List AV) (a : Addr) (V : Nat → Value) (h4 : ∀ (j : Nat) (x : AV), cs[j]? = some x → At S w (a.add j) (V j)) (h5 : ∀ (j : Nat) (x : AV), cs[j]? = some x → Rel μ S w 0 x (V j)) :
      Rel μ S w n (.fp cs) (.pointer (some a))
  | sl (n id off len : Nat) (full : Bool) (b sz tot cap : Nat) (h1 : id < n) (h2 : μ id = .blk b sz tot) (h3 : len ≤ cap) (h4 : cap ≤ maxLen) (h5 : full = true → cap = len) (h6 : full = false → off + cap = tot) :
      Rel μ S w n (.sl id off len full) (.slice (some ⟨b, off * sz, none⟩) len cap)
  | slnil (n id : Nat) (full : Bool) (a : Option Addr) (h1 : id < n) (h2 : μ id = .nilA a) : Rel μ S w n (.sl id 0 0 full) (.slice a 0 0)
  | ptr (n id off b sz tot : Nat) (h1 : id < n) (h2 : μ id = .blk b sz tot) : Rel μ S w n (.ptr id off) (.pointer (some ⟨b, off, none⟩))
  | eptr (n id i o b sz tot : Nat) (h1 : id < n) (h2 : μ id = .blk b sz tot) : Rel μ S w n (.eptr id i o) (.pointer (some ⟨b, i * sz + o, none⟩))
  | fn (n : Nat) (f : FuncId) (caps : List AV) (vs : List Value) (h1 : caps.length = vs.length) (h2 : ∀ (j : Nat) (x : AV) (v : Value), caps[j]? = some x → vs[j]? = some v → Rel μ S w n x v) : Rel μ S w n (.fn f caps) (.func (.func f) #[] vs.toArray)
  | ifc (n : Nat) (t : TypeId) (x : AV) (v : Value) (h : Rel μ S w n x v) : Rel μ S w n (.ifc t x) (.iface t v)
  | agg (n : Nat) (cs : List AV) (vs : List Value) (h1 : cs.length = vs.length) (h2 : ∀ (j : Nat) (x : AV) (v : Value), cs[j]? = some x → vs[j]? = some v → Rel μ S w n x v) (h3 : ∀ v ∈ vs, v.oneCell' = true) : Rel μ S w n (.agg cs) (.agg vs.toArray)
  | tup (n : Nat) (xs : List AV) (vs : List Value) (h1 : xs.length = vs.length) (h2 : ∀ (j : Nat) (x : AV) (v : Value), xs[j]? = some x → vs[j]? = some v → Rel μ S w n x v) : Rel μ S w n (.tup xs) (.tuple vs.toArray)
def Rels (μ : Nat → G) (S : Nat → Nat → Prop) (w : World) (n : Nat) (xs : List AV) (vs : List Value) : Prop :=
  xs.length = vs.length ∧ ∀ (j : Nat) (x : AV) (v : Value), xs[j]? = some x → vs[j]? = some v → Rel μ S w n x v
def owned (h : List Blk) (μ : Nat → G) (id k : Nat) : Prop := ∃ b, h[id]? = some b ∧ b ≠ .dead ∧ ∃ sz tot, μ id = .blk k sz tot
def BlkOk (n : Nat) (μ : Nat → G) (S : Nat → Nat → Prop) (w : World) (id : Nat) : Blk → Prop
  | .dead => True
  | .iter s pos => ∃ b, μ id = .blk b 1 1 ∧ w.heap[b]? = some (.stringIter s pos) ∧ ∀ o, ¬ S b o
  | .var cells ty => ∃ b sz tot cs e, μ id = .blk b sz tot ∧ w.heap[b]? = some (.cells cs (ty.getD e) (0, 0)) ∧ cs.size = cells.length ∧ (∀ o, ¬ S b o) ∧
      (∀ (j : Nat) (x : AV) (v : Value), cells[j]? = some x → cs[j]? = some v → Rel μ S w n x v) ∧ ∀ v ∈ cs, v.oneCell' = true
  | .arr e sz es => 0 < sz ∧ (∀ c ∈ es, c.length = sz) ∧ (((∃ a, μ id = .nilA a ∧ (e = 5 → a = none)) ∧ es = []) ∨ ∃ b tot cs, μ id = .blk b sz tot ∧ w.heap[b]? = some (.cells cs e (0, 0)) ∧ cs.size = tot * sz ∧ es.length ≤ tot ∧ tot ≤ maxLen ∧ (∀ o, ¬ S b o) ∧
      (∀ (i : Nat) (c : List AV) (j : Nat) (x : AV) (v : Value), es[i]? = some c → c[j]? = some x → cs[i * sz + j]? = some v → Rel μ S w 0 x v) ∧ ∀ (j : Nat) (v : Value), j < es.length * sz → cs[j]? = some v → v.oneCell' = true)
class Tabs where
  l : List (Nat × Array Value)
variable [Tabs]
def TabOk (S : Nat → Nat → Prop) (w : World) : Prop := ∀ p ∈ Tabs.l, (∃ e k, w.heap[p.1]? = some (.cells p.2 e k)) ∧ ∀ o, o ≤ p.2.size → S p.1 o
structure Inv (h : List Blk) (μ : Nat → G) (S : Nat → Nat → Prop) (w : World) : Prop where
  blk : ∀ id b, h[id]? = some b → BlkOk h.length μ S w id b
  inj : ∀ id id' k, owned h μ id k → owned h μ id' k → id = id'
  old : ∀ b o, S b o → b < w.heap.size
  tab : TabOk S w
structure Adv (h : List Blk) (μ : Nat → G) (S : Nat → Nat → Prop) (w : World) (h' : List Blk) (μ' : Nat → G) (S' : Nat → Nat → Prop) (w' : World) : Prop where
  os : w'.os = w.os
  tape : w'.tape = w.tape
  output : w'.output = w.output
  size : w.heap.size ≤ w'.heap.size
  keep : ∀ k, k < w.heap.size → (∀ id, ¬ owned h μ id k) → w'.heap[k]? = w.heap[k]?
  sub : ∀ b o, S b o → S' b o
  new : ∀ b o, S' b o → S b o ∨ (∃ id, owned h μ id b) ∨ w.heap.size ≤ b
  own : ∀ id k, owned h' μ' id k → (∃ id, owned h μ id k) ∨ w.heap.size ≤ k
  len : h.length ≤ h'.length
  vk : ∀ id, id < h.length → (∀ e sz es, h[id]? ≠ some (.arr e sz es)) → μ' id = μ id ∧ ∀ e sz es, h'[id]? ≠ some (.arr e sz es)
  
  ak : ∀ id e sz es e' sz' es', h[id]? = some (.arr e sz es) → h'[id]? = some (.arr e' sz' es') → es.length ≤ es'.length ∧ (es'.length = es.length → μ' id = μ id)
theorem Adv.refl (h : List Blk) (μ : Nat → G) (S : Nat → Nat → Prop) (w : World) : Adv h μ S w h μ S w :=
  ⟨rfl, rfl, rfl, Nat.le_refl _, fun _ _ _ => rfl, fun _ _ h => h, fun _ _ h => .inl h, fun id _ h => .inl ⟨id, h⟩, Nat.le_refl _, fun _ _ h => ⟨rfl, h⟩, fun id e sz es e' sz' es' h1 h2 => by rw [h1] at h2; cases h2; exact ⟨Nat.le_refl _, fun _ => rfl⟩⟩
theorem Adv.trans {h h' h'' : List Blk} {μ μ' μ'' : Nat → G} {S S' S'' : Nat → Nat → Prop} {w w' w'' : World} (a : Adv h μ S w h' μ' S' w') (b : Adv h' μ' S' w' h'' μ'' S'' w'') : Adv h μ S w h'' μ'' S'' w'' where
  os := b.os.trans a.os
  tape := b.tape.trans a.tape
  output := b.output.trans a.output
  size := Nat.le_trans a.size b.size
  keep k hk hn := by
    refine (b.keep k (Nat.lt_of_lt_of_le hk a.size) fun id ho => ?_).trans (a.keep k hk hn)
    rcases a.own id k ho with ⟨i, hi⟩ | hi
    · exact hn i hi
    · omega
  sub x o hs := b.sub x o (a.sub x o hs)
  new x o hs := by
    rcases b.new x o hs with h1 | ⟨i, hi⟩ | h1
    · exact a.new x o h1
    · exact .inr (a.own i x hi)
    · exact .inr (.inr (Nat.le_trans a.size h1))
  own id k ho := by
    rcases b.own id k ho with ⟨i, hi⟩ | h1
    · exact a.own i k hi
    · exact .inr (Nat.le_trans a.size h1)
  len := Nat.le_trans a.len b.len
  vk id hid hn := by
    obtain ⟨h1, h2⟩ := a.vk id hid hn
    obtain ⟨h3, h4⟩ := b.vk id (Nat.lt_of_lt_of_le hid a.len) h2
    exact ⟨h3.trans h1, h4⟩
  ak id e sz es e' sz' es' h1 h2 := by
    have hid : id < h.length := (List.getElem?_eq_some_iff.1 h1).1
    rcases Classical.em (∃ e1 s1 es1, h'[id]? = some (.arr e1 s1 es1)) with ⟨e1, s1, es1, hm⟩ | hn
    · obtain ⟨a1, a2⟩ := a.ak id _ _ _ _ _ _ h1 hm
      obtain ⟨b1, b2⟩ := b.ak id _ _ _ _ _ _ hm h2
      exact ⟨Nat.le_trans a1 b1, fun he => (b2 (by omega)).trans (a2 (by omega))⟩
    · exact absurd h2 ((b.vk id (Nat.lt_of_lt_of_le hid a.len) fun e1 s1 es1 he => hn ⟨e1, s1, es1, he⟩).2 _ _ _)
def Same (S S' : Nat → Nat → Prop) (w w' : World) : Prop := ∀ b o, S b o → S' b o ∧ w'.heap[b]? = w.heap[b]?
theorem Same.refl (S : Nat → Nat → Prop) (w : World) : Same S S w w := fun _ _ h => ⟨h, rfl⟩
theorem TabOk.same {S S' : Nat → Nat → Prop} {w w' : World} (h : TabOk S w) (hs : Same S S' w w') : TabOk S' w' := fun p hp => by
  obtain ⟨⟨e, k, h1⟩, h2⟩ := h p hp
  exact ⟨⟨e, k, (hs _ _ (h2 0 (Nat.zero_le _))).2.trans h1⟩, fun o ho => (hs _ _ (h2 o ho)).1⟩
theorem Same.at {S S' : Nat → Nat → Prop} {w w' : World} (hs : Same S S' w w') {ad : Addr} {v : Value} (h : At S w ad v) : At S' w' ad v := by
  obtain ⟨h1, h2, h3⟩ := h
  obtain ⟨h4, h5⟩ := hs _ _ h2
  exact ⟨(World.cell?_of_block h5).trans h1, h4, h3⟩
theorem Rel.same {μ μ' : Nat → G} {S S' : Nat → Nat → Prop} {w w' : World} {n : Nat} {x : AV} {v : Value} (h : Rel μ S w n x v) (hs : Same S S' w w') (hm : ∀ i, i < n → μ' i = μ i) : Rel μ' S' w' n x v := by
  induction h with
  | junk n x => exact .junk n x
  | v n x h => exact .v n x h
  | fs n es full a cap V h1 h2 h3 h4 h5 ih =>
    exact .fs n es full a cap V h1 h2 h3 (fun i c j x a b => let ⟨ad, e, k⟩ := h4 i c j x a b; ⟨ad, e, hs.at k⟩) (fun i c j x a b => ih i c j x a b (fun i hi => absurd hi (Nat.not_lt_zero _)))
  | fp n cs a V h4 h5 ih => exact .fp n cs a V (fun j x a => hs.at (h4 j x a)) (fun j x a => ih j x a (fun i hi => absurd hi (Nat.not_lt_zero _)))
  | sl n id off len full b sz tot cap h1 h2 h3 h4 h5 h6 => exact .sl n id off len full b sz tot cap h1 ((hm _ h1).trans h2) h3 h4 h5 h6
  | slnil n id full a h1 h2 => exact .slnil n id full a h1 ((hm _ h1).trans h2)
  | ptr n id off b sz tot h1 h2 => exact .ptr n id off b sz tot h1 ((hm _ h1).trans h2)
  | eptr n id i o b sz tot h1 h2 => exact .eptr n id i o b sz tot h1 ((hm _ h1).trans h2)
  | fn n f caps vs h1 h2 ih => exact .fn n f caps vs h1 (fun j x v a b => ih j x v a b hm)
  | ifc n t x v h ih => exact .ifc n t x v (ih hm)
  | agg n cs vs h1 h2 h3 ih => exact .agg n cs vs h1 (fun j x v a b => ih j x v a b hm) h3
  | tup n xs vs h1 h2 ih => exact .tup n xs vs h1 (fun j x v a b => ih j x v a b hm)
theorem Rel.mono {μ : Nat → G} {S : Nat → Nat → Prop} {w : World} {n m : Nat} {x : AV} {v : Value} (h : Rel μ S w n x v) (hm : n ≤ m) : Rel μ S w m x v := by
  induction h generalizing m with
  | junk n x => exact .junk m x
  | v n x h => exact .v m x h
  | fs n es full a cap V h1 h2 h3 h4 h5 ih => exact .fs m es full a cap V h1 h2 h3 h4 h5
  | fp n cs a V h4 h5 ih => exact .fp m cs a V h4 h5
  | sl n id off len full b sz tot cap h1 h2 h3 h4 h5 h6 => exact .sl m id off len full b sz tot cap (by omega) h2 h3 h4 h5 h6
  | slnil n id full a h1 h2 => exact .slnil m id full a (by omega) h2
  | ptr n id off b sz tot h1 h2 => exact .ptr m id off b sz tot (by omega) h2
  | eptr n id i o b sz tot h1 h2 => exact .eptr m id i o b sz tot (by omega) h2
  | fn n f caps vs h1 h2 ih => exact .fn m f caps vs h1 (fun j x v a b => ih j x v a b hm)
  | ifc n t x v h ih => exact .ifc m t x v (ih hm)
  | agg n cs vs h1 h2 h3 ih => exact .agg m cs vs h1 (fun j x v a b => ih j x v a b hm) h3
  | tup n xs vs h1 h2 ih => exact .tup m xs vs h1 (fun j x v a b => ih j x v a b hm)
theorem lts_get {n : Nat} : ∀ {xs : List AV}, AV.lts n xs = true → ∀ {j : Nat} {x : AV}, xs[j]? = some x → x.lt n = true
  | [], _, j, x, h => by simp at h
  | y :: ys, h, 0, x, hx => by simp [AV.lts] at h hx; subst hx; exact h.1
  | y :: ys, h, j + 1, x, hx => by simp [AV.lts] at h hx; exact lts_get h.2 hx
theorem Rel.lt {μ : Nat → G} {S : Nat → Nat → Prop} {w : World} {n m : Nat} {x : AV} {v : Value} (h : Rel μ S w n x v) (hl : x.lt m = true) : Rel μ S w m x v := by
  induction h with
  | junk n x => exact .junk m x
  | v n x h => exact .v m x h
  | fs n es full a cap V h1 h2 h3 h4 h5 ih => exact .fs m es full a cap V h1 h2 h3 h4 h5
  | fp n cs a V h4 h5 ih => exact .fp m cs a V h4 h5
  | sl n id off len full b sz tot cap h1 h2 h3 h4 h5 h6 => exact .sl m id off len full b sz tot cap (by simpa [AV.lt] using hl) h2 h3 h4 h5 h6
  | slnil n id full a h1 h2 => exact .slnil m id full a (by simpa [AV.lt] using hl) h2
  | ptr n id off b sz tot h1 h2 => exact .ptr m id off b sz tot (by simpa [AV.lt] using hl) h2
  | eptr n id i o b sz tot h1 h2 => exact .eptr m id i o b sz tot (by simpa [AV.lt] using hl) h2
  | fn n f caps vs h1 h2 ih => exact .fn m f caps vs h1 (fun j x v a b => ih j x v a b (lts_get (by simpa [AV.lt] using hl) a))
  | ifc n t x v h ih => exact .ifc m t x v (ih (by simpa [AV.lt] using hl))
  | agg n cs vs h1 h2 h3 ih => exact .agg m cs vs h1 (fun j x v a b => ih j x v a b (lts_get (by simpa [AV.lt] using hl) a)) h3
  | tup n xs vs h1 h2 ih => exact .tup m xs vs h1 (fun j x v a b => ih j x v a b (lts_get (by simpa [AV.lt] using hl) a))
theorem kills_get {i : Nat} : ∀ {xs : List AV} {j : Nat} {y : AV}, (AV.kills i xs)[j]? = some y → ∃ x, xs[j]? = some x ∧ y = x.kill i
  | [], j, y, h => by simp [AV.kills] at h
  | x :: xs, 0, y, h => by simp [AV.kills] at h; exact ⟨x, by simp, h.symm⟩
  | x :: xs, j + 1, y, h => by simp [AV.kills] at h; simpa using kills_get h
theorem kills_length {i : Nat} : ∀ {xs : List AV}, (AV.kills i xs).length = xs.length
  | [] => rfl
  | x :: xs => by simp [AV.kills, kills_length (xs := xs)]
theorem Rel.kill {μ μ' : Nat → G} {S S' : Nat → Nat → Prop} {w w' : World} {n i : Nat} {x : AV} {v : Value} (h : Rel μ S w n x v) (hs : Same S S' w w') (hm : ∀ k, k < n → k ≠ i → μ' k = μ k) : Rel μ' S' w' n (x.kill i) v := by
  have h0 : ∀ {x v}, Rel μ S w 0 x v → Rel μ' S' w' 0 x v := fun h => h.same hs (fun i hi => absurd hi (Nat.not_lt_zero _))
  induction h with
  | junk n x => exact .junk n x
  | v n x h => exact .v n x h
  | fs n es full a cap V h1 h2 h3 h4 h5 ih => exact .fs n es full a cap V h1 h2 h3 (fun i c j x a b => let ⟨ad, e, k⟩ := h4 i c j x a b; ⟨ad, e, hs.at k⟩) (fun i c j x a b => h0 (h5 i c j x a b))
  | fp n cs a V h4 h5 ih => exact .fp n cs a V (fun j x a => hs.at (h4 j x a)) (fun j x a => h0 (h5 j x a))
  | sl n id off len full b sz tot cap h1 h2 h3 h4 h5 h6 =>
    simp only [AV.kill]; split
    · exact .junk _ _
    · rename_i hne; exact .sl n id off len full b sz tot cap h1 ((hm _ h1 hne).trans h2) h3 h4 h5 h6
  | slnil n id full a h1 h2 =>
    simp only [AV.kill]; split
    · exact .junk _ _
    · rename_i hne; exact .slnil n id full a h1 ((hm _ h1 hne).trans h2)
  | ptr n id off b sz tot h1 h2 =>
    simp only [AV.kill]; split
    · exact .junk _ _
    · rename_i hne; exact .ptr n id off b sz tot h1 ((hm _ h1 hne).trans h2)
  | eptr n id i o b sz tot h1 h2 =>
    simp only [AV.kill]; split
    · exact .junk _ _
    · rename_i hne; exact .eptr n id i o b sz tot h1 ((hm _ h1 hne).trans h2)
  | fn n f caps vs h1 h2 ih =>
    simp only [AV.kill]
    refine .fn n f _ vs (by rw [kills_length, h1]) fun j y v a b => ?_
    obtain ⟨x, hx, rfl⟩ := kills_get a
    exact ih j x v hx b hm
  | ifc n t x v h ih => simp only [AV.kill]; exact .ifc n t _ v (ih hm)
  | agg n cs vs h1 h2 h3 ih =>
    simp only [AV.kill]
    refine .agg n _ vs (by rw [kills_length, h1]) (fun j y v a b => ?_) h3
    obtain ⟨x, hx, rfl⟩ := kills_get a
    exact ih j x v hx b hm
  | tup n xs vs h1 h2 ih =>
    simp only [AV.kill]
    refine .tup n _ vs (by rw [kills_length, h1]) (fun j y v a b => ?_)
    obtain ⟨x, hx, rfl⟩ := kills_get a
    exact ih j x v hx b hm
theorem Rels.same {μ μ' : Nat → G} {S S' : Nat → Nat → Prop} {w w' : World} {n : Nat} {xs : List AV} {vs : List Value} (h : Rels μ S w n xs vs) (hs : Same S S' w w') (hm : ∀ i, i < n → μ' i = μ i) : Rels μ' S' w' n xs vs :=
  ⟨h.1, fun j x v a b => (h.2 j x v a b).same hs hm⟩
theorem Rels.mono {μ : Nat → G} {S : Nat → Nat → Prop} {w : World} {n m : Nat} {xs : List AV} {vs : List Value} (h : Rels μ S w n xs vs) (hm : n ≤ m) : Rels μ S w m xs vs :=
  ⟨h.1, fun j x v a b => (h.2 j x v a b).mono hm⟩
theorem owned.lt {h : List Blk} {μ : Nat → G} {S : Nat → Nat → Prop} {w : World} (hi : Inv h μ S w) {id k : Nat} (ho : owned h μ id k) : k < w.heap.size ∧ ∀ o, ¬ S k o := by
  obtain ⟨b, hb, hd, sz, tot, hm⟩ := ho
  have hk := hi.blk id b hb
  cases b with
  | dead => exact absurd rfl hd
  | iter s pos =>
    obtain ⟨b', h1, h2, h3⟩ := hk
    rw [hm] at h1; cases h1
    exact ⟨(Array.getElem?_eq_some_iff.1 h2).1, h3⟩
  | var cells =>
    obtain ⟨b', sz', tot', cs, e, h1, h2, h3, h4, h5⟩ := hk
    rw [hm] at h1; cases h1
    exact ⟨(Array.getElem?_eq_some_iff.1 h2).1, h4⟩
  | arr e sz' es =>
    obtain ⟨h0, h0', h1 | ⟨b', tot', cs, h1, h2, h3, h4, h5, h6, h7⟩⟩ := hk
    · obtain ⟨⟨_, h1, _⟩, _⟩ := h1; rw [hm] at h1; cases h1
    · rw [hm] at h1; cases h1
      exact ⟨(Array.getElem?_eq_some_iff.1 h2).1, h6⟩
theorem BlkOk.same {n : Nat} {μ μ' : Nat → G} {S S' : Nat → Nat → Prop} {w w' : World} {id : Nat} {b : Blk} (h : BlkOk n μ S w id b) (hs : Same S S' w w') (hm : ∀ i, i < n → μ' i = μ i) (hid : id < n)
    (hk : ∀ k sz tot, b ≠ .dead → μ id = .blk k sz tot → w'.heap[k]? = w.heap[k]? ∧ ∀ o, ¬ S' k o) : BlkOk n μ' S' w' id b := by
  cases b with
  | dead => trivial
  | iter s pos =>
    obtain ⟨b', h1, h2, h3⟩ := h
    obtain ⟨k1, k2⟩ := hk b' 1 1 (by simp) h1
    exact ⟨b', (hm _ hid).trans h1, k1.trans h2, k2⟩
  | var cells =>
    obtain ⟨b', sz', tot', cs, e, h1, h2, h3, h4, h5, h6⟩ := h
    obtain ⟨k1, k2⟩ := hk b' sz' tot' (by simp) h1
    exact ⟨b', sz', tot', cs, e, (hm _ hid).trans h1, k1.trans h2, h3, k2, fun j x v a b => (h5 j x v a b).same hs hm, h6⟩
  | arr e sz es =>
    obtain ⟨h0, h0', h1 | ⟨b', tot', cs, h1, h2, h3, h4, h5, h6, h7, h8⟩⟩ := h
    · obtain ⟨⟨x, h1, h1'⟩, h1''⟩ := h1; exact ⟨h0, h0', .inl ⟨⟨x, (hm _ hid).trans h1, h1'⟩, h1''⟩⟩
    · obtain ⟨k1, k2⟩ := hk b' sz tot' (by simp) h1
      exact ⟨h0, h0', .inr ⟨b', tot', cs, (hm _ hid).trans h1, k1.trans h2, h3, h4, h5, k2, fun i c j x v a b d => (h7 i c j x v a b d).same hs (fun i hi => absurd hi (Nat.not_lt_zero _)), h8⟩⟩
theorem lt_of_get {α : Type} {l : List α} {i : Nat} {x : α} (h : l[i]? = some x) : i < l.length := (List.getElem?_eq_some_iff.1 h).1
theorem Inv.keep {h : List Blk} {μ : Nat → G} {S S' : Nat → Nat → Prop} {w w' : World} (hi : Inv h μ S w) (hk : ∀ k, k < w.heap.size → w'.heap[k]? = w.heap[k]?) (hsz : w.heap.size ≤ w'.heap.size)
    (hsub : ∀ b o, S b o → S' b o) (hnew : ∀ b o, S' b o → S b o ∨ w.heap.size ≤ b) (hold : ∀ b o, S' b o → b < w'.heap.size) : Inv h μ S' w' ∧ Same S S' w w' := by
  have hs : Same S S' w w' := fun b o hb => ⟨hsub b o hb, hk b (hi.old b o hb)⟩
  refine ⟨⟨fun id b hb => ?_, hi.inj, hold, hi.tab.same hs⟩, hs⟩
  refine (hi.blk id b hb).same hs (fun _ _ => rfl) (lt_of_get hb) fun k sz tot hd hm => ?_
  have ho : owned h μ id k := ⟨b, hb, hd, sz, tot, hm⟩
  obtain ⟨h1, h2⟩ := ho.lt hi
  refine ⟨hk k h1, fun o hso => ?_⟩
  rcases hnew k o hso with h3 | h3
  · exact h2 o h3
  · omega
theorem Inv.keep_adv {h : List Blk} {μ : Nat → G} {S S' : Nat → Nat → Prop} {w w' : World} (hk : ∀ k, k < w.heap.size → w'.heap[k]? = w.heap[k]?) (hsz : w.heap.size ≤ w'.heap.size)
    (hsub : ∀ b o, S b o → S' b o) (hnew : ∀ b o, S' b o → S b o ∨ w.heap.size ≤ b) (hos : w'.os = w.os) (ht : w'.tape = w.tape) (hout : w'.output = w.output) : Adv h μ S w h μ S' w' where
  os := hos
  tape := ht
  output := hout
  size := hsz
  keep k hk' _ := hk k hk'
  sub := hsub
  new b o hb := (hnew b o hb).elim .inl fun h => .inr (.inr h)
  own id k ho := .inl ⟨id, ho⟩
  len := Nat.le_refl _
  vk _ _ hn := ⟨rfl, hn⟩
  ak id e sz es e' sz' es' h1 h2 := by rw [h1] at h2; cases h2; exact ⟨Nat.le_refl _, fun _ => rfl⟩
end Go.Abs
end
section
namespace Go.Abs
variable [Tabs]
def SA (h : List Blk) (μ : Nat → G) (S : Nat → Nat → Prop) (b o : Nat) : Prop :=
  S b o ∨ ∃ id blk, h[id]? = some blk ∧ (∃ sz tot, μ id = .blk b sz tot) ∧ (match blk with | .dead => False | .iter _ _ => False | .var cs _ => o < cs.length | .arr _ sz es => o < es.length * sz)
theorem SA.same (h : List Blk) (μ : Nat → G) (S : Nat → Nat → Prop) (w : World) : Same S (SA h μ S) w w := fun _ _ hb => ⟨.inl hb, rfl⟩
theorem addr_add (b o n : Nat) : (⟨b, o, none⟩ : Addr).add n = ⟨b, o + n, none⟩ := by unfold Addr.add; split <;> simp_all
theorem cell_row {w : World} {b : Nat} {cs : Array Value} {e : TypeId} {fr : Nat × Nat} (h : w.heap[b]? = some (.cells cs e fr)) (o : Nat) : w.cell? ⟨b, o, none⟩ = cs[o]? := by simp [World.cell?, h]
theorem cutEs_length {es : List (List AV)} {off len : Nat} (h : off + len ≤ es.length) : (cutEs es off len).length = len := by
  unfold cutEs; split
  · simp_all
  · simp; omega
theorem cutEs_get {es : List (List AV)} {off len i : Nat} {c : List AV} (h : (cutEs es off len)[i]? = some c) : es[off + i]? = some c ∧ (off + len ≤ es.length → i < len) := by
  unfold cutEs at h; split at h
  · rename_i h0; obtain ⟨rfl, rfl⟩ := h0; simp; exact ⟨h, lt_of_get h⟩
  · rw [List.getElem?_take] at h; split at h
    · rw [List.getElem?_drop] at h; exact ⟨h, fun _ => by assumption⟩
    · simp at h
theorem idx_lt {i j len sz : Nat} (hi : i < len) (hj : j < sz) : i * sz + j < len * sz := by
  have := Nat.mul_le_mul_right sz (show i + 1 ≤ len by omega)
  rw [Nat.add_mul] at this; omega
theorem frzs_of {h : List Blk} {k : Nat} {R : AV → Value → Prop} {T : AV → Value → Prop} (hk : ∀ x v y, R x v → frz h k x = some y → T y v) :
    ∀ {xs ys : List AV}, frzs h k xs = some ys → ys.length = xs.length ∧ ∀ {vs : List Value}, (∀ (j : Nat) (x : AV) (v : Value), xs[j]? = some x → vs[j]? = some v → R x v) → ∀ (j : Nat) (y : AV) (v : Value), ys[j]? = some y → vs[j]? = some v → T y v
  | [], ys, hf => by simp [frzs, mapO] at hf; subst hf; simp
  | x :: xs, ys, hf => by
    simp only [frzs, mapO] at hf
    split at hf
    · rename_i y hy
      split at hf
      · rename_i ys' hys
        simp at hf; subst hf
        obtain ⟨h1, h2⟩ := frzs_of hk hys
        refine ⟨by simp [h1], fun {vs} hv j z v hz hvj => ?_⟩
        cases vs with
        | nil => simp at hvj
        | cons v0 vs =>
          cases j with
          | zero => simp at hz hvj; subst hz hvj; exact hk _ _ _ (hv 0 x v0 (by simp) (by simp)) hy
          | succ j => simp at hz hvj; exact h2 (fun j x v a b => hv (j + 1) x v (by simpa using a) (by simpa using b)) j z v hz hvj
      · simp at hf
    · simp at hf
theorem frz_ok {h : List Blk} {μ : Nat → G} {S : Nat → Nat → Prop} {w : World} (hi : Inv h μ S w) (k : Nat) : ∀ (x : AV) (v : Value) (y : AV), Rel μ S w h.length x v → frz h k x = some y → Rel μ (SA h μ S) w 0 y v := by
  have base : ∀ (k : Nat) (ihs : ∀ k', k = k' + 1 → ∀ (x : AV) (v : Value) (y : AV), Rel μ S w h.length x v → frz h k' x = some y → Rel μ (SA h μ S) w 0 y v) (x : AV) (v : Value) (y : AV),
      Rel μ S w h.length x v → frz h k x = some y → Rel μ (SA h μ S) w 0 y v := by
    intro k ihs x v y hr hf
    have h0 : ∀ {x v}, Rel μ S w 0 x v → Rel μ (SA h μ S) w 0 x v := fun hr => hr.same (SA.same h μ S w) (fun _ _ => rfl)
    cases hr with
    | junk => simp [frz] at hf; subst hf; exact .junk _ _
    | v _ _ hp => simp [frz] at hf; subst hf; exact .v _ _ hp
    | fs _ es full a cap V h1 h2 h3 h4 h5 =>
      simp [frz] at hf; subst hf
      exact .fs 0 es false a cap V h1 h2 (by simp) (fun i c j x a b => let ⟨ad, e, q⟩ := h4 i c j x a b; ⟨ad, e, (SA.same h μ S w).at q⟩) (fun i c j x a b => h0 (h5 i c j x a b))
    | fp _ cs a V h4 h5 => simp [frz] at hf; subst hf; exact .fp 0 cs a V (fun j x a => (SA.same h μ S w).at (h4 j x a)) (fun j x a => h0 (h5 j x a))
    | sl _ id off len full b sz tot cap h1 h2 h3 h4 h5 h6 =>
      simp only [frz] at hf
      split at hf
      · rename_i e sz' es hb
        split at hf
        · rename_i hle
          simp at hf; subst hf
          obtain ⟨z0, z1, ⟨⟨_, z2, _⟩, _⟩ | ⟨b', tot', cs, z2, z3, z4, z5, z6, z7, z8, z9⟩⟩ := hi.blk id _ hb
          · rw [h2] at z2; cases z2
          · rw [h2] at z2; cases z2
            have hl := cutEs_length hle
            have key : ∀ (i : Nat) (c : List AV) (j : Nat) (x : AV), (cutEs es off len)[i]? = some c → c[j]? = some x → es[off + i]? = some c ∧ i < len ∧ j < sz ∧ c.length = sz := by
              intro i c j x hc hx
              obtain ⟨q1, q2⟩ := cutEs_get hc
              have q3 := z1 c (List.mem_of_getElem? q1)
              exact ⟨q1, q2 hle, q3 ▸ lt_of_get hx, q3⟩
            have bound : ∀ (i j : Nat), i < len → j < sz → (off + i) * sz + j < es.length * sz := fun i j a b => idx_lt (by omega) b
            have hcs : ∀ (i j : Nat), i < len → j < sz → (off + i) * sz + j < cs.size := fun i j a b => by
              have h1 := bound i j a b
              have h2 := Nat.mul_le_mul_right sz z5
              omega
            have : Rel μ (SA h μ S) w 0 (.fs (cutEs es off len) false) (.slice (some ⟨b, off * sz, none⟩) (cutEs es off len).length cap) := by
              refine .fs 0 _ false _ cap (fun i j => cs.getD ((off + i) * sz + j) undef) (by omega) h4 (by simp) (fun i c j x hc hx => ?_) (fun i c j x hc hx => ?_)
              · obtain ⟨q1, q2, q3, q4⟩ := key i c j x hc hx
                have hlt := hcs i j q2 q3
                have hg : cs[(off + i) * sz + j]? = some (cs.getD ((off + i) * sz + j) undef) := by simp [hlt]
                refine ⟨_, rfl, ?_, ?_, ?_⟩
                · rw [addr_add, q4, cell_row z3, show off * sz + (i * sz + j) = (off + i) * sz + j by rw [Nat.add_mul]; omega]; exact hg
                · rw [addr_add, q4]; exact .inr ⟨id, _, hb, ⟨sz, tot, h2⟩, by simp only []; have := bound i j q2 q3; rw [Nat.add_mul] at this; omega⟩
                · exact z9 _ _ (bound i j q2 q3) hg
              · obtain ⟨q1, q2, q3, q4⟩ := key i c j x hc hx
                have hlt := hcs i j q2 q3
                exact h0 (z8 _ c j x _ q1 hx (by simp [hlt]))
            rw [hl] at this; exact this
        · simp at hf
      · simp at hf
    | slnil _ id full a h1 h2 =>
      simp only [frz] at hf
      split at hf
      · rename_i e sz' es hb
        obtain ⟨z0, z1, ⟨z2, rfl⟩ | ⟨b', tot', cs, z2, _⟩⟩ := hi.blk id _ hb
        · simp [cutEs] at hf; subst hf
          exact .fs 0 [] false a 0 (fun _ _ => undef) (by simp) (by unfold maxLen; omega) (by simp) (by simp) (by simp)
        · rw [h2] at z2; cases z2
      · simp at hf
    | ptr _ id off b sz tot h1 h2 =>
      cases k with
      | zero => simp [frz] at hf
      | succ k =>
        simp only [frz] at hf
        split at hf
        · rename_i cells hb
          split at hf
          · rename_i hle
            simp at hf; obtain ⟨ys, hys, rfl⟩ := hf
            obtain ⟨b', sz', tot', cs, e, z1, z2, z3, z4, z5, z6⟩ := hi.blk id _ hb
            rw [h2] at z1; cases z1
            obtain ⟨q1, q2⟩ := frzs_of (R := Rel μ S w h.length) (T := Rel μ (SA h μ S) w 0) (ihs k rfl) hys
            have q3 := q2 (vs := cs.toList.drop off) (fun j x v a b => z5 (off + j) x v (by simpa using a) (by simpa using b))
            have q4 : ∀ (j : Nat) (x : AV), ys[j]? = some x → off + j < cs.size := fun j x a => by
              have := lt_of_get a; rw [q1] at this; simp at this; omega
            refine .fp 0 ys _ (fun j => cs.getD (off + j) undef) (fun j x a => ?_) (fun j x a => ?_)
            · have hlt := q4 j x a
              refine ⟨?_, ?_, ?_⟩
              · rw [addr_add, cell_row z2]; simp [hlt]
              · rw [addr_add]; exact .inr ⟨id, _, hb, ⟨sz, tot, h2⟩, by simp only []; omega⟩
              · exact z6 _ (by simp [hlt])
            · have hlt := q4 j x a
              exact q3 j x _ a (by simp [hlt])
          · simp at hf
        · simp at hf
    | eptr _ id i o b sz tot h1 h2 =>
      simp only [frz] at hf
      split at hf
      · rename_i e sz' es hb
        split at hf
        · rename_i c hc
          split at hf
          · rename_i hle
            simp at hf; subst hf
            obtain ⟨z0, z1, ⟨⟨_, z2, _⟩, _⟩ | ⟨b', tot', cs, z2, z3, z4, z5, z6, z7, z8, z9⟩⟩ := hi.blk id _ hb
            · rw [h2] at z2; cases z2
            · rw [h2] at z2; cases z2
              have hcl := z1 c (List.mem_of_getElem? hc)
              have hil := lt_of_get hc
              have key : ∀ (j : Nat) (x : AV), (c.drop o)[j]? = some x → c[o + j]? = some x ∧ i * sz + (o + j) < es.length * sz ∧ i * sz + (o + j) < cs.size := fun j x a => by
                rw [List.getElem?_drop] at a
                have h1 := lt_of_get a
                have h2 : i * sz + (o + j) < es.length * sz := idx_lt hil (hcl ▸ h1)
                have h3 := Nat.mul_le_mul_right sz z5
                exact ⟨a, h2, by omega⟩
              refine .fp 0 _ _ (fun j => cs.getD (i * sz + (o + j)) undef) (fun j x a => ?_) (fun j x a => ?_)
              · obtain ⟨q1, q2, q3⟩ := key j x a
                have hg : cs[i * sz + (o + j)]? = some (cs.getD (i * sz + (o + j)) undef) := by simp [q3]
                refine ⟨?_, ?_, ?_⟩
                · rw [addr_add, cell_row z3, Nat.add_assoc]; exact hg
                · rw [addr_add]; exact .inr ⟨id, _, hb, ⟨sz, tot, h2⟩, by simp only []; omega⟩
                · exact z9 _ _ q2 hg
              · obtain ⟨q1, q2, q3⟩ := key j x a
                exact h0 (z8 i c (o + j) x _ hc q1 (by simp [q3]))
          · simp at hf
        · simp at hf
      · simp at hf
    | fn _ f caps vs h1 h2 =>
      cases k with
      | zero => simp [frz] at hf
      | succ k =>
        simp [frz] at hf; obtain ⟨ys, hys, rfl⟩ := hf
        obtain ⟨q1, q2⟩ := frzs_of (R := Rel μ S w h.length) (T := Rel μ (SA h μ S) w 0) (ihs k rfl) hys
        exact .fn 0 f ys vs (q1.trans h1) (q2 h2)
    | ifc _ t y u h1 =>
      cases k with
      | zero => simp [frz] at hf
      | succ k =>
        simp [frz] at hf; obtain ⟨y', hy, rfl⟩ := hf
        exact .ifc 0 t y' u (ihs k rfl _ _ _ h1 hy)
    | agg _ cs vs h1 h2 h3 =>
      cases k with
      | zero => simp [frz] at hf
      | succ k =>
        simp [frz] at hf; obtain ⟨ys, hys, rfl⟩ := hf
        obtain ⟨q1, q2⟩ := frzs_of (R := Rel μ S w h.length) (T := Rel μ (SA h μ S) w 0) (ihs k rfl) hys
        exact .agg 0 ys vs (q1.trans h1) (q2 h2) h3
    | tup _ xs vs h1 h2 =>
      cases k with
      | zero => simp [frz] at hf
      | succ k =>
        simp [frz] at hf; obtain ⟨ys, hys, rfl⟩ := hf
        obtain ⟨q1, q2⟩ := frzs_of (R := Rel μ S w h.length) (T := Rel μ (SA h μ S) w 0) (ihs k rfl) hys
        exact .tup 0 ys vs (q1.trans h1) (q2 h2)
  induction k with
  | zero => exact base 0 (fun k' h => by omega)
  | succ k ih =>
    refine base (k + 1) ?_
    intro k2 h2
    have h3 : k2 = k := by omega
    subst h3
    exact ih
theorem frzs_ok {h : List Blk} {μ : Nat → G} {S : Nat → Nat → Prop} {w : World} (hi : Inv h μ S w) {k : Nat} {xs ys : List AV} {vs : List Value} (hr : Rels μ S w h.length xs vs) (hf : frzs h k xs = some ys) : Rels μ (SA h μ S) w 0 ys vs := by
  obtain ⟨q1, q2⟩ := frzs_of (R := Rel μ S w h.length) (T := Rel μ (SA h μ S) w 0) (frz_ok hi k) hf
  exact ⟨q1.trans hr.1, q2 hr.2⟩
end Go.Abs
end
section
namespace Go.Abs
variable [Tabs]
variable {P : Program}
theorem wp_value {o : Oper} {a : Act} {w w' : World} {v : Value} {K : Act → World → Prop} {Q : Exit → Act → World → Prop} (h : (execOp a.eval o).run P w = .ok (.value v) w') (hk : K (a.put o.dst v) w') : o.wp P a w K Q := by
  unfold Oper.wp; rw [h]; exact hk
theorem wp_skipv {o : Oper} {a : Act} {w w' : World} {K : Act → World → Prop} {Q : Exit → Act → World → Prop} (h : (execOp a.eval o).run P w = .ok .skip w') (hk : K (a.put o.dst undef) w') : o.wp P a w K Q := by
  unfold Oper.wp; rw [h]; exact hk
section
variable {μ : Nat → G} {S : Nat → Nat → Prop} {w : World} {n : Nat}
theorem ofCell_ok (v : Value) : Rel μ S w n (ofCell v) v := by
  unfold ofCell
  split <;> first
    | exact .junk _ _
    | exact .v _ _ rfl
    | exact .fs _ [] true none 0 (fun _ _ => undef) (by simp) (by unfold maxLen; omega) (by simp) (by simp) (by simp)
theorem undef_ok : Rel μ S w n (.tup []) undef := .tup _ [] [] rfl (by simp)
theorem ofValue_ok (v : Value) : Rel μ S w n (ofValue v) v := by
  unfold ofValue
  split
  · rename_i cs
    split
    · rename_i h
      have : Rel μ S w n (.agg (cs.toList.map ofCell)) (.agg cs.toList.toArray) := by
        refine .agg _ _ _ (by simp) (fun j x v a b => ?_) (fun v hv => ?_)
        · simp only [List.getElem?_map, b, Option.map_some, Option.some.injEq] at a; subst a; exact ofCell_ok v
        · have := List.all_eq_true.1 h v hv
          cases v <;> simp_all [Value.oneCell']
      simpa using this
    · exact .junk _ _
  · exact undef_ok
  · exact ofCell_ok v
theorem getD_ok {xs : List AV} {tmps : Array Value} (h : Rels μ S w n xs tmps.toList) (t : Nat) : Rel μ S w n (xs.getD t (.tup [])) (tmps.getD t undef) := by
  obtain ⟨h1, h2⟩ := h
  by_cases hlt : t < xs.length
  · have hlt' : t < tmps.size := by simpa [h1] using hlt
    have := h2 t xs[t] tmps[t] (by simp [hlt]) (by simp [hlt'])
    simpa [hlt, hlt'] using this
  · have hlt' : ¬ t < tmps.size := by simpa [h1] using hlt
    simp [hlt, hlt']
    exact undef_ok
theorem ev_ok {s : St} {a : Act} (h : Rels μ S w n s.t a.tmps.toList) (x : Operand) : Rel μ S w n (ev s x) (a.eval x) := by
  cases x with
  | tmp t => exact getD_ok h t
  | const v => exact ofValue_ok v
  | func f => exact .fn n f [] [] rfl (by simp)
  | global g => exact .junk _ _
theorem evs_ok {s : St} {a : Act} (h : Rels μ S w n s.t a.tmps.toList) (xs : List Operand) : Rels μ S w n (xs.map (ev s)) (xs.map a.eval) := by
  refine ⟨by simp, fun j x v a b => ?_⟩
  simp only [List.getElem?_map] at a b
  cases hx : xs[j]? with
  | none => simp [hx] at a
  | some o => simp [hx] at a b; subst a b; exact ev_ok h o
theorem Rels.set {xs : List AV} {vs : List Value} (h : Rels μ S w n xs vs) {x : AV} {v : Value} (hx : Rel μ S w n x v) (d : Nat) : Rels μ S w n (xs.set d x) (vs.set d v) := by
  refine ⟨by simp [h.1], fun j y u a b => ?_⟩
  rw [List.getElem?_set] at a b
  by_cases hd : d = j
  · simp only [hd, if_true] at a b
    split at a <;> split at b <;> simp_all
  · simp only [hd, if_false] at a b
    exact h.2 j y u a b
theorem put_ok {s : St} {a : Act} (h : Rels μ S w n s.t a.tmps.toList) {x : AV} {v : Value} (hx : Rel μ S w n x v) (d : Option Nat) : Rels μ S w n (put s d x).t (a.put d v).tmps.toList := by
  cases d with
  | none => exact h
  | some d => simpa [put, Act.put] using h.set hx d
end
theorem tyOf_spec {t : TypeId} {i : TI} (h : tyOf P t = some i) : ∃ info d, P.info? t = some info ∧ P.underlying t = some d ∧ i = ⟨tdOf d, info.size, info.bytes, info.zero⟩ := by
  unfold tyOf at h
  split at h
  · rename_i info d h1 h2; simp at h; exact ⟨info, d, h1, h2, h.symm⟩
  · simp at h
theorem run_isAgg {t : TypeId} {d : TypeDesc} (h : P.underlying t = some d) (w : World) : (isAgg t).run P w = .ok (tdOf d).isAgg w := by
  unfold isAgg
  rw [Sem.run_bind, run_underlying h w]
  cases d <;> simp [tdOf, TD.isAgg]
theorem run_sizeOf {t : TypeId} {i : TypeInfo} (h : P.info? t = some i) (w : World) : (sizeOf t).run P w = .ok i.size w := by
  simp [sizeOf, typeInfo, h]
theorem cellsAt_ok {h : List Blk} {μ : Nat → G} {S : Nat → Nat → Prop} {w : World} (hi : Inv h μ S w) {lim : Option Nat} {x : AV} {v : Value} {cs : List AV} (hr : Rel μ S w h.length x v) (hc : cellsAt lim h x = some cs) :
    ∃ (ad : Addr) (V : Nat → Value), v = .pointer (some ad) ∧ ∀ (j : Nat) (y : AV), cs[j]? = some y → w.cell? (ad.add j) = some (V j) ∧ Rel μ S w h.length y (V j) ∧ (V j).oneCell' = true := by
  cases hr with
  | fp _ cs' a V h4 h5 =>
    simp [cellsAt] at hc; subst hc
    exact ⟨a, V, rfl, fun j y hy => ⟨(h4 j y hy).1, (h5 j y hy).mono (Nat.zero_le _), (h4 j y hy).2.2⟩⟩
  | ptr _ id off b sz tot h1 h2 =>
    simp only [cellsAt] at hc
    split at hc
    · split at hc
      · rename_i cells hb
        split at hc
        · simp at hc; subst hc
          obtain ⟨b', sz', tot', vs, e, z1, z2, z3, z4, z5, z6⟩ := hi.blk id _ hb
          rw [h2] at z1; cases z1
          refine ⟨_, fun j => vs.getD (off + j) undef, rfl, fun j y hy => ?_⟩
          rw [List.getElem?_drop] at hy
          have hlt : off + j < vs.size := by rw [z3]; exact lt_of_get hy
          refine ⟨by rw [addr_add, cell_row z2]; simp [hlt], z5 _ _ _ hy (by simp [hlt]), z6 _ (by simp [hlt])⟩
        · simp at hc
      · simp at hc
    · simp at hc
  | eptr _ id i o b sz tot h1 h2 =>
    simp only [cellsAt] at hc
    split at hc
    · split at hc
      · rename_i e sz' es hb
        split at hc
        · rename_i c hes
          split at hc
          · simp at hc; subst hc
            obtain ⟨z0, z1, ⟨⟨_, z2, _⟩, _⟩ | ⟨b', tot', vs, z2, z3, z4, z5, z6, z7, z8, z9⟩⟩ := hi.blk id _ hb
            · rw [h2] at z2; cases z2
            · rw [h2] at z2; cases z2
              refine ⟨_, fun j => vs.getD (i * sz + (o + j)) undef, rfl, fun j y hy => ?_⟩
              rw [List.getElem?_drop] at hy
              have h1 := lt_of_get hy
              have hcl := z1 c (List.mem_of_getElem? hes)
              have h2 : i * sz + (o + j) < es.length * sz := idx_lt (lt_of_get hes) (hcl ▸ h1)
              have h3 := Nat.mul_le_mul_right sz z5
              have hlt : i * sz + (o + j) < vs.size := by omega
              have hg : vs[i * sz + (o + j)]? = some (vs.getD (i * sz + (o + j)) undef) := by simp [hlt]
              exact ⟨by rw [addr_add, cell_row z3, Nat.add_assoc]; exact hg, (z8 i c (o + j) y _ hes hy hg).mono (Nat.zero_le _), z9 _ _ h2 hg⟩
          · simp at hc
        · simp at hc
      · simp at hc
    · simp at hc
  | _ => simp [cellsAt] at hc
theorem loadA_ok {h : List Blk} {μ : Nat → G} {S : Nat → Nat → Prop} {w : World} (hi : Inv h μ S w) {lim : Option Nat} {t : TypeId} {x y : AV} {v : Value} (hr : Rel μ S w h.length x v) (hl : loadA P lim h t x = some y) :
    ∃ (ad : Addr) (u : Value), v = .pointer (some ad) ∧ (loadVar t ad).run P w = .ok u w ∧ Rel μ S w h.length y u := by
  unfold loadA at hl
  split at hl
  · simp at hl
  · rename_i i hty
    obtain ⟨info, d, h1, h2, rfl⟩ := tyOf_spec hty
    split at hl
    · simp at hl
    · rename_i cs hcs
      obtain ⟨ad, V, rfl, hV⟩ := cellsAt_ok hi hr hcs
      simp only [] at hl
      split at hl
      · rename_i hag
        split at hl
        · rename_i hsz
          simp at hl; subst hl
          have hget : ∀ (j : Nat), j < info.size → ∃ y, cs[j]? = some y := fun j hj => ⟨cs[j]'(by omega), by simp⟩
          refine ⟨ad, .agg ((List.range info.size).map V).toArray, rfl, ?_, ?_⟩
          · have hlc := run_loadCells (P := P) (w := w) ad info.size V (fun j hj => by obtain ⟨y, hy⟩ := hget j hj; exact (hV j y hy).1)
            simp only [loadVar, Sem.run_bind, run_isAgg h2, Result.andThen_ok, hag, if_true, run_sizeOf h1, hlc, Sem.run_pure]
          · refine .agg _ _ _ (by simp; omega) (fun j y u a b => ?_) (fun u hu => ?_)
            · rw [List.getElem?_take] at a
              split at a
              · rename_i hj
                simp [hj] at b
                subst b; exact (hV j y a).2.1
              · simp at a
            · simp at hu
              obtain ⟨j, hj, rfl⟩ := hu
              obtain ⟨y, hy⟩ := hget j hj
              exact (hV j y hy).2.2
        · simp at hl
      · rename_i hag
        cases cs with
        | nil => simp at hl
        | cons c cs =>
          simp at hl; subst hl
          obtain ⟨q1, q2, _⟩ := hV 0 c (by simp)
          refine ⟨ad, V 0, rfl, ?_, q2⟩
          simp only [Addr.add_zero'] at q1
          simp [loadVar, run_isAgg h2, hag, q1]
end Go.Abs
end
section
namespace Go.Abs
variable [Tabs]
variable {P : Program}
theorem Rel.int {μ : Nat → G} {S : Nat → Nat → Prop} {w : World} {n : Nat} {x v : Value} (h : Rel μ S w n (.v x) v) : v = x := by cases h; rfl
theorem idxA_ok {h : List Blk} {μ : Nat → G} {S : Nat → Nat → Prop} {w : World} (hi : Inv h μ S w) {t : TypeId} {b i y : AV} {vb vi : Value} (hb : Rel μ S w h.length b vb) (hx : Rel μ S w h.length i vi) (hl : idxA P h t b i = some y) :
    ∃ u, (Instr.indexAt t vb vi).run P w = .ok u w ∧ Rel μ S w h.length y u := by
  unfold idxA at hl
  split at hl
  · rename_i e sz0 by0 z0 hty
    obtain ⟨info, d, h1, h2, heq⟩ := tyOf_spec hty
    obtain ⟨rfl⟩ : d = .slice e := by cases d <;> simp [tdOf] at heq; simp [heq]
    split at hl
    · rename_i ie k nn hte
      have hvi := hx.int; subst hvi
      obtain ⟨einfo, ed, h3, h4, rfl⟩ := tyOf_spec hte
      split at hl
      · -- a frozen slice
        rename_i es full
        cases hb with
        | fs _ _ _ a cap V g1 g2 g3 g4 g5 =>
          split at hl
          · rename_i hn
            split at hl
            · rename_i c hc
              split at hl
              · rename_i hlen
                simp at hl; subst hl
                simp only [] at hlen
                have hlt : nn.toNat < es.length := lt_of_get hc
                obtain ⟨ad, rfl, _⟩ := g4 nn.toNat c 0 (c[0]'(by omega)) hc (by simp)
                refine ⟨.pointer (some (ad.add (nn.toNat * einfo.size))), ?_, ?_⟩
                · have hcond : 0 ≤ nn ∧ nn < (es.length : Int) := ⟨hn, by omega⟩
                  simp [Instr.indexAt, asIntOf, run_underlying h2, sizeOf, typeInfo, h3, hcond]
                · refine .fp _ c _ (V nn.toNat) (fun j x hx => ?_) (fun j x hx => g5 _ c j x hc hx)
                  obtain ⟨ad', e1, e2⟩ := g4 nn.toNat c j x hc hx
                  cases e1
                  rw [Addr.add_add, ← hlen.1]; exact e2
              · simp at hl
            · simp at hl
          · simp at hl
      · rename_i id off len full
        split at hl
        · rename_i e' sz' es' hid
          split at hl
          · rename_i hcond
            simp at hl; subst hl
            obtain ⟨c1, c2, c3⟩ := hcond
            simp only [] at c3
            cases hb with
            | sl _ _ _ _ _ b sz tot cap g1 g2 g3 g4 g5 g6 =>
              have hsz : sz = sz' := by
                obtain ⟨_, _, ⟨⟨_, q, _⟩, _⟩ | ⟨_, _, _, q, _⟩⟩ := hi.blk id _ hid
                · rw [g2] at q; cases q
                · rw [g2] at q; cases q; rfl
              subst hsz
              refine ⟨.pointer (some ⟨b, (off + nn.toNat) * sz + 0, none⟩), ?_, .eptr _ id _ 0 b sz tot g1 g2⟩
              have hcond : 0 ≤ nn ∧ nn < (len : Int) := ⟨c1, c2⟩
              have hadd : (⟨b, off * sz, none⟩ : Addr).add (nn.toNat * sz) = ⟨b, (off + nn.toNat) * sz + 0, none⟩ := by rw [addr_add, Nat.add_mul, Nat.add_zero]
              simp [Instr.indexAt, asIntOf, run_underlying h2, sizeOf, typeInfo, h3, hcond, ← c3, hadd]
            | slnil _ _ _ a g1 g2 => simp at c2; omega
          · simp at hl
        · simp at hl
      · simp at hl
    · simp at hl
  · -- an array's address
    rename_i m e sz0 by0 z0 hty
    obtain ⟨info, d, h1, h2, heq⟩ := tyOf_spec hty
    obtain ⟨rfl⟩ : d = .array m e := by cases d <;> simp [tdOf] at heq; simp [heq]
    split at hl
    · rename_i ie k nn hte
      have hvi := hx.int; subst hvi
      obtain ⟨einfo, ed, h3, h4, rfl⟩ := tyOf_spec hte
      split at hl
      · rename_i hcond
        obtain ⟨c1, c2, c3⟩ := hcond
        simp only [] at c3 hl
        have run : ∀ (ad : Addr), (Instr.indexAt t (.pointer (some ad)) (.int k nn)).run P w = .ok (.pointer (some (ad.add (nn.toNat * einfo.size)))) w := by
          intro ad
          have hcond : 0 ≤ nn ∧ nn < (m : Int) := ⟨c1, c2⟩
          simp [Instr.indexAt, asIntOf, run_underlying h2, sizeOf, typeInfo, h3, hcond, Instr.sureAddr]
        split at hl
        · rename_i cs
          split at hl
          · simp at hl; subst hl
            cases hb with
            | fp _ _ a V g4 g5 =>
              refine ⟨_, run a, .fp _ _ _ (fun j => V (nn.toNat * einfo.size + j)) (fun j x hx => ?_) (fun j x hx => ?_)⟩
              · rw [List.getElem?_drop] at hx
                rw [Addr.add_add]; exact g4 _ x hx
              · rw [List.getElem?_drop] at hx
                exact g5 _ x hx
          · simp at hl
        · simp at hl; subst hl
          cases hb with
          | ptr _ id o b sz tot g1 g2 => exact ⟨_, run _, by rw [addr_add]; exact .ptr _ _ _ b sz tot g1 g2⟩
        · simp at hl
      · simp at hl
    · simp at hl
  · simp at hl
theorem fieldA_ok {n : Nat} {μ : Nat → G} {S : Nat → Nat → Prop} {w : World} {t : TypeId} {b y : AV} {vb : Value} {k : Nat} (hb : Rel μ S w n b vb) (hl : fieldA P t b k = some y) :
    ∃ u, (Instr.fieldAt t vb k).run P w = .ok u w ∧ Rel μ S w n y u := by
  unfold fieldA at hl
  split at hl
  · rename_i fs sz0 by0 z0 hty
    obtain ⟨info, d, h1, h2, heq⟩ := tyOf_spec hty
    obtain ⟨fa, rfl⟩ : ∃ fa, d = .struct fa := by cases d <;> simp [tdOf] at heq; exact ⟨_, rfl⟩
    simp [tdOf] at heq
    obtain ⟨rfl, _⟩ := heq
    split at hl
    · rename_i off ft hf
      simp only [List.getElem?_map, Option.map_eq_some_iff] at hf
      obtain ⟨fld, hfld, hpair⟩ := hf
      cases hpair
      split at hl
      · rename_i ie hte
        obtain ⟨einfo, ed, h3, h4, rfl⟩ := tyOf_spec hte
        split at hl
        · simp at hl
        · rename_i hsz
          simp only [] at hsz
          have hfl : fa[k]? = some fld := by simpa using hfld
          have run : ∀ (ad : Addr), (Instr.fieldAt t (.pointer (some ad)) k).run P w = .ok (.pointer (some (ad.add fld.offset))) w := by
            intro ad
            simp [Instr.fieldAt, run_underlying h2, hfl, Instr.sureAddr, fieldPlace, sizeOf, typeInfo, h3, hsz]
          split at hl
          · rename_i cs
            split at hl
            · simp at hl; subst hl
              cases hb with
              | fp _ _ a V g4 g5 =>
                refine ⟨_, run a, .fp _ _ _ (fun j => V (fld.offset + j)) (fun j x hx => ?_) (fun j x hx => ?_)⟩
                · rw [List.getElem?_drop] at hx
                  rw [Addr.add_add]; exact g4 _ x hx
                · rw [List.getElem?_drop] at hx
                  exact g5 _ x hx
            · simp at hl
          · simp at hl; subst hl
            cases hb with
            | ptr _ id o b sz tot g1 g2 => exact ⟨_, run _, by rw [addr_add]; exact .ptr _ _ _ b sz tot g1 g2⟩
          · simp at hl; subst hl
            cases hb with
            | eptr _ id i o b sz tot g1 g2 => exact ⟨_, run _, by rw [addr_add, Nat.add_assoc]; exact .eptr _ _ _ _ b sz tot g1 g2⟩
          · simp at hl
      · simp at hl
    · simp at hl
  · simp at hl
theorem partA_ok {n : Nat} {μ : Nat → G} {S : Nat → Nat → Prop} {w : World} {t : TypeId} {cs : List AV} {vs : List Value} {off : Nat} {y : AV} (h1 : cs.length = vs.length)
    (h2 : ∀ (j : Nat) (x : AV) (v : Value), cs[j]? = some x → vs[j]? = some v → Rel μ S w n x v) (h3 : ∀ v ∈ vs, v.oneCell' = true) (hl : partA P t cs off = some y) :
    ∃ u, (part t vs.toArray off).run P w = .ok u w ∧ Rel μ S w n y u := by
  unfold partA at hl
  split at hl
  · simp at hl
  · rename_i i hty
    obtain ⟨info, d, k1, k2, rfl⟩ := tyOf_spec hty
    simp only [] at hl
    split at hl
    · rename_i hag
      split at hl
      · rename_i hle
        simp at hl; subst hl
        refine ⟨.agg ((vs.drop off).take info.size).toArray, ?_, ?_⟩
        · simp only [part, Sem.run_bind, run_isAgg k2, Result.andThen_ok, hag, if_true, run_sizeOf k1, Sem.run_pure]
          congr 2
          apply Array.ext'
          simp [List.take_drop]
        · refine .agg _ _ _ (by simp [h1]) (fun j x v a b => ?_) (fun v hv => h3 v (List.mem_of_mem_drop (List.mem_of_mem_take hv)))
          rw [List.getElem?_take] at a b
          split at a
          · rename_i hj
            rw [if_pos hj] at b
            rw [List.getElem?_drop] at a b
            exact h2 _ x v a b
          · simp at a
      · simp at hl
    · rename_i hag
      have hlt := lt_of_get hl
      refine ⟨vs[off]'(by omega), ?_, h2 off y _ hl (by simp)⟩
      have : vs[off]? = some (vs[off]'(by omega)) := by simp
      simp [part, run_isAgg k2, hag, show off < vs.length by omega]
theorem fieldV_ok {n : Nat} {μ : Nat → G} {S : Nat → Nat → Prop} {w : World} {t : TypeId} {b y : AV} {vb : Value} {k : Nat} (hb : Rel μ S w n b vb) (hl : fieldV P t b k = some y) :
    ∃ u, (Instr.field t vb k).run P w = .ok u w ∧ Rel μ S w n y u := by
  unfold fieldV at hl
  split at hl
  · rename_i fs sz0 by0 z0 hty
    obtain ⟨info, d, h1, h2, heq⟩ := tyOf_spec hty
    obtain ⟨fa, rfl⟩ : ∃ fa, d = .struct fa := by cases d <;> simp [tdOf] at heq; exact ⟨_, rfl⟩
    simp [tdOf] at heq
    obtain ⟨rfl, _⟩ := heq
    split at hl
    · rename_i off ft cs hf
      simp only [List.getElem?_map, Option.map_eq_some_iff] at hf
      obtain ⟨fld, hfld, hpair⟩ := hf
      cases hpair
      have hfl : fa[k]? = some fld := by simpa using hfld
      cases hb with
      | agg _ _ vs g1 g2 g3 =>
        obtain ⟨u, q1, q2⟩ := partA_ok (P := P) g1 g2 g3 hl
        exact ⟨u, by simp [Instr.field, run_underlying h2, hfl, asAgg, q1], q2⟩
    · simp at hl
  · simp at hl
theorem indexV_ok {n : Nat} {μ : Nat → G} {S : Nat → Nat → Prop} {w : World} {t : TypeId} {x i y : AV} {vx vi : Value} (hx : Rel μ S w n x vx) (hi : Rel μ S w n i vi) (hl : indexV P t x i = some y) :
    ∃ u, (Instr.index t vx vi).run P w = .ok u w ∧ Rel μ S w n y u := by
  unfold indexV at hl
  split at hl
  · rename_i sz0 by0 z0 s k nn hty
    obtain ⟨info, d, h1, h2, heq⟩ := tyOf_spec hty
    obtain ⟨rfl⟩ : d = .string := by cases d <;> simp [tdOf] at heq; rfl
    have e1 := hx.int; have e2 := hi.int; subst e1 e2
    split at hl
    · rename_i hn
      split at hl
      · rename_i b hb
        simp at hl; subst hl
        exact ⟨.int .u8 b.toNat, by simp [Instr.index, asIntOf, run_underlying h2, hn, hb], .v _ _ rfl⟩
      · simp at hl
    · simp at hl
  · rename_i m e sz0 by0 z0 cs k nn hty
    obtain ⟨info, d, h1, h2, heq⟩ := tyOf_spec hty
    obtain ⟨rfl⟩ : d = .array m e := by cases d <;> simp [tdOf] at heq; simp [heq]
    have e2 := hi.int; subst e2
    split at hl
    · rename_i ie hte
      obtain ⟨einfo, ed, h3, h4, rfl⟩ := tyOf_spec hte
      split at hl
      · rename_i hn
        cases hx with
        | agg _ _ vs g1 g2 g3 =>
          obtain ⟨u, q1, q2⟩ := partA_ok (P := P) g1 g2 g3 hl
          simp only [] at q1
          exact ⟨u, by simp [Instr.index, asIntOf, run_underlying h2, hn, run_sizeOf h3, q1], q2⟩
      · simp at hl
    · simp at hl
  · simp at hl
end Go.Abs
end
section
namespace Go.Abs
variable [Tabs]
variable {P : Program}
theorem tyOf_slice {t : TypeId} {e : Nat} {a b : Nat} {z : Option Value} (h : tyOf P t = some ⟨.slice e, a, b, z⟩) : P.underlying t = some (.slice e) := by
  obtain ⟨info, d, h1, h2, heq⟩ := tyOf_spec h
  obtain ⟨rfl⟩ : d = .slice e := by cases d <;> simp [tdOf] at heq; simp [heq]
  exact h2
theorem tyOf_info {t : TypeId} {d : TD} {a b : Nat} {z : Option Value} (h : tyOf P t = some ⟨d, a, b, z⟩) : ∃ info dd, P.info? t = some info ∧ P.underlying t = some dd ∧ d = tdOf dd ∧ info.size = a ∧ info.bytes = b ∧ info.zero = z := by
  obtain ⟨info, dd, h1, h2, heq⟩ := tyOf_spec h
  cases heq
  exact ⟨info, dd, h1, h2, rfl, rfl, rfl, rfl⟩
theorem nat?_ok {n : Nat} {μ : Nat → G} {S : Nat → Nat → Prop} {w : World} {x : AV} {v : Value} {m r : Nat} (hx : Rel μ S w n x v) (h : nat? x m = some r) : r ≤ m ∧ ∀ (y : Nat) (code : BoundsCode), r ≤ y → (Instr.sliceBound v y code).run P w = .ok r w := by
  unfold nat? at h
  split at h
  · rename_i k q
    split at h
    · rename_i hc
      simp at h; subst h
      have e := hx.int; subst e
      refine ⟨by omega, fun y code hy => ?_⟩
      have hc2 : 0 ≤ q ∧ q ≤ (y : Int) := ⟨hc.1, by omega⟩
      simp [Instr.sliceBound, asIntOf, hc2]
    · simp at h
  · simp at h
theorem cutB_ok {n : Nat} {μ : Nat → G} {S : Nat → Nat → Prop} {w : World} {lo hi mx : Option AV} {vlo vhi vmx : Option Value} {len cap l h : Nat} {m isSl : Bool}
    (hlo : ∀ x, lo = some x → ∃ v, vlo = some v ∧ Rel μ S w n x v) (hlo0 : lo = none → vlo = none) (hhi : ∀ x, hi = some x → ∃ v, vhi = some v ∧ Rel μ S w n x v) (hhi0 : hi = none → vhi = none)
    (hmx : ∀ x, mx = some x → ∃ v, vmx = some v ∧ Rel μ S w n x v) (hmx0 : mx = none → vmx = none) (hcap : len ≤ cap) (hc : cutB len lo hi mx = some (l, h, m)) :
    l ≤ h ∧ h ≤ len ∧ (m = true ↔ mx ≠ none) ∧ (Instr.sliceBounds isSl len cap vlo vhi vmx).run P w = .ok (l, h, if m then h else cap) w := by
  unfold cutB at hc
  split at hc
  · simp at hc
  · rename_i hh hhe
    split at hc
    · simp at hc
    · rename_i ll hle
      have Hlo : ll ≤ hh ∧ ∀ (code : BoundsCode), (match vlo with | some v => Instr.sliceBound v hh code | none => (Pure.pure 0 : Sem Nat)).run P w = .ok ll w := by
        cases lo with
        | none => simp at hle; subst hle; rw [hlo0 rfl]; exact ⟨Nat.zero_le _, fun code => rfl⟩
        | some x =>
          obtain ⟨v, rfl, hr⟩ := hlo x rfl
          simp at hle
          obtain ⟨q1, q2⟩ := nat?_ok (P := P) hr hle
          exact ⟨q1, fun code => q2 hh code q1⟩
      cases mx with
      | none =>
        simp at hc
        obtain ⟨rfl, rfl, rfl⟩ := hc
        rw [hmx0 rfl]
        cases hi with
        | none =>
          simp at hhe; subst hhe
          rw [hhi0 rfl]
          refine ⟨Hlo.1, Nat.le_refl _, by simp, ?_⟩
          have := Hlo.2 .sliceB
          simp [Instr.sliceBounds]
          cases vlo <;> simp_all
        | some x =>
          obtain ⟨v, rfl, hr⟩ := hhi x rfl
          simp at hhe
          obtain ⟨q1, q2⟩ := nat?_ok (P := P) hr hhe
          refine ⟨Hlo.1, q1, by simp, ?_⟩
          have k1 := Hlo.2 .sliceB
          have k2 := q2 cap (if isSl then .sliceAcap else .sliceAlen) (Nat.le_trans q1 hcap)
          simp [Instr.sliceBounds, k2]
          cases vlo <;> simp_all
      | some x =>
        obtain ⟨vm, rfl, hrm⟩ := hmx x rfl
        cases hi with
        | none => simp at hc
        | some xh =>
        cases hm : nat? x len with
        | none => simp [hm] at hc
        | some mm =>
        simp only [hm] at hc
        split at hc
        · rename_i heq
          simp at hc
          obtain ⟨rfl, rfl, rfl⟩ := hc
          obtain ⟨v, rfl, hr⟩ := hhi xh rfl
          simp at hhe
          obtain ⟨q1, q2⟩ := nat?_ok (P := P) hr hhe
          obtain ⟨q3, q4⟩ := nat?_ok (P := P) hrm hm
          subst heq
          refine ⟨Hlo.1, q1, by simp, ?_⟩
          have k1 := Hlo.2 .slice3C
          have k2 := q2 mm .slice3B (Nat.le_refl _)
          have k3 := q4 cap (if isSl then .slice3Acap else .slice3Alen) (Nat.le_trans q3 hcap)
          simp [Instr.sliceBounds, k2, k3]
          cases vlo <;> simp_all
        · simp at hc
theorem cutJ_ok {n : Nat} {μ : Nat → G} {S : Nat → Nat → Prop} {w : World} {lo hi mx : Option AV} {vlo vhi vmx : Option Value} {len cap : Nat} {isSl : Bool}
    (hlo : ∀ x, lo = some x → ∃ v, vlo = some v ∧ Rel μ S w n x v) (hlo0 : lo = none → vlo = none) (hhi : ∀ x, hi = some x → ∃ v, vhi = some v ∧ Rel μ S w n x v)
    (hmx : ∀ x, mx = some x → ∃ v, vmx = some v ∧ Rel μ S w n x v) (hcap : len ≤ cap) (hc : cutJ len lo hi mx = true) :
    ∃ l h m, (Instr.sliceBounds isSl len cap vlo vhi vmx).run P w = .ok (l, h, m) w := by
  unfold cutJ at hc
  split at hc
  · rename_i y z
    split at hc
    · rename_i m hm
      split at hc
      · rename_i h hh
        obtain ⟨vm, rfl, hrm⟩ := hmx z rfl
        obtain ⟨vh, rfl, hrh⟩ := hhi y rfl
        obtain ⟨q3, q4⟩ := nat?_ok (P := P) hrm hm
        obtain ⟨q1, q2⟩ := nat?_ok (P := P) hrh hh
        have k2 := q2 m .slice3B q1
        have k3 := q4 cap (if isSl then .slice3Acap else .slice3Alen) (Nat.le_trans q3 hcap)
        split at hc
        · rename_i x
          obtain ⟨l, hl⟩ := Option.isSome_iff_exists.1 hc
          obtain ⟨vl, rfl, hrl⟩ := hlo x rfl
          obtain ⟨q5, q6⟩ := nat?_ok (P := P) hrl hl
          have k1 := q6 h .slice3C q5
          exact ⟨l, h, m, by simp [Instr.sliceBounds, k1, k2, k3]⟩
        · rw [hlo0 rfl]
          exact ⟨0, h, m, by simp [Instr.sliceBounds, k2, k3]⟩
      · simp at hc
    · simp at hc
  · simp at hc
theorem opt_ok {n : Nat} {μ : Nat → G} {S : Nat → Nat → Prop} {w : World} {s : St} {a : Act} (h : Rels μ S w n s.t a.tmps.toList) (o : Option Operand) :
    (∀ x, o.map (ev s) = some x → ∃ v, o.map a.eval = some v ∧ Rel μ S w n x v) ∧ (o.map (ev s) = none → o.map a.eval = none) := by
  cases o with
  | none => simp
  | some x => simp; exact ev_ok h x
theorem sliceA_ok {h : List Blk} {μ : Nat → G} {S : Nat → Nat → Prop} {w : World} (hi : Inv h μ S w) {t : TypeId} {x y : AV} {vx : Value} {lo hi' mx : Option AV} {vlo vhi vmx : Option Value} (hx : Rel μ S w h.length x vx)
    (Hlo : (∀ x, lo = some x → ∃ v, vlo = some v ∧ Rel μ S w h.length x v) ∧ (lo = none → vlo = none)) (Hhi : (∀ x, hi' = some x → ∃ v, vhi = some v ∧ Rel μ S w h.length x v) ∧ (hi' = none → vhi = none))
    (Hmx : (∀ x, mx = some x → ∃ v, vmx = some v ∧ Rel μ S w h.length x v) ∧ (mx = none → vmx = none)) (hl : sliceA P h t x lo hi' mx = some y) :
    ∃ u, (Instr.sliceAt t vx vlo vhi vmx).run P w = .ok u w ∧ Rel μ S w h.length y u := by
  unfold sliceA at hl
  split at hl
  · rename_i sz0 by0 z0 hty
    obtain ⟨info, d, h1, h2, heq⟩ := tyOf_spec hty
    obtain ⟨rfl⟩ : d = .string := by cases d <;> simp [tdOf] at heq; rfl
    split at hl
    · rename_i s
      have e := hx.int; subst e
      cases hc : cutB s.size lo hi' none with
      | none => simp [hc] at hl
      | some q =>
        obtain ⟨l, hh, m⟩ := q
        simp [hc] at hl; subst hl
        obtain ⟨q1, q2, q3, q4⟩ := cutB_ok (P := P) (isSl := false) Hlo.1 Hlo.2 Hhi.1 Hhi.2 Hmx.1 Hmx.2 (Nat.le_refl s.size) hc
        have hv : vmx = none := Hmx.2 rfl
        subst hv
        exact ⟨.string (s.extract l hh), by simp [Instr.sliceAt, Instr.slice, run_underlying h2, q4], .v _ _ rfl⟩
    · simp at hl
  · rename_i e sz0 by0 z0 hty
    have h2 := tyOf_slice hty
    cases hte : tyOf P e with
    | none => simp [hte] at hl
    | some ie =>
      simp only [hte] at hl
      obtain ⟨einfo, ed, h3, h4, rfl⟩ := tyOf_spec hte
      split at hl
      · simp at hl
      · rename_i hsz
        simp only [] at hsz hl
        split at hl
        · rename_i es full
          cases hx with
          | fs _ _ _ a cap V g1 g2 g3 g4 g5 =>
            cases hc : cutB es.length lo hi' mx with
            | none => simp [hc] at hl
            | some q =>
              obtain ⟨l, hh, m⟩ := q
              simp only [hc] at hl
              split at hl
              case isFalse => simp at hl
              case isTrue hcl =>
              injection hl with hl; subst hl
              obtain ⟨q1, q2, q3, q4⟩ := cutB_ok (P := P) (isSl := true) Hlo.1 Hlo.2 Hhi.1 Hhi.2 Hmx.1 Hmx.2 g1 hc
              have hlen : ((es.take hh).drop l).length = hh - l := by simp; omega
              have hget : ∀ (i : Nat) (c : List AV), ((es.take hh).drop l)[i]? = some c → es[l + i]? = some c ∧ l + i < hh := fun i c hc => by
                rw [List.getElem?_drop, List.getElem?_take] at hc
                split at hc
                · exact ⟨hc, by assumption⟩
                · simp at hc
              have hm : hh ≤ (if m then hh else cap) := by split <;> omega
              have key : Rel μ S w h.length (.fs ((es.take hh).drop l) (m || (full && decide (hh = es.length) && decide (l < hh)))) (.slice (if (if m then hh else cap) = l then a else a.map (·.add (l * einfo.size))) ((es.take hh).drop l).length ((if m then hh else cap) - l)) := by
                refine .fs _ _ _ _ _ (fun i j => V (l + i) j) (by omega) (by split <;> omega) (fun hf => ?_) (fun i c j x hc hx => ?_) (fun i c j x hc hx => ?_)
                · simp only [Bool.or_eq_true, Bool.and_eq_true, decide_eq_true_eq] at hf
                  rcases hf with hf | ⟨⟨hf1, hf2⟩, hf3⟩
                  · simp [hf, hlen]
                  · have := g3 hf1
                    split <;> omega
                · obtain ⟨k1, k2⟩ := hget i c hc
                  obtain ⟨ad, rfl, k3⟩ := g4 _ c j x k1 hx
                  refine ⟨ad.add (l * einfo.size), ?_, ?_⟩
                  · rw [if_neg (by omega)]; rfl
                  · have : l * einfo.size + (i * c.length + j) = (l + i) * c.length + j := by
                      rcases hcl with hcl | hcl
                      · subst hcl; simp
                      · rw [← hcl c (List.mem_of_getElem? k1), Nat.add_mul]; omega
                    rw [Addr.add_add, this]; exact k3
                · exact g5 _ c j x (hget i c hc).1 hx
              rw [hlen] at key
              exact ⟨_, by simp only [Instr.sliceAt, Sem.run_bind, run_underlying h2, Result.andThen_ok, Instr.slice, q4, run_sizeOf h3, Sem.run_pure], key⟩
        · rename_i id off len full
          split at hl
          · rename_i e' sz' es' hid
            split at hl
            · simp at hl
            · rename_i hszq
              cases hx with
              | slnil _ _ _ a g1 g2 =>
                cases hc : cutB 0 lo hi' mx with
                | none =>
                  simp only [hc] at hl
                  unfold beyA at hl
                  split at hl
                  · rename_i hcj
                    injection hl with hl; subst hl
                    obtain ⟨l, hh, m, q5⟩ := cutJ_ok (P := P) (isSl := true) Hlo.1 Hlo.2 Hhi.1 Hmx.1 (Nat.le_refl 0) hcj
                    exact ⟨_, by simp only [Instr.sliceAt, Sem.run_bind, run_underlying h2, Result.andThen_ok, Instr.slice, q5, run_sizeOf h3, Sem.run_pure]; rfl, .junk _ _⟩
                  split at hl
                  · simp at hl
                  split at hl
                  · split at hl
                    · rename_i l hh m hcb
                      split at hl
                      · rename_i hlt
                        obtain ⟨_, _, ⟨_, q⟩ | ⟨_, _, _, q, _⟩⟩ := hi.blk id _ hid
                        · subst q
                          obtain ⟨q1, q2, q3, q4⟩ := cutB_ok (P := P) (isSl := true) Hlo.1 Hlo.2 Hhi.1 Hhi.2 Hmx.1 Hmx.2 (Nat.le_refl _) hcb
                          simp at q2; omega
                        · rw [g2] at q; cases q
                      · simp at hl
                    · simp at hl
                  · simp at hl
                | some q =>
                  obtain ⟨l, hh, m⟩ := q
                  simp only [hc] at hl
                  obtain ⟨q1, q2, q3, q4⟩ := cutB_ok (P := P) (isSl := true) Hlo.1 Hlo.2 Hhi.1 Hhi.2 Hmx.1 Hmx.2 (Nat.le_refl 0) hc
                  obtain rfl : hh = 0 := by omega
                  obtain rfl : l = 0 := by omega
                  refine ⟨.slice a 0 0, by simp [Instr.sliceAt, run_underlying h2, Instr.slice, q4, run_sizeOf h3], ?_⟩
                  simp at hl
                  split at hl
                  · injection hl with hl; subst hl; exact .slnil _ _ _ _ g1 g2
                  · split at hl <;> (injection hl with hl; subst hl; exact .slnil _ _ _ _ g1 g2)
              | sl _ _ _ _ _ b sz tot cap g1 g2 g3 g4 g5 g6 =>
                have hszz : sz = sz' := by
                  obtain ⟨_, _, ⟨⟨_, q, _⟩, _⟩ | ⟨_, _, _, q, _⟩⟩ := hi.blk id _ hid
                  · rw [g2] at q; cases q
                  · rw [g2] at q; cases q; rfl
                subst hszz
                simp only [ne_eq, Decidable.not_not] at hszq
                subst hszq
                cases hc : cutB len lo hi' mx with
                | none =>
                  simp only [hc] at hl
                  unfold beyA at hl
                  split at hl
                  · rename_i hcj
                    injection hl with hl; subst hl
                    obtain ⟨l, hh, m, q5⟩ := cutJ_ok (P := P) (isSl := true) Hlo.1 Hlo.2 Hhi.1 Hmx.1 g3 hcj
                    exact ⟨_, by simp only [Instr.sliceAt, Sem.run_bind, run_underlying h2, Result.andThen_ok, Instr.slice, q5, run_sizeOf h3, Sem.run_pure]; rfl, .junk _ _⟩
                  split at hl
                  · simp at hl
                  rename_i hff
                  split at hl
                  · rename_i xh
                    split at hl
                    · rename_i l hh m hcb
                      split at hl
                      · rename_i hlt
                        injection hl with hl; subst hl
                        obtain ⟨_, _, ⟨⟨_, q, _⟩, _⟩ | ⟨b', tot', cs, z1, z2, z3, z4, z5, _⟩⟩ := hi.blk id _ hid
                        · rw [g2] at q; cases q
                        rw [g2] at z1
                        cases z1
                        have g66 := g6 (by simpa using hff)
                        obtain ⟨q1, q2, q3, q4⟩ := cutB_ok (P := P) (isSl := true) (cap := cap) Hlo.1 Hlo.2 Hhi.1 Hhi.2 Hmx.1 Hmx.2 (by omega) hcb
                        have hmf : m = false := by
                          cases m with
                          | false => rfl
                          | true => exact absurd rfl (q3.1 rfl)
                        subst hmf
                        obtain ⟨v, hv, _⟩ := Hhi.1 _ rfl
                        have hvm := Hmx.2 rfl
                        subst hv; subst hvm
                        have q5 : (Instr.sliceBounds true len cap vlo (some v) none).run P w = .ok (l, hh, cap) w := q4
                        have hrun : (Instr.sliceAt t (.slice (some ⟨b, off * einfo.size, none⟩) len cap) vlo (some v) none).run P w = .ok (.slice (if cap = l then some ⟨b, off * einfo.size, none⟩ else some ((⟨b, off * einfo.size, none⟩ : Addr).add (l * einfo.size))) (hh - l) (cap - l)) w := by
                          simp only [Instr.sliceAt, Sem.run_bind, run_underlying h2, Result.andThen_ok, Instr.slice, q5, run_sizeOf h3, Sem.run_pure]; rfl
                        refine ⟨_, hrun, ?_⟩
                        rw [if_neg (by omega), addr_add, ← Nat.add_mul]
                        exact .sl _ _ _ _ _ b _ tot _ g1 g2 (by omega) (by omega) (by simp) (fun _ => by omega)
                      · simp at hl
                    · simp at hl
                  · simp at hl
                | some q =>
                  obtain ⟨l, hh, m⟩ := q
                  simp only [hc] at hl
                  obtain ⟨q1, q2, q3, q4⟩ := cutB_ok (P := P) (isSl := true) Hlo.1 Hlo.2 Hhi.1 Hhi.2 Hmx.1 Hmx.2 g3 hc
                  have hm : hh ≤ (if m then hh else cap) := by split <;> omega
                  have hrun : (Instr.sliceAt t (.slice (some ⟨b, off * einfo.size, none⟩) len cap) vlo vhi vmx).run P w = .ok (.slice (if (if m then hh else cap) = l then some ⟨b, off * einfo.size, none⟩ else some ((⟨b, off * einfo.size, none⟩ : Addr).add (l * einfo.size))) (hh - l) ((if m then hh else cap) - l)) w := by
                    simp only [Instr.sliceAt, Sem.run_bind, run_underlying h2, Result.andThen_ok, Instr.slice, q4, run_sizeOf h3, Sem.run_pure]; rfl
                  refine ⟨_, hrun, ?_⟩
                  split at hl
                  · rename_i h0
                    injection hl with hl; subst hl
                    obtain ⟨rfl, h0⟩ := h0
                    rw [Nat.sub_self]
                    exact .fs _ [] m _ _ (fun _ _ => undef) (Nat.zero_le _) (by split <;> omega) (fun hf => by simp [hf]) (by simp) (by simp)
                  · rename_i h0
                    have hadr : (if (if m then hh else cap) = l then some (⟨b, off * einfo.size, none⟩ : Addr) else some ((⟨b, off * einfo.size, none⟩ : Addr).add (l * einfo.size))) = some ⟨b, (off + l) * einfo.size, none⟩ := by
                      by_cases hl0 : l = 0
                      · subst hl0; simp [Addr.add]
                      · rw [if_neg (by have : l ≠ hh := fun e => h0 ⟨e, hl0⟩; omega), addr_add, Nat.add_mul]
                    rw [hadr]
                    split at hl
                    · rename_i hmt
                      injection hl with hl; subst hl
                      simp only [hmt, if_true]
                      exact .sl _ _ _ _ _ b _ tot _ g1 g2 (Nat.le_refl _) (by omega) (fun _ => rfl) (by simp)
                    · rename_i hmt
                      simp only [hmt]
                      split at hl
                      · rename_i hf
                        split at hl
                        · rename_i hhl
                          injection hl with hl; subst hl
                          have := g5 hf
                          exact .sl _ _ _ _ _ b _ tot _ g1 g2 (by simp; omega) (by simp; omega) (fun _ => by simp; omega) (by simp)
                        · simp at hl
                      · rename_i hf
                        injection hl with hl; subst hl
                        have := g6 (by simpa using hf)
                        exact .sl _ _ _ _ _ b _ tot _ g1 g2 (by simp; omega) (by simp; omega) (by simp) (fun _ => by simp; omega)
          · simp at hl
        · simp at hl
  · simp at hl
end Go.Abs
end
section
namespace Go.Abs
variable [Tabs]
variable {P : Program}
theorem cells?_ok {n : Nat} {μ : Nat → G} {S : Nat → Nat → Prop} {w : World} {x : AV} {v : Value} {cs : List AV} (hx : Rel μ S w n x v) (h : x.cells? = some cs) :
    Rels μ S w n cs v.cells.toList ∧ ∀ u ∈ v.cells.toList, u.oneCell' = true := by
  have one : ∀ {x : AV} {v : Value}, Rel μ S w n x v → v.cells = #[v] → v.oneCell' = true → Rels μ S w n [x] v.cells.toList ∧ ∀ u ∈ v.cells.toList, u.oneCell' = true := by
    intro x v hr hc ho
    rw [hc]
    refine ⟨⟨rfl, fun j y u a b => ?_⟩, by simpa using ho⟩
    cases j with
    | zero => simp at a b; subst a b; exact hr
    | succ j => simp at a
  cases hx with
  | junk => simp [AV.cells?] at h
  | tup => simp [AV.cells?] at h
  | agg _ cs' vs h1 h2 h3 => simp [AV.cells?] at h; subst h; exact ⟨⟨by simpa [Value.cells] using h1, by simpa [Value.cells] using h2⟩, by simpa [Value.cells] using h3⟩
  | v _ _ hp => simp [AV.cells?] at h; subst h; exact one (.v _ _ hp) (by cases v <;> simp_all [plainV, Value.cells]) (by cases v <;> simp_all [plainV, Value.oneCell'])
  | fs _ es full a cap V g1 g2 g3 g4 g5 => simp [AV.cells?] at h; subst h; exact one (.fs _ es full a cap V g1 g2 g3 g4 g5) rfl rfl
  | fp _ cs' a V g4 g5 => simp [AV.cells?] at h; subst h; exact one (.fp _ cs' a V g4 g5) rfl rfl
  | sl _ id off len full b sz tot cap g1 g2 g3 g4 g5 g6 => simp [AV.cells?] at h; subst h; exact one (.sl _ id off len full b sz tot cap g1 g2 g3 g4 g5 g6) rfl rfl
  | slnil _ id full a g1 g2 => simp [AV.cells?] at h; subst h; exact one (.slnil _ id full a g1 g2) rfl rfl
  | ptr _ id off b sz tot g1 g2 => simp [AV.cells?] at h; subst h; exact one (.ptr _ id off b sz tot g1 g2) rfl rfl
  | eptr _ id i o b sz tot g1 g2 => simp [AV.cells?] at h; subst h; exact one (.eptr _ id i o b sz tot g1 g2) rfl rfl
  | fn _ f caps vs g1 g2 => simp [AV.cells?] at h; subst h; exact one (.fn _ f caps vs g1 g2) rfl rfl
  | ifc _ t x v g1 => simp [AV.cells?] at h; subst h; exact one (.ifc _ t x v g1) rfl rfl
theorem normC_ok {n : Nat} {μ : Nat → G} {S : Nat → Nat → Prop} {w : World} {x : AV} {v : Value} (hx : Rel μ S w n x v) : Rel μ S w n (normC x) v := by
  cases hx with
  | fs _ es full a cap V g1 g2 g3 g4 g5 => exact .fs _ es false a cap V g1 g2 (by simp) g4 g5
  | junk => exact .junk _ _
  | v _ _ hp => exact .v _ _ hp
  | fp _ cs' a V g4 g5 => exact .fp _ cs' a V g4 g5
  | sl _ id off len full b sz tot cap g1 g2 g3 g4 g5 g6 => exact .sl _ id off len full b sz tot cap g1 g2 g3 g4 g5 g6
  | slnil _ id full a g1 g2 => exact .slnil _ id full a g1 g2
  | ptr _ id off b sz tot g1 g2 => exact .ptr _ id off b sz tot g1 g2
  | eptr _ id i o b sz tot g1 g2 => exact .eptr _ id i o b sz tot g1 g2
  | fn _ f caps vs g1 g2 => exact .fn _ f caps vs g1 g2
  | ifc _ t x v g1 => exact .ifc _ t x v g1
  | agg _ cs vs g1 g2 g3 => exact .agg _ cs vs g1 g2 g3
  | tup _ cs vs g1 g2 => exact .tup _ cs vs g1 g2
theorem Rels.map_normC {n : Nat} {μ : Nat → G} {S : Nat → Nat → Prop} {w : World} {xs : List AV} {vs : List Value} (h : Rels μ S w n xs vs) : Rels μ S w n (xs.map normC) vs := by
  refine ⟨by simp [h.1], fun j x v a b => ?_⟩
  simp only [List.getElem?_map, Option.map_eq_some_iff] at a
  obtain ⟨y, hy, rfl⟩ := a
  exact normC_ok (h.2 j y v hy b)
theorem splice_length {cs new : List AV} {off : Nat} (h : off + new.length ≤ cs.length) : (splice cs off new).length = cs.length := by
  simp [splice]; omega
def spliceV (cs : List Value) (off : Nat) (new : List Value) : List Value := cs.take off ++ new ++ cs.drop (off + new.length)
theorem Rels.splice {n : Nat} {μ : Nat → G} {S : Nat → Nat → Prop} {w : World} {cs new : List AV} {vs us : List Value} {off : Nat} (h : Rels μ S w n cs vs) (hn : Rels μ S w n new us) (hle : off + new.length ≤ cs.length) :
    Rels μ S w n (splice cs off new) (spliceV vs off us) := by
  obtain ⟨h1, h2⟩ := h
  obtain ⟨n1, n2⟩ := hn
  refine ⟨by simp [Abs.splice, spliceV]; omega, fun j x v a b => ?_⟩
  simp only [Abs.splice, spliceV, List.append_assoc, List.getElem?_append, List.length_take, List.getElem?_take, List.getElem?_drop, Nat.min_eq_left (show off ≤ cs.length by omega), Nat.min_eq_left (show off ≤ vs.length by omega), ← n1] at a b
  split at a
  · rename_i q
    simp only [q, if_true] at a b
    exact h2 _ _ _ a b
  · rename_i q
    rw [if_neg q] at b
    split at a
    · rename_i q2
      rw [if_pos q2] at b
      exact n2 _ _ _ a b
    · rename_i q2
      rw [if_neg q2] at b
      exact h2 _ _ _ a b
theorem foldl_splice : ∀ (us : List Value) (k : Nat) (off : Nat) (cs : Array Value), off + k + us.length ≤ cs.size →
    (us.zipIdx k).foldl (fun cs (c, j) => cs.setIfInBounds (off + j) c) cs = (spliceV cs.toList (off + k) us).toArray
  | [], k, off, cs, _ => by simp [spliceV]
  | u :: us, k, off, cs, h => by
    simp only [List.zipIdx_cons, List.foldl_cons]
    rw [foldl_splice us (k + 1) off _ (by simp at h ⊢; omega)]
    congr 1
    have e := list_seg_step cs.toList (off + k) u us (by simp at h ⊢; omega)
    simp only [spliceV, Array.toList_setIfInBounds, List.length_cons]
    rw [show off + (k + 1) = off + k + 1 by omega]
    exact e
theorem fillA_ok {n : Nat} {μ : Nat → G} {S : Nat → Nat → Prop} {w : World} {place : Nat → Option (Nat × Nat)} : ∀ {parts : List (Nat × AV)} {pv : List (Nat × Value)} {cells cs : List AV} {vs : Array Value},
    parts.length = pv.length → (∀ (j : Nat) (p : Nat × AV) (q : Nat × Value), parts[j]? = some p → pv[j]? = some q → p.1 = q.1 ∧ Rel μ S w n p.2 q.2) → Rels μ S w n cells vs.toList → (∀ u ∈ vs.toList, u.oneCell' = true) → fillA place cells parts = some cs →
    ∃ us, Instr.fill place vs pv = some us ∧ Rels μ S w n cs us.toList ∧ ∀ u ∈ us.toList, u.oneCell' = true
  | [], pv, cells, cs, vs, hl, hp, hc, ho, hf => by
    cases pv with
    | nil => simp [fillA] at hf; subst hf; exact ⟨vs, rfl, hc, ho⟩
    | cons q pv => simp at hl
  | (i, x) :: parts, pv, cells, cs, vs, hl, hp, hc, ho, hf => by
    cases pv with
    | nil => simp at hl
    | cons q pv =>
      obtain ⟨i', v⟩ := q
      obtain ⟨e1, hr⟩ := hp 0 (i, x) (i', v) (by simp) (by simp)
      simp only [] at e1; subst e1
      simp only [fillA] at hf
      split at hf
      · rename_i off size new hpl hcl
        split at hf
        · rename_i hcond
          obtain ⟨k1, k2⟩ := cells?_ok hr hcl
          have hsz : v.cells.size = size := by rw [← hcond.1, k1.1]; simp
          have hcs := hc.1
          simp only [Array.length_toList] at hcs
          have hfold : v.cells.zipIdx.foldl (fun cs (c, j) => cs.setIfInBounds (off + j) c) vs = (spliceV vs.toList off v.cells.toList).toArray := by
            have := foldl_splice v.cells.toList 0 off vs (by simp; omega)
            simp only [Nat.add_zero] at this
            rw [← this, ← Array.foldl_toList]
            simp
          have hc' := hc.splice (off := off) k1 (by omega)
          obtain ⟨us, q1, q2, q3⟩ := fillA_ok (vs := (spliceV vs.toList off v.cells.toList).toArray) (by simpa using hl) (fun j p q a b => hp (j + 1) p q (by simpa using a) (by simpa using b)) (by simpa using hc')
            (fun u hu => by
              simp only [spliceV, List.append_assoc, List.mem_append] at hu
              rcases hu with hu | hu | hu
              · exact ho u (List.mem_of_mem_take hu)
              · exact k2 u hu
              · exact ho u (List.mem_of_mem_drop hu)) hf
          refine ⟨us, ?_, q2, q3⟩
          simp only [Instr.fill, hpl]
          rw [if_neg (by simp [hsz]; omega), hfold]
          exact q1
        · simp at hf
      · simp at hf
theorem zeroA_ok {n : Nat} {μ : Nat → G} {S : Nat → Nat → Prop} {w : World} {t : TypeId} {z : List AV} (h : zeroA P t = some z) : ∃ v, (zeroValue t).run P w = .ok v w ∧ (P.info? t).bind (·.zero) = some v ∧ Rels μ S w n z v.cells.toList ∧ ∀ u ∈ v.cells.toList, u.oneCell' = true := by
  unfold zeroA at h
  split at h
  · rename_i d sz by0 v hty
    obtain ⟨info, dd, h1, h2, _, _, _, h3⟩ := tyOf_info hty
    obtain ⟨k1, k2⟩ := cells?_ok (ofValue_ok (μ := μ) (S := S) (w := w) (n := n) v) h
    exact ⟨v, by simp [zeroValue, typeInfo, h1, h3], by simp [h1, h3], k1, k2⟩
  · simp at h
theorem ofCell_nil {v : Value} (h : ofCell v = .fs [] true) : v = .slice none 0 0 := by
  unfold ofCell at h
  split at h <;> first | rfl | cases h
theorem zeroA_none {P : Program} {t : TypeId} {z : List AV} (h : zeroA P t = some z) {v : Value} (hv : (P.info? t).bind (·.zero) = some v) : ∀ (j : Nat) u, z[j]? = some (.fs [] true) → v.cells.toList[j]? = some u → u = .slice none 0 0 := by
  unfold zeroA at h
  split at h
  · rename_i d sz by0 v' hty
    obtain ⟨info, dd, h1, h2, _, _, _, h3⟩ := tyOf_info hty
    have : v' = v := by simpa [h1, h3] using hv
    subst this
    intro j u e1 e2
    unfold ofValue at h
    split at h
    · rename_i cs
      split at h
      · simp only [AV.cells?, Option.some.injEq] at h
        subst h
        have e3 : cs.toList[j]? = some u := by simpa [Value.cells] using e2
        rw [List.getElem?_map, e3] at e1
        simp only [Option.map_some, Option.some.injEq] at e1
        exact ofCell_nil e1
      · simp [AV.cells?] at h
    · first | (cases h; done) | (simp only [AV.cells?, Option.some.injEq] at h; subst h; cases j <;> simp at e1)
    · unfold ofCell at h
      split at h <;> simp only [AV.cells?, Option.some.injEq, reduceCtorEq] at h <;> subst h <;> cases j <;> simp at e1
      simpa [Value.cells] using e2.symm
  · simp at h
theorem run_places (w : World) : ∀ {fs : List Field} {pl : List (Nat × Nat)}, placesOf P (fs.map fun f => (f.offset, f.type)) = some pl →
    (fs.mapM (m := Sem) fun f => do pure (f.offset, ← sizeOf f.type)).run P w = .ok pl w
  | [], pl, h => by simp [placesOf] at h; subst h; rfl
  | f :: fs, pl, h => by
    simp only [List.map_cons, placesOf] at h
    split at h
    · rename_i i l hty hl
      simp at h; subst h
      obtain ⟨info, d, h1, h2, rfl⟩ := tyOf_spec hty
      have ih := run_places w hl
      simp only [List.mapM_cons, Sem.run_bind, run_sizeOf h1, Result.andThen_ok, Sem.run_pure, ih]
    · simp at h
theorem nilK_ok {n : Nat} {μ : Nat → G} {S : Nat → Nat → Prop} {w : World} {z : List AV} {v : Value} (h : Rels μ S w n z v.cells.toList) (hz : ∀ (j : Nat) u, z[j]? = some (.fs [] true) → v.cells.toList[j]? = some u → u = .slice none 0 0) : Rels μ S w n (z.map nilK) v.cells.toList := by
  refine ⟨by simp [h.1], fun j x u a b => ?_⟩
  rw [List.getElem?_map, Option.map_eq_some_iff] at a
  obtain ⟨y, hy, rfl⟩ := a
  unfold nilK
  split
  · rw [hz j u hy b]; exact .v _ _ rfl
  · exact h.2 j _ u hy b
theorem buildN_ok {n : Nat} {μ : Nat → G} {S : Nat → Nat → Prop} {w : World} {t : TypeId} {parts : List (Nat × AV)} {pv : Array (Nat × Value)} {y : AV} (hl : parts.length = pv.toList.length)
    (hp : ∀ (j : Nat) (p : Nat × AV) (q : Nat × Value), parts[j]? = some p → pv.toList[j]? = some q → p.1 = q.1 ∧ Rel μ S w n p.2 q.2) (h : buildN P t parts = some y) :
    ∃ u, (Instr.build t pv).run P w = .ok u w ∧ Rel μ S w n y u := by
  unfold buildN at h
  split at h
  · rename_i fs sz by0 z0 z hty hz
    obtain ⟨info, d, h1, h2, heq, _⟩ := tyOf_info hty
    obtain ⟨fa, rfl⟩ : ∃ fa, d = .struct fa := by cases d <;> simp [tdOf] at heq; exact ⟨_, rfl⟩
    simp [tdOf] at heq; subst heq
    obtain ⟨v, z1, z2, z3, z4⟩ := zeroA_ok (n := n) (μ := μ) (S := S) (w := w) hz
    split at h
    · rename_i pl hpl
      simp only [Option.map_eq_some_iff] at h
      obtain ⟨cs, hcs, rfl⟩ := h
      obtain ⟨us, q1, q2, q3⟩ := fillA_ok (vs := v.cells) hl hp (nilK_ok z3 (zeroA_none hz z2)) z4 hcs
      have hm : (fa.mapM (m := Sem) fun f => do pure (f.offset, ← sizeOf f.type)).run P w = .ok pl.toArray w := by
        rw [Array.mapM_eq_mapM_toList, Sem.run_map, run_places w hpl]; rfl
      refine ⟨.agg us, ?_, ?_⟩
      · have q1' : Instr.fill (fun i => pl.toArray[i]?) v.cells pv.toList = some us := by simpa using q1
        simp only [Instr.build, Sem.run_bind, z1, Result.andThen_ok, run_underlying h2, hm, q1', Sem.run_pure]
      · have := Rel.agg (μ := μ) (S := S) (w := w) n cs us.toList q2.1 q2.2 q3
        simpa using this
    · simp at h
  · simp at h
theorem buildA_ok {n : Nat} {μ : Nat → G} {S : Nat → Nat → Prop} {w : World} {t : TypeId} {parts : List (Nat × AV)} {pv : Array (Nat × Value)} {y : AV} (hl : parts.length = pv.toList.length)
    (hp : ∀ (j : Nat) (p : Nat × AV) (q : Nat × Value), parts[j]? = some p → pv.toList[j]? = some q → p.1 = q.1 ∧ Rel μ S w n p.2 q.2) (h : buildA P t parts = some y) :
    ∃ u, (Instr.build t pv).run P w = .ok u w ∧ Rel μ S w n y u := by
  unfold buildA at h
  split at h
  · rename_i fs sz by0 z0 z hty hz
    obtain ⟨info, d, h1, h2, heq, _⟩ := tyOf_info hty
    obtain ⟨fa, rfl⟩ : ∃ fa, d = .struct fa := by cases d <;> simp [tdOf] at heq; exact ⟨_, rfl⟩
    simp [tdOf] at heq; subst heq
    obtain ⟨v, z1, z2, z3, z4⟩ := zeroA_ok (n := n) (μ := μ) (S := S) (w := w) hz
    split at h
    · rename_i pl hpl
      simp only [Option.map_eq_some_iff] at h
      obtain ⟨cs, hcs, rfl⟩ := h
      obtain ⟨us, q1, q2, q3⟩ := fillA_ok (vs := v.cells) hl hp z3 z4 hcs
      have hm : (fa.mapM (m := Sem) fun f => do pure (f.offset, ← sizeOf f.type)).run P w = .ok pl.toArray w := by
        rw [Array.mapM_eq_mapM_toList, Sem.run_map, run_places w hpl]; rfl
      refine ⟨.agg us, ?_, ?_⟩
      · have q1' : Instr.fill (fun i => pl.toArray[i]?) v.cells pv.toList = some us := by simpa using q1
        simp only [Instr.build, Sem.run_bind, z1, Result.andThen_ok, run_underlying h2, hm, q1', Sem.run_pure]
      · have := Rel.agg (μ := μ) (S := S) (w := w) n cs us.toList q2.1 q2.2 q3
        simpa using this
    · simp at h
  · rename_i m e sz by0 z0 z hty hz
    obtain ⟨info, d, h1, h2, heq, _⟩ := tyOf_info hty
    obtain ⟨rfl⟩ : d = .array m e := by cases d <;> simp [tdOf] at heq; simp [heq]
    obtain ⟨v, z1, z2, z3, z4⟩ := zeroA_ok (n := n) (μ := μ) (S := S) (w := w) hz
    split at h
    · rename_i ie hte
      obtain ⟨einfo, ed, h3, h4, rfl⟩ := tyOf_spec hte
      simp only [Option.map_eq_some_iff] at h
      obtain ⟨cs, hcs, rfl⟩ := h
      obtain ⟨us, q1, q2, q3⟩ := fillA_ok (vs := v.cells) hl hp z3 z4 hcs
      refine ⟨.agg us, ?_, ?_⟩
      · simp only [Instr.build, Sem.run_bind, z1, Result.andThen_ok, run_underlying h2, run_sizeOf h3, q1, Sem.run_pure]
      · have := Rel.agg (μ := μ) (S := S) (w := w) n cs us.toList q2.1 q2.2 q3
        simpa using this
    · simp at h
  · simp at h
theorem bldA_ok {X : X} {n : Nat} {μ : Nat → G} {S : Nat → Nat → Prop} {w : World} {t : TypeId} {parts : List (Nat × AV)} {pv : Array (Nat × Value)} {y : AV} (hl : parts.length = pv.toList.length)
    (hp : ∀ (j : Nat) (p : Nat × AV) (q : Nat × Value), parts[j]? = some p → pv.toList[j]? = some q → p.1 = q.1 ∧ Rel μ S w n p.2 q.2) (h : bldA X t parts = some y) :
    ∃ u, (Instr.build t pv).run X.P w = .ok u w ∧ Rel μ S w n y u := by
  unfold bldA at h
  split at h
  · exact buildN_ok hl hp h
  · exact buildA_ok hl hp h
theorem ifcA_ok {n : Nat} {μ : Nat → G} {S : Nat → Nat → Prop} {w : World} {t : TypeId} {x y : AV} {v : Value} (hx : Rel μ S w n x v) (h : ifcA P t x = some y) :
    ∃ u, (Instr.makeInterface t v).run P w = .ok u w ∧ Rel μ S w n y u := by
  unfold ifcA at h
  split at h
  · rename_i e sz0 by0 z0 hty
    obtain ⟨info, d, h1, h2, heq⟩ := tyOf_spec hty
    obtain ⟨rfl⟩ : d = .pointer e := by cases d <;> simp [tdOf] at heq; simp [heq]
    split at h
    · cases h
      exact ⟨.iface t v, by simp [Instr.makeInterface, run_underlying h2], .ifc _ _ _ _ hx⟩
    · cases h
  · cases h
end Go.Abs
end
section
namespace Go.Abs
variable [Tabs]
variable {P : Program}
theorem eqGuard_ok {op : BinOp} {t : TypeId} {x y : Operand} {a b : Value} {w : World} (h1 : a ≠ .nilIface) (h2 : ∀ cs, a ≠ .agg cs) : (eqGuard op t x y a b).run P w = .ok () w := by
  unfold eqGuard
  cases op <;> first
    | rfl
    | (cases a <;> first | rfl | exact absurd rfl h1 | exact absurd rfl (h2 _))
theorem binS_ok {op : BinOp} {t : TypeId} {x y v : Value} {w : World} (h : binS op t x y = some v) : (Go.binOp op t x y).run P w = .ok v w ∧ plainV v = true := by
  unfold binS at h
  split at h
  · rename_i u hu; simp at h; obtain ⟨hp, rfl⟩ := h; rw [hu]; exact ⟨rfl, hp⟩
  · simp at h
theorem unS_ok {op : UnOp} {x v : Value} {w : World} (h : unS op x = some v) : (Op.unary op x).run P w = .ok v w ∧ plainV v = true := by
  unfold unS at h
  split at h
  · rename_i u hu; simp at h; obtain ⟨hp, rfl⟩ := h; rw [hu]; exact ⟨rfl, hp⟩
  · simp at h
theorem isAddr_ok {n : Nat} {μ : Nat → G} {S : Nat → Nat → Prop} {w : World} {x : AV} {v : Value} (hx : Rel μ S w n x v) (h : isAddr x = true) : ∃ a, v = .pointer (some a) := by
  cases hx <;> simp [isAddr] at h
  · exact ⟨_, rfl⟩
  · exact ⟨_, rfl⟩
  · exact ⟨_, rfl⟩
theorem equalIn_bool (d : Nat) {t : TypeId} (w : World) (a b : Bool) (h : P.underlying t = some .bool) : (Op.equalIn (d + 1) t (.bool a) (.bool b)).run P w = .ok (a == b) w := by
  simp [Op.equalIn, run_underlying h]
theorem equalIn_nn (d : Nat) {t e : TypeId} (w : World) (h : P.underlying t = some (.pointer e)) : (Op.equalIn (d + 1) t (.pointer none) (.pointer none)).run P w = .ok true w := by
  simp [Op.equalIn, run_underlying h]
theorem equalIn_na (d : Nat) {t e : TypeId} (w : World) (b : Addr) (h : P.underlying t = some (.pointer e)) : (Op.equalIn (d + 1) t (.pointer none) (.pointer (some b))).run P w = .ok false w := by
  simp [Op.equalIn, run_underlying h]
theorem equalIn_an (d : Nat) {t e : TypeId} (w : World) (b : Addr) (h : P.underlying t = some (.pointer e)) : (Op.equalIn (d + 1) t (.pointer (some b)) (.pointer none)).run P w = .ok false w := by
  simp [Op.equalIn, run_underlying h]
theorem equalIn_snn (d : Nat) {t e : TypeId} (w : World) (h : P.underlying t = some (.slice e)) : (Op.equalIn (d + 1) t (.slice none 0 0) (.slice none 0 0)).run P w = .ok true w := by
  simp [Op.equalIn, run_underlying h]
theorem equalIn_san (d : Nat) {t e : TypeId} (w : World) (b : Addr) (n c : Nat) (h : P.underlying t = some (.slice e)) : (Op.equalIn (d + 1) t (.slice (some b) n c) (.slice none 0 0)).run P w = .ok false w := by
  simp [Op.equalIn, run_underlying h]
theorem rel_some {n : Nat} {μ : Nat → G} {S : Nat → Nat → Prop} {w : World} {x : AV} {c : List AV} {es : List (List AV)} {full : Bool} {v : Value} (h : Rel μ S w n (.fs ((x :: c) :: es) full) v) : ∃ ad n c, v = .slice (some ad) n c := by
  cases h with
  | fs _ _ _ a cap V g1 g2 g3 g4 g5 =>
    obtain ⟨ad, rfl, _⟩ := g4 0 _ 0 x rfl rfl
    exact ⟨ad, _, _, rfl⟩
theorem eqA_ok {n : Nat} {μ : Nat → G} {S : Nat → Nat → Prop} {w : World} {t : TypeId} {i : TI} {x y : AV} {a b : Value} {r : Bool} (hty : tyOf P t = some i) (hx : Rel μ S w n x a) (hy : Rel μ S w n y b) (h : eqA i.d x y = some r) :
    (Op.equal t a b).run P w = .ok r w ∧ a ≠ .nilIface ∧ ∀ cs, a ≠ .agg cs := by
  obtain ⟨info, d, h1, h2, rfl⟩ := tyOf_spec hty
  simp only [] at h
  unfold eqA at h
  split at h
  · have e1 := hx.int; have e2 := hy.int; subst e1 e2
    split at h
    · rename_i hd
      obtain ⟨rfl⟩ : d = .bool := by cases d <;> simp [tdOf] at hd; rfl
      simp at h; subst h
      exact ⟨equalIn_bool 9999 w _ _ h2, by simp, by simp⟩
    · simp at h
  · have e1 := hx.int; have e2 := hy.int; subst e1 e2
    split at h
    · rename_i e hd
      obtain ⟨rfl⟩ : d = .pointer e := by cases d <;> simp [tdOf] at hd; simp [hd]
      simp at h; subst h
      exact ⟨equalIn_nn 9999 w h2, by simp, by simp⟩
    · simp at h
  · have e1 := hx.int; subst e1
    split at h
    · rename_i e hd
      obtain ⟨rfl⟩ : d = .pointer e := by cases d <;> simp [tdOf] at hd; simp [hd]
      split at h
      · rename_i ha
        simp at h; subst h
        obtain ⟨ad, rfl⟩ := isAddr_ok hy ha
        exact ⟨equalIn_na 9999 w _ h2, by simp, by simp⟩
      · simp at h
    · simp at h
  · have e1 := hy.int; subst e1
    split at h
    · rename_i e hd
      obtain ⟨rfl⟩ : d = .pointer e := by cases d <;> simp [tdOf] at hd; simp [hd]
      split at h
      · rename_i ha
        simp at h; subst h
        obtain ⟨ad, rfl⟩ := isAddr_ok hx ha
        exact ⟨equalIn_an 9999 w _ h2, by simp, by simp⟩
      · simp at h
    · simp at h
  · have e1 := hx.int; have e2 := hy.int; subst e1 e2
    split at h
    · rename_i e hd
      obtain ⟨rfl⟩ : d = .slice e := by cases d <;> simp [tdOf] at hd; simp [hd]
      simp at h; subst h
      exact ⟨equalIn_snn 9999 w h2, by simp, by simp⟩
    · simp at h
  · have e2 := hy.int; subst e2
    obtain ⟨ad, p, q, rfl⟩ := rel_some hx
    split at h
    · rename_i e hd
      obtain ⟨rfl⟩ : d = .slice e := by cases d <;> simp [tdOf] at hd; simp [hd]
      simp at h; subst h
      exact ⟨equalIn_san 9999 w ad _ _ h2, by simp, by simp⟩
    · simp at h
  · simp at h
theorem rel_str2 {n : Nat} {μ : Nat → G} {S : Nat → Nat → Prop} {w : World} {a b : ByteArray} {v : Value} (h : Rel μ S w n (.agg [.v (.string a), .v (.string b)]) v) : v = .agg #[.string a, .string b] := by
  cases h with
  | agg _ cs vs h1 h2 h3 =>
    match vs, h1 with
    | [x, y], _ =>
      have e1 := (h2 0 (.v (.string a)) x rfl rfl).int
      have e2 := (h2 1 (.v (.string b)) y rfl rfl).int
      subst e1 e2
      rfl
theorem equalIn_str (d : Nat) {t : TypeId} (w : World) (a b : ByteArray) (h : P.underlying t = some .string) : (Op.equalIn (d + 1) t (.string a) (.string b)).run P w = .ok (a == b) w := by
  simp [Op.equalIn, run_underlying h]
theorem equalIn_str2 (k : Nat) {t : TypeId} (w : World) (a b c d : ByteArray) (f g : Field) (hu : P.underlying t = some (.struct #[f, g])) (h7 : P.stoodInHeld t = false) (h1 : ¬ f.name = "_") (h2 : ¬ g.name = "_") (u1 : P.underlying f.type = some .string) (u2 : P.underlying g.type = some .string)
    (p1 : ∀ x y : Value, (part f.type #[x, y] f.offset).run P w = .ok x w) (p2 : ∀ x y : Value, (part g.type #[x, y] g.offset).run P w = .ok y w) : (Op.equalIn (k + 1 + 1) t (.agg #[.string a, .string b]) (.agg #[.string c, .string d])).run P w = .ok (a == c && b == d) w := by
  have e1 := fun a c : ByteArray => equalIn_str (P := P) k w a c u1
  have e2 := fun a c : ByteArray => equalIn_str (P := P) k w a c u2
  rw [Op.equalIn]
  generalize Op.equalIn (k + 1) = Q at *
  simp [run_underlying hu, h7, h1, h2, e1, e2, p1, p2]
  cases a == c <;> cases b == d <;> simp [h2, e2, p2]
theorem equal_str2 {t : TypeId} (w : World) (a b c d : ByteArray) (h : str2 P t = true) : (Op.equal t (.agg #[.string a, .string b]) (.agg #[.string c, .string d])).run P w = .ok (a == c && b == d) w := by
  unfold str2 at h
  split at h
  · rename_i fs hu
    split at h
    · rename_i f g hl
      simp only [Bool.and_eq_true, bne_iff_ne, ne_eq, beq_iff_eq, Bool.not_eq_true'] at h
      obtain ⟨⟨⟨⟨⟨⟨⟨h1, h2⟩, h3⟩, h4⟩, h5⟩, h6⟩, h7⟩, h8⟩ := h
      have u1 : P.underlying f.type = some .string := by revert h5; cases hq : P.underlying f.type with | none => simp | some q => cases q <;> simp
      have u2 : P.underlying g.type = some .string := by revert h6; cases hq : P.underlying g.type with | none => simp | some q => cases q <;> simp
      obtain rfl : fs = #[f, g] := Array.ext' hl
      have p1 : ∀ x y : Value, (part f.type #[x, y] f.offset).run P w = .ok x w := fun x y => by simp [part, isAgg, run_underlying u1, h3]
      have p2 : ∀ x y : Value, (part g.type #[x, y] g.offset).run P w = .ok y w := fun x y => by simp [part, isAgg, run_underlying u2, h4]
      exact equalIn_str2 9998 w a b c d f g hu h7 h1 h2 u1 u2 p1 p2
    · simp at h
  · simp at h
theorem str2_guard {t : TypeId} (h : str2 P t = true) : P.eqGuardType P.depth t = false := by
  unfold str2 at h
  split at h
  · split at h
    · simp only [Bool.and_eq_true, Bool.not_eq_true'] at h; exact h.2
    · simp at h
  · simp at h
theorem binA_ok {n : Nat} {μ : Nat → G} {S : Nat → Nat → Prop} {w : World} {op : BinOp} {t : TypeId} {ox oy : Operand} {x y r : AV} {a b : Value} (hx : Rel μ S w n x a) (hy : Rel μ S w n y b) (h : binA P op t x y = some r) :
    ∃ u, (do eqGuard op t ox oy a b; Go.binOp op t a b : Sem Value).run P w = .ok u w ∧ Rel μ S w n r u := by
  unfold binA at h
  split at h
  · have e1 := hx.int; have e2 := hy.int; subst e1 e2
    simp only [Option.map_eq_some_iff] at h
    obtain ⟨v, hv, rfl⟩ := h
    exact ⟨v, by rw [Sem.run_bind, eqGuard_ok (by simp) (by simp)]; exact (binS_ok (P := P) (w := w) hv).1, .v _ _ (binS_ok (P := P) (w := w) hv).2⟩
  · have e1 := hx.int; have e2 := hy.int; subst e1 e2
    simp only [Option.map_eq_some_iff] at h
    obtain ⟨v, hv, rfl⟩ := h
    exact ⟨v, by rw [Sem.run_bind, eqGuard_ok (by simp) (by simp)]; exact (binS_ok (P := P) (w := w) hv).1, .v _ _ (binS_ok (P := P) (w := w) hv).2⟩
  · have e1 := rel_str2 hx; have e2 := rel_str2 hy; subst e1 e2
    split at h
    · rename_i hs
      have hg := str2_guard hs
      split at h
      · simp at h; subst h
        exact ⟨_, by simp [eqGuard, hg, Go.binOp, equal_str2 w _ _ _ _ hs], .v _ _ rfl⟩
      · simp at h; subst h
        exact ⟨_, by simp [eqGuard, hg, Go.binOp, equal_str2 w _ _ _ _ hs], .v _ _ rfl⟩
      · simp at h
    · simp at h
  · have gen : ∀ (i : TI) (q : Bool), tyOf P t = some i → eqA i.d x y = some q → (∃ u, (do eqGuard .eql t ox oy a b; Go.binOp .eql t a b : Sem Value).run P w = .ok u w ∧ u = .bool q) ∧ (∃ u, (do eqGuard .neq t ox oy a b; Go.binOp .neq t a b : Sem Value).run P w = .ok u w ∧ u = .bool (!q)) := by
      intro i q hty hq
      obtain ⟨k1, k2, k3⟩ := eqA_ok (P := P) hty hx hy hq
      have e : ∀ op, (eqGuard op t ox oy a b).run P w = .ok () w := fun op => eqGuard_ok k2 k3
      -- the operands are bools or pointers
      have shape : (∃ p, a = .bool p) ∨ (∃ p, a = .pointer p) ∨ ∃ p q r, a = .slice p q r := by
        unfold eqA at hq
        split at hq
        · have e1 := hx.int; exact .inl ⟨_, e1⟩
        · have e1 := hx.int; exact .inr (.inl ⟨_, e1⟩)
        · have e1 := hx.int; exact .inr (.inl ⟨_, e1⟩)
        · split at hq
          · split at hq
            · rename_i ha; obtain ⟨ad, rfl⟩ := isAddr_ok hx ha; exact .inr (.inl ⟨_, rfl⟩)
            · simp at hq
          · simp at hq
        · have e1 := hx.int; exact .inr (.inr ⟨_, _, _, e1⟩)
        · obtain ⟨ad, p, q, rfl⟩ := rel_some hx; exact .inr (.inr ⟨_, _, _, rfl⟩)
        · simp at hq
      have shape2 : (∃ p, b = .bool p) ∨ (∃ p, b = .pointer p) ∨ ∃ p q r, b = .slice p q r := by
        unfold eqA at hq
        split at hq
        · have e1 := hy.int; exact .inl ⟨_, e1⟩
        · have e1 := hy.int; exact .inr (.inl ⟨_, e1⟩)
        · split at hq
          · split at hq
            · rename_i ha; obtain ⟨ad, rfl⟩ := isAddr_ok hy ha; exact .inr (.inl ⟨_, rfl⟩)
            · simp at hq
          · simp at hq
        · have e1 := hy.int; exact .inr (.inl ⟨_, e1⟩)
        · have e1 := hy.int; exact .inr (.inr ⟨_, _, _, e1⟩)
        · have e1 := hy.int; exact .inr (.inr ⟨_, _, _, e1⟩)
        · simp at hq
      constructor
      · refine ⟨_, ?_, rfl⟩
        rw [Sem.run_bind, e]
        rcases shape with ⟨p, rfl⟩ | ⟨p, rfl⟩ | ⟨p, _, _, rfl⟩ <;> rcases shape2 with ⟨p2, rfl⟩ | ⟨p2, rfl⟩ | ⟨p2, _, _, rfl⟩ <;> simp [Go.binOp, k1]
      · refine ⟨_, ?_, rfl⟩
        rw [Sem.run_bind, e]
        rcases shape with ⟨p, rfl⟩ | ⟨p, rfl⟩ | ⟨p, _, _, rfl⟩ <;> rcases shape2 with ⟨p2, rfl⟩ | ⟨p2, rfl⟩ | ⟨p2, _, _, rfl⟩ <;> simp [Go.binOp, k1]
    split at h
    · split at h
      · rename_i i hty
        simp only [Option.map_eq_some_iff] at h
        obtain ⟨q, hq, rfl⟩ := h
        obtain ⟨⟨u, k1, rfl⟩, _⟩ := gen i q hty hq
        exact ⟨_, k1, .v _ _ rfl⟩
      · simp at h
    · split at h
      · rename_i i hty
        simp only [Option.map_eq_some_iff] at h
        obtain ⟨q, hq, rfl⟩ := h
        obtain ⟨_, ⟨u, k1, rfl⟩⟩ := gen i q hty hq
        exact ⟨_, k1, .v _ _ rfl⟩
      · simp at h
    · simp at h
theorem convA_ok {n : Nat} {μ : Nat → G} {S : Nat → Nat → Prop} {w : World} {src dst : TypeId} {x y : AV} {v : Value} (hx : Rel μ S w n x v) (h : convA P src dst x = some y) :
    ∃ u, (Go.convert src dst v).run P w = .ok u w ∧ Rel μ S w n y u := by
  unfold convA at h
  split at h
  · rename_i k1 _ _ _ k _ _ _ k3 m h1 h2
    obtain ⟨i1, d1, p1, p2, p3, _⟩ := tyOf_info h1
    obtain ⟨i2, d2, q1, q2, q3, _⟩ := tyOf_info h2
    obtain ⟨rfl⟩ : d1 = .int k1 := by cases d1 <;> simp [tdOf] at p3; simp [p3]
    obtain ⟨rfl⟩ : d2 = .int k := by cases d2 <;> simp [tdOf] at q3; simp [q3]
    have e := hx.int; subst e
    simp at h; subst h
    exact ⟨_, by simp [Go.convert, run_underlying p2, run_underlying q2, Conv.intToInt], .v _ _ rfl⟩
  · rename_i h1 h2
    obtain ⟨i1, d1, p1, p2, p3, _⟩ := tyOf_info h1
    obtain ⟨i2, d2, q1, q2, q3, _⟩ := tyOf_info h2
    obtain ⟨rfl⟩ : d1 = .string := by cases d1 <;> simp [tdOf] at p3; rfl
    obtain ⟨rfl⟩ : d2 = .string := by cases d2 <;> simp [tdOf] at q3; rfl
    have e := hx.int; subst e
    simp at h; subst h
    exact ⟨_, by simp [Go.convert, run_underlying p2, run_underlying q2], .v _ _ rfl⟩
  · simp at h
end Go.Abs
end
section
namespace Go.Abs
variable [Tabs]
variable {P : Program}
structure Pushed (w w' : World) (o : Obj) : Prop where
  heap : w'.heap = w.heap.push o
  os : w'.os = w.os
  tape : w'.tape = w.tape
  output : w'.output = w.output
theorem Pushed.old {w w' : World} {o : Obj} (h : Pushed w w' o) {k : Nat} (hk : k < w.heap.size) : w'.heap[k]? = w.heap[k]? := by rw [h.heap, Array.getElem?_push, if_neg (by omega)]
theorem Pushed.last {w w' : World} {o : Obj} (h : Pushed w w' o) : w'.heap[w.heap.size]? = some o := by rw [h.heap]; simp
theorem Pushed.size {w w' : World} {o : Obj} (h : Pushed w w' o) : w'.heap.size = w.heap.size + 1 := by rw [h.heap]; simp
theorem Pushed.alloc (w : World) (o : Obj) : Pushed w (w.alloc o) o := ⟨rfl, rfl, rfl, rfl⟩
theorem Pushed.drew_alloc (w : World) (o : Obj) : Pushed w (w.drew.alloc o) o := ⟨rfl, rfl, rfl, rfl⟩
def upd (μ : Nat → G) (i : Nat) (g : G) : Nat → G := fun k => if k = i then g else μ k
theorem upd_same (μ : Nat → G) (i : Nat) (g : G) : upd μ i g i = g := by simp [upd]
theorem upd_lt (μ : Nat → G) (i : Nat) (g : G) : ∀ k, k < i → upd μ i g k = μ k := fun k hk => by simp [upd]; omega
theorem get_append {α : Type} {l : List α} {x y : α} {i : Nat} (h : (l ++ [x])[i]? = some y) : (i < l.length ∧ l[i]? = some y) ∨ (i = l.length ∧ y = x) := by
  rw [List.getElem?_append] at h
  split at h
  · exact .inl ⟨by assumption, h⟩
  · have := lt_of_get h
    simp at this
    obtain rfl : i = l.length := by omega
    simp at h; exact .inr ⟨rfl, h.symm⟩
theorem owned_append {h : List Blk} {b : Blk} {μ μ' : Nat → G} (hm : ∀ k, k < h.length → μ' k = μ k) {id k : Nat} (ho : owned (h ++ [b]) μ' id k) : (id < h.length ∧ owned h μ id k) ∨ (id = h.length ∧ b ≠ .dead ∧ ∃ sz tot, μ' id = .blk k sz tot) := by
  obtain ⟨c, hc, hd, sz, tot, hk⟩ := ho
  rcases get_append hc with ⟨h1, h2⟩ | ⟨rfl, rfl⟩
  · exact .inl ⟨h1, c, h2, hd, sz, tot, (hm _ h1).symm.trans hk⟩
  · exact .inr ⟨rfl, hd, sz, tot, hk⟩
theorem new_blk {h : List Blk} {μ : Nat → G} {S : Nat → Nat → Prop} {w w' : World} (hi : Inv h μ S w) (hk : ∀ k, k < w.heap.size → w'.heap[k]? = w.heap[k]?) (hsz : w.heap.size ≤ w'.heap.size) (hos : w'.os = w.os) (ht : w'.tape = w.tape) (hout : w'.output = w.output)
    (b : Blk) (g : G) (hg : ∀ k sz tot, g = .blk k sz tot → w.heap.size ≤ k) (hb : BlkOk (h.length + 1) (upd μ h.length g) S w' h.length b) :
    Inv (h ++ [b]) (upd μ h.length g) S w' ∧ Adv h μ S w (h ++ [b]) (upd μ h.length g) S w' ∧ Same S S w w' := by
  have hm := upd_lt μ h.length g
  obtain ⟨q1, q2⟩ := hi.keep (S' := S) hk hsz (fun _ _ h => h) (fun _ _ h => .inl h) (fun b o hs => Nat.lt_of_lt_of_le (hi.old b o hs) hsz)
  refine ⟨⟨fun id c hc => ?_, fun id id' k h1 h2 => ?_, fun b o hs => Nat.lt_of_lt_of_le (hi.old b o hs) hsz, hi.tab.same q2⟩, ⟨hos, ht, hout, hsz, fun k h1 _ => hk k h1, fun _ _ h => h, fun _ _ h => .inl h, fun id k ho => ?_, by simp, fun id hid hn => ⟨hm id hid, fun e sz es => ?_⟩, fun i e sz es e' sz' es' h1 h2 => ?_⟩, q2⟩
  · rcases get_append hc with ⟨h1, h2⟩ | ⟨rfl, rfl⟩
    · have k1 := q1.blk id c h2
      have k2 : BlkOk h.length (upd μ h.length g) S w' id c := k1.same (Same.refl S w') (fun i hi => hm i hi) h1 (fun k sz tot hd hkk => by
        have ho : owned h μ id k := ⟨c, h2, hd, sz, tot, hkk⟩
        exact ⟨rfl, (ho.lt hi).2⟩)
      rw [List.length_append]
      -- more blocks: more may be named
      cases c with
      | dead => trivial
      | iter s pos => exact k2
      | var cells =>
        obtain ⟨b', sz', tot', cs, e, z1, z2, z3, z4, z5, z6⟩ := k2
        exact ⟨b', sz', tot', cs, e, z1, z2, z3, z4, fun j x v a b => (z5 j x v a b).mono (by omega), z6⟩
      | arr e sz es => exact k2
    · rw [List.length_append]; exact hb
  · rcases owned_append hm h1 with ⟨p1, p2⟩ | ⟨p1, _, sz, tot, p2⟩ <;> rcases owned_append hm h2 with ⟨p3, p4⟩ | ⟨p3, _, sz', tot', p4⟩
    · exact hi.inj _ _ _ p2 p4
    · subst p3; rw [upd_same] at p4
      have := hg _ _ _ p4
      have := (p2.lt hi).1
      omega
    · subst p1; rw [upd_same] at p2
      have := hg _ _ _ p2
      have := (p4.lt hi).1
      omega
    · omega
  · rcases owned_append hm ho with ⟨p1, p2⟩ | ⟨p1, _, sz, tot, p2⟩
    · exact .inl ⟨id, p2⟩
    · subst p1; rw [upd_same] at p2; exact .inr (hg _ _ _ p2)
  · rw [List.getElem?_append_left hid]; exact hn e sz es
  · have hid := lt_of_get h1
    rw [List.getElem?_append_left hid, h1] at h2
    cases h2
    exact ⟨Nat.le_refl _, fun _ => hm _ hid⟩
theorem new_var (tk : Bool := false) {h : List Blk} {μ : Nat → G} {S : Nat → Nat → Prop} {w w' : World} (hi : Inv h μ S w) {cells : List AV} {cs : Array Value} {e : TypeId} (hp : Pushed w w' (.cells cs e)) (hr : Rels μ S w h.length cells cs.toList) (ho : ∀ v ∈ cs, v.oneCell' = true) :
    ∃ μ', Inv (h ++ [.var cells (if tk = true then some e else none)]) μ' S w' ∧ Adv h μ S w (h ++ [.var cells (if tk = true then some e else none)]) μ' S w' ∧ Same S S w w' ∧ (∀ k, k < h.length → μ' k = μ k) ∧ Rel μ' S w' (h.length + 1) (.ptr h.length 0) (.pointer (some ⟨w.heap.size, 0, none⟩)) := by
  have hs : Same S S w w' := fun b o hb => ⟨hb, hp.old (hi.old b o hb)⟩
  have hm := upd_lt μ h.length (.blk w.heap.size 0 0)
  obtain ⟨q1, q2, q3⟩ := new_blk hi (fun k hk => hp.old hk) (by have := hp.size; omega) hp.os hp.tape hp.output (.var cells (if tk = true then some e else none)) (.blk w.heap.size 0 0) (by rintro k sz tot ⟨⟩; exact Nat.le_refl _)
    ⟨w.heap.size, 0, 0, cs, e, upd_same _ _ _, by cases tk <;> exact hp.last, by simpa using hr.1.symm, fun o hso => by have := hi.old _ _ hso; omega, fun j x v a b => ((hr.2 j x v a (by simpa using b)).same hs hm).mono (by omega), ho⟩
  exact ⟨_, q1, q2, q3, hm, .ptr _ _ _ _ 0 0 (by omega) (upd_same _ _ _)⟩
theorem new_iter {h : List Blk} {μ : Nat → G} {S : Nat → Nat → Prop} {w w' : World} (hi : Inv h μ S w) {s : ByteArray} {pos : Nat} (hp : Pushed w w' (.stringIter s pos)) :
    ∃ μ', Inv (h ++ [.iter s pos]) μ' S w' ∧ Adv h μ S w (h ++ [.iter s pos]) μ' S w' ∧ Same S S w w' ∧ (∀ k, k < h.length → μ' k = μ k) ∧ Rel μ' S w' (h.length + 1) (.ptr h.length 0) (.pointer (some ⟨w.heap.size, 0, none⟩)) := by
  have hm := upd_lt μ h.length (.blk w.heap.size 1 1)
  obtain ⟨q1, q2, q3⟩ := new_blk hi (fun k hk => hp.old hk) (by have := hp.size; omega) hp.os hp.tape hp.output (.iter s pos) (.blk w.heap.size 1 1) (by rintro k sz tot ⟨⟩; exact Nat.le_refl _)
    ⟨w.heap.size, upd_same _ _ _, hp.last, fun o hso => by have := hi.old _ _ hso; omega⟩
  exact ⟨_, q1, q2, q3, hm, .ptr _ _ _ _ 1 1 (by omega) (upd_same _ _ _)⟩
end Go.Abs
end
section
namespace Go.Abs
variable [Tabs]
variable {P : Program}
structure Holds (μ : Nat → G) (S : Nat → Nat → Prop) (w : World) (sz : Nat) (es : List (List AV)) (vs : List Value) : Prop where
  len : vs.length = es.length * sz
  each : ∀ c ∈ es, c.length = sz
  rel : ∀ (i : Nat) (c : List AV) (j : Nat) (x : AV) (v : Value), es[i]? = some c → c[j]? = some x → vs[i * sz + j]? = some v → Rel μ S w 0 x v
  one : ∀ v ∈ vs, v.oneCell' = true
theorem Holds.same {μ μ' : Nat → G} {S S' : Nat → Nat → Prop} {w w' : World} {sz : Nat} {es : List (List AV)} {vs : List Value} (h : Holds μ S w sz es vs) (hs : Same S S' w w') : Holds μ' S' w' sz es vs :=
  ⟨h.len, h.each, fun i c j x v a b d => (h.rel i c j x v a b d).same hs (fun i hi => absurd hi (Nat.not_lt_zero _)), h.one⟩
theorem Holds.nil (μ : Nat → G) (S : Nat → Nat → Prop) (w : World) (sz : Nat) : Holds μ S w sz [] [] := ⟨by simp, by simp, by simp, by simp⟩
theorem Holds.append {μ : Nat → G} {S : Nat → Nat → Prop} {w : World} {sz : Nat} {es es' : List (List AV)} {vs vs' : List Value} (h : Holds μ S w sz es vs) (h' : Holds μ S w sz es' vs') : Holds μ S w sz (es ++ es') (vs ++ vs') where
  len := by simp [h.len, h'.len, Nat.add_mul]
  each c hc := by rcases List.mem_append.1 hc with q | q; exact h.each c q; exact h'.each c q
  rel i c j x v a b d := by
    rw [List.getElem?_append] at a
    split at a
    · rename_i hlt
      have hj : j < sz := by have := lt_of_get b; rw [h.each c (List.mem_of_getElem? a)] at this; exact this
      have := idx_lt hlt hj
      rw [List.getElem?_append_left (by rw [h.len]; exact this)] at d
      exact h.rel i c j x v a b d
    · rename_i hge
      have e : i * sz + j = es.length * sz + ((i - es.length) * sz + j) := by rw [← Nat.add_assoc, ← Nat.add_mul]; congr 2; omega
      rw [e, ← h.len, List.getElem?_append_right (by omega), Nat.add_sub_cancel_left] at d
      exact h'.rel _ c j x v a b d
  one v hv := by rcases List.mem_append.1 hv with q | q; exact h.one v q; exact h'.one v q
theorem BlkOk.of_holds {n : Nat} {μ : Nat → G} {S : Nat → Nat → Prop} {w : World} {id e sz b tot : Nat} {es : List (List AV)} {vs : List Value} {cs : Array Value} (h0 : 0 < sz) (hm : μ id = .blk b sz tot) (hb : w.heap[b]? = some (.cells cs e (0, 0))) (hc : cs.size = tot * sz)
    (hle : es.length ≤ tot) (hml : tot ≤ maxLen) (hS : ∀ o, ¬ S b o) (h : Holds μ S w sz es vs) (hpre : cs.toList.take (es.length * sz) = vs) : BlkOk n μ S w id (.arr e sz es) := by
  refine ⟨h0, h.each, .inr ⟨b, tot, cs, hm, hb, hc, hle, hml, hS, fun i c j x v a k d => ?_, fun j v hj hv => ?_⟩⟩
  · have hj : j < sz := by have := lt_of_get k; rw [h.each c (List.mem_of_getElem? a)] at this; exact this
    have := idx_lt (lt_of_get a) hj
    refine h.rel i c j x v a k ?_
    rw [← hpre, List.getElem?_take, if_pos this]; simpa using d
  · refine h.one v ?_
    rw [← hpre]
    exact List.mem_of_getElem? (i := j) (by rw [List.getElem?_take, if_pos hj]; simpa using hv)
theorem BlkOk.holds {n : Nat} {μ : Nat → G} {S : Nat → Nat → Prop} {w : World} {id e sz b tot : Nat} {es : List (List AV)} (h : BlkOk n μ S w id (.arr e sz es)) (hm : μ id = .blk b sz tot) :
    ∃ cs : Array Value, w.heap[b]? = some (.cells cs e (0, 0)) ∧ cs.size = tot * sz ∧ es.length ≤ tot ∧ tot ≤ maxLen ∧ (∀ o, ¬ S b o) ∧ Holds μ S w sz es (cs.toList.take (es.length * sz)) := by
  obtain ⟨h0, h0', h1 | ⟨b', tot', cs, h1, h2, h3, h4, h5, h6, h7, h8⟩⟩ := h
  · obtain ⟨⟨_, h1, _⟩, _⟩ := h1; rw [hm] at h1; cases h1
  · rw [hm] at h1; cases h1
    have h9 := Nat.mul_le_mul_right sz h4
    refine ⟨cs, h2, h3, h4, h5, h6, ⟨by rw [List.length_take]; exact Nat.min_eq_left (by simpa [h3] using h9), h0', fun i c j x v a b d => ?_, fun v hv => ?_⟩⟩
    · rw [List.getElem?_take] at d
      split at d
      · exact h7 i c j x v a b (by simpa using d)
      · simp at d
    · obtain ⟨j, hj, he⟩ := List.getElem_of_mem hv
      have hj' := hj
      simp at hj'
      refine h8 j v (by omega) ?_
      rw [List.getElem_take] at he
      simp [← he]
theorem new_arr {h : List Blk} {μ : Nat → G} {S : Nat → Nat → Prop} {w w' : World} (hi : Inv h μ S w) {e sz tot : Nat} {es : List (List AV)} {vs : List Value} {cs : Array Value} (hp : Pushed w w' (.cells cs e)) (h0 : 0 < sz) (hc : cs.size = tot * sz) (hle : es.length ≤ tot) (hml : tot ≤ maxLen)
    (hh : Holds μ S w sz es vs) (hpre : cs.toList.take (es.length * sz) = vs) :
    ∃ μ', Inv (h ++ [.arr e sz es]) μ' S w' ∧ Adv h μ S w (h ++ [.arr e sz es]) μ' S w' ∧ Same S S w w' ∧ (∀ k, k < h.length → μ' k = μ k) ∧ Rel μ' S w' (h.length + 1) (.sl h.length 0 es.length false) (.slice (some ⟨w.heap.size, 0, none⟩) es.length tot) := by
  have hs : Same S S w w' := fun b o hb => ⟨hb, hp.old (hi.old b o hb)⟩
  have hm := upd_lt μ h.length (.blk w.heap.size sz tot)
  obtain ⟨q1, q2, q3⟩ := new_blk hi (fun k hk => hp.old hk) (by have := hp.size; omega) hp.os hp.tape hp.output (.arr e sz es) (.blk w.heap.size sz tot) (by rintro k s t ⟨⟩; exact Nat.le_refl _)
    (BlkOk.of_holds h0 (upd_same _ _ _) hp.last hc hle hml (fun o hso => by have := hi.old _ _ hso; omega) (hh.same hs) hpre)
  refine ⟨_, q1, q2, q3, hm, ?_⟩
  have := Rel.sl (μ := upd μ h.length (.blk w.heap.size sz tot)) (S := S) (w := w') (h.length + 1) h.length 0 es.length false w.heap.size sz tot tot (by omega) (upd_same _ _ _) hle hml (by simp) (by simp)
  simpa using this
theorem new_nil {h : List Blk} {μ : Nat → G} {S : Nat → Nat → Prop} {w : World} (hi : Inv h μ S w) {e sz : Nat} (h0 : 0 < sz) (a : Option Addr) (ha : e = 5 → a = none) :
    ∃ μ', Inv (h ++ [.arr e sz []]) μ' S w ∧ Adv h μ S w (h ++ [.arr e sz []]) μ' S w ∧ Same S S w w ∧ (∀ k, k < h.length → μ' k = μ k) ∧ Rel μ' S w (h.length + 1) (.sl h.length 0 0 false) (.slice a 0 0) := by
  obtain ⟨q1, q2, q3⟩ := new_blk hi (w' := w) (fun k hk => rfl) (Nat.le_refl _) rfl rfl rfl (.arr e sz []) (.nilA a) (by simp) ⟨h0, by simp, .inl ⟨⟨a, upd_same _ _ _, ha⟩, rfl⟩⟩
  exact ⟨_, q1, q2, q3, upd_lt _ _ _, .slnil _ _ _ a (by omega) (upd_same _ _ _)⟩
theorem set_blk {h : List Blk} {μ : Nat → G} {S : Nat → Nat → Prop} {w w' : World} (hi : Inv h μ S w) {id : Nat} {b0 b : Blk} (hb0 : h[id]? = some b0) (hd0 : b0 ≠ .dead) (g : G) (hsz : w.heap.size ≤ w'.heap.size) (hos : w'.os = w.os) (ht : w'.tape = w.tape) (hout : w'.output = w.output)
    (hk : ∀ k, k < w.heap.size → ¬ owned h μ id k → w'.heap[k]? = w.heap[k]?) (hg : ∀ k sz tot, g = .blk k sz tot → owned h μ id k ∨ w.heap.size ≤ k)
    (hvk : (∀ e sz es, b0 ≠ .arr e sz es) → g = μ id ∧ ∀ e sz es, b ≠ .arr e sz es)
    (hak : ∀ e sz es e' sz' es', b0 = .arr e sz es → b = .arr e' sz' es' → es.length ≤ es'.length ∧ (es'.length = es.length → g = μ id))
    (kl : Bool) (hkl : kl = false → g = μ id)
    (hb : BlkOk h.length (upd μ id g) S w' id b) :
    Inv ((h.map fun c => if kl then c.kill id else c).set id b) (upd μ id g) S w' ∧ Adv h μ S w ((h.map fun c => if kl then c.kill id else c).set id b) (upd μ id g) S w' ∧ Same S S w w' ∧
      ∀ x v, Rel μ S w h.length x v → Rel (upd μ id g) S w' h.length (if kl then x.kill id else x) v := by
  have hs : Same S S w w' := fun b o hb => ⟨hb, hk b (hi.old b o hb) fun ho => (ho.lt hi).2 o hb⟩
  have hm : ∀ k, k ≠ id → upd μ id g k = μ k := fun k hk => by simp [upd, hk]
  have hrel : ∀ n x v, Rel μ S w n x v → Rel (upd μ id g) S w' n (if kl then x.kill id else x) v := by
    intro n x v hr
    cases kl with
    | true => exact hr.kill hs fun k _ hk => hm k hk
    | false =>
      refine hr.same hs fun k _ => ?_
      by_cases hki : k = id
      · subst hki; rw [upd_same]; exact hkl rfl
      · exact hm k hki
  have hget : ∀ (i : Nat) (c : Blk), ((h.map fun c => if kl then c.kill id else c).set id b)[i]? = some c → (i = id ∧ c = b) ∨ (i ≠ id ∧ ∃ c0, h[i]? = some c0 ∧ c = if kl then c0.kill id else c0) := by
    intro i c hc
    rw [List.getElem?_set] at hc
    split at hc
    · rename_i hii
      simp at hc; exact .inl ⟨hii.symm, hc.2.symm⟩
    · rename_i hii
      simp only [List.getElem?_map, Option.map_eq_some_iff] at hc
      obtain ⟨c0, h1, h2⟩ := hc
      exact .inr ⟨fun e => hii e.symm, c0, h1, h2.symm⟩
  have hown : ∀ i k, owned ((h.map fun c => if kl then c.kill id else c).set id b) (upd μ id g) i k → (i = id ∧ (owned h μ id k ∨ w.heap.size ≤ k)) ∨ (i ≠ id ∧ owned h μ i k) := by
    rintro i k ⟨c, hc, hd, sz, tot, hmk⟩
    rcases hget i c hc with ⟨rfl, rfl⟩ | ⟨hne, c0, h1, rfl⟩
    · rw [upd_same] at hmk; exact .inl ⟨rfl, hg _ _ _ hmk⟩
    · refine .inr ⟨hne, c0, h1, fun e => ?_, sz, tot, (hm i hne).symm.trans hmk⟩
      subst e; cases kl <;> exact hd rfl
  refine ⟨⟨fun i c hc => ?_, fun i i' k h1 h2 => ?_, fun b o hb => Nat.lt_of_lt_of_le (hi.old b o hb) hsz, hi.tab.same hs⟩, ⟨hos, ht, hout, hsz, fun k h1 h2 => hk k h1 (h2 id), fun _ _ h => h, fun _ _ h => .inl h, fun i k ho => ?_, by simp, fun i hid hn => ?_, fun i e sz es e' sz' es' h1 h2 => ?_⟩, hs, hrel _⟩
  · rw [List.length_set, List.length_map]
    rcases hget i c hc with ⟨rfl, rfl⟩ | ⟨hne, c0, h1, rfl⟩
    · exact hb
    · have hb1 := hi.blk i c0 h1
      have keep : ∀ k sz tot, c0 ≠ .dead → μ i = .blk k sz tot → w'.heap[k]? = w.heap[k]? ∧ ∀ o, ¬ S k o := fun k sz tot hd hmk => by
        have ho : owned h μ i k := ⟨c0, h1, hd, sz, tot, hmk⟩
        exact ⟨hk k (ho.lt hi).1 fun ho2 => hne (hi.inj _ _ _ ho ho2), (ho.lt hi).2⟩
      cases c0 with
      | dead => cases kl <;> trivial
      | iter s pos =>
        obtain ⟨b', q1, q2, q3⟩ := hb1
        obtain ⟨k1, k2⟩ := keep b' 1 1 (by simp) q1
        have : BlkOk h.length (upd μ id g) S w' i (.iter s pos) := ⟨b', (hm i hne).trans q1, k1.trans q2, k2⟩
        cases kl <;> exact this
      | var cells ty =>
        obtain ⟨b', sz', tot', cs, e, z1, z2, z3, z4, z5, z6⟩ := hb1
        obtain ⟨k1, k2⟩ := keep b' sz' tot' (by simp) z1
        have key : ∀ cells', cells'.length = cells.length → (∀ (j : Nat) (x : AV) (v : Value), cells'[j]? = some x → cs[j]? = some v → Rel (upd μ id g) S w' h.length x v) → BlkOk h.length (upd μ id g) S w' i (.var cells' ty) := fun cells' hl hr =>
          ⟨b', sz', tot', cs, e, (hm i hne).trans z1, k1.trans z2, z3.trans hl.symm, k2, hr, z6⟩
        cases kl with
        | true =>
          refine key _ kills_length fun j x v a b => ?_
          obtain ⟨x0, hx0, rfl⟩ := kills_get a
          exact hrel _ x0 v (z5 j x0 v hx0 b)
        | false => exact key _ rfl fun j x v a b => hrel _ x v (z5 j x v a b)
      | arr e sz es =>
        have : BlkOk h.length (upd μ id g) S w' i (.arr e sz es) := by
          obtain ⟨h0, h0', h1' | ⟨b', tot', cs, q1, q2, q3, q4, q5, q6, q7, q8⟩⟩ := hb1
          · obtain ⟨⟨x, p1, p2⟩, p3⟩ := h1'; exact ⟨h0, h0', .inl ⟨⟨x, (hm i hne).trans p1, p2⟩, p3⟩⟩
          · obtain ⟨k1, k2⟩ := keep b' sz tot' (by simp) q1
            exact ⟨h0, h0', .inr ⟨b', tot', cs, (hm i hne).trans q1, k1.trans q2, q3, q4, q5, k2, fun i c j x v a b d => (q7 i c j x v a b d).same hs (fun i hi => absurd hi (Nat.not_lt_zero _)), q8⟩⟩
        cases kl <;> exact this
  · rcases hown i k h1 with ⟨rfl, p1⟩ | ⟨p0, p1⟩ <;> rcases hown i' k h2 with ⟨rfl, p2⟩ | ⟨p3, p2⟩
    · rfl
    · rcases p1 with p1 | p1
      · exact absurd (hi.inj _ _ _ p1 p2) (Ne.symm p3)
      · have := (p2.lt hi).1; omega
    · rcases p2 with p2 | p2
      · exact absurd (hi.inj _ _ _ p2 p1) (Ne.symm p0)
      · have := (p1.lt hi).1; omega
    · exact hi.inj _ _ _ p1 p2
  · rcases hown i k ho with ⟨rfl, p1⟩ | ⟨p0, p1⟩
    · exact p1.elim (fun p => .inl ⟨_, p⟩) .inr
    · exact .inl ⟨i, p1⟩
  · by_cases hii : i = id
    · subst hii
      obtain ⟨v1, v2⟩ := hvk fun e sz es he => hn e sz es (by rw [hb0, he])
      refine ⟨by rw [upd_same]; exact v1, fun e sz es he => ?_⟩
      rw [List.getElem?_set, if_pos rfl] at he
      simp at he; exact v2 e sz es he.2
    · refine ⟨hm i hii, fun e sz es he => ?_⟩
      rcases hget i _ he with ⟨rfl, _⟩ | ⟨_, c0, h1, h2⟩
      · exact hii rfl
      · cases c0 <;> cases kl <;> simp [Blk.kill] at h2
        · obtain ⟨rfl, rfl, rfl⟩ := h2; exact hn _ _ _ h1
        · obtain ⟨rfl, rfl, rfl⟩ := h2; exact hn _ _ _ h1
  · rcases hget i _ h2 with ⟨rfl, rfl⟩ | ⟨hne, c0, h3, h4⟩
    · rw [hb0] at h1
      cases h1
      rw [upd_same]
      exact hak _ _ _ _ _ _ rfl rfl
    · rw [h3] at h1
      cases h1
      rw [hm i hne]
      cases kl <;> (simp [Blk.kill] at h4; obtain ⟨rfl, rfl, rfl⟩ := h4; exact ⟨Nat.le_refl _, fun _ => rfl⟩)
end Go.Abs
end
section
namespace Go.Abs
variable [Tabs]
variable {P : Program}
theorem elemsA_ok {h : List Blk} {μ : Nat → G} {S : Nat → Nat → Prop} {w : World} (hi : Inv h μ S w) {sz : Nat} {x : AV} {v : Value} {es : List (List AV)} (h0 : 0 < sz) (hx : Rel μ S w h.length x v) (he : elemsA sz h x = some es) :
    ∃ (a : Option Addr) (cap : Nat), v = .slice a es.length cap ∧ (es ≠ [] → ∃ (ad : Addr) (vs : List Value), a = some ad ∧ Holds μ S w sz es vs ∧ ∀ (j : Nat) (u : Value), vs[j]? = some u → w.cell? (ad.add j) = some u) := by
  cases hx with
  | fs _ es' full a cap V g1 g2 g3 g4 g5 =>
    simp only [elemsA] at he
    split at he
    · rename_i hall
      simp at he; subst he
      refine ⟨a, cap, rfl, fun hne => ?_⟩
      have hV : ∀ (q : Nat), q < es'.length * sz → ∃ ad, a = some ad ∧ At S w (ad.add q) (V (q / sz) (q % sz)) ∧ ∃ c, es'[q / sz]? = some c ∧ q % sz < c.length := by
        intro q hq
        have h1 : q / sz < es'.length := by rw [Nat.div_lt_iff_lt_mul h0]; exact hq
        have h2 := Nat.mod_lt q h0
        have hc : es'[q / sz]? = some es'[q / sz] := by simp [h1]
        have hcl := hall _ (List.mem_of_getElem? hc)
        obtain ⟨ad, e, k⟩ := g4 (q / sz) _ (q % sz) (es'[q / sz][q % sz]'(by omega)) hc (by simp)
        rw [hcl, Nat.mul_comm, Nat.div_add_mod] at k
        exact ⟨ad, e, k, _, hc, by omega⟩
      obtain ⟨ad, rfl⟩ : ∃ ad, a = some ad := by
        have hl : 0 < es'.length * sz := Nat.mul_pos (by cases es' <;> simp_all) h0
        obtain ⟨ad, e, _⟩ := hV 0 hl; exact ⟨ad, e⟩
      refine ⟨ad, (List.range (es'.length * sz)).map fun q => V (q / sz) (q % sz), rfl, ⟨by simp, hall, fun i c j y u a b d => ?_, fun u hu => ?_⟩, fun j u hj => ?_⟩
      · have hj : j < sz := by have := lt_of_get b; rw [hall c (List.mem_of_getElem? a)] at this; exact this
        have hlt := idx_lt (lt_of_get a) hj
        simp [hlt] at d
        have e1 : (i * sz + j) / sz = i := by rw [Nat.mul_comm, Nat.mul_add_div h0, Nat.div_eq_of_lt hj, Nat.add_zero]
        rw [e1, Nat.mod_eq_of_lt hj] at d
        subst d
        exact g5 i c j y a b
      · simp at hu
        obtain ⟨q, hq, rfl⟩ := hu
        obtain ⟨_, _, k, _⟩ := hV q hq
        exact k.2.2
      · have hlt := lt_of_get hj
        simp at hlt
        simp [hlt] at hj
        subst hj
        obtain ⟨ad', e, k, _⟩ := hV j hlt
        cases e
        exact k.1
    · simp at he
  | slnil _ id full a g1 g2 =>
    simp only [elemsA] at he
    split at he
    · rename_i e sz' es' hb
      obtain ⟨_, _, ⟨_, rfl⟩ | ⟨_, _, _, q, _⟩⟩ := hi.blk id _ hb
      · split at he
        · simp [cutEs] at he; subst he; exact ⟨a, 0, rfl, fun h => absurd rfl h⟩
        · simp at he
      · rw [g2] at q; cases q
    · simp at he
  | sl _ id off len full b sz' tot cap g1 g2 g3 g4 g5 g6 =>
    simp only [elemsA] at he
    split at he
    · rename_i e sz2 es' hb
      split at he
      · rename_i hc
        obtain ⟨hle, rfl⟩ := hc
        simp at he; subst he
        have hsz : sz' = sz2 := by
          obtain ⟨_, _, ⟨⟨_, q, _⟩, _⟩ | ⟨_, _, _, q, _⟩⟩ := hi.blk id _ hb
          · rw [g2] at q; cases q
          · rw [g2] at q; cases q; rfl
        subst hsz
        obtain ⟨cs, k1, k2, k3, k4, k5, k6⟩ := (hi.blk id _ hb).holds g2
        have hl := cutEs_length hle
        refine ⟨some ⟨b, off * sz', none⟩, cap, by rw [hl], fun hne => ?_⟩
        have hbd : off * sz' + len * sz' ≤ es'.length * sz' := by rw [← Nat.add_mul]; exact Nat.mul_le_mul_right _ hle
        have hbd2 := Nat.mul_le_mul_right sz' k3
        refine ⟨_, ((cs.toList.take (es'.length * sz')).drop (off * sz')).take (len * sz'), rfl, ⟨?_, ?_, fun i c j y u a bb d => ?_, fun u hu => ?_⟩, fun j u hj => ?_⟩
        · rw [hl]; simp [k6.len]; omega
        · intro c hc
          obtain ⟨i, hi', he⟩ := List.getElem_of_mem hc
          obtain ⟨q1, _⟩ := cutEs_get (show (cutEs es' off len)[i]? = some c by simp [hi', he])
          exact k6.each c (List.mem_of_getElem? q1)
        · obtain ⟨q1, q2⟩ := cutEs_get a
          refine k6.rel (off + i) c j y u q1 bb ?_
          rw [List.getElem?_take] at d
          split at d
          · rw [List.getElem?_drop] at d
            rw [Nat.add_mul, Nat.add_assoc]; exact d
          · simp at d
        · exact k6.one u (List.mem_of_mem_drop (List.mem_of_mem_take hu))
        · rw [List.getElem?_take] at hj
          split at hj
          · rw [List.getElem?_drop, List.getElem?_take] at hj
            split at hj
            · rw [addr_add, cell_row k1]; simpa using hj
            · simp at hj
          · simp at hj
      · simp at he
    · simp at he
  | _ => simp [elemsA] at he
theorem run_append_zero {t ty e : TypeId} {i : TypeInfo} (ht : P.underlying t = some (.slice e)) (hi : P.info? e = some i) (w : World) (b : Option Addr) (len cap : Nat) (hle : len ≤ cap) (a : Option Addr) (c : Nat) :
    (Builtin.append_ #[t, t] ty #[.slice b len cap, .slice a 0 c]).run P w = .ok (.slice b len cap) w := by
  cases a <;> cases b <;> simp [Builtin.append_, run_underlying ht, sizeOf, typeInfo, hi, Builtin.lenOf, hle, Builtin.firstCells, loadCells, loadCellsFrom, storeCells]
theorem run_append_fresh0 (w : World) (t ty e : TypeId) (i : TypeInfo) (z : Value) (ht : P.underlying t = some (.slice e)) (hi : P.info? e = some i) (hz : i.zero = some z) (b : Option Addr)
    (a : Addr) (n c : Nat) (news : List Value) (hl : news.length = n * i.size) (hnews : ∀ j v, news[j]? = some v → w.cell? (a.add j) = some v) (h0 : 0 < n) (h47 : n * i.bytes ≤ 2 ^ 47) (hn : n ≤ 2 ^ 47) :
    ∃ cap, n ≤ cap ∧ cap ≤ maxLen ∧ (Builtin.append_ #[t, t] ty #[.slice b 0 0, .slice (some a) n c]).run P w = .ok (.slice (some ⟨w.heap.size, 0, none⟩) n cap) (w.drew.alloc (.cells (news.toArray ++ Builtin.zeroCells z.cells (cap - n)) e)) := by
  have hml : n ≤ maxLen := by unfold maxLen; omega
  cases b with
  | none => exact ⟨grownCap w n 0 e, grownCap_ge w n 0 e, grownCap_le_maxLen w n 0 e hml, run_append_nil (P := P) w t ty e i z ht hi hz a n c news hl hnews h0 (by omega) (by omega)⟩
  | some b =>
    have := run_append_grow (P := P) w t ty e i z ht hi hz b 0 0 [] (by simp) (by simp) a n c news hl hnews (by omega) (by omega) (growslice_fits (by omega) (by rw [Nat.zero_add]; omega))
    simp only [Nat.zero_add, Array.empty_append] at this
    exact ⟨grownCap w n 0 e, grownCap_ge w n 0 e, grownCap_le_maxLen w n 0 e hml, this⟩
def Fin (s : St) (μ : Nat → G) (S : Nat → Nat → Prop) (w : World) (tmps : List Value) (x : AV) (s' : St) (v : Value) (w' : World) : Prop :=
  ∃ μ' S', Inv s'.h μ' S' w' ∧ Rels μ' S' w' s'.h.length s'.t tmps ∧ Rel μ' S' w' s'.h.length x v ∧ Adv s.h μ S w s'.h μ' S' w'
def resSt (s : St) : Res → AV × St
  | .val x => (x, s)
  | .new x bs => (x, { s with h := s.h ++ bs })
  | .st x s' => (x, s')
theorem Rels.kills {μ μ' : Nat → G} {S S' : Nat → Nat → Prop} {w w' : World} {n i : Nat} {xs : List AV} {vs : List Value} (h : Rels μ S w n xs vs) (hk : ∀ x v, Rel μ S w n x v → Rel μ' S' w' n (x.kill i) v) : Rels μ' S' w' n (xs.map (AV.kill i)) vs := by
  refine ⟨by simp [h.1], fun j x v a b => ?_⟩
  simp only [List.getElem?_map, Option.map_eq_some_iff] at a
  obtain ⟨y, hy, rfl⟩ := a
  exact hk y v (h.2 j y v hy b)
structure Src (P : Program) (ts : Array TypeId) (ty e : TypeId) (i : TypeInfo) (z : Value) (w : World) (vx : Value) (n : Nat) (news : List Value) : Prop where
  zero : n = 0 → ∀ (b : Option Addr) (len cap : Nat), len ≤ cap → (Builtin.append_ ts ty #[.slice b len cap, vx]).run P w = .ok (.slice b len cap) w
  fresh : 0 < n → n * i.bytes ≤ 2 ^ 47 → n ≤ 2 ^ 47 → ∀ b : Option Addr, ∃ cap, n ≤ cap ∧ cap ≤ maxLen ∧ (Builtin.append_ ts ty #[.slice b 0 0, vx]).run P w = .ok (.slice (some ⟨w.heap.size, 0, none⟩) n cap) (w.drew.alloc (.cells (news.toArray ++ Builtin.zeroCells z.cells (cap - n)) e))
  grow : 0 < n → ∀ (b : Addr) (sLen sCap : Nat) (olds : List Value), olds.length = sLen * i.size → (∀ j v, olds[j]? = some v → w.cell? (b.add j) = some v) → sCap < sLen + n → sLen + n ≤ 2 ^ 47 → (sLen + n) * i.bytes ≤ 2 ^ 47 →
    (Builtin.append_ ts ty #[.slice (some b) sLen sCap, vx]).run P w = .ok (.slice (some ⟨w.heap.size, 0, none⟩) (sLen + n) (grownCap w (sLen + n) sCap e))
        (w.drew.alloc (.cells (olds.toArray ++ news.toArray ++ Builtin.zeroCells z.cells (grownCap w (sLen + n) sCap e - (sLen + n))) e))
  room : 0 < n → ∀ (g sLen sCap : Nat) (cur : Array Value), w.heap[g]? = some (.cells cur e (0, 0)) → sLen + n ≤ sCap → sLen * i.size + news.length ≤ cur.size →
    (Builtin.append_ ts ty #[.slice (some ⟨g, 0, none⟩) sLen sCap, vx]).run P w = .ok (.slice (some ⟨g, 0, none⟩) (sLen + n) sCap) (w.setRow g (cur.toList.take (sLen * i.size) ++ news ++ cur.toList.drop (sLen * i.size + news.length)).toArray)
theorem src_slice {t ty e : TypeId} {i : TypeInfo} {z : Value} {w : World} (h2 : P.underlying t = some (.slice e)) (h3 : P.info? e = some i) (hz : i.zero = some z) (ad : Addr) (n cx : Nat) (news : List Value) (hl : news.length = n * i.size)
    (hcell : ∀ j v, news[j]? = some v → w.cell? (ad.add j) = some v) (h1 : ∀ u ∈ news, u.oneCell' = true) (hn : 0 < n) : Src P #[t, t] ty e i z w (.slice (some ad) n cx) n news where
  zero h := by omega
  fresh _ c1 c2 b := run_append_fresh0 (P := P) w t ty e i z h2 h3 hz b ad n cx news hl hcell hn c1 c2
  grow _ b sLen sCap olds ho holds hg hb hby := run_append_grow (P := P) w t ty e i z h2 h3 hz b sLen sCap olds ho holds ad n cx news hl hcell hg (by omega) (growslice_fits hg hby)
  room _ g sLen sCap cur hg hroom hfit := run_append_room (P := P) w t ty e i h2 h3 g sLen sCap cur hg ad n cx news hl hcell h1 hroom hfit
theorem run_append_zero_string {t u ty e : TypeId} {i : TypeInfo} (ht : P.underlying t = some (.slice e)) (hu : P.underlying u = some .string) (hi : P.info? e = some i) (w : World) (b : Option Addr) (len cap : Nat) (hle : len ≤ cap) (q : ByteArray) (hq : q.size = 0) :
    (Builtin.append_ #[t, u] ty #[.slice b len cap, .string q]).run P w = .ok (.slice b len cap) w := by
  have hf := Lib.run_firstCells_string (P := P) (w := w) i.size q
  have hs : Lib.strCells q = [] := List.eq_nil_of_length_eq_zero (by rw [Lib.strCells_length]; exact hq)
  rw [hs, hq] at hf
  cases b <;> simp [Builtin.append_, run_underlying ht, run_underlying hu, sizeOf, typeInfo, hi, Builtin.lenOf, hle, hq, hf, storeCells]
theorem src_string {t u ty e : TypeId} {i : TypeInfo} {z : Value} {w : World} (h2 : P.underlying t = some (.slice e)) (hu : P.underlying u = some .string) (h3 : P.info? e = some i) (hz : i.zero = some z) (hs : i.size = 1) (hb1 : i.bytes = 1) (q : ByteArray) :
    Src P #[t, u] ty e i z w (.string q) q.size (Lib.strCells q) where
  zero h b len cap hle := run_append_zero_string h2 hu h3 w b len cap hle q h
  fresh hn c1 c2 b := by
    have hml : q.size ≤ maxLen := by unfold maxLen; omega
    cases b with
    | none =>
      refine ⟨grownCap w q.size 0 e, grownCap_ge w q.size 0 e, grownCap_le_maxLen w q.size 0 e hml, ?_⟩
      have := run_append_nil_string (P := P) w t u ty e i z h2 hu h3 hz q hn (by omega) (by omega)
      rw [this]
      congr 4
      apply Array.ext'
      simp [Lib.strCells]
    | some b =>
      have := Lib.run_append_grow_string (P := P) (w := w) t u ty e i z h2 hu h3 hz b 0 0 [] (by simp) (by simp) q (by omega) (by omega) (growslice_fits (by omega) (by rw [Nat.zero_add]; omega))
      simp only [Nat.zero_add, Array.empty_append] at this
      exact ⟨grownCap w q.size 0 e, grownCap_ge w q.size 0 e, grownCap_le_maxLen w q.size 0 e hml, this⟩
  grow hn b sLen sCap olds ho holds hg hb hby := Lib.run_append_grow_string (P := P) (w := w) t u ty e i z h2 hu h3 hz b sLen sCap olds ho holds q hg (by omega) (growslice_fits hg hby)
  room hn g sLen sCap cur hg hroom hfit := by
    have := Lib.run_append_room_string (P := P) (w := w) t u ty e i h2 hu h3 hs g sLen sCap cur hg q hroom (by rw [hs, Lib.strCells_length] at hfit; omega)
    rw [this, hs, Lib.strCells_length, Nat.mul_one]
theorem Holds.take {μ : Nat → G} {S : Nat → Nat → Prop} {w : World} {sz : Nat} {es : List (List AV)} {vs : List Value} (h : Holds μ S w sz es vs) (p : Nat) (hp : p ≤ es.length) : Holds μ S w sz (es.take p) (vs.take (p * sz)) where
  len := by
    have := Nat.mul_le_mul_right sz hp
    rw [List.length_take, List.length_take, h.len, Nat.min_eq_left hp, Nat.min_eq_left this]
  each c hc := h.each c (List.mem_of_mem_take hc)
  rel i c j x v a b d := by
    rw [List.getElem?_take] at a d
    split at a
    · split at d
      · exact h.rel i c j x v a b d
      · simp at d
    · simp at a
  one v hv := h.one v (List.mem_of_mem_take hv)
theorem Holds.drop {μ : Nat → G} {S : Nat → Nat → Prop} {w : World} {sz : Nat} {es : List (List AV)} {vs : List Value} (h : Holds μ S w sz es vs) (p : Nat) : Holds μ S w sz (es.drop p) (vs.drop (p * sz)) where
  len := by rw [List.length_drop, List.length_drop, h.len, Nat.sub_mul]
  each c hc := h.each c (List.mem_of_mem_drop hc)
  rel i c j x v a b d := by
    rw [List.getElem?_drop] at a d
    refine h.rel (p + i) c j x v a b ?_
    rw [Nat.add_mul, Nat.add_assoc]; exact d
  one v hv := h.one v (List.mem_of_mem_drop hv)
theorem take_over {α : Type} (l u : List α) (N a : Nat) (h : a + u.length ≤ N) (hN : N ≤ l.length) : (l.take a ++ u ++ l.drop (a + u.length)).take N = (l.take N).take a ++ u ++ (l.take N).drop (a + u.length) := by
  have h1 : (l.take a ++ u).length = a + u.length := by rw [List.length_append, List.length_take]; omega
  rw [List.take_append, List.take_of_length_le (by omega), h1, List.take_take, Nat.min_eq_left (show a ≤ N by omega), List.drop_take]
theorem over_ok {s : St} {μ : Nat → G} {S : Nat → Nat → Prop} {w : World} {tmps : List Value} (hi : Inv s.h μ S w) (ht : Rels μ S w s.h.length s.t tmps) {id e sz b tot p : Nat} {es new : List (List AV)} {news : List Value} {cs : Array Value} (hid : s.h[id]? = some (.arr e sz es)) (g2 : μ id = .blk b sz tot)
    (k1 : w.heap[b]? = some (.cells cs e (0, 0))) (k2 : cs.size = tot * sz) (k3 : es.length ≤ tot) (k4 : tot ≤ maxLen) (k5 : ∀ o, ¬ S b o) (k6 : Holds μ S w sz es (cs.toList.take (es.length * sz))) (hn : Holds μ S w sz new news) (hle : p + new.length ≤ es.length) (hsz : 0 < sz) (x : AV) (v : Value)
    (hx : Rel μ S (w.setRow b (cs.toList.take (p * sz) ++ news ++ cs.toList.drop (p * sz + news.length)).toArray) s.h.length x v) :
    Fin s μ S w tmps x ⟨s.t, s.h.set id (.arr e sz (es.take p ++ new ++ es.drop (p + new.length)))⟩ v (w.setRow b (cs.toList.take (p * sz) ++ news ++ cs.toList.drop (p * sz + news.length)).toArray) := by
  have hown : owned s.h μ id b := ⟨_, hid, by simp, sz, tot, g2⟩
  have hother : ∀ k, k ≠ b → (w.setRow b (cs.toList.take (p * sz) ++ news ++ cs.toList.drop (p * sz + news.length)).toArray).heap[k]? = w.heap[k]? := fun k hk => setRow_other w b k _ hk
  have hsame : Same S S w (w.setRow b (cs.toList.take (p * sz) ++ news ++ cs.toList.drop (p * sz + news.length)).toArray) := fun b2 o hb => ⟨hb, hother b2 (fun e => k5 o (e ▸ hb))⟩
  have hmid : upd μ id (.blk b sz tot) = μ := by
    funext k; simp only [upd]; split
    · rename_i hk; subst hk; exact g2.symm
    · rfl
  have hnl := hn.len
  have hb1 : (p + new.length) * sz ≤ es.length * sz := Nat.mul_le_mul_right _ hle
  have hb2 : es.length * sz ≤ tot * sz := Nat.mul_le_mul_right _ k3
  rw [Nat.add_mul] at hb1
  have hlen' : (es.take p ++ new ++ es.drop (p + new.length)).length = es.length := by
    simp only [List.length_append, List.length_take, List.length_drop]; omega
  have hh : Holds μ S w sz (es.take p ++ new ++ es.drop (p + new.length)) ((cs.toList.take (es.length * sz)).take (p * sz) ++ news ++ (cs.toList.take (es.length * sz)).drop (p * sz + news.length)) := by
    have := ((k6.take p (by omega)).append hn).append (k6.drop (p + new.length))
    rw [Nat.add_mul, ← hnl] at this
    exact this
  obtain ⟨q1, q2, q3, q4⟩ := set_blk hi hid (by simp) (.blk b sz tot) (w' := w.setRow b (cs.toList.take (p * sz) ++ news ++ cs.toList.drop (p * sz + news.length)).toArray) (b := .arr e sz (es.take p ++ new ++ es.drop (p + new.length))) (by simp) rfl rfl rfl
    (fun k hk hno => hother k (fun e => hno (e ▸ hown))) (by rintro k s t ⟨⟩; exact .inl hown) (fun hn => absurd rfl (hn e sz es)) (by rintro e1 s1 es1 e2 s2 es2 h1 h2; cases h1; cases h2; exact ⟨by rw [hlen']; exact Nat.le_refl _, fun _ => g2.symm⟩) false (fun _ => g2.symm)
    (by
      rw [hmid]
      refine BlkOk.of_holds hsz g2 (setRow_heap w b cs _ e _ k1) ?_ (by rw [hlen']; exact k3) k4 k5 (hh.same hsame) ?_
      · simp only [List.size_toArray, List.length_append, List.length_take, List.length_drop, Array.length_toList]
        omega
      · rw [hlen']
        exact take_over cs.toList news (es.length * sz) (p * sz) (by omega) (by have e : cs.toList.length = cs.size := Array.length_toList; rw [e, k2]; exact hb2))
  rw [hmid] at q1 q2 q4
  simp only [Bool.false_eq_true, if_false, List.map_id'] at q1 q2 q4
  refine ⟨μ, S, q1, ?_, ?_, q2⟩
  · rw [List.length_set]; exact ht.same hsame (fun _ _ => rfl)
  · rw [List.length_set]; exact hx
theorem appendN_ok {s : St} {μ : Nat → G} {S : Nat → Nat → Prop} {w : World} {tmps : List Value} (hi : Inv s.h μ S w) (ht : Rels μ S w s.h.length s.t tmps) {ts : Array TypeId} {ty e : TypeId} {einfo : TypeInfo} {b : AV} {vb vx : Value} {r : Res} {new : List (List AV)} {ie : TI}
    (hb : Rel μ S w s.h.length b vb) (hs : ie.size = einfo.size) (hbb : ie.bytes = einfo.bytes) (hp1 : 0 < einfo.size) (hp2 : 0 < einfo.bytes) (hz0 : ∃ z, einfo.zero = some z ∧ z.cells.size = einfo.size)
    (hsrc : ∀ z, einfo.zero = some z → z.cells.size = einfo.size → ∃ news, Src P ts ty e einfo z w vx new.length news ∧ (new ≠ [] → Holds μ S w einfo.size new news)) (hr : appendN s e ie b new = some r) :
    ∃ u w', (Builtin.append_ ts ty #[vb, vx]).run P w = .ok u w' ∧ Fin s μ S w tmps (resSt s r).1 (resSt s r).2 u w' := by
  obtain ⟨z, hz1, hz2⟩ := hz0
  obtain ⟨news, hsrc, hnews⟩ := hsrc z hz1 hz2
  unfold appendN at hr
  rw [hs, hbb] at hr
  have bound : ∀ k, k * einfo.bytes ≤ 2 ^ 47 → k ≤ 2 ^ 47 := fun k hk => Nat.le_trans (Nat.le_mul_of_pos_right k hp2) hk
  -- a new array that holds old and new
  have fresh : ∀ (es : List (List AV)) (vs news : List Value) (cap : Nat) (z : Value) (a : Option Addr), Holds μ S w einfo.size es vs → Holds μ S w einfo.size new news → einfo.zero = some z → z.cells.size = einfo.size → es.length + new.length ≤ cap → cap ≤ maxLen →
      Fin s μ S w tmps (.sl s.h.length 0 (es.length + new.length) false) { s with h := s.h ++ [.arr e einfo.size (es ++ new)] } (.slice (some ⟨w.heap.size, 0, none⟩) (es.length + new.length) cap)
        (w.drew.alloc (.cells (vs.toArray ++ news.toArray ++ Builtin.zeroCells z.cells (cap - (es.length + new.length))) e)) := by
    intro es vs news cap z a hv hn hz hzs hle hml
    have hh := hv.append hn
    obtain ⟨μ', q1, q2, q3, q4, q5⟩ := new_arr hi (w' := w.drew.alloc (.cells (vs.toArray ++ news.toArray ++ Builtin.zeroCells z.cells (cap - (es.length + new.length))) e)) (e := e) (sz := einfo.size) (tot := cap) (es := es ++ new) (vs := vs ++ news)
      (Pushed.drew_alloc w _) hp1 (by
        rw [Array.size_append, size_zeroCells, hzs, Array.size_append, List.size_toArray, List.size_toArray, hv.len, hn.len, ← Nat.add_mul, ← Nat.add_mul]
        congr 1; omega) (by simpa using hle) hml hh (by
        rw [Array.toList_append, Array.toList_append, ← hh.len]
        simp only [List.append_assoc]
        rw [← List.append_assoc]
        exact List.take_left)
    refine ⟨μ', S, q1, (ht.same q3 q4).mono (by simp), ?_, q2⟩
    simpa using q5
  split at hr
  · -- the base is full: a new array, or nothing
    rename_i es
    split at hr
    case isTrue => cases hr
    case isFalse hnn =>
    split at hr
    case isTrue hz =>
      obtain ⟨hz0, rfl⟩ := hz
      simp at hr; subst hr
      simp only [resSt]
      have hb' := hb
      cases hb with
      | fs _ _ _ a cap V g1 g2 g3 g4 g5 =>
      exact ⟨_, w, hsrc.zero rfl a es.length cap g1, μ, S, hi, ht, hb', Adv.refl _ _ _ _⟩
    case isFalse hz =>
    split at hr
    case isFalse => simp at hr
    case isTrue hc =>
    simp at hr; subst hr
    obtain ⟨c1, c2, c3⟩ := hc
    simp only [resSt]
    cases hb with
    | fs _ _ _ a cap V g1 g2 g3 g4 g5 =>
    have hcap := g3 rfl
    by_cases hnew : new = []
    · have hes : es = [] := by simpa [hnew] using c2
      subst hnew hes
      obtain rfl : cap = 0 := by simpa using hcap
      obtain ⟨μ', q1, q2, q3, q4, q5⟩ := new_nil hi (e := e) hp1 a (fun h5 => absurd (by simp [noNil, h5]) hnn)
      exact ⟨_, w, by simpa using hsrc.zero rfl a 0 0 (Nat.le_refl _), μ', S, q1, (ht.same q3 q4).mono (by simp), by simpa using q5, q2⟩
    · have hn := hnews hnew
      have hlen : 0 < new.length := List.length_pos_iff.2 hnew
      by_cases hes : es = []
      · subst hes
        obtain rfl : cap = 0 := by simpa using hcap
        simp only [List.length_nil, Nat.zero_add] at c1
        obtain ⟨cap', k1, k2, k3⟩ := hsrc.fresh hlen c1 (bound _ c1) a
        have := fresh [] [] news cap' z none (Holds.nil _ _ _ _) hn hz1 hz2 (by simpa using k1) k2
        simp only [List.length_nil, Nat.zero_add, Array.empty_append] at this
        exact ⟨_, _, by simpa using k3, by simpa using this⟩
      · obtain ⟨a2, cap2, e2, hbase⟩ := elemsA_ok hi hp1 (Rel.fs (μ := μ) (S := S) (w := w) s.h.length es true a cap V g1 g2 g3 g4 g5) (show elemsA einfo.size s.h (.fs es true) = some es by simp only [elemsA]; rw [if_pos c3])
        cases e2
        obtain ⟨ad2, vs, rfl, hv, hcell2⟩ := hbase hes
        have hb1 := bound _ c1
        have := hsrc.grow hlen ad2 es.length cap vs hv.len hcell2 (by omega) (by omega) (by omega)
        exact ⟨_, _, this, fresh es vs news _ z none hv hn hz1 hz2 (grownCap_ge _ _ _ _) (grownCap_le_maxLen _ _ _ _ (by unfold maxLen; omega))⟩
  · rename_i id off len full
    split at hr
    case h_2 => simp at hr
    rename_i e' sz es hid
    split at hr
    case isFalse => simp at hr
    case isTrue hc =>
    obtain ⟨rfl, rfl, c1, c2⟩ := hc
    have hb1 := bound _ c2
    split at hr
    · -- full
      rename_i hfull
      split at hr
      · simp at hr
      rename_i hnew
      simp at hr; subst hr
      simp only [resSt]
      have hn := hnews hnew
      have hlen : 0 < new.length := List.length_pos_iff.2 hnew
      obtain ⟨a2, cap2, e2, hbase⟩ := elemsA_ok hi hp1 hb (show elemsA einfo.size s.h (.sl id off len full) = some (cutEs es off len) by simp only [elemsA, hid]; simp [c1])
      have hcl := cutEs_length c1
      subst e2
      rw [hcl] at hb
      have hcap : cap2 = len := by
        subst hfull
        cases hb with
        | sl _ _ _ _ _ _ _ _ _ g1 g2 g3 g4 g5 g6 => exact g5 rfl
        | slnil => rfl
      subst hcap
      by_cases hes : cutEs es off cap2 = []
      · have h0 : cap2 = 0 := by rw [← hcl, hes]; rfl
        subst h0
        simp only [Nat.zero_add] at c2 hb1
        obtain ⟨cap', k1, k2, k3⟩ := hsrc.fresh hlen c2 hb1 a2
        have := fresh [] [] news cap' z none (Holds.nil _ _ _ _) hn hz1 hz2 (by simpa using k1) k2
        simp only [List.length_nil, Nat.zero_add, Array.empty_append] at this
        rw [hes] 
        exact ⟨_, _, by simpa using k3, by simpa using this⟩
      · obtain ⟨ad2, vs, rfl, hv, hcell2⟩ := hbase hes
        have hvl := hv.len
        rw [hcl] at hvl
        have := hsrc.grow hlen ad2 cap2 cap2 vs hvl hcell2 (by omega) (by omega) (by omega)
        have h9 := fresh (cutEs es off cap2) vs news _ z none hv hn hz1 hz2 (by rw [hcl]; exact grownCap_ge _ _ _ _) (grownCap_le_maxLen w (cap2 + new.length) cap2 e' (by unfold maxLen; omega))
        rw [hcl] at h9 ⊢
        exact ⟨_, _, this, h9⟩
    · rename_i hfull
      have hff : full = false := by simpa using hfull
      subst hff
      split at hr
      case isFalse =>
        split at hr
        case isFalse =>
          split at hr
          · rename_i hnew
            subst hnew
            simp at hr; subst hr
            simp only [resSt]
            cases hb with
            | slnil _ _ _ a g1 g2 => exact ⟨_, w, hsrc.zero rfl a 0 0 (Nat.le_refl _), μ, S, hi, ht, .slnil _ _ _ a g1 g2, Adv.refl ..⟩
            | sl _ _ _ _ _ bb sz tot cap g1 g2 g3 g4 g5 g6 => exact ⟨_, w, hsrc.zero rfl _ _ _ g3, μ, S, hi, ht, .sl _ _ _ _ _ bb sz tot cap g1 g2 g3 g4 g5 g6, Adv.refl ..⟩
          · simp at hr
        case isTrue hc =>
        obtain ⟨rfl, hle, hnew⟩ := hc
        simp at hr; subst hr
        simp only [resSt]
        have hbk := hi.blk id _ hid
        have hlen : 0 < new.length := List.length_pos_iff.2 hnew
        have hn := hnews hnew
        cases hb with
        | slnil _ _ _ a g1 g2 =>
          obtain ⟨_, _, ⟨_, q⟩ | ⟨_, _, _, q, _⟩⟩ := hbk
          · subst q; rw [List.length_nil] at hle; omega
          · rw [g2] at q; cases q
        | sl _ _ _ _ _ bb sz tot cap g1 g2 g3 g4 g5 g6 =>
          have hszz : sz = einfo.size := by
            obtain ⟨_, _, ⟨⟨_, q, _⟩, _⟩ | ⟨_, _, _, q, _⟩⟩ := hbk
            · rw [g2] at q; cases q
            · rw [g2] at q; cases q; rfl
          subst hszz
          have htot := g6 rfl
          simp only [Nat.zero_add] at htot
          subst htot
          obtain ⟨cs, k1, k2, k3, k4, k5, k6⟩ := hbk.holds g2
          have hb2 : (len + new.length) * einfo.size ≤ cap * einfo.size := Nat.mul_le_mul_right _ (by omega)
          rw [Nat.add_mul] at hb2
          have hnl := hn.len
          have hrun := hsrc.room hlen bb len cap cs k1 (by omega) (by omega)
          simp only [Nat.zero_mul]
          have key := over_ok hi ht hid g2 k1 k2 k3 k4 k5 k6 hn hle hp1 (.sl id 0 (len + new.length) false) (.slice (some ⟨bb, 0, none⟩) (len + new.length) cap) ?_
          · rw [List.append_assoc] at key; exact ⟨_, _, hrun, key⟩
          have := Rel.sl (μ := μ) (S := S) (w := w.setRow bb (cs.toList.take (len * einfo.size) ++ news ++ cs.toList.drop (len * einfo.size + news.length)).toArray) s.h.length id 0 (len + new.length) false bb einfo.size cap cap g1 g2 (by omega) g4 (by simp) (by simp)
          simpa using this
      case isTrue hc =>
      obtain ⟨rfl, hle⟩ := hc
      simp at hr; subst hr
      simp only [resSt]
      rw [hle] at c2 hb1
      rw [show len + new.length = es.length + new.length by rw [hle]]
      have hbk := hi.blk id _ hid
      -- what is left to show, once the append has run
      have done : ∀ (g : G) (u : Value) (w' : World), (Builtin.append_ ts ty #[vb, vx]).run P w = .ok u w' → w.heap.size ≤ w'.heap.size → w'.os = w.os → w'.tape = w.tape → w'.output = w.output →
          (∀ k, k < w.heap.size → ¬ owned s.h μ id k → w'.heap[k]? = w.heap[k]?) → (∀ k sz tot, g = .blk k sz tot → owned s.h μ id k ∨ w.heap.size ≤ k) → (new = [] → g = μ id) →
          BlkOk s.h.length (upd μ id g) S w' id (.arr e' einfo.size (es ++ new)) → Rel (upd μ id g) S w' s.h.length (.sl id 0 (es.length + new.length) false) u →
          ∃ u w', (Builtin.append_ ts ty #[vb, vx]).run P w = .ok u w' ∧ Fin s μ S w tmps (.sl id 0 (es.length + new.length) false) ⟨s.t.map (AV.kill id), (s.h.map (Blk.kill id)).set id (.arr e' einfo.size (es ++ new))⟩ u w' := by
        intro g u w' hrun hsz hos htp hout hk hg hgk hblk hrel
        obtain ⟨q1, q2, q3, q4⟩ := set_blk hi hid (by simp) g hsz hos htp hout hk hg (fun hn => absurd rfl (hn e' einfo.size es)) (by rintro e1 s1 es1 e2 s2 es2 h1 h2; cases h1; cases h2; exact ⟨by simp, fun he => hgk (by simpa using he)⟩) true (by simp) hblk
        simp only [if_true] at q1 q2 q4
        refine ⟨u, w', hrun, upd μ id g, S, q1, ?_, ?_, q2⟩
        · rw [List.length_set, List.length_map]; exact ht.kills q4
        · rw [List.length_set, List.length_map]; exact hrel
      cases hb with
      | slnil _ _ _ a g1 g2 =>
        obtain rfl : es = [] := List.eq_nil_of_length_eq_zero hle.symm
        by_cases hnew : new = []
        · subst hnew
          have hA : e' = 5 → a = none := by
            obtain ⟨_, _, ⟨⟨x, p1, p2⟩, _⟩ | ⟨_, _, _, q, _⟩⟩ := hbk
            · rw [g2] at p1; cases p1; exact p2
            · rw [g2] at q; cases q
          refine done (.nilA a) _ w (hsrc.zero rfl a 0 0 (Nat.le_refl _)) (Nat.le_refl _) rfl rfl rfl (fun _ _ _ => rfl) (by simp) (fun _ => g2.symm) ⟨hp1, by simp, .inl ⟨⟨a, upd_same _ _ _, hA⟩, rfl⟩⟩ (.slnil _ _ _ a g1 (upd_same _ _ _))
        · have hn := hnews hnew
          have hlen : 0 < new.length := List.length_pos_iff.2 hnew
          replace c2 : new.length * einfo.bytes ≤ 2 ^ 47 := by rw [List.length_nil, Nat.zero_add] at c2; exact c2
          replace hb1 : new.length ≤ 2 ^ 47 := by rw [List.length_nil, Nat.zero_add] at hb1; exact hb1
          obtain ⟨cap', k1, k2, k3⟩ := hsrc.fresh hlen c2 hb1 a
          have hp := Pushed.drew_alloc w (.cells (news.toArray ++ Builtin.zeroCells z.cells (cap' - new.length)) e')
          refine done (.blk w.heap.size einfo.size cap') _ _ k3 (by rw [hp.size]; omega) rfl rfl rfl (fun k hk _ => hp.old hk) (by rintro k s t ⟨⟩; exact .inr (Nat.le_refl _)) (fun h => absurd h hnew) ?_ ?_
          · refine BlkOk.of_holds (vs := news) hp1 (upd_same _ _ _) hp.last ?_ (by simpa using k1) k2 (fun o hso => by have := hi.old _ _ hso; omega) (by simpa using hn.same (fun b o hb => ⟨hb, hp.old (hi.old b o hb)⟩)) ?_
            · rw [Array.size_append, size_zeroCells, hz2, List.size_toArray, hn.len, ← Nat.add_mul]; congr 1; omega
            · rw [Array.toList_append, List.nil_append, ← hn.len]; exact List.take_left
          · have := Rel.sl (μ := upd μ id (.blk w.heap.size einfo.size cap')) (S := S) (w := w.drew.alloc (.cells (news.toArray ++ Builtin.zeroCells z.cells (cap' - new.length)) e')) s.h.length id 0 new.length false w.heap.size einfo.size cap' cap' g1 (upd_same _ _ _) k1 k2 (by simp) (by simp)
            simpa using this
      | sl _ _ _ _ _ bb sz tot cap g1 g2 g3 g4 g5 g6 =>
        subst hle
        have hszz : sz = einfo.size := by
          obtain ⟨_, _, ⟨⟨_, q, _⟩, _⟩ | ⟨_, _, _, q, _⟩⟩ := hbk
          · rw [g2] at q; cases q
          · rw [g2] at q; cases q; rfl
        subst hszz
        have htot := g6 rfl
        simp only [Nat.zero_add] at htot
        subst htot
        obtain ⟨cs, k1, k2, k3, k4, k5, k6⟩ := hbk.holds g2
        have hown : owned s.h μ id bb := ⟨_, hid, by simp, einfo.size, cap, g2⟩
        have hg : ∀ k sz tot, (G.blk bb einfo.size cap) = .blk k sz tot → owned s.h μ id k ∨ w.heap.size ≤ k := by rintro k s t ⟨⟩; exact .inl hown
        by_cases hnew : new = []
        · subst hnew
          refine done (.blk bb einfo.size cap) _ w (hsrc.zero rfl _ _ _ g3) (Nat.le_refl _) rfl rfl rfl (fun _ _ _ => rfl) hg (fun _ => g2.symm) ?_ ?_
          · rw [List.append_nil]
            exact BlkOk.of_holds (vs := cs.toList.take (es.length * einfo.size)) hp1 (upd_same _ _ _) k1 k2 k3 k4 k5 (k6.same (Same.refl _ _)) rfl
          · exact Rel.sl s.h.length id 0 es.length false bb einfo.size cap cap g1 (upd_same _ _ _) g3 g4 (by simp) (by simp)
        · have hn := hnews hnew
          have hlen : 0 < new.length := List.length_pos_iff.2 hnew
          by_cases hroom : es.length + new.length ≤ cap
          · have hfit : es.length * einfo.size + news.length ≤ cs.size := by rw [k2, hn.len, ← Nat.add_mul]; exact Nat.mul_le_mul_right _ hroom
            have hrun := hsrc.room hlen bb es.length cap cs k1 hroom hfit
            simp only [Nat.zero_mul] at done ⊢
            refine done (.blk bb einfo.size cap) _ _ hrun (by simp) rfl rfl rfl (fun k hk hno => setRow_other w bb k _ (fun e => hno (e ▸ hown))) hg (fun _ => g2.symm) ?_ ?_
            · have hsame : Same S S w (w.setRow bb (cs.toList.take (es.length * einfo.size) ++ news ++ cs.toList.drop (es.length * einfo.size + news.length)).toArray) := fun b o hb => ⟨hb, setRow_other w bb b _ (fun e => k5 o (e ▸ hb))⟩
              have hh := (k6.append hn).same (μ' := upd μ id (.blk bb einfo.size cap)) hsame
              refine BlkOk.of_holds (vs := cs.toList.take (es.length * einfo.size) ++ news) hp1 (upd_same _ _ _) (setRow_heap w bb cs _ e' _ k1) ?_ (by simpa using hroom) k4 k5 hh ?_
              · have h1 := k6.len
                simp only [List.size_toArray, List.length_append, List.length_drop, Array.length_toList]
                rw [h1]; omega
              · rw [← hh.len]; exact List.take_left
            · have := Rel.sl (μ := upd μ id (.blk bb einfo.size cap)) (S := S) (w := w.setRow bb (cs.toList.take (es.length * einfo.size) ++ news ++ cs.toList.drop (es.length * einfo.size + news.length)).toArray) s.h.length id 0 (es.length + new.length) false bb einfo.size cap cap g1 (upd_same _ _ _) hroom g4 (by simp) (by simp)
              simpa using this
          · have holds : ∀ j v, (cs.toList.take (es.length * einfo.size))[j]? = some v → w.cell? ((⟨bb, 0 * einfo.size, none⟩ : Addr).add j) = some v := fun j v hj => by
              rw [List.getElem?_take] at hj
              split at hj
              · rw [addr_add, cell_row k1]; simpa using hj
              · simp at hj
            have hrun := hsrc.grow hlen ⟨bb, 0 * einfo.size, none⟩ es.length cap _ k6.len holds (by omega) (by omega) (by omega)
            have hp := Pushed.drew_alloc w (.cells ((cs.toList.take (es.length * einfo.size)).toArray ++ news.toArray ++ Builtin.zeroCells z.cells (grownCap w (es.length + new.length) cap e' - (es.length + new.length))) e')
            have hge := grownCap_ge w (es.length + new.length) cap e'
            have hml := grownCap_le_maxLen w (es.length + new.length) cap e' (by unfold maxLen; omega)
            have hh := (k6.append hn).same (μ' := upd μ id (.blk w.heap.size einfo.size (grownCap w (es.length + new.length) cap e'))) (S' := S) (fun b o hb => ⟨hb, hp.old (hi.old b o hb)⟩)
            refine done (.blk w.heap.size einfo.size (grownCap w (es.length + new.length) cap e')) _ _ hrun (by rw [hp.size]; omega) rfl rfl rfl (fun k hk _ => hp.old hk) (by rintro k s t ⟨⟩; exact .inr (Nat.le_refl _)) (fun h => absurd h hnew) ?_ ?_
            · refine BlkOk.of_holds hp1 (upd_same _ _ _) hp.last ?_ (by simpa using hge) hml (fun o hso => by have := hi.old _ _ hso; omega) hh ?_
              · have h1 := k6.len
                rw [Array.size_append, size_zeroCells, hz2, Array.size_append, List.size_toArray, List.size_toArray, h1, hn.len, ← Nat.add_mul, ← Nat.add_mul]
                congr 1; omega
              · rw [Array.toList_append, Array.toList_append, ← hh.len]
                exact List.take_left
            · have := Rel.sl (μ := upd μ id (.blk w.heap.size einfo.size (grownCap w (es.length + new.length) cap e'))) (S := S) (w := w.drew.alloc (.cells ((cs.toList.take (es.length * einfo.size)).toArray ++ news.toArray ++ Builtin.zeroCells z.cells (grownCap w (es.length + new.length) cap e' - (es.length + new.length))) e')) s.h.length id 0 (es.length + new.length) false w.heap.size einfo.size _ _ g1 (upd_same _ _ _) hge hml (by simp) (by simp)
              simpa using this
  · simp at hr
theorem appendA_ok {s : St} {μ : Nat → G} {S : Nat → Nat → Prop} {w : World} {tmps : List Value} (hi : Inv s.h μ S w) (ht : Rels μ S w s.h.length s.t tmps) {t ty : TypeId} {b x : AV} {vb vx : Value} {r : Res} (hb : Rel μ S w s.h.length b vb) (hx : Rel μ S w s.h.length x vx)
    (hr : appendA P s t b x = some r) : ∃ u w', (Builtin.append_ #[t, t] ty #[vb, vx]).run P w = .ok u w' ∧ Fin s μ S w tmps (resSt s r).1 (resSt s r).2 u w' := by
  unfold appendA at hr
  split at hr
  case h_2 => simp at hr
  rename_i e sz0 by0 z0 hty
  have h2 := tyOf_slice hty
  cases hte : tyOf P e with
  | none => simp [hte] at hr
  | some ie =>
  simp only [hte] at hr
  split at hr
  · simp at hr
  rename_i hpos
  simp only [not_or, ne_eq, Decidable.not_not] at hpos
  obtain ⟨einfo, ed, h3, h4, rfl⟩ := tyOf_spec hte
  simp only [] at hpos hr
  have hp1 : 0 < einfo.size := by omega
  have hp2 : 0 < einfo.bytes := by omega
  cases hel : elemsA einfo.size s.h x with
  | none => simp [hel] at hr
  | some new =>
  simp only [hel] at hr
  obtain ⟨ax, cx, rfl, hsrc⟩ := elemsA_ok hi hp1 hx hel
  have hz0 : ∃ z, einfo.zero = some z ∧ z.cells.size = einfo.size := by
    have hz := hpos.2.2
    simp only [Option.map_eq_some_iff] at hz
    obtain ⟨zl, hz, hzl⟩ := hz
    obtain ⟨v, k1, k2, k3, k4⟩ := zeroA_ok (n := 0) (μ := μ) (S := S) (w := w) hz
    refine ⟨v, by simpa [h3] using k2, ?_⟩
    rw [← hzl, k3.1]; simp
  refine appendN_ok hi ht hb rfl rfl hp1 hp2 hz0 (fun z hz1 hz2 => ?_) hr
  by_cases hnew : new = []
  · subst hnew
    exact ⟨[], ⟨fun _ b len cap hle => run_append_zero h2 h3 w b len cap hle ax cx, fun h => absurd h (Nat.lt_irrefl _), fun h => absurd h (Nat.lt_irrefl _), fun h => absurd h (Nat.lt_irrefl _)⟩, fun h => absurd rfl h⟩
  · obtain ⟨ad, news, rfl, hn, hcell⟩ := hsrc hnew
    exact ⟨news, src_slice h2 h3 hz1 ad new.length cx news hn.len hcell hn.one (List.length_pos_iff.2 hnew), fun _ => hn⟩
theorem ofBytes_holds (μ : Nat → G) (S : Nat → Nat → Prop) (w : World) (q : ByteArray) : Holds μ S w 1 (ofBytes q) (Lib.strCells q) := by
  have hl : (Lib.strCells q).length = q.size := Lib.strCells_length q
  refine ⟨by rw [hl]; simp [ofBytes], fun c hc => ?_, fun i c j x v a b d => ?_, fun u hu => Lib.strCells_oneCell q u hu⟩
  · obtain ⟨u, _, rfl⟩ := List.mem_map.1 hc
    rfl
  · simp only [ofBytes, List.getElem?_map, Option.map_eq_some_iff] at a
    obtain ⟨u, hu, rfl⟩ := a
    obtain rfl : j = 0 := by have := lt_of_get b; simp [eB] at this; exact this
    simp [eB] at b; subst b
    rw [Nat.mul_one, Nat.add_zero] at d
    have : v = .int .u8 u.toNat := by
      have h1 : (Lib.strCells q)[i]? = some (.int .u8 u.toNat) := by
        simp only [Lib.strCells, List.getElem?_map, Option.map_eq_some_iff]
        exact ⟨u, hu, rfl⟩
      rw [h1] at d; exact (Option.some.inj d).symm
    subst this
    exact .v _ _ rfl
theorem appendT_ok {s : St} {μ : Nat → G} {S : Nat → Nat → Prop} {w : World} {tmps : List Value} (hi : Inv s.h μ S w) (ht : Rels μ S w s.h.length s.t tmps) {t u ty : TypeId} {b x : AV} {vb vx : Value} {r : Res} (hb : Rel μ S w s.h.length b vb) (hx : Rel μ S w s.h.length x vx)
    (hr : appendT P s t u b x = some r) : ∃ v w', (Builtin.append_ #[t, u] ty #[vb, vx]).run P w = .ok v w' ∧ Fin s μ S w tmps (resSt s r).1 (resSt s r).2 v w' := by
  unfold appendT at hr
  split at hr
  case h_2 => simp at hr
  rename_i e sz0 by0 z0 _ _ _ q hty hty2
  have h2 := tyOf_slice hty
  obtain ⟨i2, d2, q1, q2, q3, _⟩ := tyOf_info hty2
  obtain ⟨rfl⟩ : d2 = .string := by cases d2 <;> simp [tdOf] at q3; rfl
  split at hr
  · rename_i ie hte
    split at hr
    · rename_i hc
      simp only [Bool.and_eq_true, beq_iff_eq] at hc
      obtain ⟨⟨⟨c1, c2⟩, c3⟩, c4⟩ := hc
      obtain ⟨einfo, ed, h3, h4, rfl⟩ := tyOf_spec hte
      simp only [] at c2 c3
      have e1 := hx.int; subst e1
      have hz0 : ∃ z, einfo.zero = some z ∧ z.cells.size = einfo.size := by
        simp only [Option.map_eq_some_iff] at c4
        obtain ⟨zl, hz, hzl⟩ := c4
        obtain ⟨v, k1, k2, k3, k4⟩ := zeroA_ok (n := 0) (μ := μ) (S := S) (w := w) hz
        refine ⟨v, by simpa [h3] using k2, ?_⟩
        have := k3.1
        simp at this
        omega
      refine appendN_ok hi ht hb rfl rfl (by omega) (by omega) hz0 (fun z hz1 hz2 => ?_) hr
      have hl : (ofBytes q).length = q.size := by simp [ofBytes]
      rw [hl]
      exact ⟨Lib.strCells q, src_string h2 q2 h3 hz1 c2 c3 q, fun _ => by rw [c2]; exact ofBytes_holds μ S w q⟩
    · simp at hr
  · simp at hr
end Go.Abs
end
