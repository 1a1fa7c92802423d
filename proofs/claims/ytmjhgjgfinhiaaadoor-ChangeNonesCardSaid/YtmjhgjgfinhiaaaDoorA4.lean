/- YtmjhgjgfinhiaaaDoorA4: a part of the interpreter by which the claim is shown, and of the walks: no conditions of its own: every theorem states its own. -/
import Derived.Test.YtmjhgjgfinhiaaaDoorA3
import Derived.Lib.SlTrimSet
import Derived.Lib.IndexMore
import Derived.Lib.IndexAny
import Derived.Lib.Strings
import Derived.Test.YtmjhgjgfinhiaaaDoorProg
section
set_option linter.unusedVariables false
set_option linter.unusedSimpArgs false
set_option linter.unusedSectionVars false
namespace Go.Abs.SA
/-- The digits; blanks. -/
abbrev digS : ByteArray := ⟨#[48, 49, 50, 51, 52, 53, 54, 55, 56, 57]⟩
abbrev blaS : ByteArray := ⟨#[32, 9, 13, 10]⟩
/-- A text of bytes. -/
abbrev mkS (l : List UInt8) : ByteArray := ⟨l.toArray⟩
abbrev lS8 (s : ByteArray) : List UInt8 := s.data.toList
abbrev big (s : ByteArray) : Prop := s.size < 4294967281
/-! Functions of the library, as the kit's contracts have them. -/
def ext_Trim (ys : List AV) : Option AV := match ys with
    | [.v (.string s), .v (.string t)] => if s.size ≤ 9223372036854775807 ∧ (t = digS ∨ t = blaS) then some (.v (.string (mkS (Lib.trimS (lS8 s) (lS8 t))))) else none
    | _ => none
def ext_IndexByte (ys : List AV) : Option AV := match ys with
    | [.v (.string s), .v (.int .u8 c)] => if 0 ≤ c ∧ c < 256 then some (.v (.int .i64 (Lib.indexByte (lS8 s) (UInt8.ofNat c.toNat)))) else none
    | _ => none
def ext_Index (ys : List AV) : Option AV := match ys with
    | [.v (.string s), .v (.string t)] => if big s then some (.v (.int .i64 (Lib.index (lS8 s) (lS8 t)))) else none
    | _ => none
def ext_Cut (ys : List AV) : Option AV := match ys with
    | [.v (.string s), .v (.string t)] => if big s then some (.tup [.v (.string (mkS (Lib.cut (lS8 s) (lS8 t)).1)), .v (.string (mkS (Lib.cut (lS8 s) (lS8 t)).2.1)), .v (.bool (Lib.cut (lS8 s) (lS8 t)).2.2)]) else none
    | _ => none
def ext_Contains (ys : List AV) : Option AV := match ys with
    | [.v (.string s), .v (.string t)] => if big s then some (.v (.bool (Lib.contains (lS8 s) (lS8 t)))) else none
    | _ => none
def ext_ContainsAny (ys : List AV) : Option AV := match ys with
    | [.v (.string s), .v (.string t)] => if big s ∧ big t ∧ (∀ b ∈ lS8 s, b.toNat < 128) ∧ (∀ b ∈ lS8 t, b.toNat < 128) then some (.v (.bool (Lib.containsAny (lS8 s) (lS8 t)))) else none
    | _ => none
def ext_HasPrefix (ys : List AV) : Option AV := match ys with
    | [.v (.string s), .v (.string t)] => some (.v (.bool (Lib.hasPrefix (lS8 s) (lS8 t))))
    | _ => none
def ext_HasSuffix (ys : List AV) : Option AV := match ys with
    | [.v (.string s), .v (.string t)] => if big s then some (.v (.bool (Lib.hasSuffix (lS8 s) (lS8 t)))) else none
    | _ => none
def ext_CutPrefix (ys : List AV) : Option AV := match ys with
    | [.v (.string s), .v (.string t)] => some (.tup [.v (.string (mkS (Lib.trimPrefix (lS8 s) (lS8 t)))), .v (.bool (Lib.hasPrefix (lS8 s) (lS8 t)))])
    | _ => none
def extY (f : FuncId) (ys : List AV) : Option AV := if f = 36 then ext_Trim ys else none
/-! The same, of those that make blocks or write to them. -/
def extL_Clone (ys : List AV) (h : List Blk) : Option (AV × List Blk) := match ys, h with
    | [.fs es full], [] => if es.length * 64 ≤ 140737488355328 ∧ ∀ c ∈ es, c.length = 4 then some (.sl 0 0 es.length false, [.arr 50 4 es]) else none
    | _, _ => none
def extL_copyCheck (ys : List AV) (h : List Blk) : Option (AV × List Blk) := match ys, h with
    | [.ptr 0 0], .var [.v (.pointer none), b] :: r => some (.tup [], .var [.ptr 0 0, b] :: r)
    | [.ptr 0 0], .var [.ptr 0 0, b] :: r => some (.tup [], .var [.ptr 0 0, b] :: r)
    | _, _ => none
/-- A text is taken off: nobody writes to it from then on. -/
def bldEnd (a : AV) (n : Nat) (es : List (List AV)) : Option (AV × List Blk) := if n = es.length then (match intsOf es with
    | some ns => some (.v (.string ⟨(ns.map fun n => UInt8.ofNat n.toNat).toArray⟩), [.var [a, .junk], .dead])
    | none => none) else none
def extL_String (ys : List AV) (h : List Blk) : Option (AV × List Blk) := match ys, h with
    | [.ptr 0 0], [.var [.v (.pointer none), .sl 1 0 n false], .arr 5 1 es] => bldEnd (.v (.pointer none)) n es
    | [.ptr 0 0], [.var [.ptr 0 0, .sl 1 0 n false], .arr 5 1 es] => bldEnd (.ptr 0 0) n es
    | _, _ => none
/-- The names of attributes, in order. -/
def attrIns (x : List AV × List UInt8) : List (List AV × List UInt8) → List (List AV × List UInt8)
  | [] => [x]
  | y :: r => if Lib.compareBytes y.2 x.2 < 0 then y :: attrIns x r else x :: y :: r
def attrKeys : List (List AV) → Option (List (List AV × List UInt8))
  | [] => some []
  | [.v (.string a), .v (.string b)] :: r => (attrKeys r).map (([.v (.string a), .v (.string b)], lS8 a) :: ·)
  | _ => none
def distB : List (List UInt8) → Bool
  | [] => true
  | x :: r => !r.contains x && distB r
def attrSort (es : List (List AV)) : Option (List (List AV)) := (attrKeys es).bind fun l => if distB (l.map (·.2)) then some ((l.foldr attrIns []).map (·.1)) else none
def extLY (f : FuncId) (ys : List AV) (h : List Blk) : Option (AV × List Blk) := if f = 54 then extL_Clone ys h else none
end Go.Abs.SA
end

section
set_option linter.unusedVariables false
set_option linter.unusedSimpArgs false
set_option linter.unusedSectionVars false
set_option linter.unusedVariables false
set_option maxRecDepth 100000
namespace Go.Abs.SA
/-- What the interpreter is told. -/
noncomputable def XX : X where
  P := Go.Proofs.Tryd.prog
  mode := fun f => look1 .data f [(3, .pure), (4, .pure), (5, .pure), (6, .pure), (7, .pure), (9, .pure), (15, .pure), (16, .pure), (17, .pure), (19, .pure), (21, .pure), (22, .pure), (23, .fresh), (25, .pure), (27, .pure), (28, .pure), (29, .pure), (30, .pure), (31, .pure), (32, .pure), (33, .pure), (34, .pure), (35, .pure), (37, .pure), (41, .pure), (42, .pure), (43, .pure), (44, .pure), (45, .pure), (54, .fresh), (55, .pure), (56, .pure), (57, .pure), (58, .pure), (59, .pure), (63, .pure), (64, .pure), (65, .pure), (66, .pure), (70, .pure), (75, .pure)]
  trim := fun f r => look2 none f r [(4, 18, some ([9, 13, 17, 100, 101, 102], [])),
    (9, 2, some ([1, 7, 8, 9], [])),
    (11, 3, some ([0, 2, 8, 20, 21, 22], [])),
    (11, 10, some ([0, 2, 8, 10, 12, 13, 20, 21, 22, 41, 42, 43], [])),
    (12, 3, some ([0, 8, 15, 16, 17], [])),
    (13, 3, some ([0, 6, 7, 17, 18, 19], [])),
    (14, 3, some ([1, 5, 8, 9, 10], [])),
    (21, 4, some ([1, 2, 12, 13, 14], [])),
    (22, 2, some ([3, 11, 12, 13], [])),
    (22, 6, some ([3, 6, 7, 11, 12, 13, 18, 19, 20], [])),
    (23, 3, some ([3, 6, 7, 8], [])),
    (26, 3, some ([3, 6, 11, 12, 13], [])),
    (27, 4, some ([1, 2, 15, 16, 17], [])),
    (29, 2, some ([0, 1, 7, 8], [])),
    (31, 4, some ([0, 1, 12, 13], [])),
    (32, 2, some ([0, 1, 7, 8], [])),
    (34, 2, some ([0, 1, 7, 8], [])),
    (38, 5, some ([3, 4, 5, 20, 21, 22], [])),
    (38, 8, some ([3, 4, 5, 7, 20, 21, 22, 27, 28, 29], [])),
    (43, 2, some ([0, 1, 9, 10, 11], [])),
    (53, 5, some ([0, 1, 5, 6], [])),
    (56, 2, some ([0, 1, 2, 6, 7, 8], [])),
    (56, 7, some ([0, 1, 2, 6], [])),
    (56, 9, some ([0, 1, 2, 6, 7, 8], [])),
    (63, 2, some ([0, 1, 7, 8], [])),
    (64, 1, some ([0, 1, 2, 3, 8], [])),
    (64, 4, some ([0, 1, 2, 3, 8, 9], [])),
    (65, 3, some ([0, 1, 4, 10, 11], [])),
    (65, 9, some ([0, 10, 13], [])),
    (65, 15, some ([0, 2, 4, 14, 15], [])),
    (65, 21, some ([0, 14, 17], [])),
    (65, 33, some ([0, 1, 2, 3, 4, 18, 19, 20, 21, 22], [])),
    (70, 2, some ([0, 2, 4, 10, 11], [])),
    (75, 1, some ([0, 1, 2, 3, 10], []))]
  adopt := fun f => look1 [] f [(11, [8]), (13, [6, 7]), (14, [5]), (23, [3]), (26, [6])]
  cls := fun f r => look2 [] f r [(4, 20, [0, 0, 0, 0, 0, 0, 0, 0, 0, 0, 0]),
    (4, 21, [0, 0, 0, 0, 0, 0, 0, 0, 0, 0, 0, 0, 0]),
    (10, 7, [0, 0, 0, 0, 0, 0, 0, 0, 0, 0, 0, 1, 2]),
    (10, 9, [0, 0, 0, 0, 0, 0, 0, 0, 0, 0, 0, 0]),
    (11, 8, [8, 8, 7, 7, 8, 7, 8, 8, 5, 5, 6, 6]),
    (12, 9, [0, 0, 0, 0, 0, 0, 2, 0, 0, 0, 0, 0]),
    (13, 8, [8, 8, 7, 7, 8, 7, 8, 5, 5, 6, 6]),
    (14, 5, [0, 0, 0, 0, 0, 0, 0, 0, 0, 0, 0, 0, 2, 0]),
    (24, 25, [0, 0, 0, 0, 0, 0, 0, 0, 0, 0, 0, 0, 0]),
    (31, 6, [0, 0, 0, 0, 0, 0, 0, 0, 0]),
    (39, 5, [0, 0, 0, 0, 0, 0, 2, 0]),
    (42, 1, [0, 0, 0, 0, 0, 0, 0, 0, 0, 0]),
    (42, 4, [0, 0, 0, 0, 0, 0, 0, 0, 0, 0, 0]),
    (42, 5, [0, 0, 0, 0, 0, 0, 0, 0, 0, 0, 0]),
    (64, 4, [0, 0, 0, 0, 0, 0, 0, 0, 0, 0, 0, 0, 0, 0, 0, 0, 0]),
    (64, 6, [3, 3, 3, 3, 3, 3, 3, 3, 0, 0, 3, 3, 0, 0, 0, 4, 0, 4]),
    (65, 5, [0, 0, 0, 0, 0, 0, 0, 0, 0, 0, 0]),
    (65, 11, [3, 3, 3, 3, 3, 3, 3, 3, 0, 0, 3, 3, 0, 0, 0, 4, 0, 4]),
    (65, 17, [0, 0, 0, 0, 0, 0, 0, 0, 0, 0, 0, 0]),
    (65, 23, [3, 3, 3, 3, 3, 3, 3, 3, 0, 0, 3, 3, 0, 0, 0, 4, 0, 4]),
    (65, 35, [0, 0, 0, 0, 0, 0, 0, 0, 0, 0, 0, 0, 0, 0]),
    (75, 3, [3, 3, 3, 3, 3, 3, 3, 3, 3, 3, 3, 3, 0, 0, 3, 3, 3, 3, 0, 0, 0, 4, 0, 4])]
  fns := [3, 4, 5, 6, 7, 8, 9, 10, 11, 12, 13, 14, 15, 16, 17, 18, 19, 20, 21, 22, 23, 24, 25, 26, 27, 28, 29, 30, 31, 32, 33, 34, 35, 37, 38, 39, 40, 41, 42, 43, 44, 45, 53, 54, 55, 56, 57, 58, 59, 63, 64, 65, 66, 70, 75]
  ext := extY
  extL := extLY
  own := fun f => look1 [] f []
  live := fun f => look1 [] f [(12, [24, 25]), (13, [25]), (24, [39]), (25, [41]), (40, [53]), (41, [56]), (56, [64, 65]), (65, [65, 70]), (70, [75])]

theorem XX_P : XX.P = Go.Proofs.Tryd.prog := nr rfl
theorem mode_3 : XX.mode 3 = .pure := nr (by kernel_rfl)
theorem fns_3 : XX.fns.contains 3 = true := nr (by kernel_rfl)
theorem res_3 : Go.Proofs.Tryd.f3.results.toList = [.tmp 4] := nr rfl
theorem live_3 : XX.live 3 = [] := nr (by kernel_rfl)
theorem own_3 : XX.own 3 = [] := nr (by kernel_rfl)
theorem adopt_3 : XX.adopt 3 = [] := nr (by kernel_rfl)
theorem mode_4 : XX.mode 4 = .pure := nr (by kernel_rfl)
theorem fns_4 : XX.fns.contains 4 = true := nr (by kernel_rfl)
theorem res_4 : Go.Proofs.Tryd.f4.results.toList = [.tmp 4] := nr rfl
theorem live_4 : XX.live 4 = [] := nr (by kernel_rfl)
theorem own_4 : XX.own 4 = [] := nr (by kernel_rfl)
theorem adopt_4 : XX.adopt 4 = [] := nr (by kernel_rfl)
theorem cls_4_20 : XX.cls 4 20 = [0, 0, 0, 0, 0, 0, 0, 0, 0, 0, 0] := nr (by kernel_rfl)
theorem cls_4_21 : XX.cls 4 21 = [0, 0, 0, 0, 0, 0, 0, 0, 0, 0, 0, 0, 0] := nr (by kernel_rfl)
theorem tr_4_18 : XX.trim 4 18 = some ([9, 13, 17, 100, 101, 102], []) := nr (by kernel_rfl)
theorem trim_4_18 (d : AV) (l : List (Nat × AV)) (h : List Blk) (n : Nat) : trimA XX 4 18 n ⟨mkT 132 d l, h⟩ = gcK n (mkT 132 .junk [(9, lk d l 9), (13, lk d l 13), (17, lk d l 17), (100, lk d l 100), (101, lk d l 101), (102, lk d l 102)]) h := (trimA_keep tr_4_18 n _ h).trans (by rw [keep_mkT]; kernel_rfl)
/-- Function 4 at the head of loop 18. -/
abbrev S_4_18 (x9 x13 x17 x100 x101 x102 : AV) (h : List Blk) : St := ⟨mkT 132 .junk [(9, x9), (13, x13), (17, x17), (100, x100), (101, x101), (102, x102)], h⟩
theorem mode_5 : XX.mode 5 = .pure := nr (by kernel_rfl)
theorem fns_5 : XX.fns.contains 5 = true := nr (by kernel_rfl)
theorem res_5 : Go.Proofs.Tryd.f5.results.toList = [.tmp 4] := nr rfl
theorem live_5 : XX.live 5 = [] := nr (by kernel_rfl)
theorem own_5 : XX.own 5 = [] := nr (by kernel_rfl)
theorem adopt_5 : XX.adopt 5 = [] := nr (by kernel_rfl)
theorem mode_6 : XX.mode 6 = .pure := nr (by kernel_rfl)
theorem fns_6 : XX.fns.contains 6 = true := nr (by kernel_rfl)
theorem res_6 : Go.Proofs.Tryd.f6.results.toList = [.tmp 4] := nr rfl
theorem live_6 : XX.live 6 = [] := nr (by kernel_rfl)
theorem own_6 : XX.own 6 = [] := nr (by kernel_rfl)
theorem adopt_6 : XX.adopt 6 = [] := nr (by kernel_rfl)
theorem mode_7 : XX.mode 7 = .pure := nr (by kernel_rfl)
theorem fns_7 : XX.fns.contains 7 = true := nr (by kernel_rfl)
theorem res_7 : Go.Proofs.Tryd.f7.results.toList = [.tmp 0] := nr rfl
theorem live_7 : XX.live 7 = [] := nr (by kernel_rfl)
theorem own_7 : XX.own 7 = [] := nr (by kernel_rfl)
theorem adopt_7 : XX.adopt 7 = [] := nr (by kernel_rfl)
theorem mode_8 : XX.mode 8 = .data := nr (by kernel_rfl)
theorem fns_8 : XX.fns.contains 8 = true := nr (by kernel_rfl)
theorem res_8 : Go.Proofs.Tryd.f8.results.toList = [.tmp 2, .tmp 3] := nr rfl
theorem live_8 : XX.live 8 = [] := nr (by kernel_rfl)
theorem own_8 : XX.own 8 = [] := nr (by kernel_rfl)
theorem adopt_8 : XX.adopt 8 = [] := nr (by kernel_rfl)
theorem mode_9 : XX.mode 9 = .pure := nr (by kernel_rfl)
theorem fns_9 : XX.fns.contains 9 = true := nr (by kernel_rfl)
theorem res_9 : Go.Proofs.Tryd.f9.results.toList = [.tmp 4] := nr rfl
theorem live_9 : XX.live 9 = [] := nr (by kernel_rfl)
theorem own_9 : XX.own 9 = [] := nr (by kernel_rfl)
theorem adopt_9 : XX.adopt 9 = [] := nr (by kernel_rfl)
theorem tr_9_2 : XX.trim 9 2 = some ([1, 7, 8, 9], []) := nr (by kernel_rfl)
theorem trim_9_2 (d : AV) (l : List (Nat × AV)) (h : List Blk) (n : Nat) : trimA XX 9 2 n ⟨mkT 41 d l, h⟩ = gcK n (mkT 41 .junk [(1, lk d l 1), (7, lk d l 7), (8, lk d l 8), (9, lk d l 9)]) h := (trimA_keep tr_9_2 n _ h).trans (by rw [keep_mkT]; kernel_rfl)
/-- Function 9 at the head of loop 2. -/
abbrev S_9_2 (x1 x7 x8 x9 : AV) (h : List Blk) : St := ⟨mkT 41 .junk [(1, x1), (7, x7), (8, x8), (9, x9)], h⟩
theorem mode_10 : XX.mode 10 = .data := nr (by kernel_rfl)
theorem fns_10 : XX.fns.contains 10 = true := nr (by kernel_rfl)
theorem res_10 : Go.Proofs.Tryd.f10.results.toList = [.tmp 0] := nr rfl
theorem live_10 : XX.live 10 = [] := nr (by kernel_rfl)
theorem own_10 : XX.own 10 = [] := nr (by kernel_rfl)
theorem adopt_10 : XX.adopt 10 = [] := nr (by kernel_rfl)
theorem cls_10_7 : XX.cls 10 7 = [0, 0, 0, 0, 0, 0, 0, 0, 0, 0, 0, 1, 2] := nr (by kernel_rfl)
theorem cls_10_9 : XX.cls 10 9 = [0, 0, 0, 0, 0, 0, 0, 0, 0, 0, 0, 0] := nr (by kernel_rfl)
theorem mode_11 : XX.mode 11 = .data := nr (by kernel_rfl)
theorem fns_11 : XX.fns.contains 11 = true := nr (by kernel_rfl)
theorem res_11 : Go.Proofs.Tryd.f11.results.toList = [.tmp 6, .tmp 7] := nr rfl
theorem live_11 : XX.live 11 = [] := nr (by kernel_rfl)
theorem own_11 : XX.own 11 = [] := nr (by kernel_rfl)
theorem adopt_11 : XX.adopt 11 = [8] := nr (by kernel_rfl)
theorem cls_11_8 : XX.cls 11 8 = [8, 8, 7, 7, 8, 7, 8, 8, 5, 5, 6, 6] := nr (by kernel_rfl)
theorem tr_11_3 : XX.trim 11 3 = some ([0, 2, 8, 20, 21, 22], []) := nr (by kernel_rfl)
theorem trim_11_3 (d : AV) (l : List (Nat × AV)) (h : List Blk) (n : Nat) : trimA XX 11 3 n ⟨mkT 129 d l, h⟩ = gcK n (mkT 129 .junk [(0, lk d l 0), (2, lk d l 2), (8, lk d l 8), (20, lk d l 20), (21, lk d l 21), (22, lk d l 22)]) h := (trimA_keep tr_11_3 n _ h).trans (by rw [keep_mkT]; kernel_rfl)
/-- Function 11 at the head of loop 3. -/
abbrev S_11_3 (x0 x2 x8 x20 x21 x22 : AV) (h : List Blk) : St := ⟨mkT 129 .junk [(0, x0), (2, x2), (8, x8), (20, x20), (21, x21), (22, x22)], h⟩
theorem tr_11_10 : XX.trim 11 10 = some ([0, 2, 8, 10, 12, 13, 20, 21, 22, 41, 42, 43], []) := nr (by kernel_rfl)
theorem trim_11_10 (d : AV) (l : List (Nat × AV)) (h : List Blk) (n : Nat) : trimA XX 11 10 n ⟨mkT 129 d l, h⟩ = gcK n (mkT 129 .junk [(0, lk d l 0), (2, lk d l 2), (8, lk d l 8), (10, lk d l 10), (12, lk d l 12), (13, lk d l 13), (20, lk d l 20), (21, lk d l 21), (22, lk d l 22), (41, lk d l 41), (42, lk d l 42), (43, lk d l 43)]) h := (trimA_keep tr_11_10 n _ h).trans (by rw [keep_mkT]; kernel_rfl)
/-- Function 11 at the head of loop 10. -/
abbrev S_11_10 (x0 x2 x8 x10 x12 x13 x20 x21 x22 x41 x42 x43 : AV) (h : List Blk) : St := ⟨mkT 129 .junk [(0, x0), (2, x2), (8, x8), (10, x10), (12, x12), (13, x13), (20, x20), (21, x21), (22, x22), (41, x41), (42, x42), (43, x43)], h⟩
theorem mode_12 : XX.mode 12 = .data := nr (by kernel_rfl)
theorem fns_12 : XX.fns.contains 12 = true := nr (by kernel_rfl)
theorem res_12 : Go.Proofs.Tryd.f12.results.toList = [.tmp 6, .tmp 7] := nr rfl
theorem live_12 : XX.live 12 = [24, 25] := nr (by kernel_rfl)
theorem own_12 : XX.own 12 = [] := nr (by kernel_rfl)
theorem adopt_12 : XX.adopt 12 = [] := nr (by kernel_rfl)
theorem cls_12_9 : XX.cls 12 9 = [0, 0, 0, 0, 0, 0, 2, 0, 0, 0, 0, 0] := nr (by kernel_rfl)
theorem tr_12_3 : XX.trim 12 3 = some ([0, 8, 15, 16, 17], []) := nr (by kernel_rfl)
theorem trim_12_3 (d : AV) (l : List (Nat × AV)) (h : List Blk) (n : Nat) : trimA XX 12 3 n ⟨mkT 48 d l, h⟩ = gcK n (mkT 48 .junk [(0, lk d l 0), (8, lk d l 8), (15, lk d l 15), (16, lk d l 16), (17, lk d l 17)]) h := (trimA_keep tr_12_3 n _ h).trans (by rw [keep_mkT]; kernel_rfl)
/-- Function 12 at the head of loop 3. -/
abbrev S_12_3 (x0 x8 x15 x16 x17 : AV) (h : List Blk) : St := ⟨mkT 48 .junk [(0, x0), (8, x8), (15, x15), (16, x16), (17, x17)], h⟩
theorem mode_13 : XX.mode 13 = .data := nr (by kernel_rfl)
theorem fns_13 : XX.fns.contains 13 = true := nr (by kernel_rfl)
theorem res_13 : Go.Proofs.Tryd.f13.results.toList = [.tmp 4, .tmp 5] := nr rfl
theorem live_13 : XX.live 13 = [25] := nr (by kernel_rfl)
theorem own_13 : XX.own 13 = [] := nr (by kernel_rfl)
theorem adopt_13 : XX.adopt 13 = [6, 7] := nr (by kernel_rfl)
theorem cls_13_8 : XX.cls 13 8 = [8, 8, 7, 7, 8, 7, 8, 5, 5, 6, 6] := nr (by kernel_rfl)
theorem tr_13_3 : XX.trim 13 3 = some ([0, 6, 7, 17, 18, 19], []) := nr (by kernel_rfl)
theorem trim_13_3 (d : AV) (l : List (Nat × AV)) (h : List Blk) (n : Nat) : trimA XX 13 3 n ⟨mkT 110 d l, h⟩ = gcK n (mkT 110 .junk [(0, lk d l 0), (6, lk d l 6), (7, lk d l 7), (17, lk d l 17), (18, lk d l 18), (19, lk d l 19)]) h := (trimA_keep tr_13_3 n _ h).trans (by rw [keep_mkT]; kernel_rfl)
/-- Function 13 at the head of loop 3. -/
abbrev S_13_3 (x0 x6 x7 x17 x18 x19 : AV) (h : List Blk) : St := ⟨mkT 110 .junk [(0, x0), (6, x6), (7, x7), (17, x17), (18, x18), (19, x19)], h⟩
theorem mode_14 : XX.mode 14 = .data := nr (by kernel_rfl)
theorem fns_14 : XX.fns.contains 14 = true := nr (by kernel_rfl)
theorem res_14 : Go.Proofs.Tryd.f14.results.toList = [.tmp 4] := nr rfl
theorem live_14 : XX.live 14 = [] := nr (by kernel_rfl)
theorem own_14 : XX.own 14 = [] := nr (by kernel_rfl)
theorem adopt_14 : XX.adopt 14 = [5] := nr (by kernel_rfl)
theorem cls_14_5 : XX.cls 14 5 = [0, 0, 0, 0, 0, 0, 0, 0, 0, 0, 0, 0, 2, 0] := nr (by kernel_rfl)
theorem tr_14_3 : XX.trim 14 3 = some ([1, 5, 8, 9, 10], []) := nr (by kernel_rfl)
theorem trim_14_3 (d : AV) (l : List (Nat × AV)) (h : List Blk) (n : Nat) : trimA XX 14 3 n ⟨mkT 29 d l, h⟩ = gcK n (mkT 29 .junk [(1, lk d l 1), (5, lk d l 5), (8, lk d l 8), (9, lk d l 9), (10, lk d l 10)]) h := (trimA_keep tr_14_3 n _ h).trans (by rw [keep_mkT]; kernel_rfl)
/-- Function 14 at the head of loop 3. -/
abbrev S_14_3 (x1 x5 x8 x9 x10 : AV) (h : List Blk) : St := ⟨mkT 29 .junk [(1, x1), (5, x5), (8, x8), (9, x9), (10, x10)], h⟩
theorem mode_15 : XX.mode 15 = .pure := nr (by kernel_rfl)
theorem fns_15 : XX.fns.contains 15 = true := nr (by kernel_rfl)
theorem res_15 : Go.Proofs.Tryd.f15.results.toList = [.tmp 4] := nr rfl
theorem live_15 : XX.live 15 = [] := nr (by kernel_rfl)
theorem own_15 : XX.own 15 = [] := nr (by kernel_rfl)
theorem adopt_15 : XX.adopt 15 = [] := nr (by kernel_rfl)
theorem mode_16 : XX.mode 16 = .pure := nr (by kernel_rfl)
theorem fns_16 : XX.fns.contains 16 = true := nr (by kernel_rfl)
theorem res_16 : Go.Proofs.Tryd.f16.results.toList = [.tmp 6] := nr rfl
theorem live_16 : XX.live 16 = [] := nr (by kernel_rfl)
theorem own_16 : XX.own 16 = [] := nr (by kernel_rfl)
theorem adopt_16 : XX.adopt 16 = [] := nr (by kernel_rfl)
theorem mode_17 : XX.mode 17 = .pure := nr (by kernel_rfl)
theorem fns_17 : XX.fns.contains 17 = true := nr (by kernel_rfl)
theorem res_17 : Go.Proofs.Tryd.f17.results.toList = [.tmp 4] := nr rfl
theorem live_17 : XX.live 17 = [] := nr (by kernel_rfl)
theorem own_17 : XX.own 17 = [] := nr (by kernel_rfl)
theorem adopt_17 : XX.adopt 17 = [] := nr (by kernel_rfl)
theorem mode_18 : XX.mode 18 = .data := nr (by kernel_rfl)
theorem fns_18 : XX.fns.contains 18 = true := nr (by kernel_rfl)
theorem res_18 : Go.Proofs.Tryd.f18.results.toList = [.tmp 6, .tmp 7] := nr rfl
theorem live_18 : XX.live 18 = [] := nr (by kernel_rfl)
theorem own_18 : XX.own 18 = [] := nr (by kernel_rfl)
theorem adopt_18 : XX.adopt 18 = [] := nr (by kernel_rfl)
theorem mode_19 : XX.mode 19 = .pure := nr (by kernel_rfl)
theorem fns_19 : XX.fns.contains 19 = true := nr (by kernel_rfl)
theorem res_19 : Go.Proofs.Tryd.f19.results.toList = [.tmp 2] := nr rfl
theorem live_19 : XX.live 19 = [] := nr (by kernel_rfl)
theorem own_19 : XX.own 19 = [] := nr (by kernel_rfl)
theorem adopt_19 : XX.adopt 19 = [] := nr (by kernel_rfl)
theorem mode_20 : XX.mode 20 = .data := nr (by kernel_rfl)
theorem fns_20 : XX.fns.contains 20 = true := nr (by kernel_rfl)
theorem res_20 : Go.Proofs.Tryd.f20.results.toList = [.cell 4 45] := nr rfl
theorem live_20 : XX.live 20 = [] := nr (by kernel_rfl)
theorem own_20 : XX.own 20 = [] := nr (by kernel_rfl)
theorem adopt_20 : XX.adopt 20 = [] := nr (by kernel_rfl)
theorem mode_21 : XX.mode 21 = .pure := nr (by kernel_rfl)
theorem fns_21 : XX.fns.contains 21 = true := nr (by kernel_rfl)
theorem res_21 : Go.Proofs.Tryd.f21.results.toList = [.tmp 4] := nr rfl
theorem live_21 : XX.live 21 = [] := nr (by kernel_rfl)
theorem own_21 : XX.own 21 = [] := nr (by kernel_rfl)
theorem adopt_21 : XX.adopt 21 = [] := nr (by kernel_rfl)
theorem tr_21_4 : XX.trim 21 4 = some ([1, 2, 12, 13, 14], []) := nr (by kernel_rfl)
theorem trim_21_4 (d : AV) (l : List (Nat × AV)) (h : List Blk) (n : Nat) : trimA XX 21 4 n ⟨mkT 66 d l, h⟩ = gcK n (mkT 66 .junk [(1, lk d l 1), (2, lk d l 2), (12, lk d l 12), (13, lk d l 13), (14, lk d l 14)]) h := (trimA_keep tr_21_4 n _ h).trans (by rw [keep_mkT]; kernel_rfl)
/-- Function 21 at the head of loop 4. -/
abbrev S_21_4 (x1 x2 x12 x13 x14 : AV) (h : List Blk) : St := ⟨mkT 66 .junk [(1, x1), (2, x2), (12, x12), (13, x13), (14, x14)], h⟩
theorem mode_22 : XX.mode 22 = .pure := nr (by kernel_rfl)
theorem fns_22 : XX.fns.contains 22 = true := nr (by kernel_rfl)
theorem res_22 : Go.Proofs.Tryd.f22.results.toList = [.tmp 4] := nr rfl
theorem live_22 : XX.live 22 = [] := nr (by kernel_rfl)
theorem own_22 : XX.own 22 = [] := nr (by kernel_rfl)
theorem adopt_22 : XX.adopt 22 = [] := nr (by kernel_rfl)
theorem tr_22_2 : XX.trim 22 2 = some ([3, 11, 12, 13], []) := nr (by kernel_rfl)
theorem trim_22_2 (d : AV) (l : List (Nat × AV)) (h : List Blk) (n : Nat) : trimA XX 22 2 n ⟨mkT 37 d l, h⟩ = gcK n (mkT 37 .junk [(3, lk d l 3), (11, lk d l 11), (12, lk d l 12), (13, lk d l 13)]) h := (trimA_keep tr_22_2 n _ h).trans (by rw [keep_mkT]; kernel_rfl)
/-- Function 22 at the head of loop 2. -/
abbrev S_22_2 (x3 x11 x12 x13 : AV) (h : List Blk) : St := ⟨mkT 37 .junk [(3, x3), (11, x11), (12, x12), (13, x13)], h⟩
theorem tr_22_6 : XX.trim 22 6 = some ([3, 6, 7, 11, 12, 13, 18, 19, 20], []) := nr (by kernel_rfl)
theorem trim_22_6 (d : AV) (l : List (Nat × AV)) (h : List Blk) (n : Nat) : trimA XX 22 6 n ⟨mkT 37 d l, h⟩ = gcK n (mkT 37 .junk [(3, lk d l 3), (6, lk d l 6), (7, lk d l 7), (11, lk d l 11), (12, lk d l 12), (13, lk d l 13), (18, lk d l 18), (19, lk d l 19), (20, lk d l 20)]) h := (trimA_keep tr_22_6 n _ h).trans (by rw [keep_mkT]; kernel_rfl)
/-- Function 22 at the head of loop 6. -/
abbrev S_22_6 (x3 x6 x7 x11 x12 x13 x18 x19 x20 : AV) (h : List Blk) : St := ⟨mkT 37 .junk [(3, x3), (6, x6), (7, x7), (11, x11), (12, x12), (13, x13), (18, x18), (19, x19), (20, x20)], h⟩
theorem mode_23 : XX.mode 23 = .fresh := nr (by kernel_rfl)
theorem fns_23 : XX.fns.contains 23 = true := nr (by kernel_rfl)
theorem res_23 : Go.Proofs.Tryd.f23.results.toList = [.tmp 2] := nr rfl
theorem live_23 : XX.live 23 = [] := nr (by kernel_rfl)
theorem own_23 : XX.own 23 = [] := nr (by kernel_rfl)
theorem adopt_23 : XX.adopt 23 = [3] := nr (by kernel_rfl)
theorem tr_23_3 : XX.trim 23 3 = some ([3, 6, 7, 8], []) := nr (by kernel_rfl)
theorem trim_23_3 (d : AV) (l : List (Nat × AV)) (h : List Blk) (n : Nat) : trimA XX 23 3 n ⟨mkT 22 d l, h⟩ = gcK n (mkT 22 .junk [(3, lk d l 3), (6, lk d l 6), (7, lk d l 7), (8, lk d l 8)]) h := (trimA_keep tr_23_3 n _ h).trans (by rw [keep_mkT]; kernel_rfl)
/-- Function 23 at the head of loop 3. -/
abbrev S_23_3 (x3 x6 x7 x8 : AV) (h : List Blk) : St := ⟨mkT 22 .junk [(3, x3), (6, x6), (7, x7), (8, x8)], h⟩
theorem mode_24 : XX.mode 24 = .data := nr (by kernel_rfl)
theorem fns_24 : XX.fns.contains 24 = true := nr (by kernel_rfl)
theorem res_24 : Go.Proofs.Tryd.f24.results.toList = [.tmp 6, .tmp 7] := nr rfl
theorem live_24 : XX.live 24 = [39] := nr (by kernel_rfl)
theorem own_24 : XX.own 24 = [] := nr (by kernel_rfl)
theorem adopt_24 : XX.adopt 24 = [] := nr (by kernel_rfl)
theorem cls_24_25 : XX.cls 24 25 = [0, 0, 0, 0, 0, 0, 0, 0, 0, 0, 0, 0, 0] := nr (by kernel_rfl)
theorem mode_25 : XX.mode 25 = .pure := nr (by kernel_rfl)
theorem fns_25 : XX.fns.contains 25 = true := nr (by kernel_rfl)
theorem res_25 : Go.Proofs.Tryd.f25.results.toList = [] := nr rfl
theorem live_25 : XX.live 25 = [41] := nr (by kernel_rfl)
theorem own_25 : XX.own 25 = [] := nr (by kernel_rfl)
theorem adopt_25 : XX.adopt 25 = [] := nr (by kernel_rfl)
theorem mode_26 : XX.mode 26 = .data := nr (by kernel_rfl)
theorem fns_26 : XX.fns.contains 26 = true := nr (by kernel_rfl)
theorem res_26 : Go.Proofs.Tryd.f26.results.toList = [.tmp 4, .tmp 5] := nr rfl
theorem live_26 : XX.live 26 = [] := nr (by kernel_rfl)
theorem own_26 : XX.own 26 = [] := nr (by kernel_rfl)
theorem adopt_26 : XX.adopt 26 = [6] := nr (by kernel_rfl)
theorem tr_26_3 : XX.trim 26 3 = some ([3, 6, 11, 12, 13], []) := nr (by kernel_rfl)
theorem trim_26_3 (d : AV) (l : List (Nat × AV)) (h : List Blk) (n : Nat) : trimA XX 26 3 n ⟨mkT 34 d l, h⟩ = gcK n (mkT 34 .junk [(3, lk d l 3), (6, lk d l 6), (11, lk d l 11), (12, lk d l 12), (13, lk d l 13)]) h := (trimA_keep tr_26_3 n _ h).trans (by rw [keep_mkT]; kernel_rfl)
/-- Function 26 at the head of loop 3. -/
abbrev S_26_3 (x3 x6 x11 x12 x13 : AV) (h : List Blk) : St := ⟨mkT 34 .junk [(3, x3), (6, x6), (11, x11), (12, x12), (13, x13)], h⟩
theorem mode_27 : XX.mode 27 = .pure := nr (by kernel_rfl)
theorem fns_27 : XX.fns.contains 27 = true := nr (by kernel_rfl)
theorem res_27 : Go.Proofs.Tryd.f27.results.toList = [.tmp 6] := nr rfl
theorem live_27 : XX.live 27 = [] := nr (by kernel_rfl)
theorem own_27 : XX.own 27 = [] := nr (by kernel_rfl)
theorem adopt_27 : XX.adopt 27 = [] := nr (by kernel_rfl)
theorem tr_27_4 : XX.trim 27 4 = some ([1, 2, 15, 16, 17], []) := nr (by kernel_rfl)
theorem trim_27_4 (d : AV) (l : List (Nat × AV)) (h : List Blk) (n : Nat) : trimA XX 27 4 n ⟨mkT 32 d l, h⟩ = gcK n (mkT 32 .junk [(1, lk d l 1), (2, lk d l 2), (15, lk d l 15), (16, lk d l 16), (17, lk d l 17)]) h := (trimA_keep tr_27_4 n _ h).trans (by rw [keep_mkT]; kernel_rfl)
/-- Function 27 at the head of loop 4. -/
abbrev S_27_4 (x1 x2 x15 x16 x17 : AV) (h : List Blk) : St := ⟨mkT 32 .junk [(1, x1), (2, x2), (15, x15), (16, x16), (17, x17)], h⟩
theorem mode_28 : XX.mode 28 = .pure := nr (by kernel_rfl)
theorem fns_28 : XX.fns.contains 28 = true := nr (by kernel_rfl)
theorem res_28 : Go.Proofs.Tryd.f28.results.toList = [.tmp 4] := nr rfl
theorem live_28 : XX.live 28 = [] := nr (by kernel_rfl)
theorem own_28 : XX.own 28 = [] := nr (by kernel_rfl)
theorem adopt_28 : XX.adopt 28 = [] := nr (by kernel_rfl)
theorem mode_29 : XX.mode 29 = .pure := nr (by kernel_rfl)
theorem fns_29 : XX.fns.contains 29 = true := nr (by kernel_rfl)
theorem res_29 : Go.Proofs.Tryd.f29.results.toList = [.tmp 4] := nr rfl
theorem live_29 : XX.live 29 = [] := nr (by kernel_rfl)
theorem own_29 : XX.own 29 = [] := nr (by kernel_rfl)
theorem adopt_29 : XX.adopt 29 = [] := nr (by kernel_rfl)
theorem tr_29_2 : XX.trim 29 2 = some ([0, 1, 7, 8], []) := nr (by kernel_rfl)
theorem trim_29_2 (d : AV) (l : List (Nat × AV)) (h : List Blk) (n : Nat) : trimA XX 29 2 n ⟨mkT 19 d l, h⟩ = gcK n (mkT 19 .junk [(0, lk d l 0), (1, lk d l 1), (7, lk d l 7), (8, lk d l 8)]) h := (trimA_keep tr_29_2 n _ h).trans (by rw [keep_mkT]; kernel_rfl)
/-- Function 29 at the head of loop 2. -/
abbrev S_29_2 (x0 x1 x7 x8 : AV) (h : List Blk) : St := ⟨mkT 19 .junk [(0, x0), (1, x1), (7, x7), (8, x8)], h⟩
theorem mode_30 : XX.mode 30 = .pure := nr (by kernel_rfl)
theorem fns_30 : XX.fns.contains 30 = true := nr (by kernel_rfl)
theorem res_30 : Go.Proofs.Tryd.f30.results.toList = [.tmp 5] := nr rfl
theorem live_30 : XX.live 30 = [] := nr (by kernel_rfl)
theorem own_30 : XX.own 30 = [] := nr (by kernel_rfl)
theorem adopt_30 : XX.adopt 30 = [] := nr (by kernel_rfl)
theorem mode_31 : XX.mode 31 = .pure := nr (by kernel_rfl)
theorem fns_31 : XX.fns.contains 31 = true := nr (by kernel_rfl)
theorem res_31 : Go.Proofs.Tryd.f31.results.toList = [.tmp 4] := nr rfl
theorem live_31 : XX.live 31 = [] := nr (by kernel_rfl)
theorem own_31 : XX.own 31 = [] := nr (by kernel_rfl)
theorem adopt_31 : XX.adopt 31 = [] := nr (by kernel_rfl)
theorem cls_31_6 : XX.cls 31 6 = [0, 0, 0, 0, 0, 0, 0, 0, 0] := nr (by kernel_rfl)
theorem tr_31_4 : XX.trim 31 4 = some ([0, 1, 12, 13], []) := nr (by kernel_rfl)
theorem trim_31_4 (d : AV) (l : List (Nat × AV)) (h : List Blk) (n : Nat) : trimA XX 31 4 n ⟨mkT 26 d l, h⟩ = gcK n (mkT 26 .junk [(0, lk d l 0), (1, lk d l 1), (12, lk d l 12), (13, lk d l 13)]) h := (trimA_keep tr_31_4 n _ h).trans (by rw [keep_mkT]; kernel_rfl)
/-- Function 31 at the head of loop 4. -/
abbrev S_31_4 (x0 x1 x12 x13 : AV) (h : List Blk) : St := ⟨mkT 26 .junk [(0, x0), (1, x1), (12, x12), (13, x13)], h⟩
theorem mode_32 : XX.mode 32 = .pure := nr (by kernel_rfl)
theorem fns_32 : XX.fns.contains 32 = true := nr (by kernel_rfl)
theorem res_32 : Go.Proofs.Tryd.f32.results.toList = [.tmp 4] := nr rfl
theorem live_32 : XX.live 32 = [] := nr (by kernel_rfl)
theorem own_32 : XX.own 32 = [] := nr (by kernel_rfl)
theorem adopt_32 : XX.adopt 32 = [] := nr (by kernel_rfl)
theorem tr_32_2 : XX.trim 32 2 = some ([0, 1, 7, 8], []) := nr (by kernel_rfl)
theorem trim_32_2 (d : AV) (l : List (Nat × AV)) (h : List Blk) (n : Nat) : trimA XX 32 2 n ⟨mkT 19 d l, h⟩ = gcK n (mkT 19 .junk [(0, lk d l 0), (1, lk d l 1), (7, lk d l 7), (8, lk d l 8)]) h := (trimA_keep tr_32_2 n _ h).trans (by rw [keep_mkT]; kernel_rfl)
/-- Function 32 at the head of loop 2. -/
abbrev S_32_2 (x0 x1 x7 x8 : AV) (h : List Blk) : St := ⟨mkT 19 .junk [(0, x0), (1, x1), (7, x7), (8, x8)], h⟩
theorem mode_33 : XX.mode 33 = .pure := nr (by kernel_rfl)
theorem fns_33 : XX.fns.contains 33 = true := nr (by kernel_rfl)
theorem res_33 : Go.Proofs.Tryd.f33.results.toList = [.tmp 3] := nr rfl
theorem live_33 : XX.live 33 = [] := nr (by kernel_rfl)
theorem own_33 : XX.own 33 = [] := nr (by kernel_rfl)
theorem adopt_33 : XX.adopt 33 = [] := nr (by kernel_rfl)
theorem mode_34 : XX.mode 34 = .pure := nr (by kernel_rfl)
theorem fns_34 : XX.fns.contains 34 = true := nr (by kernel_rfl)
theorem res_34 : Go.Proofs.Tryd.f34.results.toList = [.tmp 4] := nr rfl
theorem live_34 : XX.live 34 = [] := nr (by kernel_rfl)
theorem own_34 : XX.own 34 = [] := nr (by kernel_rfl)
theorem adopt_34 : XX.adopt 34 = [] := nr (by kernel_rfl)
theorem tr_34_2 : XX.trim 34 2 = some ([0, 1, 7, 8], []) := nr (by kernel_rfl)
theorem trim_34_2 (d : AV) (l : List (Nat × AV)) (h : List Blk) (n : Nat) : trimA XX 34 2 n ⟨mkT 19 d l, h⟩ = gcK n (mkT 19 .junk [(0, lk d l 0), (1, lk d l 1), (7, lk d l 7), (8, lk d l 8)]) h := (trimA_keep tr_34_2 n _ h).trans (by rw [keep_mkT]; kernel_rfl)
/-- Function 34 at the head of loop 2. -/
abbrev S_34_2 (x0 x1 x7 x8 : AV) (h : List Blk) : St := ⟨mkT 19 .junk [(0, x0), (1, x1), (7, x7), (8, x8)], h⟩
theorem mode_35 : XX.mode 35 = .pure := nr (by kernel_rfl)
theorem fns_35 : XX.fns.contains 35 = true := nr (by kernel_rfl)
theorem res_35 : Go.Proofs.Tryd.f35.results.toList = [.tmp 4] := nr rfl
theorem live_35 : XX.live 35 = [] := nr (by kernel_rfl)
theorem own_35 : XX.own 35 = [] := nr (by kernel_rfl)
theorem adopt_35 : XX.adopt 35 = [] := nr (by kernel_rfl)
theorem mode_37 : XX.mode 37 = .pure := nr (by kernel_rfl)
theorem fns_37 : XX.fns.contains 37 = true := nr (by kernel_rfl)
theorem res_37 : Go.Proofs.Tryd.f37.results.toList = [.tmp 4] := nr rfl
theorem live_37 : XX.live 37 = [] := nr (by kernel_rfl)
theorem own_37 : XX.own 37 = [] := nr (by kernel_rfl)
theorem adopt_37 : XX.adopt 37 = [] := nr (by kernel_rfl)
theorem mode_38 : XX.mode 38 = .data := nr (by kernel_rfl)
theorem fns_38 : XX.fns.contains 38 = true := nr (by kernel_rfl)
theorem res_38 : Go.Proofs.Tryd.f38.results.toList = [.cell 4 41] := nr rfl
theorem live_38 : XX.live 38 = [] := nr (by kernel_rfl)
theorem own_38 : XX.own 38 = [] := nr (by kernel_rfl)
theorem adopt_38 : XX.adopt 38 = [] := nr (by kernel_rfl)
theorem tr_38_5 : XX.trim 38 5 = some ([3, 4, 5, 20, 21, 22], []) := nr (by kernel_rfl)
theorem trim_38_5 (d : AV) (l : List (Nat × AV)) (h : List Blk) (n : Nat) : trimA XX 38 5 n ⟨mkT 49 d l, h⟩ = gcK n (mkT 49 .junk [(3, lk d l 3), (4, lk d l 4), (5, lk d l 5), (20, lk d l 20), (21, lk d l 21), (22, lk d l 22)]) h := (trimA_keep tr_38_5 n _ h).trans (by rw [keep_mkT]; kernel_rfl)
/-- Function 38 at the head of loop 5. -/
abbrev S_38_5 (x3 x4 x5 x20 x21 x22 : AV) (h : List Blk) : St := ⟨mkT 49 .junk [(3, x3), (4, x4), (5, x5), (20, x20), (21, x21), (22, x22)], h⟩
theorem tr_38_8 : XX.trim 38 8 = some ([3, 4, 5, 7, 20, 21, 22, 27, 28, 29], []) := nr (by kernel_rfl)
theorem trim_38_8 (d : AV) (l : List (Nat × AV)) (h : List Blk) (n : Nat) : trimA XX 38 8 n ⟨mkT 49 d l, h⟩ = gcK n (mkT 49 .junk [(3, lk d l 3), (4, lk d l 4), (5, lk d l 5), (7, lk d l 7), (20, lk d l 20), (21, lk d l 21), (22, lk d l 22), (27, lk d l 27), (28, lk d l 28), (29, lk d l 29)]) h := (trimA_keep tr_38_8 n _ h).trans (by rw [keep_mkT]; kernel_rfl)
/-- Function 38 at the head of loop 8. -/
abbrev S_38_8 (x3 x4 x5 x7 x20 x21 x22 x27 x28 x29 : AV) (h : List Blk) : St := ⟨mkT 49 .junk [(3, x3), (4, x4), (5, x5), (7, x7), (20, x20), (21, x21), (22, x22), (27, x27), (28, x28), (29, x29)], h⟩
theorem mode_39 : XX.mode 39 = .data := nr (by kernel_rfl)
theorem fns_39 : XX.fns.contains 39 = true := nr (by kernel_rfl)
theorem res_39 : Go.Proofs.Tryd.f39.results.toList = [.tmp 6] := nr rfl
theorem live_39 : XX.live 39 = [] := nr (by kernel_rfl)
theorem own_39 : XX.own 39 = [] := nr (by kernel_rfl)
theorem adopt_39 : XX.adopt 39 = [] := nr (by kernel_rfl)
theorem cls_39_5 : XX.cls 39 5 = [0, 0, 0, 0, 0, 0, 2, 0] := nr (by kernel_rfl)
theorem mode_40 : XX.mode 40 = .data := nr (by kernel_rfl)
theorem fns_40 : XX.fns.contains 40 = true := nr (by kernel_rfl)
theorem res_40 : Go.Proofs.Tryd.f40.results.toList = [.tmp 4] := nr rfl
theorem live_40 : XX.live 40 = [53] := nr (by kernel_rfl)
theorem own_40 : XX.own 40 = [] := nr (by kernel_rfl)
theorem adopt_40 : XX.adopt 40 = [] := nr (by kernel_rfl)
theorem mode_41 : XX.mode 41 = .pure := nr (by kernel_rfl)
theorem fns_41 : XX.fns.contains 41 = true := nr (by kernel_rfl)
theorem res_41 : Go.Proofs.Tryd.f41.results.toList = [] := nr rfl
theorem live_41 : XX.live 41 = [56] := nr (by kernel_rfl)
theorem own_41 : XX.own 41 = [] := nr (by kernel_rfl)
theorem adopt_41 : XX.adopt 41 = [] := nr (by kernel_rfl)
theorem mode_42 : XX.mode 42 = .pure := nr (by kernel_rfl)
theorem fns_42 : XX.fns.contains 42 = true := nr (by kernel_rfl)
theorem res_42 : Go.Proofs.Tryd.f42.results.toList = [.tmp 5] := nr rfl
theorem live_42 : XX.live 42 = [] := nr (by kernel_rfl)
theorem own_42 : XX.own 42 = [] := nr (by kernel_rfl)
theorem adopt_42 : XX.adopt 42 = [] := nr (by kernel_rfl)
theorem cls_42_1 : XX.cls 42 1 = [0, 0, 0, 0, 0, 0, 0, 0, 0, 0] := nr (by kernel_rfl)
theorem cls_42_4 : XX.cls 42 4 = [0, 0, 0, 0, 0, 0, 0, 0, 0, 0, 0] := nr (by kernel_rfl)
theorem cls_42_5 : XX.cls 42 5 = [0, 0, 0, 0, 0, 0, 0, 0, 0, 0, 0] := nr (by kernel_rfl)
theorem mode_43 : XX.mode 43 = .pure := nr (by kernel_rfl)
theorem fns_43 : XX.fns.contains 43 = true := nr (by kernel_rfl)
theorem res_43 : Go.Proofs.Tryd.f43.results.toList = [.tmp 4] := nr rfl
theorem live_43 : XX.live 43 = [] := nr (by kernel_rfl)
theorem own_43 : XX.own 43 = [] := nr (by kernel_rfl)
theorem adopt_43 : XX.adopt 43 = [] := nr (by kernel_rfl)
theorem tr_43_2 : XX.trim 43 2 = some ([0, 1, 9, 10, 11], []) := nr (by kernel_rfl)
theorem trim_43_2 (d : AV) (l : List (Nat × AV)) (h : List Blk) (n : Nat) : trimA XX 43 2 n ⟨mkT 36 d l, h⟩ = gcK n (mkT 36 .junk [(0, lk d l 0), (1, lk d l 1), (9, lk d l 9), (10, lk d l 10), (11, lk d l 11)]) h := (trimA_keep tr_43_2 n _ h).trans (by rw [keep_mkT]; kernel_rfl)
/-- Function 43 at the head of loop 2. -/
abbrev S_43_2 (x0 x1 x9 x10 x11 : AV) (h : List Blk) : St := ⟨mkT 36 .junk [(0, x0), (1, x1), (9, x9), (10, x10), (11, x11)], h⟩
theorem mode_44 : XX.mode 44 = .pure := nr (by kernel_rfl)
theorem fns_44 : XX.fns.contains 44 = true := nr (by kernel_rfl)
theorem res_44 : Go.Proofs.Tryd.f44.results.toList = [.tmp 3] := nr rfl
theorem live_44 : XX.live 44 = [] := nr (by kernel_rfl)
theorem own_44 : XX.own 44 = [] := nr (by kernel_rfl)
theorem adopt_44 : XX.adopt 44 = [] := nr (by kernel_rfl)
theorem mode_45 : XX.mode 45 = .pure := nr (by kernel_rfl)
theorem fns_45 : XX.fns.contains 45 = true := nr (by kernel_rfl)
theorem res_45 : Go.Proofs.Tryd.f45.results.toList = [.tmp 4] := nr rfl
theorem live_45 : XX.live 45 = [] := nr (by kernel_rfl)
theorem own_45 : XX.own 45 = [] := nr (by kernel_rfl)
theorem adopt_45 : XX.adopt 45 = [] := nr (by kernel_rfl)
theorem mode_53 : XX.mode 53 = .data := nr (by kernel_rfl)
theorem fns_53 : XX.fns.contains 53 = true := nr (by kernel_rfl)
theorem res_53 : Go.Proofs.Tryd.f53.results.toList = [.tmp 4] := nr rfl
theorem live_53 : XX.live 53 = [] := nr (by kernel_rfl)
theorem own_53 : XX.own 53 = [] := nr (by kernel_rfl)
theorem adopt_53 : XX.adopt 53 = [] := nr (by kernel_rfl)
theorem tr_53_5 : XX.trim 53 5 = some ([0, 1, 5, 6], []) := nr (by kernel_rfl)
theorem trim_53_5 (d : AV) (l : List (Nat × AV)) (h : List Blk) (n : Nat) : trimA XX 53 5 n ⟨mkT 42 d l, h⟩ = gcK n (mkT 42 .junk [(0, lk d l 0), (1, lk d l 1), (5, lk d l 5), (6, lk d l 6)]) h := (trimA_keep tr_53_5 n _ h).trans (by rw [keep_mkT]; kernel_rfl)
/-- Function 53 at the head of loop 5. -/
abbrev S_53_5 (x0 x1 x5 x6 : AV) (h : List Blk) : St := ⟨mkT 42 .junk [(0, x0), (1, x1), (5, x5), (6, x6)], h⟩
theorem mode_54 : XX.mode 54 = .fresh := nr (by kernel_rfl)
theorem fns_54 : XX.fns.contains 54 = true := nr (by kernel_rfl)
theorem res_54 : Go.Proofs.Tryd.f54.results.toList = [.tmp 2] := nr rfl
theorem live_54 : XX.live 54 = [] := nr (by kernel_rfl)
theorem own_54 : XX.own 54 = [] := nr (by kernel_rfl)
theorem adopt_54 : XX.adopt 54 = [] := nr (by kernel_rfl)
theorem mode_55 : XX.mode 55 = .pure := nr (by kernel_rfl)
theorem fns_55 : XX.fns.contains 55 = true := nr (by kernel_rfl)
theorem res_55 : Go.Proofs.Tryd.f55.results.toList = [.tmp 3] := nr rfl
theorem live_55 : XX.live 55 = [] := nr (by kernel_rfl)
theorem own_55 : XX.own 55 = [] := nr (by kernel_rfl)
theorem adopt_55 : XX.adopt 55 = [] := nr (by kernel_rfl)
theorem mode_56 : XX.mode 56 = .pure := nr (by kernel_rfl)
theorem fns_56 : XX.fns.contains 56 = true := nr (by kernel_rfl)
theorem res_56 : Go.Proofs.Tryd.f56.results.toList = [] := nr rfl
theorem live_56 : XX.live 56 = [64, 65] := nr (by kernel_rfl)
theorem own_56 : XX.own 56 = [] := nr (by kernel_rfl)
theorem adopt_56 : XX.adopt 56 = [] := nr (by kernel_rfl)
theorem tr_56_2 : XX.trim 56 2 = some ([0, 1, 2, 6, 7, 8], []) := nr (by kernel_rfl)
theorem trim_56_2 (d : AV) (l : List (Nat × AV)) (h : List Blk) (n : Nat) : trimA XX 56 2 n ⟨mkT 63 d l, h⟩ = gcK n (mkT 63 .junk [(0, lk d l 0), (1, lk d l 1), (2, lk d l 2), (6, lk d l 6), (7, lk d l 7), (8, lk d l 8)]) h := (trimA_keep tr_56_2 n _ h).trans (by rw [keep_mkT]; kernel_rfl)
/-- Function 56 at the head of loop 2. -/
abbrev S_56_2 (x0 x1 x2 x6 x7 x8 : AV) (h : List Blk) : St := ⟨mkT 63 .junk [(0, x0), (1, x1), (2, x2), (6, x6), (7, x7), (8, x8)], h⟩
theorem tr_56_7 : XX.trim 56 7 = some ([0, 1, 2, 6], []) := nr (by kernel_rfl)
theorem trim_56_7 (d : AV) (l : List (Nat × AV)) (h : List Blk) (n : Nat) : trimA XX 56 7 n ⟨mkT 63 d l, h⟩ = gcK n (mkT 63 .junk [(0, lk d l 0), (1, lk d l 1), (2, lk d l 2), (6, lk d l 6)]) h := (trimA_keep tr_56_7 n _ h).trans (by rw [keep_mkT]; kernel_rfl)
/-- Function 56 at the head of loop 7. -/
abbrev S_56_7 (x0 x1 x2 x6 : AV) (h : List Blk) : St := ⟨mkT 63 .junk [(0, x0), (1, x1), (2, x2), (6, x6)], h⟩
theorem tr_56_9 : XX.trim 56 9 = some ([0, 1, 2, 6, 7, 8], []) := nr (by kernel_rfl)
theorem trim_56_9 (d : AV) (l : List (Nat × AV)) (h : List Blk) (n : Nat) : trimA XX 56 9 n ⟨mkT 63 d l, h⟩ = gcK n (mkT 63 .junk [(0, lk d l 0), (1, lk d l 1), (2, lk d l 2), (6, lk d l 6), (7, lk d l 7), (8, lk d l 8)]) h := (trimA_keep tr_56_9 n _ h).trans (by rw [keep_mkT]; kernel_rfl)
/-- Function 56 at the head of loop 9. -/
abbrev S_56_9 (x0 x1 x2 x6 x7 x8 : AV) (h : List Blk) : St := ⟨mkT 63 .junk [(0, x0), (1, x1), (2, x2), (6, x6), (7, x7), (8, x8)], h⟩
theorem mode_57 : XX.mode 57 = .pure := nr (by kernel_rfl)
theorem fns_57 : XX.fns.contains 57 = true := nr (by kernel_rfl)
theorem res_57 : Go.Proofs.Tryd.f57.results.toList = [.tmp 4] := nr rfl
theorem live_57 : XX.live 57 = [] := nr (by kernel_rfl)
theorem own_57 : XX.own 57 = [] := nr (by kernel_rfl)
theorem adopt_57 : XX.adopt 57 = [] := nr (by kernel_rfl)
theorem mode_58 : XX.mode 58 = .pure := nr (by kernel_rfl)
theorem fns_58 : XX.fns.contains 58 = true := nr (by kernel_rfl)
theorem res_58 : Go.Proofs.Tryd.f58.results.toList = [.tmp 4] := nr rfl
theorem live_58 : XX.live 58 = [] := nr (by kernel_rfl)
theorem own_58 : XX.own 58 = [] := nr (by kernel_rfl)
theorem adopt_58 : XX.adopt 58 = [] := nr (by kernel_rfl)
theorem mode_59 : XX.mode 59 = .pure := nr (by kernel_rfl)
theorem fns_59 : XX.fns.contains 59 = true := nr (by kernel_rfl)
theorem res_59 : Go.Proofs.Tryd.f59.results.toList = [.tmp 4] := nr rfl
theorem live_59 : XX.live 59 = [] := nr (by kernel_rfl)
theorem own_59 : XX.own 59 = [] := nr (by kernel_rfl)
theorem adopt_59 : XX.adopt 59 = [] := nr (by kernel_rfl)
theorem mode_63 : XX.mode 63 = .pure := nr (by kernel_rfl)
theorem fns_63 : XX.fns.contains 63 = true := nr (by kernel_rfl)
theorem res_63 : Go.Proofs.Tryd.f63.results.toList = [.tmp 4] := nr rfl
theorem live_63 : XX.live 63 = [] := nr (by kernel_rfl)
theorem own_63 : XX.own 63 = [] := nr (by kernel_rfl)
theorem adopt_63 : XX.adopt 63 = [] := nr (by kernel_rfl)
theorem tr_63_2 : XX.trim 63 2 = some ([0, 1, 7, 8], []) := nr (by kernel_rfl)
theorem trim_63_2 (d : AV) (l : List (Nat × AV)) (h : List Blk) (n : Nat) : trimA XX 63 2 n ⟨mkT 19 d l, h⟩ = gcK n (mkT 19 .junk [(0, lk d l 0), (1, lk d l 1), (7, lk d l 7), (8, lk d l 8)]) h := (trimA_keep tr_63_2 n _ h).trans (by rw [keep_mkT]; kernel_rfl)
/-- Function 63 at the head of loop 2. -/
abbrev S_63_2 (x0 x1 x7 x8 : AV) (h : List Blk) : St := ⟨mkT 19 .junk [(0, x0), (1, x1), (7, x7), (8, x8)], h⟩
theorem mode_64 : XX.mode 64 = .pure := nr (by kernel_rfl)
theorem fns_64 : XX.fns.contains 64 = true := nr (by kernel_rfl)
theorem res_64 : Go.Proofs.Tryd.f64.results.toList = [] := nr rfl
theorem live_64 : XX.live 64 = [] := nr (by kernel_rfl)
theorem own_64 : XX.own 64 = [] := nr (by kernel_rfl)
theorem adopt_64 : XX.adopt 64 = [] := nr (by kernel_rfl)
theorem cls_64_4 : XX.cls 64 4 = [0, 0, 0, 0, 0, 0, 0, 0, 0, 0, 0, 0, 0, 0, 0, 0, 0] := nr (by kernel_rfl)
theorem cls_64_6 : XX.cls 64 6 = [3, 3, 3, 3, 3, 3, 3, 3, 0, 0, 3, 3, 0, 0, 0, 4, 0, 4] := nr (by kernel_rfl)
theorem tr_64_1 : XX.trim 64 1 = some ([0, 1, 2, 3, 8], []) := nr (by kernel_rfl)
theorem trim_64_1 (d : AV) (l : List (Nat × AV)) (h : List Blk) (n : Nat) : trimA XX 64 1 n ⟨mkT 53 d l, h⟩ = gcK n (mkT 53 .junk [(0, lk d l 0), (1, lk d l 1), (2, lk d l 2), (3, lk d l 3), (8, lk d l 8)]) h := (trimA_keep tr_64_1 n _ h).trans (by rw [keep_mkT]; kernel_rfl)
/-- Function 64 at the head of loop 1. -/
abbrev S_64_1 (x0 x1 x2 x3 x8 : AV) (h : List Blk) : St := ⟨mkT 53 .junk [(0, x0), (1, x1), (2, x2), (3, x3), (8, x8)], h⟩
theorem tr_64_4 : XX.trim 64 4 = some ([0, 1, 2, 3, 8, 9], []) := nr (by kernel_rfl)
theorem trim_64_4 (d : AV) (l : List (Nat × AV)) (h : List Blk) (n : Nat) : trimA XX 64 4 n ⟨mkT 53 d l, h⟩ = gcK n (mkT 53 .junk [(0, lk d l 0), (1, lk d l 1), (2, lk d l 2), (3, lk d l 3), (8, lk d l 8), (9, lk d l 9)]) h := (trimA_keep tr_64_4 n _ h).trans (by rw [keep_mkT]; kernel_rfl)
/-- Function 64 at the head of loop 4. -/
abbrev S_64_4 (x0 x1 x2 x3 x8 x9 : AV) (h : List Blk) : St := ⟨mkT 53 .junk [(0, x0), (1, x1), (2, x2), (3, x3), (8, x8), (9, x9)], h⟩
theorem mode_65 : XX.mode 65 = .pure := nr (by kernel_rfl)
theorem fns_65 : XX.fns.contains 65 = true := nr (by kernel_rfl)
theorem res_65 : Go.Proofs.Tryd.f65.results.toList = [] := nr rfl
theorem live_65 : XX.live 65 = [65, 70] := nr (by kernel_rfl)
theorem own_65 : XX.own 65 = [] := nr (by kernel_rfl)
theorem adopt_65 : XX.adopt 65 = [] := nr (by kernel_rfl)
theorem cls_65_5 : XX.cls 65 5 = [0, 0, 0, 0, 0, 0, 0, 0, 0, 0, 0] := nr (by kernel_rfl)
theorem cls_65_11 : XX.cls 65 11 = [3, 3, 3, 3, 3, 3, 3, 3, 0, 0, 3, 3, 0, 0, 0, 4, 0, 4] := nr (by kernel_rfl)
theorem cls_65_17 : XX.cls 65 17 = [0, 0, 0, 0, 0, 0, 0, 0, 0, 0, 0, 0] := nr (by kernel_rfl)
theorem cls_65_23 : XX.cls 65 23 = [3, 3, 3, 3, 3, 3, 3, 3, 0, 0, 3, 3, 0, 0, 0, 4, 0, 4] := nr (by kernel_rfl)
theorem cls_65_35 : XX.cls 65 35 = [0, 0, 0, 0, 0, 0, 0, 0, 0, 0, 0, 0, 0, 0] := nr (by kernel_rfl)
theorem tr_65_3 : XX.trim 65 3 = some ([0, 1, 4, 10, 11], []) := nr (by kernel_rfl)
theorem trim_65_3 (d : AV) (l : List (Nat × AV)) (h : List Blk) (n : Nat) : trimA XX 65 3 n ⟨mkT 220 d l, h⟩ = gcK n (mkT 220 .junk [(0, lk d l 0), (1, lk d l 1), (4, lk d l 4), (10, lk d l 10), (11, lk d l 11)]) h := (trimA_keep tr_65_3 n _ h).trans (by rw [keep_mkT]; kernel_rfl)
/-- Function 65 at the head of loop 3. -/
abbrev S_65_3 (x0 x1 x4 x10 x11 : AV) (h : List Blk) : St := ⟨mkT 220 .junk [(0, x0), (1, x1), (4, x4), (10, x10), (11, x11)], h⟩
theorem tr_65_9 : XX.trim 65 9 = some ([0, 10, 13], []) := nr (by kernel_rfl)
theorem trim_65_9 (d : AV) (l : List (Nat × AV)) (h : List Blk) (n : Nat) : trimA XX 65 9 n ⟨mkT 220 d l, h⟩ = gcK n (mkT 220 .junk [(0, lk d l 0), (10, lk d l 10), (13, lk d l 13)]) h := (trimA_keep tr_65_9 n _ h).trans (by rw [keep_mkT]; kernel_rfl)
/-- Function 65 at the head of loop 9. -/
abbrev S_65_9 (x0 x10 x13 : AV) (h : List Blk) : St := ⟨mkT 220 .junk [(0, x0), (10, x10), (13, x13)], h⟩
theorem tr_65_15 : XX.trim 65 15 = some ([0, 2, 4, 14, 15], []) := nr (by kernel_rfl)
theorem trim_65_15 (d : AV) (l : List (Nat × AV)) (h : List Blk) (n : Nat) : trimA XX 65 15 n ⟨mkT 220 d l, h⟩ = gcK n (mkT 220 .junk [(0, lk d l 0), (2, lk d l 2), (4, lk d l 4), (14, lk d l 14), (15, lk d l 15)]) h := (trimA_keep tr_65_15 n _ h).trans (by rw [keep_mkT]; kernel_rfl)
/-- Function 65 at the head of loop 15. -/
abbrev S_65_15 (x0 x2 x4 x14 x15 : AV) (h : List Blk) : St := ⟨mkT 220 .junk [(0, x0), (2, x2), (4, x4), (14, x14), (15, x15)], h⟩
theorem tr_65_21 : XX.trim 65 21 = some ([0, 14, 17], []) := nr (by kernel_rfl)
theorem trim_65_21 (d : AV) (l : List (Nat × AV)) (h : List Blk) (n : Nat) : trimA XX 65 21 n ⟨mkT 220 d l, h⟩ = gcK n (mkT 220 .junk [(0, lk d l 0), (14, lk d l 14), (17, lk d l 17)]) h := (trimA_keep tr_65_21 n _ h).trans (by rw [keep_mkT]; kernel_rfl)
/-- Function 65 at the head of loop 21. -/
abbrev S_65_21 (x0 x14 x17 : AV) (h : List Blk) : St := ⟨mkT 220 .junk [(0, x0), (14, x14), (17, x17)], h⟩
theorem tr_65_33 : XX.trim 65 33 = some ([0, 1, 2, 3, 4, 18, 19, 20, 21, 22], []) := nr (by kernel_rfl)
theorem trim_65_33 (d : AV) (l : List (Nat × AV)) (h : List Blk) (n : Nat) : trimA XX 65 33 n ⟨mkT 220 d l, h⟩ = gcK n (mkT 220 .junk [(0, lk d l 0), (1, lk d l 1), (2, lk d l 2), (3, lk d l 3), (4, lk d l 4), (18, lk d l 18), (19, lk d l 19), (20, lk d l 20), (21, lk d l 21), (22, lk d l 22)]) h := (trimA_keep tr_65_33 n _ h).trans (by rw [keep_mkT]; kernel_rfl)
/-- Function 65 at the head of loop 33. -/
abbrev S_65_33 (x0 x1 x2 x3 x4 x18 x19 x20 x21 x22 : AV) (h : List Blk) : St := ⟨mkT 220 .junk [(0, x0), (1, x1), (2, x2), (3, x3), (4, x4), (18, x18), (19, x19), (20, x20), (21, x21), (22, x22)], h⟩
theorem mode_66 : XX.mode 66 = .pure := nr (by kernel_rfl)
theorem fns_66 : XX.fns.contains 66 = true := nr (by kernel_rfl)
theorem res_66 : Go.Proofs.Tryd.f66.results.toList = [.tmp 2] := nr rfl
theorem live_66 : XX.live 66 = [] := nr (by kernel_rfl)
theorem own_66 : XX.own 66 = [] := nr (by kernel_rfl)
theorem adopt_66 : XX.adopt 66 = [] := nr (by kernel_rfl)
theorem mode_70 : XX.mode 70 = .pure := nr (by kernel_rfl)
theorem fns_70 : XX.fns.contains 70 = true := nr (by kernel_rfl)
theorem res_70 : Go.Proofs.Tryd.f70.results.toList = [] := nr rfl
theorem live_70 : XX.live 70 = [75] := nr (by kernel_rfl)
theorem own_70 : XX.own 70 = [] := nr (by kernel_rfl)
theorem adopt_70 : XX.adopt 70 = [] := nr (by kernel_rfl)
theorem tr_70_2 : XX.trim 70 2 = some ([0, 2, 4, 10, 11], []) := nr (by kernel_rfl)
theorem trim_70_2 (d : AV) (l : List (Nat × AV)) (h : List Blk) (n : Nat) : trimA XX 70 2 n ⟨mkT 58 d l, h⟩ = gcK n (mkT 58 .junk [(0, lk d l 0), (2, lk d l 2), (4, lk d l 4), (10, lk d l 10), (11, lk d l 11)]) h := (trimA_keep tr_70_2 n _ h).trans (by rw [keep_mkT]; kernel_rfl)
/-- Function 70 at the head of loop 2. -/
abbrev S_70_2 (x0 x2 x4 x10 x11 : AV) (h : List Blk) : St := ⟨mkT 58 .junk [(0, x0), (2, x2), (4, x4), (10, x10), (11, x11)], h⟩
theorem mode_75 : XX.mode 75 = .pure := nr (by kernel_rfl)
theorem fns_75 : XX.fns.contains 75 = true := nr (by kernel_rfl)
theorem res_75 : Go.Proofs.Tryd.f75.results.toList = [] := nr rfl
theorem live_75 : XX.live 75 = [] := nr (by kernel_rfl)
theorem own_75 : XX.own 75 = [] := nr (by kernel_rfl)
theorem adopt_75 : XX.adopt 75 = [] := nr (by kernel_rfl)
theorem cls_75_3 : XX.cls 75 3 = [3, 3, 3, 3, 3, 3, 3, 3, 3, 3, 3, 3, 0, 0, 3, 3, 3, 3, 0, 0, 0, 4, 0, 4] := nr (by kernel_rfl)
theorem tr_75_1 : XX.trim 75 1 = some ([0, 1, 2, 3, 10], []) := nr (by kernel_rfl)
theorem trim_75_1 (d : AV) (l : List (Nat × AV)) (h : List Blk) (n : Nat) : trimA XX 75 1 n ⟨mkT 38 d l, h⟩ = gcK n (mkT 38 .junk [(0, lk d l 0), (1, lk d l 1), (2, lk d l 2), (3, lk d l 3), (10, lk d l 10)]) h := (trimA_keep tr_75_1 n _ h).trans (by rw [keep_mkT]; kernel_rfl)
/-- Function 75 at the head of loop 1. -/
abbrev S_75_1 (x0 x1 x2 x3 x10 : AV) (h : List Blk) : St := ⟨mkT 38 .junk [(0, x0), (1, x1), (2, x2), (3, x3), (10, x10)], h⟩
theorem ty_0 : tyOf Go.Proofs.Tryd.prog 0 = Option.some { d := Go.Abs.TD.other, size := 1, bytes := 0, zero := Option.some (Go.Value.tuple #[]) } := nr (by kernel_rfl)
theorem ty_1 : tyOf Go.Proofs.Tryd.prog 1 = Option.some { d := Go.Abs.TD.other, size := 1, bytes := 8, zero := Option.some Go.Value.nilFunc } := nr (by kernel_rfl)
theorem zero_1 : zeroA Go.Proofs.Tryd.prog 1 = some [.v (Go.Value.nilFunc)] := nr (by kernel_rfl)
theorem ty_2 : tyOf Go.Proofs.Tryd.prog 2 = Option.some { d := Go.Abs.TD.int Go.IntKind.i64, size := 1, bytes := 8, zero := Option.some (Go.Value.int Go.IntKind.i64 0) } := nr (by kernel_rfl)
theorem zero_2 : zeroA Go.Proofs.Tryd.prog 2 = some [.v (Go.Value.int Go.IntKind.i64 0)] := nr (by kernel_rfl)
theorem ty_3 : tyOf Go.Proofs.Tryd.prog 3 = Option.some { d := Go.Abs.TD.int Go.IntKind.i64, size := 1, bytes := 8, zero := Option.some (Go.Value.int Go.IntKind.i64 0) } := nr (by kernel_rfl)
theorem zero_3 : zeroA Go.Proofs.Tryd.prog 3 = some [.v (Go.Value.int Go.IntKind.i64 0)] := nr (by kernel_rfl)
theorem ty_4 : tyOf Go.Proofs.Tryd.prog 4 = Option.some { d := Go.Abs.TD.bool, size := 1, bytes := 1, zero := Option.some (Go.Value.bool Bool.false) } := nr (by kernel_rfl)
theorem zero_4 : zeroA Go.Proofs.Tryd.prog 4 = some [.v (Go.Value.bool Bool.false)] := nr (by kernel_rfl)
theorem ty_5 : tyOf Go.Proofs.Tryd.prog 5 = Option.some { d := Go.Abs.TD.int Go.IntKind.u8, size := 1, bytes := 1, zero := Option.some (Go.Value.int Go.IntKind.u8 0) } := nr (by kernel_rfl)
theorem zero_5 : zeroA Go.Proofs.Tryd.prog 5 = some [.v (Go.Value.int Go.IntKind.u8 0)] := nr (by kernel_rfl)
theorem ty_6 : tyOf Go.Proofs.Tryd.prog 6 = Option.some { d := Go.Abs.TD.int Go.IntKind.u8, size := 1, bytes := 1, zero := Option.some (Go.Value.int Go.IntKind.u8 0) } := nr (by kernel_rfl)
theorem zero_6 : zeroA Go.Proofs.Tryd.prog 6 = some [.v (Go.Value.int Go.IntKind.u8 0)] := nr (by kernel_rfl)
theorem ty_9 : tyOf Go.Proofs.Tryd.prog 9 = Option.some { d := Go.Abs.TD.str, size := 1, bytes := 16, zero := Option.some (Go.Value.string { data := #[] }) } := nr (by kernel_rfl)
theorem zero_9 : zeroA Go.Proofs.Tryd.prog 9 = some [.v (Go.Value.string { data := #[] })] := nr (by kernel_rfl)
theorem ty_22 : tyOf Go.Proofs.Tryd.prog 22 = Option.some { d := Go.Abs.TD.slice 54, size := 1, bytes := 24, zero := Option.some (Go.Value.slice Option.none 0 0) } := nr (by kernel_rfl)
theorem zero_22 : zeroA Go.Proofs.Tryd.prog 22 = some [.fs [] true] := nr (by kernel_rfl)
theorem ty_24 : tyOf Go.Proofs.Tryd.prog 24 = Option.some { d := Go.Abs.TD.slice 41, size := 1, bytes := 24, zero := Option.some (Go.Value.slice Option.none 0 0) } := nr (by kernel_rfl)
theorem zero_24 : zeroA Go.Proofs.Tryd.prog 24 = some [.fs [] true] := nr (by kernel_rfl)
theorem ty_28 : tyOf Go.Proofs.Tryd.prog 28 = Option.some { d := Go.Abs.TD.slice 45, size := 1, bytes := 24, zero := Option.some (Go.Value.slice Option.none 0 0) } := nr (by kernel_rfl)
theorem zero_28 : zeroA Go.Proofs.Tryd.prog 28 = some [.fs [] true] := nr (by kernel_rfl)
theorem ty_30 : tyOf Go.Proofs.Tryd.prog 30 = Option.some { d := Go.Abs.TD.slice 50, size := 1, bytes := 24, zero := Option.some (Go.Value.slice Option.none 0 0) } := nr (by kernel_rfl)
theorem zero_30 : zeroA Go.Proofs.Tryd.prog 30 = some [.fs [] true] := nr (by kernel_rfl)
theorem ty_31 : tyOf Go.Proofs.Tryd.prog 31 = Option.some { d := Go.Abs.TD.int Go.IntKind.i64, size := 1, bytes := 8, zero := Option.some (Go.Value.int Go.IntKind.i64 0) } := nr (by kernel_rfl)
theorem zero_31 : zeroA Go.Proofs.Tryd.prog 31 = some [.v (Go.Value.int Go.IntKind.i64 0)] := nr (by kernel_rfl)
theorem ty_41 : tyOf Go.Proofs.Tryd.prog 41 = Option.some { d := Go.Abs.TD.struct [(0, 9), (1, 9), (2, 24)], size := 3, bytes := 56, zero := Option.some (Go.Value.agg #[Go.Value.string { data := #[] }, Go.Value.string { data := #[] }, Go.Value.slice Option.none 0 0]) } := nr (by kernel_rfl)
theorem zero_41 : zeroA Go.Proofs.Tryd.prog 41 = some [.v (Go.Value.string { data := #[] }), .v (Go.Value.string { data := #[] }), .fs [] true] := nr (by kernel_rfl)
theorem ty_43 : tyOf Go.Proofs.Tryd.prog 43 = Option.some { d := Go.Abs.TD.slice 9, size := 1, bytes := 24, zero := Option.some (Go.Value.slice Option.none 0 0) } := nr (by kernel_rfl)
theorem zero_43 : zeroA Go.Proofs.Tryd.prog 43 = some [.fs [] true] := nr (by kernel_rfl)
theorem ty_45 : tyOf Go.Proofs.Tryd.prog 45 = Option.some { d := Go.Abs.TD.struct [(0, 9), (1, 3), (2, 3), (3, 43), (4, 4), (5, 43), (6, 28)], size := 7, bytes := 112, zero := Option.some (Go.Value.agg #[Go.Value.string { data := #[] }, Go.Value.int Go.IntKind.i64 0, Go.Value.int Go.IntKind.i64 0, Go.Value.slice Option.none 0 0, Go.Value.bool Bool.false, Go.Value.slice Option.none 0 0, Go.Value.slice Option.none 0 0]) } := nr (by kernel_rfl)
theorem zero_45 : zeroA Go.Proofs.Tryd.prog 45 = some [.v (Go.Value.string { data := #[] }), .v (Go.Value.int Go.IntKind.i64 0), .v (Go.Value.int Go.IntKind.i64 0), .fs [] true, .v (Go.Value.bool Bool.false), .fs [] true, .fs [] true] := nr (by kernel_rfl)
theorem ty_50 : tyOf Go.Proofs.Tryd.prog 50 = Option.some { d := Go.Abs.TD.struct [(0, 9), (1, 9), (2, 3), (3, 30)], size := 4, bytes := 64, zero := Option.some (Go.Value.agg #[Go.Value.string { data := #[] }, Go.Value.string { data := #[] }, Go.Value.int Go.IntKind.i64 0, Go.Value.slice Option.none 0 0]) } := nr (by kernel_rfl)
theorem zero_50 : zeroA Go.Proofs.Tryd.prog 50 = some [.v (Go.Value.string { data := #[] }), .v (Go.Value.string { data := #[] }), .v (Go.Value.int Go.IntKind.i64 0), .fs [] true] := nr (by kernel_rfl)
theorem ty_52 : tyOf Go.Proofs.Tryd.prog 52 = Option.some { d := Go.Abs.TD.slice 57, size := 1, bytes := 24, zero := Option.some (Go.Value.slice Option.none 0 0) } := nr (by kernel_rfl)
theorem zero_52 : zeroA Go.Proofs.Tryd.prog 52 = some [.fs [] true] := nr (by kernel_rfl)
theorem ty_54 : tyOf Go.Proofs.Tryd.prog 54 = Option.some { d := Go.Abs.TD.struct [(0, 9), (1, 9), (2, 52), (3, 9), (4, 22)], size := 5, bytes := 96, zero := Option.some (Go.Value.agg #[Go.Value.string { data := #[] }, Go.Value.string { data := #[] }, Go.Value.slice Option.none 0 0, Go.Value.string { data := #[] }, Go.Value.slice Option.none 0 0]) } := nr (by kernel_rfl)
theorem zero_54 : zeroA Go.Proofs.Tryd.prog 54 = some [.v (Go.Value.string { data := #[] }), .v (Go.Value.string { data := #[] }), .fs [] true, .v (Go.Value.string { data := #[] }), .fs [] true] := nr (by kernel_rfl)
theorem ty_57 : tyOf Go.Proofs.Tryd.prog 57 = Option.some { d := Go.Abs.TD.struct [(0, 9), (1, 9)], size := 2, bytes := 32, zero := Option.some (Go.Value.agg #[Go.Value.string { data := #[] }, Go.Value.string { data := #[] }]) } := nr (by kernel_rfl)
theorem zero_57 : zeroA Go.Proofs.Tryd.prog 57 = some [.v (Go.Value.string { data := #[] }), .v (Go.Value.string { data := #[] })] := nr (by kernel_rfl)
theorem ty_66 : tyOf Go.Proofs.Tryd.prog 66 = Option.some { d := Go.Abs.TD.other, size := 1, bytes := 8, zero := Option.some Go.Value.nilFunc } := nr (by kernel_rfl)
theorem zero_66 : zeroA Go.Proofs.Tryd.prog 66 = some [.v (Go.Value.nilFunc)] := nr (by kernel_rfl)
theorem ty_69 : tyOf Go.Proofs.Tryd.prog 69 = Option.some { d := Go.Abs.TD.other, size := 1, bytes := 8, zero := Option.some Go.Value.nilFunc } := nr (by kernel_rfl)
theorem zero_69 : zeroA Go.Proofs.Tryd.prog 69 = some [.v (Go.Value.nilFunc)] := nr (by kernel_rfl)
theorem ty_71 : tyOf Go.Proofs.Tryd.prog 71 = Option.some { d := Go.Abs.TD.other, size := 1, bytes := 8, zero := Option.some Go.Value.nilFunc } := nr (by kernel_rfl)
theorem zero_71 : zeroA Go.Proofs.Tryd.prog 71 = some [.v (Go.Value.nilFunc)] := nr (by kernel_rfl)
theorem ty_73 : tyOf Go.Proofs.Tryd.prog 73 = Option.some { d := Go.Abs.TD.slice 5, size := 1, bytes := 24, zero := Option.some (Go.Value.slice Option.none 0 0) } := nr (by kernel_rfl)
theorem zero_73 : zeroA Go.Proofs.Tryd.prog 73 = some [.fs [] true] := nr (by kernel_rfl)
theorem ty_81 : tyOf Go.Proofs.Tryd.prog 81 = Option.some { d := Go.Abs.TD.other, size := 1, bytes := 8, zero := Option.some Go.Value.nilFunc } := nr (by kernel_rfl)
theorem zero_81 : zeroA Go.Proofs.Tryd.prog 81 = some [.v (Go.Value.nilFunc)] := nr (by kernel_rfl)
theorem ty_84 : tyOf Go.Proofs.Tryd.prog 84 = Option.some { d := Go.Abs.TD.array 256 4, size := 256, bytes := 256, zero := Option.some (Go.Value.agg #[Go.Value.bool Bool.false, Go.Value.bool Bool.false, Go.Value.bool Bool.false, Go.Value.bool Bool.false, Go.Value.bool Bool.false, Go.Value.bool Bool.false, Go.Value.bool Bool.false, Go.Value.bool Bool.false, Go.Value.bool Bool.false, Go.Value.bool Bool.false, Go.Value.bool Bool.false, Go.Value.bool Bool.false, Go.Value.bool Bool.false, Go.Value.bool Bool.false, Go.Value.bool Bool.false, Go.Value.bool Bool.false, Go.Value.bool Bool.false, Go.Value.bool Bool.false, Go.Value.bool Bool.false, Go.Value.bool Bool.false, Go.Value.bool Bool.false, Go.Value.bool Bool.false, Go.Value.bool Bool.false, Go.Value.bool Bool.false, Go.Value.bool Bool.false, Go.Value.bool Bool.false, Go.Value.bool Bool.false, Go.Value.bool Bool.false, Go.Value.bool Bool.false, Go.Value.bool Bool.false, Go.Value.bool Bool.false, Go.Value.bool Bool.false, Go.Value.bool Bool.false, Go.Value.bool Bool.false, Go.Value.bool Bool.false, Go.Value.bool Bool.false, Go.Value.bool Bool.false, Go.Value.bool Bool.false, Go.Value.bool Bool.false, Go.Value.bool Bool.false, Go.Value.bool Bool.false, Go.Value.bool Bool.false, Go.Value.bool Bool.false, Go.Value.bool Bool.false, Go.Value.bool Bool.false, Go.Value.bool Bool.false, Go.Value.bool Bool.false, Go.Value.bool Bool.false, Go.Value.bool Bool.false, Go.Value.bool Bool.false, Go.Value.bool Bool.false, Go.Value.bool Bool.false, Go.Value.bool Bool.false, Go.Value.bool Bool.false, Go.Value.bool Bool.false, Go.Value.bool Bool.false, Go.Value.bool Bool.false, Go.Value.bool Bool.false, Go.Value.bool Bool.false, Go.Value.bool Bool.false, Go.Value.bool Bool.false, Go.Value.bool Bool.false, Go.Value.bool Bool.false, Go.Value.bool Bool.false, Go.Value.bool Bool.false, Go.Value.bool Bool.false, Go.Value.bool Bool.false, Go.Value.bool Bool.false, Go.Value.bool Bool.false, Go.Value.bool Bool.false, Go.Value.bool Bool.false, Go.Value.bool Bool.false, Go.Value.bool Bool.false, Go.Value.bool Bool.false, Go.Value.bool Bool.false, Go.Value.bool Bool.false, Go.Value.bool Bool.false, Go.Value.bool Bool.false, Go.Value.bool Bool.false, Go.Value.bool Bool.false, Go.Value.bool Bool.false, Go.Value.bool Bool.false, Go.Value.bool Bool.false, Go.Value.bool Bool.false, Go.Value.bool Bool.false, Go.Value.bool Bool.false, Go.Value.bool Bool.false, Go.Value.bool Bool.false, Go.Value.bool Bool.false, Go.Value.bool Bool.false, Go.Value.bool Bool.false, Go.Value.bool Bool.false, Go.Value.bool Bool.false, Go.Value.bool Bool.false, Go.Value.bool Bool.false, Go.Value.bool Bool.false, Go.Value.bool Bool.false, Go.Value.bool Bool.false, Go.Value.bool Bool.false, Go.Value.bool Bool.false, Go.Value.bool Bool.false, Go.Value.bool Bool.false, Go.Value.bool Bool.false, Go.Value.bool Bool.false, Go.Value.bool Bool.false, Go.Value.bool Bool.false, Go.Value.bool Bool.false, Go.Value.bool Bool.false, Go.Value.bool Bool.false, Go.Value.bool Bool.false, Go.Value.bool Bool.false, Go.Value.bool Bool.false, Go.Value.bool Bool.false, Go.Value.bool Bool.false, Go.Value.bool Bool.false, Go.Value.bool Bool.false, Go.Value.bool Bool.false, Go.Value.bool Bool.false, Go.Value.bool Bool.false, Go.Value.bool Bool.false, Go.Value.bool Bool.false, Go.Value.bool Bool.false, Go.Value.bool Bool.false, Go.Value.bool Bool.false, Go.Value.bool Bool.false, Go.Value.bool Bool.false, Go.Value.bool Bool.false, Go.Value.bool Bool.false, Go.Value.bool Bool.false, Go.Value.bool Bool.false, Go.Value.bool Bool.false, Go.Value.bool Bool.false, Go.Value.bool Bool.false, Go.Value.bool Bool.false, Go.Value.bool Bool.false, Go.Value.bool Bool.false, Go.Value.bool Bool.false, Go.Value.bool Bool.false, Go.Value.bool Bool.false, Go.Value.bool Bool.false, Go.Value.bool Bool.false, Go.Value.bool Bool.false, Go.Value.bool Bool.false, Go.Value.bool Bool.false, Go.Value.bool Bool.false, Go.Value.bool Bool.false, Go.Value.bool Bool.false, Go.Value.bool Bool.false, Go.Value.bool Bool.false, Go.Value.bool Bool.false, Go.Value.bool Bool.false, Go.Value.bool Bool.false, Go.Value.bool Bool.false, Go.Value.bool Bool.false, Go.Value.bool Bool.false, Go.Value.bool Bool.false, Go.Value.bool Bool.false, Go.Value.bool Bool.false, Go.Value.bool Bool.false, Go.Value.bool Bool.false, Go.Value.bool Bool.false, Go.Value.bool Bool.false, Go.Value.bool Bool.false, Go.Value.bool Bool.false, Go.Value.bool Bool.false, Go.Value.bool Bool.false, Go.Value.bool Bool.false, Go.Value.bool Bool.false, Go.Value.bool Bool.false, Go.Value.bool Bool.false, Go.Value.bool Bool.false, Go.Value.bool Bool.false, Go.Value.bool Bool.false, Go.Value.bool Bool.false, Go.Value.bool Bool.false, Go.Value.bool Bool.false, Go.Value.bool Bool.false, Go.Value.bool Bool.false, Go.Value.bool Bool.false, Go.Value.bool Bool.false, Go.Value.bool Bool.false, Go.Value.bool Bool.false, Go.Value.bool Bool.false, Go.Value.bool Bool.false, Go.Value.bool Bool.false, Go.Value.bool Bool.false, Go.Value.bool Bool.false, Go.Value.bool Bool.false, Go.Value.bool Bool.false, Go.Value.bool Bool.false, Go.Value.bool Bool.false, Go.Value.bool Bool.false, Go.Value.bool Bool.false, Go.Value.bool Bool.false, Go.Value.bool Bool.false, Go.Value.bool Bool.false, Go.Value.bool Bool.false, Go.Value.bool Bool.false, Go.Value.bool Bool.false, Go.Value.bool Bool.false, Go.Value.bool Bool.false, Go.Value.bool Bool.false, Go.Value.bool Bool.false, Go.Value.bool Bool.false, Go.Value.bool Bool.false, Go.Value.bool Bool.false, Go.Value.bool Bool.false, Go.Value.bool Bool.false, Go.Value.bool Bool.false, Go.Value.bool Bool.false, Go.Value.bool Bool.false, Go.Value.bool Bool.false, Go.Value.bool Bool.false, Go.Value.bool Bool.false, Go.Value.bool Bool.false, Go.Value.bool Bool.false, Go.Value.bool Bool.false, Go.Value.bool Bool.false, Go.Value.bool Bool.false, Go.Value.bool Bool.false, Go.Value.bool Bool.false, Go.Value.bool Bool.false, Go.Value.bool Bool.false, Go.Value.bool Bool.false, Go.Value.bool Bool.false, Go.Value.bool Bool.false, Go.Value.bool Bool.false, Go.Value.bool Bool.false, Go.Value.bool Bool.false, Go.Value.bool Bool.false, Go.Value.bool Bool.false, Go.Value.bool Bool.false, Go.Value.bool Bool.false, Go.Value.bool Bool.false, Go.Value.bool Bool.false, Go.Value.bool Bool.false, Go.Value.bool Bool.false, Go.Value.bool Bool.false, Go.Value.bool Bool.false, Go.Value.bool Bool.false, Go.Value.bool Bool.false, Go.Value.bool Bool.false, Go.Value.bool Bool.false, Go.Value.bool Bool.false, Go.Value.bool Bool.false, Go.Value.bool Bool.false, Go.Value.bool Bool.false, Go.Value.bool Bool.false, Go.Value.bool Bool.false, Go.Value.bool Bool.false, Go.Value.bool Bool.false, Go.Value.bool Bool.false, Go.Value.bool Bool.false, Go.Value.bool Bool.false, Go.Value.bool Bool.false, Go.Value.bool Bool.false]) } := nr (by kernel_rfl)
theorem zero_84 : zeroA Go.Proofs.Tryd.prog 84 = some [.v (Go.Value.bool Bool.false), .v (Go.Value.bool Bool.false), .v (Go.Value.bool Bool.false), .v (Go.Value.bool Bool.false), .v (Go.Value.bool Bool.false), .v (Go.Value.bool Bool.false), .v (Go.Value.bool Bool.false), .v (Go.Value.bool Bool.false), .v (Go.Value.bool Bool.false), .v (Go.Value.bool Bool.false), .v (Go.Value.bool Bool.false), .v (Go.Value.bool Bool.false), .v (Go.Value.bool Bool.false), .v (Go.Value.bool Bool.false), .v (Go.Value.bool Bool.false), .v (Go.Value.bool Bool.false), .v (Go.Value.bool Bool.false), .v (Go.Value.bool Bool.false), .v (Go.Value.bool Bool.false), .v (Go.Value.bool Bool.false), .v (Go.Value.bool Bool.false), .v (Go.Value.bool Bool.false), .v (Go.Value.bool Bool.false), .v (Go.Value.bool Bool.false), .v (Go.Value.bool Bool.false), .v (Go.Value.bool Bool.false), .v (Go.Value.bool Bool.false), .v (Go.Value.bool Bool.false), .v (Go.Value.bool Bool.false), .v (Go.Value.bool Bool.false), .v (Go.Value.bool Bool.false), .v (Go.Value.bool Bool.false), .v (Go.Value.bool Bool.false), .v (Go.Value.bool Bool.false), .v (Go.Value.bool Bool.false), .v (Go.Value.bool Bool.false), .v (Go.Value.bool Bool.false), .v (Go.Value.bool Bool.false), .v (Go.Value.bool Bool.false), .v (Go.Value.bool Bool.false), .v (Go.Value.bool Bool.false), .v (Go.Value.bool Bool.false), .v (Go.Value.bool Bool.false), .v (Go.Value.bool Bool.false), .v (Go.Value.bool Bool.false), .v (Go.Value.bool Bool.false), .v (Go.Value.bool Bool.false), .v (Go.Value.bool Bool.false), .v (Go.Value.bool Bool.false), .v (Go.Value.bool Bool.false), .v (Go.Value.bool Bool.false), .v (Go.Value.bool Bool.false), .v (Go.Value.bool Bool.false), .v (Go.Value.bool Bool.false), .v (Go.Value.bool Bool.false), .v (Go.Value.bool Bool.false), .v (Go.Value.bool Bool.false), .v (Go.Value.bool Bool.false), .v (Go.Value.bool Bool.false), .v (Go.Value.bool Bool.false), .v (Go.Value.bool Bool.false), .v (Go.Value.bool Bool.false), .v (Go.Value.bool Bool.false), .v (Go.Value.bool Bool.false), .v (Go.Value.bool Bool.false), .v (Go.Value.bool Bool.false), .v (Go.Value.bool Bool.false), .v (Go.Value.bool Bool.false), .v (Go.Value.bool Bool.false), .v (Go.Value.bool Bool.false), .v (Go.Value.bool Bool.false), .v (Go.Value.bool Bool.false), .v (Go.Value.bool Bool.false), .v (Go.Value.bool Bool.false), .v (Go.Value.bool Bool.false), .v (Go.Value.bool Bool.false), .v (Go.Value.bool Bool.false), .v (Go.Value.bool Bool.false), .v (Go.Value.bool Bool.false), .v (Go.Value.bool Bool.false), .v (Go.Value.bool Bool.false), .v (Go.Value.bool Bool.false), .v (Go.Value.bool Bool.false), .v (Go.Value.bool Bool.false), .v (Go.Value.bool Bool.false), .v (Go.Value.bool Bool.false), .v (Go.Value.bool Bool.false), .v (Go.Value.bool Bool.false), .v (Go.Value.bool Bool.false), .v (Go.Value.bool Bool.false), .v (Go.Value.bool Bool.false), .v (Go.Value.bool Bool.false), .v (Go.Value.bool Bool.false), .v (Go.Value.bool Bool.false), .v (Go.Value.bool Bool.false), .v (Go.Value.bool Bool.false), .v (Go.Value.bool Bool.false), .v (Go.Value.bool Bool.false), .v (Go.Value.bool Bool.false), .v (Go.Value.bool Bool.false), .v (Go.Value.bool Bool.false), .v (Go.Value.bool Bool.false), .v (Go.Value.bool Bool.false), .v (Go.Value.bool Bool.false), .v (Go.Value.bool Bool.false), .v (Go.Value.bool Bool.false), .v (Go.Value.bool Bool.false), .v (Go.Value.bool Bool.false), .v (Go.Value.bool Bool.false), .v (Go.Value.bool Bool.false), .v (Go.Value.bool Bool.false), .v (Go.Value.bool Bool.false), .v (Go.Value.bool Bool.false), .v (Go.Value.bool Bool.false), .v (Go.Value.bool Bool.false), .v (Go.Value.bool Bool.false), .v (Go.Value.bool Bool.false), .v (Go.Value.bool Bool.false), .v (Go.Value.bool Bool.false), .v (Go.Value.bool Bool.false), .v (Go.Value.bool Bool.false), .v (Go.Value.bool Bool.false), .v (Go.Value.bool Bool.false), .v (Go.Value.bool Bool.false), .v (Go.Value.bool Bool.false), .v (Go.Value.bool Bool.false), .v (Go.Value.bool Bool.false), .v (Go.Value.bool Bool.false), .v (Go.Value.bool Bool.false), .v (Go.Value.bool Bool.false), .v (Go.Value.bool Bool.false), .v (Go.Value.bool Bool.false), .v (Go.Value.bool Bool.false), .v (Go.Value.bool Bool.false), .v (Go.Value.bool Bool.false), .v (Go.Value.bool Bool.false), .v (Go.Value.bool Bool.false), .v (Go.Value.bool Bool.false), .v (Go.Value.bool Bool.false), .v (Go.Value.bool Bool.false), .v (Go.Value.bool Bool.false), .v (Go.Value.bool Bool.false), .v (Go.Value.bool Bool.false), .v (Go.Value.bool Bool.false), .v (Go.Value.bool Bool.false), .v (Go.Value.bool Bool.false), .v (Go.Value.bool Bool.false), .v (Go.Value.bool Bool.false), .v (Go.Value.bool Bool.false), .v (Go.Value.bool Bool.false), .v (Go.Value.bool Bool.false), .v (Go.Value.bool Bool.false), .v (Go.Value.bool Bool.false), .v (Go.Value.bool Bool.false), .v (Go.Value.bool Bool.false), .v (Go.Value.bool Bool.false), .v (Go.Value.bool Bool.false), .v (Go.Value.bool Bool.false), .v (Go.Value.bool Bool.false), .v (Go.Value.bool Bool.false), .v (Go.Value.bool Bool.false), .v (Go.Value.bool Bool.false), .v (Go.Value.bool Bool.false), .v (Go.Value.bool Bool.false), .v (Go.Value.bool Bool.false), .v (Go.Value.bool Bool.false), .v (Go.Value.bool Bool.false), .v (Go.Value.bool Bool.false), .v (Go.Value.bool Bool.false), .v (Go.Value.bool Bool.false), .v (Go.Value.bool Bool.false), .v (Go.Value.bool Bool.false), .v (Go.Value.bool Bool.false), .v (Go.Value.bool Bool.false), .v (Go.Value.bool Bool.false), .v (Go.Value.bool Bool.false), .v (Go.Value.bool Bool.false), .v (Go.Value.bool Bool.false), .v (Go.Value.bool Bool.false), .v (Go.Value.bool Bool.false), .v (Go.Value.bool Bool.false), .v (Go.Value.bool Bool.false), .v (Go.Value.bool Bool.false), .v (Go.Value.bool Bool.false), .v (Go.Value.bool Bool.false), .v (Go.Value.bool Bool.false), .v (Go.Value.bool Bool.false), .v (Go.Value.bool Bool.false), .v (Go.Value.bool Bool.false), .v (Go.Value.bool Bool.false), .v (Go.Value.bool Bool.false), .v (Go.Value.bool Bool.false), .v (Go.Value.bool Bool.false), .v (Go.Value.bool Bool.false), .v (Go.Value.bool Bool.false), .v (Go.Value.bool Bool.false), .v (Go.Value.bool Bool.false), .v (Go.Value.bool Bool.false), .v (Go.Value.bool Bool.false), .v (Go.Value.bool Bool.false), .v (Go.Value.bool Bool.false), .v (Go.Value.bool Bool.false), .v (Go.Value.bool Bool.false), .v (Go.Value.bool Bool.false), .v (Go.Value.bool Bool.false), .v (Go.Value.bool Bool.false), .v (Go.Value.bool Bool.false), .v (Go.Value.bool Bool.false), .v (Go.Value.bool Bool.false), .v (Go.Value.bool Bool.false), .v (Go.Value.bool Bool.false), .v (Go.Value.bool Bool.false), .v (Go.Value.bool Bool.false), .v (Go.Value.bool Bool.false), .v (Go.Value.bool Bool.false), .v (Go.Value.bool Bool.false), .v (Go.Value.bool Bool.false), .v (Go.Value.bool Bool.false), .v (Go.Value.bool Bool.false), .v (Go.Value.bool Bool.false), .v (Go.Value.bool Bool.false), .v (Go.Value.bool Bool.false), .v (Go.Value.bool Bool.false), .v (Go.Value.bool Bool.false), .v (Go.Value.bool Bool.false), .v (Go.Value.bool Bool.false), .v (Go.Value.bool Bool.false), .v (Go.Value.bool Bool.false), .v (Go.Value.bool Bool.false), .v (Go.Value.bool Bool.false), .v (Go.Value.bool Bool.false), .v (Go.Value.bool Bool.false), .v (Go.Value.bool Bool.false), .v (Go.Value.bool Bool.false), .v (Go.Value.bool Bool.false), .v (Go.Value.bool Bool.false), .v (Go.Value.bool Bool.false), .v (Go.Value.bool Bool.false), .v (Go.Value.bool Bool.false), .v (Go.Value.bool Bool.false), .v (Go.Value.bool Bool.false), .v (Go.Value.bool Bool.false), .v (Go.Value.bool Bool.false), .v (Go.Value.bool Bool.false), .v (Go.Value.bool Bool.false), .v (Go.Value.bool Bool.false), .v (Go.Value.bool Bool.false), .v (Go.Value.bool Bool.false), .v (Go.Value.bool Bool.false), .v (Go.Value.bool Bool.false), .v (Go.Value.bool Bool.false), .v (Go.Value.bool Bool.false), .v (Go.Value.bool Bool.false), .v (Go.Value.bool Bool.false), .v (Go.Value.bool Bool.false), .v (Go.Value.bool Bool.false)] := nr (by kernel_rfl)
theorem ty_91 : tyOf Go.Proofs.Tryd.prog 91 = Option.some { d := Go.Abs.TD.other, size := 1, bytes := 8, zero := Option.some Go.Value.nilFunc } := nr (by kernel_rfl)
theorem zero_91 : zeroA Go.Proofs.Tryd.prog 91 = some [.v (Go.Value.nilFunc)] := nr (by kernel_rfl)
theorem ty_104 : tyOf Go.Proofs.Tryd.prog 104 = Option.some { d := Go.Abs.TD.int Go.IntKind.u64, size := 1, bytes := 8, zero := Option.some (Go.Value.int Go.IntKind.u64 0) } := nr (by kernel_rfl)
theorem zero_104 : zeroA Go.Proofs.Tryd.prog 104 = some [.v (Go.Value.int Go.IntKind.u64 0)] := nr (by kernel_rfl)
attribute [go_sem] XX_P mode_3 res_3 live_3 own_3 adopt_3 mode_4 res_4 live_4 own_4 adopt_4 cls_4_20 cls_4_21 trim_4_18 mode_5 res_5 live_5 own_5 adopt_5 mode_6 res_6 live_6 own_6 adopt_6 mode_7 res_7 live_7 own_7 adopt_7 mode_8 res_8 live_8 own_8 adopt_8 mode_9 res_9 live_9 own_9 adopt_9 trim_9_2 mode_10 res_10 live_10 own_10 adopt_10 cls_10_7 cls_10_9 mode_11 res_11 live_11 own_11 adopt_11 cls_11_8 trim_11_3 trim_11_10 mode_12 res_12 live_12 own_12 adopt_12 cls_12_9 trim_12_3 mode_13 res_13 live_13 own_13 adopt_13 cls_13_8 trim_13_3 mode_14 res_14 live_14 own_14 adopt_14 cls_14_5 trim_14_3 mode_15 res_15 live_15 own_15 adopt_15 mode_16 res_16 live_16 own_16 adopt_16 mode_17 res_17 live_17 own_17 adopt_17 mode_18 res_18 live_18 own_18 adopt_18 mode_19 res_19 live_19 own_19 adopt_19 mode_20 res_20 live_20 own_20 adopt_20 mode_21 res_21 live_21 own_21 adopt_21 trim_21_4 mode_22 res_22 live_22 own_22 adopt_22 trim_22_2 trim_22_6 mode_23 res_23 live_23 own_23 adopt_23 trim_23_3 mode_24 res_24 live_24 own_24 adopt_24 cls_24_25 mode_25 res_25 live_25 own_25 adopt_25 mode_26 res_26 live_26 own_26 adopt_26 trim_26_3 mode_27 res_27 live_27 own_27 adopt_27 trim_27_4 mode_28 res_28 live_28 own_28 adopt_28 mode_29 res_29 live_29 own_29 adopt_29 trim_29_2 mode_30 res_30 live_30 own_30 adopt_30 mode_31 res_31 live_31 own_31 adopt_31 cls_31_6 trim_31_4 mode_32 res_32 live_32 own_32 adopt_32 trim_32_2 mode_33 res_33 live_33 own_33 adopt_33 mode_34 res_34 live_34 own_34 adopt_34 trim_34_2 mode_35 res_35 live_35 own_35 adopt_35 mode_37 res_37 live_37 own_37 adopt_37 mode_38 res_38 live_38 own_38 adopt_38 trim_38_5 trim_38_8 mode_39 res_39 live_39 own_39 adopt_39 cls_39_5 mode_40 res_40 live_40 own_40 adopt_40 mode_41 res_41 live_41 own_41 adopt_41 mode_42 res_42 live_42 own_42 adopt_42 cls_42_1 cls_42_4 cls_42_5 mode_43 res_43 live_43 own_43 adopt_43 trim_43_2 mode_44 res_44 live_44 own_44 adopt_44 mode_45 res_45 live_45 own_45 adopt_45 mode_53 res_53 live_53 own_53 adopt_53 trim_53_5 mode_54 res_54 live_54 own_54 adopt_54 mode_55 res_55 live_55 own_55 adopt_55 mode_56 res_56 live_56 own_56 adopt_56 trim_56_2 trim_56_7 trim_56_9 mode_57 res_57 live_57 own_57 adopt_57 mode_58 res_58 live_58 own_58 adopt_58 mode_59 res_59 live_59 own_59 adopt_59 mode_63 res_63 live_63 own_63 adopt_63 trim_63_2 mode_64 res_64 live_64 own_64 adopt_64 cls_64_4 cls_64_6 trim_64_1 trim_64_4 mode_65 res_65 live_65 own_65 adopt_65 cls_65_5 cls_65_11 cls_65_17 cls_65_23 cls_65_35 trim_65_3 trim_65_9 trim_65_15 trim_65_21 trim_65_33 mode_66 res_66 live_66 own_66 adopt_66 mode_70 res_70 live_70 own_70 adopt_70 trim_70_2 mode_75 res_75 live_75 own_75 adopt_75 cls_75_3 trim_75_1 ty_0 ty_1 zero_1 ty_2 zero_2 ty_3 zero_3 ty_4 zero_4 ty_5 zero_5 ty_6 zero_6 ty_9 zero_9 ty_22 zero_22 ty_24 zero_24 ty_28 zero_28 ty_30 zero_30 ty_31 zero_31 ty_41 zero_41 ty_43 zero_43 ty_45 zero_45 ty_50 zero_50 ty_52 zero_52 ty_54 zero_54 ty_57 zero_57 ty_66 zero_66 ty_69 zero_69 ty_71 zero_71 ty_73 zero_73 ty_81 zero_81 ty_84 zero_84 ty_91 zero_91 ty_104 zero_104 Go.Proofs.Tryd.ntmps3 Go.Proofs.Tryd.ntmps4 Go.Proofs.Tryd.ntmps5 Go.Proofs.Tryd.ntmps6 Go.Proofs.Tryd.ntmps7 Go.Proofs.Tryd.ntmps8 Go.Proofs.Tryd.ntmps9 Go.Proofs.Tryd.ntmps10 Go.Proofs.Tryd.ntmps11 Go.Proofs.Tryd.ntmps12 Go.Proofs.Tryd.ntmps13 Go.Proofs.Tryd.ntmps14 Go.Proofs.Tryd.ntmps15 Go.Proofs.Tryd.ntmps16 Go.Proofs.Tryd.ntmps17 Go.Proofs.Tryd.ntmps18 Go.Proofs.Tryd.ntmps19 Go.Proofs.Tryd.ntmps20 Go.Proofs.Tryd.ntmps21 Go.Proofs.Tryd.ntmps22 Go.Proofs.Tryd.ntmps23 Go.Proofs.Tryd.ntmps24 Go.Proofs.Tryd.ntmps25 Go.Proofs.Tryd.ntmps26 Go.Proofs.Tryd.ntmps27 Go.Proofs.Tryd.ntmps28 Go.Proofs.Tryd.ntmps29 Go.Proofs.Tryd.ntmps30 Go.Proofs.Tryd.ntmps31 Go.Proofs.Tryd.ntmps32 Go.Proofs.Tryd.ntmps33 Go.Proofs.Tryd.ntmps34 Go.Proofs.Tryd.ntmps35 Go.Proofs.Tryd.ntmps37 Go.Proofs.Tryd.ntmps38 Go.Proofs.Tryd.ntmps39 Go.Proofs.Tryd.ntmps40 Go.Proofs.Tryd.ntmps41 Go.Proofs.Tryd.ntmps42 Go.Proofs.Tryd.ntmps43 Go.Proofs.Tryd.ntmps44 Go.Proofs.Tryd.ntmps45 Go.Proofs.Tryd.ntmps53 Go.Proofs.Tryd.ntmps54 Go.Proofs.Tryd.ntmps55 Go.Proofs.Tryd.ntmps56 Go.Proofs.Tryd.ntmps57 Go.Proofs.Tryd.ntmps58 Go.Proofs.Tryd.ntmps59 Go.Proofs.Tryd.ntmps63 Go.Proofs.Tryd.ntmps64 Go.Proofs.Tryd.ntmps65 Go.Proofs.Tryd.ntmps66 Go.Proofs.Tryd.ntmps70 Go.Proofs.Tryd.ntmps75
end Go.Abs.SA
end

section
set_option linter.unusedVariables false
set_option linter.unusedSimpArgs false
set_option linter.unusedSectionVars false
set_option maxRecDepth 100000
set_option linter.unusedVariables false
namespace Go.Abs.SA
open Go.Proofs
/-! What the library's functions answer. -/
theorem XX_ext : XX.ext = extY := rfl
theorem XX_extL : XX.extL = extLY := rfl
theorem mode_trim : XX.mode 36 = .data := rfl
theorem trimX (s t : ByteArray) (h : s.size ≤ 9223372036854775807 ∧ (t = digS ∨ t = blaS)) : pureW XX 36 [.v (.string s), .v (.string t)] = some (.v (.string (mkS (Lib.trimS (lS8 s) (lS8 t))))) := by
  refine loud_pureW (ext_loudW (r := .v (.string (mkS (Lib.trimS (lS8 s) (lS8 t))))) ?_) rfl
  rw [XX_ext]
  exact if_pos h
theorem cloneX (es : List (List AV)) (full : Bool) (h : es.length * 64 ≤ 140737488355328 ∧ ∀ c ∈ es, c.length = 4) : loudW XX 54 [.fs es full] [] = some (.sl 0 0 es.length false, [.arr 50 4 es]) := by
  refine extL_loudW rfl ?_
  rw [XX_extL]
  exact if_pos h
end Go.Abs.SA
end
