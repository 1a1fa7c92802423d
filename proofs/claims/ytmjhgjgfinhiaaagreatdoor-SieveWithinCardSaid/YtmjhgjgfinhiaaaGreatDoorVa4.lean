/- YtmjhgjgfinhiaaaGreatDoorVa4: a part of the interpreter by which the claim is shown, and of the walks: no conditions of its own: every theorem states its own. -/
import Derived.Test.YtmjhgjgfinhiaaaGreatDoorVa3
import Derived.Lib.SlTrimSet
import Derived.Lib.TrimByte
import Derived.Lib.IndexMore
import Derived.Lib.IndexAny
import Derived.Lib.Strings
import Derived.Test.YtmjhgjgfinhiaaaGreatDoorProg
set_option linter.unusedVariables false
set_option linter.unusedSimpArgs false
set_option linter.unusedSectionVars false
set_option maxRecDepth 100000
section
namespace Go.Abs.SR
def bS (l : List UInt8) : AV := .v (.string ⟨l.toArray⟩)
abbrev Tb' := List (UInt8 × List UInt8)
def pairsS : List (UInt8 × List UInt8) := [(38, [38, 97, 109, 112, 59]), (60, [38, 108, 116, 59]), (62, [38, 103, 116, 59]), (34, [38, 113, 117, 111, 116, 59]), (13, [38, 35, 49, 51, 59]), (10, [38, 35, 49, 48, 59]), (9, [38, 35, 57, 59])]
def pairsE : List (UInt8 × List UInt8) := pairsS ++ [(32, [38, 35, 51, 50, 59])]
def flat : List (UInt8 × List UInt8) → List (List UInt8)
  | [] => []
  | (c, n) :: r => [c] :: n :: flat r
def look (l : List (UInt8 × List UInt8)) (b : Nat) : Option (List UInt8) := match l with
  | [] => none
  | (c, n) :: r => if c.toNat = b then some n else look r b
abbrev Tb := List (UInt8 × List UInt8)
def repl (l : Tb) (s : List UInt8) : List UInt8 := s.flatMap fun c => (look l c.toNat).getD [c]
def strsOf : List (List AV) → Option (List (List UInt8))
  | [] => some []
  | [.v (.string s)] :: r => (strsOf r).map (s.data.toList :: ·)
  | _ => none
def extL_Replace (ys : List AV) (h : List Blk) : Option (AV × List Blk) := match ys, h with
  | [.ptr 0 0, .v (.string s)], [.var [.v (.int .u32 0), .v (.int .i32 0), .v (.int .u32 0), .v .nilIface, .sl 1 0 n false] none, .arr e 1 es] =>
    if s.size ≤ 1073741824 ∧ e = 9 then (match strsOf es with
      | some l => if l = flat pairsS ∧ n = 14 then some (.v (.string ⟨(repl pairsS s.data.toList).toArray⟩), [.dead, .dead])
        else if l = flat pairsE ∧ n = 16 then some (.v (.string ⟨(repl pairsE s.data.toList).toArray⟩), [.dead, .dead]) else none
      | none => none) else none
  | _, _ => none
end Go.Abs.SR
end
section
namespace Go.Abs.SA
abbrev digS : ByteArray := ⟨#[48, 49, 50, 51, 52, 53, 54, 55, 56, 57]⟩
abbrev blaS : ByteArray := ⟨#[32, 9, 13, 10]⟩
abbrev spS : ByteArray := ⟨#[32]⟩
abbrev mkS (l : List UInt8) : ByteArray := ⟨l.toArray⟩
abbrev lS8 (s : ByteArray) : List UInt8 := s.data.toList
abbrev big (s : ByteArray) : Prop := s.size < 4294967281
def ext_Trim (ys : List AV) : Option AV := match ys with
    | [.v (.string s), .v (.string t)] => if s.size ≤ 9223372036854775807 ∧ (t = digS ∨ t = blaS) then some (.v (.string (mkS (Lib.trimS (lS8 s) (lS8 t))))) else if s.size ≤ 9223372036854775807 ∧ t = spS then some (.v (.string (mkS (Lib.trimB (lS8 s) 32)))) else none
    | _ => none
def ext_IndexByte (ys : List AV) : Option AV := match ys with
    | [.v (.string s), .v (.int .u8 c)] => if 0 ≤ c ∧ c < 256 then some (.v (.int .i64 (Lib.indexByte (lS8 s) (UInt8.ofNat c.toNat)))) else none
    | _ => none
def ext_Index (ys : List AV) : Option AV := match ys with
    | [.v (.string s), .v (.string t)] => if big s then some (.v (.int .i64 (Lib.index (lS8 s) (lS8 t)))) else none
    | _ => none
def ext_Cut (ys : List AV) : Option AV := match ys with
    | [.v (.string s), .v (.string t)] => if big s then some (.tup [.v (.string (mkS (Lib.cut (lS8 s) (lS8 t)).1)), .v (.string (mkS (Lib.cut (lS8 s) (lS8 t)).2.1)), .v (.bool (Lib.cut (lS8 s) (lS8 t)).2.2)]) else none
    | _ => none
def ext_Contains (ys : List AV) : Option AV := match ys with
    | [.v (.string s), .v (.string t)] => if big s then some (.v (.bool (Lib.contains (lS8 s) (lS8 t)))) else none
    | _ => none
def ext_ContainsAny (ys : List AV) : Option AV := match ys with
    | [.v (.string s), .v (.string t)] => if big s ∧ big t ∧ (∀ b ∈ lS8 s, b.toNat < 128) ∧ (∀ b ∈ lS8 t, b.toNat < 128) then some (.v (.bool (Lib.containsAny (lS8 s) (lS8 t)))) else none
    | _ => none
def ext_HasPrefix (ys : List AV) : Option AV := match ys with
    | [.v (.string s), .v (.string t)] => some (.v (.bool (Lib.hasPrefix (lS8 s) (lS8 t))))
    | _ => none
def ext_HasSuffix (ys : List AV) : Option AV := match ys with
    | [.v (.string s), .v (.string t)] => if big s then some (.v (.bool (Lib.hasSuffix (lS8 s) (lS8 t)))) else none
    | _ => none
def ext_CutPrefix (ys : List AV) : Option AV := match ys with
    | [.v (.string s), .v (.string t)] => some (.tup [.v (.string (mkS (Lib.trimPrefix (lS8 s) (lS8 t)))), .v (.bool (Lib.hasPrefix (lS8 s) (lS8 t)))])
    | _ => none
def extY (f : FuncId) (ys : List AV) : Option AV := if f = 121 then ext_Trim ys else if f = 183 then ext_IndexByte ys else if f = 124 then ext_Index ys else if f = 185 then ext_Cut ys else if f = 127 then ext_Contains ys else if f = 77 then ext_ContainsAny ys else if f = 123 then ext_HasPrefix ys else if f = 128 then ext_HasSuffix ys else if f = 260 then ext_CutPrefix ys else none
def extL_Clone (ys : List AV) (h : List Blk) : Option (AV × List Blk) := match ys, h with
    | [.fs es full], [] => if es.length * 64 ≤ 140737488355328 ∧ ∀ c ∈ es, c.length = 4 then some (.sl 0 0 es.length false, [.arr 121 4 es]) else none
    | _, _ => none
def extL_copyCheck (ys : List AV) (h : List Blk) : Option (AV × List Blk) := match ys, h with
    | [.ptr 0 0], .var [.v (.pointer none), b] (some 134) :: r => some (.tup [], .var [.ptr 0 0, b] (some 134) :: r)
    | [.ptr 0 0], .var [.ptr 0 0, b] (some 134) :: r => some (.tup [], .var [.ptr 0 0, b] (some 134) :: r)
    | _, _ => none
def bldEnd (a : AV) (n : Nat) (es : List (List AV)) : Option (AV × List Blk) := if n = es.length then (match intsOf es with
    | some ns => if (ns.all fun n => decide (0 ≤ n) && decide (n < 256)) = true then some (.v (.string ⟨(ns.map fun n => UInt8.ofNat n.toNat).toArray⟩), [.var [a, .junk] (some 134), .dead]) else none
    | none => none) else none
def extL_String (ys : List AV) (h : List Blk) : Option (AV × List Blk) := match ys, h with
    | [.ptr 0 0], [.var [.v (.pointer none), .sl 1 0 n false] (some 134), .arr 5 1 es] => bldEnd (.v (.pointer none)) n es
    | [.ptr 0 0], [.var [.ptr 0 0, .sl 1 0 n false] (some 134), .arr 5 1 es] => bldEnd (.ptr 0 0) n es
    | _, _ => none
def attrIns (x : List AV × List UInt8) : List (List AV × List UInt8) → List (List AV × List UInt8)
  | [] => [x]
  | y :: r => if Lib.compareBytes y.2 x.2 < 0 then y :: attrIns x r else x :: y :: r
def attrKeys : List (List AV) → Option (List (List AV × List UInt8))
  | [] => some []
  | [.v (.string a), .v (.string b)] :: r => (attrKeys r).map (([.v (.string a), .v (.string b)], lS8 a) :: ·)
  | _ => none
def distB : List (List UInt8) → Bool
  | [] => true
  | x :: r => !r.contains x && distB r
def attrSort (es : List (List AV)) : Option (List (List AV)) := (attrKeys es).bind fun l => if distB (l.map (·.2)) then some ((l.foldr attrIns []).map (·.1)) else none
def extL_SortAttrs (ys : List AV) (h : List Blk) : Option (AV × List Blk) := match ys, h with
    | [.sl 0 0 n false, .fn 136 []], [.arr 40 2 es] => if n = es.length ∧ n ≤ 1000000 then (attrSort es).map fun es' => (.tup [], [.arr 40 2 es']) else none
    | _, _ => none
def extLY (f : FuncId) (ys : List AV) (h : List Blk) : Option (AV × List Blk) := if f = 199 then extL_Clone ys h else if f = 203 then extL_copyCheck ys h else if f = 99 then extL_String ys h else if f = 135 then extL_SortAttrs ys h else if f = 205 then SR.extL_Replace ys h else none
end Go.Abs.SA
end
section
namespace Go.Abs.SA
noncomputable def XX : X where
  P := Go.Proofs.Tryz.prog
  mode := fun f => look1 .data f [(3, .pure), (4, .pure), (5, .pure), (6, .pure), (7, .pure), (8, .pure), (9, .pure), (10, .pure), (11, .pure), (12, .pure), (13, .pure), (14, .pure), (15, .pure), (16, .pure), (17, .pure), (18, .pure), (19, .pure), (20, .pure), (21, .pure), (22, .pure), (23, .pure), (24, .pure), (25, .pure), (26, .pure), (28, .pure), (31, .pure), (33, .pure), (34, .pure), (35, .pure), (40, .pure), (41, .pure), (42, .pure), (43, .pure), (44, .pure), (45, .pure), (46, .pure), (47, .pure), (48, .pure), (49, .pure), (50, .pure), (53, .pure), (54, .pure), (55, .pure), (58, .pure), (60, .pure), (65, .pure), (66, .pure), (67, .pure), (68, .pure), (69, .pure), (70, .pure), (71, .pure), (72, .pure), (74, .pure), (75, .pure), (76, .pure), (78, .pure), (84, .pure), (85, .pure), (86, .pure), (87, .pure), (88, .pure), (89, .fresh), (91, .pure), (92, .pure), (94, .pure), (96, .pure), (98, .pure), (100, .pure), (101, .pure), (102, .pure), (103, .pure), (104, .pure), (105, .pure), (106, .pure), (107, .pure), (108, .pure), (109, .pure), (110, .pure), (111, .pure), (115, .pure), (117, .pure), (118, .pure), (120, .pure), (122, .pure), (126, .pure), (130, .pure), (132, .pure), (133, .pure), (134, .pure), (136, .pure), (137, .pure), (138, .pure), (139, .fresh), (140, .fresh), (142, .pure), (143, .pure), (147, .pure), (148, .pure), (149, .pure), (150, .pure), (151, .pure), (153, .pure), (154, .pure), (155, .pure), (156, .pure), (157, .pure), (158, .pure), (159, .pure), (160, .pure), (161, .pure), (167, .pure), (168, .pure), (169, .pure), (178, .pure), (182, .pure), (184, .pure), (186, .pure), (187, .pure), (188, .pure), (189, .pure), (194, .pure), (195, .pure), (196, .pure), (197, .pure), (199, .fresh), (200, .pure), (201, .pure), (202, .pure), (204, .fresh), (206, .pure), (207, .pure), (208, .pure), (209, .pure), (211, .pure), (212, .pure), (224, .pure), (225, .pure), (227, .pure), (239, .pure), (240, .pure), (241, .pure), (242, .pure), (243, .pure), (247, .pure), (266, .pure), (270, .pure), (280, .pure), (282, .pure), (290, .pure)]
  trim := fun f r => look2 none f r [(3, 7, some ([0, 1, 2, 7, 25, 26, 27], [])),
    (4, 6, some ([0, 1, 25, 26], [])),
    (4, 12, some ([0, 1, 47, 48, 49], [])),
    (8, 8, some ([0, 1, 5, 21, 22], [])),
    (8, 12, some ([0, 1, 5, 30, 31], [])),
    (8, 19, some ([1, 6, 7, 54, 55], [])),
    (9, 4, some ([0, 1, 2, 20, 21, 22], [])),
    (9, 9, some ([0, 1, 2, 8, 20, 21, 22, 34, 35], [])),
    (13, 10, some ([1, 5, 6, 37, 38, 39], [])),
    (13, 18, some ([1, 5, 6, 11, 13, 37, 38, 39, 82, 83], [])),
    (16, 8, some ([0, 3, 4, 31, 32], [])),
    (18, 8, some ([28, 29, 30], [])),
    (20, 2, some ([1, 7, 8, 9], [])),
    (25, 3, some ([0, 5, 13, 14, 15], [])),
    (25, 8, some ([0, 5, 10, 13, 14, 15, 29, 30, 31], [])),
    (26, 3, some ([0, 1, 5, 6], [])),
    (33, 2, some ([0, 2, 11, 12, 13], [])),
    (37, 3, some ([0, 2, 8, 20, 21, 22], [])),
    (37, 10, some ([0, 2, 8, 10, 12, 13, 20, 21, 22, 41, 42, 43], [])),
    (38, 3, some ([0, 8, 15, 16, 17], [])),
    (39, 3, some ([0, 2, 8, 9], [])),
    (39, 26, some ([0, 2, 8, 9, 10, 12, 13, 14, 15, 16, 17], [])),
    (40, 4, some ([0, 1, 5], [])),
    (42, 3, some ([1, 27, 28, 29], [])),
    (45, 4, some ([0, 3], [])),
    (46, 2, some ([0, 7], [])),
    (48, 2, some ([1, 7, 8, 9], [])),
    (51, 3, some ([0, 6, 7, 17, 18, 19], [])),
    (52, 3, some ([0, 1, 6, 7, 8], [])),
    (53, 2, some ([0, 1, 11, 12, 13], [])),
    (53, 8, some ([0, 31, 32, 33], [])),
    (54, 2, some ([0, 1, 5], [])),
    (54, 7, some ([0, 1, 5, 6, 7], [])),
    (54, 13, some ([0, 1, 8], [])),
    (56, 3, some ([3, 6, 11, 12, 13], [])),
    (57, 3, some ([2, 3, 6, 7], [])),
    (57, 7, some ([2, 3, 6, 7, 8, 9], [])),
    (63, 8, some ([2, 4, 6, 45, 46, 47], [])),
    (63, 23, some ([2, 6, 9, 10, 11, 13, 14, 105, 106, 107], [])),
    (63, 29, some ([2, 6, 9, 10, 11, 13, 14, 129, 130, 131], [])),
    (67, 3, some ([0, 3, 7, 8, 9], [])),
    (68, 5, some ([0, 3, 4, 5], [])),
    (68, 11, some ([0, 3, 6, 7], [])),
    (69, 8, some ([6, 52, 53, 54], [])),
    (70, 9, some ([6, 7, 8, 9], [])),
    (74, 2, some ([6, 7, 8], [])),
    (78, 1, some ([0], [])),
    (79, 16, some ([0, 1, 2, 6, 8, 9, 11, 12, 14, 15, 73, 74, 75], [1])),
    (79, 32, some ([0, 1, 2, 6, 8, 9, 14, 146, 147, 148], [1])),
    (81, 3, some ([1, 5, 8, 9, 10], [])),
    (82, 3, some ([0, 2, 7, 16, 17, 18], [])),
    (82, 7, some ([0, 2, 7, 8, 9, 10, 16, 17, 18, 27, 28, 29], [])),
    (83, 3, some ([0, 5, 9, 10, 11], [])),
    (84, 4, some ([1, 2, 15, 16, 17], [])),
    (87, 4, some ([1, 2, 12, 13, 14], [])),
    (88, 2, some ([3, 11, 12, 13], [])),
    (88, 6, some ([3, 6, 7, 11, 12, 13, 18, 19, 20], [])),
    (89, 3, some ([3, 6, 7, 8], [])),
    (92, 2, some ([0, 1, 5], [])),
    (93, 5, some ([2, 3, 4, 5, 6], [])),
    (93, 8, some ([2, 3, 4, 5, 6, 7], [])),
    (94, 3, some ([1, 3, 5, 7, 9], [])),
    (96, 2, some ([0, 1, 5], [])),
    (97, 3, some ([0, 1, 5, 6], [5])),
    (97, 6, some ([0, 1, 5, 6, 7], [])),
    (98, 5, some ([0, 4, 27, 28, 29], [])),
    (98, 13, some ([0, 4, 63, 64, 65], [])),
    (100, 5, some ([2, 5, 6], [])),
    (100, 12, some ([2, 5, 7], [])),
    (101, 4, some ([0, 1, 18, 19, 20], [])),
    (101, 17, some ([0, 1, 6, 18, 19, 20, 79, 80, 81], [])),
    (101, 26, some ([0, 1, 18, 19, 20, 149, 150, 151], [])),
    (102, 4, some ([0, 1, 5], [])),
    (102, 18, some ([0, 1, 5, 6, 7], [])),
    (102, 29, some ([0, 1, 5, 6, 9], [])),
    (103, 4, some ([1, 2, 5], [])),
    (103, 16, some ([6, 7], [])),
    (106, 2, some ([0, 1, 7, 8], [])),
    (108, 2, some ([0, 1, 7, 8], [])),
    (111, 4, some ([0, 1, 12, 13], [])),
    (112, 3, some ([0, 1, 5, 6], [])),
    (113, 4, some ([0, 2, 4], [])),
    (113, 12, some ([2, 5, 6, 7], [])),
    (118, 15, some ([0, 3, 72, 73, 74], [])),
    (120, 2, some ([0, 3], [])),
    (122, 1, some ([0], [])),
    (122, 3, some ([0], [])),
    (126, 2, some ([0, 3], [])),
    (130, 2, some ([0, 5], [])),
    (131, 2, some ([0, 4], [])),
    (132, 1, some ([0, 1], [])),
    (138, 3, some ([0, 1, 2, 3, 9, 10], [])),
    (140, 9, some ([0, 1, 5, 37, 38], [])),
    (141, 12, some ([3, 4, 7, 8, 9, 52, 53, 54], [])),
    (141, 28, some ([3, 8, 119, 120, 121], [])),
    (142, 2, some ([0, 1, 7, 8], [])),
    (144, 5, some ([3, 4, 5, 20, 21, 22], [])),
    (144, 8, some ([3, 4, 5, 7, 20, 21, 22, 27, 28, 29], [])),
    (149, 2, some ([0, 1, 9, 10, 11], [])),
    (150, 2, some ([0, 1, 5], [])),
    (154, 3, some ([0, 3, 4], [])),
    (154, 8, some ([0, 3, 5, 6], [])),
    (159, 2, some ([0, 1, 5], [])),
    (161, 1, some ([0], [])),
    (162, 14, some ([0, 2, 6, 7, 9, 10, 11, 12, 13, 14], [])),
    (162, 30, some ([0, 2, 6, 7, 11, 12, 13, 17], [])),
    (162, 38, some ([0, 2, 6, 7, 11, 12, 13, 17, 20, 21], [])),
    (166, 4, some ([1, 10, 11, 12], [])),
    (186, 2, some ([0, 4], [])),
    (189, 2, some ([0, 1, 7, 8], [])),
    (198, 5, some ([0, 1, 5, 6], [])),
    (201, 2, some ([0, 1, 2, 6, 7, 8], [])),
    (201, 7, some ([0, 1, 2, 6], [])),
    (201, 9, some ([0, 1, 2, 6, 7, 8], [])),
    (207, 2, some ([0, 3], [])),
    (208, 2, some ([0, 2, 3], [])),
    (209, 3, some ([0, 4, 5], [])),
    (210, 2, some ([0, 3], [])),
    (210, 22, some ([0, 3, 5, 7, 8], [])),
    (210, 28, some ([0, 3, 5, 9], [])),
    (211, 2, some ([0, 1, 6], [])),
    (212, 1, some ([0, 1, 2, 3, 8, 9], [])),
    (212, 3, some ([0, 1, 2, 3, 8, 9, 10], [])),
    (225, 21, some ([4, 6, 7, 38, 39, 40], [])),
    (227, 2, some ([0, 1, 7, 8], [])),
    (239, 2, some ([0, 1, 7, 8], [])),
    (240, 2, some ([0, 1, 7, 8], [])),
    (241, 1, some ([0, 1, 2, 3, 8], [])),
    (241, 4, some ([0, 1, 2, 3, 8, 9], [])),
    (242, 3, some ([0, 1, 4, 10, 11], [])),
    (242, 9, some ([0, 10, 13], [])),
    (242, 15, some ([0, 2, 4, 14, 15], [])),
    (242, 21, some ([0, 14, 17], [])),
    (242, 33, some ([0, 1, 2, 3, 4, 18, 19, 20, 21, 22], [])),
    (247, 3, some ([0, 1, 5, 6], [])),
    (247, 8, some ([0, 1, 5, 6, 7], [])),
    (266, 2, some ([0, 2, 4, 10, 11], [])),
    (270, 3, some ([0, 3, 4], [])),
    (270, 17, some ([5, 6, 7, 8], [])),
    (282, 1, some ([0, 1, 2, 3, 10], []))]
  adopt := fun f => look1 [] f [(3, [7]), (25, [5, 10]), (26, [5]), (37, [8]), (39, [16]), (51, [6, 7]), (52, [6, 7]), (56, [6]), (57, [6]), (67, [3]), (68, [6]), (69, [6]), (81, [5]), (83, [5]), (89, [3]), (112, [5]), (131, [4]), (141, [7]), (210, [3])]
  cls := fun f r => look2 [] f r [(7, 3, [0, 0, 0, 0, 0, 0, 0, 0, 0, 0, 0]),
    (13, 20, [0, 0, 0, 0, 0, 0, 0, 0, 0]),
    (13, 25, [0, 0, 0, 1, 0, 0, 0, 0, 2, 0]),
    (13, 26, [0, 0, 0, 0, 0, 0, 0, 0, 0, 0, 0, 0, 0, 0, 0, 0, 0, 0, 0, 0, 0, 0, 0]),
    (15, 9, [3, 0, 0, 0, 0, 3, 3, 0, 0, 3, 0, 3, 3, 3, 1, 4, 3]),
    (27, 15, [0, 2, 0, 0, 0, 0, 0, 0, 0, 0, 0, 0, 0, 0, 0]),
    (30, 7, [0, 0, 0, 0, 0, 0, 0, 0, 0, 0, 0, 1, 2]),
    (30, 9, [0, 0, 0, 0, 0, 0, 0, 0, 0, 0, 0, 0]),
    (33, 7, [0, 0, 0, 0, 0, 0, 0, 0]),
    (33, 8, [0, 0, 0, 0, 0, 0, 0, 0, 0, 0, 0, 0, 0, 0, 0, 0, 0, 0, 0, 0, 0, 0, 0, 0, 0, 0, 0, 0]),
    (37, 8, [8, 8, 7, 7, 8, 7, 8, 8, 5, 5, 6, 6]),
    (38, 9, [0, 0, 0, 0, 0, 0, 2, 0, 0, 0, 0, 0]),
    (39, 28, [0, 0, 0, 0, 0, 0, 0, 0, 0, 0]),
    (40, 6, [0, 0, 0, 0, 0, 0, 0, 0, 0, 0, 0, 0, 0, 0, 0, 0, 0, 0, 0, 0, 0, 0, 0, 0, 0, 0, 0, 0, 0, 0, 0, 0, 0, 0, 0, 0, 0, 0]),
    (51, 8, [8, 8, 7, 7, 8, 7, 8, 5, 5, 6, 6]),
    (53, 14, [0, 0, 0, 0, 0, 0, 0, 0, 0]),
    (54, 9, [0, 0, 0, 0, 0, 0, 0, 0, 0, 0, 0, 0, 0, 0, 0]),
    (54, 19, [0, 0, 0, 0, 0, 0, 0, 0, 0, 0, 0, 0]),
    (57, 9, [0, 0, 0, 0, 0, 0, 0, 0, 0, 0, 0, 0]),
    (63, 31, [0, 0, 0, 0, 0, 0, 0, 0, 0, 0, 0, 0, 0, 0, 0, 0, 0]),
    (67, 10, [0, 0, 0, 0, 0, 0, 2, 0, 2]),
    (75, 1, [0, 0, 0, 0, 0, 0, 0, 0, 0, 0, 0]),
    (76, 1, [0, 0, 0, 0, 0, 0, 0, 0, 0, 0, 0, 0]),
    (76, 4, [0, 0, 0, 0, 0, 0, 0, 0, 0, 0, 0, 0, 0, 0, 0, 0]),
    (79, 9, [0, 0, 0, 0, 0, 0, 0, 0, 0, 0, 0]),
    (81, 5, [0, 0, 0, 0, 0, 0, 0, 0, 0, 0, 0, 0, 2, 0]),
    (82, 10, [0, 0, 0, 0, 0, 0, 0, 0, 0, 0, 0, 0, 0, 0, 0, 0, 0, 0, 0, 1, 0, 2]),
    (90, 25, [0, 0, 0, 0, 0, 0, 0, 0, 0, 0, 0, 0, 0]),
    (93, 10, [0, 0, 0, 0, 0, 0, 0, 0, 0, 0, 0, 0]),
    (93, 11, [0, 0, 0, 0, 0, 0, 0, 0, 0, 0, 0, 0, 0, 0, 0, 2, 0, 2]),
    (94, 5, [0, 0, 0, 0, 0, 0, 0, 0, 0, 0, 0]),
    (94, 6, [0, 0, 0, 0, 0, 0, 0, 0, 0, 0, 0, 0, 0, 0]),
    (95, 1, [0, 0, 0, 1, 0, 0, 0, 0, 2, 0]),
    (97, 6, [0, 0, 0, 0, 0, 0, 0, 0, 0, 0, 0, 0, 0, 1, 2, 0]),
    (97, 9, [0, 0, 0, 0, 0, 0, 0, 0, 0, 1, 0, 2, 0]),
    (98, 7, [0, 0, 0, 0, 0, 0, 0, 0, 0, 0, 2]),
    (100, 7, [0, 0, 0, 0, 0, 0, 0, 0, 0, 0, 0, 0, 0, 0, 0, 0, 0, 0, 0, 0]),
    (100, 14, [0, 0, 0, 0, 0, 0, 0, 0, 0, 0, 0]),
    (101, 19, [0, 0, 0, 0, 0, 0, 0, 0, 0, 0, 0, 0, 0, 0, 0, 0, 0, 0, 0, 0, 0, 0, 0, 0, 0]),
    (102, 20, [0, 0, 0, 0, 0, 0, 0, 0, 0]),
    (102, 21, [0, 0, 0, 0, 0, 0, 0, 0, 0, 0, 0, 0, 0, 0, 0, 0, 0, 0, 0, 0, 0, 0, 0]),
    (111, 6, [0, 0, 0, 0, 0, 0, 0, 0, 0]),
    (112, 5, [0, 0, 0, 0, 0, 0, 0, 0, 0, 0, 0, 0, 0, 0, 0, 0, 0, 0, 0, 0, 0, 2, 0]),
    (113, 20, [0, 0, 0, 0, 0, 0, 0, 0, 0, 0, 0, 0, 0, 0, 0, 0, 0]),
    (113, 23, [8, 8, 8, 8, 7, 6, 8]),
    (126, 2, [0, 0, 0, 0, 0, 0, 0, 0, 0, 0, 0, 0, 0, 0, 0, 0, 0, 0, 0, 0, 0, 0, 0]),
    (130, 2, [0, 0, 0, 0, 0, 0, 0, 0, 0, 0, 0, 0, 0, 0, 0, 0, 0, 0, 0, 0, 0, 0, 0]),
    (130, 4, [0, 0, 0, 0, 0, 0, 0, 0, 0, 0, 0, 0, 0, 0, 0, 0, 0, 0]),
    (131, 3, [0, 0, 0, 0, 0, 0, 0, 0, 0, 0]),
    (131, 5, [0, 0, 0, 0, 0, 0, 0, 0, 0, 0]),
    (138, 3, [0, 0, 0, 0, 0, 0, 0, 0, 0, 0, 0]),
    (138, 6, [0, 0, 0, 0, 0, 0, 0, 0, 0, 0, 0, 0, 0, 0, 0, 0]),
    (138, 18, [0, 0, 0, 0, 0, 0, 0, 2, 11, 10, 3, 3, 9]),
    (140, 11, [0, 0, 0, 0, 0, 0, 0, 0, 0, 0, 0, 0, 0, 0, 0, 0, 0, 0, 0, 1, 0, 2]),
    (141, 20, [0, 0, 0, 0, 0, 0, 0, 2, 0]),
    (141, 31, [0, 0, 0, 0, 0, 0, 0, 2]),
    (145, 5, [0, 0, 0, 0, 0, 0, 2, 0]),
    (148, 1, [0, 0, 0, 0, 0, 0, 0, 0, 0, 0]),
    (148, 4, [0, 0, 0, 0, 0, 0, 0, 0, 0, 0, 0]),
    (148, 5, [0, 0, 0, 0, 0, 0, 0, 0, 0, 0, 0]),
    (150, 4, [0, 0, 0, 0, 0, 0, 0, 0, 0]),
    (150, 6, [0, 0, 0, 0, 0, 0, 0, 0, 0]),
    (151, 1, [0, 0, 0, 0, 0, 0, 0, 0, 0, 0]),
    (151, 4, [0, 0, 0, 0, 0, 0, 0, 0, 0, 0, 0]),
    (151, 5, [0, 0, 0, 0, 0, 0, 0, 0, 0, 0, 0]),
    (158, 1, [0, 0, 0, 0, 0, 0, 0, 0, 0, 0, 0, 0, 0, 0, 0, 0, 0, 0, 0, 0, 0, 0, 0, 0, 0, 0, 0, 0, 0, 0, 0, 0, 0, 0, 0, 0, 0, 0, 0, 0]),
    (159, 4, [0, 0, 0, 0, 0, 0, 0, 0, 0, 0, 0, 0, 0, 0]),
    (159, 5, [0, 0, 0, 0, 0, 0, 0, 0, 0, 0]),
    (162, 10, [0, 0, 0, 0, 0, 0, 0, 0, 0, 0, 0]),
    (162, 23, [0, 0, 0, 0, 0, 0, 0, 0, 0, 0, 0, 0, 0, 2, 0]),
    (162, 40, [0, 0, 0, 0, 0, 0, 0, 0, 0, 0, 0, 0]),
    (162, 42, [0, 0, 0, 0, 0, 0, 0, 0, 0, 0, 0, 0]),
    (162, 45, [0, 0, 0, 0, 0, 0, 0, 0, 0, 0, 0, 0, 0, 0, 0, 0, 0, 1, 0, 2, 0, 2]),
    (168, 2, [0, 0, 0, 0, 0, 0, 0, 0, 0, 0, 0, 0, 0, 0, 0, 0, 0, 0, 0, 0, 0, 0, 0]),
    (207, 2, [0, 0, 0, 0, 0, 0, 0, 0, 0, 0, 0, 0, 0, 0, 0, 0, 0, 0, 0, 0, 0, 0]),
    (209, 3, [0, 0, 0, 0, 0, 0, 0, 0, 0, 0]),
    (209, 4, [0, 0, 0, 0, 0, 0, 0, 0, 0, 0]),
    (209, 10, [0, 0, 0, 0, 0, 0, 0, 0, 0, 0, 0]),
    (209, 14, [0, 0, 0, 0, 0, 0, 0, 0, 0, 0, 0, 0, 0, 0, 0, 0, 0, 0, 0, 0]),
    (210, 4, [0, 0, 0, 0, 0, 0, 0, 0, 0, 0]),
    (210, 6, [0, 0, 0, 0, 0, 0, 0, 0, 0, 0, 0, 0, 0, 0, 0, 0, 0, 0, 0, 0, 0, 0]),
    (210, 30, [0, 0, 0, 0, 0, 0, 0, 0, 0, 0, 0, 0, 0, 0, 0, 0, 0, 0]),
    (212, 3, [0, 0, 0, 0, 0, 0, 0, 0, 0, 0, 0, 0, 0, 0, 0, 0, 0, 0, 0, 0, 0, 0]),
    (212, 4, [0, 0, 0, 0, 0, 0, 0, 0, 0, 0, 0, 0, 0, 0, 0]),
    (212, 6, [0, 0, 0, 0, 0, 0, 0, 0, 0, 0]),
    (212, 8, [0, 0, 0, 0, 0, 0, 0, 0, 0, 0, 0, 0, 0, 0, 0]),
    (212, 23, [0, 0, 0, 0, 0, 0, 0, 2, 11, 10, 3, 3, 9]),
    (224, 3, [0, 0, 0, 0, 0, 0, 0, 0, 0, 0, 0, 0]),
    (241, 4, [0, 0, 0, 0, 0, 0, 0, 0, 0, 0, 0, 0, 0, 0, 0, 0, 0]),
    (241, 6, [3, 3, 3, 3, 3, 3, 3, 3, 0, 0, 3, 3, 0, 0, 0, 4, 0, 4]),
    (242, 5, [0, 0, 0, 0, 0, 0, 0, 0, 0, 0, 0]),
    (242, 11, [3, 3, 3, 3, 3, 3, 3, 3, 0, 0, 3, 3, 0, 0, 0, 4, 0, 4]),
    (242, 17, [0, 0, 0, 0, 0, 0, 0, 0, 0, 0, 0, 0]),
    (242, 23, [3, 3, 3, 3, 3, 3, 3, 3, 0, 0, 3, 3, 0, 0, 0, 4, 0, 4]),
    (242, 35, [0, 0, 0, 0, 0, 0, 0, 0, 0, 0, 0, 0, 0, 0]),
    (270, 9, [0, 0, 0, 0]),
    (282, 3, [3, 3, 3, 3, 3, 3, 3, 3, 3, 3, 3, 3, 0, 0, 3, 3, 3, 3, 0, 0, 0, 4, 0, 4])]
  fns := [3, 4, 5, 6, 7, 8, 9, 10, 11, 12, 13, 14, 15, 16, 17, 18, 19, 20, 21, 22, 23, 24, 25, 26, 27, 28, 29, 30, 31, 32, 33, 34, 35, 36, 37, 38, 39, 40, 41, 42, 43, 44, 45, 46, 47, 48, 49, 50, 51, 52, 53, 54, 55, 56, 57, 58, 59, 60, 61, 62, 63, 64, 65, 66, 67, 68, 69, 70, 71, 72, 73, 74, 75, 76, 78, 79, 80, 81, 82, 83, 84, 85, 86, 87, 88, 89, 90, 91, 92, 93, 94, 95, 96, 97, 98, 100, 101, 102, 103, 104, 105, 106, 107, 108, 109, 110, 111, 112, 113, 114, 115, 117, 118, 120, 122, 126, 129, 130, 131, 132, 133, 134, 136, 137, 138, 139, 140, 141, 142, 143, 144, 145, 146, 147, 148, 149, 150, 151, 152, 153, 154, 155, 156, 157, 158, 159, 160, 161, 162, 165, 166, 167, 168, 169, 178, 182, 184, 186, 187, 188, 189, 193, 194, 195, 196, 197, 198, 199, 200, 201, 202, 204, 206, 207, 208, 209, 210, 211, 212, 224, 225, 226, 227, 239, 240, 241, 242, 243, 247, 266, 270, 280, 282, 290, 291]
  ext := extY
  extL := extLY
  tidy := fun f => [79, 131, 138, 226].contains f
  tyk := fun t => decide (t = 134)
  own := fun f => look1 [] f [(43, [(3, 1, 5)]), (79, [(8, 2, 40), (8, 4, 36)]), (138, [(9, 1, 5)]), (186, [(4, 1, 5)])]
  live := fun f => look1 [] f [(27, [75, 76, 78, 79]), (32, [82]), (38, [90, 91]), (43, [98, 99]), (51, [91]), (78, [126, 75, 76]), (79, [75, 130, 131, 126, 138, 135]), (90, [145]), (91, [147]), (98, [98, 152]), (131, [126, 130, 75, 76]), (138, [75, 76, 79, 152, 99]), (146, [198]), (147, [201]), (152, [203]), (153, [205]), (186, [152, 226, 99]), (201, [241, 242]), (206, [205]), (226, [203]), (242, [242, 266]), (266, [282])]
theorem nilT_XX (t : Nat) : XX.nilT t = false := nr rfl
theorem XX_P : XX.P = Go.Proofs.Tryz.prog := nr rfl
theorem tyO_XX (t : Nat) : tyO XX t = if t = 134 then some 134 else none := nr (by
  show (if decide (t = 134) = true then some t else none) = _
  by_cases h : t = 134
  · subst h; rfl
  · simp [h])
theorem fns_5 : XX.fns.contains 5 = true := nr (by kernel_rfl)
theorem res_5 : Go.Proofs.Tryz.f5.results.toList = [.tmp 4] := nr rfl
theorem live_5 : XX.live 5 = [] := nr (by kernel_rfl)
theorem mode_20 : XX.mode 20 = .pure := nr (by kernel_rfl)
theorem fns_20 : XX.fns.contains 20 = true := nr (by kernel_rfl)
theorem res_20 : Go.Proofs.Tryz.f20.results.toList = [.tmp 4] := nr rfl
theorem live_20 : XX.live 20 = [] := nr (by kernel_rfl)
theorem own_20 : XX.own 20 = [] := nr (by kernel_rfl)
theorem tr_20_2 : XX.trim 20 2 = some ([1, 7, 8, 9], []) := nr (by kernel_rfl)
theorem trim_20_2 (d : AV) (l : List (Nat × AV)) (h : List Blk) (n : Nat) : trimA XX 20 2 n ⟨mkT 41 d l, h⟩ = gcK n (mkT 41 .junk [(1, lk d l 1), (7, lk d l 7), (8, lk d l 8), (9, lk d l 9)]) h := (trimA_keep tr_20_2 n _ h).trans (by rw [keep_mkT]; kernel_rfl)
abbrev S_20_2 (x1 x7 x8 x9 : AV) (h : List Blk) : St := ⟨mkT 41 .junk [(1, x1), (7, x7), (8, x8), (9, x9)], h⟩
theorem mode_28 : XX.mode 28 = .pure := nr (by kernel_rfl)
theorem fns_28 : XX.fns.contains 28 = true := nr (by kernel_rfl)
theorem res_28 : Go.Proofs.Tryz.f28.results.toList = [.tmp 0] := nr rfl
theorem live_28 : XX.live 28 = [] := nr (by kernel_rfl)
theorem mode_29 : XX.mode 29 = .data := nr (by kernel_rfl)
theorem fns_29 : XX.fns.contains 29 = true := nr (by kernel_rfl)
theorem res_29 : Go.Proofs.Tryz.f29.results.toList = [.tmp 2, .tmp 3] := nr rfl
theorem live_29 : XX.live 29 = [] := nr (by kernel_rfl)
theorem adopt_29 : XX.adopt 29 = [] := nr (by kernel_rfl)
theorem mode_30 : XX.mode 30 = .data := nr (by kernel_rfl)
theorem mode_31 : XX.mode 31 = .pure := nr (by kernel_rfl)
theorem fns_31 : XX.fns.contains 31 = true := nr (by kernel_rfl)
theorem res_31 : Go.Proofs.Tryz.f31.results.toList = [.tmp 2] := nr rfl
theorem live_31 : XX.live 31 = [] := nr (by kernel_rfl)
theorem mode_32 : XX.mode 32 = .data := nr (by kernel_rfl)
theorem fns_32 : XX.fns.contains 32 = true := nr (by kernel_rfl)
theorem res_32 : Go.Proofs.Tryz.f32.results.toList = [.tmp 6] := nr rfl
theorem adopt_32 : XX.adopt 32 = [] := nr (by kernel_rfl)
theorem mode_33 : XX.mode 33 = .pure := nr (by kernel_rfl)
theorem fns_33 : XX.fns.contains 33 = true := nr (by kernel_rfl)
theorem res_33 : Go.Proofs.Tryz.f33.results.toList = [.tmp 6] := nr rfl
theorem live_33 : XX.live 33 = [] := nr (by kernel_rfl)
theorem own_33 : XX.own 33 = [] := nr (by kernel_rfl)
theorem cls_33_7 : XX.cls 33 7 = [0, 0, 0, 0, 0, 0, 0, 0] := nr (by kernel_rfl)
theorem cls_33_8 : XX.cls 33 8 = [0, 0, 0, 0, 0, 0, 0, 0, 0, 0, 0, 0, 0, 0, 0, 0, 0, 0, 0, 0, 0, 0, 0, 0, 0, 0, 0, 0] := nr (by kernel_rfl)
theorem tr_33_2 : XX.trim 33 2 = some ([0, 2, 11, 12, 13], []) := nr (by kernel_rfl)
theorem trim_33_2 (d : AV) (l : List (Nat × AV)) (h : List Blk) (n : Nat) : trimA XX 33 2 n ⟨mkT 59 d l, h⟩ = gcK n (mkT 59 .junk [(0, lk d l 0), (2, lk d l 2), (11, lk d l 11), (12, lk d l 12), (13, lk d l 13)]) h := (trimA_keep tr_33_2 n _ h).trans (by rw [keep_mkT]; kernel_rfl)
abbrev S_33_2 (x0 x2 x11 x12 x13 : AV) (h : List Blk) : St := ⟨mkT 59 .junk [(0, x0), (2, x2), (11, x11), (12, x12), (13, x13)], h⟩
theorem mode_34 : XX.mode 34 = .pure := nr (by kernel_rfl)
theorem fns_34 : XX.fns.contains 34 = true := nr (by kernel_rfl)
theorem res_34 : Go.Proofs.Tryz.f34.results.toList = [.tmp 4] := nr rfl
theorem live_34 : XX.live 34 = [] := nr (by kernel_rfl)
theorem mode_43 : XX.mode 43 = .pure := nr (by kernel_rfl)
theorem fns_43 : XX.fns.contains 43 = true := nr (by kernel_rfl)
theorem res_43 : Go.Proofs.Tryz.f43.results.toList = [.tmp 2] := nr rfl
theorem live_43 : XX.live 43 = [98, 99] := nr (by kernel_rfl)
theorem own_43 : XX.own 43 = [(3, 1, 5)] := nr (by kernel_rfl)
theorem mode_52 : XX.mode 52 = .data := nr (by kernel_rfl)
theorem fns_52 : XX.fns.contains 52 = true := nr (by kernel_rfl)
theorem res_52 : Go.Proofs.Tryz.f52.results.toList = [.tmp 4, .tmp 5] := nr rfl
theorem live_52 : XX.live 52 = [] := nr (by kernel_rfl)
theorem own_52 : XX.own 52 = [] := nr (by kernel_rfl)
theorem adopt_52 : XX.adopt 52 = [6, 7] := nr (by kernel_rfl)
theorem tr_52_3 : XX.trim 52 3 = some ([0, 1, 6, 7, 8], []) := nr (by kernel_rfl)
theorem trim_52_3 (d : AV) (l : List (Nat × AV)) (h : List Blk) (n : Nat) : trimA XX 52 3 n ⟨mkT 109 d l, h⟩ = gcK n (mkT 109 .junk [(0, lk d l 0), (1, lk d l 1), (6, lk d l 6), (7, lk d l 7), (8, lk d l 8)]) h := (trimA_keep tr_52_3 n _ h).trans (by rw [keep_mkT]; kernel_rfl)
abbrev S_52_3 (x0 x1 x6 x7 x8 : AV) (h : List Blk) : St := ⟨mkT 109 .junk [(0, x0), (1, x1), (6, x6), (7, x7), (8, x8)], h⟩
theorem mode_55 : XX.mode 55 = .pure := nr (by kernel_rfl)
theorem fns_55 : XX.fns.contains 55 = true := nr (by kernel_rfl)
theorem res_55 : Go.Proofs.Tryz.f55.results.toList = [.tmp 4] := nr rfl
theorem live_55 : XX.live 55 = [] := nr (by kernel_rfl)
theorem mode_56 : XX.mode 56 = .data := nr (by kernel_rfl)
theorem fns_56 : XX.fns.contains 56 = true := nr (by kernel_rfl)
theorem res_56 : Go.Proofs.Tryz.f56.results.toList = [.tmp 4, .tmp 5] := nr rfl
theorem live_56 : XX.live 56 = [] := nr (by kernel_rfl)
theorem own_56 : XX.own 56 = [] := nr (by kernel_rfl)
theorem adopt_56 : XX.adopt 56 = [6] := nr (by kernel_rfl)
theorem tr_56_3 : XX.trim 56 3 = some ([3, 6, 11, 12, 13], []) := nr (by kernel_rfl)
theorem trim_56_3 (d : AV) (l : List (Nat × AV)) (h : List Blk) (n : Nat) : trimA XX 56 3 n ⟨mkT 34 d l, h⟩ = gcK n (mkT 34 .junk [(3, lk d l 3), (6, lk d l 6), (11, lk d l 11), (12, lk d l 12), (13, lk d l 13)]) h := (trimA_keep tr_56_3 n _ h).trans (by rw [keep_mkT]; kernel_rfl)
abbrev S_56_3 (x3 x6 x11 x12 x13 : AV) (h : List Blk) : St := ⟨mkT 34 .junk [(3, x3), (6, x6), (11, x11), (12, x12), (13, x13)], h⟩
theorem mode_57 : XX.mode 57 = .data := nr (by kernel_rfl)
theorem fns_57 : XX.fns.contains 57 = true := nr (by kernel_rfl)
theorem res_57 : Go.Proofs.Tryz.f57.results.toList = [.tmp 4, .tmp 5] := nr rfl
theorem adopt_57 : XX.adopt 57 = [6] := nr (by kernel_rfl)
theorem cls_57_9 : XX.cls 57 9 = [0, 0, 0, 0, 0, 0, 0, 0, 0, 0, 0, 0] := nr (by kernel_rfl)
theorem tr_57_3 : XX.trim 57 3 = some ([2, 3, 6, 7], []) := nr (by kernel_rfl)
theorem trim_57_3 (d : AV) (l : List (Nat × AV)) (h : List Blk) (n : Nat) : trimA XX 57 3 n ⟨mkT 52 d l, h⟩ = gcK n (mkT 52 .junk [(2, lk d l 2), (3, lk d l 3), (6, lk d l 6), (7, lk d l 7)]) h := (trimA_keep tr_57_3 n _ h).trans (by rw [keep_mkT]; kernel_rfl)
abbrev S_57_3 (x2 x3 x6 x7 : AV) (h : List Blk) : St := ⟨mkT 52 .junk [(2, x2), (3, x3), (6, x6), (7, x7)], h⟩
theorem tr_57_7 : XX.trim 57 7 = some ([2, 3, 6, 7, 8, 9], []) := nr (by kernel_rfl)
theorem trim_57_7 (d : AV) (l : List (Nat × AV)) (h : List Blk) (n : Nat) : trimA XX 57 7 n ⟨mkT 52 d l, h⟩ = gcK n (mkT 52 .junk [(2, lk d l 2), (3, lk d l 3), (6, lk d l 6), (7, lk d l 7), (8, lk d l 8), (9, lk d l 9)]) h := (trimA_keep tr_57_7 n _ h).trans (by rw [keep_mkT]; kernel_rfl)
abbrev S_57_7 (x2 x3 x6 x7 x8 x9 : AV) (h : List Blk) : St := ⟨mkT 52 .junk [(2, x2), (3, x3), (6, x6), (7, x7), (8, x8), (9, x9)], h⟩
theorem mode_58 : XX.mode 58 = .pure := nr (by kernel_rfl)
theorem fns_58 : XX.fns.contains 58 = true := nr (by kernel_rfl)
theorem res_58 : Go.Proofs.Tryz.f58.results.toList = [.tmp 6] := nr rfl
theorem live_58 : XX.live 58 = [] := nr (by kernel_rfl)
theorem own_58 : XX.own 58 = [] := nr (by kernel_rfl)
theorem mode_81 : XX.mode 81 = .data := nr (by kernel_rfl)
theorem fns_81 : XX.fns.contains 81 = true := nr (by kernel_rfl)
theorem res_81 : Go.Proofs.Tryz.f81.results.toList = [.tmp 4] := nr rfl
theorem live_81 : XX.live 81 = [] := nr (by kernel_rfl)
theorem own_81 : XX.own 81 = [] := nr (by kernel_rfl)
theorem adopt_81 : XX.adopt 81 = [5] := nr (by kernel_rfl)
theorem cls_81_5 : XX.cls 81 5 = [0, 0, 0, 0, 0, 0, 0, 0, 0, 0, 0, 0, 2, 0] := nr (by kernel_rfl)
theorem tr_81_3 : XX.trim 81 3 = some ([1, 5, 8, 9, 10], []) := nr (by kernel_rfl)
theorem trim_81_3 (d : AV) (l : List (Nat × AV)) (h : List Blk) (n : Nat) : trimA XX 81 3 n ⟨mkT 29 d l, h⟩ = gcK n (mkT 29 .junk [(1, lk d l 1), (5, lk d l 5), (8, lk d l 8), (9, lk d l 9), (10, lk d l 10)]) h := (trimA_keep tr_81_3 n _ h).trans (by rw [keep_mkT]; kernel_rfl)
abbrev S_81_3 (x1 x5 x8 x9 x10 : AV) (h : List Blk) : St := ⟨mkT 29 .junk [(1, x1), (5, x5), (8, x8), (9, x9), (10, x10)], h⟩
theorem mode_82 : XX.mode 82 = .data := nr (by kernel_rfl)
theorem fns_82 : XX.fns.contains 82 = true := nr (by kernel_rfl)
theorem res_82 : Go.Proofs.Tryz.f82.results.toList = [.tmp 6] := nr rfl
theorem live_82 : XX.live 82 = [] := nr (by kernel_rfl)
theorem own_82 : XX.own 82 = [] := nr (by kernel_rfl)
theorem cls_82_10 : XX.cls 82 10 = [0, 0, 0, 0, 0, 0, 0, 0, 0, 0, 0, 0, 0, 0, 0, 0, 0, 0, 0, 1, 0, 2] := nr (by kernel_rfl)
theorem tr_82_3 : XX.trim 82 3 = some ([0, 2, 7, 16, 17, 18], []) := nr (by kernel_rfl)
theorem trim_82_3 (d : AV) (l : List (Nat × AV)) (h : List Blk) (n : Nat) : trimA XX 82 3 n ⟨mkT 66 d l, h⟩ = gcK n (mkT 66 .junk [(0, lk d l 0), (2, lk d l 2), (7, lk d l 7), (16, lk d l 16), (17, lk d l 17), (18, lk d l 18)]) h := (trimA_keep tr_82_3 n _ h).trans (by rw [keep_mkT]; kernel_rfl)
abbrev S_82_3 (x0 x2 x7 x16 x17 x18 : AV) (h : List Blk) : St := ⟨mkT 66 .junk [(0, x0), (2, x2), (7, x7), (16, x16), (17, x17), (18, x18)], h⟩
theorem tr_82_7 : XX.trim 82 7 = some ([0, 2, 7, 8, 9, 10, 16, 17, 18, 27, 28, 29], []) := nr (by kernel_rfl)
theorem trim_82_7 (d : AV) (l : List (Nat × AV)) (h : List Blk) (n : Nat) : trimA XX 82 7 n ⟨mkT 66 d l, h⟩ = gcK n (mkT 66 .junk [(0, lk d l 0), (2, lk d l 2), (7, lk d l 7), (8, lk d l 8), (9, lk d l 9), (10, lk d l 10), (16, lk d l 16), (17, lk d l 17), (18, lk d l 18), (27, lk d l 27), (28, lk d l 28), (29, lk d l 29)]) h := (trimA_keep tr_82_7 n _ h).trans (by rw [keep_mkT]; kernel_rfl)
abbrev S_82_7 (x0 x2 x7 x8 x9 x10 x16 x17 x18 x27 x28 x29 : AV) (h : List Blk) : St := ⟨mkT 66 .junk [(0, x0), (2, x2), (7, x7), (8, x8), (9, x9), (10, x10), (16, x16), (17, x17), (18, x18), (27, x27), (28, x28), (29, x29)], h⟩
theorem mode_83 : XX.mode 83 = .data := nr (by kernel_rfl)
theorem fns_83 : XX.fns.contains 83 = true := nr (by kernel_rfl)
theorem res_83 : Go.Proofs.Tryz.f83.results.toList = [.tmp 4] := nr rfl
theorem live_83 : XX.live 83 = [] := nr (by kernel_rfl)
theorem own_83 : XX.own 83 = [] := nr (by kernel_rfl)
theorem adopt_83 : XX.adopt 83 = [5] := nr (by kernel_rfl)
theorem tr_83_3 : XX.trim 83 3 = some ([0, 5, 9, 10, 11], []) := nr (by kernel_rfl)
theorem trim_83_3 (d : AV) (l : List (Nat × AV)) (h : List Blk) (n : Nat) : trimA XX 83 3 n ⟨mkT 41 d l, h⟩ = gcK n (mkT 41 .junk [(0, lk d l 0), (5, lk d l 5), (9, lk d l 9), (10, lk d l 10), (11, lk d l 11)]) h := (trimA_keep tr_83_3 n _ h).trans (by rw [keep_mkT]; kernel_rfl)
abbrev S_83_3 (x0 x5 x9 x10 x11 : AV) (h : List Blk) : St := ⟨mkT 41 .junk [(0, x0), (5, x5), (9, x9), (10, x10), (11, x11)], h⟩
theorem mode_84 : XX.mode 84 = .pure := nr (by kernel_rfl)
theorem fns_84 : XX.fns.contains 84 = true := nr (by kernel_rfl)
theorem res_84 : Go.Proofs.Tryz.f84.results.toList = [.tmp 6] := nr rfl
theorem live_84 : XX.live 84 = [] := nr (by kernel_rfl)
theorem own_84 : XX.own 84 = [] := nr (by kernel_rfl)
theorem tr_84_4 : XX.trim 84 4 = some ([1, 2, 15, 16, 17], []) := nr (by kernel_rfl)
theorem trim_84_4 (d : AV) (l : List (Nat × AV)) (h : List Blk) (n : Nat) : trimA XX 84 4 n ⟨mkT 32 d l, h⟩ = gcK n (mkT 32 .junk [(1, lk d l 1), (2, lk d l 2), (15, lk d l 15), (16, lk d l 16), (17, lk d l 17)]) h := (trimA_keep tr_84_4 n _ h).trans (by rw [keep_mkT]; kernel_rfl)
abbrev S_84_4 (x1 x2 x15 x16 x17 : AV) (h : List Blk) : St := ⟨mkT 32 .junk [(1, x1), (2, x2), (15, x15), (16, x16), (17, x17)], h⟩
theorem mode_85 : XX.mode 85 = .pure := nr (by kernel_rfl)
theorem fns_85 : XX.fns.contains 85 = true := nr (by kernel_rfl)
theorem res_85 : Go.Proofs.Tryz.f85.results.toList = [.tmp 4] := nr rfl
theorem live_85 : XX.live 85 = [] := nr (by kernel_rfl)
theorem mode_92 : XX.mode 92 = .pure := nr (by kernel_rfl)
theorem fns_92 : XX.fns.contains 92 = true := nr (by kernel_rfl)
theorem res_92 : Go.Proofs.Tryz.f92.results.toList = [.tmp 4] := nr rfl
theorem tr_92_2 : XX.trim 92 2 = some ([0, 1, 5], []) := nr (by kernel_rfl)
theorem trim_92_2 (d : AV) (l : List (Nat × AV)) (h : List Blk) (n : Nat) : trimA XX 92 2 n ⟨mkT 20 d l, h⟩ = gcK n (mkT 20 .junk [(0, lk d l 0), (1, lk d l 1), (5, lk d l 5)]) h := (trimA_keep tr_92_2 n _ h).trans (by rw [keep_mkT]; kernel_rfl)
abbrev S_92_2 (x0 x1 x5 : AV) (h : List Blk) : St := ⟨mkT 20 .junk [(0, x0), (1, x1), (5, x5)], h⟩
theorem mode_94 : XX.mode 94 = .pure := nr (by kernel_rfl)
theorem fns_94 : XX.fns.contains 94 = true := nr (by kernel_rfl)
theorem res_94 : Go.Proofs.Tryz.f94.results.toList = [.tmp 6] := nr rfl
theorem live_94 : XX.live 94 = [] := nr (by kernel_rfl)
theorem cls_94_5 : XX.cls 94 5 = [0, 0, 0, 0, 0, 0, 0, 0, 0, 0, 0] := nr (by kernel_rfl)
theorem cls_94_6 : XX.cls 94 6 = [0, 0, 0, 0, 0, 0, 0, 0, 0, 0, 0, 0, 0, 0] := nr (by kernel_rfl)
theorem tr_94_3 : XX.trim 94 3 = some ([1, 3, 5, 7, 9], []) := nr (by kernel_rfl)
theorem trim_94_3 (d : AV) (l : List (Nat × AV)) (h : List Blk) (n : Nat) : trimA XX 94 3 n ⟨mkT 48 d l, h⟩ = gcK n (mkT 48 .junk [(1, lk d l 1), (3, lk d l 3), (5, lk d l 5), (7, lk d l 7), (9, lk d l 9)]) h := (trimA_keep tr_94_3 n _ h).trans (by rw [keep_mkT]; kernel_rfl)
abbrev S_94_3 (x1 x3 x5 x7 x9 : AV) (h : List Blk) : St := ⟨mkT 48 .junk [(1, x1), (3, x3), (5, x5), (7, x7), (9, x9)], h⟩
theorem mode_96 : XX.mode 96 = .pure := nr (by kernel_rfl)
theorem fns_96 : XX.fns.contains 96 = true := nr (by kernel_rfl)
theorem res_96 : Go.Proofs.Tryz.f96.results.toList = [.tmp 4] := nr rfl
theorem tr_96_2 : XX.trim 96 2 = some ([0, 1, 5], []) := nr (by kernel_rfl)
theorem trim_96_2 (d : AV) (l : List (Nat × AV)) (h : List Blk) (n : Nat) : trimA XX 96 2 n ⟨mkT 18 d l, h⟩ = gcK n (mkT 18 .junk [(0, lk d l 0), (1, lk d l 1), (5, lk d l 5)]) h := (trimA_keep tr_96_2 n _ h).trans (by rw [keep_mkT]; kernel_rfl)
abbrev S_96_2 (x0 x1 x5 : AV) (h : List Blk) : St := ⟨mkT 18 .junk [(0, x0), (1, x1), (5, x5)], h⟩
theorem mode_97 : XX.mode 97 = .data := nr (by kernel_rfl)
theorem fns_97 : XX.fns.contains 97 = true := nr (by kernel_rfl)
theorem res_97 : Go.Proofs.Tryz.f97.results.toList = [.tmp 4] := nr rfl
theorem live_97 : XX.live 97 = [] := nr (by kernel_rfl)
theorem adopt_97 : XX.adopt 97 = [] := nr (by kernel_rfl)
theorem cls_97_6 : XX.cls 97 6 = [0, 0, 0, 0, 0, 0, 0, 0, 0, 0, 0, 0, 0, 1, 2, 0] := nr (by kernel_rfl)
theorem cls_97_9 : XX.cls 97 9 = [0, 0, 0, 0, 0, 0, 0, 0, 0, 1, 0, 2, 0] := nr (by kernel_rfl)
theorem tr_97_3 : XX.trim 97 3 = some ([0, 1, 5, 6], [5]) := nr (by kernel_rfl)
theorem trim_97_3 (d : AV) (l : List (Nat × AV)) (h : List Blk) (n : Nat) : trimA XX 97 3 n ⟨mkT 51 d l, h⟩ = orO (frzH n 51 5 (lk d l 5) [(0, lk d l 0), (1, lk d l 1), (5, lk d l 5), (6, lk d l 6)] h) (frzO n 51 5 [0, 1, 5, 6] d l h) := ((trimA_frz tr_97_3 n _ h).trans (by simp only [List.map_cons, List.map_nil]; (repeat rw [mkT_getD _ _ _ (by decide)]); rfl)).trans (frzO_eq n 51 5 [0, 1, 5, 6] d l h)
abbrev S_97_3 (x0 x1 x5 x6 : AV) (h : List Blk) : St := ⟨mkT 51 .junk [(0, x0), (1, x1), (5, x5), (6, x6)], h⟩
theorem tr_97_6 : XX.trim 97 6 = some ([0, 1, 5, 6, 7], []) := nr (by kernel_rfl)
theorem trim_97_6 (d : AV) (l : List (Nat × AV)) (h : List Blk) (n : Nat) : trimA XX 97 6 n ⟨mkT 51 d l, h⟩ = gcK n (mkT 51 .junk [(0, lk d l 0), (1, lk d l 1), (5, lk d l 5), (6, lk d l 6), (7, lk d l 7)]) h := (trimA_keep tr_97_6 n _ h).trans (by rw [keep_mkT]; kernel_rfl)
abbrev S_97_6 (x0 x1 x5 x6 x7 : AV) (h : List Blk) : St := ⟨mkT 51 .junk [(0, x0), (1, x1), (5, x5), (6, x6), (7, x7)], h⟩
theorem fns_98 : XX.fns.contains 98 = true := nr (by kernel_rfl)
theorem res_98 : Go.Proofs.Tryz.f98.results.toList = [] := nr rfl
theorem live_98 : XX.live 98 = [98, 152] := nr (by kernel_rfl)
theorem own_98 : XX.own 98 = [] := nr (by kernel_rfl)
theorem cls_98_7 : XX.cls 98 7 = [0, 0, 0, 0, 0, 0, 0, 0, 0, 0, 2] := nr (by kernel_rfl)
theorem tr_98_5 : XX.trim 98 5 = some ([0, 4, 27, 28, 29], []) := nr (by kernel_rfl)
theorem trim_98_5 (d : AV) (l : List (Nat × AV)) (h : List Blk) (n : Nat) : trimA XX 98 5 n ⟨mkT 81 d l, h⟩ = gcK n (mkT 81 .junk [(0, lk d l 0), (4, lk d l 4), (27, lk d l 27), (28, lk d l 28), (29, lk d l 29)]) h := (trimA_keep tr_98_5 n _ h).trans (by rw [keep_mkT]; kernel_rfl)
abbrev S_98_5 (x0 x4 x27 x28 x29 : AV) (h : List Blk) : St := ⟨mkT 81 .junk [(0, x0), (4, x4), (27, x27), (28, x28), (29, x29)], h⟩
theorem tr_98_13 : XX.trim 98 13 = some ([0, 4, 63, 64, 65], []) := nr (by kernel_rfl)
theorem trim_98_13 (d : AV) (l : List (Nat × AV)) (h : List Blk) (n : Nat) : trimA XX 98 13 n ⟨mkT 81 d l, h⟩ = gcK n (mkT 81 .junk [(0, lk d l 0), (4, lk d l 4), (63, lk d l 63), (64, lk d l 64), (65, lk d l 65)]) h := (trimA_keep tr_98_13 n _ h).trans (by rw [keep_mkT]; kernel_rfl)
abbrev S_98_13 (x0 x4 x63 x64 x65 : AV) (h : List Blk) : St := ⟨mkT 81 .junk [(0, x0), (4, x4), (63, x63), (64, x64), (65, x65)], h⟩
theorem mode_103 : XX.mode 103 = .pure := nr (by kernel_rfl)
theorem fns_103 : XX.fns.contains 103 = true := nr (by kernel_rfl)
theorem res_103 : Go.Proofs.Tryz.f103.results.toList = [.tmp 4] := nr rfl
theorem live_103 : XX.live 103 = [] := nr (by kernel_rfl)
theorem tr_103_4 : XX.trim 103 4 = some ([1, 2, 5], []) := nr (by kernel_rfl)
theorem trim_103_4 (d : AV) (l : List (Nat × AV)) (h : List Blk) (n : Nat) : trimA XX 103 4 n ⟨mkT 88 d l, h⟩ = gcK n (mkT 88 .junk [(1, lk d l 1), (2, lk d l 2), (5, lk d l 5)]) h := (trimA_keep tr_103_4 n _ h).trans (by rw [keep_mkT]; kernel_rfl)
abbrev S_103_4 (x1 x2 x5 : AV) (h : List Blk) : St := ⟨mkT 88 .junk [(1, x1), (2, x2), (5, x5)], h⟩
theorem tr_103_16 : XX.trim 103 16 = some ([6, 7], []) := nr (by kernel_rfl)
theorem trim_103_16 (d : AV) (l : List (Nat × AV)) (h : List Blk) (n : Nat) : trimA XX 103 16 n ⟨mkT 88 d l, h⟩ = gcK n (mkT 88 .junk [(6, lk d l 6), (7, lk d l 7)]) h := (trimA_keep tr_103_16 n _ h).trans (by rw [keep_mkT]; kernel_rfl)
abbrev S_103_16 (x6 x7 : AV) (h : List Blk) : St := ⟨mkT 88 .junk [(6, x6), (7, x7)], h⟩
theorem mode_106 : XX.mode 106 = .pure := nr (by kernel_rfl)
theorem fns_106 : XX.fns.contains 106 = true := nr (by kernel_rfl)
theorem res_106 : Go.Proofs.Tryz.f106.results.toList = [.tmp 4] := nr rfl
theorem live_106 : XX.live 106 = [] := nr (by kernel_rfl)
theorem tr_106_2 : XX.trim 106 2 = some ([0, 1, 7, 8], []) := nr (by kernel_rfl)
theorem trim_106_2 (d : AV) (l : List (Nat × AV)) (h : List Blk) (n : Nat) : trimA XX 106 2 n ⟨mkT 19 d l, h⟩ = gcK n (mkT 19 .junk [(0, lk d l 0), (1, lk d l 1), (7, lk d l 7), (8, lk d l 8)]) h := (trimA_keep tr_106_2 n _ h).trans (by rw [keep_mkT]; kernel_rfl)
abbrev S_106_2 (x0 x1 x7 x8 : AV) (h : List Blk) : St := ⟨mkT 19 .junk [(0, x0), (1, x1), (7, x7), (8, x8)], h⟩
theorem mode_107 : XX.mode 107 = .pure := nr (by kernel_rfl)
theorem fns_107 : XX.fns.contains 107 = true := nr (by kernel_rfl)
theorem res_107 : Go.Proofs.Tryz.f107.results.toList = [.tmp 3] := nr rfl
theorem mode_108 : XX.mode 108 = .pure := nr (by kernel_rfl)
theorem fns_108 : XX.fns.contains 108 = true := nr (by kernel_rfl)
theorem res_108 : Go.Proofs.Tryz.f108.results.toList = [.tmp 4] := nr rfl
theorem live_108 : XX.live 108 = [] := nr (by kernel_rfl)
theorem tr_108_2 : XX.trim 108 2 = some ([0, 1, 7, 8], []) := nr (by kernel_rfl)
theorem trim_108_2 (d : AV) (l : List (Nat × AV)) (h : List Blk) (n : Nat) : trimA XX 108 2 n ⟨mkT 19 d l, h⟩ = gcK n (mkT 19 .junk [(0, lk d l 0), (1, lk d l 1), (7, lk d l 7), (8, lk d l 8)]) h := (trimA_keep tr_108_2 n _ h).trans (by rw [keep_mkT]; kernel_rfl)
abbrev S_108_2 (x0 x1 x7 x8 : AV) (h : List Blk) : St := ⟨mkT 19 .junk [(0, x0), (1, x1), (7, x7), (8, x8)], h⟩
theorem mode_109 : XX.mode 109 = .pure := nr (by kernel_rfl)
theorem fns_109 : XX.fns.contains 109 = true := nr (by kernel_rfl)
theorem res_109 : Go.Proofs.Tryz.f109.results.toList = [.tmp 3] := nr rfl
theorem mode_110 : XX.mode 110 = .pure := nr (by kernel_rfl)
theorem fns_110 : XX.fns.contains 110 = true := nr (by kernel_rfl)
theorem res_110 : Go.Proofs.Tryz.f110.results.toList = [.tmp 5] := nr rfl
theorem live_110 : XX.live 110 = [] := nr (by kernel_rfl)
theorem mode_111 : XX.mode 111 = .pure := nr (by kernel_rfl)
theorem fns_111 : XX.fns.contains 111 = true := nr (by kernel_rfl)
theorem res_111 : Go.Proofs.Tryz.f111.results.toList = [.tmp 4] := nr rfl
theorem cls_111_6 : XX.cls 111 6 = [0, 0, 0, 0, 0, 0, 0, 0, 0] := nr (by kernel_rfl)
theorem tr_111_4 : XX.trim 111 4 = some ([0, 1, 12, 13], []) := nr (by kernel_rfl)
theorem trim_111_4 (d : AV) (l : List (Nat × AV)) (h : List Blk) (n : Nat) : trimA XX 111 4 n ⟨mkT 26 d l, h⟩ = gcK n (mkT 26 .junk [(0, lk d l 0), (1, lk d l 1), (12, lk d l 12), (13, lk d l 13)]) h := (trimA_keep tr_111_4 n _ h).trans (by rw [keep_mkT]; kernel_rfl)
abbrev S_111_4 (x0 x1 x12 x13 : AV) (h : List Blk) : St := ⟨mkT 26 .junk [(0, x0), (1, x1), (12, x12), (13, x13)], h⟩
theorem mode_117 : XX.mode 117 = .pure := nr (by kernel_rfl)
theorem fns_117 : XX.fns.contains 117 = true := nr (by kernel_rfl)
theorem res_117 : Go.Proofs.Tryz.f117.results.toList = [.tmp 4] := nr rfl
theorem live_117 : XX.live 117 = [] := nr (by kernel_rfl)
theorem mode_139 : XX.mode 139 = .fresh := nr (by kernel_rfl)
theorem fns_139 : XX.fns.contains 139 = true := nr (by kernel_rfl)
theorem res_139 : Go.Proofs.Tryz.f139.results.toList = [.tmp 2] := nr rfl
theorem mode_140 : XX.mode 140 = .fresh := nr (by kernel_rfl)
theorem fns_140 : XX.fns.contains 140 = true := nr (by kernel_rfl)
theorem res_140 : Go.Proofs.Tryz.f140.results.toList = [.tmp 4] := nr rfl
theorem live_140 : XX.live 140 = [] := nr (by kernel_rfl)
theorem cls_140_11 : XX.cls 140 11 = [0, 0, 0, 0, 0, 0, 0, 0, 0, 0, 0, 0, 0, 0, 0, 0, 0, 0, 0, 1, 0, 2] := nr (by kernel_rfl)
theorem tr_140_9 : XX.trim 140 9 = some ([0, 1, 5, 37, 38], []) := nr (by kernel_rfl)
theorem trim_140_9 (d : AV) (l : List (Nat × AV)) (h : List Blk) (n : Nat) : trimA XX 140 9 n ⟨mkT 64 d l, h⟩ = gcK n (mkT 64 .junk [(0, lk d l 0), (1, lk d l 1), (5, lk d l 5), (37, lk d l 37), (38, lk d l 38)]) h := (trimA_keep tr_140_9 n _ h).trans (by rw [keep_mkT]; kernel_rfl)
abbrev S_140_9 (x0 x1 x5 x37 x38 : AV) (h : List Blk) : St := ⟨mkT 64 .junk [(0, x0), (1, x1), (5, x5), (37, x37), (38, x38)], h⟩
theorem mode_141 : XX.mode 141 = .data := nr (by kernel_rfl)
theorem fns_141 : XX.fns.contains 141 = true := nr (by kernel_rfl)
theorem res_141 : Go.Proofs.Tryz.f141.results.toList = [.tmp 6] := nr rfl
theorem live_141 : XX.live 141 = [] := nr (by kernel_rfl)
theorem own_141 : XX.own 141 = [] := nr (by kernel_rfl)
theorem adopt_141 : XX.adopt 141 = [7] := nr (by kernel_rfl)
theorem cls_141_20 : XX.cls 141 20 = [0, 0, 0, 0, 0, 0, 0, 2, 0] := nr (by kernel_rfl)
theorem cls_141_31 : XX.cls 141 31 = [0, 0, 0, 0, 0, 0, 0, 2] := nr (by kernel_rfl)
theorem tr_141_12 : XX.trim 141 12 = some ([3, 4, 7, 8, 9, 52, 53, 54], []) := nr (by kernel_rfl)
theorem trim_141_12 (d : AV) (l : List (Nat × AV)) (h : List Blk) (n : Nat) : trimA XX 141 12 n ⟨mkT 140 d l, h⟩ = gcK n (mkT 140 .junk [(3, lk d l 3), (4, lk d l 4), (7, lk d l 7), (8, lk d l 8), (9, lk d l 9), (52, lk d l 52), (53, lk d l 53), (54, lk d l 54)]) h := (trimA_keep tr_141_12 n _ h).trans (by rw [keep_mkT]; kernel_rfl)
abbrev S_141_12 (x3 x4 x7 x8 x9 x52 x53 x54 : AV) (h : List Blk) : St := ⟨mkT 140 .junk [(3, x3), (4, x4), (7, x7), (8, x8), (9, x9), (52, x52), (53, x53), (54, x54)], h⟩
theorem tr_141_28 : XX.trim 141 28 = some ([3, 8, 119, 120, 121], []) := nr (by kernel_rfl)
theorem trim_141_28 (d : AV) (l : List (Nat × AV)) (h : List Blk) (n : Nat) : trimA XX 141 28 n ⟨mkT 140 d l, h⟩ = gcK n (mkT 140 .junk [(3, lk d l 3), (8, lk d l 8), (119, lk d l 119), (120, lk d l 120), (121, lk d l 121)]) h := (trimA_keep tr_141_28 n _ h).trans (by rw [keep_mkT]; kernel_rfl)
abbrev S_141_28 (x3 x8 x119 x120 x121 : AV) (h : List Blk) : St := ⟨mkT 140 .junk [(3, x3), (8, x8), (119, x119), (120, x120), (121, x121)], h⟩
theorem mode_142 : XX.mode 142 = .pure := nr (by kernel_rfl)
theorem fns_142 : XX.fns.contains 142 = true := nr (by kernel_rfl)
theorem res_142 : Go.Proofs.Tryz.f142.results.toList = [.tmp 4] := nr rfl
theorem tr_142_2 : XX.trim 142 2 = some ([0, 1, 7, 8], []) := nr (by kernel_rfl)
theorem trim_142_2 (d : AV) (l : List (Nat × AV)) (h : List Blk) (n : Nat) : trimA XX 142 2 n ⟨mkT 19 d l, h⟩ = gcK n (mkT 19 .junk [(0, lk d l 0), (1, lk d l 1), (7, lk d l 7), (8, lk d l 8)]) h := (trimA_keep tr_142_2 n _ h).trans (by rw [keep_mkT]; kernel_rfl)
abbrev S_142_2 (x0 x1 x7 x8 : AV) (h : List Blk) : St := ⟨mkT 19 .junk [(0, x0), (1, x1), (7, x7), (8, x8)], h⟩
theorem mode_150 : XX.mode 150 = .pure := nr (by kernel_rfl)
theorem fns_150 : XX.fns.contains 150 = true := nr (by kernel_rfl)
theorem res_150 : Go.Proofs.Tryz.f150.results.toList = [.tmp 4] := nr rfl
theorem cls_150_4 : XX.cls 150 4 = [0, 0, 0, 0, 0, 0, 0, 0, 0] := nr (by kernel_rfl)
theorem cls_150_6 : XX.cls 150 6 = [0, 0, 0, 0, 0, 0, 0, 0, 0] := nr (by kernel_rfl)
theorem tr_150_2 : XX.trim 150 2 = some ([0, 1, 5], []) := nr (by kernel_rfl)
theorem trim_150_2 (d : AV) (l : List (Nat × AV)) (h : List Blk) (n : Nat) : trimA XX 150 2 n ⟨mkT 41 d l, h⟩ = gcK n (mkT 41 .junk [(0, lk d l 0), (1, lk d l 1), (5, lk d l 5)]) h := (trimA_keep tr_150_2 n _ h).trans (by rw [keep_mkT]; kernel_rfl)
abbrev S_150_2 (x0 x1 x5 : AV) (h : List Blk) : St := ⟨mkT 41 .junk [(0, x0), (1, x1), (5, x5)], h⟩
theorem mode_151 : XX.mode 151 = .pure := nr (by kernel_rfl)
theorem fns_151 : XX.fns.contains 151 = true := nr (by kernel_rfl)
theorem res_151 : Go.Proofs.Tryz.f151.results.toList = [.tmp 6] := nr rfl
theorem live_151 : XX.live 151 = [] := nr (by kernel_rfl)
theorem cls_151_1 : XX.cls 151 1 = [0, 0, 0, 0, 0, 0, 0, 0, 0, 0] := nr (by kernel_rfl)
theorem cls_151_4 : XX.cls 151 4 = [0, 0, 0, 0, 0, 0, 0, 0, 0, 0, 0] := nr (by kernel_rfl)
theorem cls_151_5 : XX.cls 151 5 = [0, 0, 0, 0, 0, 0, 0, 0, 0, 0, 0] := nr (by kernel_rfl)
theorem fns_152 : XX.fns.contains 152 = true := nr (by kernel_rfl)
theorem res_152 : Go.Proofs.Tryz.f152.results.toList = [.tmp 4, .tmp 5] := nr rfl
theorem live_152 : XX.live 152 = [203] := nr (by kernel_rfl)
theorem mode_153 : XX.mode 153 = .pure := nr (by kernel_rfl)
theorem fns_153 : XX.fns.contains 153 = true := nr (by kernel_rfl)
theorem res_153 : Go.Proofs.Tryz.f153.results.toList = [.tmp 2] := nr rfl
theorem live_153 : XX.live 153 = [205] := nr (by kernel_rfl)
theorem mode_193 : XX.mode 193 = .data := nr (by kernel_rfl)
theorem fns_193 : XX.fns.contains 193 = true := nr (by kernel_rfl)
theorem res_193 : Go.Proofs.Tryz.f193.results.toList = [.tmp 0] := nr rfl
theorem mode_194 : XX.mode 194 = .pure := nr (by kernel_rfl)
theorem fns_194 : XX.fns.contains 194 = true := nr (by kernel_rfl)
theorem res_194 : Go.Proofs.Tryz.f194.results.toList = [.tmp 3] := nr rfl
theorem mode_195 : XX.mode 195 = .pure := nr (by kernel_rfl)
theorem fns_195 : XX.fns.contains 195 = true := nr (by kernel_rfl)
theorem res_195 : Go.Proofs.Tryz.f195.results.toList = [.tmp 4] := nr rfl
theorem live_195 : XX.live 195 = [] := nr (by kernel_rfl)
theorem mode_196 : XX.mode 196 = .pure := nr (by kernel_rfl)
theorem fns_196 : XX.fns.contains 196 = true := nr (by kernel_rfl)
theorem res_196 : Go.Proofs.Tryz.f196.results.toList = [.tmp 2] := nr rfl
theorem mode_204 : XX.mode 204 = .fresh := nr (by kernel_rfl)
theorem mode_206 : XX.mode 206 = .pure := nr (by kernel_rfl)
theorem fns_206 : XX.fns.contains 206 = true := nr (by kernel_rfl)
theorem res_206 : Go.Proofs.Tryz.f206.results.toList = [.tmp 2] := nr rfl
theorem live_206 : XX.live 206 = [205] := nr (by kernel_rfl)
theorem mode_239 : XX.mode 239 = .pure := nr (by kernel_rfl)
theorem fns_239 : XX.fns.contains 239 = true := nr (by kernel_rfl)
theorem res_239 : Go.Proofs.Tryz.f239.results.toList = [.tmp 4] := nr rfl
theorem live_239 : XX.live 239 = [] := nr (by kernel_rfl)
theorem tr_239_2 : XX.trim 239 2 = some ([0, 1, 7, 8], []) := nr (by kernel_rfl)
theorem trim_239_2 (d : AV) (l : List (Nat × AV)) (h : List Blk) (n : Nat) : trimA XX 239 2 n ⟨mkT 19 d l, h⟩ = gcK n (mkT 19 .junk [(0, lk d l 0), (1, lk d l 1), (7, lk d l 7), (8, lk d l 8)]) h := (trimA_keep tr_239_2 n _ h).trans (by rw [keep_mkT]; kernel_rfl)
abbrev S_239_2 (x0 x1 x7 x8 : AV) (h : List Blk) : St := ⟨mkT 19 .junk [(0, x0), (1, x1), (7, x7), (8, x8)], h⟩
theorem ty_3 : tyOf Go.Proofs.Tryz.prog 3 = Option.some { d := Go.Abs.TD.int Go.IntKind.i64, size := 1, bytes := 8, zero := Option.some (Go.Value.int Go.IntKind.i64 0) } := nr (by kernel_rfl)
theorem ty_4 : tyOf Go.Proofs.Tryz.prog 4 = Option.some { d := Go.Abs.TD.bool, size := 1, bytes := 1, zero := Option.some (Go.Value.bool Bool.false) } := nr (by kernel_rfl)
theorem ty_5 : tyOf Go.Proofs.Tryz.prog 5 = Option.some { d := Go.Abs.TD.int Go.IntKind.u8, size := 1, bytes := 1, zero := Option.some (Go.Value.int Go.IntKind.u8 0) } := nr (by kernel_rfl)
theorem zero_5 : zeroA Go.Proofs.Tryz.prog 5 = some [.v (Go.Value.int Go.IntKind.u8 0)] := nr (by kernel_rfl)
theorem ty_9 : tyOf Go.Proofs.Tryz.prog 9 = Option.some { d := Go.Abs.TD.str, size := 1, bytes := 16, zero := Option.some (Go.Value.string { data := #[] }) } := nr (by kernel_rfl)
theorem zero_9 : zeroA Go.Proofs.Tryz.prog 9 = some [.v (Go.Value.string { data := #[] })] := nr (by kernel_rfl)
theorem ty_22 : tyOf Go.Proofs.Tryz.prog 22 = Option.some { d := Go.Abs.TD.slice 36, size := 1, bytes := 24, zero := Option.some (Go.Value.slice Option.none 0 0) } := nr (by kernel_rfl)
theorem ty_33 : tyOf Go.Proofs.Tryz.prog 33 = Option.some { d := Go.Abs.TD.slice 9, size := 1, bytes := 24, zero := Option.some (Go.Value.slice Option.none 0 0) } := nr (by kernel_rfl)
theorem zero_33 : zeroA Go.Proofs.Tryz.prog 33 = some [.fs [] true] := nr (by kernel_rfl)
theorem ty_34 : tyOf Go.Proofs.Tryz.prog 34 = Option.some { d := Go.Abs.TD.slice 40, size := 1, bytes := 24, zero := Option.some (Go.Value.slice Option.none 0 0) } := nr (by kernel_rfl)
theorem ty_36 : tyOf Go.Proofs.Tryz.prog 36 = Option.some { d := Go.Abs.TD.struct [(0, 9), (1, 9), (2, 34), (3, 9), (4, 22)], size := 5, bytes := 96, zero := Option.some (Go.Value.agg #[Go.Value.string { data := #[] }, Go.Value.string { data := #[] }, Go.Value.slice Option.none 0 0, Go.Value.string { data := #[] }, Go.Value.slice Option.none 0 0]) } := nr (by kernel_rfl)
theorem zero_36 : zeroA Go.Proofs.Tryz.prog 36 = some [.v (Go.Value.string { data := #[] }), .v (Go.Value.string { data := #[] }), .fs [] true, .v (Go.Value.string { data := #[] }), .fs [] true] := nr (by kernel_rfl)
theorem ty_40 : tyOf Go.Proofs.Tryz.prog 40 = Option.some { d := Go.Abs.TD.struct [(0, 9), (1, 9)], size := 2, bytes := 32, zero := Option.some (Go.Value.agg #[Go.Value.string { data := #[] }, Go.Value.string { data := #[] }]) } := nr (by kernel_rfl)
theorem zero_40 : zeroA Go.Proofs.Tryz.prog 40 = some [.v (Go.Value.string { data := #[] }), .v (Go.Value.string { data := #[] })] := nr (by kernel_rfl)
theorem ty_42 : tyOf Go.Proofs.Tryz.prog 42 = Option.some { d := Go.Abs.TD.slice 75, size := 1, bytes := 24, zero := Option.some (Go.Value.slice Option.none 0 0) } := nr (by kernel_rfl)
theorem ty_45 : tyOf Go.Proofs.Tryz.prog 45 = Option.some { d := Go.Abs.TD.slice 77, size := 1, bytes := 24, zero := Option.some (Go.Value.slice Option.none 0 0) } := nr (by kernel_rfl)
theorem ty_75 : tyOf Go.Proofs.Tryz.prog 75 = Option.some { d := Go.Abs.TD.struct [(0, 9), (1, 9), (2, 42)], size := 3, bytes := 56, zero := Option.some (Go.Value.agg #[Go.Value.string { data := #[] }, Go.Value.string { data := #[] }, Go.Value.slice Option.none 0 0]) } := nr (by kernel_rfl)
theorem zero_75 : zeroA Go.Proofs.Tryz.prog 75 = some [.v (Go.Value.string { data := #[] }), .v (Go.Value.string { data := #[] }), .fs [] true] := nr (by kernel_rfl)
theorem ty_77 : tyOf Go.Proofs.Tryz.prog 77 = Option.some { d := Go.Abs.TD.struct [(0, 9), (1, 3), (2, 3), (3, 33), (4, 4), (5, 33), (6, 45)], size := 7, bytes := 112, zero := Option.some (Go.Value.agg #[Go.Value.string { data := #[] }, Go.Value.int Go.IntKind.i64 0, Go.Value.int Go.IntKind.i64 0, Go.Value.slice Option.none 0 0, Go.Value.bool Bool.false, Go.Value.slice Option.none 0 0, Go.Value.slice Option.none 0 0]) } := nr (by kernel_rfl)
theorem zero_77 : zeroA Go.Proofs.Tryz.prog 77 = some [.v (Go.Value.string { data := #[] }), .v (Go.Value.int Go.IntKind.i64 0), .v (Go.Value.int Go.IntKind.i64 0), .fs [] true, .v (Go.Value.bool Bool.false), .fs [] true, .fs [] true] := nr (by kernel_rfl)
theorem ty_115 : tyOf Go.Proofs.Tryz.prog 115 = Option.some { d := Go.Abs.TD.ptr 175, size := 1, bytes := 8, zero := Option.some (Go.Value.pointer Option.none) } := nr (by kernel_rfl)
theorem zero_115 : zeroA Go.Proofs.Tryz.prog 115 = some [.v (Go.Value.pointer Option.none)] := nr (by kernel_rfl)
theorem ty_132 : tyOf Go.Proofs.Tryz.prog 132 = Option.some { d := Go.Abs.TD.slice 5, size := 1, bytes := 24, zero := Option.some (Go.Value.slice Option.none 0 0) } := nr (by kernel_rfl)
theorem ty_134 : tyOf Go.Proofs.Tryz.prog 134 = Option.some { d := Go.Abs.TD.struct [(0, 131), (1, 132)], size := 2, bytes := 32, zero := Option.some (Go.Value.agg #[Go.Value.pointer Option.none, Go.Value.slice Option.none 0 0]) } := nr (by kernel_rfl)
theorem zero_134 : zeroA Go.Proofs.Tryz.prog 134 = some [.v (Go.Value.pointer Option.none), .fs [] true] := nr (by kernel_rfl)
theorem ty_173 : tyOf Go.Proofs.Tryz.prog 173 = Option.some { d := Go.Abs.TD.slice 115, size := 1, bytes := 24, zero := Option.some (Go.Value.slice Option.none 0 0) } := nr (by kernel_rfl)
theorem ty_175 : tyOf Go.Proofs.Tryz.prog 175 = Option.some { d := Go.Abs.TD.struct [(0, 4), (1, 173)], size := 2, bytes := 32, zero := Option.some (Go.Value.agg #[Go.Value.bool Bool.false, Go.Value.slice Option.none 0 0]) } := nr (by kernel_rfl)
theorem zero_175 : zeroA Go.Proofs.Tryz.prog 175 = some [.v (Go.Value.bool Bool.false), .fs [] true] := nr (by kernel_rfl)
attribute [go_sem] nilT_XX XX_P tyO_XX res_5 live_5 mode_20 res_20 live_20 own_20 trim_20_2 mode_28 res_28 live_28 mode_29 res_29 live_29 adopt_29 mode_30 mode_31 res_31 live_31 mode_32 res_32 adopt_32 mode_33 res_33 live_33 own_33 cls_33_7 cls_33_8 trim_33_2 mode_34 res_34 live_34 mode_43 res_43 live_43 own_43 mode_52 res_52 live_52 own_52 adopt_52 trim_52_3 mode_55 res_55 live_55 mode_56 res_56 live_56 own_56 adopt_56 trim_56_3 mode_57 res_57 adopt_57 cls_57_9 trim_57_3 trim_57_7 mode_58 res_58 live_58 own_58 mode_81 res_81 live_81 own_81 adopt_81 cls_81_5 trim_81_3 mode_82 res_82 live_82 own_82 cls_82_10 trim_82_3 trim_82_7 mode_83 res_83 live_83 own_83 adopt_83 trim_83_3 mode_84 res_84 live_84 own_84 trim_84_4 mode_85 res_85 live_85 mode_92 res_92 trim_92_2 mode_94 res_94 live_94 cls_94_5 cls_94_6 trim_94_3 mode_96 res_96 trim_96_2 mode_97 res_97 live_97 adopt_97 cls_97_6 cls_97_9 trim_97_3 trim_97_6 res_98 live_98 own_98 cls_98_7 trim_98_5 trim_98_13 mode_103 res_103 live_103 trim_103_4 trim_103_16 mode_106 res_106 live_106 trim_106_2 mode_107 res_107 mode_108 res_108 live_108 trim_108_2 mode_109 res_109 mode_110 res_110 live_110 mode_111 res_111 cls_111_6 trim_111_4 mode_117 res_117 live_117 mode_139 res_139 mode_140 res_140 live_140 cls_140_11 trim_140_9 mode_141 res_141 live_141 own_141 adopt_141 cls_141_20 cls_141_31 trim_141_12 trim_141_28 mode_142 res_142 trim_142_2 mode_150 res_150 cls_150_4 cls_150_6 trim_150_2 mode_151 res_151 live_151 cls_151_1 cls_151_4 cls_151_5 res_152 live_152 mode_153 res_153 live_153 mode_193 res_193 mode_194 res_194 mode_195 res_195 live_195 mode_196 res_196 mode_204 mode_206 res_206 live_206 mode_239 res_239 live_239 trim_239_2 ty_3 ty_4 ty_5 zero_5 ty_9 zero_9 ty_22 ty_33 zero_33 ty_34 ty_36 zero_36 ty_40 zero_40 ty_42 ty_45 ty_75 zero_75 ty_77 zero_77 ty_115 zero_115 ty_132 ty_134 zero_134 ty_173 ty_175 zero_175 Go.Proofs.Tryz.ntmps3 Go.Proofs.Tryz.ntmps4 Go.Proofs.Tryz.ntmps5 Go.Proofs.Tryz.ntmps6 Go.Proofs.Tryz.ntmps7 Go.Proofs.Tryz.ntmps8 Go.Proofs.Tryz.ntmps9 Go.Proofs.Tryz.ntmps10 Go.Proofs.Tryz.ntmps11 Go.Proofs.Tryz.ntmps12 Go.Proofs.Tryz.ntmps13 Go.Proofs.Tryz.ntmps14 Go.Proofs.Tryz.ntmps15 Go.Proofs.Tryz.ntmps16 Go.Proofs.Tryz.ntmps17 Go.Proofs.Tryz.ntmps18 Go.Proofs.Tryz.ntmps19 Go.Proofs.Tryz.ntmps20 Go.Proofs.Tryz.ntmps21 Go.Proofs.Tryz.ntmps22 Go.Proofs.Tryz.ntmps23 Go.Proofs.Tryz.ntmps24 Go.Proofs.Tryz.ntmps25 Go.Proofs.Tryz.ntmps26 Go.Proofs.Tryz.ntmps27 Go.Proofs.Tryz.ntmps28 Go.Proofs.Tryz.ntmps29 Go.Proofs.Tryz.ntmps30 Go.Proofs.Tryz.ntmps31 Go.Proofs.Tryz.ntmps32 Go.Proofs.Tryz.ntmps33 Go.Proofs.Tryz.ntmps34 Go.Proofs.Tryz.ntmps35 Go.Proofs.Tryz.ntmps36 Go.Proofs.Tryz.ntmps37 Go.Proofs.Tryz.ntmps38 Go.Proofs.Tryz.ntmps39 Go.Proofs.Tryz.ntmps40 Go.Proofs.Tryz.ntmps41 Go.Proofs.Tryz.ntmps42 Go.Proofs.Tryz.ntmps43 Go.Proofs.Tryz.ntmps44 Go.Proofs.Tryz.ntmps45 Go.Proofs.Tryz.ntmps46 Go.Proofs.Tryz.ntmps47 Go.Proofs.Tryz.ntmps48 Go.Proofs.Tryz.ntmps49 Go.Proofs.Tryz.ntmps50 Go.Proofs.Tryz.ntmps51 Go.Proofs.Tryz.ntmps52 Go.Proofs.Tryz.ntmps53 Go.Proofs.Tryz.ntmps54 Go.Proofs.Tryz.ntmps55 Go.Proofs.Tryz.ntmps56 Go.Proofs.Tryz.ntmps57 Go.Proofs.Tryz.ntmps58 Go.Proofs.Tryz.ntmps59 Go.Proofs.Tryz.ntmps60 Go.Proofs.Tryz.ntmps61 Go.Proofs.Tryz.ntmps62 Go.Proofs.Tryz.ntmps63 Go.Proofs.Tryz.ntmps64 Go.Proofs.Tryz.ntmps65 Go.Proofs.Tryz.ntmps66 Go.Proofs.Tryz.ntmps67 Go.Proofs.Tryz.ntmps68 Go.Proofs.Tryz.ntmps69 Go.Proofs.Tryz.ntmps70 Go.Proofs.Tryz.ntmps71 Go.Proofs.Tryz.ntmps72 Go.Proofs.Tryz.ntmps73 Go.Proofs.Tryz.ntmps74 Go.Proofs.Tryz.ntmps75 Go.Proofs.Tryz.ntmps76 Go.Proofs.Tryz.ntmps78 Go.Proofs.Tryz.ntmps79 Go.Proofs.Tryz.ntmps80 Go.Proofs.Tryz.ntmps81 Go.Proofs.Tryz.ntmps82 Go.Proofs.Tryz.ntmps83 Go.Proofs.Tryz.ntmps84 Go.Proofs.Tryz.ntmps85 Go.Proofs.Tryz.ntmps86 Go.Proofs.Tryz.ntmps87 Go.Proofs.Tryz.ntmps88 Go.Proofs.Tryz.ntmps89 Go.Proofs.Tryz.ntmps90 Go.Proofs.Tryz.ntmps91 Go.Proofs.Tryz.ntmps92 Go.Proofs.Tryz.ntmps93 Go.Proofs.Tryz.ntmps94 Go.Proofs.Tryz.ntmps95 Go.Proofs.Tryz.ntmps96 Go.Proofs.Tryz.ntmps97 Go.Proofs.Tryz.ntmps98 Go.Proofs.Tryz.ntmps100 Go.Proofs.Tryz.ntmps101 Go.Proofs.Tryz.ntmps102 Go.Proofs.Tryz.ntmps103 Go.Proofs.Tryz.ntmps104 Go.Proofs.Tryz.ntmps105 Go.Proofs.Tryz.ntmps106 Go.Proofs.Tryz.ntmps107 Go.Proofs.Tryz.ntmps108 Go.Proofs.Tryz.ntmps109 Go.Proofs.Tryz.ntmps110 Go.Proofs.Tryz.ntmps111 Go.Proofs.Tryz.ntmps112 Go.Proofs.Tryz.ntmps113 Go.Proofs.Tryz.ntmps114 Go.Proofs.Tryz.ntmps115 Go.Proofs.Tryz.ntmps117 Go.Proofs.Tryz.ntmps118 Go.Proofs.Tryz.ntmps120 Go.Proofs.Tryz.ntmps122 Go.Proofs.Tryz.ntmps126 Go.Proofs.Tryz.ntmps129 Go.Proofs.Tryz.ntmps130 Go.Proofs.Tryz.ntmps131 Go.Proofs.Tryz.ntmps132 Go.Proofs.Tryz.ntmps133 Go.Proofs.Tryz.ntmps134 Go.Proofs.Tryz.ntmps136 Go.Proofs.Tryz.ntmps137 Go.Proofs.Tryz.ntmps138 Go.Proofs.Tryz.ntmps139 Go.Proofs.Tryz.ntmps140 Go.Proofs.Tryz.ntmps141 Go.Proofs.Tryz.ntmps142 Go.Proofs.Tryz.ntmps143 Go.Proofs.Tryz.ntmps144 Go.Proofs.Tryz.ntmps145 Go.Proofs.Tryz.ntmps146 Go.Proofs.Tryz.ntmps147 Go.Proofs.Tryz.ntmps148 Go.Proofs.Tryz.ntmps149 Go.Proofs.Tryz.ntmps150 Go.Proofs.Tryz.ntmps151 Go.Proofs.Tryz.ntmps152 Go.Proofs.Tryz.ntmps153 Go.Proofs.Tryz.ntmps154 Go.Proofs.Tryz.ntmps155 Go.Proofs.Tryz.ntmps156 Go.Proofs.Tryz.ntmps157 Go.Proofs.Tryz.ntmps158 Go.Proofs.Tryz.ntmps159 Go.Proofs.Tryz.ntmps160 Go.Proofs.Tryz.ntmps161 Go.Proofs.Tryz.ntmps162 Go.Proofs.Tryz.ntmps165 Go.Proofs.Tryz.ntmps166 Go.Proofs.Tryz.ntmps167 Go.Proofs.Tryz.ntmps168 Go.Proofs.Tryz.ntmps169 Go.Proofs.Tryz.ntmps178 Go.Proofs.Tryz.ntmps182 Go.Proofs.Tryz.ntmps184 Go.Proofs.Tryz.ntmps186 Go.Proofs.Tryz.ntmps187 Go.Proofs.Tryz.ntmps188 Go.Proofs.Tryz.ntmps189 Go.Proofs.Tryz.ntmps193 Go.Proofs.Tryz.ntmps194 Go.Proofs.Tryz.ntmps195 Go.Proofs.Tryz.ntmps196 Go.Proofs.Tryz.ntmps197 Go.Proofs.Tryz.ntmps198 Go.Proofs.Tryz.ntmps199 Go.Proofs.Tryz.ntmps200 Go.Proofs.Tryz.ntmps201 Go.Proofs.Tryz.ntmps202 Go.Proofs.Tryz.ntmps204 Go.Proofs.Tryz.ntmps206 Go.Proofs.Tryz.ntmps207 Go.Proofs.Tryz.ntmps208 Go.Proofs.Tryz.ntmps209 Go.Proofs.Tryz.ntmps210 Go.Proofs.Tryz.ntmps211 Go.Proofs.Tryz.ntmps212 Go.Proofs.Tryz.ntmps224 Go.Proofs.Tryz.ntmps225 Go.Proofs.Tryz.ntmps226 Go.Proofs.Tryz.ntmps227 Go.Proofs.Tryz.ntmps239 Go.Proofs.Tryz.ntmps240 Go.Proofs.Tryz.ntmps241 Go.Proofs.Tryz.ntmps242 Go.Proofs.Tryz.ntmps243 Go.Proofs.Tryz.ntmps247 Go.Proofs.Tryz.ntmps266 Go.Proofs.Tryz.ntmps270 Go.Proofs.Tryz.ntmps280 Go.Proofs.Tryz.ntmps282 Go.Proofs.Tryz.ntmps290 Go.Proofs.Tryz.ntmps291
end Go.Abs.SA
end
section
namespace Go.Abs.SA
open Go.Proofs
theorem XX_ext : XX.ext = extY := rfl
theorem XX_extL : XX.extL = extLY := rfl
theorem mode_trim : XX.mode 121 = .data := rfl
end Go.Abs.SA
end
