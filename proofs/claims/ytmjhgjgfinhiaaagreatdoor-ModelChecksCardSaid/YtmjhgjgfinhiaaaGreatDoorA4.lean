/- YtmjhgjgfinhiaaaGreatDoorA4: a part of the interpreter by which the claim is shown, and of the walks: no conditions of its own: every theorem states its own. -/
import Derived.Test.YtmjhgjgfinhiaaaGreatDoorA3
import Derived.Lib.SlTrimSet
import Derived.Lib.IndexMore
import Derived.Lib.IndexAny
import Derived.Lib.Strings
import Derived.Test.YtmjhgjgfinhiaaaGreatDoorProg
set_option linter.unusedVariables false
set_option linter.unusedSimpArgs false
set_option linter.unusedSectionVars false
set_option maxRecDepth 100000
section
namespace Go.Abs.SA
abbrev digS : ByteArray := ⟨#[48, 49, 50, 51, 52, 53, 54, 55, 56, 57]⟩
abbrev blaS : ByteArray := ⟨#[32, 9, 13, 10]⟩
abbrev mkS (l : List UInt8) : ByteArray := ⟨l.toArray⟩
abbrev lS8 (s : ByteArray) : List UInt8 := s.data.toList
abbrev big (s : ByteArray) : Prop := s.size < 4294967281
def ext_Trim (ys : List AV) : Option AV := match ys with
    | [.v (.string s), .v (.string t)] => if s.size ≤ 9223372036854775807 ∧ (t = digS ∨ t = blaS) then some (.v (.string (mkS (Lib.trimS (lS8 s) (lS8 t))))) else none
    | _ => none
def ext_IndexByte (ys : List AV) : Option AV := match ys with
    | [.v (.string s), .v (.int .u8 c)] => if 0 ≤ c ∧ c < 256 then some (.v (.int .i64 (Lib.indexByte (lS8 s) (UInt8.ofNat c.toNat)))) else none
    | _ => none
def ext_Index (ys : List AV) : Option AV := match ys with
    | [.v (.string s), .v (.string t)] => if big s then some (.v (.int .i64 (Lib.index (lS8 s) (lS8 t)))) else none
    | _ => none
def ext_Cut (ys : List AV) : Option AV := match ys with
    | [.v (.string s), .v (.string t)] => if big s then some (.tup [.v (.string (mkS (Lib.cut (lS8 s) (lS8 t)).1)), .v (.string (mkS (Lib.cut (lS8 s) (lS8 t)).2.1)), .v (.bool (Lib.cut (lS8 s) (lS8 t)).2.2)]) else none
    | _ => none
def ext_Contains (ys : List AV) : Option AV := match ys with
    | [.v (.string s), .v (.string t)] => if big s then some (.v (.bool (Lib.contains (lS8 s) (lS8 t)))) else none
    | _ => none
def ext_ContainsAny (ys : List AV) : Option AV := match ys with
    | [.v (.string s), .v (.string t)] => if big s ∧ big t ∧ (∀ b ∈ lS8 s, b.toNat < 128) ∧ (∀ b ∈ lS8 t, b.toNat < 128) then some (.v (.bool (Lib.containsAny (lS8 s) (lS8 t)))) else none
    | _ => none
def ext_HasPrefix (ys : List AV) : Option AV := match ys with
    | [.v (.string s), .v (.string t)] => some (.v (.bool (Lib.hasPrefix (lS8 s) (lS8 t))))
    | _ => none
def ext_HasSuffix (ys : List AV) : Option AV := match ys with
    | [.v (.string s), .v (.string t)] => if big s then some (.v (.bool (Lib.hasSuffix (lS8 s) (lS8 t)))) else none
    | _ => none
def ext_CutPrefix (ys : List AV) : Option AV := match ys with
    | [.v (.string s), .v (.string t)] => some (.tup [.v (.string (mkS (Lib.trimPrefix (lS8 s) (lS8 t)))), .v (.bool (Lib.hasPrefix (lS8 s) (lS8 t)))])
    | _ => none
def extY (f : FuncId) (ys : List AV) : Option AV := if f = 121 then ext_Trim ys else if f = 183 then ext_IndexByte ys else if f = 124 then ext_Index ys else if f = 185 then ext_Cut ys else if f = 127 then ext_Contains ys else if f = 77 then ext_ContainsAny ys else if f = 123 then ext_HasPrefix ys else if f = 128 then ext_HasSuffix ys else if f = 260 then ext_CutPrefix ys else none
def extL_Clone (ys : List AV) (h : List Blk) : Option (AV × List Blk) := match ys, h with
    | [.fs es full], [] => if es.length * 64 ≤ 140737488355328 ∧ ∀ c ∈ es, c.length = 4 then some (.sl 0 0 es.length false, [.arr 121 4 es]) else none
    | _, _ => none
def extL_copyCheck (ys : List AV) (h : List Blk) : Option (AV × List Blk) := match ys, h with
    | [.ptr 0 0], .var [.v (.pointer none), b] (some 134) :: r => some (.tup [], .var [.ptr 0 0, b] (some 134) :: r)
    | [.ptr 0 0], .var [.ptr 0 0, b] (some 134) :: r => some (.tup [], .var [.ptr 0 0, b] (some 134) :: r)
    | _, _ => none
def bldEnd (a : AV) (n : Nat) (es : List (List AV)) : Option (AV × List Blk) := if n = es.length then (match intsOf es with
    | some ns => if (ns.all fun n => decide (0 ≤ n) && decide (n < 256)) = true then some (.v (.string ⟨(ns.map fun n => UInt8.ofNat n.toNat).toArray⟩), [.var [a, .junk] (some 134), .dead]) else none
    | none => none) else none
def extL_String (ys : List AV) (h : List Blk) : Option (AV × List Blk) := match ys, h with
    | [.ptr 0 0], [.var [.v (.pointer none), .sl 1 0 n false] (some 134), .arr 5 1 es] => bldEnd (.v (.pointer none)) n es
    | [.ptr 0 0], [.var [.ptr 0 0, .sl 1 0 n false] (some 134), .arr 5 1 es] => bldEnd (.ptr 0 0) n es
    | _, _ => none
def attrIns (x : List AV × List UInt8) : List (List AV × List UInt8) → List (List AV × List UInt8)
  | [] => [x]
  | y :: r => if Lib.compareBytes y.2 x.2 < 0 then y :: attrIns x r else x :: y :: r
def attrKeys : List (List AV) → Option (List (List AV × List UInt8))
  | [] => some []
  | [.v (.string a), .v (.string b)] :: r => (attrKeys r).map (([.v (.string a), .v (.string b)], lS8 a) :: ·)
  | _ => none
def distB : List (List UInt8) → Bool
  | [] => true
  | x :: r => !r.contains x && distB r
def attrSort (es : List (List AV)) : Option (List (List AV)) := (attrKeys es).bind fun l => if distB (l.map (·.2)) then some ((l.foldr attrIns []).map (·.1)) else none
def extL_SortAttrs (ys : List AV) (h : List Blk) : Option (AV × List Blk) := match ys, h with
    | [.sl 0 0 n false, .fn 136 []], [.arr 40 2 es] => if n = es.length ∧ n ≤ 1000000 then (attrSort es).map fun es' => (.tup [], [.arr 40 2 es']) else none
    | _, _ => none
def extLY (f : FuncId) (ys : List AV) (h : List Blk) : Option (AV × List Blk) := if f = 199 then extL_Clone ys h else if f = 203 then extL_copyCheck ys h else if f = 99 then extL_String ys h else if f = 135 then extL_SortAttrs ys h else none
end Go.Abs.SA
end
section
namespace Go.Abs.SA
noncomputable def XX : X where
  P := Go.Proofs.Tryz.prog
  mode := fun f => look1 .data f [(3, .pure), (4, .pure), (5, .pure), (6, .pure), (7, .pure), (8, .pure), (9, .pure), (10, .pure), (11, .pure), (12, .pure), (13, .pure), (14, .pure), (15, .pure), (16, .pure), (17, .pure), (18, .pure), (19, .pure), (20, .pure), (21, .pure), (22, .pure), (23, .pure), (24, .pure), (25, .pure), (26, .pure), (28, .pure), (31, .pure), (33, .pure), (34, .pure), (35, .pure), (40, .pure), (41, .pure), (42, .pure), (43, .pure), (44, .pure), (45, .pure), (46, .pure), (47, .pure), (48, .pure), (49, .pure), (50, .pure), (53, .pure), (54, .pure), (55, .pure), (58, .pure), (60, .pure), (65, .pure), (66, .pure), (67, .pure), (68, .pure), (69, .pure), (70, .pure), (71, .pure), (72, .pure), (74, .pure), (75, .pure), (76, .pure), (78, .pure), (84, .pure), (85, .pure), (86, .pure), (87, .pure), (88, .pure), (89, .fresh), (91, .pure), (92, .pure), (94, .pure), (96, .pure), (98, .pure), (100, .pure), (101, .pure), (102, .pure), (103, .pure), (104, .pure), (105, .pure), (106, .pure), (107, .pure), (108, .pure), (109, .pure), (110, .pure), (111, .pure), (115, .pure), (117, .pure), (118, .pure), (120, .pure), (122, .pure), (126, .pure), (130, .pure), (132, .pure), (133, .pure), (134, .pure), (136, .pure), (137, .pure), (138, .pure), (139, .fresh), (140, .fresh), (142, .pure), (143, .pure), (147, .pure), (148, .pure), (149, .pure), (150, .pure), (151, .pure), (153, .pure), (154, .pure), (155, .pure), (156, .pure), (157, .pure), (158, .pure), (159, .pure), (160, .pure), (161, .pure), (167, .pure), (168, .pure), (169, .pure), (178, .pure), (182, .pure), (184, .pure), (186, .pure), (187, .pure), (188, .pure), (189, .pure), (194, .pure), (195, .pure), (196, .pure), (197, .pure), (199, .fresh), (200, .pure), (201, .pure), (202, .pure), (206, .pure), (207, .pure), (208, .pure), (209, .pure), (211, .pure), (212, .pure), (224, .pure), (225, .pure), (227, .pure), (239, .pure), (240, .pure), (241, .pure), (242, .pure), (243, .pure), (247, .pure), (266, .pure), (270, .pure), (280, .pure), (282, .pure), (290, .pure)]
  trim := fun f r => look2 none f r [(3, 7, some ([0, 1, 2, 7, 25, 26, 27], [])),
    (4, 6, some ([0, 1, 25, 26], [])),
    (4, 12, some ([0, 1, 47, 48, 49], [])),
    (8, 8, some ([0, 1, 5, 21, 22], [])),
    (8, 12, some ([0, 1, 5, 30, 31], [])),
    (8, 19, some ([1, 6, 7, 54, 55], [])),
    (9, 4, some ([0, 1, 2, 20, 21, 22], [])),
    (9, 9, some ([0, 1, 2, 8, 20, 21, 22, 34, 35], [])),
    (13, 10, some ([1, 5, 6, 37, 38, 39], [])),
    (13, 18, some ([1, 5, 6, 11, 13, 37, 38, 39, 82, 83], [])),
    (16, 8, some ([0, 3, 4, 31, 32], [])),
    (18, 8, some ([28, 29, 30], [])),
    (20, 2, some ([1, 7, 8, 9], [])),
    (25, 3, some ([0, 5, 13, 14, 15], [])),
    (25, 8, some ([0, 5, 10, 13, 14, 15, 29, 30, 31], [])),
    (26, 3, some ([0, 1, 5, 6], [])),
    (33, 2, some ([0, 2, 11, 12, 13], [])),
    (37, 3, some ([0, 2, 8, 20, 21, 22], [])),
    (37, 10, some ([0, 2, 8, 10, 12, 13, 20, 21, 22, 41, 42, 43], [])),
    (38, 3, some ([0, 8, 15, 16, 17], [])),
    (39, 3, some ([0, 2, 8, 9], [])),
    (39, 26, some ([0, 2, 8, 9, 10, 12, 13, 14, 15, 16, 17], [])),
    (40, 4, some ([0, 1, 5], [])),
    (42, 3, some ([1, 27, 28, 29], [])),
    (45, 4, some ([0, 3], [])),
    (46, 2, some ([0, 7], [])),
    (48, 2, some ([1, 7, 8, 9], [])),
    (51, 3, some ([0, 6, 7, 17, 18, 19], [])),
    (52, 3, some ([0, 1, 6, 7, 8], [])),
    (53, 2, some ([0, 1, 11, 12, 13], [])),
    (53, 8, some ([0, 31, 32, 33], [])),
    (54, 2, some ([0, 1, 5], [])),
    (54, 7, some ([0, 1, 5, 6, 7], [])),
    (54, 13, some ([0, 1, 8], [])),
    (56, 3, some ([3, 6, 11, 12, 13], [])),
    (57, 3, some ([2, 3, 6, 7], [])),
    (57, 7, some ([2, 3, 6, 7, 8, 9], [])),
    (63, 8, some ([2, 4, 6, 45, 46, 47], [])),
    (63, 23, some ([2, 6, 9, 10, 11, 13, 14, 105, 106, 107], [])),
    (63, 29, some ([2, 6, 9, 10, 11, 13, 14, 129, 130, 131], [])),
    (67, 3, some ([0, 3, 7, 8, 9], [])),
    (68, 5, some ([0, 3, 4, 5], [])),
    (68, 11, some ([0, 3, 6, 7], [])),
    (69, 8, some ([6, 52, 53, 54], [])),
    (70, 9, some ([6, 7, 8, 9], [])),
    (74, 2, some ([6, 7, 8], [])),
    (78, 1, some ([0], [])),
    (79, 16, some ([0, 1, 2, 6, 8, 9, 11, 12, 14, 15, 73, 74, 75], [1])),
    (79, 32, some ([0, 1, 2, 6, 8, 9, 14, 146, 147, 148], [1])),
    (81, 3, some ([1, 5, 8, 9, 10], [])),
    (82, 3, some ([0, 2, 7, 16, 17, 18], [])),
    (82, 7, some ([0, 2, 7, 8, 9, 10, 16, 17, 18, 27, 28, 29], [])),
    (83, 3, some ([0, 5, 9, 10, 11], [])),
    (84, 4, some ([1, 2, 15, 16, 17], [])),
    (87, 4, some ([1, 2, 12, 13, 14], [])),
    (88, 2, some ([3, 11, 12, 13], [])),
    (88, 6, some ([3, 6, 7, 11, 12, 13, 18, 19, 20], [])),
    (89, 3, some ([3, 6, 7, 8], [])),
    (92, 2, some ([0, 1, 5], [])),
    (93, 5, some ([2, 3, 4, 5, 6], [])),
    (93, 8, some ([2, 3, 4, 5, 6, 7], [])),
    (94, 3, some ([1, 3, 5, 7, 9], [])),
    (96, 2, some ([0, 1, 5], [])),
    (97, 3, some ([0, 1, 5, 6], [5])),
    (97, 6, some ([0, 1, 5, 6, 7], [])),
    (98, 5, some ([0, 4, 27, 28, 29], [])),
    (98, 13, some ([0, 4, 63, 64, 65], [])),
    (100, 5, some ([2, 5, 6], [])),
    (100, 12, some ([2, 5, 7], [])),
    (101, 4, some ([0, 1, 18, 19, 20], [])),
    (101, 17, some ([0, 1, 6, 18, 19, 20, 79, 80, 81], [])),
    (101, 26, some ([0, 1, 18, 19, 20, 149, 150, 151], [])),
    (102, 4, some ([0, 1, 5], [])),
    (102, 18, some ([0, 1, 5, 6, 7], [])),
    (102, 29, some ([0, 1, 5, 6, 9], [])),
    (103, 4, some ([1, 2, 5], [])),
    (103, 16, some ([6, 7], [])),
    (106, 2, some ([0, 1, 7, 8], [])),
    (108, 2, some ([0, 1, 7, 8], [])),
    (111, 4, some ([0, 1, 12, 13], [])),
    (112, 3, some ([0, 1, 5, 6], [])),
    (113, 4, some ([0, 2, 4], [])),
    (113, 12, some ([2, 5, 6, 7], [])),
    (118, 15, some ([0, 3, 72, 73, 74], [])),
    (120, 2, some ([0, 3], [])),
    (122, 1, some ([0], [])),
    (122, 3, some ([0], [])),
    (126, 2, some ([0, 3], [])),
    (130, 2, some ([0, 5], [])),
    (131, 2, some ([0, 4], [])),
    (132, 1, some ([0, 1], [])),
    (138, 3, some ([0, 1, 2, 3, 9, 10], [])),
    (140, 9, some ([0, 1, 5, 37, 38], [])),
    (141, 12, some ([3, 4, 7, 8, 9, 52, 53, 54], [])),
    (141, 28, some ([3, 8, 119, 120, 121], [])),
    (142, 2, some ([0, 1, 7, 8], [])),
    (144, 5, some ([3, 4, 5, 20, 21, 22], [])),
    (144, 8, some ([3, 4, 5, 7, 20, 21, 22, 27, 28, 29], [])),
    (149, 2, some ([0, 1, 9, 10, 11], [])),
    (150, 2, some ([0, 1, 5], [])),
    (154, 3, some ([0, 3, 4], [])),
    (154, 8, some ([0, 3, 5, 6], [])),
    (159, 2, some ([0, 1, 5], [])),
    (161, 1, some ([0], [])),
    (162, 14, some ([0, 2, 6, 7, 9, 10, 11, 12, 13, 14], [])),
    (162, 30, some ([0, 2, 6, 7, 11, 12, 13, 17], [])),
    (162, 38, some ([0, 2, 6, 7, 11, 12, 13, 17, 20, 21], [])),
    (166, 4, some ([1, 10, 11, 12], [])),
    (186, 2, some ([0, 4], [])),
    (189, 2, some ([0, 1, 7, 8], [])),
    (198, 5, some ([0, 1, 5, 6], [])),
    (201, 2, some ([0, 1, 2, 6, 7, 8], [])),
    (201, 7, some ([0, 1, 2, 6], [])),
    (201, 9, some ([0, 1, 2, 6, 7, 8], [])),
    (207, 2, some ([0, 3], [])),
    (208, 2, some ([0, 2, 3], [])),
    (209, 3, some ([0, 4, 5], [])),
    (210, 2, some ([0, 3], [])),
    (210, 22, some ([0, 3, 5, 7, 8], [])),
    (210, 28, some ([0, 3, 5, 9], [])),
    (211, 2, some ([0, 1, 6], [])),
    (212, 1, some ([0, 1, 2, 3, 8, 9], [])),
    (212, 3, some ([0, 1, 2, 3, 8, 9, 10], [])),
    (225, 21, some ([4, 6, 7, 38, 39, 40], [])),
    (227, 2, some ([0, 1, 7, 8], [])),
    (239, 2, some ([0, 1, 7, 8], [])),
    (240, 2, some ([0, 1, 7, 8], [])),
    (241, 1, some ([0, 1, 2, 3, 8], [])),
    (241, 4, some ([0, 1, 2, 3, 8, 9], [])),
    (242, 3, some ([0, 1, 4, 10, 11], [])),
    (242, 9, some ([0, 10, 13], [])),
    (242, 15, some ([0, 2, 4, 14, 15], [])),
    (242, 21, some ([0, 14, 17], [])),
    (242, 33, some ([0, 1, 2, 3, 4, 18, 19, 20, 21, 22], [])),
    (247, 3, some ([0, 1, 5, 6], [])),
    (247, 8, some ([0, 1, 5, 6, 7], [])),
    (266, 2, some ([0, 2, 4, 10, 11], [])),
    (270, 3, some ([0, 3, 4], [])),
    (270, 17, some ([5, 6, 7, 8], [])),
    (282, 1, some ([0, 1, 2, 3, 10], []))]
  adopt := fun f => look1 [] f [(3, [7]), (25, [5, 10]), (26, [5]), (37, [8]), (39, [16]), (51, [6, 7]), (52, [6, 7]), (56, [6]), (57, [6]), (67, [3]), (68, [6]), (69, [6]), (81, [5]), (83, [5]), (89, [3]), (112, [5]), (131, [4]), (141, [7]), (210, [3])]
  cls := fun f r => look2 [] f r [(7, 3, [0, 0, 0, 0, 0, 0, 0, 0, 0, 0, 0]),
    (13, 20, [0, 0, 0, 0, 0, 0, 0, 0, 0]),
    (13, 25, [0, 0, 0, 1, 0, 0, 0, 0, 2, 0]),
    (13, 26, [0, 0, 0, 0, 0, 0, 0, 0, 0, 0, 0, 0, 0, 0, 0, 0, 0, 0, 0, 0, 0, 0, 0]),
    (15, 9, [3, 0, 0, 0, 0, 3, 3, 0, 0, 3, 0, 3, 3, 3, 1, 4, 3]),
    (27, 15, [0, 2, 0, 0, 0, 0, 0, 0, 0, 0, 0, 0, 0, 0, 0]),
    (30, 7, [0, 0, 0, 0, 0, 0, 0, 0, 0, 0, 0, 1, 2]),
    (30, 9, [0, 0, 0, 0, 0, 0, 0, 0, 0, 0, 0, 0]),
    (33, 7, [0, 0, 0, 0, 0, 0, 0, 0]),
    (33, 8, [0, 0, 0, 0, 0, 0, 0, 0, 0, 0, 0, 0, 0, 0, 0, 0, 0, 0, 0, 0, 0, 0, 0, 0, 0, 0, 0, 0]),
    (37, 8, [8, 8, 7, 7, 8, 7, 8, 8, 5, 5, 6, 6]),
    (38, 9, [0, 0, 0, 0, 0, 0, 2, 0, 0, 0, 0, 0]),
    (39, 28, [0, 0, 0, 0, 0, 0, 0, 0, 0, 0]),
    (40, 6, [0, 0, 0, 0, 0, 0, 0, 0, 0, 0, 0, 0, 0, 0, 0, 0, 0, 0, 0, 0, 0, 0, 0, 0, 0, 0, 0, 0, 0, 0, 0, 0, 0, 0, 0, 0, 0, 0]),
    (51, 8, [8, 8, 7, 7, 8, 7, 8, 5, 5, 6, 6]),
    (53, 14, [0, 0, 0, 0, 0, 0, 0, 0, 0]),
    (54, 9, [0, 0, 0, 0, 0, 0, 0, 0, 0, 0, 0, 0, 0, 0, 0]),
    (54, 19, [0, 0, 0, 0, 0, 0, 0, 0, 0, 0, 0, 0]),
    (57, 9, [0, 0, 0, 0, 0, 0, 0, 0, 0, 0, 0, 0]),
    (63, 31, [0, 0, 0, 0, 0, 0, 0, 0, 0, 0, 0, 0, 0, 0, 0, 0, 0]),
    (67, 10, [0, 0, 0, 0, 0, 0, 2, 0, 2]),
    (75, 1, [0, 0, 0, 0, 0, 0, 0, 0, 0, 0, 0]),
    (76, 1, [0, 0, 0, 0, 0, 0, 0, 0, 0, 0, 0, 0]),
    (76, 4, [0, 0, 0, 0, 0, 0, 0, 0, 0, 0, 0, 0, 0, 0, 0, 0]),
    (79, 9, [0, 0, 0, 0, 0, 0, 0, 0, 0, 0, 0]),
    (81, 5, [0, 0, 0, 0, 0, 0, 0, 0, 0, 0, 0, 0, 2, 0]),
    (82, 10, [0, 0, 0, 0, 0, 0, 0, 0, 0, 0, 0, 0, 0, 0, 0, 0, 0, 0, 0, 1, 0, 2]),
    (90, 25, [0, 0, 0, 0, 0, 0, 0, 0, 0, 0, 0, 0, 0]),
    (93, 10, [0, 0, 0, 0, 0, 0, 0, 0, 0, 0, 0, 0]),
    (93, 11, [0, 0, 0, 0, 0, 0, 0, 0, 0, 0, 0, 0, 0, 0, 0, 2, 0, 2]),
    (94, 5, [0, 0, 0, 0, 0, 0, 0, 0, 0, 0, 0]),
    (94, 6, [0, 0, 0, 0, 0, 0, 0, 0, 0, 0, 0, 0, 0, 0]),
    (95, 1, [0, 0, 0, 1, 0, 0, 0, 0, 2, 0]),
    (97, 6, [0, 0, 0, 0, 0, 0, 0, 0, 0, 0, 0, 0, 0, 1, 2, 0]),
    (97, 9, [0, 0, 0, 0, 0, 0, 0, 0, 0, 1, 0, 2, 0]),
    (98, 7, [0, 0, 0, 0, 0, 0, 0, 0, 0, 0, 2]),
    (100, 7, [0, 0, 0, 0, 0, 0, 0, 0, 0, 0, 0, 0, 0, 0, 0, 0, 0, 0, 0, 0]),
    (100, 14, [0, 0, 0, 0, 0, 0, 0, 0, 0, 0, 0]),
    (101, 19, [0, 0, 0, 0, 0, 0, 0, 0, 0, 0, 0, 0, 0, 0, 0, 0, 0, 0, 0, 0, 0, 0, 0, 0, 0]),
    (102, 20, [0, 0, 0, 0, 0, 0, 0, 0, 0]),
    (102, 21, [0, 0, 0, 0, 0, 0, 0, 0, 0, 0, 0, 0, 0, 0, 0, 0, 0, 0, 0, 0, 0, 0, 0]),
    (111, 6, [0, 0, 0, 0, 0, 0, 0, 0, 0]),
    (112, 5, [0, 0, 0, 0, 0, 0, 0, 0, 0, 0, 0, 0, 0, 0, 0, 0, 0, 0, 0, 0, 0, 2, 0]),
    (113, 20, [0, 0, 0, 0, 0, 0, 0, 0, 0, 0, 0, 0, 0, 0, 0, 0, 0]),
    (113, 23, [8, 8, 8, 8, 7, 6, 8]),
    (126, 2, [0, 0, 0, 0, 0, 0, 0, 0, 0, 0, 0, 0, 0, 0, 0, 0, 0, 0, 0, 0, 0, 0, 0]),
    (130, 2, [0, 0, 0, 0, 0, 0, 0, 0, 0, 0, 0, 0, 0, 0, 0, 0, 0, 0, 0, 0, 0, 0, 0]),
    (130, 4, [0, 0, 0, 0, 0, 0, 0, 0, 0, 0, 0, 0, 0, 0, 0, 0, 0, 0]),
    (131, 3, [0, 0, 0, 0, 0, 0, 0, 0, 0, 0]),
    (131, 5, [0, 0, 0, 0, 0, 0, 0, 0, 0, 0]),
    (138, 3, [0, 0, 0, 0, 0, 0, 0, 0, 0, 0, 0]),
    (138, 6, [0, 0, 0, 0, 0, 0, 0, 0, 0, 0, 0, 0, 0, 0, 0, 0]),
    (138, 18, [0, 0, 0, 0, 0, 0, 0, 2, 11, 10, 3, 3, 9]),
    (140, 11, [0, 0, 0, 0, 0, 0, 0, 0, 0, 0, 0, 0, 0, 0, 0, 0, 0, 0, 0, 1, 0, 2]),
    (141, 20, [0, 0, 0, 0, 0, 0, 0, 2, 0]),
    (141, 31, [0, 0, 0, 0, 0, 0, 0, 2]),
    (145, 5, [0, 0, 0, 0, 0, 0, 2, 0]),
    (148, 1, [0, 0, 0, 0, 0, 0, 0, 0, 0, 0]),
    (148, 4, [0, 0, 0, 0, 0, 0, 0, 0, 0, 0, 0]),
    (148, 5, [0, 0, 0, 0, 0, 0, 0, 0, 0, 0, 0]),
    (150, 4, [0, 0, 0, 0, 0, 0, 0, 0, 0]),
    (150, 6, [0, 0, 0, 0, 0, 0, 0, 0, 0]),
    (151, 1, [0, 0, 0, 0, 0, 0, 0, 0, 0, 0]),
    (151, 4, [0, 0, 0, 0, 0, 0, 0, 0, 0, 0, 0]),
    (151, 5, [0, 0, 0, 0, 0, 0, 0, 0, 0, 0, 0]),
    (158, 1, [0, 0, 0, 0, 0, 0, 0, 0, 0, 0, 0, 0, 0, 0, 0, 0, 0, 0, 0, 0, 0, 0, 0, 0, 0, 0, 0, 0, 0, 0, 0, 0, 0, 0, 0, 0, 0, 0, 0, 0]),
    (159, 4, [0, 0, 0, 0, 0, 0, 0, 0, 0, 0, 0, 0, 0, 0]),
    (159, 5, [0, 0, 0, 0, 0, 0, 0, 0, 0, 0]),
    (162, 10, [0, 0, 0, 0, 0, 0, 0, 0, 0, 0, 0]),
    (162, 23, [0, 0, 0, 0, 0, 0, 0, 0, 0, 0, 0, 0, 0, 2, 0]),
    (162, 40, [0, 0, 0, 0, 0, 0, 0, 0, 0, 0, 0, 0]),
    (162, 42, [0, 0, 0, 0, 0, 0, 0, 0, 0, 0, 0, 0]),
    (162, 45, [0, 0, 0, 0, 0, 0, 0, 0, 0, 0, 0, 0, 0, 0, 0, 0, 0, 1, 0, 2, 0, 2]),
    (168, 2, [0, 0, 0, 0, 0, 0, 0, 0, 0, 0, 0, 0, 0, 0, 0, 0, 0, 0, 0, 0, 0, 0, 0]),
    (207, 2, [0, 0, 0, 0, 0, 0, 0, 0, 0, 0, 0, 0, 0, 0, 0, 0, 0, 0, 0, 0, 0, 0]),
    (209, 3, [0, 0, 0, 0, 0, 0, 0, 0, 0, 0]),
    (209, 4, [0, 0, 0, 0, 0, 0, 0, 0, 0, 0]),
    (209, 10, [0, 0, 0, 0, 0, 0, 0, 0, 0, 0, 0]),
    (209, 14, [0, 0, 0, 0, 0, 0, 0, 0, 0, 0, 0, 0, 0, 0, 0, 0, 0, 0, 0, 0]),
    (210, 4, [0, 0, 0, 0, 0, 0, 0, 0, 0, 0]),
    (210, 6, [0, 0, 0, 0, 0, 0, 0, 0, 0, 0, 0, 0, 0, 0, 0, 0, 0, 0, 0, 0, 0, 0]),
    (210, 30, [0, 0, 0, 0, 0, 0, 0, 0, 0, 0, 0, 0, 0, 0, 0, 0, 0, 0]),
    (212, 3, [0, 0, 0, 0, 0, 0, 0, 0, 0, 0, 0, 0, 0, 0, 0, 0, 0, 0, 0, 0, 0, 0]),
    (212, 4, [0, 0, 0, 0, 0, 0, 0, 0, 0, 0, 0, 0, 0, 0, 0]),
    (212, 6, [0, 0, 0, 0, 0, 0, 0, 0, 0, 0]),
    (212, 8, [0, 0, 0, 0, 0, 0, 0, 0, 0, 0, 0, 0, 0, 0, 0]),
    (212, 23, [0, 0, 0, 0, 0, 0, 0, 2, 11, 10, 3, 3, 9]),
    (224, 3, [0, 0, 0, 0, 0, 0, 0, 0, 0, 0, 0, 0]),
    (241, 4, [0, 0, 0, 0, 0, 0, 0, 0, 0, 0, 0, 0, 0, 0, 0, 0, 0]),
    (241, 6, [3, 3, 3, 3, 3, 3, 3, 3, 0, 0, 3, 3, 0, 0, 0, 4, 0, 4]),
    (242, 5, [0, 0, 0, 0, 0, 0, 0, 0, 0, 0, 0]),
    (242, 11, [3, 3, 3, 3, 3, 3, 3, 3, 0, 0, 3, 3, 0, 0, 0, 4, 0, 4]),
    (242, 17, [0, 0, 0, 0, 0, 0, 0, 0, 0, 0, 0, 0]),
    (242, 23, [3, 3, 3, 3, 3, 3, 3, 3, 0, 0, 3, 3, 0, 0, 0, 4, 0, 4]),
    (242, 35, [0, 0, 0, 0, 0, 0, 0, 0, 0, 0, 0, 0, 0, 0]),
    (270, 9, [0, 0, 0, 0]),
    (282, 3, [3, 3, 3, 3, 3, 3, 3, 3, 3, 3, 3, 3, 0, 0, 3, 3, 3, 3, 0, 0, 0, 4, 0, 4])]
  fns := [3, 4, 5, 6, 7, 8, 9, 10, 11, 12, 13, 14, 15, 16, 17, 18, 19, 20, 21, 22, 23, 24, 25, 26, 27, 28, 29, 30, 31, 32, 33, 34, 35, 36, 37, 38, 39, 40, 41, 42, 43, 44, 45, 46, 47, 48, 49, 50, 51, 52, 53, 54, 55, 56, 57, 58, 59, 60, 61, 62, 63, 64, 65, 66, 67, 68, 69, 70, 71, 72, 73, 74, 75, 76, 78, 79, 80, 81, 82, 83, 84, 85, 86, 87, 88, 89, 90, 91, 92, 93, 94, 95, 96, 97, 98, 100, 101, 102, 103, 104, 105, 106, 107, 108, 109, 110, 111, 112, 113, 114, 115, 117, 118, 120, 122, 126, 129, 130, 131, 132, 133, 134, 136, 137, 138, 139, 140, 141, 142, 143, 144, 145, 146, 147, 148, 149, 150, 151, 152, 153, 154, 155, 156, 157, 158, 159, 160, 161, 162, 165, 166, 167, 168, 169, 178, 182, 184, 186, 187, 188, 189, 193, 194, 195, 196, 197, 198, 199, 200, 201, 202, 206, 207, 208, 209, 210, 211, 212, 224, 225, 226, 227, 239, 240, 241, 242, 243, 247, 266, 270, 280, 282, 290, 291]
  ext := extY
  extL := extLY
  tidy := fun f => [79, 131, 138, 226].contains f
  tyk := fun t => decide (t = 134)
  own := fun f => look1 [] f [(79, [(8, 2, 40), (8, 4, 36)]), (138, [(9, 1, 5)]), (186, [(4, 1, 5)])]
  live := fun f => look1 [] f [(27, [75, 76, 78, 79]), (32, [82]), (38, [90, 91]), (43, [98, 99]), (51, [91]), (78, [126, 75, 76]), (79, [75, 130, 131, 126, 138, 135]), (90, [145]), (91, [147]), (98, [98, 152]), (131, [126, 130, 75, 76]), (138, [75, 76, 79, 152, 99]), (146, [198]), (147, [201]), (152, [203]), (186, [152, 226, 99]), (201, [241, 242]), (226, [203]), (242, [242, 266]), (266, [282])]
theorem XX_P : XX.P = Go.Proofs.Tryz.prog := nr rfl
theorem tyO_XX (t : Nat) : tyO XX t = if t = 134 then some 134 else none := nr (by
  show (if decide (t = 134) = true then some t else none) = _
  by_cases h : t = 134
  · subst h; rfl
  · simp [h])
theorem fns_10 : XX.fns.contains 10 = true := nr (by kernel_rfl)
theorem res_10 : Go.Proofs.Tryz.f10.results.toList = [.tmp 2] := nr rfl
theorem live_10 : XX.live 10 = [] := nr (by kernel_rfl)
theorem fns_11 : XX.fns.contains 11 = true := nr (by kernel_rfl)
theorem res_11 : Go.Proofs.Tryz.f11.results.toList = [.tmp 4] := nr rfl
theorem live_11 : XX.live 11 = [] := nr (by kernel_rfl)
theorem fns_12 : XX.fns.contains 12 = true := nr (by kernel_rfl)
theorem res_12 : Go.Proofs.Tryz.f12.results.toList = [.tmp 2] := nr rfl
theorem live_12 : XX.live 12 = [] := nr (by kernel_rfl)
theorem fns_13 : XX.fns.contains 13 = true := nr (by kernel_rfl)
theorem res_13 : Go.Proofs.Tryz.f13.results.toList = [.tmp 4] := nr rfl
theorem live_13 : XX.live 13 = [] := nr (by kernel_rfl)
theorem own_13 : XX.own 13 = [] := nr (by kernel_rfl)
theorem cls_13_20 : XX.cls 13 20 = [0, 0, 0, 0, 0, 0, 0, 0, 0] := nr (by kernel_rfl)
theorem cls_13_25 : XX.cls 13 25 = [0, 0, 0, 1, 0, 0, 0, 0, 2, 0] := nr (by kernel_rfl)
theorem cls_13_26 : XX.cls 13 26 = [0, 0, 0, 0, 0, 0, 0, 0, 0, 0, 0, 0, 0, 0, 0, 0, 0, 0, 0, 0, 0, 0, 0] := nr (by kernel_rfl)
theorem tr_13_10 : XX.trim 13 10 = some ([1, 5, 6, 37, 38, 39], []) := nr (by kernel_rfl)
theorem trim_13_10 (d : AV) (l : List (Nat × AV)) (h : List Blk) (n : Nat) : trimA XX 13 10 n ⟨mkT 138 d l, h⟩ = gcK n (mkT 138 .junk [(1, lk d l 1), (5, lk d l 5), (6, lk d l 6), (37, lk d l 37), (38, lk d l 38), (39, lk d l 39)]) h := (trimA_keep tr_13_10 n _ h).trans (by rw [keep_mkT]; kernel_rfl)
abbrev S_13_10 (x1 x5 x6 x37 x38 x39 : AV) (h : List Blk) : St := ⟨mkT 138 .junk [(1, x1), (5, x5), (6, x6), (37, x37), (38, x38), (39, x39)], h⟩
theorem tr_13_18 : XX.trim 13 18 = some ([1, 5, 6, 11, 13, 37, 38, 39, 82, 83], []) := nr (by kernel_rfl)
theorem trim_13_18 (d : AV) (l : List (Nat × AV)) (h : List Blk) (n : Nat) : trimA XX 13 18 n ⟨mkT 138 d l, h⟩ = gcK n (mkT 138 .junk [(1, lk d l 1), (5, lk d l 5), (6, lk d l 6), (11, lk d l 11), (13, lk d l 13), (37, lk d l 37), (38, lk d l 38), (39, lk d l 39), (82, lk d l 82), (83, lk d l 83)]) h := (trimA_keep tr_13_18 n _ h).trans (by rw [keep_mkT]; kernel_rfl)
abbrev S_13_18 (x1 x5 x6 x11 x13 x37 x38 x39 x82 x83 : AV) (h : List Blk) : St := ⟨mkT 138 .junk [(1, x1), (5, x5), (6, x6), (11, x11), (13, x13), (37, x37), (38, x38), (39, x39), (82, x82), (83, x83)], h⟩
theorem mode_20 : XX.mode 20 = .pure := nr (by kernel_rfl)
theorem fns_20 : XX.fns.contains 20 = true := nr (by kernel_rfl)
theorem res_20 : Go.Proofs.Tryz.f20.results.toList = [.tmp 4] := nr rfl
theorem live_20 : XX.live 20 = [] := nr (by kernel_rfl)
theorem own_20 : XX.own 20 = [] := nr (by kernel_rfl)
theorem tr_20_2 : XX.trim 20 2 = some ([1, 7, 8, 9], []) := nr (by kernel_rfl)
theorem trim_20_2 (d : AV) (l : List (Nat × AV)) (h : List Blk) (n : Nat) : trimA XX 20 2 n ⟨mkT 41 d l, h⟩ = gcK n (mkT 41 .junk [(1, lk d l 1), (7, lk d l 7), (8, lk d l 8), (9, lk d l 9)]) h := (trimA_keep tr_20_2 n _ h).trans (by rw [keep_mkT]; kernel_rfl)
abbrev S_20_2 (x1 x7 x8 x9 : AV) (h : List Blk) : St := ⟨mkT 41 .junk [(1, x1), (7, x7), (8, x8), (9, x9)], h⟩
theorem mode_27 : XX.mode 27 = .data := nr (by kernel_rfl)
theorem fns_27 : XX.fns.contains 27 = true := nr (by kernel_rfl)
theorem res_27 : Go.Proofs.Tryz.f27.results.toList = [.cell 2 36, .tmp 3] := nr rfl
theorem live_27 : XX.live 27 = [75, 76, 78, 79] := nr (by kernel_rfl)
theorem own_27 : XX.own 27 = [] := nr (by kernel_rfl)
theorem cls_27_15 : XX.cls 27 15 = [0, 2, 0, 0, 0, 0, 0, 0, 0, 0, 0, 0, 0, 0, 0] := nr (by kernel_rfl)
theorem mode_30 : XX.mode 30 = .data := nr (by kernel_rfl)
theorem mode_40 : XX.mode 40 = .pure := nr (by kernel_rfl)
theorem fns_40 : XX.fns.contains 40 = true := nr (by kernel_rfl)
theorem res_40 : Go.Proofs.Tryz.f40.results.toList = [.tmp 4] := nr rfl
theorem live_40 : XX.live 40 = [] := nr (by kernel_rfl)
theorem cls_40_6 : XX.cls 40 6 = [0, 0, 0, 0, 0, 0, 0, 0, 0, 0, 0, 0, 0, 0, 0, 0, 0, 0, 0, 0, 0, 0, 0, 0, 0, 0, 0, 0, 0, 0, 0, 0, 0, 0, 0, 0, 0, 0] := nr (by kernel_rfl)
theorem tr_40_4 : XX.trim 40 4 = some ([0, 1, 5], []) := nr (by kernel_rfl)
theorem trim_40_4 (d : AV) (l : List (Nat × AV)) (h : List Blk) (n : Nat) : trimA XX 40 4 n ⟨mkT 55 d l, h⟩ = gcK n (mkT 55 .junk [(0, lk d l 0), (1, lk d l 1), (5, lk d l 5)]) h := (trimA_keep tr_40_4 n _ h).trans (by rw [keep_mkT]; kernel_rfl)
abbrev S_40_4 (x0 x1 x5 : AV) (h : List Blk) : St := ⟨mkT 55 .junk [(0, x0), (1, x1), (5, x5)], h⟩
theorem mode_45 : XX.mode 45 = .pure := nr (by kernel_rfl)
theorem fns_45 : XX.fns.contains 45 = true := nr (by kernel_rfl)
theorem res_45 : Go.Proofs.Tryz.f45.results.toList = [.tmp 2] := nr rfl
theorem tr_45_4 : XX.trim 45 4 = some ([0, 3], []) := nr (by kernel_rfl)
theorem trim_45_4 (d : AV) (l : List (Nat × AV)) (h : List Blk) (n : Nat) : trimA XX 45 4 n ⟨mkT 66 d l, h⟩ = gcK n (mkT 66 .junk [(0, lk d l 0), (3, lk d l 3)]) h := (trimA_keep tr_45_4 n _ h).trans (by rw [keep_mkT]; kernel_rfl)
abbrev S_45_4 (x0 x3 : AV) (h : List Blk) : St := ⟨mkT 66 .junk [(0, x0), (3, x3)], h⟩
theorem mode_46 : XX.mode 46 = .pure := nr (by kernel_rfl)
theorem fns_46 : XX.fns.contains 46 = true := nr (by kernel_rfl)
theorem res_46 : Go.Proofs.Tryz.f46.results.toList = [.tmp 2] := nr rfl
theorem tr_46_2 : XX.trim 46 2 = some ([0, 7], []) := nr (by kernel_rfl)
theorem trim_46_2 (d : AV) (l : List (Nat × AV)) (h : List Blk) (n : Nat) : trimA XX 46 2 n ⟨mkT 60 d l, h⟩ = gcK n (mkT 60 .junk [(0, lk d l 0), (7, lk d l 7)]) h := (trimA_keep tr_46_2 n _ h).trans (by rw [keep_mkT]; kernel_rfl)
abbrev S_46_2 (x0 x7 : AV) (h : List Blk) : St := ⟨mkT 60 .junk [(0, x0), (7, x7)], h⟩
theorem mode_47 : XX.mode 47 = .pure := nr (by kernel_rfl)
theorem fns_47 : XX.fns.contains 47 = true := nr (by kernel_rfl)
theorem res_47 : Go.Proofs.Tryz.f47.results.toList = [.tmp 0] := nr rfl
theorem live_47 : XX.live 47 = [] := nr (by kernel_rfl)
theorem mode_48 : XX.mode 48 = .pure := nr (by kernel_rfl)
theorem fns_48 : XX.fns.contains 48 = true := nr (by kernel_rfl)
theorem res_48 : Go.Proofs.Tryz.f48.results.toList = [.tmp 4] := nr rfl
theorem live_48 : XX.live 48 = [] := nr (by kernel_rfl)
theorem own_48 : XX.own 48 = [] := nr (by kernel_rfl)
theorem tr_48_2 : XX.trim 48 2 = some ([1, 7, 8, 9], []) := nr (by kernel_rfl)
theorem trim_48_2 (d : AV) (l : List (Nat × AV)) (h : List Blk) (n : Nat) : trimA XX 48 2 n ⟨mkT 32 d l, h⟩ = gcK n (mkT 32 .junk [(1, lk d l 1), (7, lk d l 7), (8, lk d l 8), (9, lk d l 9)]) h := (trimA_keep tr_48_2 n _ h).trans (by rw [keep_mkT]; kernel_rfl)
abbrev S_48_2 (x1 x7 x8 x9 : AV) (h : List Blk) : St := ⟨mkT 32 .junk [(1, x1), (7, x7), (8, x8), (9, x9)], h⟩
theorem mode_49 : XX.mode 49 = .pure := nr (by kernel_rfl)
theorem fns_49 : XX.fns.contains 49 = true := nr (by kernel_rfl)
theorem res_49 : Go.Proofs.Tryz.f49.results.toList = [.tmp 2] := nr rfl
theorem live_49 : XX.live 49 = [] := nr (by kernel_rfl)
theorem mode_50 : XX.mode 50 = .pure := nr (by kernel_rfl)
theorem fns_50 : XX.fns.contains 50 = true := nr (by kernel_rfl)
theorem res_50 : Go.Proofs.Tryz.f50.results.toList = [.tmp 2] := nr rfl
theorem live_50 : XX.live 50 = [] := nr (by kernel_rfl)
theorem mode_51 : XX.mode 51 = .data := nr (by kernel_rfl)
theorem fns_51 : XX.fns.contains 51 = true := nr (by kernel_rfl)
theorem res_51 : Go.Proofs.Tryz.f51.results.toList = [.tmp 4, .tmp 5] := nr rfl
theorem live_51 : XX.live 51 = [91] := nr (by kernel_rfl)
theorem own_51 : XX.own 51 = [] := nr (by kernel_rfl)
theorem adopt_51 : XX.adopt 51 = [6, 7] := nr (by kernel_rfl)
theorem cls_51_8 : XX.cls 51 8 = [8, 8, 7, 7, 8, 7, 8, 5, 5, 6, 6] := nr (by kernel_rfl)
theorem tr_51_3 : XX.trim 51 3 = some ([0, 6, 7, 17, 18, 19], []) := nr (by kernel_rfl)
theorem trim_51_3 (d : AV) (l : List (Nat × AV)) (h : List Blk) (n : Nat) : trimA XX 51 3 n ⟨mkT 110 d l, h⟩ = gcK n (mkT 110 .junk [(0, lk d l 0), (6, lk d l 6), (7, lk d l 7), (17, lk d l 17), (18, lk d l 18), (19, lk d l 19)]) h := (trimA_keep tr_51_3 n _ h).trans (by rw [keep_mkT]; kernel_rfl)
abbrev S_51_3 (x0 x6 x7 x17 x18 x19 : AV) (h : List Blk) : St := ⟨mkT 110 .junk [(0, x0), (6, x6), (7, x7), (17, x17), (18, x18), (19, x19)], h⟩
theorem mode_52 : XX.mode 52 = .data := nr (by kernel_rfl)
theorem fns_52 : XX.fns.contains 52 = true := nr (by kernel_rfl)
theorem res_52 : Go.Proofs.Tryz.f52.results.toList = [.tmp 4, .tmp 5] := nr rfl
theorem live_52 : XX.live 52 = [] := nr (by kernel_rfl)
theorem own_52 : XX.own 52 = [] := nr (by kernel_rfl)
theorem adopt_52 : XX.adopt 52 = [6, 7] := nr (by kernel_rfl)
theorem tr_52_3 : XX.trim 52 3 = some ([0, 1, 6, 7, 8], []) := nr (by kernel_rfl)
theorem trim_52_3 (d : AV) (l : List (Nat × AV)) (h : List Blk) (n : Nat) : trimA XX 52 3 n ⟨mkT 109 d l, h⟩ = gcK n (mkT 109 .junk [(0, lk d l 0), (1, lk d l 1), (6, lk d l 6), (7, lk d l 7), (8, lk d l 8)]) h := (trimA_keep tr_52_3 n _ h).trans (by rw [keep_mkT]; kernel_rfl)
abbrev S_52_3 (x0 x1 x6 x7 x8 : AV) (h : List Blk) : St := ⟨mkT 109 .junk [(0, x0), (1, x1), (6, x6), (7, x7), (8, x8)], h⟩
theorem mode_53 : XX.mode 53 = .pure := nr (by kernel_rfl)
theorem fns_53 : XX.fns.contains 53 = true := nr (by kernel_rfl)
theorem res_53 : Go.Proofs.Tryz.f53.results.toList = [.tmp 4] := nr rfl
theorem live_53 : XX.live 53 = [] := nr (by kernel_rfl)
theorem own_53 : XX.own 53 = [] := nr (by kernel_rfl)
theorem cls_53_14 : XX.cls 53 14 = [0, 0, 0, 0, 0, 0, 0, 0, 0] := nr (by kernel_rfl)
theorem tr_53_2 : XX.trim 53 2 = some ([0, 1, 11, 12, 13], []) := nr (by kernel_rfl)
theorem trim_53_2 (d : AV) (l : List (Nat × AV)) (h : List Blk) (n : Nat) : trimA XX 53 2 n ⟨mkT 61 d l, h⟩ = gcK n (mkT 61 .junk [(0, lk d l 0), (1, lk d l 1), (11, lk d l 11), (12, lk d l 12), (13, lk d l 13)]) h := (trimA_keep tr_53_2 n _ h).trans (by rw [keep_mkT]; kernel_rfl)
abbrev S_53_2 (x0 x1 x11 x12 x13 : AV) (h : List Blk) : St := ⟨mkT 61 .junk [(0, x0), (1, x1), (11, x11), (12, x12), (13, x13)], h⟩
theorem tr_53_8 : XX.trim 53 8 = some ([0, 31, 32, 33], []) := nr (by kernel_rfl)
theorem trim_53_8 (d : AV) (l : List (Nat × AV)) (h : List Blk) (n : Nat) : trimA XX 53 8 n ⟨mkT 61 d l, h⟩ = gcK n (mkT 61 .junk [(0, lk d l 0), (31, lk d l 31), (32, lk d l 32), (33, lk d l 33)]) h := (trimA_keep tr_53_8 n _ h).trans (by rw [keep_mkT]; kernel_rfl)
abbrev S_53_8 (x0 x31 x32 x33 : AV) (h : List Blk) : St := ⟨mkT 61 .junk [(0, x0), (31, x31), (32, x32), (33, x33)], h⟩
theorem mode_54 : XX.mode 54 = .pure := nr (by kernel_rfl)
theorem fns_54 : XX.fns.contains 54 = true := nr (by kernel_rfl)
theorem res_54 : Go.Proofs.Tryz.f54.results.toList = [.tmp 4] := nr rfl
theorem live_54 : XX.live 54 = [] := nr (by kernel_rfl)
theorem cls_54_9 : XX.cls 54 9 = [0, 0, 0, 0, 0, 0, 0, 0, 0, 0, 0, 0, 0, 0, 0] := nr (by kernel_rfl)
theorem cls_54_19 : XX.cls 54 19 = [0, 0, 0, 0, 0, 0, 0, 0, 0, 0, 0, 0] := nr (by kernel_rfl)
theorem tr_54_2 : XX.trim 54 2 = some ([0, 1, 5], []) := nr (by kernel_rfl)
theorem trim_54_2 (d : AV) (l : List (Nat × AV)) (h : List Blk) (n : Nat) : trimA XX 54 2 n ⟨mkT 88 d l, h⟩ = gcK n (mkT 88 .junk [(0, lk d l 0), (1, lk d l 1), (5, lk d l 5)]) h := (trimA_keep tr_54_2 n _ h).trans (by rw [keep_mkT]; kernel_rfl)
abbrev S_54_2 (x0 x1 x5 : AV) (h : List Blk) : St := ⟨mkT 88 .junk [(0, x0), (1, x1), (5, x5)], h⟩
theorem tr_54_7 : XX.trim 54 7 = some ([0, 1, 5, 6, 7], []) := nr (by kernel_rfl)
theorem trim_54_7 (d : AV) (l : List (Nat × AV)) (h : List Blk) (n : Nat) : trimA XX 54 7 n ⟨mkT 88 d l, h⟩ = gcK n (mkT 88 .junk [(0, lk d l 0), (1, lk d l 1), (5, lk d l 5), (6, lk d l 6), (7, lk d l 7)]) h := (trimA_keep tr_54_7 n _ h).trans (by rw [keep_mkT]; kernel_rfl)
abbrev S_54_7 (x0 x1 x5 x6 x7 : AV) (h : List Blk) : St := ⟨mkT 88 .junk [(0, x0), (1, x1), (5, x5), (6, x6), (7, x7)], h⟩
theorem tr_54_13 : XX.trim 54 13 = some ([0, 1, 8], []) := nr (by kernel_rfl)
theorem trim_54_13 (d : AV) (l : List (Nat × AV)) (h : List Blk) (n : Nat) : trimA XX 54 13 n ⟨mkT 88 d l, h⟩ = gcK n (mkT 88 .junk [(0, lk d l 0), (1, lk d l 1), (8, lk d l 8)]) h := (trimA_keep tr_54_13 n _ h).trans (by rw [keep_mkT]; kernel_rfl)
abbrev S_54_13 (x0 x1 x8 : AV) (h : List Blk) : St := ⟨mkT 88 .junk [(0, x0), (1, x1), (8, x8)], h⟩
theorem mode_55 : XX.mode 55 = .pure := nr (by kernel_rfl)
theorem fns_55 : XX.fns.contains 55 = true := nr (by kernel_rfl)
theorem res_55 : Go.Proofs.Tryz.f55.results.toList = [.tmp 4] := nr rfl
theorem live_55 : XX.live 55 = [] := nr (by kernel_rfl)
theorem mode_56 : XX.mode 56 = .data := nr (by kernel_rfl)
theorem fns_56 : XX.fns.contains 56 = true := nr (by kernel_rfl)
theorem res_56 : Go.Proofs.Tryz.f56.results.toList = [.tmp 4, .tmp 5] := nr rfl
theorem live_56 : XX.live 56 = [] := nr (by kernel_rfl)
theorem own_56 : XX.own 56 = [] := nr (by kernel_rfl)
theorem adopt_56 : XX.adopt 56 = [6] := nr (by kernel_rfl)
theorem tr_56_3 : XX.trim 56 3 = some ([3, 6, 11, 12, 13], []) := nr (by kernel_rfl)
theorem trim_56_3 (d : AV) (l : List (Nat × AV)) (h : List Blk) (n : Nat) : trimA XX 56 3 n ⟨mkT 34 d l, h⟩ = gcK n (mkT 34 .junk [(3, lk d l 3), (6, lk d l 6), (11, lk d l 11), (12, lk d l 12), (13, lk d l 13)]) h := (trimA_keep tr_56_3 n _ h).trans (by rw [keep_mkT]; kernel_rfl)
abbrev S_56_3 (x3 x6 x11 x12 x13 : AV) (h : List Blk) : St := ⟨mkT 34 .junk [(3, x3), (6, x6), (11, x11), (12, x12), (13, x13)], h⟩
theorem mode_57 : XX.mode 57 = .data := nr (by kernel_rfl)
theorem fns_57 : XX.fns.contains 57 = true := nr (by kernel_rfl)
theorem res_57 : Go.Proofs.Tryz.f57.results.toList = [.tmp 4, .tmp 5] := nr rfl
theorem adopt_57 : XX.adopt 57 = [6] := nr (by kernel_rfl)
theorem cls_57_9 : XX.cls 57 9 = [0, 0, 0, 0, 0, 0, 0, 0, 0, 0, 0, 0] := nr (by kernel_rfl)
theorem tr_57_3 : XX.trim 57 3 = some ([2, 3, 6, 7], []) := nr (by kernel_rfl)
theorem trim_57_3 (d : AV) (l : List (Nat × AV)) (h : List Blk) (n : Nat) : trimA XX 57 3 n ⟨mkT 52 d l, h⟩ = gcK n (mkT 52 .junk [(2, lk d l 2), (3, lk d l 3), (6, lk d l 6), (7, lk d l 7)]) h := (trimA_keep tr_57_3 n _ h).trans (by rw [keep_mkT]; kernel_rfl)
abbrev S_57_3 (x2 x3 x6 x7 : AV) (h : List Blk) : St := ⟨mkT 52 .junk [(2, x2), (3, x3), (6, x6), (7, x7)], h⟩
theorem tr_57_7 : XX.trim 57 7 = some ([2, 3, 6, 7, 8, 9], []) := nr (by kernel_rfl)
theorem trim_57_7 (d : AV) (l : List (Nat × AV)) (h : List Blk) (n : Nat) : trimA XX 57 7 n ⟨mkT 52 d l, h⟩ = gcK n (mkT 52 .junk [(2, lk d l 2), (3, lk d l 3), (6, lk d l 6), (7, lk d l 7), (8, lk d l 8), (9, lk d l 9)]) h := (trimA_keep tr_57_7 n _ h).trans (by rw [keep_mkT]; kernel_rfl)
abbrev S_57_7 (x2 x3 x6 x7 x8 x9 : AV) (h : List Blk) : St := ⟨mkT 52 .junk [(2, x2), (3, x3), (6, x6), (7, x7), (8, x8), (9, x9)], h⟩
theorem mode_58 : XX.mode 58 = .pure := nr (by kernel_rfl)
theorem fns_58 : XX.fns.contains 58 = true := nr (by kernel_rfl)
theorem res_58 : Go.Proofs.Tryz.f58.results.toList = [.tmp 6] := nr rfl
theorem live_58 : XX.live 58 = [] := nr (by kernel_rfl)
theorem own_58 : XX.own 58 = [] := nr (by kernel_rfl)
theorem mode_59 : XX.mode 59 = .data := nr (by kernel_rfl)
theorem fns_59 : XX.fns.contains 59 = true := nr (by kernel_rfl)
theorem res_59 : Go.Proofs.Tryz.f59.results.toList = [.tmp 4, .tmp 5] := nr rfl
theorem live_59 : XX.live 59 = [] := nr (by kernel_rfl)
theorem own_59 : XX.own 59 = [] := nr (by kernel_rfl)
theorem adopt_59 : XX.adopt 59 = [] := nr (by kernel_rfl)
theorem mode_74 : XX.mode 74 = .pure := nr (by kernel_rfl)
theorem fns_74 : XX.fns.contains 74 = true := nr (by kernel_rfl)
theorem res_74 : Go.Proofs.Tryz.f74.results.toList = [.tmp 2] := nr rfl
theorem tr_74_2 : XX.trim 74 2 = some ([6, 7, 8], []) := nr (by kernel_rfl)
theorem trim_74_2 (d : AV) (l : List (Nat × AV)) (h : List Blk) (n : Nat) : trimA XX 74 2 n ⟨mkT 31 d l, h⟩ = gcK n (mkT 31 .junk [(6, lk d l 6), (7, lk d l 7), (8, lk d l 8)]) h := (trimA_keep tr_74_2 n _ h).trans (by rw [keep_mkT]; kernel_rfl)
abbrev S_74_2 (x6 x7 x8 : AV) (h : List Blk) : St := ⟨mkT 31 .junk [(6, x6), (7, x7), (8, x8)], h⟩
theorem fns_75 : XX.fns.contains 75 = true := nr (by kernel_rfl)
theorem res_75 : Go.Proofs.Tryz.f75.results.toList = [.tmp 4] := nr rfl
theorem live_75 : XX.live 75 = [] := nr (by kernel_rfl)
theorem cls_75_1 : XX.cls 75 1 = [0, 0, 0, 0, 0, 0, 0, 0, 0, 0, 0] := nr (by kernel_rfl)
theorem fns_76 : XX.fns.contains 76 = true := nr (by kernel_rfl)
theorem res_76 : Go.Proofs.Tryz.f76.results.toList = [.tmp 4, .tmp 5] := nr rfl
theorem live_76 : XX.live 76 = [] := nr (by kernel_rfl)
theorem cls_76_1 : XX.cls 76 1 = [0, 0, 0, 0, 0, 0, 0, 0, 0, 0, 0, 0] := nr (by kernel_rfl)
theorem cls_76_4 : XX.cls 76 4 = [0, 0, 0, 0, 0, 0, 0, 0, 0, 0, 0, 0, 0, 0, 0, 0] := nr (by kernel_rfl)
theorem fns_78 : XX.fns.contains 78 = true := nr (by kernel_rfl)
theorem res_78 : Go.Proofs.Tryz.f78.results.toList = [.tmp 2] := nr rfl
theorem live_78 : XX.live 78 = [126, 75, 76] := nr (by kernel_rfl)
theorem tr_78_1 : XX.trim 78 1 = some ([0], []) := nr (by kernel_rfl)
theorem trim_78_1 (d : AV) (l : List (Nat × AV)) (h : List Blk) (n : Nat) : trimA XX 78 1 n ⟨mkT 25 d l, h⟩ = gcK n (mkT 25 .junk [(0, lk d l 0)]) h := (trimA_keep tr_78_1 n _ h).trans (by rw [keep_mkT]; kernel_rfl)
abbrev S_78_1 (x0 : AV) (h : List Blk) : St := ⟨mkT 25 .junk [(0, x0)], h⟩
theorem fns_79 : XX.fns.contains 79 = true := nr (by kernel_rfl)
theorem res_79 : Go.Proofs.Tryz.f79.results.toList = [.cell 6 36, .tmp 7] := nr rfl
theorem live_79 : XX.live 79 = [75, 130, 131, 126, 138, 135] := nr (by kernel_rfl)
theorem own_79 : XX.own 79 = [(8, 2, 40), (8, 4, 36)] := nr (by kernel_rfl)
theorem cls_79_9 : XX.cls 79 9 = [0, 0, 0, 0, 0, 0, 0, 0, 0, 0, 0] := nr (by kernel_rfl)
theorem tr_79_16 : XX.trim 79 16 = some ([0, 1, 2, 6, 8, 9, 11, 12, 14, 15, 73, 74, 75], [1]) := nr (by kernel_rfl)
theorem trim_79_16 (d : AV) (l : List (Nat × AV)) (h : List Blk) (n : Nat) : trimA XX 79 16 n ⟨mkT 242 d l, h⟩ = orO (frzH n 242 1 (lk d l 1) [(0, lk d l 0), (1, lk d l 1), (2, lk d l 2), (6, lk d l 6), (8, lk d l 8), (9, lk d l 9), (11, lk d l 11), (12, lk d l 12), (14, lk d l 14), (15, lk d l 15), (73, lk d l 73), (74, lk d l 74), (75, lk d l 75)] h) (frzO n 242 1 [0, 1, 2, 6, 8, 9, 11, 12, 14, 15, 73, 74, 75] d l h) := ((trimA_frz tr_79_16 n _ h).trans (by simp only [List.map_cons, List.map_nil]; (repeat rw [mkT_getD _ _ _ (by decide)]); rfl)).trans (frzO_eq n 242 1 [0, 1, 2, 6, 8, 9, 11, 12, 14, 15, 73, 74, 75] d l h)
abbrev S_79_16 (x0 x1 x2 x6 x8 x9 x11 x12 x14 x15 x73 x74 x75 : AV) (h : List Blk) : St := ⟨mkT 242 .junk [(0, x0), (1, x1), (2, x2), (6, x6), (8, x8), (9, x9), (11, x11), (12, x12), (14, x14), (15, x15), (73, x73), (74, x74), (75, x75)], h⟩
theorem tr_79_32 : XX.trim 79 32 = some ([0, 1, 2, 6, 8, 9, 14, 146, 147, 148], [1]) := nr (by kernel_rfl)
theorem trim_79_32 (d : AV) (l : List (Nat × AV)) (h : List Blk) (n : Nat) : trimA XX 79 32 n ⟨mkT 242 d l, h⟩ = orO (frzH n 242 1 (lk d l 1) [(0, lk d l 0), (1, lk d l 1), (2, lk d l 2), (6, lk d l 6), (8, lk d l 8), (9, lk d l 9), (14, lk d l 14), (146, lk d l 146), (147, lk d l 147), (148, lk d l 148)] h) (frzO n 242 1 [0, 1, 2, 6, 8, 9, 14, 146, 147, 148] d l h) := ((trimA_frz tr_79_32 n _ h).trans (by simp only [List.map_cons, List.map_nil]; (repeat rw [mkT_getD _ _ _ (by decide)]); rfl)).trans (frzO_eq n 242 1 [0, 1, 2, 6, 8, 9, 14, 146, 147, 148] d l h)
abbrev S_79_32 (x0 x1 x2 x6 x8 x9 x14 x146 x147 x148 : AV) (h : List Blk) : St := ⟨mkT 242 .junk [(0, x0), (1, x1), (2, x2), (6, x6), (8, x8), (9, x9), (14, x14), (146, x146), (147, x147), (148, x148)], h⟩
theorem mode_87 : XX.mode 87 = .pure := nr (by kernel_rfl)
theorem fns_87 : XX.fns.contains 87 = true := nr (by kernel_rfl)
theorem res_87 : Go.Proofs.Tryz.f87.results.toList = [.tmp 4] := nr rfl
theorem live_87 : XX.live 87 = [] := nr (by kernel_rfl)
theorem tr_87_4 : XX.trim 87 4 = some ([1, 2, 12, 13, 14], []) := nr (by kernel_rfl)
theorem trim_87_4 (d : AV) (l : List (Nat × AV)) (h : List Blk) (n : Nat) : trimA XX 87 4 n ⟨mkT 66 d l, h⟩ = gcK n (mkT 66 .junk [(1, lk d l 1), (2, lk d l 2), (12, lk d l 12), (13, lk d l 13), (14, lk d l 14)]) h := (trimA_keep tr_87_4 n _ h).trans (by rw [keep_mkT]; kernel_rfl)
abbrev S_87_4 (x1 x2 x12 x13 x14 : AV) (h : List Blk) : St := ⟨mkT 66 .junk [(1, x1), (2, x2), (12, x12), (13, x13), (14, x14)], h⟩
theorem fns_91 : XX.fns.contains 91 = true := nr (by kernel_rfl)
theorem res_91 : Go.Proofs.Tryz.f91.results.toList = [] := nr rfl
theorem live_91 : XX.live 91 = [147] := nr (by kernel_rfl)
theorem mode_92 : XX.mode 92 = .pure := nr (by kernel_rfl)
theorem fns_92 : XX.fns.contains 92 = true := nr (by kernel_rfl)
theorem res_92 : Go.Proofs.Tryz.f92.results.toList = [.tmp 4] := nr rfl
theorem tr_92_2 : XX.trim 92 2 = some ([0, 1, 5], []) := nr (by kernel_rfl)
theorem trim_92_2 (d : AV) (l : List (Nat × AV)) (h : List Blk) (n : Nat) : trimA XX 92 2 n ⟨mkT 20 d l, h⟩ = gcK n (mkT 20 .junk [(0, lk d l 0), (1, lk d l 1), (5, lk d l 5)]) h := (trimA_keep tr_92_2 n _ h).trans (by rw [keep_mkT]; kernel_rfl)
abbrev S_92_2 (x0 x1 x5 : AV) (h : List Blk) : St := ⟨mkT 20 .junk [(0, x0), (1, x1), (5, x5)], h⟩
theorem mode_94 : XX.mode 94 = .pure := nr (by kernel_rfl)
theorem fns_94 : XX.fns.contains 94 = true := nr (by kernel_rfl)
theorem res_94 : Go.Proofs.Tryz.f94.results.toList = [.tmp 6] := nr rfl
theorem live_94 : XX.live 94 = [] := nr (by kernel_rfl)
theorem cls_94_5 : XX.cls 94 5 = [0, 0, 0, 0, 0, 0, 0, 0, 0, 0, 0] := nr (by kernel_rfl)
theorem cls_94_6 : XX.cls 94 6 = [0, 0, 0, 0, 0, 0, 0, 0, 0, 0, 0, 0, 0, 0] := nr (by kernel_rfl)
theorem tr_94_3 : XX.trim 94 3 = some ([1, 3, 5, 7, 9], []) := nr (by kernel_rfl)
theorem trim_94_3 (d : AV) (l : List (Nat × AV)) (h : List Blk) (n : Nat) : trimA XX 94 3 n ⟨mkT 48 d l, h⟩ = gcK n (mkT 48 .junk [(1, lk d l 1), (3, lk d l 3), (5, lk d l 5), (7, lk d l 7), (9, lk d l 9)]) h := (trimA_keep tr_94_3 n _ h).trans (by rw [keep_mkT]; kernel_rfl)
abbrev S_94_3 (x1 x3 x5 x7 x9 : AV) (h : List Blk) : St := ⟨mkT 48 .junk [(1, x1), (3, x3), (5, x5), (7, x7), (9, x9)], h⟩
theorem mode_96 : XX.mode 96 = .pure := nr (by kernel_rfl)
theorem fns_96 : XX.fns.contains 96 = true := nr (by kernel_rfl)
theorem res_96 : Go.Proofs.Tryz.f96.results.toList = [.tmp 4] := nr rfl
theorem tr_96_2 : XX.trim 96 2 = some ([0, 1, 5], []) := nr (by kernel_rfl)
theorem trim_96_2 (d : AV) (l : List (Nat × AV)) (h : List Blk) (n : Nat) : trimA XX 96 2 n ⟨mkT 18 d l, h⟩ = gcK n (mkT 18 .junk [(0, lk d l 0), (1, lk d l 1), (5, lk d l 5)]) h := (trimA_keep tr_96_2 n _ h).trans (by rw [keep_mkT]; kernel_rfl)
abbrev S_96_2 (x0 x1 x5 : AV) (h : List Blk) : St := ⟨mkT 18 .junk [(0, x0), (1, x1), (5, x5)], h⟩
theorem mode_97 : XX.mode 97 = .data := nr (by kernel_rfl)
theorem fns_97 : XX.fns.contains 97 = true := nr (by kernel_rfl)
theorem res_97 : Go.Proofs.Tryz.f97.results.toList = [.tmp 4] := nr rfl
theorem live_97 : XX.live 97 = [] := nr (by kernel_rfl)
theorem adopt_97 : XX.adopt 97 = [] := nr (by kernel_rfl)
theorem cls_97_6 : XX.cls 97 6 = [0, 0, 0, 0, 0, 0, 0, 0, 0, 0, 0, 0, 0, 1, 2, 0] := nr (by kernel_rfl)
theorem cls_97_9 : XX.cls 97 9 = [0, 0, 0, 0, 0, 0, 0, 0, 0, 1, 0, 2, 0] := nr (by kernel_rfl)
theorem tr_97_3 : XX.trim 97 3 = some ([0, 1, 5, 6], [5]) := nr (by kernel_rfl)
theorem trim_97_3 (d : AV) (l : List (Nat × AV)) (h : List Blk) (n : Nat) : trimA XX 97 3 n ⟨mkT 51 d l, h⟩ = orO (frzH n 51 5 (lk d l 5) [(0, lk d l 0), (1, lk d l 1), (5, lk d l 5), (6, lk d l 6)] h) (frzO n 51 5 [0, 1, 5, 6] d l h) := ((trimA_frz tr_97_3 n _ h).trans (by simp only [List.map_cons, List.map_nil]; (repeat rw [mkT_getD _ _ _ (by decide)]); rfl)).trans (frzO_eq n 51 5 [0, 1, 5, 6] d l h)
abbrev S_97_3 (x0 x1 x5 x6 : AV) (h : List Blk) : St := ⟨mkT 51 .junk [(0, x0), (1, x1), (5, x5), (6, x6)], h⟩
theorem tr_97_6 : XX.trim 97 6 = some ([0, 1, 5, 6, 7], []) := nr (by kernel_rfl)
theorem trim_97_6 (d : AV) (l : List (Nat × AV)) (h : List Blk) (n : Nat) : trimA XX 97 6 n ⟨mkT 51 d l, h⟩ = gcK n (mkT 51 .junk [(0, lk d l 0), (1, lk d l 1), (5, lk d l 5), (6, lk d l 6), (7, lk d l 7)]) h := (trimA_keep tr_97_6 n _ h).trans (by rw [keep_mkT]; kernel_rfl)
abbrev S_97_6 (x0 x1 x5 x6 x7 : AV) (h : List Blk) : St := ⟨mkT 51 .junk [(0, x0), (1, x1), (5, x5), (6, x6), (7, x7)], h⟩
theorem mode_101 : XX.mode 101 = .pure := nr (by kernel_rfl)
theorem fns_101 : XX.fns.contains 101 = true := nr (by kernel_rfl)
theorem res_101 : Go.Proofs.Tryz.f101.results.toList = [.tmp 4] := nr rfl
theorem live_101 : XX.live 101 = [] := nr (by kernel_rfl)
theorem own_101 : XX.own 101 = [] := nr (by kernel_rfl)
theorem cls_101_19 : XX.cls 101 19 = [0, 0, 0, 0, 0, 0, 0, 0, 0, 0, 0, 0, 0, 0, 0, 0, 0, 0, 0, 0, 0, 0, 0, 0, 0] := nr (by kernel_rfl)
theorem tr_101_4 : XX.trim 101 4 = some ([0, 1, 18, 19, 20], []) := nr (by kernel_rfl)
theorem trim_101_4 (d : AV) (l : List (Nat × AV)) (h : List Blk) (n : Nat) : trimA XX 101 4 n ⟨mkT 160 d l, h⟩ = gcK n (mkT 160 .junk [(0, lk d l 0), (1, lk d l 1), (18, lk d l 18), (19, lk d l 19), (20, lk d l 20)]) h := (trimA_keep tr_101_4 n _ h).trans (by rw [keep_mkT]; kernel_rfl)
abbrev S_101_4 (x0 x1 x18 x19 x20 : AV) (h : List Blk) : St := ⟨mkT 160 .junk [(0, x0), (1, x1), (18, x18), (19, x19), (20, x20)], h⟩
theorem tr_101_17 : XX.trim 101 17 = some ([0, 1, 6, 18, 19, 20, 79, 80, 81], []) := nr (by kernel_rfl)
theorem trim_101_17 (d : AV) (l : List (Nat × AV)) (h : List Blk) (n : Nat) : trimA XX 101 17 n ⟨mkT 160 d l, h⟩ = gcK n (mkT 160 .junk [(0, lk d l 0), (1, lk d l 1), (6, lk d l 6), (18, lk d l 18), (19, lk d l 19), (20, lk d l 20), (79, lk d l 79), (80, lk d l 80), (81, lk d l 81)]) h := (trimA_keep tr_101_17 n _ h).trans (by rw [keep_mkT]; kernel_rfl)
abbrev S_101_17 (x0 x1 x6 x18 x19 x20 x79 x80 x81 : AV) (h : List Blk) : St := ⟨mkT 160 .junk [(0, x0), (1, x1), (6, x6), (18, x18), (19, x19), (20, x20), (79, x79), (80, x80), (81, x81)], h⟩
theorem tr_101_26 : XX.trim 101 26 = some ([0, 1, 18, 19, 20, 149, 150, 151], []) := nr (by kernel_rfl)
theorem trim_101_26 (d : AV) (l : List (Nat × AV)) (h : List Blk) (n : Nat) : trimA XX 101 26 n ⟨mkT 160 d l, h⟩ = gcK n (mkT 160 .junk [(0, lk d l 0), (1, lk d l 1), (18, lk d l 18), (19, lk d l 19), (20, lk d l 20), (149, lk d l 149), (150, lk d l 150), (151, lk d l 151)]) h := (trimA_keep tr_101_26 n _ h).trans (by rw [keep_mkT]; kernel_rfl)
abbrev S_101_26 (x0 x1 x18 x19 x20 x149 x150 x151 : AV) (h : List Blk) : St := ⟨mkT 160 .junk [(0, x0), (1, x1), (18, x18), (19, x19), (20, x20), (149, x149), (150, x150), (151, x151)], h⟩
theorem mode_102 : XX.mode 102 = .pure := nr (by kernel_rfl)
theorem fns_102 : XX.fns.contains 102 = true := nr (by kernel_rfl)
theorem res_102 : Go.Proofs.Tryz.f102.results.toList = [.tmp 4] := nr rfl
theorem live_102 : XX.live 102 = [] := nr (by kernel_rfl)
theorem own_102 : XX.own 102 = [] := nr (by kernel_rfl)
theorem cls_102_20 : XX.cls 102 20 = [0, 0, 0, 0, 0, 0, 0, 0, 0] := nr (by kernel_rfl)
theorem cls_102_21 : XX.cls 102 21 = [0, 0, 0, 0, 0, 0, 0, 0, 0, 0, 0, 0, 0, 0, 0, 0, 0, 0, 0, 0, 0, 0, 0] := nr (by kernel_rfl)
theorem tr_102_4 : XX.trim 102 4 = some ([0, 1, 5], []) := nr (by kernel_rfl)
theorem trim_102_4 (d : AV) (l : List (Nat × AV)) (h : List Blk) (n : Nat) : trimA XX 102 4 n ⟨mkT 181 d l, h⟩ = gcK n (mkT 181 .junk [(0, lk d l 0), (1, lk d l 1), (5, lk d l 5)]) h := (trimA_keep tr_102_4 n _ h).trans (by rw [keep_mkT]; kernel_rfl)
abbrev S_102_4 (x0 x1 x5 : AV) (h : List Blk) : St := ⟨mkT 181 .junk [(0, x0), (1, x1), (5, x5)], h⟩
theorem tr_102_18 : XX.trim 102 18 = some ([0, 1, 5, 6, 7], []) := nr (by kernel_rfl)
theorem trim_102_18 (d : AV) (l : List (Nat × AV)) (h : List Blk) (n : Nat) : trimA XX 102 18 n ⟨mkT 181 d l, h⟩ = gcK n (mkT 181 .junk [(0, lk d l 0), (1, lk d l 1), (5, lk d l 5), (6, lk d l 6), (7, lk d l 7)]) h := (trimA_keep tr_102_18 n _ h).trans (by rw [keep_mkT]; kernel_rfl)
abbrev S_102_18 (x0 x1 x5 x6 x7 : AV) (h : List Blk) : St := ⟨mkT 181 .junk [(0, x0), (1, x1), (5, x5), (6, x6), (7, x7)], h⟩
theorem tr_102_29 : XX.trim 102 29 = some ([0, 1, 5, 6, 9], []) := nr (by kernel_rfl)
theorem trim_102_29 (d : AV) (l : List (Nat × AV)) (h : List Blk) (n : Nat) : trimA XX 102 29 n ⟨mkT 181 d l, h⟩ = gcK n (mkT 181 .junk [(0, lk d l 0), (1, lk d l 1), (5, lk d l 5), (6, lk d l 6), (9, lk d l 9)]) h := (trimA_keep tr_102_29 n _ h).trans (by rw [keep_mkT]; kernel_rfl)
abbrev S_102_29 (x0 x1 x5 x6 x9 : AV) (h : List Blk) : St := ⟨mkT 181 .junk [(0, x0), (1, x1), (5, x5), (6, x6), (9, x9)], h⟩
theorem mode_103 : XX.mode 103 = .pure := nr (by kernel_rfl)
theorem fns_103 : XX.fns.contains 103 = true := nr (by kernel_rfl)
theorem res_103 : Go.Proofs.Tryz.f103.results.toList = [.tmp 4] := nr rfl
theorem live_103 : XX.live 103 = [] := nr (by kernel_rfl)
theorem tr_103_4 : XX.trim 103 4 = some ([1, 2, 5], []) := nr (by kernel_rfl)
theorem trim_103_4 (d : AV) (l : List (Nat × AV)) (h : List Blk) (n : Nat) : trimA XX 103 4 n ⟨mkT 88 d l, h⟩ = gcK n (mkT 88 .junk [(1, lk d l 1), (2, lk d l 2), (5, lk d l 5)]) h := (trimA_keep tr_103_4 n _ h).trans (by rw [keep_mkT]; kernel_rfl)
abbrev S_103_4 (x1 x2 x5 : AV) (h : List Blk) : St := ⟨mkT 88 .junk [(1, x1), (2, x2), (5, x5)], h⟩
theorem tr_103_16 : XX.trim 103 16 = some ([6, 7], []) := nr (by kernel_rfl)
theorem trim_103_16 (d : AV) (l : List (Nat × AV)) (h : List Blk) (n : Nat) : trimA XX 103 16 n ⟨mkT 88 d l, h⟩ = gcK n (mkT 88 .junk [(6, lk d l 6), (7, lk d l 7)]) h := (trimA_keep tr_103_16 n _ h).trans (by rw [keep_mkT]; kernel_rfl)
abbrev S_103_16 (x6 x7 : AV) (h : List Blk) : St := ⟨mkT 88 .junk [(6, x6), (7, x7)], h⟩
theorem mode_104 : XX.mode 104 = .pure := nr (by kernel_rfl)
theorem fns_104 : XX.fns.contains 104 = true := nr (by kernel_rfl)
theorem res_104 : Go.Proofs.Tryz.f104.results.toList = [.tmp 4] := nr rfl
theorem live_104 : XX.live 104 = [] := nr (by kernel_rfl)
theorem mode_105 : XX.mode 105 = .pure := nr (by kernel_rfl)
theorem fns_105 : XX.fns.contains 105 = true := nr (by kernel_rfl)
theorem res_105 : Go.Proofs.Tryz.f105.results.toList = [.tmp 3] := nr rfl
theorem mode_106 : XX.mode 106 = .pure := nr (by kernel_rfl)
theorem fns_106 : XX.fns.contains 106 = true := nr (by kernel_rfl)
theorem res_106 : Go.Proofs.Tryz.f106.results.toList = [.tmp 4] := nr rfl
theorem live_106 : XX.live 106 = [] := nr (by kernel_rfl)
theorem tr_106_2 : XX.trim 106 2 = some ([0, 1, 7, 8], []) := nr (by kernel_rfl)
theorem trim_106_2 (d : AV) (l : List (Nat × AV)) (h : List Blk) (n : Nat) : trimA XX 106 2 n ⟨mkT 19 d l, h⟩ = gcK n (mkT 19 .junk [(0, lk d l 0), (1, lk d l 1), (7, lk d l 7), (8, lk d l 8)]) h := (trimA_keep tr_106_2 n _ h).trans (by rw [keep_mkT]; kernel_rfl)
abbrev S_106_2 (x0 x1 x7 x8 : AV) (h : List Blk) : St := ⟨mkT 19 .junk [(0, x0), (1, x1), (7, x7), (8, x8)], h⟩
theorem mode_107 : XX.mode 107 = .pure := nr (by kernel_rfl)
theorem fns_107 : XX.fns.contains 107 = true := nr (by kernel_rfl)
theorem res_107 : Go.Proofs.Tryz.f107.results.toList = [.tmp 3] := nr rfl
theorem mode_108 : XX.mode 108 = .pure := nr (by kernel_rfl)
theorem fns_108 : XX.fns.contains 108 = true := nr (by kernel_rfl)
theorem res_108 : Go.Proofs.Tryz.f108.results.toList = [.tmp 4] := nr rfl
theorem live_108 : XX.live 108 = [] := nr (by kernel_rfl)
theorem tr_108_2 : XX.trim 108 2 = some ([0, 1, 7, 8], []) := nr (by kernel_rfl)
theorem trim_108_2 (d : AV) (l : List (Nat × AV)) (h : List Blk) (n : Nat) : trimA XX 108 2 n ⟨mkT 19 d l, h⟩ = gcK n (mkT 19 .junk [(0, lk d l 0), (1, lk d l 1), (7, lk d l 7), (8, lk d l 8)]) h := (trimA_keep tr_108_2 n _ h).trans (by rw [keep_mkT]; kernel_rfl)
abbrev S_108_2 (x0 x1 x7 x8 : AV) (h : List Blk) : St := ⟨mkT 19 .junk [(0, x0), (1, x1), (7, x7), (8, x8)], h⟩
theorem mode_109 : XX.mode 109 = .pure := nr (by kernel_rfl)
theorem fns_109 : XX.fns.contains 109 = true := nr (by kernel_rfl)
theorem res_109 : Go.Proofs.Tryz.f109.results.toList = [.tmp 3] := nr rfl
theorem mode_110 : XX.mode 110 = .pure := nr (by kernel_rfl)
theorem fns_110 : XX.fns.contains 110 = true := nr (by kernel_rfl)
theorem res_110 : Go.Proofs.Tryz.f110.results.toList = [.tmp 5] := nr rfl
theorem live_110 : XX.live 110 = [] := nr (by kernel_rfl)
theorem mode_111 : XX.mode 111 = .pure := nr (by kernel_rfl)
theorem fns_111 : XX.fns.contains 111 = true := nr (by kernel_rfl)
theorem res_111 : Go.Proofs.Tryz.f111.results.toList = [.tmp 4] := nr rfl
theorem cls_111_6 : XX.cls 111 6 = [0, 0, 0, 0, 0, 0, 0, 0, 0] := nr (by kernel_rfl)
theorem tr_111_4 : XX.trim 111 4 = some ([0, 1, 12, 13], []) := nr (by kernel_rfl)
theorem trim_111_4 (d : AV) (l : List (Nat × AV)) (h : List Blk) (n : Nat) : trimA XX 111 4 n ⟨mkT 26 d l, h⟩ = gcK n (mkT 26 .junk [(0, lk d l 0), (1, lk d l 1), (12, lk d l 12), (13, lk d l 13)]) h := (trimA_keep tr_111_4 n _ h).trans (by rw [keep_mkT]; kernel_rfl)
abbrev S_111_4 (x0 x1 x12 x13 : AV) (h : List Blk) : St := ⟨mkT 26 .junk [(0, x0), (1, x1), (12, x12), (13, x13)], h⟩
theorem mode_117 : XX.mode 117 = .pure := nr (by kernel_rfl)
theorem fns_117 : XX.fns.contains 117 = true := nr (by kernel_rfl)
theorem res_117 : Go.Proofs.Tryz.f117.results.toList = [.tmp 4] := nr rfl
theorem live_117 : XX.live 117 = [] := nr (by kernel_rfl)
theorem fns_126 : XX.fns.contains 126 = true := nr (by kernel_rfl)
theorem res_126 : Go.Proofs.Tryz.f126.results.toList = [.tmp 2] := nr rfl
theorem live_126 : XX.live 126 = [] := nr (by kernel_rfl)
theorem cls_126_2 : XX.cls 126 2 = [0, 0, 0, 0, 0, 0, 0, 0, 0, 0, 0, 0, 0, 0, 0, 0, 0, 0, 0, 0, 0, 0, 0] := nr (by kernel_rfl)
theorem tr_126_2 : XX.trim 126 2 = some ([0, 3], []) := nr (by kernel_rfl)
theorem trim_126_2 (d : AV) (l : List (Nat × AV)) (h : List Blk) (n : Nat) : trimA XX 126 2 n ⟨mkT 44 d l, h⟩ = gcK n (mkT 44 .junk [(0, lk d l 0), (3, lk d l 3)]) h := (trimA_keep tr_126_2 n _ h).trans (by rw [keep_mkT]; kernel_rfl)
abbrev S_126_2 (x0 x3 : AV) (h : List Blk) : St := ⟨mkT 44 .junk [(0, x0), (3, x3)], h⟩
theorem mode_129 : XX.mode 129 = .data := nr (by kernel_rfl)
theorem fns_129 : XX.fns.contains 129 = true := nr (by kernel_rfl)
theorem res_129 : Go.Proofs.Tryz.f129.results.toList = [.cell 2 36, .tmp 3] := nr rfl
theorem own_129 : XX.own 129 = [] := nr (by kernel_rfl)
theorem fns_130 : XX.fns.contains 130 = true := nr (by kernel_rfl)
theorem res_130 : Go.Proofs.Tryz.f130.results.toList = [.tmp 2, .tmp 3, .tmp 4] := nr rfl
theorem live_130 : XX.live 130 = [] := nr (by kernel_rfl)
theorem cls_130_2 : XX.cls 130 2 = [0, 0, 0, 0, 0, 0, 0, 0, 0, 0, 0, 0, 0, 0, 0, 0, 0, 0, 0, 0, 0, 0, 0] := nr (by kernel_rfl)
theorem cls_130_4 : XX.cls 130 4 = [0, 0, 0, 0, 0, 0, 0, 0, 0, 0, 0, 0, 0, 0, 0, 0, 0, 0] := nr (by kernel_rfl)
theorem tr_130_2 : XX.trim 130 2 = some ([0, 5], []) := nr (by kernel_rfl)
theorem trim_130_2 (d : AV) (l : List (Nat × AV)) (h : List Blk) (n : Nat) : trimA XX 130 2 n ⟨mkT 73 d l, h⟩ = gcK n (mkT 73 .junk [(0, lk d l 0), (5, lk d l 5)]) h := (trimA_keep tr_130_2 n _ h).trans (by rw [keep_mkT]; kernel_rfl)
abbrev S_130_2 (x0 x5 : AV) (h : List Blk) : St := ⟨mkT 73 .junk [(0, x0), (5, x5)], h⟩
theorem fns_131 : XX.fns.contains 131 = true := nr (by kernel_rfl)
theorem res_131 : Go.Proofs.Tryz.f131.results.toList = [.tmp 2, .tmp 3] := nr rfl
theorem live_131 : XX.live 131 = [126, 130, 75, 76] := nr (by kernel_rfl)
theorem own_131 : XX.own 131 = [] := nr (by kernel_rfl)
theorem adopt_131 : XX.adopt 131 = [4] := nr (by kernel_rfl)
theorem cls_131_3 : XX.cls 131 3 = [0, 0, 0, 0, 0, 0, 0, 0, 0, 0] := nr (by kernel_rfl)
theorem cls_131_5 : XX.cls 131 5 = [0, 0, 0, 0, 0, 0, 0, 0, 0, 0] := nr (by kernel_rfl)
theorem tr_131_2 : XX.trim 131 2 = some ([0, 4], []) := nr (by kernel_rfl)
theorem trim_131_2 (d : AV) (l : List (Nat × AV)) (h : List Blk) (n : Nat) : trimA XX 131 2 n ⟨mkT 105 d l, h⟩ = gcK n (mkT 105 .junk [(0, lk d l 0), (4, lk d l 4)]) h := (trimA_keep tr_131_2 n _ h).trans (by rw [keep_mkT]; kernel_rfl)
abbrev S_131_2 (x0 x4 : AV) (h : List Blk) : St := ⟨mkT 105 .junk [(0, x0), (4, x4)], h⟩
theorem mode_132 : XX.mode 132 = .pure := nr (by kernel_rfl)
theorem fns_132 : XX.fns.contains 132 = true := nr (by kernel_rfl)
theorem res_132 : Go.Proofs.Tryz.f132.results.toList = [.tmp 4, .tmp 5] := nr rfl
theorem tr_132_1 : XX.trim 132 1 = some ([0, 1], []) := nr (by kernel_rfl)
theorem trim_132_1 (d : AV) (l : List (Nat × AV)) (h : List Blk) (n : Nat) : trimA XX 132 1 n ⟨mkT 24 d l, h⟩ = gcK n (mkT 24 .junk [(0, lk d l 0), (1, lk d l 1)]) h := (trimA_keep tr_132_1 n _ h).trans (by rw [keep_mkT]; kernel_rfl)
abbrev S_132_1 (x0 x1 : AV) (h : List Blk) : St := ⟨mkT 24 .junk [(0, x0), (1, x1)], h⟩
theorem mode_133 : XX.mode 133 = .pure := nr (by kernel_rfl)
theorem fns_133 : XX.fns.contains 133 = true := nr (by kernel_rfl)
theorem res_133 : Go.Proofs.Tryz.f133.results.toList = [.tmp 4] := nr rfl
theorem live_133 : XX.live 133 = [] := nr (by kernel_rfl)
theorem mode_134 : XX.mode 134 = .pure := nr (by kernel_rfl)
theorem fns_134 : XX.fns.contains 134 = true := nr (by kernel_rfl)
theorem res_134 : Go.Proofs.Tryz.f134.results.toList = [.tmp 3] := nr rfl
theorem fns_138 : XX.fns.contains 138 = true := nr (by kernel_rfl)
theorem res_138 : Go.Proofs.Tryz.f138.results.toList = [.tmp 8] := nr rfl
theorem live_138 : XX.live 138 = [75, 76, 79, 152, 99] := nr (by kernel_rfl)
theorem own_138 : XX.own 138 = [(9, 1, 5)] := nr (by kernel_rfl)
theorem cls_138_3 : XX.cls 138 3 = [0, 0, 0, 0, 0, 0, 0, 0, 0, 0, 0] := nr (by kernel_rfl)
theorem cls_138_6 : XX.cls 138 6 = [0, 0, 0, 0, 0, 0, 0, 0, 0, 0, 0, 0, 0, 0, 0, 0] := nr (by kernel_rfl)
theorem cls_138_18 : XX.cls 138 18 = [0, 0, 0, 0, 0, 0, 0, 2, 11, 10, 3, 3, 9] := nr (by kernel_rfl)
theorem tr_138_3 : XX.trim 138 3 = some ([0, 1, 2, 3, 9, 10], []) := nr (by kernel_rfl)
theorem trim_138_3 (d : AV) (l : List (Nat × AV)) (h : List Blk) (n : Nat) : trimA XX 138 3 n ⟨mkT 151 d l, h⟩ = gcK n (mkT 151 .junk [(0, lk d l 0), (1, lk d l 1), (2, lk d l 2), (3, lk d l 3), (9, lk d l 9), (10, lk d l 10)]) h := (trimA_keep tr_138_3 n _ h).trans (by rw [keep_mkT]; kernel_rfl)
abbrev S_138_3 (x0 x1 x2 x3 x9 x10 : AV) (h : List Blk) : St := ⟨mkT 151 .junk [(0, x0), (1, x1), (2, x2), (3, x3), (9, x9), (10, x10)], h⟩
theorem mode_142 : XX.mode 142 = .pure := nr (by kernel_rfl)
theorem fns_142 : XX.fns.contains 142 = true := nr (by kernel_rfl)
theorem res_142 : Go.Proofs.Tryz.f142.results.toList = [.tmp 4] := nr rfl
theorem tr_142_2 : XX.trim 142 2 = some ([0, 1, 7, 8], []) := nr (by kernel_rfl)
theorem trim_142_2 (d : AV) (l : List (Nat × AV)) (h : List Blk) (n : Nat) : trimA XX 142 2 n ⟨mkT 19 d l, h⟩ = gcK n (mkT 19 .junk [(0, lk d l 0), (1, lk d l 1), (7, lk d l 7), (8, lk d l 8)]) h := (trimA_keep tr_142_2 n _ h).trans (by rw [keep_mkT]; kernel_rfl)
abbrev S_142_2 (x0 x1 x7 x8 : AV) (h : List Blk) : St := ⟨mkT 19 .junk [(0, x0), (1, x1), (7, x7), (8, x8)], h⟩
theorem mode_143 : XX.mode 143 = .pure := nr (by kernel_rfl)
theorem fns_143 : XX.fns.contains 143 = true := nr (by kernel_rfl)
theorem res_143 : Go.Proofs.Tryz.f143.results.toList = [.tmp 4] := nr rfl
theorem live_143 : XX.live 143 = [] := nr (by kernel_rfl)
theorem fns_147 : XX.fns.contains 147 = true := nr (by kernel_rfl)
theorem res_147 : Go.Proofs.Tryz.f147.results.toList = [] := nr rfl
theorem live_147 : XX.live 147 = [201] := nr (by kernel_rfl)
theorem mode_148 : XX.mode 148 = .pure := nr (by kernel_rfl)
theorem fns_148 : XX.fns.contains 148 = true := nr (by kernel_rfl)
theorem res_148 : Go.Proofs.Tryz.f148.results.toList = [.tmp 5] := nr rfl
theorem live_148 : XX.live 148 = [] := nr (by kernel_rfl)
theorem cls_148_1 : XX.cls 148 1 = [0, 0, 0, 0, 0, 0, 0, 0, 0, 0] := nr (by kernel_rfl)
theorem cls_148_4 : XX.cls 148 4 = [0, 0, 0, 0, 0, 0, 0, 0, 0, 0, 0] := nr (by kernel_rfl)
theorem cls_148_5 : XX.cls 148 5 = [0, 0, 0, 0, 0, 0, 0, 0, 0, 0, 0] := nr (by kernel_rfl)
theorem mode_149 : XX.mode 149 = .pure := nr (by kernel_rfl)
theorem fns_149 : XX.fns.contains 149 = true := nr (by kernel_rfl)
theorem res_149 : Go.Proofs.Tryz.f149.results.toList = [.tmp 4] := nr rfl
theorem live_149 : XX.live 149 = [] := nr (by kernel_rfl)
theorem tr_149_2 : XX.trim 149 2 = some ([0, 1, 9, 10, 11], []) := nr (by kernel_rfl)
theorem trim_149_2 (d : AV) (l : List (Nat × AV)) (h : List Blk) (n : Nat) : trimA XX 149 2 n ⟨mkT 36 d l, h⟩ = gcK n (mkT 36 .junk [(0, lk d l 0), (1, lk d l 1), (9, lk d l 9), (10, lk d l 10), (11, lk d l 11)]) h := (trimA_keep tr_149_2 n _ h).trans (by rw [keep_mkT]; kernel_rfl)
abbrev S_149_2 (x0 x1 x9 x10 x11 : AV) (h : List Blk) : St := ⟨mkT 36 .junk [(0, x0), (1, x1), (9, x9), (10, x10), (11, x11)], h⟩
theorem mode_150 : XX.mode 150 = .pure := nr (by kernel_rfl)
theorem fns_150 : XX.fns.contains 150 = true := nr (by kernel_rfl)
theorem res_150 : Go.Proofs.Tryz.f150.results.toList = [.tmp 4] := nr rfl
theorem cls_150_4 : XX.cls 150 4 = [0, 0, 0, 0, 0, 0, 0, 0, 0] := nr (by kernel_rfl)
theorem cls_150_6 : XX.cls 150 6 = [0, 0, 0, 0, 0, 0, 0, 0, 0] := nr (by kernel_rfl)
theorem tr_150_2 : XX.trim 150 2 = some ([0, 1, 5], []) := nr (by kernel_rfl)
theorem trim_150_2 (d : AV) (l : List (Nat × AV)) (h : List Blk) (n : Nat) : trimA XX 150 2 n ⟨mkT 41 d l, h⟩ = gcK n (mkT 41 .junk [(0, lk d l 0), (1, lk d l 1), (5, lk d l 5)]) h := (trimA_keep tr_150_2 n _ h).trans (by rw [keep_mkT]; kernel_rfl)
abbrev S_150_2 (x0 x1 x5 : AV) (h : List Blk) : St := ⟨mkT 41 .junk [(0, x0), (1, x1), (5, x5)], h⟩
theorem mode_151 : XX.mode 151 = .pure := nr (by kernel_rfl)
theorem fns_151 : XX.fns.contains 151 = true := nr (by kernel_rfl)
theorem res_151 : Go.Proofs.Tryz.f151.results.toList = [.tmp 6] := nr rfl
theorem live_151 : XX.live 151 = [] := nr (by kernel_rfl)
theorem cls_151_1 : XX.cls 151 1 = [0, 0, 0, 0, 0, 0, 0, 0, 0, 0] := nr (by kernel_rfl)
theorem cls_151_4 : XX.cls 151 4 = [0, 0, 0, 0, 0, 0, 0, 0, 0, 0, 0] := nr (by kernel_rfl)
theorem cls_151_5 : XX.cls 151 5 = [0, 0, 0, 0, 0, 0, 0, 0, 0, 0, 0] := nr (by kernel_rfl)
theorem fns_152 : XX.fns.contains 152 = true := nr (by kernel_rfl)
theorem res_152 : Go.Proofs.Tryz.f152.results.toList = [.tmp 4, .tmp 5] := nr rfl
theorem live_152 : XX.live 152 = [203] := nr (by kernel_rfl)
theorem mode_155 : XX.mode 155 = .pure := nr (by kernel_rfl)
theorem fns_155 : XX.fns.contains 155 = true := nr (by kernel_rfl)
theorem res_155 : Go.Proofs.Tryz.f155.results.toList = [.tmp 4] := nr rfl
theorem live_155 : XX.live 155 = [] := nr (by kernel_rfl)
theorem mode_156 : XX.mode 156 = .pure := nr (by kernel_rfl)
theorem fns_156 : XX.fns.contains 156 = true := nr (by kernel_rfl)
theorem res_156 : Go.Proofs.Tryz.f156.results.toList = [.tmp 3] := nr rfl
theorem mode_178 : XX.mode 178 = .pure := nr (by kernel_rfl)
theorem fns_178 : XX.fns.contains 178 = true := nr (by kernel_rfl)
theorem res_178 : Go.Proofs.Tryz.f178.results.toList = [.tmp 4] := nr rfl
theorem mode_186 : XX.mode 186 = .pure := nr (by kernel_rfl)
theorem fns_186 : XX.fns.contains 186 = true := nr (by kernel_rfl)
theorem res_186 : Go.Proofs.Tryz.f186.results.toList = [.tmp 2, .tmp 3] := nr rfl
theorem live_186 : XX.live 186 = [152, 226, 99] := nr (by kernel_rfl)
theorem own_186 : XX.own 186 = [(4, 1, 5)] := nr (by kernel_rfl)
theorem tr_186_2 : XX.trim 186 2 = some ([0, 4], []) := nr (by kernel_rfl)
theorem trim_186_2 (d : AV) (l : List (Nat × AV)) (h : List Blk) (n : Nat) : trimA XX 186 2 n ⟨mkT 45 d l, h⟩ = gcK n (mkT 45 .junk [(0, lk d l 0), (4, lk d l 4)]) h := (trimA_keep tr_186_2 n _ h).trans (by rw [keep_mkT]; kernel_rfl)
abbrev S_186_2 (x0 x4 : AV) (h : List Blk) : St := ⟨mkT 45 .junk [(0, x0), (4, x4)], h⟩
theorem mode_187 : XX.mode 187 = .pure := nr (by kernel_rfl)
theorem fns_187 : XX.fns.contains 187 = true := nr (by kernel_rfl)
theorem res_187 : Go.Proofs.Tryz.f187.results.toList = [.tmp 4] := nr rfl
theorem live_187 : XX.live 187 = [] := nr (by kernel_rfl)
theorem mode_188 : XX.mode 188 = .pure := nr (by kernel_rfl)
theorem fns_188 : XX.fns.contains 188 = true := nr (by kernel_rfl)
theorem res_188 : Go.Proofs.Tryz.f188.results.toList = [.tmp 4] := nr rfl
theorem mode_189 : XX.mode 189 = .pure := nr (by kernel_rfl)
theorem fns_189 : XX.fns.contains 189 = true := nr (by kernel_rfl)
theorem res_189 : Go.Proofs.Tryz.f189.results.toList = [.tmp 4] := nr rfl
theorem live_189 : XX.live 189 = [] := nr (by kernel_rfl)
theorem tr_189_2 : XX.trim 189 2 = some ([0, 1, 7, 8], []) := nr (by kernel_rfl)
theorem trim_189_2 (d : AV) (l : List (Nat × AV)) (h : List Blk) (n : Nat) : trimA XX 189 2 n ⟨mkT 19 d l, h⟩ = gcK n (mkT 19 .junk [(0, lk d l 0), (1, lk d l 1), (7, lk d l 7), (8, lk d l 8)]) h := (trimA_keep tr_189_2 n _ h).trans (by rw [keep_mkT]; kernel_rfl)
abbrev S_189_2 (x0 x1 x7 x8 : AV) (h : List Blk) : St := ⟨mkT 19 .junk [(0, x0), (1, x1), (7, x7), (8, x8)], h⟩
theorem mode_197 : XX.mode 197 = .pure := nr (by kernel_rfl)
theorem fns_197 : XX.fns.contains 197 = true := nr (by kernel_rfl)
theorem res_197 : Go.Proofs.Tryz.f197.results.toList = [.tmp 4] := nr rfl
theorem live_197 : XX.live 197 = [] := nr (by kernel_rfl)
theorem fns_201 : XX.fns.contains 201 = true := nr (by kernel_rfl)
theorem res_201 : Go.Proofs.Tryz.f201.results.toList = [] := nr rfl
theorem live_201 : XX.live 201 = [241, 242] := nr (by kernel_rfl)
theorem tr_201_2 : XX.trim 201 2 = some ([0, 1, 2, 6, 7, 8], []) := nr (by kernel_rfl)
theorem trim_201_2 (d : AV) (l : List (Nat × AV)) (h : List Blk) (n : Nat) : trimA XX 201 2 n ⟨mkT 63 d l, h⟩ = gcK n (mkT 63 .junk [(0, lk d l 0), (1, lk d l 1), (2, lk d l 2), (6, lk d l 6), (7, lk d l 7), (8, lk d l 8)]) h := (trimA_keep tr_201_2 n _ h).trans (by rw [keep_mkT]; kernel_rfl)
abbrev S_201_2 (x0 x1 x2 x6 x7 x8 : AV) (h : List Blk) : St := ⟨mkT 63 .junk [(0, x0), (1, x1), (2, x2), (6, x6), (7, x7), (8, x8)], h⟩
theorem tr_201_7 : XX.trim 201 7 = some ([0, 1, 2, 6], []) := nr (by kernel_rfl)
theorem trim_201_7 (d : AV) (l : List (Nat × AV)) (h : List Blk) (n : Nat) : trimA XX 201 7 n ⟨mkT 63 d l, h⟩ = gcK n (mkT 63 .junk [(0, lk d l 0), (1, lk d l 1), (2, lk d l 2), (6, lk d l 6)]) h := (trimA_keep tr_201_7 n _ h).trans (by rw [keep_mkT]; kernel_rfl)
abbrev S_201_7 (x0 x1 x2 x6 : AV) (h : List Blk) : St := ⟨mkT 63 .junk [(0, x0), (1, x1), (2, x2), (6, x6)], h⟩
theorem tr_201_9 : XX.trim 201 9 = some ([0, 1, 2, 6, 7, 8], []) := nr (by kernel_rfl)
theorem trim_201_9 (d : AV) (l : List (Nat × AV)) (h : List Blk) (n : Nat) : trimA XX 201 9 n ⟨mkT 63 d l, h⟩ = gcK n (mkT 63 .junk [(0, lk d l 0), (1, lk d l 1), (2, lk d l 2), (6, lk d l 6), (7, lk d l 7), (8, lk d l 8)]) h := (trimA_keep tr_201_9 n _ h).trans (by rw [keep_mkT]; kernel_rfl)
abbrev S_201_9 (x0 x1 x2 x6 x7 x8 : AV) (h : List Blk) : St := ⟨mkT 63 .junk [(0, x0), (1, x1), (2, x2), (6, x6), (7, x7), (8, x8)], h⟩
theorem mode_202 : XX.mode 202 = .pure := nr (by kernel_rfl)
theorem fns_202 : XX.fns.contains 202 = true := nr (by kernel_rfl)
theorem res_202 : Go.Proofs.Tryz.f202.results.toList = [.tmp 4] := nr rfl
theorem live_202 : XX.live 202 = [] := nr (by kernel_rfl)
theorem mode_225 : XX.mode 225 = .pure := nr (by kernel_rfl)
theorem fns_225 : XX.fns.contains 225 = true := nr (by kernel_rfl)
theorem res_225 : Go.Proofs.Tryz.f225.results.toList = [.tmp 2, .tmp 3] := nr rfl
theorem live_225 : XX.live 225 = [] := nr (by kernel_rfl)
theorem tr_225_21 : XX.trim 225 21 = some ([4, 6, 7, 38, 39, 40], []) := nr (by kernel_rfl)
theorem trim_225_21 (d : AV) (l : List (Nat × AV)) (h : List Blk) (n : Nat) : trimA XX 225 21 n ⟨mkT 92 d l, h⟩ = gcK n (mkT 92 .junk [(4, lk d l 4), (6, lk d l 6), (7, lk d l 7), (38, lk d l 38), (39, lk d l 39), (40, lk d l 40)]) h := (trimA_keep tr_225_21 n _ h).trans (by rw [keep_mkT]; kernel_rfl)
abbrev S_225_21 (x4 x6 x7 x38 x39 x40 : AV) (h : List Blk) : St := ⟨mkT 92 .junk [(4, x4), (6, x6), (7, x7), (38, x38), (39, x39), (40, x40)], h⟩
theorem fns_226 : XX.fns.contains 226 = true := nr (by kernel_rfl)
theorem res_226 : Go.Proofs.Tryz.f226.results.toList = [.tmp 4] := nr rfl
theorem live_226 : XX.live 226 = [203] := nr (by kernel_rfl)
theorem mode_227 : XX.mode 227 = .pure := nr (by kernel_rfl)
theorem fns_227 : XX.fns.contains 227 = true := nr (by kernel_rfl)
theorem res_227 : Go.Proofs.Tryz.f227.results.toList = [.tmp 4] := nr rfl
theorem live_227 : XX.live 227 = [] := nr (by kernel_rfl)
theorem tr_227_2 : XX.trim 227 2 = some ([0, 1, 7, 8], []) := nr (by kernel_rfl)
theorem trim_227_2 (d : AV) (l : List (Nat × AV)) (h : List Blk) (n : Nat) : trimA XX 227 2 n ⟨mkT 19 d l, h⟩ = gcK n (mkT 19 .junk [(0, lk d l 0), (1, lk d l 1), (7, lk d l 7), (8, lk d l 8)]) h := (trimA_keep tr_227_2 n _ h).trans (by rw [keep_mkT]; kernel_rfl)
abbrev S_227_2 (x0 x1 x7 x8 : AV) (h : List Blk) : St := ⟨mkT 19 .junk [(0, x0), (1, x1), (7, x7), (8, x8)], h⟩
theorem fns_241 : XX.fns.contains 241 = true := nr (by kernel_rfl)
theorem res_241 : Go.Proofs.Tryz.f241.results.toList = [] := nr rfl
theorem live_241 : XX.live 241 = [] := nr (by kernel_rfl)
theorem cls_241_4 : XX.cls 241 4 = [0, 0, 0, 0, 0, 0, 0, 0, 0, 0, 0, 0, 0, 0, 0, 0, 0] := nr (by kernel_rfl)
theorem cls_241_6 : XX.cls 241 6 = [3, 3, 3, 3, 3, 3, 3, 3, 0, 0, 3, 3, 0, 0, 0, 4, 0, 4] := nr (by kernel_rfl)
theorem tr_241_1 : XX.trim 241 1 = some ([0, 1, 2, 3, 8], []) := nr (by kernel_rfl)
theorem trim_241_1 (d : AV) (l : List (Nat × AV)) (h : List Blk) (n : Nat) : trimA XX 241 1 n ⟨mkT 53 d l, h⟩ = gcK n (mkT 53 .junk [(0, lk d l 0), (1, lk d l 1), (2, lk d l 2), (3, lk d l 3), (8, lk d l 8)]) h := (trimA_keep tr_241_1 n _ h).trans (by rw [keep_mkT]; kernel_rfl)
abbrev S_241_1 (x0 x1 x2 x3 x8 : AV) (h : List Blk) : St := ⟨mkT 53 .junk [(0, x0), (1, x1), (2, x2), (3, x3), (8, x8)], h⟩
theorem tr_241_4 : XX.trim 241 4 = some ([0, 1, 2, 3, 8, 9], []) := nr (by kernel_rfl)
theorem trim_241_4 (d : AV) (l : List (Nat × AV)) (h : List Blk) (n : Nat) : trimA XX 241 4 n ⟨mkT 53 d l, h⟩ = gcK n (mkT 53 .junk [(0, lk d l 0), (1, lk d l 1), (2, lk d l 2), (3, lk d l 3), (8, lk d l 8), (9, lk d l 9)]) h := (trimA_keep tr_241_4 n _ h).trans (by rw [keep_mkT]; kernel_rfl)
abbrev S_241_4 (x0 x1 x2 x3 x8 x9 : AV) (h : List Blk) : St := ⟨mkT 53 .junk [(0, x0), (1, x1), (2, x2), (3, x3), (8, x8), (9, x9)], h⟩
theorem fns_242 : XX.fns.contains 242 = true := nr (by kernel_rfl)
theorem res_242 : Go.Proofs.Tryz.f242.results.toList = [] := nr rfl
theorem live_242 : XX.live 242 = [242, 266] := nr (by kernel_rfl)
theorem cls_242_5 : XX.cls 242 5 = [0, 0, 0, 0, 0, 0, 0, 0, 0, 0, 0] := nr (by kernel_rfl)
theorem cls_242_11 : XX.cls 242 11 = [3, 3, 3, 3, 3, 3, 3, 3, 0, 0, 3, 3, 0, 0, 0, 4, 0, 4] := nr (by kernel_rfl)
theorem cls_242_17 : XX.cls 242 17 = [0, 0, 0, 0, 0, 0, 0, 0, 0, 0, 0, 0] := nr (by kernel_rfl)
theorem cls_242_23 : XX.cls 242 23 = [3, 3, 3, 3, 3, 3, 3, 3, 0, 0, 3, 3, 0, 0, 0, 4, 0, 4] := nr (by kernel_rfl)
theorem cls_242_35 : XX.cls 242 35 = [0, 0, 0, 0, 0, 0, 0, 0, 0, 0, 0, 0, 0, 0] := nr (by kernel_rfl)
theorem tr_242_3 : XX.trim 242 3 = some ([0, 1, 4, 10, 11], []) := nr (by kernel_rfl)
theorem trim_242_3 (d : AV) (l : List (Nat × AV)) (h : List Blk) (n : Nat) : trimA XX 242 3 n ⟨mkT 220 d l, h⟩ = gcK n (mkT 220 .junk [(0, lk d l 0), (1, lk d l 1), (4, lk d l 4), (10, lk d l 10), (11, lk d l 11)]) h := (trimA_keep tr_242_3 n _ h).trans (by rw [keep_mkT]; kernel_rfl)
abbrev S_242_3 (x0 x1 x4 x10 x11 : AV) (h : List Blk) : St := ⟨mkT 220 .junk [(0, x0), (1, x1), (4, x4), (10, x10), (11, x11)], h⟩
theorem tr_242_9 : XX.trim 242 9 = some ([0, 10, 13], []) := nr (by kernel_rfl)
theorem trim_242_9 (d : AV) (l : List (Nat × AV)) (h : List Blk) (n : Nat) : trimA XX 242 9 n ⟨mkT 220 d l, h⟩ = gcK n (mkT 220 .junk [(0, lk d l 0), (10, lk d l 10), (13, lk d l 13)]) h := (trimA_keep tr_242_9 n _ h).trans (by rw [keep_mkT]; kernel_rfl)
abbrev S_242_9 (x0 x10 x13 : AV) (h : List Blk) : St := ⟨mkT 220 .junk [(0, x0), (10, x10), (13, x13)], h⟩
theorem tr_242_15 : XX.trim 242 15 = some ([0, 2, 4, 14, 15], []) := nr (by kernel_rfl)
theorem trim_242_15 (d : AV) (l : List (Nat × AV)) (h : List Blk) (n : Nat) : trimA XX 242 15 n ⟨mkT 220 d l, h⟩ = gcK n (mkT 220 .junk [(0, lk d l 0), (2, lk d l 2), (4, lk d l 4), (14, lk d l 14), (15, lk d l 15)]) h := (trimA_keep tr_242_15 n _ h).trans (by rw [keep_mkT]; kernel_rfl)
abbrev S_242_15 (x0 x2 x4 x14 x15 : AV) (h : List Blk) : St := ⟨mkT 220 .junk [(0, x0), (2, x2), (4, x4), (14, x14), (15, x15)], h⟩
theorem tr_242_21 : XX.trim 242 21 = some ([0, 14, 17], []) := nr (by kernel_rfl)
theorem trim_242_21 (d : AV) (l : List (Nat × AV)) (h : List Blk) (n : Nat) : trimA XX 242 21 n ⟨mkT 220 d l, h⟩ = gcK n (mkT 220 .junk [(0, lk d l 0), (14, lk d l 14), (17, lk d l 17)]) h := (trimA_keep tr_242_21 n _ h).trans (by rw [keep_mkT]; kernel_rfl)
abbrev S_242_21 (x0 x14 x17 : AV) (h : List Blk) : St := ⟨mkT 220 .junk [(0, x0), (14, x14), (17, x17)], h⟩
theorem tr_242_33 : XX.trim 242 33 = some ([0, 1, 2, 3, 4, 18, 19, 20, 21, 22], []) := nr (by kernel_rfl)
theorem trim_242_33 (d : AV) (l : List (Nat × AV)) (h : List Blk) (n : Nat) : trimA XX 242 33 n ⟨mkT 220 d l, h⟩ = gcK n (mkT 220 .junk [(0, lk d l 0), (1, lk d l 1), (2, lk d l 2), (3, lk d l 3), (4, lk d l 4), (18, lk d l 18), (19, lk d l 19), (20, lk d l 20), (21, lk d l 21), (22, lk d l 22)]) h := (trimA_keep tr_242_33 n _ h).trans (by rw [keep_mkT]; kernel_rfl)
abbrev S_242_33 (x0 x1 x2 x3 x4 x18 x19 x20 x21 x22 : AV) (h : List Blk) : St := ⟨mkT 220 .junk [(0, x0), (1, x1), (2, x2), (3, x3), (4, x4), (18, x18), (19, x19), (20, x20), (21, x21), (22, x22)], h⟩
theorem mode_243 : XX.mode 243 = .pure := nr (by kernel_rfl)
theorem fns_243 : XX.fns.contains 243 = true := nr (by kernel_rfl)
theorem res_243 : Go.Proofs.Tryz.f243.results.toList = [.tmp 2] := nr rfl
theorem fns_266 : XX.fns.contains 266 = true := nr (by kernel_rfl)
theorem res_266 : Go.Proofs.Tryz.f266.results.toList = [] := nr rfl
theorem live_266 : XX.live 266 = [282] := nr (by kernel_rfl)
theorem tr_266_2 : XX.trim 266 2 = some ([0, 2, 4, 10, 11], []) := nr (by kernel_rfl)
theorem trim_266_2 (d : AV) (l : List (Nat × AV)) (h : List Blk) (n : Nat) : trimA XX 266 2 n ⟨mkT 58 d l, h⟩ = gcK n (mkT 58 .junk [(0, lk d l 0), (2, lk d l 2), (4, lk d l 4), (10, lk d l 10), (11, lk d l 11)]) h := (trimA_keep tr_266_2 n _ h).trans (by rw [keep_mkT]; kernel_rfl)
abbrev S_266_2 (x0 x2 x4 x10 x11 : AV) (h : List Blk) : St := ⟨mkT 58 .junk [(0, x0), (2, x2), (4, x4), (10, x10), (11, x11)], h⟩
theorem fns_282 : XX.fns.contains 282 = true := nr (by kernel_rfl)
theorem res_282 : Go.Proofs.Tryz.f282.results.toList = [] := nr rfl
theorem cls_282_3 : XX.cls 282 3 = [3, 3, 3, 3, 3, 3, 3, 3, 3, 3, 3, 3, 0, 0, 3, 3, 3, 3, 0, 0, 0, 4, 0, 4] := nr (by kernel_rfl)
theorem tr_282_1 : XX.trim 282 1 = some ([0, 1, 2, 3, 10], []) := nr (by kernel_rfl)
theorem trim_282_1 (d : AV) (l : List (Nat × AV)) (h : List Blk) (n : Nat) : trimA XX 282 1 n ⟨mkT 38 d l, h⟩ = gcK n (mkT 38 .junk [(0, lk d l 0), (1, lk d l 1), (2, lk d l 2), (3, lk d l 3), (10, lk d l 10)]) h := (trimA_keep tr_282_1 n _ h).trans (by rw [keep_mkT]; kernel_rfl)
abbrev S_282_1 (x0 x1 x2 x3 x10 : AV) (h : List Blk) : St := ⟨mkT 38 .junk [(0, x0), (1, x1), (2, x2), (3, x3), (10, x10)], h⟩
theorem ty_3 : tyOf Go.Proofs.Tryz.prog 3 = Option.some { d := Go.Abs.TD.int Go.IntKind.i64, size := 1, bytes := 8, zero := Option.some (Go.Value.int Go.IntKind.i64 0) } := nr (by kernel_rfl)
theorem ty_4 : tyOf Go.Proofs.Tryz.prog 4 = Option.some { d := Go.Abs.TD.bool, size := 1, bytes := 1, zero := Option.some (Go.Value.bool Bool.false) } := nr (by kernel_rfl)
theorem ty_5 : tyOf Go.Proofs.Tryz.prog 5 = Option.some { d := Go.Abs.TD.int Go.IntKind.u8, size := 1, bytes := 1, zero := Option.some (Go.Value.int Go.IntKind.u8 0) } := nr (by kernel_rfl)
theorem zero_5 : zeroA Go.Proofs.Tryz.prog 5 = some [.v (Go.Value.int Go.IntKind.u8 0)] := nr (by kernel_rfl)
theorem ty_9 : tyOf Go.Proofs.Tryz.prog 9 = Option.some { d := Go.Abs.TD.str, size := 1, bytes := 16, zero := Option.some (Go.Value.string { data := #[] }) } := nr (by kernel_rfl)
theorem zero_9 : zeroA Go.Proofs.Tryz.prog 9 = some [.v (Go.Value.string { data := #[] })] := nr (by kernel_rfl)
theorem ty_22 : tyOf Go.Proofs.Tryz.prog 22 = Option.some { d := Go.Abs.TD.slice 36, size := 1, bytes := 24, zero := Option.some (Go.Value.slice Option.none 0 0) } := nr (by kernel_rfl)
theorem ty_33 : tyOf Go.Proofs.Tryz.prog 33 = Option.some { d := Go.Abs.TD.slice 9, size := 1, bytes := 24, zero := Option.some (Go.Value.slice Option.none 0 0) } := nr (by kernel_rfl)
theorem zero_33 : zeroA Go.Proofs.Tryz.prog 33 = some [.fs [] true] := nr (by kernel_rfl)
theorem ty_34 : tyOf Go.Proofs.Tryz.prog 34 = Option.some { d := Go.Abs.TD.slice 40, size := 1, bytes := 24, zero := Option.some (Go.Value.slice Option.none 0 0) } := nr (by kernel_rfl)
theorem ty_36 : tyOf Go.Proofs.Tryz.prog 36 = Option.some { d := Go.Abs.TD.struct [(0, 9), (1, 9), (2, 34), (3, 9), (4, 22)], size := 5, bytes := 96, zero := Option.some (Go.Value.agg #[Go.Value.string { data := #[] }, Go.Value.string { data := #[] }, Go.Value.slice Option.none 0 0, Go.Value.string { data := #[] }, Go.Value.slice Option.none 0 0]) } := nr (by kernel_rfl)
theorem zero_36 : zeroA Go.Proofs.Tryz.prog 36 = some [.v (Go.Value.string { data := #[] }), .v (Go.Value.string { data := #[] }), .fs [] true, .v (Go.Value.string { data := #[] }), .fs [] true] := nr (by kernel_rfl)
theorem ty_40 : tyOf Go.Proofs.Tryz.prog 40 = Option.some { d := Go.Abs.TD.struct [(0, 9), (1, 9)], size := 2, bytes := 32, zero := Option.some (Go.Value.agg #[Go.Value.string { data := #[] }, Go.Value.string { data := #[] }]) } := nr (by kernel_rfl)
theorem zero_40 : zeroA Go.Proofs.Tryz.prog 40 = some [.v (Go.Value.string { data := #[] }), .v (Go.Value.string { data := #[] })] := nr (by kernel_rfl)
theorem ty_42 : tyOf Go.Proofs.Tryz.prog 42 = Option.some { d := Go.Abs.TD.slice 75, size := 1, bytes := 24, zero := Option.some (Go.Value.slice Option.none 0 0) } := nr (by kernel_rfl)
theorem ty_45 : tyOf Go.Proofs.Tryz.prog 45 = Option.some { d := Go.Abs.TD.slice 77, size := 1, bytes := 24, zero := Option.some (Go.Value.slice Option.none 0 0) } := nr (by kernel_rfl)
theorem ty_75 : tyOf Go.Proofs.Tryz.prog 75 = Option.some { d := Go.Abs.TD.struct [(0, 9), (1, 9), (2, 42)], size := 3, bytes := 56, zero := Option.some (Go.Value.agg #[Go.Value.string { data := #[] }, Go.Value.string { data := #[] }, Go.Value.slice Option.none 0 0]) } := nr (by kernel_rfl)
theorem zero_75 : zeroA Go.Proofs.Tryz.prog 75 = some [.v (Go.Value.string { data := #[] }), .v (Go.Value.string { data := #[] }), .fs [] true] := nr (by kernel_rfl)
theorem ty_77 : tyOf Go.Proofs.Tryz.prog 77 = Option.some { d := Go.Abs.TD.struct [(0, 9), (1, 3), (2, 3), (3, 33), (4, 4), (5, 33), (6, 45)], size := 7, bytes := 112, zero := Option.some (Go.Value.agg #[Go.Value.string { data := #[] }, Go.Value.int Go.IntKind.i64 0, Go.Value.int Go.IntKind.i64 0, Go.Value.slice Option.none 0 0, Go.Value.bool Bool.false, Go.Value.slice Option.none 0 0, Go.Value.slice Option.none 0 0]) } := nr (by kernel_rfl)
theorem zero_77 : zeroA Go.Proofs.Tryz.prog 77 = some [.v (Go.Value.string { data := #[] }), .v (Go.Value.int Go.IntKind.i64 0), .v (Go.Value.int Go.IntKind.i64 0), .fs [] true, .v (Go.Value.bool Bool.false), .fs [] true, .fs [] true] := nr (by kernel_rfl)
theorem ty_108 : tyOf Go.Proofs.Tryz.prog 108 = Option.some { d := Go.Abs.TD.struct [(0, 9), (1, 3)], size := 2, bytes := 24, zero := Option.some (Go.Value.agg #[Go.Value.string { data := #[] }, Go.Value.int Go.IntKind.i64 0]) } := nr (by kernel_rfl)
theorem zero_108 : zeroA Go.Proofs.Tryz.prog 108 = some [.v (Go.Value.string { data := #[] }), .v (Go.Value.int Go.IntKind.i64 0)] := nr (by kernel_rfl)
theorem ty_132 : tyOf Go.Proofs.Tryz.prog 132 = Option.some { d := Go.Abs.TD.slice 5, size := 1, bytes := 24, zero := Option.some (Go.Value.slice Option.none 0 0) } := nr (by kernel_rfl)
theorem ty_134 : tyOf Go.Proofs.Tryz.prog 134 = Option.some { d := Go.Abs.TD.struct [(0, 131), (1, 132)], size := 2, bytes := 32, zero := Option.some (Go.Value.agg #[Go.Value.pointer Option.none, Go.Value.slice Option.none 0 0]) } := nr (by kernel_rfl)
theorem zero_134 : zeroA Go.Proofs.Tryz.prog 134 = some [.v (Go.Value.pointer Option.none), .fs [] true] := nr (by kernel_rfl)
theorem ty_153 : tyOf Go.Proofs.Tryz.prog 153 = Option.some { d := Go.Abs.TD.ptr 165, size := 1, bytes := 8, zero := Option.some (Go.Value.pointer Option.none) } := nr (by kernel_rfl)
theorem ty_157 : tyOf Go.Proofs.Tryz.prog 157 = Option.some { d := Go.Abs.TD.slice 163, size := 1, bytes := 24, zero := Option.some (Go.Value.slice Option.none 0 0) } := nr (by kernel_rfl)
theorem ty_161 : tyOf Go.Proofs.Tryz.prog 161 = Option.some { d := Go.Abs.TD.struct [(0, 9), (1, 9)], size := 2, bytes := 32, zero := Option.some (Go.Value.agg #[Go.Value.string { data := #[] }, Go.Value.string { data := #[] }]) } := nr (by kernel_rfl)
theorem zero_161 : zeroA Go.Proofs.Tryz.prog 161 = some [.v (Go.Value.string { data := #[] }), .v (Go.Value.string { data := #[] })] := nr (by kernel_rfl)
theorem ty_163 : tyOf Go.Proofs.Tryz.prog 163 = Option.some { d := Go.Abs.TD.struct [(0, 161), (2, 9)], size := 3, bytes := 48, zero := Option.some (Go.Value.agg #[Go.Value.string { data := #[] }, Go.Value.string { data := #[] }, Go.Value.string { data := #[] }]) } := nr (by kernel_rfl)
theorem zero_163 : zeroA Go.Proofs.Tryz.prog 163 = some [.v (Go.Value.string { data := #[] }), .v (Go.Value.string { data := #[] }), .v (Go.Value.string { data := #[] })] := nr (by kernel_rfl)
theorem ty_165 : tyOf Go.Proofs.Tryz.prog 165 = Option.some { d := Go.Abs.TD.struct [(0, 153), (1, 9), (2, 9)], size := 3, bytes := 40, zero := Option.some (Go.Value.agg #[Go.Value.pointer Option.none, Go.Value.string { data := #[] }, Go.Value.string { data := #[] }]) } := nr (by kernel_rfl)
theorem zero_165 : zeroA Go.Proofs.Tryz.prog 165 = some [.v (Go.Value.pointer Option.none), .v (Go.Value.string { data := #[] }), .v (Go.Value.string { data := #[] })] := nr (by kernel_rfl)
theorem ty_226 : tyOf Go.Proofs.Tryz.prog 226 = Option.some { d := Go.Abs.TD.int Go.IntKind.u64, size := 1, bytes := 8, zero := Option.some (Go.Value.int Go.IntKind.u64 0) } := nr (by kernel_rfl)
attribute [go_sem] XX_P tyO_XX res_10 live_10 res_11 live_11 res_12 live_12 res_13 live_13 own_13 cls_13_20 cls_13_25 cls_13_26 trim_13_10 trim_13_18 mode_20 res_20 live_20 own_20 trim_20_2 mode_27 res_27 live_27 own_27 cls_27_15 mode_30 mode_40 res_40 live_40 cls_40_6 trim_40_4 mode_45 res_45 trim_45_4 mode_46 res_46 trim_46_2 mode_47 res_47 live_47 mode_48 res_48 live_48 own_48 trim_48_2 mode_49 res_49 live_49 mode_50 res_50 live_50 mode_51 res_51 live_51 own_51 adopt_51 cls_51_8 trim_51_3 mode_52 res_52 live_52 own_52 adopt_52 trim_52_3 mode_53 res_53 live_53 own_53 cls_53_14 trim_53_2 trim_53_8 mode_54 res_54 live_54 cls_54_9 cls_54_19 trim_54_2 trim_54_7 trim_54_13 mode_55 res_55 live_55 mode_56 res_56 live_56 own_56 adopt_56 trim_56_3 mode_57 res_57 adopt_57 cls_57_9 trim_57_3 trim_57_7 mode_58 res_58 live_58 own_58 mode_59 res_59 live_59 own_59 adopt_59 mode_74 res_74 trim_74_2 res_75 live_75 cls_75_1 res_76 live_76 cls_76_1 cls_76_4 res_78 live_78 trim_78_1 res_79 live_79 own_79 cls_79_9 trim_79_16 trim_79_32 mode_87 res_87 live_87 trim_87_4 res_91 live_91 mode_92 res_92 trim_92_2 mode_94 res_94 live_94 cls_94_5 cls_94_6 trim_94_3 mode_96 res_96 trim_96_2 mode_97 res_97 live_97 adopt_97 cls_97_6 cls_97_9 trim_97_3 trim_97_6 mode_101 res_101 live_101 own_101 cls_101_19 trim_101_4 trim_101_17 trim_101_26 mode_102 res_102 live_102 own_102 cls_102_20 cls_102_21 trim_102_4 trim_102_18 trim_102_29 mode_103 res_103 live_103 trim_103_4 trim_103_16 mode_104 res_104 live_104 mode_105 res_105 mode_106 res_106 live_106 trim_106_2 mode_107 res_107 mode_108 res_108 live_108 trim_108_2 mode_109 res_109 mode_110 res_110 live_110 mode_111 res_111 cls_111_6 trim_111_4 mode_117 res_117 live_117 res_126 live_126 cls_126_2 trim_126_2 mode_129 res_129 own_129 res_130 live_130 cls_130_2 cls_130_4 trim_130_2 res_131 live_131 own_131 adopt_131 cls_131_3 cls_131_5 trim_131_2 mode_132 res_132 trim_132_1 mode_133 res_133 live_133 mode_134 res_134 res_138 live_138 own_138 cls_138_3 cls_138_6 cls_138_18 trim_138_3 mode_142 res_142 trim_142_2 mode_143 res_143 live_143 res_147 live_147 mode_148 res_148 live_148 cls_148_1 cls_148_4 cls_148_5 mode_149 res_149 live_149 trim_149_2 mode_150 res_150 cls_150_4 cls_150_6 trim_150_2 mode_151 res_151 live_151 cls_151_1 cls_151_4 cls_151_5 res_152 live_152 mode_155 res_155 live_155 mode_156 res_156 mode_178 res_178 mode_186 res_186 live_186 own_186 trim_186_2 mode_187 res_187 live_187 mode_188 res_188 mode_189 res_189 live_189 trim_189_2 mode_197 res_197 live_197 res_201 live_201 trim_201_2 trim_201_7 trim_201_9 mode_202 res_202 live_202 mode_225 res_225 live_225 trim_225_21 res_226 live_226 mode_227 res_227 live_227 trim_227_2 res_241 live_241 cls_241_4 cls_241_6 trim_241_1 trim_241_4 res_242 live_242 cls_242_5 cls_242_11 cls_242_17 cls_242_23 cls_242_35 trim_242_3 trim_242_9 trim_242_15 trim_242_21 trim_242_33 mode_243 res_243 res_266 live_266 trim_266_2 res_282 cls_282_3 trim_282_1 ty_3 ty_4 ty_5 zero_5 ty_9 zero_9 ty_22 ty_33 zero_33 ty_34 ty_36 zero_36 ty_40 zero_40 ty_42 ty_45 ty_75 zero_75 ty_77 zero_77 ty_108 zero_108 ty_132 ty_134 zero_134 ty_153 ty_157 ty_161 zero_161 ty_163 zero_163 ty_165 zero_165 ty_226 Go.Proofs.Tryz.ntmps3 Go.Proofs.Tryz.ntmps4 Go.Proofs.Tryz.ntmps5 Go.Proofs.Tryz.ntmps6 Go.Proofs.Tryz.ntmps7 Go.Proofs.Tryz.ntmps8 Go.Proofs.Tryz.ntmps9 Go.Proofs.Tryz.ntmps10 Go.Proofs.Tryz.ntmps11 Go.Proofs.Tryz.ntmps12 Go.Proofs.Tryz.ntmps13 Go.Proofs.Tryz.ntmps14 Go.Proofs.Tryz.ntmps15 Go.Proofs.Tryz.ntmps16 Go.Proofs.Tryz.ntmps17 Go.Proofs.Tryz.ntmps18 Go.Proofs.Tryz.ntmps19 Go.Proofs.Tryz.ntmps20 Go.Proofs.Tryz.ntmps21 Go.Proofs.Tryz.ntmps22 Go.Proofs.Tryz.ntmps23 Go.Proofs.Tryz.ntmps24 Go.Proofs.Tryz.ntmps25 Go.Proofs.Tryz.ntmps26 Go.Proofs.Tryz.ntmps27 Go.Proofs.Tryz.ntmps28 Go.Proofs.Tryz.ntmps29 Go.Proofs.Tryz.ntmps30 Go.Proofs.Tryz.ntmps31 Go.Proofs.Tryz.ntmps32 Go.Proofs.Tryz.ntmps33 Go.Proofs.Tryz.ntmps34 Go.Proofs.Tryz.ntmps35 Go.Proofs.Tryz.ntmps36 Go.Proofs.Tryz.ntmps37 Go.Proofs.Tryz.ntmps38 Go.Proofs.Tryz.ntmps39 Go.Proofs.Tryz.ntmps40 Go.Proofs.Tryz.ntmps41 Go.Proofs.Tryz.ntmps42 Go.Proofs.Tryz.ntmps43 Go.Proofs.Tryz.ntmps44 Go.Proofs.Tryz.ntmps45 Go.Proofs.Tryz.ntmps46 Go.Proofs.Tryz.ntmps47 Go.Proofs.Tryz.ntmps48 Go.Proofs.Tryz.ntmps49 Go.Proofs.Tryz.ntmps50 Go.Proofs.Tryz.ntmps51 Go.Proofs.Tryz.ntmps52 Go.Proofs.Tryz.ntmps53 Go.Proofs.Tryz.ntmps54 Go.Proofs.Tryz.ntmps55 Go.Proofs.Tryz.ntmps56 Go.Proofs.Tryz.ntmps57 Go.Proofs.Tryz.ntmps58 Go.Proofs.Tryz.ntmps59 Go.Proofs.Tryz.ntmps60 Go.Proofs.Tryz.ntmps61 Go.Proofs.Tryz.ntmps62 Go.Proofs.Tryz.ntmps63 Go.Proofs.Tryz.ntmps64 Go.Proofs.Tryz.ntmps65 Go.Proofs.Tryz.ntmps66 Go.Proofs.Tryz.ntmps67 Go.Proofs.Tryz.ntmps68 Go.Proofs.Tryz.ntmps69 Go.Proofs.Tryz.ntmps70 Go.Proofs.Tryz.ntmps71 Go.Proofs.Tryz.ntmps72 Go.Proofs.Tryz.ntmps73 Go.Proofs.Tryz.ntmps74 Go.Proofs.Tryz.ntmps75 Go.Proofs.Tryz.ntmps76 Go.Proofs.Tryz.ntmps78 Go.Proofs.Tryz.ntmps79 Go.Proofs.Tryz.ntmps80 Go.Proofs.Tryz.ntmps81 Go.Proofs.Tryz.ntmps82 Go.Proofs.Tryz.ntmps83 Go.Proofs.Tryz.ntmps84 Go.Proofs.Tryz.ntmps85 Go.Proofs.Tryz.ntmps86 Go.Proofs.Tryz.ntmps87 Go.Proofs.Tryz.ntmps88 Go.Proofs.Tryz.ntmps89 Go.Proofs.Tryz.ntmps90 Go.Proofs.Tryz.ntmps91 Go.Proofs.Tryz.ntmps92 Go.Proofs.Tryz.ntmps93 Go.Proofs.Tryz.ntmps94 Go.Proofs.Tryz.ntmps95 Go.Proofs.Tryz.ntmps96 Go.Proofs.Tryz.ntmps97 Go.Proofs.Tryz.ntmps98 Go.Proofs.Tryz.ntmps100 Go.Proofs.Tryz.ntmps101 Go.Proofs.Tryz.ntmps102 Go.Proofs.Tryz.ntmps103 Go.Proofs.Tryz.ntmps104 Go.Proofs.Tryz.ntmps105 Go.Proofs.Tryz.ntmps106 Go.Proofs.Tryz.ntmps107 Go.Proofs.Tryz.ntmps108 Go.Proofs.Tryz.ntmps109 Go.Proofs.Tryz.ntmps110 Go.Proofs.Tryz.ntmps111 Go.Proofs.Tryz.ntmps112 Go.Proofs.Tryz.ntmps113 Go.Proofs.Tryz.ntmps114 Go.Proofs.Tryz.ntmps115 Go.Proofs.Tryz.ntmps117 Go.Proofs.Tryz.ntmps118 Go.Proofs.Tryz.ntmps120 Go.Proofs.Tryz.ntmps122 Go.Proofs.Tryz.ntmps126 Go.Proofs.Tryz.ntmps129 Go.Proofs.Tryz.ntmps130 Go.Proofs.Tryz.ntmps131 Go.Proofs.Tryz.ntmps132 Go.Proofs.Tryz.ntmps133 Go.Proofs.Tryz.ntmps134 Go.Proofs.Tryz.ntmps136 Go.Proofs.Tryz.ntmps137 Go.Proofs.Tryz.ntmps138 Go.Proofs.Tryz.ntmps139 Go.Proofs.Tryz.ntmps140 Go.Proofs.Tryz.ntmps141 Go.Proofs.Tryz.ntmps142 Go.Proofs.Tryz.ntmps143 Go.Proofs.Tryz.ntmps144 Go.Proofs.Tryz.ntmps145 Go.Proofs.Tryz.ntmps146 Go.Proofs.Tryz.ntmps147 Go.Proofs.Tryz.ntmps148 Go.Proofs.Tryz.ntmps149 Go.Proofs.Tryz.ntmps150 Go.Proofs.Tryz.ntmps151 Go.Proofs.Tryz.ntmps152 Go.Proofs.Tryz.ntmps153 Go.Proofs.Tryz.ntmps154 Go.Proofs.Tryz.ntmps155 Go.Proofs.Tryz.ntmps156 Go.Proofs.Tryz.ntmps157 Go.Proofs.Tryz.ntmps158 Go.Proofs.Tryz.ntmps159 Go.Proofs.Tryz.ntmps160 Go.Proofs.Tryz.ntmps161 Go.Proofs.Tryz.ntmps162 Go.Proofs.Tryz.ntmps165 Go.Proofs.Tryz.ntmps166 Go.Proofs.Tryz.ntmps167 Go.Proofs.Tryz.ntmps168 Go.Proofs.Tryz.ntmps169 Go.Proofs.Tryz.ntmps178 Go.Proofs.Tryz.ntmps182 Go.Proofs.Tryz.ntmps184 Go.Proofs.Tryz.ntmps186 Go.Proofs.Tryz.ntmps187 Go.Proofs.Tryz.ntmps188 Go.Proofs.Tryz.ntmps189 Go.Proofs.Tryz.ntmps193 Go.Proofs.Tryz.ntmps194 Go.Proofs.Tryz.ntmps195 Go.Proofs.Tryz.ntmps196 Go.Proofs.Tryz.ntmps197 Go.Proofs.Tryz.ntmps198 Go.Proofs.Tryz.ntmps199 Go.Proofs.Tryz.ntmps200 Go.Proofs.Tryz.ntmps201 Go.Proofs.Tryz.ntmps202 Go.Proofs.Tryz.ntmps206 Go.Proofs.Tryz.ntmps207 Go.Proofs.Tryz.ntmps208 Go.Proofs.Tryz.ntmps209 Go.Proofs.Tryz.ntmps210 Go.Proofs.Tryz.ntmps211 Go.Proofs.Tryz.ntmps212 Go.Proofs.Tryz.ntmps224 Go.Proofs.Tryz.ntmps225 Go.Proofs.Tryz.ntmps226 Go.Proofs.Tryz.ntmps227 Go.Proofs.Tryz.ntmps239 Go.Proofs.Tryz.ntmps240 Go.Proofs.Tryz.ntmps241 Go.Proofs.Tryz.ntmps242 Go.Proofs.Tryz.ntmps243 Go.Proofs.Tryz.ntmps247 Go.Proofs.Tryz.ntmps266 Go.Proofs.Tryz.ntmps270 Go.Proofs.Tryz.ntmps280 Go.Proofs.Tryz.ntmps282 Go.Proofs.Tryz.ntmps290 Go.Proofs.Tryz.ntmps291
end Go.Abs.SA
end
section
namespace Go.Abs.SA
open Go.Proofs
theorem XX_ext : XX.ext = extY := rfl
theorem XX_extL : XX.extL = extLY := rfl
theorem mode_trim : XX.mode 121 = .data := rfl
theorem mode_indexByte : XX.mode 183 = .data := rfl
theorem mode_index : XX.mode 124 = .data := rfl
theorem mode_cut : XX.mode 185 = .data := rfl
theorem mode_contains : XX.mode 127 = .data := rfl
theorem mode_containsAny : XX.mode 77 = .data := rfl
theorem mode_hasPrefix : XX.mode 123 = .data := rfl
theorem mode_hasSuffix : XX.mode 128 = .data := rfl
theorem mode_cutPrefix : XX.mode 260 = .data := rfl
theorem trimX (s t : ByteArray) (h : s.size ≤ 9223372036854775807 ∧ (t = digS ∨ t = blaS)) : pureW XX 121 [.v (.string s), .v (.string t)] = some (.v (.string (mkS (Lib.trimS (lS8 s) (lS8 t))))) := by
  refine loud_pureW (ext_loudW (r := .v (.string (mkS (Lib.trimS (lS8 s) (lS8 t))))) ?_) rfl
  rw [XX_ext]
  exact if_pos h
theorem indexByteX (s : ByteArray) (c : Int) (h : 0 ≤ c ∧ c < 256) : pureW XX 183 [.v (.string s), .v (.int .u8 c)] = some (.v (.int .i64 (Lib.indexByte (lS8 s) (UInt8.ofNat c.toNat)))) := by
  refine loud_pureW (ext_loudW (r := .v (.int .i64 (Lib.indexByte (lS8 s) (UInt8.ofNat c.toNat)))) ?_) rfl
  rw [XX_ext]
  exact if_pos h
theorem indexX (s t : ByteArray) (h : big s) : pureW XX 124 [.v (.string s), .v (.string t)] = some (.v (.int .i64 (Lib.index (lS8 s) (lS8 t)))) := by
  refine loud_pureW (ext_loudW (r := .v (.int .i64 (Lib.index (lS8 s) (lS8 t)))) ?_) rfl
  rw [XX_ext]
  exact if_pos h
theorem cutX (s t : ByteArray) (h : big s) : pureW XX 185 [.v (.string s), .v (.string t)] = some (.tup [.v (.string (mkS (Lib.cut (lS8 s) (lS8 t)).1)), .v (.string (mkS (Lib.cut (lS8 s) (lS8 t)).2.1)), .v (.bool (Lib.cut (lS8 s) (lS8 t)).2.2)]) := by
  refine loud_pureW (ext_loudW (r := .tup [.v (.string (mkS (Lib.cut (lS8 s) (lS8 t)).1)), .v (.string (mkS (Lib.cut (lS8 s) (lS8 t)).2.1)), .v (.bool (Lib.cut (lS8 s) (lS8 t)).2.2)]) ?_) rfl
  rw [XX_ext]
  exact if_pos h
theorem containsX (s t : ByteArray) (h : big s) : pureW XX 127 [.v (.string s), .v (.string t)] = some (.v (.bool (Lib.contains (lS8 s) (lS8 t)))) := by
  refine loud_pureW (ext_loudW (r := .v (.bool (Lib.contains (lS8 s) (lS8 t)))) ?_) rfl
  rw [XX_ext]
  exact if_pos h
theorem containsAnyX (s t : ByteArray) (h : big s ∧ big t ∧ (∀ b ∈ lS8 s, b.toNat < 128) ∧ (∀ b ∈ lS8 t, b.toNat < 128)) : pureW XX 77 [.v (.string s), .v (.string t)] = some (.v (.bool (Lib.containsAny (lS8 s) (lS8 t)))) := by
  refine loud_pureW (ext_loudW (r := .v (.bool (Lib.containsAny (lS8 s) (lS8 t)))) ?_) rfl
  rw [XX_ext]
  exact if_pos h
theorem hasPrefixX (s t : ByteArray) : pureW XX 123 [.v (.string s), .v (.string t)] = some (.v (.bool (Lib.hasPrefix (lS8 s) (lS8 t)))) := loud_pureW (ext_loudW (r := .v (.bool (Lib.hasPrefix (lS8 s) (lS8 t)))) rfl) rfl
theorem hasSuffixX (s t : ByteArray) (h : big s) : pureW XX 128 [.v (.string s), .v (.string t)] = some (.v (.bool (Lib.hasSuffix (lS8 s) (lS8 t)))) := by
  refine loud_pureW (ext_loudW (r := .v (.bool (Lib.hasSuffix (lS8 s) (lS8 t)))) ?_) rfl
  rw [XX_ext]
  exact if_pos h
theorem cutPrefixX (s t : ByteArray) : pureW XX 260 [.v (.string s), .v (.string t)] = some (.tup [.v (.string (mkS (Lib.trimPrefix (lS8 s) (lS8 t)))), .v (.bool (Lib.hasPrefix (lS8 s) (lS8 t)))]) := loud_pureW (ext_loudW (r := .tup [.v (.string (mkS (Lib.trimPrefix (lS8 s) (lS8 t)))), .v (.bool (Lib.hasPrefix (lS8 s) (lS8 t)))]) rfl) rfl
end Go.Abs.SA
end
