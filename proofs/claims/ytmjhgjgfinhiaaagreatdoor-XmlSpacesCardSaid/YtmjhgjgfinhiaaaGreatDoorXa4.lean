/- YtmjhgjgfinhiaaaGreatDoorXa4: a part of the interpreter by which the claim is shown, and of the walks: no conditions of its own: every theorem states its own. -/
import Derived.Test.YtmjhgjgfinhiaaaGreatDoorXa3
import Derived.Lib.SlTrimSet
import Derived.Lib.TrimByte
import Derived.Lib.IndexMore
import Derived.Lib.IndexAny
import Derived.Lib.Strings
import Derived.Test.YtmjhgjgfinhiaaaGreatDoorProg
set_option linter.unusedVariables false
set_option linter.unusedSimpArgs false
set_option linter.unusedSectionVars false
set_option maxRecDepth 100000
section
namespace Go.Abs.SR
def bS (l : List UInt8) : AV := .v (.string ⟨l.toArray⟩)
abbrev Tb' := List (UInt8 × List UInt8)
def pairsS : List (UInt8 × List UInt8) := [(38, [38, 97, 109, 112, 59]), (60, [38, 108, 116, 59]), (62, [38, 103, 116, 59]), (34, [38, 113, 117, 111, 116, 59]), (13, [38, 35, 49, 51, 59]), (10, [38, 35, 49, 48, 59]), (9, [38, 35, 57, 59])]
def pairsE : List (UInt8 × List UInt8) := pairsS ++ [(32, [38, 35, 51, 50, 59])]
def flat : List (UInt8 × List UInt8) → List (List UInt8)
  | [] => []
  | (c, n) :: r => [c] :: n :: flat r
def look (l : List (UInt8 × List UInt8)) (b : Nat) : Option (List UInt8) := match l with
  | [] => none
  | (c, n) :: r => if c.toNat = b then some n else look r b
abbrev Tb := List (UInt8 × List UInt8)
def repl (l : Tb) (s : List UInt8) : List UInt8 := s.flatMap fun c => (look l c.toNat).getD [c]
def strsOf : List (List AV) → Option (List (List UInt8))
  | [] => some []
  | [.v (.string s)] :: r => (strsOf r).map (s.data.toList :: ·)
  | _ => none
def extL_Replace (ys : List AV) (h : List Blk) : Option (AV × List Blk) := match ys, h with
  | [.ptr 0 0, .v (.string s)], [.var [.v (.int .u32 0), .v (.int .i32 0), .v (.int .u32 0), .v .nilIface, .sl 1 0 n false] none, .arr e 1 es] =>
    if s.size ≤ 1073741824 ∧ e = 9 then (match strsOf es with
      | some l => if l = flat pairsS ∧ n = 14 then some (.v (.string ⟨(repl pairsS s.data.toList).toArray⟩), [.dead, .dead])
        else if l = flat pairsE ∧ n = 16 then some (.v (.string ⟨(repl pairsE s.data.toList).toArray⟩), [.dead, .dead]) else none
      | none => none) else none
  | _, _ => none
end Go.Abs.SR
end
section
namespace Go.Abs.SA
abbrev digS : ByteArray := ⟨#[48, 49, 50, 51, 52, 53, 54, 55, 56, 57]⟩
abbrev blaS : ByteArray := ⟨#[32, 9, 13, 10]⟩
abbrev spS : ByteArray := ⟨#[32]⟩
abbrev mkS (l : List UInt8) : ByteArray := ⟨l.toArray⟩
abbrev lS8 (s : ByteArray) : List UInt8 := s.data.toList
abbrev big (s : ByteArray) : Prop := s.size < 4294967281
def ext_Trim (ys : List AV) : Option AV := match ys with
    | [.v (.string s), .v (.string t)] => if s.size ≤ 9223372036854775807 ∧ (t = digS ∨ t = blaS) then some (.v (.string (mkS (Lib.trimS (lS8 s) (lS8 t))))) else if s.size ≤ 9223372036854775807 ∧ t = spS then some (.v (.string (mkS (Lib.trimB (lS8 s) 32)))) else none
    | _ => none
def ext_IndexByte (ys : List AV) : Option AV := match ys with
    | [.v (.string s), .v (.int .u8 c)] => if 0 ≤ c ∧ c < 256 then some (.v (.int .i64 (Lib.indexByte (lS8 s) (UInt8.ofNat c.toNat)))) else none
    | _ => none
def ext_Index (ys : List AV) : Option AV := match ys with
    | [.v (.string s), .v (.string t)] => if big s then some (.v (.int .i64 (Lib.index (lS8 s) (lS8 t)))) else none
    | _ => none
def ext_Cut (ys : List AV) : Option AV := match ys with
    | [.v (.string s), .v (.string t)] => if big s then some (.tup [.v (.string (mkS (Lib.cut (lS8 s) (lS8 t)).1)), .v (.string (mkS (Lib.cut (lS8 s) (lS8 t)).2.1)), .v (.bool (Lib.cut (lS8 s) (lS8 t)).2.2)]) else none
    | _ => none
def ext_Contains (ys : List AV) : Option AV := match ys with
    | [.v (.string s), .v (.string t)] => if big s then some (.v (.bool (Lib.contains (lS8 s) (lS8 t)))) else none
    | _ => none
def ext_ContainsAny (ys : List AV) : Option AV := match ys with
    | [.v (.string s), .v (.string t)] => if big s ∧ big t ∧ (∀ b ∈ lS8 s, b.toNat < 128) ∧ (∀ b ∈ lS8 t, b.toNat < 128) then some (.v (.bool (Lib.containsAny (lS8 s) (lS8 t)))) else none
    | _ => none
def ext_HasPrefix (ys : List AV) : Option AV := match ys with
    | [.v (.string s), .v (.string t)] => some (.v (.bool (Lib.hasPrefix (lS8 s) (lS8 t))))
    | _ => none
def ext_HasSuffix (ys : List AV) : Option AV := match ys with
    | [.v (.string s), .v (.string t)] => if big s then some (.v (.bool (Lib.hasSuffix (lS8 s) (lS8 t)))) else none
    | _ => none
def ext_CutPrefix (ys : List AV) : Option AV := match ys with
    | [.v (.string s), .v (.string t)] => some (.tup [.v (.string (mkS (Lib.trimPrefix (lS8 s) (lS8 t)))), .v (.bool (Lib.hasPrefix (lS8 s) (lS8 t)))])
    | _ => none
def extY (f : FuncId) (ys : List AV) : Option AV := if f = 121 then ext_Trim ys else if f = 183 then ext_IndexByte ys else if f = 124 then ext_Index ys else if f = 185 then ext_Cut ys else if f = 127 then ext_Contains ys else if f = 77 then ext_ContainsAny ys else if f = 123 then ext_HasPrefix ys else if f = 128 then ext_HasSuffix ys else if f = 260 then ext_CutPrefix ys else none
def extL_Clone (ys : List AV) (h : List Blk) : Option (AV × List Blk) := match ys, h with
    | [.fs es full], [] => if es.length * 64 ≤ 140737488355328 ∧ ∀ c ∈ es, c.length = 4 then some (.sl 0 0 es.length false, [.arr 121 4 es]) else none
    | _, _ => none
def extL_copyCheck (ys : List AV) (h : List Blk) : Option (AV × List Blk) := match ys, h with
    | [.ptr 0 0], .var [.v (.pointer none), b] (some 134) :: r => some (.tup [], .var [.ptr 0 0, b] (some 134) :: r)
    | [.ptr 0 0], .var [.ptr 0 0, b] (some 134) :: r => some (.tup [], .var [.ptr 0 0, b] (some 134) :: r)
    | _, _ => none
def bldEnd (a : AV) (n : Nat) (es : List (List AV)) : Option (AV × List Blk) := if n = es.length then (match intsOf es with
    | some ns => if (ns.all fun n => decide (0 ≤ n) && decide (n < 256)) = true then some (.v (.string ⟨(ns.map fun n => UInt8.ofNat n.toNat).toArray⟩), [.var [a, .junk] (some 134), .dead]) else none
    | none => none) else none
def extL_String (ys : List AV) (h : List Blk) : Option (AV × List Blk) := match ys, h with
    | [.ptr 0 0], [.var [.v (.pointer none), .sl 1 0 n false] (some 134), .arr 5 1 es] => bldEnd (.v (.pointer none)) n es
    | [.ptr 0 0], [.var [.ptr 0 0, .sl 1 0 n false] (some 134), .arr 5 1 es] => bldEnd (.ptr 0 0) n es
    | _, _ => none
def attrIns (x : List AV × List UInt8) : List (List AV × List UInt8) → List (List AV × List UInt8)
  | [] => [x]
  | y :: r => if Lib.compareBytes y.2 x.2 < 0 then y :: attrIns x r else x :: y :: r
def attrKeys : List (List AV) → Option (List (List AV × List UInt8))
  | [] => some []
  | [.v (.string a), .v (.string b)] :: r => (attrKeys r).map (([.v (.string a), .v (.string b)], lS8 a) :: ·)
  | _ => none
def distB : List (List UInt8) → Bool
  | [] => true
  | x :: r => !r.contains x && distB r
def attrSort (es : List (List AV)) : Option (List (List AV)) := (attrKeys es).bind fun l => if distB (l.map (·.2)) then some ((l.foldr attrIns []).map (·.1)) else none
def extL_SortAttrs (ys : List AV) (h : List Blk) : Option (AV × List Blk) := match ys, h with
    | [.sl 0 0 n false, .fn 136 []], [.arr 40 2 es] => if n = es.length ∧ n ≤ 1000000 then (attrSort es).map fun es' => (.tup [], [.arr 40 2 es']) else none
    | _, _ => none
def extLY (f : FuncId) (ys : List AV) (h : List Blk) : Option (AV × List Blk) := if f = 199 then extL_Clone ys h else if f = 203 then extL_copyCheck ys h else if f = 99 then extL_String ys h else if f = 135 then extL_SortAttrs ys h else if f = 205 then SR.extL_Replace ys h else none
end Go.Abs.SA
end
section
namespace Go.Abs.SA
noncomputable def XX : X where
  P := Go.Proofs.Tryz.prog
  mode := fun f => look1 .data f [(3, .pure), (4, .pure), (5, .pure), (6, .pure), (7, .pure), (8, .pure), (9, .pure), (10, .pure), (11, .pure), (12, .pure), (13, .pure), (14, .pure), (15, .pure), (16, .pure), (17, .pure), (18, .pure), (19, .pure), (20, .pure), (21, .pure), (22, .pure), (23, .pure), (24, .pure), (25, .pure), (26, .pure), (28, .pure), (31, .pure), (33, .pure), (34, .pure), (35, .pure), (40, .pure), (41, .pure), (42, .pure), (43, .pure), (44, .pure), (45, .pure), (46, .pure), (47, .pure), (48, .pure), (49, .pure), (50, .pure), (53, .pure), (54, .pure), (55, .pure), (58, .pure), (60, .pure), (65, .pure), (66, .pure), (67, .pure), (68, .pure), (69, .pure), (70, .pure), (71, .pure), (72, .pure), (74, .pure), (75, .pure), (76, .pure), (78, .pure), (84, .pure), (85, .pure), (86, .pure), (87, .pure), (88, .pure), (89, .fresh), (91, .pure), (92, .pure), (94, .pure), (96, .pure), (98, .pure), (100, .pure), (101, .pure), (102, .pure), (103, .pure), (104, .pure), (105, .pure), (106, .pure), (107, .pure), (108, .pure), (109, .pure), (110, .pure), (111, .pure), (115, .pure), (117, .pure), (118, .pure), (120, .pure), (122, .pure), (126, .pure), (130, .pure), (132, .pure), (133, .pure), (134, .pure), (136, .pure), (137, .pure), (138, .pure), (139, .fresh), (140, .fresh), (142, .pure), (143, .pure), (147, .pure), (148, .pure), (149, .pure), (150, .pure), (151, .pure), (153, .pure), (154, .pure), (155, .pure), (156, .pure), (157, .pure), (158, .pure), (159, .pure), (160, .pure), (161, .pure), (167, .pure), (168, .pure), (169, .pure), (178, .pure), (182, .pure), (184, .pure), (186, .pure), (187, .pure), (188, .pure), (189, .pure), (194, .pure), (195, .pure), (196, .pure), (197, .pure), (199, .fresh), (200, .pure), (201, .pure), (202, .pure), (204, .fresh), (206, .pure), (207, .pure), (208, .pure), (209, .pure), (211, .pure), (212, .pure), (224, .pure), (225, .pure), (227, .pure), (239, .pure), (240, .pure), (241, .pure), (242, .pure), (243, .pure), (247, .pure), (266, .pure), (270, .pure), (280, .pure), (282, .pure), (290, .pure)]
  trim := fun f r => look2 none f r [(3, 7, some ([0, 1, 2, 7, 25, 26, 27], [])),
    (4, 6, some ([0, 1, 25, 26], [])),
    (4, 12, some ([0, 1, 47, 48, 49], [])),
    (8, 8, some ([0, 1, 5, 21, 22], [])),
    (8, 12, some ([0, 1, 5, 30, 31], [])),
    (8, 19, some ([1, 6, 7, 54, 55], [])),
    (9, 4, some ([0, 1, 2, 20, 21, 22], [])),
    (9, 9, some ([0, 1, 2, 8, 20, 21, 22, 34, 35], [])),
    (13, 10, some ([1, 5, 6, 37, 38, 39], [])),
    (13, 18, some ([1, 5, 6, 11, 13, 37, 38, 39, 82, 83], [])),
    (16, 8, some ([0, 3, 4, 31, 32], [])),
    (18, 8, some ([28, 29, 30], [])),
    (20, 2, some ([1, 7, 8, 9], [])),
    (25, 3, some ([0, 5, 13, 14, 15], [])),
    (25, 8, some ([0, 5, 10, 13, 14, 15, 29, 30, 31], [])),
    (26, 3, some ([0, 1, 5, 6], [])),
    (33, 2, some ([0, 2, 11, 12, 13], [])),
    (37, 3, some ([0, 2, 8, 20, 21, 22], [])),
    (37, 10, some ([0, 2, 8, 10, 12, 13, 20, 21, 22, 41, 42, 43], [])),
    (38, 3, some ([0, 8, 15, 16, 17], [])),
    (39, 3, some ([0, 2, 8, 9], [])),
    (39, 26, some ([0, 2, 8, 9, 10, 12, 13, 14, 15, 16, 17], [])),
    (40, 4, some ([0, 1, 5], [])),
    (42, 3, some ([1, 27, 28, 29], [])),
    (45, 4, some ([0, 3], [])),
    (46, 2, some ([0, 7], [])),
    (48, 2, some ([1, 7, 8, 9], [])),
    (51, 3, some ([0, 6, 7, 17, 18, 19], [])),
    (52, 3, some ([0, 1, 6, 7, 8], [])),
    (53, 2, some ([0, 1, 11, 12, 13], [])),
    (53, 8, some ([0, 31, 32, 33], [])),
    (54, 2, some ([0, 1, 5], [])),
    (54, 7, some ([0, 1, 5, 6, 7], [])),
    (54, 13, some ([0, 1, 8], [])),
    (56, 3, some ([3, 6, 11, 12, 13], [])),
    (57, 3, some ([2, 3, 6, 7], [])),
    (57, 7, some ([2, 3, 6, 7, 8, 9], [])),
    (63, 8, some ([2, 4, 6, 45, 46, 47], [])),
    (63, 23, some ([2, 6, 9, 10, 11, 13, 14, 105, 106, 107], [])),
    (63, 29, some ([2, 6, 9, 10, 11, 13, 14, 129, 130, 131], [])),
    (67, 3, some ([0, 3, 7, 8, 9], [])),
    (68, 5, some ([0, 3, 4, 5], [])),
    (68, 11, some ([0, 3, 6, 7], [])),
    (69, 8, some ([6, 52, 53, 54], [])),
    (70, 9, some ([6, 7, 8, 9], [])),
    (74, 2, some ([6, 7, 8], [])),
    (78, 1, some ([0], [])),
    (79, 16, some ([0, 1, 2, 6, 8, 9, 11, 12, 14, 15, 73, 74, 75], [1])),
    (79, 32, some ([0, 1, 2, 6, 8, 9, 14, 146, 147, 148], [1])),
    (81, 3, some ([1, 5, 8, 9, 10], [])),
    (82, 3, some ([0, 2, 7, 16, 17, 18], [])),
    (82, 7, some ([0, 2, 7, 8, 9, 10, 16, 17, 18, 27, 28, 29], [])),
    (83, 3, some ([0, 5, 9, 10, 11], [])),
    (84, 4, some ([1, 2, 15, 16, 17], [])),
    (87, 4, some ([1, 2, 12, 13, 14], [])),
    (88, 2, some ([3, 11, 12, 13], [])),
    (88, 6, some ([3, 6, 7, 11, 12, 13, 18, 19, 20], [])),
    (89, 3, some ([3, 6, 7, 8], [])),
    (92, 2, some ([0, 1, 5], [])),
    (93, 5, some ([2, 3, 4, 5, 6], [])),
    (93, 8, some ([2, 3, 4, 5, 6, 7], [])),
    (94, 3, some ([1, 3, 5, 7, 9], [])),
    (96, 2, some ([0, 1, 5], [])),
    (97, 3, some ([0, 1, 5, 6], [5])),
    (97, 6, some ([0, 1, 5, 6, 7], [])),
    (98, 5, some ([0, 4, 27, 28, 29], [])),
    (98, 13, some ([0, 4, 63, 64, 65], [])),
    (100, 5, some ([2, 5, 6], [])),
    (100, 12, some ([2, 5, 7], [])),
    (101, 4, some ([0, 1, 18, 19, 20], [])),
    (101, 17, some ([0, 1, 6, 18, 19, 20, 79, 80, 81], [])),
    (101, 26, some ([0, 1, 18, 19, 20, 149, 150, 151], [])),
    (102, 4, some ([0, 1, 5], [])),
    (102, 18, some ([0, 1, 5, 6, 7], [])),
    (102, 29, some ([0, 1, 5, 6, 9], [])),
    (103, 4, some ([1, 2, 5], [])),
    (103, 16, some ([6, 7], [])),
    (106, 2, some ([0, 1, 7, 8], [])),
    (108, 2, some ([0, 1, 7, 8], [])),
    (111, 4, some ([0, 1, 12, 13], [])),
    (112, 3, some ([0, 1, 5, 6], [])),
    (113, 4, some ([0, 2, 4], [])),
    (113, 12, some ([2, 5, 6, 7], [])),
    (118, 15, some ([0, 3, 72, 73, 74], [])),
    (120, 2, some ([0, 3], [])),
    (122, 1, some ([0], [])),
    (122, 3, some ([0], [])),
    (126, 2, some ([0, 3], [])),
    (130, 2, some ([0, 5], [])),
    (131, 2, some ([0, 4], [])),
    (132, 1, some ([0, 1], [])),
    (138, 3, some ([0, 1, 2, 3, 9, 10], [])),
    (140, 9, some ([0, 1, 5, 37, 38], [])),
    (141, 12, some ([3, 4, 7, 8, 9, 52, 53, 54], [])),
    (141, 28, some ([3, 8, 119, 120, 121], [])),
    (142, 2, some ([0, 1, 7, 8], [])),
    (144, 5, some ([3, 4, 5, 20, 21, 22], [])),
    (144, 8, some ([3, 4, 5, 7, 20, 21, 22, 27, 28, 29], [])),
    (149, 2, some ([0, 1, 9, 10, 11], [])),
    (150, 2, some ([0, 1, 5], [])),
    (154, 3, some ([0, 3, 4], [])),
    (154, 8, some ([0, 3, 5, 6], [])),
    (159, 2, some ([0, 1, 5], [])),
    (161, 1, some ([0], [])),
    (162, 14, some ([0, 2, 6, 7, 9, 10, 11, 12, 13, 14], [])),
    (162, 30, some ([0, 2, 6, 7, 11, 12, 13, 17], [])),
    (162, 38, some ([0, 2, 6, 7, 11, 12, 13, 17, 20, 21], [])),
    (166, 4, some ([1, 10, 11, 12], [])),
    (186, 2, some ([0, 4], [])),
    (189, 2, some ([0, 1, 7, 8], [])),
    (198, 5, some ([0, 1, 5, 6], [])),
    (201, 2, some ([0, 1, 2, 6, 7, 8], [])),
    (201, 7, some ([0, 1, 2, 6], [])),
    (201, 9, some ([0, 1, 2, 6, 7, 8], [])),
    (207, 2, some ([0, 3], [])),
    (208, 2, some ([0, 2, 3], [])),
    (209, 3, some ([0, 4, 5], [])),
    (210, 2, some ([0, 3], [])),
    (210, 22, some ([0, 3, 5, 7, 8], [])),
    (210, 28, some ([0, 3, 5, 9], [])),
    (211, 2, some ([0, 1, 6], [])),
    (212, 1, some ([0, 1, 2, 3, 8, 9], [])),
    (212, 3, some ([0, 1, 2, 3, 8, 9, 10], [])),
    (225, 21, some ([4, 6, 7, 38, 39, 40], [])),
    (227, 2, some ([0, 1, 7, 8], [])),
    (239, 2, some ([0, 1, 7, 8], [])),
    (240, 2, some ([0, 1, 7, 8], [])),
    (241, 1, some ([0, 1, 2, 3, 8], [])),
    (241, 4, some ([0, 1, 2, 3, 8, 9], [])),
    (242, 3, some ([0, 1, 4, 10, 11], [])),
    (242, 9, some ([0, 10, 13], [])),
    (242, 15, some ([0, 2, 4, 14, 15], [])),
    (242, 21, some ([0, 14, 17], [])),
    (242, 33, some ([0, 1, 2, 3, 4, 18, 19, 20, 21, 22], [])),
    (247, 3, some ([0, 1, 5, 6], [])),
    (247, 8, some ([0, 1, 5, 6, 7], [])),
    (266, 2, some ([0, 2, 4, 10, 11], [])),
    (270, 3, some ([0, 3, 4], [])),
    (270, 17, some ([5, 6, 7, 8], [])),
    (282, 1, some ([0, 1, 2, 3, 10], []))]
  adopt := fun f => look1 [] f [(3, [7]), (25, [5, 10]), (26, [5]), (37, [8]), (39, [16]), (51, [6, 7]), (52, [6, 7]), (56, [6]), (57, [6]), (67, [3]), (68, [6]), (69, [6]), (81, [5]), (83, [5]), (89, [3]), (112, [5]), (131, [4]), (141, [7]), (210, [3])]
  cls := fun f r => look2 [] f r [(7, 3, [0, 0, 0, 0, 0, 0, 0, 0, 0, 0, 0]),
    (13, 20, [0, 0, 0, 0, 0, 0, 0, 0, 0]),
    (13, 25, [0, 0, 0, 1, 0, 0, 0, 0, 2, 0]),
    (13, 26, [0, 0, 0, 0, 0, 0, 0, 0, 0, 0, 0, 0, 0, 0, 0, 0, 0, 0, 0, 0, 0, 0, 0]),
    (15, 9, [3, 0, 0, 0, 0, 3, 3, 0, 0, 3, 0, 3, 3, 3, 1, 4, 3]),
    (27, 15, [0, 2, 0, 0, 0, 0, 0, 0, 0, 0, 0, 0, 0, 0, 0]),
    (30, 7, [0, 0, 0, 0, 0, 0, 0, 0, 0, 0, 0, 1, 2]),
    (30, 9, [0, 0, 0, 0, 0, 0, 0, 0, 0, 0, 0, 0]),
    (33, 7, [0, 0, 0, 0, 0, 0, 0, 0]),
    (33, 8, [0, 0, 0, 0, 0, 0, 0, 0, 0, 0, 0, 0, 0, 0, 0, 0, 0, 0, 0, 0, 0, 0, 0, 0, 0, 0, 0, 0]),
    (37, 8, [8, 8, 7, 7, 8, 7, 8, 8, 5, 5, 6, 6]),
    (38, 9, [0, 0, 0, 0, 0, 0, 2, 0, 0, 0, 0, 0]),
    (39, 28, [0, 0, 0, 0, 0, 0, 0, 0, 0, 0]),
    (40, 6, [0, 0, 0, 0, 0, 0, 0, 0, 0, 0, 0, 0, 0, 0, 0, 0, 0, 0, 0, 0, 0, 0, 0, 0, 0, 0, 0, 0, 0, 0, 0, 0, 0, 0, 0, 0, 0, 0]),
    (51, 8, [8, 8, 7, 7, 8, 7, 8, 5, 5, 6, 6]),
    (53, 14, [0, 0, 0, 0, 0, 0, 0, 0, 0]),
    (54, 9, [0, 0, 0, 0, 0, 0, 0, 0, 0, 0, 0, 0, 0, 0, 0]),
    (54, 19, [0, 0, 0, 0, 0, 0, 0, 0, 0, 0, 0, 0]),
    (57, 9, [0, 0, 0, 0, 0, 0, 0, 0, 0, 0, 0, 0]),
    (63, 31, [0, 0, 0, 0, 0, 0, 0, 0, 0, 0, 0, 0, 0, 0, 0, 0, 0]),
    (67, 10, [0, 0, 0, 0, 0, 0, 2, 0, 2]),
    (75, 1, [0, 0, 0, 0, 0, 0, 0, 0, 0, 0, 0]),
    (76, 1, [0, 0, 0, 0, 0, 0, 0, 0, 0, 0, 0, 0]),
    (76, 4, [0, 0, 0, 0, 0, 0, 0, 0, 0, 0, 0, 0, 0, 0, 0, 0]),
    (79, 9, [0, 0, 0, 0, 0, 0, 0, 0, 0, 0, 0]),
    (81, 5, [0, 0, 0, 0, 0, 0, 0, 0, 0, 0, 0, 0, 2, 0]),
    (82, 10, [0, 0, 0, 0, 0, 0, 0, 0, 0, 0, 0, 0, 0, 0, 0, 0, 0, 0, 0, 1, 0, 2]),
    (90, 25, [0, 0, 0, 0, 0, 0, 0, 0, 0, 0, 0, 0, 0]),
    (93, 10, [0, 0, 0, 0, 0, 0, 0, 0, 0, 0, 0, 0]),
    (93, 11, [0, 0, 0, 0, 0, 0, 0, 0, 0, 0, 0, 0, 0, 0, 0, 2, 0, 2]),
    (94, 5, [0, 0, 0, 0, 0, 0, 0, 0, 0, 0, 0]),
    (94, 6, [0, 0, 0, 0, 0, 0, 0, 0, 0, 0, 0, 0, 0, 0]),
    (95, 1, [0, 0, 0, 1, 0, 0, 0, 0, 2, 0]),
    (97, 6, [0, 0, 0, 0, 0, 0, 0, 0, 0, 0, 0, 0, 0, 1, 2, 0]),
    (97, 9, [0, 0, 0, 0, 0, 0, 0, 0, 0, 1, 0, 2, 0]),
    (98, 7, [0, 0, 0, 0, 0, 0, 0, 0, 0, 0, 2]),
    (100, 7, [0, 0, 0, 0, 0, 0, 0, 0, 0, 0, 0, 0, 0, 0, 0, 0, 0, 0, 0, 0]),
    (100, 14, [0, 0, 0, 0, 0, 0, 0, 0, 0, 0, 0]),
    (101, 19, [0, 0, 0, 0, 0, 0, 0, 0, 0, 0, 0, 0, 0, 0, 0, 0, 0, 0, 0, 0, 0, 0, 0, 0, 0]),
    (102, 20, [0, 0, 0, 0, 0, 0, 0, 0, 0]),
    (102, 21, [0, 0, 0, 0, 0, 0, 0, 0, 0, 0, 0, 0, 0, 0, 0, 0, 0, 0, 0, 0, 0, 0, 0]),
    (111, 6, [0, 0, 0, 0, 0, 0, 0, 0, 0]),
    (112, 5, [0, 0, 0, 0, 0, 0, 0, 0, 0, 0, 0, 0, 0, 0, 0, 0, 0, 0, 0, 0, 0, 2, 0]),
    (113, 20, [0, 0, 0, 0, 0, 0, 0, 0, 0, 0, 0, 0, 0, 0, 0, 0, 0]),
    (113, 23, [8, 8, 8, 8, 7, 6, 8]),
    (126, 2, [0, 0, 0, 0, 0, 0, 0, 0, 0, 0, 0, 0, 0, 0, 0, 0, 0, 0, 0, 0, 0, 0, 0]),
    (130, 2, [0, 0, 0, 0, 0, 0, 0, 0, 0, 0, 0, 0, 0, 0, 0, 0, 0, 0, 0, 0, 0, 0, 0]),
    (130, 4, [0, 0, 0, 0, 0, 0, 0, 0, 0, 0, 0, 0, 0, 0, 0, 0, 0, 0]),
    (131, 3, [0, 0, 0, 0, 0, 0, 0, 0, 0, 0]),
    (131, 5, [0, 0, 0, 0, 0, 0, 0, 0, 0, 0]),
    (138, 3, [0, 0, 0, 0, 0, 0, 0, 0, 0, 0, 0]),
    (138, 6, [0, 0, 0, 0, 0, 0, 0, 0, 0, 0, 0, 0, 0, 0, 0, 0]),
    (138, 18, [0, 0, 0, 0, 0, 0, 0, 2, 11, 10, 3, 3, 9]),
    (140, 11, [0, 0, 0, 0, 0, 0, 0, 0, 0, 0, 0, 0, 0, 0, 0, 0, 0, 0, 0, 1, 0, 2]),
    (141, 20, [0, 0, 0, 0, 0, 0, 0, 2, 0]),
    (141, 31, [0, 0, 0, 0, 0, 0, 0, 2]),
    (145, 5, [0, 0, 0, 0, 0, 0, 2, 0]),
    (148, 1, [0, 0, 0, 0, 0, 0, 0, 0, 0, 0]),
    (148, 4, [0, 0, 0, 0, 0, 0, 0, 0, 0, 0, 0]),
    (148, 5, [0, 0, 0, 0, 0, 0, 0, 0, 0, 0, 0]),
    (150, 4, [0, 0, 0, 0, 0, 0, 0, 0, 0]),
    (150, 6, [0, 0, 0, 0, 0, 0, 0, 0, 0]),
    (151, 1, [0, 0, 0, 0, 0, 0, 0, 0, 0, 0]),
    (151, 4, [0, 0, 0, 0, 0, 0, 0, 0, 0, 0, 0]),
    (151, 5, [0, 0, 0, 0, 0, 0, 0, 0, 0, 0, 0]),
    (158, 1, [0, 0, 0, 0, 0, 0, 0, 0, 0, 0, 0, 0, 0, 0, 0, 0, 0, 0, 0, 0, 0, 0, 0, 0, 0, 0, 0, 0, 0, 0, 0, 0, 0, 0, 0, 0, 0, 0, 0, 0]),
    (159, 4, [0, 0, 0, 0, 0, 0, 0, 0, 0, 0, 0, 0, 0, 0]),
    (159, 5, [0, 0, 0, 0, 0, 0, 0, 0, 0, 0]),
    (162, 10, [0, 0, 0, 0, 0, 0, 0, 0, 0, 0, 0]),
    (162, 23, [0, 0, 0, 0, 0, 0, 0, 0, 0, 0, 0, 0, 0, 2, 0]),
    (162, 40, [0, 0, 0, 0, 0, 0, 0, 0, 0, 0, 0, 0]),
    (162, 42, [0, 0, 0, 0, 0, 0, 0, 0, 0, 0, 0, 0]),
    (162, 45, [0, 0, 0, 0, 0, 0, 0, 0, 0, 0, 0, 0, 0, 0, 0, 0, 0, 1, 0, 2, 0, 2]),
    (168, 2, [0, 0, 0, 0, 0, 0, 0, 0, 0, 0, 0, 0, 0, 0, 0, 0, 0, 0, 0, 0, 0, 0, 0]),
    (207, 2, [0, 0, 0, 0, 0, 0, 0, 0, 0, 0, 0, 0, 0, 0, 0, 0, 0, 0, 0, 0, 0, 0]),
    (209, 3, [0, 0, 0, 0, 0, 0, 0, 0, 0, 0]),
    (209, 4, [0, 0, 0, 0, 0, 0, 0, 0, 0, 0]),
    (209, 10, [0, 0, 0, 0, 0, 0, 0, 0, 0, 0, 0]),
    (209, 14, [0, 0, 0, 0, 0, 0, 0, 0, 0, 0, 0, 0, 0, 0, 0, 0, 0, 0, 0, 0]),
    (210, 4, [0, 0, 0, 0, 0, 0, 0, 0, 0, 0]),
    (210, 6, [0, 0, 0, 0, 0, 0, 0, 0, 0, 0, 0, 0, 0, 0, 0, 0, 0, 0, 0, 0, 0, 0]),
    (210, 30, [0, 0, 0, 0, 0, 0, 0, 0, 0, 0, 0, 0, 0, 0, 0, 0, 0, 0]),
    (212, 3, [0, 0, 0, 0, 0, 0, 0, 0, 0, 0, 0, 0, 0, 0, 0, 0, 0, 0, 0, 0, 0, 0]),
    (212, 4, [0, 0, 0, 0, 0, 0, 0, 0, 0, 0, 0, 0, 0, 0, 0]),
    (212, 6, [0, 0, 0, 0, 0, 0, 0, 0, 0, 0]),
    (212, 8, [0, 0, 0, 0, 0, 0, 0, 0, 0, 0, 0, 0, 0, 0, 0]),
    (212, 23, [0, 0, 0, 0, 0, 0, 0, 2, 11, 10, 3, 3, 9]),
    (224, 3, [0, 0, 0, 0, 0, 0, 0, 0, 0, 0, 0, 0]),
    (241, 4, [0, 0, 0, 0, 0, 0, 0, 0, 0, 0, 0, 0, 0, 0, 0, 0, 0]),
    (241, 6, [3, 3, 3, 3, 3, 3, 3, 3, 0, 0, 3, 3, 0, 0, 0, 4, 0, 4]),
    (242, 5, [0, 0, 0, 0, 0, 0, 0, 0, 0, 0, 0]),
    (242, 11, [3, 3, 3, 3, 3, 3, 3, 3, 0, 0, 3, 3, 0, 0, 0, 4, 0, 4]),
    (242, 17, [0, 0, 0, 0, 0, 0, 0, 0, 0, 0, 0, 0]),
    (242, 23, [3, 3, 3, 3, 3, 3, 3, 3, 0, 0, 3, 3, 0, 0, 0, 4, 0, 4]),
    (242, 35, [0, 0, 0, 0, 0, 0, 0, 0, 0, 0, 0, 0, 0, 0]),
    (270, 9, [0, 0, 0, 0]),
    (282, 3, [3, 3, 3, 3, 3, 3, 3, 3, 3, 3, 3, 3, 0, 0, 3, 3, 3, 3, 0, 0, 0, 4, 0, 4])]
  fns := [3, 4, 5, 6, 7, 8, 9, 10, 11, 12, 13, 14, 15, 16, 17, 18, 19, 20, 21, 22, 23, 24, 25, 26, 27, 28, 29, 30, 31, 32, 33, 34, 35, 36, 37, 38, 39, 40, 41, 42, 43, 44, 45, 46, 47, 48, 49, 50, 51, 52, 53, 54, 55, 56, 57, 58, 59, 60, 61, 62, 63, 64, 65, 66, 67, 68, 69, 70, 71, 72, 73, 74, 75, 76, 78, 79, 80, 81, 82, 83, 84, 85, 86, 87, 88, 89, 90, 91, 92, 93, 94, 95, 96, 97, 98, 100, 101, 102, 103, 104, 105, 106, 107, 108, 109, 110, 111, 112, 113, 114, 115, 117, 118, 120, 122, 126, 129, 130, 131, 132, 133, 134, 136, 137, 138, 139, 140, 141, 142, 143, 144, 145, 146, 147, 148, 149, 150, 151, 152, 153, 154, 155, 156, 157, 158, 159, 160, 161, 162, 165, 166, 167, 168, 169, 178, 182, 184, 186, 187, 188, 189, 193, 194, 195, 196, 197, 198, 199, 200, 201, 202, 204, 206, 207, 208, 209, 210, 211, 212, 224, 225, 226, 227, 239, 240, 241, 242, 243, 247, 266, 270, 280, 282, 290, 291]
  ext := extY
  extL := extLY
  tidy := fun f => [79, 131, 138, 226].contains f
  tyk := fun t => decide (t = 134)
  own := fun f => look1 [] f [(43, [(3, 1, 5)]), (79, [(8, 2, 40), (8, 4, 36)]), (138, [(9, 1, 5)]), (186, [(4, 1, 5)])]
  live := fun f => look1 [] f [(27, [75, 76, 78, 79]), (32, [82]), (38, [90, 91]), (43, [98, 99]), (51, [91]), (78, [126, 75, 76]), (79, [75, 130, 131, 126, 138, 135]), (90, [145]), (91, [147]), (98, [98, 152]), (131, [126, 130, 75, 76]), (138, [75, 76, 79, 152, 99]), (146, [198]), (147, [201]), (152, [203]), (153, [205]), (186, [152, 226, 99]), (201, [241, 242]), (206, [205]), (226, [203]), (242, [242, 266]), (266, [282])]
theorem nilT_XX (t : Nat) : XX.nilT t = false := nr rfl
theorem XX_P : XX.P = Go.Proofs.Tryz.prog := nr rfl
theorem tyO_XX (t : Nat) : tyO XX t = if t = 134 then some 134 else none := nr (by
  show (if decide (t = 134) = true then some t else none) = _
  by_cases h : t = 134
  · subst h; rfl
  · simp [h])
theorem fns_7 : XX.fns.contains 7 = true := nr (by kernel_rfl)
theorem res_7 : Go.Proofs.Tryz.f7.results.toList = [.tmp 2] := nr rfl
theorem live_7 : XX.live 7 = [] := nr (by kernel_rfl)
theorem cls_7_3 : XX.cls 7 3 = [0, 0, 0, 0, 0, 0, 0, 0, 0, 0, 0] := nr (by kernel_rfl)
theorem mode_27 : XX.mode 27 = .data := nr (by kernel_rfl)
theorem fns_27 : XX.fns.contains 27 = true := nr (by kernel_rfl)
theorem res_27 : Go.Proofs.Tryz.f27.results.toList = [.cell 2 36, .tmp 3] := nr rfl
theorem live_27 : XX.live 27 = [75, 76, 78, 79] := nr (by kernel_rfl)
theorem own_27 : XX.own 27 = [] := nr (by kernel_rfl)
theorem cls_27_15 : XX.cls 27 15 = [0, 2, 0, 0, 0, 0, 0, 0, 0, 0, 0, 0, 0, 0, 0] := nr (by kernel_rfl)
theorem mode_41 : XX.mode 41 = .pure := nr (by kernel_rfl)
theorem fns_41 : XX.fns.contains 41 = true := nr (by kernel_rfl)
theorem res_41 : Go.Proofs.Tryz.f41.results.toList = [.tmp 0] := nr rfl
theorem live_41 : XX.live 41 = [] := nr (by kernel_rfl)
theorem own_41 : XX.own 41 = [] := nr (by kernel_rfl)
theorem mode_42 : XX.mode 42 = .pure := nr (by kernel_rfl)
theorem fns_42 : XX.fns.contains 42 = true := nr (by kernel_rfl)
theorem res_42 : Go.Proofs.Tryz.f42.results.toList = [.tmp 4] := nr rfl
theorem live_42 : XX.live 42 = [] := nr (by kernel_rfl)
theorem own_42 : XX.own 42 = [] := nr (by kernel_rfl)
theorem tr_42_3 : XX.trim 42 3 = some ([1, 27, 28, 29], []) := nr (by kernel_rfl)
theorem trim_42_3 (d : AV) (l : List (Nat × AV)) (h : List Blk) (n : Nat) : trimA XX 42 3 n ⟨mkT 41 d l, h⟩ = gcK n (mkT 41 .junk [(1, lk d l 1), (27, lk d l 27), (28, lk d l 28), (29, lk d l 29)]) h := (trimA_keep tr_42_3 n _ h).trans (by rw [keep_mkT]; kernel_rfl)
abbrev S_42_3 (x1 x27 x28 x29 : AV) (h : List Blk) : St := ⟨mkT 41 .junk [(1, x1), (27, x27), (28, x28), (29, x29)], h⟩
theorem mode_43 : XX.mode 43 = .pure := nr (by kernel_rfl)
theorem fns_43 : XX.fns.contains 43 = true := nr (by kernel_rfl)
theorem res_43 : Go.Proofs.Tryz.f43.results.toList = [.tmp 2] := nr rfl
theorem live_43 : XX.live 43 = [98, 99] := nr (by kernel_rfl)
theorem own_43 : XX.own 43 = [(3, 1, 5)] := nr (by kernel_rfl)
theorem mode_44 : XX.mode 44 = .pure := nr (by kernel_rfl)
theorem fns_44 : XX.fns.contains 44 = true := nr (by kernel_rfl)
theorem res_44 : Go.Proofs.Tryz.f44.results.toList = [.tmp 2] := nr rfl
theorem live_44 : XX.live 44 = [] := nr (by kernel_rfl)
theorem mode_46 : XX.mode 46 = .pure := nr (by kernel_rfl)
theorem fns_46 : XX.fns.contains 46 = true := nr (by kernel_rfl)
theorem res_46 : Go.Proofs.Tryz.f46.results.toList = [.tmp 2] := nr rfl
theorem tr_46_2 : XX.trim 46 2 = some ([0, 7], []) := nr (by kernel_rfl)
theorem trim_46_2 (d : AV) (l : List (Nat × AV)) (h : List Blk) (n : Nat) : trimA XX 46 2 n ⟨mkT 60 d l, h⟩ = gcK n (mkT 60 .junk [(0, lk d l 0), (7, lk d l 7)]) h := (trimA_keep tr_46_2 n _ h).trans (by rw [keep_mkT]; kernel_rfl)
abbrev S_46_2 (x0 x7 : AV) (h : List Blk) : St := ⟨mkT 60 .junk [(0, x0), (7, x7)], h⟩
theorem mode_74 : XX.mode 74 = .pure := nr (by kernel_rfl)
theorem fns_74 : XX.fns.contains 74 = true := nr (by kernel_rfl)
theorem res_74 : Go.Proofs.Tryz.f74.results.toList = [.tmp 2] := nr rfl
theorem tr_74_2 : XX.trim 74 2 = some ([6, 7, 8], []) := nr (by kernel_rfl)
theorem trim_74_2 (d : AV) (l : List (Nat × AV)) (h : List Blk) (n : Nat) : trimA XX 74 2 n ⟨mkT 31 d l, h⟩ = gcK n (mkT 31 .junk [(6, lk d l 6), (7, lk d l 7), (8, lk d l 8)]) h := (trimA_keep tr_74_2 n _ h).trans (by rw [keep_mkT]; kernel_rfl)
abbrev S_74_2 (x6 x7 x8 : AV) (h : List Blk) : St := ⟨mkT 31 .junk [(6, x6), (7, x7), (8, x8)], h⟩
theorem fns_75 : XX.fns.contains 75 = true := nr (by kernel_rfl)
theorem res_75 : Go.Proofs.Tryz.f75.results.toList = [.tmp 4] := nr rfl
theorem live_75 : XX.live 75 = [] := nr (by kernel_rfl)
theorem cls_75_1 : XX.cls 75 1 = [0, 0, 0, 0, 0, 0, 0, 0, 0, 0, 0] := nr (by kernel_rfl)
theorem fns_76 : XX.fns.contains 76 = true := nr (by kernel_rfl)
theorem res_76 : Go.Proofs.Tryz.f76.results.toList = [.tmp 4, .tmp 5] := nr rfl
theorem live_76 : XX.live 76 = [] := nr (by kernel_rfl)
theorem cls_76_1 : XX.cls 76 1 = [0, 0, 0, 0, 0, 0, 0, 0, 0, 0, 0, 0] := nr (by kernel_rfl)
theorem cls_76_4 : XX.cls 76 4 = [0, 0, 0, 0, 0, 0, 0, 0, 0, 0, 0, 0, 0, 0, 0, 0] := nr (by kernel_rfl)
theorem fns_78 : XX.fns.contains 78 = true := nr (by kernel_rfl)
theorem res_78 : Go.Proofs.Tryz.f78.results.toList = [.tmp 2] := nr rfl
theorem live_78 : XX.live 78 = [126, 75, 76] := nr (by kernel_rfl)
theorem tr_78_1 : XX.trim 78 1 = some ([0], []) := nr (by kernel_rfl)
theorem trim_78_1 (d : AV) (l : List (Nat × AV)) (h : List Blk) (n : Nat) : trimA XX 78 1 n ⟨mkT 25 d l, h⟩ = gcK n (mkT 25 .junk [(0, lk d l 0)]) h := (trimA_keep tr_78_1 n _ h).trans (by rw [keep_mkT]; kernel_rfl)
abbrev S_78_1 (x0 : AV) (h : List Blk) : St := ⟨mkT 25 .junk [(0, x0)], h⟩
theorem fns_79 : XX.fns.contains 79 = true := nr (by kernel_rfl)
theorem res_79 : Go.Proofs.Tryz.f79.results.toList = [.cell 6 36, .tmp 7] := nr rfl
theorem live_79 : XX.live 79 = [75, 130, 131, 126, 138, 135] := nr (by kernel_rfl)
theorem own_79 : XX.own 79 = [(8, 2, 40), (8, 4, 36)] := nr (by kernel_rfl)
theorem cls_79_9 : XX.cls 79 9 = [0, 0, 0, 0, 0, 0, 0, 0, 0, 0, 0] := nr (by kernel_rfl)
theorem tr_79_16 : XX.trim 79 16 = some ([0, 1, 2, 6, 8, 9, 11, 12, 14, 15, 73, 74, 75], [1]) := nr (by kernel_rfl)
theorem trim_79_16 (d : AV) (l : List (Nat × AV)) (h : List Blk) (n : Nat) : trimA XX 79 16 n ⟨mkT 242 d l, h⟩ = orO (frzH n 242 1 (lk d l 1) [(0, lk d l 0), (1, lk d l 1), (2, lk d l 2), (6, lk d l 6), (8, lk d l 8), (9, lk d l 9), (11, lk d l 11), (12, lk d l 12), (14, lk d l 14), (15, lk d l 15), (73, lk d l 73), (74, lk d l 74), (75, lk d l 75)] h) (frzO n 242 1 [0, 1, 2, 6, 8, 9, 11, 12, 14, 15, 73, 74, 75] d l h) := ((trimA_frz tr_79_16 n _ h).trans (by simp only [List.map_cons, List.map_nil]; (repeat rw [mkT_getD _ _ _ (by decide)]); rfl)).trans (frzO_eq n 242 1 [0, 1, 2, 6, 8, 9, 11, 12, 14, 15, 73, 74, 75] d l h)
abbrev S_79_16 (x0 x1 x2 x6 x8 x9 x11 x12 x14 x15 x73 x74 x75 : AV) (h : List Blk) : St := ⟨mkT 242 .junk [(0, x0), (1, x1), (2, x2), (6, x6), (8, x8), (9, x9), (11, x11), (12, x12), (14, x14), (15, x15), (73, x73), (74, x74), (75, x75)], h⟩
theorem tr_79_32 : XX.trim 79 32 = some ([0, 1, 2, 6, 8, 9, 14, 146, 147, 148], [1]) := nr (by kernel_rfl)
theorem trim_79_32 (d : AV) (l : List (Nat × AV)) (h : List Blk) (n : Nat) : trimA XX 79 32 n ⟨mkT 242 d l, h⟩ = orO (frzH n 242 1 (lk d l 1) [(0, lk d l 0), (1, lk d l 1), (2, lk d l 2), (6, lk d l 6), (8, lk d l 8), (9, lk d l 9), (14, lk d l 14), (146, lk d l 146), (147, lk d l 147), (148, lk d l 148)] h) (frzO n 242 1 [0, 1, 2, 6, 8, 9, 14, 146, 147, 148] d l h) := ((trimA_frz tr_79_32 n _ h).trans (by simp only [List.map_cons, List.map_nil]; (repeat rw [mkT_getD _ _ _ (by decide)]); rfl)).trans (frzO_eq n 242 1 [0, 1, 2, 6, 8, 9, 14, 146, 147, 148] d l h)
abbrev S_79_32 (x0 x1 x2 x6 x8 x9 x14 x146 x147 x148 : AV) (h : List Blk) : St := ⟨mkT 242 .junk [(0, x0), (1, x1), (2, x2), (6, x6), (8, x8), (9, x9), (14, x14), (146, x146), (147, x147), (148, x148)], h⟩
theorem fns_98 : XX.fns.contains 98 = true := nr (by kernel_rfl)
theorem res_98 : Go.Proofs.Tryz.f98.results.toList = [] := nr rfl
theorem live_98 : XX.live 98 = [98, 152] := nr (by kernel_rfl)
theorem own_98 : XX.own 98 = [] := nr (by kernel_rfl)
theorem cls_98_7 : XX.cls 98 7 = [0, 0, 0, 0, 0, 0, 0, 0, 0, 0, 2] := nr (by kernel_rfl)
theorem tr_98_5 : XX.trim 98 5 = some ([0, 4, 27, 28, 29], []) := nr (by kernel_rfl)
theorem trim_98_5 (d : AV) (l : List (Nat × AV)) (h : List Blk) (n : Nat) : trimA XX 98 5 n ⟨mkT 81 d l, h⟩ = gcK n (mkT 81 .junk [(0, lk d l 0), (4, lk d l 4), (27, lk d l 27), (28, lk d l 28), (29, lk d l 29)]) h := (trimA_keep tr_98_5 n _ h).trans (by rw [keep_mkT]; kernel_rfl)
abbrev S_98_5 (x0 x4 x27 x28 x29 : AV) (h : List Blk) : St := ⟨mkT 81 .junk [(0, x0), (4, x4), (27, x27), (28, x28), (29, x29)], h⟩
theorem tr_98_13 : XX.trim 98 13 = some ([0, 4, 63, 64, 65], []) := nr (by kernel_rfl)
theorem trim_98_13 (d : AV) (l : List (Nat × AV)) (h : List Blk) (n : Nat) : trimA XX 98 13 n ⟨mkT 81 d l, h⟩ = gcK n (mkT 81 .junk [(0, lk d l 0), (4, lk d l 4), (63, lk d l 63), (64, lk d l 64), (65, lk d l 65)]) h := (trimA_keep tr_98_13 n _ h).trans (by rw [keep_mkT]; kernel_rfl)
abbrev S_98_13 (x0 x4 x63 x64 x65 : AV) (h : List Blk) : St := ⟨mkT 81 .junk [(0, x0), (4, x4), (63, x63), (64, x64), (65, x65)], h⟩
theorem mode_100 : XX.mode 100 = .pure := nr (by kernel_rfl)
theorem fns_100 : XX.fns.contains 100 = true := nr (by kernel_rfl)
theorem res_100 : Go.Proofs.Tryz.f100.results.toList = [.tmp 4] := nr rfl
theorem live_100 : XX.live 100 = [] := nr (by kernel_rfl)
theorem cls_100_7 : XX.cls 100 7 = [0, 0, 0, 0, 0, 0, 0, 0, 0, 0, 0, 0, 0, 0, 0, 0, 0, 0, 0, 0] := nr (by kernel_rfl)
theorem cls_100_14 : XX.cls 100 14 = [0, 0, 0, 0, 0, 0, 0, 0, 0, 0, 0] := nr (by kernel_rfl)
theorem tr_100_5 : XX.trim 100 5 = some ([2, 5, 6], []) := nr (by kernel_rfl)
theorem trim_100_5 (d : AV) (l : List (Nat × AV)) (h : List Blk) (n : Nat) : trimA XX 100 5 n ⟨mkT 88 d l, h⟩ = gcK n (mkT 88 .junk [(2, lk d l 2), (5, lk d l 5), (6, lk d l 6)]) h := (trimA_keep tr_100_5 n _ h).trans (by rw [keep_mkT]; kernel_rfl)
abbrev S_100_5 (x2 x5 x6 : AV) (h : List Blk) : St := ⟨mkT 88 .junk [(2, x2), (5, x5), (6, x6)], h⟩
theorem tr_100_12 : XX.trim 100 12 = some ([2, 5, 7], []) := nr (by kernel_rfl)
theorem trim_100_12 (d : AV) (l : List (Nat × AV)) (h : List Blk) (n : Nat) : trimA XX 100 12 n ⟨mkT 88 d l, h⟩ = gcK n (mkT 88 .junk [(2, lk d l 2), (5, lk d l 5), (7, lk d l 7)]) h := (trimA_keep tr_100_12 n _ h).trans (by rw [keep_mkT]; kernel_rfl)
abbrev S_100_12 (x2 x5 x7 : AV) (h : List Blk) : St := ⟨mkT 88 .junk [(2, x2), (5, x5), (7, x7)], h⟩
theorem fns_126 : XX.fns.contains 126 = true := nr (by kernel_rfl)
theorem res_126 : Go.Proofs.Tryz.f126.results.toList = [.tmp 2] := nr rfl
theorem live_126 : XX.live 126 = [] := nr (by kernel_rfl)
theorem cls_126_2 : XX.cls 126 2 = [0, 0, 0, 0, 0, 0, 0, 0, 0, 0, 0, 0, 0, 0, 0, 0, 0, 0, 0, 0, 0, 0, 0] := nr (by kernel_rfl)
theorem tr_126_2 : XX.trim 126 2 = some ([0, 3], []) := nr (by kernel_rfl)
theorem trim_126_2 (d : AV) (l : List (Nat × AV)) (h : List Blk) (n : Nat) : trimA XX 126 2 n ⟨mkT 44 d l, h⟩ = gcK n (mkT 44 .junk [(0, lk d l 0), (3, lk d l 3)]) h := (trimA_keep tr_126_2 n _ h).trans (by rw [keep_mkT]; kernel_rfl)
abbrev S_126_2 (x0 x3 : AV) (h : List Blk) : St := ⟨mkT 44 .junk [(0, x0), (3, x3)], h⟩
theorem mode_129 : XX.mode 129 = .data := nr (by kernel_rfl)
theorem fns_129 : XX.fns.contains 129 = true := nr (by kernel_rfl)
theorem res_129 : Go.Proofs.Tryz.f129.results.toList = [.cell 2 36, .tmp 3] := nr rfl
theorem own_129 : XX.own 129 = [] := nr (by kernel_rfl)
theorem fns_130 : XX.fns.contains 130 = true := nr (by kernel_rfl)
theorem res_130 : Go.Proofs.Tryz.f130.results.toList = [.tmp 2, .tmp 3, .tmp 4] := nr rfl
theorem live_130 : XX.live 130 = [] := nr (by kernel_rfl)
theorem cls_130_2 : XX.cls 130 2 = [0, 0, 0, 0, 0, 0, 0, 0, 0, 0, 0, 0, 0, 0, 0, 0, 0, 0, 0, 0, 0, 0, 0] := nr (by kernel_rfl)
theorem cls_130_4 : XX.cls 130 4 = [0, 0, 0, 0, 0, 0, 0, 0, 0, 0, 0, 0, 0, 0, 0, 0, 0, 0] := nr (by kernel_rfl)
theorem tr_130_2 : XX.trim 130 2 = some ([0, 5], []) := nr (by kernel_rfl)
theorem trim_130_2 (d : AV) (l : List (Nat × AV)) (h : List Blk) (n : Nat) : trimA XX 130 2 n ⟨mkT 73 d l, h⟩ = gcK n (mkT 73 .junk [(0, lk d l 0), (5, lk d l 5)]) h := (trimA_keep tr_130_2 n _ h).trans (by rw [keep_mkT]; kernel_rfl)
abbrev S_130_2 (x0 x5 : AV) (h : List Blk) : St := ⟨mkT 73 .junk [(0, x0), (5, x5)], h⟩
theorem fns_131 : XX.fns.contains 131 = true := nr (by kernel_rfl)
theorem res_131 : Go.Proofs.Tryz.f131.results.toList = [.tmp 2, .tmp 3] := nr rfl
theorem live_131 : XX.live 131 = [126, 130, 75, 76] := nr (by kernel_rfl)
theorem own_131 : XX.own 131 = [] := nr (by kernel_rfl)
theorem adopt_131 : XX.adopt 131 = [4] := nr (by kernel_rfl)
theorem cls_131_3 : XX.cls 131 3 = [0, 0, 0, 0, 0, 0, 0, 0, 0, 0] := nr (by kernel_rfl)
theorem cls_131_5 : XX.cls 131 5 = [0, 0, 0, 0, 0, 0, 0, 0, 0, 0] := nr (by kernel_rfl)
theorem tr_131_2 : XX.trim 131 2 = some ([0, 4], []) := nr (by kernel_rfl)
theorem trim_131_2 (d : AV) (l : List (Nat × AV)) (h : List Blk) (n : Nat) : trimA XX 131 2 n ⟨mkT 105 d l, h⟩ = gcK n (mkT 105 .junk [(0, lk d l 0), (4, lk d l 4)]) h := (trimA_keep tr_131_2 n _ h).trans (by rw [keep_mkT]; kernel_rfl)
abbrev S_131_2 (x0 x4 : AV) (h : List Blk) : St := ⟨mkT 105 .junk [(0, x0), (4, x4)], h⟩
theorem mode_132 : XX.mode 132 = .pure := nr (by kernel_rfl)
theorem fns_132 : XX.fns.contains 132 = true := nr (by kernel_rfl)
theorem res_132 : Go.Proofs.Tryz.f132.results.toList = [.tmp 4, .tmp 5] := nr rfl
theorem tr_132_1 : XX.trim 132 1 = some ([0, 1], []) := nr (by kernel_rfl)
theorem trim_132_1 (d : AV) (l : List (Nat × AV)) (h : List Blk) (n : Nat) : trimA XX 132 1 n ⟨mkT 24 d l, h⟩ = gcK n (mkT 24 .junk [(0, lk d l 0), (1, lk d l 1)]) h := (trimA_keep tr_132_1 n _ h).trans (by rw [keep_mkT]; kernel_rfl)
abbrev S_132_1 (x0 x1 : AV) (h : List Blk) : St := ⟨mkT 24 .junk [(0, x0), (1, x1)], h⟩
theorem mode_133 : XX.mode 133 = .pure := nr (by kernel_rfl)
theorem fns_133 : XX.fns.contains 133 = true := nr (by kernel_rfl)
theorem res_133 : Go.Proofs.Tryz.f133.results.toList = [.tmp 4] := nr rfl
theorem live_133 : XX.live 133 = [] := nr (by kernel_rfl)
theorem mode_134 : XX.mode 134 = .pure := nr (by kernel_rfl)
theorem fns_134 : XX.fns.contains 134 = true := nr (by kernel_rfl)
theorem res_134 : Go.Proofs.Tryz.f134.results.toList = [.tmp 3] := nr rfl
theorem fns_138 : XX.fns.contains 138 = true := nr (by kernel_rfl)
theorem res_138 : Go.Proofs.Tryz.f138.results.toList = [.tmp 8] := nr rfl
theorem live_138 : XX.live 138 = [75, 76, 79, 152, 99] := nr (by kernel_rfl)
theorem own_138 : XX.own 138 = [(9, 1, 5)] := nr (by kernel_rfl)
theorem cls_138_3 : XX.cls 138 3 = [0, 0, 0, 0, 0, 0, 0, 0, 0, 0, 0] := nr (by kernel_rfl)
theorem cls_138_6 : XX.cls 138 6 = [0, 0, 0, 0, 0, 0, 0, 0, 0, 0, 0, 0, 0, 0, 0, 0] := nr (by kernel_rfl)
theorem cls_138_18 : XX.cls 138 18 = [0, 0, 0, 0, 0, 0, 0, 2, 11, 10, 3, 3, 9] := nr (by kernel_rfl)
theorem tr_138_3 : XX.trim 138 3 = some ([0, 1, 2, 3, 9, 10], []) := nr (by kernel_rfl)
theorem trim_138_3 (d : AV) (l : List (Nat × AV)) (h : List Blk) (n : Nat) : trimA XX 138 3 n ⟨mkT 151 d l, h⟩ = gcK n (mkT 151 .junk [(0, lk d l 0), (1, lk d l 1), (2, lk d l 2), (3, lk d l 3), (9, lk d l 9), (10, lk d l 10)]) h := (trimA_keep tr_138_3 n _ h).trans (by rw [keep_mkT]; kernel_rfl)
abbrev S_138_3 (x0 x1 x2 x3 x9 x10 : AV) (h : List Blk) : St := ⟨mkT 151 .junk [(0, x0), (1, x1), (2, x2), (3, x3), (9, x9), (10, x10)], h⟩
theorem fns_152 : XX.fns.contains 152 = true := nr (by kernel_rfl)
theorem res_152 : Go.Proofs.Tryz.f152.results.toList = [.tmp 4, .tmp 5] := nr rfl
theorem live_152 : XX.live 152 = [203] := nr (by kernel_rfl)
theorem mode_153 : XX.mode 153 = .pure := nr (by kernel_rfl)
theorem fns_153 : XX.fns.contains 153 = true := nr (by kernel_rfl)
theorem res_153 : Go.Proofs.Tryz.f153.results.toList = [.tmp 2] := nr rfl
theorem live_153 : XX.live 153 = [205] := nr (by kernel_rfl)
theorem mode_154 : XX.mode 154 = .pure := nr (by kernel_rfl)
theorem fns_154 : XX.fns.contains 154 = true := nr (by kernel_rfl)
theorem res_154 : Go.Proofs.Tryz.f154.results.toList = [.tmp 2] := nr rfl
theorem tr_154_3 : XX.trim 154 3 = some ([0, 3, 4], []) := nr (by kernel_rfl)
theorem trim_154_3 (d : AV) (l : List (Nat × AV)) (h : List Blk) (n : Nat) : trimA XX 154 3 n ⟨mkT 72 d l, h⟩ = gcK n (mkT 72 .junk [(0, lk d l 0), (3, lk d l 3), (4, lk d l 4)]) h := (trimA_keep tr_154_3 n _ h).trans (by rw [keep_mkT]; kernel_rfl)
abbrev S_154_3 (x0 x3 x4 : AV) (h : List Blk) : St := ⟨mkT 72 .junk [(0, x0), (3, x3), (4, x4)], h⟩
theorem tr_154_8 : XX.trim 154 8 = some ([0, 3, 5, 6], []) := nr (by kernel_rfl)
theorem trim_154_8 (d : AV) (l : List (Nat × AV)) (h : List Blk) (n : Nat) : trimA XX 154 8 n ⟨mkT 72 d l, h⟩ = gcK n (mkT 72 .junk [(0, lk d l 0), (3, lk d l 3), (5, lk d l 5), (6, lk d l 6)]) h := (trimA_keep tr_154_8 n _ h).trans (by rw [keep_mkT]; kernel_rfl)
abbrev S_154_8 (x0 x3 x5 x6 : AV) (h : List Blk) : St := ⟨mkT 72 .junk [(0, x0), (3, x3), (5, x5), (6, x6)], h⟩
theorem mode_186 : XX.mode 186 = .pure := nr (by kernel_rfl)
theorem fns_186 : XX.fns.contains 186 = true := nr (by kernel_rfl)
theorem res_186 : Go.Proofs.Tryz.f186.results.toList = [.tmp 2, .tmp 3] := nr rfl
theorem live_186 : XX.live 186 = [152, 226, 99] := nr (by kernel_rfl)
theorem own_186 : XX.own 186 = [(4, 1, 5)] := nr (by kernel_rfl)
theorem tr_186_2 : XX.trim 186 2 = some ([0, 4], []) := nr (by kernel_rfl)
theorem trim_186_2 (d : AV) (l : List (Nat × AV)) (h : List Blk) (n : Nat) : trimA XX 186 2 n ⟨mkT 45 d l, h⟩ = gcK n (mkT 45 .junk [(0, lk d l 0), (4, lk d l 4)]) h := (trimA_keep tr_186_2 n _ h).trans (by rw [keep_mkT]; kernel_rfl)
abbrev S_186_2 (x0 x4 : AV) (h : List Blk) : St := ⟨mkT 45 .junk [(0, x0), (4, x4)], h⟩
theorem mode_187 : XX.mode 187 = .pure := nr (by kernel_rfl)
theorem fns_187 : XX.fns.contains 187 = true := nr (by kernel_rfl)
theorem res_187 : Go.Proofs.Tryz.f187.results.toList = [.tmp 4] := nr rfl
theorem live_187 : XX.live 187 = [] := nr (by kernel_rfl)
theorem mode_188 : XX.mode 188 = .pure := nr (by kernel_rfl)
theorem fns_188 : XX.fns.contains 188 = true := nr (by kernel_rfl)
theorem res_188 : Go.Proofs.Tryz.f188.results.toList = [.tmp 4] := nr rfl
theorem mode_189 : XX.mode 189 = .pure := nr (by kernel_rfl)
theorem fns_189 : XX.fns.contains 189 = true := nr (by kernel_rfl)
theorem res_189 : Go.Proofs.Tryz.f189.results.toList = [.tmp 4] := nr rfl
theorem live_189 : XX.live 189 = [] := nr (by kernel_rfl)
theorem tr_189_2 : XX.trim 189 2 = some ([0, 1, 7, 8], []) := nr (by kernel_rfl)
theorem trim_189_2 (d : AV) (l : List (Nat × AV)) (h : List Blk) (n : Nat) : trimA XX 189 2 n ⟨mkT 19 d l, h⟩ = gcK n (mkT 19 .junk [(0, lk d l 0), (1, lk d l 1), (7, lk d l 7), (8, lk d l 8)]) h := (trimA_keep tr_189_2 n _ h).trans (by rw [keep_mkT]; kernel_rfl)
abbrev S_189_2 (x0 x1 x7 x8 : AV) (h : List Blk) : St := ⟨mkT 19 .junk [(0, x0), (1, x1), (7, x7), (8, x8)], h⟩
theorem mode_204 : XX.mode 204 = .fresh := nr (by kernel_rfl)
theorem mode_206 : XX.mode 206 = .pure := nr (by kernel_rfl)
theorem fns_206 : XX.fns.contains 206 = true := nr (by kernel_rfl)
theorem res_206 : Go.Proofs.Tryz.f206.results.toList = [.tmp 2] := nr rfl
theorem live_206 : XX.live 206 = [205] := nr (by kernel_rfl)
theorem mode_225 : XX.mode 225 = .pure := nr (by kernel_rfl)
theorem fns_225 : XX.fns.contains 225 = true := nr (by kernel_rfl)
theorem res_225 : Go.Proofs.Tryz.f225.results.toList = [.tmp 2, .tmp 3] := nr rfl
theorem live_225 : XX.live 225 = [] := nr (by kernel_rfl)
theorem tr_225_21 : XX.trim 225 21 = some ([4, 6, 7, 38, 39, 40], []) := nr (by kernel_rfl)
theorem trim_225_21 (d : AV) (l : List (Nat × AV)) (h : List Blk) (n : Nat) : trimA XX 225 21 n ⟨mkT 92 d l, h⟩ = gcK n (mkT 92 .junk [(4, lk d l 4), (6, lk d l 6), (7, lk d l 7), (38, lk d l 38), (39, lk d l 39), (40, lk d l 40)]) h := (trimA_keep tr_225_21 n _ h).trans (by rw [keep_mkT]; kernel_rfl)
abbrev S_225_21 (x4 x6 x7 x38 x39 x40 : AV) (h : List Blk) : St := ⟨mkT 92 .junk [(4, x4), (6, x6), (7, x7), (38, x38), (39, x39), (40, x40)], h⟩
theorem fns_226 : XX.fns.contains 226 = true := nr (by kernel_rfl)
theorem res_226 : Go.Proofs.Tryz.f226.results.toList = [.tmp 4] := nr rfl
theorem live_226 : XX.live 226 = [203] := nr (by kernel_rfl)
theorem mode_227 : XX.mode 227 = .pure := nr (by kernel_rfl)
theorem fns_227 : XX.fns.contains 227 = true := nr (by kernel_rfl)
theorem res_227 : Go.Proofs.Tryz.f227.results.toList = [.tmp 4] := nr rfl
theorem live_227 : XX.live 227 = [] := nr (by kernel_rfl)
theorem tr_227_2 : XX.trim 227 2 = some ([0, 1, 7, 8], []) := nr (by kernel_rfl)
theorem trim_227_2 (d : AV) (l : List (Nat × AV)) (h : List Blk) (n : Nat) : trimA XX 227 2 n ⟨mkT 19 d l, h⟩ = gcK n (mkT 19 .junk [(0, lk d l 0), (1, lk d l 1), (7, lk d l 7), (8, lk d l 8)]) h := (trimA_keep tr_227_2 n _ h).trans (by rw [keep_mkT]; kernel_rfl)
abbrev S_227_2 (x0 x1 x7 x8 : AV) (h : List Blk) : St := ⟨mkT 19 .junk [(0, x0), (1, x1), (7, x7), (8, x8)], h⟩
theorem ty_3 : tyOf Go.Proofs.Tryz.prog 3 = Option.some { d := Go.Abs.TD.int Go.IntKind.i64, size := 1, bytes := 8, zero := Option.some (Go.Value.int Go.IntKind.i64 0) } := nr (by kernel_rfl)
theorem ty_5 : tyOf Go.Proofs.Tryz.prog 5 = Option.some { d := Go.Abs.TD.int Go.IntKind.u8, size := 1, bytes := 1, zero := Option.some (Go.Value.int Go.IntKind.u8 0) } := nr (by kernel_rfl)
theorem zero_5 : zeroA Go.Proofs.Tryz.prog 5 = some [.v (Go.Value.int Go.IntKind.u8 0)] := nr (by kernel_rfl)
theorem ty_9 : tyOf Go.Proofs.Tryz.prog 9 = Option.some { d := Go.Abs.TD.str, size := 1, bytes := 16, zero := Option.some (Go.Value.string { data := #[] }) } := nr (by kernel_rfl)
theorem zero_9 : zeroA Go.Proofs.Tryz.prog 9 = some [.v (Go.Value.string { data := #[] })] := nr (by kernel_rfl)
theorem ty_22 : tyOf Go.Proofs.Tryz.prog 22 = Option.some { d := Go.Abs.TD.slice 36, size := 1, bytes := 24, zero := Option.some (Go.Value.slice Option.none 0 0) } := nr (by kernel_rfl)
theorem ty_33 : tyOf Go.Proofs.Tryz.prog 33 = Option.some { d := Go.Abs.TD.slice 9, size := 1, bytes := 24, zero := Option.some (Go.Value.slice Option.none 0 0) } := nr (by kernel_rfl)
theorem ty_34 : tyOf Go.Proofs.Tryz.prog 34 = Option.some { d := Go.Abs.TD.slice 40, size := 1, bytes := 24, zero := Option.some (Go.Value.slice Option.none 0 0) } := nr (by kernel_rfl)
theorem ty_36 : tyOf Go.Proofs.Tryz.prog 36 = Option.some { d := Go.Abs.TD.struct [(0, 9), (1, 9), (2, 34), (3, 9), (4, 22)], size := 5, bytes := 96, zero := Option.some (Go.Value.agg #[Go.Value.string { data := #[] }, Go.Value.string { data := #[] }, Go.Value.slice Option.none 0 0, Go.Value.string { data := #[] }, Go.Value.slice Option.none 0 0]) } := nr (by kernel_rfl)
theorem zero_36 : zeroA Go.Proofs.Tryz.prog 36 = some [.v (Go.Value.string { data := #[] }), .v (Go.Value.string { data := #[] }), .fs [] true, .v (Go.Value.string { data := #[] }), .fs [] true] := nr (by kernel_rfl)
theorem ty_40 : tyOf Go.Proofs.Tryz.prog 40 = Option.some { d := Go.Abs.TD.struct [(0, 9), (1, 9)], size := 2, bytes := 32, zero := Option.some (Go.Value.agg #[Go.Value.string { data := #[] }, Go.Value.string { data := #[] }]) } := nr (by kernel_rfl)
theorem zero_40 : zeroA Go.Proofs.Tryz.prog 40 = some [.v (Go.Value.string { data := #[] }), .v (Go.Value.string { data := #[] })] := nr (by kernel_rfl)
theorem ty_108 : tyOf Go.Proofs.Tryz.prog 108 = Option.some { d := Go.Abs.TD.struct [(0, 9), (1, 3)], size := 2, bytes := 24, zero := Option.some (Go.Value.agg #[Go.Value.string { data := #[] }, Go.Value.int Go.IntKind.i64 0]) } := nr (by kernel_rfl)
theorem zero_108 : zeroA Go.Proofs.Tryz.prog 108 = some [.v (Go.Value.string { data := #[] }), .v (Go.Value.int Go.IntKind.i64 0)] := nr (by kernel_rfl)
theorem ty_132 : tyOf Go.Proofs.Tryz.prog 132 = Option.some { d := Go.Abs.TD.slice 5, size := 1, bytes := 24, zero := Option.some (Go.Value.slice Option.none 0 0) } := nr (by kernel_rfl)
theorem ty_134 : tyOf Go.Proofs.Tryz.prog 134 = Option.some { d := Go.Abs.TD.struct [(0, 131), (1, 132)], size := 2, bytes := 32, zero := Option.some (Go.Value.agg #[Go.Value.pointer Option.none, Go.Value.slice Option.none 0 0]) } := nr (by kernel_rfl)
theorem zero_134 : zeroA Go.Proofs.Tryz.prog 134 = some [.v (Go.Value.pointer Option.none), .fs [] true] := nr (by kernel_rfl)
theorem ty_153 : tyOf Go.Proofs.Tryz.prog 153 = Option.some { d := Go.Abs.TD.ptr 165, size := 1, bytes := 8, zero := Option.some (Go.Value.pointer Option.none) } := nr (by kernel_rfl)
theorem ty_157 : tyOf Go.Proofs.Tryz.prog 157 = Option.some { d := Go.Abs.TD.slice 163, size := 1, bytes := 24, zero := Option.some (Go.Value.slice Option.none 0 0) } := nr (by kernel_rfl)
theorem ty_161 : tyOf Go.Proofs.Tryz.prog 161 = Option.some { d := Go.Abs.TD.struct [(0, 9), (1, 9)], size := 2, bytes := 32, zero := Option.some (Go.Value.agg #[Go.Value.string { data := #[] }, Go.Value.string { data := #[] }]) } := nr (by kernel_rfl)
theorem zero_161 : zeroA Go.Proofs.Tryz.prog 161 = some [.v (Go.Value.string { data := #[] }), .v (Go.Value.string { data := #[] })] := nr (by kernel_rfl)
theorem ty_163 : tyOf Go.Proofs.Tryz.prog 163 = Option.some { d := Go.Abs.TD.struct [(0, 161), (2, 9)], size := 3, bytes := 48, zero := Option.some (Go.Value.agg #[Go.Value.string { data := #[] }, Go.Value.string { data := #[] }, Go.Value.string { data := #[] }]) } := nr (by kernel_rfl)
theorem zero_163 : zeroA Go.Proofs.Tryz.prog 163 = some [.v (Go.Value.string { data := #[] }), .v (Go.Value.string { data := #[] }), .v (Go.Value.string { data := #[] })] := nr (by kernel_rfl)
theorem ty_165 : tyOf Go.Proofs.Tryz.prog 165 = Option.some { d := Go.Abs.TD.struct [(0, 153), (1, 9), (2, 9)], size := 3, bytes := 40, zero := Option.some (Go.Value.agg #[Go.Value.pointer Option.none, Go.Value.string { data := #[] }, Go.Value.string { data := #[] }]) } := nr (by kernel_rfl)
theorem zero_165 : zeroA Go.Proofs.Tryz.prog 165 = some [.v (Go.Value.pointer Option.none), .v (Go.Value.string { data := #[] }), .v (Go.Value.string { data := #[] })] := nr (by kernel_rfl)
attribute [go_sem] nilT_XX XX_P tyO_XX res_7 live_7 cls_7_3 mode_27 res_27 live_27 own_27 cls_27_15 mode_41 res_41 live_41 own_41 mode_42 res_42 live_42 own_42 trim_42_3 mode_43 res_43 live_43 own_43 mode_44 res_44 live_44 mode_46 res_46 trim_46_2 mode_74 res_74 trim_74_2 res_75 live_75 cls_75_1 res_76 live_76 cls_76_1 cls_76_4 res_78 live_78 trim_78_1 res_79 live_79 own_79 cls_79_9 trim_79_16 trim_79_32 res_98 live_98 own_98 cls_98_7 trim_98_5 trim_98_13 mode_100 res_100 live_100 cls_100_7 cls_100_14 trim_100_5 trim_100_12 res_126 live_126 cls_126_2 trim_126_2 mode_129 res_129 own_129 res_130 live_130 cls_130_2 cls_130_4 trim_130_2 res_131 live_131 own_131 adopt_131 cls_131_3 cls_131_5 trim_131_2 mode_132 res_132 trim_132_1 mode_133 res_133 live_133 mode_134 res_134 res_138 live_138 own_138 cls_138_3 cls_138_6 cls_138_18 trim_138_3 res_152 live_152 mode_153 res_153 live_153 mode_154 res_154 trim_154_3 trim_154_8 mode_186 res_186 live_186 own_186 trim_186_2 mode_187 res_187 live_187 mode_188 res_188 mode_189 res_189 live_189 trim_189_2 mode_204 mode_206 res_206 live_206 mode_225 res_225 live_225 trim_225_21 res_226 live_226 mode_227 res_227 live_227 trim_227_2 ty_3 ty_5 zero_5 ty_9 zero_9 ty_22 ty_33 ty_34 ty_36 zero_36 ty_40 zero_40 ty_108 zero_108 ty_132 ty_134 zero_134 ty_153 ty_157 ty_161 zero_161 ty_163 zero_163 ty_165 zero_165 Go.Proofs.Tryz.ntmps3 Go.Proofs.Tryz.ntmps4 Go.Proofs.Tryz.ntmps5 Go.Proofs.Tryz.ntmps6 Go.Proofs.Tryz.ntmps7 Go.Proofs.Tryz.ntmps8 Go.Proofs.Tryz.ntmps9 Go.Proofs.Tryz.ntmps10 Go.Proofs.Tryz.ntmps11 Go.Proofs.Tryz.ntmps12 Go.Proofs.Tryz.ntmps13 Go.Proofs.Tryz.ntmps14 Go.Proofs.Tryz.ntmps15 Go.Proofs.Tryz.ntmps16 Go.Proofs.Tryz.ntmps17 Go.Proofs.Tryz.ntmps18 Go.Proofs.Tryz.ntmps19 Go.Proofs.Tryz.ntmps20 Go.Proofs.Tryz.ntmps21 Go.Proofs.Tryz.ntmps22 Go.Proofs.Tryz.ntmps23 Go.Proofs.Tryz.ntmps24 Go.Proofs.Tryz.ntmps25 Go.Proofs.Tryz.ntmps26 Go.Proofs.Tryz.ntmps27 Go.Proofs.Tryz.ntmps28 Go.Proofs.Tryz.ntmps29 Go.Proofs.Tryz.ntmps30 Go.Proofs.Tryz.ntmps31 Go.Proofs.Tryz.ntmps32 Go.Proofs.Tryz.ntmps33 Go.Proofs.Tryz.ntmps34 Go.Proofs.Tryz.ntmps35 Go.Proofs.Tryz.ntmps36 Go.Proofs.Tryz.ntmps37 Go.Proofs.Tryz.ntmps38 Go.Proofs.Tryz.ntmps39 Go.Proofs.Tryz.ntmps40 Go.Proofs.Tryz.ntmps41 Go.Proofs.Tryz.ntmps42 Go.Proofs.Tryz.ntmps43 Go.Proofs.Tryz.ntmps44 Go.Proofs.Tryz.ntmps45 Go.Proofs.Tryz.ntmps46 Go.Proofs.Tryz.ntmps47 Go.Proofs.Tryz.ntmps48 Go.Proofs.Tryz.ntmps49 Go.Proofs.Tryz.ntmps50 Go.Proofs.Tryz.ntmps51 Go.Proofs.Tryz.ntmps52 Go.Proofs.Tryz.ntmps53 Go.Proofs.Tryz.ntmps54 Go.Proofs.Tryz.ntmps55 Go.Proofs.Tryz.ntmps56 Go.Proofs.Tryz.ntmps57 Go.Proofs.Tryz.ntmps58 Go.Proofs.Tryz.ntmps59 Go.Proofs.Tryz.ntmps60 Go.Proofs.Tryz.ntmps61 Go.Proofs.Tryz.ntmps62 Go.Proofs.Tryz.ntmps63 Go.Proofs.Tryz.ntmps64 Go.Proofs.Tryz.ntmps65 Go.Proofs.Tryz.ntmps66 Go.Proofs.Tryz.ntmps67 Go.Proofs.Tryz.ntmps68 Go.Proofs.Tryz.ntmps69 Go.Proofs.Tryz.ntmps70 Go.Proofs.Tryz.ntmps71 Go.Proofs.Tryz.ntmps72 Go.Proofs.Tryz.ntmps73 Go.Proofs.Tryz.ntmps74 Go.Proofs.Tryz.ntmps75 Go.Proofs.Tryz.ntmps76 Go.Proofs.Tryz.ntmps78 Go.Proofs.Tryz.ntmps79 Go.Proofs.Tryz.ntmps80 Go.Proofs.Tryz.ntmps81 Go.Proofs.Tryz.ntmps82 Go.Proofs.Tryz.ntmps83 Go.Proofs.Tryz.ntmps84 Go.Proofs.Tryz.ntmps85 Go.Proofs.Tryz.ntmps86 Go.Proofs.Tryz.ntmps87 Go.Proofs.Tryz.ntmps88 Go.Proofs.Tryz.ntmps89 Go.Proofs.Tryz.ntmps90 Go.Proofs.Tryz.ntmps91 Go.Proofs.Tryz.ntmps92 Go.Proofs.Tryz.ntmps93 Go.Proofs.Tryz.ntmps94 Go.Proofs.Tryz.ntmps95 Go.Proofs.Tryz.ntmps96 Go.Proofs.Tryz.ntmps97 Go.Proofs.Tryz.ntmps98 Go.Proofs.Tryz.ntmps100 Go.Proofs.Tryz.ntmps101 Go.Proofs.Tryz.ntmps102 Go.Proofs.Tryz.ntmps103 Go.Proofs.Tryz.ntmps104 Go.Proofs.Tryz.ntmps105 Go.Proofs.Tryz.ntmps106 Go.Proofs.Tryz.ntmps107 Go.Proofs.Tryz.ntmps108 Go.Proofs.Tryz.ntmps109 Go.Proofs.Tryz.ntmps110 Go.Proofs.Tryz.ntmps111 Go.Proofs.Tryz.ntmps112 Go.Proofs.Tryz.ntmps113 Go.Proofs.Tryz.ntmps114 Go.Proofs.Tryz.ntmps115 Go.Proofs.Tryz.ntmps117 Go.Proofs.Tryz.ntmps118 Go.Proofs.Tryz.ntmps120 Go.Proofs.Tryz.ntmps122 Go.Proofs.Tryz.ntmps126 Go.Proofs.Tryz.ntmps129 Go.Proofs.Tryz.ntmps130 Go.Proofs.Tryz.ntmps131 Go.Proofs.Tryz.ntmps132 Go.Proofs.Tryz.ntmps133 Go.Proofs.Tryz.ntmps134 Go.Proofs.Tryz.ntmps136 Go.Proofs.Tryz.ntmps137 Go.Proofs.Tryz.ntmps138 Go.Proofs.Tryz.ntmps139 Go.Proofs.Tryz.ntmps140 Go.Proofs.Tryz.ntmps141 Go.Proofs.Tryz.ntmps142 Go.Proofs.Tryz.ntmps143 Go.Proofs.Tryz.ntmps144 Go.Proofs.Tryz.ntmps145 Go.Proofs.Tryz.ntmps146 Go.Proofs.Tryz.ntmps147 Go.Proofs.Tryz.ntmps148 Go.Proofs.Tryz.ntmps149 Go.Proofs.Tryz.ntmps150 Go.Proofs.Tryz.ntmps151 Go.Proofs.Tryz.ntmps152 Go.Proofs.Tryz.ntmps153 Go.Proofs.Tryz.ntmps154 Go.Proofs.Tryz.ntmps155 Go.Proofs.Tryz.ntmps156 Go.Proofs.Tryz.ntmps157 Go.Proofs.Tryz.ntmps158 Go.Proofs.Tryz.ntmps159 Go.Proofs.Tryz.ntmps160 Go.Proofs.Tryz.ntmps161 Go.Proofs.Tryz.ntmps162 Go.Proofs.Tryz.ntmps165 Go.Proofs.Tryz.ntmps166 Go.Proofs.Tryz.ntmps167 Go.Proofs.Tryz.ntmps168 Go.Proofs.Tryz.ntmps169 Go.Proofs.Tryz.ntmps178 Go.Proofs.Tryz.ntmps182 Go.Proofs.Tryz.ntmps184 Go.Proofs.Tryz.ntmps186 Go.Proofs.Tryz.ntmps187 Go.Proofs.Tryz.ntmps188 Go.Proofs.Tryz.ntmps189 Go.Proofs.Tryz.ntmps193 Go.Proofs.Tryz.ntmps194 Go.Proofs.Tryz.ntmps195 Go.Proofs.Tryz.ntmps196 Go.Proofs.Tryz.ntmps197 Go.Proofs.Tryz.ntmps198 Go.Proofs.Tryz.ntmps199 Go.Proofs.Tryz.ntmps200 Go.Proofs.Tryz.ntmps201 Go.Proofs.Tryz.ntmps202 Go.Proofs.Tryz.ntmps204 Go.Proofs.Tryz.ntmps206 Go.Proofs.Tryz.ntmps207 Go.Proofs.Tryz.ntmps208 Go.Proofs.Tryz.ntmps209 Go.Proofs.Tryz.ntmps210 Go.Proofs.Tryz.ntmps211 Go.Proofs.Tryz.ntmps212 Go.Proofs.Tryz.ntmps224 Go.Proofs.Tryz.ntmps225 Go.Proofs.Tryz.ntmps226 Go.Proofs.Tryz.ntmps227 Go.Proofs.Tryz.ntmps239 Go.Proofs.Tryz.ntmps240 Go.Proofs.Tryz.ntmps241 Go.Proofs.Tryz.ntmps242 Go.Proofs.Tryz.ntmps243 Go.Proofs.Tryz.ntmps247 Go.Proofs.Tryz.ntmps266 Go.Proofs.Tryz.ntmps270 Go.Proofs.Tryz.ntmps280 Go.Proofs.Tryz.ntmps282 Go.Proofs.Tryz.ntmps290 Go.Proofs.Tryz.ntmps291
end Go.Abs.SA
end
section
namespace Go.Abs.SA
open Go.Proofs
theorem XX_ext : XX.ext = extY := rfl
theorem XX_extL : XX.extL = extLY := rfl
theorem mode_trim : XX.mode 121 = .data := rfl
theorem mode_indexByte : XX.mode 183 = .data := rfl
theorem mode_index : XX.mode 124 = .data := rfl
theorem mode_cut : XX.mode 185 = .data := rfl
theorem mode_contains : XX.mode 127 = .data := rfl
theorem mode_containsAny : XX.mode 77 = .data := rfl
theorem mode_hasPrefix : XX.mode 123 = .data := rfl
theorem mode_hasSuffix : XX.mode 128 = .data := rfl
theorem mode_cutPrefix : XX.mode 260 = .data := rfl
theorem trimX (s t : ByteArray) (h : s.size ≤ 9223372036854775807 ∧ (t = digS ∨ t = blaS)) : pureW XX 121 [.v (.string s), .v (.string t)] = some (.v (.string (mkS (Lib.trimS (lS8 s) (lS8 t))))) := by
  refine loud_pureW (ext_loudW (r := .v (.string (mkS (Lib.trimS (lS8 s) (lS8 t))))) ?_) rfl
  rw [XX_ext]
  exact if_pos h
theorem indexByteX (s : ByteArray) (c : Int) (h : 0 ≤ c ∧ c < 256) : pureW XX 183 [.v (.string s), .v (.int .u8 c)] = some (.v (.int .i64 (Lib.indexByte (lS8 s) (UInt8.ofNat c.toNat)))) := by
  refine loud_pureW (ext_loudW (r := .v (.int .i64 (Lib.indexByte (lS8 s) (UInt8.ofNat c.toNat)))) ?_) rfl
  rw [XX_ext]
  exact if_pos h
theorem indexX (s t : ByteArray) (h : big s) : pureW XX 124 [.v (.string s), .v (.string t)] = some (.v (.int .i64 (Lib.index (lS8 s) (lS8 t)))) := by
  refine loud_pureW (ext_loudW (r := .v (.int .i64 (Lib.index (lS8 s) (lS8 t)))) ?_) rfl
  rw [XX_ext]
  exact if_pos h
theorem cutX (s t : ByteArray) (h : big s) : pureW XX 185 [.v (.string s), .v (.string t)] = some (.tup [.v (.string (mkS (Lib.cut (lS8 s) (lS8 t)).1)), .v (.string (mkS (Lib.cut (lS8 s) (lS8 t)).2.1)), .v (.bool (Lib.cut (lS8 s) (lS8 t)).2.2)]) := by
  refine loud_pureW (ext_loudW (r := .tup [.v (.string (mkS (Lib.cut (lS8 s) (lS8 t)).1)), .v (.string (mkS (Lib.cut (lS8 s) (lS8 t)).2.1)), .v (.bool (Lib.cut (lS8 s) (lS8 t)).2.2)]) ?_) rfl
  rw [XX_ext]
  exact if_pos h
theorem containsX (s t : ByteArray) (h : big s) : pureW XX 127 [.v (.string s), .v (.string t)] = some (.v (.bool (Lib.contains (lS8 s) (lS8 t)))) := by
  refine loud_pureW (ext_loudW (r := .v (.bool (Lib.contains (lS8 s) (lS8 t)))) ?_) rfl
  rw [XX_ext]
  exact if_pos h
theorem containsAnyX (s t : ByteArray) (h : big s ∧ big t ∧ (∀ b ∈ lS8 s, b.toNat < 128) ∧ (∀ b ∈ lS8 t, b.toNat < 128)) : pureW XX 77 [.v (.string s), .v (.string t)] = some (.v (.bool (Lib.containsAny (lS8 s) (lS8 t)))) := by
  refine loud_pureW (ext_loudW (r := .v (.bool (Lib.containsAny (lS8 s) (lS8 t)))) ?_) rfl
  rw [XX_ext]
  exact if_pos h
theorem hasPrefixX (s t : ByteArray) : pureW XX 123 [.v (.string s), .v (.string t)] = some (.v (.bool (Lib.hasPrefix (lS8 s) (lS8 t)))) := loud_pureW (ext_loudW (r := .v (.bool (Lib.hasPrefix (lS8 s) (lS8 t)))) rfl) rfl
theorem hasSuffixX (s t : ByteArray) (h : big s) : pureW XX 128 [.v (.string s), .v (.string t)] = some (.v (.bool (Lib.hasSuffix (lS8 s) (lS8 t)))) := by
  refine loud_pureW (ext_loudW (r := .v (.bool (Lib.hasSuffix (lS8 s) (lS8 t)))) ?_) rfl
  rw [XX_ext]
  exact if_pos h
theorem cutPrefixX (s t : ByteArray) : pureW XX 260 [.v (.string s), .v (.string t)] = some (.tup [.v (.string (mkS (Lib.trimPrefix (lS8 s) (lS8 t)))), .v (.bool (Lib.hasPrefix (lS8 s) (lS8 t)))]) := loud_pureW (ext_loudW (r := .tup [.v (.string (mkS (Lib.trimPrefix (lS8 s) (lS8 t)))), .v (.bool (Lib.hasPrefix (lS8 s) (lS8 t)))]) rfl) rfl
end Go.Abs.SA
end
