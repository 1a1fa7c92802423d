/- YtoeaiaoojfgjmaaDoorB4: a part of the interpreter by which the claim is shown, and of the walks: no conditions of its own: every theorem states its own. -/
import Derived.Test.YtoeaiaoojfgjmaaDoorB3
import Derived.Lib.ItoaNum
import Derived.Lib.Index
import Derived.Lib.Bytealg
import Derived.Test.YtoeaiaoojfgjmaaDoorProg
section
set_option linter.unusedVariables false
set_option linter.unusedSimpArgs false
set_option linter.unusedSectionVars false
namespace Go.Abs.BB
/-- The library's functions, as the kit's contracts have them: strconv.Itoa, strings.Index, strings.IndexByte. -/
def extB (f : FuncId) (ys : List AV) : Option AV :=
  match f with
  | 17 => match ys with
    | [.v (.int .i64 n)] => if 0 ≤ n ∧ n ≤ 1000000000000 then some (.v (.string ⟨(Lib.itoa n).toArray⟩)) else none
    | _ => none
  | 19 => match ys with
    | [.v (.string s), .v (.string t)] => if s.size < 4294967281 then some (.v (.int .i64 (Lib.index s.data.toList t.data.toList))) else none
    | _ => none
  | 25 => match ys with
    | [.v (.string s), .v (.int .u8 c)] => some (.v (.int .i64 (Lib.indexByte s.data.toList c.toNat.toUInt8)))
    | _ => none
  | _ => none
end Go.Abs.BB
end

section
set_option linter.unusedVariables false
set_option linter.unusedSimpArgs false
set_option linter.unusedSectionVars false
set_option linter.unusedVariables false
set_option maxRecDepth 100000
namespace Go.Abs.BB
/-- What the interpreter is told. -/
noncomputable def XX : X where
  P := Go.Proofs.Tryd.prog
  mode := fun f => look1 .data f [(3, .pure), (4, .pure), (5, .pure), (6, .pure), (7, .pure), (8, .pure), (9, .pure), (10, .pure), (11, .pure), (12, .pure), (13, .pure), (14, .pure), (15, .pure), (16, .pure), (18, .pure), (20, .pure), (21, .pure), (22, .pure), (23, .pure), (26, .pure), (27, .pure), (31, .pure)]
  trim := fun f r => look2 none f r [(3, 5, some ([0, 1, 5, 16, 17, 18], [])),
    (3, 14, some ([1, 8, 9, 32, 33, 34], [])),
    (3, 23, some ([1, 8, 9, 12, 32, 33, 34], [])),
    (4, 5, some ([0, 1, 2, 7, 18, 19, 20], [])),
    (4, 10, some ([0, 1, 2, 7, 9, 18, 19, 20, 40], [])),
    (4, 21, some ([0, 2, 7, 11, 12], [])),
    (4, 25, some ([0, 2, 7, 11, 12], [])),
    (5, 7, some ([1, 2, 7, 8, 30, 31], [])),
    (5, 16, some ([2, 7, 8, 10, 45, 46], [])),
    (8, 7, some ([0, 5, 6, 31, 32, 33], [])),
    (16, 12, some ([0], [])),
    (16, 13, some ([0, 6], [])),
    (16, 31, some ([0, 6, 8, 10, 11], [])),
    (18, 1, some ([0], [])),
    (21, 2, some ([0, 3], [])),
    (22, 2, some ([0, 1, 5], [])),
    (27, 5, some ([4, 15, 16, 17], []))]
  adopt := fun f => look1 [] f []
  cls := fun f r => look2 [] f r [(3, 21, [0, 0, 0, 0, 0, 0, 0, 0, 0, 2]),
    (5, 18, [0, 0, 0, 0, 0, 0, 0, 0, 0, 0, 0, 0, 0, 0, 0, 0]),
    (11, 1, [0, 0, 0, 0, 0, 0, 0, 0, 0, 2]),
    (16, 16, [0, 0, 0, 0, 0, 0, 0, 0, 0, 0, 0, 0, 0]),
    (16, 42, [0, 0, 0, 0, 0, 0, 0, 0, 0, 0, 0, 0, 0, 0, 0, 0, 0, 0, 2]),
    (18, 1, [0, 0, 0, 0, 0, 0, 0, 0, 0, 0, 0, 0, 0, 0]),
    (18, 22, [0, 0, 0, 0, 0, 0, 0, 0, 0, 0, 0, 0, 0, 0, 0, 0, 0, 0, 2])]
  fns := [3, 4, 5, 6, 7, 8, 9, 10, 11, 12, 13, 14, 15, 16, 18, 20, 21, 22, 23, 26, 27, 31]
  ext := extB
  live := fun f => look1 [] f [(3, [10, 11, 12]), (4, [10, 11, 14]), (5, [10, 11, 14]), (7, [10, 11, 14]), (8, [10, 11, 14]), (9, [10, 11, 14]), (12, [14, 16]), (14, [18, 20]), (16, [23]), (18, [20])]

theorem XX_P : XX.P = Go.Proofs.Tryd.prog := nr rfl
theorem mode_3 : XX.mode 3 = .pure := nr (by kernel_rfl)
theorem fns_3 : XX.fns.contains 3 = true := nr (by kernel_rfl)
theorem res_3 : Go.Proofs.Tryd.f3.results.toList = [.tmp 4] := nr rfl
theorem live_3 : XX.live 3 = [10, 11, 12] := nr (by kernel_rfl)
theorem adopt_3 : XX.adopt 3 = [] := nr (by kernel_rfl)
theorem cls_3_21 : XX.cls 3 21 = [0, 0, 0, 0, 0, 0, 0, 0, 0, 2] := nr (by kernel_rfl)
theorem tr_3_5 : XX.trim 3 5 = some ([0, 1, 5, 16, 17, 18], []) := nr (by kernel_rfl)
theorem trim_3_5 (d : AV) (l : List (Nat × AV)) (h : List Blk) (n : Nat) : trimA XX 3 5 n ⟨mkT 71 d l, h⟩ = gcK n (mkT 71 .junk [(0, lk d l 0), (1, lk d l 1), (5, lk d l 5), (16, lk d l 16), (17, lk d l 17), (18, lk d l 18)]) h := (trimA_keep tr_3_5 n _ h).trans (by rw [keep_mkT]; kernel_rfl)
/-- Function 3 at the head of loop 5. -/
abbrev S_3_5 (x0 x1 x5 x16 x17 x18 : AV) (h : List Blk) : St := ⟨mkT 71 .junk [(0, x0), (1, x1), (5, x5), (16, x16), (17, x17), (18, x18)], h⟩
theorem tr_3_14 : XX.trim 3 14 = some ([1, 8, 9, 32, 33, 34], []) := nr (by kernel_rfl)
theorem trim_3_14 (d : AV) (l : List (Nat × AV)) (h : List Blk) (n : Nat) : trimA XX 3 14 n ⟨mkT 71 d l, h⟩ = gcK n (mkT 71 .junk [(1, lk d l 1), (8, lk d l 8), (9, lk d l 9), (32, lk d l 32), (33, lk d l 33), (34, lk d l 34)]) h := (trimA_keep tr_3_14 n _ h).trans (by rw [keep_mkT]; kernel_rfl)
/-- Function 3 at the head of loop 14. -/
abbrev S_3_14 (x1 x8 x9 x32 x33 x34 : AV) (h : List Blk) : St := ⟨mkT 71 .junk [(1, x1), (8, x8), (9, x9), (32, x32), (33, x33), (34, x34)], h⟩
theorem tr_3_23 : XX.trim 3 23 = some ([1, 8, 9, 12, 32, 33, 34], []) := nr (by kernel_rfl)
theorem trim_3_23 (d : AV) (l : List (Nat × AV)) (h : List Blk) (n : Nat) : trimA XX 3 23 n ⟨mkT 71 d l, h⟩ = gcK n (mkT 71 .junk [(1, lk d l 1), (8, lk d l 8), (9, lk d l 9), (12, lk d l 12), (32, lk d l 32), (33, lk d l 33), (34, lk d l 34)]) h := (trimA_keep tr_3_23 n _ h).trans (by rw [keep_mkT]; kernel_rfl)
/-- Function 3 at the head of loop 23. -/
abbrev S_3_23 (x1 x8 x9 x12 x32 x33 x34 : AV) (h : List Blk) : St := ⟨mkT 71 .junk [(1, x1), (8, x8), (9, x9), (12, x12), (32, x32), (33, x33), (34, x34)], h⟩
theorem mode_4 : XX.mode 4 = .pure := nr (by kernel_rfl)
theorem fns_4 : XX.fns.contains 4 = true := nr (by kernel_rfl)
theorem res_4 : Go.Proofs.Tryd.f4.results.toList = [.tmp 6] := nr rfl
theorem live_4 : XX.live 4 = [10, 11, 14] := nr (by kernel_rfl)
theorem adopt_4 : XX.adopt 4 = [] := nr (by kernel_rfl)
theorem tr_4_5 : XX.trim 4 5 = some ([0, 1, 2, 7, 18, 19, 20], []) := nr (by kernel_rfl)
theorem trim_4_5 (d : AV) (l : List (Nat × AV)) (h : List Blk) (n : Nat) : trimA XX 4 5 n ⟨mkT 114 d l, h⟩ = gcK n (mkT 114 .junk [(0, lk d l 0), (1, lk d l 1), (2, lk d l 2), (7, lk d l 7), (18, lk d l 18), (19, lk d l 19), (20, lk d l 20)]) h := (trimA_keep tr_4_5 n _ h).trans (by rw [keep_mkT]; kernel_rfl)
/-- Function 4 at the head of loop 5. -/
abbrev S_4_5 (x0 x1 x2 x7 x18 x19 x20 : AV) (h : List Blk) : St := ⟨mkT 114 .junk [(0, x0), (1, x1), (2, x2), (7, x7), (18, x18), (19, x19), (20, x20)], h⟩
theorem tr_4_10 : XX.trim 4 10 = some ([0, 1, 2, 7, 9, 18, 19, 20, 40], []) := nr (by kernel_rfl)
theorem trim_4_10 (d : AV) (l : List (Nat × AV)) (h : List Blk) (n : Nat) : trimA XX 4 10 n ⟨mkT 114 d l, h⟩ = gcK n (mkT 114 .junk [(0, lk d l 0), (1, lk d l 1), (2, lk d l 2), (7, lk d l 7), (9, lk d l 9), (18, lk d l 18), (19, lk d l 19), (20, lk d l 20), (40, lk d l 40)]) h := (trimA_keep tr_4_10 n _ h).trans (by rw [keep_mkT]; kernel_rfl)
/-- Function 4 at the head of loop 10. -/
abbrev S_4_10 (x0 x1 x2 x7 x9 x18 x19 x20 x40 : AV) (h : List Blk) : St := ⟨mkT 114 .junk [(0, x0), (1, x1), (2, x2), (7, x7), (9, x9), (18, x18), (19, x19), (20, x20), (40, x40)], h⟩
theorem tr_4_21 : XX.trim 4 21 = some ([0, 2, 7, 11, 12], []) := nr (by kernel_rfl)
theorem trim_4_21 (d : AV) (l : List (Nat × AV)) (h : List Blk) (n : Nat) : trimA XX 4 21 n ⟨mkT 114 d l, h⟩ = gcK n (mkT 114 .junk [(0, lk d l 0), (2, lk d l 2), (7, lk d l 7), (11, lk d l 11), (12, lk d l 12)]) h := (trimA_keep tr_4_21 n _ h).trans (by rw [keep_mkT]; kernel_rfl)
/-- Function 4 at the head of loop 21. -/
abbrev S_4_21 (x0 x2 x7 x11 x12 : AV) (h : List Blk) : St := ⟨mkT 114 .junk [(0, x0), (2, x2), (7, x7), (11, x11), (12, x12)], h⟩
theorem tr_4_25 : XX.trim 4 25 = some ([0, 2, 7, 11, 12], []) := nr (by kernel_rfl)
theorem trim_4_25 (d : AV) (l : List (Nat × AV)) (h : List Blk) (n : Nat) : trimA XX 4 25 n ⟨mkT 114 d l, h⟩ = gcK n (mkT 114 .junk [(0, lk d l 0), (2, lk d l 2), (7, lk d l 7), (11, lk d l 11), (12, lk d l 12)]) h := (trimA_keep tr_4_25 n _ h).trans (by rw [keep_mkT]; kernel_rfl)
/-- Function 4 at the head of loop 25. -/
abbrev S_4_25 (x0 x2 x7 x11 x12 : AV) (h : List Blk) : St := ⟨mkT 114 .junk [(0, x0), (2, x2), (7, x7), (11, x11), (12, x12)], h⟩
theorem mode_5 : XX.mode 5 = .pure := nr (by kernel_rfl)
theorem fns_5 : XX.fns.contains 5 = true := nr (by kernel_rfl)
theorem res_5 : Go.Proofs.Tryd.f5.results.toList = [.tmp 6] := nr rfl
theorem live_5 : XX.live 5 = [10, 11, 14] := nr (by kernel_rfl)
theorem adopt_5 : XX.adopt 5 = [] := nr (by kernel_rfl)
theorem cls_5_18 : XX.cls 5 18 = [0, 0, 0, 0, 0, 0, 0, 0, 0, 0, 0, 0, 0, 0, 0, 0] := nr (by kernel_rfl)
theorem tr_5_7 : XX.trim 5 7 = some ([1, 2, 7, 8, 30, 31], []) := nr (by kernel_rfl)
theorem trim_5_7 (d : AV) (l : List (Nat × AV)) (h : List Blk) (n : Nat) : trimA XX 5 7 n ⟨mkT 121 d l, h⟩ = gcK n (mkT 121 .junk [(1, lk d l 1), (2, lk d l 2), (7, lk d l 7), (8, lk d l 8), (30, lk d l 30), (31, lk d l 31)]) h := (trimA_keep tr_5_7 n _ h).trans (by rw [keep_mkT]; kernel_rfl)
/-- Function 5 at the head of loop 7. -/
abbrev S_5_7 (x1 x2 x7 x8 x30 x31 : AV) (h : List Blk) : St := ⟨mkT 121 .junk [(1, x1), (2, x2), (7, x7), (8, x8), (30, x30), (31, x31)], h⟩
theorem tr_5_16 : XX.trim 5 16 = some ([2, 7, 8, 10, 45, 46], []) := nr (by kernel_rfl)
theorem trim_5_16 (d : AV) (l : List (Nat × AV)) (h : List Blk) (n : Nat) : trimA XX 5 16 n ⟨mkT 121 d l, h⟩ = gcK n (mkT 121 .junk [(2, lk d l 2), (7, lk d l 7), (8, lk d l 8), (10, lk d l 10), (45, lk d l 45), (46, lk d l 46)]) h := (trimA_keep tr_5_16 n _ h).trans (by rw [keep_mkT]; kernel_rfl)
/-- Function 5 at the head of loop 16. -/
abbrev S_5_16 (x2 x7 x8 x10 x45 x46 : AV) (h : List Blk) : St := ⟨mkT 121 .junk [(2, x2), (7, x7), (8, x8), (10, x10), (45, x45), (46, x46)], h⟩
theorem mode_6 : XX.mode 6 = .pure := nr (by kernel_rfl)
theorem fns_6 : XX.fns.contains 6 = true := nr (by kernel_rfl)
theorem res_6 : Go.Proofs.Tryd.f6.results.toList = [.tmp 4] := nr rfl
theorem live_6 : XX.live 6 = [] := nr (by kernel_rfl)
theorem adopt_6 : XX.adopt 6 = [] := nr (by kernel_rfl)
theorem mode_7 : XX.mode 7 = .pure := nr (by kernel_rfl)
theorem fns_7 : XX.fns.contains 7 = true := nr (by kernel_rfl)
theorem res_7 : Go.Proofs.Tryd.f7.results.toList = [.tmp 2] := nr rfl
theorem live_7 : XX.live 7 = [10, 11, 14] := nr (by kernel_rfl)
theorem adopt_7 : XX.adopt 7 = [] := nr (by kernel_rfl)
theorem mode_8 : XX.mode 8 = .pure := nr (by kernel_rfl)
theorem fns_8 : XX.fns.contains 8 = true := nr (by kernel_rfl)
theorem res_8 : Go.Proofs.Tryd.f8.results.toList = [.tmp 4] := nr rfl
theorem live_8 : XX.live 8 = [10, 11, 14] := nr (by kernel_rfl)
theorem adopt_8 : XX.adopt 8 = [] := nr (by kernel_rfl)
theorem tr_8_7 : XX.trim 8 7 = some ([0, 5, 6, 31, 32, 33], []) := nr (by kernel_rfl)
theorem trim_8_7 (d : AV) (l : List (Nat × AV)) (h : List Blk) (n : Nat) : trimA XX 8 7 n ⟨mkT 95 d l, h⟩ = gcK n (mkT 95 .junk [(0, lk d l 0), (5, lk d l 5), (6, lk d l 6), (31, lk d l 31), (32, lk d l 32), (33, lk d l 33)]) h := (trimA_keep tr_8_7 n _ h).trans (by rw [keep_mkT]; kernel_rfl)
/-- Function 8 at the head of loop 7. -/
abbrev S_8_7 (x0 x5 x6 x31 x32 x33 : AV) (h : List Blk) : St := ⟨mkT 95 .junk [(0, x0), (5, x5), (6, x6), (31, x31), (32, x32), (33, x33)], h⟩
theorem mode_9 : XX.mode 9 = .pure := nr (by kernel_rfl)
theorem fns_9 : XX.fns.contains 9 = true := nr (by kernel_rfl)
theorem res_9 : Go.Proofs.Tryd.f9.results.toList = [.tmp 0] := nr rfl
theorem live_9 : XX.live 9 = [10, 11, 14] := nr (by kernel_rfl)
theorem adopt_9 : XX.adopt 9 = [] := nr (by kernel_rfl)
theorem mode_10 : XX.mode 10 = .pure := nr (by kernel_rfl)
theorem fns_10 : XX.fns.contains 10 = true := nr (by kernel_rfl)
theorem res_10 : Go.Proofs.Tryd.f10.results.toList = [] := nr rfl
theorem live_10 : XX.live 10 = [] := nr (by kernel_rfl)
theorem adopt_10 : XX.adopt 10 = [] := nr (by kernel_rfl)
theorem mode_11 : XX.mode 11 = .pure := nr (by kernel_rfl)
theorem fns_11 : XX.fns.contains 11 = true := nr (by kernel_rfl)
theorem res_11 : Go.Proofs.Tryd.f11.results.toList = [] := nr rfl
theorem live_11 : XX.live 11 = [] := nr (by kernel_rfl)
theorem adopt_11 : XX.adopt 11 = [] := nr (by kernel_rfl)
theorem cls_11_1 : XX.cls 11 1 = [0, 0, 0, 0, 0, 0, 0, 0, 0, 2] := nr (by kernel_rfl)
theorem mode_12 : XX.mode 12 = .pure := nr (by kernel_rfl)
theorem fns_12 : XX.fns.contains 12 = true := nr (by kernel_rfl)
theorem res_12 : Go.Proofs.Tryd.f12.results.toList = [.tmp 4, .tmp 5] := nr rfl
theorem live_12 : XX.live 12 = [14, 16] := nr (by kernel_rfl)
theorem adopt_12 : XX.adopt 12 = [] := nr (by kernel_rfl)
theorem mode_13 : XX.mode 13 = .pure := nr (by kernel_rfl)
theorem fns_13 : XX.fns.contains 13 = true := nr (by kernel_rfl)
theorem res_13 : Go.Proofs.Tryd.f13.results.toList = [.tmp 4] := nr rfl
theorem live_13 : XX.live 13 = [] := nr (by kernel_rfl)
theorem adopt_13 : XX.adopt 13 = [] := nr (by kernel_rfl)
theorem mode_14 : XX.mode 14 = .pure := nr (by kernel_rfl)
theorem fns_14 : XX.fns.contains 14 = true := nr (by kernel_rfl)
theorem res_14 : Go.Proofs.Tryd.f14.results.toList = [.tmp 2, .tmp 3] := nr rfl
theorem live_14 : XX.live 14 = [18, 20] := nr (by kernel_rfl)
theorem adopt_14 : XX.adopt 14 = [] := nr (by kernel_rfl)
theorem mode_15 : XX.mode 15 = .pure := nr (by kernel_rfl)
theorem fns_15 : XX.fns.contains 15 = true := nr (by kernel_rfl)
theorem res_15 : Go.Proofs.Tryd.f15.results.toList = [.tmp 4] := nr rfl
theorem live_15 : XX.live 15 = [] := nr (by kernel_rfl)
theorem adopt_15 : XX.adopt 15 = [] := nr (by kernel_rfl)
theorem mode_16 : XX.mode 16 = .pure := nr (by kernel_rfl)
theorem fns_16 : XX.fns.contains 16 = true := nr (by kernel_rfl)
theorem res_16 : Go.Proofs.Tryd.f16.results.toList = [.tmp 2, .tmp 3] := nr rfl
theorem live_16 : XX.live 16 = [23] := nr (by kernel_rfl)
theorem adopt_16 : XX.adopt 16 = [] := nr (by kernel_rfl)
theorem cls_16_16 : XX.cls 16 16 = [0, 0, 0, 0, 0, 0, 0, 0, 0, 0, 0, 0, 0] := nr (by kernel_rfl)
theorem cls_16_42 : XX.cls 16 42 = [0, 0, 0, 0, 0, 0, 0, 0, 0, 0, 0, 0, 0, 0, 0, 0, 0, 0, 2] := nr (by kernel_rfl)
theorem tr_16_12 : XX.trim 16 12 = some ([0], []) := nr (by kernel_rfl)
theorem trim_16_12 (d : AV) (l : List (Nat × AV)) (h : List Blk) (n : Nat) : trimA XX 16 12 n ⟨mkT 256 d l, h⟩ = gcK n (mkT 256 .junk [(0, lk d l 0)]) h := (trimA_keep tr_16_12 n _ h).trans (by rw [keep_mkT]; kernel_rfl)
/-- Function 16 at the head of loop 12. -/
abbrev S_16_12 (x0 : AV) (h : List Blk) : St := ⟨mkT 256 .junk [(0, x0)], h⟩
theorem tr_16_13 : XX.trim 16 13 = some ([0, 6], []) := nr (by kernel_rfl)
theorem trim_16_13 (d : AV) (l : List (Nat × AV)) (h : List Blk) (n : Nat) : trimA XX 16 13 n ⟨mkT 256 d l, h⟩ = gcK n (mkT 256 .junk [(0, lk d l 0), (6, lk d l 6)]) h := (trimA_keep tr_16_13 n _ h).trans (by rw [keep_mkT]; kernel_rfl)
/-- Function 16 at the head of loop 13. -/
abbrev S_16_13 (x0 x6 : AV) (h : List Blk) : St := ⟨mkT 256 .junk [(0, x0), (6, x6)], h⟩
theorem tr_16_31 : XX.trim 16 31 = some ([0, 6, 8, 10, 11], []) := nr (by kernel_rfl)
theorem trim_16_31 (d : AV) (l : List (Nat × AV)) (h : List Blk) (n : Nat) : trimA XX 16 31 n ⟨mkT 256 d l, h⟩ = gcK n (mkT 256 .junk [(0, lk d l 0), (6, lk d l 6), (8, lk d l 8), (10, lk d l 10), (11, lk d l 11)]) h := (trimA_keep tr_16_31 n _ h).trans (by rw [keep_mkT]; kernel_rfl)
/-- Function 16 at the head of loop 31. -/
abbrev S_16_31 (x0 x6 x8 x10 x11 : AV) (h : List Blk) : St := ⟨mkT 256 .junk [(0, x0), (6, x6), (8, x8), (10, x10), (11, x11)], h⟩
theorem mode_18 : XX.mode 18 = .pure := nr (by kernel_rfl)
theorem fns_18 : XX.fns.contains 18 = true := nr (by kernel_rfl)
theorem res_18 : Go.Proofs.Tryd.f18.results.toList = [.tmp 2, .tmp 3] := nr rfl
theorem live_18 : XX.live 18 = [20] := nr (by kernel_rfl)
theorem adopt_18 : XX.adopt 18 = [] := nr (by kernel_rfl)
theorem cls_18_1 : XX.cls 18 1 = [0, 0, 0, 0, 0, 0, 0, 0, 0, 0, 0, 0, 0, 0] := nr (by kernel_rfl)
theorem cls_18_22 : XX.cls 18 22 = [0, 0, 0, 0, 0, 0, 0, 0, 0, 0, 0, 0, 0, 0, 0, 0, 0, 0, 2] := nr (by kernel_rfl)
theorem tr_18_1 : XX.trim 18 1 = some ([0], []) := nr (by kernel_rfl)
theorem trim_18_1 (d : AV) (l : List (Nat × AV)) (h : List Blk) (n : Nat) : trimA XX 18 1 n ⟨mkT 157 d l, h⟩ = gcK n (mkT 157 .junk [(0, lk d l 0)]) h := (trimA_keep tr_18_1 n _ h).trans (by rw [keep_mkT]; kernel_rfl)
/-- Function 18 at the head of loop 1. -/
abbrev S_18_1 (x0 : AV) (h : List Blk) : St := ⟨mkT 157 .junk [(0, x0)], h⟩
theorem mode_20 : XX.mode 20 = .pure := nr (by kernel_rfl)
theorem fns_20 : XX.fns.contains 20 = true := nr (by kernel_rfl)
theorem res_20 : Go.Proofs.Tryd.f20.results.toList = [.tmp 4, .tmp 5] := nr rfl
theorem live_20 : XX.live 20 = [] := nr (by kernel_rfl)
theorem adopt_20 : XX.adopt 20 = [] := nr (by kernel_rfl)
theorem mode_21 : XX.mode 21 = .pure := nr (by kernel_rfl)
theorem fns_21 : XX.fns.contains 21 = true := nr (by kernel_rfl)
theorem res_21 : Go.Proofs.Tryd.f21.results.toList = [.tmp 2] := nr rfl
theorem live_21 : XX.live 21 = [] := nr (by kernel_rfl)
theorem adopt_21 : XX.adopt 21 = [] := nr (by kernel_rfl)
theorem tr_21_2 : XX.trim 21 2 = some ([0, 3], []) := nr (by kernel_rfl)
theorem trim_21_2 (d : AV) (l : List (Nat × AV)) (h : List Blk) (n : Nat) : trimA XX 21 2 n ⟨mkT 17 d l, h⟩ = gcK n (mkT 17 .junk [(0, lk d l 0), (3, lk d l 3)]) h := (trimA_keep tr_21_2 n _ h).trans (by rw [keep_mkT]; kernel_rfl)
/-- Function 21 at the head of loop 2. -/
abbrev S_21_2 (x0 x3 : AV) (h : List Blk) : St := ⟨mkT 17 .junk [(0, x0), (3, x3)], h⟩
theorem mode_22 : XX.mode 22 = .pure := nr (by kernel_rfl)
theorem fns_22 : XX.fns.contains 22 = true := nr (by kernel_rfl)
theorem res_22 : Go.Proofs.Tryd.f22.results.toList = [.tmp 4] := nr rfl
theorem live_22 : XX.live 22 = [] := nr (by kernel_rfl)
theorem adopt_22 : XX.adopt 22 = [] := nr (by kernel_rfl)
theorem tr_22_2 : XX.trim 22 2 = some ([0, 1, 5], []) := nr (by kernel_rfl)
theorem trim_22_2 (d : AV) (l : List (Nat × AV)) (h : List Blk) (n : Nat) : trimA XX 22 2 n ⟨mkT 25 d l, h⟩ = gcK n (mkT 25 .junk [(0, lk d l 0), (1, lk d l 1), (5, lk d l 5)]) h := (trimA_keep tr_22_2 n _ h).trans (by rw [keep_mkT]; kernel_rfl)
/-- Function 22 at the head of loop 2. -/
abbrev S_22_2 (x0 x1 x5 : AV) (h : List Blk) : St := ⟨mkT 25 .junk [(0, x0), (1, x1), (5, x5)], h⟩
theorem mode_23 : XX.mode 23 = .pure := nr (by kernel_rfl)
theorem fns_23 : XX.fns.contains 23 = true := nr (by kernel_rfl)
theorem res_23 : Go.Proofs.Tryd.f23.results.toList = [.tmp 4, .tmp 5] := nr rfl
theorem live_23 : XX.live 23 = [] := nr (by kernel_rfl)
theorem adopt_23 : XX.adopt 23 = [] := nr (by kernel_rfl)
theorem mode_26 : XX.mode 26 = .pure := nr (by kernel_rfl)
theorem fns_26 : XX.fns.contains 26 = true := nr (by kernel_rfl)
theorem res_26 : Go.Proofs.Tryd.f26.results.toList = [.tmp 4] := nr rfl
theorem live_26 : XX.live 26 = [] := nr (by kernel_rfl)
theorem adopt_26 : XX.adopt 26 = [] := nr (by kernel_rfl)
theorem mode_27 : XX.mode 27 = .pure := nr (by kernel_rfl)
theorem fns_27 : XX.fns.contains 27 = true := nr (by kernel_rfl)
theorem res_27 : Go.Proofs.Tryd.f27.results.toList = [.tmp 2, .tmp 3] := nr rfl
theorem live_27 : XX.live 27 = [] := nr (by kernel_rfl)
theorem adopt_27 : XX.adopt 27 = [] := nr (by kernel_rfl)
theorem tr_27_5 : XX.trim 27 5 = some ([4, 15, 16, 17], []) := nr (by kernel_rfl)
theorem trim_27_5 (d : AV) (l : List (Nat × AV)) (h : List Blk) (n : Nat) : trimA XX 27 5 n ⟨mkT 35 d l, h⟩ = gcK n (mkT 35 .junk [(4, lk d l 4), (15, lk d l 15), (16, lk d l 16), (17, lk d l 17)]) h := (trimA_keep tr_27_5 n _ h).trans (by rw [keep_mkT]; kernel_rfl)
/-- Function 27 at the head of loop 5. -/
abbrev S_27_5 (x4 x15 x16 x17 : AV) (h : List Blk) : St := ⟨mkT 35 .junk [(4, x4), (15, x15), (16, x16), (17, x17)], h⟩
theorem mode_31 : XX.mode 31 = .pure := nr (by kernel_rfl)
theorem fns_31 : XX.fns.contains 31 = true := nr (by kernel_rfl)
theorem res_31 : Go.Proofs.Tryd.f31.results.toList = [.tmp 4] := nr rfl
theorem live_31 : XX.live 31 = [] := nr (by kernel_rfl)
theorem adopt_31 : XX.adopt 31 = [] := nr (by kernel_rfl)
theorem ty_0 : tyOf Go.Proofs.Tryd.prog 0 = Option.some { d := Go.Abs.TD.other, size := 1, bytes := 0, zero := Option.some (Go.Value.tuple #[]) } := nr (by kernel_rfl)
theorem ty_1 : tyOf Go.Proofs.Tryd.prog 1 = Option.some { d := Go.Abs.TD.other, size := 1, bytes := 8, zero := Option.some Go.Value.nilFunc } := nr (by kernel_rfl)
theorem zero_1 : zeroA Go.Proofs.Tryd.prog 1 = some [.v (Go.Value.nilFunc)] := nr (by kernel_rfl)
theorem ty_2 : tyOf Go.Proofs.Tryd.prog 2 = Option.some { d := Go.Abs.TD.int Go.IntKind.i64, size := 1, bytes := 8, zero := Option.some (Go.Value.int Go.IntKind.i64 0) } := nr (by kernel_rfl)
theorem zero_2 : zeroA Go.Proofs.Tryd.prog 2 = some [.v (Go.Value.int Go.IntKind.i64 0)] := nr (by kernel_rfl)
theorem ty_3 : tyOf Go.Proofs.Tryd.prog 3 = Option.some { d := Go.Abs.TD.int Go.IntKind.i64, size := 1, bytes := 8, zero := Option.some (Go.Value.int Go.IntKind.i64 0) } := nr (by kernel_rfl)
theorem zero_3 : zeroA Go.Proofs.Tryd.prog 3 = some [.v (Go.Value.int Go.IntKind.i64 0)] := nr (by kernel_rfl)
theorem ty_4 : tyOf Go.Proofs.Tryd.prog 4 = Option.some { d := Go.Abs.TD.bool, size := 1, bytes := 1, zero := Option.some (Go.Value.bool Bool.false) } := nr (by kernel_rfl)
theorem zero_4 : zeroA Go.Proofs.Tryd.prog 4 = some [.v (Go.Value.bool Bool.false)] := nr (by kernel_rfl)
theorem ty_5 : tyOf Go.Proofs.Tryd.prog 5 = Option.some { d := Go.Abs.TD.int Go.IntKind.u8, size := 1, bytes := 1, zero := Option.some (Go.Value.int Go.IntKind.u8 0) } := nr (by kernel_rfl)
theorem zero_5 : zeroA Go.Proofs.Tryd.prog 5 = some [.v (Go.Value.int Go.IntKind.u8 0)] := nr (by kernel_rfl)
theorem ty_6 : tyOf Go.Proofs.Tryd.prog 6 = Option.some { d := Go.Abs.TD.int Go.IntKind.u8, size := 1, bytes := 1, zero := Option.some (Go.Value.int Go.IntKind.u8 0) } := nr (by kernel_rfl)
theorem zero_6 : zeroA Go.Proofs.Tryd.prog 6 = some [.v (Go.Value.int Go.IntKind.u8 0)] := nr (by kernel_rfl)
theorem ty_9 : tyOf Go.Proofs.Tryd.prog 9 = Option.some { d := Go.Abs.TD.str, size := 1, bytes := 16, zero := Option.some (Go.Value.string { data := #[] }) } := nr (by kernel_rfl)
theorem zero_9 : zeroA Go.Proofs.Tryd.prog 9 = some [.v (Go.Value.string { data := #[] })] := nr (by kernel_rfl)
theorem ty_22 : tyOf Go.Proofs.Tryd.prog 22 = Option.some { d := Go.Abs.TD.slice 24, size := 1, bytes := 24, zero := Option.some (Go.Value.slice Option.none 0 0) } := nr (by kernel_rfl)
theorem zero_22 : zeroA Go.Proofs.Tryd.prog 22 = some [.fs [] true] := nr (by kernel_rfl)
theorem ty_24 : tyOf Go.Proofs.Tryd.prog 24 = Option.some { d := Go.Abs.TD.slice 5, size := 1, bytes := 24, zero := Option.some (Go.Value.slice Option.none 0 0) } := nr (by kernel_rfl)
theorem zero_24 : zeroA Go.Proofs.Tryd.prog 24 = some [.fs [] true] := nr (by kernel_rfl)
theorem ty_25 : tyOf Go.Proofs.Tryd.prog 25 = Option.some { d := Go.Abs.TD.int Go.IntKind.i64, size := 1, bytes := 8, zero := Option.some (Go.Value.int Go.IntKind.i64 0) } := nr (by kernel_rfl)
theorem zero_25 : zeroA Go.Proofs.Tryd.prog 25 = some [.v (Go.Value.int Go.IntKind.i64 0)] := nr (by kernel_rfl)
theorem ty_27 : tyOf Go.Proofs.Tryd.prog 27 = Option.some { d := Go.Abs.TD.struct [(0, 4), (1, 9), (2, 9), (3, 4), (4, 25)], size := 5, bytes := 56, zero := Option.some (Go.Value.agg #[Go.Value.bool Bool.false, Go.Value.string { data := #[] }, Go.Value.string { data := #[] }, Go.Value.bool Bool.false, Go.Value.int Go.IntKind.i64 0]) } := nr (by kernel_rfl)
theorem zero_27 : zeroA Go.Proofs.Tryd.prog 27 = some [.v (Go.Value.bool Bool.false), .v (Go.Value.string { data := #[] }), .v (Go.Value.string { data := #[] }), .v (Go.Value.bool Bool.false), .v (Go.Value.int Go.IntKind.i64 0)] := nr (by kernel_rfl)
theorem ty_28 : tyOf Go.Proofs.Tryd.prog 28 = Option.some { d := Go.Abs.TD.ptr 30, size := 1, bytes := 8, zero := Option.some (Go.Value.pointer Option.none) } := nr (by kernel_rfl)
theorem zero_28 : zeroA Go.Proofs.Tryd.prog 28 = some [.v (Go.Value.pointer Option.none)] := nr (by kernel_rfl)
theorem ty_30 : tyOf Go.Proofs.Tryd.prog 30 = Option.some { d := Go.Abs.TD.struct [(0, 4), (1, 9), (2, 9), (3, 4), (4, 4)], size := 5, bytes := 48, zero := Option.some (Go.Value.agg #[Go.Value.bool Bool.false, Go.Value.string { data := #[] }, Go.Value.string { data := #[] }, Go.Value.bool Bool.false, Go.Value.bool Bool.false]) } := nr (by kernel_rfl)
theorem zero_30 : zeroA Go.Proofs.Tryd.prog 30 = some [.v (Go.Value.bool Bool.false), .v (Go.Value.string { data := #[] }), .v (Go.Value.string { data := #[] }), .v (Go.Value.bool Bool.false), .v (Go.Value.bool Bool.false)] := nr (by kernel_rfl)
theorem ty_34 : tyOf Go.Proofs.Tryd.prog 34 = Option.some { d := Go.Abs.TD.ptr 27, size := 1, bytes := 8, zero := Option.some (Go.Value.pointer Option.none) } := nr (by kernel_rfl)
theorem zero_34 : zeroA Go.Proofs.Tryd.prog 34 = some [.v (Go.Value.pointer Option.none)] := nr (by kernel_rfl)
theorem ty_36 : tyOf Go.Proofs.Tryd.prog 36 = Option.some { d := Go.Abs.TD.slice 9, size := 1, bytes := 24, zero := Option.some (Go.Value.slice Option.none 0 0) } := nr (by kernel_rfl)
theorem zero_36 : zeroA Go.Proofs.Tryd.prog 36 = some [.fs [] true] := nr (by kernel_rfl)
theorem ty_44 : tyOf Go.Proofs.Tryd.prog 44 = Option.some { d := Go.Abs.TD.slice 3, size := 1, bytes := 24, zero := Option.some (Go.Value.slice Option.none 0 0) } := nr (by kernel_rfl)
theorem zero_44 : zeroA Go.Proofs.Tryd.prog 44 = some [.fs [] true] := nr (by kernel_rfl)
attribute [go_sem] XX_P mode_3 res_3 live_3 adopt_3 cls_3_21 trim_3_5 trim_3_14 trim_3_23 mode_4 res_4 live_4 adopt_4 trim_4_5 trim_4_10 trim_4_21 trim_4_25 mode_5 res_5 live_5 adopt_5 cls_5_18 trim_5_7 trim_5_16 mode_6 res_6 live_6 adopt_6 mode_7 res_7 live_7 adopt_7 mode_8 res_8 live_8 adopt_8 trim_8_7 mode_9 res_9 live_9 adopt_9 mode_10 res_10 live_10 adopt_10 mode_11 res_11 live_11 adopt_11 cls_11_1 mode_12 res_12 live_12 adopt_12 mode_13 res_13 live_13 adopt_13 mode_14 res_14 live_14 adopt_14 mode_15 res_15 live_15 adopt_15 mode_16 res_16 live_16 adopt_16 cls_16_16 cls_16_42 trim_16_12 trim_16_13 trim_16_31 mode_18 res_18 live_18 adopt_18 cls_18_1 cls_18_22 trim_18_1 mode_20 res_20 live_20 adopt_20 mode_21 res_21 live_21 adopt_21 trim_21_2 mode_22 res_22 live_22 adopt_22 trim_22_2 mode_23 res_23 live_23 adopt_23 mode_26 res_26 live_26 adopt_26 mode_27 res_27 live_27 adopt_27 trim_27_5 mode_31 res_31 live_31 adopt_31 ty_0 ty_1 zero_1 ty_2 zero_2 ty_3 zero_3 ty_4 zero_4 ty_5 zero_5 ty_6 zero_6 ty_9 zero_9 ty_22 zero_22 ty_24 zero_24 ty_25 zero_25 ty_27 zero_27 ty_28 zero_28 ty_30 zero_30 ty_34 zero_34 ty_36 zero_36 ty_44 zero_44 Go.Proofs.Tryd.ntmps3 Go.Proofs.Tryd.ntmps4 Go.Proofs.Tryd.ntmps5 Go.Proofs.Tryd.ntmps6 Go.Proofs.Tryd.ntmps7 Go.Proofs.Tryd.ntmps8 Go.Proofs.Tryd.ntmps9 Go.Proofs.Tryd.ntmps10 Go.Proofs.Tryd.ntmps11 Go.Proofs.Tryd.ntmps12 Go.Proofs.Tryd.ntmps13 Go.Proofs.Tryd.ntmps14 Go.Proofs.Tryd.ntmps15 Go.Proofs.Tryd.ntmps16 Go.Proofs.Tryd.ntmps18 Go.Proofs.Tryd.ntmps20 Go.Proofs.Tryd.ntmps21 Go.Proofs.Tryd.ntmps22 Go.Proofs.Tryd.ntmps23 Go.Proofs.Tryd.ntmps26 Go.Proofs.Tryd.ntmps27 Go.Proofs.Tryd.ntmps31
end Go.Abs.BB
end
