/- YtgpadcipdbifkaaA4: a part of the interpreter by which the claim is shown, and of the walks: no conditions of its own: every theorem states its own. -/
import Derived.Test.YtgpadcipdbifkaaA3
import Derived.Test.YtgpadcipdbifkaaProg
section
set_option linter.unusedVariables false
set_option linter.unusedSimpArgs false
set_option linter.unusedVariables false
set_option maxRecDepth 100000
namespace Go.Abs.SA
/-- What the interpreter is told. -/
noncomputable def XX : X where
  P := Go.Proofs.Try.prog
  mode := fun f => look1 .data f [(3, .pure), (4, .pure), (5, .pure), (6, .pure), (7, .pure), (8, .pure), (9, .pure), (10, .pure), (11, .pure), (12, .pure), (14, .pure), (15, .pure), (18, .pure), (19, .pure), (21, .pure), (22, .pure), (24, .pure), (28, .pure), (29, .pure), (31, .pure), (33, .pure), (34, .pure), (37, .pure), (38, .pure), (39, .pure), (40, .pure), (41, .pure), (47, .pure), (48, .pure), (49, .pure), (50, .pure), (51, .pure), (52, .pure), (53, .pure), (54, .pure), (55, .pure), (56, .pure), (59, .pure), (60, .pure), (61, .pure), (62, .fresh), (63, .fresh), (67, .pure), (68, .pure), (69, .pure), (71, .pure), (72, .pure), (73, .pure), (74, .pure), (75, .pure)]
  trim := fun f r => look2 none f r [(7, 9, some ([3, 7, 9, 11, 41, 42, 43], [])),
    (8, 9, some ([1, 5, 7, 8, 29, 30, 31], [])),
    (8, 15, some ([1, 5, 7, 8, 11, 42, 43, 44], [])),
    (10, 8, some ([1, 5, 7, 32, 33, 34], [])),
    (10, 15, some ([1, 5, 7, 9, 11, 13, 32, 33, 34, 55, 56, 57], [])),
    (10, 27, some ([7, 108, 109, 110], [])),
    (14, 3, some ([3, 7, 8, 9], [])),
    (15, 4, some ([0, 1, 5], [])),
    (16, 3, some ([1, 3, 4, 9, 13, 14, 15], [])),
    (17, 3, some ([1, 2, 3, 4, 9, 10], [])),
    (19, 2, some ([1, 2, 3, 4, 12, 13, 14], [])),
    (20, 3, some ([1, 3, 4, 5, 11, 15, 16, 17], [])),
    (24, 2, some ([1, 7, 8, 9], [])),
    (28, 2, some ([1, 3, 4, 5, 6, 24, 25, 26], [])),
    (28, 6, some ([1, 3, 4, 5, 6, 14, 15, 24, 25, 26, 40, 41, 42], [])),
    (28, 22, some ([1, 3, 4, 5, 6, 14, 15, 24, 25, 26, 100, 101, 102], [])),
    (29, 2, some ([1, 2, 3, 4, 5, 6, 13], [])),
    (29, 8, some ([1, 2, 3, 4, 5, 6, 15], [])),
    (30, 3, some ([1, 5, 8, 9, 10], [])),
    (32, 3, some ([3, 6, 11, 12, 13], [])),
    (33, 2, some ([0, 2, 11, 12, 13], [])),
    (34, 2, some ([1, 6, 7, 8], [])),
    (35, 3, some ([0, 1, 6, 7, 8], [])),
    (37, 2, some ([1, 2, 3, 4, 9], [])),
    (39, 4, some ([0, 1, 12, 13], [])),
    (40, 4, some ([1, 2, 15, 16, 17], [])),
    (43, 3, some ([0, 2, 7, 16, 17, 18], [])),
    (43, 7, some ([0, 2, 7, 8, 9, 10, 16, 17, 18, 27, 28, 29], [])),
    (44, 3, some ([0, 5, 9, 10, 11], [])),
    (45, 3, some ([0, 1, 5, 6], [])),
    (46, 3, some ([0, 1, 2, 7, 8], [])),
    (46, 7, some ([0, 1, 2, 7, 8, 9, 10], [])),
    (48, 4, some ([1, 2, 4, 5, 21, 22, 23], [])),
    (49, 2, some ([0, 1, 5], [])),
    (50, 3, some ([1, 3, 5, 7, 9], [])),
    (51, 2, some ([1, 2, 3, 4, 5, 11], [])),
    (52, 2, some ([0, 1, 7, 8], [])),
    (54, 2, some ([0, 1, 7, 8], [])),
    (56, 4, some ([1, 2, 5], [])),
    (56, 16, some ([6, 7], [])),
    (57, 3, some ([2, 3, 6, 7], [])),
    (57, 7, some ([2, 3, 6, 7, 8, 9], [])),
    (58, 3, some ([0, 1, 5, 6], [5])),
    (58, 6, some ([0, 1, 5, 6, 7], [])),
    (59, 2, some ([0, 1, 5], [])),
    (60, 4, some ([0, 1, 5], [])),
    (61, 2, some ([0, 1, 7, 8], [])),
    (63, 9, some ([0, 1, 5, 37, 38], [])),
    (64, 12, some ([3, 4, 7, 8, 9, 52, 53, 54], [])),
    (64, 28, some ([3, 8, 119, 120, 121], [])),
    (65, 3, some ([2, 3, 4, 5, 6], [])),
    (66, 11, some ([3, 4, 5, 6, 7, 8, 9, 10], [])),
    (66, 26, some ([3, 4, 6, 7, 9, 14, 15], [])),
    (66, 33, some ([3, 4, 6, 7, 14, 16], [])),
    (68, 2, some ([0, 1, 5], [])),
    (74, 2, some ([1, 2, 3, 7], [])),
    (75, 2, some ([0, 1, 7, 8], []))]
  adopt := fun f => look1 [] f [(8, [8, 11]), (10, [13]), (16, [9]), (17, [9]), (20, [11]), (30, [5]), (32, [6]), (35, [6, 7]), (44, [5]), (45, [5]), (57, [6]), (64, [7]), (66, [8])]
  cls := fun f r => look2 [] f r [(3, 6, [0, 0, 0, 0, 0, 0, 0, 0, 0, 0, 0, 0, 0, 0, 0, 0, 0, 0, 0, 0, 0, 0, 0]),
    (4, 14, [0, 0, 0, 0, 0, 0, 0, 0, 0, 0, 0, 0, 0, 0, 0, 0, 0, 0, 0, 0, 0, 0, 0, 0, 0, 0, 0, 0, 0, 0, 0, 0, 0]),
    (5, 8, [0, 0, 0, 0, 0, 0, 0, 0, 0, 0]),
    (10, 29, [0, 0, 0, 0, 0, 0, 0, 0, 0, 0, 0, 0, 0, 0]),
    (15, 6, [0, 0, 0, 0, 0, 0, 0, 0, 0, 0, 0, 0, 0, 0, 0, 0, 0, 0, 0, 0, 0, 0, 0, 0, 0, 0, 0, 0, 0, 0, 0, 0, 0, 0, 0, 0, 0, 0]),
    (16, 5, [0, 0, 0, 0, 0, 0, 0, 0, 0, 2, 0]),
    (17, 7, [0, 0, 0, 0, 0, 0, 0, 0, 0, 0, 0, 0, 0, 0, 0, 0, 0, 0, 0, 0, 0, 0, 2, 0]),
    (19, 4, [0, 0, 0, 0, 0, 0, 0, 0, 0, 0, 0, 0, 0, 0, 0, 0, 0, 0, 0, 0, 0, 0, 0, 0, 0, 0, 0, 0, 0, 0, 0, 0, 0, 0, 0, 0]),
    (20, 5, [0, 1, 0, 0, 0, 2, 0]),
    (25, 7, [0, 0, 0, 0, 0, 0, 0, 0, 0, 0, 0, 1, 2]),
    (25, 9, [0, 0, 0, 0, 0, 0, 0, 0, 0, 0, 0, 0]),
    (28, 4, [0, 0, 0, 0, 0, 0, 0, 0, 0, 2, 0]),
    (28, 15, [0, 0, 0, 0, 0, 0, 0, 0, 0, 0, 0, 0, 0, 0, 0]),
    (28, 17, [0, 0, 0, 0, 0, 0, 0, 0, 0, 0, 0, 0, 0, 0]),
    (29, 5, [0, 0, 0, 0, 0, 0, 0, 0, 0, 0, 0, 0, 0, 0, 0, 0, 0, 0, 0, 0, 0, 0, 0, 0, 0, 0, 0]),
    (29, 12, [0, 0, 0, 0, 0, 0, 0, 0, 0, 0, 0]),
    (29, 14, [0, 0, 0, 0, 0, 0, 0, 0, 0, 0]),
    (29, 18, [0, 0, 0, 0, 0, 0, 0, 0, 0, 0, 0, 0, 0, 0, 0, 0, 0, 0]),
    (29, 20, [0, 0, 0, 0, 0, 0, 0, 0, 0, 0, 0, 0, 0, 0, 0, 0, 0, 0, 0, 0]),
    (30, 5, [0, 0, 0, 0, 0, 0, 0, 0, 0, 0, 0, 0, 2, 0]),
    (33, 7, [0, 0, 0, 0, 0, 0, 0, 0]),
    (33, 8, [0, 0, 0, 0, 0, 0, 0, 0, 0, 0, 0, 0, 0, 0, 0, 0, 0, 0, 0, 0, 0, 0, 0, 0, 0, 0, 0, 0]),
    (39, 6, [0, 0, 0, 0, 0, 0, 0, 0, 0]),
    (43, 10, [0, 0, 0, 0, 0, 0, 0, 0, 0, 0, 0, 0, 0, 0, 0, 0, 0, 0, 0, 1, 0, 2]),
    (45, 8, [0, 0, 0, 0, 0, 0, 0, 0, 0, 2]),
    (46, 9, [0, 0, 0, 0, 0, 0, 0, 0, 0, 0, 0]),
    (46, 10, [0, 0, 0, 0, 0, 0, 0, 0, 0, 0, 0, 0, 0, 0, 0, 0, 0, 0, 0, 0, 0, 2]),
    (48, 6, [0, 0, 0, 0, 0, 0, 0, 0, 0, 0, 0, 0, 0, 1, 2, 0]),
    (50, 5, [0, 0, 0, 0, 0, 0, 0, 0, 0, 0, 0]),
    (50, 6, [0, 0, 0, 0, 0, 0, 0, 0, 0, 0, 0, 0, 0, 0]),
    (51, 5, [0, 0, 0, 0, 0, 0, 0, 0, 0, 0, 0, 0, 0, 0, 0, 0, 0, 0, 0]),
    (57, 9, [0, 0, 0, 0, 0, 0, 0, 0, 0, 0, 0, 0]),
    (58, 6, [0, 0, 0, 0, 0, 0, 0, 0, 0, 0, 0, 0, 0, 0, 0]),
    (58, 9, [0, 0, 0, 0, 0, 0, 0, 0, 0, 1, 0, 2, 0]),
    (60, 6, [0, 0, 0, 0, 0, 0, 0, 0, 0]),
    (63, 11, [0, 0, 0, 0, 0, 0, 0, 0, 0, 0, 0, 0, 0, 0, 0, 0, 0, 0, 0, 1, 0, 2]),
    (64, 20, [0, 0, 0, 0, 0, 0, 0, 2, 0]),
    (64, 31, [0, 0, 0, 0, 0, 0, 0, 2]),
    (65, 10, [0, 0, 0, 0, 0, 0, 2, 0, 2]),
    (66, 35, [0, 0, 0, 0, 0, 0, 0, 0, 0, 0, 0, 0, 0, 0, 2]),
    (66, 36, [0, 0, 0, 0, 0, 0, 0, 0, 0]),
    (68, 4, [0, 0, 0, 0, 0, 0, 0, 0, 0]),
    (68, 6, [0, 0, 0, 0, 0, 0, 0, 0, 0]),
    (69, 1, [0, 0, 0, 0, 0, 0, 0, 0, 0, 0]),
    (69, 4, [0, 0, 0, 0, 0, 0, 0, 0, 0, 0, 0]),
    (69, 5, [0, 0, 0, 0, 0, 0, 0, 0, 0, 0, 0])]
  fns := [3, 4, 5, 6, 7, 8, 9, 10, 11, 12, 13, 14, 15, 16, 17, 18, 19, 20, 21, 22, 23, 24, 25, 26, 27, 28, 29, 30, 31, 32, 33, 34, 35, 36, 37, 38, 39, 40, 41, 42, 43, 44, 45, 46, 47, 48, 49, 50, 51, 52, 53, 54, 55, 56, 57, 58, 59, 60, 61, 62, 63, 64, 65, 66, 67, 68, 69, 70, 71, 72, 73, 74, 75]
  live := fun f => look1 [] f [(8, [26]), (26, [43])]

theorem XX_P : XX.P = Go.Proofs.Try.prog := nr rfl
theorem mode_3 : XX.mode 3 = .pure := nr (by kernel_rfl)
theorem fns_3 : XX.fns.contains 3 = true := nr (by kernel_rfl)
theorem res_3 : Go.Proofs.Try.f3.results.toList = [.tmp 6] := nr rfl
theorem live_3 : XX.live 3 = [] := nr (by kernel_rfl)
theorem adopt_3 : XX.adopt 3 = [] := nr (by kernel_rfl)
theorem cls_3_6 : XX.cls 3 6 = [0, 0, 0, 0, 0, 0, 0, 0, 0, 0, 0, 0, 0, 0, 0, 0, 0, 0, 0, 0, 0, 0, 0] := nr (by kernel_rfl)
theorem mode_4 : XX.mode 4 = .pure := nr (by kernel_rfl)
theorem fns_4 : XX.fns.contains 4 = true := nr (by kernel_rfl)
theorem res_4 : Go.Proofs.Try.f4.results.toList = [.tmp 6] := nr rfl
theorem live_4 : XX.live 4 = [] := nr (by kernel_rfl)
theorem adopt_4 : XX.adopt 4 = [] := nr (by kernel_rfl)
theorem cls_4_14 : XX.cls 4 14 = [0, 0, 0, 0, 0, 0, 0, 0, 0, 0, 0, 0, 0, 0, 0, 0, 0, 0, 0, 0, 0, 0, 0, 0, 0, 0, 0, 0, 0, 0, 0, 0, 0] := nr (by kernel_rfl)
theorem mode_5 : XX.mode 5 = .pure := nr (by kernel_rfl)
theorem fns_5 : XX.fns.contains 5 = true := nr (by kernel_rfl)
theorem res_5 : Go.Proofs.Try.f5.results.toList = [.tmp 6] := nr rfl
theorem live_5 : XX.live 5 = [] := nr (by kernel_rfl)
theorem adopt_5 : XX.adopt 5 = [] := nr (by kernel_rfl)
theorem cls_5_8 : XX.cls 5 8 = [0, 0, 0, 0, 0, 0, 0, 0, 0, 0] := nr (by kernel_rfl)
theorem mode_6 : XX.mode 6 = .pure := nr (by kernel_rfl)
theorem fns_6 : XX.fns.contains 6 = true := nr (by kernel_rfl)
theorem res_6 : Go.Proofs.Try.f6.results.toList = [.tmp 4] := nr rfl
theorem live_6 : XX.live 6 = [] := nr (by kernel_rfl)
theorem adopt_6 : XX.adopt 6 = [] := nr (by kernel_rfl)
theorem mode_7 : XX.mode 7 = .pure := nr (by kernel_rfl)
theorem fns_7 : XX.fns.contains 7 = true := nr (by kernel_rfl)
theorem res_7 : Go.Proofs.Try.f7.results.toList = [.tmp 6] := nr rfl
theorem live_7 : XX.live 7 = [] := nr (by kernel_rfl)
theorem adopt_7 : XX.adopt 7 = [] := nr (by kernel_rfl)
theorem tr_7_9 : XX.trim 7 9 = some ([3, 7, 9, 11, 41, 42, 43], []) := nr (by kernel_rfl)
theorem trim_7_9 (d : AV) (l : List (Nat × AV)) (h : List Blk) (n : Nat) : trimA XX 7 9 n ⟨mkT 80 d l, h⟩ = gcK n (mkT 80 .junk [(3, lk d l 3), (7, lk d l 7), (9, lk d l 9), (11, lk d l 11), (41, lk d l 41), (42, lk d l 42), (43, lk d l 43)]) h := (trimA_keep tr_7_9 n _ h).trans (by rw [keep_mkT]; kernel_rfl)
/-- Function 7 at the head of loop 9. -/
abbrev S_7_9 (x3 x7 x9 x11 x41 x42 x43 : AV) (h : List Blk) : St := ⟨mkT 80 .junk [(3, x3), (7, x7), (9, x9), (11, x11), (41, x41), (42, x42), (43, x43)], h⟩
theorem mode_8 : XX.mode 8 = .pure := nr (by kernel_rfl)
theorem fns_8 : XX.fns.contains 8 = true := nr (by kernel_rfl)
theorem res_8 : Go.Proofs.Try.f8.results.toList = [.tmp 4] := nr rfl
theorem live_8 : XX.live 8 = [26] := nr (by kernel_rfl)
theorem adopt_8 : XX.adopt 8 = [8, 11] := nr (by kernel_rfl)
theorem tr_8_9 : XX.trim 8 9 = some ([1, 5, 7, 8, 29, 30, 31], []) := nr (by kernel_rfl)
theorem trim_8_9 (d : AV) (l : List (Nat × AV)) (h : List Blk) (n : Nat) : trimA XX 8 9 n ⟨mkT 92 d l, h⟩ = gcK n (mkT 92 .junk [(1, lk d l 1), (5, lk d l 5), (7, lk d l 7), (8, lk d l 8), (29, lk d l 29), (30, lk d l 30), (31, lk d l 31)]) h := (trimA_keep tr_8_9 n _ h).trans (by rw [keep_mkT]; kernel_rfl)
/-- Function 8 at the head of loop 9. -/
abbrev S_8_9 (x1 x5 x7 x8 x29 x30 x31 : AV) (h : List Blk) : St := ⟨mkT 92 .junk [(1, x1), (5, x5), (7, x7), (8, x8), (29, x29), (30, x30), (31, x31)], h⟩
theorem tr_8_15 : XX.trim 8 15 = some ([1, 5, 7, 8, 11, 42, 43, 44], []) := nr (by kernel_rfl)
theorem trim_8_15 (d : AV) (l : List (Nat × AV)) (h : List Blk) (n : Nat) : trimA XX 8 15 n ⟨mkT 92 d l, h⟩ = gcK n (mkT 92 .junk [(1, lk d l 1), (5, lk d l 5), (7, lk d l 7), (8, lk d l 8), (11, lk d l 11), (42, lk d l 42), (43, lk d l 43), (44, lk d l 44)]) h := (trimA_keep tr_8_15 n _ h).trans (by rw [keep_mkT]; kernel_rfl)
/-- Function 8 at the head of loop 15. -/
abbrev S_8_15 (x1 x5 x7 x8 x11 x42 x43 x44 : AV) (h : List Blk) : St := ⟨mkT 92 .junk [(1, x1), (5, x5), (7, x7), (8, x8), (11, x11), (42, x42), (43, x43), (44, x44)], h⟩
theorem mode_9 : XX.mode 9 = .pure := nr (by kernel_rfl)
theorem fns_9 : XX.fns.contains 9 = true := nr (by kernel_rfl)
theorem res_9 : Go.Proofs.Try.f9.results.toList = [.tmp 6] := nr rfl
theorem live_9 : XX.live 9 = [] := nr (by kernel_rfl)
theorem adopt_9 : XX.adopt 9 = [] := nr (by kernel_rfl)
theorem mode_10 : XX.mode 10 = .pure := nr (by kernel_rfl)
theorem fns_10 : XX.fns.contains 10 = true := nr (by kernel_rfl)
theorem res_10 : Go.Proofs.Try.f10.results.toList = [.tmp 4] := nr rfl
theorem live_10 : XX.live 10 = [] := nr (by kernel_rfl)
theorem adopt_10 : XX.adopt 10 = [13] := nr (by kernel_rfl)
theorem cls_10_29 : XX.cls 10 29 = [0, 0, 0, 0, 0, 0, 0, 0, 0, 0, 0, 0, 0, 0] := nr (by kernel_rfl)
theorem tr_10_8 : XX.trim 10 8 = some ([1, 5, 7, 32, 33, 34], []) := nr (by kernel_rfl)
theorem trim_10_8 (d : AV) (l : List (Nat × AV)) (h : List Blk) (n : Nat) : trimA XX 10 8 n ⟨mkT 129 d l, h⟩ = gcK n (mkT 129 .junk [(1, lk d l 1), (5, lk d l 5), (7, lk d l 7), (32, lk d l 32), (33, lk d l 33), (34, lk d l 34)]) h := (trimA_keep tr_10_8 n _ h).trans (by rw [keep_mkT]; kernel_rfl)
/-- Function 10 at the head of loop 8. -/
abbrev S_10_8 (x1 x5 x7 x32 x33 x34 : AV) (h : List Blk) : St := ⟨mkT 129 .junk [(1, x1), (5, x5), (7, x7), (32, x32), (33, x33), (34, x34)], h⟩
theorem tr_10_15 : XX.trim 10 15 = some ([1, 5, 7, 9, 11, 13, 32, 33, 34, 55, 56, 57], []) := nr (by kernel_rfl)
theorem trim_10_15 (d : AV) (l : List (Nat × AV)) (h : List Blk) (n : Nat) : trimA XX 10 15 n ⟨mkT 129 d l, h⟩ = gcK n (mkT 129 .junk [(1, lk d l 1), (5, lk d l 5), (7, lk d l 7), (9, lk d l 9), (11, lk d l 11), (13, lk d l 13), (32, lk d l 32), (33, lk d l 33), (34, lk d l 34), (55, lk d l 55), (56, lk d l 56), (57, lk d l 57)]) h := (trimA_keep tr_10_15 n _ h).trans (by rw [keep_mkT]; kernel_rfl)
/-- Function 10 at the head of loop 15. -/
abbrev S_10_15 (x1 x5 x7 x9 x11 x13 x32 x33 x34 x55 x56 x57 : AV) (h : List Blk) : St := ⟨mkT 129 .junk [(1, x1), (5, x5), (7, x7), (9, x9), (11, x11), (13, x13), (32, x32), (33, x33), (34, x34), (55, x55), (56, x56), (57, x57)], h⟩
theorem tr_10_27 : XX.trim 10 27 = some ([7, 108, 109, 110], []) := nr (by kernel_rfl)
theorem trim_10_27 (d : AV) (l : List (Nat × AV)) (h : List Blk) (n : Nat) : trimA XX 10 27 n ⟨mkT 129 d l, h⟩ = gcK n (mkT 129 .junk [(7, lk d l 7), (108, lk d l 108), (109, lk d l 109), (110, lk d l 110)]) h := (trimA_keep tr_10_27 n _ h).trans (by rw [keep_mkT]; kernel_rfl)
/-- Function 10 at the head of loop 27. -/
abbrev S_10_27 (x7 x108 x109 x110 : AV) (h : List Blk) : St := ⟨mkT 129 .junk [(7, x7), (108, x108), (109, x109), (110, x110)], h⟩
theorem mode_11 : XX.mode 11 = .pure := nr (by kernel_rfl)
theorem fns_11 : XX.fns.contains 11 = true := nr (by kernel_rfl)
theorem res_11 : Go.Proofs.Try.f11.results.toList = [.tmp 6] := nr rfl
theorem live_11 : XX.live 11 = [] := nr (by kernel_rfl)
theorem adopt_11 : XX.adopt 11 = [] := nr (by kernel_rfl)
theorem mode_12 : XX.mode 12 = .pure := nr (by kernel_rfl)
theorem fns_12 : XX.fns.contains 12 = true := nr (by kernel_rfl)
theorem res_12 : Go.Proofs.Try.f12.results.toList = [.tmp 0] := nr rfl
theorem live_12 : XX.live 12 = [] := nr (by kernel_rfl)
theorem adopt_12 : XX.adopt 12 = [] := nr (by kernel_rfl)
theorem mode_13 : XX.mode 13 = .data := nr (by kernel_rfl)
theorem fns_13 : XX.fns.contains 13 = true := nr (by kernel_rfl)
theorem res_13 : Go.Proofs.Try.f13.results.toList = [.tmp 2, .tmp 3] := nr rfl
theorem live_13 : XX.live 13 = [] := nr (by kernel_rfl)
theorem adopt_13 : XX.adopt 13 = [] := nr (by kernel_rfl)
theorem mode_14 : XX.mode 14 = .pure := nr (by kernel_rfl)
theorem fns_14 : XX.fns.contains 14 = true := nr (by kernel_rfl)
theorem res_14 : Go.Proofs.Try.f14.results.toList = [.tmp 2] := nr rfl
theorem live_14 : XX.live 14 = [] := nr (by kernel_rfl)
theorem adopt_14 : XX.adopt 14 = [] := nr (by kernel_rfl)
theorem tr_14_3 : XX.trim 14 3 = some ([3, 7, 8, 9], []) := nr (by kernel_rfl)
theorem trim_14_3 (d : AV) (l : List (Nat × AV)) (h : List Blk) (n : Nat) : trimA XX 14 3 n ⟨mkT 22 d l, h⟩ = gcK n (mkT 22 .junk [(3, lk d l 3), (7, lk d l 7), (8, lk d l 8), (9, lk d l 9)]) h := (trimA_keep tr_14_3 n _ h).trans (by rw [keep_mkT]; kernel_rfl)
/-- Function 14 at the head of loop 3. -/
abbrev S_14_3 (x3 x7 x8 x9 : AV) (h : List Blk) : St := ⟨mkT 22 .junk [(3, x3), (7, x7), (8, x8), (9, x9)], h⟩
theorem mode_15 : XX.mode 15 = .pure := nr (by kernel_rfl)
theorem fns_15 : XX.fns.contains 15 = true := nr (by kernel_rfl)
theorem res_15 : Go.Proofs.Try.f15.results.toList = [.tmp 4] := nr rfl
theorem live_15 : XX.live 15 = [] := nr (by kernel_rfl)
theorem adopt_15 : XX.adopt 15 = [] := nr (by kernel_rfl)
theorem cls_15_6 : XX.cls 15 6 = [0, 0, 0, 0, 0, 0, 0, 0, 0, 0, 0, 0, 0, 0, 0, 0, 0, 0, 0, 0, 0, 0, 0, 0, 0, 0, 0, 0, 0, 0, 0, 0, 0, 0, 0, 0, 0, 0] := nr (by kernel_rfl)
theorem tr_15_4 : XX.trim 15 4 = some ([0, 1, 5], []) := nr (by kernel_rfl)
theorem trim_15_4 (d : AV) (l : List (Nat × AV)) (h : List Blk) (n : Nat) : trimA XX 15 4 n ⟨mkT 55 d l, h⟩ = gcK n (mkT 55 .junk [(0, lk d l 0), (1, lk d l 1), (5, lk d l 5)]) h := (trimA_keep tr_15_4 n _ h).trans (by rw [keep_mkT]; kernel_rfl)
/-- Function 15 at the head of loop 4. -/
abbrev S_15_4 (x0 x1 x5 : AV) (h : List Blk) : St := ⟨mkT 55 .junk [(0, x0), (1, x1), (5, x5)], h⟩
theorem mode_16 : XX.mode 16 = .data := nr (by kernel_rfl)
theorem fns_16 : XX.fns.contains 16 = true := nr (by kernel_rfl)
theorem res_16 : Go.Proofs.Try.f16.results.toList = [.tmp 8] := nr rfl
theorem live_16 : XX.live 16 = [] := nr (by kernel_rfl)
theorem adopt_16 : XX.adopt 16 = [9] := nr (by kernel_rfl)
theorem cls_16_5 : XX.cls 16 5 = [0, 0, 0, 0, 0, 0, 0, 0, 0, 2, 0] := nr (by kernel_rfl)
theorem tr_16_3 : XX.trim 16 3 = some ([1, 3, 4, 9, 13, 14, 15], []) := nr (by kernel_rfl)
theorem trim_16_3 (d : AV) (l : List (Nat × AV)) (h : List Blk) (n : Nat) : trimA XX 16 3 n ⟨mkT 47 d l, h⟩ = gcK n (mkT 47 .junk [(1, lk d l 1), (3, lk d l 3), (4, lk d l 4), (9, lk d l 9), (13, lk d l 13), (14, lk d l 14), (15, lk d l 15)]) h := (trimA_keep tr_16_3 n _ h).trans (by rw [keep_mkT]; kernel_rfl)
/-- Function 16 at the head of loop 3. -/
abbrev S_16_3 (x1 x3 x4 x9 x13 x14 x15 : AV) (h : List Blk) : St := ⟨mkT 47 .junk [(1, x1), (3, x3), (4, x4), (9, x9), (13, x13), (14, x14), (15, x15)], h⟩
theorem mode_17 : XX.mode 17 = .data := nr (by kernel_rfl)
theorem fns_17 : XX.fns.contains 17 = true := nr (by kernel_rfl)
theorem res_17 : Go.Proofs.Try.f17.results.toList = [.tmp 8] := nr rfl
theorem live_17 : XX.live 17 = [] := nr (by kernel_rfl)
theorem adopt_17 : XX.adopt 17 = [9] := nr (by kernel_rfl)
theorem cls_17_7 : XX.cls 17 7 = [0, 0, 0, 0, 0, 0, 0, 0, 0, 0, 0, 0, 0, 0, 0, 0, 0, 0, 0, 0, 0, 0, 2, 0] := nr (by kernel_rfl)
theorem tr_17_3 : XX.trim 17 3 = some ([1, 2, 3, 4, 9, 10], []) := nr (by kernel_rfl)
theorem trim_17_3 (d : AV) (l : List (Nat × AV)) (h : List Blk) (n : Nat) : trimA XX 17 3 n ⟨mkT 53 d l, h⟩ = gcK n (mkT 53 .junk [(1, lk d l 1), (2, lk d l 2), (3, lk d l 3), (4, lk d l 4), (9, lk d l 9), (10, lk d l 10)]) h := (trimA_keep tr_17_3 n _ h).trans (by rw [keep_mkT]; kernel_rfl)
/-- Function 17 at the head of loop 3. -/
abbrev S_17_3 (x1 x2 x3 x4 x9 x10 : AV) (h : List Blk) : St := ⟨mkT 53 .junk [(1, x1), (2, x2), (3, x3), (4, x4), (9, x9), (10, x10)], h⟩
theorem mode_18 : XX.mode 18 = .pure := nr (by kernel_rfl)
theorem fns_18 : XX.fns.contains 18 = true := nr (by kernel_rfl)
theorem res_18 : Go.Proofs.Try.f18.results.toList = [.tmp 2] := nr rfl
theorem live_18 : XX.live 18 = [] := nr (by kernel_rfl)
theorem adopt_18 : XX.adopt 18 = [] := nr (by kernel_rfl)
theorem mode_19 : XX.mode 19 = .pure := nr (by kernel_rfl)
theorem fns_19 : XX.fns.contains 19 = true := nr (by kernel_rfl)
theorem res_19 : Go.Proofs.Try.f19.results.toList = [.tmp 8] := nr rfl
theorem live_19 : XX.live 19 = [] := nr (by kernel_rfl)
theorem adopt_19 : XX.adopt 19 = [] := nr (by kernel_rfl)
theorem cls_19_4 : XX.cls 19 4 = [0, 0, 0, 0, 0, 0, 0, 0, 0, 0, 0, 0, 0, 0, 0, 0, 0, 0, 0, 0, 0, 0, 0, 0, 0, 0, 0, 0, 0, 0, 0, 0, 0, 0, 0, 0] := nr (by kernel_rfl)
theorem tr_19_2 : XX.trim 19 2 = some ([1, 2, 3, 4, 12, 13, 14], []) := nr (by kernel_rfl)
theorem trim_19_2 (d : AV) (l : List (Nat × AV)) (h : List Blk) (n : Nat) : trimA XX 19 2 n ⟨mkT 63 d l, h⟩ = gcK n (mkT 63 .junk [(1, lk d l 1), (2, lk d l 2), (3, lk d l 3), (4, lk d l 4), (12, lk d l 12), (13, lk d l 13), (14, lk d l 14)]) h := (trimA_keep tr_19_2 n _ h).trans (by rw [keep_mkT]; kernel_rfl)
/-- Function 19 at the head of loop 2. -/
abbrev S_19_2 (x1 x2 x3 x4 x12 x13 x14 : AV) (h : List Blk) : St := ⟨mkT 63 .junk [(1, x1), (2, x2), (3, x3), (4, x4), (12, x12), (13, x13), (14, x14)], h⟩
theorem mode_20 : XX.mode 20 = .data := nr (by kernel_rfl)
theorem fns_20 : XX.fns.contains 20 = true := nr (by kernel_rfl)
theorem res_20 : Go.Proofs.Try.f20.results.toList = [.tmp 10] := nr rfl
theorem live_20 : XX.live 20 = [] := nr (by kernel_rfl)
theorem adopt_20 : XX.adopt 20 = [11] := nr (by kernel_rfl)
theorem cls_20_5 : XX.cls 20 5 = [0, 1, 0, 0, 0, 2, 0] := nr (by kernel_rfl)
theorem tr_20_3 : XX.trim 20 3 = some ([1, 3, 4, 5, 11, 15, 16, 17], []) := nr (by kernel_rfl)
theorem trim_20_3 (d : AV) (l : List (Nat × AV)) (h : List Blk) (n : Nat) : trimA XX 20 3 n ⟨mkT 53 d l, h⟩ = gcK n (mkT 53 .junk [(1, lk d l 1), (3, lk d l 3), (4, lk d l 4), (5, lk d l 5), (11, lk d l 11), (15, lk d l 15), (16, lk d l 16), (17, lk d l 17)]) h := (trimA_keep tr_20_3 n _ h).trans (by rw [keep_mkT]; kernel_rfl)
/-- Function 20 at the head of loop 3. -/
abbrev S_20_3 (x1 x3 x4 x5 x11 x15 x16 x17 : AV) (h : List Blk) : St := ⟨mkT 53 .junk [(1, x1), (3, x3), (4, x4), (5, x5), (11, x11), (15, x15), (16, x16), (17, x17)], h⟩
theorem mode_21 : XX.mode 21 = .pure := nr (by kernel_rfl)
theorem fns_21 : XX.fns.contains 21 = true := nr (by kernel_rfl)
theorem res_21 : Go.Proofs.Try.f21.results.toList = [.tmp 4] := nr rfl
theorem live_21 : XX.live 21 = [] := nr (by kernel_rfl)
theorem adopt_21 : XX.adopt 21 = [] := nr (by kernel_rfl)
theorem mode_22 : XX.mode 22 = .pure := nr (by kernel_rfl)
theorem fns_22 : XX.fns.contains 22 = true := nr (by kernel_rfl)
theorem res_22 : Go.Proofs.Try.f22.results.toList = [.tmp 0] := nr rfl
theorem live_22 : XX.live 22 = [] := nr (by kernel_rfl)
theorem adopt_22 : XX.adopt 22 = [] := nr (by kernel_rfl)
theorem mode_23 : XX.mode 23 = .data := nr (by kernel_rfl)
theorem fns_23 : XX.fns.contains 23 = true := nr (by kernel_rfl)
theorem res_23 : Go.Proofs.Try.f23.results.toList = [.tmp 2, .tmp 3] := nr rfl
theorem live_23 : XX.live 23 = [] := nr (by kernel_rfl)
theorem adopt_23 : XX.adopt 23 = [] := nr (by kernel_rfl)
theorem mode_24 : XX.mode 24 = .pure := nr (by kernel_rfl)
theorem fns_24 : XX.fns.contains 24 = true := nr (by kernel_rfl)
theorem res_24 : Go.Proofs.Try.f24.results.toList = [.tmp 4] := nr rfl
theorem live_24 : XX.live 24 = [] := nr (by kernel_rfl)
theorem adopt_24 : XX.adopt 24 = [] := nr (by kernel_rfl)
theorem tr_24_2 : XX.trim 24 2 = some ([1, 7, 8, 9], []) := nr (by kernel_rfl)
theorem trim_24_2 (d : AV) (l : List (Nat × AV)) (h : List Blk) (n : Nat) : trimA XX 24 2 n ⟨mkT 41 d l, h⟩ = gcK n (mkT 41 .junk [(1, lk d l 1), (7, lk d l 7), (8, lk d l 8), (9, lk d l 9)]) h := (trimA_keep tr_24_2 n _ h).trans (by rw [keep_mkT]; kernel_rfl)
/-- Function 24 at the head of loop 2. -/
abbrev S_24_2 (x1 x7 x8 x9 : AV) (h : List Blk) : St := ⟨mkT 41 .junk [(1, x1), (7, x7), (8, x8), (9, x9)], h⟩
theorem mode_25 : XX.mode 25 = .data := nr (by kernel_rfl)
theorem fns_25 : XX.fns.contains 25 = true := nr (by kernel_rfl)
theorem res_25 : Go.Proofs.Try.f25.results.toList = [.tmp 0] := nr rfl
theorem live_25 : XX.live 25 = [] := nr (by kernel_rfl)
theorem adopt_25 : XX.adopt 25 = [] := nr (by kernel_rfl)
theorem cls_25_7 : XX.cls 25 7 = [0, 0, 0, 0, 0, 0, 0, 0, 0, 0, 0, 1, 2] := nr (by kernel_rfl)
theorem cls_25_9 : XX.cls 25 9 = [0, 0, 0, 0, 0, 0, 0, 0, 0, 0, 0, 0] := nr (by kernel_rfl)
theorem mode_26 : XX.mode 26 = .data := nr (by kernel_rfl)
theorem fns_26 : XX.fns.contains 26 = true := nr (by kernel_rfl)
theorem res_26 : Go.Proofs.Try.f26.results.toList = [.tmp 6] := nr rfl
theorem live_26 : XX.live 26 = [43] := nr (by kernel_rfl)
theorem adopt_26 : XX.adopt 26 = [] := nr (by kernel_rfl)
theorem mode_27 : XX.mode 27 = .data := nr (by kernel_rfl)
theorem fns_27 : XX.fns.contains 27 = true := nr (by kernel_rfl)
theorem res_27 : Go.Proofs.Try.f27.results.toList = [.tmp 6] := nr rfl
theorem live_27 : XX.live 27 = [] := nr (by kernel_rfl)
theorem adopt_27 : XX.adopt 27 = [] := nr (by kernel_rfl)
theorem mode_28 : XX.mode 28 = .pure := nr (by kernel_rfl)
theorem fns_28 : XX.fns.contains 28 = true := nr (by kernel_rfl)
theorem res_28 : Go.Proofs.Try.f28.results.toList = [.tmp 12] := nr rfl
theorem live_28 : XX.live 28 = [] := nr (by kernel_rfl)
theorem adopt_28 : XX.adopt 28 = [] := nr (by kernel_rfl)
theorem cls_28_4 : XX.cls 28 4 = [0, 0, 0, 0, 0, 0, 0, 0, 0, 2, 0] := nr (by kernel_rfl)
theorem cls_28_15 : XX.cls 28 15 = [0, 0, 0, 0, 0, 0, 0, 0, 0, 0, 0, 0, 0, 0, 0] := nr (by kernel_rfl)
theorem cls_28_17 : XX.cls 28 17 = [0, 0, 0, 0, 0, 0, 0, 0, 0, 0, 0, 0, 0, 0] := nr (by kernel_rfl)
theorem tr_28_2 : XX.trim 28 2 = some ([1, 3, 4, 5, 6, 24, 25, 26], []) := nr (by kernel_rfl)
theorem trim_28_2 (d : AV) (l : List (Nat × AV)) (h : List Blk) (n : Nat) : trimA XX 28 2 n ⟨mkT 128 d l, h⟩ = gcK n (mkT 128 .junk [(1, lk d l 1), (3, lk d l 3), (4, lk d l 4), (5, lk d l 5), (6, lk d l 6), (24, lk d l 24), (25, lk d l 25), (26, lk d l 26)]) h := (trimA_keep tr_28_2 n _ h).trans (by rw [keep_mkT]; kernel_rfl)
/-- Function 28 at the head of loop 2. -/
abbrev S_28_2 (x1 x3 x4 x5 x6 x24 x25 x26 : AV) (h : List Blk) : St := ⟨mkT 128 .junk [(1, x1), (3, x3), (4, x4), (5, x5), (6, x6), (24, x24), (25, x25), (26, x26)], h⟩
theorem tr_28_6 : XX.trim 28 6 = some ([1, 3, 4, 5, 6, 14, 15, 24, 25, 26, 40, 41, 42], []) := nr (by kernel_rfl)
theorem trim_28_6 (d : AV) (l : List (Nat × AV)) (h : List Blk) (n : Nat) : trimA XX 28 6 n ⟨mkT 128 d l, h⟩ = gcK n (mkT 128 .junk [(1, lk d l 1), (3, lk d l 3), (4, lk d l 4), (5, lk d l 5), (6, lk d l 6), (14, lk d l 14), (15, lk d l 15), (24, lk d l 24), (25, lk d l 25), (26, lk d l 26), (40, lk d l 40), (41, lk d l 41), (42, lk d l 42)]) h := (trimA_keep tr_28_6 n _ h).trans (by rw [keep_mkT]; kernel_rfl)
/-- Function 28 at the head of loop 6. -/
abbrev S_28_6 (x1 x3 x4 x5 x6 x14 x15 x24 x25 x26 x40 x41 x42 : AV) (h : List Blk) : St := ⟨mkT 128 .junk [(1, x1), (3, x3), (4, x4), (5, x5), (6, x6), (14, x14), (15, x15), (24, x24), (25, x25), (26, x26), (40, x40), (41, x41), (42, x42)], h⟩
theorem tr_28_22 : XX.trim 28 22 = some ([1, 3, 4, 5, 6, 14, 15, 24, 25, 26, 100, 101, 102], []) := nr (by kernel_rfl)
theorem trim_28_22 (d : AV) (l : List (Nat × AV)) (h : List Blk) (n : Nat) : trimA XX 28 22 n ⟨mkT 128 d l, h⟩ = gcK n (mkT 128 .junk [(1, lk d l 1), (3, lk d l 3), (4, lk d l 4), (5, lk d l 5), (6, lk d l 6), (14, lk d l 14), (15, lk d l 15), (24, lk d l 24), (25, lk d l 25), (26, lk d l 26), (100, lk d l 100), (101, lk d l 101), (102, lk d l 102)]) h := (trimA_keep tr_28_22 n _ h).trans (by rw [keep_mkT]; kernel_rfl)
/-- Function 28 at the head of loop 22. -/
abbrev S_28_22 (x1 x3 x4 x5 x6 x14 x15 x24 x25 x26 x100 x101 x102 : AV) (h : List Blk) : St := ⟨mkT 128 .junk [(1, x1), (3, x3), (4, x4), (5, x5), (6, x6), (14, x14), (15, x15), (24, x24), (25, x25), (26, x26), (100, x100), (101, x101), (102, x102)], h⟩
theorem mode_29 : XX.mode 29 = .pure := nr (by kernel_rfl)
theorem fns_29 : XX.fns.contains 29 = true := nr (by kernel_rfl)
theorem res_29 : Go.Proofs.Try.f29.results.toList = [.tmp 12] := nr rfl
theorem live_29 : XX.live 29 = [] := nr (by kernel_rfl)
theorem adopt_29 : XX.adopt 29 = [] := nr (by kernel_rfl)
theorem cls_29_5 : XX.cls 29 5 = [0, 0, 0, 0, 0, 0, 0, 0, 0, 0, 0, 0, 0, 0, 0, 0, 0, 0, 0, 0, 0, 0, 0, 0, 0, 0, 0] := nr (by kernel_rfl)
theorem cls_29_12 : XX.cls 29 12 = [0, 0, 0, 0, 0, 0, 0, 0, 0, 0, 0] := nr (by kernel_rfl)
theorem cls_29_14 : XX.cls 29 14 = [0, 0, 0, 0, 0, 0, 0, 0, 0, 0] := nr (by kernel_rfl)
theorem cls_29_18 : XX.cls 29 18 = [0, 0, 0, 0, 0, 0, 0, 0, 0, 0, 0, 0, 0, 0, 0, 0, 0, 0] := nr (by kernel_rfl)
theorem cls_29_20 : XX.cls 29 20 = [0, 0, 0, 0, 0, 0, 0, 0, 0, 0, 0, 0, 0, 0, 0, 0, 0, 0, 0, 0] := nr (by kernel_rfl)
theorem tr_29_2 : XX.trim 29 2 = some ([1, 2, 3, 4, 5, 6, 13], []) := nr (by kernel_rfl)
theorem trim_29_2 (d : AV) (l : List (Nat × AV)) (h : List Blk) (n : Nat) : trimA XX 29 2 n ⟨mkT 147 d l, h⟩ = gcK n (mkT 147 .junk [(1, lk d l 1), (2, lk d l 2), (3, lk d l 3), (4, lk d l 4), (5, lk d l 5), (6, lk d l 6), (13, lk d l 13)]) h := (trimA_keep tr_29_2 n _ h).trans (by rw [keep_mkT]; kernel_rfl)
/-- Function 29 at the head of loop 2. -/
abbrev S_29_2 (x1 x2 x3 x4 x5 x6 x13 : AV) (h : List Blk) : St := ⟨mkT 147 .junk [(1, x1), (2, x2), (3, x3), (4, x4), (5, x5), (6, x6), (13, x13)], h⟩
theorem tr_29_8 : XX.trim 29 8 = some ([1, 2, 3, 4, 5, 6, 15], []) := nr (by kernel_rfl)
theorem trim_29_8 (d : AV) (l : List (Nat × AV)) (h : List Blk) (n : Nat) : trimA XX 29 8 n ⟨mkT 147 d l, h⟩ = gcK n (mkT 147 .junk [(1, lk d l 1), (2, lk d l 2), (3, lk d l 3), (4, lk d l 4), (5, lk d l 5), (6, lk d l 6), (15, lk d l 15)]) h := (trimA_keep tr_29_8 n _ h).trans (by rw [keep_mkT]; kernel_rfl)
/-- Function 29 at the head of loop 8. -/
abbrev S_29_8 (x1 x2 x3 x4 x5 x6 x15 : AV) (h : List Blk) : St := ⟨mkT 147 .junk [(1, x1), (2, x2), (3, x3), (4, x4), (5, x5), (6, x6), (15, x15)], h⟩
theorem mode_30 : XX.mode 30 = .data := nr (by kernel_rfl)
theorem fns_30 : XX.fns.contains 30 = true := nr (by kernel_rfl)
theorem res_30 : Go.Proofs.Try.f30.results.toList = [.tmp 4] := nr rfl
theorem live_30 : XX.live 30 = [] := nr (by kernel_rfl)
theorem adopt_30 : XX.adopt 30 = [5] := nr (by kernel_rfl)
theorem cls_30_5 : XX.cls 30 5 = [0, 0, 0, 0, 0, 0, 0, 0, 0, 0, 0, 0, 2, 0] := nr (by kernel_rfl)
theorem tr_30_3 : XX.trim 30 3 = some ([1, 5, 8, 9, 10], []) := nr (by kernel_rfl)
theorem trim_30_3 (d : AV) (l : List (Nat × AV)) (h : List Blk) (n : Nat) : trimA XX 30 3 n ⟨mkT 29 d l, h⟩ = gcK n (mkT 29 .junk [(1, lk d l 1), (5, lk d l 5), (8, lk d l 8), (9, lk d l 9), (10, lk d l 10)]) h := (trimA_keep tr_30_3 n _ h).trans (by rw [keep_mkT]; kernel_rfl)
/-- Function 30 at the head of loop 3. -/
abbrev S_30_3 (x1 x5 x8 x9 x10 : AV) (h : List Blk) : St := ⟨mkT 29 .junk [(1, x1), (5, x5), (8, x8), (9, x9), (10, x10)], h⟩
theorem mode_31 : XX.mode 31 = .pure := nr (by kernel_rfl)
theorem fns_31 : XX.fns.contains 31 = true := nr (by kernel_rfl)
theorem res_31 : Go.Proofs.Try.f31.results.toList = [.tmp 4] := nr rfl
theorem live_31 : XX.live 31 = [] := nr (by kernel_rfl)
theorem adopt_31 : XX.adopt 31 = [] := nr (by kernel_rfl)
theorem mode_32 : XX.mode 32 = .data := nr (by kernel_rfl)
theorem fns_32 : XX.fns.contains 32 = true := nr (by kernel_rfl)
theorem res_32 : Go.Proofs.Try.f32.results.toList = [.tmp 4, .tmp 5] := nr rfl
theorem live_32 : XX.live 32 = [] := nr (by kernel_rfl)
theorem adopt_32 : XX.adopt 32 = [6] := nr (by kernel_rfl)
theorem tr_32_3 : XX.trim 32 3 = some ([3, 6, 11, 12, 13], []) := nr (by kernel_rfl)
theorem trim_32_3 (d : AV) (l : List (Nat × AV)) (h : List Blk) (n : Nat) : trimA XX 32 3 n ⟨mkT 34 d l, h⟩ = gcK n (mkT 34 .junk [(3, lk d l 3), (6, lk d l 6), (11, lk d l 11), (12, lk d l 12), (13, lk d l 13)]) h := (trimA_keep tr_32_3 n _ h).trans (by rw [keep_mkT]; kernel_rfl)
/-- Function 32 at the head of loop 3. -/
abbrev S_32_3 (x3 x6 x11 x12 x13 : AV) (h : List Blk) : St := ⟨mkT 34 .junk [(3, x3), (6, x6), (11, x11), (12, x12), (13, x13)], h⟩
theorem mode_33 : XX.mode 33 = .pure := nr (by kernel_rfl)
theorem fns_33 : XX.fns.contains 33 = true := nr (by kernel_rfl)
theorem res_33 : Go.Proofs.Try.f33.results.toList = [.tmp 6] := nr rfl
theorem live_33 : XX.live 33 = [] := nr (by kernel_rfl)
theorem adopt_33 : XX.adopt 33 = [] := nr (by kernel_rfl)
theorem cls_33_7 : XX.cls 33 7 = [0, 0, 0, 0, 0, 0, 0, 0] := nr (by kernel_rfl)
theorem cls_33_8 : XX.cls 33 8 = [0, 0, 0, 0, 0, 0, 0, 0, 0, 0, 0, 0, 0, 0, 0, 0, 0, 0, 0, 0, 0, 0, 0, 0, 0, 0, 0, 0] := nr (by kernel_rfl)
theorem tr_33_2 : XX.trim 33 2 = some ([0, 2, 11, 12, 13], []) := nr (by kernel_rfl)
theorem trim_33_2 (d : AV) (l : List (Nat × AV)) (h : List Blk) (n : Nat) : trimA XX 33 2 n ⟨mkT 59 d l, h⟩ = gcK n (mkT 59 .junk [(0, lk d l 0), (2, lk d l 2), (11, lk d l 11), (12, lk d l 12), (13, lk d l 13)]) h := (trimA_keep tr_33_2 n _ h).trans (by rw [keep_mkT]; kernel_rfl)
/-- Function 33 at the head of loop 2. -/
abbrev S_33_2 (x0 x2 x11 x12 x13 : AV) (h : List Blk) : St := ⟨mkT 59 .junk [(0, x0), (2, x2), (11, x11), (12, x12), (13, x13)], h⟩
theorem mode_34 : XX.mode 34 = .pure := nr (by kernel_rfl)
theorem fns_34 : XX.fns.contains 34 = true := nr (by kernel_rfl)
theorem res_34 : Go.Proofs.Try.f34.results.toList = [.tmp 2] := nr rfl
theorem live_34 : XX.live 34 = [] := nr (by kernel_rfl)
theorem adopt_34 : XX.adopt 34 = [] := nr (by kernel_rfl)
theorem tr_34_2 : XX.trim 34 2 = some ([1, 6, 7, 8], []) := nr (by kernel_rfl)
theorem trim_34_2 (d : AV) (l : List (Nat × AV)) (h : List Blk) (n : Nat) : trimA XX 34 2 n ⟨mkT 31 d l, h⟩ = gcK n (mkT 31 .junk [(1, lk d l 1), (6, lk d l 6), (7, lk d l 7), (8, lk d l 8)]) h := (trimA_keep tr_34_2 n _ h).trans (by rw [keep_mkT]; kernel_rfl)
/-- Function 34 at the head of loop 2. -/
abbrev S_34_2 (x1 x6 x7 x8 : AV) (h : List Blk) : St := ⟨mkT 31 .junk [(1, x1), (6, x6), (7, x7), (8, x8)], h⟩
theorem mode_35 : XX.mode 35 = .data := nr (by kernel_rfl)
theorem fns_35 : XX.fns.contains 35 = true := nr (by kernel_rfl)
theorem res_35 : Go.Proofs.Try.f35.results.toList = [.tmp 4, .tmp 5] := nr rfl
theorem live_35 : XX.live 35 = [] := nr (by kernel_rfl)
theorem adopt_35 : XX.adopt 35 = [6, 7] := nr (by kernel_rfl)
theorem tr_35_3 : XX.trim 35 3 = some ([0, 1, 6, 7, 8], []) := nr (by kernel_rfl)
theorem trim_35_3 (d : AV) (l : List (Nat × AV)) (h : List Blk) (n : Nat) : trimA XX 35 3 n ⟨mkT 109 d l, h⟩ = gcK n (mkT 109 .junk [(0, lk d l 0), (1, lk d l 1), (6, lk d l 6), (7, lk d l 7), (8, lk d l 8)]) h := (trimA_keep tr_35_3 n _ h).trans (by rw [keep_mkT]; kernel_rfl)
/-- Function 35 at the head of loop 3. -/
abbrev S_35_3 (x0 x1 x6 x7 x8 : AV) (h : List Blk) : St := ⟨mkT 109 .junk [(0, x0), (1, x1), (6, x6), (7, x7), (8, x8)], h⟩
theorem mode_36 : XX.mode 36 = .data := nr (by kernel_rfl)
theorem fns_36 : XX.fns.contains 36 = true := nr (by kernel_rfl)
theorem res_36 : Go.Proofs.Try.f36.results.toList = [.tmp 4] := nr rfl
theorem live_36 : XX.live 36 = [] := nr (by kernel_rfl)
theorem adopt_36 : XX.adopt 36 = [] := nr (by kernel_rfl)
theorem mode_37 : XX.mode 37 = .pure := nr (by kernel_rfl)
theorem fns_37 : XX.fns.contains 37 = true := nr (by kernel_rfl)
theorem res_37 : Go.Proofs.Try.f37.results.toList = [.tmp 8] := nr rfl
theorem live_37 : XX.live 37 = [] := nr (by kernel_rfl)
theorem adopt_37 : XX.adopt 37 = [] := nr (by kernel_rfl)
theorem tr_37_2 : XX.trim 37 2 = some ([1, 2, 3, 4, 9], []) := nr (by kernel_rfl)
theorem trim_37_2 (d : AV) (l : List (Nat × AV)) (h : List Blk) (n : Nat) : trimA XX 37 2 n ⟨mkT 53 d l, h⟩ = gcK n (mkT 53 .junk [(1, lk d l 1), (2, lk d l 2), (3, lk d l 3), (4, lk d l 4), (9, lk d l 9)]) h := (trimA_keep tr_37_2 n _ h).trans (by rw [keep_mkT]; kernel_rfl)
/-- Function 37 at the head of loop 2. -/
abbrev S_37_2 (x1 x2 x3 x4 x9 : AV) (h : List Blk) : St := ⟨mkT 53 .junk [(1, x1), (2, x2), (3, x3), (4, x4), (9, x9)], h⟩
theorem mode_38 : XX.mode 38 = .pure := nr (by kernel_rfl)
theorem fns_38 : XX.fns.contains 38 = true := nr (by kernel_rfl)
theorem res_38 : Go.Proofs.Try.f38.results.toList = [.tmp 4] := nr rfl
theorem live_38 : XX.live 38 = [] := nr (by kernel_rfl)
theorem adopt_38 : XX.adopt 38 = [] := nr (by kernel_rfl)
theorem mode_39 : XX.mode 39 = .pure := nr (by kernel_rfl)
theorem fns_39 : XX.fns.contains 39 = true := nr (by kernel_rfl)
theorem res_39 : Go.Proofs.Try.f39.results.toList = [.tmp 4] := nr rfl
theorem live_39 : XX.live 39 = [] := nr (by kernel_rfl)
theorem adopt_39 : XX.adopt 39 = [] := nr (by kernel_rfl)
theorem cls_39_6 : XX.cls 39 6 = [0, 0, 0, 0, 0, 0, 0, 0, 0] := nr (by kernel_rfl)
theorem tr_39_4 : XX.trim 39 4 = some ([0, 1, 12, 13], []) := nr (by kernel_rfl)
theorem trim_39_4 (d : AV) (l : List (Nat × AV)) (h : List Blk) (n : Nat) : trimA XX 39 4 n ⟨mkT 26 d l, h⟩ = gcK n (mkT 26 .junk [(0, lk d l 0), (1, lk d l 1), (12, lk d l 12), (13, lk d l 13)]) h := (trimA_keep tr_39_4 n _ h).trans (by rw [keep_mkT]; kernel_rfl)
/-- Function 39 at the head of loop 4. -/
abbrev S_39_4 (x0 x1 x12 x13 : AV) (h : List Blk) : St := ⟨mkT 26 .junk [(0, x0), (1, x1), (12, x12), (13, x13)], h⟩
theorem mode_40 : XX.mode 40 = .pure := nr (by kernel_rfl)
theorem fns_40 : XX.fns.contains 40 = true := nr (by kernel_rfl)
theorem res_40 : Go.Proofs.Try.f40.results.toList = [.tmp 6] := nr rfl
theorem live_40 : XX.live 40 = [] := nr (by kernel_rfl)
theorem adopt_40 : XX.adopt 40 = [] := nr (by kernel_rfl)
theorem tr_40_4 : XX.trim 40 4 = some ([1, 2, 15, 16, 17], []) := nr (by kernel_rfl)
theorem trim_40_4 (d : AV) (l : List (Nat × AV)) (h : List Blk) (n : Nat) : trimA XX 40 4 n ⟨mkT 32 d l, h⟩ = gcK n (mkT 32 .junk [(1, lk d l 1), (2, lk d l 2), (15, lk d l 15), (16, lk d l 16), (17, lk d l 17)]) h := (trimA_keep tr_40_4 n _ h).trans (by rw [keep_mkT]; kernel_rfl)
/-- Function 40 at the head of loop 4. -/
abbrev S_40_4 (x1 x2 x15 x16 x17 : AV) (h : List Blk) : St := ⟨mkT 32 .junk [(1, x1), (2, x2), (15, x15), (16, x16), (17, x17)], h⟩
theorem mode_41 : XX.mode 41 = .pure := nr (by kernel_rfl)
theorem fns_41 : XX.fns.contains 41 = true := nr (by kernel_rfl)
theorem res_41 : Go.Proofs.Try.f41.results.toList = [.tmp 4] := nr rfl
theorem live_41 : XX.live 41 = [] := nr (by kernel_rfl)
theorem adopt_41 : XX.adopt 41 = [] := nr (by kernel_rfl)
theorem mode_42 : XX.mode 42 = .data := nr (by kernel_rfl)
theorem fns_42 : XX.fns.contains 42 = true := nr (by kernel_rfl)
theorem res_42 : Go.Proofs.Try.f42.results.toList = [.cell 4 54] := nr rfl
theorem live_42 : XX.live 42 = [] := nr (by kernel_rfl)
theorem adopt_42 : XX.adopt 42 = [] := nr (by kernel_rfl)
theorem mode_43 : XX.mode 43 = .data := nr (by kernel_rfl)
theorem fns_43 : XX.fns.contains 43 = true := nr (by kernel_rfl)
theorem res_43 : Go.Proofs.Try.f43.results.toList = [.tmp 6] := nr rfl
theorem live_43 : XX.live 43 = [] := nr (by kernel_rfl)
theorem adopt_43 : XX.adopt 43 = [] := nr (by kernel_rfl)
theorem cls_43_10 : XX.cls 43 10 = [0, 0, 0, 0, 0, 0, 0, 0, 0, 0, 0, 0, 0, 0, 0, 0, 0, 0, 0, 1, 0, 2] := nr (by kernel_rfl)
theorem tr_43_3 : XX.trim 43 3 = some ([0, 2, 7, 16, 17, 18], []) := nr (by kernel_rfl)
theorem trim_43_3 (d : AV) (l : List (Nat × AV)) (h : List Blk) (n : Nat) : trimA XX 43 3 n ⟨mkT 66 d l, h⟩ = gcK n (mkT 66 .junk [(0, lk d l 0), (2, lk d l 2), (7, lk d l 7), (16, lk d l 16), (17, lk d l 17), (18, lk d l 18)]) h := (trimA_keep tr_43_3 n _ h).trans (by rw [keep_mkT]; kernel_rfl)
/-- Function 43 at the head of loop 3. -/
abbrev S_43_3 (x0 x2 x7 x16 x17 x18 : AV) (h : List Blk) : St := ⟨mkT 66 .junk [(0, x0), (2, x2), (7, x7), (16, x16), (17, x17), (18, x18)], h⟩
theorem tr_43_7 : XX.trim 43 7 = some ([0, 2, 7, 8, 9, 10, 16, 17, 18, 27, 28, 29], []) := nr (by kernel_rfl)
theorem trim_43_7 (d : AV) (l : List (Nat × AV)) (h : List Blk) (n : Nat) : trimA XX 43 7 n ⟨mkT 66 d l, h⟩ = gcK n (mkT 66 .junk [(0, lk d l 0), (2, lk d l 2), (7, lk d l 7), (8, lk d l 8), (9, lk d l 9), (10, lk d l 10), (16, lk d l 16), (17, lk d l 17), (18, lk d l 18), (27, lk d l 27), (28, lk d l 28), (29, lk d l 29)]) h := (trimA_keep tr_43_7 n _ h).trans (by rw [keep_mkT]; kernel_rfl)
/-- Function 43 at the head of loop 7. -/
abbrev S_43_7 (x0 x2 x7 x8 x9 x10 x16 x17 x18 x27 x28 x29 : AV) (h : List Blk) : St := ⟨mkT 66 .junk [(0, x0), (2, x2), (7, x7), (8, x8), (9, x9), (10, x10), (16, x16), (17, x17), (18, x18), (27, x27), (28, x28), (29, x29)], h⟩
theorem mode_44 : XX.mode 44 = .data := nr (by kernel_rfl)
theorem fns_44 : XX.fns.contains 44 = true := nr (by kernel_rfl)
theorem res_44 : Go.Proofs.Try.f44.results.toList = [.tmp 4] := nr rfl
theorem live_44 : XX.live 44 = [] := nr (by kernel_rfl)
theorem adopt_44 : XX.adopt 44 = [5] := nr (by kernel_rfl)
theorem tr_44_3 : XX.trim 44 3 = some ([0, 5, 9, 10, 11], []) := nr (by kernel_rfl)
theorem trim_44_3 (d : AV) (l : List (Nat × AV)) (h : List Blk) (n : Nat) : trimA XX 44 3 n ⟨mkT 41 d l, h⟩ = gcK n (mkT 41 .junk [(0, lk d l 0), (5, lk d l 5), (9, lk d l 9), (10, lk d l 10), (11, lk d l 11)]) h := (trimA_keep tr_44_3 n _ h).trans (by rw [keep_mkT]; kernel_rfl)
/-- Function 44 at the head of loop 3. -/
abbrev S_44_3 (x0 x5 x9 x10 x11 : AV) (h : List Blk) : St := ⟨mkT 41 .junk [(0, x0), (5, x5), (9, x9), (10, x10), (11, x11)], h⟩
theorem mode_45 : XX.mode 45 = .data := nr (by kernel_rfl)
theorem fns_45 : XX.fns.contains 45 = true := nr (by kernel_rfl)
theorem res_45 : Go.Proofs.Try.f45.results.toList = [.tmp 4] := nr rfl
theorem live_45 : XX.live 45 = [] := nr (by kernel_rfl)
theorem adopt_45 : XX.adopt 45 = [5] := nr (by kernel_rfl)
theorem cls_45_8 : XX.cls 45 8 = [0, 0, 0, 0, 0, 0, 0, 0, 0, 2] := nr (by kernel_rfl)
theorem tr_45_3 : XX.trim 45 3 = some ([0, 1, 5, 6], []) := nr (by kernel_rfl)
theorem trim_45_3 (d : AV) (l : List (Nat × AV)) (h : List Blk) (n : Nat) : trimA XX 45 3 n ⟨mkT 50 d l, h⟩ = gcK n (mkT 50 .junk [(0, lk d l 0), (1, lk d l 1), (5, lk d l 5), (6, lk d l 6)]) h := (trimA_keep tr_45_3 n _ h).trans (by rw [keep_mkT]; kernel_rfl)
/-- Function 45 at the head of loop 3. -/
abbrev S_45_3 (x0 x1 x5 x6 : AV) (h : List Blk) : St := ⟨mkT 50 .junk [(0, x0), (1, x1), (5, x5), (6, x6)], h⟩
theorem mode_46 : XX.mode 46 = .data := nr (by kernel_rfl)
theorem fns_46 : XX.fns.contains 46 = true := nr (by kernel_rfl)
theorem res_46 : Go.Proofs.Try.f46.results.toList = [.tmp 6] := nr rfl
theorem live_46 : XX.live 46 = [] := nr (by kernel_rfl)
theorem adopt_46 : XX.adopt 46 = [] := nr (by kernel_rfl)
theorem cls_46_9 : XX.cls 46 9 = [0, 0, 0, 0, 0, 0, 0, 0, 0, 0, 0] := nr (by kernel_rfl)
theorem cls_46_10 : XX.cls 46 10 = [0, 0, 0, 0, 0, 0, 0, 0, 0, 0, 0, 0, 0, 0, 0, 0, 0, 0, 0, 0, 0, 2] := nr (by kernel_rfl)
theorem tr_46_3 : XX.trim 46 3 = some ([0, 1, 2, 7, 8], []) := nr (by kernel_rfl)
theorem trim_46_3 (d : AV) (l : List (Nat × AV)) (h : List Blk) (n : Nat) : trimA XX 46 3 n ⟨mkT 70 d l, h⟩ = gcK n (mkT 70 .junk [(0, lk d l 0), (1, lk d l 1), (2, lk d l 2), (7, lk d l 7), (8, lk d l 8)]) h := (trimA_keep tr_46_3 n _ h).trans (by rw [keep_mkT]; kernel_rfl)
/-- Function 46 at the head of loop 3. -/
abbrev S_46_3 (x0 x1 x2 x7 x8 : AV) (h : List Blk) : St := ⟨mkT 70 .junk [(0, x0), (1, x1), (2, x2), (7, x7), (8, x8)], h⟩
theorem tr_46_7 : XX.trim 46 7 = some ([0, 1, 2, 7, 8, 9, 10], []) := nr (by kernel_rfl)
theorem trim_46_7 (d : AV) (l : List (Nat × AV)) (h : List Blk) (n : Nat) : trimA XX 46 7 n ⟨mkT 70 d l, h⟩ = gcK n (mkT 70 .junk [(0, lk d l 0), (1, lk d l 1), (2, lk d l 2), (7, lk d l 7), (8, lk d l 8), (9, lk d l 9), (10, lk d l 10)]) h := (trimA_keep tr_46_7 n _ h).trans (by rw [keep_mkT]; kernel_rfl)
/-- Function 46 at the head of loop 7. -/
abbrev S_46_7 (x0 x1 x2 x7 x8 x9 x10 : AV) (h : List Blk) : St := ⟨mkT 70 .junk [(0, x0), (1, x1), (2, x2), (7, x7), (8, x8), (9, x9), (10, x10)], h⟩
theorem mode_47 : XX.mode 47 = .pure := nr (by kernel_rfl)
theorem fns_47 : XX.fns.contains 47 = true := nr (by kernel_rfl)
theorem res_47 : Go.Proofs.Try.f47.results.toList = [.tmp 6] := nr rfl
theorem live_47 : XX.live 47 = [] := nr (by kernel_rfl)
theorem adopt_47 : XX.adopt 47 = [] := nr (by kernel_rfl)
theorem mode_48 : XX.mode 48 = .pure := nr (by kernel_rfl)
theorem fns_48 : XX.fns.contains 48 = true := nr (by kernel_rfl)
theorem res_48 : Go.Proofs.Try.f48.results.toList = [.tmp 10] := nr rfl
theorem live_48 : XX.live 48 = [] := nr (by kernel_rfl)
theorem adopt_48 : XX.adopt 48 = [] := nr (by kernel_rfl)
theorem cls_48_6 : XX.cls 48 6 = [0, 0, 0, 0, 0, 0, 0, 0, 0, 0, 0, 0, 0, 1, 2, 0] := nr (by kernel_rfl)
theorem tr_48_4 : XX.trim 48 4 = some ([1, 2, 4, 5, 21, 22, 23], []) := nr (by kernel_rfl)
theorem trim_48_4 (d : AV) (l : List (Nat × AV)) (h : List Blk) (n : Nat) : trimA XX 48 4 n ⟨mkT 46 d l, h⟩ = gcK n (mkT 46 .junk [(1, lk d l 1), (2, lk d l 2), (4, lk d l 4), (5, lk d l 5), (21, lk d l 21), (22, lk d l 22), (23, lk d l 23)]) h := (trimA_keep tr_48_4 n _ h).trans (by rw [keep_mkT]; kernel_rfl)
/-- Function 48 at the head of loop 4. -/
abbrev S_48_4 (x1 x2 x4 x5 x21 x22 x23 : AV) (h : List Blk) : St := ⟨mkT 46 .junk [(1, x1), (2, x2), (4, x4), (5, x5), (21, x21), (22, x22), (23, x23)], h⟩
theorem mode_49 : XX.mode 49 = .pure := nr (by kernel_rfl)
theorem fns_49 : XX.fns.contains 49 = true := nr (by kernel_rfl)
theorem res_49 : Go.Proofs.Try.f49.results.toList = [.tmp 4] := nr rfl
theorem live_49 : XX.live 49 = [] := nr (by kernel_rfl)
theorem adopt_49 : XX.adopt 49 = [] := nr (by kernel_rfl)
theorem tr_49_2 : XX.trim 49 2 = some ([0, 1, 5], []) := nr (by kernel_rfl)
theorem trim_49_2 (d : AV) (l : List (Nat × AV)) (h : List Blk) (n : Nat) : trimA XX 49 2 n ⟨mkT 20 d l, h⟩ = gcK n (mkT 20 .junk [(0, lk d l 0), (1, lk d l 1), (5, lk d l 5)]) h := (trimA_keep tr_49_2 n _ h).trans (by rw [keep_mkT]; kernel_rfl)
/-- Function 49 at the head of loop 2. -/
abbrev S_49_2 (x0 x1 x5 : AV) (h : List Blk) : St := ⟨mkT 20 .junk [(0, x0), (1, x1), (5, x5)], h⟩
theorem mode_50 : XX.mode 50 = .pure := nr (by kernel_rfl)
theorem fns_50 : XX.fns.contains 50 = true := nr (by kernel_rfl)
theorem res_50 : Go.Proofs.Try.f50.results.toList = [.tmp 6] := nr rfl
theorem live_50 : XX.live 50 = [] := nr (by kernel_rfl)
theorem adopt_50 : XX.adopt 50 = [] := nr (by kernel_rfl)
theorem cls_50_5 : XX.cls 50 5 = [0, 0, 0, 0, 0, 0, 0, 0, 0, 0, 0] := nr (by kernel_rfl)
theorem cls_50_6 : XX.cls 50 6 = [0, 0, 0, 0, 0, 0, 0, 0, 0, 0, 0, 0, 0, 0] := nr (by kernel_rfl)
theorem tr_50_3 : XX.trim 50 3 = some ([1, 3, 5, 7, 9], []) := nr (by kernel_rfl)
theorem trim_50_3 (d : AV) (l : List (Nat × AV)) (h : List Blk) (n : Nat) : trimA XX 50 3 n ⟨mkT 48 d l, h⟩ = gcK n (mkT 48 .junk [(1, lk d l 1), (3, lk d l 3), (5, lk d l 5), (7, lk d l 7), (9, lk d l 9)]) h := (trimA_keep tr_50_3 n _ h).trans (by rw [keep_mkT]; kernel_rfl)
/-- Function 50 at the head of loop 3. -/
abbrev S_50_3 (x1 x3 x5 x7 x9 : AV) (h : List Blk) : St := ⟨mkT 48 .junk [(1, x1), (3, x3), (5, x5), (7, x7), (9, x9)], h⟩
theorem mode_51 : XX.mode 51 = .pure := nr (by kernel_rfl)
theorem fns_51 : XX.fns.contains 51 = true := nr (by kernel_rfl)
theorem res_51 : Go.Proofs.Try.f51.results.toList = [.tmp 10] := nr rfl
theorem live_51 : XX.live 51 = [] := nr (by kernel_rfl)
theorem adopt_51 : XX.adopt 51 = [] := nr (by kernel_rfl)
theorem cls_51_5 : XX.cls 51 5 = [0, 0, 0, 0, 0, 0, 0, 0, 0, 0, 0, 0, 0, 0, 0, 0, 0, 0, 0] := nr (by kernel_rfl)
theorem tr_51_2 : XX.trim 51 2 = some ([1, 2, 3, 4, 5, 11], []) := nr (by kernel_rfl)
theorem trim_51_2 (d : AV) (l : List (Nat × AV)) (h : List Blk) (n : Nat) : trimA XX 51 2 n ⟨mkT 45 d l, h⟩ = gcK n (mkT 45 .junk [(1, lk d l 1), (2, lk d l 2), (3, lk d l 3), (4, lk d l 4), (5, lk d l 5), (11, lk d l 11)]) h := (trimA_keep tr_51_2 n _ h).trans (by rw [keep_mkT]; kernel_rfl)
/-- Function 51 at the head of loop 2. -/
abbrev S_51_2 (x1 x2 x3 x4 x5 x11 : AV) (h : List Blk) : St := ⟨mkT 45 .junk [(1, x1), (2, x2), (3, x3), (4, x4), (5, x5), (11, x11)], h⟩
theorem mode_52 : XX.mode 52 = .pure := nr (by kernel_rfl)
theorem fns_52 : XX.fns.contains 52 = true := nr (by kernel_rfl)
theorem res_52 : Go.Proofs.Try.f52.results.toList = [.tmp 4] := nr rfl
theorem live_52 : XX.live 52 = [] := nr (by kernel_rfl)
theorem adopt_52 : XX.adopt 52 = [] := nr (by kernel_rfl)
theorem tr_52_2 : XX.trim 52 2 = some ([0, 1, 7, 8], []) := nr (by kernel_rfl)
theorem trim_52_2 (d : AV) (l : List (Nat × AV)) (h : List Blk) (n : Nat) : trimA XX 52 2 n ⟨mkT 19 d l, h⟩ = gcK n (mkT 19 .junk [(0, lk d l 0), (1, lk d l 1), (7, lk d l 7), (8, lk d l 8)]) h := (trimA_keep tr_52_2 n _ h).trans (by rw [keep_mkT]; kernel_rfl)
/-- Function 52 at the head of loop 2. -/
abbrev S_52_2 (x0 x1 x7 x8 : AV) (h : List Blk) : St := ⟨mkT 19 .junk [(0, x0), (1, x1), (7, x7), (8, x8)], h⟩
theorem mode_53 : XX.mode 53 = .pure := nr (by kernel_rfl)
theorem fns_53 : XX.fns.contains 53 = true := nr (by kernel_rfl)
theorem res_53 : Go.Proofs.Try.f53.results.toList = [.tmp 3] := nr rfl
theorem live_53 : XX.live 53 = [] := nr (by kernel_rfl)
theorem adopt_53 : XX.adopt 53 = [] := nr (by kernel_rfl)
theorem mode_54 : XX.mode 54 = .pure := nr (by kernel_rfl)
theorem fns_54 : XX.fns.contains 54 = true := nr (by kernel_rfl)
theorem res_54 : Go.Proofs.Try.f54.results.toList = [.tmp 4] := nr rfl
theorem live_54 : XX.live 54 = [] := nr (by kernel_rfl)
theorem adopt_54 : XX.adopt 54 = [] := nr (by kernel_rfl)
theorem tr_54_2 : XX.trim 54 2 = some ([0, 1, 7, 8], []) := nr (by kernel_rfl)
theorem trim_54_2 (d : AV) (l : List (Nat × AV)) (h : List Blk) (n : Nat) : trimA XX 54 2 n ⟨mkT 19 d l, h⟩ = gcK n (mkT 19 .junk [(0, lk d l 0), (1, lk d l 1), (7, lk d l 7), (8, lk d l 8)]) h := (trimA_keep tr_54_2 n _ h).trans (by rw [keep_mkT]; kernel_rfl)
/-- Function 54 at the head of loop 2. -/
abbrev S_54_2 (x0 x1 x7 x8 : AV) (h : List Blk) : St := ⟨mkT 19 .junk [(0, x0), (1, x1), (7, x7), (8, x8)], h⟩
theorem mode_55 : XX.mode 55 = .pure := nr (by kernel_rfl)
theorem fns_55 : XX.fns.contains 55 = true := nr (by kernel_rfl)
theorem res_55 : Go.Proofs.Try.f55.results.toList = [.tmp 3] := nr rfl
theorem live_55 : XX.live 55 = [] := nr (by kernel_rfl)
theorem adopt_55 : XX.adopt 55 = [] := nr (by kernel_rfl)
theorem mode_56 : XX.mode 56 = .pure := nr (by kernel_rfl)
theorem fns_56 : XX.fns.contains 56 = true := nr (by kernel_rfl)
theorem res_56 : Go.Proofs.Try.f56.results.toList = [.tmp 4] := nr rfl
theorem live_56 : XX.live 56 = [] := nr (by kernel_rfl)
theorem adopt_56 : XX.adopt 56 = [] := nr (by kernel_rfl)
theorem tr_56_4 : XX.trim 56 4 = some ([1, 2, 5], []) := nr (by kernel_rfl)
theorem trim_56_4 (d : AV) (l : List (Nat × AV)) (h : List Blk) (n : Nat) : trimA XX 56 4 n ⟨mkT 88 d l, h⟩ = gcK n (mkT 88 .junk [(1, lk d l 1), (2, lk d l 2), (5, lk d l 5)]) h := (trimA_keep tr_56_4 n _ h).trans (by rw [keep_mkT]; kernel_rfl)
/-- Function 56 at the head of loop 4. -/
abbrev S_56_4 (x1 x2 x5 : AV) (h : List Blk) : St := ⟨mkT 88 .junk [(1, x1), (2, x2), (5, x5)], h⟩
theorem tr_56_16 : XX.trim 56 16 = some ([6, 7], []) := nr (by kernel_rfl)
theorem trim_56_16 (d : AV) (l : List (Nat × AV)) (h : List Blk) (n : Nat) : trimA XX 56 16 n ⟨mkT 88 d l, h⟩ = gcK n (mkT 88 .junk [(6, lk d l 6), (7, lk d l 7)]) h := (trimA_keep tr_56_16 n _ h).trans (by rw [keep_mkT]; kernel_rfl)
/-- Function 56 at the head of loop 16. -/
abbrev S_56_16 (x6 x7 : AV) (h : List Blk) : St := ⟨mkT 88 .junk [(6, x6), (7, x7)], h⟩
theorem mode_57 : XX.mode 57 = .data := nr (by kernel_rfl)
theorem fns_57 : XX.fns.contains 57 = true := nr (by kernel_rfl)
theorem res_57 : Go.Proofs.Try.f57.results.toList = [.tmp 4, .tmp 5] := nr rfl
theorem live_57 : XX.live 57 = [] := nr (by kernel_rfl)
theorem adopt_57 : XX.adopt 57 = [6] := nr (by kernel_rfl)
theorem cls_57_9 : XX.cls 57 9 = [0, 0, 0, 0, 0, 0, 0, 0, 0, 0, 0, 0] := nr (by kernel_rfl)
theorem tr_57_3 : XX.trim 57 3 = some ([2, 3, 6, 7], []) := nr (by kernel_rfl)
theorem trim_57_3 (d : AV) (l : List (Nat × AV)) (h : List Blk) (n : Nat) : trimA XX 57 3 n ⟨mkT 52 d l, h⟩ = gcK n (mkT 52 .junk [(2, lk d l 2), (3, lk d l 3), (6, lk d l 6), (7, lk d l 7)]) h := (trimA_keep tr_57_3 n _ h).trans (by rw [keep_mkT]; kernel_rfl)
/-- Function 57 at the head of loop 3. -/
abbrev S_57_3 (x2 x3 x6 x7 : AV) (h : List Blk) : St := ⟨mkT 52 .junk [(2, x2), (3, x3), (6, x6), (7, x7)], h⟩
theorem tr_57_7 : XX.trim 57 7 = some ([2, 3, 6, 7, 8, 9], []) := nr (by kernel_rfl)
theorem trim_57_7 (d : AV) (l : List (Nat × AV)) (h : List Blk) (n : Nat) : trimA XX 57 7 n ⟨mkT 52 d l, h⟩ = gcK n (mkT 52 .junk [(2, lk d l 2), (3, lk d l 3), (6, lk d l 6), (7, lk d l 7), (8, lk d l 8), (9, lk d l 9)]) h := (trimA_keep tr_57_7 n _ h).trans (by rw [keep_mkT]; kernel_rfl)
/-- Function 57 at the head of loop 7. -/
abbrev S_57_7 (x2 x3 x6 x7 x8 x9 : AV) (h : List Blk) : St := ⟨mkT 52 .junk [(2, x2), (3, x3), (6, x6), (7, x7), (8, x8), (9, x9)], h⟩
theorem mode_58 : XX.mode 58 = .data := nr (by kernel_rfl)
theorem fns_58 : XX.fns.contains 58 = true := nr (by kernel_rfl)
theorem res_58 : Go.Proofs.Try.f58.results.toList = [.tmp 4] := nr rfl
theorem live_58 : XX.live 58 = [] := nr (by kernel_rfl)
theorem adopt_58 : XX.adopt 58 = [] := nr (by kernel_rfl)
theorem cls_58_6 : XX.cls 58 6 = [0, 0, 0, 0, 0, 0, 0, 0, 0, 0, 0, 0, 0, 0, 0] := nr (by kernel_rfl)
theorem cls_58_9 : XX.cls 58 9 = [0, 0, 0, 0, 0, 0, 0, 0, 0, 1, 0, 2, 0] := nr (by kernel_rfl)
theorem tr_58_3 : XX.trim 58 3 = some ([0, 1, 5, 6], [5]) := nr (by kernel_rfl)
theorem trim_58_3 (d : AV) (l : List (Nat × AV)) (h : List Blk) (n : Nat) : trimA XX 58 3 n ⟨mkT 51 d l, h⟩ = orO (frzH n 51 5 (lk d l 5) [(0, lk d l 0), (1, lk d l 1), (5, lk d l 5), (6, lk d l 6)] h) (frzO n 51 5 [0, 1, 5, 6] d l h) := ((trimA_frz tr_58_3 n _ h).trans (by simp only [List.map_cons, List.map_nil]; (repeat rw [mkT_getD _ _ _ (by decide)]); rfl)).trans (frzO_eq n 51 5 [0, 1, 5, 6] d l h)
/-- Function 58 at the head of loop 3. -/
abbrev S_58_3 (x0 x1 x5 x6 : AV) (h : List Blk) : St := ⟨mkT 51 .junk [(0, x0), (1, x1), (5, x5), (6, x6)], h⟩
theorem tr_58_6 : XX.trim 58 6 = some ([0, 1, 5, 6, 7], []) := nr (by kernel_rfl)
theorem trim_58_6 (d : AV) (l : List (Nat × AV)) (h : List Blk) (n : Nat) : trimA XX 58 6 n ⟨mkT 51 d l, h⟩ = gcK n (mkT 51 .junk [(0, lk d l 0), (1, lk d l 1), (5, lk d l 5), (6, lk d l 6), (7, lk d l 7)]) h := (trimA_keep tr_58_6 n _ h).trans (by rw [keep_mkT]; kernel_rfl)
/-- Function 58 at the head of loop 6. -/
abbrev S_58_6 (x0 x1 x5 x6 x7 : AV) (h : List Blk) : St := ⟨mkT 51 .junk [(0, x0), (1, x1), (5, x5), (6, x6), (7, x7)], h⟩
theorem mode_59 : XX.mode 59 = .pure := nr (by kernel_rfl)
theorem fns_59 : XX.fns.contains 59 = true := nr (by kernel_rfl)
theorem res_59 : Go.Proofs.Try.f59.results.toList = [.tmp 4] := nr rfl
theorem live_59 : XX.live 59 = [] := nr (by kernel_rfl)
theorem adopt_59 : XX.adopt 59 = [] := nr (by kernel_rfl)
theorem tr_59_2 : XX.trim 59 2 = some ([0, 1, 5], []) := nr (by kernel_rfl)
theorem trim_59_2 (d : AV) (l : List (Nat × AV)) (h : List Blk) (n : Nat) : trimA XX 59 2 n ⟨mkT 18 d l, h⟩ = gcK n (mkT 18 .junk [(0, lk d l 0), (1, lk d l 1), (5, lk d l 5)]) h := (trimA_keep tr_59_2 n _ h).trans (by rw [keep_mkT]; kernel_rfl)
/-- Function 59 at the head of loop 2. -/
abbrev S_59_2 (x0 x1 x5 : AV) (h : List Blk) : St := ⟨mkT 18 .junk [(0, x0), (1, x1), (5, x5)], h⟩
theorem mode_60 : XX.mode 60 = .pure := nr (by kernel_rfl)
theorem fns_60 : XX.fns.contains 60 = true := nr (by kernel_rfl)
theorem res_60 : Go.Proofs.Try.f60.results.toList = [.tmp 4] := nr rfl
theorem live_60 : XX.live 60 = [] := nr (by kernel_rfl)
theorem adopt_60 : XX.adopt 60 = [] := nr (by kernel_rfl)
theorem cls_60_6 : XX.cls 60 6 = [0, 0, 0, 0, 0, 0, 0, 0, 0] := nr (by kernel_rfl)
theorem tr_60_4 : XX.trim 60 4 = some ([0, 1, 5], []) := nr (by kernel_rfl)
theorem trim_60_4 (d : AV) (l : List (Nat × AV)) (h : List Blk) (n : Nat) : trimA XX 60 4 n ⟨mkT 26 d l, h⟩ = gcK n (mkT 26 .junk [(0, lk d l 0), (1, lk d l 1), (5, lk d l 5)]) h := (trimA_keep tr_60_4 n _ h).trans (by rw [keep_mkT]; kernel_rfl)
/-- Function 60 at the head of loop 4. -/
abbrev S_60_4 (x0 x1 x5 : AV) (h : List Blk) : St := ⟨mkT 26 .junk [(0, x0), (1, x1), (5, x5)], h⟩
theorem mode_61 : XX.mode 61 = .pure := nr (by kernel_rfl)
theorem fns_61 : XX.fns.contains 61 = true := nr (by kernel_rfl)
theorem res_61 : Go.Proofs.Try.f61.results.toList = [.tmp 4] := nr rfl
theorem live_61 : XX.live 61 = [] := nr (by kernel_rfl)
theorem adopt_61 : XX.adopt 61 = [] := nr (by kernel_rfl)
theorem tr_61_2 : XX.trim 61 2 = some ([0, 1, 7, 8], []) := nr (by kernel_rfl)
theorem trim_61_2 (d : AV) (l : List (Nat × AV)) (h : List Blk) (n : Nat) : trimA XX 61 2 n ⟨mkT 19 d l, h⟩ = gcK n (mkT 19 .junk [(0, lk d l 0), (1, lk d l 1), (7, lk d l 7), (8, lk d l 8)]) h := (trimA_keep tr_61_2 n _ h).trans (by rw [keep_mkT]; kernel_rfl)
/-- Function 61 at the head of loop 2. -/
abbrev S_61_2 (x0 x1 x7 x8 : AV) (h : List Blk) : St := ⟨mkT 19 .junk [(0, x0), (1, x1), (7, x7), (8, x8)], h⟩
theorem mode_62 : XX.mode 62 = .fresh := nr (by kernel_rfl)
theorem fns_62 : XX.fns.contains 62 = true := nr (by kernel_rfl)
theorem res_62 : Go.Proofs.Try.f62.results.toList = [.tmp 2] := nr rfl
theorem live_62 : XX.live 62 = [] := nr (by kernel_rfl)
theorem adopt_62 : XX.adopt 62 = [] := nr (by kernel_rfl)
theorem mode_63 : XX.mode 63 = .fresh := nr (by kernel_rfl)
theorem fns_63 : XX.fns.contains 63 = true := nr (by kernel_rfl)
theorem res_63 : Go.Proofs.Try.f63.results.toList = [.tmp 4] := nr rfl
theorem live_63 : XX.live 63 = [] := nr (by kernel_rfl)
theorem adopt_63 : XX.adopt 63 = [] := nr (by kernel_rfl)
theorem cls_63_11 : XX.cls 63 11 = [0, 0, 0, 0, 0, 0, 0, 0, 0, 0, 0, 0, 0, 0, 0, 0, 0, 0, 0, 1, 0, 2] := nr (by kernel_rfl)
theorem tr_63_9 : XX.trim 63 9 = some ([0, 1, 5, 37, 38], []) := nr (by kernel_rfl)
theorem trim_63_9 (d : AV) (l : List (Nat × AV)) (h : List Blk) (n : Nat) : trimA XX 63 9 n ⟨mkT 64 d l, h⟩ = gcK n (mkT 64 .junk [(0, lk d l 0), (1, lk d l 1), (5, lk d l 5), (37, lk d l 37), (38, lk d l 38)]) h := (trimA_keep tr_63_9 n _ h).trans (by rw [keep_mkT]; kernel_rfl)
/-- Function 63 at the head of loop 9. -/
abbrev S_63_9 (x0 x1 x5 x37 x38 : AV) (h : List Blk) : St := ⟨mkT 64 .junk [(0, x0), (1, x1), (5, x5), (37, x37), (38, x38)], h⟩
theorem mode_64 : XX.mode 64 = .data := nr (by kernel_rfl)
theorem fns_64 : XX.fns.contains 64 = true := nr (by kernel_rfl)
theorem res_64 : Go.Proofs.Try.f64.results.toList = [.tmp 6] := nr rfl
theorem live_64 : XX.live 64 = [] := nr (by kernel_rfl)
theorem adopt_64 : XX.adopt 64 = [7] := nr (by kernel_rfl)
theorem cls_64_20 : XX.cls 64 20 = [0, 0, 0, 0, 0, 0, 0, 2, 0] := nr (by kernel_rfl)
theorem cls_64_31 : XX.cls 64 31 = [0, 0, 0, 0, 0, 0, 0, 2] := nr (by kernel_rfl)
theorem tr_64_12 : XX.trim 64 12 = some ([3, 4, 7, 8, 9, 52, 53, 54], []) := nr (by kernel_rfl)
theorem trim_64_12 (d : AV) (l : List (Nat × AV)) (h : List Blk) (n : Nat) : trimA XX 64 12 n ⟨mkT 140 d l, h⟩ = gcK n (mkT 140 .junk [(3, lk d l 3), (4, lk d l 4), (7, lk d l 7), (8, lk d l 8), (9, lk d l 9), (52, lk d l 52), (53, lk d l 53), (54, lk d l 54)]) h := (trimA_keep tr_64_12 n _ h).trans (by rw [keep_mkT]; kernel_rfl)
/-- Function 64 at the head of loop 12. -/
abbrev S_64_12 (x3 x4 x7 x8 x9 x52 x53 x54 : AV) (h : List Blk) : St := ⟨mkT 140 .junk [(3, x3), (4, x4), (7, x7), (8, x8), (9, x9), (52, x52), (53, x53), (54, x54)], h⟩
theorem tr_64_28 : XX.trim 64 28 = some ([3, 8, 119, 120, 121], []) := nr (by kernel_rfl)
theorem trim_64_28 (d : AV) (l : List (Nat × AV)) (h : List Blk) (n : Nat) : trimA XX 64 28 n ⟨mkT 140 d l, h⟩ = gcK n (mkT 140 .junk [(3, lk d l 3), (8, lk d l 8), (119, lk d l 119), (120, lk d l 120), (121, lk d l 121)]) h := (trimA_keep tr_64_28 n _ h).trans (by rw [keep_mkT]; kernel_rfl)
/-- Function 64 at the head of loop 28. -/
abbrev S_64_28 (x3 x8 x119 x120 x121 : AV) (h : List Blk) : St := ⟨mkT 140 .junk [(3, x3), (8, x8), (119, x119), (120, x120), (121, x121)], h⟩
theorem mode_65 : XX.mode 65 = .data := nr (by kernel_rfl)
theorem fns_65 : XX.fns.contains 65 = true := nr (by kernel_rfl)
theorem res_65 : Go.Proofs.Try.f65.results.toList = [.cell 4 100] := nr rfl
theorem live_65 : XX.live 65 = [] := nr (by kernel_rfl)
theorem adopt_65 : XX.adopt 65 = [] := nr (by kernel_rfl)
theorem cls_65_10 : XX.cls 65 10 = [0, 0, 0, 0, 0, 0, 2, 0, 2] := nr (by kernel_rfl)
theorem tr_65_3 : XX.trim 65 3 = some ([2, 3, 4, 5, 6], []) := nr (by kernel_rfl)
theorem trim_65_3 (d : AV) (l : List (Nat × AV)) (h : List Blk) (n : Nat) : trimA XX 65 3 n ⟨mkT 67 d l, h⟩ = gcK n (mkT 67 .junk [(2, lk d l 2), (3, lk d l 3), (4, lk d l 4), (5, lk d l 5), (6, lk d l 6)]) h := (trimA_keep tr_65_3 n _ h).trans (by rw [keep_mkT]; kernel_rfl)
/-- Function 65 at the head of loop 3. -/
abbrev S_65_3 (x2 x3 x4 x5 x6 : AV) (h : List Blk) : St := ⟨mkT 67 .junk [(2, x2), (3, x3), (4, x4), (5, x5), (6, x6)], h⟩
theorem mode_66 : XX.mode 66 = .data := nr (by kernel_rfl)
theorem fns_66 : XX.fns.contains 66 = true := nr (by kernel_rfl)
theorem res_66 : Go.Proofs.Try.f66.results.toList = [.cell 6 100] := nr rfl
theorem live_66 : XX.live 66 = [] := nr (by kernel_rfl)
theorem adopt_66 : XX.adopt 66 = [8] := nr (by kernel_rfl)
theorem cls_66_35 : XX.cls 66 35 = [0, 0, 0, 0, 0, 0, 0, 0, 0, 0, 0, 0, 0, 0, 2] := nr (by kernel_rfl)
theorem cls_66_36 : XX.cls 66 36 = [0, 0, 0, 0, 0, 0, 0, 0, 0] := nr (by kernel_rfl)
theorem tr_66_11 : XX.trim 66 11 = some ([3, 4, 5, 6, 7, 8, 9, 10], []) := nr (by kernel_rfl)
theorem trim_66_11 (d : AV) (l : List (Nat × AV)) (h : List Blk) (n : Nat) : trimA XX 66 11 n ⟨mkT 184 d l, h⟩ = gcK n (mkT 184 .junk [(3, lk d l 3), (4, lk d l 4), (5, lk d l 5), (6, lk d l 6), (7, lk d l 7), (8, lk d l 8), (9, lk d l 9), (10, lk d l 10)]) h := (trimA_keep tr_66_11 n _ h).trans (by rw [keep_mkT]; kernel_rfl)
/-- Function 66 at the head of loop 11. -/
abbrev S_66_11 (x3 x4 x5 x6 x7 x8 x9 x10 : AV) (h : List Blk) : St := ⟨mkT 184 .junk [(3, x3), (4, x4), (5, x5), (6, x6), (7, x7), (8, x8), (9, x9), (10, x10)], h⟩
theorem tr_66_26 : XX.trim 66 26 = some ([3, 4, 6, 7, 9, 14, 15], []) := nr (by kernel_rfl)
theorem trim_66_26 (d : AV) (l : List (Nat × AV)) (h : List Blk) (n : Nat) : trimA XX 66 26 n ⟨mkT 184 d l, h⟩ = gcK n (mkT 184 .junk [(3, lk d l 3), (4, lk d l 4), (6, lk d l 6), (7, lk d l 7), (9, lk d l 9), (14, lk d l 14), (15, lk d l 15)]) h := (trimA_keep tr_66_26 n _ h).trans (by rw [keep_mkT]; kernel_rfl)
/-- Function 66 at the head of loop 26. -/
abbrev S_66_26 (x3 x4 x6 x7 x9 x14 x15 : AV) (h : List Blk) : St := ⟨mkT 184 .junk [(3, x3), (4, x4), (6, x6), (7, x7), (9, x9), (14, x14), (15, x15)], h⟩
theorem tr_66_33 : XX.trim 66 33 = some ([3, 4, 6, 7, 14, 16], []) := nr (by kernel_rfl)
theorem trim_66_33 (d : AV) (l : List (Nat × AV)) (h : List Blk) (n : Nat) : trimA XX 66 33 n ⟨mkT 184 d l, h⟩ = gcK n (mkT 184 .junk [(3, lk d l 3), (4, lk d l 4), (6, lk d l 6), (7, lk d l 7), (14, lk d l 14), (16, lk d l 16)]) h := (trimA_keep tr_66_33 n _ h).trans (by rw [keep_mkT]; kernel_rfl)
/-- Function 66 at the head of loop 33. -/
abbrev S_66_33 (x3 x4 x6 x7 x14 x16 : AV) (h : List Blk) : St := ⟨mkT 184 .junk [(3, x3), (4, x4), (6, x6), (7, x7), (14, x14), (16, x16)], h⟩
theorem mode_67 : XX.mode 67 = .pure := nr (by kernel_rfl)
theorem fns_67 : XX.fns.contains 67 = true := nr (by kernel_rfl)
theorem res_67 : Go.Proofs.Try.f67.results.toList = [.tmp 5] := nr rfl
theorem live_67 : XX.live 67 = [] := nr (by kernel_rfl)
theorem adopt_67 : XX.adopt 67 = [] := nr (by kernel_rfl)
theorem mode_68 : XX.mode 68 = .pure := nr (by kernel_rfl)
theorem fns_68 : XX.fns.contains 68 = true := nr (by kernel_rfl)
theorem res_68 : Go.Proofs.Try.f68.results.toList = [.tmp 4] := nr rfl
theorem live_68 : XX.live 68 = [] := nr (by kernel_rfl)
theorem adopt_68 : XX.adopt 68 = [] := nr (by kernel_rfl)
theorem cls_68_4 : XX.cls 68 4 = [0, 0, 0, 0, 0, 0, 0, 0, 0] := nr (by kernel_rfl)
theorem cls_68_6 : XX.cls 68 6 = [0, 0, 0, 0, 0, 0, 0, 0, 0] := nr (by kernel_rfl)
theorem tr_68_2 : XX.trim 68 2 = some ([0, 1, 5], []) := nr (by kernel_rfl)
theorem trim_68_2 (d : AV) (l : List (Nat × AV)) (h : List Blk) (n : Nat) : trimA XX 68 2 n ⟨mkT 41 d l, h⟩ = gcK n (mkT 41 .junk [(0, lk d l 0), (1, lk d l 1), (5, lk d l 5)]) h := (trimA_keep tr_68_2 n _ h).trans (by rw [keep_mkT]; kernel_rfl)
/-- Function 68 at the head of loop 2. -/
abbrev S_68_2 (x0 x1 x5 : AV) (h : List Blk) : St := ⟨mkT 41 .junk [(0, x0), (1, x1), (5, x5)], h⟩
theorem mode_69 : XX.mode 69 = .pure := nr (by kernel_rfl)
theorem fns_69 : XX.fns.contains 69 = true := nr (by kernel_rfl)
theorem res_69 : Go.Proofs.Try.f69.results.toList = [.tmp 6] := nr rfl
theorem live_69 : XX.live 69 = [] := nr (by kernel_rfl)
theorem adopt_69 : XX.adopt 69 = [] := nr (by kernel_rfl)
theorem cls_69_1 : XX.cls 69 1 = [0, 0, 0, 0, 0, 0, 0, 0, 0, 0] := nr (by kernel_rfl)
theorem cls_69_4 : XX.cls 69 4 = [0, 0, 0, 0, 0, 0, 0, 0, 0, 0, 0] := nr (by kernel_rfl)
theorem cls_69_5 : XX.cls 69 5 = [0, 0, 0, 0, 0, 0, 0, 0, 0, 0, 0] := nr (by kernel_rfl)
theorem mode_70 : XX.mode 70 = .data := nr (by kernel_rfl)
theorem fns_70 : XX.fns.contains 70 = true := nr (by kernel_rfl)
theorem res_70 : Go.Proofs.Try.f70.results.toList = [.tmp 0] := nr rfl
theorem live_70 : XX.live 70 = [] := nr (by kernel_rfl)
theorem adopt_70 : XX.adopt 70 = [] := nr (by kernel_rfl)
theorem mode_71 : XX.mode 71 = .pure := nr (by kernel_rfl)
theorem fns_71 : XX.fns.contains 71 = true := nr (by kernel_rfl)
theorem res_71 : Go.Proofs.Try.f71.results.toList = [.tmp 3] := nr rfl
theorem live_71 : XX.live 71 = [] := nr (by kernel_rfl)
theorem adopt_71 : XX.adopt 71 = [] := nr (by kernel_rfl)
theorem mode_72 : XX.mode 72 = .pure := nr (by kernel_rfl)
theorem fns_72 : XX.fns.contains 72 = true := nr (by kernel_rfl)
theorem res_72 : Go.Proofs.Try.f72.results.toList = [.tmp 4] := nr rfl
theorem live_72 : XX.live 72 = [] := nr (by kernel_rfl)
theorem adopt_72 : XX.adopt 72 = [] := nr (by kernel_rfl)
theorem mode_73 : XX.mode 73 = .pure := nr (by kernel_rfl)
theorem fns_73 : XX.fns.contains 73 = true := nr (by kernel_rfl)
theorem res_73 : Go.Proofs.Try.f73.results.toList = [.tmp 2] := nr rfl
theorem live_73 : XX.live 73 = [] := nr (by kernel_rfl)
theorem adopt_73 : XX.adopt 73 = [] := nr (by kernel_rfl)
theorem mode_74 : XX.mode 74 = .pure := nr (by kernel_rfl)
theorem fns_74 : XX.fns.contains 74 = true := nr (by kernel_rfl)
theorem res_74 : Go.Proofs.Try.f74.results.toList = [.tmp 6] := nr rfl
theorem live_74 : XX.live 74 = [] := nr (by kernel_rfl)
theorem adopt_74 : XX.adopt 74 = [] := nr (by kernel_rfl)
theorem tr_74_2 : XX.trim 74 2 = some ([1, 2, 3, 7], []) := nr (by kernel_rfl)
theorem trim_74_2 (d : AV) (l : List (Nat × AV)) (h : List Blk) (n : Nat) : trimA XX 74 2 n ⟨mkT 34 d l, h⟩ = gcK n (mkT 34 .junk [(1, lk d l 1), (2, lk d l 2), (3, lk d l 3), (7, lk d l 7)]) h := (trimA_keep tr_74_2 n _ h).trans (by rw [keep_mkT]; kernel_rfl)
/-- Function 74 at the head of loop 2. -/
abbrev S_74_2 (x1 x2 x3 x7 : AV) (h : List Blk) : St := ⟨mkT 34 .junk [(1, x1), (2, x2), (3, x3), (7, x7)], h⟩
theorem mode_75 : XX.mode 75 = .pure := nr (by kernel_rfl)
theorem fns_75 : XX.fns.contains 75 = true := nr (by kernel_rfl)
theorem res_75 : Go.Proofs.Try.f75.results.toList = [.tmp 4] := nr rfl
theorem live_75 : XX.live 75 = [] := nr (by kernel_rfl)
theorem adopt_75 : XX.adopt 75 = [] := nr (by kernel_rfl)
theorem tr_75_2 : XX.trim 75 2 = some ([0, 1, 7, 8], []) := nr (by kernel_rfl)
theorem trim_75_2 (d : AV) (l : List (Nat × AV)) (h : List Blk) (n : Nat) : trimA XX 75 2 n ⟨mkT 19 d l, h⟩ = gcK n (mkT 19 .junk [(0, lk d l 0), (1, lk d l 1), (7, lk d l 7), (8, lk d l 8)]) h := (trimA_keep tr_75_2 n _ h).trans (by rw [keep_mkT]; kernel_rfl)
/-- Function 75 at the head of loop 2. -/
abbrev S_75_2 (x0 x1 x7 x8 : AV) (h : List Blk) : St := ⟨mkT 19 .junk [(0, x0), (1, x1), (7, x7), (8, x8)], h⟩
theorem ty_0 : tyOf Go.Proofs.Try.prog 0 = Option.some { d := Go.Abs.TD.other, size := 1, bytes := 0, zero := Option.some (Go.Value.tuple #[]) } := nr (by kernel_rfl)
theorem ty_1 : tyOf Go.Proofs.Try.prog 1 = Option.some { d := Go.Abs.TD.other, size := 1, bytes := 8, zero := Option.some Go.Value.nilFunc } := nr (by kernel_rfl)
theorem zero_1 : zeroA Go.Proofs.Try.prog 1 = some [.v (Go.Value.nilFunc)] := nr (by kernel_rfl)
theorem ty_2 : tyOf Go.Proofs.Try.prog 2 = Option.some { d := Go.Abs.TD.int Go.IntKind.i64, size := 1, bytes := 8, zero := Option.some (Go.Value.int Go.IntKind.i64 0) } := nr (by kernel_rfl)
theorem zero_2 : zeroA Go.Proofs.Try.prog 2 = some [.v (Go.Value.int Go.IntKind.i64 0)] := nr (by kernel_rfl)
theorem ty_3 : tyOf Go.Proofs.Try.prog 3 = Option.some { d := Go.Abs.TD.int Go.IntKind.i64, size := 1, bytes := 8, zero := Option.some (Go.Value.int Go.IntKind.i64 0) } := nr (by kernel_rfl)
theorem zero_3 : zeroA Go.Proofs.Try.prog 3 = some [.v (Go.Value.int Go.IntKind.i64 0)] := nr (by kernel_rfl)
theorem ty_4 : tyOf Go.Proofs.Try.prog 4 = Option.some { d := Go.Abs.TD.bool, size := 1, bytes := 1, zero := Option.some (Go.Value.bool Bool.false) } := nr (by kernel_rfl)
theorem zero_4 : zeroA Go.Proofs.Try.prog 4 = some [.v (Go.Value.bool Bool.false)] := nr (by kernel_rfl)
theorem ty_5 : tyOf Go.Proofs.Try.prog 5 = Option.some { d := Go.Abs.TD.int Go.IntKind.u8, size := 1, bytes := 1, zero := Option.some (Go.Value.int Go.IntKind.u8 0) } := nr (by kernel_rfl)
theorem zero_5 : zeroA Go.Proofs.Try.prog 5 = some [.v (Go.Value.int Go.IntKind.u8 0)] := nr (by kernel_rfl)
theorem ty_6 : tyOf Go.Proofs.Try.prog 6 = Option.some { d := Go.Abs.TD.int Go.IntKind.u8, size := 1, bytes := 1, zero := Option.some (Go.Value.int Go.IntKind.u8 0) } := nr (by kernel_rfl)
theorem zero_6 : zeroA Go.Proofs.Try.prog 6 = some [.v (Go.Value.int Go.IntKind.u8 0)] := nr (by kernel_rfl)
theorem ty_9 : tyOf Go.Proofs.Try.prog 9 = Option.some { d := Go.Abs.TD.str, size := 1, bytes := 16, zero := Option.some (Go.Value.string { data := #[] }) } := nr (by kernel_rfl)
theorem zero_9 : zeroA Go.Proofs.Try.prog 9 = some [.v (Go.Value.string { data := #[] })] := nr (by kernel_rfl)
theorem ty_22 : tyOf Go.Proofs.Try.prog 22 = Option.some { d := Go.Abs.TD.slice 37, size := 1, bytes := 24, zero := Option.some (Go.Value.slice Option.none 0 0) } := nr (by kernel_rfl)
theorem zero_22 : zeroA Go.Proofs.Try.prog 22 = some [.fs [] true] := nr (by kernel_rfl)
theorem ty_24 : tyOf Go.Proofs.Try.prog 24 = Option.some { d := Go.Abs.TD.struct [(0, 22), (1, 4), (2, 4)], size := 3, bytes := 32, zero := Option.some (Go.Value.agg #[Go.Value.slice Option.none 0 0, Go.Value.bool Bool.false, Go.Value.bool Bool.false]) } := nr (by kernel_rfl)
theorem zero_24 : zeroA Go.Proofs.Try.prog 24 = some [.fs [] true, .v (Go.Value.bool Bool.false), .v (Go.Value.bool Bool.false)] := nr (by kernel_rfl)
theorem ty_25 : tyOf Go.Proofs.Try.prog 25 = Option.some { d := Go.Abs.TD.slice 9, size := 1, bytes := 24, zero := Option.some (Go.Value.slice Option.none 0 0) } := nr (by kernel_rfl)
theorem zero_25 : zeroA Go.Proofs.Try.prog 25 = some [.fs [] true] := nr (by kernel_rfl)
theorem ty_26 : tyOf Go.Proofs.Try.prog 26 = Option.some { d := Go.Abs.TD.slice 57, size := 1, bytes := 24, zero := Option.some (Go.Value.slice Option.none 0 0) } := nr (by kernel_rfl)
theorem zero_26 : zeroA Go.Proofs.Try.prog 26 = some [.fs [] true] := nr (by kernel_rfl)
theorem ty_28 : tyOf Go.Proofs.Try.prog 28 = Option.some { d := Go.Abs.TD.slice 59, size := 1, bytes := 24, zero := Option.some (Go.Value.slice Option.none 0 0) } := nr (by kernel_rfl)
theorem zero_28 : zeroA Go.Proofs.Try.prog 28 = some [.fs [] true] := nr (by kernel_rfl)
theorem ty_37 : tyOf Go.Proofs.Try.prog 37 = Option.some { d := Go.Abs.TD.struct [(0, 9), (1, 3), (2, 25), (3, 4)], size := 4, bytes := 56, zero := Option.some (Go.Value.agg #[Go.Value.string { data := #[] }, Go.Value.int Go.IntKind.i64 0, Go.Value.slice Option.none 0 0, Go.Value.bool Bool.false]) } := nr (by kernel_rfl)
theorem zero_37 : zeroA Go.Proofs.Try.prog 37 = some [.v (Go.Value.string { data := #[] }), .v (Go.Value.int Go.IntKind.i64 0), .fs [] true, .v (Go.Value.bool Bool.false)] := nr (by kernel_rfl)
theorem ty_44 : tyOf Go.Proofs.Try.prog 44 = Option.some { d := Go.Abs.TD.slice 54, size := 1, bytes := 24, zero := Option.some (Go.Value.slice Option.none 0 0) } := nr (by kernel_rfl)
theorem zero_44 : zeroA Go.Proofs.Try.prog 44 = some [.fs [] true] := nr (by kernel_rfl)
theorem ty_48 : tyOf Go.Proofs.Try.prog 48 = Option.some { d := Go.Abs.TD.slice 25, size := 1, bytes := 24, zero := Option.some (Go.Value.slice Option.none 0 0) } := nr (by kernel_rfl)
theorem zero_48 : zeroA Go.Proofs.Try.prog 48 = some [.fs [] true] := nr (by kernel_rfl)
theorem ty_49 : tyOf Go.Proofs.Try.prog 49 = Option.some { d := Go.Abs.TD.int Go.IntKind.i64, size := 1, bytes := 8, zero := Option.some (Go.Value.int Go.IntKind.i64 0) } := nr (by kernel_rfl)
theorem zero_49 : zeroA Go.Proofs.Try.prog 49 = some [.v (Go.Value.int Go.IntKind.i64 0)] := nr (by kernel_rfl)
theorem ty_54 : tyOf Go.Proofs.Try.prog 54 = Option.some { d := Go.Abs.TD.struct [(0, 9), (1, 3), (2, 3), (3, 25), (4, 4), (5, 25), (6, 44)], size := 7, bytes := 112, zero := Option.some (Go.Value.agg #[Go.Value.string { data := #[] }, Go.Value.int Go.IntKind.i64 0, Go.Value.int Go.IntKind.i64 0, Go.Value.slice Option.none 0 0, Go.Value.bool Bool.false, Go.Value.slice Option.none 0 0, Go.Value.slice Option.none 0 0]) } := nr (by kernel_rfl)
theorem zero_54 : zeroA Go.Proofs.Try.prog 54 = some [.v (Go.Value.string { data := #[] }), .v (Go.Value.int Go.IntKind.i64 0), .v (Go.Value.int Go.IntKind.i64 0), .fs [] true, .v (Go.Value.bool Bool.false), .fs [] true, .fs [] true] := nr (by kernel_rfl)
theorem ty_55 : tyOf Go.Proofs.Try.prog 55 = Option.some { d := Go.Abs.TD.slice 127, size := 1, bytes := 24, zero := Option.some (Go.Value.slice Option.none 0 0) } := nr (by kernel_rfl)
theorem zero_55 : zeroA Go.Proofs.Try.prog 55 = some [.fs [] true] := nr (by kernel_rfl)
theorem ty_57 : tyOf Go.Proofs.Try.prog 57 = Option.some { d := Go.Abs.TD.struct [(0, 9), (1, 9), (2, 55), (3, 9), (4, 26)], size := 5, bytes := 96, zero := Option.some (Go.Value.agg #[Go.Value.string { data := #[] }, Go.Value.string { data := #[] }, Go.Value.slice Option.none 0 0, Go.Value.string { data := #[] }, Go.Value.slice Option.none 0 0]) } := nr (by kernel_rfl)
theorem zero_57 : zeroA Go.Proofs.Try.prog 57 = some [.v (Go.Value.string { data := #[] }), .v (Go.Value.string { data := #[] }), .fs [] true, .v (Go.Value.string { data := #[] }), .fs [] true] := nr (by kernel_rfl)
theorem ty_59 : tyOf Go.Proofs.Try.prog 59 = Option.some { d := Go.Abs.TD.struct [(0, 9), (1, 9), (2, 28)], size := 3, bytes := 56, zero := Option.some (Go.Value.agg #[Go.Value.string { data := #[] }, Go.Value.string { data := #[] }, Go.Value.slice Option.none 0 0]) } := nr (by kernel_rfl)
theorem zero_59 : zeroA Go.Proofs.Try.prog 59 = some [.v (Go.Value.string { data := #[] }), .v (Go.Value.string { data := #[] }), .fs [] true] := nr (by kernel_rfl)
theorem ty_75 : tyOf Go.Proofs.Try.prog 75 = Option.some { d := Go.Abs.TD.other, size := 1, bytes := 8, zero := Option.some Go.Value.nilFunc } := nr (by kernel_rfl)
theorem zero_75 : zeroA Go.Proofs.Try.prog 75 = some [.v (Go.Value.nilFunc)] := nr (by kernel_rfl)
theorem ty_77 : tyOf Go.Proofs.Try.prog 77 = Option.some { d := Go.Abs.TD.ptr 96, size := 1, bytes := 8, zero := Option.some (Go.Value.pointer Option.none) } := nr (by kernel_rfl)
theorem zero_77 : zeroA Go.Proofs.Try.prog 77 = some [.v (Go.Value.pointer Option.none)] := nr (by kernel_rfl)
theorem ty_81 : tyOf Go.Proofs.Try.prog 81 = Option.some { d := Go.Abs.TD.slice 100, size := 1, bytes := 24, zero := Option.some (Go.Value.slice Option.none 0 0) } := nr (by kernel_rfl)
theorem zero_81 : zeroA Go.Proofs.Try.prog 81 = some [.fs [] true] := nr (by kernel_rfl)
theorem ty_87 : tyOf Go.Proofs.Try.prog 87 = Option.some { d := Go.Abs.TD.other, size := 1, bytes := 8, zero := Option.some Go.Value.nilFunc } := nr (by kernel_rfl)
theorem zero_87 : zeroA Go.Proofs.Try.prog 87 = some [.v (Go.Value.nilFunc)] := nr (by kernel_rfl)
theorem ty_89 : tyOf Go.Proofs.Try.prog 89 = Option.some { d := Go.Abs.TD.other, size := 1, bytes := 8, zero := Option.some Go.Value.nilFunc } := nr (by kernel_rfl)
theorem zero_89 : zeroA Go.Proofs.Try.prog 89 = some [.v (Go.Value.nilFunc)] := nr (by kernel_rfl)
theorem ty_94 : tyOf Go.Proofs.Try.prog 94 = Option.some { d := Go.Abs.TD.slice 77, size := 1, bytes := 24, zero := Option.some (Go.Value.slice Option.none 0 0) } := nr (by kernel_rfl)
theorem zero_94 : zeroA Go.Proofs.Try.prog 94 = some [.fs [] true] := nr (by kernel_rfl)
theorem ty_96 : tyOf Go.Proofs.Try.prog 96 = Option.some { d := Go.Abs.TD.struct [(0, 4), (1, 94)], size := 2, bytes := 32, zero := Option.some (Go.Value.agg #[Go.Value.bool Bool.false, Go.Value.slice Option.none 0 0]) } := nr (by kernel_rfl)
theorem zero_96 : zeroA Go.Proofs.Try.prog 96 = some [.v (Go.Value.bool Bool.false), .fs [] true] := nr (by kernel_rfl)
theorem ty_100 : tyOf Go.Proofs.Try.prog 100 = Option.some { d := Go.Abs.TD.struct [(0, 4), (1, 4), (2, 81)], size := 3, bytes := 32, zero := Option.some (Go.Value.agg #[Go.Value.bool Bool.false, Go.Value.bool Bool.false, Go.Value.slice Option.none 0 0]) } := nr (by kernel_rfl)
theorem zero_100 : zeroA Go.Proofs.Try.prog 100 = some [.v (Go.Value.bool Bool.false), .v (Go.Value.bool Bool.false), .fs [] true] := nr (by kernel_rfl)
theorem ty_107 : tyOf Go.Proofs.Try.prog 107 = Option.some { d := Go.Abs.TD.other, size := 1, bytes := 8, zero := Option.some Go.Value.nilFunc } := nr (by kernel_rfl)
theorem zero_107 : zeroA Go.Proofs.Try.prog 107 = some [.v (Go.Value.nilFunc)] := nr (by kernel_rfl)
theorem ty_127 : tyOf Go.Proofs.Try.prog 127 = Option.some { d := Go.Abs.TD.struct [(0, 9), (1, 9)], size := 2, bytes := 32, zero := Option.some (Go.Value.agg #[Go.Value.string { data := #[] }, Go.Value.string { data := #[] }]) } := nr (by kernel_rfl)
theorem zero_127 : zeroA Go.Proofs.Try.prog 127 = some [.v (Go.Value.string { data := #[] }), .v (Go.Value.string { data := #[] })] := nr (by kernel_rfl)
attribute [go_sem] XX_P mode_3 res_3 live_3 adopt_3 cls_3_6 mode_4 res_4 live_4 adopt_4 cls_4_14 mode_5 res_5 live_5 adopt_5 cls_5_8 mode_6 res_6 live_6 adopt_6 mode_7 res_7 live_7 adopt_7 trim_7_9 mode_8 res_8 live_8 adopt_8 trim_8_9 trim_8_15 mode_9 res_9 live_9 adopt_9 mode_10 res_10 live_10 adopt_10 cls_10_29 trim_10_8 trim_10_15 trim_10_27 mode_11 res_11 live_11 adopt_11 mode_12 res_12 live_12 adopt_12 mode_13 res_13 live_13 adopt_13 mode_14 res_14 live_14 adopt_14 trim_14_3 mode_15 res_15 live_15 adopt_15 cls_15_6 trim_15_4 mode_16 res_16 live_16 adopt_16 cls_16_5 trim_16_3 mode_17 res_17 live_17 adopt_17 cls_17_7 trim_17_3 mode_18 res_18 live_18 adopt_18 mode_19 res_19 live_19 adopt_19 cls_19_4 trim_19_2 mode_20 res_20 live_20 adopt_20 cls_20_5 trim_20_3 mode_21 res_21 live_21 adopt_21 mode_22 res_22 live_22 adopt_22 mode_23 res_23 live_23 adopt_23 mode_24 res_24 live_24 adopt_24 trim_24_2 mode_25 res_25 live_25 adopt_25 cls_25_7 cls_25_9 mode_26 res_26 live_26 adopt_26 mode_27 res_27 live_27 adopt_27 mode_28 res_28 live_28 adopt_28 cls_28_4 cls_28_15 cls_28_17 trim_28_2 trim_28_6 trim_28_22 mode_29 res_29 live_29 adopt_29 cls_29_5 cls_29_12 cls_29_14 cls_29_18 cls_29_20 trim_29_2 trim_29_8 mode_30 res_30 live_30 adopt_30 cls_30_5 trim_30_3 mode_31 res_31 live_31 adopt_31 mode_32 res_32 live_32 adopt_32 trim_32_3 mode_33 res_33 live_33 adopt_33 cls_33_7 cls_33_8 trim_33_2 mode_34 res_34 live_34 adopt_34 trim_34_2 mode_35 res_35 live_35 adopt_35 trim_35_3 mode_36 res_36 live_36 adopt_36 mode_37 res_37 live_37 adopt_37 trim_37_2 mode_38 res_38 live_38 adopt_38 mode_39 res_39 live_39 adopt_39 cls_39_6 trim_39_4 mode_40 res_40 live_40 adopt_40 trim_40_4 mode_41 res_41 live_41 adopt_41 mode_42 res_42 live_42 adopt_42 mode_43 res_43 live_43 adopt_43 cls_43_10 trim_43_3 trim_43_7 mode_44 res_44 live_44 adopt_44 trim_44_3 mode_45 res_45 live_45 adopt_45 cls_45_8 trim_45_3 mode_46 res_46 live_46 adopt_46 cls_46_9 cls_46_10 trim_46_3 trim_46_7 mode_47 res_47 live_47 adopt_47 mode_48 res_48 live_48 adopt_48 cls_48_6 trim_48_4 mode_49 res_49 live_49 adopt_49 trim_49_2 mode_50 res_50 live_50 adopt_50 cls_50_5 cls_50_6 trim_50_3 mode_51 res_51 live_51 adopt_51 cls_51_5 trim_51_2 mode_52 res_52 live_52 adopt_52 trim_52_2 mode_53 res_53 live_53 adopt_53 mode_54 res_54 live_54 adopt_54 trim_54_2 mode_55 res_55 live_55 adopt_55 mode_56 res_56 live_56 adopt_56 trim_56_4 trim_56_16 mode_57 res_57 live_57 adopt_57 cls_57_9 trim_57_3 trim_57_7 mode_58 res_58 live_58 adopt_58 cls_58_6 cls_58_9 trim_58_3 trim_58_6 mode_59 res_59 live_59 adopt_59 trim_59_2 mode_60 res_60 live_60 adopt_60 cls_60_6 trim_60_4 mode_61 res_61 live_61 adopt_61 trim_61_2 mode_62 res_62 live_62 adopt_62 mode_63 res_63 live_63 adopt_63 cls_63_11 trim_63_9 mode_64 res_64 live_64 adopt_64 cls_64_20 cls_64_31 trim_64_12 trim_64_28 mode_65 res_65 live_65 adopt_65 cls_65_10 trim_65_3 mode_66 res_66 live_66 adopt_66 cls_66_35 cls_66_36 trim_66_11 trim_66_26 trim_66_33 mode_67 res_67 live_67 adopt_67 mode_68 res_68 live_68 adopt_68 cls_68_4 cls_68_6 trim_68_2 mode_69 res_69 live_69 adopt_69 cls_69_1 cls_69_4 cls_69_5 mode_70 res_70 live_70 adopt_70 mode_71 res_71 live_71 adopt_71 mode_72 res_72 live_72 adopt_72 mode_73 res_73 live_73 adopt_73 mode_74 res_74 live_74 adopt_74 trim_74_2 mode_75 res_75 live_75 adopt_75 trim_75_2 ty_0 ty_1 zero_1 ty_2 zero_2 ty_3 zero_3 ty_4 zero_4 ty_5 zero_5 ty_6 zero_6 ty_9 zero_9 ty_22 zero_22 ty_24 zero_24 ty_25 zero_25 ty_26 zero_26 ty_28 zero_28 ty_37 zero_37 ty_44 zero_44 ty_48 zero_48 ty_49 zero_49 ty_54 zero_54 ty_55 zero_55 ty_57 zero_57 ty_59 zero_59 ty_75 zero_75 ty_77 zero_77 ty_81 zero_81 ty_87 zero_87 ty_89 zero_89 ty_94 zero_94 ty_96 zero_96 ty_100 zero_100 ty_107 zero_107 ty_127 zero_127 Go.Proofs.Try.ntmps3 Go.Proofs.Try.ntmps4 Go.Proofs.Try.ntmps5 Go.Proofs.Try.ntmps6 Go.Proofs.Try.ntmps7 Go.Proofs.Try.ntmps8 Go.Proofs.Try.ntmps9 Go.Proofs.Try.ntmps10 Go.Proofs.Try.ntmps11 Go.Proofs.Try.ntmps12 Go.Proofs.Try.ntmps13 Go.Proofs.Try.ntmps14 Go.Proofs.Try.ntmps15 Go.Proofs.Try.ntmps16 Go.Proofs.Try.ntmps17 Go.Proofs.Try.ntmps18 Go.Proofs.Try.ntmps19 Go.Proofs.Try.ntmps20 Go.Proofs.Try.ntmps21 Go.Proofs.Try.ntmps22 Go.Proofs.Try.ntmps23 Go.Proofs.Try.ntmps24 Go.Proofs.Try.ntmps25 Go.Proofs.Try.ntmps26 Go.Proofs.Try.ntmps27 Go.Proofs.Try.ntmps28 Go.Proofs.Try.ntmps29 Go.Proofs.Try.ntmps30 Go.Proofs.Try.ntmps31 Go.Proofs.Try.ntmps32 Go.Proofs.Try.ntmps33 Go.Proofs.Try.ntmps34 Go.Proofs.Try.ntmps35 Go.Proofs.Try.ntmps36 Go.Proofs.Try.ntmps37 Go.Proofs.Try.ntmps38 Go.Proofs.Try.ntmps39 Go.Proofs.Try.ntmps40 Go.Proofs.Try.ntmps41 Go.Proofs.Try.ntmps42 Go.Proofs.Try.ntmps43 Go.Proofs.Try.ntmps44 Go.Proofs.Try.ntmps45 Go.Proofs.Try.ntmps46 Go.Proofs.Try.ntmps47 Go.Proofs.Try.ntmps48 Go.Proofs.Try.ntmps49 Go.Proofs.Try.ntmps50 Go.Proofs.Try.ntmps51 Go.Proofs.Try.ntmps52 Go.Proofs.Try.ntmps53 Go.Proofs.Try.ntmps54 Go.Proofs.Try.ntmps55 Go.Proofs.Try.ntmps56 Go.Proofs.Try.ntmps57 Go.Proofs.Try.ntmps58 Go.Proofs.Try.ntmps59 Go.Proofs.Try.ntmps60 Go.Proofs.Try.ntmps61 Go.Proofs.Try.ntmps62 Go.Proofs.Try.ntmps63 Go.Proofs.Try.ntmps64 Go.Proofs.Try.ntmps65 Go.Proofs.Try.ntmps66 Go.Proofs.Try.ntmps67 Go.Proofs.Try.ntmps68 Go.Proofs.Try.ntmps69 Go.Proofs.Try.ntmps70 Go.Proofs.Try.ntmps71 Go.Proofs.Try.ntmps72 Go.Proofs.Try.ntmps73 Go.Proofs.Try.ntmps74 Go.Proofs.Try.ntmps75
end Go.Abs.SA
end
