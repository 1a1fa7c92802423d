/- YtmjhgjgfinhiaaaGreatDoorVr1: a part of the interpreter by which the claim is shown, and of the walks: no conditions of its own: every theorem states its own. -/
import Derived.Test.YtmjhgjgfinhiaaaGreatDoorVa4
import Derived.Lib.CountLaws
import Derived.Test.YtmjhgjgfinhiaaaGreatDoorProg
set_option linter.unusedVariables false
set_option linter.unusedSimpArgs false
set_option linter.unusedSectionVars false
set_option maxHeartbeats 8000000
set_option maxRecDepth 1000000
section
namespace Go.Abs.SR
def ext_Count (ys : List AV) : Option AV := match ys with
  | [.v (.string s), .v (.string x)] => match x.data.toList with
    | [c] => some (.v (.int .i64 (Lib.countByte s.data.toList c)))
    | _ => none
  | _ => none
def extR (f : FuncId) (ys : List AV) : Option AV := if f = 351 then ext_Count ys else none
end Go.Abs.SR
end
section
namespace Go.Abs.SR
noncomputable def XX : X where
  P := Go.Proofs.Tryz.prog
  mode := fun f => look1 .data f [(246, .pure), (349, .pure)]
  trim := fun f r => look2 none f r [(269, 6, some ([3, 4, 5], [])),
    (269, 15, some ([3, 6, 61], [])),
    (269, 20, some ([3, 6, 8], [])),
    (269, 28, some ([3, 11, 12], [])),
    (349, 5, some ([0, 1, 5, 6, 30, 31, 32], [])),
    (349, 13, some ([0, 1, 5, 6, 10], [])),
    (349, 24, some ([0, 1, 12, 13, 14], []))]
  adopt := fun f => look1 [] f []
  cls := fun f r => look2 [] f r [(269, 3, [0, 0, 0, 0, 0, 0, 0, 0, 0]),
    (349, 9, [0, 0, 0, 0, 0, 0, 0, 0, 0, 0, 0, 0, 0, 0]),
    (349, 28, [3, 3, 3, 0, 3, 3, 3, 3, 3, 3, 12, 3, 3])]
  fns := [246, 269, 349]
  ext := extR
  nilT := fun t => t == 348
  own := fun f => look1 [] f []
  live := fun f => look1 [] f [(246, [269])]
theorem nilT_XX (t : Nat) : XX.nilT t = (t == 348) := nr rfl
theorem XX_P : XX.P = Go.Proofs.Tryz.prog := nr rfl
theorem tyO_XX (t : Nat) : tyO XX t = none := nr rfl
theorem fns_349 : XX.fns.contains 349 = true := nr (by kernel_rfl)
theorem res_349 : Go.Proofs.Tryz.f349.results.toList = [.tmp 4] := nr rfl
theorem live_349 : XX.live 349 = [] := nr (by kernel_rfl)
theorem cls_349_9 : XX.cls 349 9 = [0, 0, 0, 0, 0, 0, 0, 0, 0, 0, 0, 0, 0, 0] := nr (by kernel_rfl)
theorem cls_349_28 : XX.cls 349 28 = [3, 3, 3, 0, 3, 3, 3, 3, 3, 3, 12, 3, 3] := nr (by kernel_rfl)
theorem tr_349_5 : XX.trim 349 5 = some ([0, 1, 5, 6, 30, 31, 32], []) := nr (by kernel_rfl)
theorem trim_349_5 (d : AV) (l : List (Nat × AV)) (h : List Blk) (n : Nat) : trimA XX 349 5 n ⟨mkT 122 d l, h⟩ = gcK n (mkT 122 .junk [(0, lk d l 0), (1, lk d l 1), (5, lk d l 5), (6, lk d l 6), (30, lk d l 30), (31, lk d l 31), (32, lk d l 32)]) h := (trimA_keep tr_349_5 n _ h).trans (by rw [keep_mkT]; kernel_rfl)
abbrev S_349_5 (x0 x1 x5 x6 x30 x31 x32 : AV) (h : List Blk) : St := ⟨mkT 122 .junk [(0, x0), (1, x1), (5, x5), (6, x6), (30, x30), (31, x31), (32, x32)], h⟩
theorem tr_349_13 : XX.trim 349 13 = some ([0, 1, 5, 6, 10], []) := nr (by kernel_rfl)
theorem trim_349_13 (d : AV) (l : List (Nat × AV)) (h : List Blk) (n : Nat) : trimA XX 349 13 n ⟨mkT 122 d l, h⟩ = gcK n (mkT 122 .junk [(0, lk d l 0), (1, lk d l 1), (5, lk d l 5), (6, lk d l 6), (10, lk d l 10)]) h := (trimA_keep tr_349_13 n _ h).trans (by rw [keep_mkT]; kernel_rfl)
abbrev S_349_13 (x0 x1 x5 x6 x10 : AV) (h : List Blk) : St := ⟨mkT 122 .junk [(0, x0), (1, x1), (5, x5), (6, x6), (10, x10)], h⟩
theorem tr_349_24 : XX.trim 349 24 = some ([0, 1, 12, 13, 14], []) := nr (by kernel_rfl)
theorem trim_349_24 (d : AV) (l : List (Nat × AV)) (h : List Blk) (n : Nat) : trimA XX 349 24 n ⟨mkT 122 d l, h⟩ = gcK n (mkT 122 .junk [(0, lk d l 0), (1, lk d l 1), (12, lk d l 12), (13, lk d l 13), (14, lk d l 14)]) h := (trimA_keep tr_349_24 n _ h).trans (by rw [keep_mkT]; kernel_rfl)
abbrev S_349_24 (x0 x1 x12 x13 x14 : AV) (h : List Blk) : St := ⟨mkT 122 .junk [(0, x0), (1, x1), (12, x12), (13, x13), (14, x14)], h⟩
theorem ty_3 : tyOf Go.Proofs.Tryz.prog 3 = Option.some { d := Go.Abs.TD.int Go.IntKind.i64, size := 1, bytes := 8, zero := Option.some (Go.Value.int Go.IntKind.i64 0) } := nr (by kernel_rfl)
theorem ty_4 : tyOf Go.Proofs.Tryz.prog 4 = Option.some { d := Go.Abs.TD.bool, size := 1, bytes := 1, zero := Option.some (Go.Value.bool Bool.false) } := nr (by kernel_rfl)
theorem ty_5 : tyOf Go.Proofs.Tryz.prog 5 = Option.some { d := Go.Abs.TD.int Go.IntKind.u8, size := 1, bytes := 1, zero := Option.some (Go.Value.int Go.IntKind.u8 0) } := nr (by kernel_rfl)
theorem zero_5 : zeroA Go.Proofs.Tryz.prog 5 = some [.v (Go.Value.int Go.IntKind.u8 0)] := nr (by kernel_rfl)
theorem ty_9 : tyOf Go.Proofs.Tryz.prog 9 = Option.some { d := Go.Abs.TD.str, size := 1, bytes := 16, zero := Option.some (Go.Value.string { data := #[] }) } := nr (by kernel_rfl)
theorem zero_9 : zeroA Go.Proofs.Tryz.prog 9 = some [.v (Go.Value.string { data := #[] })] := nr (by kernel_rfl)
theorem ty_33 : tyOf Go.Proofs.Tryz.prog 33 = Option.some { d := Go.Abs.TD.slice 9, size := 1, bytes := 24, zero := Option.some (Go.Value.slice Option.none 0 0) } := nr (by kernel_rfl)
theorem zero_33 : zeroA Go.Proofs.Tryz.prog 33 = some [.fs [] true] := nr (by kernel_rfl)
theorem ty_132 : tyOf Go.Proofs.Tryz.prog 132 = Option.some { d := Go.Abs.TD.slice 5, size := 1, bytes := 24, zero := Option.some (Go.Value.slice Option.none 0 0) } := nr (by kernel_rfl)
theorem ty_346 : tyOf Go.Proofs.Tryz.prog 346 = Option.some { d := Go.Abs.TD.array 256 132, size := 256, bytes := 6144, zero := Option.some (Go.Value.agg #[Go.Value.slice Option.none 0 0, Go.Value.slice Option.none 0 0, Go.Value.slice Option.none 0 0, Go.Value.slice Option.none 0 0, Go.Value.slice Option.none 0 0, Go.Value.slice Option.none 0 0, Go.Value.slice Option.none 0 0, Go.Value.slice Option.none 0 0, Go.Value.slice Option.none 0 0, Go.Value.slice Option.none 0 0, Go.Value.slice Option.none 0 0, Go.Value.slice Option.none 0 0, Go.Value.slice Option.none 0 0, Go.Value.slice Option.none 0 0, Go.Value.slice Option.none 0 0, Go.Value.slice Option.none 0 0, Go.Value.slice Option.none 0 0, Go.Value.slice Option.none 0 0, Go.Value.slice Option.none 0 0, Go.Value.slice Option.none 0 0, Go.Value.slice Option.none 0 0, Go.Value.slice Option.none 0 0, Go.Value.slice Option.none 0 0, Go.Value.slice Option.none 0 0, Go.Value.slice Option.none 0 0, Go.Value.slice Option.none 0 0, Go.Value.slice Option.none 0 0, Go.Value.slice Option.none 0 0, Go.Value.slice Option.none 0 0, Go.Value.slice Option.none 0 0, Go.Value.slice Option.none 0 0, Go.Value.slice Option.none 0 0, Go.Value.slice Option.none 0 0, Go.Value.slice Option.none 0 0, Go.Value.slice Option.none 0 0, Go.Value.slice Option.none 0 0, Go.Value.slice Option.none 0 0, Go.Value.slice Option.none 0 0, Go.Value.slice Option.none 0 0, Go.Value.slice Option.none 0 0, Go.Value.slice Option.none 0 0, Go.Value.slice Option.none 0 0, Go.Value.slice Option.none 0 0, Go.Value.slice Option.none 0 0, Go.Value.slice Option.none 0 0, Go.Value.slice Option.none 0 0, Go.Value.slice Option.none 0 0, Go.Value.slice Option.none 0 0, Go.Value.slice Option.none 0 0, Go.Value.slice Option.none 0 0, Go.Value.slice Option.none 0 0, Go.Value.slice Option.none 0 0, Go.Value.slice Option.none 0 0, Go.Value.slice Option.none 0 0, Go.Value.slice Option.none 0 0, Go.Value.slice Option.none 0 0, Go.Value.slice Option.none 0 0, Go.Value.slice Option.none 0 0, Go.Value.slice Option.none 0 0, Go.Value.slice Option.none 0 0, Go.Value.slice Option.none 0 0, Go.Value.slice Option.none 0 0, Go.Value.slice Option.none 0 0, Go.Value.slice Option.none 0 0, Go.Value.slice Option.none 0 0, Go.Value.slice Option.none 0 0, Go.Value.slice Option.none 0 0, Go.Value.slice Option.none 0 0, Go.Value.slice Option.none 0 0, Go.Value.slice Option.none 0 0, Go.Value.slice Option.none 0 0, Go.Value.slice Option.none 0 0, Go.Value.slice Option.none 0 0, Go.Value.slice Option.none 0 0, Go.Value.slice Option.none 0 0, Go.Value.slice Option.none 0 0, Go.Value.slice Option.none 0 0, Go.Value.slice Option.none 0 0, Go.Value.slice Option.none 0 0, Go.Value.slice Option.none 0 0, Go.Value.slice Option.none 0 0, Go.Value.slice Option.none 0 0, Go.Value.slice Option.none 0 0, Go.Value.slice Option.none 0 0, Go.Value.slice Option.none 0 0, Go.Value.slice Option.none 0 0, Go.Value.slice Option.none 0 0, Go.Value.slice Option.none 0 0, Go.Value.slice Option.none 0 0, Go.Value.slice Option.none 0 0, Go.Value.slice Option.none 0 0, Go.Value.slice Option.none 0 0, Go.Value.slice Option.none 0 0, Go.Value.slice Option.none 0 0, Go.Value.slice Option.none 0 0, Go.Value.slice Option.none 0 0, Go.Value.slice Option.none 0 0, Go.Value.slice Option.none 0 0, Go.Value.slice Option.none 0 0, Go.Value.slice Option.none 0 0, Go.Value.slice Option.none 0 0, Go.Value.slice Option.none 0 0, Go.Value.slice Option.none 0 0, Go.Value.slice Option.none 0 0, Go.Value.slice Option.none 0 0, Go.Value.slice Option.none 0 0, Go.Value.slice Option.none 0 0, Go.Value.slice Option.none 0 0, Go.Value.slice Option.none 0 0, Go.Value.slice Option.none 0 0, Go.Value.slice Option.none 0 0, Go.Value.slice Option.none 0 0, Go.Value.slice Option.none 0 0, Go.Value.slice Option.none 0 0, Go.Value.slice Option.none 0 0, Go.Value.slice Option.none 0 0, Go.Value.slice Option.none 0 0, Go.Value.slice Option.none 0 0, Go.Value.slice Option.none 0 0, Go.Value.slice Option.none 0 0, Go.Value.slice Option.none 0 0, Go.Value.slice Option.none 0 0, Go.Value.slice Option.none 0 0, Go.Value.slice Option.none 0 0, Go.Value.slice Option.none 0 0, Go.Value.slice Option.none 0 0, Go.Value.slice Option.none 0 0, Go.Value.slice Option.none 0 0, Go.Value.slice Option.none 0 0, Go.Value.slice Option.none 0 0, Go.Value.slice Option.none 0 0, Go.Value.slice Option.none 0 0, Go.Value.slice Option.none 0 0, Go.Value.slice Option.none 0 0, Go.Value.slice Option.none 0 0, Go.Value.slice Option.none 0 0, Go.Value.slice Option.none 0 0, Go.Value.slice Option.none 0 0, Go.Value.slice Option.none 0 0, Go.Value.slice Option.none 0 0, Go.Value.slice Option.none 0 0, Go.Value.slice Option.none 0 0, Go.Value.slice Option.none 0 0, Go.Value.slice Option.none 0 0, Go.Value.slice Option.none 0 0, Go.Value.slice Option.none 0 0, Go.Value.slice Option.none 0 0, Go.Value.slice Option.none 0 0, Go.Value.slice Option.none 0 0, Go.Value.slice Option.none 0 0, Go.Value.slice Option.none 0 0, Go.Value.slice Option.none 0 0, Go.Value.slice Option.none 0 0, Go.Value.slice Option.none 0 0, Go.Value.slice Option.none 0 0, Go.Value.slice Option.none 0 0, Go.Value.slice Option.none 0 0, Go.Value.slice Option.none 0 0, Go.Value.slice Option.none 0 0, Go.Value.slice Option.none 0 0, Go.Value.slice Option.none 0 0, Go.Value.slice Option.none 0 0, Go.Value.slice Option.none 0 0, Go.Value.slice Option.none 0 0, Go.Value.slice Option.none 0 0, Go.Value.slice Option.none 0 0, Go.Value.slice Option.none 0 0, Go.Value.slice Option.none 0 0, Go.Value.slice Option.none 0 0, Go.Value.slice Option.none 0 0, Go.Value.slice Option.none 0 0, Go.Value.slice Option.none 0 0, Go.Value.slice Option.none 0 0, Go.Value.slice Option.none 0 0, Go.Value.slice Option.none 0 0, Go.Value.slice Option.none 0 0, Go.Value.slice Option.none 0 0, Go.Value.slice Option.none 0 0, Go.Value.slice Option.none 0 0, Go.Value.slice Option.none 0 0, Go.Value.slice Option.none 0 0, Go.Value.slice Option.none 0 0, Go.Value.slice Option.none 0 0, Go.Value.slice Option.none 0 0, Go.Value.slice Option.none 0 0, Go.Value.slice Option.none 0 0, Go.Value.slice Option.none 0 0, Go.Value.slice Option.none 0 0, Go.Value.slice Option.none 0 0, Go.Value.slice Option.none 0 0, Go.Value.slice Option.none 0 0, Go.Value.slice Option.none 0 0, Go.Value.slice Option.none 0 0, Go.Value.slice Option.none 0 0, Go.Value.slice Option.none 0 0, Go.Value.slice Option.none 0 0, Go.Value.slice Option.none 0 0, Go.Value.slice Option.none 0 0, Go.Value.slice Option.none 0 0, Go.Value.slice Option.none 0 0, Go.Value.slice Option.none 0 0, Go.Value.slice Option.none 0 0, Go.Value.slice Option.none 0 0, Go.Value.slice Option.none 0 0, Go.Value.slice Option.none 0 0, Go.Value.slice Option.none 0 0, Go.Value.slice Option.none 0 0, Go.Value.slice Option.none 0 0, Go.Value.slice Option.none 0 0, Go.Value.slice Option.none 0 0, Go.Value.slice Option.none 0 0, Go.Value.slice Option.none 0 0, Go.Value.slice Option.none 0 0, Go.Value.slice Option.none 0 0, Go.Value.slice Option.none 0 0, Go.Value.slice Option.none 0 0, Go.Value.slice Option.none 0 0, Go.Value.slice Option.none 0 0, Go.Value.slice Option.none 0 0, Go.Value.slice Option.none 0 0, Go.Value.slice Option.none 0 0, Go.Value.slice Option.none 0 0, Go.Value.slice Option.none 0 0, Go.Value.slice Option.none 0 0, Go.Value.slice Option.none 0 0, Go.Value.slice Option.none 0 0, Go.Value.slice Option.none 0 0, Go.Value.slice Option.none 0 0, Go.Value.slice Option.none 0 0, Go.Value.slice Option.none 0 0, Go.Value.slice Option.none 0 0, Go.Value.slice Option.none 0 0, Go.Value.slice Option.none 0 0, Go.Value.slice Option.none 0 0, Go.Value.slice Option.none 0 0, Go.Value.slice Option.none 0 0, Go.Value.slice Option.none 0 0, Go.Value.slice Option.none 0 0, Go.Value.slice Option.none 0 0, Go.Value.slice Option.none 0 0, Go.Value.slice Option.none 0 0, Go.Value.slice Option.none 0 0, Go.Value.slice Option.none 0 0, Go.Value.slice Option.none 0 0, Go.Value.slice Option.none 0 0, Go.Value.slice Option.none 0 0, Go.Value.slice Option.none 0 0, Go.Value.slice Option.none 0 0, Go.Value.slice Option.none 0 0, Go.Value.slice Option.none 0 0, Go.Value.slice Option.none 0 0, Go.Value.slice Option.none 0 0, Go.Value.slice Option.none 0 0, Go.Value.slice Option.none 0 0, Go.Value.slice Option.none 0 0, Go.Value.slice Option.none 0 0]) } := nr (by kernel_rfl)
theorem ty_348 : tyOf Go.Proofs.Tryz.prog 348 = Option.some { d := Go.Abs.TD.struct [(0, 346), (256, 33)], size := 257, bytes := 6168, zero := Option.some (Go.Value.agg #[Go.Value.slice Option.none 0 0, Go.Value.slice Option.none 0 0, Go.Value.slice Option.none 0 0, Go.Value.slice Option.none 0 0, Go.Value.slice Option.none 0 0, Go.Value.slice Option.none 0 0, Go.Value.slice Option.none 0 0, Go.Value.slice Option.none 0 0, Go.Value.slice Option.none 0 0, Go.Value.slice Option.none 0 0, Go.Value.slice Option.none 0 0, Go.Value.slice Option.none 0 0, Go.Value.slice Option.none 0 0, Go.Value.slice Option.none 0 0, Go.Value.slice Option.none 0 0, Go.Value.slice Option.none 0 0, Go.Value.slice Option.none 0 0, Go.Value.slice Option.none 0 0, Go.Value.slice Option.none 0 0, Go.Value.slice Option.none 0 0, Go.Value.slice Option.none 0 0, Go.Value.slice Option.none 0 0, Go.Value.slice Option.none 0 0, Go.Value.slice Option.none 0 0, Go.Value.slice Option.none 0 0, Go.Value.slice Option.none 0 0, Go.Value.slice Option.none 0 0, Go.Value.slice Option.none 0 0, Go.Value.slice Option.none 0 0, Go.Value.slice Option.none 0 0, Go.Value.slice Option.none 0 0, Go.Value.slice Option.none 0 0, Go.Value.slice Option.none 0 0, Go.Value.slice Option.none 0 0, Go.Value.slice Option.none 0 0, Go.Value.slice Option.none 0 0, Go.Value.slice Option.none 0 0, Go.Value.slice Option.none 0 0, Go.Value.slice Option.none 0 0, Go.Value.slice Option.none 0 0, Go.Value.slice Option.none 0 0, Go.Value.slice Option.none 0 0, Go.Value.slice Option.none 0 0, Go.Value.slice Option.none 0 0, Go.Value.slice Option.none 0 0, Go.Value.slice Option.none 0 0, Go.Value.slice Option.none 0 0, Go.Value.slice Option.none 0 0, Go.Value.slice Option.none 0 0, Go.Value.slice Option.none 0 0, Go.Value.slice Option.none 0 0, Go.Value.slice Option.none 0 0, Go.Value.slice Option.none 0 0, Go.Value.slice Option.none 0 0, Go.Value.slice Option.none 0 0, Go.Value.slice Option.none 0 0, Go.Value.slice Option.none 0 0, Go.Value.slice Option.none 0 0, Go.Value.slice Option.none 0 0, Go.Value.slice Option.none 0 0, Go.Value.slice Option.none 0 0, Go.Value.slice Option.none 0 0, Go.Value.slice Option.none 0 0, Go.Value.slice Option.none 0 0, Go.Value.slice Option.none 0 0, Go.Value.slice Option.none 0 0, Go.Value.slice Option.none 0 0, Go.Value.slice Option.none 0 0, Go.Value.slice Option.none 0 0, Go.Value.slice Option.none 0 0, Go.Value.slice Option.none 0 0, Go.Value.slice Option.none 0 0, Go.Value.slice Option.none 0 0, Go.Value.slice Option.none 0 0, Go.Value.slice Option.none 0 0, Go.Value.slice Option.none 0 0, Go.Value.slice Option.none 0 0, Go.Value.slice Option.none 0 0, Go.Value.slice Option.none 0 0, Go.Value.slice Option.none 0 0, Go.Value.slice Option.none 0 0, Go.Value.slice Option.none 0 0, Go.Value.slice Option.none 0 0, Go.Value.slice Option.none 0 0, Go.Value.slice Option.none 0 0, Go.Value.slice Option.none 0 0, Go.Value.slice Option.none 0 0, Go.Value.slice Option.none 0 0, Go.Value.slice Option.none 0 0, Go.Value.slice Option.none 0 0, Go.Value.slice Option.none 0 0, Go.Value.slice Option.none 0 0, Go.Value.slice Option.none 0 0, Go.Value.slice Option.none 0 0, Go.Value.slice Option.none 0 0, Go.Value.slice Option.none 0 0, Go.Value.slice Option.none 0 0, Go.Value.slice Option.none 0 0, Go.Value.slice Option.none 0 0, Go.Value.slice Option.none 0 0, Go.Value.slice Option.none 0 0, Go.Value.slice Option.none 0 0, Go.Value.slice Option.none 0 0, Go.Value.slice Option.none 0 0, Go.Value.slice Option.none 0 0, Go.Value.slice Option.none 0 0, Go.Value.slice Option.none 0 0, Go.Value.slice Option.none 0 0, Go.Value.slice Option.none 0 0, Go.Value.slice Option.none 0 0, Go.Value.slice Option.none 0 0, Go.Value.slice Option.none 0 0, Go.Value.slice Option.none 0 0, Go.Value.slice Option.none 0 0, Go.Value.slice Option.none 0 0, Go.Value.slice Option.none 0 0, Go.Value.slice Option.none 0 0, Go.Value.slice Option.none 0 0, Go.Value.slice Option.none 0 0, Go.Value.slice Option.none 0 0, Go.Value.slice Option.none 0 0, Go.Value.slice Option.none 0 0, Go.Value.slice Option.none 0 0, Go.Value.slice Option.none 0 0, Go.Value.slice Option.none 0 0, Go.Value.slice Option.none 0 0, Go.Value.slice Option.none 0 0, Go.Value.slice Option.none 0 0, Go.Value.slice Option.none 0 0, Go.Value.slice Option.none 0 0, Go.Value.slice Option.none 0 0, Go.Value.slice Option.none 0 0, Go.Value.slice Option.none 0 0, Go.Value.slice Option.none 0 0, Go.Value.slice Option.none 0 0, Go.Value.slice Option.none 0 0, Go.Value.slice Option.none 0 0, Go.Value.slice Option.none 0 0, Go.Value.slice Option.none 0 0, Go.Value.slice Option.none 0 0, Go.Value.slice Option.none 0 0, Go.Value.slice Option.none 0 0, Go.Value.slice Option.none 0 0, Go.Value.slice Option.none 0 0, Go.Value.slice Option.none 0 0, Go.Value.slice Option.none 0 0, Go.Value.slice Option.none 0 0, Go.Value.slice Option.none 0 0, Go.Value.slice Option.none 0 0, Go.Value.slice Option.none 0 0, Go.Value.slice Option.none 0 0, Go.Value.slice Option.none 0 0, Go.Value.slice Option.none 0 0, Go.Value.slice Option.none 0 0, Go.Value.slice Option.none 0 0, Go.Value.slice Option.none 0 0, Go.Value.slice Option.none 0 0, Go.Value.slice Option.none 0 0, Go.Value.slice Option.none 0 0, Go.Value.slice Option.none 0 0, Go.Value.slice Option.none 0 0, Go.Value.slice Option.none 0 0, Go.Value.slice Option.none 0 0, Go.Value.slice Option.none 0 0, Go.Value.slice Option.none 0 0, Go.Value.slice Option.none 0 0, Go.Value.slice Option.none 0 0, Go.Value.slice Option.none 0 0, Go.Value.slice Option.none 0 0, Go.Value.slice Option.none 0 0, Go.Value.slice Option.none 0 0, Go.Value.slice Option.none 0 0, Go.Value.slice Option.none 0 0, Go.Value.slice Option.none 0 0, Go.Value.slice Option.none 0 0, Go.Value.slice Option.none 0 0, Go.Value.slice Option.none 0 0, Go.Value.slice Option.none 0 0, Go.Value.slice Option.none 0 0, Go.Value.slice Option.none 0 0, Go.Value.slice Option.none 0 0, Go.Value.slice Option.none 0 0, Go.Value.slice Option.none 0 0, Go.Value.slice Option.none 0 0, Go.Value.slice Option.none 0 0, Go.Value.slice Option.none 0 0, Go.Value.slice Option.none 0 0, Go.Value.slice Option.none 0 0, Go.Value.slice Option.none 0 0, Go.Value.slice Option.none 0 0, Go.Value.slice Option.none 0 0, Go.Value.slice Option.none 0 0, Go.Value.slice Option.none 0 0, Go.Value.slice Option.none 0 0, Go.Value.slice Option.none 0 0, Go.Value.slice Option.none 0 0, Go.Value.slice Option.none 0 0, Go.Value.slice Option.none 0 0, Go.Value.slice Option.none 0 0, Go.Value.slice Option.none 0 0, Go.Value.slice Option.none 0 0, Go.Value.slice Option.none 0 0, Go.Value.slice Option.none 0 0, Go.Value.slice Option.none 0 0, Go.Value.slice Option.none 0 0, Go.Value.slice Option.none 0 0, Go.Value.slice Option.none 0 0, Go.Value.slice Option.none 0 0, Go.Value.slice Option.none 0 0, Go.Value.slice Option.none 0 0, Go.Value.slice Option.none 0 0, Go.Value.slice Option.none 0 0, Go.Value.slice Option.none 0 0, Go.Value.slice Option.none 0 0, Go.Value.slice Option.none 0 0, Go.Value.slice Option.none 0 0, Go.Value.slice Option.none 0 0, Go.Value.slice Option.none 0 0, Go.Value.slice Option.none 0 0, Go.Value.slice Option.none 0 0, Go.Value.slice Option.none 0 0, Go.Value.slice Option.none 0 0, Go.Value.slice Option.none 0 0, Go.Value.slice Option.none 0 0, Go.Value.slice Option.none 0 0, Go.Value.slice Option.none 0 0, Go.Value.slice Option.none 0 0, Go.Value.slice Option.none 0 0, Go.Value.slice Option.none 0 0, Go.Value.slice Option.none 0 0, Go.Value.slice Option.none 0 0, Go.Value.slice Option.none 0 0, Go.Value.slice Option.none 0 0, Go.Value.slice Option.none 0 0, Go.Value.slice Option.none 0 0, Go.Value.slice Option.none 0 0, Go.Value.slice Option.none 0 0, Go.Value.slice Option.none 0 0, Go.Value.slice Option.none 0 0, Go.Value.slice Option.none 0 0, Go.Value.slice Option.none 0 0, Go.Value.slice Option.none 0 0, Go.Value.slice Option.none 0 0, Go.Value.slice Option.none 0 0, Go.Value.slice Option.none 0 0, Go.Value.slice Option.none 0 0, Go.Value.slice Option.none 0 0, Go.Value.slice Option.none 0 0, Go.Value.slice Option.none 0 0, Go.Value.slice Option.none 0 0, Go.Value.slice Option.none 0 0, Go.Value.slice Option.none 0 0, Go.Value.slice Option.none 0 0, Go.Value.slice Option.none 0 0, Go.Value.slice Option.none 0 0, Go.Value.slice Option.none 0 0, Go.Value.slice Option.none 0 0]) } := nr (by kernel_rfl)
attribute [go_sem] nilT_XX XX_P tyO_XX res_349 live_349 cls_349_9 cls_349_28 trim_349_5 trim_349_13 trim_349_24 ty_3 ty_4 ty_5 zero_5 ty_9 zero_9 ty_33 zero_33 ty_132 ty_346 ty_348 Go.Proofs.Tryz.ntmps246 Go.Proofs.Tryz.ntmps269 Go.Proofs.Tryz.ntmps349
end Go.Abs.SR
end
section
namespace Go.Abs.SR
def cellOf : Option (List UInt8) → AV
  | none => .v (.slice none 0 0)
  | some n => .fs (ofBytes ⟨n.toArray⟩) false
def tabC (l : List (UInt8 × List UInt8)) : List AV := (List.range 256).map fun b => cellOf (look l b)
def keysC (l : List (UInt8 × List UInt8)) : List (List AV) := l.reverse.map fun p => [bS [p.1]]
def repB (l : Tb') (lock : Int) (x : AV) (ol : AV) (d : Int) : Blk := .var [.v (.int .u32 d), .v (.int .i32 lock), .v (.int .u32 0), x, ol]
def flatB (l : Tb') : Blk := .arr 9 1 ((flat l).map fun x => [bS x])
def rep1 (l : Tb') : List Blk := [repB l 1 (.v .nilIface) (.sl 1 0 (2 * l.length) false) 0, flatB l]
def built (l : Tb') : List Blk := [repB l 1 (.ifc 349 (.ptr 3 0)) (.fs [] true) 0, flatB l, .arr 9 1 (keysC l), .var (tabC l ++ [.sl 2 0 l.length false])]
theorem b_S : rawN XX 30 246 [.ptr 0 0] (rep1 pairsS) = some (.tup [], built pairsS) := by kernel_rfl
theorem b_E : rawN XX 30 246 [.ptr 0 0] (rep1 pairsE) = some (.tup [], built pairsE) := by kernel_rfl
end Go.Abs.SR
end
section
namespace Go.Abs.SR
open Go.Proofs
def ext1 (l : Tb) (c : UInt8) : Nat := match look l c.toNat with
  | some n => n.length - 1
  | none => 0
def keyd (l : Tb) (c : UInt8) : Bool := (look l c.toNat).isSome
structure TbOk (l : Tb) : Prop where
  nd : (l.map (·.1)).Nodup
  sz : ∀ p ∈ l, p.2.length ≤ 6 ∧ p.2 ≠ []
  len : l.length ≤ 16
theorem look_mem {l : Tb} {b : Nat} {n : List UInt8} (h : look l b = some n) : ∃ p ∈ l, p.1.toNat = b ∧ p.2 = n := by
  induction l with
  | nil => cases h
  | cons p r ih =>
    unfold look at h
    split at h
    · rename_i hc
      exact ⟨p, List.mem_cons_self .., hc, by cases h; rfl⟩
    · obtain ⟨q, hq, h1⟩ := ih h
      exact ⟨q, List.mem_cons_of_mem _ hq, h1⟩
theorem look_none {l : Tb} {b : Nat} (h : look l b = none) : ∀ p ∈ l, p.1.toNat ≠ b := by
  induction l with
  | nil => simp
  | cons p r ih =>
    unfold look at h
    split at h
    · cases h
    · rename_i hc
      intro q hq
      rcases List.mem_cons.1 hq with rfl | hq
      · exact hc
      · exact ih h q hq
theorem look_of {l : Tb} (hn : (l.map (·.1)).Nodup) {p : UInt8 × List UInt8} (hp : p ∈ l) : look l p.1.toNat = some p.2 := by
  induction l with
  | nil => cases hp
  | cons q r ih =>
    simp only [List.map_cons, List.nodup_cons] at hn
    unfold look
    rcases List.mem_cons.1 hp with rfl | hp
    · simp
    · have : q.1 ≠ p.1 := fun e => hn.1 (e ▸ List.mem_map_of_mem hp)
      rw [if_neg (fun e => this (UInt8.toNat_inj.1 e))]
      exact ih hn.2 hp
theorem ext1_le {l : Tb} (h : TbOk l) (c : UInt8) : ext1 l c ≤ 5 := by
  unfold ext1
  split
  · rename_i n hn
    obtain ⟨p, hp, _, rfl⟩ := look_mem hn
    have := h.sz p hp
    omega
  · omega
theorem repl_len {l : Tb} (h : TbOk l) (s : List UInt8) : (repl l s).length = s.length + (s.map (ext1 l)).sum := by
  induction s with
  | nil => rfl
  | cons c r ih =>
    unfold repl at ih ⊢
    simp only [List.flatMap_cons, List.length_append, List.length_cons, List.map_cons, List.sum_cons, ih]
    have : ((look l c.toNat).getD [c]).length = 1 + ext1 l c := by
      unfold ext1
      cases hl : look l c.toNat with
      | none => rfl
      | some n =>
        obtain ⟨p, hp, _, rfl⟩ := look_mem hl
        have := h.sz p hp
        have h2 : p.2.length ≠ 0 := fun e => this.2 (List.eq_nil_of_length_eq_zero e)
        simp only [Option.getD_some]
        omega
    omega
theorem sum_le {l : Tb} (h : TbOk l) (s : List UInt8) : (s.map (ext1 l)).sum ≤ 5 * s.length := by
  induction s with
  | nil => simp
  | cons c r ih => have := ext1_le h c; simp only [List.map_cons, List.sum_cons, List.length_cons]; omega
theorem repl_none {l : Tb} (s : List UInt8) (h : s.any (keyd l) = false) : repl l s = s := by
  induction s with
  | nil => rfl
  | cons c r ih =>
    simp only [List.any_cons, Bool.or_eq_false_iff] at h
    have hl : look l c.toNat = none := by
      have := h.1
      unfold keyd at this
      cases hh : look l c.toNat with
      | none => rfl
      | some n => rw [hh] at this; cases this
    have := ih h.2
    unfold repl at this ⊢
    rw [List.flatMap_cons, hl, this]
    rfl
def cntS (l : Tb) (s : List UInt8) : Nat := (l.map fun p => s.count p.1 * (p.2.length - 1)).sum
theorem cntS_cons {l : Tb} (hn : (l.map (·.1)).Nodup) (c : UInt8) (s : List UInt8) : cntS l (c :: s) = cntS l s + ext1 l c := by
  induction l with
  | nil => rfl
  | cons p r ih =>
    simp only [List.map_cons, List.nodup_cons] at hn
    have ih := ih hn.2
    unfold cntS at ih ⊢
    simp only [List.map_cons, List.sum_cons]
    rw [ih, List.count_cons]
    unfold ext1
    by_cases hc : c = p.1
    · subst hc
      have h0 : look r p.1.toNat = none := by
        cases hh : look r p.1.toNat with
        | none => rfl
        | some n =>
          obtain ⟨q, hq, h1, _⟩ := look_mem hh
          exact absurd (UInt8.toNat_inj.1 h1 ▸ List.mem_map_of_mem (f := (·.1)) hq) hn.1
      have h1 : look (p :: r) p.1.toNat = some p.2 := by unfold look; simp
      rw [h0, h1]
      simp only [beq_self_eq_true, if_true, Nat.add_mul, Nat.one_mul]
      omega
    · have h1 : look (p :: r) c.toNat = look r c.toNat := by
        conv => lhs; unfold look
        rw [if_neg (fun e => hc (UInt8.toNat_inj.1 e).symm)]
      rw [h1]
      have : (c == p.1) = false := by simpa using hc
      rw [this]
      simp only [Bool.false_eq_true, if_false, Nat.add_zero]
      omega
theorem cntS_eq {l : Tb} (hn : (l.map (·.1)).Nodup) (s : List UInt8) : cntS l s = (s.map (ext1 l)).sum := by
  induction s with
  | nil =>
    unfold cntS
    have : (l.map fun p => ([] : List UInt8).count p.1 * (p.2.length - 1)) = l.map fun _ => 0 := List.map_congr_left fun p _ => by simp
    rw [this]
    clear this hn
    induction l with
    | nil => rfl
    | cons p r ih => simpa using ih
  | cons c r ih => rw [cntS_cons hn, ih, List.map_cons, List.sum_cons, Nat.add_comm]
theorem cnt_any (l : Tb) (s : List UInt8) : (l.any fun p => decide (s.count p.1 ≠ 0)) = s.any (keyd l) := by
  rw [Bool.eq_iff_iff]
  simp only [List.any_eq_true, decide_eq_true_eq]
  constructor
  · rintro ⟨p, hp, h⟩
    refine ⟨p.1, List.count_pos_iff.1 (by omega), ?_⟩
    unfold keyd
    cases hh : look l p.1.toNat with
    | none => exact absurd rfl (look_none hh p hp)
    | some n => rfl
  · rintro ⟨c, hc, h⟩
    unfold keyd at h
    cases hh : look l c.toNat with
    | none => rw [hh] at h; cases h
    | some n =>
      obtain ⟨p, hp, h1, _⟩ := look_mem hh
      have e : p.1 = c := UInt8.toNat_inj.1 h1
      refine ⟨p, hp, ?_⟩
      rw [e]
      have := List.count_pos_iff.2 hc
      omega
theorem sum_take_le (f : UInt8 × List UInt8 → Nat) (l : Tb) (i : Nat) : ((l.take i).map f).sum ≤ (l.map f).sum := by
  conv => rhs; rw [← List.take_append_drop i l]
  rw [List.map_append, List.sum_append]
  omega
theorem ok_S : TbOk pairsS := ⟨by decide, by decide, by decide⟩
theorem ok_E : TbOk pairsE := ⟨by decide, by decide, by decide⟩
theorem cntS_rev (l : Tb) (s : List UInt8) : cntS l.reverse s = cntS l s := by
  unfold cntS
  rw [List.map_reverse, List.sum_reverse]
theorem any_rev (l : Tb) (f : UInt8 × List UInt8 → Bool) : l.reverse.any f = l.any f := List.any_reverse
end Go.Abs.SR
end
