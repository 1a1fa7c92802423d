/- YtmjhgjgfinhiaaaGreatDoorVe1: a part of the interpreter by which the claim is shown, and of the walks: no conditions of its own: every theorem states its own. -/
import Derived.Test.YtmjhgjgfinhiaaaGreatDoorVa4
import Derived.Shelf.Strings.Builder1
import Derived.Shelf.Small.Strs
import Derived.Shelf.Small.Wraps
import Derived.Shelf.Strings.Search3
import Derived.Shelf.Strings.Cut
import Derived.Shelf.Strings.Prefix
import Derived.Shelf.Strings.IndexAnyAll
import Derived.Shelf.Strings.SlTrimAscii
import Derived.Shelf.SlicesE.Clone
import Derived.Shelf.SlSortCmp.NoneTotal
import Derived.Test.YtmjhgjgfinhiaaaGreatDoorProg
import Derived.WalkKit
import Derived.Deep.LoopGhost
import Derived.Lib.Walk
import Derived.Lib.SliceRun
import Derived.Lib.Index
import Derived.Shelf.Strings.Trim
set_option linter.unusedVariables false
set_option linter.unusedSimpArgs false
set_option linter.unusedSectionVars false
set_option maxHeartbeats 2000000
set_option maxRecDepth 100000
section
namespace Go.Proofs
open Go.Shelf
def Tryz.lays169_ren : Go.Shelf.Ren := ⟨fun | 169 => 99 | n => n, fun | 70 => 131 | 9 => 9 | 0 => 0 | 72 => 134 | 37 => 132 | 127 => 189 | 3 => 3 | 5 => 5 | n => n, fun | n => n⟩
theorem Tryz.lays169 : Go.Proofs.Lays.n169 Tryz.prog Tryz.lays169_ren := {
  mixed := by kernel_rfl
  f169 := Tryz.func99.trans (congrArg some (by kernel_rfl))
  t0 := Tryz.underlying0
  a0 := Tryz.isAgg0
  z0 := Tryz.sizeOf0
  v0 := Tryz.zeroValue0
  t3 := Tryz.underlying3
  a3 := Tryz.isAgg3
  z3 := Tryz.sizeOf3
  v3 := Tryz.zeroValue3
  t9 := Tryz.underlying9
  a9 := Tryz.isAgg9
  z9 := Tryz.sizeOf9
  v9 := Tryz.zeroValue9
  t37 := Tryz.underlying132
  a37 := Tryz.isAgg132
  z37 := Tryz.sizeOf132
  v37 := Tryz.zeroValue132
  t70 := Tryz.underlying131
  a70 := Tryz.isAgg131
  z70 := Tryz.sizeOf131
  v70 := Tryz.zeroValue131
  t72 := Tryz.underlying134
  a72 := Tryz.isAgg134
  z72 := Tryz.sizeOf134
  v72 := Tryz.zeroValue134
  t127 := Tryz.underlying189
  a127 := Tryz.isAgg189
  z127 := Tryz.sizeOf189
  v127 := Tryz.zeroValue189 }
theorem Tryz.Builder_Extra_169 : Builder.Extra Tryz.prog Tryz.lays169_ren := {
  sizeBuilder := by kernel_rfl
  liesBuilder := by kernel_rfl
  t5 := Tryz.underlying5
  a5 := Tryz.isAgg5
  z5 := Tryz.sizeOf5
  v5 := Tryz.zeroValue5
  infoByte := by kernel_rfl
  cellsByte := by kernel_rfl
  sizeByte := by kernel_rfl
  neB5 := by decide }
def Tryz.lays213_ren : Go.Shelf.Ren := ⟨fun | 213 => 192 | 265 => 238 | n => n, fun | 9 => 9 | 3 => 3 | n => n, fun | n => n⟩
def Tryz.lays106_ren : Go.Shelf.Ren := ⟨fun | 106 => 137 | 213 => 192 | 265 => 238 | n => n, fun | 9 => 9 | 3 => 3 | n => n, fun | n => n⟩
theorem Tryz.lays106 : Go.Proofs.Lays.n106 Tryz.prog Tryz.lays106_ren := {
  mixed := by kernel_rfl
  f106 := Tryz.func137.trans (congrArg some (by kernel_rfl))
  f213 := Tryz.func192.trans (congrArg some (by kernel_rfl))
  f265 := Tryz.func238.trans (congrArg some (by kernel_rfl))
  t3 := Tryz.underlying3
  a3 := Tryz.isAgg3
  z3 := Tryz.sizeOf3
  v3 := Tryz.zeroValue3
  t9 := Tryz.underlying9
  a9 := Tryz.isAgg9
  z9 := Tryz.sizeOf9
  v9 := Tryz.zeroValue9 }
open Go.RowKit in
theorem Tryz.strings_Compare (a b : ByteArray) (w : World) :
    Calls Tryz.prog 137 #[.string a, .string b] w fun e w' => e = .returned (.int .i64 (Lib.compareBytes a.data.toList b.data.toList)) ∧ w' = w := Any.strings_Compare Tryz.lays106 a b w
def Tryz.lays137_ren : Go.Shelf.Ren := ⟨fun | 137 => 183 | 217 => 219 | 266 => 258 | n => n, fun | 9 => 9 | 5 => 5 | 3 => 3 | n => n, fun | n => n⟩
theorem Tryz.lays137 : Go.Proofs.Lays.n137 Tryz.prog Tryz.lays137_ren := {
  mixed := by kernel_rfl
  f137 := Tryz.func183.trans (congrArg some (by kernel_rfl))
  f217 := Tryz.func219.trans (congrArg some (by kernel_rfl))
  f266 := Tryz.func258.trans (congrArg some (by kernel_rfl))
  t3 := Tryz.underlying3
  a3 := Tryz.isAgg3
  z3 := Tryz.sizeOf3
  v3 := Tryz.zeroValue3
  t5 := Tryz.underlying5
  a5 := Tryz.isAgg5
  z5 := Tryz.sizeOf5
  v5 := Tryz.zeroValue5
  t9 := Tryz.underlying9
  a9 := Tryz.isAgg9
  z9 := Tryz.sizeOf9
  v9 := Tryz.zeroValue9 }
open Go.RowKit in
theorem Tryz.strings_IndexByte (s : ByteArray) (c : Int) (w : World) :
    Calls Tryz.prog 183 #[.string s, .int .u8 c] w fun e w' => e = .returned (.int .i64 (Lib.indexByte s.data.toList c.toNat.toUInt8)) ∧ w' = w := Any.strings_IndexByte Tryz.lays137 s c w
def Tryz.lays210_ren : Go.Shelf.Ren := ⟨fun | 210 => 280 | 206 => 178 | n => n, fun | 9 => 9 | 4 => 4 | 3 => 3 | n => n, fun | n => n⟩
def Tryz.lays103_ren : Go.Shelf.Ren := ⟨fun | 103 => 260 | 210 => 280 | 206 => 178 | n => n, fun | 9 => 9 | 4 => 4 | 24 => 109 | 3 => 3 | n => n, fun | n => n⟩
theorem Tryz.lays103 : Go.Proofs.Lays.n103 Tryz.prog Tryz.lays103_ren := {
  mixed := by kernel_rfl
  f103 := Tryz.func260.trans (congrArg some (by kernel_rfl))
  f206 := Tryz.func178.trans (congrArg some (by kernel_rfl))
  f210 := Tryz.func280.trans (congrArg some (by kernel_rfl))
  t3 := Tryz.underlying3
  a3 := Tryz.isAgg3
  z3 := Tryz.sizeOf3
  v3 := Tryz.zeroValue3
  t4 := Tryz.underlying4
  a4 := Tryz.isAgg4
  z4 := Tryz.sizeOf4
  v4 := Tryz.zeroValue4
  t9 := Tryz.underlying9
  a9 := Tryz.isAgg9
  z9 := Tryz.sizeOf9
  v9 := Tryz.zeroValue9
  t24 := Tryz.underlying109
  a24 := Tryz.isAgg109
  z24 := Tryz.sizeOf109
  v24 := Tryz.zeroValue109 }
open Go.RowKit in
theorem Tryz.strings_CutPrefix (s p : ByteArray) (w : World) :
    Calls Tryz.prog 260 #[.string s, .string p] w fun e w' => e = .returned (.tuple #[.string ⟨(Lib.trimPrefix s.data.toList p.data.toList).toArray⟩, .bool (Lib.hasPrefix s.data.toList p.data.toList)]) ∧ w' = w := Any.strings_CutPrefix Tryz.lays103 s p w
def Tryz.lays143_ren : Go.Shelf.Ren := ⟨fun | 143 => 124 | 219 => 179 | 217 => 219 | 225 => 220 | 224 => 221 | 267 => 222 | 266 => 258 | 314 => 259 | n => n, fun | 9 => 9 | 3 => 3 | 4 => 4 | 5 => 5 | 46 => 226 | 146 => 308 | 51 => 247 | n => n, fun | 1 => 2 | n => n⟩
theorem Tryz.lays143 : Go.Proofs.Lays.n143 Tryz.prog Tryz.lays143_ren := {
  mixed := by kernel_rfl
  f143 := Tryz.func124.trans (congrArg some (by kernel_rfl))
  f217 := Tryz.func219.trans (congrArg some (by kernel_rfl))
  f219 := Tryz.func179.trans (congrArg some (by kernel_rfl))
  f224 := Tryz.func221.trans (congrArg some (by kernel_rfl))
  f225 := Tryz.func220.trans (congrArg some (by kernel_rfl))
  f266 := Tryz.func258.trans (congrArg some (by kernel_rfl))
  f267 := Tryz.func222.trans (congrArg some (by kernel_rfl))
  f314 := Tryz.func259.trans (congrArg some (by kernel_rfl))
  t3 := Tryz.underlying3
  a3 := Tryz.isAgg3
  z3 := Tryz.sizeOf3
  v3 := Tryz.zeroValue3
  t4 := Tryz.underlying4
  a4 := Tryz.isAgg4
  z4 := Tryz.sizeOf4
  v4 := Tryz.zeroValue4
  t5 := Tryz.underlying5
  a5 := Tryz.isAgg5
  z5 := Tryz.sizeOf5
  v5 := Tryz.zeroValue5
  t9 := Tryz.underlying9
  a9 := Tryz.isAgg9
  z9 := Tryz.sizeOf9
  v9 := Tryz.zeroValue9
  t46 := Tryz.underlying226
  a46 := Tryz.isAgg226
  z46 := Tryz.sizeOf226
  v46 := Tryz.zeroValue226
  t51 := Tryz.underlying247
  a51 := Tryz.isAgg247
  z51 := Tryz.sizeOf247
  v51 := Tryz.zeroValue247
  t146 := Tryz.underlying308
  a146 := Tryz.isAgg308
  z146 := Tryz.sizeOf308
  v146 := Tryz.zeroValue308
  g1 := by kernel_rfl }
open Go.RowKit Go.Lib in
theorem Tryz.strings_Index (s sub : ByteArray) (m : Int) (w : World) (hs : s.size < 4294967281) (hm : w.cell? ⟨2, 0, none⟩ = some (.int .i64 m)) :
    Calls Tryz.prog 124 #[.string s, .string sub] w fun e w' => e = .returned (.int .i64 (Lib.index s.data.toList sub.data.toList)) ∧ w' = w := Any.strings_Index Tryz.lays143 s sub m w hs hm
def Tryz.lays144_ren : Go.Shelf.Ren := ⟨fun | 144 => 127 | 143 => 124 | 219 => 179 | 217 => 219 | 225 => 220 | 224 => 221 | 267 => 222 | 266 => 258 | 314 => 259 | n => n, fun | 9 => 9 | 4 => 4 | 3 => 3 | 5 => 5 | 46 => 226 | 146 => 308 | 51 => 247 | n => n, fun | 1 => 2 | n => n⟩
theorem Tryz.lays144 : Go.Proofs.Lays.n144 Tryz.prog Tryz.lays144_ren := {
  mixed := by kernel_rfl
  f143 := Tryz.func124.trans (congrArg some (by kernel_rfl))
  f144 := Tryz.func127.trans (congrArg some (by kernel_rfl))
  f217 := Tryz.func219.trans (congrArg some (by kernel_rfl))
  f219 := Tryz.func179.trans (congrArg some (by kernel_rfl))
  f224 := Tryz.func221.trans (congrArg some (by kernel_rfl))
  f225 := Tryz.func220.trans (congrArg some (by kernel_rfl))
  f266 := Tryz.func258.trans (congrArg some (by kernel_rfl))
  f267 := Tryz.func222.trans (congrArg some (by kernel_rfl))
  f314 := Tryz.func259.trans (congrArg some (by kernel_rfl))
  t3 := Tryz.underlying3
  a3 := Tryz.isAgg3
  z3 := Tryz.sizeOf3
  v3 := Tryz.zeroValue3
  t4 := Tryz.underlying4
  a4 := Tryz.isAgg4
  z4 := Tryz.sizeOf4
  v4 := Tryz.zeroValue4
  t5 := Tryz.underlying5
  a5 := Tryz.isAgg5
  z5 := Tryz.sizeOf5
  v5 := Tryz.zeroValue5
  t9 := Tryz.underlying9
  a9 := Tryz.isAgg9
  z9 := Tryz.sizeOf9
  v9 := Tryz.zeroValue9
  t46 := Tryz.underlying226
  a46 := Tryz.isAgg226
  z46 := Tryz.sizeOf226
  v46 := Tryz.zeroValue226
  t51 := Tryz.underlying247
  a51 := Tryz.isAgg247
  z51 := Tryz.sizeOf247
  v51 := Tryz.zeroValue247
  t146 := Tryz.underlying308
  a146 := Tryz.isAgg308
  z146 := Tryz.sizeOf308
  v146 := Tryz.zeroValue308
  g1 := by kernel_rfl }
open Go.RowKit Go.Lib in
theorem Tryz.strings_Contains (s sub : ByteArray) (m : Int) (w : World) (hs : s.size < 4294967281) (hm : w.cell? ⟨2, 0, none⟩ = some (.int .i64 m)) :
    Calls Tryz.prog 127 #[.string s, .string sub] w fun e w' => e = .returned (.bool (Lib.contains s.data.toList sub.data.toList)) ∧ w' = w := Any.strings_Contains Tryz.lays144 s sub m w hs hm
def Tryz.lays145_ren : Go.Shelf.Ren := ⟨fun | 145 => 185 | 220 => 224 | 219 => 179 | 217 => 219 | 225 => 220 | 224 => 221 | 267 => 222 | 266 => 258 | 314 => 259 | n => n, fun | 9 => 9 | 4 => 4 | 59 => 155 | 3 => 3 | 5 => 5 | 46 => 226 | 146 => 308 | 51 => 247 | n => n, fun | 1 => 2 | n => n⟩
theorem Tryz.lays145 : Go.Proofs.Lays.n145 Tryz.prog Tryz.lays145_ren := {
  mixed := by kernel_rfl
  f145 := Tryz.func185.trans (congrArg some (by kernel_rfl))
  f217 := Tryz.func219.trans (congrArg some (by kernel_rfl))
  f219 := Tryz.func179.trans (congrArg some (by kernel_rfl))
  f220 := Tryz.func224.trans (congrArg some (by kernel_rfl))
  f224 := Tryz.func221.trans (congrArg some (by kernel_rfl))
  f225 := Tryz.func220.trans (congrArg some (by kernel_rfl))
  f266 := Tryz.func258.trans (congrArg some (by kernel_rfl))
  f267 := Tryz.func222.trans (congrArg some (by kernel_rfl))
  f314 := Tryz.func259.trans (congrArg some (by kernel_rfl))
  t3 := Tryz.underlying3
  a3 := Tryz.isAgg3
  z3 := Tryz.sizeOf3
  v3 := Tryz.zeroValue3
  t4 := Tryz.underlying4
  a4 := Tryz.isAgg4
  z4 := Tryz.sizeOf4
  v4 := Tryz.zeroValue4
  t5 := Tryz.underlying5
  a5 := Tryz.isAgg5
  z5 := Tryz.sizeOf5
  v5 := Tryz.zeroValue5
  t9 := Tryz.underlying9
  a9 := Tryz.isAgg9
  z9 := Tryz.sizeOf9
  v9 := Tryz.zeroValue9
  t46 := Tryz.underlying226
  a46 := Tryz.isAgg226
  z46 := Tryz.sizeOf226
  v46 := Tryz.zeroValue226
  t51 := Tryz.underlying247
  a51 := Tryz.isAgg247
  z51 := Tryz.sizeOf247
  v51 := Tryz.zeroValue247
  t59 := Tryz.underlying155
  a59 := Tryz.isAgg155
  z59 := Tryz.sizeOf155
  v59 := Tryz.zeroValue155
  t146 := Tryz.underlying308
  a146 := Tryz.isAgg308
  z146 := Tryz.sizeOf308
  v146 := Tryz.zeroValue308
  g1 := by kernel_rfl }
open Go.RowKit Go.Lib in
theorem Tryz.strings_Cut (s sep : ByteArray) (m : Int) (w : World) (hs : s.size < 4294967281) (hm : w.cell? ⟨2, 0, none⟩ = some (.int .i64 m)) :
    Calls Tryz.prog 185 #[.string s, .string sep] w fun e w' => e = .returned (.tuple #[.string ⟨(Lib.cut s.data.toList sep.data.toList).1.toArray⟩, .string ⟨(Lib.cut s.data.toList sep.data.toList).2.1.toArray⟩, .bool (Lib.cut s.data.toList sep.data.toList).2.2]) ∧ ∃ n, w' = w.drewN n := Any.strings_Cut Tryz.lays145 s sep m w hs hm
def Tryz.lays99_ren : Go.Shelf.Ren := ⟨fun | 99 => 123 | 206 => 178 | n => n, fun | 9 => 9 | 4 => 4 | 3 => 3 | n => n, fun | n => n⟩
theorem Tryz.lays99 : Go.Proofs.Lays.n99 Tryz.prog Tryz.lays99_ren := {
  mixed := by kernel_rfl
  f99 := Tryz.func123.trans (congrArg some (by kernel_rfl))
  f206 := Tryz.func178.trans (congrArg some (by kernel_rfl))
  t3 := Tryz.underlying3
  a3 := Tryz.isAgg3
  z3 := Tryz.sizeOf3
  v3 := Tryz.zeroValue3
  t4 := Tryz.underlying4
  a4 := Tryz.isAgg4
  z4 := Tryz.sizeOf4
  v4 := Tryz.zeroValue4
  t9 := Tryz.underlying9
  a9 := Tryz.isAgg9
  z9 := Tryz.sizeOf9
  v9 := Tryz.zeroValue9 }
open Go.RowKit Go.Lib in
theorem Tryz.strings_HasPrefix (s p : ByteArray) (w : World) :
    Calls Tryz.prog 123 #[.string s, .string p] w fun e w' => e = .returned (.bool (Lib.hasPrefix s.data.toList p.data.toList)) ∧ w' = w := Any.strings_HasPrefix Tryz.lays99 s p w
def Tryz.lays100_ren : Go.Shelf.Ren := ⟨fun | 100 => 128 | 207 => 184 | n => n, fun | 9 => 9 | 4 => 4 | 3 => 3 | n => n, fun | n => n⟩
theorem Tryz.lays100 : Go.Proofs.Lays.n100 Tryz.prog Tryz.lays100_ren := {
  mixed := by kernel_rfl
  f100 := Tryz.func128.trans (congrArg some (by kernel_rfl))
  f207 := Tryz.func184.trans (congrArg some (by kernel_rfl))
  t3 := Tryz.underlying3
  a3 := Tryz.isAgg3
  z3 := Tryz.sizeOf3
  v3 := Tryz.zeroValue3
  t4 := Tryz.underlying4
  a4 := Tryz.isAgg4
  z4 := Tryz.sizeOf4
  v4 := Tryz.zeroValue4
  t9 := Tryz.underlying9
  a9 := Tryz.isAgg9
  z9 := Tryz.sizeOf9
  v9 := Tryz.zeroValue9 }
open Go.RowKit Go.Lib in
theorem Tryz.strings_HasSuffix (s p : ByteArray) (w : World) (hs : s.size ≤ 9223372036854775807) :
    Calls Tryz.prog 128 #[.string s, .string p] w fun e w' => e = .returned (.bool (Lib.hasSuffix s.data.toList p.data.toList)) ∧ w' = w := Any.strings_HasSuffix Tryz.lays100 s p w hs
def Tryz.lays150_ren : Go.Shelf.Ren := ⟨fun | 150 => 77 | 153 => 125 | 152 => 180 | 226 => 181 | 227 => 173 | 228 => 182 | 137 => 183 | 119 => 223 | 224 => 221 | 225 => 220 | 217 => 219 | 266 => 258 | n => n, fun | 9 => 9 | 4 => 4 | 3 => 3 | 5 => 5 | 21 => 21 | 117 => 213 | 116 => 212 | 0 => 0 | 46 => 226 | 124 => 216 | n => n, fun | n => n⟩
theorem Tryz.lays150 : Go.Proofs.Lays.n150 Tryz.prog Tryz.lays150_ren := {
  mixed := by kernel_rfl
  f119 := Tryz.func223.trans (congrArg some (by kernel_rfl))
  f137 := Tryz.func183.trans (congrArg some (by kernel_rfl))
  f150 := Tryz.func77.trans (congrArg some (by kernel_rfl))
  f152 := Tryz.func180.trans (congrArg some (by kernel_rfl))
  f153 := Tryz.func125.trans (congrArg some (by kernel_rfl))
  f217 := Tryz.func219.trans (congrArg some (by kernel_rfl))
  f224 := Tryz.func221.trans (congrArg some (by kernel_rfl))
  f225 := Tryz.func220.trans (congrArg some (by kernel_rfl))
  f226 := Tryz.func181.trans (congrArg some (by kernel_rfl))
  f227 := Tryz.func173.trans (congrArg some (by kernel_rfl))
  f228 := Tryz.func182.trans (congrArg some (by kernel_rfl))
  f266 := Tryz.func258.trans (congrArg some (by kernel_rfl))
  t0 := Tryz.underlying0
  a0 := Tryz.isAgg0
  z0 := Tryz.sizeOf0
  v0 := Tryz.zeroValue0
  t3 := Tryz.underlying3
  a3 := Tryz.isAgg3
  z3 := Tryz.sizeOf3
  v3 := Tryz.zeroValue3
  t4 := Tryz.underlying4
  a4 := Tryz.isAgg4
  z4 := Tryz.sizeOf4
  v4 := Tryz.zeroValue4
  t5 := Tryz.underlying5
  a5 := Tryz.isAgg5
  z5 := Tryz.sizeOf5
  v5 := Tryz.zeroValue5
  t9 := Tryz.underlying9
  a9 := Tryz.isAgg9
  z9 := Tryz.sizeOf9
  v9 := Tryz.zeroValue9
  t21 := Tryz.underlying21
  a21 := Tryz.isAgg21
  z21 := Tryz.sizeOf21
  v21 := Tryz.zeroValue21
  t46 := Tryz.underlying226
  a46 := Tryz.isAgg226
  z46 := Tryz.sizeOf226
  v46 := Tryz.zeroValue226
  t116 := Tryz.underlying212
  a116 := Tryz.isAgg212
  z116 := Tryz.sizeOf212
  t117 := Tryz.underlying213
  a117 := Tryz.isAgg213
  z117 := Tryz.sizeOf213
  v117 := Tryz.zeroValue213
  t124 := Tryz.underlying216
  a124 := Tryz.isAgg216
  z124 := Tryz.sizeOf216
  v124 := Tryz.zeroValue216 }
open Go.RowKit Go.Lib in
theorem Tryz.strings_ContainsAny_laid (s chars : ByteArray) (w : World) (hs : s.size < 4294967281) (hcs : chars.size < 4294967281) (has : ∀ (j : Nat) b, s.data.toList[j]? = some b → b.toNat < 128) (hac : ∀ (j : Nat) b, chars.data.toList[j]? = some b → b.toNat < 128) :
    Calls Tryz.prog 77 #[.string s, .string chars] w fun e w' => e = .returned (.bool (Lib.containsAny s.data.toList chars.data.toList)) ∧ Below w.heap.size w w' := Any.strings_ContainsAny_laid Tryz.lays150 (by kernel_rfl) s chars w hs hcs has hac
def Tryz.lays160_ren : Go.Shelf.Ren := ⟨fun | 160 => 121 | 232 => 172 | 231 => 171 | 227 => 173 | 234 => 175 | 233 => 174 | 236 => 177 | 235 => 176 | 228 => 182 | 271 => 218 | 151 => 217 | 197 => 216 | 120 => 257 | 152 => 180 | 260 => 256 | 137 => 183 | 119 => 223 | 224 => 221 | 225 => 220 | 217 => 219 | 266 => 258 | n => n, fun | 9 => 9 | 4 => 4 | 3 => 3 | 5 => 5 | 117 => 213 | 116 => 212 | 0 => 0 | 124 => 216 | 21 => 21 | 105 => 251 | 46 => 226 | 119 => 197 | 139 => 332 | 138 => 331 | n => n, fun | 3 => 4 | 4 => 5 | n => n⟩
theorem Tryz.lays160 : Go.Proofs.Lays.n160 Tryz.prog Tryz.lays160_ren := {
  mixed := by kernel_rfl
  f119 := Tryz.func223.trans (congrArg some (by kernel_rfl))
  f120 := Tryz.func257.trans (congrArg some (by kernel_rfl))
  f137 := Tryz.func183.trans (congrArg some (by kernel_rfl))
  f151 := Tryz.func217.trans (congrArg some (by kernel_rfl))
  f152 := Tryz.func180.trans (congrArg some (by kernel_rfl))
  f160 := Tryz.func121.trans (congrArg some (by kernel_rfl))
  f197 := Tryz.func216.trans (congrArg some (by kernel_rfl))
  f217 := Tryz.func219.trans (congrArg some (by kernel_rfl))
  f224 := Tryz.func221.trans (congrArg some (by kernel_rfl))
  f225 := Tryz.func220.trans (congrArg some (by kernel_rfl))
  f227 := Tryz.func173.trans (congrArg some (by kernel_rfl))
  f228 := Tryz.func182.trans (congrArg some (by kernel_rfl))
  f231 := Tryz.func171.trans (congrArg some (by kernel_rfl))
  f232 := Tryz.func172.trans (congrArg some (by kernel_rfl))
  f233 := Tryz.func174.trans (congrArg some (by kernel_rfl))
  f234 := Tryz.func175.trans (congrArg some (by kernel_rfl))
  f235 := Tryz.func176.trans (congrArg some (by kernel_rfl))
  f236 := Tryz.func177.trans (congrArg some (by kernel_rfl))
  f260 := Tryz.func256.trans (congrArg some (by kernel_rfl))
  f266 := Tryz.func258.trans (congrArg some (by kernel_rfl))
  f271 := Tryz.func218.trans (congrArg some (by kernel_rfl))
  t0 := Tryz.underlying0
  a0 := Tryz.isAgg0
  z0 := Tryz.sizeOf0
  v0 := Tryz.zeroValue0
  t3 := Tryz.underlying3
  a3 := Tryz.isAgg3
  z3 := Tryz.sizeOf3
  v3 := Tryz.zeroValue3
  t4 := Tryz.underlying4
  a4 := Tryz.isAgg4
  z4 := Tryz.sizeOf4
  v4 := Tryz.zeroValue4
  t5 := Tryz.underlying5
  a5 := Tryz.isAgg5
  z5 := Tryz.sizeOf5
  v5 := Tryz.zeroValue5
  t9 := Tryz.underlying9
  a9 := Tryz.isAgg9
  z9 := Tryz.sizeOf9
  v9 := Tryz.zeroValue9
  t21 := Tryz.underlying21
  a21 := Tryz.isAgg21
  z21 := Tryz.sizeOf21
  v21 := Tryz.zeroValue21
  t46 := Tryz.underlying226
  a46 := Tryz.isAgg226
  z46 := Tryz.sizeOf226
  v46 := Tryz.zeroValue226
  t105 := Tryz.underlying251
  a105 := Tryz.isAgg251
  z105 := Tryz.sizeOf251
  v105 := Tryz.zeroValue251
  t116 := Tryz.underlying212
  a116 := Tryz.isAgg212
  z116 := Tryz.sizeOf212
  t117 := Tryz.underlying213
  a117 := Tryz.isAgg213
  z117 := Tryz.sizeOf213
  v117 := Tryz.zeroValue213
  t119 := Tryz.underlying197
  a119 := Tryz.isAgg197
  z119 := Tryz.sizeOf197
  t124 := Tryz.underlying216
  a124 := Tryz.isAgg216
  z124 := Tryz.sizeOf216
  v124 := Tryz.zeroValue216
  t138 := Tryz.underlying331
  a138 := Tryz.isAgg331
  z138 := Tryz.sizeOf331
  v138 := Tryz.zeroValue331
  t139 := Tryz.underlying332
  a139 := Tryz.isAgg332
  z139 := Tryz.sizeOf332
  v139 := Tryz.zeroValue332
  g3 := by kernel_rfl
  g4 := by kernel_rfl }
def Tryz.laysSlE041_ren : Go.Shelf.Ren := ⟨fun | 41 => 199 | n => n, fun | 22 => 52 | 23 => 121 | 4 => 4 | n => n, fun | n => n⟩
theorem Tryz.laysSlE041 : Go.Proofs.SlLaysE0.n41 Tryz.prog Tryz.laysSlE041_ren := {
  mixed := by kernel_rfl
  f41 := ⟨Tryz.f199.name, by decide, Tryz.func199.trans (congrArg some (by kernel_rfl))⟩
  t4 := Tryz.underlying4
  a4 := Tryz.isAgg4
  z4 := Tryz.sizeOf4
  v4 := Tryz.zeroValue4
  t22 := Tryz.underlying52
  a22 := Tryz.isAgg52
  z22 := Tryz.sizeOf52
  v22 := Tryz.zeroValue52 }
def Tryz.laysSlF06_ren : Go.Shelf.Ren := ⟨fun | 6 => 135 | 15 => 191 | 14 => 190 | 28 => 236 | 29 => 237 | 20 => 228 | 21 => 229 | 22 => 230 | 23 => 231 | 24 => 232 | 25 => 233 | 26 => 234 | 27 => 235 | 46 => 261 | 47 => 262 | 48 => 263 | 49 => 264 | 50 => 265 | 57 => 281 | n => n, fun | 22 => 34 | 24 => 40 | 25 => 169 | 3 => 3 | 39 => 226 | 0 => 0 | 53 => 247 | 55 => 269 | 4 => 4 | 46 => 261 | 45 => 260 | 50 => 265 | 5 => 5 | 9 => 9 | 66 => 311 | 70 => 315 | 76 => 333 | 77 => 334 | n => n, fun | n => n⟩
theorem Tryz.laysSlF06 : Go.Proofs.SlLaysF0.n6 Tryz.prog Tryz.laysSlF06_ren := {
  mixed := by kernel_rfl
  f6 := ⟨Tryz.f135.name, by decide, Tryz.func135.trans (congrArg some (by kernel_rfl))⟩
  f14 := ⟨Tryz.f190.name, by decide, Tryz.func190.trans (congrArg some (by kernel_rfl))⟩
  f15 := Tryz.func191.trans (congrArg some (by kernel_rfl))
  f20 := ⟨Tryz.f228.name, by decide, Tryz.func228.trans (congrArg some (by kernel_rfl))⟩
  f21 := ⟨Tryz.f229.name, by decide, Tryz.func229.trans (congrArg some (by kernel_rfl))⟩
  f22 := ⟨Tryz.f230.name, by decide, Tryz.func230.trans (congrArg some (by kernel_rfl))⟩
  f23 := ⟨Tryz.f231.name, by decide, Tryz.func231.trans (congrArg some (by kernel_rfl))⟩
  f24 := ⟨Tryz.f232.name, by decide, Tryz.func232.trans (congrArg some (by kernel_rfl))⟩
  f25 := ⟨Tryz.f233.name, by decide, Tryz.func233.trans (congrArg some (by kernel_rfl))⟩
  f26 := ⟨Tryz.f234.name, by decide, Tryz.func234.trans (congrArg some (by kernel_rfl))⟩
  f27 := ⟨Tryz.f235.name, by decide, Tryz.func235.trans (congrArg some (by kernel_rfl))⟩
  f28 := Tryz.func236.trans (congrArg some (by kernel_rfl))
  f29 := Tryz.func237.trans (congrArg some (by kernel_rfl))
  f46 := ⟨Tryz.f261.name, by decide, Tryz.func261.trans (congrArg some (by kernel_rfl))⟩
  f47 := Tryz.func262.trans (congrArg some (by kernel_rfl))
  f48 := Tryz.func263.trans (congrArg some (by kernel_rfl))
  f49 := ⟨Tryz.f264.name, by decide, Tryz.func264.trans (congrArg some (by kernel_rfl))⟩
  f50 := ⟨Tryz.f265.name, by decide, Tryz.func265.trans (congrArg some (by kernel_rfl))⟩
  f57 := ⟨Tryz.f281.name, by decide, Tryz.func281.trans (congrArg some (by kernel_rfl))⟩
  t0 := Tryz.underlying0
  a0 := Tryz.isAgg0
  z0 := Tryz.sizeOf0
  v0 := Tryz.zeroValue0
  t3 := Tryz.underlying3
  a3 := Tryz.isAgg3
  z3 := Tryz.sizeOf3
  v3 := Tryz.zeroValue3
  t4 := Tryz.underlying4
  a4 := Tryz.isAgg4
  z4 := Tryz.sizeOf4
  v4 := Tryz.zeroValue4
  t5 := Tryz.underlying5
  a5 := Tryz.isAgg5
  z5 := Tryz.sizeOf5
  v5 := Tryz.zeroValue5
  t9 := Tryz.underlying9
  a9 := Tryz.isAgg9
  z9 := Tryz.sizeOf9
  v9 := Tryz.zeroValue9
  t22 := Tryz.underlying34
  a22 := Tryz.isAgg34
  z22 := Tryz.sizeOf34
  v22 := Tryz.zeroValue34
  t25 := Tryz.underlying169
  a25 := Tryz.isAgg169
  z25 := Tryz.sizeOf169
  v25 := Tryz.zeroValue169
  t39 := Tryz.underlying226
  a39 := Tryz.isAgg226
  z39 := Tryz.sizeOf226
  v39 := Tryz.zeroValue226
  t45 := Tryz.underlying260
  a45 := Tryz.isAgg260
  z45 := Tryz.sizeOf260
  v45 := Tryz.zeroValue260
  t46 := Tryz.underlying261
  a46 := Tryz.isAgg261
  z46 := Tryz.sizeOf261
  v46 := Tryz.zeroValue261
  t50 := Tryz.underlying265
  a50 := Tryz.isAgg265
  z50 := Tryz.sizeOf265
  v50 := Tryz.zeroValue265
  t53 := Tryz.underlying247
  a53 := Tryz.isAgg247
  z53 := Tryz.sizeOf247
  v53 := Tryz.zeroValue247
  t55 := Tryz.underlying269
  a55 := Tryz.isAgg269
  z55 := Tryz.sizeOf269
  v55 := Tryz.zeroValue269
  t66 := Tryz.underlying311
  a66 := Tryz.isAgg311
  z66 := Tryz.sizeOf311
  v66 := Tryz.zeroValue311
  t70 := Tryz.underlying315
  a70 := Tryz.isAgg315
  z70 := Tryz.sizeOf315
  v70 := Tryz.zeroValue315
  t76 := Tryz.underlying333
  a76 := Tryz.isAgg333
  z76 := Tryz.sizeOf333
  v76 := Tryz.zeroValue333
  t77 := Tryz.underlying334
  a77 := Tryz.isAgg334
  z77 := Tryz.sizeOf334
  v77 := Tryz.zeroValue334 }
end Go.Proofs
end
section
namespace Go.Proofs
open Go.Shelf Go.RowKit
set_option maxHeartbeats 1000000 in
set_option maxRecDepth 100000 in
theorem Tryz.cc_used (b : Nat) (w : World) (h0 : w.cell? ⟨b, 0, none⟩ = some (.pointer (some ⟨b, 0, none⟩))) :
    Calls Tryz.prog 203 #[.pointer (some ⟨b, 0, none⟩)] w fun e w' => e = .returned (.tuple #[]) ∧ w' = w := by
  obtain ⟨j, hj, _⟩ := Option.map_eq_some_iff.1 Tryz.Builder_Extra_169.sizeBuilder
  have mixed := Tryz.lays169.mixed
  have t72 := Tryz.underlying134; have a72 := Tryz.isAgg134; have z72 := Tryz.sizeOf134; have v72 := Tryz.zeroValue134; have u72 := run_underlying Tryz.underlying134
  have t70 := Tryz.underlying131; have a70 := Tryz.isAgg131; have z70 := Tryz.sizeOf131; have v70 := Tryz.zeroValue131; have u70 := run_underlying Tryz.underlying131
  have t4 := Tryz.underlying4; have a4 := Tryz.isAgg4; have z4 := Tryz.sizeOf4; have v4 := Tryz.zeroValue4; have u4 := run_underlying Tryz.underlying4
  have t164 := Tryz.underlying274; have a164 := Tryz.isAgg274; have z164 := Tryz.sizeOf274; have v164 := Tryz.zeroValue274; have u164 := run_underlying Tryz.underlying274
  go_enter Tryz.func203, Tryz.ntmps203
  go_wp2
  rw [Lib.run_neq_ptr_same w _ Tryz.underlying131 hj]
  go_wp2
  go_end0
  exact ⟨rfl, rfl⟩
set_option maxHeartbeats 1000000 in
set_option maxRecDepth 100000 in
theorem Tryz.cc_fresh (b : Nat) (w : World) (h0 : w.cell? ⟨b, 0, none⟩ = some (.pointer none)) (hsh : w.shape? b = some (134, 2)) (hfz : w.frozen? ⟨b, 0, none⟩ = false) :
    Calls Tryz.prog 203 #[.pointer (some ⟨b, 0, none⟩)] w fun e w' => e = .returned (.tuple #[]) ∧ w' = w.setCell ⟨b, 0, none⟩ (.pointer (some ⟨b, 0, none⟩)) := by
  obtain ⟨j, hj, hjs⟩ := Option.map_eq_some_iff.1 Tryz.Builder_Extra_169.sizeBuilder
  have mixed := Tryz.lays169.mixed
  have t72 := Tryz.underlying134; have a72 := Tryz.isAgg134; have z72 := Tryz.sizeOf134; have v72 := Tryz.zeroValue134; have u72 := run_underlying Tryz.underlying134
  have t70 := Tryz.underlying131; have a70 := Tryz.isAgg131; have z70 := Tryz.sizeOf131; have v70 := Tryz.zeroValue131; have u70 := run_underlying Tryz.underlying131
  have t4 := Tryz.underlying4; have a4 := Tryz.isAgg4; have z4 := Tryz.sizeOf4; have v4 := Tryz.zeroValue4; have u4 := run_underlying Tryz.underlying4
  have t164 := Tryz.underlying274; have a164 := Tryz.isAgg274; have z164 := Tryz.sizeOf274; have v164 := Tryz.zeroValue274; have u164 := run_underlying Tryz.underlying274
  go_enter Tryz.func203, Tryz.ntmps203
  go_wp2
  rw [Lib.run_to_unsafe w ⟨b, 0, none⟩ Tryz.underlying131 Tryz.underlying274 hj (by rw [hjs]; decide) hsh (Nat.zero_lt_succ 1)]
  simp only [Result.andThen]
  rw [Oper.upon_value]
  go_wp2
  rw [run_callFunc_extern Tryz.func244 (by kernel_rfl) (by kernel_rfl) (by kernel_rfl) (e := Extern.AbiNoEscape.same) (by kernel_rfl)]
  rw [Lib.run_noEscape]
  simp only [Result.andThen]
  rw [Oper.upon_value]
  go_wp2
  rw [Lib.run_from_unsafe w ⟨b, 0, none⟩ Tryz.underlying274 Tryz.underlying131 hj hsh Tryz.Builder_Extra_169.liesBuilder]
  simp only [Result.andThen]
  rw [Oper.upon_value]
  go_wp2
  go_end0
  exact ⟨rfl, rfl⟩
set_option maxHeartbeats 2000000 in
set_option maxRecDepth 100000 in
theorem str_some {P : Program} {ρ : Ren} (L : Lays.n169 P ρ) (X : Builder.Extra P ρ) (b g cap : Nat) (p : Value) (l : List UInt8) (cur : Array Value) (fz : Nat × Nat) (w : World) (h0 : l ≠ []) (hbk : w.heap[b]? = some (.cells #[p, .slice (some ⟨g, 0, none⟩) l.length cap] (ρ.t 72) (0, 0)))
    (hg : w.heap[g]? = some (.cells cur (ρ.t 5) fz)) (hnc : l.length ≤ cap) (hcm : cap ≤ maxLen) (hcs : l.length ≤ cur.size) (hc : ∀ (j : Nat) (x : UInt8), l[j]? = some x → cur[j]? = some (.int .u8 x.toNat)) :
    Calls P (ρ.f 169) #[.pointer (some ⟨b, 0, none⟩)] w fun e w' => e = .returned (.string ⟨l.toArray⟩) ∧ w' = w.drew.freeze ⟨g, 0, none⟩ l.length := by
  have hl0 : l.length ≠ 0 := by simpa using h0
  have c1 : w.drew.cell? ⟨b, 1, none⟩ = some (.slice (some ⟨g, 0, none⟩) l.length cap) := by
    have : w.drew.heap[b]? = some (.cells #[p, .slice (some ⟨g, 0, none⟩) l.length cap] (ρ.t 72) (0, 0)) := hbk
    rw [Lib.cell_of_heap this]; rfl
  have hSD : (Builtin.unsafeSliceData_ #[(ρ.t 37)] (ρ.t 127) #[.slice (some ⟨g, 0, none⟩) l.length cap]).run P w.drew = .ok (.pointer (some ⟨g, 0, none⟩)) w.drew :=
    Lib.run_unsafeSliceData_row _ _ _ _ _ _ (by omega)
  have hUS : (Builtin.unsafeString_ #[(ρ.t 127), (ρ.t 3)] (ρ.t 9) #[.pointer (some ⟨g, 0, none⟩), .int .i64 l.length]).run P w.drew = .ok (.string ⟨l.toArray⟩) (w.drew.freeze ⟨g, 0, none⟩ l.length) := by
    refine Lib.run_unsafeString_row w.drew (ρ.t 127) (ρ.t 3) (ρ.t 9) (ρ.t 5) L.t127 X.cellsByte g cur.size (by have hg' : w.drew.heap[g]? = some (.cells cur (ρ.t 5) fz) := hg; simp [World.shape?, hg']) l h0 (by omega) (by unfold maxLen at hcm; omega) ?_
    intro j x hx
    have hg' : w.drew.heap[g]? = some (.cells cur (ρ.t 5) fz) := hg
    have e : (Addr.mk g 0 none).add j = ⟨g, j, none⟩ := by
      by_cases hj : j = 0
      · subst hj; rfl
      · simp [Addr.add, hj]
    rw [e, Lib.cell_of_heap hg']
    exact hc j x hx
  have mixed := L.mixed
  have t72 := L.t72; have a72 := L.a72; have z72 := L.z72; have v72 := L.v72; have u72 := run_underlying L.t72
  have t70 := L.t70; have a70 := L.a70; have z70 := L.z70; have v70 := L.v70; have u70 := run_underlying L.t70
  have t37 := L.t37; have a37 := L.a37; have z37 := L.z37; have v37 := L.v37; have u37 := run_underlying L.t37
  have t127 := L.t127; have a127 := L.a127; have z127 := L.z127; have v127 := L.v127; have u127 := run_underlying L.t127
  have t3 := L.t3; have a3 := L.a3; have z3 := L.z3; have v3 := L.v3; have u3 := run_underlying L.t3
  have t9 := L.t9; have a9 := L.a9; have z9 := L.z9; have v9 := L.v9; have u9 := run_underlying L.t9
  have t5 := X.t5; have a5 := X.a5; have z5 := X.z5; have v5 := X.v5; have u5 := run_underlying X.t5
  go_enter L.f169, Body.n169_ntmps ρ
  go_wp2
  go_region_o
  all_goals (go_wp2; go_ret; exact ⟨rfl, rfl⟩)
set_option maxHeartbeats 2000000 in
set_option maxRecDepth 100000 in
theorem str_nil {P : Program} {ρ : Ren} (L : Lays.n169 P ρ) (X : Builder.Extra P ρ) (b : Nat) (p : Value) (w : World) (hbk : w.heap[b]? = some (.cells #[p, .slice none 0 0] (ρ.t 72) (0, 0))) :
    Calls P (ρ.f 169) #[.pointer (some ⟨b, 0, none⟩)] w fun e w' => e = .returned (.string ⟨#[]⟩) ∧ w' = w.drew := by
  have hUS := Any.unsafeString_none L X
  have c1 : w.drew.cell? ⟨b, 1, none⟩ = some (.slice none 0 0) := by
    have : w.drew.heap[b]? = some (.cells #[p, .slice none 0 0] (ρ.t 72) (0, 0)) := hbk
    rw [Lib.cell_of_heap this]; rfl
  have hSD : (Builtin.unsafeSliceData_ #[(ρ.t 37)] (ρ.t 127) #[.slice none 0 0]).run P w.drew = .ok (.pointer none) w.drew := rfl
  have mixed := L.mixed
  have t72 := L.t72; have a72 := L.a72; have z72 := L.z72; have v72 := L.v72; have u72 := run_underlying L.t72
  have t70 := L.t70; have a70 := L.a70; have z70 := L.z70; have v70 := L.v70; have u70 := run_underlying L.t70
  have t37 := L.t37; have a37 := L.a37; have z37 := L.z37; have v37 := L.v37; have u37 := run_underlying L.t37
  have t127 := L.t127; have a127 := L.a127; have z127 := L.z127; have v127 := L.v127; have u127 := run_underlying L.t127
  have t3 := L.t3; have a3 := L.a3; have z3 := L.z3; have v3 := L.v3; have u3 := run_underlying L.t3
  have t9 := L.t9; have a9 := L.a9; have z9 := L.z9; have v9 := L.v9; have u9 := run_underlying L.t9
  have t5 := X.t5; have a5 := X.a5; have z5 := X.z5; have v5 := X.v5; have u5 := run_underlying X.t5
  go_enter L.f169, Body.n169_ntmps ρ
  go_wp2
  go_region_o
  all_goals (go_wp2; go_ret; exact ⟨rfl, rfl⟩)
set_option maxHeartbeats 2000000 in
set_option maxRecDepth 100000 in
theorem str_noroom {P : Program} {ρ : Ren} (L : Lays.n169 P ρ) (X : Builder.Extra P ρ) (b g : Nat) (p : Value) (cur : Array Value) (fz : Nat × Nat) (w : World) (hbk : w.heap[b]? = some (.cells #[p, .slice (some ⟨g, 0, none⟩) 0 0] (ρ.t 72) (0, 0))) (hg : w.heap[g]? = some (.cells cur (ρ.t 5) fz)) :
    Calls P (ρ.f 169) #[.pointer (some ⟨b, 0, none⟩)] w fun e w' => e = .returned (.string ⟨#[]⟩) ∧ w' = w.drew.alloc (.view ⟨g, 0, none⟩ (ρ.t 5)) := by
  have hUS := Any.unsafeString_none L X
  have hlt : b < w.heap.size := by
    rcases Nat.lt_or_ge b w.heap.size with h' | h'
    · exact h'
    · simp [Array.getElem?_eq_none h'] at hbk
  have c1 : w.drew.cell? ⟨b, 1, none⟩ = some (.slice (some ⟨g, 0, none⟩) 0 0) := by
    have : w.drew.heap[b]? = some (.cells #[p, .slice (some ⟨g, 0, none⟩) 0 0] (ρ.t 72) (0, 0)) := hbk
    rw [Lib.cell_of_heap this]; rfl
  have hSD : (Builtin.unsafeSliceData_ #[(ρ.t 37)] (ρ.t 127) #[.slice (some ⟨g, 0, none⟩) 0 0]).run P w.drew = .ok (.pointer (some ⟨w.drew.heap.size, 0, none⟩)) (w.drew.alloc (.view ⟨g, 0, none⟩ (ρ.t 5))) :=
    Lib.run_unsafeSliceData_zero w.drew _ _ (ρ.t 5) L.t127 ⟨g, 0, none⟩ 0 ((ρ.t 5), cur.size) (by have hg' : w.drew.heap[g]? = some (.cells cur (ρ.t 5) fz) := hg; simp [World.shape?, hg'])
  have c2 : (w.drew.alloc (.view ⟨g, 0, none⟩ (ρ.t 5))).cell? ⟨b, 1, none⟩ = some (.slice (some ⟨g, 0, none⟩) 0 0) := by
    have : (w.drew.alloc (.view ⟨g, 0, none⟩ (ρ.t 5))).heap[b]? = _ := (Lib.alloc_old w.drew _ b hlt).trans hbk
    rw [Lib.cell_of_heap this]; rfl
  have c3 : (w.alloc (.view ⟨g, 0, none⟩ (ρ.t 5))).drew.cell? ⟨b, 1, none⟩ = some (.slice (some ⟨g, 0, none⟩) 0 0) := c2
  have c0 : w.cell? ⟨b, 1, none⟩ = some (.slice (some ⟨g, 0, none⟩) 0 0) := c1
  have mixed := L.mixed
  have t72 := L.t72; have a72 := L.a72; have z72 := L.z72; have v72 := L.v72; have u72 := run_underlying L.t72
  have t70 := L.t70; have a70 := L.a70; have z70 := L.z70; have v70 := L.v70; have u70 := run_underlying L.t70
  have t37 := L.t37; have a37 := L.a37; have z37 := L.z37; have v37 := L.v37; have u37 := run_underlying L.t37
  have t127 := L.t127; have a127 := L.a127; have z127 := L.z127; have v127 := L.v127; have u127 := run_underlying L.t127
  have t3 := L.t3; have a3 := L.a3; have z3 := L.z3; have v3 := L.v3; have u3 := run_underlying L.t3
  have t9 := L.t9; have a9 := L.a9; have z9 := L.z9; have v9 := L.v9; have u9 := run_underlying L.t9
  have t5 := X.t5; have a5 := X.a5; have z5 := X.z5; have v5 := X.v5; have u5 := run_underlying X.t5
  go_enter L.f169, Body.n169_ntmps ρ
  go_wp2
  go_region_o
  all_goals (go_wp2; go_ret; exact ⟨rfl, rfl⟩)
set_option maxHeartbeats 2000000 in
set_option maxRecDepth 100000 in
theorem str_room {P : Program} {ρ : Ren} (L : Lays.n169 P ρ) (X : Builder.Extra P ρ) (b g cap : Nat) (p : Value) (w : World) (hc0 : cap ≠ 0) (hbk : w.heap[b]? = some (.cells #[p, .slice (some ⟨g, 0, none⟩) 0 cap] (ρ.t 72) (0, 0))) :
    Calls P (ρ.f 169) #[.pointer (some ⟨b, 0, none⟩)] w fun e w' => e = .returned (.string ⟨#[]⟩) ∧ w' = w.drew := by
  have hUS := Any.unsafeString_none L X
  have c1 : w.drew.cell? ⟨b, 1, none⟩ = some (.slice (some ⟨g, 0, none⟩) 0 cap) := by
    have : w.drew.heap[b]? = some (.cells #[p, .slice (some ⟨g, 0, none⟩) 0 cap] (ρ.t 72) (0, 0)) := hbk
    rw [Lib.cell_of_heap this]; rfl
  have hSD : (Builtin.unsafeSliceData_ #[(ρ.t 37)] (ρ.t 127) #[.slice (some ⟨g, 0, none⟩) 0 cap]).run P w.drew = .ok (.pointer (some ⟨g, 0, none⟩)) w.drew :=
    Lib.run_unsafeSliceData_row _ _ _ _ _ _ hc0
  clear hc0
  have mixed := L.mixed
  have t72 := L.t72; have a72 := L.a72; have z72 := L.z72; have v72 := L.v72; have u72 := run_underlying L.t72
  have t70 := L.t70; have a70 := L.a70; have z70 := L.z70; have v70 := L.v70; have u70 := run_underlying L.t70
  have t37 := L.t37; have a37 := L.a37; have z37 := L.z37; have v37 := L.v37; have u37 := run_underlying L.t37
  have t127 := L.t127; have a127 := L.a127; have z127 := L.z127; have v127 := L.v127; have u127 := run_underlying L.t127
  have t3 := L.t3; have a3 := L.a3; have z3 := L.z3; have v3 := L.v3; have u3 := run_underlying L.t3
  have t9 := L.t9; have a9 := L.a9; have z9 := L.z9; have v9 := L.v9; have u9 := run_underlying L.t9
  have t5 := X.t5; have a5 := X.a5; have z5 := X.z5; have v5 := X.v5; have u5 := run_underlying X.t5
  go_enter L.f169, Body.n169_ntmps ρ
  go_wp2
  go_region_o
  all_goals (go_wp2; go_ret; exact ⟨rfl, rfl⟩)
end Go.Proofs
end
section
namespace Go.Proofs
open Go.Shelf Go.RowKit Go.Lib
variable {P : Program} {ρ : Ren}
set_option maxHeartbeats 2000000 in
set_option maxRecDepth 100000 in
theorem clone_any (L : SlLaysE0.n41 P ρ) (i0 : TypeInfo) (z : Value) (size bytes : Nat) (hi : P.info? (ρ.t 23) = some i0) (hz0 : i0.zero = some z) (hz1 : i0.size = size) (hz2 : i0.bytes = bytes) (hzs : z.cells.size = size) (hsz : 0 < size)
    (ad : Addr) (n c : Nat) (news : List Value) (w : World) (hl : news.length = n * size) (hn : n ≤ maxLen) (hbig : n * bytes ≤ 140737488355328)
    (hc : ∀ j u, news[j]? = some u → w.cell? (ad.add j) = some u) (h1 : ∀ u ∈ news, u.oneCell' = true) :
    Calls P (ρ.f 41) #[.slice (some ad) n c] w fun e w' => ∃ v', e = .returned v' ∧ w'.ownsRow w.heap.size (ρ.t 23) size v' n news ∧ v' ≠ .slice none 0 0 ∧ Below w.heap.size w w' := by
  have mixed := L.mixed; have t4 := L.t4; have a4 := L.a4; have z4 := L.z4; have v4 := L.v4; have t22 := L.t22; have a22 := L.a22; have z22 := L.z22; have v22 := L.v22
  have q22 : ∀ (w : World) (a : Option Addr) (n c n' c' : Nat), (binOp .eql (ρ.t 22) (.slice a n c) (.slice none n' c')).run P w = .ok (.bool a.isNone) w := fun w a n c n' c' => Lib.run_eql_slice_nil w _ _ a n c n' c' L.t22
  have u22 : ∀ w, Sem.run P (underlying (ρ.t 22)) w = .ok (TypeDesc.slice (ρ.t 23)) w := run_underlying t22
  have z23 : ∀ w, (Go.sizeOf (ρ.t 23)).run P w = .ok size w := fun w => by
    simp [Go.sizeOf, typeInfo, hi, hz1]
  have A : Aside (∀ j u, news[j]? = some u → w.cell? (ad.add j) = some u) := hc
  clear hc
  obtain ⟨_, _, FG⟩ := L.f41
  go_enter FG, SlBodyN.n41_ntmps ρ
  go_wp2_with (at_builtin; refine wpList_append_own _ rfl _ _ (ρ.t 22) rfl w.heap.size (ρ.t 23) i0 z size bytes t22 hi hz0 hz1 hz2 hzs hsz _ _ _ rfl (World.ownsRow_made w #[] 0 (Nat.le_refl _) (Nat.zero_le _) (by simp)) ad n c news rfl ?qc1 ?qc2 ?qc3 ?qc4 ?qc5 ?qc6 ?_)
  case qc1 => exact hl
  case qc2 =>
    intro j u hj
    exact Lib.cell?_alloc_some _ (A.out j u hj)
  case qc3 => exact h1
  case qc4 => rw [Nat.zero_add]; exact hn
  case qc5 => rw [Nat.zero_add]; exact hbig
  case qc6 => simp
  intro v' w1 hown hgrow hnil
  go_wp2
  go_ret
  refine ⟨v', rfl, by simpa using hown, ?_, ?_⟩
  · exact hnil
  · exact ((Below.refl _ w).alloc (Nat.le_refl _) _).grown hgrow (by simp) (by intro k hk; simp [Value.ownBlock] at hk; omega)
end Go.Proofs
end
section
namespace Go.Abs.SA
open Go.Proofs
variable [Tabs]
theorem quiet_below {S : Nat → Nat → Prop} {w w' : World} (h : ∀ b o, S b o → b < w.heap.size) (hb : RowKit.Below w.heap.size w w') : Quiet S w S w' := by
  obtain ⟨h1, h2, h3, h4, h5⟩ := hb
  refine ⟨h1, h2, h3, h4, h5, fun _ _ h => h, fun _ _ h => .inl h, fun b o hbo => ?_⟩
  have := h b o hbo
  omega
theorem quiet_refl {S : Nat → Nat → Prop} {w : World} (h : ∀ b o, S b o → b < w.heap.size) : Quiet S w S w :=
  ⟨rfl, rfl, rfl, Nat.le_refl _, fun _ _ => rfl, fun _ _ h => h, fun _ _ h => .inl h, h⟩
theorem quiet_drew {S : Nat → Nat → Prop} {w : World} (h : ∀ b o, S b o → b < w.heap.size) (n : Nat) : Quiet S w S (w.drewN n) :=
  ⟨rfl, rfl, rfl, Nat.le_refl _, fun _ _ => rfl, fun _ _ h => h, fun _ _ h => .inl h, h⟩
theorem rels_two {μ : Nat → G} {S : Nat → Nat → Prop} {w : World} {n : Nat} {v v' : Value} {vs : List Value} (h : Rels μ S w n [.v v, .v v'] vs) : vs = [v, v'] := by
  obtain ⟨h1, h2⟩ := h
  match vs, h1 with
  | [u, u'], _ =>
    have a := (h2 0 (.v v) u rfl rfl).int
    have b := (h2 1 (.v v') u' rfl rfl).int
    rw [a, b]
theorem enters_of {f : Nat} {fn : Func} (hf : Tryz.prog.funcs[f]? = some fn) (hn : fn.name ≠ "runtime.NumGoroutine") (hb : fn.body.isSome = true) : Enters Tryz.prog f := ⟨fn, hf, hn, hb⟩
theorem asc {l : List UInt8} (h : ∀ b ∈ l, b.toNat < 128) : ∀ (j : Nat) b, l[j]? = some b → b.toNat < 128 := fun j b hb => h b (List.mem_of_getElem? hb)
theorem rel_tup3 {μ : Nat → G} {S : Nat → Nat → Prop} {w : World} {n : Nat} {a b c : Value} (ha : plainV a = true) (hb : plainV b = true) (hc : plainV c = true) : Rel μ S w n (.tup [.v a, .v b, .v c]) (.tuple #[a, b, c]) := by
  refine Rel.tup _ [.v a, .v b, .v c] [a, b, c] rfl fun j x v h1 h2 => ?_
  match j with
  | 0 => cases h1; cases h2; exact .v _ _ ha
  | 1 => cases h1; cases h2; exact .v _ _ hb
  | 2 => cases h1; cases h2; exact .v _ _ hc
  | j + 3 => simp at h1
theorem rel_tup2 {μ : Nat → G} {S : Nat → Nat → Prop} {w : World} {n : Nat} {a b : Value} (ha : plainV a = true) (hb : plainV b = true) : Rel μ S w n (.tup [.v a, .v b]) (.tuple #[a, b]) := by
  refine Rel.tup _ [.v a, .v b] [a, b] rfl fun j x v h1 h2 => ?_
  match j with
  | 0 => cases h1; cases h2; exact .v _ _ ha
  | 1 => cases h1; cases h2; exact .v _ _ hb
  | j + 2 => simp at h1
theorem extY_ok {X : X} (hP : X.P = Tryz.prog) (hX : X.ext = extY) (m : Int) (h0 : ∃ cs : Array Value, (2, cs) ∈ Tabs.l ∧ cs[0]? = some (.int .i64 m)) : ExtOk0 X := by
  intro f ys r hr
  rw [hX] at hr
  rw [hP]
  have hm : ∀ {S : Nat → Nat → Prop} {w : World}, TabOk S w → w.cell? ⟨2, 0, none⟩ = some (.int .i64 m) := by
    intro S w htab
    obtain ⟨cs, hmem, hcs⟩ := h0
    obtain ⟨⟨e, k, hh⟩, _⟩ := htab _ hmem
    simp only at hh
    simp [World.cell?, hh, hcs]
  unfold extY at hr
  split at hr
  · rename_i hf
    subst hf
    unfold ext_Trim at hr
    split at hr
    · rename_i s t
      split at hr
      · rename_i hs
        obtain ⟨hs, ht⟩ := hs
        cases hr
        refine ⟨enters_of Tryz.func121 (by decide) rfl, fun μ S w k vs hold htab hx => ?_⟩
        rw [rels_two hx]
        have hT : Calls Tryz.prog 121 #[.string s, .string t] w fun e w' => e = .returned (.string ⟨(Lib.trimS s.data.toList t.data.toList).toArray⟩) ∧ RowKit.Below w.heap.size w w' := by
          rcases ht with rfl | rfl
          · exact Any.strings_Trim_laid Tryz.lays160 (by kernel_rfl) s digS w hs (by decide) (ascii_of_all (by decide))
          · exact Any.strings_Trim_laid Tryz.lays160 (by kernel_rfl) s blaS w hs (by decide) (ascii_of_all (by decide))
        refine hT.mono ?_
        rintro e w' ⟨rfl, hb⟩
        exact ⟨_, S, rfl, quiet_below hold hb, .v _ _ rfl⟩
      · split at hr
        · rename_i hs
          obtain ⟨hs, rfl⟩ := hs
          cases hr
          refine ⟨enters_of Tryz.func121 (by decide) rfl, fun μ S w k vs hold htab hx => ?_⟩
          rw [rels_two hx]
          refine (Any.strings_Trim_one Tryz.lays160 s 32 (by decide) w hs).mono ?_
          rintro e w' ⟨rfl, rfl | rfl⟩
          · exact ⟨_, S, rfl, quiet_refl hold, .v _ _ rfl⟩
          · exact ⟨_, S, rfl, quiet_drew hold 1, .v _ _ rfl⟩
        · cases hr
    · cases hr
  split at hr
  · rename_i hf
    subst hf
    unfold ext_IndexByte at hr
    split at hr
    · rename_i s c
      split at hr
      · rename_i hc
        cases hr
        refine ⟨enters_of Tryz.func183 (by decide) rfl, fun μ S w k vs hold htab hx => ?_⟩
        rw [rels_two hx]
        refine (Tryz.strings_IndexByte s c w).mono ?_
        rintro e w' ⟨rfl, rfl⟩
        exact ⟨_, S, rfl, quiet_refl hold, .v _ _ rfl⟩
      · cases hr
    · cases hr
  split at hr
  · rename_i hf
    subst hf
    unfold ext_Index at hr
    split at hr
    · rename_i s t
      split at hr
      · rename_i hs
        cases hr
        refine ⟨enters_of Tryz.func124 (by decide) rfl, fun μ S w k vs hold htab hx => ?_⟩
        rw [rels_two hx]
        refine (Tryz.strings_Index s t m w hs (hm htab)).mono ?_
        rintro e w' ⟨rfl, rfl⟩
        exact ⟨_, S, rfl, quiet_refl hold, .v _ _ rfl⟩
      · cases hr
    · cases hr
  split at hr
  · rename_i hf
    subst hf
    unfold ext_Cut at hr
    split at hr
    · rename_i s t
      split at hr
      · rename_i hs
        cases hr
        refine ⟨enters_of Tryz.func185 (by decide) rfl, fun μ S w k vs hold htab hx => ?_⟩
        rw [rels_two hx]
        refine (Tryz.strings_Cut s t m w hs (hm htab)).mono ?_
        rintro e w' ⟨rfl, n, rfl⟩
        exact ⟨_, S, rfl, quiet_drew hold n, rel_tup3 rfl rfl rfl⟩
      · cases hr
    · cases hr
  split at hr
  · rename_i hf
    subst hf
    unfold ext_Contains at hr
    split at hr
    · rename_i s t
      split at hr
      · rename_i hs
        cases hr
        refine ⟨enters_of Tryz.func127 (by decide) rfl, fun μ S w k vs hold htab hx => ?_⟩
        rw [rels_two hx]
        refine (Tryz.strings_Contains s t m w hs (hm htab)).mono ?_
        rintro e w' ⟨rfl, rfl⟩
        exact ⟨_, S, rfl, quiet_refl hold, .v _ _ rfl⟩
      · cases hr
    · cases hr
  split at hr
  · rename_i hf
    subst hf
    unfold ext_ContainsAny at hr
    split at hr
    · rename_i s t
      split at hr
      · rename_i hs
        obtain ⟨hs, ht, h1, h2⟩ := hs
        cases hr
        refine ⟨enters_of Tryz.func77 (by decide) rfl, fun μ S w k vs hold htab hx => ?_⟩
        rw [rels_two hx]
        refine (Tryz.strings_ContainsAny_laid s t w hs ht (asc h1) (asc h2)).mono ?_
        rintro e w' ⟨rfl, hb⟩
        exact ⟨_, S, rfl, quiet_below hold hb, .v _ _ rfl⟩
      · cases hr
    · cases hr
  split at hr
  · rename_i hf
    subst hf
    unfold ext_HasPrefix at hr
    split at hr
    · rename_i s t
      cases hr
      refine ⟨enters_of Tryz.func123 (by decide) rfl, fun μ S w k vs hold htab hx => ?_⟩
      rw [rels_two hx]
      refine (Tryz.strings_HasPrefix s t w).mono ?_
      rintro e w' ⟨rfl, rfl⟩
      exact ⟨_, S, rfl, quiet_refl hold, .v _ _ rfl⟩
    · cases hr
  split at hr
  · rename_i hf
    subst hf
    unfold ext_HasSuffix at hr
    split at hr
    · rename_i s t
      split at hr
      · rename_i hs
        cases hr
        refine ⟨enters_of Tryz.func128 (by decide) rfl, fun μ S w k vs hold htab hx => ?_⟩
        rw [rels_two hx]
        refine (Tryz.strings_HasSuffix s t w (by have := hs; omega)).mono ?_
        rintro e w' ⟨rfl, rfl⟩
        exact ⟨_, S, rfl, quiet_refl hold, .v _ _ rfl⟩
      · cases hr
    · cases hr
  split at hr
  · rename_i hf
    subst hf
    unfold ext_CutPrefix at hr
    split at hr
    · rename_i s t
      cases hr
      refine ⟨enters_of Tryz.func260 (by decide) rfl, fun μ S w k vs hold htab hx => ?_⟩
      rw [rels_two hx]
      refine (Tryz.strings_CutPrefix s t w).mono ?_
      rintro e w' ⟨rfl, rfl⟩
      exact ⟨_, S, rfl, quiet_refl hold, rel_tup2 rfl rfl⟩
    · cases hr
  · cases hr
end Go.Abs.SA
end
section
namespace Go.Abs.SA
open Go.Proofs
variable [Tabs]
def LOk (f : FuncId) (g : List AV → List Blk → Option (AV × List Blk)) : Prop := ∀ ys h r h', g ys h = some (r, h') → Enters Tryz.prog f ∧ ∀ (μ : Nat → G) (S : Nat → Nat → Prop) (w : World) (vs : List Value), Inv h μ S w → Rels μ S w h.length ys vs →
    Calls Tryz.prog f vs.toArray w fun e w' => ∃ v μ' S', e = .returned v ∧ Inv h' μ' S' w' ∧ Rel μ' S' w' h'.length r v ∧ Adv h μ S w h' μ' S' w'
theorem rels_fs {μ : Nat → G} {S : Nat → Nat → Prop} {w : World} {n : Nat} {x : AV} {vs : List Value} (h : Rels μ S w n [x] vs) : ∃ v, vs = [v] ∧ Rel μ S w n x v := by
  obtain ⟨h1, h2⟩ := h
  match vs, h1 with
  | [u], _ => exact ⟨u, rfl, h2 0 x u rfl rfl⟩
theorem clone_ok : LOk 199 extL_Clone := by
  intro ys h r h' hr
  unfold extL_Clone at hr
  split at hr
  · rename_i es full
    split at hr
    · rename_i hc
      obtain ⟨hb, he4⟩ := hc
      cases hr
      refine ⟨enters_of Tryz.func199 (by decide) rfl, fun μ S w vs hi hx => ?_⟩
      obtain ⟨v, rfl, hv⟩ := rels_fs hx
      cases hv with
      | fs _ _ _ a cap V h1 h2 h3 h4 h5 =>
      cases a with
      | none =>
        have hes : es = [] := by
          cases es with
          | nil => rfl
          | cons c r =>
            have hc4 := he4 c (List.mem_cons_self ..)
            obtain ⟨x, hx0⟩ : ∃ x, c[0]? = some x := ⟨_, List.getElem?_eq_getElem (by omega)⟩
            obtain ⟨ad, h, _⟩ := h4 0 c 0 x rfl hx0
            cases h
        subst hes
        refine (AnyE.slices_Clone_nil Tryz.laysSlE041 _ _ w).mono ?_
        rintro e w' ⟨rfl, rfl⟩
        obtain ⟨q1, q2, q3⟩ := new_blk hi (w' := w') (fun _ _ => rfl) (Nat.le_refl _) rfl rfl rfl (.arr 121 4 []) .nil (by rintro k sz tot ⟨⟩) ⟨by omega, by simp, .inl ⟨⟨_, upd_same _ _ _, by intro h; cases h⟩, rfl⟩⟩
        exact ⟨_, _, S, rfl, q1, .slnil _ _ _ _ (by simp) (upd_same _ _ _), q2⟩
      | some ad =>
        have hget : ∀ q, q < es.length * 4 → ∃ c x, es[q / 4]? = some c ∧ c[q % 4]? = some x ∧ c.length = 4 := by
          intro q hq
          have hq4 : q / 4 < es.length := by omega
          have hcl := he4 _ (List.getElem_mem hq4)
          exact ⟨es[q / 4], (es[q / 4])[q % 4]'(by omega), List.getElem?_eq_getElem hq4, List.getElem?_eq_getElem (by omega), hcl⟩
        have hat : ∀ q, q < es.length * 4 → At S w (ad.add q) (V (q / 4) (q % 4)) := by
          intro q hq
          obtain ⟨c, x, g1, g2, g3⟩ := hget q hq
          obtain ⟨ad', ha, hA⟩ := h4 _ c _ x g1 g2
          cases ha
          rw [g3, show q / 4 * 4 + q % 4 = q from by omega] at hA
          exact hA
        obtain ⟨news, hnw⟩ : ∃ news, (List.range (es.length * 4)).map (fun q => V (q / 4) (q % 4)) = news := ⟨_, rfl⟩
        have hnl : news.length = es.length * 4 := by rw [← hnw]; simp
        have hng : ∀ j u, news[j]? = some u → j < es.length * 4 ∧ u = V (j / 4) (j % 4) := by
          intro j u hj
          have hlt : j < es.length * 4 := by rw [← hnl]; exact (List.getElem?_eq_some_iff.1 hj).1
          rw [← hnw, List.getElem?_map, List.getElem?_range hlt] at hj
          exact ⟨hlt, by simpa using hj.symm⟩
        have hone : ∀ u ∈ news, u.oneCell' = true := by
          intro u hu
          obtain ⟨j, hj⟩ := List.getElem?_of_mem hu
          obtain ⟨g1, rfl⟩ := hng j u hj
          exact (hat j g1).2.2
        have hinfo : ∃ i0 : TypeInfo, Tryz.prog.info? 121 = some i0 ∧ ∃ z, i0.zero = some z ∧ i0.size = 4 ∧ i0.bytes = 64 ∧ z.cells.size = 4 := by
          have hh : (Tryz.prog.info? 121).map (fun i => (i.zero, i.size, i.bytes)) = some (some (.agg #[.string ⟨#[]⟩, .string ⟨#[]⟩, .int .i64 0, .slice none 0 0]), 4, 64) := by kernel_rfl
          cases hi : Tryz.prog.info? 121 with
          | none => rw [hi] at hh; cases hh
          | some i0 =>
            rw [hi] at hh
            simp only [Option.map_some, Option.some.injEq, Prod.mk.injEq] at hh
            exact ⟨i0, rfl, _, hh.1, hh.2.1, hh.2.2, rfl⟩
        obtain ⟨i0, y1, z, y2, y3, y4, y5⟩ := hinfo
        refine (clone_any Tryz.laysSlE041 i0 z 4 64 y1 y2 y3 y4 y5 (by omega) ad es.length cap news w hnl (by omega) (by omega) (fun j u hj => by obtain ⟨g1, rfl⟩ := hng j u hj; exact (hat j g1).1) hone).mono ?_
        rintro e w' ⟨v', rfl, hown, hnn, hbel⟩
        obtain ⟨_, ⟨ho, _⟩ | ⟨g, cap', cur, rfl, p1, p2, p3, p4, p5, p6⟩⟩ := hown
        · exact absurd ho hnn
        obtain ⟨b1, b2, b3, b4, b5⟩ := hbel
        have hsame : Same S S w w' := fun b o hb => ⟨hb, b5 b (hi.old b o hb)⟩
        have hh : Holds μ S w 4 es news := ⟨hnl, he4, fun i c j x v g1 g2 g3 => by
          have hj : j < 4 := by rw [← he4 c (List.mem_of_getElem? g1)]; exact (List.getElem?_eq_some_iff.1 g2).1
          obtain ⟨_, rfl⟩ := hng _ _ g3
          rw [show (i * 4 + j) / 4 = i from by omega, show (i * 4 + j) % 4 = j from by omega]
          exact h5 i c j x g1 g2, hone⟩
        obtain ⟨q1, q2, q3⟩ := new_blk hi (w' := w') (fun k hk => b5 k hk) b4 b1 b2 b3 (.arr 121 4 es) (.blk g 4 cap') (by rintro k sz tot ⟨⟩; exact p1) (BlkOk.of_holds (by omega) (upd_same _ _ _) p2 p5 p3 p4 (fun o ho => by have := hi.old _ _ ho; omega) (hh.same hsame) p6)
        have hR := Rel.sl (μ := upd μ 0 (.blk g 4 cap')) (S := S) (w := w') 1 0 0 es.length false g 4 cap' cap' (by omega) (upd_same _ _ _) p3 p4 (by simp) (by simp)
        rw [Nat.zero_mul] at hR
        exact ⟨_, _, S, rfl, q1, hR, q2⟩
    · cases hr
  · cases hr
theorem setc {h : List Blk} {μ : Nat → G} {S : Nat → Nat → Prop} {w : World} (hi : Inv h μ S w) {x y : AV} {cells : List AV} {ty : Option Nat} (hid : h[0]? = some (.var (x :: cells) ty)) {bk sz tot : Nat} {cs : Array Value} {e : Nat} (g2 : μ 0 = .blk bk sz tot)
    (z2 : w.heap[bk]? = some (.cells cs (ty.getD e) (0, 0))) (z3 : cs.size = cells.length + 1) (z4 : ∀ o, ¬ S bk o) (z5 : ∀ (j : Nat) (x' : AV) (v : Value), (x :: cells)[j]? = some x' → cs[j]? = some v → Rel μ S w h.length x' v) (z6 : ∀ v ∈ cs, v.oneCell' = true)
    {u : Value} (hy : Rel μ S w h.length y u) (hu : u.oneCell' = true) :
    Inv (h.set 0 (.var (y :: cells) ty)) μ S (w.setCell ⟨bk, 0, none⟩ u) ∧ Adv h μ S w (h.set 0 (.var (y :: cells) ty)) μ S (w.setCell ⟨bk, 0, none⟩ u) := by
  have hother : ∀ k, k ≠ bk → (w.setCell ⟨bk, 0, none⟩ u).heap[k]? = w.heap[k]? := fun k hk => RowKit.Below.heap_setCell w _ _ k hk
  have hheap : (w.setCell ⟨bk, 0, none⟩ u).heap[bk]? = some (.cells (cs.setIfInBounds 0 u) (ty.getD e) (0, 0)) := by
    simp [World.setCell, Array.getElem?_modify, z2]
  have hsize : (w.setCell ⟨bk, 0, none⟩ u).heap.size = w.heap.size := by simp [World.setCell]
  have hown : Go.Abs.owned h μ 0 bk := ⟨_, hid, by simp, sz, tot, g2⟩
  have hsame : Same S S w (w.setCell ⟨bk, 0, none⟩ u) := fun b2 o hb => ⟨hb, hother b2 (fun e => z4 o (e ▸ hb))⟩
  have hmid : upd μ 0 (.blk bk sz tot) = μ := by
    funext k; simp only [upd]; split
    · rename_i hk; subst hk; exact g2.symm
    · rfl
  obtain ⟨q1, q2, q3, q4⟩ := set_blk hi hid (by simp) (.blk bk sz tot) (w' := w.setCell ⟨bk, 0, none⟩ u) (b := .var (y :: cells) ty) (by rw [hsize]; exact Nat.le_refl _) rfl rfl rfl
    (fun k hk hno => hother k (fun e => hno (e ▸ hown))) (by rintro k s t ⟨⟩; exact .inl hown) (fun _ => ⟨g2.symm, by simp⟩) (by rintro _ _ _ _ _ _ h1; cases h1) false (fun _ => g2.symm)
    (by
      rw [hmid]
      refine ⟨bk, sz, tot, _, e, g2, hheap, by simp [z3], z4, fun j x' v a b => ?_, fun v hv => ?_⟩
      · cases j with
        | zero =>
          simp only [List.getElem?_cons_zero, Option.some.injEq] at a
          subst a
          rw [Array.getElem?_setIfInBounds_self_of_lt (by omega)] at b
          cases b
          exact hy.same hsame (fun _ _ => rfl)
        | succ j =>
          rw [Array.getElem?_setIfInBounds_ne (by omega)] at b
          exact (z5 (j + 1) x' v a b).same hsame (fun _ _ => rfl)
      · rcases Array.mem_or_eq_of_mem_setIfInBounds hv with h | h
        · exact z6 v h
        · rw [h]; exact hu)
  rw [hmid] at q1 q2
  simp only [Bool.false_eq_true, if_false, List.map_id'] at q1 q2
  exact ⟨q1, q2⟩
theorem rels_ptr {μ : Nat → G} {S : Nat → Nat → Prop} {w : World} {n b sz tot : Nat} {vs : List Value} (hm : μ 0 = .blk b sz tot) (h : Rels μ S w n [.ptr 0 0] vs) : vs = [.pointer (some ⟨b, 0, none⟩)] := by
  obtain ⟨h1, h2⟩ := h
  match vs, h1 with
  | [u], _ =>
    have := h2 0 (.ptr 0 0) u rfl rfl
    cases this with
    | ptr _ _ _ b' sz' tot' g1 g2 =>
      rw [hm] at g2; cases g2; rfl
theorem cc_ok : LOk 203 extL_copyCheck := by
  intro ys h r h' hr
  unfold extL_copyCheck at hr
  split at hr
  · rename_i b rs
    cases hr
    refine ⟨enters_of Tryz.func203 (by decide) rfl, fun μ S w vs hi hx => ?_⟩
    obtain ⟨bk, sz, tot, cs, e, z1, z2, z3, z4, z5, z6⟩ := hi.blk 0 _ rfl
    rw [rels_ptr z1 hx]
    have h0 : cs[0]? = some (.pointer none) := by
      have hl : 0 < cs.size := by rw [z3]; simp
      obtain ⟨v, hv⟩ : ∃ v, cs[0]? = some v := ⟨_, Array.getElem?_eq_getElem hl⟩
      have := z5 0 _ v rfl hv
      cases this
      exact hv
    have hc : w.cell? ⟨bk, 0, none⟩ = some (.pointer none) := by simp [World.cell?, z2, h0]
    have hsh : w.shape? bk = some (134, 2) := by
      have : cs.size = 2 := by rw [z3]; rfl
      simp [World.shape?, z2, this]
    have hfz : w.frozen? ⟨bk, 0, none⟩ = false := by simp [World.frozen?, z2]
    refine (Tryz.cc_fresh bk w hc hsh hfz).mono ?_
    rintro e' w' ⟨rfl, rfl⟩
    obtain ⟨q1, q2⟩ := setc (y := .ptr 0 0) hi (x := .v (.pointer none)) (cells := [b]) rfl z1 z2 z3 z4 z5 z6 (u := .pointer (some ⟨bk, 0, none⟩)) (.ptr _ 0 0 bk sz tot (by simp) z1) rfl
    exact ⟨_, μ, S, rfl, q1, .tup _ [] [] rfl (fun j x v a => by simp at a), q2⟩
  · rename_i b rs
    cases hr
    refine ⟨enters_of Tryz.func203 (by decide) rfl, fun μ S w vs hi hx => ?_⟩
    obtain ⟨bk, sz, tot, cs, e, z1, z2, z3, z4, z5, z6⟩ := hi.blk 0 _ rfl
    rw [rels_ptr z1 hx]
    have h0 : cs[0]? = some (.pointer (some ⟨bk, 0, none⟩)) := by
      have hl : 0 < cs.size := by rw [z3]; simp
      obtain ⟨v, hv⟩ : ∃ v, cs[0]? = some v := ⟨_, Array.getElem?_eq_getElem hl⟩
      have := z5 0 _ v rfl hv
      cases this with
      | ptr _ _ _ b' sz' tot' g1 g2 =>
        rw [z1] at g2; cases g2
        exact hv
    have hc : w.cell? ⟨bk, 0, none⟩ = some (.pointer (some ⟨bk, 0, none⟩)) := by simp [World.cell?, z2, h0]
    refine (Tryz.cc_used bk w hc).mono ?_
    rintro e' w' ⟨rfl, rfl⟩
    exact ⟨_, μ, S, rfl, hi, .tup _ [] [] rfl (fun j x v a => by simp at a), Adv.refl _ _ _ _⟩
  · cases hr
theorem str_end {μ : Nat → G} {S : Nat → Nat → Prop} {w w' : World} {a : AV} {n : Nat} {es : List (List AV)} {ty : Option Nat} {e0 sz0 : Nat} (hi : Inv [.var [a, .sl 1 0 n false] ty, .arr e0 sz0 es] μ S w)
    (hk : ∀ k, k < w.heap.size → (∀ sz tot, μ 1 ≠ .blk k sz tot) → w'.heap[k]? = w.heap[k]?) (hsz : w.heap.size ≤ w'.heap.size) (ho : w'.os = w.os) (ht : w'.tape = w.tape) (hu : w'.output = w.output) :
    Inv [.var [a, .junk] ty, .dead] μ S w' ∧ Adv [.var [a, .sl 1 0 n false] ty, .arr e0 sz0 es] μ S w [.var [a, .junk] ty, .dead] μ S w' := by
  obtain ⟨bk, sz, tot, cs, e, z1, z2, z3, z4, z5, z6⟩ := hi.blk 0 _ rfl
  have own1 : ∀ k sz tot, μ 1 = .blk k sz tot → Go.Abs.owned [.var [a, .sl 1 0 n false] ty, .arr e0 sz0 es] μ 1 k := fun k sz tot h => ⟨_, rfl, by simp, sz, tot, h⟩
  have own0 : Go.Abs.owned [.var [a, .sl 1 0 n false] ty, .arr e0 sz0 es] μ 0 bk := ⟨_, rfl, by simp, sz, tot, z1⟩
  have hold : ∀ b o, S b o → w'.heap[b]? = w.heap[b]? := fun b o hb => hk b (hi.old b o hb) fun sz tot h => ((own1 b sz tot h).lt hi).2 o hb
  have hsame : Same S S w w' := fun b o hb => ⟨hb, hold b o hb⟩
  have hsub : ∀ id k, Go.Abs.owned [.var [a, .junk] ty, .dead] μ id k → Go.Abs.owned [.var [a, .sl 1 0 n false] ty, .arr e0 sz0 es] μ id k := by
    rintro id k ⟨b, h1, h2, h3⟩
    match id with
    | 0 => exact ⟨_, rfl, by simp, h3⟩
    | 1 => simp at h1; exact absurd h1.symm h2
    | id + 2 => simp at h1
  have hbk : w'.heap[bk]? = w.heap[bk]? := hk bk (own0.lt hi).1 fun sz tot h => by
    have := hi.inj 0 1 bk own0 (own1 bk sz tot h)
    cases this
  refine ⟨⟨fun id b hb => ?_, fun id id' k h1 h2 => hi.inj id id' k (hsub _ _ h1) (hsub _ _ h2), fun b o hb => Nat.lt_of_lt_of_le (hi.old b o hb) hsz, hi.tab.same hsame⟩, ⟨ho, ht, hu, hsz, fun k h1 h2 => hk k h1 fun sz tot h => h2 1 (own1 k sz tot h), fun _ _ h => h, fun _ _ h => .inl h, fun id k h => .inl ⟨id, hsub id k h⟩, Nat.le_refl _, fun id h1 h2 => ⟨rfl, fun e sz es h => ?_⟩, fun id e sz es e' sz' es' h1 h2 => ?_⟩⟩
  · match id with
    | 0 =>
      simp only [List.getElem?_cons_zero, Option.some.injEq] at hb
      subst hb
      refine ⟨bk, sz, tot, cs, e, z1, hbk.trans z2, by rw [z3]; rfl, z4, fun j x v h1 h2 => ?_, z6⟩
      match j with
      | 0 => simp only [List.getElem?_cons_zero, Option.some.injEq] at h1; subst h1; exact (z5 0 _ v rfl h2).same hsame (fun _ _ => rfl)
      | 1 => simp at h1; subst h1; exact .junk _ _
      | j + 2 => simp at h1
    | 1 => simp at hb; subst hb; trivial
    | id + 2 => simp at hb
  · match id with
    | 0 => simp at h
    | 1 => simp at h
    | id + 2 => simp at h
  · match id with
    | 0 => simp at h2
    | 1 => simp at h2
    | id + 2 => simp at h2
theorem freeze_other (w : World) (g n k : Nat) (h : k ≠ g) : (w.freeze ⟨g, 0, none⟩ n).heap[k]? = w.heap[k]? := by
  unfold World.freeze
  split
  · rfl
  · simp only [Array.getElem?_modify]
    rw [if_neg (by intro e; exact h e.symm)]
theorem freeze_size (w : World) (g n : Nat) : (w.freeze ⟨g, 0, none⟩ n).heap.size = w.heap.size := by
  unfold World.freeze
  split
  · rfl
  · simp
theorem freeze_oto (w : World) (g n : Nat) : (w.freeze ⟨g, 0, none⟩ n).os = w.os ∧ (w.freeze ⟨g, 0, none⟩ n).tape = w.tape ∧ (w.freeze ⟨g, 0, none⟩ n).output = w.output := by
  unfold World.freeze
  split <;> exact ⟨rfl, rfl, rfl⟩
theorem str_ok2 (a : AV) (n : Nat) (es : List (List AV)) (r : AV) (h' : List Blk) (hr : bldEnd a n es = some (r, h')) (μ : Nat → G) (S : Nat → Nat → Prop) (w : World) (vs : List Value) (hi : Inv [.var [a, .sl 1 0 n false] (some 134), .arr 5 1 es] μ S w) (hx : Rels μ S w 2 [.ptr 0 0] vs) :
    Calls Tryz.prog 99 vs.toArray w fun e w' => ∃ v μ' S', e = .returned v ∧ Inv h' μ' S' w' ∧ Rel μ' S' w' h'.length r v ∧ Adv [.var [a, .sl 1 0 n false] (some 134), .arr 5 1 es] μ S w h' μ' S' w' := by
  unfold bldEnd at hr
  split at hr
  case isFalse => cases hr
  rename_i hn
  subst hn
  split at hr
  case h_2 => cases hr
  rename_i ns hns
  split at hr
  case isFalse => cases hr
  rename_i hall
  cases hr
  obtain ⟨bk, sz, tot, cs, e, z1, z2, z3, z4, z5, z6⟩ := hi.blk 0 _ rfl
  rw [rels_ptr z1 hx]
  obtain ⟨p, v1, hcs⟩ : ∃ p v1, cs = #[p, v1] := by
    have h2 : cs.size = 2 := by rw [z3]; rfl
    obtain ⟨l⟩ := cs
    match l, h2 with
    | [p, v1], _ => exact ⟨p, v1, rfl⟩
  subst hcs
  have hel := intsOf_spec hns
  have hlen : es.length = ns.length := by rw [hel, List.length_map]
  obtain ⟨_, _, hb1⟩ := hi.blk 1 _ rfl
  have fin : ∀ (w' : World), (∀ k, k < w.heap.size → (∀ sz tot, μ 1 ≠ .blk k sz tot) → w'.heap[k]? = w.heap[k]?) → w.heap.size ≤ w'.heap.size → w'.os = w.os → w'.tape = w.tape → w'.output = w.output → ∀ (l : List UInt8), (ns.map fun n => UInt8.ofNat n.toNat) = l →
      ∃ v μ' S', Ending.returned (.string ⟨l.toArray⟩) = .returned v ∧ Inv [.var [a, .junk] (some 134), .dead] μ' S' w' ∧ Rel μ' S' w' 2 (.v (.string ⟨(ns.map fun n => UInt8.ofNat n.toNat).toArray⟩)) v ∧
        Adv [.var [a, .sl 1 0 es.length false] (some 134), .arr 5 1 es] μ S w [.var [a, .junk] (some 134), .dead] μ' S' w' := by
    rintro w' h1 h2 h3 h4 h5 l rfl
    obtain ⟨q1, q2⟩ := str_end hi h1 h2 h3 h4 h5
    exact ⟨_, μ, S, rfl, q1, .v _ _ rfl, q2⟩
  obtain ⟨n, hn⟩ : ∃ n, es.length = n := ⟨_, rfl⟩
  have hv1 := z5 1 (.sl 1 0 es.length false) v1 rfl rfl
  rw [hn] at hv1
  cases hv1 with
  | slnil _ _ _ x g1 g2 =>
    have hns0 : ns = [] := List.eq_nil_of_length_eq_zero (by omega)
    have hx0 : x = none := by
      rcases hb1 with ⟨⟨y, p1, p2⟩, _⟩ | ⟨_, _, _, q, _⟩
      · rw [g2] at p1; cases p1; exact p2 rfl
      · rw [g2] at q; cases q
    subst hx0
    refine (str_nil Tryz.lays169 Tryz.Builder_Extra_169 bk p w z2).mono ?_
    rintro e' w' ⟨rfl, rfl⟩
    exact fin w.drew (fun k _ _ => rfl) (Nat.le_refl _) rfl rfl rfl [] (by rw [hns0]; rfl)
  | sl _ _ _ _ _ g sz1 tot1 cap g1 g2 g3 g4 g5 g6 =>
    rcases hb1 with ⟨⟨y, p1, _⟩, _⟩ | ⟨g', tot', cs', q1, q2, q3, q4, q5, q6, q7, q8⟩
    · rw [g2] at p1; cases p1
    rw [g2] at q1; cases q1
    have hoff : (0 : Nat) * 1 = 0 := rfl
    by_cases h0 : n = 0
    · have hns0 : ns = [] := List.eq_nil_of_length_eq_zero (by omega)
      subst h0
      by_cases hc0 : cap = 0
      · subst hc0
        refine (str_noroom Tryz.lays169 Tryz.Builder_Extra_169 bk g p cs' (0, 0) w z2 q2).mono ?_
        rintro e' w' ⟨rfl, rfl⟩
        refine fin (w.drew.alloc (.view ⟨g, 0, none⟩ (Tryz.lays169_ren.t 5))) (fun k hk _ => ?_) ?_ rfl rfl rfl [] (by rw [hns0]; rfl)
        · exact Lib.alloc_old w.drew _ k hk
        · have hp := (Pushed.alloc w.drew (.view ⟨g, 0, none⟩ (Tryz.lays169_ren.t 5))).size
          have hd : w.drew.heap.size = w.heap.size := rfl
          omega
      · refine (str_room Tryz.lays169 Tryz.Builder_Extra_169 bk g cap p w hc0 z2).mono ?_
        rintro e' w' ⟨rfl, rfl⟩
        exact fin w.drew (fun k _ _ => rfl) (Nat.le_refl _) rfl rfl rfl [] (by rw [hns0]; rfl)
    · obtain ⟨l, hl⟩ : ∃ l : List UInt8, (ns.map fun n => UInt8.ofNat n.toNat) = l := ⟨_, rfl⟩
      have hll : l.length = n := by rw [← hl, List.length_map]; omega
      have z2' : w.heap[bk]? = some (.cells #[p, .slice (some ⟨g, 0, none⟩) l.length cap] (Tryz.lays169_ren.t 72) (0, 0)) := by rw [hll]; exact z2
      refine (str_some Tryz.lays169 Tryz.Builder_Extra_169 bk g cap p l cs' (0, 0) w (by rintro rfl; simp at hll; omega) z2' q2 (by omega) g4 (by omega) ?_).mono ?_
      · intro j x hx
        rw [← hl, List.getElem?_map] at hx
        cases hnj : ns[j]? with
        | none => rw [hnj] at hx; cases hx
        | some m =>
          rw [hnj] at hx
          simp only [Option.map_some, Option.some.injEq] at hx
          subst hx
          have hej : es[j]? = some [.v (.int .u8 m)] := by rw [hel, List.getElem?_map, hnj]; rfl
          have hjl : j < ns.length := (List.getElem?_eq_some_iff.1 hnj).1
          obtain ⟨u, hu⟩ : ∃ u, cs'[j]? = some u := ⟨_, Array.getElem?_eq_getElem (by omega)⟩
          have hr := q7 j _ 0 _ u hej rfl (by simpa using hu)
          have hm := List.all_eq_true.1 hall m (List.mem_of_getElem? hnj)
          simp only [Bool.and_eq_true, decide_eq_true_eq] at hm
          rw [hu, hr.int]
          have : ((UInt8.ofNat m.toNat).toNat : Int) = m := by
            rw [UInt8.toNat_ofNat']
            omega
          rw [this]
      · rintro e' w' ⟨rfl, rfl⟩
        obtain ⟨o1, o2, o3⟩ := freeze_oto w.drew g l.length
        refine fin _ (fun k hk hno => ?_) (by rw [freeze_size]; exact Nat.le_refl _) o1 o2 o3 l hl
        exact freeze_other w.drew g l.length k (fun e => hno 1 tot1 (e ▸ g2))
theorem str_ok : LOk 99 extL_String := by
  intro ys h r h' hr
  refine ⟨enters_of Tryz.func99 (by decide) rfl, fun μ S w vs hi hx => ?_⟩
  unfold extL_String at hr
  split at hr
  · exact (str_ok2 _ _ _ _ _ hr μ S w vs hi hx)
  · exact (str_ok2 _ _ _ _ _ hr μ S w vs hi hx)
  · cases hr
end Go.Abs.SA
end
section
namespace Go.Abs.SA
open Go.Proofs Go.Sort
theorem cb_self : ∀ x : List UInt8, Lib.compareBytes x x = 0
  | [] => by simp [Lib.compareBytes]
  | a :: x => by simp [Lib.compareBytes, cb_self x]
theorem cb_trans : ∀ x y z : List UInt8, Lib.compareBytes x y < 0 → Lib.compareBytes y z < 0 → Lib.compareBytes x z < 0
  | [], [], z, h1, h2 => by simp [Lib.compareBytes] at h1
  | [], b :: y, [], h1, h2 => by simp [Lib.compareBytes] at h2
  | [], b :: y, c :: z, h1, h2 => by simp [Lib.compareBytes]
  | a :: x, [], z, h1, h2 => by simp [Lib.compareBytes] at h1
  | a :: x, b :: y, [], h1, h2 => by simp [Lib.compareBytes] at h2
  | a :: x, b :: y, c :: z, h1, h2 => by
    have ih := cb_trans x y z
    simp only [Lib.compareBytes] at h1 h2 ⊢
    simp only [UInt8.lt_iff_toNat_lt] at *
    split at h1
    · split at h2
      · rw [if_pos (by omega)]; decide
      · split at h2
        · omega
        · rw [if_pos (by omega)]; decide
    · split at h1
      · omega
      · split at h2
        · rw [if_pos (by omega)]; decide
        · split at h2
          · omega
          · rw [if_neg (by omega), if_neg (by omega)]; exact ih h1 h2
theorem cb_ntrans : ∀ x y z : List UInt8, 0 ≤ Lib.compareBytes x y → 0 ≤ Lib.compareBytes y z → 0 ≤ Lib.compareBytes x z
  | [], [], z, h1, h2 => h2
  | [], b :: y, z, h1, h2 => by simp [Lib.compareBytes] at h1
  | a :: x, y, [], h1, h2 => by simp [Lib.compareBytes]
  | a :: x, [], c :: z, h1, h2 => by simp [Lib.compareBytes] at h2
  | a :: x, b :: y, c :: z, h1, h2 => by
    have ih := cb_ntrans x y z
    simp only [Lib.compareBytes] at h1 h2 ⊢
    simp only [UInt8.lt_iff_toNat_lt] at *
    split at h1
    · omega
    · split at h1
      · split at h2
        · omega
        · split at h2
          · rw [if_neg (by omega), if_pos (by omega)]; decide
          · rw [if_neg (by omega), if_pos (by omega)]; decide
      · split at h2
        · omega
        · split at h2
          · rw [if_neg (by omega), if_pos (by omega)]; decide
          · rw [if_neg (by omega), if_neg (by omega)]; exact ih h1 h2
theorem cb_anti : ∀ x y : List UInt8, 0 ≤ Lib.compareBytes x y → 0 ≤ Lib.compareBytes y x → x = y
  | [], [], _, _ => rfl
  | [], b :: y, h1, h2 => by simp [Lib.compareBytes] at h1
  | a :: x, [], h1, h2 => by simp [Lib.compareBytes] at h2
  | a :: x, b :: y, h1, h2 => by
    have ih := cb_anti x y
    simp only [Lib.compareBytes] at h1 h2
    simp only [UInt8.lt_iff_toNat_lt] at *
    split at h1
    · omega
    · split at h1
      · rw [if_pos (by omega)] at h2; omega
      · rw [if_neg (by omega), if_neg (by omega)] at h2
        rw [ih h1 h2, UInt8.toNat_inj.1 (show a.toNat = b.toNat by omega)]
abbrev cfB : List UInt8 → List UInt8 → Int := fun x y => Lib.compareBytes x y
theorem swoB : SWO (Go.Proofs.ltOf cfB) := by
  constructor
  · intro x; simp [Go.Proofs.ltOf, cb_self]
  · intro x y z h1 h2
    simp only [Go.Proofs.ltOf, decide_eq_true_eq] at *
    exact cb_trans x y z h1 h2
  · intro x y z h1 h2
    simp only [Go.Proofs.ltOf, decide_eq_false_iff_not] at *
    exact Int.not_lt.2 (cb_ntrans x y z (Int.not_lt.1 h1) (Int.not_lt.1 h2))
def insN (x : List UInt8) : List (List UInt8) → List (List UInt8)
  | [] => [x]
  | y :: r => if Lib.compareBytes y x < 0 then y :: insN x r else x :: y :: r
def srtN (l : List (List UInt8)) : List (List UInt8) := l.foldr insN []
theorem insN_perm (x : List UInt8) : ∀ l, (insN x l).Perm (x :: l)
  | [] => List.Perm.refl _
  | y :: r => by
    rw [insN]
    split
    · exact ((insN_perm x r).cons y).trans (List.Perm.swap x y r)
    · exact List.Perm.refl _
theorem srtN_perm : ∀ l, (srtN l).Perm l
  | [] => List.Perm.refl _
  | x :: r => (insN_perm x (srtN r)).trans ((srtN_perm r).cons x)
abbrev leB : List UInt8 → List UInt8 → Prop := fun x y => 0 ≤ Lib.compareBytes y x
theorem insN_ord (x : List UInt8) : ∀ l, l.Pairwise leB → (insN x l).Pairwise leB
  | [], _ => by simp [insN]
  | y :: r, h => by
    rw [List.pairwise_cons] at h
    rw [insN]
    split
    · rename_i hl
      rw [List.pairwise_cons]
      refine ⟨fun z hz => ?_, insN_ord x r h.2⟩
      rcases List.mem_cons.1 ((insN_perm x r).mem_iff.1 hz) with rfl | hz
      · show 0 ≤ Lib.compareBytes z y
        apply Int.not_lt.1
        intro h2
        have := cb_trans z y z h2 hl
        rw [cb_self] at this; omega
      · exact h.1 z hz
    · rename_i hl
      rw [List.pairwise_cons]
      refine ⟨fun z hz => ?_, List.pairwise_cons.2 h⟩
      rcases List.mem_cons.1 hz with rfl | hz
      · exact Int.not_lt.1 hl
      · exact cb_ntrans z y x (h.1 z hz) (Int.not_lt.1 hl)
theorem srtN_ord : ∀ l, (srtN l).Pairwise leB
  | [] => List.Pairwise.nil
  | x :: r => insN_ord x _ (srtN_ord r)
theorem srtN_merge (l : List (List UInt8)) : l.mergeSort (fun x y => !(Go.Proofs.ltOf cfB) y x) = srtN l := by
  refine List.Perm.eq_of_pairwise (le := leB) (fun a b _ _ h1 h2 => cb_anti a b h2 h1) ?_ (srtN_ord l) ((List.mergeSort_perm _ _).trans (srtN_perm l).symm)
  have := List.pairwise_mergeSort (le := fun x y => !(Go.Proofs.ltOf cfB) y x) (fun a b c h1 h2 => ?_) (fun a b => ?_) l
  · refine this.imp fun {a b} h => ?_
    simp only [Go.Proofs.ltOf, Bool.not_eq_true', decide_eq_false_iff_not] at h
    exact Int.not_lt.1 h
  · simp only [Go.Proofs.ltOf, Bool.not_eq_true', decide_eq_false_iff_not] at *
    exact Int.not_lt.2 (cb_ntrans c b a (Int.not_lt.1 h2) (Int.not_lt.1 h1))
  · simp only [Go.Proofs.ltOf, Bool.or_eq_true, Bool.not_eq_true', decide_eq_false_iff_not]
    by_cases h : Lib.compareBytes b a < 0
    · right
      intro h2
      have := cb_trans a b a h2 h
      rw [cb_self] at this; omega
    · left; exact h
theorem closure_cmp (a b c d : ByteArray) (W : World) : Calls Tryz.prog 136 #[.agg #[.string a, .string b], .agg #[.string c, .string d]] W fun e w' => e = .returned (.int .i64 (Lib.compareBytes a.data.toList c.data.toList)) ∧ ∃ q os', w' = grow (W.drewN q) os' := by
  have hcon := fun W' => Tryz.strings_Compare a c W'
  generalize Lib.compareBytes a.data.toList c.data.toList = r at hcon ⊢
  go_enter Tryz.func136, Tryz.ntmps136
  go_wp2_with (go_at_call 137; refine (hcon _).mono ?_; rintro e w' ⟨rfl, rfl⟩)
  go_ret
  exact ⟨rfl, 0, _, by rw [alloc_eq_grow, alloc_eq_grow, grow_grow]; rfl⟩
end Go.Abs.SA
end
section
namespace Go.Abs.SA
open Go.Proofs Go.Sort
variable [Tabs]
abbrev nmP (p : ByteArray × ByteArray) : List UInt8 := lS8 p.1
abbrev avP (p : ByteArray × ByteArray) : List AV := [.v (.string p.1), .v (.string p.2)]
theorem attrKeys_spec : ∀ {es : List (List AV)} {l : List (List AV × List UInt8)}, attrKeys es = some l → ∃ L : List (ByteArray × ByteArray), es = L.map avP ∧ l = L.map fun p => (avP p, nmP p)
  | [], l, h => by
    simp only [attrKeys, Option.some.injEq] at h
    subst h
    exact ⟨[], rfl, rfl⟩
  | c :: r, l, h => by
    unfold attrKeys at h
    split at h
    · rename_i e; cases e
    · rename_i a b r' e
      cases e
      rw [Option.map_eq_some_iff] at h
      obtain ⟨l', h1, rfl⟩ := h
      obtain ⟨L, rfl, rfl⟩ := attrKeys_spec h1
      exact ⟨(a, b) :: L, rfl, rfl⟩
    · cases h
def insP (x : ByteArray × ByteArray) : List (ByteArray × ByteArray) → List (ByteArray × ByteArray)
  | [] => [x]
  | y :: r => if Lib.compareBytes (nmP y) (nmP x) < 0 then y :: insP x r else x :: y :: r
def srtP (l : List (ByteArray × ByteArray)) : List (ByteArray × ByteArray) := l.foldr insP []
theorem attrIns_P (x : ByteArray × ByteArray) : ∀ l : List (ByteArray × ByteArray), attrIns (avP x, nmP x) (l.map fun p => (avP p, nmP p)) = (insP x l).map fun p => (avP p, nmP p)
  | [] => rfl
  | y :: r => by
    rw [List.map_cons, attrIns, insP]
    split
    · rw [attrIns_P x r]; rfl
    · rfl
theorem foldr_P : ∀ l : List (ByteArray × ByteArray), (l.map fun p => (avP p, nmP p)).foldr attrIns [] = (srtP l).map fun p => (avP p, nmP p)
  | [] => rfl
  | x :: r => by
    rw [List.map_cons, List.foldr_cons, foldr_P r, attrIns_P]; rfl
theorem insP_nm (x : ByteArray × ByteArray) : ∀ l : List (ByteArray × ByteArray), (insP x l).map nmP = insN (nmP x) (l.map nmP)
  | [] => rfl
  | y :: r => by
    rw [insP, List.map_cons, insN]
    split
    · rw [List.map_cons, insP_nm x r]
    · rfl
theorem srtP_nm : ∀ l : List (ByteArray × ByteArray), (srtP l).map nmP = srtN (l.map nmP)
  | [] => rfl
  | x :: r => by
    show (insP x (srtP r)).map nmP = insN (nmP x) (srtN (r.map nmP))
    rw [insP_nm, srtP_nm r]
theorem insP_mem (x : ByteArray × ByteArray) : ∀ (l : List (ByteArray × ByteArray)) (y : ByteArray × ByteArray), y ∈ insP x l → y = x ∨ y ∈ l
  | [], y, h => by simpa [insP] using h
  | z :: r, y, h => by
    rw [insP] at h
    split at h
    · rcases List.mem_cons.1 h with rfl | h
      · exact .inr (by simp)
      · rcases insP_mem x r y h with h | h
        · exact .inl h
        · exact .inr (by simp [h])
    · rcases List.mem_cons.1 h with rfl | h
      · exact .inl rfl
      · exact .inr h
theorem srtP_mem : ∀ (l : List (ByteArray × ByteArray)) (y : ByteArray × ByteArray), y ∈ srtP l → y ∈ l
  | [], y, h => by simp [srtP] at h
  | x :: r, y, h => by
    rcases insP_mem x (srtP r) y h with h | h
    · simp [h]
    · simp [srtP_mem r y h]
theorem srtP_len (l : List (ByteArray × ByteArray)) : (srtP l).length = l.length := by
  have := congrArg List.length (srtP_nm l)
  rw [List.length_map, (srtN_perm _).length_eq, List.length_map] at this
  exact this
def valP (L : List (ByteArray × ByteArray)) (x : List UInt8) : ByteArray := ((L.find? fun p => decide (nmP p = x)).map (·.2)).getD ⟨#[]⟩
theorem distB_nd : ∀ {l : List (List UInt8)}, distB l = true → l.Nodup
  | [], _ => List.nodup_nil
  | x :: r, h => by
    simp only [distB, Bool.and_eq_true, Bool.not_eq_true'] at h
    refine List.nodup_cons.2 ⟨fun hm => ?_, distB_nd h.2⟩
    have := h.1
    rw [List.contains_eq_mem, decide_eq_false_iff_not] at this
    exact this hm
theorem valP_mem : ∀ {L : List (ByteArray × ByteArray)} {p : ByteArray × ByteArray}, (L.map nmP).Nodup → p ∈ L → valP L (nmP p) = p.2
  | q :: r, p, hd, hm => by
    rw [List.map_cons, List.nodup_cons] at hd
    unfold valP
    rw [List.find?_cons]
    rcases List.mem_cons.1 hm with rfl | hm
    · simp
    · have hne : ¬ nmP q = nmP p := fun e => hd.1 (e ▸ List.mem_map_of_mem hm)
      rw [decide_eq_false hne]
      exact valP_mem hd.2 hm
abbrev encP (L : List (ByteArray × ByteArray)) (x : List UInt8) : List Value := [.string ⟨x.toArray⟩, .string (valP L x)]
theorem encP_mem {L : List (ByteArray × ByteArray)} (hd : (L.map nmP).Nodup) {p : ByteArray × ByteArray} (hm : p ∈ L) : encP L (nmP p) = [.string p.1, .string p.2] := by
  unfold encP
  rw [valP_mem hd hm]
end Go.Abs.SA
end
