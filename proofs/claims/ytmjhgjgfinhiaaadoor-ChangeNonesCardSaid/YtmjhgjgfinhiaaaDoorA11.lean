/- YtmjhgjgfinhiaaaDoorA11: a part of the interpreter by which the claim is shown, and of the walks: no conditions of its own: every theorem states its own. -/
import Derived.Test.YtmjhgjgfinhiaaaDoorA10
import Derived.Shelf.Strings.SlTrimAscii
import Derived.Shelf.SlicesE.Clone
import Derived.Test.YtmjhgjgfinhiaaaDoorProg
import Derived.WalkKit
import Derived.Deep.LoopGhost
import Derived.Lib.Walk
import Derived.Lib.SliceRun
import Derived.Lib.Index
import Derived.Test.YtmjhgjgfinhiaaaDoorRows
import Derived.ProofKit
import Derived.OpenShut
import Derived.ShutString
import Derived.ChangeOld
import Derived.Below
import Derived.SizedLaws
import Derived.LaidMore
import Derived.Stop.Joined
import Derived.Stop.LaidErr
import Derived.Shelf.Vars
import Derived.Lib.LaidTab
import Derived.Lay
section
set_option linter.unusedVariables false
set_option linter.unusedSimpArgs false
set_option linter.unusedSectionVars false
/-
  DERIVED: THE SHELF's CONTRACTS AT THIS DUMP, IN PLAIN WORDS (tools/lay-plain.mjs out of 'TrydShelfU.lean', which tools/lay-shelf.mjs wrote): THE SAME DECLARATIONS UNDER THE SAME NAMES: 'import', 'namespace', 'open', 'def', 'theorem' AND NOTHING ELSE: no command of the shelf's: FOR A HAND-IN. Each laying: the table of numbers ('.._ren') and one theorem, a field a fact of the dump's own or the kernel's comparison; each contract: ONE APPLICATION.
-/
namespace Go.Proofs
open Go.Shelf
def Tryd.lays160_ren : Go.Shelf.Ren := ⟨fun | 160 => 36 | 232 => 47 | 231 => 46 | 227 => 48 | 234 => 50 | 233 => 49 | 236 => 52 | 235 => 51 | 228 => 59 | 271 => 62 | 151 => 61 | 197 => 60 | 120 => 69 | 152 => 68 | 260 => 67 | 137 => 71 | 119 => 72 | 224 => 73 | 225 => 74 | 217 => 76 | 266 => 77 | n => n, fun | 9 => 9 | 4 => 4 | 3 => 3 | 5 => 5 | 117 => 85 | 116 => 84 | 0 => 0 | 124 => 88 | 21 => 21 | 105 => 96 | 46 => 104 | 119 => 105 | 139 => 108 | 138 => 107 | n => n, fun | 3 => 0 | 4 => 1 | n => n⟩
theorem Tryd.lays160 : Go.Proofs.Lays.n160 Tryd.prog Tryd.lays160_ren := {
  mixed := by kernel_rfl
  f119 := Tryd.func72.trans (congrArg some (by kernel_rfl))
  f120 := Tryd.func69.trans (congrArg some (by kernel_rfl))
  f137 := Tryd.func71.trans (congrArg some (by kernel_rfl))
  f151 := Tryd.func61.trans (congrArg some (by kernel_rfl))
  f152 := Tryd.func68.trans (congrArg some (by kernel_rfl))
  f160 := Tryd.func36.trans (congrArg some (by kernel_rfl))
  f197 := Tryd.func60.trans (congrArg some (by kernel_rfl))
  f217 := Tryd.func76.trans (congrArg some (by kernel_rfl))
  f224 := Tryd.func73.trans (congrArg some (by kernel_rfl))
  f225 := Tryd.func74.trans (congrArg some (by kernel_rfl))
  f227 := Tryd.func48.trans (congrArg some (by kernel_rfl))
  f228 := Tryd.func59.trans (congrArg some (by kernel_rfl))
  f231 := Tryd.func46.trans (congrArg some (by kernel_rfl))
  f232 := Tryd.func47.trans (congrArg some (by kernel_rfl))
  f233 := Tryd.func49.trans (congrArg some (by kernel_rfl))
  f234 := Tryd.func50.trans (congrArg some (by kernel_rfl))
  f235 := Tryd.func51.trans (congrArg some (by kernel_rfl))
  f236 := Tryd.func52.trans (congrArg some (by kernel_rfl))
  f260 := Tryd.func67.trans (congrArg some (by kernel_rfl))
  f266 := Tryd.func77.trans (congrArg some (by kernel_rfl))
  f271 := Tryd.func62.trans (congrArg some (by kernel_rfl))
  t0 := Tryd.underlying0
  a0 := Tryd.isAgg0
  z0 := Tryd.sizeOf0
  v0 := Tryd.zeroValue0
  t3 := Tryd.underlying3
  a3 := Tryd.isAgg3
  z3 := Tryd.sizeOf3
  v3 := Tryd.zeroValue3
  t4 := Tryd.underlying4
  a4 := Tryd.isAgg4
  z4 := Tryd.sizeOf4
  v4 := Tryd.zeroValue4
  t5 := Tryd.underlying5
  a5 := Tryd.isAgg5
  z5 := Tryd.sizeOf5
  v5 := Tryd.zeroValue5
  t9 := Tryd.underlying9
  a9 := Tryd.isAgg9
  z9 := Tryd.sizeOf9
  v9 := Tryd.zeroValue9
  t21 := Tryd.underlying21
  a21 := Tryd.isAgg21
  z21 := Tryd.sizeOf21
  v21 := Tryd.zeroValue21
  t46 := Tryd.underlying104
  a46 := Tryd.isAgg104
  z46 := Tryd.sizeOf104
  v46 := Tryd.zeroValue104
  t105 := Tryd.underlying96
  a105 := Tryd.isAgg96
  z105 := Tryd.sizeOf96
  v105 := Tryd.zeroValue96
  t116 := Tryd.underlying84
  a116 := Tryd.isAgg84
  z116 := Tryd.sizeOf84
  t117 := Tryd.underlying85
  a117 := Tryd.isAgg85
  z117 := Tryd.sizeOf85
  v117 := Tryd.zeroValue85
  t119 := Tryd.underlying105
  a119 := Tryd.isAgg105
  z119 := Tryd.sizeOf105
  t124 := Tryd.underlying88
  a124 := Tryd.isAgg88
  z124 := Tryd.sizeOf88
  v124 := Tryd.zeroValue88
  t138 := Tryd.underlying107
  a138 := Tryd.isAgg107
  z138 := Tryd.sizeOf107
  v138 := Tryd.zeroValue107
  t139 := Tryd.underlying108
  a139 := Tryd.isAgg108
  z139 := Tryd.sizeOf108
  v139 := Tryd.zeroValue108
  g3 := by kernel_rfl
  g4 := by kernel_rfl }
open Go.RowKit in
/-- strings.Trim: "Trim returns a slice of the string s with all leading and trailing Unicode code points contained in cutset removed.": AT A cutset OF ONE ASCII BYTE. THE WORLD BEHIND IT: as it was, or (where s is not empty) with ONE DRAW MORE off the tape: the statement 'return trimLeftByte(trimRightByte(s, c), c)' draws its order of evaluation. (LAID: no walk: one application.) -/
theorem Tryd.strings_Trim_one (s : ByteArray) (c : UInt8) (hc : c.toNat < 128) (w : World) (hs : s.size ≤ 9223372036854775807) :
    Calls Tryd.prog 36 #[.string s, .string ⟨#[c]⟩] w fun e w' => e = .returned (.string ⟨(Lib.trimB s.data.toList c).toArray⟩) ∧ (w' = w ∨ w' = w.drew) := Any.strings_Trim_one Tryd.lays160 s c hc w hs
def Tryd.laysSlE041_ren : Go.Shelf.Ren := ⟨fun | 41 => 54 | n => n, fun | 22 => 30 | 23 => 50 | 4 => 4 | n => n, fun | n => n⟩
theorem Tryd.laysSlE041 : Go.Proofs.SlLaysE0.n41 Tryd.prog Tryd.laysSlE041_ren := {
  mixed := by kernel_rfl
  f41 := ⟨Tryd.f54.name, by decide, Tryd.func54.trans (congrArg some (by kernel_rfl))⟩
  t4 := Tryd.underlying4
  a4 := Tryd.isAgg4
  z4 := Tryd.sizeOf4
  v4 := Tryd.zeroValue4
  t22 := Tryd.underlying30
  a22 := Tryd.isAgg30
  z22 := Tryd.sizeOf30
  v22 := Tryd.zeroValue30 }
end Go.Proofs
end

section
set_option linter.unusedVariables false
set_option linter.unusedSimpArgs false
set_option linter.unusedSectionVars false
set_option linter.unusedVariables false
namespace Go.Proofs
open Go.Shelf Go.RowKit Go.Lib
variable {P : Program} {ρ : Ren}
set_option maxHeartbeats 2000000 in
set_option maxRecDepth 100000 in
/-- slices.Clone of a slice that is not nil, wherever it lies (the kit's proof, at any address). -/
theorem clone_any (L : SlLaysE0.n41 P ρ) (i0 : TypeInfo) (z : Value) (size bytes : Nat) (hi : P.info? (ρ.t 23) = some i0) (hz0 : i0.zero = some z) (hz1 : i0.size = size) (hz2 : i0.bytes = bytes) (hzs : z.cells.size = size) (hsz : 0 < size)
    (ad : Addr) (n c : Nat) (news : List Value) (w : World) (hl : news.length = n * size) (hn : n ≤ maxLen) (hbig : n * bytes ≤ 140737488355328)
    (hc : ∀ j u, news[j]? = some u → w.cell? (ad.add j) = some u) (h1 : ∀ u ∈ news, u.oneCell' = true) :
    Calls P (ρ.f 41) #[.slice (some ad) n c] w fun e w' => ∃ v', e = .returned v' ∧ w'.ownsRow w.heap.size (ρ.t 23) size v' n news ∧ v' ≠ .slice none 0 0 ∧ Below w.heap.size w w' := by
  have mixed := L.mixed; have t4 := L.t4; have a4 := L.a4; have z4 := L.z4; have v4 := L.v4; have t22 := L.t22; have a22 := L.a22; have z22 := L.z22; have v22 := L.v22
  have q22 : ∀ (w : World) (a : Option Addr) (n c n' c' : Nat), (binOp .eql (ρ.t 22) (.slice a n c) (.slice none n' c')).run P w = .ok (.bool a.isNone) w := fun w a n c n' c' => Lib.run_eql_slice_nil w _ _ a n c n' c' L.t22
  have u22 : ∀ w, Sem.run P (underlying (ρ.t 22)) w = .ok (TypeDesc.slice (ρ.t 23)) w := run_underlying t22
  have z23 : ∀ w, (Go.sizeOf (ρ.t 23)).run P w = .ok size w := fun w => by
    simp [Go.sizeOf, typeInfo, hi, hz1]
  have A : Aside (∀ j u, news[j]? = some u → w.cell? (ad.add j) = some u) := hc
  clear hc
  obtain ⟨_, _, FG⟩ := L.f41
  go_enter FG, SlBodyN.n41_ntmps ρ
  go_wp2_with (at_builtin; refine wpList_append_own _ rfl _ _ (ρ.t 22) rfl w.heap.size (ρ.t 23) i0 z size bytes t22 hi hz0 hz1 hz2 hzs hsz _ _ _ rfl (World.ownsRow_made w #[] 0 (Nat.le_refl _) (Nat.zero_le _) (by simp)) ad n c news rfl ?qc1 ?qc2 ?qc3 ?qc4 ?qc5 ?qc6 ?_)
  case qc1 => exact hl
  case qc2 =>
    intro j u hj
    exact Lib.cell?_alloc_some _ (A.out j u hj)
  case qc3 => exact h1
  case qc4 => rw [Nat.zero_add]; exact hn
  case qc5 => rw [Nat.zero_add]; exact hbig
  case qc6 => simp
  intro v' w1 hown hgrow hnil
  go_wp2
  go_ret
  refine ⟨v', rfl, by simpa using hown, ?_, ?_⟩
  · exact hnil
  · exact ((Below.refl _ w).alloc (Nat.le_refl _) _).grown hgrow (by simp) (by intro k hk; simp [Value.ownBlock] at hk; omega)
end Go.Proofs
end

section
set_option linter.unusedVariables false
set_option linter.unusedSimpArgs false
set_option linter.unusedSectionVars false
set_option linter.unusedVariables false
namespace Go.Abs.SA
open Go.Proofs
variable [Tabs]
theorem quiet_below {S : Nat → Nat → Prop} {w w' : World} (h : ∀ b o, S b o → b < w.heap.size) (hb : RowKit.Below w.heap.size w w') : Quiet S w S w' := by
  obtain ⟨h1, h2, h3, h4, h5⟩ := hb
  refine ⟨h1, h2, h3, h4, h5, fun _ _ h => h, fun _ _ h => .inl h, fun b o hbo => ?_⟩
  have := h b o hbo
  omega
theorem rels_two {μ : Nat → G} {S : Nat → Nat → Prop} {w : World} {n : Nat} {v v' : Value} {vs : List Value} (h : Rels μ S w n [.v v, .v v'] vs) : vs = [v, v'] := by
  obtain ⟨h1, h2⟩ := h
  match vs, h1 with
  | [u, u'], _ =>
    have a := (h2 0 (.v v) u rfl rfl).int
    have b := (h2 1 (.v v') u' rfl rfl).int
    rw [a, b]
theorem enters_of {f : Nat} {fn : Func} (hf : Tryd.prog.funcs[f]? = some fn) (hn : fn.name ≠ "runtime.NumGoroutine") (hb : fn.body.isSome = true) : Enters Tryd.prog f := ⟨fn, hf, hn, hb⟩
theorem extY_ok {X : X} (hP : X.P = Tryd.prog) (hX : X.ext = extY) : ExtOk0 X := by
  intro f ys r hr
  rw [hX] at hr
  rw [hP]
  unfold extY at hr
  split at hr
  · rename_i hf
    subst hf
    unfold ext_Trim at hr
    split at hr
    · rename_i s t
      split at hr
      · rename_i hs
        obtain ⟨hs, ht⟩ := hs
        cases hr
        refine ⟨enters_of Tryd.func36 (by decide) rfl, fun μ S w k vs hold htab hx => ?_⟩
        rw [rels_two hx]
        have hT : Calls Tryd.prog 36 #[.string s, .string t] w fun e w' => e = .returned (.string ⟨(Lib.trimS s.data.toList t.data.toList).toArray⟩) ∧ RowKit.Below w.heap.size w w' := by
          rcases ht with rfl | rfl
          · exact Any.strings_Trim_laid Tryd.lays160 (by kernel_rfl) s digS w hs (by decide) (ascii_of_all (by decide))
          · exact Any.strings_Trim_laid Tryd.lays160 (by kernel_rfl) s blaS w hs (by decide) (ascii_of_all (by decide))
        refine hT.mono ?_
        rintro e w' ⟨rfl, hb⟩
        exact ⟨_, S, rfl, quiet_below hold hb, .v _ _ rfl⟩
      · cases hr
    · cases hr
  · cases hr
theorem rels_fs {μ : Nat → G} {S : Nat → Nat → Prop} {w : World} {n : Nat} {x : AV} {vs : List Value} (h : Rels μ S w n [x] vs) : ∃ v, vs = [v] ∧ Rel μ S w n x v := by
  obtain ⟨h1, h2⟩ := h
  match vs, h1 with
  | [u], _ => exact ⟨u, rfl, h2 0 x u rfl rfl⟩
theorem extLY_ok {X : X} (hP : X.P = Tryd.prog) (hX : X.extL = extLY) : ExtLOk X := by
  intro f ys h r h' hr
  rw [hX] at hr
  rw [hP]
  unfold extLY at hr
  split at hr
  · rename_i hf
    subst hf
    unfold extL_Clone at hr
    split at hr
    · rename_i es full
      split at hr
      · rename_i hc
        obtain ⟨hb, he4⟩ := hc
        cases hr
        refine ⟨enters_of Tryd.func54 (by decide) rfl, fun μ S w vs hi hx => ?_⟩
        obtain ⟨v, rfl, hv⟩ := rels_fs hx
        cases hv with
        | fs _ _ _ a cap V h1 h2 h3 h4 h5 =>
        cases a with
        | none =>
          have hes : es = [] := by
            cases es with
            | nil => rfl
            | cons c r =>
              have hc4 := he4 c (List.mem_cons_self ..)
              obtain ⟨x, hx0⟩ : ∃ x, c[0]? = some x := ⟨_, List.getElem?_eq_getElem (by omega)⟩
              obtain ⟨ad, h, _⟩ := h4 0 c 0 x rfl hx0
              cases h
          subst hes
          refine (AnyE.slices_Clone_nil Tryd.laysSlE041 _ _ w).mono ?_
          rintro e w' ⟨rfl, rfl⟩
          obtain ⟨q1, q2, q3⟩ := new_blk hi (w' := w') (fun _ _ => rfl) (Nat.le_refl _) rfl rfl rfl (.arr 50 4 []) .nil (by rintro k sz tot ⟨⟩) ⟨by omega, by simp, .inl ⟨upd_same _ _ _, rfl⟩⟩
          exact ⟨_, _, S, rfl, q1, .slnil _ _ _ _ (by simp) (upd_same _ _ _), q2⟩
        | some ad =>
          have hget : ∀ q, q < es.length * 4 → ∃ c x, es[q / 4]? = some c ∧ c[q % 4]? = some x ∧ c.length = 4 := by
            intro q hq
            have hq4 : q / 4 < es.length := by omega
            have hcl := he4 _ (List.getElem_mem hq4)
            exact ⟨es[q / 4], (es[q / 4])[q % 4]'(by omega), List.getElem?_eq_getElem hq4, List.getElem?_eq_getElem (by omega), hcl⟩
          have hat : ∀ q, q < es.length * 4 → At S w (ad.add q) (V (q / 4) (q % 4)) := by
            intro q hq
            obtain ⟨c, x, g1, g2, g3⟩ := hget q hq
            obtain ⟨ad', ha, hA⟩ := h4 _ c _ x g1 g2
            cases ha
            rw [g3, show q / 4 * 4 + q % 4 = q from by omega] at hA
            exact hA
          obtain ⟨news, hnw⟩ : ∃ news, (List.range (es.length * 4)).map (fun q => V (q / 4) (q % 4)) = news := ⟨_, rfl⟩
          have hnl : news.length = es.length * 4 := by rw [← hnw]; simp
          have hng : ∀ j u, news[j]? = some u → j < es.length * 4 ∧ u = V (j / 4) (j % 4) := by
            intro j u hj
            have hlt : j < es.length * 4 := by rw [← hnl]; exact (List.getElem?_eq_some_iff.1 hj).1
            rw [← hnw, List.getElem?_map, List.getElem?_range hlt] at hj
            exact ⟨hlt, by simpa using hj.symm⟩
          have hone : ∀ u ∈ news, u.oneCell' = true := by
            intro u hu
            obtain ⟨j, hj⟩ := List.getElem?_of_mem hu
            obtain ⟨g1, rfl⟩ := hng j u hj
            exact (hat j g1).2.2
          have hinfo : ∃ i0 : TypeInfo, Tryd.prog.info? 50 = some i0 ∧ ∃ z, i0.zero = some z ∧ i0.size = 4 ∧ i0.bytes = 64 ∧ z.cells.size = 4 := by
            have hh : (Tryd.prog.info? 50).map (fun i => (i.zero, i.size, i.bytes)) = some (some (.agg #[.string ⟨#[]⟩, .string ⟨#[]⟩, .int .i64 0, .slice none 0 0]), 4, 64) := by kernel_rfl
            cases hi : Tryd.prog.info? 50 with
            | none => rw [hi] at hh; cases hh
            | some i0 =>
              rw [hi] at hh
              simp only [Option.map_some, Option.some.injEq, Prod.mk.injEq] at hh
              exact ⟨i0, rfl, _, hh.1, hh.2.1, hh.2.2, rfl⟩
          obtain ⟨i0, y1, z, y2, y3, y4, y5⟩ := hinfo
          refine (clone_any Tryd.laysSlE041 i0 z 4 64 y1 y2 y3 y4 y5 (by omega) ad es.length cap news w hnl (by omega) (by omega) (fun j u hj => by obtain ⟨g1, rfl⟩ := hng j u hj; exact (hat j g1).1) hone).mono ?_
          rintro e w' ⟨v', rfl, hown, hnn, hbel⟩
          obtain ⟨_, ⟨ho, _⟩ | ⟨g, cap', cur, rfl, p1, p2, p3, p4, p5, p6⟩⟩ := hown
          · exact absurd ho hnn
          obtain ⟨b1, b2, b3, b4, b5⟩ := hbel
          have hsame : Same S S w w' := fun b o hb => ⟨hb, b5 b (hi.old b o hb)⟩
          have hh : Holds μ S w 4 es news := ⟨hnl, he4, fun i c j x v g1 g2 g3 => by
            have hj : j < 4 := by rw [← he4 c (List.mem_of_getElem? g1)]; exact (List.getElem?_eq_some_iff.1 g2).1
            obtain ⟨_, rfl⟩ := hng _ _ g3
            rw [show (i * 4 + j) / 4 = i from by omega, show (i * 4 + j) % 4 = j from by omega]
            exact h5 i c j x g1 g2, hone⟩
          obtain ⟨q1, q2, q3⟩ := new_blk hi (w' := w') (fun k hk => b5 k hk) b4 b1 b2 b3 (.arr 50 4 es) (.blk g 4 cap') (by rintro k sz tot ⟨⟩; exact p1) (BlkOk.of_holds (by omega) (upd_same _ _ _) p2 p5 p3 p4 (fun o ho => by have := hi.old _ _ ho; omega) (hh.same hsame) p6)
          have hR := Rel.sl (μ := upd μ 0 (.blk g 4 cap')) (S := S) (w := w') 1 0 0 es.length false g 4 cap' cap' (by omega) (upd_same _ _ _) p3 p4 (by simp) (by simp)
          rw [Nat.zero_mul] at hR
          exact ⟨_, _, S, rfl, q1, hR, q2⟩
      · cases hr
    · cases hr
  · cases hr
end Go.Abs.SA
end

section
set_option linter.unusedVariables false
set_option linter.unusedSimpArgs false
set_option linter.unusedSectionVars false
set_option linter.unusedVariables false
set_option maxRecDepth 100000
namespace Go.Abs.SA
open Go.Proofs
theorem law_walkY {f : FuncId} {args : List AV} {vs : List Value} {W : World} {b : Bool} (hr : pureW XX f args = some (.v (.bool b))) (hx : Rels (fun _ => .nil) (oldS W) W 0 args vs) :
    Calls Tryd.prog f vs.toArray W fun e w' => e = .returned (.bool b) ∧ RowKit.Below W.heap.size W w' := by
  letI : Tabs := ⟨[]⟩
  refine (pureW_ok XX_ok ⟨extY_ok rfl XX_ext, extLY_ok rfl XX_extL⟩ hr (fun _ => .nil) (oldS W) W vs (fun _ _ h => h) (fun p hp => absurd hp (List.not_mem_nil)) hx).mono fun e w' ⟨v, S', he, hq, hR⟩ => ?_
  subst he
  refine ⟨?_, hq.os, hq.tape, hq.output, hq.size, hq.keep⟩
  cases hR
  rfl
theorem returns_both {H : Type} {enc : TypeId × Value → H} {a : Assume} {C : Checked} {os : Os} {f : FuncId} {fn : Func} {s : ChangeSpec} {conds : List PathCond} {apart fresh handsOn again : Bool} {X : World → Array Value → Prop}
    (hX : ∀ (w w' : World) (args : Array Value), w.heap = w'.heap → X w args → X w' args)
    (own : ownKnob C.prog.godebug = none) (started : os.Started) (noInit : C.prog.inits.idxOf? f = none) (hfn : C.prog.funcs[f]? = some fn)
    (witness : ∃ (w : World) (tape : Tape) (i : Input), w.os = os ∧ (w.forCall tape i).Shaped C.prog ∧ i.vars = [] ∧ Input.okWide C.prog (w.forCall tape i) .any w.heap.size f i ∧
      ((s.pre enc C.prog fn conds apart (w.forCall tape i).memory i.args ∧ X (w.forCall tape i).memory i.args) ∧ sizedMet enc C.prog fn (OpenSpec.ofChange s) apart (w.forCall tape i).memory i.args) ∧ a.holds C.prog (lone (Frame.enter C.prog f i.args .normal) [] (w.forCall tape i)))
    (contract : ∀ (W : World) (base : Nat) (args : Array Value) (ds gs : List (DataW H)) (before : List MemPlace),
      (∀ (j : Nat) t v, fn.params[j]? = some t → args[j]? = some v → Value.okWide C.prog W .any base t v) →
      DataW.Whole enc C.prog fn.params.toList s.vars apart W args.toList ds gs before →
      conds.all (PathCond.test C.prog ⟨fn.params.toList, ds, s.plain.varTypes C.prog, gs⟩) = true →
      (DataW.weightsEach C.prog (fn.params.toList ++ s.plain.varTypes C.prog) (ds ++ gs)).all (· ≤ reachBytes) = true → X W args → W.ShapedOpen C.prog →
      a.holds C.prog (lone (Frame.enter C.prog f args .normal) [] W) →
      Calls C.prog f args W fun e W' => ∃ v, e = .returned v ∧ s.post enc C.prog fn apart fresh handsOn again W args v W') :
    ReturnsInHanded a C os f .any (fun w args => (s.pre enc C.prog fn conds apart w args ∧ X w args) ∧ sizedMet enc C.prog fn (OpenSpec.ofChange s) apart w args) (s.post enc C.prog fn apart fresh handsOn again) := by
  refine returnsInHanded_of_calls own started noInit witness ?_
  intro w tape i _ hsh _ hok hpre hholds
  obtain ⟨_, _, _, fn', hfn', _, _, _, _, hval⟩ := hok
  have e : fn' = fn := Option.some.inj (hfn'.symm.trans hfn)
  subst e
  obtain ⟨⟨⟨ds, gs, before, hw, hc⟩, hx⟩, hz⟩ := hpre
  have hw' := DataW.Whole.of_heap (w' := w.forCall tape i) (by rfl) hw
  refine (contract (w.forCall tape i) w.heap.size i.args ds gs before hval hw' hc (hz.weights hw) (hX _ _ _ (by rfl) hx) hsh hholds).mono fun e W' ⟨v, he, hp⟩ => ?_
  subst he
  exact ChangeSpec.post_blind hp
/-- The tables that a row lists. -/
abbrev laidY : List (String × DataW Unit) := [("unicode/utf8.acceptRanges", Go.Proofs.YtmjhgjgfinhiaaaDoor.Rows.laid_unicode_utf8_acceptRanges), ("unicode/utf8.first", Go.Proofs.YtmjhgjgfinhiaaaDoor.Rows.laid_unicode_utf8_first)]
theorem door_met (os : Os) (args : Array Value) : laidMetH Tryd.prog laidY ((World.laidAll Tryd.prog os laidY).forCall (fun _ _ => 0) ⟨#[], args, []⟩).memory := by
  rw [MakeChecks.laidMetH_plain _ _ _ (by kernel_rfl)]
  exact laidMet_laidAll _ (by kernel_rfl) (by kernel_rfl)
theorem ownY : ownKnob Tryd.prog.godebug = none := by kernel_rfl
theorem laidOutY : laidOutB Tryd.prog = true := by kernel_rfl
end Go.Abs.SA
end
