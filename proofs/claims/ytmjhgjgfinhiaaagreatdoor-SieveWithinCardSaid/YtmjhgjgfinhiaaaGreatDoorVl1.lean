/- YtmjhgjgfinhiaaaGreatDoorVl1: a part of the interpreter by which the claim is shown, and of the walks: no conditions of its own: every theorem states its own. -/
import Derived.Test.YtmjhgjgfinhiaaaGreatDoorVr2
import Derived.Test.YtmjhgjgfinhiaaaGreatDoorRows
import Derived.WalkKit
import Derived.ProofKit
import Derived.OpenShut
import Derived.ShutString
import Derived.ChangeOld
import Derived.Below
import Derived.SizedLaws
import Derived.LaidMore
import Derived.Stop.Joined
import Derived.Stop.LaidErr
import Derived.Shelf.Vars
import Derived.Lib.LaidTab
import Derived.Lay
set_option linter.unusedVariables false
set_option linter.unusedSimpArgs false
set_option linter.unusedSectionVars false
set_option maxRecDepth 100000
section
namespace Go.Abs.SA
open Go.Proofs
theorem law_walkZ {f : FuncId} {args : List AV} {vs : List Value} {W : World} {b : Bool} (h0 : ∃ m, W.cell? ⟨2, 0, none⟩ = some (.int .i64 m)) (hr : pureW XX f args = some (.v (.bool b))) (hx : Rels (fun _ => .nil) (oldS W) W 0 args vs) :
    Calls Tryz.prog f vs.toArray W fun e w' => e = .returned (.bool b) ∧ RowKit.Below W.heap.size W w' := by
  obtain ⟨m, h0⟩ := h0
  have hc : ∃ cs e k, W.heap[2]? = some (.cells cs e k) ∧ cs[0]? = some (.int .i64 m) := by
    unfold World.cell? at h0
    simp only at h0
    split at h0
    · rename_i c e k hh
      exact ⟨c, e, k, hh, by simpa using h0⟩
    · cases h0
  obtain ⟨cs, e0, k0, g1, g2⟩ := hc
  letI : Tabs := ⟨[(2, cs)]⟩
  have hT : TabOk (oldS W) W := by
    intro p hp
    obtain rfl : p = (2, cs) := by simpa using (show p ∈ [(2, cs)] from hp)
    exact ⟨⟨e0, k0, g1⟩, fun o _ => (Array.getElem?_eq_some_iff.1 g1).1⟩
  have hm0 : (2, cs) ∈ Tabs.l := List.mem_cons_self ..
  refine (pureW_ok XX_ok ⟨extY_ok rfl XX_ext m ⟨cs, hm0, g2⟩, extLY_ok rfl XX_extL⟩ hr (fun _ => .nil) (oldS W) W vs (fun _ _ h => h) hT hx).mono fun e w' ⟨v, S', he, hq, hR⟩ => ?_
  subst he
  refine ⟨?_, hq.os, hq.tape, hq.output, hq.size, hq.keep⟩
  cases hR
  rfl
theorem max_of_shape {W : World} (h : W.ShapedOpen Tryz.prog) : ∃ m, W.cell? ⟨2, 0, none⟩ = some (.int .i64 m) :=
  Go.Proofs.cell_of_shapedOpen_int (zero := #[.int .i64 0]) (t := 3) h (of_decide_eq_true (by kernel_rfl)) (by kernel_rfl) rfl (by kernel_rfl) (by kernel_rfl) Tryz.underlying3
theorem returns_both {H : Type} {enc : TypeId × Value → H} {a : Assume} {C : Checked} {os : Os} {f : FuncId} {fn : Func} {s : ChangeSpec} {conds : List PathCond} {apart fresh handsOn again : Bool} {X : World → Array Value → Prop}
    (hX : ∀ (w w' : World) (args : Array Value), w.heap = w'.heap → X w args → X w' args)
    (own : ownKnob C.prog.godebug = none) (started : os.Started) (noInit : C.prog.inits.idxOf? f = none) (hfn : C.prog.funcs[f]? = some fn)
    (witness : ∃ (w : World) (tape : Tape) (i : Input), w.os = os ∧ (w.forCall tape i).Shaped C.prog ∧ i.vars = [] ∧ Input.okWide C.prog (w.forCall tape i) .any w.heap.size f i ∧
      ((s.pre enc C.prog fn conds apart (w.forCall tape i).memory i.args ∧ X (w.forCall tape i).memory i.args) ∧ sizedMet enc C.prog fn (OpenSpec.ofChange s) apart (w.forCall tape i).memory i.args) ∧ a.holds C.prog (lone (Frame.enter C.prog f i.args .normal) [] (w.forCall tape i)))
    (contract : ∀ (W : World) (base : Nat) (args : Array Value) (ds gs : List (DataW H)) (before : List MemPlace),
      (∀ (j : Nat) t v, fn.params[j]? = some t → args[j]? = some v → Value.okWide C.prog W .any base t v) →
      DataW.Whole enc C.prog fn.params.toList s.vars apart W args.toList ds gs before →
      conds.all (PathCond.test C.prog ⟨fn.params.toList, ds, s.plain.varTypes C.prog, gs⟩) = true →
      (DataW.weightsEach C.prog (fn.params.toList ++ s.plain.varTypes C.prog) (ds ++ gs)).all (· ≤ reachBytes) = true → X W args → W.ShapedOpen C.prog →
      a.holds C.prog (lone (Frame.enter C.prog f args .normal) [] W) →
      Calls C.prog f args W fun e W' => ∃ v, e = .returned v ∧ s.post enc C.prog fn apart fresh handsOn again W args v W') :
    ReturnsInHanded a C os f .any (fun w args => (s.pre enc C.prog fn conds apart w args ∧ X w args) ∧ sizedMet enc C.prog fn (OpenSpec.ofChange s) apart w args) (s.post enc C.prog fn apart fresh handsOn again) := by
  refine returnsInHanded_of_calls own started noInit witness ?_
  intro w tape i _ hsh _ hok hpre hholds
  obtain ⟨_, _, _, fn', hfn', _, _, _, _, hval⟩ := hok
  have e : fn' = fn := Option.some.inj (hfn'.symm.trans hfn)
  subst e
  obtain ⟨⟨⟨ds, gs, before, hw, hc⟩, hx⟩, hz⟩ := hpre
  have hw' := DataW.Whole.of_heap (w' := w.forCall tape i) (by rfl) hw
  refine (contract (w.forCall tape i) w.heap.size i.args ds gs before hval hw' hc (hz.weights hw) (hX _ _ _ (by rfl) hx) hsh hholds).mono fun e W' ⟨v, he, hp⟩ => ?_
  subst he
  exact ChangeSpec.post_blind hp
abbrev laidY : List (String × DataW Unit) := [("unicode/utf8.acceptRanges", Go.Proofs.YtmjhgjgfinhiaaaGreatDoor.Rows.laid_unicode_utf8_acceptRanges), ("unicode/utf8.first", Go.Proofs.YtmjhgjgfinhiaaaGreatDoor.Rows.laid_unicode_utf8_first)]
theorem door_met (os : Os) (args : Array Value) : laidMetH Tryz.prog laidY ((World.laidAll Tryz.prog os laidY).forCall (fun _ _ => 0) ⟨#[], args, []⟩).memory := by
  rw [MakeChecks.laidMetH_plain _ _ _ (by kernel_rfl)]
  exact laidMet_laidAll _ (by kernel_rfl) (by kernel_rfl)
theorem ownY : ownKnob Tryz.prog.godebug = none := by kernel_rfl
theorem laidOutY : laidOutB Tryz.prog = true := by kernel_rfl
end Go.Abs.SA
end
