/- YtmjhgjgfinhiaaaGreatDoorVa3: a part of the interpreter by which the claim is shown, and of the walks: no conditions of its own: every theorem states its own. -/
import Derived.Test.YtmjhgjgfinhiaaaGreatDoorXa2
import Derived.IntWalk
import Derived.Laws.Strings
import Derived.DataReads
import Derived.SizedLaws
import Derived.WideShapes
import Derived.Below
set_option linter.unusedVariables false
set_option linter.unusedSimpArgs false
set_option linter.unusedSectionVars false
section
attribute [go_sem_proc] Nat.reduceAdd Nat.reduceSub Nat.reduceMul Nat.reduceLeDiff Nat.reduceEqDiff Nat.reduceLT Nat.reduceBEq Nat.reduceBNe Nat.reducePow
attribute [go_sem_proc ↓] reduceIte
namespace Go.Abs
universe u v
class Bx {α : Sort u} {β : Sort v} (a : α) (b : β) : Type where
instance {α : Sort u} {β : Sort v} (a : α) (b : β) : Bx a b := ⟨⟩
theorem nr {α : Sort u} {a b : α} (h : a = b) : a = b := by cases h; exact Eq.symm (Eq.symm (Eq.refl a))
def WP (X : X) (f : FuncId) (c : Code) (s : St) (Q : Ex → St → Prop) [Bx c Q] : Prop := ∃ e s', codeW X f c s = some (e, s') ∧ Q e s'
def WR (X : X) (f : FuncId) (ops : Array Oper) (l : List Oper) (s : St) (Q : St → Prop) [Bx (ops, l) Q] : Prop := ∃ s', runOps X (orW X) f ops l s = some s' ∧ Q s'
def WD (X : X) (f : FuncId) (lm : Nat) (cls : List Nat) (ops : Array Oper) (l : List (Oper × Nat)) (s : St) (Q : St → Prop) [Bx (ops, l) Q] : Prop := ∃ s', runDrawn X (orW X) f lm cls ops l s = some s' ∧ Q s'
def Is {α : Type} (x : Option α) (Q : α → Prop) [Bx Q ()] : Prop := ∃ r, x = some r ∧ Q r
def Thn (X : X) (f : FuncId) (b : Code) (Q : Ex → St → Prop) (e : Ex) (s : St) : Prop := match e with
  | .normal => WP X f b s Q
  | e => Q e s
def Blq (id : Nat) (Q : Ex → St → Prop) (e : Ex) (s : St) : Prop := match e with
  | .exit k => if k = id then Q .normal s else Q (.exit k) s
  | e => Q e s
def CondP (c : AV) (A B : Prop) [Bx A B] : Prop := match c with
  | .v (.bool true) => A
  | .v (.bool false) => B
  | _ => False
theorem WP_congr {X : X} {f : FuncId} {c : Code} {s s' : St} {Q : Ex → St → Prop} [Bx c Q] (h : s = s') : WP X f c s Q = WP X f c s' Q := by rw [h]
theorem Is_congr {α : Type} {x x' : Option α} {Q : α → Prop} [Bx Q ()] (h : x = x') : Is x Q = Is x' Q := by rw [h]
theorem CondP_congr {c c' : AV} {A B : Prop} [Bx A B] (h : c = c') : CondP c A B = CondP c' A B := by rw [h]
attribute [congr] WP_congr Is_congr CondP_congr
variable {X : X} {f : FuncId}
theorem Is_some {α : Type} (x : α) (Q : α → Prop) : Is (some x) Q = Q x := by simp [Is]
theorem Is_bind {α β : Type} (x : Option α) (g : α → Option β) (Q : β → Prop) : Is (x.bind g) Q = Is x fun y => Is (g y) Q := by
  cases x <;> simp [Is]
theorem Is.mono {α : Type} {x : Option α} {Q R : α → Prop} (h : Is x Q) (k : ∀ y, Q y → R y) : Is x R := let ⟨r, h1, h2⟩ := h; ⟨r, h1, k r h2⟩
theorem Condp_true (A B : Prop) : CondP (.v (.bool true)) A B = A := nr rfl
theorem Condp_false (A B : Prop) : CondP (.v (.bool false)) A B = B := nr rfl
theorem WP.mono {c : Code} {s : St} {Q R : Ex → St → Prop} (h : WP X f c s Q) (k : ∀ e s, Q e s → R e s) : WP X f c s R :=
  let ⟨e, s', h1, h2⟩ := h; ⟨e, s', h1, k e s' h2⟩
theorem ex2 {α β : Type} {a : α} {b : β} {Q : α → β → Prop} : (∃ e s', some (a, b) = some (e, s') ∧ Q e s') ↔ Q a b :=
  ⟨fun ⟨e, s', h, q⟩ => by cases h; exact q, fun q => ⟨_, _, rfl, q⟩⟩
theorem WP_skip (s : St) (Q : Ex → St → Prop) : WP X f .skip s Q = Q .normal s := by simp only [WP, codeW, ex2]
theorem WP_exit (id : Nat) (s : St) (Q : Ex → St → Prop) : WP X f (.exit id) s Q = Q (.exit id) s := by simp only [WP, codeW, ex2]
theorem WP_ret (s : St) (Q : Ex → St → Prop) : WP X f .ret s Q = Q .ret s := by simp only [WP, codeW, ex2]
theorem WP_region (id : Nat) (ops : Array Oper) (s : St) (Q : Ex → St → Prop) : WP X f (.region id ops false) s Q = WR X f ops ops.toList s (Q .normal) := by
  unfold WP WR
  simp only [codeW, Bool.false_eq_true, if_false, Option.map_eq_some_iff, eq_iff_iff]
  constructor
  · rintro ⟨e, s', ⟨a, h1, h2⟩, h3⟩; cases h2; exact ⟨_, h1, h3⟩
  · rintro ⟨s', h1, h2⟩; exact ⟨_, _, ⟨_, h1, rfl⟩, h2⟩
theorem WP_regionD (id : Nat) (ops : Array Oper) (s : St) (Q : Ex → St → Prop) : WP X f (.region id ops true) s Q = WD X f s.h.length (X.cls f id) ops ops.toList.zipIdx (rsv (X.cls f id) s) (Q .normal) := by
  unfold WP WD
  simp only [codeW, if_true, Option.map_eq_some_iff, eq_iff_iff]
  constructor
  · rintro ⟨e, s', ⟨a, h1, h2⟩, h3⟩; cases h2; exact ⟨_, h1, h3⟩
  · rintro ⟨s', h1, h2⟩; exact ⟨_, _, ⟨_, h1, rfl⟩, h2⟩
theorem WP_seq (a b : Code) (s : St) (Q : Ex → St → Prop) : WP X f (.seq a b) s Q = WP X f a s (Thn X f b Q) := by
  unfold WP
  simp only [codeW, eq_iff_iff]
  cases h : codeW X f a s with
  | none => simp
  | some q =>
    obtain ⟨e, s'⟩ := q
    cases e <;> simp only [ex2, Thn, WP]
theorem Thn_normal (b : Code) (s : St) (Q : Ex → St → Prop) : Thn X f b Q .normal s = WP X f b s Q := nr rfl
theorem Thn_exit (id : Nat) (b : Code) (s : St) (Q : Ex → St → Prop) : Thn X f b Q (.exit id) s = Q (.exit id) s := nr rfl
theorem Thn_ret (b : Code) (s : St) (Q : Ex → St → Prop) : Thn X f b Q .ret s = Q .ret s := nr rfl
theorem WP_block (id : Nat) (b : Code) (s : St) (Q : Ex → St → Prop) : WP X f (.block id b) s Q = WP X f b s (Blq id Q) := by
  unfold WP
  simp only [codeW, eq_iff_iff]
  cases h : codeW X f b s with
  | none => simp
  | some q =>
    obtain ⟨e, s'⟩ := q
    cases e with
    | normal => simp only [ex2, Blq]
    | ret => simp only [ex2, Blq]
    | exit k =>
      by_cases hk : k = id
      · simp only [ex2, Blq, hk, if_true]
      · simp only [ex2, Blq, hk, if_false]
theorem Blq_normal (id : Nat) (s : St) (Q : Ex → St → Prop) : Blq id Q .normal s = Q .normal s := nr rfl
theorem Blq_ret (id : Nat) (s : St) (Q : Ex → St → Prop) : Blq id Q .ret s = Q .ret s := nr rfl
theorem Blq_exit (id k : Nat) (s : St) (Q : Ex → St → Prop) : Blq id Q (.exit k) s = if k = id then Q .normal s else Q (.exit k) s := nr rfl
theorem WP_cond (c : Operand) (a b : Code) (s : St) (Q : Ex → St → Prop) : WP X f (.cond c a b) s Q = CondP (ev s c) (WP X f a s Q) (WP X f b s Q) := by
  unfold WP CondP
  simp only [codeW]
  generalize ev s c = q
  split
  · rfl
  · rfl
  · rename_i h1 h2
    refine propext ⟨fun ⟨_, _, h, _⟩ => (by cases h), fun h => ?_⟩
    split at h
    · exact (h1 rfl).elim
    · exact (h2 rfl).elim
    · exact h.elim
theorem WP_loop {α : Type} (S : α → St) (m : α → Nat) (I : α → Prop) (a0 : α) {b : Code} {s : St} {Q : Ex → St → Prop}
    (h0 : trimA X f (firstRid b) s.h.length s = some (S a0)) (hI : I a0)
    (hs : ∀ a, I a → WP X f b (S a) fun e s' => match e with
      | .normal => ∃ a', trimA X f (firstRid b) s.h.length s' = some (S a') ∧ I a' ∧ m a' < m a
      | e => Q e s') : WP X f (.loop b) s Q := by
  have key : ∀ n a, m a < n → I a → ∀ s1, trimA X f (firstRid b) s.h.length s1 = some (S a) → ∃ k r, iter (fun s' => (trimA X f (firstRid b) s.h.length s').bind (codeW X f b)) k s1 = some r ∧ Q r.1 r.2 := by
    intro n
    induction n with
    | zero => intro a h; omega
    | succ n ih =>
      intro a hm hI s1 ht
      obtain ⟨e, s', h1, h2⟩ := hs a hI
      cases e with
      | normal =>
        obtain ⟨a', h3, h4, h5⟩ := h2
        obtain ⟨k, r, h6, h7⟩ := ih a' (by omega) h4 s' h3
        exact ⟨k + 1, r, by simp only [iter, ht, Option.bind_some, h1]; exact h6, h7⟩
      | exit id => exact ⟨1, (.exit id, s'), by simp only [iter, ht, Option.bind_some, h1], h2⟩
      | ret => exact ⟨1, (.ret, s'), by simp only [iter, ht, Option.bind_some, h1], h2⟩
  obtain ⟨k, r, h1, h2⟩ := key (m a0 + 1) a0 (Nat.lt_succ_self _) hI s h0
  exact ⟨r.1, r.2, by simp only [codeW]; exact iterW_iff.2 ⟨k, h1⟩, h2⟩
theorem WP_loopR {α : Type} (rid n : Nat) (S : α → St) (m : α → Nat) (I : α → Prop) (a0 : α) {b : Code} {s : St} {Q : Ex → St → Prop}
    (hr : firstRid b = rid) (hn : s.h.length = n)
    (h0 : trimA X f rid n s = some (S a0)) (hI : I a0)
    (hs : ∀ a, I a → WP X f b (S a) fun e s' => match e with
      | .normal => ∃ a', trimA X f rid n s' = some (S a') ∧ I a' ∧ m a' < m a
      | e => Q e s') : WP X f (.loop b) s Q := by
  subst hr hn
  exact WP_loop S m I a0 h0 hI hs
theorem WP_range (rid n : Nat) (len : Nat) (S : Nat → St) (I : Nat → Prop) {b : Code} {s : St} {Q : Ex → St → Prop}
    (hr : firstRid b = rid) (hn : s.h.length = n)
    (h0 : trimA X f rid n s = some (S 0)) (hI : I 0)
    (hs : ∀ i, i < len → I i → WP X f b (S i) fun e s' => match e with
      | .normal => trimA X f rid n s' = some (S (i + 1)) ∧ I (i + 1)
      | e => Q e s')
    (he : I len → WP X f b (S len) fun e s' => match e with
      | .normal => False
      | e => Q e s') : WP X f (.loop b) s Q := by
  refine WP_loopR rid n S (fun i => len - i) (fun i => i ≤ len ∧ I i) 0 hr hn h0 ⟨Nat.zero_le _, hI⟩ ?_
  rintro i ⟨hi, hIi⟩
  by_cases h : i < len
  · refine (hs i h hIi).mono ?_
    intro e s' hq
    cases e with
    | normal => exact ⟨i + 1, hq.1, ⟨by omega, hq.2⟩, by omega⟩
    | exit id => exact hq
    | ret => exact hq
  · have : i = len := by omega
    subst this
    refine (he hIi).mono ?_
    intro e s' hq
    cases e with
    | normal => exact hq.elim
    | exit id => exact hq
    | ret => exact hq
theorem WR_nil (ops : Array Oper) (s : St) (Q : St → Prop) : WR X f ops [] s Q = Q s := by simp [WR, runOps]
theorem WR_cons (ops : Array Oper) (dst : Option Nat) (op : Op) (ty : TypeId) (pos : String) (after : Array Edge) (r : List Oper) (s : St) (Q : St → Prop) :
    WR X f ops (⟨dst, op, ty, pos, after, none⟩ :: r) s Q = Is (opA X (orW X) f none ⟨dst, op, ty, pos, after, none⟩ s) fun x => WR X f ops r (doRes s dst x) Q := by
  unfold WR Is
  simp only [runOps, stepOp, guardA, eq_iff_iff]
  cases h : opA X (orW X) f none ⟨dst, op, ty, pos, after, none⟩ s <;> simp
theorem WR_guard (ops : Array Oper) (dst : Option Nat) (op : Op) (ty : TypeId) (pos : String) (after : Array Edge) (j : Nat) (want : Bool) (r : List Oper) (s : St) (Q : St → Prop) :
    WR X f ops (⟨dst, op, ty, pos, after, some (j, want)⟩ :: r) s Q = Is (guardA ops ⟨dst, op, ty, pos, after, some (j, want)⟩ s) fun b =>
      if b = true then Is (opA X (orW X) f none ⟨dst, op, ty, pos, after, some (j, want)⟩ s) fun x => WR X f ops r (doRes s dst x) Q else WR X f ops r (put s dst (.tup [])) Q := by
  unfold WR Is
  simp only [runOps, stepOp, eq_iff_iff]
  cases h : guardA ops ⟨dst, op, ty, pos, after, some (j, want)⟩ s with
  | none => simp
  | some b => cases b with
    | false => simp
    | true => cases h : opA X (orW X) f none ⟨dst, op, ty, pos, after, some (j, want)⟩ s <;> simp
def drawRes (s : St) (d : Option Nat) : Nat → Res → Option St
  | 0, .val x => some (put s d x)
  | 0, _ => none
  | 1, .val x => some (put s d x)
  | 1, .new x bs => some (put { s with h := s.h ++ bs } d x)
  | 1, _ => none
  | _, r => some (doRes s d r)
theorem drawRes_0 (s : St) (d : Option Nat) (x : AV) : drawRes s d 0 (.val x) = some (put s d x) := nr rfl
theorem drawRes_1v (s : St) (d : Option Nat) (x : AV) : drawRes s d 1 (.val x) = some (put s d x) := nr rfl
theorem drawRes_1n (s : St) (d : Option Nat) (x : AV) (bs : List Blk) : drawRes s d 1 (.new x bs) = some (put { s with h := s.h ++ bs } d x) := nr rfl
theorem drawRes_2 (s : St) (d : Option Nat) (r : Res) : drawRes s d 2 r = some (doRes s d r) := nr rfl
noncomputable def drawOp (X : Abs.X) (f : FuncId) (lm : Nat) (cls : List Nat) (i : Nat) (c : Nat) (o : Oper) (s : St) : Option St :=
  match c with
    | 0 => match opA X (orW X) f none o ⟨s.t, s.h.take lm⟩ with
      | some (.val x) => some (put s o.dst x)
      | _ => none
    | 1 => match opA X (orW X) f none o s with
      | some (.val x) => some (put s o.dst x)
      | some (.new x bs) => some (put { s with h := s.h ++ bs } o.dst x)
      | _ => none
    | 3 => match opA X (orW X) f none o ⟨s.t, []⟩ with
      | some (.val x) => some (put s o.dst x)
      | _ => none
    | 4 => (stA X s o none).map fun h => put ⟨s.t, h⟩ o.dst (.tup [])
    | 5 => match o.op with
      | .alloc t => (allocAt X.P s (lm + rank5 cls i) t).map fun r => put ⟨s.t, r.2⟩ o.dst r.1
      | _ => none
    | 6 => (stA X s o (some lm)).map fun h => put ⟨s.t, h⟩ o.dst (.tup [])
    | 7 => match opA X (orW X) f none o ⟨s.t, s.h.take lm⟩ with
      | some (.val x) => if x.lt lm then some (put s o.dst x) else none
      | _ => none
    | 8 => match opA X (orW X) f none o ⟨s.t, []⟩ with
      | some (.val x) => if x.lt lm then some (put s o.dst x) else none
      | _ => none
    | 9 => (stV X s o).map fun h => put ⟨s.t, h⟩ o.dst (.tup [])
    | 10 => (stE X s o).map fun h => put ⟨s.t, h⟩ o.dst (.tup [])
    | 11 => (ixA X s o).map fun x => put s o.dst x
    | 12 => (copyO X s o).map fun r => put ⟨s.t, r.2⟩ o.dst r.1
    | _ => (opA X (orW X) f none o s).map (doRes s o.dst)
section
variable (lm : Nat) (cls : List Nat) (i : Nat) (o : Oper) (s : St)
theorem drawOp_0 : drawOp X f lm cls i 0 o s = (opA X (orW X) f none o ⟨s.t, s.h.take lm⟩).bind (drawRes s o.dst 0) := by
  simp only [drawOp]
  cases opA X (orW X) f none o ⟨s.t, s.h.take lm⟩ with
  | none => rfl
  | some r => cases r <;> rfl
theorem drawOp_1 : drawOp X f lm cls i 1 o s = (opA X (orW X) f none o s).bind (drawRes s o.dst 1) := by
  simp only [drawOp]
  cases opA X (orW X) f none o s with
  | none => rfl
  | some r => cases r <;> rfl
theorem drawOp_2 : drawOp X f lm cls i 2 o s = (opA X (orW X) f none o s).bind (drawRes s o.dst 2) := by
  simp only [drawOp]
  cases opA X (orW X) f none o s with
  | none => rfl
  | some r => rfl
theorem drawOp_3 : drawOp X f lm cls i 3 o s = (opA X (orW X) f none o ⟨s.t, []⟩).bind (drawRes s o.dst 0) := by
  simp only [drawOp]
  cases opA X (orW X) f none o ⟨s.t, []⟩ with
  | none => rfl
  | some r => cases r <;> rfl
def cpK (s : St) (d : Option Nat) (b : Prop) [Decidable b] (r : Option (AV × List Blk)) : Option St := if b then r.map fun r => put ⟨s.t, r.2⟩ d r.1 else none
theorem drawOp_12 (dst : Option Nat) (x y : Operand) (t u : TypeId) (ty : TypeId) (pos : String) (af : Array Edge) (g : Option (Nat × Bool)) : drawOp X f lm cls i 12 ⟨dst, .call ⟨.builtin .copy, #[x, y], #[t, u]⟩, ty, pos, af, g⟩ s = cpK s dst (t = u) (copyA X.P s t (ev s x) (ev s y)) := by
  simp only [drawOp, copyO, cpK]
  split <;> rfl
end
theorem cnt5_nil : cnt5 [] = 0 := nr rfl
theorem cnt5_cons (c : Nat) (l : List Nat) : cnt5 (c :: l) = if c = 5 then cnt5 l + 1 else cnt5 l := by
  unfold cnt5; rw [List.filter_cons]; by_cases h : c = 5 <;> simp [h]
def rsvK (t : List AV) (h : List Blk) : Nat → St
  | 0 => ⟨t, h⟩
  | k + 1 => ⟨t, h ++ List.replicate (k + 1) .dead⟩
theorem rsv_s (cls : List Nat) (t : List AV) (h : List Blk) : rsv cls ⟨t, h⟩ = rsvK t h (cnt5 cls) := by
  unfold rsv rsvK
  cases cnt5 cls <;> simp
theorem rsvK_0 (t : List AV) (h : List Blk) : rsvK t h 0 = ⟨t, h⟩ := nr rfl
theorem WD_nil (lm : Nat) (cls : List Nat) (ops : Array Oper) (s : St) (Q : St → Prop) : WD X f lm cls ops [] s Q = Q s := by simp [WD, runDrawn]
theorem stepD_eq (lm : Nat) (cls : List Nat) (ops : Array Oper) (o : Oper) (i : Nat) (s : St) (hg : guardA ops o s = some true) :
    stepD X (orW X) f lm cls ops o i s = drawOp X f lm cls i (cls.getD i 0) o s := by
  unfold stepD drawOp
  rw [hg]
  rfl
theorem WD_cons (lm : Nat) (cls : List Nat) (ops : Array Oper) (dst : Option Nat) (op : Op) (ty : TypeId) (pos : String) (after : Array Edge) (i : Nat) (r : List (Oper × Nat)) (s : St) (Q : St → Prop) :
    WD X f lm cls ops ((⟨dst, op, ty, pos, after, none⟩, i) :: r) s Q = Is (drawOp X f lm cls i (cls.getD i 0) ⟨dst, op, ty, pos, after, none⟩ s) fun s' => WD X f lm cls ops r s' Q := by
  unfold WD Is
  simp only [runDrawn, eq_iff_iff]
  rw [stepD_eq _ _ _ _ _ _ rfl]
  cases h : drawOp X f lm cls i (cls.getD i 0) ⟨dst, op, ty, pos, after, none⟩ s <;> simp
theorem WD_guard (lm : Nat) (cls : List Nat) (ops : Array Oper) (dst : Option Nat) (op : Op) (ty : TypeId) (pos : String) (after : Array Edge) (j : Nat) (want : Bool) (i : Nat) (r : List (Oper × Nat)) (s : St) (Q : St → Prop) :
    WD X f lm cls ops ((⟨dst, op, ty, pos, after, some (j, want)⟩, i) :: r) s Q = Is (guardA ops ⟨dst, op, ty, pos, after, some (j, want)⟩ s) fun b =>
      if b = true then Is (drawOp X f lm cls i (cls.getD i 0) ⟨dst, op, ty, pos, after, some (j, want)⟩ s) fun s' => WD X f lm cls ops r s' Q else WD X f lm cls ops r (put s dst (.tup [])) Q := by
  unfold WD Is
  simp only [runDrawn, eq_iff_iff]
  cases h : guardA ops ⟨dst, op, ty, pos, after, some (j, want)⟩ s with
  | none => simp [stepD, h]
  | some b => cases b with
    | false => simp [stepD, h]
    | true =>
      rw [stepD_eq _ _ _ _ _ _ h]
      cases h : drawOp X f lm cls i (cls.getD i 0) ⟨dst, op, ty, pos, after, some (j, want)⟩ s <;> simp
theorem bodyW_wp {args : List AV} {h : List Blk} {fn : Func} {c : Code} {R : AV × List Blk → Prop} (hf : X.P.funcs[f]? = some fn) (hb : fn.body = some c) (hn : X.fns.contains f = true)
    (hw : WP X f c ⟨args ++ List.replicate (fn.ntmps - args.length) (.tup []), h⟩ fun e s => match e with
      | .exit _ => False
      | _ => Is (resultsA X.P s fn.results.toList) fun rs => Is (endA X f h.length (oneOr rs, s.h)) R) : Is (bodyW X f args h) R := by
  unfold bodyW
  rw [hf]; dsimp only; rw [hb]; dsimp only; rw [if_pos hn]
  obtain ⟨e, s, h1, h2⟩ := hw
  rw [h1]
  cases e with
  | exit id => exact h2.elim
  | normal => dsimp only at h2 ⊢; rw [Is_bind]; exact h2
  | ret => dsimp only at h2 ⊢; rw [Is_bind]; exact h2
theorem endA_no {n : Nat} {q : AV × List Blk} (h : X.tidy f = false) : endA X f n q = some q := by unfold endA; rw [h]; simp
theorem pureW_wp {args : List AV} {fn : Func} {c : Code} {q : AV} (hf : X.P.funcs[f]? = some fn) (hb : fn.body = some c) (hn : X.fns.contains f = true)
    (hw : WP X f c ⟨args ++ List.replicate (fn.ntmps - args.length) (.tup []), []⟩ fun e s => match e with
      | .exit _ => False
      | _ => Is (resultsA X.P s fn.results.toList) fun rs => frz s.h 6 (oneOr rs) = some q) (hx : extA X f args [] = none := by rfl) (ht : X.tidy f = false := by rfl) : pureW X f args = some q := by
  obtain ⟨⟨r, h'⟩, h1, h2⟩ := bodyW_wp (X := X) (f := f) (args := args) (h := []) (R := fun x => frz x.2 6 x.1 = some q) hf hb hn (hw.mono fun e s hq => by
    cases e with
    | exit id => exact hq
    | normal => dsimp only at hq ⊢; refine hq.mono fun rs h => ?_; rw [endA_no ht]; exact ⟨_, rfl, h⟩
    | ret => dsimp only at hq ⊢; refine hq.mono fun rs h => ?_; rw [endA_no ht]; exact ⟨_, rfl, h⟩)
  exact loud_pureW (bodyW_loud hx h1) h2
theorem loudW_wp {args : List AV} {h : List Blk} {fn : Func} {c : Code} {q : AV × List Blk} (hf : X.P.funcs[f]? = some fn) (hb : fn.body = some c) (hn : X.fns.contains f = true)
    (hw : WP X f c ⟨args ++ List.replicate (fn.ntmps - args.length) (.tup []), h⟩ fun e s => match e with
      | .exit _ => False
      | _ => Is (resultsA X.P s fn.results.toList) fun rs => (oneOr rs, s.h) = q) (hx : extA X f args h = none := by rfl) (ht : X.tidy f = false := by rfl) : loudW X f args h = some q := by
  obtain ⟨r, h1, h2⟩ := bodyW_wp (X := X) (f := f) (args := args) (h := h) (R := fun x => x = q) hf hb hn (hw.mono fun e s hq => by
    cases e with
    | exit id => exact hq
    | normal => dsimp only at hq ⊢; refine hq.mono fun rs h => ?_; rw [endA_no ht]; exact ⟨_, rfl, h⟩
    | ret => dsimp only at hq ⊢; refine hq.mono fun rs h => ?_; rw [endA_no ht]; exact ⟨_, rfl, h⟩)
  subst h2
  exact bodyW_loud hx h1
end Go.Abs
end
section
namespace Go.Abs
variable {X : X} {f : FuncId} {O : Or} {lm : Option Nat} {d : Option Nat} {ty : TypeId} {pos : String} {af : Array Edge} {g : Option (Nat × Bool)} {s : St}
theorem WP_reg (id : Nat) (l : List Oper) (s : St) (Q : Ex → St → Prop) : WP X f (.region id l.toArray false) s Q = WR X f l.toArray l s (Q .normal) := WP_region _ _ _ _
def WE (X : Abs.X) (f : FuncId) (lm : Nat) (cls : List Nat) (ops : Array Oper) (l : List Oper) (i : Nat) (s : St) (Q : St → Prop) [Bx (ops, l) Q] : Prop := WD X f lm cls ops (l.zipIdx i) s Q
theorem WP_regD (id : Nat) (l : List Oper) (s : St) (Q : Ex → St → Prop) : WP X f (.region id l.toArray true) s Q = WE X f s.h.length (X.cls f id) l.toArray l 0 (rsv (X.cls f id) s) (Q .normal) := WP_regionD _ _ _ _
theorem WE_nil (lm : Nat) (cls : List Nat) (ops : Array Oper) (i : Nat) (s : St) (Q : St → Prop) : WE X f lm cls ops [] i s Q = Q s := WD_nil _ _ _ _ _
theorem WE_cons (lm : Nat) (cls : List Nat) (ops : Array Oper) (dst : Option Nat) (op : Op) (ty : TypeId) (pos : String) (after : Array Edge) (i : Nat) (r : List Oper) (s : St) (Q : St → Prop) :
    WE X f lm cls ops (⟨dst, op, ty, pos, after, none⟩ :: r) i s Q = Is (drawOp X f lm cls i (cls.getD i 0) ⟨dst, op, ty, pos, after, none⟩ s) fun s' => WE X f lm cls ops r (i + 1) s' Q :=
  WD_cons _ _ _ _ _ _ _ _ _ _ _ _
theorem WE_guard (lm : Nat) (cls : List Nat) (ops : Array Oper) (dst : Option Nat) (op : Op) (ty : TypeId) (pos : String) (after : Array Edge) (j : Nat) (want : Bool) (i : Nat) (r : List Oper) (s : St) (Q : St → Prop) :
    WE X f lm cls ops (⟨dst, op, ty, pos, after, some (j, want)⟩ :: r) i s Q = Is (guardA ops ⟨dst, op, ty, pos, after, some (j, want)⟩ s) fun b =>
      if b = true then Is (drawOp X f lm cls i (cls.getD i 0) ⟨dst, op, ty, pos, after, some (j, want)⟩ s) fun s' => WE X f lm cls ops r (i + 1) s' Q else WE X f lm cls ops r (i + 1) (put s dst (.tup [])) Q :=
  WD_guard _ _ _ _ _ _ _ _ _ _ _ _ _ _
theorem ev_tmp (t : List AV) (h : List Blk) (k : Nat) : ev ⟨t, h⟩ (.tmp k) = t.getD k (.tup []) := nr rfl
theorem ev_bool (s : St) (b : Bool) : ev s (.const (.bool b)) = .v (.bool b) := nr rfl
theorem ev_int (s : St) (k : IntKind) (n : Int) : ev s (.const (.int k n)) = .v (.int k n) := nr rfl
theorem ev_str (s : St) (x : ByteArray) : ev s (.const (.string x)) = .v (.string x) := nr rfl
theorem ev_nils (s : St) : ev s (.const (.slice none 0 0)) = .fs [] true := nr rfl
theorem ev_func (s : St) (k : Nat) : ev s (.func k) = .fn k [] := nr rfl
theorem getD_zero {α : Type} (x : α) (l : List α) (e : α) : (x :: l).getD 0 e = x := nr rfl
theorem getD_succ {α : Type} (x : α) (l : List α) (n : Nat) (e : α) : (x :: l).getD (n + 1) e = l.getD n e := nr rfl
theorem set_zero {α : Type} (x : α) (l : List α) (e : α) : (x :: l).set 0 e = e :: l := nr rfl
theorem set_succ {α : Type} (x : α) (l : List α) (n : Nat) (e : α) : (x :: l).set (n + 1) e = x :: l.set n e := nr rfl
theorem get_zero {α : Type} (x : α) (l : List α) : (x :: l)[0]? = some x := nr rfl
theorem get_succ {α : Type} (x : α) (l : List α) (n : Nat) : (x :: l)[n + 1]? = l[n]? := nr rfl
theorem doRes_val (t : List AV) (h : List Blk) (d : Nat) (x : AV) : doRes ⟨t, h⟩ (some d) (.val x) = ⟨t.set d x, h⟩ := nr rfl
theorem doRes_new (t : List AV) (h : List Blk) (d : Nat) (x : AV) (bs : List Blk) : doRes ⟨t, h⟩ (some d) (.new x bs) = ⟨t.set d x, h ++ bs⟩ := nr rfl
theorem doRes_st (s : St) (d : Nat) (x : AV) (t : List AV) (h : List Blk) : doRes s (some d) (.st x ⟨t, h⟩) = ⟨t.set d x, h⟩ := nr rfl
theorem doRes_stn (s s' : St) (x : AV) : doRes s none (.st x s') = s' := nr rfl
theorem put_some (t : List AV) (h : List Blk) (d : Nat) (x : AV) : put ⟨t, h⟩ (some d) x = ⟨t.set d x, h⟩ := nr rfl
theorem opA_move (x : Operand) : opA X O f lm ⟨d, .move x, ty, pos, af, g⟩ s = some (.val (ev s x)) := nr rfl
theorem opA_assign_t (k : Nat) : opA X O f lm ⟨d, .assign (.tmp k), ty, pos, af, g⟩ s = some (.val (ev s (.tmp k))) := nr rfl
theorem opA_assign_b (b : Bool) : opA X O f lm ⟨d, .assign (.const (.bool b)), ty, pos, af, g⟩ s = some (.val (.v (.bool b))) := nr rfl
theorem opA_assign_i (k : IntKind) (n : Int) : opA X O f lm ⟨d, .assign (.const (.int k n)), ty, pos, af, g⟩ s = some (.val (.v (.int k n))) := nr rfl
theorem opA_assign_s (b : ByteArray) : opA X O f lm ⟨d, .assign (.const (.string b)), ty, pos, af, g⟩ s = some (.val (.v (.string b))) := nr rfl
theorem opA_assign_p : opA X O f lm ⟨d, .assign (.const (.pointer none)), ty, pos, af, g⟩ s = some (.val (.v (.pointer none))) := nr rfl
def adoptA (P : Program) (ty : TypeId) (n : Nat) : Option Res := match tyOf P ty with
  | some ⟨.slice e, _, _, _⟩ => match tyOf P e with
    | some ie => if ie.size = 0 then none else some (.new (.sl n 0 0 false) [.arr e ie.size []])
    | none => none
  | _ => none
theorem opA_assign_nil (k : Nat) : opA X O f lm ⟨some k, .assign (.const (.slice none 0 0)), ty, pos, af, g⟩ s =
    if (X.adopt f).contains k = true then adoptA X.P ty s.h.length else some (.val (.fs [] true)) := by
  simp only [opA, adopts, isNilSlice, Bool.true_and, adoptA]
  rfl
theorem opA_pick (c a b : Operand) : opA X O f lm ⟨d, .pick c a b, ty, pos, af, g⟩ s = match ev s c with
    | .v (.bool q) => some (.val (if q then ev s a else ev s b))
    | _ => none := nr rfl
def alcR (n : Nat) (ty : Option Nat) (q : List AV × List Blk) : Res := .new (.ptr (n + q.2.length) 0) (q.2 ++ [.var q.1 ty])
theorem alcR_mk (n : Nat) (ty : Option Nat) (z : List AV) (bs : List Blk) : alcR n ty (z, bs) = .new (.ptr (n + bs.length) 0) (bs ++ [.var z ty]) := nr rfl
def alcK (P : Program) (n : Nat) (d : Option Nat) (own : List (Nat × Nat × Nat)) (ty : Option Nat) : Option (List AV) → Option Res
  | some z => (ownA P n z (ownF d own)).map (alcR n ty)
  | none => none
theorem opA_alloc (t : TypeId) : opA X O f lm ⟨d, .alloc t, ty, pos, af, g⟩ s = alcK X.P s.h.length d (X.own f) (tyO X t) (zeroA X.P t) := by
  unfold alcK
  simp only [opA, ownOf]
  cases zeroA X.P t with
  | none => rfl
  | some z => rfl
theorem alcK_nil (P : Program) (n : Nat) (d : Option Nat) (ty : Option Nat) (z : List AV) : alcK P n d [] ty (some z) = some (.new (.ptr n 0) [.var z ty]) := nr rfl
theorem alcK_cons (P : Program) (n d : Nat) (p : Nat × Nat × Nat) (l : List (Nat × Nat × Nat)) (ty : Option Nat) (z : List AV) : alcK P n (some d) (p :: l) ty (some z) = (ownA P n z (ownF (some d) (p :: l))).map (alcR n ty) := nr rfl
theorem ownF_nil (d : Option Nat) : ownF d [] = [] := nr rfl
theorem ownF_cons (d k off e : Nat) (l : List (Nat × Nat × Nat)) : ownF (some d) ((k, off, e) :: l) = if d = k then (k, off, e) :: ownF (some d) l else ownF (some d) l := by
  simp [ownF]
def ownJ (P : Program) (n off e : Nat) (r : List (Nat × Nat × Nat)) (z : List AV) : Option AV → Option TI → Option (List AV × List Blk)
  | some (.fs [] true), some ie => if ie.size = 0 then none else (ownA P (n + 1) (z.set off (.sl n 0 0 false)) r).map fun q => (q.1, .arr e ie.size [] :: q.2)
  | _, _ => none
theorem ownJ_some (P : Program) (n off e : Nat) (r : List (Nat × Nat × Nat)) (z : List AV) (dd : TD) (sz c : Nat) (zz : Option Value) (h : sz ≠ 0) : ownJ P n off e r z (some (.fs [] true)) (some ⟨dd, sz, c, zz⟩) = (ownA P (n + 1) (z.set off (.sl n 0 0 false)) r).map fun q => (q.1, .arr e sz [] :: q.2) := by
  unfold ownJ
  dsimp only
  rw [if_neg h]
theorem ownA_nil (P : Program) (n : Nat) (z : List AV) : ownA P n z [] = some (z, []) := nr rfl
theorem ownA_cons (P : Program) (n k off e : Nat) (r : List (Nat × Nat × Nat)) (z : List AV) : ownA P n z ((k, off, e) :: r) = ownJ P n off e r z z[off]? (tyOf P e) := by
  rw [ownA]
  unfold ownJ
  split
  · rename_i h1 h2
    simp only [h1, h2]
    split
    · rfl
    · cases ownA P (n + 1) (z.set off (.sl n 0 0 false)) r <;> rfl
  · rename_i h
    split
    · rename_i h1 h2
      exact absurd h1 (fun h1 => h _ (by simpa using h1) (by simpa using h2))
    · rfl
theorem opA_box (t : TypeId) (x : Operand) : opA X O f lm ⟨d, .box t x, ty, pos, af, g⟩ s = ((ev s x).cells?).map fun cs => .new (.ptr s.h.length 0) [.var cs] := nr rfl
theorem opA_build (t : TypeId) (parts : List (Nat × Operand)) : opA X O f lm ⟨d, .build t parts.toArray, ty, pos, af, g⟩ s = (bldA X t (parts.map fun p => (p.1, ev s p.2))).map .val := nr rfl
theorem opA_buildSlice (t : TypeId) (len : Nat) (parts : List (Nat × Operand)) : opA X O f lm ⟨d, .buildSlice t len parts.toArray, ty, pos, af, g⟩ s =
    match freeze s (parts.map fun p => ev s p.2) with
    | some (ys, s') =>
      if AV.lts 0 (parts.map fun p => ev s p.2) then (buildSliceA X.P t len ((parts.map (·.1)).zip ys)).map (rowR X.P s.h (tyOf X.P t))
      else (buildSliceA X.P t len ((parts.map (·.1)).zip ys)).map fun r => .st r s'
    | none => none := nr rfl
theorem opA_load (t : TypeId) (a : Operand) : opA X O f lm ⟨d, .load t a, ty, pos, af, g⟩ s = (loadA X.P lm s.h t (ev s a)).map .val := nr rfl
theorem opA_store (t : TypeId) (a x : Operand) : opA X O f lm ⟨d, .store t a x, ty, pos, af, g⟩ s = (storeA X.P s t (ev s a) (ev s x)).map (.st (.tup [])) := nr rfl
theorem opA_nilCheck (x : Operand) : opA X O f lm ⟨d, .nilCheck x, ty, pos, af, g⟩ s = match ev s x with
    | .fp cs => some (.val (.fp cs))
    | .ptr id o => some (.val (.ptr id o))
    | .eptr id i o => some (.val (.eptr id i o))
    | .fn g caps => some (.val (.fn g caps))
    | _ => none := nr rfl
theorem bldA_eq (X : Abs.X) (t : TypeId) (parts : List (Nat × AV)) : bldA X t parts = bif X.nilT t then buildN X.P t parts else buildA X.P t parts := by
  unfold bldA; cases X.nilT t <;> rfl
theorem opA_bin (op : BinOp) (t : TypeId) (x y : Operand) (z : TypeId) : opA X O f lm ⟨d, .binOp op t x y z, ty, pos, af, g⟩ s = (binA X.P op t (ev s x) (evN s y)).map .val := nr rfl
theorem evN_tmp (t : List AV) (h : List Blk) (k : Nat) : evN ⟨t, h⟩ (.tmp k) = t.getD k (.tup []) := nr rfl
theorem evN_int (s : St) (k : IntKind) (n : Int) : evN s (.const (.int k n)) = .v (.int k n) := nr rfl
theorem evN_str (s : St) (x : ByteArray) : evN s (.const (.string x)) = .v (.string x) := nr rfl
theorem evN_nilp (s : St) : evN s (.const (.pointer none)) = .v (.pointer none) := nr rfl
theorem evN_nils (s : St) : evN s (.const (.slice none 0 0)) = .v (.slice none 0 0) := nr rfl
theorem opA_un (op : UnOp) (t : TypeId) (x : Operand) : opA X O f lm ⟨d, .unOp op t x, ty, pos, af, g⟩ s = match ev s x with
    | .v a => (unS op a).map fun b => .val (.v b)
    | _ => none := nr rfl
def cvtR (P : Program) (s : St) (a b : TypeId) (x : AV) : Option Res := if isRow x && a == b then markA P s a x else (convB P s.h a b x).map .val
theorem opA_convert (a b : TypeId) (x : Operand) : opA X O f lm ⟨d, .convert a b x, ty, pos, af, g⟩ s = cvtR X.P s a b (ev s x) := nr rfl
def markK3 (s : St) (id off len : Nat) : Option Blk → Option Res
  | some (.arr _ _ es) => if 0 < len ∧ off = 0 ∧ len = es.length then some (.st (.fs es false) ⟨s.t.map (AV.kill id), (s.h.map (Blk.kill id)).set id .dead⟩) else none
  | _ => none
def markK2 (s : St) (id off len : Nat) : Option TI → Option Res
  | some ie => if ie.d.u8 then markK3 s id off len s.h[id]? else none
  | none => none
def markK (P : Program) (s : St) (id off len : Nat) : Option TI → Option Res
  | some ⟨.slice e, _, _, _⟩ => markK2 s id off len (tyOf P e)
  | _ => none
theorem cvtR_sl (P : Program) (a b : TypeId) (id off len : Nat) (q : Bool) : cvtR P s a b (.sl id off len q) = if (a == b) = true then markK P s id off len (tyOf P a) else (convB P s.h a b (.sl id off len q)).map .val := by
  unfold cvtR markA markK markK2 markK3
  simp only [isRow, Bool.true_and]
  by_cases h : (a == b) = true
  · simp only [h, if_true]
    rcases tyOf P a with _ | ⟨d, n, c, z⟩
    · rfl
    · cases d <;> rfl
  · simp [h]
theorem u8_str : TD.str.u8 = false := nr rfl
theorem u8_struct (l : List (Nat × Nat)) : (TD.struct l).u8 = false := nr rfl
theorem rowR_slice (P : Program) (h : List Blk) (e n c : Nat) (z : Option Value) (y : AV) : rowR P h (some ⟨.slice e, n, c, z⟩) y = rowR2 h e y (tyOf P e) := nr rfl
theorem rowR2_some (h : List Blk) (e : Nat) (dd : TD) (n c : Nat) (z : Option Value) (es : List (List AV)) (b : Bool) : rowR2 h e (.fs es b) (some ⟨dd, n, c, z⟩) = if dd.u8 = true then .new (.sl h.length 0 es.length false) [.arr e n es] else .val (.fs es b) := nr rfl
theorem opA_makeFunc (k : Nat) (cs : List Operand) : opA X O f lm ⟨d, .makeFunc (.func k) #[] cs.toArray, ty, pos, af, g⟩ s = some (.val (.fn k (cs.map (ev s)))) := nr rfl
theorem opA_makeSlice (t : TypeId) (l c : Operand) : opA X O f lm ⟨d, .makeSlice t l c, ty, pos, af, g⟩ s = makeA X.P s t (ev s l) (ev s c) := nr rfl
theorem opA_slice (t : TypeId) (x : Operand) (lo hi mx : Option Operand) : opA X O f lm ⟨d, .slice t x lo hi mx, ty, pos, af, g⟩ s = (sliceA X.P s.h t (ev s x) (lo.map (ev s)) (hi.map (ev s)) (mx.map (ev s))).map .val := nr rfl
theorem opA_fieldAddr (t : TypeId) (x : Operand) (k : Nat) : opA X O f lm ⟨d, .fieldAddr t x k, ty, pos, af, g⟩ s = (fieldA X.P t (ev s x) k).map .val := nr rfl
theorem opA_indexAddr (t : TypeId) (x i : Operand) : opA X O f lm ⟨d, .indexAddr t x i, ty, pos, af, g⟩ s = (idxA X.P s.h t (ev s x) (ev s i)).map .val := nr rfl
theorem opA_index (t : TypeId) (x i : Operand) : opA X O f lm ⟨d, .index t x i, ty, pos, af, g⟩ s = (indexV X.P t (ev s x) (ev s i)).map .val := nr rfl
theorem opA_extract (t : Operand) (i : Nat) : opA X O f lm ⟨d, .extract t i, ty, pos, af, g⟩ s = match ev s t with
    | .tup vs => (vs[i]?).map .val
    | _ => none := nr rfl
theorem opA_len (x : Operand) (t : TypeId) : opA X O f lm ⟨d, .call ⟨.builtin .len, #[x], #[t]⟩, ty, pos, af, g⟩ s = (lenA X.P t (ev s x)).map fun (n : Nat) => .val (.v (.int .i64 (n : Int))) := by
  unfold opA; dsimp only; cases lenA X.P t (ev s x) <;> rfl
theorem opA_append (x y : Operand) (t u : TypeId) : opA X O f lm ⟨d, .call ⟨.builtin .append, #[x, y], #[t, u]⟩, ty, pos, af, g⟩ s = if t = u then appendA X.P s t (ev s x) (ev s y) else appendT X.P s t u (ev s x) (ev s y) := nr rfl
def callF (X : Abs.X) (O : Or) (s : St) (f : FuncId) (xs : List AV) : AV → Option Res
  | .fn k caps => callX X O s f k (xs ++ caps)
  | _ => none
theorem callF_fn (xs : List AV) (k : Nat) (caps : List AV) : callF X O s f xs (.fn k caps) = callX X O s f k (xs ++ caps) := nr rfl
theorem callX_no (h : X.live f = []) (xs : List AV) (k : Nat) : callX X O s f k xs = callA X O s k xs := by
  unfold callX; rw [h]; simp
theorem callX_fr (xs : List AV) (k : Nat) (h : AV.lts 0 xs = true) : callX X O s f k xs = callA X O s k xs := by
  unfold callX; rw [h]; simp
theorem callX_live (xs : List AV) (k : Nat) (h : (X.live f).contains k = true) (h2 : AV.lts 0 xs = false) : callX X O s f k xs = callL O s k xs := by
  unfold callX; rw [h, h2]; simp
theorem opA_call (x : Operand) (xs : List Operand) (ts : Array TypeId) : opA X O f lm ⟨d, .call ⟨.value x, xs.toArray, ts⟩, ty, pos, af, g⟩ s = callF X O s f (xs.map (ev s)) (ev s x) := by
  simp only [opA, callF]
  cases ev s x <;> rfl
def pureR (r : AV) : Option Res := if r.scalar then some (.val r) else none
def dataR (l : Bool) (r : AV) (s : St) : Option Res := if l then some (.val r) else some (.st r s)
def freshR (l : Bool) (s : St) (q : AV × List Blk) : Option Res :=
  if l then some (.new (q.1.ren fun k => some (s.h.length + k)) (q.2.map (Blk.ren fun k => some (s.h.length + k))))
  else some (.st (q.1.ren fun k => some (s.h.length + k)) { s with h := s.h ++ q.2.map (Blk.ren fun k => some (s.h.length + k)) })
theorem callA_pure {k : FuncId} {xs : List AV} (h : X.mode k = .pure) : callA X (orW X) s k xs = (frzs s.h 6 xs).bind fun ys => (pureW X k ys).bind pureR := by
  unfold callA; rw [h]; dsimp only
  cases frzs s.h 6 xs with
  | none => rfl
  | some ys =>
    dsimp only [Option.bind_some]
    change (match pureW X k ys with | some r => _ | none => none) = _
    cases pureW X k ys <;> rfl
theorem callA_data {k : FuncId} {xs : List AV} (h : X.mode k = .data) : callA X (orW X) s k xs = (freeze s xs).bind fun p => (pureW X k p.1).bind fun r => dataR (AV.lts 0 xs) r p.2 := by
  unfold callA; rw [h]; dsimp only
  cases freeze s xs with
  | none => rfl
  | some p =>
    obtain ⟨ys, s'⟩ := p
    dsimp only [Option.bind_some]
    change (match pureW X k ys with | some r => _ | none => none) = _
    cases pureW X k ys <;> rfl
theorem callA_fresh {k : FuncId} {xs : List AV} (h : X.mode k = .fresh) : callA X (orW X) s k xs = (freeze s xs).bind fun p => (loudW X k p.1 []).bind fun q => freshR (AV.lts 0 xs) p.2 q := by
  unfold callA; rw [h]; dsimp only
  cases freeze s xs with
  | none => rfl
  | some p =>
    obtain ⟨ys, s'⟩ := p
    dsimp only [Option.bind_some]
    change (match loudW X k ys [] with | some (r, bs) => _ | none => none) = _
    cases loudW X k ys [] <;> rfl
theorem freeze_no {s : St} {xs : List AV} (h : AV.lts 0 xs = true) : freeze s xs = (frzs [] 6 xs).map fun ys => (ys, s) := by
  unfold freeze; rw [if_pos h]; cases frzs [] 6 xs <;> rfl
theorem str_eq (a b : ByteArray) : (a.toList == b.toList) = decide (a = b) := by
  rw [ByteArray.toList_eq, ByteArray.toList_eq]
  by_cases h : a = b
  · subst h; simp
  · have : a.data.toList ≠ b.data.toList := fun k => h (ByteArray.ext (Array.ext' k))
    rw [beq_eq_false_iff_ne.2 this, decide_eq_false h]
section
variable {P : Program} {t : TypeId} {k : IntKind}
theorem bin_lss (a b : Int) : binA P .lss t (.v (.int k a)) (.v (.int k b)) = some (.v (.bool (decide (a < b)))) := by simp [binA, binS, binOp, Op.intCmp, plainV]; rfl
theorem bin_leq (a b : Int) : binA P .leq t (.v (.int k a)) (.v (.int k b)) = some (.v (.bool (decide (a ≤ b)))) := by simp [binA, binS, binOp, Op.intCmp, plainV]; rfl
theorem bin_gtr (a b : Int) : binA P .gtr t (.v (.int k a)) (.v (.int k b)) = some (.v (.bool (decide (b < a)))) := by simp [binA, binS, binOp, Op.intCmp, plainV]; rfl
theorem bin_geq (a b : Int) : binA P .geq t (.v (.int k a)) (.v (.int k b)) = some (.v (.bool (decide (b ≤ a)))) := by simp [binA, binS, binOp, Op.intCmp, plainV]; rfl
theorem bin_eql (a b : Int) : binA P .eql t (.v (.int k a)) (.v (.int k b)) = some (.v (.bool (decide (a = b)))) := by simp [binA, binS, binOp, Op.intCmp, plainV]; rfl
theorem bin_neq (a b : Int) : binA P .neq t (.v (.int k a)) (.v (.int k b)) = some (.v (.bool (decide (a ≠ b)))) := by simp [binA, binS, binOp, Op.intCmp, plainV]; rfl
theorem bin_add (a b : Int) : binA P .add t (.v (.int k a)) (.v (.int k b)) = some (.v (.int k (k.wrap (a + b)))) := by simp [binA, binS, binOp, Op.intArith, plainV]; rfl
theorem bin_sub (a b : Int) : binA P .sub t (.v (.int k a)) (.v (.int k b)) = some (.v (.int k (k.wrap (a - b)))) := by simp [binA, binS, binOp, Op.intArith, plainV]; rfl
theorem bin_mul (a b : Int) : binA P .mul t (.v (.int k a)) (.v (.int k b)) = some (.v (.int k (k.wrap (a * b)))) := by simp [binA, binS, binOp, Op.intArith, plainV]; rfl
theorem sbin_eql (a b : ByteArray) : binA P .eql t (.v (.string a)) (.v (.string b)) = some (.v (.bool (decide (a = b)))) := by
  rw [← str_eq]; simp [binA, binS, binOp, Op.stringOp, plainV]; rfl
theorem sbin_neq (a b : ByteArray) : binA P .neq t (.v (.string a)) (.v (.string b)) = some (.v (.bool (decide (a ≠ b)))) := by
  have h : decide (a ≠ b) = !(a.toList == b.toList) := by rw [str_eq, ← decide_not]
  rw [h]; simp [binA, binS, binOp, Op.stringOp, plainV]; rfl
def sless (a b : ByteArray) : Bool := Op.bytesLess a.toList b.toList
theorem sbin_lss (a b : ByteArray) : binA P .lss t (.v (.string a)) (.v (.string b)) = some (.v (.bool (sless a b))) := by
  simp [binA, binS, binOp, Op.stringOp, plainV]; rfl
theorem sbin_gtr (a b : ByteArray) : binA P .gtr t (.v (.string a)) (.v (.string b)) = some (.v (.bool !(sless a b || decide (a = b)))) := by
  rw [← str_eq]; simp [binA, binS, binOp, Op.stringOp, plainV]; rfl
theorem sbin_add (a b : ByteArray) (h : a.size + b.size ≤ 9223372036854775807) : binA P .add t (.v (.string a)) (.v (.string b)) = some (.v (.string (a ++ b))) := by
  have h1 : ¬ ((a.size + b.size : Nat) : Int) > IntKind.i64.max := by
    have : IntKind.i64.max = 9223372036854775807 := by decide
    omega
  have h2 : Op.stringOp .add a b = .pure (.string (a ++ b)) := by unfold Op.stringOp; dsimp only; rw [if_neg h1]; rfl
  have h3 : binOp .add t (.string a) (.string b) = Op.stringOp .add a b := nr rfl
  simp only [binA, binS, h3, h2, plainV, if_true, Option.map_some]
theorem bin_quo (a b : Int) (h : b ≠ 0) : binA P .quo t (.v (.int k a)) (.v (.int k b)) = some (.v (.int k (k.wrap (a.tdiv b)))) := by
  simp [binA, binS, binOp, Op.intDiv, plainV, h]; rfl
def bitI (op : BinOp) (k : IntKind) (a b : Int) : Int := match op with
  | .and => k.wrap ((BitVec.ofInt k.bits a &&& BitVec.ofInt k.bits b).toNat : Int)
  | .or => k.wrap ((BitVec.ofInt k.bits a ||| BitVec.ofInt k.bits b).toNat : Int)
  | .xor => k.wrap ((BitVec.ofInt k.bits a ^^^ BitVec.ofInt k.bits b).toNat : Int)
  | _ => k.wrap ((BitVec.ofInt k.bits a &&& ~~~ BitVec.ofInt k.bits b).toNat : Int)
def eqR (P : Program) (t : TypeId) (x y : AV) (n : Bool) : Option AV := match tyOf P t with
  | some i => (eqA i.d x y).map fun b => .v (.bool (b != n))
  | none => none
theorem bin_eqp' (x : AV) : binA P .eql t x (.v (.pointer none)) = eqR P t x (.v (.pointer none)) false := by cases x with | v a => cases a <;> simp only [binA, eqR, Bool.bne_false, Bool.bne_true] <;> cases tyOf P t <;> rfl | _ => simp only [binA, eqR, Bool.bne_false, Bool.bne_true] <;> cases tyOf P t <;> rfl
theorem bin_nep' (x : AV) : binA P .neq t x (.v (.pointer none)) = eqR P t x (.v (.pointer none)) true := by cases x with | v a => cases a <;> simp only [binA, eqR, Bool.bne_false, Bool.bne_true] <;> cases tyOf P t <;> rfl | _ => simp only [binA, eqR, Bool.bne_false, Bool.bne_true] <;> cases tyOf P t <;> rfl
theorem un_not (b : Bool) : unS .not (.bool b) = some (.bool !b) := by cases b <;> rfl
end
end Go.Abs
end
section
namespace Go.Abs
def look1 {α : Type} (d : α) (f : Nat) : List (Nat × α) → α
  | [] => d
  | (g, x) :: l => cond (Nat.beq f g) x (look1 d f l)
def look2 {α : Type} (d : α) (f r : Nat) : List (Nat × Nat × α) → α
  | [] => d
  | (g, q, x) :: l => cond (and (Nat.beq f g) (Nat.beq r q)) x (look2 d f r l)
def keepT (keep : List Nat) (t : List AV) : List AV := t.mapIdx fun i x => if i ∈ keep then x else .junk
def gcK (n : Nat) (t : List AV) (h : List Blk) : Option St :=
  let is := (reach h 6 (addNew [] (idsOfs t ++ headIds (h.take n)))).filter fun i => decide (n ≤ i)
  if dist is = true then some ⟨AV.rens (gcF n is) t, (h.take n ++ is.map fun i => h.getD i .dead).map (Blk.ren (gcF n is))⟩ else none
theorem trimA_keep {X : X} {f : FuncId} {rid : Nat} {keep : List Nat} (hX : X.trim f rid = some (keep, [])) (n : Nat) (t : List AV) (h : List Blk) : trimA X f rid n ⟨t, h⟩ = gcK n (keepT keep t) h := by
  have hf : freeze ⟨t, h⟩ [] = some ([], ⟨t, h⟩) := by
    unfold freeze
    rw [if_pos (by simp [AV.lts])]
    simp [frzs, mapO]
  unfold trimA
  rw [hX]
  dsimp only
  rw [show (([] : List Nat).map fun k => t.getD k (.tup [])) = [] from rfl, hf]
  rfl
theorem trimA_frz {X : X} {f : FuncId} {rid : Nat} {keep fz : List Nat} (hX : X.trim f rid = some (keep, fz)) (n : Nat) (t : List AV) (h : List Blk) :
    trimA X f rid n ⟨t, h⟩ = (freeze ⟨t, h⟩ (fz.map fun k => t.getD k (.tup []))).bind fun p => gcK n (keepT keep (setAll p.2.t fz p.1)) p.2.h := by
  unfold trimA
  rw [hX]
  dsimp only
  cases freeze ⟨t, h⟩ (fz.map fun k => t.getD k (.tup [])) with
  | none => rfl
  | some p => rfl
mutual
theorem idsOf_lt {n : Nat} : ∀ {x : AV}, x.lt n = true → ∀ i ∈ idsOf x, i < n
  | .sl id off len full, h, i, hi => by simp [AV.lt, idsOf] at h hi; omega
  | .ptr id off, h, i, hi => by simp [AV.lt, idsOf] at h hi; omega
  | .eptr id j o, h, i, hi => by simp [AV.lt, idsOf] at h hi; omega
  | .fn f caps, h, i, hi => idsOfs_lt (by simpa [AV.lt] using h) i (by simpa [idsOf] using hi)
  | .ifc t x, h, i, hi => idsOf_lt (x := x) (by simpa [AV.lt] using h) i (by simpa [idsOf] using hi)
  | .agg cs, h, i, hi => idsOfs_lt (by simpa [AV.lt] using h) i (by simpa [idsOf] using hi)
  | .tup vs, h, i, hi => idsOfs_lt (by simpa [AV.lt] using h) i (by simpa [idsOf] using hi)
  | .junk, h, i, hi => by simp [idsOf] at hi
  | .v _, h, i, hi => by simp [idsOf] at hi
  | .fs _ _, h, i, hi => by simp [idsOf] at hi
  | .fp _, h, i, hi => by simp [idsOf] at hi
theorem idsOfs_lt {n : Nat} : ∀ {xs : List AV}, AV.lts n xs = true → ∀ i ∈ idsOfs xs, i < n
  | [], h, i, hi => by simp [idsOfs] at hi
  | x :: xs, h, i, hi => by
    simp only [AV.lts, Bool.and_eq_true] at h
    simp only [idsOfs, List.mem_append] at hi
    rcases hi with hi | hi
    · exact idsOf_lt h.1 i hi
    · exact idsOfs_lt h.2 i hi
end
mutual
theorem ren_lt {n : Nat} : ∀ {x : AV}, x.lt n = true → x.ren (gcF n []) = x
  | .sl id off len full, h => by simp [AV.lt] at h; simp [AV.ren, gcF, h]
  | .ptr id off, h => by simp [AV.lt] at h; simp [AV.ren, gcF, h]
  | .eptr id j o, h => by simp [AV.lt] at h; simp [AV.ren, gcF, h]
  | .fn f caps, h => by simp only [AV.ren]; rw [rens_lt (by simpa [AV.lt] using h)]
  | .ifc t x, h => by simp only [AV.ren]; rw [ren_lt (by simpa [AV.lt] using h)]
  | .agg cs, h => by simp only [AV.ren]; rw [rens_lt (by simpa [AV.lt] using h)]
  | .tup vs, h => by simp only [AV.ren]; rw [rens_lt (by simpa [AV.lt] using h)]
  | .junk, h => rfl
  | .v _, h => rfl
  | .fs _ _, h => rfl
  | .fp _, h => rfl
theorem rens_lt {n : Nat} : ∀ {xs : List AV}, AV.lts n xs = true → AV.rens (gcF n []) xs = xs
  | [], h => rfl
  | x :: xs, h => by
    simp only [AV.lts, Bool.and_eq_true] at h
    simp only [AV.rens]
    rw [ren_lt h.1, rens_lt h.2]
end
theorem blk_ren_lt {n : Nat} {b : Blk} (h : b.lt n = true) : b.ren (gcF n []) = b := by
  cases b with
  | dead => rfl
  | var cs => simp only [Blk.ren]; rw [rens_lt (by simpa [Blk.lt] using h)]
  | arr e sz es => rfl
  | iter b p => rfl
theorem addNew_lt {n : Nat} : ∀ {l acc : List Nat}, (∀ i ∈ acc, i < n) → (∀ i ∈ l, i < n) → ∀ i ∈ addNew acc l, i < n
  | [], acc, ha, hl => ha
  | x :: xs, acc, ha, hl => by
    simp only [addNew]
    split
    · exact addNew_lt ha fun i hi => hl i (by simp [hi])
    · refine addNew_lt (fun i hi => ?_) fun i hi => hl i (by simp [hi])
      simp at hi
      rcases hi with hi | rfl
      · exact ha i hi
      · exact hl _ (by simp)
theorem reach_lt {n : Nat} {h : List Blk} (hb : ∀ i b, i < n → h[i]? = some b → b.lt n = true) : ∀ {k : Nat} {acc : List Nat}, (∀ i ∈ acc, i < n) → ∀ i ∈ reach h k acc, i < n
  | 0, acc, ha => by simpa [reach] using ha
  | k + 1, acc, ha => by
    have hm : ∀ (is l : List Nat), (∀ i ∈ is, i < n) → (∀ i ∈ l, i < n) → ∀ i ∈ is.foldl (fun l i => match h[i]? with
      | some (.var cs _) => addNew l (idsOfs cs)
      | _ => l) l, i < n := by
      intro is
      induction is with
      | nil => intro l _ hl; simpa using hl
      | cons x xs ih =>
        intro l hx hl
        simp only [List.foldl_cons]
        refine ih _ (fun i hi => hx i (by simp [hi])) ?_
        split
        · rename_i cs hcs
          have := hb x _ (hx x (by simp)) hcs
          exact addNew_lt hl (idsOfs_lt (by simpa [Blk.lt] using this))
        · exact hl
    simp only [reach]
    split
    · exact ha
    · exact reach_lt hb (hm acc acc ha ha)
theorem headIds_lt {n : Nat} : ∀ {h : List Blk}, h.all (Blk.lt n) = true → ∀ i ∈ headIds h, i < n
  | [], _, i, hi => by simp [headIds] at hi
  | .var cs _ :: h, ha, i, hi => by
    simp only [List.all_cons, Bool.and_eq_true] at ha
    simp only [headIds, List.mem_append] at hi
    rcases hi with hi | hi
    · exact idsOfs_lt (by simpa [Blk.lt] using ha.1) i hi
    · exact headIds_lt ha.2 i hi
  | .dead :: h, ha, i, hi => by
    simp only [List.all_cons, Bool.and_eq_true] at ha
    exact headIds_lt ha.2 i (by simpa [headIds] using hi)
  | .arr _ _ _ :: h, ha, i, hi => by
    simp only [List.all_cons, Bool.and_eq_true] at ha
    exact headIds_lt ha.2 i (by simpa [headIds] using hi)
  | .iter _ _ :: h, ha, i, hi => by
    simp only [List.all_cons, Bool.and_eq_true] at ha
    exact headIds_lt ha.2 i (by simpa [headIds] using hi)
theorem gcK_take {n : Nat} {t : List AV} {h : List Blk} (h1 : AV.lts n t = true) (h2 : (h.take n).all (Blk.lt n) = true) : gcK n t h = some ⟨t, h.take n⟩ := by
  have hb : ∀ i b, i < n → h[i]? = some b → b.lt n = true := fun i b hi hg => by
    rw [List.all_eq_true] at h2
    exact h2 b (List.mem_of_getElem? (i := i) (by rw [List.getElem?_take_of_lt hi]; exact hg))
  have hr : ((reach h 6 (addNew [] (idsOfs t ++ headIds (h.take n)))).filter fun i => decide (n ≤ i)) = [] := by
    rw [List.filter_eq_nil_iff]
    intro i hi
    have := reach_lt hb (addNew_lt (by simp) (fun i hi => by
      simp only [List.mem_append] at hi
      rcases hi with hi | hi
      · exact idsOfs_lt h1 i hi
      · exact headIds_lt h2 i hi)) i hi
    simp; omega
  unfold gcK
  simp only [hr, dist, if_true, List.map_nil, List.append_nil]
  rw [rens_lt h1]
  congr 2
  conv => rhs; rw [← List.map_id (h.take n)]
  refine List.map_congr_left fun b hbm => ?_
  rw [List.all_eq_true] at h2
  exact blk_ren_lt (h2 b hbm)
theorem lts_nil (n : Nat) : AV.lts n [] = true := nr rfl
theorem lts_cons (n : Nat) (x : AV) (xs : List AV) : AV.lts n (x :: xs) = (x.lt n && AV.lts n xs) := nr rfl
theorem lt_v (n : Nat) (x : Value) : AV.lt n (.v x) = true := nr rfl
theorem lt_fs (n : Nat) (es : List (List AV)) (b : Bool) : AV.lt n (.fs es b) = true := nr rfl
theorem lt_fp (n : Nat) (cs : List AV) : AV.lt n (.fp cs) = true := nr rfl
theorem lt_sl (n id off len : Nat) (b : Bool) : AV.lt n (.sl id off len b) = decide (id < n) := nr rfl
theorem lt_ptr (n id off : Nat) : AV.lt n (.ptr id off) = decide (id < n) := nr rfl
theorem lt_fn (n f : Nat) (caps : List AV) : AV.lt n (.fn f caps) = AV.lts n caps := nr rfl
theorem lt_agg (n : Nat) (cs : List AV) : AV.lt n (.agg cs) = AV.lts n cs := nr rfl
theorem blt_dead (n : Nat) : Blk.lt n .dead = true := nr rfl
theorem blt_var (n : Nat) (cs : List AV) (ty : Option Nat) : Blk.lt n (.var cs ty) = AV.lts n cs := nr rfl
theorem blt_arr (n e sz : Nat) (es : List (List AV)) : Blk.lt n (.arr e sz es) = true := nr rfl
theorem frzs_nil (h : List Blk) (k : Nat) : frzs h k [] = some [] := by simp [frzs, mapO]
theorem frzs_cons (h : List Blk) (k : Nat) (x : AV) (xs : List AV) : frzs h k (x :: xs) = (frz h k x).bind fun y => (frzs h k xs).map fun ys => y :: ys := by
  simp only [frzs, mapO]
  cases frz h k x with
  | none => rfl
  | some y => cases mapO (frz h k) xs <;> rfl
theorem frz_v (h : List Blk) (k : Nat) (x : Value) : frz h k (.v x) = some (.v x) := by simp [frz]
theorem frz_fs (h : List Blk) (k : Nat) (es : List (List AV)) (b : Bool) : frz h k (.fs es b) = some (.fs es false) := by simp [frz]
theorem frz_fp (h : List Blk) (k : Nat) (cs : List AV) : frz h k (.fp cs) = some (.fp cs) := by simp [frz]
theorem frz_agg (h : List Blk) (k : Nat) (cs : List AV) : frz h (k + 1) (.agg cs) = (frzs h k cs).map .agg := nr rfl
theorem frz_tup (h : List Blk) (k : Nat) (cs : List AV) : frz h (k + 1) (.tup cs) = (frzs h k cs).map .tup := nr rfl
theorem frz_fn (h : List Blk) (k f : Nat) (cs : List AV) : frz h (k + 1) (.fn f cs) = (frzs h k cs).map (.fn f) := nr rfl
def frzSl (off len : Nat) : Option Blk → Option AV
  | some (.arr _ _ es) => if off + len ≤ es.length then some (.fs (cutEs es off len) false) else none
  | _ => none
theorem frz_sl (h : List Blk) (k id off len : Nat) (b : Bool) : frz h k (.sl id off len b) = frzSl off len h[id]? := by
  simp only [frz]; rfl
def frzPtr (h : List Blk) (k off : Nat) : Option Blk → Option AV
  | some (.var cs _) => if off ≤ cs.length then (frzs h k (cs.drop off)).map .fp else none
  | _ => none
theorem frz_ptr (h : List Blk) (k id off : Nat) : frz h (k + 1) (.ptr id off) = frzPtr h k off h[id]? := by
  simp only [frz]; rfl
end Go.Abs
end
section
namespace Go.Abs
variable {P : Program} {lm : Option Nat} {h : List Blk} {t : TypeId}
class EL {α : Type} (enc : α → List AV) (n : Nat) : Prop where
  len : ∀ x, (enc x).length = n
def loadK : Option TI → Option (List AV) → Option AV
  | some i, some cs => if i.d.isAgg then (if i.size ≤ cs.length then some (.agg (cs.take i.size)) else none) else cs.head?
  | _, _ => none
theorem loadA_s (a : AV) : loadA P lm h t a = loadK (tyOf P t) (cellsAt lm h a) := by
  unfold loadA loadK
  cases tyOf P t <;> cases cellsAt lm h a <;> rfl
theorem loadK_int (k : IntKind) (n b : Nat) (z : Option Value) (x : AV) (cs : List AV) : loadK (some ⟨.int k, n, b, z⟩) (some (x :: cs)) = some x := nr rfl
theorem loadK_bool (n b : Nat) (z : Option Value) (x : AV) (cs : List AV) : loadK (some ⟨.bool, n, b, z⟩) (some (x :: cs)) = some x := nr rfl
theorem loadK_str (n b : Nat) (z : Option Value) (x : AV) (cs : List AV) : loadK (some ⟨.str, n, b, z⟩) (some (x :: cs)) = some x := nr rfl
theorem loadK_slice (e n b : Nat) (z : Option Value) (x : AV) (cs : List AV) : loadK (some ⟨.slice e, n, b, z⟩) (some (x :: cs)) = some x := nr rfl
theorem loadK_ptr (e n b : Nat) (z : Option Value) (x : AV) (cs : List AV) : loadK (some ⟨.ptr e, n, b, z⟩) (some (x :: cs)) = some x := nr rfl
theorem loadK_struct (fs : List (Nat × Nat)) (n b : Nat) (z : Option Value) (cs : List AV) : loadK (some ⟨.struct fs, n, b, z⟩) (some cs) = if n ≤ cs.length then some (.agg (cs.take n)) else none := nr rfl
theorem cellsAt_fp (cs : List AV) : cellsAt lm h (.fp cs) = some cs := nr rfl
def varAt (off : Nat) : Option Blk → Option (List AV)
  | some (.var cs _) => if off ≤ cs.length then some (cs.drop off) else none
  | _ => none
theorem cellsAt_ptr (id off : Nat) : cellsAt none h (.ptr id off) = varAt off h[id]? := by
  simp only [cellsAt, Option.all_none, if_true]
  rfl
theorem varAt_var (off : Nat) (cs : List AV) (ty : Option Nat) : varAt off (some (.var cs ty)) = if off ≤ cs.length then some (cs.drop off) else none := nr rfl
def arrAt (i o : Nat) : Option Blk → Option (List AV)
  | some (.arr _ _ es) => match es[i]? with
    | some c => if o ≤ c.length then some (c.drop o) else none
    | none => none
  | _ => none
theorem cellsAt_eptr (id i o : Nat) : cellsAt none h (.eptr id i o) = arrAt i o h[id]? := by
  simp only [cellsAt, Option.all_none, if_true]
  rfl
theorem arrAt_map {α : Type} {l : List α} {enc : α → List AV} {e sz i o : Nat} [hc : EL enc sz] (hi : i < l.length) (ho : o ≤ sz) : arrAt i o (some (.arr e sz (l.map enc))) = some ((enc l[i]).drop o) := by
  simp [arrAt, hi, hc.len, ho]
def fAt (off : Nat) : AV → Option AV
  | .fp cs => if off ≤ cs.length then some (.fp (cs.drop off)) else none
  | .ptr id o => some (.ptr id (o + off))
  | .eptr id j o => some (.eptr id j (o + off))
  | _ => none
theorem fAt_fp (off : Nat) (cs : List AV) : fAt off (.fp cs) = if off ≤ cs.length then some (.fp (cs.drop off)) else none := nr rfl
theorem fAt_ptr (off id o : Nat) : fAt off (.ptr id o) = some (.ptr id (o + off)) := nr rfl
def fieldK3 (b : AV) (off : Nat) : Option TI → Option AV
  | some i => if i.size = 0 then none else fAt off b
  | none => none
def fieldK2 (P : Program) (b : AV) : Option (Nat × Nat) → Option AV
  | some (off, ft) => fieldK3 b off (tyOf P ft)
  | none => none
def fieldK (P : Program) (b : AV) (f : Nat) : Option TI → Option AV
  | some ⟨.struct fs, _, _, _⟩ => fieldK2 P b fs[f]?
  | _ => none
theorem fieldA_s (b : AV) (f : Nat) : fieldA P t b f = fieldK P b f (tyOf P t) := by
  unfold fieldA fieldK
  cases tyOf P t with
  | none => rfl
  | some i =>
    obtain ⟨d, a, c, z⟩ := i
    cases d with
    | struct fs =>
      dsimp only
      cases fs[f]? with
      | none => rfl
      | some p =>
        obtain ⟨off, ft⟩ := p
        dsimp only [fieldK2]
        cases tyOf P ft with
        | none => rfl
        | some ie =>
          dsimp only [fieldK3]
          split
          · rfl
          · cases b <;> rfl
    | _ => rfl
theorem fieldK_struct (b : AV) (f : Nat) (fs : List (Nat × Nat)) (n c : Nat) (z : Option Value) : fieldK P b f (some ⟨.struct fs, n, c, z⟩) = fieldK2 P b fs[f]? := nr rfl
theorem fieldK2_some (b : AV) (off ft : Nat) : fieldK2 P b (some (off, ft)) = fieldK3 b off (tyOf P ft) := nr rfl
theorem fieldK3_some (b : AV) (off n c : Nat) (d : TD) (z : Option Value) : fieldK3 b off (some ⟨d, n, c, z⟩) = if n = 0 then none else fAt off b := nr rfl
def idxK2 (h : List Blk) (b i : AV) : Option TI → Option AV
  | some ie => match i with
    | .v (.int _ n) => match b with
      | .fs es _ => if 0 ≤ n then (match es[n.toNat]? with
        | some c => if c.length = ie.size ∧ 0 < ie.size then some (.fp c) else none
        | none => none) else none
      | .sl id off len _ => match h[id]? with
        | some (.arr _ sz _) => if 0 ≤ n ∧ n < (len : Int) ∧ sz = ie.size then some (.eptr id (off + n.toNat) 0) else none
        | _ => none
      | _ => none
    | _ => none
  | none => none
def idxL2 (m : Nat) (b i : AV) : Option TI → Option AV
  | some ie => match i with
    | .v (.int _ n) => if 0 ≤ n ∧ n < (m : Int) ∧ 0 < ie.size then (match b with
      | .fp cs => if n.toNat * ie.size ≤ cs.length then some (.fp (cs.drop (n.toNat * ie.size))) else none
      | .ptr id o => some (.ptr id (o + n.toNat * ie.size))
      | _ => none) else none
    | _ => none
  | none => none
def idxK (P : Program) (h : List Blk) (b i : AV) : Option TI → Option AV
  | some ⟨.slice e, _, _, _⟩ => idxK2 h b i (tyOf P e)
  | some ⟨.array m e, _, _, _⟩ => idxL2 m b i (tyOf P e)
  | _ => none
theorem idxA_s (b i : AV) : idxA P h t b i = idxK P h b i (tyOf P t) := by
  unfold idxA idxK
  cases tyOf P t with
  | none => rfl
  | some q =>
    obtain ⟨d, a, c, z⟩ := q
    cases d with
    | slice e =>
      dsimp only [idxK2]
      cases tyOf P e with
      | none => rfl
      | some ie => cases i with
        | v y => cases y <;> rfl
        | _ => rfl
    | array m e =>
      dsimp only [idxL2]
      cases tyOf P e with
      | none => rfl
      | some ie => cases i with
        | v y => cases y <;> rfl
        | _ => rfl
    | _ => rfl
theorem idxK_array (b i : AV) (m e n c : Nat) (z : Option Value) : idxK P h b i (some ⟨.array m e, n, c, z⟩) = idxL2 m b i (tyOf P e) := nr rfl
theorem idxL2_fp {k : IntKind} {d : TD} {n c : Nat} {z : Option Value} (m i : Nat) (cs : List AV) (hi : i < m) (hn : 0 < n) (hl : i * n ≤ cs.length) : idxL2 m (.fp cs) (.v (.int k i)) (some ⟨d, n, c, z⟩) = some (.fp (cs.drop (i * n))) := by
  have h1 : (i : Int) < (m : Int) := by omega
  simp [idxL2, h1, hn, hl]
theorem idxK_slice (b i : AV) (e n c : Nat) (z : Option Value) : idxK P h b i (some ⟨.slice e, n, c, z⟩) = idxK2 h b i (tyOf P e) := nr rfl
theorem idxK2_map {α : Type} {l : List α} {enc : α → List AV} {fl : Bool} {k : IntKind} {d : TD} {n c : Nat} {z : Option Value} [hc : EL enc n] (i : Nat) (hi : i < l.length) (hn : 0 < n) :
    idxK2 h (.fs (l.map enc) fl) (.v (.int k i)) (some ⟨d, n, c, z⟩) = some (.fp (enc l[i])) := by
  simp [idxK2, hi, hc.len, hn]
theorem idxK2_sl {fl : Bool} {k : IntKind} {d : TD} {n c : Nat} {z : Option Value} (id off len i : Nat) (hi : i < len) : idxK2 h (.sl id off len fl) (.v (.int k i)) (some ⟨d, n, c, z⟩) = match h[id]? with
    | some (.arr _ sz _) => if sz = n then some (.eptr id (off + i) 0) else none
    | _ => none := by
  have h1 : (i : Int) < (len : Int) := by omega
  simp only [idxK2, Int.natCast_nonneg, h1, true_and, Int.toNat_natCast]
def lenK (x : AV) : Option TI → Option Nat
  | some ⟨.slice _, _, _, _⟩ => match x with
    | .fs es _ => some es.length
    | .sl _ _ n _ => some n
    | _ => none
  | some ⟨.str, _, _, _⟩ => match x with
    | .v (.string s) => some s.size
    | _ => none
  | _ => none
theorem lenA_s (x : AV) : lenA P t x = lenK x (tyOf P t) := by
  unfold lenA lenK
  cases tyOf P t with
  | none => rfl
  | some i =>
    obtain ⟨d, a, b, c⟩ := i
    cases d <;> cases x <;> try rfl
    rename_i v; cases v <;> rfl
theorem lenK_fs (es : List (List AV)) (fl : Bool) (e n c : Nat) (z : Option Value) : lenK (.fs es fl) (some ⟨.slice e, n, c, z⟩) = some es.length := nr rfl
theorem lenK_sl (id off len : Nat) (fl : Bool) (e n c : Nat) (z : Option Value) : lenK (.sl id off len fl) (some ⟨.slice e, n, c, z⟩) = some len := nr rfl
theorem lenK_str (s : ByteArray) (n c : Nat) (z : Option Value) : lenK (.v (.string s)) (some ⟨.str, n, c, z⟩) = some s.size := nr rfl
theorem nat?_cast (k : IntKind) (i m : Nat) : nat? (.v (.int k i)) m = if i ≤ m then some i else none := by
  simp only [nat?, Int.natCast_nonneg, true_and, Int.toNat_natCast, Int.ofNat_le]
theorem nat?_one (k : IntKind) (m : Nat) : nat? (.v (.int k 1)) m = if 1 ≤ m then some 1 else none := by
  have := nat?_cast k 1 m; simpa using this
def storeK (s : St) (a x : AV) : Option TI → Option St
  | none => none
  | some i => match a with
    | .ptr id off => match s.h[id]?, x.cells? with
      | some (.var cs ty), some new => if new.length = i.size ∧ off + new.length ≤ cs.length then some { s with h := s.h.set id (.var (splice cs off new) ty) } else none
      | _, _ => none
    | .eptr id j o => match freeze s [x] with
      | some ([y], s') => match s'.h[id]?, y.cells? with
        | some (.arr e sz es), some new => match es[j]? with
          | some c => if new.length = i.size ∧ o + new.length ≤ c.length then some { s' with h := s'.h.set id (.arr e sz (es.set j (splice c o (new.map normC)))) } else none
          | none => none
        | _, _ => none
      | _ => none
    | _ => none
theorem storeA_s (s : St) (a x : AV) : storeA P s t a x = storeK s a x (tyOf P t) := by
  unfold storeA storeK; cases tyOf P t <;> rfl
def stVar (t : List AV) (h : List Blk) (id off n : Nat) : Option Blk → Option (List AV) → Option St
  | some (.var cs ty), some new => if new.length = n ∧ off + new.length ≤ cs.length then some ⟨t, h.set id (.var (splice cs off new) ty)⟩ else none
  | _, _ => none
theorem storeK_ptr (t : List AV) (h : List Blk) (id off : Nat) (x : AV) (d : TD) (n c : Nat) (z : Option Value) : storeK ⟨t, h⟩ (.ptr id off) x (some ⟨d, n, c, z⟩) = stVar t h id off n h[id]? x.cells? := by
  simp only [storeK, stVar]
theorem stVar_some (t : List AV) (h : List Blk) (id off n : Nat) (cs new : List AV) (ty : Option Nat) : stVar t h id off n (some (.var cs ty)) (some new) = if new.length = n ∧ off + new.length ≤ cs.length then some ⟨t, h.set id (.var (splice cs off new) ty)⟩ else none := nr rfl
theorem cells_agg (cs : List AV) : AV.cells? (.agg cs) = some cs := nr rfl
theorem cells_v (x : Value) : AV.cells? (.v x) = some [.v x] := nr rfl
theorem cells_fs (es : List (List AV)) (b : Bool) : AV.cells? (.fs es b) = some [.fs es b] := nr rfl
theorem cells_sl (id off len : Nat) (b : Bool) : AV.cells? (.sl id off len b) = some [.sl id off len b] := nr rfl
theorem normC_v (x : Value) : normC (.v x) = .v x := nr rfl
theorem normC_fs (es : List (List AV)) (b : Bool) : normC (.fs es b) = .fs es false := nr rfl
theorem resultsA_nil (s : St) : resultsA P s [] = some [] := nr rfl
theorem resultsA_tmp (t : List AV) (h : List Blk) (k : Nat) (r : List ResultVar) : resultsA P ⟨t, h⟩ (.tmp k :: r) = (resultsA P ⟨t, h⟩ r).map (t.getD k (.tup []) :: ·) := nr rfl
theorem oneOr_one (x : AV) : oneOr [x] = x := nr rfl
theorem oneOr_nil : oneOr [] = .tup [] := nr rfl
theorem oneOr_two (x y : AV) (l : List AV) : oneOr (x :: y :: l) = .tup (x :: y :: l) := nr rfl
theorem wrap_succ {i n : Nat} (h : i < n) (hn : n ≤ 140737488355328) : IntKind.i64.wrap ((i : Int) + 1) = ((i + 1 : Nat) : Int) := by
  rw [IntWalk.i64_in _ (by omega)]; rfl
theorem wrap_pred {i : Nat} (h : 0 < i) (hn : i ≤ 140737488355328) : IntKind.i64.wrap ((i : Int) - 1) = ((i - 1 : Nat) : Int) := by
  rw [IntWalk.i64_in _ (by omega)]; omega
attribute [go_sem ↓] WP_skip WP_exit WP_ret WP_reg WP_regD WP_seq WP_block WP_cond Thn_normal Thn_exit Thn_ret Blq_normal Blq_ret Blq_exit Condp_true Condp_false WR_nil WR_cons WR_guard WE_nil WE_cons WE_guard Is_some
attribute [go_sem] drawRes_0 drawRes_1v drawRes_1n drawRes_2 drawOp_0 drawOp_1 drawOp_2 drawOp_3 cnt5_nil cnt5_cons rsv_s rsvK_0 Is_some Is_bind ev_tmp ev_bool ev_int ev_str ev_nils ev_func evN_tmp evN_int evN_str evN_nilp evN_nils bldA_eq cond_true cond_false drawOp_12 getD_zero getD_succ set_zero set_succ get_zero get_succ doRes_val doRes_new doRes_st doRes_stn put_some opA_move opA_assign_t opA_assign_b opA_assign_i opA_assign_s opA_assign_p opA_assign_nil opA_pick opA_alloc alcR_mk alcK_nil alcK_cons ownF_nil ownF_cons ownJ_some ownA_nil ownA_cons opA_box opA_build opA_buildSlice opA_load opA_store opA_nilCheck opA_bin opA_un opA_convert cvtR_sl u8_str u8_struct rowR_slice rowR2_some opA_makeFunc opA_makeSlice opA_slice opA_fieldAddr opA_indexAddr opA_index opA_extract opA_len opA_append callF_fn callX_no callX_fr opA_call bin_lss bin_leq bin_gtr bin_geq bin_eql bin_neq bin_add bin_sub bin_mul sbin_eql sbin_neq sbin_lss sbin_gtr un_not List.cons_append List.nil_append List.length_cons List.length_nil List.replicate_succ List.replicate_zero List.map_cons List.map_nil Option.map_some Option.map_none Option.bind_some Option.bind_none lts_nil lts_cons lt_v lt_fs lt_fp lt_sl lt_ptr lt_fn lt_agg blt_dead blt_var blt_arr Bool.and_true Bool.true_and Bool.and_self List.take_nil List.all_nil List.all_cons List.take_zero List.take_succ_cons frzs_nil frzs_cons frz_v frz_fs frz_fp frz_agg frz_tup frz_fn loadA_s loadK_int loadK_bool loadK_str loadK_slice loadK_ptr loadK_struct cellsAt_fp cellsAt_ptr varAt_var cellsAt_eptr arrAt_map fAt_fp fAt_ptr fieldA_s fieldK_struct fieldK2_some fieldK3_some idxA_s idxK_slice idxK_array idxL2_fp idxK2_map idxK2_sl lenA_s lenK_fs lenK_sl lenK_str nat?_cast nat?_one storeA_s storeK_ptr stVar_some cells_agg cells_v cells_fs cells_sl resultsA_nil resultsA_tmp oneOr_one oneOr_nil oneOr_two normC_v normC_fs List.length_map List.drop_zero List.drop_succ_cons List.head?_cons decide_true decide_false if_true if_false Bool.false_eq_true Bool.not_true Bool.not_false eq_self and_self and_true true_and
end Go.Abs
end
section
namespace Go.Abs
variable {P : Program} {lm : Option Nat} {h : List Blk} {t : TypeId}
def dstOf : Oper → Option Nat := fun o => o.dst
def guardV (want : Bool) : Option AV → Option Bool
  | none => some false
  | some (.v (.bool b)) => some (b == want)
  | some (.tup []) => some false
  | _ => none
def guardK (want : Bool) (ts : List AV) : Option Oper → Option Bool
  | none => some false
  | some o => match dstOf o with
    | none => some false
    | some d => guardV want ts[d]?
theorem guardA_s (l : List Oper) (d : Option Nat) (op : Op) (ty : TypeId) (pos : String) (af : Array Edge) (j : Nat) (want : Bool) (ts : List AV) (h : List Blk) :
    guardA l.toArray ⟨d, op, ty, pos, af, some (j, want)⟩ ⟨ts, h⟩ = guardK want ts l[j]? := by
  unfold guardA guardK
  simp only [List.getElem?_toArray]
  cases l[j]? with
  | none => rfl
  | some o =>
    simp only [Option.bind_some, dstOf]
    cases o.dst with
    | none => rfl
    | some d => simp only [guardV]; rfl
theorem guardK_some (want : Bool) (ts : List AV) (d : Nat) (op : Op) (ty : TypeId) (pos : String) (af : Array Edge) (g : Option (Nat × Bool)) : guardK want ts (some ⟨some d, op, ty, pos, af, g⟩) = guardV want ts[d]? := nr rfl
theorem guardV_bool (want b : Bool) : guardV want (some (.v (.bool b))) = some (b == want) := nr rfl
theorem guardV_undef (want : Bool) : guardV want (some (.tup [])) = some false := nr rfl
def elemSl (n off len : Nat) : Option Blk → Option (List (List AV))
  | some (.arr _ sz' es) => if off + len ≤ es.length ∧ sz' = n then some (cutEs es off len) else none
  | _ => none
theorem elems_fs (n : Nat) (es : List (List AV)) (fl : Bool) : elemsA n h (.fs es fl) = if ∀ c ∈ es, c.length = n then some es else none := nr rfl
theorem elems_map {α : Type} {l : List α} {enc : α → List AV} {n : Nat} {fl : Bool} [hc : EL enc n] : elemsA n h (.fs (l.map enc) fl) = some (l.map enc) := by
  rw [elems_fs, if_pos]; simp [hc.len]
theorem elems_one (n : Nat) (fl : Bool) (c : List AV) : elemsA n h (.fs [c] fl) = if c.length = n then some [c] else none := by simp [elems_fs]
theorem elems_sl (n id off len : Nat) (fl : Bool) : elemsA n h (.sl id off len fl) = elemSl n off len h[id]? := by
  simp only [elemsA, elemSl]; rfl
theorem elemSl_all {n e sz len : Nat} (es : List (List AV)) (h1 : sz = n) (h2 : len = es.length) : elemSl n 0 len (some (.arr e sz es)) = some es := by
  subst h1 h2; simp [elemSl, cutEs]
def appF (e n c k : Nat) (es : List (List AV)) : Option (List (List AV)) → Option Res
  | some new => if noNil e es new = true then none else if es ≠ [] ∧ new = [] then some (.val (.fs es true)) else if (es.length + new.length) * c ≤ 2 ^ 47 ∧ (es = [] ∨ new ≠ []) ∧ (∀ c ∈ es, c.length = n) then
      some (.new (.sl k 0 (es.length + new.length) false) [.arr e n (es ++ new)]) else none
  | none => none
theorem noNil_e {e : Nat} (he : e ≠ 5) (es new : List (List AV)) : ¬ noNil e es new = true := by simp [noNil, he]
theorem appF_nil {e n c k : Nat} {new : List (List AV)} (he : e ≠ 5) (h1 : new.length * c ≤ 140737488355328) : appF e n c k [] (some new) = some (.new (.sl k 0 new.length false) [.arr e n new]) := by
  simp only [appF]; rw [if_neg (noNil_e he _ _), if_neg (by simp), if_pos ⟨by simpa using h1, by simp, by simp⟩]; simp
theorem appF_one {α : Type} {l : List α} {enc : α → List AV} {e n c k : Nat} {x : List AV} [h3 : EL enc n] (h1 : (l.length + 1) * c ≤ 140737488355328) :
    appF e n c k (l.map enc) (some [x]) = some (.new (.sl k 0 (l.length + 1) false) [.arr e n (l.map enc ++ [x])]) := by
  simp only [appF]; rw [if_neg (by simp [noNil]), if_neg (by simp), if_pos ⟨by simpa using h1, by simp, by simp [h3.len]⟩]; simp
def appS (t : List AV) (h : List Blk) (e n c id len : Nat) : Option Blk → Option (List (List AV)) → Option Res
  | some (.arr e' sz es), some new => if e' = e ∧ sz = n ∧ len ≤ es.length ∧ (len + new.length) * c ≤ 2 ^ 47 then
      (if len = es.length then some (.st (.sl id 0 (len + new.length) false) ⟨t.map (AV.kill id), (h.map (Blk.kill id)).set id (.arr e sz (es ++ new))⟩)
      else if len + new.length ≤ es.length ∧ new ≠ [] then some (.st (.sl id 0 (len + new.length) false) ⟨t, h.set id (.arr e sz (es.take len ++ new ++ es.drop (len + new.length)))⟩)
      else if new = [] then some (.st (.sl id 0 len false) ⟨t, h⟩) else none) else none
  | _, _ => none
theorem appS_some {t : List AV} {h : List Blk} {e n c id len : Nat} {es new : List (List AV)} (h1 : len = es.length) (h2 : (len + new.length) * c ≤ 140737488355328) :
    appS t h e n c id len (some (.arr e n es)) (some new) = some (.st (.sl id 0 (len + new.length) false) ⟨t.map (AV.kill id), (h.map (Blk.kill id)).set id (.arr e n (es ++ new))⟩) := by
  simp only [appS, true_and]; rw [if_pos ⟨by omega, h2⟩, if_pos h1]
def appK2 (s : St) (e : Nat) (b x : AV) : Option TI → Option (List AV) → Option Res
  | some ie, some z => if ie.size = 0 ∨ ie.bytes = 0 ∨ z.length ≠ ie.size then none else match elemsA ie.size s.h x with
    | none => none
    | some new => match b with
      | .fs es true => if noNil e es new = true then none else if es ≠ [] ∧ new = [] then some (.val (.fs es true)) else if (es.length + new.length) * ie.bytes ≤ 2 ^ 47 ∧ (es = [] ∨ new ≠ []) ∧ (∀ c ∈ es, c.length = ie.size) then
          some (.new (.sl s.h.length 0 (es.length + new.length) false) [.arr e ie.size (es ++ new)]) else none
      | .sl id off len full => match s.h[id]? with
        | some (.arr e' sz es) => if e' = e ∧ sz = ie.size ∧ off + len ≤ es.length ∧ (len + new.length) * ie.bytes ≤ 2 ^ 47 then
            (if full then (if new = [] then none else some (.new (.sl s.h.length 0 (len + new.length) false) [.arr e ie.size (cutEs es off len ++ new)]))
            else if off = 0 ∧ len = es.length then
              some (.st (.sl id 0 (len + new.length) false) ⟨s.t.map (AV.kill id), (s.h.map (Blk.kill id)).set id (.arr e sz (es ++ new))⟩)
            else if off = 0 ∧ len + new.length ≤ es.length ∧ new ≠ [] then
              some (.st (.sl id 0 (len + new.length) false) ⟨s.t, s.h.set id (.arr e sz (es.take len ++ new ++ es.drop (len + new.length)))⟩)
            else if new = [] then some (.st (.sl id off len false) s)
            else none)
          else none
        | _ => none
      | _ => none
  | _, _ => none
def appK (P : Program) (s : St) (b x : AV) : Option TI → Option Res
  | some ⟨.slice e, _, _, _⟩ => appK2 s e b x (tyOf P e) (zeroA P e)
  | _ => none
theorem appendA_s (s : St) (b x : AV) : appendA P s t b x = appK P s b x (tyOf P t) := by
  unfold appendA appK
  cases tyOf P t with
  | none => rfl
  | some q =>
    obtain ⟨d, a, c, z⟩ := q
    cases d with
    | slice e =>
      dsimp only [appK2]
      cases tyOf P e with
      | none => rfl
      | some ie =>
        cases zeroA P e with
        | none => simp
        | some z =>
          dsimp only
          simp only [Option.map_some, ne_eq, Option.some.injEq]
          rfl
    | _ => rfl
theorem appK_slice (s : St) (b x : AV) (e n c : Nat) (z : Option Value) : appK P s b x (some ⟨.slice e, n, c, z⟩) = appK2 s e b x (tyOf P e) (zeroA P e) := nr rfl
theorem appK2_fs (s : St) (e : Nat) (es : List (List AV)) (x : AV) (d : TD) (n c : Nat) (z : Option Value) (z' : List AV) (hn : 0 < n) (hc : 0 < c) (hz : z'.length = n) :
    appK2 s e (.fs es true) x (some ⟨d, n, c, z⟩) (some z') = appF e n c s.h.length es (elemsA n s.h x) := by
  simp only [appK2, appF]
  rw [if_neg (by simp; omega)]
  cases elemsA n s.h x <;> rfl
theorem appK2_sl (ts : List AV) (h : List Blk) (e id len : Nat) (x : AV) (d : TD) (n c : Nat) (z : Option Value) (z' : List AV) (hn : 0 < n) (hc : 0 < c) (hz : z'.length = n) :
    appK2 ⟨ts, h⟩ e (.sl id 0 len false) x (some ⟨d, n, c, z⟩) (some z') = appS ts h e n c id len h[id]? (elemsA n h x) := by
  simp only [appK2, appS]
  rw [if_neg (by simp; omega)]
  cases elemsA n h x with
  | none => cases h[id]? with
    | none => rfl
    | some b => cases b <;> rfl
  | some new =>
    dsimp only
    cases h[id]? with
    | none => rfl
    | some b => cases b with
      | arr e' sz es =>
        dsimp only
        simp only [Nat.zero_add, true_and, Bool.false_eq_true, if_false]
      | _ => rfl
def appTK2 (s : St) (e : Nat) (b : AV) (q : ByteArray) : Option TI → Option (List AV) → Option Res
  | some ie, some z => if ie.d.u8 && ie.size == 1 && ie.bytes == 1 && z.length == 1 then appendN s e ie b (ofBytes q) else none
  | _, _ => none
def appTK (P : Program) (s : St) (b : AV) (q : ByteArray) : Option TI → Option TI → Option Res
  | some ⟨.slice e, _, _, _⟩, some ⟨.str, _, _, _⟩ => appTK2 s e b q (tyOf P e) (zeroA P e)
  | _, _ => none
theorem appendT_s (s : St) (u : Nat) (b : AV) (q : ByteArray) : appendT P s t u b (.v (.string q)) = appTK P s b q (tyOf P t) (tyOf P u) := by
  unfold appendT appTK
  cases tyOf P t with
  | none => rfl
  | some x =>
    obtain ⟨d, a, c, z⟩ := x
    cases d with
    | slice e =>
      cases tyOf P u with
      | none => rfl
      | some y =>
        obtain ⟨d2, a2, c2, z2⟩ := y
        cases d2 with
        | str =>
          dsimp only [appTK2]
          cases tyOf P e with
          | none => rfl
          | some ie => cases zeroA P e <;> simp
        | _ => rfl
    | _ => rfl
theorem appTK_slice (s : St) (b : AV) (q : ByteArray) (e n c n' c' : Nat) (z z' : Option Value) : appTK P s b q (some ⟨.slice e, n, c, z⟩) (some ⟨.str, n', c', z'⟩) = appTK2 s e b q (tyOf P e) (zeroA P e) := nr rfl
theorem appTK2_sl (ts : List AV) (h : List Blk) (e id len : Nat) (q : ByteArray) (z : Option Value) (x : AV) :
    appTK2 ⟨ts, h⟩ e (.sl id 0 len false) q (some ⟨.int .u8, 1, 1, z⟩) (some [x]) = appS ts h e 1 1 id len h[id]? (some (ofBytes q)) := by
  simp only [appTK2, appendN, appS]
  rw [if_pos (by rfl)]
  cases h[id]? with
  | none => rfl
  | some b => cases b with
    | arr e' sz es =>
      dsimp only
      simp only [Nat.zero_add, true_and, Bool.false_eq_true, if_false]
    | _ => rfl
theorem kill_v (i : Nat) (x : Value) : AV.kill i (.v x) = .v x := nr rfl
theorem kill_junk (i : Nat) : AV.kill i .junk = .junk := nr rfl
theorem kill_fs (i : Nat) (es : List (List AV)) (b : Bool) : AV.kill i (.fs es b) = .fs es b := nr rfl
theorem kill_fp (i : Nat) (cs : List AV) : AV.kill i (.fp cs) = .fp cs := nr rfl
theorem kill_sl (i id off len : Nat) (b : Bool) : AV.kill i (.sl id off len b) = if id = i then .junk else .sl id off len b := nr rfl
theorem kill_ptr (i id off : Nat) : AV.kill i (.ptr id off) = if id = i then .junk else .ptr id off := nr rfl
theorem kill_fn (i f : Nat) (cs : List AV) : AV.kill i (.fn f cs) = .fn f (AV.kills i cs) := nr rfl
theorem kill_agg (i : Nat) (cs : List AV) : AV.kill i (.agg cs) = .agg (AV.kills i cs) := nr rfl
theorem kill_tup (i : Nat) (cs : List AV) : AV.kill i (.tup cs) = .tup (AV.kills i cs) := nr rfl
theorem kills_nil (i : Nat) : AV.kills i [] = [] := nr rfl
theorem kills_cons (i : Nat) (x : AV) (xs : List AV) : AV.kills i (x :: xs) = x.kill i :: AV.kills i xs := nr rfl
theorem bkill_var (i : Nat) (cs : List AV) (ty : Option Nat) : Blk.kill i (.var cs ty) = .var (AV.kills i cs) ty := nr rfl
theorem bkill_arr (i e sz : Nat) (es : List (List AV)) : Blk.kill i (.arr e sz es) = .arr e sz es := nr rfl
def setEs1 (sz : Nat) (es : List (List AV)) (i : Nat) (rest : List (Nat × AV)) : Option (List AV) → Option (List (List AV))
  | some cs => if cs.length = sz ∧ i < es.length then setEs sz (es.set i (cs.map normC)) rest else none
  | none => none
theorem setEs_nil (sz : Nat) (es : List (List AV)) : setEs sz es [] = some es := nr rfl
theorem setEs_cons (sz : Nat) (es : List (List AV)) (i : Nat) (x : AV) (rest : List (Nat × AV)) : setEs sz es ((i, x) :: rest) = setEs1 sz es i rest x.cells? := by
  simp only [setEs, setEs1]; cases x.cells? <;> rfl
theorem setEs1_some (sz : Nat) (es : List (List AV)) (i : Nat) (rest : List (Nat × AV)) (cs : List AV) : setEs1 sz es i rest (some cs) = if cs.length = sz ∧ i < es.length then setEs sz (es.set i (cs.map normC)) rest else none := nr rfl
def bslK2 (len : Nat) (parts : List (Nat × AV)) : Option TI → Option (List AV) → Option AV
  | some ie, some z => if len * ie.size ≤ 2 ^ 24 ∧ z.length = ie.size ∧ 0 < ie.size then
        (setEs ie.size (List.replicate len (z.map normC)) parts).map fun es => .fs es true
      else none
  | _, _ => none
def bslK (P : Program) (len : Nat) (parts : List (Nat × AV)) : Option TI → Option AV
  | some ⟨.slice e, _, _, _⟩ => bslK2 len parts (tyOf P e) (zeroA P e)
  | _ => none
theorem buildSliceA_s (len : Nat) (parts : List (Nat × AV)) : buildSliceA P t len parts = bslK P len parts (tyOf P t) := by
  unfold buildSliceA bslK
  cases tyOf P t with
  | none => rfl
  | some q =>
    obtain ⟨d, a, c, z⟩ := q
    cases d with
    | slice e => dsimp only [bslK2]; cases tyOf P e <;> cases zeroA P e <;> rfl
    | _ => rfl
theorem bslK_slice (len : Nat) (parts : List (Nat × AV)) (e n c : Nat) (z : Option Value) : bslK P len parts (some ⟨.slice e, n, c, z⟩) = bslK2 len parts (tyOf P e) (zeroA P e) := nr rfl
theorem bslK2_some (len : Nat) (parts : List (Nat × AV)) (d : TD) (n c : Nat) (z : Option Value) (z' : List AV) : bslK2 len parts (some ⟨d, n, c, z⟩) (some z') = if len * n ≤ 2 ^ 24 ∧ z'.length = n ∧ 0 < n then
        (setEs n (List.replicate len (z'.map normC)) parts).map fun es => .fs es true
      else none := nr rfl
theorem cutB_lo (len : Nat) (x : AV) : cutB len (some x) none none = (nat? x len).map fun l => (l, len, false) := by
  simp only [cutB]; cases nat? x len <;> rfl
theorem cutB_himx (len : Nat) (x y : AV) : cutB len none (some x) (some y) = (nat? x len).bind fun h => (nat? y len).bind fun m => if m = h then some (0, h, true) else none := by
  simp only [cutB]; cases nat? x len with
  | none => rfl
  | some h => dsimp only [Option.bind_some]; cases nat? y len <;> rfl
def slcF (n : Nat) (fl : Bool) (es : List (List AV)) : Option (Nat × Nat × Bool) → Option AV
  | some (l, h, m) => if l = 0 ∨ ∀ c ∈ es, c.length = n then some (.fs ((es.take h).drop l) (m || (fl && decide (h = es.length) && decide (l < h)))) else none
  | none => none
theorem slcF_zero (n : Nat) (fl : Bool) (es : List (List AV)) (h : Nat) (m : Bool) : slcF n fl es (some (0, h, m)) = some (.fs (es.take h) (m || (fl && decide (h = es.length) && decide (0 < h)))) := nr rfl
theorem slcF_map {α : Type} {l : List α} {enc : α → List AV} {n : Nat} {fl m : Bool} {a b : Nat} [hc : EL enc n] : slcF n fl (l.map enc) (some (a, b, m)) = some (.fs (((l.take b).drop a).map enc) (m || (fl && decide (b = l.length) && decide (a < b)))) := by
  simp only [slcF]; rw [if_pos (.inr (by simp [hc.len]))]; simp [List.map_take, List.map_drop]
def slcS (id off len : Nat) (full : Bool) : Option (Nat × Nat × Bool) → Option AV
  | some (l, h, m) =>
            if l = h ∧ l ≠ 0 then some (.fs [] m)
            else if m then some (.sl id (off + l) (h - l) true)
            else if full then (if h = len then some (.sl id (off + l) (h - l) true) else none)
            else some (.sl id (off + l) (h - l) false)
  | none => none
def slcK2 (hp : List Blk) (x : AV) (lo hi mx : Option AV) : Option TI → Option AV
  | some ie => if ie.size = 0 then none else match x with
      | .fs es full => match cutB es.length lo hi mx with
        | some (l, h, m) => if l = 0 ∨ ∀ c ∈ es, c.length = ie.size then some (.fs ((es.take h).drop l) (m || (full && decide (h = es.length) && decide (l < h)))) else none
        | none => none
      | .sl id off len full => match hp[id]? with
        | some (.arr _ sz es) => if sz ≠ ie.size then none else match cutB len lo hi mx with
          | some (l, h, m) =>
            if l = h ∧ l ≠ 0 then some (.fs [] m)
            else if m then some (.sl id (off + l) (h - l) true)
            else if full then (if h = len then some (.sl id (off + l) (h - l) true) else none)
            else some (.sl id (off + l) (h - l) false)
          | none => beyA id off len full es.length lo hi mx
        | _ => none
      | _ => none
  | none => none
def slcT (s : ByteArray) : Option (Nat × Nat × Bool) → Option AV
  | some (l, h, _) => some (.v (.string (s.extract l h)))
  | none => none
def slcK (P : Program) (hp : List Blk) (x : AV) (lo hi mx : Option AV) : Option TI → Option AV
  | some ⟨.str, _, _, _⟩ => match x, mx with
    | .v (.string s), none => slcT s (cutB s.size lo hi none)
    | _, _ => none
  | some ⟨.slice e, _, _, _⟩ => slcK2 hp x lo hi mx (tyOf P e)
  | _ => none
theorem sliceA_s (hp : List Blk) (x : AV) (lo hi mx : Option AV) : sliceA P hp t x lo hi mx = slcK P hp x lo hi mx (tyOf P t) := by
  unfold sliceA slcK
  cases tyOf P t with
  | none => rfl
  | some q =>
    obtain ⟨d, a, c, z⟩ := q
    cases d with
    | slice e => dsimp only [slcK2]; cases tyOf P e <;> rfl
    | str => rfl
    | _ => rfl
theorem slcK_str (hp : List Blk) (s : ByteArray) (lo hi : Option AV) (n c : Nat) (z : Option Value) : slcK P hp (.v (.string s)) lo hi none (some ⟨.str, n, c, z⟩) = slcT s (cutB s.size lo hi none) := nr rfl
theorem slcT_some (s : ByteArray) (l h : Nat) (m : Bool) : slcT s (some (l, h, m)) = some (.v (.string (s.extract l h))) := nr rfl
theorem slcK_slice (hp : List Blk) (x : AV) (lo hi mx : Option AV) (e n c : Nat) (z : Option Value) : slcK P hp x lo hi mx (some ⟨.slice e, n, c, z⟩) = slcK2 hp x lo hi mx (tyOf P e) := nr rfl
theorem slcK2_fs (hp : List Blk) (es : List (List AV)) (fl : Bool) (lo hi mx : Option AV) (d : TD) (n c : Nat) (z : Option Value) (hn : 0 < n) : slcK2 hp (.fs es fl) lo hi mx (some ⟨d, n, c, z⟩) = slcF n fl es (cutB es.length lo hi mx) := by
  simp only [slcK2]; rw [if_neg (by omega)]; rfl
def slcX (id off len : Nat) (fl : Bool) (k : Nat) (lo hi mx : Option AV) : Option (Nat × Nat × Bool) → Option AV
  | some q => slcS id off len fl (some q)
  | none => beyA id off len fl k lo hi mx
theorem slcX_some (id off len : Nat) (fl : Bool) (k : Nat) (lo hi mx : Option AV) (q : Nat × Nat × Bool) : slcX id off len fl k lo hi mx (some q) = slcS id off len fl (some q) := nr rfl
def slcB (n id off len : Nat) (fl : Bool) (lo hi mx : Option AV) : Option Blk → Option AV
  | some (.arr _ sz es) => if sz ≠ n then none else slcX id off len fl es.length lo hi mx (cutB len lo hi mx)
  | _ => none
theorem slcK2_sl (hp : List Blk) (id off len : Nat) (fl : Bool) (lo hi mx : Option AV) (d : TD) (n c : Nat) (z : Option Value) (hn : 0 < n) : slcK2 hp (.sl id off len fl) lo hi mx (some ⟨d, n, c, z⟩) = slcB n id off len fl lo hi mx hp[id]? := by
  simp only [slcK2, slcB]; rw [if_neg (by omega)]
  cases hp[id]? with
  | none => rfl
  | some b => cases b with
    | arr e sz es =>
      dsimp only
      cases cutB len lo hi mx <;> rfl
    | _ => rfl
theorem slcB_arr (n id off len : Nat) (fl : Bool) (lo hi mx : Option AV) (e : Nat) (es : List (List AV)) : slcB n id off len fl lo hi mx (some (.arr e n es)) = slcX id off len fl es.length lo hi mx (cutB len lo hi mx) := by
  simp [slcB]
theorem slcS_plain (id off len l h : Nat) (hl : ¬ (l = h ∧ l ≠ 0)) : slcS id off len false (some (l, h, false)) = some (.sl id (off + l) (h - l) false) := by
  simp only [slcS]; rw [if_neg hl]; rfl
def placeK (off : Nat) : Option TI → Option (List (Nat × Nat)) → Option (List (Nat × Nat))
  | some i, some l => some ((off, i.size) :: l)
  | _, _ => none
theorem placesOf_nil : placesOf P [] = some [] := nr rfl
theorem placesOf_cons (off ft : Nat) (r : List (Nat × Nat)) : placesOf P ((off, ft) :: r) = placeK off (tyOf P ft) (placesOf P r) := by
  simp only [placesOf, placeK]; cases tyOf P ft <;> cases placesOf P r <;> rfl
theorem placeK_some (off : Nat) (d : TD) (n c : Nat) (z : Option Value) (l : List (Nat × Nat)) : placeK off (some ⟨d, n, c, z⟩) (some l) = some ((off, n) :: l) := nr rfl
def fillK (place : Nat → Option (Nat × Nat)) (cells : List AV) (rest : List (Nat × AV)) : Option (Nat × Nat) → Option (List AV) → Option (List AV)
  | some (off, size), some cs => if cs.length = size ∧ off + size ≤ cells.length then fillA place (splice cells off cs) rest else none
  | _, _ => none
theorem fillA_nil (place : Nat → Option (Nat × Nat)) (cells : List AV) : fillA place cells [] = some cells := nr rfl
theorem fillA_cons (pl : List (Nat × Nat)) (cells : List AV) (i : Nat) (x : AV) (rest : List (Nat × AV)) : fillA (fun i => pl[i]?) cells ((i, x) :: rest) = fillK (fun i => pl[i]?) cells rest pl[i]? x.cells? := by
  simp only [fillA, fillK]
  cases pl[i]? with
  | none => cases x.cells? <;> rfl
  | some p => cases x.cells? <;> rfl
theorem fillK_some (place : Nat → Option (Nat × Nat)) (cells : List AV) (rest : List (Nat × AV)) (off size : Nat) (cs : List AV) : fillK place cells rest (some (off, size)) (some cs) = if cs.length = size ∧ off + size ≤ cells.length then fillA place (splice cells off cs) rest else none := nr rfl
def bldK2 (z : List AV) (parts : List (Nat × AV)) : Option (List (Nat × Nat)) → Option AV
  | some pl => (fillA (fun i => pl[i]?) z parts).map .agg
  | none => none
def bldK (P : Program) (parts : List (Nat × AV)) : Option TI → Option (List AV) → Option AV
  | some ⟨.struct fs, _, _, _⟩, some z => bldK2 z parts (placesOf P fs)
  | some ⟨.array _ e, _, _, _⟩, some z => match tyOf P e with
    | some ie => (fillA (fun i => some (i * ie.size, ie.size)) z parts).map .agg
    | none => none
  | _, _ => none
theorem buildA_s (parts : List (Nat × AV)) : buildA P t parts = bldK P parts (tyOf P t) (zeroA P t) := by
  unfold buildA bldK
  cases tyOf P t with
  | none => rfl
  | some q =>
    obtain ⟨d, a, c, z⟩ := q
    cases zeroA P t with
    | none => cases d <;> rfl
    | some z => cases d with
      | struct fs => dsimp only [bldK2]; cases placesOf P fs <;> rfl
      | _ => rfl
theorem bldK_struct (parts : List (Nat × AV)) (fs : List (Nat × Nat)) (n c : Nat) (z : Option Value) (z' : List AV) : bldK P parts (some ⟨.struct fs, n, c, z⟩) (some z') = bldK2 z' parts (placesOf P fs) := nr rfl
theorem bldK2_some (z : List AV) (parts : List (Nat × AV)) (pl : List (Nat × Nat)) : bldK2 z parts (some pl) = (fillA (fun i => pl[i]?) z parts).map .agg := nr rfl
theorem splice_s (cs : List AV) (off : Nat) (new : List AV) : splice cs off new = cs.take off ++ new ++ cs.drop (off + new.length) := nr rfl
def cvK (x : AV) : Option TI → Option TI → Option AV
  | some ⟨.int _, _, _, _⟩, some ⟨.int k, _, _, _⟩ => match x with
    | .v (.int _ n) => some (.v (.int k (k.wrap n)))
    | _ => none
  | some ⟨.str, _, _, _⟩, some ⟨.str, _, _, _⟩ => match x with
    | .v (.string s) => some (.v (.string s))
    | _ => none
  | _, _ => none
theorem convA_s (a b : TypeId) (x : AV) : convA P a b x = cvK x (tyOf P a) (tyOf P b) := by
  unfold convA cvK
  cases tyOf P a with
  | none => rfl
  | some p =>
    cases tyOf P b with
    | none => cases p; rename_i d _ _ _; cases d <;> rfl
    | some q =>
      obtain ⟨d, _, _, _⟩ := p
      obtain ⟨d', _, _, _⟩ := q
      cases d <;> cases d' <;> first | rfl | (cases x <;> first | rfl | (rename_i v; cases v <;> rfl))
def bytesS (es : List (List AV)) : Option AV := (intsOf es).map fun ns => .v (.string ⟨(ns.map fun n => UInt8.ofNat n.toNat).toArray⟩)
def cvB2 (es : Option (List (List AV))) : Option TI → Option AV
  | some ⟨.int .u8, _, _, _⟩ => es.bind bytesS
  | _ => none
def cvB3 (x : AV) : Option TI → Option AV
  | some ⟨.int .u8, _, _, _⟩ => match x with
    | .v (.string s) => if s.size ≤ 140737488355328 then some (.fs (ofBytes s) false) else none
    | _ => none
  | _ => none
def cvB (P : Program) (h : List Blk) (x : AV) : Option TI → Option TI → Option AV
  | some ⟨.slice e, _, _, _⟩, some ⟨.str, _, _, _⟩ => cvB2 (elemsA 1 h x) (tyOf P e)
  | some ⟨.str, _, _, _⟩, some ⟨.slice e, _, _, _⟩ => cvB3 x (tyOf P e)
  | p, q => cvK x p q
theorem convB_s (h : List Blk) (a b : TypeId) (x : AV) : convB P h a b x = cvB P h x (tyOf P a) (tyOf P b) := by
  have hc := convA_s (P := P) a b x
  unfold convB cvB
  cases h1 : tyOf P a with
  | none => rw [h1] at hc; exact hc
  | some p =>
    obtain ⟨d, _, _, _⟩ := p
    cases h2 : tyOf P b with
    | none => rw [h1, h2] at hc; cases d <;> exact hc
    | some q =>
      obtain ⟨d', _, _, _⟩ := q
      rw [h1, h2] at hc
      cases d <;> cases d' <;> first
        | exact hc
        | (dsimp only
           unfold cvB2 bytesS
           generalize tyOf P _ = te
           cases te with
           | none => rfl
           | some r =>
             obtain ⟨d3, _, _, _⟩ := r
             cases d3 with
             | int k => cases k <;> first | rfl | (dsimp only; cases elemsA 1 h x <;> rfl)
             | _ => rfl)
        | (dsimp only
           unfold cvB3
           generalize tyOf P _ = te
           cases te with
           | none => rfl
           | some r =>
             obtain ⟨d3, _, _, _⟩ := r
             cases d3 with
             | int k => cases k <;> first | rfl | (cases x <;> first | rfl | (rename_i v; cases v <;> rfl))
             | _ => rfl)
theorem cvB_ls (h : List Blk) (x : AV) (e a b c d : Nat) (z z' : Option Value) : cvB P h x (some ⟨.slice e, a, b, z⟩) (some ⟨.str, c, d, z'⟩) = cvB2 (elemsA 1 h x) (tyOf P e) := nr rfl
theorem cvB2_u8 (es : Option (List (List AV))) (a b : Nat) (z : Option Value) : cvB2 es (some ⟨.int .u8, a, b, z⟩) = es.bind bytesS := nr rfl
theorem intsOf_map : ∀ l : List UInt8, intsOf (l.map eB) = some (l.map fun x => (x.toNat : Int))
  | [] => rfl
  | x :: r => by rw [List.map_cons, eB, intsOf, intsOf_map r]; rfl
theorem bytesS_map (l : List UInt8) : bytesS (l.map eB) = some (.v (.string ⟨l.toArray⟩)) := by
  unfold bytesS
  rw [intsOf_map]
  simp only [Option.map_some, List.map_map]
  congr 4
  rw [List.map_congr_left (g := id)]
  · simp
  · intro x _
    simp
theorem eB_len (x : UInt8) : (eB x).length = 1 := rfl
instance : EL eB 1 := ⟨eB_len⟩
def eqK (x y : AV) (n : Bool) : Option TI → Option AV
  | some i => (eqA i.d x y).map fun b => .v (.bool (b != n))
  | none => none
theorem eqR_s (x y : AV) (n : Bool) : eqR P t x y n = eqK x y n (tyOf P t) := by
  unfold eqR eqK; cases tyOf P t <;> rfl
theorem eqK_nn (n : Bool) (e s c : Nat) (z : Option Value) : eqK (.v (.pointer none)) (.v (.pointer none)) n (some ⟨.ptr e, s, c, z⟩) = some (.v (.bool (true != n))) := nr rfl
theorem eqK_fn (n : Bool) (e s c : Nat) (z : Option Value) (cs : List AV) : eqK (.fp cs) (.v (.pointer none)) n (some ⟨.ptr e, s, c, z⟩) = some (.v (.bool (false != n))) := nr rfl
theorem beq_tt (b : Bool) : (b == true) = b := by cases b <;> rfl
theorem beq_ff (b : Bool) : (b == false) = !b := by cases b <;> rfl
theorem take_map' {α β : Type} (g : α → β) (l : List α) (n : Nat) : (l.map g).take n = (l.take n).map g := List.map_take.symm
theorem contains_nil' (a : Nat) : ([] : List Nat).contains a = false := nr rfl
theorem contains_cons' (a x : Nat) (l : List Nat) : (x :: l).contains a = (a == x || l.contains a) := List.contains_cons
def adoptK2 (n e : Nat) : Option TI → Option Res
  | some ie => if ie.size = 0 then none else some (.new (.sl n 0 0 false) [.arr e ie.size []])
  | none => none
def adoptK (P : Program) (n : Nat) : Option TI → Option Res
  | some ⟨.slice e, _, _, _⟩ => adoptK2 n e (tyOf P e)
  | _ => none
theorem adoptA_s (n : Nat) : adoptA P t n = adoptK P n (tyOf P t) := by
  unfold adoptA adoptK
  cases tyOf P t with
  | none => rfl
  | some q =>
    obtain ⟨d, a, c, z⟩ := q
    cases d with
    | slice e => dsimp only [adoptK2] <;> cases tyOf P e <;> rfl
    | _ => rfl
theorem adoptK_slice (n e a c : Nat) (z : Option Value) : adoptK P n (some ⟨.slice e, a, c, z⟩) = adoptK2 n e (tyOf P e) := nr rfl
theorem adoptK2_some (n e a c : Nat) (d : TD) (z : Option Value) (ha : 0 < a) : adoptK2 n e (some ⟨d, a, c, z⟩) = some (.new (.sl n 0 0 false) [.arr e a []]) := by
  simp only [adoptK2]; rw [if_neg (by omega)]
theorem frzSl_all {e sz len : Nat} (es : List (List AV)) (h : len = es.length) : frzSl 0 len (some (.arr e sz es)) = some (.fs es false) := by
  subst h; simp [frzSl, cutEs]
theorem frzPtr_var (h : List Blk) (k off : Nat) (cs : List AV) (ty : Option Nat) : frzPtr h k off (some (.var cs ty)) = if off ≤ cs.length then (frzs h k (cs.drop off)).map .fp else none := nr rfl
attribute [go_sem] frz_sl frz_ptr frzSl_all frzPtr_var
theorem scalar_v (x : Value) : AV.scalar (.v x) = true := nr rfl
theorem dataR_t (r : AV) (s : St) : dataR true r s = some (.val r) := nr rfl
theorem dataR_f (r : AV) (s : St) : dataR false r s = some (.st r s) := nr rfl
theorem freshR_t (s : St) (q : AV × List Blk) : freshR true s q = some (.new (q.1.ren fun k => some (s.h.length + k)) (q.2.map (Blk.ren fun k => some (s.h.length + k)))) := nr rfl
theorem freshR_f (s : St) (q : AV × List Blk) : freshR false s q = some (.st (q.1.ren fun k => some (s.h.length + k)) { s with h := s.h ++ q.2.map (Blk.ren fun k => some (s.h.length + k)) }) := nr rfl
attribute [go_sem] scalar_v dataR_t dataR_f freshR_t freshR_f
attribute [go_sem] bin_quo sbin_add pureR
attribute [go_sem] contains_nil' contains_cons' adoptA_s adoptK_slice adoptK2_some guardA_s guardK_some guardV_bool guardV_undef elems_map elems_one elems_sl elemSl_all appF_nil appF_one appS_some appendA_s appK_slice appK2_fs appK2_sl appendT_s appTK_slice appTK2_sl kill_v kill_junk kill_fs kill_fp kill_sl kill_ptr kill_fn kill_agg kill_tup kills_nil kills_cons bkill_var bkill_arr setEs_nil setEs_cons setEs1_some buildSliceA_s bslK_slice bslK2_some cutB_lo cutB_himx slcX_some slcF_zero slcF_map sliceA_s slcK_str slcT_some slcK_slice slcK2_fs slcK2_sl slcB_arr slcS_plain placesOf_nil placesOf_cons placeK_some fillA_nil fillA_cons fillK_some buildA_s bldK_struct bldK2_some splice_s convB_s cvB_ls cvB2_u8 bytesS_map eqR_s eqK_nn eqK_fn freeze_no bin_eqp' bin_nep' take_map' List.zip_cons_cons List.zip_nil_left List.zip_nil_right beq_tt beq_ff Bool.or_false Bool.false_or Bool.true_or Bool.or_true Bool.and_false Bool.false_and implies_true Nat.zero_add Nat.add_zero Nat.sub_zero List.append_nil List.set_nil
end Go.Abs
end
section
namespace Go.Abs
def lk (d : AV) : List (Nat × AV) → Nat → AV
  | [], _ => d
  | (j, x) :: l, k => if j = k then x else lk d l k
def mkT (m : Nat) (d : AV) (l : List (Nat × AV)) : List AV := (List.range m).map (lk d l)
def enumA : Nat → List AV → List (Nat × AV)
  | _, [] => []
  | i, a :: as => (i, a) :: enumA (i + 1) as
theorem lk_cons (d x : AV) (j k : Nat) (l : List (Nat × AV)) : lk d ((j, x) :: l) k = if j = k then x else lk d l k := nr rfl
theorem mkT_length (m : Nat) (d : AV) (l : List (Nat × AV)) : (mkT m d l).length = m := by simp [mkT]
theorem mkT_get? {m k : Nat} (d : AV) (l : List (Nat × AV)) (h : k < m) : (mkT m d l)[k]? = some (lk d l k) := by simp [mkT, h]
theorem mkT_getD {m k : Nat} (d e : AV) (l : List (Nat × AV)) (h : k < m) : (mkT m d l).getD k e = lk d l k := by
  rw [List.getD_eq_getElem?_getD, mkT_get? d l h]; rfl
theorem mkT_set (m k : Nat) (d x : AV) (l : List (Nat × AV)) : (mkT m d l).set k x = mkT m d ((k, x) :: l) := by
  apply List.ext_getElem?
  intro i
  rw [List.getElem?_set]
  by_cases hi : i < m
  · rw [mkT_get? d ((k, x) :: l) hi, lk_cons, mkT_length]
    by_cases hk : k = i
    · subst hk; simp [hi]
    · simp [hk, mkT_get? _ _ hi]
  · have h1 : (mkT m d ((k, x) :: l))[i]? = none := by simp [mkT, hi]
    have h2 : (mkT m d l)[i]? = none := by simp [mkT, hi]
    rw [h1, h2, mkT_length]
    by_cases hk : k = i
    · subst hk; simp [hi]
    · simp [hk]
theorem lk_map (g : AV → AV) (d : AV) (k : Nat) : ∀ (l : List (Nat × AV)), lk (g d) (l.map fun p => (p.1, g p.2)) k = g (lk d l k)
  | [] => rfl
  | (j, x) :: l => by
    simp only [List.map_cons, lk_cons, lk_map g d k l]
    split <;> rfl
theorem mkT_map (m : Nat) (d : AV) (l : List (Nat × AV)) (g : AV → AV) : (mkT m d l).map g = mkT m (g d) (l.map fun p => (p.1, g p.2)) := by
  simp only [mkT, List.map_map]
  apply List.map_congr_left
  intro k _
  simp [lk_map]
theorem lk_enum (d : AV) : ∀ (as : List AV) (i k : Nat), lk d (enumA i as) k = if i ≤ k ∧ k < i + as.length then as.getD (k - i) d else d
  | [], i, k => by simp [enumA, lk]
  | a :: as, i, k => by
    simp only [enumA, lk_cons, lk_enum d as (i + 1) k, List.length_cons]
    by_cases h1 : i = k
    · subst h1; simp
    · rw [if_neg h1]
      by_cases h2 : i + 1 ≤ k ∧ k < i + 1 + as.length
      · rw [if_pos h2, if_pos (by omega)]
        obtain ⟨n, hn⟩ : ∃ n, k - i = n + 1 := ⟨k - i - 1, by omega⟩
        rw [hn, getD_succ, show k - (i + 1) = n from by omega]
      · rw [if_neg h2, if_neg (by omega)]
theorem enter_mkT (args : List AV) (m : Nat) (h : args.length ≤ m) : args ++ List.replicate (m - args.length) (.tup []) = mkT m (.tup []) (enumA 0 args) := by
  apply List.ext_getElem?
  intro i
  by_cases hi : i < m
  · rw [mkT_get? _ _ hi, lk_enum]
    by_cases h2 : i < args.length
    · rw [List.getElem?_append_left h2, if_pos (by omega)]
      simp [h2]
    · rw [List.getElem?_append_right (by omega), if_neg (by omega), List.getElem?_replicate]
      rw [if_pos (by omega)]
  · rw [List.getElem?_eq_none (by simp; omega), List.getElem?_eq_none (by rw [mkT_length]; omega)]
theorem keep_mkT (keep : List Nat) (m : Nat) (d : AV) (l : List (Nat × AV)) : keepT keep (mkT m d l) = mkT m .junk (keep.map fun k => (k, lk d l k)) := by
  apply List.ext_getElem?
  intro i
  simp only [keepT, List.getElem?_mapIdx]
  by_cases hi : i < m
  · rw [mkT_get? _ _ hi, mkT_get? _ _ hi]
    simp only [Option.map_some, Option.some.injEq]
    have key : ∀ (ks : List Nat), lk .junk (ks.map fun k => (k, lk d l k)) i = if i ∈ ks then lk d l i else .junk := by
      intro ks
      induction ks with
      | nil => simp [lk]
      | cons k ks ih =>
        simp only [List.map_cons, lk_cons, ih, List.mem_cons]
        by_cases hk : k = i
        · subst hk; simp
        · rw [if_neg hk]
          have : ¬ i = k := fun e => hk e.symm
          simp [this]
    exact (key keep).symm
  · have h1 : ∀ e l', (mkT m e l')[i]? = none := fun e l' => by simp [mkT, hi]
    rw [h1, h1]; rfl
def ltE (n : Nat) : List (Nat × AV) → Bool
  | [] => true
  | (_, x) :: l => x.lt n && ltE n l
theorem ltE_nil (n : Nat) : ltE n [] = true := nr rfl
theorem ltE_cons (n k : Nat) (x : AV) (l : List (Nat × AV)) : ltE n ((k, x) :: l) = (x.lt n && ltE n l) := nr rfl
theorem lk_lt {n : Nat} {d : AV} (hd : d.lt n = true) (k : Nat) : ∀ {l : List (Nat × AV)}, ltE n l = true → (lk d l k).lt n = true
  | [], _ => hd
  | (j, x) :: l, h => by
    simp only [ltE, Bool.and_eq_true] at h
    simp only [lk]
    split
    · exact h.1
    · exact lk_lt hd k h.2
theorem lts_all {n : Nat} : ∀ {xs : List AV}, (∀ x ∈ xs, x.lt n = true) → AV.lts n xs = true
  | [], _ => rfl
  | x :: xs, h => by simp only [AV.lts, Bool.and_eq_true]; exact ⟨h x (by simp), lts_all fun y hy => h y (by simp [hy])⟩
theorem gcK_mkT {n m : Nat} {l : List (Nat × AV)} {h : List Blk} (h1 : ltE n l = true) (h2 : (h.take n).all (Blk.lt n) = true) : gcK n (mkT m .junk l) h = some ⟨mkT m .junk l, h.take n⟩ := by
  refine gcK_take (lts_all fun x hx => ?_) h2
  simp only [mkT, List.mem_map] at hx
  obtain ⟨k, _, rfl⟩ := hx
  exact lk_lt rfl k h1
variable {X : X} {f : FuncId}
theorem pureW_in {args : List AV} {fn : Func} {c : Code} {q : AV} (m : Nat) (hf : X.P.funcs[f]? = some fn) (hm : fn.ntmps = m) (ha : args.length ≤ m) (hb : fn.body = some c) (hn : X.fns.contains f = true)
    (hw : WP X f c ⟨mkT m (.tup []) (enumA 0 args), []⟩ fun e s => match e with
      | .exit _ => False
      | _ => Is (resultsA X.P s fn.results.toList) fun rs => frz s.h 6 (oneOr rs) = some q) (hx : extA X f args [] = none := by rfl) (ht : X.tidy f = false := by rfl) : pureW X f args = some q := by
  subst hm
  refine pureW_wp hf hb hn ?_ hx ht
  rw [enter_mkT args _ ha]
  exact hw
theorem loudW_in {args : List AV} {h : List Blk} {fn : Func} {c : Code} {q : AV × List Blk} (m : Nat) (hf : X.P.funcs[f]? = some fn) (hm : fn.ntmps = m) (ha : args.length ≤ m) (hb : fn.body = some c) (hn : X.fns.contains f = true)
    (hw : WP X f c ⟨mkT m (.tup []) (enumA 0 args), h⟩ fun e s => match e with
      | .exit _ => False
      | _ => Is (resultsA X.P s fn.results.toList) fun rs => (oneOr rs, s.h) = q) (hx : extA X f args h = none := by rfl) (ht : X.tidy f = false := by rfl) : loudW X f args h = some q := by
  subst hm
  refine loudW_wp hf hb hn ?_ hx ht
  rw [enter_mkT args _ ha]
  exact hw
theorem enum_nil (i : Nat) : enumA i [] = [] := nr rfl
theorem enum_cons (i : Nat) (a : AV) (as : List AV) : enumA i (a :: as) = (i, a) :: enumA (i + 1) as := nr rfl
attribute [go_sem] List.length_append Nat.le_refl List.take_length Nat.lt_irrefl
attribute [go_sem] lk_cons mkT_get? mkT_getD mkT_set mkT_map ltE_nil ltE_cons gcK_mkT enum_nil enum_cons
end Go.Abs
end
section
namespace Go.Abs
def maskL (is : List Nat) : Nat → List Blk → List Blk
  | _, [] => []
  | k, b :: h => (if k ∈ is then b else .dead) :: maskL is (k + 1) h
def bsub (hm : List Blk) (is : List Nat) : Blk → Blk
  | .var cs ty => .var (AV.subs hm is cs) ty
  | b => b
def offL (hm : List Blk) (is : List Nat) : Nat → List Blk → List Blk
  | _, [] => []
  | k, b :: h => (if k ∈ is then .dead else bsub hm is b) :: offL hm is (k + 1) h
theorem mask_s (is : List Nat) (h : List Blk) : mask h is = maskL is 0 h := by
  have key : ∀ (h : List Blk) (n : Nat), (h.mapIdx fun i b => if i + n ∈ is then b else Blk.dead) = maskL is n h := by
    intro h
    induction h with
    | nil => intro n; rfl
    | cons b h ih =>
      intro n
      rw [List.mapIdx_cons]
      simp only [maskL, Nat.zero_add]
      congr 1
      rw [← ih (n + 1)]
      congr 1
      funext i b
      rw [show i + 1 + n = i + (n + 1) from by omega]
  exact key h 0
theorem off_s (hm : List Blk) (is : List Nat) (h : List Blk) : (h.mapIdx fun i b => if i ∈ is then Blk.dead else match b with
      | .var cs ty => .var (AV.subs hm is cs) ty
      | b => b) = offL hm is 0 h := by
  have key : ∀ (h : List Blk) (n : Nat), (h.mapIdx fun i b => if i + n ∈ is then Blk.dead else bsub hm is b) = offL hm is n h := by
    intro h
    induction h with
    | nil => intro n; rfl
    | cons b h ih =>
      intro n
      rw [List.mapIdx_cons]
      simp only [offL, Nat.zero_add]
      congr 1
      rw [← ih (n + 1)]
      congr 1
      funext i b
      rw [show i + 1 + n = i + (n + 1) from by omega]
  exact key h 0
def frzGo (t : List AV) (h hm : List Blk) (is : List Nat) (xs : List AV) : Option (List AV × St) :=
  (frzs hm 6 xs).map fun ys => (ys, ⟨t.map (AV.sub hm is), offL hm is 0 h⟩)
def frzIs (t : List AV) (h : List Blk) (xs : List AV) (is : List Nat) : Option (List AV × St) := frzGo t h (maskL is 0 h) is xs
theorem freeze_live {t : List AV} {h : List Blk} {xs : List AV} (hl : AV.lts 0 xs = false) : freeze ⟨t, h⟩ xs = frzIs t h xs (reach h 6 (addNew [] (idsOfs xs))) := by
  unfold freeze frzIs frzGo
  rw [if_neg (by simp [hl])]
  simp only [mask_s]
  cases frzs (maskL (reach h 6 (addNew [] (idsOfs xs))) 0 h) 6 xs with
  | none => rfl
  | some ys => exact congrArg (fun q => some (ys, St.mk _ q)) (off_s _ _ h)
theorem frzIs_go (t : List AV) (h : List Blk) (xs : List AV) (i : Nat) (is : List Nat) : frzIs t h xs (i :: is) = frzGo t h (maskL (i :: is) 0 h) (i :: is) xs := nr rfl
theorem frzGo_s (t : List AV) (h hm : List Blk) (is : List Nat) (xs : List AV) : frzGo t h hm is xs = (frzs hm 6 xs).map fun ys => (ys, ⟨t.map (AV.sub hm is), offL hm is 0 h⟩) := nr rfl
theorem maskL_nil (is : List Nat) (k : Nat) : maskL is k [] = [] := nr rfl
theorem maskL_cons (is : List Nat) (k : Nat) (b : Blk) (h : List Blk) : maskL is k (b :: h) = (if k ∈ is then b else .dead) :: maskL is (k + 1) h := nr rfl
theorem offL_nil (hm : List Blk) (is : List Nat) (k : Nat) : offL hm is k [] = [] := nr rfl
theorem offL_cons (hm : List Blk) (is : List Nat) (k : Nat) (b : Blk) (h : List Blk) : offL hm is k (b :: h) = (if k ∈ is then .dead else bsub hm is b) :: offL hm is (k + 1) h := nr rfl
theorem bsub_var (hm : List Blk) (is : List Nat) (cs : List AV) (ty : Option Nat) : bsub hm is (.var cs ty) = .var (AV.subs hm is cs) ty := nr rfl
theorem bsub_arr (hm : List Blk) (is : List Nat) (e sz : Nat) (es : List (List AV)) : bsub hm is (.arr e sz es) = .arr e sz es := nr rfl
theorem bsub_dead (hm : List Blk) (is : List Nat) : bsub hm is .dead = .dead := nr rfl
theorem mem_nil' (a : Nat) : (a ∈ ([] : List Nat)) = False := by simp
theorem mem_cons' (a b : Nat) (l : List Nat) : (a ∈ b :: l) = (a = b ∨ a ∈ l) := by simp
theorem idsOfs_nil : idsOfs [] = [] := nr rfl
theorem idsOfs_cons (x : AV) (xs : List AV) : idsOfs (x :: xs) = idsOf x ++ idsOfs xs := nr rfl
theorem ids_v (x : Value) : idsOf (.v x) = [] := nr rfl
theorem ids_fs (es : List (List AV)) (b : Bool) : idsOf (.fs es b) = [] := nr rfl
theorem ids_sl (id off len : Nat) (b : Bool) : idsOf (.sl id off len b) = [id] := nr rfl
theorem ids_ptr (id off : Nat) : idsOf (.ptr id off) = [id] := nr rfl
theorem addNew_nil (acc : List Nat) : addNew acc [] = acc := nr rfl
theorem addNew_cons (acc : List Nat) (i : Nat) (is : List Nat) : addNew acc (i :: is) = if i ∈ acc then addNew acc is else addNew (acc ++ [i]) is := nr rfl
def stepB (l : List Nat) : Option Blk → List Nat
  | some (.var cs _) => addNew l (idsOfs cs)
  | _ => l
def stepsR (h : List Blk) : List Nat → List Nat → List Nat
  | [], l => l
  | i :: is, l => stepsR h is (stepB l h[i]?)
def reachK (h : List Blk) (k : Nat) (acc more : List Nat) : List Nat := if more.length = acc.length then acc else reach h k more
theorem reach_s (h : List Blk) (k : Nat) (acc : List Nat) : reach h (k + 1) acc = reachK h k acc (stepsR h acc acc) := by
  have key : ∀ (is l : List Nat), is.foldl (fun l i => match h[i]? with
      | some (.var cs _) => addNew l (idsOfs cs)
      | _ => l) l = stepsR h is l := by
    intro is
    induction is with
    | nil => intro l; rfl
    | cons i is ih => intro l; simp only [List.foldl_cons, stepsR, ih]; congr 1
  have h1 := key acc acc
  simp only [reach, reachK]
  rw [← h1]
  rfl
theorem reachK_same (h : List Blk) (k : Nat) (acc : List Nat) : reachK h k acc acc = acc := by simp [reachK]
theorem stepsR_nil (h : List Blk) (l : List Nat) : stepsR h [] l = l := nr rfl
theorem stepsR_cons (h : List Blk) (i : Nat) (is l : List Nat) : stepsR h (i :: is) l = stepsR h is (stepB l h[i]?) := nr rfl
theorem stepB_var (l : List Nat) (cs : List AV) (ty : Option Nat) : stepB l (some (.var cs ty)) = addNew l (idsOfs cs) := nr rfl
theorem stepB_arr (l : List Nat) (e sz : Nat) (es : List (List AV)) : stepB l (some (.arr e sz es)) = l := nr rfl
theorem sub_v (hm : List Blk) (is : List Nat) (x : Value) : AV.sub hm is (.v x) = .v x := nr rfl
theorem sub_junk (hm : List Blk) (is : List Nat) : AV.sub hm is .junk = .junk := nr rfl
theorem sub_fs (hm : List Blk) (is : List Nat) (es : List (List AV)) (b : Bool) : AV.sub hm is (.fs es b) = .fs es b := nr rfl
theorem sub_fp (hm : List Blk) (is : List Nat) (cs : List AV) : AV.sub hm is (.fp cs) = .fp cs := nr rfl
theorem sub_sl (hm : List Blk) (is : List Nat) (id off len : Nat) (b : Bool) : AV.sub hm is (.sl id off len b) = if id ∈ is then (frz hm 6 (.sl id off len b)).getD .junk else .sl id off len b := nr rfl
theorem sub_ptr (hm : List Blk) (is : List Nat) (id off : Nat) : AV.sub hm is (.ptr id off) = if id ∈ is then (frz hm 6 (.ptr id off)).getD .junk else .ptr id off := nr rfl
theorem sub_eptr (hm : List Blk) (is : List Nat) (id i o : Nat) : AV.sub hm is (.eptr id i o) = if id ∈ is then (frz hm 6 (.eptr id i o)).getD .junk else .eptr id i o := nr rfl
theorem sub_agg (hm : List Blk) (is : List Nat) (cs : List AV) : AV.sub hm is (.agg cs) = .agg (AV.subs hm is cs) := nr rfl
theorem sub_tup (hm : List Blk) (is : List Nat) (cs : List AV) : AV.sub hm is (.tup cs) = .tup (AV.subs hm is cs) := nr rfl
theorem subs_nil (hm : List Blk) (is : List Nat) : AV.subs hm is [] = [] := nr rfl
theorem subs_cons (hm : List Blk) (is : List Nat) (x : AV) (xs : List AV) : AV.subs hm is (x :: xs) = x.sub hm is :: AV.subs hm is xs := nr rfl
attribute [go_sem] freeze_live frzIs_go frzGo_s maskL_nil maskL_cons offL_nil offL_cons bsub_var bsub_arr bsub_dead mem_nil' mem_cons' idsOfs_nil idsOfs_cons ids_v ids_fs ids_sl ids_ptr addNew_nil addNew_cons reach_s reachK_same stepsR_nil stepsR_cons stepB_var stepB_arr sub_v sub_junk sub_fs sub_fp sub_sl sub_ptr sub_eptr sub_agg sub_tup subs_nil subs_cons Option.getD_some or_false or_true true_or false_or Nat.not_lt_zero
end Go.Abs
end
section
namespace Go.Abs
variable {P : Program} {t : TypeId}
def byteAt (s : ByteArray) (i : Nat) : Int := ((s.get! i).toNat : Int)
def indexK (P : Program) (x i : AV) : Option TI → Option AV
  | some ⟨.str, _, _, _⟩ => match x, i with
    | .v (.string s), .v (.int _ n) => if 0 ≤ n then (match s[n.toNat]? with
      | some b => some (.v (.int .u8 b.toNat))
      | none => none) else none
    | _, _ => none
  | some ⟨.array m e, _, _, _⟩ => match x, i with
    | .agg cs, .v (.int _ n) => match tyOf P e with
      | some ie => if 0 ≤ n ∧ n < (m : Int) then partA P e cs (n.toNat * ie.size) else none
      | none => none
    | _, _ => none
  | _ => none
theorem indexV_s (x i : AV) : indexV P t x i = indexK P x i (tyOf P t) := by
  unfold indexV indexK
  cases tyOf P t with
  | none => rfl
  | some q =>
    obtain ⟨d, a, c, z⟩ := q
    cases d <;> cases x <;> first | rfl | skip
    all_goals (rename_i y; cases y <;> cases i <;> first | rfl | (rename_i z; cases z <;> rfl))
theorem byte_get (s : ByteArray) (i : Nat) (h : i < s.size) : s[i]? = some (s.get! i) := by
  rw [getElem?_pos s i h]
  congr 1
  show s.get i h = s.get! i
  unfold ByteArray.get ByteArray.get!
  simp [getElem!_pos, h]
theorem indexK_str (s : ByteArray) (k : IntKind) (n : Int) (a b : Nat) (z : Option Value) (h0 : 0 ≤ n) (h : n.toNat < s.size) : indexK P (.v (.string s)) (.v (.int k n)) (some ⟨.str, a, b, z⟩) = some (.v (.int .u8 (byteAt s n.toNat))) := by
  simp only [indexK, if_pos h0, byte_get s _ h, byteAt]
theorem toNat_cast' (n : Nat) : (n : Int).toNat = n := nr rfl
theorem toNat_zero' : (0 : Int).toNat = 0 := nr rfl
attribute [go_sem] indexV_s indexK_str toNat_cast' toNat_zero' slcK_str slcT_some sliceA_s
theorem setAll_nil (t xs : List AV) : setAll t [] xs = t := by cases xs <;> rfl
theorem setAll_cons (t xs : List AV) (k : Nat) (x : AV) (ks : List Nat) : setAll t (k :: ks) (x :: xs) = setAll (t.set k x) ks xs := nr rfl
attribute [go_sem] setAll_nil setAll_cons keep_mkT
theorem addNew_one (i : Nat) : addNew [] [i] = [i] := rfl
def frzHB (n m k id len : Nat) (kl : List (Nat × AV)) (h : List Blk) : Option Blk → Option St
  | some (.arr _ _ es) => if len = es.length then gcK n (mkT m .junk (kl.map fun p => (p.1, if p.1 = k then .fs es false else AV.sub (maskL [id] 0 h) [id] p.2))) (offL (maskL [id] 0 h) [id] 0 h) else none
  | _ => none
def frzH (n m k : Nat) (x : AV) (kl : List (Nat × AV)) (h : List Blk) : Option St := match x with
  | .fs es _ => gcK n (mkT m .junk (kl.map fun p => (p.1, if p.1 = k then .fs es false else p.2))) h
  | .sl id 0 len _ => frzHB n m k id len kl h h[id]?
  | _ => none
theorem frzH_fs (n m k : Nat) (es : List (List AV)) (b : Bool) (kl : List (Nat × AV)) (h : List Blk) : frzH n m k (.fs es b) kl h = gcK n (mkT m .junk (kl.map fun p => (p.1, if p.1 = k then .fs es false else p.2))) h := nr rfl
theorem frzH_sl (n m k id len : Nat) (b : Bool) (kl : List (Nat × AV)) (h : List Blk) : frzH n m k (.sl id 0 len b) kl h = frzHB n m k id len kl h h[id]? := nr rfl
theorem frzHB_arr (n m k id e sz : Nat) (len : Nat) (es : List (List AV)) (kl : List (Nat × AV)) (h : List Blk) (hl : len = es.length) : frzHB n m k id len kl h (some (.arr e sz es)) = gcK n (mkT m .junk (kl.map fun p => (p.1, if p.1 = k then .fs es false else AV.sub (maskL [id] 0 h) [id] p.2))) (offL (maskL [id] 0 h) [id] 0 h) := by
  simp only [frzHB]; rw [if_pos hl]
theorem frzK_mkT (K : List Nat) (m k : Nat) (d y : AV) (l : List (Nat × AV)) (g : AV → AV) : keepT K (setAll ((mkT m d l).map g) [k] [y]) = mkT m .junk (K.map fun j => (j, if j = k then y else g (lk d l j))) := by
  rw [mkT_map, setAll_cons, setAll_nil, mkT_set, keep_mkT]
  congr 1
  apply List.map_congr_left
  intro j _
  rw [lk_cons, lk_map]
  by_cases hj : k = j
  · rw [if_pos hj, if_pos hj.symm]
  · rw [if_neg hj, if_neg (fun h => hj h.symm)]
theorem frzK_mkT' (K : List Nat) (m k : Nat) (d y : AV) (l : List (Nat × AV)) : keepT K (setAll (mkT m d l) [k] [y]) = mkT m .junk (K.map fun j => (j, if j = k then y else lk d l j)) := by
  have := frzK_mkT K m k d y l id
  simpa using this
theorem frzH_eq {n m k : Nat} {K : List Nat} {d : AV} {l : List (Nat × AV)} {h : List Blk} {s : St} (he : frzH n m k (lk d l k) (K.map fun j => (j, lk d l j)) h = some s) :
    ((freeze ⟨mkT m d l, h⟩ [lk d l k]).bind fun p => gcK n (keepT K (setAll p.2.t [k] p.1)) p.2.h) = some s := by
  revert he
  generalize hx : lk d l k = x
  intro he
  cases x with
  | fs es b =>
    simp only [frzH, List.map_map] at he
    have : freeze ⟨mkT m d l, h⟩ [.fs es b] = some ([.fs es false], ⟨mkT m d l, h⟩) := by
      unfold freeze; rw [if_pos (by rfl)]; rfl
    rw [this, Option.bind_some]
    dsimp only
    rw [frzK_mkT']
    exact he
  | sl id off len b =>
    cases off with
    | succ o => simp [frzH] at he
    | zero =>
      rw [frzH_sl] at he
      cases hb : h[id]? with
      | none => rw [hb] at he; simp [frzHB] at he
      | some bl =>
        rw [hb] at he
        cases bl with
        | dead => simp [frzHB] at he
        | iter b p => simp [frzHB] at he
        | var cs => simp [frzHB] at he
        | arr e sz es =>
          simp only [frzHB, List.map_map] at he
          split at he
          · rename_i hl
            rw [freeze_live (by simp [AV.lts, AV.lt])]
            have hr : reach h 6 (addNew [] (idsOfs [.sl id 0 len b])) = [id] := by
              have h1 : idsOfs [.sl id 0 len b] = [id] := rfl
              rw [h1, addNew_one, reach_s, stepsR_cons, stepsR_nil, hb, stepB_arr, reachK_same]
            rw [hr, frzIs_go, frzGo_s]
            have hm : (maskL [id] 0 h)[id]? = some (.arr e sz es) := by
              rw [← mask_s]; simp [mask, hb]
            have hf : frzs (maskL [id] 0 h) 6 [.sl id 0 len b] = some [.fs es false] := by
              simp only [frzs, mapO, frz, hm]
              rw [if_pos (by omega)]
              simp [cutEs, hl]
            rw [hf, Option.map_some, Option.bind_some]
            dsimp only
            rw [frzK_mkT]
            exact he
          · cases he
  | _ => simp [frzH] at he
def frzO (n m k : Nat) (K : List Nat) (d : AV) (l : List (Nat × AV)) (h : List Blk) : Option St := (freeze ⟨mkT m d l, h⟩ [lk d l k]).bind fun p => gcK n (keepT K (setAll p.2.t [k] p.1)) p.2.h
def orO (a b : Option St) : Option St := match a with
  | some s => some s
  | none => b
theorem orO_some (s : St) (b : Option St) : orO (some s) b = some s := nr rfl
theorem frzO_eq (n m k : Nat) (K : List Nat) (d : AV) (l : List (Nat × AV)) (h : List Blk) : frzO n m k K d l h = orO (frzH n m k (lk d l k) (K.map fun j => (j, lk d l j)) h) (frzO n m k K d l h) := by
  cases he : frzH n m k (lk d l k) (K.map fun j => (j, lk d l j)) h with
  | none => rfl
  | some s => rw [orO_some]; exact frzH_eq he
attribute [go_sem] frzH_fs frzH_sl frzHB_arr orO_some
end Go.Abs
end
section
namespace Go.Abs
mutual
theorem ren_id {f : Nat → Option Nat} (hf : ∀ i, f i = some i) : ∀ x : AV, x.ren f = x
  | .sl id off len full => by rw [AV.ren, hf]
  | .ptr id off => by rw [AV.ren, hf]
  | .eptr id i o => by rw [AV.ren, hf]
  | .fn g caps => by rw [AV.ren, rens_id hf caps]
  | .ifc t x => by rw [AV.ren, ren_id hf x]
  | .agg cs => by rw [AV.ren, rens_id hf cs]
  | .tup vs => by rw [AV.ren, rens_id hf vs]
  | .junk => by rw [AV.ren] <;> simp
  | .v x => by rw [AV.ren] <;> simp
  | .fs es b => by rw [AV.ren] <;> simp
  | .fp cs => by rw [AV.ren] <;> simp
theorem rens_id {f : Nat → Option Nat} (hf : ∀ i, f i = some i) : ∀ xs : List AV, AV.rens f xs = xs
  | [] => by rw [AV.rens]
  | x :: xs => by rw [AV.rens, ren_id hf x, rens_id hf xs]
end
theorem keepF_nil (i : Nat) : keepF [] i = some i := by simp [keepF]
end Go.Abs
end
section
namespace Go.Abs
mutual
theorem ren_noids (f : Nat → Option Nat) : ∀ x : AV, idsOf x = [] → x.ren f = x
  | .sl id off len full, h => by simp [idsOf] at h
  | .ptr id off, h => by simp [idsOf] at h
  | .eptr id i o, h => by simp [idsOf] at h
  | .fn g caps, h => by rw [idsOf] at h; rw [AV.ren, rens_noids f caps h]
  | .ifc t x, h => by rw [idsOf] at h; rw [AV.ren, ren_noids f x h]
  | .agg cs, h => by rw [idsOf] at h; rw [AV.ren, rens_noids f cs h]
  | .tup vs, h => by rw [idsOf] at h; rw [AV.ren, rens_noids f vs h]
  | .junk, h => by rw [AV.ren] <;> simp
  | .v x, h => by rw [AV.ren] <;> simp
  | .fs es b, h => by rw [AV.ren] <;> simp
  | .fp cs, h => by rw [AV.ren] <;> simp
theorem rens_noids (f : Nat → Option Nat) : ∀ xs : List AV, idsOfs xs = [] → AV.rens f xs = xs
  | [], h => by rw [AV.rens]
  | x :: xs, h => by
    rw [idsOfs, List.append_eq_nil_iff] at h
    rw [AV.rens, ren_noids f x h.1, rens_noids f xs h.2]
end
end Go.Abs
end
section
namespace Go.Abs
def makK2 (h : List Blk) (e : Nat) (n m : Int) : Option TI → Option (List AV) → Option Res
  | some ie, some z => if 0 ≤ n ∧ n ≤ m ∧ ie.bytes * m ≤ 2 ^ 47 ∧ z.length = ie.size ∧ 0 < ie.size ∧ 0 < ie.bytes then
        some (.new (.sl h.length 0 n.toNat false) [.arr e ie.size (List.replicate n.toNat (z.map normC))]) else none
  | _, _ => none
def makK (P : Program) (h : List Blk) (l c : AV) : Option TI → Option Res
  | some ⟨.slice e, _, _, _⟩ => match l, c with
    | .v (.int _ n), .v (.int _ m) => makK2 h e n m (tyOf P e) (zeroA P e)
    | _, _ => none
  | _ => none
theorem makeA_s {P : Program} (ts : List AV) (h : List Blk) (t : Nat) (l c : AV) : makeA P ⟨ts, h⟩ t l c = makK P h l c (tyOf P t) := by
  unfold makeA makK
  cases tyOf P t with
  | none => rfl
  | some q =>
    obtain ⟨d, a, b, z⟩ := q
    cases d with
    | slice e =>
      cases l with
      | v x => cases x <;> first | rfl | (cases c <;> first | rfl | (rename_i y; cases y <;> first | rfl | (dsimp only [makK2]; cases tyOf P e <;> cases zeroA P e <;> rfl)))
      | _ => first | rfl | (cases c <;> first | rfl | (rename_i y; cases y <;> rfl))
    | _ => rfl
theorem makK_slice {P : Program} (h : List Blk) (k k' : IntKind) (n m : Int) (e a b : Nat) (z : Option Value) : makK P h (.v (.int k n)) (.v (.int k' m)) (some ⟨.slice e, a, b, z⟩) = makK2 h e n m (tyOf P e) (zeroA P e) := nr rfl
theorem makK2_some (h : List Blk) (e : Nat) (n : Nat) (d : TD) (a b : Nat) (zz : Option Value) (z : List AV) (h1 : b * n ≤ 140737488355328) (h2 : z.length = a) (h3 : 0 < a) (h4 : 0 < b) :
    makK2 h e (n : Int) (n : Int) (some ⟨d, a, b, zz⟩) (some z) = some (.new (.sl h.length 0 n false) [.arr e a (List.replicate n (z.map normC))]) := by
  simp only [makK2]
  rw [if_pos ⟨by omega, by omega, by rw [← Int.natCast_mul]; omega, h2, h3, h4⟩]
  simp
attribute [go_sem] makeA_s makK_slice makK2_some
def renSl (off len : Nat) (b : Bool) : Option Nat → AV
  | some i => .sl i off len b
  | none => .junk
def renPtr (off : Nat) : Option Nat → AV
  | some i => .ptr i off
  | none => .junk
def renEp (i o : Nat) : Option Nat → AV
  | some j => .eptr j i o
  | none => .junk
theorem ren_sl (f : Nat → Option Nat) (id off len : Nat) (b : Bool) : AV.ren f (.sl id off len b) = renSl off len b (f id) := by rw [AV.ren]; cases f id <;> rfl
theorem ren_ptr (f : Nat → Option Nat) (id off : Nat) : AV.ren f (.ptr id off) = renPtr off (f id) := by rw [AV.ren]; cases f id <;> rfl
theorem ren_eptr (f : Nat → Option Nat) (id i o : Nat) : AV.ren f (.eptr id i o) = renEp i o (f id) := by rw [AV.ren]; cases f id <;> rfl
theorem renSl_some (off len i : Nat) (b : Bool) : renSl off len b (some i) = .sl i off len b := nr rfl
theorem renPtr_some (off i : Nat) : renPtr off (some i) = .ptr i off := nr rfl
theorem ren_v (f : Nat → Option Nat) (x : Value) : AV.ren f (.v x) = .v x := by rw [AV.ren] <;> simp
theorem ren_fp (f : Nat → Option Nat) (cs : List AV) : AV.ren f (.fp cs) = .fp cs := by rw [AV.ren] <;> simp
theorem rens_nil (f : Nat → Option Nat) : AV.rens f [] = [] := by rw [AV.rens]
theorem rens_cons (f : Nat → Option Nat) (x : AV) (xs : List AV) : AV.rens f (x :: xs) = x.ren f :: AV.rens f xs := by rw [AV.rens]
theorem bren_var (f : Nat → Option Nat) (cs : List AV) (ty : Option Nat) : Blk.ren f (.var cs ty) = .var (AV.rens f cs) ty := nr rfl
theorem bren_arr (f : Nat → Option Nat) (e sz : Nat) (es : List (List AV)) : Blk.ren f (.arr e sz es) = .arr e sz es := nr rfl
attribute [go_sem] ren_sl ren_ptr ren_eptr renSl_some renPtr_some ren_v ren_fp rens_nil rens_cons bren_var bren_arr
def stEl2 (n id j o : Nat) (t' : List AV) (h' : List Blk) : Option Blk → Option (List AV) → Option St
  | some (.arr e sz es), some new => (match es[j]? with
          | some c => if new.length = n ∧ o + new.length ≤ c.length then some ⟨t', h'.set id (.arr e sz (es.set j (splice c o (new.map normC))))⟩ else none
          | none => none)
  | _, _ => none
def stEl (n id j o : Nat) : Option (List AV × St) → Option St
  | some ([y], s') => stEl2 n id j o s'.t s'.h s'.h[id]? y.cells?
  | _ => none
theorem storeK_eptr (t : List AV) (h : List Blk) (id j o : Nat) (x : AV) (d : TD) (n c : Nat) (z : Option Value) : storeK ⟨t, h⟩ (.eptr id j o) x (some ⟨d, n, c, z⟩) = stEl n id j o (freeze ⟨t, h⟩ [x]) := by
  simp only [storeK, stEl]
  cases hf : freeze ⟨t, h⟩ [x] with
  | none => rfl
  | some p =>
    obtain ⟨ys, s'⟩ := p
    cases ys with
    | nil => rfl
    | cons y r =>
      cases r with
      | nil =>
        obtain ⟨t', h'⟩ := s'
        dsimp only [stEl2] <;> (
          cases h'[id]? with
          | none => rfl
          | some b => cases b with
            | arr e sz es => cases y.cells? <;> first | rfl | (dsimp only; cases es[j]? <;> rfl)
            | _ => cases y.cells? <;> rfl)
      | cons _ _ => rfl
theorem stEl_some (n id j o : Nat) (y : AV) (t' : List AV) (h' : List Blk) : stEl n id j o (some ([y], ⟨t', h'⟩)) = stEl2 n id j o t' h' h'[id]? y.cells? := nr rfl
theorem reachK_if (h : List Blk) (k : Nat) (acc more : List Nat) : reachK h k acc more = if more.length = acc.length then acc else reach h k more := nr rfl
attribute [go_sem] reachK_if storeK_eptr stEl_some
end Go.Abs
end
section
namespace Go.Abs
theorem stEl2_mapN {α : Type} {l : List α} {enc : α → List AV} {sz e id j : Nat} {t' : List AV} {h' : List Blk} {new : List AV} [h3 : EL enc sz] (hj : j < l.length) (hl : new.length = sz) :
    stEl2 sz id j 0 t' h' (some (.arr e sz (l.map enc))) (some new) = some ⟨t', h'.set id (.arr e sz ((l.map enc).set j (new.map normC)))⟩ := by
  simp only [stEl2]
  rw [List.getElem?_map, List.getElem?_eq_getElem hj]
  simp only [Option.map_some]
  have h1 : (enc l[j]).length = sz := h3.len _
  rw [if_pos ⟨hl, by omega⟩]
  unfold splice
  rw [List.take_zero, List.nil_append, List.length_map, List.drop_eq_nil_of_le (by omega), List.append_nil]
attribute [go_sem] stEl2_mapN
end Go.Abs
end
section
namespace Go.Abs
section
variable {P : Program} {t : TypeId}
theorem bin_sn (n : Bool) (x : AV) (hx : (∃ es q, x = .fs es q) ∨ x = .v (.slice none 0 0)) : binA P (if n then .neq else .eql) t x (.v (.slice none 0 0)) = eqR P t x (.v (.slice none 0 0)) n := by
  rcases hx with ⟨es, q, rfl⟩ | rfl <;> cases n <;> simp only [binA, eqR, Bool.bne_false, Bool.bne_true] <;> cases tyOf P t <;> rfl
theorem bin_nes (es : List (List AV)) (q : Bool) : binA P .neq t (.fs es q) (.v (.slice none 0 0)) = eqR P t (.fs es q) (.v (.slice none 0 0)) true := bin_sn true _ (.inl ⟨_, _, rfl⟩)
theorem bin_nez : binA P .neq t (.v (.slice none 0 0)) (.v (.slice none 0 0)) = eqR P t (.v (.slice none 0 0)) (.v (.slice none 0 0)) true := bin_sn true _ (.inr rfl)
theorem eqK_ss (n : Bool) (e s c : Nat) (z : Option Value) : eqK (.v (.slice none 0 0)) (.v (.slice none 0 0)) n (some ⟨.slice e, s, c, z⟩) = some (.v (.bool (true != n))) := nr rfl
theorem eqK_fs (n : Bool) (e s c : Nat) (z : Option Value) (x : AV) (cs : List AV) (es : List (List AV)) (q : Bool) : eqK (.fs ((x :: cs) :: es) q) (.v (.slice none 0 0)) n (some ⟨.slice e, s, c, z⟩) = some (.v (.bool (false != n))) := nr rfl
end
attribute [go_sem] bin_nes bin_nez eqK_ss eqK_fs
end Go.Abs
end
section
namespace Go.Abs
variable {P : Program} {α β γ : Type}
def oldS (W : World) : Nat → Nat → Prop := fun b _ => b < W.heap.size
def RelsC (W : World) (xs : List AV) (cs : List Value) : Prop := Rels (fun _ => .nil) (oldS W) W 0 xs cs ∧ ∀ v ∈ cs, v.oneCell' = true
theorem RelsC.nil (W : World) : RelsC W [] [] := ⟨⟨rfl, fun j x v h => by simp at h⟩, by simp⟩
theorem RelsC.one {W : World} {x : AV} {v : Value} (h : Rel (fun _ => .nil) (oldS W) W 0 x v) (hv : v.oneCell' = true) : RelsC W [x] [v] := by
  refine ⟨⟨rfl, fun j y u hy hu => ?_⟩, by simpa using hv⟩
  cases j with
  | zero => simp at hy hu; subst hy hu; exact h
  | succ j => simp at hy
theorem RelsC.app {W : World} {xs ys : List AV} {cs ds : List Value} (h : RelsC W xs cs) (g : RelsC W ys ds) : RelsC W (xs ++ ys) (cs ++ ds) := by
  obtain ⟨⟨h1, h2⟩, h3⟩ := h
  obtain ⟨⟨g1, g2⟩, g3⟩ := g
  refine ⟨⟨by simp [h1, g1], fun j x v hx hv => ?_⟩, fun v hv => ?_⟩
  · rw [List.getElem?_append] at hx hv
    by_cases hj : j < xs.length
    · rw [if_pos hj] at hx; rw [if_pos (by omega)] at hv
      exact h2 j x v hx hv
    · rw [if_neg hj] at hx; rw [if_neg (by omega)] at hv
      rw [← h1] at hv
      exact g2 _ x v hx hv
  · rcases List.mem_append.1 hv with hv | hv
    · exact h3 v hv
    · exact g3 v hv
def Opens (P : Program) (k : Nat) (t : TypeId) (enc : α → List AV) (ok : α → Prop) : Prop :=
  ∀ (H : Type) (e : TypeId × Value → H) (W : World) (cs : List Value) (d : DataW H) (ps : List MemPlace), DataW.trod e P W 0 (fun _ => true) true k t cs = some (d, ps) →
    (∀ n ∈ d.weights P t, n ≤ reachBytes) → ∃ x, ok x ∧ RelsC W (enc x) cs
theorem Opens.zero (t : TypeId) (enc : α → List AV) (ok : α → Prop) : Opens P 0 t enc ok := by
  intro H e W cs d ps h; simp [DataW.trod] at h
theorem Opens.map {k : Nat} {t : TypeId} {enc : α → List AV} {ok : α → Prop} {enc' : β → List AV} {ok' : β → Prop} (h : Opens P k t enc ok) (g : α → β) (hg : ∀ x, enc' (g x) = enc x) (ho : ∀ x, ok x → ok' (g x)) : Opens P k t enc' ok' := by
  intro H e W cs d ps hd hw
  obtain ⟨x, h1, h2⟩ := h H e W cs d ps hd hw
  exact ⟨g x, ho x h1, by rw [hg]; exact h2⟩
theorem Opens.bool (k : Nat) {t : TypeId} (ht : P.underlying t = some .bool) : Opens P k t (fun b : Bool => [.v (.bool b)]) (fun _ => True) := by
  intro H e W cs d ps hd hw
  cases k with
  | zero => simp [DataW.trod] at hd
  | succ k =>
    unfold DataW.trod at hd
    rw [ht] at hd
    match cs, hd with
    | [.bool b], hd => exact ⟨b, trivial, RelsC.one (.v _ _ rfl) rfl⟩
theorem Opens.int (k : Nat) {t : TypeId} {q : IntKind} (ht : P.underlying t = some (.int q)) : Opens P k t (fun n : Int => [.v (.int q n)]) (fun n => (Lit.int q n).wf = true) := by
  intro H e W cs d ps hd hw
  cases k with
  | zero => simp [DataW.trod] at hd
  | succ k =>
    unfold DataW.trod at hd
    rw [ht] at hd
    match cs, hd with
    | [.int q' n], hd =>
      dsimp only at hd
      split at hd
      · rename_i h
        obtain ⟨rfl, h1⟩ := h
        exact ⟨n, h1, RelsC.one (.v _ _ rfl) rfl⟩
      · cases hd
theorem Opens.string (k : Nat) {t : TypeId} (ht : P.underlying t = some .string) : Opens P k t (fun s : ByteArray => [.v (.string s)]) (fun s => s.size ≤ reachBytes) := by
  intro H e W cs d ps hd hw
  cases k with
  | zero => simp [DataW.trod] at hd
  | succ k =>
    unfold DataW.trod at hd
    rw [ht] at hd
    match cs, hd with
    | [.string s], hd =>
      dsimp only at hd
      split at hd
      · cases hd
        refine ⟨s, ?_, RelsC.one (.v _ _ rfl) rfl⟩
        exact hw s.size (by simp [DataW.weights])
      · cases hd
theorem cell_lt {w : World} {a : Addr} {v : Value} (h : w.cell? a = some v) : a.block < w.heap.size := by
  simp only [World.cell?] at h
  split at h
  · rename_i he
    exact (Array.getElem?_eq_some_iff.1 he).1
  · cases h
theorem weightsAll_mem {H : Type} {e : TypeId} : ∀ {ds : List (DataW H)} {d : DataW H} {n : Nat}, d ∈ ds → n ∈ d.weights P e → n ∈ DataW.weightsAll P e ds
  | x :: r, d, n, hd, hn => by
    simp only [DataW.weightsAll, List.mem_append]
    rcases List.mem_cons.1 hd with rfl | hd
    · exact .inl hn
    · exact .inr (weightsAll_mem hd hn)
theorem choose_list {p : Nat → α → Prop} : ∀ (n : Nat), (∀ i, i < n → ∃ x, p i x) → ∃ l : List α, l.length = n ∧ ∀ (i : Nat) (h : i < l.length), p i l[i]
  | 0, _ => ⟨[], rfl, fun i h => by simp at h⟩
  | n + 1, h => by
    obtain ⟨l, h1, h2⟩ := choose_list n (fun i hi => h i (by omega))
    obtain ⟨x, hx⟩ := h n (by omega)
    refine ⟨l ++ [x], by simp [h1], fun i hi => ?_⟩
    simp at hi
    by_cases hc : i < l.length
    · rw [List.getElem_append_left hc]; exact h2 i hc
    · have : i = n := by omega
      subst this
      rw [List.getElem_append_right (by omega)]
      simpa [h1] using hx
theorem Opens.slice {k : Nat} {t u : TypeId} {enc : α → List AV} {ok : α → Prop} (h : Opens P k u enc ok) (ht : P.underlying t = some (.slice u)) (hn : ∀ x, (enc x).length = P.cellsOf u) :
    Opens P (k + 1) t (fun l : List α => [.fs (l.map enc) false]) (fun l => l.length * P.bytesOf u ≤ reachBytes ∧ ∀ x ∈ l, ok x) := by
  intro H e W cs d ps hd hw
  unfold DataW.trod at hd
  rw [ht] at hd
  match cs, hd with
  | [.slice none 0 0], hd =>
    refine ⟨[], ⟨by simp, by simp⟩, RelsC.one ?_ rfl⟩
    exact .fs 0 [] false none 0 (fun _ _ => .nilFunc) (by simp) (by simp) (by simp) (by simp) (by simp)
  | [.slice (some a) len cap], hd =>
    dsimp only at hd
    split at hd
    · rename_i hc
      obtain ⟨-, hc1, hc2⟩ := hc
      rw [Option.bind_eq_some_iff] at hd
      obtain ⟨elems, he, hd⟩ := hd
      rw [Option.map_eq_some_iff] at hd
      obtain ⟨rest, hr, hd⟩ := hd
      cases hd
      have hlen := mapM_some_length he
      rw [List.length_range] at hlen
      have hget := mapM_some_get he
      have key : ∀ i, i < len → ∃ x, ok x ∧ ∃ cs, W.cells? 0 (a.add (i * P.cellsOf u)) (P.cellsOf u) = some cs ∧ RelsC W (enc x) cs := by
        intro i hi
        have h1 := hget i i (by simp [hi])
        rw [List.getElem?_eq_getElem (by omega), Option.bind_eq_some_iff] at h1
        obtain ⟨cs, hcs, h2⟩ := h1
        obtain ⟨x, hx, hrel⟩ := h H e W cs _ _ h2 (fun n hn => hw n (by
          simp only [DataW.weights, ht, List.mem_cons, List.mem_append]
          refine .inr (.inl (weightsAll_mem (List.mem_map.2 ⟨elems[i], List.getElem_mem (by omega), rfl⟩) hn))))
        exact ⟨x, hx, cs, hcs, hrel⟩
      obtain ⟨l, hl1, hl2⟩ := choose_list (p := fun i x => ok x ∧ ∃ cs, W.cells? 0 (a.add (i * P.cellsOf u)) (P.cellsOf u) = some cs ∧ RelsC W (enc x) cs) len key
      refine ⟨l, ⟨?_, fun x hx => ?_⟩, RelsC.one ?_ rfl⟩
      · have := hw ((elems.length + rest.length) * P.bytesOf u) (by simp [DataW.weights, ht])
        refine Nat.le_trans (Nat.mul_le_mul_right _ ?_) this
        omega
      · obtain ⟨i, hi, rfl⟩ := List.getElem_of_mem hx
        exact (hl2 i hi).1
      · subst hl1
        have hfs := Rel.fs (μ := fun _ => .nil) (S := oldS W) (w := W) 0 (l.map enc) false (some a) cap (fun i j => (W.cell? (a.add (i * P.cellsOf u + j))).getD .nilFunc) (by simpa using hc1) hc2 (by simp) ?_ ?_
        · rw [List.length_map] at hfs; exact hfs
        · intro i c j x hi hj
          obtain ⟨hli, rfl⟩ : ∃ hli : i < l.length, enc l[i] = c := by
            rw [List.getElem?_map, Option.map_eq_some_iff] at hi
            obtain ⟨y, hy, rfl⟩ := hi
            obtain ⟨hli, rfl⟩ := List.getElem?_eq_some_iff.1 hy
            exact ⟨hli, rfl⟩
          obtain ⟨-, cs, hcs, ⟨⟨hr1, hr2⟩, hr3⟩⟩ := hl2 i hli
          refine ⟨a, rfl, ?_⟩
          have hjl : j < (enc l[i]).length := (List.getElem?_eq_some_iff.1 hj).1
          have hcell : W.cell? (a.add (i * P.cellsOf u + j)) = cs[j]? := by
            simp only [World.cells?] at hcs
            rw [if_pos (by omega)] at hcs
            have := mapM_some_get hcs j j (by rw [List.getElem?_range]; rw [← hn l[i]]; exact hjl)
            rw [← this]
            rw [Addr.add_add]
          rw [hn]
          have hv : cs[j]? = some cs[j] := List.getElem?_eq_getElem (by omega)
          rw [hv] at hcell
          refine ⟨by rw [hcell]; rfl, ?_, ?_⟩
          · show (a.add _).block < W.heap.size
            exact cell_lt hcell
          · rw [hcell]; exact hr3 _ (List.getElem_mem _)
        · intro i c j x hi hj
          obtain ⟨hli, rfl⟩ : ∃ hli : i < l.length, enc l[i] = c := by
            rw [List.getElem?_map, Option.map_eq_some_iff] at hi
            obtain ⟨y, hy, rfl⟩ := hi
            obtain ⟨hli, rfl⟩ := List.getElem?_eq_some_iff.1 hy
            exact ⟨hli, rfl⟩
          obtain ⟨-, cs, hcs, ⟨⟨hr1, hr2⟩, hr3⟩⟩ := hl2 i hli
          have hjl : j < (enc l[i]).length := (List.getElem?_eq_some_iff.1 hj).1
          have hcell : W.cell? (a.add (i * P.cellsOf u + j)) = cs[j]? := by
            simp only [World.cells?] at hcs
            rw [if_pos (by omega)] at hcs
            have := mapM_some_get hcs j j (by rw [List.getElem?_range]; rw [← hn l[i]]; exact hjl)
            rw [← this]
            rw [Addr.add_add]
          have hv : cs[j]? = some cs[j] := List.getElem?_eq_getElem (by omega)
          rw [hcell, hv]
          exact hr2 j x _ hj hv
    · cases hd
def OpensF (P : Program) (k : Nat) (off : Nat) (fs : List Field) (n : Nat) (enc : α → List AV) (ok : α → Prop) : Prop :=
  ∀ (H : Type) (e : TypeId × Value → H) (W : World) (cs : List Value) (xs : List (DataW H × List MemPlace)), (fs.mapM fun f => DataW.trod e P W 0 (fun _ => true) true k f.type ((cs.drop f.offset).take (P.cellsOf f.type))) = some xs →
    (∀ m ∈ DataW.weightsEach P (fs.map (·.type)) (xs.map (·.1)), m ≤ reachBytes) → ∃ x, ok x ∧ RelsC W (enc x) ((cs.drop off).take n)
theorem OpensF.nil (k off : Nat) : OpensF P k off [] 0 (fun _ : Unit => []) (fun _ => True) := by
  intro H e W cs xs h hw
  exact ⟨(), trivial, by simpa using RelsC.nil W⟩
theorem OpensF.cons {k off n m : Nat} {f : Field} {fs : List Field} {enc : α → List AV} {ok : α → Prop} {enc' : β → List AV} {ok' : β → Prop} (h : Opens P k f.type enc ok) (g : OpensF P k (off + m) fs n enc' ok') (ho : f.offset = off) (hm : P.cellsOf f.type = m) :
    OpensF P k off (f :: fs) (m + n) (fun x : α × β => enc x.1 ++ enc' x.2) (fun x => ok x.1 ∧ ok' x.2) := by
  intro H e W cs xs hx hw
  subst ho hm
  rw [List.mapM_cons] at hx
  cases h1 : DataW.trod e P W 0 (fun _ => true) true k f.type ((cs.drop f.offset).take (P.cellsOf f.type)) with
  | none => rw [h1] at hx; cases hx
  | some y =>
    rw [h1] at hx
    cases h2 : fs.mapM fun f => DataW.trod e P W 0 (fun _ => true) true k f.type ((cs.drop f.offset).take (P.cellsOf f.type)) with
    | none => rw [h2] at hx; cases hx
    | some ys =>
      rw [h2] at hx
      cases hx
      obtain ⟨d, p⟩ := y
      simp only [List.map_cons, DataW.weightsEach, List.mem_append] at hw
      obtain ⟨a, ha1, ha2⟩ := h H e W _ d p h1 (fun n hn => hw n (.inl hn))
      obtain ⟨b, hb1, hb2⟩ := g H e W cs ys h2 (fun n hn => hw n (.inr hn))
      refine ⟨(a, b), ⟨ha1, hb1⟩, ?_⟩
      rw [List.take_add, List.drop_drop]
      exact ha2.app hb2
theorem Opens.struct {k t n : Nat} {fs : Array Field} {enc : α → List AV} {ok : α → Prop} (h : OpensF P k 0 fs.toList n enc ok) (ht : P.underlying t = some (.struct fs)) (hn : P.cellsOf t = n) : Opens P (k + 1) t enc ok := by
  intro H e W cs d ps hd hw
  unfold DataW.trod at hd
  rw [ht] at hd
  dsimp only at hd
  split at hd
  · rename_i hl
    rw [Option.map_eq_some_iff] at hd
    obtain ⟨xs, hx, hd⟩ := hd
    cases hd
    simp only [DataW.weights, ht] at hw
    obtain ⟨x, h1, h2⟩ := h H e W cs xs hx hw
    refine ⟨x, h1, ?_⟩
    rw [List.drop_zero, List.take_of_length_le (by omega)] at h2
    exact h2
  · cases hd
theorem Opens.rec {t : TypeId} {enc : α → List AV} {ok : α → Prop} (h : ∀ k, (∀ j, j ≤ k → Opens P j t enc ok) → Opens P (k + 1) t enc ok) : ∀ k, Opens P k t enc ok := by
  have : ∀ k, ∀ j, j ≤ k → Opens P j t enc ok := by
    intro k
    induction k with
    | zero => intro j hj; obtain rfl : j = 0 := by omega
              exact Opens.zero _ _ _
    | succ k ih =>
      intro j hj
      by_cases hc : j ≤ k
      · exact ih j hc
      · obtain rfl : j = k + 1 := by omega
        exact h k ih
  exact fun k => this k k (Nat.le_refl _)
theorem Opens.slice' {t u : TypeId} {enc : α → List AV} {ok : α → Prop} {k : Nat} (h : ∀ j, j + 1 ≤ k → Opens P j u enc ok) (ht : P.underlying t = some (.slice u)) (hn : ∀ x, (enc x).length = P.cellsOf u) :
    Opens P k t (fun l : List α => [.fs (l.map enc) false]) (fun l => l.length * P.bytesOf u ≤ reachBytes ∧ ∀ x ∈ l, ok x) := by
  cases k with
  | zero => exact Opens.zero _ _ _
  | succ k => exact Opens.slice (h k (Nat.le_refl _)) ht hn
section
variable {H : Type} {e : TypeId × Value → H} {W : World} {v : Value} {d : DataW H} {ps : List MemPlace} {t : TypeId} {enc : α → List AV} {ok : α → Prop} {ts : List TypeId} {ds : List (DataW H)} {j : Nat}
theorem weigh_each (h : (DataW.weightsEach P ts ds).all (· ≤ reachBytes) = true) (ht : ts[j]? = some t) (hd : ds[j]? = some d) : ∀ n ∈ d.weights P t, n ≤ reachBytes := by
  intro n hn
  have := List.all_eq_true.1 h _ (DataW.weights_mem_each ht hd n hn)
  simpa using this
theorem arg_one (ho : ∀ k, Opens P k t enc ok) (h : DataW.Trod e P W 0 (fun _ => true) true t v d ps) (hw : ∀ n ∈ d.weights P t, n ≤ reachBytes) (hv : v.cells.toList = [v]) (he : ∀ x, ∃ y, enc x = [y]) :
    ∃ x y, ok x ∧ enc x = [y] ∧ Rel (fun _ => .nil) (oldS W) W 0 y v := by
  obtain ⟨k, hk⟩ := h
  obtain ⟨x, h1, ⟨h2, h3⟩, h4⟩ := ho k H e W _ d ps hk hw
  obtain ⟨y, hy⟩ := he x
  refine ⟨x, y, h1, hy, ?_⟩
  rw [hv, hy] at h3
  exact h3 0 y v rfl rfl
theorem rels_cons {μ : Nat → G} {S : Nat → Nat → Prop} {n : Nat} {x : AV} {v : Value} {xs : List AV} {vs : List Value} (h : Rel μ S W n x v) (g : Rels μ S W n xs vs) : Rels μ S W n (x :: xs) (v :: vs) := by
  refine ⟨by simp [g.1], fun j y u hy hu => ?_⟩
  cases j with
  | zero => simp at hy hu; subst hy hu; exact h
  | succ j => exact g.2 j y u (by simpa using hy) (by simpa using hu)
theorem rels_nil {μ : Nat → G} {S : Nat → Nat → Prop} {n : Nat} : Rels μ S W n [] [] := ⟨rfl, fun j y u hy => by simp at hy⟩
end
end Go.Abs
end
