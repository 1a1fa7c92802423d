/- YtmjhgjgfinhiaaaGreatDoorXw3: a part of the interpreter by which the claim is shown, and of the walks: no conditions of its own: every theorem states its own. -/
import Derived.Test.YtmjhgjgfinhiaaaGreatDoorXw2
import Derived.Test.YtmjhgjgfinhiaaaGreatDoorXp3
import Derived.Test.YtmjhgjgfinhiaaaGreatDoorRows
set_option linter.unusedVariables false
set_option linter.unusedSimpArgs false
set_option linter.unusedSectionVars false
set_option maxHeartbeats 8000000
set_option maxRecDepth 100000
section
namespace Go.Abs.SA
open Go.Proofs
def t13 : Str := ⟨#[60, 97, 32, 120, 61, 39, 49, 39, 62, 32, 60, 98, 32, 120, 109, 108, 110, 115, 61, 39, 110, 39, 62, 116, 60, 47, 98, 62, 32, 60, 47, 97, 62]⟩
def e13 : Elem := .mk ⟨#[]⟩ ⟨#[97]⟩ [(⟨#[120]⟩, ⟨#[49]⟩)] ⟨#[]⟩ [.mk ⟨#[110]⟩ ⟨#[98]⟩ [] ⟨#[116]⟩ []]
theorem parse13 : parseM t13 = (0, e13) := by kernel_rfl
theorem write13 : writeB e13 [] = [60, 97, 32, 120, 61, 34, 49, 34, 62, 60, 98, 32, 120, 109, 108, 110, 115, 61, 34, 110, 34, 62, 116, 60, 47, 98, 62, 60, 47, 97, 62] := by kernel_rfl
theorem idxE0 {h : List Blk} {x y q w u : AV} {r : List (List AV)} {fl : Bool} {k : IntKind} {d : TD} {c : Nat} {z : Option Value} : idxK2 h (.fs ([x, y, q, w, u] :: r) fl) (.v (.int k 0)) (some ⟨d, 5, c, z⟩) = some (.fp [x, y, q, w, u]) := nr (by simp [idxK2])
theorem fit13_spec : pureW XX 41 [] = some (vB true) := by
  have hp := parse_spec t13 (by decide)
  rw [parse13] at hp
  have ht := text_spec e13 (by rw [write13]; decide)
  rw [write13] at ht
  rw [eElem_s] at hp ht
  have h1 := name_spec ⟨#[97, 45, 49]⟩ (by decide)
  rw [show okNm (lS8 ⟨#[97, 45, 49]⟩) = true by kernel_rfl] at h1
  have h2 := name_spec ⟨#[49, 97]⟩ (by decide)
  rw [show okNm (lS8 ⟨#[49, 97]⟩) = false by kernel_rfl] at h2
  simp only [t13] at hp
  simp only [e13, Elem.space, Elem.name, Elem.attrs, Elem.text, Elem.kids, List.map_cons, List.map_nil] at hp ht
  rw [eElem_s] at hp ht
  simp only [Elem.space, Elem.name, Elem.attrs, Elem.text, Elem.kids, List.map_cons, List.map_nil, eAttr] at hp ht
  have ze : ((0 : Int) = 0) = True := eq_true rfl
  have ze1 : (((1 : Nat) : Int) = 1) = True := eq_true rfl
  refine pureW_in 35 Tryz.func41 Tryz.ntmps41 (by simp) (rfl : Tryz.f41.body = some _) fns_41 ?_
  simp (maxSteps := 200000) (disch := first | omega | (simp only [go_sem] <;> omega) | fail) only [go_sem, nat_int, idxE0, ze, ze1, callA_data mode_27, hp, callA_pure mode_43, ht, callA_pure mode_46, h1, h2, decide_true]
end Go.Abs.SA
end
section
namespace Go.Abs
open Go.Proofs.YtmjhgjgfinhiaaaGreatDoor
variable {P : Program} {α β γ : Type}
def Bk {H : Type} (d : DataW H) : Nat := Rows.uptoBulk d
theorem one_leB {H : Type} (d : DataW H) : 1 ≤ Rows.uptoBulk d := by
  cases d with
  | lit l => cases l <;> simp [Rows.uptoBulk]
  | _ => simp [Rows.uptoBulk]
def BkAll {H : Type} (l : List (DataW H)) : Nat := Rows.uptoBulkAll l
theorem sum_leB {H : Type} {f : α → Nat} {g : DataW H → Nat} : ∀ (l : List α) (m : List (DataW H)), l.length = m.length → (∀ (i : Nat) (h1 : i < l.length) (h2 : i < m.length), f l[i] ≤ Bk m[i]) → (l.map f).sum ≤ BkAll m
  | [], m, _, _ => by simp
  | x :: l, [], h, _ => by simp at h
  | x :: l, y :: m, h, hh => by
    have h0 := hh 0 (by simp) (by simp)
    have := sum_leB (g := g) l m (by simpa using h) (fun i h1 h2 => by
      have := hh (i + 1) (by simp; omega) (by simp; omega)
      simpa using this)
    simp only [List.map_cons, List.sum_cons, BkAll, Rows.uptoBulkAll]
    simp only [BkAll] at this
    simp only [List.getElem_cons_zero, Bk] at h0
    omega
def OpensB (P : Program) (k : Nat) (t : TypeId) (enc : α → List AV) (ok : α → Prop) (wt : α → Nat) : Prop :=
  ∀ (H : Type) (e : TypeId × Value → H) (W : World) (cs : List Value) (d : DataW H) (ps : List MemPlace), DataW.trod e P W 0 (fun _ => true) true k t cs = some (d, ps) →
    (∀ n ∈ d.weights P t, n ≤ reachBytes) → ∃ x, ok x ∧ RelsC W (enc x) cs ∧ wt x ≤ Rows.uptoBulk d
theorem OpensB.zero (t : TypeId) (enc : α → List AV) (ok : α → Prop) (wt : α → Nat) : OpensB P 0 t enc ok wt := by
  intro H e W cs d ps h; simp [DataW.trod] at h
theorem OpensB.map {k : Nat} {t : TypeId} {enc : α → List AV} {ok : α → Prop} {wt : α → Nat} {enc' : β → List AV} {ok' : β → Prop} {wt' : β → Nat} (h : OpensB P k t enc ok wt) (g : α → β) (hg : ∀ x, enc' (g x) = enc x) (ho : ∀ x, ok x → ok' (g x)) (hw : ∀ x, wt' (g x) ≤ wt x) : OpensB P k t enc' ok' wt' := by
  intro H e W cs d ps hd hww
  obtain ⟨x, h1, h2, h3⟩ := h H e W cs d ps hd hww
  exact ⟨g x, ho x h1, by rw [hg]; exact h2, Nat.le_trans (hw x) h3⟩
theorem OpensB.of {k : Nat} {t : TypeId} {enc : α → List AV} {ok : α → Prop} (h : Opens P k t enc ok) : OpensB P k t enc ok (fun _ => 1) := by
  intro H e W cs d ps hd hw
  obtain ⟨x, h1, h2⟩ := h H e W cs d ps hd hw
  exact ⟨x, h1, h2, one_leB d⟩
theorem OpensB.string (k : Nat) {t : TypeId} (ht : P.underlying t = some .string) : OpensB P k t (fun s : ByteArray => [.v (.string s)]) (fun s => s.size ≤ reachBytes) (fun s => s.size + 1) := by
  intro H e W cs d ps hd hw
  cases k with
  | zero => simp [DataW.trod] at hd
  | succ k =>
    unfold DataW.trod at hd
    rw [ht] at hd
    match cs, hd with
    | [.string s], hd =>
      dsimp only at hd
      split at hd
      · cases hd
        refine ⟨s, ?_, RelsC.one (.v _ _ rfl) rfl, ?_⟩
        · exact hw s.size (by simp [DataW.weights])
        · simp [Rows.uptoBulk]
      · cases hd
theorem OpensB.slice {k : Nat} {t u : TypeId} {enc : α → List AV} {ok : α → Prop} {wt : α → Nat} (h : OpensB P k u enc ok wt) (ht : P.underlying t = some (.slice u)) (hn : ∀ x, (enc x).length = P.cellsOf u) :
    OpensB P (k + 1) t (fun l : List α => [.fs (l.map enc) false]) (fun l => l.length * P.bytesOf u ≤ reachBytes ∧ ∀ x ∈ l, ok x) (fun l => (l.map wt).sum + 1) := by
  intro H e W cs d ps hd hw
  unfold DataW.trod at hd
  rw [ht] at hd
  match cs, hd with
  | [.slice none 0 0], hd =>
    refine ⟨[], ⟨by simp, by simp⟩, RelsC.one ?_ rfl, by simpa using one_leB d⟩
    exact .fs 0 [] false none 0 (fun _ _ => .nilFunc) (by simp) (by simp) (by simp) (by simp) (by simp)
  | [.slice (some a) len cap], hd =>
    dsimp only at hd
    split at hd
    · rename_i hc
      obtain ⟨-, hc1, hc2⟩ := hc
      rw [Option.bind_eq_some_iff] at hd
      obtain ⟨elems, he, hd⟩ := hd
      rw [Option.map_eq_some_iff] at hd
      obtain ⟨rest, hr, hd⟩ := hd
      cases hd
      have hlen := mapM_some_length he
      rw [List.length_range] at hlen
      have hget := mapM_some_get he
      have key : ∀ i, i < len → ∃ x, (ok x ∧ ∀ hi : i < elems.length, wt x ≤ Bk elems[i].1) ∧ ∃ cs, W.cells? 0 (a.add (i * P.cellsOf u)) (P.cellsOf u) = some cs ∧ RelsC W (enc x) cs := by
        intro i hi
        have h1 := hget i i (by simp [hi])
        rw [List.getElem?_eq_getElem (by omega), Option.bind_eq_some_iff] at h1
        obtain ⟨cs, hcs, h2⟩ := h1
        obtain ⟨x, hx, hrel, hwt⟩ := h H e W cs _ _ h2 (fun n hn => hw n (by
          simp only [DataW.weights, ht, List.mem_cons, List.mem_append]
          refine .inr (.inl (weightsAll_mem (List.mem_map.2 ⟨elems[i], List.getElem_mem (by omega), rfl⟩) hn))))
        exact ⟨x, ⟨hx, fun _ => hwt⟩, cs, hcs, hrel⟩
      obtain ⟨l, hl1, hl2⟩ := choose_list (p := fun i x => (ok x ∧ ∀ hi : i < elems.length, wt x ≤ Bk elems[i].1) ∧ ∃ cs, W.cells? 0 (a.add (i * P.cellsOf u)) (P.cellsOf u) = some cs ∧ RelsC W (enc x) cs) len key
      refine ⟨l, ⟨?_, fun x hx => ?_⟩, RelsC.one ?_ rfl, ?_⟩
      · have := hw ((elems.length + rest.length) * P.bytesOf u) (by simp [DataW.weights, ht])
        refine Nat.le_trans (Nat.mul_le_mul_right _ ?_) this
        omega
      · obtain ⟨i, hi, rfl⟩ := List.getElem_of_mem hx
        exact (hl2 i hi).1.1
      · subst hl1
        have hfs := Rel.fs (μ := fun _ => .nil) (S := oldS W) (w := W) 0 (l.map enc) false (some a) cap (fun i j => (W.cell? (a.add (i * P.cellsOf u + j))).getD .nilFunc) (by simpa using hc1) hc2 (by simp) ?_ ?_
        · rw [List.length_map] at hfs; exact hfs
        · intro i c j x hi hj
          obtain ⟨hli, rfl⟩ : ∃ hli : i < l.length, enc l[i] = c := by
            rw [List.getElem?_map, Option.map_eq_some_iff] at hi
            obtain ⟨y, hy, rfl⟩ := hi
            obtain ⟨hli, rfl⟩ := List.getElem?_eq_some_iff.1 hy
            exact ⟨hli, rfl⟩
          obtain ⟨-, cs, hcs, ⟨⟨hr1, hr2⟩, hr3⟩⟩ := hl2 i hli
          refine ⟨a, rfl, ?_⟩
          have hjl : j < (enc l[i]).length := (List.getElem?_eq_some_iff.1 hj).1
          have hcell : W.cell? (a.add (i * P.cellsOf u + j)) = cs[j]? := by
            simp only [World.cells?] at hcs
            rw [if_pos (by omega)] at hcs
            have := mapM_some_get hcs j j (by rw [List.getElem?_range]; rw [← hn l[i]]; exact hjl)
            rw [← this]
            rw [Addr.add_add]
          rw [hn]
          have hv : cs[j]? = some cs[j] := List.getElem?_eq_getElem (by omega)
          rw [hv] at hcell
          refine ⟨by rw [hcell]; rfl, ?_, ?_⟩
          · show (a.add _).block < W.heap.size
            exact cell_lt hcell
          · rw [hcell]; exact hr3 _ (List.getElem_mem _)
        · intro i c j x hi hj
          obtain ⟨hli, rfl⟩ : ∃ hli : i < l.length, enc l[i] = c := by
            rw [List.getElem?_map, Option.map_eq_some_iff] at hi
            obtain ⟨y, hy, rfl⟩ := hi
            obtain ⟨hli, rfl⟩ := List.getElem?_eq_some_iff.1 hy
            exact ⟨hli, rfl⟩
          obtain ⟨-, cs, hcs, ⟨⟨hr1, hr2⟩, hr3⟩⟩ := hl2 i hli
          have hjl : j < (enc l[i]).length := (List.getElem?_eq_some_iff.1 hj).1
          have hcell : W.cell? (a.add (i * P.cellsOf u + j)) = cs[j]? := by
            simp only [World.cells?] at hcs
            rw [if_pos (by omega)] at hcs
            have := mapM_some_get hcs j j (by rw [List.getElem?_range]; rw [← hn l[i]]; exact hjl)
            rw [← this]
            rw [Addr.add_add]
          have hv : cs[j]? = some cs[j] := List.getElem?_eq_getElem (by omega)
          rw [hcell, hv]
          exact hr2 j x _ hj hv
      · have := sum_leB (f := wt) (g := Bk) l (elems.map (·.1)) (by simp; omega) (fun i h1 h2 => by
          have := (hl2 i h1).1.2 (by simpa using h2)
          simpa using this)
        simp only [Rows.uptoBulk]
        simp only [BkAll] at this
        omega
    · cases hd
def OpensFB (P : Program) (k : Nat) (off : Nat) (fs : List Field) (n : Nat) (enc : α → List AV) (ok : α → Prop) (wt : α → Nat) : Prop :=
  ∀ (H : Type) (e : TypeId × Value → H) (W : World) (cs : List Value) (xs : List (DataW H × List MemPlace)), (fs.mapM fun f => DataW.trod e P W 0 (fun _ => true) true k f.type ((cs.drop f.offset).take (P.cellsOf f.type))) = some xs →
    (∀ m ∈ DataW.weightsEach P (fs.map (·.type)) (xs.map (·.1)), m ≤ reachBytes) → ∃ x, ok x ∧ RelsC W (enc x) ((cs.drop off).take n) ∧ wt x ≤ Rows.uptoBulkAll (xs.map (·.1))
theorem OpensFB.nil (k off : Nat) : OpensFB P k off [] 0 (fun _ : Unit => []) (fun _ => True) (fun _ => 0) := by
  intro H e W cs xs h hw
  exact ⟨(), trivial, by simpa using RelsC.nil W, Nat.zero_le _⟩
theorem OpensFB.cons {k off n m : Nat} {f : Field} {fs : List Field} {enc : α → List AV} {ok : α → Prop} {enc' : β → List AV} {ok' : β → Prop} {wt : α → Nat} {wt' : β → Nat} (h : OpensB P k f.type enc ok wt) (g : OpensFB P k (off + m) fs n enc' ok' wt') (ho : f.offset = off) (hm : P.cellsOf f.type = m) :
    OpensFB P k off (f :: fs) (m + n) (fun x : α × β => enc x.1 ++ enc' x.2) (fun x => ok x.1 ∧ ok' x.2) (fun x => wt x.1 + wt' x.2) := by
  intro H e W cs xs hx hw
  subst ho hm
  rw [List.mapM_cons] at hx
  cases h1 : DataW.trod e P W 0 (fun _ => true) true k f.type ((cs.drop f.offset).take (P.cellsOf f.type)) with
  | none => rw [h1] at hx; cases hx
  | some y =>
    rw [h1] at hx
    cases h2 : fs.mapM fun f => DataW.trod e P W 0 (fun _ => true) true k f.type ((cs.drop f.offset).take (P.cellsOf f.type)) with
    | none => rw [h2] at hx; cases hx
    | some ys =>
      rw [h2] at hx
      cases hx
      obtain ⟨d, p⟩ := y
      simp only [List.map_cons, DataW.weightsEach, List.mem_append] at hw
      obtain ⟨a, ha1, ha2, ha3⟩ := h H e W _ d p h1 (fun n hn => hw n (.inl hn))
      obtain ⟨b, hb1, hb2, hb3⟩ := g H e W cs ys h2 (fun n hn => hw n (.inr hn))
      refine ⟨(a, b), ⟨ha1, hb1⟩, ?_, ?_⟩
      · rw [List.take_add, List.drop_drop]
        exact ha2.app hb2
      · simp only [List.map_cons, Rows.uptoBulkAll]
        exact Nat.add_le_add ha3 hb3
theorem OpensB.struct {k t n : Nat} {fs : Array Field} {enc : α → List AV} {ok : α → Prop} {wt : α → Nat} (h : OpensFB P k 0 fs.toList n enc ok wt) (ht : P.underlying t = some (.struct fs)) (hn : P.cellsOf t = n) : OpensB P (k + 1) t enc ok wt := by
  intro H e W cs d ps hd hw
  unfold DataW.trod at hd
  rw [ht] at hd
  dsimp only at hd
  split at hd
  · rename_i hl
    rw [Option.map_eq_some_iff] at hd
    obtain ⟨xs, hx, hd⟩ := hd
    cases hd
    simp only [DataW.weights, ht] at hw
    obtain ⟨x, h1, h2, h3⟩ := h H e W cs xs hx hw
    refine ⟨x, h1, ?_, ?_⟩
    · rw [List.drop_zero, List.take_of_length_le (by omega)] at h2
      exact h2
    · simp only [Rows.uptoBulk]; exact Nat.le_succ_of_le h3
  · cases hd
theorem OpensB.rec {t : TypeId} {enc : α → List AV} {ok : α → Prop} {wt : α → Nat} (h : ∀ k, (∀ j, j ≤ k → OpensB P j t enc ok wt) → OpensB P (k + 1) t enc ok wt) : ∀ k, OpensB P k t enc ok wt := by
  have : ∀ k, ∀ j, j ≤ k → OpensB P j t enc ok wt := by
    intro k
    induction k with
    | zero => intro j hj; obtain rfl : j = 0 := by omega
              exact OpensB.zero _ _ _ _
    | succ k ih =>
      intro j hj
      by_cases hc : j ≤ k
      · exact ih j hc
      · obtain rfl : j = k + 1 := by omega
        exact h k ih
  exact fun k => this k k (Nat.le_refl _)
theorem OpensB.slice' {t u : TypeId} {enc : α → List AV} {ok : α → Prop} {wt : α → Nat} {k : Nat} (h : ∀ j, j + 1 ≤ k → OpensB P j u enc ok wt) (ht : P.underlying t = some (.slice u)) (hn : ∀ x, (enc x).length = P.cellsOf u) :
    OpensB P k t (fun l : List α => [.fs (l.map enc) false]) (fun l => l.length * P.bytesOf u ≤ reachBytes ∧ ∀ x ∈ l, ok x) (fun l => (l.map wt).sum + 1) := by
  cases k with
  | zero => exact OpensB.zero _ _ _ _
  | succ k => exact OpensB.slice (h k (Nat.le_refl _)) ht hn
theorem arg_aggB {H : Type} {e : TypeId × Value → H} {W : World} {d : DataW H} {ps : List MemPlace} {t : TypeId} {enc : α → List AV} {ok : α → Prop} {wt : α → Nat} {cs : Array Value} (ho : ∀ k, OpensB P k t enc ok wt) (h : DataW.Trod e P W 0 (fun _ => true) true t (.agg cs) d ps) (hw : ∀ n ∈ d.weights P t, n ≤ reachBytes) :
    ∃ x, ok x ∧ wt x ≤ Rows.uptoBulk d ∧ Rel (fun _ => .nil) (oldS W) W 0 (.agg (enc x)) (.agg cs) := by
  obtain ⟨k, hk⟩ := h
  obtain ⟨x, h1, ⟨⟨h2, h3⟩, h4⟩, h5⟩ := ho k H e W _ d ps hk hw
  refine ⟨x, h1, h5, ?_⟩
  have := Rel.agg (μ := fun _ => .nil) (S := oldS W) (w := W) 0 (enc x) cs.toList h2 h3 h4
  simpa using this
end Go.Abs
end
section
namespace Go.Abs.SA
open Go.Proofs
theorem b_str (k : Nat) : OpensB Tryz.prog k 9 eS (fun _ => True) (fun s => s.size + 1) :=
  (OpensB.string k Tryz.underlying9).map id (fun _ => rfl) (fun s h => trivial) (fun s => Nat.le_refl _)
theorem b_struct {P : Program} {α β : Type} {t n : Nat} {fs : Array Field} {enc : α → List AV} {ok : α → Prop} {wt : α → Nat} {enc' : β → List AV} {ok' : β → Prop} {wt' : β → Nat} (h : ∀ k, OpensFB P k 0 fs.toList n enc ok wt) (ht : P.underlying t = some (.struct fs)) (hn : P.cellsOf t = n)
    (g : α → β) (hg : ∀ x, enc' (g x) = enc x) (ho : ∀ x, ok x → ok' (g x)) (hw : ∀ x, wt' (g x) ≤ wt x) : ∀ k, OpensB P k t enc' ok' wt'
  | 0 => OpensB.zero _ _ _ _
  | k + 1 => (OpensB.struct (h k) ht hn).map g hg ho hw
theorem b_attr : ∀ k, OpensB Tryz.prog k 40 eAttr (fun _ => True) aW :=
  b_struct (fun k => OpensFB.cons (m := 1) (b_str k) (OpensFB.cons (m := 1) (b_str k) (OpensFB.nil k 2) rfl ce_9) rfl ce_9) Tryz.underlying40 ce_40
    (fun x => (x.1, x.2.1)) (fun x => rfl) (fun x h => trivial) (fun x => by simp only [aW]; omega)
theorem b_attrs (k : Nat) : OpensB Tryz.prog k 34 (fun l : List (Str × Str) => [.fs (l.map eAttr) false]) (fun _ => True) (fun l => (l.map aW).sum) :=
  (OpensB.slice' (fun j _ => b_attr j) Tryz.underlying34 (fun x => by rw [ce_40]; rfl)).map id (fun _ => rfl) (fun l h => trivial) (fun l => by simp only [id]; omega)
theorem eWs_sum : ∀ (l : List Elem), eWs l = (l.map eW).sum
  | [] => rfl
  | e :: r => by simp only [eWs, List.map_cons, List.sum_cons, eWs_sum r]
theorem b_elems_of {k : Nat} (h : ∀ j, j + 1 ≤ k → OpensB Tryz.prog j 36 eElem (fun _ => True) eW) : OpensB Tryz.prog k 22 (fun l : List Elem => [lE l]) (fun _ => True) eWs :=
  (OpensB.slice' h Tryz.underlying22 (fun x => by rw [ce_36]; exact eElem_len x)).map id (fun _ => rfl) (fun l h => trivial) (fun l => by simp only [id, eWs_sum]; omega)
theorem b_elem : ∀ k, OpensB Tryz.prog k 36 eElem (fun _ => True) eW :=
  OpensB.rec fun k ih =>
    (OpensB.struct (OpensFB.cons (m := 1) (b_str k) (OpensFB.cons (m := 1) (b_str k) (OpensFB.cons (m := 1) (b_attrs k) (OpensFB.cons (m := 1) (b_str k) (OpensFB.cons (m := 1) (b_elems_of fun j hj => ih j (by omega)) (OpensFB.nil k 5) rfl ce_22) rfl ce_9) rfl ce_34) rfl ce_9) rfl ce_9) Tryz.underlying36 ce_36).map
      (fun x => .mk x.1 x.2.1 x.2.2.1 x.2.2.2.1 x.2.2.2.2.1) (fun x => by simp [eElem, eElems_map, eS]) (fun x h => trivial) (fun x => by simp only [eW]; omega)
theorem xmlWrites_law (e : Elem) (hb : eW e ≤ 1048576) : pureW XX 7 [.agg (eElem e)] = some (vB true) := xmlWrites_of fit13_spec e hb
end Go.Abs.SA
end
