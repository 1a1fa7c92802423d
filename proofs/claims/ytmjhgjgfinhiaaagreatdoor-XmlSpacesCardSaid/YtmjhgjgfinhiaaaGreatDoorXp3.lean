/- YtmjhgjgfinhiaaaGreatDoorXp3: a part of the interpreter by which the claim is shown, and of the walks: no conditions of its own: every theorem states its own. -/
import Derived.Test.YtmjhgjgfinhiaaaGreatDoorXp2
set_option linter.unusedVariables false
set_option linter.unusedSimpArgs false
set_option linter.unusedSectionVars false
set_option maxHeartbeats 8000000
set_option maxRecDepth 100000
section
namespace Go.Abs.SA
open Go.Proofs
theorem ev_E0 (s : St) : ev s (.const (.agg #[.string ⟨#[]⟩, .string ⟨#[]⟩, .slice none 0 0, .string ⟨#[]⟩, .slice none 0 0])) = .agg [vS ⟨#[]⟩, vS ⟨#[]⟩, .fs [] true, vS ⟨#[]⟩, .fs [] true] := nr rfl
attribute [go_sem] ev_E0
theorem lt_bld4 (b : Bool) : AV.lt 6 (bldA4 b) = true := nr (by cases b <;> rfl)
attribute [go_sem] lt_bld4
theorem kills_el (n : Nat) (x : Elem) : AV.kills n (eElem x) = eElem x := nr (by rw [eElem_s]; rfl)
theorem kill_bld4 (b : Bool) : AV.kill 3 (bldA4 b) = bldA4 b := nr (by cases b <;> rfl)
theorem lts_elem (n : Nat) (x : Elem) : AV.lts n (eElem x) = true := nr (by rw [eElem_s]; rfl)
theorem frzs_elem (h : List Blk) (k : Nat) (x : Elem) : frzs h (k + 1) (eElem x) = some (eElem x) := nr (by rw [eElem_s]; simp [frzs, mapO, frz])
theorem frzs_elem5 (h : List Blk) (x : Elem) : frzs h 5 (eElem x) = some (eElem x) := nr (frzs_elem h 4 x)
attribute [go_sem] kills_el kill_bld4 lts_elem frzs_elem5
theorem stEl2_new {id e : Nat} {l : List Elem} {t' : List AV} {h' : List Blk} {x : Elem} (z1 z2 z3 z4 z5 : AV) :
    stEl2 5 id l.length 0 t' h' (some (.arr e 5 (l.map eElem ++ [[z1, z2, z3, z4, z5]]))) (some (eElem x)) = some ⟨t', h'.set id (.arr e 5 (l.map eElem ++ [eElem x]))⟩ := nr (by
  simp only [stEl2]
  rw [List.getElem?_append_right (by rw [List.length_map]; exact Nat.le_refl _), List.length_map, Nat.sub_self]
  simp only [List.getElem?_cons_zero]
  rw [if_pos ⟨eElem_len x, by rw [eElem_len]; exact Nat.le_refl _⟩]
  have h1 : (l.map eElem ++ [[z1, z2, z3, z4, z5]]).set l.length (splice [z1, z2, z3, z4, z5] 0 ((eElem x).map normC)) = l.map eElem ++ [eElem x] := by
    have e1 : splice [z1, z2, z3, z4, z5] 0 ((eElem x).map normC) = eElem x := by rw [eElem_s]; rfl
    rw [e1, List.set_append_right _ _ (by rw [List.length_map]; exact Nat.le_refl _), List.length_map, Nat.sub_self]
    rfl
  rw [h1])
attribute [go_sem] stEl2_new
theorem elem0_lt : ∀ (n : Nat) (c : Scp) (d : Int) (r : B8), (elemM n c d r).1.1 = 0 → (elemM n c d r).2.length < r.length
  | 0, c, d, r => by rw [elemM]; intro h; simp at h
  | n + 1, c, d, r => by
    by_cases hp : Lib.hasPrefix r [60] = true
    case neg => intro h; rw [elemM, if_neg hp] at h; simp at h
    intro _
    have hl := pre_len hp
    rw [show ([60] : B8).length = 1 from rfl] at hl
    have key : (elemM (n + 1) c d r).2 <:+ r.drop 1 := by
      have ihI := (suf_ok n).2
      rw [elemM]
      have hd : ∀ (k : Nat) (l : B8), l.drop k <:+ l := fun k l => List.drop_suffix _ _
      have h2 : ((r.drop 1).dropWhile fun c => !stpB c) <:+ r.drop 1 := List.dropWhile_suffix _
      have ha := (attM_ok ((((r.drop 1).dropWhile fun c => !stpB c).length) + 1) [] ((r.drop 1).dropWhile fun c => !stpB c) (by simp)).1.trans h2
      rw [if_pos hp]
      split
      · exact List.suffix_refl _
      · dsimp only
        split
        · split
          · rename_i q hq; rw [hq] at ha; exact ha
          · rename_i ats q hq
            rw [hq] at ha
            simp only at ha
            split
            · exact ha
            · split
              · split
                · exact ha
                · split
                  · exact (hd _ _).trans ha
                  · split
                    · have hi := fun c' => (ihI c' d [] false [] (q.drop 1)).trans ((hd 1 q).trans ha)
                      split
                      · exact hi _
                      · split
                        · split
                          · exact (hd _ _).trans ((List.dropWhile_suffix _).trans ((hd _ _).trans (hi _)))
                          · exact (List.dropWhile_suffix _).trans ((hd _ _).trans (hi _))
                        · exact hi _
                    · exact ha
              · exact ha
        · exact h2
    have := key.length_le
    rw [List.length_drop] at this
    omega
theorem in_ok {s : Str} (hs : s.size ≤ 1000000) (n : Nat) (hel : ∀ m, m < n → elemSp s m) : insSp s n := by
  intro c d sp nm al r0 hr0 hn0 hd0 hd
  obtain ⟨out, hout⟩ : ∃ o, insM n c d [] false [] r0 = o := ⟨_, rfl⟩
  rw [hout]
  have f1 : (XX.live 138).contains 75 = true := by rw [live_138]; rfl
  have f2 : (XX.live 138).contains 76 = true := by rw [live_138]; rfl
  have f3 : (XX.live 138).contains 79 = true := by rw [live_138]; rfl
  have f4 : (XX.live 138).contains 152 = true := by rw [live_138]; rfl
  have f5 : (XX.live 138).contains 99 = true := by rw [live_138]; rfl
  refine loudT_in 151 Tryz.func138 Tryz.ntmps138 (by simp) (rfl : Tryz.f138.body = some _) fns_138 ?_
  simp (maxSteps := 200000) (disch := first | omega | (simp only [go_sem] <;> omega) | fail) only [go_sem]
  refine WP_loopR 3 6 (fun (a : (Nat × Bool × Bool) × B8 × B8 × List Elem) => S_138_3 (.ptr 0 0) (.ptr 1 0) (scA c) (vI d) (.ptr 5 0) (vB a.1.2.2)
    (pR s a.2.1 :: elB sp nm ⟨#[]⟩ al.length a.2.2.2.length :: atB al :: kiB a.2.2.2 :: bldD (bldA4 a.1.2.1) a.2.2.1))
    (fun a => a.1.1) (fun a => a.2.1 <:+ lS8 s ∧ 2 * a.2.1.length + 2 ≤ a.1.1 ∧ a.1.1 ≤ n ∧ a.2.2.1.length + a.2.1.length ≤ s.size ∧ a.2.2.2.length ≤ 256 ∧ insM a.1.1 c d a.2.2.2 a.1.2.2 a.2.2.1 a.2.1 = out) ((n, false, false), r0, [], []) rfl rfl ?_ ?_ ?_
  · simp (maxSteps := 200000) (disch := first | omega | (simp only [go_sem] <;> omega) | fail) only [go_sem]
    try rfl
  · exact ⟨hr0, hn0, Nat.le_refl _, by have := suf_len hr0; simpa using this, by simp, hout⟩
  rintro ⟨⟨n', b, mk⟩, r, acc, ks⟩ ⟨h1, hn, hnn, hal, hkl, hI⟩
  simp only at h1 hn hnn hal hkl hI
  clear hout
  obtain ⟨n', rfl⟩ : ∃ k, n' = k + 1 := ⟨n' - 1, by omega⟩
  rw [insM] at hI
  have hrl := suf_len h1
  have hx := indexByteX (mkS r) 60 (by omega)
  rw [lS8_mk, show UInt8.ofNat (60 : Int).toNat = 60 from rfl] at hx
  have hex : s.extract (atR s r) s.size = mkS r := by rw [ext_rest, rest_at h1]
  have hle := atR_le s r
  obtain ⟨h2a, h2b⟩ := idxB_ge 60 r
  have h3 := idxB_lt 60 r
  by_cases h0 : Lib.indexByte r 60 < 0
  · rw [if_pos h0] at hI
    subst hI
    have h0' := eq_true h0
    simp (maxSteps := 200000) (disch := first | omega | (simp only [go_sem] <;> omega) | fail) only [go_sem, nat_int, callA_data mode_indexByte, hx, hex, hle, h0']
    exact tidy_in _ _ _ _ _ _ _ _ _ _ _
  rw [if_neg h0] at hI
  have h0' := eq_false h0
  obtain ⟨k, hk⟩ := Int.eq_ofNat_of_zero_le (show 0 ≤ Lib.indexByte r 60 by omega)
  rw [hk] at h0' hx h3 hI
  simp only [Int.ofNat_eq_natCast, Int.toNat_natCast] at h0' hx h3 hI
  have hk3 : k < r.length := h3 (by omega)
  have hr1s : r.drop k <:+ lS8 s := (List.drop_suffix _ _).trans h1
  have hr1l : (r.drop k).length + k = r.length := by rw [List.length_drop]; omega
  have hrwl : (r.take k).length = k := by rw [List.length_take]; omega
  have htd : r.take k ++ r.drop k = r := List.take_append_drop k r
  obtain ⟨r1, hr1⟩ : ∃ x, r.drop k = x := ⟨_, rfl⟩
  obtain ⟨raw, hraw⟩ : ∃ x, r.take k = x := ⟨_, rfl⟩
  rw [hr1] at hr1s hr1l hI htd
  rw [hraw] at hrwl htd
  simp only [hraw] at hI
  have ha1 : atR s r ≤ atR s r1 := by unfold atR; omega
  have ha2 : atR s r1 ≤ s.size := atR_le _ _
  have hea : atR s r1 = atR s r + k := by unfold atR; omega
  have hw : IntKind.i64.wrap ((atR s r : Int) + (k : Int)) = ((atR s r1 : Nat) : Int) := by rw [IntWalk.i64_in _ (by omega), hea]; omega
  have hex1 : s.extract (atR s r) (atR s r1) = mkS raw := by rw [hea, ext_take, rest_at h1, hraw]
  have hpl := plain_spec (mkS raw) (by rw [mk_size]; omega)
  rw [mk_size, lS8_mk] at hpl
  have hpll := plM_len (raw.length + 1) [] raw
  obtain ⟨pl, hplo⟩ : ∃ x, plM (raw.length + 1) [] raw = x := ⟨_, rfl⟩
  rw [hplo] at hpl hpll hI
  obtain ⟨pt, pok⟩ := pl
  simp only [List.length_nil, Nat.zero_add] at hpl hpll hI
  cases pok with
  | false =>
    simp only [Bool.false_eq_true, ↓reduceIte] at hI
    subst hI
    simp (maxSteps := 200000) (disch := first | omega | (simp only [go_sem] <;> omega) | fail) only [go_sem, nat_int, callA_data mode_indexByte, hx, hex, hle, h0', hw, ha1, ha2, hex1, callA_pure mode_186, hpl]
    exact tidy_in _ _ _ _ _ _ _ _ _ _ _
  | true =>
  simp only [↓reduceIte] at hI
  have hcw := fun (m : Nat) (es : List (Nat × AV)) (he : nK 4 es = true) => bld_call4 f4 b acc (acc ++ pt) [vS (mkS pt)] rfl (.tup [vI (mkS pt).size, .v .nilIface]) rfl s r sp nm ⟨#[]⟩ al ks m es he (by have := writeS_spec (bldA b) (bldA_or b) acc (mkS pt) (by rw [mk_size]; omega); rwa [lS8_mk] at this)
  have htr := trimX (mkS raw) blaS ⟨by show (mkS raw).size ≤ _; rw [mk_size]; omega, .inr rfl⟩
  rw [lS8_mk, show lS8 blaS = [32, 9, 13, 10] from rfl] at htr
  obtain ⟨tr, htro⟩ : ∃ x, Lib.trimS raw [32, 9, 13, 10] = x := ⟨_, rfl⟩
  rw [htro] at htr hI
  have eN : ∀ x : B8, (mkS x = ⟨#[]⟩) = (x = []) := fun x => by rw [← mkS_inj]
  obtain ⟨mk1, hmk1⟩ : ∃ x, (mk || decide (tr ≠ [])) = x := ⟨_, rfl⟩
  rw [hmk1] at hI
  obtain ⟨acc1, hacc1⟩ : ∃ x, acc ++ pt = x := ⟨_, rfl⟩
  have hacl : acc1.length ≤ acc.length + k := by rw [← hacc1, List.length_append]; omega
  rw [hacc1] at hcw hI
  have c1 := fun t h => callP2 (t := t) (h := h) (xs := [vS ⟨#[60, 47]⟩]) f1 rfl rfl (rskip hr1s hs ⟨#[60, 47]⟩)
  rw [show lS8 ⟨#[60, 47]⟩ = tltS from rfl, show (ByteArray.mk #[60, 47]).size = 2 from rfl] at c1
  have c2 := fun t h => callP2 (t := t) (h := h) (xs := [vS ⟨#[60, 33, 45, 45]⟩]) f1 rfl rfl (rskip hr1s hs ⟨#[60, 33, 45, 45]⟩)
  rw [show lS8 ⟨#[60, 33, 45, 45]⟩ = cmO from rfl, show (ByteArray.mk #[60, 33, 45, 45]).size = 4 from rfl] at c2
  have c3 := fun t h => callP2 (t := t) (h := h) (xs := [vS ⟨#[60, 33, 91, 67, 68, 65, 84, 65, 91]⟩]) f1 rfl rfl (rskip hr1s hs ⟨#[60, 33, 91, 67, 68, 65, 84, 65, 91]⟩)
  rw [show lS8 ⟨#[60, 33, 91, 67, 68, 65, 84, 65, 91]⟩ = cdaS from rfl, show (ByteArray.mk #[60, 33, 91, 67, 68, 65, 84, 65, 91]).size = 9 from rfl] at c3
  have h3c : (mk = true ∧ mk1 = true) ∨ (mk = false ∧ mk1 = true ∧ (tr = []) = False) ∨ (mk = false ∧ mk1 = false ∧ (tr = []) = True) := by
    cases mk
    · by_cases ht : tr = []
      · exact .inr (.inr ⟨rfl, by rw [← hmk1]; simp [ht], eq_true ht⟩)
      · exact .inr (.inl ⟨rfl, by rw [← hmk1]; simp [ht], eq_false ht⟩)
    · exact .inl ⟨rfl, by rw [← hmk1]; rfl⟩
  clear hmk1
  rcases h3c with ⟨rfl, rfl⟩ | ⟨rfl, rfl, htr0⟩ | ⟨rfl, rfl, htr0⟩
  case' inl => have htr0 := hk
  all_goals
    simp (maxSteps := 200000) (disch := first | omega | (simp only [go_sem] <;> omega) | fail) only [go_sem, nat_int, callA_data mode_indexByte, hx, hex, hle, h0', hw, ha1, ha2, hex1, callA_pure mode_186, hpl, hcw, callA_data mode_trim, htr, eN, htr0, ne_eq, not_true, not_false_eq_true, take5]
    rcases Bool.eq_false_or_eq_true (Lib.hasPrefix r1 tltS) with hp | hp
    · rw [hp] at c1 hI
      simp only [↓reduceIte] at c1 hI
      by_cases hks : ks = []
      · have hk1 : ((0 : Int) < (ks.length : Int)) = False := eq_false (by rw [hks]; simp)
        have hk2 : (0 < ks.length) = False := eq_false (by rw [hks]; simp)
        have hcs := fun (m : Nat) (es : List (Nat × AV)) (he : nK 4 es = true) => bld_string4 f5 true acc1 s (r1.drop 2) sp nm ⟨#[]⟩ al ks m es he
        simp only [hks, ne_eq, not_true, and_false, ↓reduceIte, Bool.false_eq_true] at hI
        rw [← hks] at hI
        subst hI
        simp (maxSteps := 200000) (disch := first | omega | (simp only [go_sem] <;> omega) | fail) only [go_sem, nat_int, callA_data mode_indexByte, hx, hex, hle, h0', hw, ha1, ha2, hex1, callA_pure mode_186, hpl, hcw, callA_data mode_trim, htr, eN, htr0, ne_eq, not_true, not_false_eq_true, take5, c1, hk1, hk2, hcs]
        exact tidy_in _ _ _ _ _ _ _ _ _ _ _
      · have hk0 : 0 < ks.length := List.length_pos_iff.2 hks
        have hk1 : ((0 : Int) < (ks.length : Int)) = True := eq_true (by omega)
        have hk2 : (0 < ks.length) = True := eq_true hk0
        have hcs := fun (m : Nat) (es : List (Nat × AV)) (he : nK 4 es = true) => bld_string4 f5 true acc1 s (r1.drop 2) sp nm ⟨#[]⟩ al ks m es he
        simp only [hks, ne_eq, not_false_eq_true, and_self, true_and, false_and, Bool.false_eq_true, ↓reduceIte] at hI
        subst hI
        simp (maxSteps := 200000) (disch := first | omega | (simp only [go_sem] <;> omega) | fail) only [go_sem, nat_int, callA_data mode_indexByte, hx, hex, hle, h0', hw, ha1, ha2, hex1, callA_pure mode_186, hpl, hcw, callA_data mode_trim, htr, eN, htr0, ne_eq, not_true, not_false_eq_true, take5, c1, hk1, hk2, hcs]
        exact tidy_in _ _ _ _ _ _ _ _ _ _ _
    rw [hp] at c1 hI
    simp only [Bool.false_eq_true, ↓reduceIte] at c1 hI
    rcases Bool.eq_false_or_eq_true (Lib.hasPrefix r1 cmO) with hp2 | hp2
    · rw [hp2] at c2 hI
      simp only [↓reduceIte] at c2 hI
      have hus : r1.drop 4 <:+ lS8 s := (List.drop_suffix _ _).trans hr1s
      have hul : (r1.drop 4).length + 4 = r1.length := by have := pre_len hp2; have e : cmO.length = 4 := rfl; rw [List.length_drop]; omega
      obtain ⟨u, hu⟩ : ∃ x, r1.drop 4 = x := ⟨_, rfl⟩
      rw [hu] at hus hul c2 hI
      have ht := rtill hus hs ⟨#[45, 45, 62]⟩
      rw [show lS8 ⟨#[45, 45, 62]⟩ = cmC from rfl] at ht
      unfold comT at hI
      obtain ⟨T, hT⟩ : ∃ x, tillM u cmC = x := ⟨_, rfl⟩
      rw [hT] at ht hI
      cases T with
      | none =>
        have c4 := fun t h => callP2 (t := t) (h := h) (xs := [vS ⟨#[45, 45, 62]⟩]) f2 rfl rfl ht
        simp only at hI
        subst hI
        simp (maxSteps := 200000) (disch := first | omega | (simp only [go_sem] <;> omega) | fail) only [go_sem, nat_int, callA_data mode_indexByte, hx, hex, hle, h0', hw, ha1, ha2, hex1, callA_pure mode_186, hpl, hcw, callA_data mode_trim, htr, eN, htr0, ne_eq, not_true, not_false_eq_true, take5, c1, c2, c4]
        exact tidy_in _ _ _ _ _ _ _ _ _ _ _
      | some cr =>
      obtain ⟨cc, r'⟩ := cr
      obtain ⟨s1, s2⟩ := tillM_suf hT
      have c4 := fun t h => callP2 (t := t) (h := h) (xs := [vS ⟨#[45, 45, 62]⟩]) f2 rfl rfl ht
      have hco := containsX (mkS cc) ⟨#[45, 45]⟩ (by show (mkS cc).size < _; rw [mk_size]; omega)
      have hsf := hasSuffixX (mkS cc) ⟨#[45]⟩ (by show (mkS cc).size < _; rw [mk_size]; omega)
      rw [lS8_mk, show lS8 ⟨#[45, 45]⟩ = [45, 45] from rfl] at hco
      rw [lS8_mk, show lS8 ⟨#[45]⟩ = [45] from rfl] at hsf
      simp only at hI
      rcases Bool.eq_false_or_eq_true (Lib.contains cc [45, 45]) with hC | hC
      · rw [hC] at hco
        have hok : comOk cc = false := by unfold comOk; rw [hC]; rfl
        rw [hok] at hI
        simp only at hI
        subst hI
        simp (maxSteps := 200000) (disch := first | omega | (simp only [go_sem] <;> omega) | fail) only [go_sem, nat_int, callA_data mode_indexByte, hx, hex, hle, h0', hw, ha1, ha2, hex1, callA_pure mode_186, hpl, hcw, callA_data mode_trim, htr, eN, htr0, ne_eq, not_true, not_false_eq_true, take5, c1, c2, c4, callA_data mode_contains, hco]
        exact tidy_in _ _ _ _ _ _ _ _ _ _ _
      · rw [hC] at hco
        rcases Bool.eq_false_or_eq_true (Lib.hasSuffix cc [45]) with hS | hS
        · rw [hS] at hsf
          have hok : comOk cc = false := by unfold comOk; rw [hC, hS]; rfl
          rw [hok] at hI
          simp only at hI
          subst hI
          simp (maxSteps := 200000) (disch := first | omega | (simp only [go_sem] <;> omega) | fail) only [go_sem, nat_int, callA_data mode_indexByte, hx, hex, hle, h0', hw, ha1, ha2, hex1, callA_pure mode_186, hpl, hcw, callA_data mode_trim, htr, eN, htr0, ne_eq, not_true, not_false_eq_true, take5, c1, c2, c4, callA_data mode_contains, hco, callA_data mode_hasSuffix, hsf]
          exact tidy_in _ _ _ _ _ _ _ _ _ _ _
        · rw [hS] at hsf
          have hok : comOk cc = true := by unfold comOk; rw [hC, hS]; rfl
          rw [hok] at hI
          simp only at hI
          simp (maxSteps := 200000) (disch := first | omega | (simp only [go_sem] <;> omega) | fail) only [go_sem, nat_int, callA_data mode_indexByte, hx, hex, hle, h0', hw, ha1, ha2, hex1, callA_pure mode_186, hpl, hcw, callA_data mode_trim, htr, eN, htr0, ne_eq, not_true, not_false_eq_true, take5, c1, c2, c4, callA_data mode_contains, hco, callA_data mode_hasSuffix, hsf]
          refine ⟨((n', true, _), r', acc1, ks), ?_, ⟨s1.trans hus, ?_, ?_, ?_, hkl, hI⟩, ?_⟩
          · rfl
          all_goals simp only; omega
    rw [hp2] at c2 hI
    simp only [Bool.false_eq_true, ↓reduceIte] at c2 hI
    rcases Bool.eq_false_or_eq_true (Lib.hasPrefix r1 cdaS) with hp3 | hp3
    · rw [hp3] at c3 hI
      simp only [↓reduceIte] at c3 hI
      have hus : r1.drop 9 <:+ lS8 s := (List.drop_suffix _ _).trans hr1s
      have hul : (r1.drop 9).length + 9 = r1.length := by have := pre_len hp3; have e : cdaS.length = 9 := rfl; rw [List.length_drop]; omega
      obtain ⟨u, hu⟩ : ∃ x, r1.drop 9 = x := ⟨_, rfl⟩
      rw [hu] at hus hul c3 hI
      have ht := rtill hus hs ⟨#[93, 93, 62]⟩
      rw [show lS8 ⟨#[93, 93, 62]⟩ = cdaE from rfl] at ht
      obtain ⟨T, hT⟩ : ∃ x, tillM u cdaE = x := ⟨_, rfl⟩
      rw [hT] at ht hI
      cases T with
      | none =>
        have c4 := fun t h => callP2 (t := t) (h := h) (xs := [vS ⟨#[93, 93, 62]⟩]) f2 rfl rfl ht
        simp only at hI
        subst hI
        simp (maxSteps := 200000) (disch := first | omega | (simp only [go_sem] <;> omega) | fail) only [go_sem, nat_int, callA_data mode_indexByte, hx, hex, hle, h0', hw, ha1, ha2, hex1, callA_pure mode_186, hpl, hcw, callA_data mode_trim, htr, eN, htr0, ne_eq, not_true, not_false_eq_true, take5, c1, c2, c3, c4]
        exact tidy_in _ _ _ _ _ _ _ _ _ _ _
      | some cr =>
      obtain ⟨cc, r'⟩ := cr
      obtain ⟨s1, s2⟩ := tillM_suf hT
      have c4 := fun t h => callP2 (t := t) (h := h) (xs := [vS ⟨#[93, 93, 62]⟩]) f2 rfl rfl ht
      simp only at hI
      have hcw2 := fun (m : Nat) (es : List (Nat × AV)) (he : nK 4 es = true) => bld_call4 f4 true acc1 (acc1 ++ cc) [vS (mkS cc)] rfl (.tup [vI (mkS cc).size, .v .nilIface]) rfl s r' sp nm ⟨#[]⟩ al ks m es he (by have := writeS_spec (bldA true) (bldA_or true) acc1 (mkS cc) (by rw [mk_size]; omega); rwa [lS8_mk] at this)
      obtain ⟨acc2, hacc2⟩ : ∃ x, acc1 ++ cc = x := ⟨_, rfl⟩
      have hac2l : acc2.length = acc1.length + cc.length := by rw [← hacc2, List.length_append]
      rw [hacc2] at hcw2 hI
      by_cases hcc : cc = []
      · have hcc' := eq_true hcc
        simp only [hcc', Bool.true_or, Bool.false_or, ne_eq, not_true, decide_false] at hI
        simp (maxSteps := 200000) (disch := first | omega | (simp only [go_sem] <;> omega) | fail) only [go_sem, nat_int, callA_data mode_indexByte, hx, hex, hle, h0', hw, ha1, ha2, hex1, callA_pure mode_186, hpl, hcw, callA_data mode_trim, htr, eN, htr0, ne_eq, not_true, not_false_eq_true, take5, c1, c2, c3, c4, hcw2, hcc']
        refine ⟨((n', true, _), r', acc2, ks), ?_, ⟨s1.trans hus, ?_, ?_, ?_, hkl, hI⟩, ?_⟩
        · rfl
        all_goals simp only; omega
      · have hcc' := eq_false hcc
        simp only [hcc', Bool.true_or, Bool.false_or, ne_eq, not_false_eq_true, decide_true] at hI
        simp (maxSteps := 200000) (disch := first | omega | (simp only [go_sem] <;> omega) | fail) only [go_sem, nat_int, callA_data mode_indexByte, hx, hex, hle, h0', hw, ha1, ha2, hex1, callA_pure mode_186, hpl, hcw, callA_data mode_trim, htr, eN, htr0, ne_eq, not_true, not_false_eq_true, take5, c1, c2, c3, c4, hcw2, hcc']
        refine ⟨((n', true, _), r', acc2, ks), ?_, ⟨s1.trans hus, ?_, ?_, ?_, hkl, hI⟩, ?_⟩
        · rfl
        all_goals simp only; omega
    rw [hp3] at c3 hI
    simp only [Bool.false_eq_true, ↓reduceIte] at c3 hI
    have hE := hel n' (by omega) c (d + 1) r1 hr1s (by omega) (by omega) (by omega)
    have hEs := ((suf_ok n').1 c (d + 1) r1)
    obtain ⟨R, hR⟩ : ∃ x, elemM n' c (d + 1) r1 = x := ⟨_, rfl⟩
    rw [hR] at hE hEs hI
    obtain ⟨⟨e, x⟩, q⟩ := R
    simp only at hE hEs hI
    have hqs := hEs.trans hr1s
    have hql := hEs.length_le
    have c5 := fun t h => callP2 (t := t) (h := h) (xs := [scA c, vI (d + 1)]) f3 (by cases c <;> (rw [scA]; rfl)) (by rw [eElem_s]; rfl) hE
    have hwd : IntKind.i64.wrap (d + 1) = d + 1 := IntWalk.i64_in _ (by omega)
    by_cases he : e = 0
    · subst he
      have hz : ((0 : Int) = 0) = True := eq_true rfl
      simp only [ne_eq, not_true, ↓reduceIte] at hI
      by_cases h256 : ks.length = 256
      · rw [if_pos h256] at hI
        subst hI
        have h256' : ((ks.length : Int) = 256) = True := eq_true (by omega)
        have h256'' := eq_true h256
        simp (maxSteps := 200000) (disch := first | omega | (simp only [go_sem] <;> omega) | fail) only [go_sem, nat_int, callA_data mode_indexByte, hx, hex, hle, h0', hw, ha1, ha2, hex1, callA_pure mode_186, hpl, hcw, callA_data mode_trim, htr, eN, htr0, ne_eq, not_true, not_false_eq_true, take5, c1, c2, c3, c5, hwd, h256', h256'', hz, ne_eq, not_true, not_false_eq_true]
        exact tidy_in _ _ _ _ _ _ _ _ _ _ _
      · rw [if_neg h256] at hI
        have h256' : ((ks.length : Int) = 256) = False := eq_false (by omega)
        have h256'' := eq_false h256
        simp (maxSteps := 200000) (disch := first | omega | (simp only [go_sem] <;> omega) | fail) only [go_sem, nat_int, callA_data mode_indexByte, hx, hex, hle, h0', hw, ha1, ha2, hex1, callA_pure mode_186, hpl, hcw, callA_data mode_trim, htr, eN, htr0, ne_eq, not_true, not_false_eq_true, take5, c1, c2, c3, c5, hwd, h256', h256'', hz, ne_eq, not_true, not_false_eq_true]
        have hlt9 := elem0_lt n' c (d + 1) r1 (by rw [hR])
        rw [hR] at hlt9
        simp only at hlt9
        refine ⟨((n', true, _), q, acc1, ks ++ [x]), ?_, ⟨hqs, ?_, ?_, ?_, ?_, hI⟩, ?_⟩
        · simp only [elB, atB, kiB, List.map_append, List.map_cons, List.map_nil, List.length_append, List.length_cons, List.length_nil, Nat.zero_add]
        all_goals simp only [List.length_append, List.length_cons, List.length_nil]; omega
    · have he' := eq_false he
      rw [if_pos he] at hI
      subst hI
      simp (maxSteps := 200000) (disch := first | omega | (simp only [go_sem] <;> omega) | fail) only [go_sem, nat_int, callA_data mode_indexByte, hx, hex, hle, h0', hw, ha1, ha2, hex1, callA_pure mode_186, hpl, hcw, callA_data mode_trim, htr, eN, htr0, ne_eq, not_true, not_false_eq_true, take5, c1, c2, c3, c5, hwd, he', ne_eq, not_true, not_false_eq_true]
      exact tidy_in _ _ _ _ _ _ _ _ _ _ _
end Go.Abs.SA
end
section
namespace Go.Abs.SA
open Go.Proofs
theorem elem_all {s : Str} (hs : s.size ≤ 1000000) : ∀ n, elemSp s n ∧ insSp s n := by
  intro n
  induction n using Nat.strongRecOn with
  | _ n ih => exact ⟨elem_ok hs n fun m hm => (ih m hm).2, in_ok hs n fun m hm => (ih m hm).1⟩
theorem callP3 {X : Abs.X} {t : List AV} {b0 : Blk} {h : List Blk} {f k : Nat} {s : Str} {r r' : B8} {xs : List AV} {v : AV} (hl : (X.live f).contains k = true) (hi : idsOfs xs = []) (hr : idsOf v = []) (hw : loudW X k (.ptr 0 0 :: xs) [pR s r] = some (v, [pR s r'])) :
    callX X (orW X) ⟨t, b0 :: pR s r :: h⟩ f k (.ptr 1 0 :: xs) = some (.st v ⟨t, b0 :: pR s r' :: h⟩) := by
  refine callX_var 1 hl (by simp [AV.lts, AV.lt]) (by simp [idsOfs, idsOf, hi]) rfl (by simp [idsOfs, idsOf]) (by simp [idsOfs, idsOf]) hr ?_
  rw [AV.rens, rens_noids _ _ hi]
  simpa [AV.ren, posOf] using hw
theorem atR_all (s : Str) : atR s (lS8 s) = 0 := by unfold atR; rw [lS8_len]; omega
theorem clB_lt {c : UInt8} (h : clB c = true) : c.toNat < 128 := by
  unfold clB at h
  simp only [Bool.or_eq_true, Bool.and_eq_true, decide_eq_true_eq] at h
  omega
def headM (s : Str) : Option B8 := if Lib.hasPrefix (lS8 s) [60, 63, 120, 109, 108, 32] then (match tillM ((lS8 s).drop 6) [63, 62] with
      | none => none
      | some (t, q) => if Lib.containsAny t [60, 62] then none else some q) else some (lS8 s)
def parseR : Option B8 → Int × Elem
  | none => (3, E0)
  | some r => match comM (r.length + 1) r with
    | (false, _) => (3, E0)
    | (true, q) => match elemM (2 * q.length + 2) [] 1 q with
      | ((e, x), q2) => if e ≠ 0 then (e, E0) else match comM (q2.length + 1) q2 with
        | (true, []) => (0, x)
        | _ => (3, E0)
theorem parseM_s (s : Str) : parseM s = if 16384 < s.size then (2, E0) else if (lS8 s).all clB then parseR (headM s) else (3, E0) := by
  unfold parseM parseR headM
  rfl
theorem parse_spec (s : Str) (hs : s.size ≤ 1000000) : pureW XX 27 [vS s] = some (.tup [.agg (eElem (parseM s).2), .v (.int .i64 (parseM s).1)]) := by
  obtain ⟨out, hout⟩ : ∃ o, parseM s = o := ⟨_, rfl⟩
  rw [hout]
  rw [parseM_s] at hout
  have f1 : (XX.live 27).contains 75 = true := by rw [live_27]; rfl
  have f2 : (XX.live 27).contains 76 = true := by rw [live_27]; rfl
  have f3 : (XX.live 27).contains 78 = true := by rw [live_27]; rfl
  have f4 : (XX.live 27).contains 79 = true := by rw [live_27]; rfl
  have hE : ∀ x : Elem, AV.agg (eElem x) = .agg [vS x.space, vS x.name, .fs (x.attrs.map eAttr) false, vS x.text, .fs (x.kids.map eElem) false] := fun x => by rw [eElem_s]
  have hp0 : Blk.var [vS s, vI 0] = pR s (lS8 s) := by unfold pR; rw [atR_all]; rfl
  refine pureW_in 64 Tryz.func27 Tryz.ntmps27 (by simp) (rfl : Tryz.f27.body = some _) fns_27 ?_
  by_cases h16 : 16384 < s.size
  · rw [if_pos h16] at hout
    subst hout
    have h16' : ((16384 : Int) < (s.size : Int)) = True := eq_true (by omega)
    have h16'' := eq_true h16
    simp (maxSteps := 200000) (disch := first | omega | (simp only [go_sem] <;> omega) | fail) only [go_sem, nat_int, h16', h16'']
    try simp only [eElem_s]
    try rfl
  rw [if_neg h16] at hout
  have h16' : ((16384 : Int) < (s.size : Int)) = False := eq_false (by omega)
  have h16'' := eq_false h16
  have hcl := clean_spec s hs
  rcases Bool.eq_false_or_eq_true ((lS8 s).all clB) with hc | hc
  case inr =>
    rw [hc] at hcl hout
    simp only [Bool.false_eq_true, ↓reduceIte] at hout
    subst hout
    simp (maxSteps := 200000) (disch := first | omega | (simp only [go_sem] <;> omega) | fail) only [go_sem, nat_int, h16', h16'', callA_pure mode_74, hcl]
    try simp only [eElem_s]
    try rfl
  have hlt : ∀ b ∈ lS8 s, b.toNat < 128 := fun b hb => clB_lt (List.all_eq_true.1 hc b hb)
  rw [hc] at hcl hout
  simp only [↓reduceIte] at hout
  have hss : lS8 s <:+ lS8 s := List.suffix_refl _
  have c1 : ∀ t b0 h, callX XX (orW XX) ⟨t, b0 :: .var [vS s, vI 0] :: h⟩ 27 75 [.ptr 1 0, vS ⟨#[60, 63, 120, 109, 108, 32]⟩] =
      some (.st (vB (Lib.hasPrefix (lS8 s) [60, 63, 120, 109, 108, 32])) ⟨t, b0 :: pR s (if Lib.hasPrefix (lS8 s) [60, 63, 120, 109, 108, 32] = true then (lS8 s).drop 6 else lS8 s) :: h⟩) := by
    intro t b0 h
    rw [hp0]
    exact callP3 (t := t) (b0 := b0) (h := h) (xs := [vS ⟨#[60, 63, 120, 109, 108, 32]⟩]) f1 rfl rfl (rskip hss hs ⟨#[60, 63, 120, 109, 108, 32]⟩)
  obtain ⟨hd, hhd⟩ : ∃ o : Option B8, headM s = o := ⟨_, rfl⟩
  have hout2 : parseR hd = out := by rw [← hhd]; exact hout
  clear hout
  unfold headM at hhd
  have hrok : ∀ r, hd = some r → r <:+ lS8 s := by
    intro r hr
    rw [hr] at hhd
    split at hhd
    · split at hhd
      · cases hhd
      · rename_i t q ht
        split at hhd
        · cases hhd
        · simp only [Option.some.injEq] at hhd
          rw [← hhd]
          exact (tillM_suf ht).1.trans (List.drop_suffix _ _)
    · simp only [Option.some.injEq] at hhd
      rw [← hhd]; exact List.suffix_refl _
  rcases Bool.eq_false_or_eq_true (Lib.hasPrefix (lS8 s) [60, 63, 120, 109, 108, 32]) with hp | hp
  · rw [hp] at c1 hhd
    simp only [↓reduceIte] at c1 hhd
    have hus : (lS8 s).drop 6 <:+ lS8 s := List.drop_suffix _ _
    obtain ⟨u, hu⟩ : ∃ x, (lS8 s).drop 6 = x := ⟨_, rfl⟩
    rw [hu] at hus c1 hhd
    have ht := rtill hus hs ⟨#[63, 62]⟩
    rw [show lS8 ⟨#[63, 62]⟩ = [63, 62] from rfl] at ht
    obtain ⟨T, hT⟩ : ∃ x, tillM u [63, 62] = x := ⟨_, rfl⟩
    rw [hT] at ht hhd
    cases T with
    | none =>
      simp only at hhd
      subst hhd
      simp only [parseR] at hout2
      subst hout2
      have c2 := fun t b0 h => callP3 (t := t) (b0 := b0) (h := h) (xs := [vS ⟨#[63, 62]⟩]) f2 rfl rfl ht
      simp (maxSteps := 200000) (disch := first | omega | (simp only [go_sem] <;> omega) | fail) only [go_sem, nat_int, h16', h16'', callA_pure mode_74, hcl, c1, c2]
      try (simp only [eElem_s]; try rfl)
    | some tq =>
    obtain ⟨t, q⟩ := tq
    have c2 := fun t b0 h => callP3 (t := t) (b0 := b0) (h := h) (xs := [vS ⟨#[63, 62]⟩]) f2 rfl rfl ht
    obtain ⟨s1, s2⟩ := tillM_suf hT
    have htm : ∀ b ∈ t, b.toNat < 128 := by
      intro b hb
      have hmem : t <+: u := by
        unfold tillM at hT
        split at hT
        · simp only [Option.some.injEq, Prod.mk.injEq] at hT
          rw [← hT.1]; exact List.take_prefix _ _
        · cases hT
      exact hlt b (hus.subset (hmem.subset hb))
    have hca := containsAnyX (mkS t) ⟨#[60, 62]⟩ ⟨by show (mkS t).size < _; rw [mk_size]; have := suf_len hus; omega, by decide, by rw [lS8_mk]; exact htm, by decide⟩
    rw [lS8_mk, show lS8 ⟨#[60, 62]⟩ = [60, 62] from rfl] at hca
    simp only at hhd
    rcases Bool.eq_false_or_eq_true (Lib.containsAny t [60, 62]) with hC | hC
    · rw [hC] at hca hhd
      simp only [↓reduceIte] at hhd
      subst hhd
      simp only [parseR] at hout2
      subst hout2
      simp (maxSteps := 200000) (disch := first | omega | (simp only [go_sem] <;> omega) | fail) only [go_sem, nat_int, h16', h16'', callA_pure mode_74, hcl, c1, c2, callA_data mode_containsAny, hca]
      try (simp only [eElem_s]; try rfl)
    rw [hC] at hca hhd
    simp only [Bool.false_eq_true, ↓reduceIte] at hhd
    subst hhd
    have hqs := hrok q rfl
    simp (maxSteps := 200000) (disch := first | omega | (simp only [go_sem] <;> omega) | fail) only [go_sem, nat_int, h16', h16'', callA_pure mode_74, hcl, c1, c2, callA_data mode_containsAny, hca]
    simp only [parseR] at hout2
    have c3 := fun t b0 h => callP3 (t := t) (b0 := b0) (h := h) (xs := []) f3 rfl rfl (rcomments hs (q.length + 1) q hqs (Nat.lt_succ_self _))
    have hcs := comM_suf (q.length + 1) q
    obtain ⟨C, hC1⟩ : ∃ x, comM (q.length + 1) q = x := ⟨_, rfl⟩
    rw [hC1] at c3 hcs hout2
    obtain ⟨cb, q1⟩ := C
    simp only at c3 hcs
    cases cb with
    | false =>
      simp only [parseR] at hout2
      subst hout2
      simp (maxSteps := 200000) (disch := first | omega | (simp only [go_sem] <;> omega) | fail) only [go_sem, nat_int, h16', h16'', callA_pure mode_74, hcl, c1, c3]
      try (simp only [eElem_s]; try rfl)
    | true =>
    simp only at hout2
    have hq1s := hcs.trans hqs
    have hE := (elem_all hs (2 * q1.length + 2)).1 [] 1 q1 hq1s (by omega) (by omega) (by omega)
    have hEs := (suf_ok (2 * q1.length + 2)).1 [] 1 q1
    obtain ⟨R, hR⟩ : ∃ x, elemM (2 * q1.length + 2) [] 1 q1 = x := ⟨_, rfl⟩
    rw [hR] at hE hEs hout2
    obtain ⟨⟨e, x⟩, q2⟩ := R
    simp only at hE hEs hout2
    rw [scA_nil] at hE
    have hq2s := hEs.trans hq1s
    have c4 := fun t b0 h => callP3 (t := t) (b0 := b0) (h := h) (xs := [.v (.pointer none), vI 1]) f4 rfl (by rw [eElem_s]; rfl) hE
    by_cases he : e = 0
    case neg =>
      have he' := eq_false he
      rw [if_pos he] at hout2
      subst hout2
      simp (maxSteps := 200000) (disch := first | omega | (simp only [go_sem] <;> omega) | fail) only [go_sem, nat_int, h16', h16'', callA_pure mode_74, hcl, c1, c3, c4, he', ne_eq, not_true, not_false_eq_true, take5]
      try (simp only [eElem_s]; try rfl)
    subst he
    have hz : ((0 : Int) = 0) = True := eq_true rfl
    simp only [ne_eq, not_true, ↓reduceIte] at hout2
    have c5 := fun t b0 h => callP3 (t := t) (b0 := b0) (h := h) (xs := []) f3 rfl rfl (rcomments hs (q2.length + 1) q2 hq2s (Nat.lt_succ_self _))
    obtain ⟨D, hD⟩ : ∃ x, comM (q2.length + 1) q2 = x := ⟨_, rfl⟩
    rw [hD] at c5 hout2
    obtain ⟨db, q3⟩ := D
    simp only at c5
    cases db with
    | false =>
      simp only [parseR] at hout2
      subst hout2
      simp (maxSteps := 200000) (disch := first | omega | (simp only [go_sem] <;> omega) | fail) only [go_sem, nat_int, h16', h16'', callA_pure mode_74, hcl, c1, c3, c4, hz, ne_eq, not_true, not_false_eq_true, take5, c5]
      try (simp only [eElem_s]; try rfl)
    | true =>
    by_cases hq3 : q3 = []
    · subst hq3
      simp only [parseR] at hout2
      subst hout2
      have hat : ((atR s [] : Int) < (s.size : Int)) = False := eq_false (by unfold atR; simp)
      have hat' : (atR s [] < s.size) = False := eq_false (by unfold atR; simp)
      simp (maxSteps := 200000) (disch := first | omega | (simp only [go_sem] <;> omega) | fail) only [go_sem, nat_int, h16', h16'', callA_pure mode_74, hcl, c1, c3, c4, hz, ne_eq, not_true, not_false_eq_true, take5, c5, hat, hat']
      first | rfl | (rw [frzs_elem _ 3]; rfl)
    · have hl3 : 0 < q3.length := List.length_pos_iff.2 hq3
      have hq3s : q3.length ≤ s.size := by
        have := (comM_suf (q2.length + 1) q2)
        rw [hD] at this
        exact suf_len (this.trans hq2s)
      have hat : ((atR s q3 : Int) < (s.size : Int)) = True := eq_true (by unfold atR; omega)
      have hat' : (atR s q3 < s.size) = True := eq_true (by unfold atR; omega)
      have ho : out = (3, E0) := by
        rw [← hout2]
        cases q3 with
        | nil => exact absurd rfl hq3
        | cons _ _ => rfl
      subst ho
      simp (maxSteps := 200000) (disch := first | omega | (simp only [go_sem] <;> omega) | fail) only [go_sem, nat_int, h16', h16'', callA_pure mode_74, hcl, c1, c3, c4, hz, ne_eq, not_true, not_false_eq_true, take5, c5, hat, hat']
      try (simp only [eElem_s]; try rfl)
  · rw [hp] at c1 hhd
    simp only [Bool.false_eq_true, ↓reduceIte] at c1 hhd
    subst hhd
    obtain ⟨q, hq⟩ : ∃ q, lS8 s = q := ⟨_, rfl⟩
    have hqs : q <:+ lS8 s := by rw [hq]; exact List.suffix_refl _
    rw [hq] at hout2 c1
    simp only [parseR] at hout2
    have c3 := fun t b0 h => callP3 (t := t) (b0 := b0) (h := h) (xs := []) f3 rfl rfl (rcomments hs (q.length + 1) q hqs (Nat.lt_succ_self _))
    have hcs := comM_suf (q.length + 1) q
    obtain ⟨C, hC1⟩ : ∃ x, comM (q.length + 1) q = x := ⟨_, rfl⟩
    rw [hC1] at c3 hcs hout2
    obtain ⟨cb, q1⟩ := C
    simp only at c3 hcs
    cases cb with
    | false =>
      simp only [parseR] at hout2
      subst hout2
      simp (maxSteps := 200000) (disch := first | omega | (simp only [go_sem] <;> omega) | fail) only [go_sem, nat_int, h16', h16'', callA_pure mode_74, hcl, c1, c3]
      try (simp only [eElem_s]; try rfl)
    | true =>
    simp only at hout2
    have hq1s := hcs.trans hqs
    have hE := (elem_all hs (2 * q1.length + 2)).1 [] 1 q1 hq1s (by omega) (by omega) (by omega)
    have hEs := (suf_ok (2 * q1.length + 2)).1 [] 1 q1
    obtain ⟨R, hR⟩ : ∃ x, elemM (2 * q1.length + 2) [] 1 q1 = x := ⟨_, rfl⟩
    rw [hR] at hE hEs hout2
    obtain ⟨⟨e, x⟩, q2⟩ := R
    simp only at hE hEs hout2
    rw [scA_nil] at hE
    have hq2s := hEs.trans hq1s
    have c4 := fun t b0 h => callP3 (t := t) (b0 := b0) (h := h) (xs := [.v (.pointer none), vI 1]) f4 rfl (by rw [eElem_s]; rfl) hE
    by_cases he : e = 0
    case neg =>
      have he' := eq_false he
      rw [if_pos he] at hout2
      subst hout2
      simp (maxSteps := 200000) (disch := first | omega | (simp only [go_sem] <;> omega) | fail) only [go_sem, nat_int, h16', h16'', callA_pure mode_74, hcl, c1, c3, c4, he', ne_eq, not_true, not_false_eq_true, take5]
      try (simp only [eElem_s]; try rfl)
    subst he
    have hz : ((0 : Int) = 0) = True := eq_true rfl
    simp only [ne_eq, not_true, ↓reduceIte] at hout2
    have c5 := fun t b0 h => callP3 (t := t) (b0 := b0) (h := h) (xs := []) f3 rfl rfl (rcomments hs (q2.length + 1) q2 hq2s (Nat.lt_succ_self _))
    obtain ⟨D, hD⟩ : ∃ x, comM (q2.length + 1) q2 = x := ⟨_, rfl⟩
    rw [hD] at c5 hout2
    obtain ⟨db, q3⟩ := D
    simp only at c5
    cases db with
    | false =>
      simp only [parseR] at hout2
      subst hout2
      simp (maxSteps := 200000) (disch := first | omega | (simp only [go_sem] <;> omega) | fail) only [go_sem, nat_int, h16', h16'', callA_pure mode_74, hcl, c1, c3, c4, hz, ne_eq, not_true, not_false_eq_true, take5, c5]
      try (simp only [eElem_s]; try rfl)
    | true =>
    by_cases hq3 : q3 = []
    · subst hq3
      simp only [parseR] at hout2
      subst hout2
      have hat : ((atR s [] : Int) < (s.size : Int)) = False := eq_false (by unfold atR; simp)
      have hat' : (atR s [] < s.size) = False := eq_false (by unfold atR; simp)
      simp (maxSteps := 200000) (disch := first | omega | (simp only [go_sem] <;> omega) | fail) only [go_sem, nat_int, h16', h16'', callA_pure mode_74, hcl, c1, c3, c4, hz, ne_eq, not_true, not_false_eq_true, take5, c5, hat, hat']
      first | rfl | (rw [frzs_elem _ 3]; rfl)
    · have hl3 : 0 < q3.length := List.length_pos_iff.2 hq3
      have hq3s : q3.length ≤ s.size := by
        have := (comM_suf (q2.length + 1) q2)
        rw [hD] at this
        exact suf_len (this.trans hq2s)
      have hat : ((atR s q3 : Int) < (s.size : Int)) = True := eq_true (by unfold atR; omega)
      have hat' : (atR s q3 < s.size) = True := eq_true (by unfold atR; omega)
      have ho : out = (3, E0) := by
        rw [← hout2]
        cases q3 with
        | nil => exact absurd rfl hq3
        | cons _ _ => rfl
      subst ho
      simp (maxSteps := 200000) (disch := first | omega | (simp only [go_sem] <;> omega) | fail) only [go_sem, nat_int, h16', h16'', callA_pure mode_74, hcl, c1, c3, c4, hz, ne_eq, not_true, not_false_eq_true, take5, c5, hat, hat']
      try (simp only [eElem_s]; try rfl)
end Go.Abs.SA
end
