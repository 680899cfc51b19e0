/-
  Contracts: numbers as texts, and back; the parts of a text.
-/
import Derived.Test.YtlelhmbhhnokoaaDoorText
import Derived.Test.YtlelhmbhhnokoaaDoorParts
set_option linter.unusedVariables false
set_option linter.unusedSimpArgs false
set_option linter.unnecessarySimpa false
namespace Go.Vc
open Go.Proofs Go.Lib
set_option maxRecDepth 100000
attribute [go_sem] Option.map_none Nat.sub_zero List.take_length List.size_toArray ba_append ba_size ba_list ba_extract ba_data
theorem str_beq (a b : List UInt8) : (a == b) = decide (a = b) := by
  by_cases h : a = b
  · simp [h]
  · simp [h]
attribute [go_sem] str_beq
theorem u8_wrap {x : Int} (h : 0 ≤ x ∧ x < 256) : IntKind.u8.wrap x = x := by
  simp [IntKind.wrap, IntKind.bits, IntKind.signed]
  omega
theorem dec_low {n : Nat} (h : n < 10) : decDigits n = [UInt8.ofNat (48 + n)] := decDigits_one h
theorem dec_high {n : Nat} (h : ¬ n < 10) : decDigits n = decDigits (n / 10) ++ [UInt8.ofNat (48 + n % 10)] := by rw [decDigits, dif_neg h]
theorem dec_length_le {n : Nat} (h : n < 18446744073709551616) : (decDigits n).length ≤ 20 := by
  rw [decDigits_length]; exact nDigits_le20 n h
theorem c_l01Dec : ∀ (n : Nat), n ≤ 1000000000000000000 → Fn Tryd.prog 59 [eI n] true (· = eS (decDigits n)) := by
  intro n
  induction n using Nat.strongRecOn with
  | _ n ih =>
    intro hn
    refine Fn.of_vcN 20 [.tmp 2] Tryd.func59 rfl rfl rfl rfl rfl (of_decide_eq_true rfl) ?_
    simp -dsimp -implicitDefEqProofs only [go_sem, ↓reduceIte, Nat.reduceEqDiff, Nat.reduceLT, Nat.reduceAdd, Nat.reduceMul, Nat.reduceLeDiff, Nat.le_refl, Int.natCast_zero, Int.toNat_natCast, Int.reduceToNat]
    by_cases h : n < 10
    · have hd : decide ((n : Int) < 10) = true := decide_eq_true (by omega)
      have hw : IntKind.u8.wrap (48 + (n : Int)) = 48 + (n : Int) := u8_wrap (by omega)
      have ht : (48 + (n : Int)).toNat = 48 + n := by omega
      rw [dec_low h]
      simp -dsimp -implicitDefEqProofs only [go_sem, ↓reduceIte, Nat.reduceEqDiff, Nat.reduceLT, Nat.reduceAdd, Nat.reduceMul, Nat.reduceLeDiff, Nat.le_refl, Int.natCast_zero, Int.toNat_natCast, Int.reduceToNat, hd, hw, ht]
      repeat' (with_reducible refine And.intro ?_ ?_)
      all_goals first | omega | (refine ⟨?_, ?_⟩ <;> omega) | (exact rfl) | (simp; done) | trace_state
    · have hd : decide ((n : Int) < 10) = false := decide_eq_false (by omega)
      have hq : (n : Int).tdiv 10 = ((n / 10 : Nat) : Int) := by rw [Int.tdiv_eq_ediv_of_nonneg (by omega)]; omega
      have hr : (n : Int).tmod 10 = ((n % 10 : Nat) : Int) := by rw [Int.tmod_eq_emod_of_nonneg (by omega)]; omega
      have hw : IntKind.u8.wrap (48 + ((n % 10 : Nat) : Int)) = 48 + ((n % 10 : Nat) : Int) := u8_wrap (by omega)
      have ht : (48 + ((n % 10 : Nat) : Int)).toNat = 48 + n % 10 := by omega
      have hl := dec_length_le (n := n / 10) (by omega)
      have hc := ih (n / 10) (by omega) (by omega)
      rw [dec_high h]
      simp -dsimp -implicitDefEqProofs only [go_sem, ↓reduceIte, Nat.reduceEqDiff, Nat.reduceLT, Nat.reduceAdd, Nat.reduceMul, Nat.reduceLeDiff, Nat.le_refl, Int.natCast_zero, Int.toNat_natCast, Int.reduceToNat, hd]
      refine Later.draw mixed rfl ?_
      simp -dsimp -implicitDefEqProofs only [go_sem, ↓reduceIte, Nat.reduceEqDiff, Nat.reduceLT, Nat.reduceAdd, Nat.reduceMul, Nat.reduceLeDiff, Nat.le_refl, Int.natCast_zero, Int.toNat_natCast, Int.reduceToNat, hq, hr]
      repeat' (with_reducible refine And.intro ?_ ?_)
      all_goals try (first | omega | (refine ⟨?_, ?_⟩ <;> omega) | (exact rfl) | (simp; done))
      refine sCallX_one hc ?_
      have hz : n % 10 < 10 := Nat.mod_lt _ (by decide)
      generalize n % 10 = z at *
      simp -dsimp -implicitDefEqProofs only [go_sem, ↓reduceIte, Nat.reduceEqDiff, Nat.reduceLT, Nat.reduceAdd, Nat.reduceMul, Nat.reduceLeDiff, Nat.le_refl, Int.natCast_zero, Int.toNat_natCast, Int.reduceToNat, hr, hw, ht]
      repeat' (with_reducible refine And.intro ?_ ?_)
      all_goals first | omega | (refine ⟨?_, ?_⟩ <;> omega) | (exact rfl) | (simp; done) | trace_state
theorem c_l01DecI (n : Int) (h : 0 ≤ n ∧ n ≤ 1000000000000000000) : Fn Tryd.prog 59 [eI n] true (· = eS (itoa n)) := by
  have := c_l01Dec n.toNat (by omega)
  rw [show ((n.toNat : Nat) : Int) = n by omega] at this
  rw [itoa_of_nonneg h.1]; exact this
theorem c_text {n : Int} (h : I64 n) : Fn Tryd.prog 60 [eI n] true (· = eS (itoa n)) := by
  refine Fn.of_vcN 5 [.tmp 2] Tryd.func60 rfl rfl rfl rfl rfl (of_decide_eq_true rfl) ?_
  simp -dsimp -implicitDefEqProofs only [go_sem, ↓reduceIte, Nat.reduceEqDiff, Nat.reduceLT, Nat.reduceAdd, Nat.reduceMul, Nat.reduceLeDiff, Nat.le_refl, Int.natCast_zero, Int.toNat_natCast, Int.reduceToNat]
  refine sCallT_one (c_FormatInt h) ?_
  simp -dsimp -implicitDefEqProofs only [go_sem, ↓reduceIte, Nat.reduceEqDiff, Nat.reduceLT, Nat.reduceAdd, Nat.reduceMul, Nat.reduceLeDiff, Nat.le_refl, Int.natCast_zero, Int.toNat_natCast, Int.reduceToNat]
theorem numI_eq (s : List UInt8) : numI s = (intEnd s, intOk s && decide (itoa (intEnd s) = s)) := by
  unfold numI intEnd intOk
  cases parseIntB 64 s <;> simp
theorem intEnd_64 (s : List UInt8) : I64 (intEnd s) := by
  unfold intEnd
  rcases hp : parseIntB 64 s with v | _ | _
  · exact parse_bound hp
  · unfold I64; simp
  · simp only [intSat]
    split <;> simp [I64]
theorem c_number (s : List UInt8) (h : s.length ≤ 1048576) : Fn Tryd.prog 57 [eS s] true (· = .tup [eI (numI s).1, eB (numI s).2]) := by
  refine Fn.of_vcN 20 [.tmp 2, .tmp 3] Tryd.func57 rfl rfl rfl rfl rfl (of_decide_eq_true rfl) ?_
  simp -dsimp -implicitDefEqProofs only [go_sem, ↓reduceIte, Nat.reduceEqDiff, Nat.reduceLT, Nat.reduceAdd, Nat.reduceMul, Nat.reduceLeDiff, Nat.le_refl, Int.natCast_zero, Int.toNat_natCast, Int.reduceToNat]
  refine sCallT_any (c_ParseInt s h) ?_
  rintro _ ⟨e, rfl, he⟩
  rw [numI_eq]
  have h64 := intEnd_64 s
  have hl := itoa_len h64
  generalize intEnd s = v at *
  rcases ho : intOk s with _ | _
  · rw [ho] at he
    simp only [Bool.false_eq_true, if_false] at he
    obtain ⟨t, p, rfl⟩ := he
    simp -dsimp -implicitDefEqProofs only [go_sem, ↓reduceIte, Nat.reduceEqDiff, Nat.reduceLT, Nat.reduceAdd, Nat.reduceMul, Nat.reduceLeDiff, Nat.le_refl, Int.natCast_zero, Int.toNat_natCast, Int.reduceToNat]
    repeat' (with_reducible refine And.intro ?_ ?_)
    all_goals first | omega | (exact rfl) | (simp; done) | trace_state
  · rw [ho] at he
    simp only [if_true] at he
    subst he
    simp -dsimp -implicitDefEqProofs only [go_sem, ↓reduceIte, Nat.reduceEqDiff, Nat.reduceLT, Nat.reduceAdd, Nat.reduceMul, Nat.reduceLeDiff, Nat.le_refl, Int.natCast_zero, Int.toNat_natCast, Int.reduceToNat]
    repeat' (with_reducible refine And.intro ?_ ?_)
    all_goals try (first | omega | (exact rfl))
    refine sCallT_one (c_text h64) ?_
    simp -dsimp -implicitDefEqProofs only [go_sem, ↓reduceIte, Nat.reduceEqDiff, Nat.reduceLT, Nat.reduceAdd, Nat.reduceMul, Nat.reduceLeDiff, Nat.le_refl, Int.natCast_zero, Int.toNat_natCast, Int.reduceToNat]
    repeat' (with_reducible refine And.intro ?_ ?_)
    all_goals first | omega | (exact rfl) | (simp; done) | trace_state
theorem partN_take (c : UInt8) (s : List UInt8) : partN c s = if ((spl c s).all fun w => (numI w).2) = true then ((spl c s).map fun w => (numI w).1, true) else ([], false) := rfl
theorem spl_part_len (c : UInt8) : ∀ (l : List UInt8), ∀ w ∈ spl c l, w.length ≤ l.length
  | [], w, hw => by simp [spl] at hw; simp [hw]
  | b :: l, w, hw => by
    have ih := spl_part_len c l
    rw [spl] at hw
    split at hw
    · rcases List.mem_cons.1 hw with rfl | hw
      · simp
      · have := ih w hw; simp; omega
    · split at hw
      · rename_i h t he
        rcases List.mem_cons.1 hw with rfl | hw
        · have := ih h (by rw [he]; exact List.mem_cons_self ..); simp; omega
        · have := ih w (by rw [he]; exact List.mem_cons_of_mem _ hw); simp; omega
      · simp at hw; simp [hw]
theorem c_parted (s : List UInt8) (c : UInt8) (h : s.length ≤ 1048575) : Fn Tryd.prog 45 [eS s, eS [c]] true (· = .tup [eIs (partN c s).1, eB (partN c s).2]) := by
  refine Fn.of_vcN 33 [.tmp 4, .tmp 5] Tryd.func45 rfl rfl rfl rfl rfl (of_decide_eq_true rfl) ?_
  have hpl := spl_part_len c s
  have hsl := spl_length_le c s
  simp -dsimp -implicitDefEqProofs only [go_sem, ↓reduceIte, Nat.reduceEqDiff, Nat.reduceLT, Nat.reduceAdd, Nat.reduceMul, Nat.reduceLeDiff, Nat.le_refl, Int.natCast_zero, Int.toNat_natCast, Int.reduceToNat]
  refine sCallT_one (c_Split s c (by omega)) ?_
  rw [partN_take]
  generalize spl c s = ws at *
  simp -dsimp -implicitDefEqProofs only [go_sem, ↓reduceIte, Nat.reduceEqDiff, Nat.reduceLT, Nat.reduceAdd, Nat.reduceMul, Nat.reduceLeDiff, Nat.le_refl, Int.natCast_zero, Int.toNat_natCast, Int.reduceToNat]
  refine Later.up [14, 15] [22, 29, 30] [11] ws.length (fun i => ((ws.take i).all fun w => (numI w).2) = true) (fun i => [(6, .ref 11 0 0 i), (16, eI i)]) (fun i => [(11, .row 0 ⟨1, false⟩ true (((ws.take i).map fun w => (numI w).1).map eI))]) rfl ?_ rfl (fun i hi hI => ?_) (fun hI => ?_)
  · simp -dsimp -implicitDefEqProofs only [go_sem, ↓reduceIte, Nat.reduceEqDiff, Nat.reduceLT, Nat.reduceAdd, Nat.reduceMul, Nat.reduceLeDiff, Nat.le_refl, Int.natCast_zero, Int.toNat_natCast, Int.reduceToNat]
  · have gi := get_some hi
    have hw := hpl ws[i] (List.getElem_mem hi)
    have hall := all_take (fun w => (numI w).2) ws i hi
    have hno := fun h => all_no (p := fun w => (numI w).2) hi h
    have htk : ws.take (i + 1) = ws.take i ++ [ws[i]] := List.take_succ_eq_append_getElem hi
    rw [htk] at hall ⊢
    generalize ws[i] = w at *
    have hcn := c_number w (by omega)
    obtain ⟨q, hq0⟩ : ∃ q, numI w = q := ⟨_, rfl⟩
    rw [hq0] at hcn hno hall
    rcases hq : q.2 with _ | _
    · have hz := hno hq
      simp -dsimp -implicitDefEqProofs only [pick_nil, pick_cons, look_nil, look_cons, dropB_nil, dropB_cons, inD_nil, inD_cons, inE_nil, inE_cons, or_t_l, or_f_l, Nat.reduceBEq, Nat.reduceDiv, Nat.reduceAdd, beq_self_eq_true, Bool.false_eq_true, Bool.or_false, ↓reduceIte, Nat.reduceEqDiff, List.cons_append, List.nil_append]
      simp -dsimp -implicitDefEqProofs only [go_sem, ↓reduceIte, Nat.reduceEqDiff, Nat.reduceLT, Nat.reduceAdd, Nat.reduceMul, Nat.reduceLeDiff, Nat.le_refl, Int.natCast_zero, Int.toNat_natCast, Int.reduceToNat, lt_len hi, gi]
      repeat' (with_reducible refine And.intro ?_ ?_)
      all_goals try (first | omega | (refine ⟨?_, ?_⟩ <;> omega))
      refine sCallT_one hcn ?_
      simp -dsimp -implicitDefEqProofs only [go_sem, ↓reduceIte, Nat.reduceEqDiff, Nat.reduceLT, Nat.reduceAdd, Nat.reduceMul, Nat.reduceLeDiff, Nat.le_refl, Int.natCast_zero, Int.toNat_natCast, Int.reduceToNat, hq]
      rw [if_neg (by rw [hz]; decide)]
      all_goals first | (exact rfl) | (simp; done) | trace_state
    · simp -dsimp -implicitDefEqProofs only [pick_nil, pick_cons, look_nil, look_cons, dropB_nil, dropB_cons, inD_nil, inD_cons, inE_nil, inE_cons, or_t_l, or_f_l, Nat.reduceBEq, Nat.reduceDiv, Nat.reduceAdd, beq_self_eq_true, Bool.false_eq_true, Bool.or_false, ↓reduceIte, Nat.reduceEqDiff, List.cons_append, List.nil_append]
      simp -dsimp -implicitDefEqProofs only [go_sem, ↓reduceIte, Nat.reduceEqDiff, Nat.reduceLT, Nat.reduceAdd, Nat.reduceMul, Nat.reduceLeDiff, Nat.le_refl, Int.natCast_zero, Int.toNat_natCast, Int.reduceToNat, lt_len hi, gi]
      repeat' (with_reducible refine And.intro ?_ ?_)
      all_goals try (first | omega | (refine ⟨?_, ?_⟩ <;> omega))
      refine sCallT_one hcn ?_
      simp -dsimp -implicitDefEqProofs only [go_sem, ↓reduceIte, Nat.reduceEqDiff, Nat.reduceLT, Nat.reduceAdd, Nat.reduceMul, Nat.reduceLeDiff, Nat.le_refl, Int.natCast_zero, Int.toNat_natCast, Int.reduceToNat, hq]
      repeat' (with_reducible refine And.intro ?_ ?_)
      all_goals first | omega | (refine ⟨?_, ?_⟩ <;> omega) | (rw [hall, hI, hq]; rfl) | (simp; done) | (simp; omega) | (simp [hq0, List.map_take]; done) | trace_state
  · rw [List.take_length] at hI
    rw [if_pos hI]
    simp -dsimp -implicitDefEqProofs only [pick_nil, pick_cons, look_nil, look_cons, dropB_nil, dropB_cons, inD_nil, inD_cons, inE_nil, inE_cons, or_t_l, or_f_l, Nat.reduceBEq, Nat.reduceDiv, Nat.reduceAdd, beq_self_eq_true, Bool.false_eq_true, Bool.or_false, ↓reduceIte, Nat.reduceEqDiff, List.cons_append, List.nil_append]
    simp -dsimp -implicitDefEqProofs only [go_sem, ↓reduceIte, Nat.reduceEqDiff, Nat.reduceLT, Nat.reduceAdd, Nat.reduceMul, Nat.reduceLeDiff, Nat.le_refl, Int.natCast_zero, Int.toNat_natCast, Int.reduceToNat, nlt_len, List.take_length]
    repeat' (with_reducible refine And.intro ?_ ?_)
    all_goals first | omega | (exact rfl) | (simp; done) | (rw [List.take_of_length_le (by simp)]; done) | trace_state
end Go.Vc
