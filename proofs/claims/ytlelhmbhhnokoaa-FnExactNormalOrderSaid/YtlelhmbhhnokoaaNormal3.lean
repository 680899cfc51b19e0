/-
  Contracts: normal orders, by the reference and by the program.
-/
import Derived.Test.YtlelhmbhhnokoaaNormal2
set_option linter.unusedVariables false
set_option linter.unusedSimpArgs false
set_option linter.unnecessarySimpa false
namespace Go.Vc
open Go.Proofs
set_option maxRecDepth 100000
def cpsF (b : Bool) (i : Int) (x : ItM) : Int := if (x.key == b) = true then (if (x.index == i) = true then x.copies else 0) else 0
def cps (b : Bool) (i : Int) (os : List ItM) : Int := (os.map (cpsF b i)).sum
theorem cps_take (b : Bool) (i : Int) (os : List ItM) (k : Nat) (hk : k < os.length) : cps b i (os.take (k + 1)) = cps b i (os.take k) + cpsF b i os[k] := by
  rw [List.take_succ_eq_append_getElem hk, cps, List.map_append, List.sum_append, List.map_singleton]
  simp only [List.sum_cons, List.sum_nil, Int.add_zero]; rfl
theorem cpsF_in {b : Bool} {i : Int} {x : ItM} (h : okCp x) : 0 ≤ cpsF b i x ∧ cpsF b i x ≤ 50 := by
  obtain ⟨h1, h2⟩ := h
  unfold cpsF
  split
  · split <;> omega
  · omega
theorem cps_in (b : Bool) (i : Int) : ∀ (os : List ItM), (∀ x, x ∈ os → okCp x) → 0 ≤ cps b i os ∧ cps b i os ≤ 50 * os.length
  | [], _ => by simp [cps]
  | x :: r', h => by
    have h1 := cpsF_in (b := b) (i := i) (h x (List.mem_cons_self ..))
    have h2 := cps_in b i r' fun y hy => h y (List.mem_cons_of_mem _ hy)
    have e : cps b i (x :: r') = cpsF b i x + cps b i r' := by simp [cps]
    rw [e, List.length_cons]
    omega
theorem cps_low {r i : Nat} (hi : i < r) : ∀ {os : List ItM}, (∀ x, x ∈ os → okIx r x) → cps true i os = cpy r i os
  | [], _ => rfl
  | x :: r', h => by
    have ih := cps_low hi (os := r') fun y hy => h y (List.mem_cons_of_mem _ hy)
    obtain ⟨⟨h1, h2⟩, h3⟩ := h x (List.mem_cons_self ..)
    have e : cps true i (x :: r') = cpsF true i x + cps true i r' := by simp [cps]
    rw [e, cpy_cons, ih]
    congr 1
    unfold cpsF cpyF rkIt
    rcases hk : x.key with _ | _
    · simp; omega
    · simp
theorem cps_high {r i : Nat} (hi : r ≤ i) : ∀ {os : List ItM}, (∀ x, x ∈ os → okIx r x) → cps false ((i : Int) - r) os = cpy r i os
  | [], _ => rfl
  | x :: r', h => by
    have ih := cps_high hi (os := r') fun y hy => h y (List.mem_cons_of_mem _ hy)
    obtain ⟨⟨h1, h2⟩, h3⟩ := h x (List.mem_cons_self ..)
    have e : cps false ((i : Int) - r) (x :: r') = cpsF false ((i : Int) - r) x + cps false ((i : Int) - r) r' := by simp [cps]
    rw [e, cpy_cons, ih]
    congr 1
    unfold cpsF cpyF rkIt
    rcases hk : x.key with _ | _
    · simp
      have : (x.index = (i : Int) - r) ↔ ((r : Int) + x.index = i) := by omega
      by_cases hc : x.index = (i : Int) - r
      · rw [if_pos hc, if_pos (this.1 hc)]
      · rw [if_neg hc, if_neg fun q => hc (this.2 q)]
    · have := h3 hk
      simp; omega
theorem c_l29Copies (os : List ItM) (b : Bool) (i : Int) (h : os.length ≤ 20) (hc : ∀ x, x ∈ os → okCp x) : Fn Try.prog 32 [eIts os, eB b, eI i] true (· = eI (cps b i os)) := by
  refine Fn.of_vcN 39 [.tmp 6] Try.func32 rfl rfl rfl rfl rfl (of_decide_eq_true rfl) ?_
  have hb := fun k => cps_in b i (os.take k) fun x hx => hc x (List.mem_of_mem_take hx)
  simp -dsimp -implicitDefEqProofs only [go_sem, ↓reduceIte, Nat.reduceEqDiff, Nat.reduceLT, Nat.reduceAdd, Nat.reduceMul, Nat.reduceLeDiff, Nat.le_refl, Int.natCast_zero, Int.toNat_natCast, Int.reduceToNat]
  refine Later.up [0, 1, 2] [11] [] os.length (fun _ => True) (fun k => [(7, eI (cps b i (os.take k))), (8, eI k)]) (fun _ => []) trivial ?_ rfl (fun k hk _ => ?_) (fun _ => ?_)
  · simp -dsimp -implicitDefEqProofs only [go_sem, ↓reduceIte, Nat.reduceEqDiff, Nat.reduceLT, Nat.reduceAdd, Nat.reduceMul, Nat.reduceLeDiff, Nat.le_refl, Int.natCast_zero, Int.toNat_natCast, Int.reduceToNat]
    exact rfl
  · have gk := get_some hk
    have hx := hc os[k] (List.getElem_mem hk)
    have hbk := hb k
    have hl : (os.take k).length ≤ 20 := by simp; omega
    obtain ⟨x1, x2⟩ := hx
    rw [cps_take b i os k hk]
    clear hb
    generalize os[k] = x at *
    generalize cps b i (os.take k) = z at *
    rcases e1 : (x.key == b) with _ | _
    · have hF : cpsF b i x = 0 := by rw [cpsF, if_neg (by rw [e1]; decide)]
      rw [hF, Int.add_zero]
      simp -dsimp -implicitDefEqProofs only [pick_nil, pick_cons, look_nil, look_cons, dropB_nil, dropB_cons, inD_nil, inD_cons, inE_nil, inE_cons, or_t_l, or_f_l, Nat.reduceBEq, Nat.reduceDiv, Nat.reduceAdd, beq_self_eq_true, Bool.false_eq_true, Bool.or_false, ↓reduceIte, Nat.reduceEqDiff, List.cons_append, List.nil_append]
      simp -dsimp -implicitDefEqProofs only [go_sem, ↓reduceIte, Nat.reduceEqDiff, Nat.reduceLT, Nat.reduceAdd, Nat.reduceMul, Nat.reduceLeDiff, Nat.le_refl, Int.natCast_zero, Int.toNat_natCast, Int.reduceToNat, lt_len hk, gk, e1]
      ((repeat' (with_reducible refine And.intro ?_ ?_)); all_goals try (first | omega | (refine ⟨?_, ?_⟩ <;> omega) | (exact rfl)))
      all_goals try simp -dsimp -implicitDefEqProofs only [go_sem, ↓reduceIte, Nat.reduceEqDiff, Nat.reduceLT, Nat.reduceAdd, Nat.reduceMul, Nat.reduceLeDiff, Nat.le_refl, Int.natCast_zero, Int.toNat_natCast, Int.reduceToNat, gk, e1]
      all_goals (first | omega | (refine ⟨?_, ?_⟩ <;> omega) | (exact rfl) | (simp; done) | trace_state)
    · rcases e2 : (x.index == i) with _ | _
      · have hF : cpsF b i x = 0 := by rw [cpsF, if_pos e1, if_neg (by rw [e2]; decide)]
        rw [hF, Int.add_zero]
        simp -dsimp -implicitDefEqProofs only [pick_nil, pick_cons, look_nil, look_cons, dropB_nil, dropB_cons, inD_nil, inD_cons, inE_nil, inE_cons, or_t_l, or_f_l, Nat.reduceBEq, Nat.reduceDiv, Nat.reduceAdd, beq_self_eq_true, Bool.false_eq_true, Bool.or_false, ↓reduceIte, Nat.reduceEqDiff, List.cons_append, List.nil_append]
        simp -dsimp -implicitDefEqProofs only [go_sem, ↓reduceIte, Nat.reduceEqDiff, Nat.reduceLT, Nat.reduceAdd, Nat.reduceMul, Nat.reduceLeDiff, Nat.le_refl, Int.natCast_zero, Int.toNat_natCast, Int.reduceToNat, lt_len hk, gk, e1, e2]
        ((repeat' (with_reducible refine And.intro ?_ ?_)); all_goals try (first | omega | (refine ⟨?_, ?_⟩ <;> omega) | (exact rfl)))
        all_goals try simp -dsimp -implicitDefEqProofs only [go_sem, ↓reduceIte, Nat.reduceEqDiff, Nat.reduceLT, Nat.reduceAdd, Nat.reduceMul, Nat.reduceLeDiff, Nat.le_refl, Int.natCast_zero, Int.toNat_natCast, Int.reduceToNat, gk, e1, e2]
        all_goals (first | omega | (refine ⟨?_, ?_⟩ <;> omega) | (exact rfl) | (simp; done) | trace_state)
      · have hF : cpsF b i x = x.copies := by rw [cpsF, if_pos e1, if_pos e2]
        rw [hF]
        simp -dsimp -implicitDefEqProofs only [pick_nil, pick_cons, look_nil, look_cons, dropB_nil, dropB_cons, inD_nil, inD_cons, inE_nil, inE_cons, or_t_l, or_f_l, Nat.reduceBEq, Nat.reduceDiv, Nat.reduceAdd, beq_self_eq_true, Bool.false_eq_true, Bool.or_false, ↓reduceIte, Nat.reduceEqDiff, List.cons_append, List.nil_append]
        simp -dsimp -implicitDefEqProofs only [go_sem, ↓reduceIte, Nat.reduceEqDiff, Nat.reduceLT, Nat.reduceAdd, Nat.reduceMul, Nat.reduceLeDiff, Nat.le_refl, Int.natCast_zero, Int.toNat_natCast, Int.reduceToNat, lt_len hk, gk, e1, e2]
        ((repeat' (with_reducible refine And.intro ?_ ?_)); all_goals try (first | omega | (refine ⟨?_, ?_⟩ <;> omega) | (exact rfl)))
        all_goals try simp -dsimp -implicitDefEqProofs only [go_sem, ↓reduceIte, Nat.reduceEqDiff, Nat.reduceLT, Nat.reduceAdd, Nat.reduceMul, Nat.reduceLeDiff, Nat.le_refl, Int.natCast_zero, Int.toNat_natCast, Int.reduceToNat, gk, e1, e2]
        ((repeat' (with_reducible refine And.intro ?_ ?_)); all_goals try (first | omega | (refine ⟨?_, ?_⟩ <;> omega) | (exact rfl)))
        all_goals (first | omega | (refine ⟨?_, ?_⟩ <;> omega) | (exact rfl) | (simp; done) | trace_state)
  · simp -dsimp -implicitDefEqProofs only [pick_nil, pick_cons, look_nil, look_cons, dropB_nil, dropB_cons, inD_nil, inD_cons, inE_nil, inE_cons, or_t_l, or_f_l, Nat.reduceBEq, Nat.reduceDiv, Nat.reduceAdd, beq_self_eq_true, Bool.false_eq_true, Bool.or_false, ↓reduceIte, Nat.reduceEqDiff, List.cons_append, List.nil_append]
    simp -dsimp -implicitDefEqProofs only [go_sem, ↓reduceIte, Nat.reduceEqDiff, Nat.reduceLT, Nat.reduceAdd, Nat.reduceMul, Nat.reduceLeDiff, Nat.le_refl, Int.natCast_zero, Int.toNat_natCast, Int.reduceToNat, nlt_len, List.take_length]
theorem few_no {r n : Nat} {os : List ItM} {i : Nat} (hi : i < n) (h : cpy r i os > 50) : few r os n = false := by
  rw [few, List.all_eq_false]
  exact ⟨i, List.mem_range.2 hi, by simp; omega⟩
theorem few_yes {r n : Nat} {os : List ItM} (h : few r os n = true) (h1 : ¬ cpy r n os > 50) : few r os (n + 1) = true := by
  rw [few] at *
  rw [range_all_succ, h]
  simp; omega
set_option maxHeartbeats 4000000 in
theorem c_sNormal (m : MkM) (t : List (List Int)) (os : List ItM) (h : t.length ≤ 1048576) (h2 : ∀ x ∈ t, x.length ≤ 1048576) (h3 : os.length ≤ 1048576) : Fn Try.prog 16 [eSy m t, eIts os] true (· = .tup [eIts (normalO m t os).1, eI (normalO m t os).2]) := by
  refine Fn.of_vcN 64 [.tmp 4, .tmp 5] Try.func16 rfl rfl rfl rfl rfl (of_decide_eq_true rfl) ?_
  have hcode := c_l29System m t os h h2 h3
  rcases hb : (ordCode m t os == 0) with _ | _
  · have hF : normalO m t os = ([], ordCode m t os) := by rw [normalO, if_neg (by simpa using hb)]
    have hb2 : (ordCode m t os != 0) = true := by simp [bne, hb]
    rw [hF]
    generalize ordCode m t os = c at *
    simp -dsimp -implicitDefEqProofs only [go_sem, ↓reduceIte, Nat.reduceEqDiff, Nat.reduceLT, Nat.reduceAdd, Nat.reduceMul, Nat.reduceLeDiff, Nat.le_refl, Int.natCast_zero, Int.toNat_natCast, Int.reduceToNat]
    (refine sCallT_one (hcode) ?_; try simp -dsimp -implicitDefEqProofs only [go_sem, ↓reduceIte, Nat.reduceEqDiff, Nat.reduceLT, Nat.reduceAdd, Nat.reduceMul, Nat.reduceLeDiff, Nat.le_refl, Int.natCast_zero, Int.toNat_natCast, Int.reduceToNat, *])
    all_goals try simp -dsimp -implicitDefEqProofs only [go_sem, ↓reduceIte, Nat.reduceEqDiff, Nat.reduceLT, Nat.reduceAdd, Nat.reduceMul, Nat.reduceLeDiff, Nat.le_refl, Int.natCast_zero, Int.toNat_natCast, Int.reduceToNat, hb, hb2]
    all_goals (first | omega | (refine ⟨?_, ?_⟩ <;> omega) | (exact rfl) | (simp; done) | trace_state)
  · have hb0 : ordCode m t os = 0 := by simpa using hb
    obtain ⟨f1, f2, f3⟩ := ord_facts hb0
    have hnl := (nrm_len hb0 (Same.refl os)) 
    obtain ⟨k1, k2⟩ := ordCode_zero hb0
    obtain ⟨n1, n2, n3, n4, n5⟩ := isSy_num k1
    have h00 : 0 < t.length := by omega
    have g0 := get_some h00
    have gd : t.getD 0 [] = t[0] := by simp [List.getD_eq_getElem?_getD, h00]
    have hF : normalO m t os = if few t.length os (wide t) = true then (nrm t.length os (wide t), 0) else ([], 3) := by rw [normalO, if_pos hb0]
    rw [hF]
    clear hF hnl
    rw [hb0] at hcode
    have hw : wide t = t.length + t[0].length := by rw [wide, gd]
    have hci := fun i => cpy_in t.length i os fun x hx => (f3 x hx).2.1
    have hcc := fun b i => c_l29Copies os b i f2 fun x hx => (f3 x hx).2.1
    have hlow := fun (i : Nat) (hi : i < t.length) => cps_low hi fun x hx => (f3 x hx).1
    have hhigh := fun (i : Nat) (hi : t.length ≤ i) => cps_high hi fun x hx => (f3 x hx).1
    have hnml : ∀ n, (nrm t.length os n).length ≤ n := by
      intro n
      induction n with
      | zero => simp [nrm]
      | succ n ih =>
        rw [nrm]
        split
        · simp; omega
        · omega
    rw [gd] at n3 n4 n5
    clear gd
    simp -dsimp -implicitDefEqProofs only [go_sem, ↓reduceIte, Nat.reduceEqDiff, Nat.reduceLT, Nat.reduceAdd, Nat.reduceMul, Nat.reduceLeDiff, Nat.le_refl, Int.natCast_zero, Int.toNat_natCast, Int.reduceToNat, g0]
    (refine sCallT_one (hcode) ?_; try simp -dsimp -implicitDefEqProofs only [go_sem, ↓reduceIte, Nat.reduceEqDiff, Nat.reduceLT, Nat.reduceAdd, Nat.reduceMul, Nat.reduceLeDiff, Nat.le_refl, Int.natCast_zero, Int.toNat_natCast, Int.reduceToNat, *])
    refine Later.draw mixed rfl ?_
    simp -dsimp -implicitDefEqProofs only [go_sem, ↓reduceIte, Nat.reduceEqDiff, Nat.reduceLT, Nat.reduceAdd, Nat.reduceMul, Nat.reduceLeDiff, Nat.le_refl, Int.natCast_zero, Int.toNat_natCast, Int.reduceToNat, g0]
    ((repeat' (with_reducible refine And.intro ?_ ?_)); all_goals try (first | omega | (refine ⟨?_, ?_⟩ <;> omega) | (exact rfl)))
    all_goals try simp -dsimp -implicitDefEqProofs only [go_sem, ↓reduceIte, Nat.reduceEqDiff, Nat.reduceLT, Nat.reduceAdd, Nat.reduceMul, Nat.reduceLeDiff, Nat.le_refl, Int.natCast_zero, Int.toNat_natCast, Int.reduceToNat, g0]
    ((repeat' (with_reducible refine And.intro ?_ ?_)); all_goals try (first | omega | (refine ⟨?_, ?_⟩ <;> omega) | (exact rfl)))
    refine Later.up [1, 8, 9] [11, 51, 61, 62] [18] (wide t) (fun i => few t.length os i = true) (fun i => [(7, .ref 18 0 0 (nrm t.length os i).length), (10, eI i)]) (fun i => [(18, .row 0 ⟨3, true⟩ true ((nrm t.length os i).map eIt))]) rfl ?_ rfl (fun i hi hI => ?_) (fun hI => ?_)
    · simp -dsimp -implicitDefEqProofs only [go_sem, ↓reduceIte, Nat.reduceEqDiff, Nat.reduceLT, Nat.reduceAdd, Nat.reduceMul, Nat.reduceLeDiff, Nat.le_refl, Int.natCast_zero, Int.toNat_natCast, Int.reduceToNat]
      simp [nrm]
    · have dlt : decide ((i : Int) < (t.length : Int) + (t[0].length : Int)) = true := decide_eq_true (by omega)
      have hl := hnml i
      have hcin := hci i
      have hfn := few_no (r := t.length) (os := os) hi
      have hfy := few_yes hI
      have hs : nrm t.length os (i + 1) = if cpy t.length i os > 0 then nrm t.length os i ++ [itAt t.length i (cpy t.length i os)] else nrm t.length os i := rfl
      rw [hs]
      clear hs hnml hci
      generalize nrm t.length os i = q at *
      rcases hir : decide ((i : Int) < (t.length : Int)) with _ | _
      · have hir' : t.length ≤ i := by have := of_decide_eq_false hir; omega
        have dge : decide ((i : Int) ≥ (t.length : Int)) = true := decide_eq_true (by omega)
        have hc := hcc false ((i : Int) - t.length)
        rw [hhigh i hir'] at hc
        have hat : itAt t.length i (cpy t.length i os) = ⟨false, (i : Int) - t.length, cpy t.length i os⟩ := by rw [itAt, if_neg (by omega)]
        rw [hat]
        clear hat hlow hhigh hcc
        generalize cpy t.length i os = c at *
        rcases h50 : decide (c > 50) with _ | _
        · have h50' := of_decide_eq_false h50
          have hfy := hfy h50'
          rcases hc0 : decide (c > 0) with _ | _
          · rw [if_neg (of_decide_eq_false hc0)]
            simp -dsimp -implicitDefEqProofs only [pick_nil, pick_cons, look_nil, look_cons, dropB_nil, dropB_cons, inD_nil, inD_cons, inE_nil, inE_cons, or_t_l, or_f_l, Nat.reduceBEq, Nat.reduceDiv, Nat.reduceAdd, beq_self_eq_true, Bool.false_eq_true, Bool.or_false, ↓reduceIte, Nat.reduceEqDiff, List.cons_append, List.nil_append]
            simp -dsimp -implicitDefEqProofs only [go_sem, ↓reduceIte, Nat.reduceEqDiff, Nat.reduceLT, Nat.reduceAdd, Nat.reduceMul, Nat.reduceLeDiff, Nat.le_refl, Int.natCast_zero, Int.toNat_natCast, Int.reduceToNat, dlt, hir, dge]
            ((repeat' (with_reducible refine And.intro ?_ ?_)); all_goals try (first | omega | (refine ⟨?_, ?_⟩ <;> omega) | (exact rfl)))
            all_goals try simp -dsimp -implicitDefEqProofs only [go_sem, ↓reduceIte, Nat.reduceEqDiff, Nat.reduceLT, Nat.reduceAdd, Nat.reduceMul, Nat.reduceLeDiff, Nat.le_refl, Int.natCast_zero, Int.toNat_natCast, Int.reduceToNat, dge]
            refine sCallT_one hc ?_
            simp -dsimp -implicitDefEqProofs only [go_sem, ↓reduceIte, Nat.reduceEqDiff, Nat.reduceLT, Nat.reduceAdd, Nat.reduceMul, Nat.reduceLeDiff, Nat.le_refl, Int.natCast_zero, Int.toNat_natCast, Int.reduceToNat, h50, hc0]
            ((repeat' (with_reducible refine And.intro ?_ ?_)); all_goals try (first | omega | (refine ⟨?_, ?_⟩ <;> omega) | (exact rfl)))
            all_goals (first | omega | (refine ⟨?_, ?_⟩ <;> omega) | (exact rfl) | (simp; done) | trace_state)
          · rw [if_pos (of_decide_eq_true hc0)]
            simp -dsimp -implicitDefEqProofs only [pick_nil, pick_cons, look_nil, look_cons, dropB_nil, dropB_cons, inD_nil, inD_cons, inE_nil, inE_cons, or_t_l, or_f_l, Nat.reduceBEq, Nat.reduceDiv, Nat.reduceAdd, beq_self_eq_true, Bool.false_eq_true, Bool.or_false, ↓reduceIte, Nat.reduceEqDiff, List.cons_append, List.nil_append]
            simp -dsimp -implicitDefEqProofs only [go_sem, ↓reduceIte, Nat.reduceEqDiff, Nat.reduceLT, Nat.reduceAdd, Nat.reduceMul, Nat.reduceLeDiff, Nat.le_refl, Int.natCast_zero, Int.toNat_natCast, Int.reduceToNat, dlt, hir, dge]
            ((repeat' (with_reducible refine And.intro ?_ ?_)); all_goals try (first | omega | (refine ⟨?_, ?_⟩ <;> omega) | (exact rfl)))
            all_goals try simp -dsimp -implicitDefEqProofs only [go_sem, ↓reduceIte, Nat.reduceEqDiff, Nat.reduceLT, Nat.reduceAdd, Nat.reduceMul, Nat.reduceLeDiff, Nat.le_refl, Int.natCast_zero, Int.toNat_natCast, Int.reduceToNat, dge]
            refine sCallT_one hc ?_
            simp -dsimp -implicitDefEqProofs only [go_sem, ↓reduceIte, Nat.reduceEqDiff, Nat.reduceLT, Nat.reduceAdd, Nat.reduceMul, Nat.reduceLeDiff, Nat.le_refl, Int.natCast_zero, Int.toNat_natCast, Int.reduceToNat, h50, hc0]
            ((repeat' (with_reducible refine And.intro ?_ ?_)); all_goals try (first | omega | (refine ⟨?_, ?_⟩ <;> omega) | (exact rfl)))
            all_goals first | (first | omega | (refine ⟨?_, ?_⟩ <;> omega) | (exact rfl) | (simp; done) | trace_state) | (refine ⟨hfy, ?_⟩; simp; done)
        · have hff := hfn (of_decide_eq_true h50)
          rw [if_neg (by rw [hff]; decide)]
          simp -dsimp -implicitDefEqProofs only [pick_nil, pick_cons, look_nil, look_cons, dropB_nil, dropB_cons, inD_nil, inD_cons, inE_nil, inE_cons, or_t_l, or_f_l, Nat.reduceBEq, Nat.reduceDiv, Nat.reduceAdd, beq_self_eq_true, Bool.false_eq_true, Bool.or_false, ↓reduceIte, Nat.reduceEqDiff, List.cons_append, List.nil_append]
          simp -dsimp -implicitDefEqProofs only [go_sem, ↓reduceIte, Nat.reduceEqDiff, Nat.reduceLT, Nat.reduceAdd, Nat.reduceMul, Nat.reduceLeDiff, Nat.le_refl, Int.natCast_zero, Int.toNat_natCast, Int.reduceToNat, dlt, hir, dge]
          ((repeat' (with_reducible refine And.intro ?_ ?_)); all_goals try (first | omega | (refine ⟨?_, ?_⟩ <;> omega) | (exact rfl)))
          all_goals try simp -dsimp -implicitDefEqProofs only [go_sem, ↓reduceIte, Nat.reduceEqDiff, Nat.reduceLT, Nat.reduceAdd, Nat.reduceMul, Nat.reduceLeDiff, Nat.le_refl, Int.natCast_zero, Int.toNat_natCast, Int.reduceToNat, dge]
          refine sCallT_one hc ?_
          simp -dsimp -implicitDefEqProofs only [go_sem, ↓reduceIte, Nat.reduceEqDiff, Nat.reduceLT, Nat.reduceAdd, Nat.reduceMul, Nat.reduceLeDiff, Nat.le_refl, Int.natCast_zero, Int.toNat_natCast, Int.reduceToNat, h50]
          ((repeat' (with_reducible refine And.intro ?_ ?_)); all_goals try (first | omega | (refine ⟨?_, ?_⟩ <;> omega) | (exact rfl)))
          all_goals (first | omega | (refine ⟨?_, ?_⟩ <;> omega) | (exact rfl) | (simp; done) | trace_state)
      · have hir' : i < t.length := by have := of_decide_eq_true hir; omega
        have dge : decide ((i : Int) ≥ (t.length : Int)) = false := decide_eq_false (by omega)
        have hc := hcc true i
        rw [hlow i hir'] at hc
        have hat : itAt t.length i (cpy t.length i os) = ⟨true, (i : Int), cpy t.length i os⟩ := by rw [itAt, if_pos hir']
        rw [hat]
        clear hat hlow hhigh hcc
        generalize cpy t.length i os = c at *
        rcases h50 : decide (c > 50) with _ | _
        · have h50' := of_decide_eq_false h50
          have hfy := hfy h50'
          rcases hc0 : decide (c > 0) with _ | _
          · rw [if_neg (of_decide_eq_false hc0)]
            simp -dsimp -implicitDefEqProofs only [pick_nil, pick_cons, look_nil, look_cons, dropB_nil, dropB_cons, inD_nil, inD_cons, inE_nil, inE_cons, or_t_l, or_f_l, Nat.reduceBEq, Nat.reduceDiv, Nat.reduceAdd, beq_self_eq_true, Bool.false_eq_true, Bool.or_false, ↓reduceIte, Nat.reduceEqDiff, List.cons_append, List.nil_append]
            simp -dsimp -implicitDefEqProofs only [go_sem, ↓reduceIte, Nat.reduceEqDiff, Nat.reduceLT, Nat.reduceAdd, Nat.reduceMul, Nat.reduceLeDiff, Nat.le_refl, Int.natCast_zero, Int.toNat_natCast, Int.reduceToNat, dlt, hir, dge]
            ((repeat' (with_reducible refine And.intro ?_ ?_)); all_goals try (first | omega | (refine ⟨?_, ?_⟩ <;> omega) | (exact rfl)))
            all_goals try simp -dsimp -implicitDefEqProofs only [go_sem, ↓reduceIte, Nat.reduceEqDiff, Nat.reduceLT, Nat.reduceAdd, Nat.reduceMul, Nat.reduceLeDiff, Nat.le_refl, Int.natCast_zero, Int.toNat_natCast, Int.reduceToNat, dge]
            refine sCallT_one hc ?_
            simp -dsimp -implicitDefEqProofs only [go_sem, ↓reduceIte, Nat.reduceEqDiff, Nat.reduceLT, Nat.reduceAdd, Nat.reduceMul, Nat.reduceLeDiff, Nat.le_refl, Int.natCast_zero, Int.toNat_natCast, Int.reduceToNat, h50, hc0]
            ((repeat' (with_reducible refine And.intro ?_ ?_)); all_goals try (first | omega | (refine ⟨?_, ?_⟩ <;> omega) | (exact rfl)))
            all_goals (first | omega | (refine ⟨?_, ?_⟩ <;> omega) | (exact rfl) | (simp; done) | trace_state)
          · rw [if_pos (of_decide_eq_true hc0)]
            simp -dsimp -implicitDefEqProofs only [pick_nil, pick_cons, look_nil, look_cons, dropB_nil, dropB_cons, inD_nil, inD_cons, inE_nil, inE_cons, or_t_l, or_f_l, Nat.reduceBEq, Nat.reduceDiv, Nat.reduceAdd, beq_self_eq_true, Bool.false_eq_true, Bool.or_false, ↓reduceIte, Nat.reduceEqDiff, List.cons_append, List.nil_append]
            simp -dsimp -implicitDefEqProofs only [go_sem, ↓reduceIte, Nat.reduceEqDiff, Nat.reduceLT, Nat.reduceAdd, Nat.reduceMul, Nat.reduceLeDiff, Nat.le_refl, Int.natCast_zero, Int.toNat_natCast, Int.reduceToNat, dlt, hir, dge]
            ((repeat' (with_reducible refine And.intro ?_ ?_)); all_goals try (first | omega | (refine ⟨?_, ?_⟩ <;> omega) | (exact rfl)))
            all_goals try simp -dsimp -implicitDefEqProofs only [go_sem, ↓reduceIte, Nat.reduceEqDiff, Nat.reduceLT, Nat.reduceAdd, Nat.reduceMul, Nat.reduceLeDiff, Nat.le_refl, Int.natCast_zero, Int.toNat_natCast, Int.reduceToNat, dge]
            refine sCallT_one hc ?_
            simp -dsimp -implicitDefEqProofs only [go_sem, ↓reduceIte, Nat.reduceEqDiff, Nat.reduceLT, Nat.reduceAdd, Nat.reduceMul, Nat.reduceLeDiff, Nat.le_refl, Int.natCast_zero, Int.toNat_natCast, Int.reduceToNat, h50, hc0]
            ((repeat' (with_reducible refine And.intro ?_ ?_)); all_goals try (first | omega | (refine ⟨?_, ?_⟩ <;> omega) | (exact rfl)))
            all_goals first | (first | omega | (refine ⟨?_, ?_⟩ <;> omega) | (exact rfl) | (simp; done) | trace_state) | (refine ⟨hfy, ?_⟩; simp; done)
        · have hff := hfn (of_decide_eq_true h50)
          rw [if_neg (by rw [hff]; decide)]
          simp -dsimp -implicitDefEqProofs only [pick_nil, pick_cons, look_nil, look_cons, dropB_nil, dropB_cons, inD_nil, inD_cons, inE_nil, inE_cons, or_t_l, or_f_l, Nat.reduceBEq, Nat.reduceDiv, Nat.reduceAdd, beq_self_eq_true, Bool.false_eq_true, Bool.or_false, ↓reduceIte, Nat.reduceEqDiff, List.cons_append, List.nil_append]
          simp -dsimp -implicitDefEqProofs only [go_sem, ↓reduceIte, Nat.reduceEqDiff, Nat.reduceLT, Nat.reduceAdd, Nat.reduceMul, Nat.reduceLeDiff, Nat.le_refl, Int.natCast_zero, Int.toNat_natCast, Int.reduceToNat, dlt, hir, dge]
          ((repeat' (with_reducible refine And.intro ?_ ?_)); all_goals try (first | omega | (refine ⟨?_, ?_⟩ <;> omega) | (exact rfl)))
          all_goals try simp -dsimp -implicitDefEqProofs only [go_sem, ↓reduceIte, Nat.reduceEqDiff, Nat.reduceLT, Nat.reduceAdd, Nat.reduceMul, Nat.reduceLeDiff, Nat.le_refl, Int.natCast_zero, Int.toNat_natCast, Int.reduceToNat, dge]
          refine sCallT_one hc ?_
          simp -dsimp -implicitDefEqProofs only [go_sem, ↓reduceIte, Nat.reduceEqDiff, Nat.reduceLT, Nat.reduceAdd, Nat.reduceMul, Nat.reduceLeDiff, Nat.le_refl, Int.natCast_zero, Int.toNat_natCast, Int.reduceToNat, h50]
          ((repeat' (with_reducible refine And.intro ?_ ?_)); all_goals try (first | omega | (refine ⟨?_, ?_⟩ <;> omega) | (exact rfl)))
          all_goals (first | omega | (refine ⟨?_, ?_⟩ <;> omega) | (exact rfl) | (simp; done) | trace_state)
    · have dlt : decide (((wide t : Nat) : Int) < (t.length : Int) + (t[0].length : Int)) = false := decide_eq_false (by omega)
      have hl := hnml (wide t)
      rw [if_pos hI]
      simp -dsimp -implicitDefEqProofs only [pick_nil, pick_cons, look_nil, look_cons, dropB_nil, dropB_cons, inD_nil, inD_cons, inE_nil, inE_cons, or_t_l, or_f_l, Nat.reduceBEq, Nat.reduceDiv, Nat.reduceAdd, beq_self_eq_true, Bool.false_eq_true, Bool.or_false, ↓reduceIte, Nat.reduceEqDiff, List.cons_append, List.nil_append]
      simp -dsimp -implicitDefEqProofs only [go_sem, ↓reduceIte, Nat.reduceEqDiff, Nat.reduceLT, Nat.reduceAdd, Nat.reduceMul, Nat.reduceLeDiff, Nat.le_refl, Int.natCast_zero, Int.toNat_natCast, Int.reduceToNat, dlt]
      ((repeat' (with_reducible refine And.intro ?_ ?_)); all_goals try (first | omega | (refine ⟨?_, ?_⟩ <;> omega) | (exact rfl)))
      all_goals (first | omega | (refine ⟨?_, ?_⟩ <;> omega) | (exact rfl) | (simp; done) | trace_state)
end Go.Vc
