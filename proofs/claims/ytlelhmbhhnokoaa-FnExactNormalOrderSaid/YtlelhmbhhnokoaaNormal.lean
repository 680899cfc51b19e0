/-
  Contracts: normal orders; the library's stable sort of at most twenty items.
-/
import Derived.Test.YtlelhmbhhnokoaaTake
set_option linter.unusedVariables false
set_option linter.unusedSimpArgs false
set_option linter.unnecessarySimpa false
namespace Go.Vc
open Go.Proofs
set_option maxRecDepth 100000
/- ---- how items compare -/
def cmpIt (a b : ItM) : Int := if (a.key != b.key) = true then (if a.key = true then -1 else 1) else a.index - b.index
def rkIt (r : Int) (x : ItM) : Int := if x.key = true then x.index else r + x.index
def okIx (r : Int) (x : ItM) : Prop := (0 ≤ x.index ∧ x.index ≤ 1000) ∧ (x.key = true → x.index < r)
theorem cmp_rk {r : Int} {a b : ItM} (ha : okIx r a) (hb : okIx r b) : (cmpIt a b < 0 ↔ rkIt r a < rkIt r b) ∧ (cmpIt a b = 0 ↔ rkIt r a = rkIt r b) := by
  obtain ⟨⟨a1, a2⟩, a3⟩ := ha
  obtain ⟨⟨b1, b2⟩, b3⟩ := hb
  unfold cmpIt rkIt
  rcases hk : a.key with _ | _ <;> rcases hl : b.key with _ | _ <;> simp
  · omega
  · have := b3 hl; omega
  · have := a3 hk; omega
  · omega
theorem c_compareItems {r : Int} {a b : ItM} (ha : okIx r a) (hb : okIx r b) : Fn Try.prog 34 [eIt a, eIt b] true (· = eI (cmpIt a b)) := by
  obtain ⟨⟨a1, a2⟩, _⟩ := ha
  obtain ⟨⟨b1, b2⟩, _⟩ := hb
  refine Fn.of_vcN 17 [.tmp 4] Try.func34 rfl rfl rfl rfl rfl (of_decide_eq_true rfl) ?_
  unfold cmpIt
  rcases hk : a.key with _ | _ <;> rcases hl : b.key with _ | _
  all_goals
    simp -dsimp -implicitDefEqProofs only [go_sem, ↓reduceIte, Nat.reduceEqDiff, Nat.reduceLT, Nat.reduceAdd, Nat.reduceMul, Nat.reduceLeDiff, Nat.le_refl, Int.natCast_zero, Int.toNat_natCast, Int.reduceToNat, hk, hl]
    repeat' first
      | (refine Br.intro (fun _ => ?_) (fun _ => ?_) <;> try simp -dsimp -implicitDefEqProofs only [go_sem, ↓reduceIte, Nat.reduceEqDiff, Nat.reduceLT, Nat.reduceAdd, Nat.reduceMul, Nat.reduceLeDiff, Nat.le_refl, Int.natCast_zero, Int.toNat_natCast, Int.reduceToNat, *])
      | (with_reducible refine And.intro ?_ ?_)
    all_goals first | (rename_i hx; exact absurd hx (by decide)) | (first | omega | (refine ⟨?_, ?_⟩ <;> omega) | (exact rfl) | (simp; done) | trace_state) | (simp_all; done)
/- ---- lists that hold the same items -/
structure Same (os D : List ItM) : Prop where
  len : D.length = os.length
  mem : ∀ x, x ∈ D → x ∈ os
  sum : ∀ f : ItM → Int, (D.map f).sum = (os.map f).sum
theorem Same.refl (os : List ItM) : Same os os := ⟨rfl, fun _ h => h, fun _ => rfl⟩
theorem sum_set (f : ItM → Int) : ∀ (D : List ItM) (j : Nat) (y : ItM) (h : j < D.length), ((D.set j y).map f).sum = (D.map f).sum - f D[j] + f y
  | [], j, _, h => absurd h (Nat.not_lt_zero _)
  | x :: D, 0, y, h => by simp; omega
  | x :: D, j + 1, y, h => by
    have := sum_set f D j y (by simpa using h)
    simp only [List.set_cons_succ, List.map_cons, List.sum_cons, List.getElem_cons_succ, this]
    omega
def swp (D : List ItM) (j : Nat) : List ItM := (D.set j (D.getD (j - 1) default)).set (j - 1) (D.getD j default)
theorem swp_len (D : List ItM) (j : Nat) : (swp D j).length = D.length := by simp [swp]
theorem getD_get {D : List ItM} {j : Nat} (h : j < D.length) : D.getD j default = D[j] := by simp [List.getD_eq_getElem?_getD, h]
theorem swp_get (D : List ItM) (j p : Nat) (h0 : 0 < j) (hj : j < D.length) : (swp D j).getD p default = if p = j - 1 then D.getD j default else if p = j then D.getD (j - 1) default else D.getD p default := by
  simp only [swp, List.getD_eq_getElem?_getD, List.getElem?_set, List.length_set]
  by_cases h1 : p = j - 1
  · subst h1
    rw [if_pos rfl, if_pos rfl, if_pos (by omega)]; rfl
  · rw [if_neg (by omega), if_neg h1]
    by_cases h2 : p = j
    · subst h2
      rw [if_pos rfl, if_pos rfl, if_pos hj]; rfl
    · rw [if_neg (by omega), if_neg h2]
theorem Same.swp {os D : List ItM} (h : Same os D) {j : Nat} (h0 : 0 < j) (hj : j < D.length) : Same os (swp D j) := by
  have e0 := getD_get hj
  have e1 := getD_get (D := D) (j := j - 1) (by omega)
  refine ⟨(swp_len D j).trans h.len, fun x hx => ?_, fun f => ?_⟩
  · unfold Go.Vc.swp at hx
    rcases List.mem_or_eq_of_mem_set hx with hx | hx
    · rcases List.mem_or_eq_of_mem_set hx with hx | hx
      · exact h.mem x hx
      · rw [hx, e1]; exact h.mem _ (List.getElem_mem _)
    · rw [hx, e0]; exact h.mem _ (List.getElem_mem _)
  · rw [← h.sum f]
    unfold Go.Vc.swp
    rw [sum_set f _ (j - 1) _ (by simp; omega), sum_set f D j _ hj]
    have : (D.set j (D.getD (j - 1) default))[j - 1]'(by simp; omega) = D[j - 1] := by rw [List.getElem_set_ne (by omega)]
    rw [this, e0, e1]; omega
def srt (r : Int) (D : List ItM) (n : Nat) : Prop := ∀ p q, p < q → q < n → rkIt r (D.getD p default) ≤ rkIt r (D.getD q default)
/-- the beginning is sorted but for one place, which goes down -/
def hol (r : Int) (D : List ItM) (i j : Nat) : Prop := (∀ p q, p < q → q < i + 1 → p ≠ j → q ≠ j → rkIt r (D.getD p default) ≤ rkIt r (D.getD q default)) ∧ ∀ q, j < q → q < i + 1 → rkIt r (D.getD j default) ≤ rkIt r (D.getD q default)
theorem hol_start {r : Int} {D : List ItM} {i : Nat} (h : srt r D i) : hol r D i i :=
  ⟨fun p q h1 h2 h3 h4 => h p q h1 (by omega), fun q h1 h2 => absurd h1 (by omega)⟩
theorem hol_end0 {r : Int} {D : List ItM} {i : Nat} (h : hol r D i 0) : srt r D (i + 1) := by
  intro p q h1 h2
  by_cases e : p = 0
  · subst e; exact h.2 q h1 h2
  · exact h.1 p q h1 h2 e (by omega)
theorem hol_end {r : Int} {D : List ItM} {i j : Nat} (h : hol r D i j) (h0 : 0 < j) (hji : j ≤ i) (hc : rkIt r (D.getD (j - 1) default) ≤ rkIt r (D.getD j default)) : srt r D (i + 1) := by
  intro p q h1 h2
  by_cases e : p = j
  · subst e; exact h.2 q h1 h2
  · by_cases e2 : q = j
    · subst e2
      by_cases e3 : p = q - 1
      · subst e3; exact hc
      · exact Int.le_trans (h.1 p (q - 1) (by omega) (by omega) e (by omega)) hc
    · exact h.1 p q h1 h2 e e2
theorem hol_step {r : Int} {D : List ItM} {i j : Nat} (h : hol r D i j) (h0 : 0 < j) (hji : j ≤ i) (hi : i < D.length) (hc : rkIt r (D.getD j default) < rkIt r (D.getD (j - 1) default)) : hol r (swp D j) i (j - 1) := by
  have g := fun p => swp_get D j p h0 (by omega)
  refine ⟨fun p q h1 h2 h3 h4 => ?_, fun q h1 h2 => ?_⟩
  · rw [g, g, if_neg h3, if_neg h4]
    by_cases e : p = j
    · rw [if_pos e, if_neg (by omega)]
      exact h.1 (j - 1) q (by omega) h2 (by omega) (by omega)
    · rw [if_neg e]
      by_cases e2 : q = j
      · rw [if_pos e2]
        exact h.1 p (j - 1) (by omega) (by omega) e (by omega)
      · rw [if_neg e2]
        exact h.1 p q h1 h2 e e2
  · rw [g, g, if_pos rfl, if_neg (by omega)]
    by_cases e2 : q = j
    · rw [if_pos e2]; omega
    · rw [if_neg e2]
      exact h.2 q (by omega) h2
theorem srt_one (r : Int) (D : List ItM) : srt r D 1 := fun p q h1 h2 => absurd h1 (by omega)
def sysB (m : MkM) (t : List (List Int)) : Mem := [(1500000020, .row 0 ⟨3, true⟩ true []), (1500000002, .box 0 [eI m.chambers, eI m.depths, eI m.step, eI m.same, eI m.least, eIss t])]
set_option maxHeartbeats 4000000 in
theorem vc_ins (m : MkM) (t : List (List Int)) (r : Int) (os : List ItM) (h20 : os.length ≤ 20) (hok : ∀ x, x ∈ os → okIx r x) (Q : Post)
    (hQ : ∀ D ts, Same os D → srt r D os.length → Q .normal ts [(1500020000, .row 0 ⟨3, true⟩ true (D.map eIt)), (1500000020, .row 0 ⟨3, true⟩ true []), (1500000002, .box 0 [eI m.chambers, eI m.depths, eI m.step, eI m.same, eI m.least, eIss t])]) :
    ∀ c, Try.f49.body = some c → vc Try.prog 53 c (argsE 0 [.ref 1500020000 0 0 os.length, eI 0, eI os.length, .clo 34 []])
      [(1500020000, .row 0 ⟨3, true⟩ true (os.map eIt)), (1500000020, .row 0 ⟨3, true⟩ true []), (1500000002, .box 0 [eI m.chambers, eI m.depths, eI m.step, eI m.same, eI m.least, eIss t])] Q := by
  intro c hc
  obtain rfl := (Option.some.inj hc).symm
  simp -dsimp -implicitDefEqProofs only [go_sem, ↓reduceIte, Nat.reduceEqDiff, Nat.reduceLT, Nat.reduceAdd, Nat.reduceMul, Nat.reduceLeDiff, Nat.le_refl, Int.natCast_zero, Int.toNat_natCast, Int.reduceToNat]
  repeat' (with_reducible refine And.intro ?_ ?_)
  all_goals try (first | omega | (refine ⟨?_, ?_⟩ <;> omega))
  refine Later.lp [0, 1, 2, 3] [32] [1500020000] (fun x : Nat × List ItM => 1 ≤ x.1 ∧ x.1 ≤ 20 ∧ Same os x.2 ∧ srt r x.2 (min x.1 os.length)) (fun x => [(8, eI x.1)]) (fun x => [(1500020000, .row 0 ⟨3, true⟩ true (x.2.map eIt))]) (fun x => 20 - x.1) (1, os) ⟨Nat.le_refl _, by omega, Same.refl os, ?_⟩ ?_ rfl (fun x hI => ?_)
  · intro p q h1 h2; exact absurd h1 (by omega)
  · simp -dsimp -implicitDefEqProofs only [go_sem, ↓reduceIte, Nat.reduceEqDiff, Nat.reduceLT, Nat.reduceAdd, Nat.reduceMul, Nat.reduceLeDiff, Nat.le_refl, Int.natCast_zero, Int.toNat_natCast, Int.reduceToNat]
    all_goals exact rfl
  · obtain ⟨i, D⟩ := x
    obtain ⟨i1, i2, hS, hs⟩ := hI
    dsimp only at i1 i2 hS hs ⊢
    have hDl := hS.len
    rcases hi : decide ((i : Int) < os.length) with _ | _
    · have hi' := of_decide_eq_false hi
      rw [Nat.min_eq_right (by omega)] at hs
      simp -dsimp -implicitDefEqProofs only [pick_nil, pick_cons, look_nil, look_cons, dropB_nil, dropB_cons, inD_nil, inD_cons, inE_nil, inE_cons, or_t_l, or_f_l, Nat.reduceBEq, Nat.reduceDiv, Nat.reduceAdd, beq_self_eq_true, Bool.false_eq_true, Bool.or_false, ↓reduceIte, Nat.reduceEqDiff, List.cons_append, List.nil_append]
      simp -dsimp -implicitDefEqProofs only [go_sem, ↓reduceIte, Nat.reduceEqDiff, Nat.reduceLT, Nat.reduceAdd, Nat.reduceMul, Nat.reduceLeDiff, Nat.le_refl, Int.natCast_zero, Int.toNat_natCast, Int.reduceToNat, hi]
      exact hQ D _ hS hs
    · have hi' := of_decide_eq_true hi
      rw [Nat.min_eq_left (by omega)] at hs
      simp -dsimp -implicitDefEqProofs only [pick_nil, pick_cons, look_nil, look_cons, dropB_nil, dropB_cons, inD_nil, inD_cons, inE_nil, inE_cons, or_t_l, or_f_l, Nat.reduceBEq, Nat.reduceDiv, Nat.reduceAdd, beq_self_eq_true, Bool.false_eq_true, Bool.or_false, ↓reduceIte, Nat.reduceEqDiff, List.cons_append, List.nil_append]
      simp -dsimp -implicitDefEqProofs only [go_sem, ↓reduceIte, Nat.reduceEqDiff, Nat.reduceLT, Nat.reduceAdd, Nat.reduceMul, Nat.reduceLeDiff, Nat.le_refl, Int.natCast_zero, Int.toNat_natCast, Int.reduceToNat, hi]
      refine Later.lp [0, 1, 2, 3, 8] [32] [1500020000] (fun x : Nat × List ItM => x.1 ≤ i ∧ Same os x.2 ∧ hol r x.2 i x.1) (fun x => [(9, eI x.1)]) (fun x => [(1500020000, .row 0 ⟨3, true⟩ true (x.2.map eIt))]) (fun x => x.1) (i, D) ⟨Nat.le_refl _, hS, hol_start hs⟩ ?_ rfl (fun x hJ => ?_)
      · simp -dsimp -implicitDefEqProofs only [go_sem, ↓reduceIte, Nat.reduceEqDiff, Nat.reduceLT, Nat.reduceAdd, Nat.reduceMul, Nat.reduceLeDiff, Nat.le_refl, Int.natCast_zero, Int.toNat_natCast, Int.reduceToNat]
      · obtain ⟨j, E⟩ := x
        obtain ⟨j1, jS, jh⟩ := hJ
        dsimp only at j1 jS jh ⊢
        clear hS hs hDl
        have hEl := jS.len
        rcases Nat.eq_zero_or_pos j with rfl | h0
        · have d0 : decide ((0 : Int) > 0) = false := rfl
          have hnew := hol_end0 jh
          simp -dsimp -implicitDefEqProofs only [pick_nil, pick_cons, look_nil, look_cons, dropB_nil, dropB_cons, inD_nil, inD_cons, inE_nil, inE_cons, or_t_l, or_f_l, Nat.reduceBEq, Nat.reduceDiv, Nat.reduceAdd, beq_self_eq_true, Bool.false_eq_true, Bool.or_false, ↓reduceIte, Nat.reduceEqDiff, List.cons_append, List.nil_append]
          simp -dsimp -implicitDefEqProofs only [go_sem, ↓reduceIte, Nat.reduceEqDiff, Nat.reduceLT, Nat.reduceAdd, Nat.reduceMul, Nat.reduceLeDiff, Nat.le_refl, Int.natCast_zero, Int.toNat_natCast, Int.reduceToNat, d0]
          refine Later.draw mixed rfl ?_
          simp -dsimp -implicitDefEqProofs only [go_sem, ↓reduceIte, Nat.reduceEqDiff, Nat.reduceLT, Nat.reduceAdd, Nat.reduceMul, Nat.reduceLeDiff, Nat.le_refl, Int.natCast_zero, Int.toNat_natCast, Int.reduceToNat, d0]
          ((repeat' (with_reducible refine And.intro ?_ ?_)); all_goals try (first | omega | (refine ⟨?_, ?_⟩ <;> omega) | (exact rfl)))
          all_goals try (refine ⟨(i + 1, E), ⟨by omega, by omega, jS, by rw [Nat.min_eq_left (by omega)]; exact hnew⟩, by dsimp only; omega, ?_⟩; simp -dsimp -implicitDefEqProofs only [go_sem, ↓reduceIte, Nat.reduceEqDiff, Nat.reduceLT, Nat.reduceAdd, Nat.reduceMul, Nat.reduceLeDiff, Nat.le_refl, Int.natCast_zero, Int.toNat_natCast, Int.reduceToNat])
          all_goals (first | omega | (refine ⟨?_, ?_⟩ <;> omega) | (exact rfl) | (simp; done) | trace_state)
        · have d0 : decide ((j : Int) > 0) = true := decide_eq_true (by omega)
          have hj : j < E.length := by omega
          have hj2 : j - 1 < E.length := by omega
          have gj := get_some hj
          have gj2 := get_some hj2
          have hp := pred_toNat h0
          have m1 := hok _ (jS.mem _ (List.getElem_mem hj))
          have m2 := hok _ (jS.mem _ (List.getElem_mem hj2))
          have ccc := c_compareItems m1 m2
          have hrk := (cmp_rk m1 m2).1
          have e0 := getD_get hj
          have e1 := getD_get hj2
          have hend := hol_end jh h0 j1
          have hstep := hol_step jh h0 j1 (by omega)
          have hsw : swp E j = (E.set j E[j - 1]).set (j - 1) E[j] := by rw [swp, e0, e1]
          rw [e0, e1] at hend hstep
          rw [hsw] at hstep
          have hsame := jS.swp h0 hj
          rw [hsw] at hsame
          have hsl : ((E.set j E[j - 1]).set (j - 1) E[j]).length = os.length := hsame.len
          have hms : ((E.set j E[j - 1]).set (j - 1) E[j]).map eIt = ((E.map eIt).set j (eIt E[j - 1])).set (j - 1) (eIt E[j]) := by rw [List.map_set, List.map_set]
          have gj3 : ∀ y, ((E.map eIt).set j y)[j - 1]? = some (eIt E[j - 1]) := fun y => by rw [List.getElem?_set_ne (by omega), List.getElem?_map, gj2]; rfl
          clear e0 e1 hsw
          rcases hcm : decide (cmpIt E[j] E[j - 1] < 0) with _ | _
          · have hnew := hend (by have := of_decide_eq_false hcm; omega)
            clear hstep hsame hms hsl gj3
            generalize E[j] = a at *
            generalize E[j - 1] = b at *
            generalize cmpIt a b = z at *
            simp -dsimp -implicitDefEqProofs only [pick_nil, pick_cons, look_nil, look_cons, dropB_nil, dropB_cons, inD_nil, inD_cons, inE_nil, inE_cons, or_t_l, or_f_l, Nat.reduceBEq, Nat.reduceDiv, Nat.reduceAdd, beq_self_eq_true, Bool.false_eq_true, Bool.or_false, ↓reduceIte, Nat.reduceEqDiff, List.cons_append, List.nil_append]
            simp -dsimp -implicitDefEqProofs only [go_sem, ↓reduceIte, Nat.reduceEqDiff, Nat.reduceLT, Nat.reduceAdd, Nat.reduceMul, Nat.reduceLeDiff, Nat.le_refl, Int.natCast_zero, Int.toNat_natCast, Int.reduceToNat, d0]
            refine Later.draw mixed rfl ?_
            simp -dsimp -implicitDefEqProofs only [go_sem, ↓reduceIte, Nat.reduceEqDiff, Nat.reduceLT, Nat.reduceAdd, Nat.reduceMul, Nat.reduceLeDiff, Nat.le_refl, Int.natCast_zero, Int.toNat_natCast, Int.reduceToNat, d0, gj, gj2, hp]
            ((repeat' (with_reducible refine And.intro ?_ ?_)); all_goals try (first | omega | (refine ⟨?_, ?_⟩ <;> omega) | (exact rfl)))
            all_goals try simp -dsimp -implicitDefEqProofs only [go_sem, ↓reduceIte, Nat.reduceEqDiff, Nat.reduceLT, Nat.reduceAdd, Nat.reduceMul, Nat.reduceLeDiff, Nat.le_refl, Int.natCast_zero, Int.toNat_natCast, Int.reduceToNat, gj, gj2, hp]
            ((repeat' (with_reducible refine And.intro ?_ ?_)); all_goals try (first | omega | (refine ⟨?_, ?_⟩ <;> omega) | (exact rfl)))
            refine sCallX_one ccc ?_
            simp -dsimp -implicitDefEqProofs only [go_sem, ↓reduceIte, Nat.reduceEqDiff, Nat.reduceLT, Nat.reduceAdd, Nat.reduceMul, Nat.reduceLeDiff, Nat.le_refl, Int.natCast_zero, Int.toNat_natCast, Int.reduceToNat, hcm]
            ((repeat' (with_reducible refine And.intro ?_ ?_)); all_goals try (first | omega | (refine ⟨?_, ?_⟩ <;> omega) | (exact rfl)))
            all_goals try (refine ⟨(i + 1, E), ⟨by omega, by omega, jS, by rw [Nat.min_eq_left (by omega)]; exact hnew⟩, by dsimp only; omega, ?_⟩; simp -dsimp -implicitDefEqProofs only [go_sem, ↓reduceIte, Nat.reduceEqDiff, Nat.reduceLT, Nat.reduceAdd, Nat.reduceMul, Nat.reduceLeDiff, Nat.le_refl, Int.natCast_zero, Int.toNat_natCast, Int.reduceToNat])
            all_goals (first | omega | (refine ⟨?_, ?_⟩ <;> omega) | (exact rfl) | (simp; done) | trace_state)
          · have hnew := hstep (hrk.1 (of_decide_eq_true hcm))
            clear hend
            generalize (E.set j E[j - 1]).set (j - 1) E[j] = F at *
            generalize E[j] = a at *
            generalize E[j - 1] = b at *
            generalize cmpIt a b = z at *
            simp -dsimp -implicitDefEqProofs only [pick_nil, pick_cons, look_nil, look_cons, dropB_nil, dropB_cons, inD_nil, inD_cons, inE_nil, inE_cons, or_t_l, or_f_l, Nat.reduceBEq, Nat.reduceDiv, Nat.reduceAdd, beq_self_eq_true, Bool.false_eq_true, Bool.or_false, ↓reduceIte, Nat.reduceEqDiff, List.cons_append, List.nil_append]
            simp -dsimp -implicitDefEqProofs only [go_sem, ↓reduceIte, Nat.reduceEqDiff, Nat.reduceLT, Nat.reduceAdd, Nat.reduceMul, Nat.reduceLeDiff, Nat.le_refl, Int.natCast_zero, Int.toNat_natCast, Int.reduceToNat, d0]
            refine Later.draw mixed rfl ?_
            simp -dsimp -implicitDefEqProofs only [go_sem, ↓reduceIte, Nat.reduceEqDiff, Nat.reduceLT, Nat.reduceAdd, Nat.reduceMul, Nat.reduceLeDiff, Nat.le_refl, Int.natCast_zero, Int.toNat_natCast, Int.reduceToNat, d0, gj, gj2, hp]
            ((repeat' (with_reducible refine And.intro ?_ ?_)); all_goals try (first | omega | (refine ⟨?_, ?_⟩ <;> omega) | (exact rfl)))
            all_goals try simp -dsimp -implicitDefEqProofs only [go_sem, ↓reduceIte, Nat.reduceEqDiff, Nat.reduceLT, Nat.reduceAdd, Nat.reduceMul, Nat.reduceLeDiff, Nat.le_refl, Int.natCast_zero, Int.toNat_natCast, Int.reduceToNat, gj, gj2, hp]
            ((repeat' (with_reducible refine And.intro ?_ ?_)); all_goals try (first | omega | (refine ⟨?_, ?_⟩ <;> omega) | (exact rfl)))
            refine sCallX_one ccc ?_
            simp -dsimp -implicitDefEqProofs only [go_sem, ↓reduceIte, Nat.reduceEqDiff, Nat.reduceLT, Nat.reduceAdd, Nat.reduceMul, Nat.reduceLeDiff, Nat.le_refl, Int.natCast_zero, Int.toNat_natCast, Int.reduceToNat, hcm]
            ((repeat' (with_reducible refine And.intro ?_ ?_)); all_goals try (first | omega | (refine ⟨?_, ?_⟩ <;> omega) | (exact rfl)))
            refine Later.draw mixed rfl ?_
            simp -dsimp -implicitDefEqProofs only [go_sem, ↓reduceIte, Nat.reduceEqDiff, Nat.reduceLT, Nat.reduceAdd, Nat.reduceMul, Nat.reduceLeDiff, Nat.le_refl, Int.natCast_zero, Int.toNat_natCast, Int.reduceToNat, gj, gj2, hp, gj3]
            ((repeat' (with_reducible refine And.intro ?_ ?_)); all_goals try (first | omega | (refine ⟨?_, ?_⟩ <;> omega) | (exact rfl)))
            all_goals try simp -dsimp -implicitDefEqProofs only [go_sem, ↓reduceIte, Nat.reduceEqDiff, Nat.reduceLT, Nat.reduceAdd, Nat.reduceMul, Nat.reduceLeDiff, Nat.le_refl, Int.natCast_zero, Int.toNat_natCast, Int.reduceToNat, gj, gj2, hp, gj3]
            ((repeat' (with_reducible refine And.intro ?_ ?_)); all_goals try (first | omega | (refine ⟨?_, ?_⟩ <;> omega) | (exact rfl)))
            refine ⟨(j - 1, F), ⟨by dsimp only; omega, hsame, hnew⟩, by dsimp only; omega, ?_⟩
            dsimp only
            rw [hms]
            have e3 : ((j - 1 : Nat) : Int) = (j : Int) - 1 := by omega
            rw [e3]
            simp -dsimp -implicitDefEqProofs only [go_sem, ↓reduceIte, Nat.reduceEqDiff, Nat.reduceLT, Nat.reduceAdd, Nat.reduceMul, Nat.reduceLeDiff, Nat.le_refl, Int.natCast_zero, Int.toNat_natCast, Int.reduceToNat]
            all_goals first | exact ⟨rfl, rfl⟩ | (first | omega | (refine ⟨?_, ?_⟩ <;> omega) | (exact rfl) | (simp; done) | trace_state)
set_option maxHeartbeats 4000000 in
theorem vc_stable (m : MkM) (t : List (List Int)) (r : Int) (os : List ItM) (h20 : os.length ≤ 20) (hok : ∀ x, x ∈ os → okIx r x) (Q : Post)
    (hQ : ∀ D ts, Same os D → srt r D os.length → Q .normal ts [(1500020000, .row 0 ⟨3, true⟩ true (D.map eIt)), (1500000020, .row 0 ⟨3, true⟩ true []), (1500000002, .box 0 [eI m.chambers, eI m.depths, eI m.step, eI m.same, eI m.least, eIss t])]) :
    ∀ c, Try.f43.body = some c → vc Try.prog 63 c (argsE 0 [.ref 1500020000 0 0 os.length, eI os.length, .clo 34 []])
      [(1500000020, .row 0 ⟨3, true⟩ true []), (1500020000, .row 0 ⟨3, true⟩ true (os.map eIt)), (1500000002, .box 0 [eI m.chambers, eI m.depths, eI m.step, eI m.same, eI m.least, eIss t])] Q := by
  intro c hc
  obtain rfl := (Option.some.inj hc).symm
  have hins := vc_ins m t r os h20 hok
  rcases hd : decide ((20 : Int) ≤ os.length) with _ | _
  · have dl : decide ((20 : Int) < os.length) = false := by have := of_decide_eq_false hd; exact decide_eq_false (by omega)
    simp -dsimp -implicitDefEqProofs only [go_sem, ↓reduceIte, Nat.reduceEqDiff, Nat.reduceLT, Nat.reduceAdd, Nat.reduceMul, Nat.reduceLeDiff, Nat.le_refl, Int.natCast_zero, Int.toNat_natCast, Int.reduceToNat]
    refine Later.up [0, 1, 2, 6] [18] [1500020000] 0 (fun _ => True) (fun i => [(7, eI 0), (8, eI 20)]) (fun i => [(1500020000, .row 0 ⟨3, true⟩ true (os.map eIt))]) trivial ?_ rfl (fun i hi _ => absurd hi (Nat.not_lt_zero _)) (fun _ => ?_)
    · simp -dsimp -implicitDefEqProofs only [go_sem, ↓reduceIte, Nat.reduceEqDiff, Nat.reduceLT, Nat.reduceAdd, Nat.reduceMul, Nat.reduceLeDiff, Nat.le_refl, Int.natCast_zero, Int.toNat_natCast, Int.reduceToNat]
    simp -dsimp -implicitDefEqProofs only [pick_nil, pick_cons, look_nil, look_cons, dropB_nil, dropB_cons, inD_nil, inD_cons, inE_nil, inE_cons, or_t_l, or_f_l, Nat.reduceBEq, Nat.reduceDiv, Nat.reduceAdd, beq_self_eq_true, Bool.false_eq_true, Bool.or_false, ↓reduceIte, Nat.reduceEqDiff, List.cons_append, List.nil_append]
    simp -dsimp -implicitDefEqProofs only [go_sem, ↓reduceIte, Nat.reduceEqDiff, Nat.reduceLT, Nat.reduceAdd, Nat.reduceMul, Nat.reduceLeDiff, Nat.le_refl, Int.natCast_zero, Int.toNat_natCast, Int.reduceToNat, hd]
    refine sCallT_inl 620000 53 [] Try.func49 rfl rfl rfl rfl rfl (by exact of_decide_eq_true rfl) ⟨?_, ?_⟩
    · simp -dsimp -implicitDefEqProofs only [go_sem, ↓reduceIte, Nat.reduceEqDiff, Nat.reduceLT, Nat.reduceAdd, Nat.reduceMul, Nat.reduceLeDiff, Nat.le_refl, Int.natCast_zero, Int.toNat_natCast, Int.reduceToNat]
    simp -dsimp -implicitDefEqProofs only [lowP_nil, lowP_cons, inF_nil, inF_cons, rnsM_nil, rnsM_cons, rnsL_nil, rnsL_cons, rnsA_nil, rnsA_cons, rl_eq, rnA_ref, rnA_ptr, rnA_agg, rnA_arr, rnA_val, rnA_e0, rnA_clo, rnL_nil, rnL_cons, rnB_box, rnB_row, rnB_gone, rnM_nil, rnM_cons, Nat.reduceLT, decide_true, decide_false, Bool.true_and, Bool.not_false, Bool.not_true, Bool.and_false, Nat.reduceBEq, Bool.or_false, beq_self_eq_true, Bool.true_or, ↓reduceIte, Nat.reduceEqDiff, Nat.reduceAdd, Bool.and_true]
    refine hins _ ?_ _ rfl
    intro D ts hS hs
    simp -dsimp -implicitDefEqProofs only [go_sem, ↓reduceIte, Nat.reduceEqDiff, Nat.reduceLT, Nat.reduceAdd, Nat.reduceMul, Nat.reduceLeDiff, Nat.le_refl, Int.natCast_zero, Int.toNat_natCast, Int.reduceToNat]
    refine Later.up [0, 1, 2] [43, 60] [] 0 (fun _ => True) (fun i => [(6, eI 20)]) (fun i => []) trivial ?_ rfl (fun i hi _ => absurd hi (Nat.not_lt_zero _)) (fun _ => ?_)
    · simp -dsimp -implicitDefEqProofs only [go_sem, ↓reduceIte, Nat.reduceEqDiff, Nat.reduceLT, Nat.reduceAdd, Nat.reduceMul, Nat.reduceLeDiff, Nat.le_refl, Int.natCast_zero, Int.toNat_natCast, Int.reduceToNat]
    simp -dsimp -implicitDefEqProofs only [pick_nil, pick_cons, look_nil, look_cons, dropB_nil, dropB_cons, inD_nil, inD_cons, inE_nil, inE_cons, or_t_l, or_f_l, Nat.reduceBEq, Nat.reduceDiv, Nat.reduceAdd, beq_self_eq_true, Bool.false_eq_true, Bool.or_false, ↓reduceIte, Nat.reduceEqDiff, List.cons_append, List.nil_append]
    simp -dsimp -implicitDefEqProofs only [go_sem, ↓reduceIte, Nat.reduceEqDiff, Nat.reduceLT, Nat.reduceAdd, Nat.reduceMul, Nat.reduceLeDiff, Nat.le_refl, Int.natCast_zero, Int.toNat_natCast, Int.reduceToNat, dl]
    exact hQ D _ hS hs
  · have he : os.length = 20 := by have := of_decide_eq_true hd; omega
    have hl : (os.length : Int) = 20 := by omega
    have h20 : Int.tdiv 20 1 = 20 := rfl
    simp -dsimp -implicitDefEqProofs only [go_sem, ↓reduceIte, Nat.reduceEqDiff, Nat.reduceLT, Nat.reduceAdd, Nat.reduceMul, Nat.reduceLeDiff, Nat.le_refl, Int.natCast_zero, Int.toNat_natCast, Int.reduceToNat]
    refine Later.lp [0, 1, 2, 6] [18] [1500020000] (fun x : Nat × List ItM => (x.1 = 0 ∧ x.2 = os) ∨ (x.1 = 1 ∧ Same os x.2 ∧ srt r x.2 os.length)) (fun x => [(7, eI (20 * x.1)), (8, eI (20 + 20 * x.1))]) (fun x => [(1500020000, .row 0 ⟨3, true⟩ true (x.2.map eIt))]) (fun x => 1 - x.1) (0, os) (.inl ⟨rfl, rfl⟩) ?_ rfl (fun x hI => ?_)
    · simp -dsimp -implicitDefEqProofs only [go_sem, ↓reduceIte, Nat.reduceEqDiff, Nat.reduceLT, Nat.reduceAdd, Nat.reduceMul, Nat.reduceLeDiff, Nat.le_refl, Int.natCast_zero, Int.toNat_natCast, Int.reduceToNat]
      all_goals first | exact rfl | exact ⟨rfl, rfl⟩
    · obtain ⟨k, D⟩ := x
      rcases hI with ⟨hk, hD⟩ | ⟨hk, hS, hs⟩
      · dsimp only at hk hD ⊢
        subst hk; subst hD
        simp -dsimp -implicitDefEqProofs only [pick_nil, pick_cons, look_nil, look_cons, dropB_nil, dropB_cons, inD_nil, inD_cons, inE_nil, inE_cons, or_t_l, or_f_l, Nat.reduceBEq, Nat.reduceDiv, Nat.reduceAdd, beq_self_eq_true, Bool.false_eq_true, Bool.or_false, ↓reduceIte, Nat.reduceEqDiff, List.cons_append, List.nil_append]
        simp -dsimp -implicitDefEqProofs only [go_sem, ↓reduceIte, Nat.reduceEqDiff, Nat.reduceLT, Nat.reduceAdd, Nat.reduceMul, Nat.reduceLeDiff, Nat.le_refl, Int.natCast_zero, Int.toNat_natCast, Int.reduceToNat, Int.mul_zero, Int.add_zero, hd]
        refine sCallT_inl 620000 53 [] Try.func49 rfl rfl rfl rfl rfl (by exact of_decide_eq_true rfl) ⟨?_, ?_⟩
        · simp -dsimp -implicitDefEqProofs only [go_sem, ↓reduceIte, Nat.reduceEqDiff, Nat.reduceLT, Nat.reduceAdd, Nat.reduceMul, Nat.reduceLeDiff, Nat.le_refl, Int.natCast_zero, Int.toNat_natCast, Int.reduceToNat]
        rw [← hl]
        simp -dsimp -implicitDefEqProofs only [lowP_nil, lowP_cons, inF_nil, inF_cons, rnsM_nil, rnsM_cons, rnsL_nil, rnsL_cons, rnsA_nil, rnsA_cons, rl_eq, rnA_ref, rnA_ptr, rnA_agg, rnA_arr, rnA_val, rnA_e0, rnA_clo, rnL_nil, rnL_cons, rnB_box, rnB_row, rnB_gone, rnM_nil, rnM_cons, Nat.reduceLT, decide_true, decide_false, Bool.true_and, Bool.not_false, Bool.not_true, Bool.and_false, Nat.reduceBEq, Bool.or_false, beq_self_eq_true, Bool.true_or, ↓reduceIte, Nat.reduceEqDiff, Nat.reduceAdd, Bool.and_true]
        refine hins _ ?_ _ rfl
        intro E ts hS hs
        simp -dsimp -implicitDefEqProofs only [go_sem, ↓reduceIte, Nat.reduceEqDiff, Nat.reduceLT, Nat.reduceAdd, Nat.reduceMul, Nat.reduceLeDiff, Nat.le_refl, Int.natCast_zero, Int.toNat_natCast, Int.reduceToNat]
        ((repeat' (with_reducible refine And.intro ?_ ?_)); all_goals try (first | omega | (refine ⟨?_, ?_⟩ <;> omega) | (exact rfl)))
        refine ⟨(1, E), .inr ⟨rfl, hS, hs⟩, by dsimp only; omega, ?_⟩
        simp -dsimp -implicitDefEqProofs only [go_sem, ↓reduceIte, Nat.reduceEqDiff, Nat.reduceLT, Nat.reduceAdd, Nat.reduceMul, Nat.reduceLeDiff, Nat.le_refl, Int.natCast_zero, Int.toNat_natCast, Int.reduceToNat]
        all_goals first | exact rfl | exact ⟨rfl, rfl⟩ | (simp [hl]; done) | trace_state
      · dsimp only at hk hS hs ⊢
        subst hk
        have hDl := hS.len
        have d40 : decide ((20 : Int) + 20 * 1 ≤ os.length) = false := decide_eq_false (by omega)
        have d21 : decide ((20 : Int) * 1 + 1 < os.length) = false := decide_eq_false (by omega)
        simp -dsimp -implicitDefEqProofs only [pick_nil, pick_cons, look_nil, look_cons, dropB_nil, dropB_cons, inD_nil, inD_cons, inE_nil, inE_cons, or_t_l, or_f_l, Nat.reduceBEq, Nat.reduceDiv, Nat.reduceAdd, beq_self_eq_true, Bool.false_eq_true, Bool.or_false, ↓reduceIte, Nat.reduceEqDiff, List.cons_append, List.nil_append]
        simp -dsimp -implicitDefEqProofs only [go_sem, ↓reduceIte, Nat.reduceEqDiff, Nat.reduceLT, Nat.reduceAdd, Nat.reduceMul, Nat.reduceLeDiff, Nat.le_refl, Int.natCast_zero, Int.toNat_natCast, Int.reduceToNat, d40, Int.natCast_one]
        ((repeat' (with_reducible refine And.intro ?_ ?_)); all_goals try (first | omega | (refine ⟨?_, ?_⟩ <;> omega) | (exact rfl)))
        refine sCallT_inl 620000 53 [] Try.func49 rfl rfl rfl rfl rfl (by exact of_decide_eq_true rfl) ?_
        simp -dsimp -implicitDefEqProofs only [go_sem, ↓reduceIte, Nat.reduceEqDiff, Nat.reduceLT, Nat.reduceAdd, Nat.reduceMul, Nat.reduceLeDiff, Nat.le_refl, Int.natCast_zero, Int.toNat_natCast, Int.reduceToNat]
        ((repeat' (with_reducible refine And.intro ?_ ?_)); all_goals try (first | omega | (refine ⟨?_, ?_⟩ <;> omega) | (exact rfl)))
        refine Later.up [0, 1, 2, 3] [32] [] 0 (fun _ => True) (fun i => [(8, eI (20 * 1 + 1))]) (fun i => []) trivial ?_ rfl (fun i hi _ => absurd hi (Nat.not_lt_zero _)) (fun _ => ?_)
        · simp -dsimp -implicitDefEqProofs only [go_sem, ↓reduceIte, Nat.reduceEqDiff, Nat.reduceLT, Nat.reduceAdd, Nat.reduceMul, Nat.reduceLeDiff, Nat.le_refl, Int.natCast_zero, Int.toNat_natCast, Int.reduceToNat]
        simp -dsimp -implicitDefEqProofs only [pick_nil, pick_cons, look_nil, look_cons, dropB_nil, dropB_cons, inD_nil, inD_cons, inE_nil, inE_cons, or_t_l, or_f_l, Nat.reduceBEq, Nat.reduceDiv, Nat.reduceAdd, beq_self_eq_true, Bool.false_eq_true, Bool.or_false, ↓reduceIte, Nat.reduceEqDiff, List.cons_append, List.nil_append]
        simp -dsimp -implicitDefEqProofs only [go_sem, ↓reduceIte, Nat.reduceEqDiff, Nat.reduceLT, Nat.reduceAdd, Nat.reduceMul, Nat.reduceLeDiff, Nat.le_refl, Int.natCast_zero, Int.toNat_natCast, Int.reduceToNat, d21]
        refine Later.up [0, 1, 2] [43, 60] [] 0 (fun _ => True) (fun i => [(6, eI 20)]) (fun i => []) trivial ?_ rfl (fun i hi _ => absurd hi (Nat.not_lt_zero _)) (fun _ => ?_)
        · simp -dsimp -implicitDefEqProofs only [go_sem, ↓reduceIte, Nat.reduceEqDiff, Nat.reduceLT, Nat.reduceAdd, Nat.reduceMul, Nat.reduceLeDiff, Nat.le_refl, Int.natCast_zero, Int.toNat_natCast, Int.reduceToNat]
        have d20 : decide ((20 : Int) < os.length) = false := decide_eq_false (by omega)
        simp -dsimp -implicitDefEqProofs only [pick_nil, pick_cons, look_nil, look_cons, dropB_nil, dropB_cons, inD_nil, inD_cons, inE_nil, inE_cons, or_t_l, or_f_l, Nat.reduceBEq, Nat.reduceDiv, Nat.reduceAdd, beq_self_eq_true, Bool.false_eq_true, Bool.or_false, ↓reduceIte, Nat.reduceEqDiff, List.cons_append, List.nil_append]
        simp -dsimp -implicitDefEqProofs only [go_sem, ↓reduceIte, Nat.reduceEqDiff, Nat.reduceLT, Nat.reduceAdd, Nat.reduceMul, Nat.reduceLeDiff, Nat.le_refl, Int.natCast_zero, Int.toNat_natCast, Int.reduceToNat, d20]
        exact hQ D _ hS hs
end Go.Vc
