import Derived.Test.YtikfojjghnfjkaaPkLawImpressionsE
/-
  Contracts of the functions on filing.
-/
set_option linter.unusedVariables false
set_option linter.unusedSimpArgs false
set_option linter.unnecessarySimpa false
namespace Go.Vc
open Go.Proofs
set_option maxRecDepth 100000
def fileSt (o : List Int) (c : Int) : List Int := o.set c.toNat (o.getD c.toNat 0 + 1)
def fileN (ms d : List Int) (k : Nat) : List Int := (ms.take k).foldl fileSt d
theorem fileN_zero (ms d : List Int) : fileN ms d 0 = d := by simp [fileN]
theorem fileN_succ (ms d : List Int) (i : Nat) (h : i < ms.length) : fileN ms d (i + 1) = (fileN ms d i).set ms[i].toNat ((fileN ms d i).getD ms[i].toNat 0 + 1) := by
  rw [fileN, List.take_succ_eq_append_getElem h, List.foldl_append]; rfl
theorem foldl_len (ms : List Int) : ∀ d : List Int, (ms.foldl fileSt d).length = d.length := by
  induction ms with
  | nil => intro d; rfl
  | cons x r ih => intro d; rw [List.foldl_cons, ih]; simp [fileSt]
theorem foldl_bnd (ms : List Int) : ∀ (d : List Int) (B : Int), (∀ x ∈ d, 0 ≤ x ∧ x ≤ B) → ∀ x ∈ ms.foldl fileSt d, 0 ≤ x ∧ x ≤ B + ms.length := by
  induction ms with
  | nil => intro d B h x hx; have := h x hx; simp; omega
  | cons c r ih =>
    intro d B h x hx
    rw [List.foldl_cons] at hx
    have := ih (fileSt d c) (B + 1) (fun y hy => by
      by_cases hc : c.toNat < d.length
      · rcases List.mem_or_eq_of_mem_set hy with hy | rfl
        · have := h y hy; omega
        · have := h _ (List.getElem_mem hc)
          simp [List.getD_eq_getElem?_getD, hc]; omega
      · have e : fileSt d c = d := by rw [fileSt, List.set_eq_of_length_le (by omega)]
        rw [e] at hy
        have := h y hy; omega) x hx
    simp only [List.length_cons]; omega
theorem fileN_len (ms d : List Int) (k : Nat) : (fileN ms d k).length = d.length := foldl_len _ _
theorem fileN_bnd (ms d : List Int) (k : Nat) (B : Int) (h : ∀ x ∈ d, 0 ≤ x ∧ x ≤ B) : ∀ x ∈ fileN ms d k, 0 ≤ x ∧ x ≤ B + k := by
  intro x hx
  have := foldl_bnd (ms.take k) d B h x hx
  rw [List.length_take] at this
  omega
attribute [irreducible] fileN
def seen (ms : List Int) (v : Int) : Nat := min ms.length v.toNat
def file (l : List (List Int)) (d : List Int) (v : Int) : List Int := fileN (marks l d) d (seen (marks l d) v)
theorem file_len (l : List (List Int)) (d : List Int) (v : Int) : (file l d v).length = d.length := fileN_len _ _ _
theorem marks_len (l : List (List Int)) (d : List Int) : (marks l d).length ≤ d.length := flt_len _ _
theorem file_bnd (l : List (List Int)) (d : List Int) (v : Int) (B : Int) (h : ∀ x ∈ d, 0 ≤ x ∧ x ≤ B) : ∀ x ∈ file l d v, 0 ≤ x ∧ x ≤ B + d.length := by
  intro x hx
  have := fileN_bnd _ _ _ B h x hx
  have h2 := marks_len l d
  have h3 : seen (marks l d) v ≤ (marks l d).length := Nat.min_le_left _ _
  omega
theorem marks_at (l : List (List Int)) (d : List Int) (i : Nat) (h : i < (marks l d).length) : 0 ≤ (marks l d)[i] ∧ (marks l d)[i] < d.length := by
  obtain ⟨j, h1, h2, _⟩ := flt_mem (List.getElem_mem h)
  omega
theorem c_l33File (l : List (List Int)) (d : List Int) (v : Int) (hl : d.length ≤ l.length) (hd : d.length ≤ 1000) (h2 : ∀ x ∈ l, x.length ≤ 1048576) (hv : 1 ≤ v ∧ v ≤ 6) (hb : ∀ x ∈ d, 0 ≤ x ∧ x ≤ 1000000) : Fn Try.prog 86 [eLk l, eIs d, eI v] true (· = eIs (file l d v)) := by
  refine Fn.of_vcN 36 [.tmp 6] Try.func86 rfl rfl rfl rfl rfl (of_decide_eq_true rfl) ?_
  simp -dsimp -implicitDefEqProofs only [go_sem, ↓reduceIte, Nat.reduceEqDiff, Nat.reduceLT, Nat.reduceAdd, Nat.reduceMul, Nat.reduceLeDiff, Nat.le_refl, Int.natCast_zero, Int.toNat_natCast, Int.reduceToNat]
  repeat' first
    | (with_reducible refine And.intro ?_ ?_)
    | (refine sCallT_one (c_l01Own d (by omega)) ?_; try simp -dsimp -implicitDefEqProofs only [go_sem, ↓reduceIte, Nat.reduceEqDiff, Nat.reduceLT, Nat.reduceAdd, Nat.reduceMul, Nat.reduceLeDiff, Nat.le_refl, Int.natCast_zero, Int.toNat_natCast, Int.reduceToNat, *])
    | (refine sCallT_one (c_l33Marks l d hl (by omega) h2) ?_; try simp -dsimp -implicitDefEqProofs only [go_sem, ↓reduceIte, Nat.reduceEqDiff, Nat.reduceLT, Nat.reduceAdd, Nat.reduceMul, Nat.reduceLeDiff, Nat.le_refl, Int.natCast_zero, Int.toNat_natCast, Int.reduceToNat, *])
  all_goals try omega
  have hml := marks_len l d
  refine Later.up [2, 7, 8] [17] [12000] (seen (marks l d) v) (fun _ => True) (fun i => [(9, eI i)]) (fun i => [(12000, .row 0 ⟨1, false⟩ true ((fileN (marks l d) d i).map eI))]) trivial ?_ rfl (fun i hi _ => ?_) (fun _ => ?_)
  · simp -dsimp -implicitDefEqProofs only [go_sem, ↓reduceIte, Nat.reduceEqDiff, Nat.reduceLT, Nat.reduceAdd, Nat.reduceMul, Nat.reduceLeDiff, Nat.le_refl, Int.natCast_zero, Int.toNat_natCast, Int.reduceToNat, fileN_zero]
    try simp
  · have hk : i < (marks l d).length := by unfold seen at hi; omega
    have hm := marks_at l d i hk
    have gm := get_some hk
    have hsucc := fileN_succ (marks l d) d i hk
    have hlen := fileN_len (marks l d) d i
    have hj : (marks l d)[i].toNat < (fileN (marks l d) d i).length := by omega
    have gj : (fileN (marks l d) d i)[(marks l d)[i].toNat]? = some ((fileN (marks l d) d i).getD (marks l d)[i].toNat 0) := by
      rw [List.getD_eq_getElem?_getD, List.getElem?_eq_getElem hj]; rfl
    have hbb := fileN_bnd (marks l d) d i 1000000 hb _ (List.mem_of_getElem? gj)
    have hml := marks_len l d
    have q1 : decide ((i : Int) < (marks l d).length) = true := decide_eq_true (by omega)
    have q2 : decide ((i : Int) < v) = true := decide_eq_true (by unfold seen at hi; omega)
    simp -dsimp -implicitDefEqProofs only [pick_nil, pick_cons, look_nil, look_cons, dropB_nil, dropB_cons, inD_nil, inD_cons, inE_nil, inE_cons, or_t_l, or_f_l, Nat.reduceBEq, Nat.reduceDiv, Nat.reduceAdd, beq_self_eq_true, Bool.false_eq_true, Bool.or_false, ↓reduceIte, Nat.reduceEqDiff, List.cons_append, List.nil_append]
    simp -dsimp -implicitDefEqProofs only [go_sem, ↓reduceIte, Nat.reduceEqDiff, Nat.reduceLT, Nat.reduceAdd, Nat.reduceMul, Nat.reduceLeDiff, Nat.le_refl, Int.natCast_zero, Int.toNat_natCast, Int.reduceToNat, q1, q2, gm, gj]
    repeat' first
      | (refine Br.intro (fun _ => ?_) (fun _ => ?_) <;> try simp -dsimp -implicitDefEqProofs only [go_sem, ↓reduceIte, Nat.reduceEqDiff, Nat.reduceLT, Nat.reduceAdd, Nat.reduceMul, Nat.reduceLeDiff, Nat.le_refl, Int.natCast_zero, Int.toNat_natCast, Int.reduceToNat, *])
      | (with_reducible refine And.intro ?_ ?_)
      | (refine Later.draw mixed rfl ?_; try simp -dsimp -implicitDefEqProofs only [go_sem, ↓reduceIte, Nat.reduceEqDiff, Nat.reduceLT, Nat.reduceAdd, Nat.reduceMul, Nat.reduceLeDiff, Nat.le_refl, Int.natCast_zero, Int.toNat_natCast, Int.reduceToNat, *])
    all_goals first
      | omega | (refine ⟨?_, ?_⟩ <;> omega) | (simp; done) | (simp; omega)
      | rfl
      | (rw [List.length_map, hlen]; omega)
      | (rw [hsucc, List.map_set])
      | trace_state
  · have hlen := fileN_len (marks l d) d (seen (marks l d) v)
    by_cases hc : (marks l d).length ≤ v.toNat
    · have e : seen (marks l d) v = (marks l d).length := Nat.min_eq_left hc
      have q1 : decide ((seen (marks l d) v : Int) < (marks l d).length) = false := decide_eq_false (by omega)
      simp -dsimp -implicitDefEqProofs only [pick_nil, pick_cons, look_nil, look_cons, dropB_nil, dropB_cons, inD_nil, inD_cons, inE_nil, inE_cons, or_t_l, or_f_l, Nat.reduceBEq, Nat.reduceDiv, Nat.reduceAdd, beq_self_eq_true, Bool.false_eq_true, Bool.or_false, ↓reduceIte, Nat.reduceEqDiff, List.cons_append, List.nil_append]
      simp -dsimp -implicitDefEqProofs only [go_sem, ↓reduceIte, Nat.reduceEqDiff, Nat.reduceLT, Nat.reduceAdd, Nat.reduceMul, Nat.reduceLeDiff, Nat.le_refl, Int.natCast_zero, Int.toNat_natCast, Int.reduceToNat, q1]
      repeat' (with_reducible refine And.intro ?_ ?_)
      all_goals first
        | omega | (refine ⟨?_, ?_⟩ <;> omega) | (simp; done) | (simp; omega)
        | rfl
        | (rw [List.length_map, hlen]; omega)
        | (rw [file, List.take_of_length_le (by simp [hlen])]; done)
        | trace_state
    · have e : seen (marks l d) v = v.toNat := Nat.min_eq_right (by omega)
      have q1 : decide ((seen (marks l d) v : Int) < (marks l d).length) = true := decide_eq_true (by omega)
      have q2 : decide ((seen (marks l d) v : Int) < v) = false := decide_eq_false (by omega)
      simp -dsimp -implicitDefEqProofs only [pick_nil, pick_cons, look_nil, look_cons, dropB_nil, dropB_cons, inD_nil, inD_cons, inE_nil, inE_cons, or_t_l, or_f_l, Nat.reduceBEq, Nat.reduceDiv, Nat.reduceAdd, beq_self_eq_true, Bool.false_eq_true, Bool.or_false, ↓reduceIte, Nat.reduceEqDiff, List.cons_append, List.nil_append]
      simp -dsimp -implicitDefEqProofs only [go_sem, ↓reduceIte, Nat.reduceEqDiff, Nat.reduceLT, Nat.reduceAdd, Nat.reduceMul, Nat.reduceLeDiff, Nat.le_refl, Int.natCast_zero, Int.toNat_natCast, Int.reduceToNat, q1, q2]
      repeat' (with_reducible refine And.intro ?_ ?_)
      all_goals first
        | omega | (refine ⟨?_, ?_⟩ <;> omega) | (simp; done) | (simp; omega)
        | rfl
        | (rw [List.length_map, hlen]; omega)
        | (rw [file, List.take_of_length_le (by simp [hlen])]; done)
        | trace_state
theorem c_file (l : List (List Int)) (d : List Int) (v : Int) (hl : d.length ≤ l.length) (hd : d.length ≤ 1000) (h2 : ∀ x ∈ l, x.length ≤ 1048576) (hv : 1 ≤ v ∧ v ≤ 6) (hb : ∀ x ∈ d, 0 ≤ x ∧ x ≤ 1000000) : Fn Try.prog 83 [eLk l, eIs d, eI v] true (· = eIs (file l d v)) := by
  refine Fn.of_vcN 35 [.tmp 6] Try.func83 rfl rfl rfl rfl rfl (of_decide_eq_true rfl) ?_
  have hml := marks_len l d
  have hse : (if v < ((marks l d).length : Int) then v else ((marks l d).length : Int)) = ((seen (marks l d) v : Nat) : Int) := by unfold seen; split <;> omega
  have hse2 : (if ((marks l d).length : Int) < v then ((marks l d).length : Int) else v) = ((seen (marks l d) v : Nat) : Int) := by unfold seen; split <;> omega
  have hs3 : seen (marks l d) v ≤ (marks l d).length := Nat.min_le_left _ _
  simp -dsimp -implicitDefEqProofs only [go_sem, ↓reduceIte, Nat.reduceEqDiff, Nat.reduceLT, Nat.reduceAdd, Nat.reduceMul, Nat.reduceLeDiff, Nat.le_refl, Int.natCast_zero, Int.toNat_natCast, Int.reduceToNat]
  repeat' first
    | (with_reducible refine And.intro ?_ ?_)
    | (refine Br.intro (fun _ => ?_) (fun _ => ?_) <;> try simp -dsimp -implicitDefEqProofs only [go_sem, ↓reduceIte, Nat.reduceEqDiff, Nat.reduceLT, Nat.reduceAdd, Nat.reduceMul, Nat.reduceLeDiff, Nat.le_refl, Int.natCast_zero, Int.toNat_natCast, Int.reduceToNat, *])
    | (refine Later.draw mixed rfl ?_; simp -dsimp -implicitDefEqProofs only [go_sem, ↓reduceIte, Nat.reduceEqDiff, Nat.reduceLT, Nat.reduceAdd, Nat.reduceMul, Nat.reduceLeDiff, Nat.le_refl, Int.natCast_zero, Int.toNat_natCast, Int.reduceToNat])
    | (refine sCallX_one (c_CloneI d (by omega)) ?_; try simp -dsimp -implicitDefEqProofs only [go_sem, ↓reduceIte, Nat.reduceEqDiff, Nat.reduceLT, Nat.reduceAdd, Nat.reduceMul, Nat.reduceLeDiff, Nat.le_refl, Int.natCast_zero, Int.toNat_natCast, Int.reduceToNat])
    | (refine sCallX_one (c_marksOf l d hl (by omega) h2) ?_; try simp -dsimp -implicitDefEqProofs only [go_sem, ↓reduceIte, Nat.reduceEqDiff, Nat.reduceLT, Nat.reduceAdd, Nat.reduceMul, Nat.reduceLeDiff, Nat.le_refl, Int.natCast_zero, Int.toNat_natCast, Int.reduceToNat])
    | (refine sCallT_one (c_CloneI d (by omega)) ?_; try simp -dsimp -implicitDefEqProofs only [go_sem, ↓reduceIte, Nat.reduceEqDiff, Nat.reduceLT, Nat.reduceAdd, Nat.reduceMul, Nat.reduceLeDiff, Nat.le_refl, Int.natCast_zero, Int.toNat_natCast, Int.reduceToNat])
    | (refine sCallT_one (c_marksOf l d hl (by omega) h2) ?_; try simp -dsimp -implicitDefEqProofs only [go_sem, ↓reduceIte, Nat.reduceEqDiff, Nat.reduceLT, Nat.reduceAdd, Nat.reduceMul, Nat.reduceLeDiff, Nat.le_refl, Int.natCast_zero, Int.toNat_natCast, Int.reduceToNat])
  all_goals try rfl
  all_goals try simp -dsimp -implicitDefEqProofs only [go_sem, ↓reduceIte, Nat.reduceEqDiff, Nat.reduceLT, Nat.reduceAdd, Nat.reduceMul, Nat.reduceLeDiff, Nat.le_refl, Int.natCast_zero, Int.toNat_natCast, Int.reduceToNat, hse, hse2, Option.map_none, Option.map_some, Nat.sub_zero]
  repeat' (with_reducible refine And.intro ?_ ?_)
  all_goals try omega
  refine Later.up [7, 21, 22] [] [13000] (seen (marks l d) v) (fun _ => True) (fun i => [(23, eI i)]) (fun i => [(13000, .row 0 ⟨1, false⟩ true ((fileN (marks l d) d i).map eI))]) trivial ?_ rfl (fun i hi _ => ?_) (fun _ => ?_)
  · simp -dsimp -implicitDefEqProofs only [go_sem, ↓reduceIte, Nat.reduceEqDiff, Nat.reduceLT, Nat.reduceAdd, Nat.reduceMul, Nat.reduceLeDiff, Nat.le_refl, Int.natCast_zero, Int.toNat_natCast, Int.reduceToNat, fileN_zero]
    try (simp; done)
  · have hk : i < (marks l d).length := by unfold seen at hi; omega
    have hm := marks_at l d i hk
    have gm := get_some hk
    have hsucc := fileN_succ (marks l d) d i hk
    have hlen := fileN_len (marks l d) d i
    have hj : (marks l d)[i].toNat < (fileN (marks l d) d i).length := by omega
    have gj : (fileN (marks l d) d i)[(marks l d)[i].toNat]? = some ((fileN (marks l d) d i).getD (marks l d)[i].toNat 0) := by
      rw [List.getD_eq_getElem?_getD, List.getElem?_eq_getElem hj]; rfl
    have hbb := fileN_bnd (marks l d) d i 1000000 hb _ (List.mem_of_getElem? gj)
    have hml := marks_len l d
    have q1 : decide ((i : Int) < (seen (marks l d) v : Int)) = true := decide_eq_true (by omega)
    simp -dsimp -implicitDefEqProofs only [pick_nil, pick_cons, look_nil, look_cons, dropB_nil, dropB_cons, inD_nil, inD_cons, inE_nil, inE_cons, or_t_l, or_f_l, Nat.reduceBEq, Nat.reduceDiv, Nat.reduceAdd, beq_self_eq_true, Bool.false_eq_true, Bool.or_false, ↓reduceIte, Nat.reduceEqDiff, List.cons_append, List.nil_append]
    simp -dsimp -implicitDefEqProofs only [go_sem, ↓reduceIte, Nat.reduceEqDiff, Nat.reduceLT, Nat.reduceAdd, Nat.reduceMul, Nat.reduceLeDiff, Nat.le_refl, Int.natCast_zero, Int.toNat_natCast, Int.reduceToNat, q1, gm, gj, Nat.sub_zero]
    repeat' first
      | (refine Br.intro (fun _ => ?_) (fun _ => ?_) <;> try simp -dsimp -implicitDefEqProofs only [go_sem, ↓reduceIte, Nat.reduceEqDiff, Nat.reduceLT, Nat.reduceAdd, Nat.reduceMul, Nat.reduceLeDiff, Nat.le_refl, Int.natCast_zero, Int.toNat_natCast, Int.reduceToNat, *])
      | (with_reducible refine And.intro ?_ ?_)
      | (refine Later.draw mixed rfl ?_; try simp -dsimp -implicitDefEqProofs only [go_sem, ↓reduceIte, Nat.reduceEqDiff, Nat.reduceLT, Nat.reduceAdd, Nat.reduceMul, Nat.reduceLeDiff, Nat.le_refl, Int.natCast_zero, Int.toNat_natCast, Int.reduceToNat, *])
    all_goals first
      | omega | (refine ⟨?_, ?_⟩ <;> omega) | (simp; done) | (simp; omega)
      | rfl
      | (rw [List.length_map, hlen]; omega)
      | (rw [hsucc, List.map_set])
      | trace_state
  · have hlen := fileN_len (marks l d) d (seen (marks l d) v)
    have q1 : decide ((seen (marks l d) v : Int) < (seen (marks l d) v : Int)) = false := decide_eq_false (by omega)
    simp -dsimp -implicitDefEqProofs only [pick_nil, pick_cons, look_nil, look_cons, dropB_nil, dropB_cons, inD_nil, inD_cons, inE_nil, inE_cons, or_t_l, or_f_l, Nat.reduceBEq, Nat.reduceDiv, Nat.reduceAdd, beq_self_eq_true, Bool.false_eq_true, Bool.or_false, ↓reduceIte, Nat.reduceEqDiff, List.cons_append, List.nil_append]
    simp -dsimp -implicitDefEqProofs only [go_sem, ↓reduceIte, Nat.reduceEqDiff, Nat.reduceLT, Nat.reduceAdd, Nat.reduceMul, Nat.reduceLeDiff, Nat.le_refl, Int.natCast_zero, Int.toNat_natCast, Int.reduceToNat, q1, Nat.sub_zero]
    repeat' (with_reducible refine And.intro ?_ ?_)
    all_goals first
      | omega | (refine ⟨?_, ?_⟩ <;> omega) | (simp; done) | (simp; omega)
      | rfl
      | (rw [List.length_map, hlen]; omega)
      | (rw [file, List.take_of_length_le (by simp [hlen])]; done)
      | trace_state
theorem sum_set_succ : ∀ (o : List Int) (i : Nat), i < o.length → (o.set i (o.getD i 0 + 1)).sum = o.sum + 1
  | x :: r, 0, _ => by simp; omega
  | x :: r, i + 1, h => by
    have := sum_set_succ r i (by simpa using h)
    simp only [List.set_cons_succ, List.getD_cons_succ, List.sum_cons, this]; omega
theorem flt_at {p : Nat → Bool} {n i : Nat} (h : i < (flt p n).length) : ∃ j : Nat, j < n ∧ (flt p n)[i] = j ∧ p j = true := flt_mem (List.getElem_mem h)
/-- depths on the way of a blank -/
structure Way (l : List (List Int)) (d : List Int) : Prop where
  len : d.length = l.length
  bnd : ∀ (c : Nat) (h : c < d.length), 0 ≤ d[c] ∧ d[c] ≤ (blank l).getD c 0
theorem has_self {xs : List Int} (h : 0 < xs.length) : has xs (xs.getD 0 0) = true := by
  have e : xs.getD 0 0 = xs[0] := by simp [List.getD_eq_getElem?_getD, h]
  rw [e, has, all_no (p := fun y => !(y == xs[0])) h (by simp)]; rfl
theorem fileN_way {l : List (List Int)} {d : List Int} (hs : ∀ x ∈ l, 0 < x.length) (w : Way l d) : ∀ k, k ≤ (marks l d).length →
    Way l (fileN (marks l d) d k) ∧ (fileN (marks l d) d k).sum = d.sum + k ∧ ∀ i (h : i < (marks l d).length), k ≤ i → ∀ j : Nat, (marks l d)[i] = j → (fileN (marks l d) d k).getD j 0 = d.getD j 0
  | 0, _ => by rw [fileN_zero]; exact ⟨w, by simp, fun _ _ _ _ _ => rfl⟩
  | k + 1, hk => by
    obtain ⟨w1, h1, h2⟩ := fileN_way hs w k (by omega)
    have hk1 : k < (marks l d).length := by omega
    obtain ⟨j, j1, j2, j3⟩ := flt_at (p := marksAt l d) (n := d.length) (i := k) hk1
    have j2 : (marks l d)[k] = (j : Int) := j2
    have hl := fileN_len (marks l d) d k
    have hjl : j < (fileN (marks l d) d k).length := by omega
    have hv := h2 k hk1 (Nat.le_refl _) j j2
    rw [fileN_succ _ _ _ hk1, j2, Int.toNat_natCast]
    have hjd : d[j] < (blank l).getD j 0 := by
      have hb := (w.bnd j j1).2
      by_cases e : d[j] = (blank l).getD j 0
      · exfalso
        have hjl2 : j < l.length := by rw [← w.len]; exact j1
        have e2 : (blank l).getD j 0 = (l[j]).getD 0 0 := by simp [blank, List.getD_eq_getElem?_getD, hjl2]
        have := has_self (hs l[j] (List.getElem_mem hjl2))
        simp only [marksAt, Bool.not_eq_true', List.getD_eq_getElem?_getD, List.getElem?_eq_getElem hjl2, List.getElem?_eq_getElem j1, Option.getD_some] at j3
        rw [e, e2, this] at j3; cases j3
      · omega
    have hg : (fileN (marks l d) d k).getD j 0 = d[j] := by rw [hv, List.getD_eq_getElem?_getD, List.getElem?_eq_getElem j1]; rfl
    refine ⟨⟨by rw [List.length_set]; exact w1.len, fun c hc => ?_⟩, ?_, fun i hi hki q hq => ?_⟩
    · have hc' : c < (fileN (marks l d) d k).length := by simpa using hc
      rw [List.getElem_set]
      split
      · rename_i e; subst e
        rw [hg]
        have := (w.bnd j j1).1
        omega
      · exact w1.bnd c hc'
    · rw [sum_set_succ _ _ hjl, h1]; omega
    · have hne : j ≠ q := by
        intro e
        subst e
        have hnd : (marks l d).Nodup := by
          rw [marks]
          exact flt_nodup _ _
        have : k = i := (List.getElem_inj hnd).1 (j2.trans hq.symm)
        omega
      rw [List.getD_eq_getElem?_getD, List.getElem?_set_ne hne, ← List.getD_eq_getElem?_getD]
      exact h2 i hi (by omega) q hq
theorem way_sum {m : MkM} {l : List (List Int)} {d : List Int} (hl : isLk m l = true) (w : Way l d) : d.sum ≤ 42 := by
  have hb : ∀ x ∈ d, x ≤ 7 := by
    intro x hx
    obtain ⟨c, hc, rfl⟩ := List.getElem_of_mem hx
    have h1 := (w.bnd c hc).2
    have hc2 : c < l.length := by rw [← w.len]; exact hc
    have h2 := isLk_set hl hc2
    have h3 := rises_at h2.2 (j := 0) h2.1
    have h4 := isLk_dep hl
    have e2 : (blank l).getD c 0 = l[c][0] := by simp [blank, List.getD_eq_getElem?_getD, hc2, h2.1]
    omega
  have key : ∀ d : List Int, (∀ x ∈ d, x ≤ 7) → d.sum ≤ 7 * d.length := by
    intro d
    induction d with
    | nil => intro _; simp
    | cons x r ih =>
      intro h
      have := ih fun y hy => h y (List.mem_cons_of_mem _ hy)
      have := h x (List.mem_cons_self ..)
      simp only [List.sum_cons, List.length_cons]; omega
  have := key d hb
  have := (isLk_len hl).2
  have := w.len
  omega
def itF (l : List (List Int)) (v : Int) : Nat → List Int
  | 0 => List.replicate l.length 0
  | k + 1 => file l (itF l v k) v
theorem itF_way {m : MkM} {l : List (List Int)} (hl : isLk m l = true) (v : Int) : ∀ k, Way l (itF l v k)
  | 0 => by
    refine ⟨by simp [itF], fun c hc => ?_⟩
    have hc2 : c < l.length := by simpa [itF] using hc
    have h2 := isLk_set hl hc2
    have h3 := rises_at h2.2 (j := 0) h2.1
    have e2 : (blank l).getD c 0 = l[c][0] := by simp [blank, List.getD_eq_getElem?_getD, hc2, h2.1]
    rw [e2]
    simp [itF]; omega
  | k + 1 => (fileN_way (fun x hx => by obtain ⟨i, hi, rfl⟩ := List.getElem_of_mem hx; exact (isLk_set hl hi).1) (itF_way hl v k) _ (Nat.min_le_left _ _)).1
theorem itF_sum {m : MkM} {l : List (List Int)} (hl : isLk m l = true) {v : Int} (hv : 1 ≤ v) (k : Nat) (hm : (marks l (itF l v k)).length ≠ 0) : (itF l v k).sum + 1 ≤ (itF l v (k + 1)).sum := by
  have := (fileN_way (fun x hx => by obtain ⟨i, hi, rfl⟩ := List.getElem_of_mem hx; exact (isLk_set hl hi).1) (itF_way hl v k) (seen (marks l (itF l v k)) v) (Nat.min_le_left _ _)).2.1
  rw [itF, file, this]
  have : 1 ≤ seen (marks l (itF l v k)) v := by unfold seen; omega
  omega
/-- the first turn from k on, of f turns, at which there are no marks -/
def tk (l : List (List Int)) (v : Int) : Nat → Nat → Nat
  | 0, k => k
  | f + 1, k => if (marks l (itF l v k)).length = 0 then k else tk l v f (k + 1)
def turnsOf (l : List (List Int)) (v : Int) : Nat := tk l v 60 0
/-- what holds at the head of the loop over the turns -/
structure Turn (l : List (List Int)) (v : Int) (k : Nat) : Prop where
  sum : (k : Int) ≤ (itF l v k).sum
  rest : tk l v (60 - k) k = turnsOf l v
theorem Turn.zero (l : List (List Int)) (v : Int) : Turn l v 0 := ⟨by simp [itF], rfl⟩
theorem Turn.le {m : MkM} {l : List (List Int)} (hl : isLk m l = true) {v : Int} {k : Nat} (h : Turn l v k) : k ≤ 42 := by
  have := way_sum hl (itF_way hl v k)
  have := h.sum
  omega
theorem Turn.next {m : MkM} {l : List (List Int)} (hl : isLk m l = true) {v : Int} (hv : 1 ≤ v) {k : Nat} (h : Turn l v k) (hm : (marks l (itF l v k)).length ≠ 0) : Turn l v (k + 1) := by
  have h1 := itF_sum hl hv k hm
  have h2 := h.sum
  have h3 := h.le hl
  refine ⟨by omega, ?_⟩
  have h4 := h.rest
  rw [show 60 - k = (60 - (k + 1)) + 1 by omega, tk, if_neg hm] at h4
  exact h4
theorem Turn.done {m : MkM} {l : List (List Int)} (hl : isLk m l = true) {v : Int} {k : Nat} (h : Turn l v k) (hm : (marks l (itF l v k)).length = 0) : turnsOf l v = k := by
  have h3 := h.le hl
  have h4 := h.rest
  rw [show 60 - k = (60 - (k + 1)) + 1 by omega, tk, if_pos hm] at h4
  exact h4.symm
def fileOnce (m : MkM) (l : List (List Int)) (d : List Int) (v : Int) : List Int × Int :=
  if impCode m l d = 0 then (if isIn v 1 6 then (if (spoilt l d).length = 0 then (file l d v, 0) else ([], 5)) else ([], 2)) else ([], impCode m l d)
theorem depCode_eq (m : MkM) (l : List (List Int)) (d : List Int) (v : Int) : depCode m l d v = if impCode m l d = 0 then (if isIn v 1 6 then 0 else 2) else impCode m l d := by
  unfold depCode impCode
  cases isLk m l <;> cases isCuts m d <;> cases isIn v 1 6 <;> simp
theorem cuts_bnd {m : MkM} {l : List (List Int)} {d : List Int} (hl : isLk m l = true) (hc : isCuts m d = true) : d.length ≤ 1000 ∧ ∀ x ∈ d, 0 ≤ x ∧ x ≤ 1000000 := by
  have h1 := isCuts_len hl hc
  have h2 := (isLk_len hl).2
  have h3 := isLk_dep hl
  refine ⟨by omega, fun x hx => ?_⟩
  simp only [isCuts, Bool.and_eq_true] at hc
  have := List.all_eq_true.1 hc.2 x hx
  simp [isIn] at this
  omega
theorem c_l33Visible (v : Int) : Fn Try.prog 99 [eI v] true (· = eB (isIn v 1 6)) := by
  refine Fn.of_vcN 5 [.tmp 2] Try.func99 rfl rfl rfl rfl rfl (of_decide_eq_true rfl) ?_
  simp -dsimp -implicitDefEqProofs only [go_sem, ↓reduceIte, Nat.reduceEqDiff, Nat.reduceLT, Nat.reduceAdd, Nat.reduceMul, Nat.reduceLeDiff, Nat.le_refl, Int.natCast_zero, Int.toNat_natCast, Int.reduceToNat]
  repeat' first
    | (refine Br.intro (fun _ => ?_) (fun _ => ?_) <;> try simp -dsimp -implicitDefEqProofs only [go_sem, ↓reduceIte, Nat.reduceEqDiff, Nat.reduceLT, Nat.reduceAdd, Nat.reduceMul, Nat.reduceLeDiff, Nat.le_refl, Int.natCast_zero, Int.toNat_natCast, Int.reduceToNat, *])
    | (refine sCallT_one (c_l01In _ _ _) ?_; try simp -dsimp -implicitDefEqProofs only [go_sem, ↓reduceIte, Nat.reduceEqDiff, Nat.reduceLT, Nat.reduceAdd, Nat.reduceMul, Nat.reduceLeDiff, Nat.le_refl, Int.natCast_zero, Int.toNat_natCast, Int.reduceToNat, *])
theorem c_sFileOnce (m : MkM) (l : List (List Int)) (d : List Int) (v : Int) (h : l.length ≤ 1048576) (h2 : ∀ x ∈ l, x.length ≤ 1048576) (hd : d.length ≤ 1048576) : Fn Try.prog 41 [eMk m, eLk l, eIs d, eI v] true (· = .tup [eIs (fileOnce m l d v).1, eI (fileOnce m l d v).2]) := by
  refine Fn.of_vcN 38 [.tmp 8, .tmp 9] Try.func41 rfl rfl rfl rfl rfl (of_decide_eq_true rfl) ?_
  have hdc := depCode_eq m l d v
  by_cases hb : impCode m l d = 0
  · obtain ⟨k1, k2, k3⟩ := impCode_zero hb
    obtain ⟨q1, q2, q3⟩ := blank_ok k1
    obtain ⟨d1, d2⟩ := cuts_bnd k1 k2
    rw [if_pos hb] at hdc
    by_cases hv : isIn v 1 6 = true
    · have hv6 : 1 ≤ v ∧ v ≤ 6 := by simp [isIn] at hv; omega
      rw [if_pos hv] at hdc
      simp -dsimp -implicitDefEqProofs only [go_sem, ↓reduceIte, Nat.reduceEqDiff, Nat.reduceLT, Nat.reduceAdd, Nat.reduceMul, Nat.reduceLeDiff, Nat.le_refl, Int.natCast_zero, Int.toNat_natCast, Int.reduceToNat]
      repeat' first
      | (refine Br.intro (fun _ => ?_) (fun _ => ?_) <;> try simp -dsimp -implicitDefEqProofs only [go_sem, ↓reduceIte, Nat.reduceEqDiff, Nat.reduceLT, Nat.reduceAdd, Nat.reduceMul, Nat.reduceLeDiff, Nat.le_refl, Int.natCast_zero, Int.toNat_natCast, Int.reduceToNat, *])
      | (with_reducible refine And.intro ?_ ?_)
      | (refine sCallT_one (c_l33Code m l d h h2 hd) ?_; try simp -dsimp -implicitDefEqProofs only [go_sem, ↓reduceIte, Nat.reduceEqDiff, Nat.reduceLT, Nat.reduceAdd, Nat.reduceMul, Nat.reduceLeDiff, Nat.le_refl, Int.natCast_zero, Int.toNat_natCast, Int.reduceToNat, *])
      | (refine sCallT_one (c_l33Visible v) ?_; try simp -dsimp -implicitDefEqProofs only [go_sem, ↓reduceIte, Nat.reduceEqDiff, Nat.reduceLT, Nat.reduceAdd, Nat.reduceMul, Nat.reduceLeDiff, Nat.le_refl, Int.natCast_zero, Int.toNat_natCast, Int.reduceToNat, *])
      | (refine sCallT_one (c_l33Spoilt l d k3 hd h2 q1) ?_; try simp -dsimp -implicitDefEqProofs only [go_sem, ↓reduceIte, Nat.reduceEqDiff, Nat.reduceLT, Nat.reduceAdd, Nat.reduceMul, Nat.reduceLeDiff, Nat.le_refl, Int.natCast_zero, Int.toNat_natCast, Int.reduceToNat, *])
      | (refine sCallT_one (c_l33File l d v k3 d1 h2 hv6 d2) ?_; try simp -dsimp -implicitDefEqProofs only [go_sem, ↓reduceIte, Nat.reduceEqDiff, Nat.reduceLT, Nat.reduceAdd, Nat.reduceMul, Nat.reduceLeDiff, Nat.le_refl, Int.natCast_zero, Int.toNat_natCast, Int.reduceToNat, *])
      | (refine sCallX_one (c_l33Code m l d h h2 hd) ?_; try simp -dsimp -implicitDefEqProofs only [go_sem, ↓reduceIte, Nat.reduceEqDiff, Nat.reduceLT, Nat.reduceAdd, Nat.reduceMul, Nat.reduceLeDiff, Nat.le_refl, Int.natCast_zero, Int.toNat_natCast, Int.reduceToNat, *])
      | (refine sCallX_one (c_l33Visible v) ?_; try simp -dsimp -implicitDefEqProofs only [go_sem, ↓reduceIte, Nat.reduceEqDiff, Nat.reduceLT, Nat.reduceAdd, Nat.reduceMul, Nat.reduceLeDiff, Nat.le_refl, Int.natCast_zero, Int.toNat_natCast, Int.reduceToNat, *])
      | (refine sCallX_one (c_l33Spoilt l d k3 hd h2 q1) ?_; try simp -dsimp -implicitDefEqProofs only [go_sem, ↓reduceIte, Nat.reduceEqDiff, Nat.reduceLT, Nat.reduceAdd, Nat.reduceMul, Nat.reduceLeDiff, Nat.le_refl, Int.natCast_zero, Int.toNat_natCast, Int.reduceToNat, *])
      | (refine sCallX_one (c_l33File l d v k3 d1 h2 hv6 d2) ?_; try simp -dsimp -implicitDefEqProofs only [go_sem, ↓reduceIte, Nat.reduceEqDiff, Nat.reduceLT, Nat.reduceAdd, Nat.reduceMul, Nat.reduceLeDiff, Nat.le_refl, Int.natCast_zero, Int.toNat_natCast, Int.reduceToNat, *])
      | (refine Later.draw mixed rfl ?_; try simp -dsimp -implicitDefEqProofs only [go_sem, ↓reduceIte, Nat.reduceEqDiff, Nat.reduceLT, Nat.reduceAdd, Nat.reduceMul, Nat.reduceLeDiff, Nat.le_refl, Int.natCast_zero, Int.toNat_natCast, Int.reduceToNat, *])
      all_goals first
        | omega | (refine ⟨?_, ?_⟩ <;> omega) | (simp; done) | (simp; omega)
        | rfl
        | (have hne := of_decide_eq_true ‹decide (((spoilt l d).length : Int) > 0) = true›
           have h0 : ¬ (spoilt l d).length = 0 := by omega
           simp [fileOnce, hb, hv, h0]; done)
        | (have hne := of_decide_eq_false ‹decide (((spoilt l d).length : Int) > 0) = false›
           have h0 : (spoilt l d).length = 0 := by omega
           simp [fileOnce, hb, hv, h0]; done)
        | (simp_all [fileOnce]; done)
        | trace_state
    · rw [if_neg hv] at hdc
      simp -dsimp -implicitDefEqProofs only [go_sem, ↓reduceIte, Nat.reduceEqDiff, Nat.reduceLT, Nat.reduceAdd, Nat.reduceMul, Nat.reduceLeDiff, Nat.le_refl, Int.natCast_zero, Int.toNat_natCast, Int.reduceToNat]
      repeat' first
      | (refine Br.intro (fun _ => ?_) (fun _ => ?_) <;> try simp -dsimp -implicitDefEqProofs only [go_sem, ↓reduceIte, Nat.reduceEqDiff, Nat.reduceLT, Nat.reduceAdd, Nat.reduceMul, Nat.reduceLeDiff, Nat.le_refl, Int.natCast_zero, Int.toNat_natCast, Int.reduceToNat, *])
      | (with_reducible refine And.intro ?_ ?_)
      | (refine sCallT_one (c_l33Code m l d h h2 hd) ?_; try simp -dsimp -implicitDefEqProofs only [go_sem, ↓reduceIte, Nat.reduceEqDiff, Nat.reduceLT, Nat.reduceAdd, Nat.reduceMul, Nat.reduceLeDiff, Nat.le_refl, Int.natCast_zero, Int.toNat_natCast, Int.reduceToNat, *])
      | (refine sCallT_one (c_l33Visible v) ?_; try simp -dsimp -implicitDefEqProofs only [go_sem, ↓reduceIte, Nat.reduceEqDiff, Nat.reduceLT, Nat.reduceAdd, Nat.reduceMul, Nat.reduceLeDiff, Nat.le_refl, Int.natCast_zero, Int.toNat_natCast, Int.reduceToNat, *])
      | (refine sCallT_one (c_l33Spoilt l d k3 hd h2 q1) ?_; try simp -dsimp -implicitDefEqProofs only [go_sem, ↓reduceIte, Nat.reduceEqDiff, Nat.reduceLT, Nat.reduceAdd, Nat.reduceMul, Nat.reduceLeDiff, Nat.le_refl, Int.natCast_zero, Int.toNat_natCast, Int.reduceToNat, *])
      all_goals first
        | omega | (refine ⟨?_, ?_⟩ <;> omega) | (simp; done) | (simp; omega)
        | rfl
        | (simp_all [fileOnce]; done)
        | trace_state
  · rw [if_neg hb] at hdc
    simp -dsimp -implicitDefEqProofs only [go_sem, ↓reduceIte, Nat.reduceEqDiff, Nat.reduceLT, Nat.reduceAdd, Nat.reduceMul, Nat.reduceLeDiff, Nat.le_refl, Int.natCast_zero, Int.toNat_natCast, Int.reduceToNat]
    repeat' first
    | (refine Br.intro (fun _ => ?_) (fun _ => ?_) <;> try simp -dsimp -implicitDefEqProofs only [go_sem, ↓reduceIte, Nat.reduceEqDiff, Nat.reduceLT, Nat.reduceAdd, Nat.reduceMul, Nat.reduceLeDiff, Nat.le_refl, Int.natCast_zero, Int.toNat_natCast, Int.reduceToNat, *])
    | (with_reducible refine And.intro ?_ ?_)
    | (refine sCallT_one (c_l33Code m l d h h2 hd) ?_; try simp -dsimp -implicitDefEqProofs only [go_sem, ↓reduceIte, Nat.reduceEqDiff, Nat.reduceLT, Nat.reduceAdd, Nat.reduceMul, Nat.reduceLeDiff, Nat.le_refl, Int.natCast_zero, Int.toNat_natCast, Int.reduceToNat, *])
    all_goals first
      | omega | (refine ⟨?_, ?_⟩ <;> omega) | (simp; done) | (simp; omega)
      | rfl
      | (simp_all [fileOnce]; done)
      | trace_state
theorem c_iFileOnce (m : MkM) (l : List (List Int)) (d : List Int) (v : Int) (h : l.length ≤ 1048576) (h2 : ∀ x ∈ l, x.length ≤ 1048576) (hd : d.length ≤ 1048576) : Fn Try.prog 40 [eMk m, eLk l, eIs d, eI v] true (· = .tup [eIs (fileOnce m l d v).1, eI (fileOnce m l d v).2]) := by
  refine Fn.of_vcN 28 [.tmp 8, .tmp 9] Try.func40 rfl rfl rfl rfl rfl (of_decide_eq_true rfl) ?_
  have hdc := depCode_eq m l d v
  by_cases hb : impCode m l d = 0
  · obtain ⟨k1, k2, k3⟩ := impCode_zero hb
    obtain ⟨q1, q2, q3⟩ := blank_ok k1
    obtain ⟨d1, d2⟩ := cuts_bnd k1 k2
    rw [if_pos hb] at hdc
    by_cases hv : isIn v 1 6 = true
    · have hv6 : 1 ≤ v ∧ v ≤ 6 := by simp [isIn] at hv; omega
      rw [if_pos hv] at hdc
      simp -dsimp -implicitDefEqProofs only [go_sem, ↓reduceIte, Nat.reduceEqDiff, Nat.reduceLT, Nat.reduceAdd, Nat.reduceMul, Nat.reduceLeDiff, Nat.le_refl, Int.natCast_zero, Int.toNat_natCast, Int.reduceToNat]
      repeat' first
      | (refine Br.intro (fun _ => ?_) (fun _ => ?_) <;> try simp -dsimp -implicitDefEqProofs only [go_sem, ↓reduceIte, Nat.reduceEqDiff, Nat.reduceLT, Nat.reduceAdd, Nat.reduceMul, Nat.reduceLeDiff, Nat.le_refl, Int.natCast_zero, Int.toNat_natCast, Int.reduceToNat, *])
      | (with_reducible refine And.intro ?_ ?_)
      | (refine sCallT_one (c_depthsCode m l d v h h2 hd) ?_; rw [hdc]; try simp -dsimp -implicitDefEqProofs only [go_sem, ↓reduceIte, Nat.reduceEqDiff, Nat.reduceLT, Nat.reduceAdd, Nat.reduceMul, Nat.reduceLeDiff, Nat.le_refl, Int.natCast_zero, Int.toNat_natCast, Int.reduceToNat])
      | (refine sCallT_one (c_spoilt l d k3 hd h2 q1) ?_; try simp -dsimp -implicitDefEqProofs only [go_sem, ↓reduceIte, Nat.reduceEqDiff, Nat.reduceLT, Nat.reduceAdd, Nat.reduceMul, Nat.reduceLeDiff, Nat.le_refl, Int.natCast_zero, Int.toNat_natCast, Int.reduceToNat, *])
      | (refine sCallT_one (c_file l d v k3 d1 h2 hv6 d2) ?_; try simp -dsimp -implicitDefEqProofs only [go_sem, ↓reduceIte, Nat.reduceEqDiff, Nat.reduceLT, Nat.reduceAdd, Nat.reduceMul, Nat.reduceLeDiff, Nat.le_refl, Int.natCast_zero, Int.toNat_natCast, Int.reduceToNat, *])
      | (refine sCallX_one (c_spoilt l d k3 hd h2 q1) ?_; try simp -dsimp -implicitDefEqProofs only [go_sem, ↓reduceIte, Nat.reduceEqDiff, Nat.reduceLT, Nat.reduceAdd, Nat.reduceMul, Nat.reduceLeDiff, Nat.le_refl, Int.natCast_zero, Int.toNat_natCast, Int.reduceToNat, *])
      | (refine sCallX_one (c_file l d v k3 d1 h2 hv6 d2) ?_; try simp -dsimp -implicitDefEqProofs only [go_sem, ↓reduceIte, Nat.reduceEqDiff, Nat.reduceLT, Nat.reduceAdd, Nat.reduceMul, Nat.reduceLeDiff, Nat.le_refl, Int.natCast_zero, Int.toNat_natCast, Int.reduceToNat, *])
      | (refine Later.draw mixed rfl ?_; try simp -dsimp -implicitDefEqProofs only [go_sem, ↓reduceIte, Nat.reduceEqDiff, Nat.reduceLT, Nat.reduceAdd, Nat.reduceMul, Nat.reduceLeDiff, Nat.le_refl, Int.natCast_zero, Int.toNat_natCast, Int.reduceToNat, *])
      all_goals first
        | omega | (refine ⟨?_, ?_⟩ <;> omega) | (simp; done) | (simp; omega)
        | rfl
        | (have hne := of_decide_eq_true ‹decide (((spoilt l d).length : Int) > 0) = true›
           have h0 : ¬ (spoilt l d).length = 0 := by omega
           simp [fileOnce, hb, hv, h0]; done)
        | (have hne := of_decide_eq_false ‹decide (((spoilt l d).length : Int) > 0) = false›
           have h0 : (spoilt l d).length = 0 := by omega
           simp [fileOnce, hb, hv, h0]; done)
        | (simp_all [fileOnce]; done)
        | trace_state
    · rw [if_neg hv] at hdc
      simp -dsimp -implicitDefEqProofs only [go_sem, ↓reduceIte, Nat.reduceEqDiff, Nat.reduceLT, Nat.reduceAdd, Nat.reduceMul, Nat.reduceLeDiff, Nat.le_refl, Int.natCast_zero, Int.toNat_natCast, Int.reduceToNat]
      repeat' first
      | (refine Br.intro (fun _ => ?_) (fun _ => ?_) <;> try simp -dsimp -implicitDefEqProofs only [go_sem, ↓reduceIte, Nat.reduceEqDiff, Nat.reduceLT, Nat.reduceAdd, Nat.reduceMul, Nat.reduceLeDiff, Nat.le_refl, Int.natCast_zero, Int.toNat_natCast, Int.reduceToNat, *])
      | (with_reducible refine And.intro ?_ ?_)
      | (refine sCallT_one (c_depthsCode m l d v h h2 hd) ?_; rw [hdc]; try simp -dsimp -implicitDefEqProofs only [go_sem, ↓reduceIte, Nat.reduceEqDiff, Nat.reduceLT, Nat.reduceAdd, Nat.reduceMul, Nat.reduceLeDiff, Nat.le_refl, Int.natCast_zero, Int.toNat_natCast, Int.reduceToNat])
      | (refine sCallT_one (c_spoilt l d k3 hd h2 q1) ?_; try simp -dsimp -implicitDefEqProofs only [go_sem, ↓reduceIte, Nat.reduceEqDiff, Nat.reduceLT, Nat.reduceAdd, Nat.reduceMul, Nat.reduceLeDiff, Nat.le_refl, Int.natCast_zero, Int.toNat_natCast, Int.reduceToNat, *])
      all_goals first
        | omega | (refine ⟨?_, ?_⟩ <;> omega) | (simp; done) | (simp; omega)
        | rfl
        | (simp_all [fileOnce]; done)
        | trace_state
  · rw [if_neg hb] at hdc
    simp -dsimp -implicitDefEqProofs only [go_sem, ↓reduceIte, Nat.reduceEqDiff, Nat.reduceLT, Nat.reduceAdd, Nat.reduceMul, Nat.reduceLeDiff, Nat.le_refl, Int.natCast_zero, Int.toNat_natCast, Int.reduceToNat]
    repeat' first
    | (refine Br.intro (fun _ => ?_) (fun _ => ?_) <;> try simp -dsimp -implicitDefEqProofs only [go_sem, ↓reduceIte, Nat.reduceEqDiff, Nat.reduceLT, Nat.reduceAdd, Nat.reduceMul, Nat.reduceLeDiff, Nat.le_refl, Int.natCast_zero, Int.toNat_natCast, Int.reduceToNat, *])
    | (with_reducible refine And.intro ?_ ?_)
    | (refine sCallT_one (c_depthsCode m l d v h h2 hd) ?_; rw [hdc]; try simp -dsimp -implicitDefEqProofs only [go_sem, ↓reduceIte, Nat.reduceEqDiff, Nat.reduceLT, Nat.reduceAdd, Nat.reduceMul, Nat.reduceLeDiff, Nat.le_refl, Int.natCast_zero, Int.toNat_natCast, Int.reduceToNat])
    all_goals first
      | omega | (refine ⟨?_, ?_⟩ <;> omega) | (simp; done) | (simp; omega)
      | rfl
      | (simp_all [fileOnce]; done)
      | trace_state
theorem way_bnd {m : MkM} {l : List (List Int)} {d : List Int} (hl : isLk m l = true) (w : Way l d) : d.length ≤ 1000 ∧ ∀ x ∈ d, 0 ≤ x ∧ x ≤ 1000000 := by
  refine ⟨by have := (isLk_len hl).2; have := w.len; omega, fun x hx => ?_⟩
  obtain ⟨c, hc, rfl⟩ := List.getElem_of_mem hx
  have h1 := w.bnd c hc
  have hc2 : c < l.length := by rw [← w.len]; exact hc
  have h2 := isLk_set hl hc2
  have h3 := rises_at h2.2 (j := 0) h2.1
  have h4 := isLk_dep hl
  have e2 : (blank l).getD c 0 = l[c][0] := by simp [blank, List.getD_eq_getElem?_getD, hc2, h2.1]
  omega
attribute [irreducible] file turnsOf tk
def lkV (m : MkM) (l : List (List Int)) (v : Int) : Int := if isLk m l then (if isIn v 1 6 then 0 else 2) else 1
theorem c_l33Lock (m : MkM) (l : List (List Int)) (v : Int) (h : l.length ≤ 1048576) (h2 : ∀ x ∈ l, x.length ≤ 1048576) : Fn Try.prog 84 [eMk m, eLk l, eI v] true (· = eI (lkV m l v)) := by
  refine Fn.of_vcN 14 [.tmp 6] Try.func84 rfl rfl rfl rfl rfl (of_decide_eq_true rfl) ?_
  simp -dsimp -implicitDefEqProofs only [go_sem, ↓reduceIte, Nat.reduceEqDiff, Nat.reduceLT, Nat.reduceAdd, Nat.reduceMul, Nat.reduceLeDiff, Nat.le_refl, Int.natCast_zero, Int.toNat_natCast, Int.reduceToNat]
  repeat' first
    | (refine Br.intro (fun _ => ?_) (fun _ => ?_) <;> try simp -dsimp -implicitDefEqProofs only [go_sem, ↓reduceIte, Nat.reduceEqDiff, Nat.reduceLT, Nat.reduceAdd, Nat.reduceMul, Nat.reduceLeDiff, Nat.le_refl, Int.natCast_zero, Int.toNat_natCast, Int.reduceToNat, *])
    | (with_reducible refine And.intro ?_ ?_)
    | (refine sCallT_one (c_sIsLock m l h h2) ?_; try simp -dsimp -implicitDefEqProofs only [go_sem, ↓reduceIte, Nat.reduceEqDiff, Nat.reduceLT, Nat.reduceAdd, Nat.reduceMul, Nat.reduceLeDiff, Nat.le_refl, Int.natCast_zero, Int.toNat_natCast, Int.reduceToNat, *])
    | (refine sCallT_one (c_l33Visible v) ?_; try simp -dsimp -implicitDefEqProofs only [go_sem, ↓reduceIte, Nat.reduceEqDiff, Nat.reduceLT, Nat.reduceAdd, Nat.reduceMul, Nat.reduceLeDiff, Nat.le_refl, Int.natCast_zero, Int.toNat_natCast, Int.reduceToNat, *])
  all_goals first
    | omega | (refine ⟨?_, ?_⟩ <;> omega) | (simp; done) | (simp; omega)
    | (simp_all [lkV]; done)
    | trace_state
def blankAfter (m : MkM) (l : List (List Int)) (v t : Int) : List Int × Int := if isLk m l then (if isIn v 1 6 && isIn t 0 100 then (itF l v t.toNat, 0) else ([], 2)) else ([], 1)
def turnsNeeded (m : MkM) (l : List (List Int)) (v : Int) : Int × Int := if isLk m l then (if isIn v 1 6 then (1 + (turnsOf l v : Int), 0) else (0, 2)) else (0, 1)
theorem itF_succ (l : List (List Int)) (v : Int) (k : Nat) : itF l v (k + 1) = file l (itF l v k) v := rfl
theorem itF_zero (l : List (List Int)) (v : Int) : (itF l v 0).map eI = List.replicate l.length (eI 0) := by simp [itF]
theorem c_sBlankAfter (m : MkM) (l : List (List Int)) (v t : Int) (h : l.length ≤ 1048576) (h2 : ∀ x ∈ l, x.length ≤ 1048576) : Fn Try.prog 30 [eMk m, eLk l, eI v, eI t] true (· = .tup [eIs (blankAfter m l v t).1, eI (blankAfter m l v t).2]) := by
  refine Fn.of_vcN 38 [.tmp 8, .tmp 9] Try.func30 rfl rfl rfl rfl rfl (of_decide_eq_true rfl) ?_
  rcases hb : isLk m l with _ | _
  · have hk : lkV m l v = 1 := by simp [lkV, hb]
    have hk2 : lkCode m l = 1 := by simp [lkCode, hb]
    simp -dsimp -implicitDefEqProofs only [go_sem, ↓reduceIte, Nat.reduceEqDiff, Nat.reduceLT, Nat.reduceAdd, Nat.reduceMul, Nat.reduceLeDiff, Nat.le_refl, Int.natCast_zero, Int.toNat_natCast, Int.reduceToNat]
    repeat' first
    | (refine Br.intro (fun _ => ?_) (fun _ => ?_) <;> try simp -dsimp -implicitDefEqProofs only [go_sem, ↓reduceIte, Nat.reduceEqDiff, Nat.reduceLT, Nat.reduceAdd, Nat.reduceMul, Nat.reduceLeDiff, Nat.le_refl, Int.natCast_zero, Int.toNat_natCast, Int.reduceToNat, *])
    | (with_reducible refine And.intro ?_ ?_)
    | (refine sCallT_one (c_l33Lock m l v h h2) ?_; try simp -dsimp -implicitDefEqProofs only [go_sem, ↓reduceIte, Nat.reduceEqDiff, Nat.reduceLT, Nat.reduceAdd, Nat.reduceMul, Nat.reduceLeDiff, Nat.le_refl, Int.natCast_zero, Int.toNat_natCast, Int.reduceToNat, *])
    | (refine sCallT_one (c_l01In _ _ _) ?_; try simp -dsimp -implicitDefEqProofs only [go_sem, ↓reduceIte, Nat.reduceEqDiff, Nat.reduceLT, Nat.reduceAdd, Nat.reduceMul, Nat.reduceLeDiff, Nat.le_refl, Int.natCast_zero, Int.toNat_natCast, Int.reduceToNat, *])
    | (refine sCallX_one (c_l33Lock m l v h h2) ?_; try simp -dsimp -implicitDefEqProofs only [go_sem, ↓reduceIte, Nat.reduceEqDiff, Nat.reduceLT, Nat.reduceAdd, Nat.reduceMul, Nat.reduceLeDiff, Nat.le_refl, Int.natCast_zero, Int.toNat_natCast, Int.reduceToNat, *])
    | (refine sCallX_one (c_l01In _ _ _) ?_; try simp -dsimp -implicitDefEqProofs only [go_sem, ↓reduceIte, Nat.reduceEqDiff, Nat.reduceLT, Nat.reduceAdd, Nat.reduceMul, Nat.reduceLeDiff, Nat.le_refl, Int.natCast_zero, Int.toNat_natCast, Int.reduceToNat, *])
    | (refine Later.draw mixed rfl ?_; try simp -dsimp -implicitDefEqProofs only [go_sem, ↓reduceIte, Nat.reduceEqDiff, Nat.reduceLT, Nat.reduceAdd, Nat.reduceMul, Nat.reduceLeDiff, Nat.le_refl, Int.natCast_zero, Int.toNat_natCast, Int.reduceToNat, *])
    all_goals first
      | omega | (refine ⟨?_, ?_⟩ <;> omega) | (simp; done) | (simp; omega)
      | rfl
      | (simp_all [blankAfter]; done)
      | trace_state
  have hk2 : lkCode m l = 0 := by simp [lkCode, hb]
  have hn := isLk_len hb
  have hch : m.chambers = (l.length : Int) := hn.1.symm
  have hn6 := hn.2
  clear hn
  by_cases hv : (isIn v 1 6 && isIn t 0 100) = true
  rotate_left
  · have hk : lkV m l v = if isIn v 1 6 then 0 else 2 := by simp [lkV, hb]
    rcases hv1 : isIn v 1 6 with _ | _
    all_goals
      simp only [hv1] at hk hv
      simp -dsimp -implicitDefEqProofs only [go_sem, ↓reduceIte, Nat.reduceEqDiff, Nat.reduceLT, Nat.reduceAdd, Nat.reduceMul, Nat.reduceLeDiff, Nat.le_refl, Int.natCast_zero, Int.toNat_natCast, Int.reduceToNat]
      repeat' first
      | (refine Br.intro (fun _ => ?_) (fun _ => ?_) <;> try simp -dsimp -implicitDefEqProofs only [go_sem, ↓reduceIte, Nat.reduceEqDiff, Nat.reduceLT, Nat.reduceAdd, Nat.reduceMul, Nat.reduceLeDiff, Nat.le_refl, Int.natCast_zero, Int.toNat_natCast, Int.reduceToNat, *])
      | (with_reducible refine And.intro ?_ ?_)
      | (refine sCallT_one (c_l33Lock m l v h h2) ?_; try simp -dsimp -implicitDefEqProofs only [go_sem, ↓reduceIte, Nat.reduceEqDiff, Nat.reduceLT, Nat.reduceAdd, Nat.reduceMul, Nat.reduceLeDiff, Nat.le_refl, Int.natCast_zero, Int.toNat_natCast, Int.reduceToNat, *])
      | (refine sCallT_one (c_l01In _ _ _) ?_; try simp -dsimp -implicitDefEqProofs only [go_sem, ↓reduceIte, Nat.reduceEqDiff, Nat.reduceLT, Nat.reduceAdd, Nat.reduceMul, Nat.reduceLeDiff, Nat.le_refl, Int.natCast_zero, Int.toNat_natCast, Int.reduceToNat, *])
      | (refine sCallX_one (c_l33Lock m l v h h2) ?_; try simp -dsimp -implicitDefEqProofs only [go_sem, ↓reduceIte, Nat.reduceEqDiff, Nat.reduceLT, Nat.reduceAdd, Nat.reduceMul, Nat.reduceLeDiff, Nat.le_refl, Int.natCast_zero, Int.toNat_natCast, Int.reduceToNat, *])
      | (refine sCallX_one (c_l01In _ _ _) ?_; try simp -dsimp -implicitDefEqProofs only [go_sem, ↓reduceIte, Nat.reduceEqDiff, Nat.reduceLT, Nat.reduceAdd, Nat.reduceMul, Nat.reduceLeDiff, Nat.le_refl, Int.natCast_zero, Int.toNat_natCast, Int.reduceToNat, *])
      | (refine Later.draw mixed rfl ?_; try simp -dsimp -implicitDefEqProofs only [go_sem, ↓reduceIte, Nat.reduceEqDiff, Nat.reduceLT, Nat.reduceAdd, Nat.reduceMul, Nat.reduceLeDiff, Nat.le_refl, Int.natCast_zero, Int.toNat_natCast, Int.reduceToNat, *])
      all_goals first
        | omega | (refine ⟨?_, ?_⟩ <;> omega) | (simp; done) | (simp; omega)
        | rfl
        | (simp_all [blankAfter]; done)
        | trace_state
  have hv1 : isIn v 1 6 = true := by simp at hv; exact hv.1
  have ht : isIn t 0 100 = true := by simp at hv; exact hv.2
  have hv6 : 1 ≤ v ∧ v ≤ 6 := by simp [isIn] at hv1; omega
  have ht6 : 0 ≤ t ∧ t ≤ 100 := by simp [isIn] at ht; omega
  have hk : lkV m l v = 0 := by simp [lkV, hb, hv1]
  simp -dsimp -implicitDefEqProofs only [go_sem, ↓reduceIte, Nat.reduceEqDiff, Nat.reduceLT, Nat.reduceAdd, Nat.reduceMul, Nat.reduceLeDiff, Nat.le_refl, Int.natCast_zero, Int.toNat_natCast, Int.reduceToNat]
  repeat' first
    | (refine Br.intro (fun _ => ?_) (fun _ => ?_) <;> try simp -dsimp -implicitDefEqProofs only [go_sem, ↓reduceIte, Nat.reduceEqDiff, Nat.reduceLT, Nat.reduceAdd, Nat.reduceMul, Nat.reduceLeDiff, Nat.le_refl, Int.natCast_zero, Int.toNat_natCast, Int.reduceToNat, *])
    | (with_reducible refine And.intro ?_ ?_)
    | (refine sCallT_one (c_l33Lock m l v h h2) ?_; try simp -dsimp -implicitDefEqProofs only [go_sem, ↓reduceIte, Nat.reduceEqDiff, Nat.reduceLT, Nat.reduceAdd, Nat.reduceMul, Nat.reduceLeDiff, Nat.le_refl, Int.natCast_zero, Int.toNat_natCast, Int.reduceToNat, *])
    | (refine sCallT_one (c_l01In _ _ _) ?_; try simp -dsimp -implicitDefEqProofs only [go_sem, ↓reduceIte, Nat.reduceEqDiff, Nat.reduceLT, Nat.reduceAdd, Nat.reduceMul, Nat.reduceLeDiff, Nat.le_refl, Int.natCast_zero, Int.toNat_natCast, Int.reduceToNat, *])
    | (refine Later.draw mixed rfl ?_; try simp -dsimp -implicitDefEqProofs only [go_sem, ↓reduceIte, Nat.reduceEqDiff, Nat.reduceLT, Nat.reduceAdd, Nat.reduceMul, Nat.reduceLeDiff, Nat.le_refl, Int.natCast_zero, Int.toNat_natCast, Int.reduceToNat, *])
  all_goals try (first | omega | (refine ⟨?_, ?_⟩ <;> omega) | rfl | (simp; done))
  refine Later.upR [2, 5] [36] [28] t.toNat (fun _ => True) (fun i => [(3, eI (t - i)), (11, .ref 28 0 0 l.length)]) (fun i => [(28, .row 0 ⟨1, false⟩ true ((itF l v i).map eI))]) trivial (.here ?_) rfl (fun i hi _ => ?_) (fun _ => ?_)
  · simp -dsimp -implicitDefEqProofs only [go_sem, ↓reduceIte, Nat.reduceEqDiff, Nat.reduceLT, Nat.reduceAdd, Nat.reduceMul, Nat.reduceLeDiff, Nat.le_refl, Int.natCast_zero, Int.toNat_natCast, Int.reduceToNat, itF_zero]
    try (simp; done)
  · have w := itF_way hb v i
    obtain ⟨w1, w2⟩ := way_bnd hb w
    have w0 := w.len
    have ht2 : ((itF l v i).map eI).take l.length = (itF l v i).map eI := List.take_of_length_le (by simp [w0])
    have hfl : (file l (itF l v i) v).length = l.length := by rw [file_len, w0]
    have hi1 := itF_succ l v i
    have q1 : decide (t - ((i : Nat) : Int) > 0) = true := decide_eq_true (by omega)
    simp -dsimp -implicitDefEqProofs only [pick_nil, pick_cons, look_nil, look_cons, dropB_nil, dropB_cons, inD_nil, inD_cons, inE_nil, inE_cons, or_t_l, or_f_l, Nat.reduceBEq, Nat.reduceDiv, Nat.reduceAdd, beq_self_eq_true, Bool.false_eq_true, Bool.or_false, ↓reduceIte, Nat.reduceEqDiff, List.cons_append, List.nil_append]
    simp -dsimp -implicitDefEqProofs only [go_sem, ↓reduceIte, Nat.reduceEqDiff, Nat.reduceLT, Nat.reduceAdd, Nat.reduceMul, Nat.reduceLeDiff, Nat.le_refl, Int.natCast_zero, Int.toNat_natCast, Int.reduceToNat, q1, ht2]
    repeat' first
      | (refine Br.intro (fun _ => ?_) (fun _ => ?_) <;> try simp -dsimp -implicitDefEqProofs only [go_sem, ↓reduceIte, Nat.reduceEqDiff, Nat.reduceLT, Nat.reduceAdd, Nat.reduceMul, Nat.reduceLeDiff, Nat.le_refl, Int.natCast_zero, Int.toNat_natCast, Int.reduceToNat, *])
      | (with_reducible refine And.intro ?_ ?_)
      | (refine sCallT_one (c_l33File l (itF l v i) v (by omega) (by omega) h2 hv6 w2) ?_; try simp -dsimp -implicitDefEqProofs only [go_sem, ↓reduceIte, Nat.reduceEqDiff, Nat.reduceLT, Nat.reduceAdd, Nat.reduceMul, Nat.reduceLeDiff, Nat.le_refl, Int.natCast_zero, Int.toNat_natCast, Int.reduceToNat, *])
    all_goals first
      | omega | (refine ⟨?_, ?_⟩ <;> omega) | (simp; done) | (simp; omega)
      | rfl
      | (refine .one 37000 28 (by decide) (by decide) ?_; simp -dsimp -implicitDefEqProofs only [go_sem, ↓reduceIte, Nat.reduceEqDiff, Nat.reduceLT, Nat.reduceAdd, Nat.reduceMul, Nat.reduceLeDiff, Nat.le_refl, Int.natCast_zero, Int.toNat_natCast, Int.reduceToNat, hfl, hi1]; repeat' (with_reducible refine And.intro ?_ ?_)
         all_goals first | omega | rfl | (simp; done) | (simp only [Value.int.injEq, true_and]; omega))
      | trace_state
  · have w := itF_way hb v t.toNat
    obtain ⟨w1, w2⟩ := way_bnd hb w
    have w0 := w.len
    have ht2 : ((itF l v t.toNat).map eI).take l.length = (itF l v t.toNat).map eI := List.take_of_length_le (by simp [w0])
    have hfl : (file l (itF l v t.toNat) v).length = l.length := by rw [file_len, w0]
    have hi1 := itF_succ l v t.toNat
    have q1 : decide (t - ((t.toNat : Nat) : Int) > 0) = false := decide_eq_false (by omega)
    simp -dsimp -implicitDefEqProofs only [pick_nil, pick_cons, look_nil, look_cons, dropB_nil, dropB_cons, inD_nil, inD_cons, inE_nil, inE_cons, or_t_l, or_f_l, Nat.reduceBEq, Nat.reduceDiv, Nat.reduceAdd, beq_self_eq_true, Bool.false_eq_true, Bool.or_false, ↓reduceIte, Nat.reduceEqDiff, List.cons_append, List.nil_append]
    simp -dsimp -implicitDefEqProofs only [go_sem, ↓reduceIte, Nat.reduceEqDiff, Nat.reduceLT, Nat.reduceAdd, Nat.reduceMul, Nat.reduceLeDiff, Nat.le_refl, Int.natCast_zero, Int.toNat_natCast, Int.reduceToNat, q1, ht2]
    repeat' (with_reducible refine And.intro ?_ ?_)
    all_goals first
      | omega | (refine ⟨?_, ?_⟩ <;> omega) | (simp; done) | (simp; omega)
      | rfl
      | (simp_all [blankAfter]; done)
      | trace_state
theorem c_iBlankAfter (m : MkM) (l : List (List Int)) (v t : Int) (h : l.length ≤ 1048576) (h2 : ∀ x ∈ l, x.length ≤ 1048576) : Fn Try.prog 29 [eMk m, eLk l, eI v, eI t] true (· = .tup [eIs (blankAfter m l v t).1, eI (blankAfter m l v t).2]) := by
  refine Fn.of_vcN 39 [.tmp 8, .tmp 9] Try.func29 rfl rfl rfl rfl rfl (of_decide_eq_true rfl) ?_
  rcases hb : isLk m l with _ | _
  · have hk : lkV m l v = 1 := by simp [lkV, hb]
    have hk2 : lkCode m l = 1 := by simp [lkCode, hb]
    simp -dsimp -implicitDefEqProofs only [go_sem, ↓reduceIte, Nat.reduceEqDiff, Nat.reduceLT, Nat.reduceAdd, Nat.reduceMul, Nat.reduceLeDiff, Nat.le_refl, Int.natCast_zero, Int.toNat_natCast, Int.reduceToNat]
    repeat' first
    | (refine Br.intro (fun _ => ?_) (fun _ => ?_) <;> try simp -dsimp -implicitDefEqProofs only [go_sem, ↓reduceIte, Nat.reduceEqDiff, Nat.reduceLT, Nat.reduceAdd, Nat.reduceMul, Nat.reduceLeDiff, Nat.le_refl, Int.natCast_zero, Int.toNat_natCast, Int.reduceToNat, *])
    | (with_reducible refine And.intro ?_ ?_)
    | (refine sCallT_one (c_locksCode1 m l h h2) ?_; try simp -dsimp -implicitDefEqProofs only [go_sem, ↓reduceIte, Nat.reduceEqDiff, Nat.reduceLT, Nat.reduceAdd, Nat.reduceMul, Nat.reduceLeDiff, Nat.le_refl, Int.natCast_zero, Int.toNat_natCast, Int.reduceToNat, *])
    | (refine sCallT_one (c_within _ _ _) ?_; try simp -dsimp -implicitDefEqProofs only [go_sem, ↓reduceIte, Nat.reduceEqDiff, Nat.reduceLT, Nat.reduceAdd, Nat.reduceMul, Nat.reduceLeDiff, Nat.le_refl, Int.natCast_zero, Int.toNat_natCast, Int.reduceToNat, *])
    | (refine sCallX_one (c_locksCode1 m l h h2) ?_; try simp -dsimp -implicitDefEqProofs only [go_sem, ↓reduceIte, Nat.reduceEqDiff, Nat.reduceLT, Nat.reduceAdd, Nat.reduceMul, Nat.reduceLeDiff, Nat.le_refl, Int.natCast_zero, Int.toNat_natCast, Int.reduceToNat, *])
    | (refine sCallX_one (c_within _ _ _) ?_; try simp -dsimp -implicitDefEqProofs only [go_sem, ↓reduceIte, Nat.reduceEqDiff, Nat.reduceLT, Nat.reduceAdd, Nat.reduceMul, Nat.reduceLeDiff, Nat.le_refl, Int.natCast_zero, Int.toNat_natCast, Int.reduceToNat, *])
    | (refine Later.draw mixed rfl ?_; try simp -dsimp -implicitDefEqProofs only [go_sem, ↓reduceIte, Nat.reduceEqDiff, Nat.reduceLT, Nat.reduceAdd, Nat.reduceMul, Nat.reduceLeDiff, Nat.le_refl, Int.natCast_zero, Int.toNat_natCast, Int.reduceToNat, *])
    all_goals first
      | omega | (refine ⟨?_, ?_⟩ <;> omega) | (simp; done) | (simp; omega)
      | rfl
      | (simp_all [blankAfter]; done)
      | trace_state
  have hk2 : lkCode m l = 0 := by simp [lkCode, hb]
  have hn := isLk_len hb
  have hch : m.chambers = (l.length : Int) := hn.1.symm
  have hn6 := hn.2
  clear hn
  by_cases hv : (isIn v 1 6 && isIn t 0 100) = true
  rotate_left
  · have hk : lkV m l v = if isIn v 1 6 then 0 else 2 := by simp [lkV, hb]
    rcases hv1 : isIn v 1 6 with _ | _
    all_goals
      simp only [hv1] at hk hv
      simp -dsimp -implicitDefEqProofs only [go_sem, ↓reduceIte, Nat.reduceEqDiff, Nat.reduceLT, Nat.reduceAdd, Nat.reduceMul, Nat.reduceLeDiff, Nat.le_refl, Int.natCast_zero, Int.toNat_natCast, Int.reduceToNat]
      repeat' first
      | (refine Br.intro (fun _ => ?_) (fun _ => ?_) <;> try simp -dsimp -implicitDefEqProofs only [go_sem, ↓reduceIte, Nat.reduceEqDiff, Nat.reduceLT, Nat.reduceAdd, Nat.reduceMul, Nat.reduceLeDiff, Nat.le_refl, Int.natCast_zero, Int.toNat_natCast, Int.reduceToNat, *])
      | (with_reducible refine And.intro ?_ ?_)
      | (refine sCallT_one (c_locksCode1 m l h h2) ?_; try simp -dsimp -implicitDefEqProofs only [go_sem, ↓reduceIte, Nat.reduceEqDiff, Nat.reduceLT, Nat.reduceAdd, Nat.reduceMul, Nat.reduceLeDiff, Nat.le_refl, Int.natCast_zero, Int.toNat_natCast, Int.reduceToNat, *])
      | (refine sCallT_one (c_within _ _ _) ?_; try simp -dsimp -implicitDefEqProofs only [go_sem, ↓reduceIte, Nat.reduceEqDiff, Nat.reduceLT, Nat.reduceAdd, Nat.reduceMul, Nat.reduceLeDiff, Nat.le_refl, Int.natCast_zero, Int.toNat_natCast, Int.reduceToNat, *])
      | (refine sCallX_one (c_locksCode1 m l h h2) ?_; try simp -dsimp -implicitDefEqProofs only [go_sem, ↓reduceIte, Nat.reduceEqDiff, Nat.reduceLT, Nat.reduceAdd, Nat.reduceMul, Nat.reduceLeDiff, Nat.le_refl, Int.natCast_zero, Int.toNat_natCast, Int.reduceToNat, *])
      | (refine sCallX_one (c_within _ _ _) ?_; try simp -dsimp -implicitDefEqProofs only [go_sem, ↓reduceIte, Nat.reduceEqDiff, Nat.reduceLT, Nat.reduceAdd, Nat.reduceMul, Nat.reduceLeDiff, Nat.le_refl, Int.natCast_zero, Int.toNat_natCast, Int.reduceToNat, *])
      | (refine Later.draw mixed rfl ?_; try simp -dsimp -implicitDefEqProofs only [go_sem, ↓reduceIte, Nat.reduceEqDiff, Nat.reduceLT, Nat.reduceAdd, Nat.reduceMul, Nat.reduceLeDiff, Nat.le_refl, Int.natCast_zero, Int.toNat_natCast, Int.reduceToNat, *])
      all_goals first
        | omega | (refine ⟨?_, ?_⟩ <;> omega) | (simp; done) | (simp; omega)
        | rfl
        | (simp_all [blankAfter]; done)
        | trace_state
  have hv1 : isIn v 1 6 = true := by simp at hv; exact hv.1
  have ht : isIn t 0 100 = true := by simp at hv; exact hv.2
  have hv6 : 1 ≤ v ∧ v ≤ 6 := by simp [isIn] at hv1; omega
  have ht6 : 0 ≤ t ∧ t ≤ 100 := by simp [isIn] at ht; omega
  have hk : lkV m l v = 0 := by simp [lkV, hb, hv1]
  simp -dsimp -implicitDefEqProofs only [go_sem, ↓reduceIte, Nat.reduceEqDiff, Nat.reduceLT, Nat.reduceAdd, Nat.reduceMul, Nat.reduceLeDiff, Nat.le_refl, Int.natCast_zero, Int.toNat_natCast, Int.reduceToNat]
  repeat' first
    | (refine Br.intro (fun _ => ?_) (fun _ => ?_) <;> try simp -dsimp -implicitDefEqProofs only [go_sem, ↓reduceIte, Nat.reduceEqDiff, Nat.reduceLT, Nat.reduceAdd, Nat.reduceMul, Nat.reduceLeDiff, Nat.le_refl, Int.natCast_zero, Int.toNat_natCast, Int.reduceToNat, *])
    | (with_reducible refine And.intro ?_ ?_)
    | (refine sCallT_one (c_locksCode1 m l h h2) ?_; try simp -dsimp -implicitDefEqProofs only [go_sem, ↓reduceIte, Nat.reduceEqDiff, Nat.reduceLT, Nat.reduceAdd, Nat.reduceMul, Nat.reduceLeDiff, Nat.le_refl, Int.natCast_zero, Int.toNat_natCast, Int.reduceToNat, *])
    | (refine sCallT_one (c_within _ _ _) ?_; try simp -dsimp -implicitDefEqProofs only [go_sem, ↓reduceIte, Nat.reduceEqDiff, Nat.reduceLT, Nat.reduceAdd, Nat.reduceMul, Nat.reduceLeDiff, Nat.le_refl, Int.natCast_zero, Int.toNat_natCast, Int.reduceToNat, *])
    | (refine Later.draw mixed rfl ?_; try simp -dsimp -implicitDefEqProofs only [go_sem, ↓reduceIte, Nat.reduceEqDiff, Nat.reduceLT, Nat.reduceAdd, Nat.reduceMul, Nat.reduceLeDiff, Nat.le_refl, Int.natCast_zero, Int.toNat_natCast, Int.reduceToNat, *])
  all_goals try (first | omega | (refine ⟨?_, ?_⟩ <;> omega) | rfl | (simp; done))
  refine Later.upR [2, 5, 30] [36] [29] t.toNat (fun _ => True) (fun i => [(31, eI i), (11, .ref 29 0 0 l.length)]) (fun i => [(29, .row 0 ⟨1, false⟩ true ((itF l v i).map eI))]) trivial (.here ?_) rfl (fun i hi _ => ?_) (fun _ => ?_)
  · simp -dsimp -implicitDefEqProofs only [go_sem, ↓reduceIte, Nat.reduceEqDiff, Nat.reduceLT, Nat.reduceAdd, Nat.reduceMul, Nat.reduceLeDiff, Nat.le_refl, Int.natCast_zero, Int.toNat_natCast, Int.reduceToNat, itF_zero]
    try (simp; done)
  · have w := itF_way hb v i
    obtain ⟨w1, w2⟩ := way_bnd hb w
    have w0 := w.len
    have ht2 : ((itF l v i).map eI).take l.length = (itF l v i).map eI := List.take_of_length_le (by simp [w0])
    have hfl : (file l (itF l v i) v).length = l.length := by rw [file_len, w0]
    have hi1 := itF_succ l v i
    have q1 : decide (((i : Nat) : Int) < t) = true := decide_eq_true (by omega)
    simp -dsimp -implicitDefEqProofs only [pick_nil, pick_cons, look_nil, look_cons, dropB_nil, dropB_cons, inD_nil, inD_cons, inE_nil, inE_cons, or_t_l, or_f_l, Nat.reduceBEq, Nat.reduceDiv, Nat.reduceAdd, beq_self_eq_true, Bool.false_eq_true, Bool.or_false, ↓reduceIte, Nat.reduceEqDiff, List.cons_append, List.nil_append]
    simp -dsimp -implicitDefEqProofs only [go_sem, ↓reduceIte, Nat.reduceEqDiff, Nat.reduceLT, Nat.reduceAdd, Nat.reduceMul, Nat.reduceLeDiff, Nat.le_refl, Int.natCast_zero, Int.toNat_natCast, Int.reduceToNat, q1, ht2]
    repeat' first
      | (refine Br.intro (fun _ => ?_) (fun _ => ?_) <;> try simp -dsimp -implicitDefEqProofs only [go_sem, ↓reduceIte, Nat.reduceEqDiff, Nat.reduceLT, Nat.reduceAdd, Nat.reduceMul, Nat.reduceLeDiff, Nat.le_refl, Int.natCast_zero, Int.toNat_natCast, Int.reduceToNat, *])
      | (with_reducible refine And.intro ?_ ?_)
      | (refine sCallT_one (c_file l (itF l v i) v (by omega) (by omega) h2 hv6 w2) ?_; try simp -dsimp -implicitDefEqProofs only [go_sem, ↓reduceIte, Nat.reduceEqDiff, Nat.reduceLT, Nat.reduceAdd, Nat.reduceMul, Nat.reduceLeDiff, Nat.le_refl, Int.natCast_zero, Int.toNat_natCast, Int.reduceToNat, *])
    all_goals first
      | omega | (refine ⟨?_, ?_⟩ <;> omega) | (simp; done) | (simp; omega)
      | rfl
      | (refine .one 37000 29 (by decide) (by decide) ?_; simp -dsimp -implicitDefEqProofs only [go_sem, ↓reduceIte, Nat.reduceEqDiff, Nat.reduceLT, Nat.reduceAdd, Nat.reduceMul, Nat.reduceLeDiff, Nat.le_refl, Int.natCast_zero, Int.toNat_natCast, Int.reduceToNat, hfl, hi1]; repeat' (with_reducible refine And.intro ?_ ?_)
         all_goals first | omega | rfl | (simp; done) | (simp only [Value.int.injEq, true_and]; omega))
      | trace_state
  · have w := itF_way hb v t.toNat
    obtain ⟨w1, w2⟩ := way_bnd hb w
    have w0 := w.len
    have ht2 : ((itF l v t.toNat).map eI).take l.length = (itF l v t.toNat).map eI := List.take_of_length_le (by simp [w0])
    have hfl : (file l (itF l v t.toNat) v).length = l.length := by rw [file_len, w0]
    have hi1 := itF_succ l v t.toNat
    have q1 : decide (((t.toNat : Nat) : Int) < t) = false := decide_eq_false (by omega)
    simp -dsimp -implicitDefEqProofs only [pick_nil, pick_cons, look_nil, look_cons, dropB_nil, dropB_cons, inD_nil, inD_cons, inE_nil, inE_cons, or_t_l, or_f_l, Nat.reduceBEq, Nat.reduceDiv, Nat.reduceAdd, beq_self_eq_true, Bool.false_eq_true, Bool.or_false, ↓reduceIte, Nat.reduceEqDiff, List.cons_append, List.nil_append]
    simp -dsimp -implicitDefEqProofs only [go_sem, ↓reduceIte, Nat.reduceEqDiff, Nat.reduceLT, Nat.reduceAdd, Nat.reduceMul, Nat.reduceLeDiff, Nat.le_refl, Int.natCast_zero, Int.toNat_natCast, Int.reduceToNat, q1, ht2]
    repeat' (with_reducible refine And.intro ?_ ?_)
    all_goals first
      | omega | (refine ⟨?_, ?_⟩ <;> omega) | (simp; done) | (simp; omega)
      | rfl
      | (simp_all [blankAfter]; done)
      | trace_state
theorem c_sTurnsNeeded (m : MkM) (l : List (List Int)) (v : Int) (h : l.length ≤ 1048576) (h2 : ∀ x ∈ l, x.length ≤ 1048576) : Fn Try.prog 23 [eMk m, eLk l, eI v] true (· = .tup [eI (turnsNeeded m l v).1, eI (turnsNeeded m l v).2]) := by
  refine Fn.of_vcN 33 [.tmp 6, .tmp 7] Try.func23 rfl rfl rfl rfl rfl (of_decide_eq_true rfl) ?_
  rcases hb : isLk m l with _ | _
  · have hk : lkV m l v = 1 := by simp [lkV, hb]
    have hk2 : lkCode m l = 1 := by simp [lkCode, hb]
    simp -dsimp -implicitDefEqProofs only [go_sem, ↓reduceIte, Nat.reduceEqDiff, Nat.reduceLT, Nat.reduceAdd, Nat.reduceMul, Nat.reduceLeDiff, Nat.le_refl, Int.natCast_zero, Int.toNat_natCast, Int.reduceToNat]
    repeat' first
    | (refine Br.intro (fun _ => ?_) (fun _ => ?_) <;> try simp -dsimp -implicitDefEqProofs only [go_sem, ↓reduceIte, Nat.reduceEqDiff, Nat.reduceLT, Nat.reduceAdd, Nat.reduceMul, Nat.reduceLeDiff, Nat.le_refl, Int.natCast_zero, Int.toNat_natCast, Int.reduceToNat, *])
    | (with_reducible refine And.intro ?_ ?_)
    | (refine sCallT_one (c_l33Lock m l v h h2) ?_; try simp -dsimp -implicitDefEqProofs only [go_sem, ↓reduceIte, Nat.reduceEqDiff, Nat.reduceLT, Nat.reduceAdd, Nat.reduceMul, Nat.reduceLeDiff, Nat.le_refl, Int.natCast_zero, Int.toNat_natCast, Int.reduceToNat, *])
    | (refine sCallX_one (c_l33Lock m l v h h2) ?_; try simp -dsimp -implicitDefEqProofs only [go_sem, ↓reduceIte, Nat.reduceEqDiff, Nat.reduceLT, Nat.reduceAdd, Nat.reduceMul, Nat.reduceLeDiff, Nat.le_refl, Int.natCast_zero, Int.toNat_natCast, Int.reduceToNat, *])
    | (refine Later.draw mixed rfl ?_; try simp -dsimp -implicitDefEqProofs only [go_sem, ↓reduceIte, Nat.reduceEqDiff, Nat.reduceLT, Nat.reduceAdd, Nat.reduceMul, Nat.reduceLeDiff, Nat.le_refl, Int.natCast_zero, Int.toNat_natCast, Int.reduceToNat, *])
    all_goals first
      | omega | (refine ⟨?_, ?_⟩ <;> omega) | (simp; done) | (simp; omega)
      | rfl
      | (simp_all [turnsNeeded]; done)
      | trace_state
  have hk2 : lkCode m l = 0 := by simp [lkCode, hb]
  have hn := isLk_len hb
  have hch : m.chambers = (l.length : Int) := hn.1.symm
  have hn6 := hn.2
  clear hn
  by_cases hv : (isIn v 1 6) = true
  rotate_left
  · have hk : lkV m l v = if isIn v 1 6 then 0 else 2 := by simp [lkV, hb]
    rcases hv1 : isIn v 1 6 with _ | _
    all_goals
      simp only [hv1] at hk hv
      simp -dsimp -implicitDefEqProofs only [go_sem, ↓reduceIte, Nat.reduceEqDiff, Nat.reduceLT, Nat.reduceAdd, Nat.reduceMul, Nat.reduceLeDiff, Nat.le_refl, Int.natCast_zero, Int.toNat_natCast, Int.reduceToNat]
      repeat' first
      | (refine Br.intro (fun _ => ?_) (fun _ => ?_) <;> try simp -dsimp -implicitDefEqProofs only [go_sem, ↓reduceIte, Nat.reduceEqDiff, Nat.reduceLT, Nat.reduceAdd, Nat.reduceMul, Nat.reduceLeDiff, Nat.le_refl, Int.natCast_zero, Int.toNat_natCast, Int.reduceToNat, *])
      | (with_reducible refine And.intro ?_ ?_)
      | (refine sCallT_one (c_l33Lock m l v h h2) ?_; try simp -dsimp -implicitDefEqProofs only [go_sem, ↓reduceIte, Nat.reduceEqDiff, Nat.reduceLT, Nat.reduceAdd, Nat.reduceMul, Nat.reduceLeDiff, Nat.le_refl, Int.natCast_zero, Int.toNat_natCast, Int.reduceToNat, *])
      | (refine sCallX_one (c_l33Lock m l v h h2) ?_; try simp -dsimp -implicitDefEqProofs only [go_sem, ↓reduceIte, Nat.reduceEqDiff, Nat.reduceLT, Nat.reduceAdd, Nat.reduceMul, Nat.reduceLeDiff, Nat.le_refl, Int.natCast_zero, Int.toNat_natCast, Int.reduceToNat, *])
      | (refine Later.draw mixed rfl ?_; try simp -dsimp -implicitDefEqProofs only [go_sem, ↓reduceIte, Nat.reduceEqDiff, Nat.reduceLT, Nat.reduceAdd, Nat.reduceMul, Nat.reduceLeDiff, Nat.le_refl, Int.natCast_zero, Int.toNat_natCast, Int.reduceToNat, *])
      all_goals first
        | omega | (refine ⟨?_, ?_⟩ <;> omega) | (simp; done) | (simp; omega)
        | rfl
        | (simp_all [turnsNeeded]; done)
        | trace_state
  have hv6 : 1 ≤ v ∧ v ≤ 6 := by simp [isIn] at hv; omega
  have hk : lkV m l v = 0 := by simp [lkV, hb, hv]
  simp -dsimp -implicitDefEqProofs only [go_sem, ↓reduceIte, Nat.reduceEqDiff, Nat.reduceLT, Nat.reduceAdd, Nat.reduceMul, Nat.reduceLeDiff, Nat.le_refl, Int.natCast_zero, Int.toNat_natCast, Int.reduceToNat]
  repeat' first
    | (refine Br.intro (fun _ => ?_) (fun _ => ?_) <;> try simp -dsimp -implicitDefEqProofs only [go_sem, ↓reduceIte, Nat.reduceEqDiff, Nat.reduceLT, Nat.reduceAdd, Nat.reduceMul, Nat.reduceLeDiff, Nat.le_refl, Int.natCast_zero, Int.toNat_natCast, Int.reduceToNat, *])
    | (with_reducible refine And.intro ?_ ?_)
    | (refine sCallT_one (c_l33Lock m l v h h2) ?_; try simp -dsimp -implicitDefEqProofs only [go_sem, ↓reduceIte, Nat.reduceEqDiff, Nat.reduceLT, Nat.reduceAdd, Nat.reduceMul, Nat.reduceLeDiff, Nat.le_refl, Int.natCast_zero, Int.toNat_natCast, Int.reduceToNat, *])
    | (refine Later.draw mixed rfl ?_; try simp -dsimp -implicitDefEqProofs only [go_sem, ↓reduceIte, Nat.reduceEqDiff, Nat.reduceLT, Nat.reduceAdd, Nat.reduceMul, Nat.reduceLeDiff, Nat.le_refl, Int.natCast_zero, Int.toNat_natCast, Int.reduceToNat, *])
  all_goals try (first | omega | (refine ⟨?_, ?_⟩ <;> omega) | rfl | (simp; done))
  refine Later.lpR [2, 4] [23, 24, 29] [20] (fun k => Turn l v k) (fun k => [(9, .ref 20 0 0 l.length), (10, eI (1 + (k : Int)))]) (fun k => [(20, .row 0 ⟨1, false⟩ true ((itF l v k).map eI))]) (fun k => 50 - k) 0 (Turn.zero l v) (.here ?_) rfl (fun k hT => ?_)
  · simp -dsimp -implicitDefEqProofs only [go_sem, ↓reduceIte, Nat.reduceEqDiff, Nat.reduceLT, Nat.reduceAdd, Nat.reduceMul, Nat.reduceLeDiff, Nat.le_refl, Int.natCast_zero, Int.toNat_natCast, Int.reduceToNat, itF_zero]
    try (simp; done)
  · have w := itF_way hb v k
    obtain ⟨w1, w2⟩ := way_bnd hb w
    have w0 := w.len
    have ht2 : ((itF l v k).map eI).take l.length = (itF l v k).map eI := List.take_of_length_le (by simp [w0])
    have hfl : (file l (itF l v k) v).length = l.length := by rw [file_len, w0]
    have hi1 := itF_succ l v k
    have h42 := hT.le hb
    simp -dsimp -implicitDefEqProofs only [pick_nil, pick_cons, look_nil, look_cons, dropB_nil, dropB_cons, inD_nil, inD_cons, inE_nil, inE_cons, or_t_l, or_f_l, Nat.reduceBEq, Nat.reduceDiv, Nat.reduceAdd, beq_self_eq_true, Bool.false_eq_true, Bool.or_false, ↓reduceIte, Nat.reduceEqDiff, List.cons_append, List.nil_append]
    simp -dsimp -implicitDefEqProofs only [go_sem, ↓reduceIte, Nat.reduceEqDiff, Nat.reduceLT, Nat.reduceAdd, Nat.reduceMul, Nat.reduceLeDiff, Nat.le_refl, Int.natCast_zero, Int.toNat_natCast, Int.reduceToNat, ht2]
    repeat' first
      | (refine Br.intro (fun _ => ?_) (fun _ => ?_) <;> try simp -dsimp -implicitDefEqProofs only [go_sem, ↓reduceIte, Nat.reduceEqDiff, Nat.reduceLT, Nat.reduceAdd, Nat.reduceMul, Nat.reduceLeDiff, Nat.le_refl, Int.natCast_zero, Int.toNat_natCast, Int.reduceToNat, *])
      | (with_reducible refine And.intro ?_ ?_)
      | (refine sCallT_one (c_l33Marks l (itF l v k) (by omega) (by omega) h2) ?_; try simp -dsimp -implicitDefEqProofs only [go_sem, ↓reduceIte, Nat.reduceEqDiff, Nat.reduceLT, Nat.reduceAdd, Nat.reduceMul, Nat.reduceLeDiff, Nat.le_refl, Int.natCast_zero, Int.toNat_natCast, Int.reduceToNat, *])
      | (refine sCallT_one (c_l33File l (itF l v k) v (by omega) (by omega) h2 hv6 w2) ?_; try simp -dsimp -implicitDefEqProofs only [go_sem, ↓reduceIte, Nat.reduceEqDiff, Nat.reduceLT, Nat.reduceAdd, Nat.reduceMul, Nat.reduceLeDiff, Nat.le_refl, Int.natCast_zero, Int.toNat_natCast, Int.reduceToNat, *])
    all_goals first
      | omega | (refine ⟨?_, ?_⟩ <;> omega) | (simp; done) | (simp; omega)
      | rfl
      | (have hne := of_decide_eq_true ‹decide (((marks l (itF l v k)).length : Int) > 0) = true›
         refine ⟨k + 1, hT.next hb hv6.1 (by omega), by omega, ?_⟩
         refine .one 30000 20 (by decide) (by decide) ?_; simp -dsimp -implicitDefEqProofs only [go_sem, ↓reduceIte, Nat.reduceEqDiff, Nat.reduceLT, Nat.reduceAdd, Nat.reduceMul, Nat.reduceLeDiff, Nat.le_refl, Int.natCast_zero, Int.toNat_natCast, Int.reduceToNat, hfl, hi1]; repeat' (with_reducible refine And.intro ?_ ?_)
         all_goals first | omega | rfl | (simp; done) | (simp only [Value.int.injEq, true_and]; omega))
      | (have hne := of_decide_eq_false ‹decide (((marks l (itF l v k)).length : Int) > 0) = false›
         have hd := hT.done hb (by omega)
         simp [turnsNeeded, hb, hv, hd]; done)
      | trace_state
theorem c_iTurnsNeeded (m : MkM) (l : List (List Int)) (v : Int) (h : l.length ≤ 1048576) (h2 : ∀ x ∈ l, x.length ≤ 1048576) : Fn Try.prog 22 [eMk m, eLk l, eI v] true (· = .tup [eI (turnsNeeded m l v).1, eI (turnsNeeded m l v).2]) := by
  refine Fn.of_vcN 36 [.tmp 6, .tmp 7] Try.func22 rfl rfl rfl rfl rfl (of_decide_eq_true rfl) ?_
  rcases hb : isLk m l with _ | _
  · have hk : lkV m l v = 1 := by simp [lkV, hb]
    have hk2 : lkCode m l = 1 := by simp [lkCode, hb]
    simp -dsimp -implicitDefEqProofs only [go_sem, ↓reduceIte, Nat.reduceEqDiff, Nat.reduceLT, Nat.reduceAdd, Nat.reduceMul, Nat.reduceLeDiff, Nat.le_refl, Int.natCast_zero, Int.toNat_natCast, Int.reduceToNat]
    repeat' first
    | (refine Br.intro (fun _ => ?_) (fun _ => ?_) <;> try simp -dsimp -implicitDefEqProofs only [go_sem, ↓reduceIte, Nat.reduceEqDiff, Nat.reduceLT, Nat.reduceAdd, Nat.reduceMul, Nat.reduceLeDiff, Nat.le_refl, Int.natCast_zero, Int.toNat_natCast, Int.reduceToNat, *])
    | (with_reducible refine And.intro ?_ ?_)
    | (refine sCallT_one (c_locksCode1 m l h h2) ?_; try simp -dsimp -implicitDefEqProofs only [go_sem, ↓reduceIte, Nat.reduceEqDiff, Nat.reduceLT, Nat.reduceAdd, Nat.reduceMul, Nat.reduceLeDiff, Nat.le_refl, Int.natCast_zero, Int.toNat_natCast, Int.reduceToNat, *])
    | (refine sCallT_one (c_within _ _ _) ?_; try simp -dsimp -implicitDefEqProofs only [go_sem, ↓reduceIte, Nat.reduceEqDiff, Nat.reduceLT, Nat.reduceAdd, Nat.reduceMul, Nat.reduceLeDiff, Nat.le_refl, Int.natCast_zero, Int.toNat_natCast, Int.reduceToNat, *])
    | (refine sCallX_one (c_locksCode1 m l h h2) ?_; try simp -dsimp -implicitDefEqProofs only [go_sem, ↓reduceIte, Nat.reduceEqDiff, Nat.reduceLT, Nat.reduceAdd, Nat.reduceMul, Nat.reduceLeDiff, Nat.le_refl, Int.natCast_zero, Int.toNat_natCast, Int.reduceToNat, *])
    | (refine sCallX_one (c_within _ _ _) ?_; try simp -dsimp -implicitDefEqProofs only [go_sem, ↓reduceIte, Nat.reduceEqDiff, Nat.reduceLT, Nat.reduceAdd, Nat.reduceMul, Nat.reduceLeDiff, Nat.le_refl, Int.natCast_zero, Int.toNat_natCast, Int.reduceToNat, *])
    | (refine Later.draw mixed rfl ?_; try simp -dsimp -implicitDefEqProofs only [go_sem, ↓reduceIte, Nat.reduceEqDiff, Nat.reduceLT, Nat.reduceAdd, Nat.reduceMul, Nat.reduceLeDiff, Nat.le_refl, Int.natCast_zero, Int.toNat_natCast, Int.reduceToNat, *])
    all_goals first
      | omega | (refine ⟨?_, ?_⟩ <;> omega) | (simp; done) | (simp; omega)
      | rfl
      | (simp_all [turnsNeeded]; done)
      | trace_state
  have hk2 : lkCode m l = 0 := by simp [lkCode, hb]
  have hn := isLk_len hb
  have hch : m.chambers = (l.length : Int) := hn.1.symm
  have hn6 := hn.2
  clear hn
  by_cases hv : (isIn v 1 6) = true
  rotate_left
  · have hk : lkV m l v = if isIn v 1 6 then 0 else 2 := by simp [lkV, hb]
    rcases hv1 : isIn v 1 6 with _ | _
    all_goals
      simp only [hv1] at hk hv
      simp -dsimp -implicitDefEqProofs only [go_sem, ↓reduceIte, Nat.reduceEqDiff, Nat.reduceLT, Nat.reduceAdd, Nat.reduceMul, Nat.reduceLeDiff, Nat.le_refl, Int.natCast_zero, Int.toNat_natCast, Int.reduceToNat]
      repeat' first
      | (refine Br.intro (fun _ => ?_) (fun _ => ?_) <;> try simp -dsimp -implicitDefEqProofs only [go_sem, ↓reduceIte, Nat.reduceEqDiff, Nat.reduceLT, Nat.reduceAdd, Nat.reduceMul, Nat.reduceLeDiff, Nat.le_refl, Int.natCast_zero, Int.toNat_natCast, Int.reduceToNat, *])
      | (with_reducible refine And.intro ?_ ?_)
      | (refine sCallT_one (c_locksCode1 m l h h2) ?_; try simp -dsimp -implicitDefEqProofs only [go_sem, ↓reduceIte, Nat.reduceEqDiff, Nat.reduceLT, Nat.reduceAdd, Nat.reduceMul, Nat.reduceLeDiff, Nat.le_refl, Int.natCast_zero, Int.toNat_natCast, Int.reduceToNat, *])
      | (refine sCallT_one (c_within _ _ _) ?_; try simp -dsimp -implicitDefEqProofs only [go_sem, ↓reduceIte, Nat.reduceEqDiff, Nat.reduceLT, Nat.reduceAdd, Nat.reduceMul, Nat.reduceLeDiff, Nat.le_refl, Int.natCast_zero, Int.toNat_natCast, Int.reduceToNat, *])
      | (refine sCallX_one (c_locksCode1 m l h h2) ?_; try simp -dsimp -implicitDefEqProofs only [go_sem, ↓reduceIte, Nat.reduceEqDiff, Nat.reduceLT, Nat.reduceAdd, Nat.reduceMul, Nat.reduceLeDiff, Nat.le_refl, Int.natCast_zero, Int.toNat_natCast, Int.reduceToNat, *])
      | (refine sCallX_one (c_within _ _ _) ?_; try simp -dsimp -implicitDefEqProofs only [go_sem, ↓reduceIte, Nat.reduceEqDiff, Nat.reduceLT, Nat.reduceAdd, Nat.reduceMul, Nat.reduceLeDiff, Nat.le_refl, Int.natCast_zero, Int.toNat_natCast, Int.reduceToNat, *])
      | (refine Later.draw mixed rfl ?_; try simp -dsimp -implicitDefEqProofs only [go_sem, ↓reduceIte, Nat.reduceEqDiff, Nat.reduceLT, Nat.reduceAdd, Nat.reduceMul, Nat.reduceLeDiff, Nat.le_refl, Int.natCast_zero, Int.toNat_natCast, Int.reduceToNat, *])
      all_goals first
        | omega | (refine ⟨?_, ?_⟩ <;> omega) | (simp; done) | (simp; omega)
        | rfl
        | (simp_all [turnsNeeded]; done)
        | trace_state
  have hv6 : 1 ≤ v ∧ v ≤ 6 := by simp [isIn] at hv; omega
  have hk : lkV m l v = 0 := by simp [lkV, hb, hv]
  simp -dsimp -implicitDefEqProofs only [go_sem, ↓reduceIte, Nat.reduceEqDiff, Nat.reduceLT, Nat.reduceAdd, Nat.reduceMul, Nat.reduceLeDiff, Nat.le_refl, Int.natCast_zero, Int.toNat_natCast, Int.reduceToNat]
  repeat' first
    | (refine Br.intro (fun _ => ?_) (fun _ => ?_) <;> try simp -dsimp -implicitDefEqProofs only [go_sem, ↓reduceIte, Nat.reduceEqDiff, Nat.reduceLT, Nat.reduceAdd, Nat.reduceMul, Nat.reduceLeDiff, Nat.le_refl, Int.natCast_zero, Int.toNat_natCast, Int.reduceToNat, *])
    | (with_reducible refine And.intro ?_ ?_)
    | (refine sCallT_one (c_locksCode1 m l h h2) ?_; try simp -dsimp -implicitDefEqProofs only [go_sem, ↓reduceIte, Nat.reduceEqDiff, Nat.reduceLT, Nat.reduceAdd, Nat.reduceMul, Nat.reduceLeDiff, Nat.le_refl, Int.natCast_zero, Int.toNat_natCast, Int.reduceToNat, *])
    | (refine sCallT_one (c_within _ _ _) ?_; try simp -dsimp -implicitDefEqProofs only [go_sem, ↓reduceIte, Nat.reduceEqDiff, Nat.reduceLT, Nat.reduceAdd, Nat.reduceMul, Nat.reduceLeDiff, Nat.le_refl, Int.natCast_zero, Int.toNat_natCast, Int.reduceToNat, *])
    | (refine Later.draw mixed rfl ?_; try simp -dsimp -implicitDefEqProofs only [go_sem, ↓reduceIte, Nat.reduceEqDiff, Nat.reduceLT, Nat.reduceAdd, Nat.reduceMul, Nat.reduceLeDiff, Nat.le_refl, Int.natCast_zero, Int.toNat_natCast, Int.reduceToNat, *])
  all_goals try (first | omega | (refine ⟨?_, ?_⟩ <;> omega) | rfl | (simp; done))
  refine Later.lpR [2, 4] [26, 27, 32] [23] (fun k => Turn l v k) (fun k => [(10, .ref 23 0 0 l.length), (9, eI (1 + (k : Int)))]) (fun k => [(23, .row 0 ⟨1, false⟩ true ((itF l v k).map eI))]) (fun k => 50 - k) 0 (Turn.zero l v) (.here ?_) rfl (fun k hT => ?_)
  · simp -dsimp -implicitDefEqProofs only [go_sem, ↓reduceIte, Nat.reduceEqDiff, Nat.reduceLT, Nat.reduceAdd, Nat.reduceMul, Nat.reduceLeDiff, Nat.le_refl, Int.natCast_zero, Int.toNat_natCast, Int.reduceToNat, itF_zero]
    try (simp; done)
  · have w := itF_way hb v k
    obtain ⟨w1, w2⟩ := way_bnd hb w
    have w0 := w.len
    have ht2 : ((itF l v k).map eI).take l.length = (itF l v k).map eI := List.take_of_length_le (by simp [w0])
    have hfl : (file l (itF l v k) v).length = l.length := by rw [file_len, w0]
    have hi1 := itF_succ l v k
    have h42 := hT.le hb
    simp -dsimp -implicitDefEqProofs only [pick_nil, pick_cons, look_nil, look_cons, dropB_nil, dropB_cons, inD_nil, inD_cons, inE_nil, inE_cons, or_t_l, or_f_l, Nat.reduceBEq, Nat.reduceDiv, Nat.reduceAdd, beq_self_eq_true, Bool.false_eq_true, Bool.or_false, ↓reduceIte, Nat.reduceEqDiff, List.cons_append, List.nil_append]
    simp -dsimp -implicitDefEqProofs only [go_sem, ↓reduceIte, Nat.reduceEqDiff, Nat.reduceLT, Nat.reduceAdd, Nat.reduceMul, Nat.reduceLeDiff, Nat.le_refl, Int.natCast_zero, Int.toNat_natCast, Int.reduceToNat, ht2]
    repeat' first
      | (refine Br.intro (fun _ => ?_) (fun _ => ?_) <;> try simp -dsimp -implicitDefEqProofs only [go_sem, ↓reduceIte, Nat.reduceEqDiff, Nat.reduceLT, Nat.reduceAdd, Nat.reduceMul, Nat.reduceLeDiff, Nat.le_refl, Int.natCast_zero, Int.toNat_natCast, Int.reduceToNat, *])
      | (with_reducible refine And.intro ?_ ?_)
      | (refine sCallT_one (c_marksOf l (itF l v k) (by omega) (by omega) h2) ?_; try simp -dsimp -implicitDefEqProofs only [go_sem, ↓reduceIte, Nat.reduceEqDiff, Nat.reduceLT, Nat.reduceAdd, Nat.reduceMul, Nat.reduceLeDiff, Nat.le_refl, Int.natCast_zero, Int.toNat_natCast, Int.reduceToNat, *])
      | (refine sCallT_one (c_file l (itF l v k) v (by omega) (by omega) h2 hv6 w2) ?_; try simp -dsimp -implicitDefEqProofs only [go_sem, ↓reduceIte, Nat.reduceEqDiff, Nat.reduceLT, Nat.reduceAdd, Nat.reduceMul, Nat.reduceLeDiff, Nat.le_refl, Int.natCast_zero, Int.toNat_natCast, Int.reduceToNat, *])
    all_goals first
      | omega | (refine ⟨?_, ?_⟩ <;> omega) | (simp; done) | (simp; omega)
      | rfl
      | (have hne := of_decide_eq_true ‹decide (((marks l (itF l v k)).length : Int) > 0) = true›
         refine ⟨k + 1, hT.next hb hv6.1 (by omega), by omega, ?_⟩
         refine .one 33000 23 (by decide) (by decide) ?_; simp -dsimp -implicitDefEqProofs only [go_sem, ↓reduceIte, Nat.reduceEqDiff, Nat.reduceLT, Nat.reduceAdd, Nat.reduceMul, Nat.reduceLeDiff, Nat.le_refl, Int.natCast_zero, Int.toNat_natCast, Int.reduceToNat, hfl, hi1]; repeat' (with_reducible refine And.intro ?_ ?_)
         all_goals first | omega | rfl | (simp; done) | (simp only [Value.int.injEq, true_and]; omega))
      | (have hne := of_decide_eq_false ‹decide (((marks l (itF l v k)).length : Int) > 0) = false›
         have hd := hT.done hb (by omega)
         simp [turnsNeeded, hb, hv, hd]; done)
      | trace_state
end Go.Vc

/-
  Draws of impressions.
-/
set_option linter.unusedVariables false
set_option linter.unusedSimpArgs false
set_option linter.unnecessarySimpa false
namespace Go.Vc
open Go.Proofs
set_option maxRecDepth 100000
set_option maxHeartbeats 4000000
def marksD2 (bs : List UInt8) (p : MkM × List (List Int) × Src) : MkM × List (List Int) × List Int :=
  if isLk p.1 p.2.1 then
    (if (nx bs 3 p.2.2).1 > 0 then
      (if (blankAfter p.1 p.2.1 (1 + (nx bs 3 (nx bs 3 p.2.2).2).1) (nx bs 6 (nx bs 3 (nx bs 3 p.2.2).2).2).1).2 = 0 then
        (p.1, p.2.1, (blankAfter p.1 p.2.1 (1 + (nx bs 3 (nx bs 3 p.2.2).2).1) (nx bs 6 (nx bs 3 (nx bs 3 p.2.2).2).2).1).1)
       else (p.1, p.2.1, (cutsD bs p.1 (nx bs 6 (nx bs 3 (nx bs 3 p.2.2).2).2).2).1))
     else (p.1, p.2.1, (cutsD bs p.1 (nx bs 3 p.2.2).2).1))
  else (p.1, p.2.1, (cutsD bs p.1 p.2.2).1)
def marksD (bs : List UInt8) (s : Src) : MkM × List (List Int) × List Int := marksD2 bs (lkD bs s)
theorem lkD_mk (bs : List UInt8) (s : Src) : (lkD bs s).1 = (mkD bs s).1 := by unfold lkD; split <;> rfl
theorem itF_len (l : List (List Int)) (v : Int) : ∀ k, (itF l v k).length = l.length
  | 0 => by simp [itF]
  | k + 1 => by rw [itF_succ, file_len, itF_len l v k]
theorem blankAfter_len (m : MkM) (l : List (List Int)) (v t : Int) : (blankAfter m l v t).1.length ≤ l.length := by
  unfold blankAfter
  split
  · split
    · rw [itF_len]; omega
    · simp
  · simp
theorem marksD_ok {bs : List UInt8} {s : Src} (h : SrcOk s) : MkB (marksD bs s).1 ∧ (marksD bs s).2.1.length ≤ 6 ∧ (∀ x ∈ (marksD bs s).2.1, x.length ≤ 8) ∧ (marksD bs s).2.2.length ≤ 8 := by
  obtain ⟨k1, k2, k3⟩ := lkD_ok (bs := bs) h
  have k4 := mkD_bnd bs h
  rw [← lkD_mk bs s] at k4
  unfold marksD
  generalize lkD bs s = p at *
  unfold marksD2
  have n1 := (nx_ok bs 3 k1).2.2.2
  have n2 := (nx_ok bs 3 n1).2.2.2
  have n3 := (nx_ok bs 6 n2).2.2.2
  split
  · split
    · split
      · have := blankAfter_len p.1 p.2.1 (1 + (nx bs 3 (nx bs 3 p.2.2).2).1) (nx bs 6 (nx bs 3 (nx bs 3 p.2.2).2).2).1
        exact ⟨k4, k2, k3, by dsimp only; omega⟩
      · exact ⟨k4, k2, k3, (cutsD_ok k4 n3).2⟩
    · exact ⟨k4, k2, k3, (cutsD_ok k4 n1).2⟩
  · exact ⟨k4, k2, k3, (cutsD_ok k4 k1).2⟩
theorem c_DrawMarksOf (bs : List UInt8) (hl : bs.length ≤ 4096) : Fn Try.prog 33 [eYs bs] false (· = .tup [eMk (marksD bs (src0 bs)).1, eLk (marksD bs (src0 bs)).2.1, eIs (marksD bs (src0 bs)).2.2]) := by
  refine Fn.of_vcS 46 [.cell 2 43, .cell 3 45, .tmp 4] Try.func33 rfl rfl rfl rfl rfl (of_decide_eq_true rfl) ?_
  simp -dsimp -implicitDefEqProofs only [go_sem, ↓reduceIte, Nat.reduceEqDiff, Nat.reduceLT, Nat.reduceAdd, Nat.reduceMul, Nat.reduceLeDiff, Nat.le_refl, Int.natCast_zero, Int.toNat_natCast, Int.reduceToNat]
  (refine sCallT_inl 900000 34 [.tmp 2] Try.func61 rfl rfl rfl rfl rfl (by exact of_decide_eq_true rfl) ?_; simp -dsimp -implicitDefEqProofs only [go_sem, ↓reduceIte, Nat.reduceEqDiff, Nat.reduceLT, Nat.reduceAdd, Nat.reduceMul, Nat.reduceLeDiff, Nat.le_refl, Int.natCast_zero, Int.toNat_natCast, Int.reduceToNat]; refine Later.up [0, 3] [10] [7] (min bs.length 64) (fun _ => True) (fun i => [(4, eI i)]) (fun i => [(7, srcB 0 bs ⟨seedAt bs i, 0⟩)]) trivial ?_ rfl (fun i hi _ => ?_) (fun _ => ?_))
  · simp -dsimp -implicitDefEqProofs only [go_sem, ↓reduceIte, Nat.reduceEqDiff, Nat.reduceLT, Nat.reduceAdd, Nat.reduceMul, Nat.reduceLeDiff, Nat.le_refl, Int.natCast_zero, Int.toNat_natCast, Int.reduceToNat]
    simp [seedAt]
  · ((have h1 : i < bs.length := by omega); (have h2 : i < 64 := by omega); (have hs := seedAt_ok bs i); (have hb := (bs[i]).toNat_lt); (have d1 := lt_len h1); (have d2 : decide ((i : Int) < 64) = true := decide_eq_true (by omega)); (have g1 := get_some h1); (have e1 := seedAt_succ h1); simp -dsimp -implicitDefEqProofs only [pick_nil, pick_cons, look_nil, look_cons, dropB_nil, dropB_cons, inD_nil, inD_cons, inE_nil, inE_cons, or_t_l, or_f_l, Nat.reduceBEq, Nat.reduceDiv, Nat.reduceAdd, beq_self_eq_true, Bool.false_eq_true, Bool.or_false, ↓reduceIte, Nat.reduceEqDiff, List.cons_append, List.nil_append]; rw [e1]; generalize bs[i] = b at *; generalize seedAt bs i = z at *; simp -dsimp -implicitDefEqProofs only [go_sem, ↓reduceIte, Nat.reduceEqDiff, Nat.reduceLT, Nat.reduceAdd, Nat.reduceMul, Nat.reduceLeDiff, Nat.le_refl, Int.natCast_zero, Int.toNat_natCast, Int.reduceToNat, d1, d2]; refine Later.draw mixed rfl ?_; simp -dsimp -implicitDefEqProofs only [go_sem, ↓reduceIte, Nat.reduceEqDiff, Nat.reduceLT, Nat.reduceAdd, Nat.reduceMul, Nat.reduceLeDiff, Nat.le_refl, Int.natCast_zero, Int.toNat_natCast, Int.reduceToNat, g1]; (repeat' (with_reducible refine And.intro ?_ ?_)); all_goals (first | omega | (refine ⟨?_, ?_⟩ <;> omega) | (exact rfl) | (simp; done) | trace_state))
  (have hs := src0_ok bs); (have hq : (⟨seedAt bs (min bs.length 64), 0⟩ : Src) = src0 bs := rfl); rw [hq]; clear hq; generalize src0 bs = s at *; (have d64 : decide (((64 : Nat) : Int) < 64) = false := rfl)
  obtain ⟨k1, k2, k3⟩ := lkD_ok (bs := bs) hs
  have k4 := mkD_bnd bs hs
  rw [← lkD_mk bs s] at k4
  have q1 := fun v => c_l04Draw v bs s hs hl
  unfold marksD
  generalize lkD bs s = p at *
  have q2 := c_sIsLock p.1 p.2.1 (by omega) (fun x hx => by have := k3 x hx; omega)
  have n1 := nx_ok bs 3 k1
  have q3 := fun v => c_l01Next v bs 3 _ k1 hl
  have q4 := fun v => c_l02DrawCuts v bs p.1 _ k4 k1 hl
  unfold marksD2
  generalize nx bs 3 p.2.2 = a at *
  have n2 := nx_ok bs 3 n1.2.2.2
  have q5 := fun v => c_l01Next v bs 3 _ n1.2.2.2 hl
  have q6 := fun v => c_l02DrawCuts v bs p.1 _ k4 n1.2.2.2 hl
  generalize nx bs 3 a.2 = b at *
  have n3 := nx_ok bs 6 n2.2.2.2
  have q7 := fun v => c_l01Next v bs 6 _ n2.2.2.2 hl
  generalize nx bs 6 b.2 = c at *
  have q8 := fun v => c_l02DrawCuts v bs p.1 _ k4 n3.2.2.2 hl
  have q9 := c_sBlankAfter p.1 p.2.1 (1 + b.1) c.1 (by omega) (fun x hx => by have := k3 x hx; omega)
  have n4 := n2.2.2.1 (by omega)
  have hbl := blankAfter_len p.1 p.2.1 (1 + b.1) c.1
  generalize blankAfter p.1 p.2.1 (1 + b.1) c.1 = d at *
  have hcl := (cutsD_ok (bs := bs) k4 k1).2
  have hcl2 := (cutsD_ok (bs := bs) k4 n1.2.2.2).2
  have hcl3 := (cutsD_ok (bs := bs) k4 n3.2.2.2).2
  generalize cutsD bs p.1 p.2.2 = e1 at *
  generalize cutsD bs p.1 a.2 = e2 at *
  generalize cutsD bs p.1 c.2 = e3 at *
  generalize isLk p.1 p.2.1 = lk at *
  rcases Nat.lt_or_ge 64 bs.length with h64 | h64
  case' inl => (rw [Nat.min_eq_right (Nat.le_of_lt h64)]; simp -dsimp -implicitDefEqProofs only [pick_nil, pick_cons, look_nil, look_cons, dropB_nil, dropB_cons, inD_nil, inD_cons, inE_nil, inE_cons, or_t_l, or_f_l, Nat.reduceBEq, Nat.reduceDiv, Nat.reduceAdd, beq_self_eq_true, Bool.false_eq_true, Bool.or_false, ↓reduceIte, Nat.reduceEqDiff, List.cons_append, List.nil_append]; simp -dsimp -implicitDefEqProofs only [go_sem, ↓reduceIte, Nat.reduceEqDiff, Nat.reduceLT, Nat.reduceAdd, Nat.reduceMul, Nat.reduceLeDiff, Nat.le_refl, Int.natCast_zero, Int.toNat_natCast, Int.reduceToNat, lt_len h64, d64])
  case' inr => (rw [Nat.min_eq_left h64]; simp -dsimp -implicitDefEqProofs only [pick_nil, pick_cons, look_nil, look_cons, dropB_nil, dropB_cons, inD_nil, inD_cons, inE_nil, inE_cons, or_t_l, or_f_l, Nat.reduceBEq, Nat.reduceDiv, Nat.reduceAdd, beq_self_eq_true, Bool.false_eq_true, Bool.or_false, ↓reduceIte, Nat.reduceEqDiff, List.cons_append, List.nil_append]; simp -dsimp -implicitDefEqProofs only [go_sem, ↓reduceIte, Nat.reduceEqDiff, Nat.reduceLT, Nat.reduceAdd, Nat.reduceMul, Nat.reduceLeDiff, Nat.le_refl, Int.natCast_zero, Int.toNat_natCast, Int.reduceToNat, nlt_len])
  all_goals
    (refine sCallT_ioR [900007] ?_; simp -dsimp -implicitDefEqProofs only [go_sem, ↓reduceIte, Nat.reduceEqDiff, Nat.reduceLT, Nat.reduceAdd, Nat.reduceMul, Nat.reduceLeDiff, Nat.le_refl, Int.natCast_zero, Int.toNat_natCast, Int.reduceToNat]; refine sCallMR_any (q1 _) ?_; rintro _ _ ⟨rfl, rfl⟩; simp -dsimp -implicitDefEqProofs only [go_sem, ↓reduceIte, Nat.reduceEqDiff, Nat.reduceLT, Nat.reduceAdd, Nat.reduceMul, Nat.reduceLeDiff, Nat.le_refl, Int.natCast_zero, Int.toNat_natCast, Int.reduceToNat]; (refine sCallT_one q2 ?_); simp -dsimp -implicitDefEqProofs only [go_sem, ↓reduceIte, Nat.reduceEqDiff, Nat.reduceLT, Nat.reduceAdd, Nat.reduceMul, Nat.reduceLeDiff, Nat.le_refl, Int.natCast_zero, Int.toNat_natCast, Int.reduceToNat])
    cases lk
    · rw [if_neg (by simp)]
      simp -dsimp -implicitDefEqProofs only [go_sem, ↓reduceIte, Nat.reduceEqDiff, Nat.reduceLT, Nat.reduceAdd, Nat.reduceMul, Nat.reduceLeDiff, Nat.le_refl, Int.natCast_zero, Int.toNat_natCast, Int.reduceToNat]
      refine Later.draw mixed rfl ?_
      simp -dsimp -implicitDefEqProofs only [go_sem, ↓reduceIte, Nat.reduceEqDiff, Nat.reduceLT, Nat.reduceAdd, Nat.reduceMul, Nat.reduceLeDiff, Nat.le_refl, Int.natCast_zero, Int.toNat_natCast, Int.reduceToNat]
      (refine sCallX_io [900007] rfl ?_; simp -dsimp -implicitDefEqProofs only [go_sem, ↓reduceIte, Nat.reduceEqDiff, Nat.reduceLT, Nat.reduceAdd, Nat.reduceMul, Nat.reduceLeDiff, Nat.le_refl, Int.natCast_zero, Int.toNat_natCast, Int.reduceToNat]; refine sCallMX_one (q4 _) ?_; simp -dsimp -implicitDefEqProofs only [go_sem, ↓reduceIte, Nat.reduceEqDiff, Nat.reduceLT, Nat.reduceAdd, Nat.reduceMul, Nat.reduceLeDiff, Nat.le_refl, Int.natCast_zero, Int.toNat_natCast, Int.reduceToNat])
      ((repeat' (with_reducible refine And.intro ?_ ?_)); all_goals try (first | omega | (refine ⟨?_, ?_⟩ <;> omega) | (exact rfl)))
    · rw [if_pos rfl]
      simp -dsimp -implicitDefEqProofs only [go_sem, ↓reduceIte, Nat.reduceEqDiff, Nat.reduceLT, Nat.reduceAdd, Nat.reduceMul, Nat.reduceLeDiff, Nat.le_refl, Int.natCast_zero, Int.toNat_natCast, Int.reduceToNat]
      (refine sCallT_io [900007] ?_; simp -dsimp -implicitDefEqProofs only [go_sem, ↓reduceIte, Nat.reduceEqDiff, Nat.reduceLT, Nat.reduceAdd, Nat.reduceMul, Nat.reduceLeDiff, Nat.le_refl, Int.natCast_zero, Int.toNat_natCast, Int.reduceToNat]; refine sCallM_one (q3 _) ?_; simp -dsimp -implicitDefEqProofs only [go_sem, ↓reduceIte, Nat.reduceEqDiff, Nat.reduceLT, Nat.reduceAdd, Nat.reduceMul, Nat.reduceLeDiff, Nat.le_refl, Int.natCast_zero, Int.toNat_natCast, Int.reduceToNat])
      rcases b0 : decide (a.1 > 0) with _ | _
      · rw [if_neg (of_decide_eq_false b0)]
        simp -dsimp -implicitDefEqProofs only [go_sem, ↓reduceIte, Nat.reduceEqDiff, Nat.reduceLT, Nat.reduceAdd, Nat.reduceMul, Nat.reduceLeDiff, Nat.le_refl, Int.natCast_zero, Int.toNat_natCast, Int.reduceToNat, b0]
        refine Later.draw mixed rfl ?_
        simp -dsimp -implicitDefEqProofs only [go_sem, ↓reduceIte, Nat.reduceEqDiff, Nat.reduceLT, Nat.reduceAdd, Nat.reduceMul, Nat.reduceLeDiff, Nat.le_refl, Int.natCast_zero, Int.toNat_natCast, Int.reduceToNat]
        (refine sCallX_io [900007] rfl ?_; simp -dsimp -implicitDefEqProofs only [go_sem, ↓reduceIte, Nat.reduceEqDiff, Nat.reduceLT, Nat.reduceAdd, Nat.reduceMul, Nat.reduceLeDiff, Nat.le_refl, Int.natCast_zero, Int.toNat_natCast, Int.reduceToNat]; refine sCallMX_one (q6 _) ?_; simp -dsimp -implicitDefEqProofs only [go_sem, ↓reduceIte, Nat.reduceEqDiff, Nat.reduceLT, Nat.reduceAdd, Nat.reduceMul, Nat.reduceLeDiff, Nat.le_refl, Int.natCast_zero, Int.toNat_natCast, Int.reduceToNat])
        ((repeat' (with_reducible refine And.intro ?_ ?_)); all_goals try (first | omega | (refine ⟨?_, ?_⟩ <;> omega) | (exact rfl)))
      · rw [if_pos (of_decide_eq_true b0)]
        simp -dsimp -implicitDefEqProofs only [go_sem, ↓reduceIte, Nat.reduceEqDiff, Nat.reduceLT, Nat.reduceAdd, Nat.reduceMul, Nat.reduceLeDiff, Nat.le_refl, Int.natCast_zero, Int.toNat_natCast, Int.reduceToNat, b0]
        refine Later.draw mixed rfl ?_
        simp -dsimp -implicitDefEqProofs only [go_sem, ↓reduceIte, Nat.reduceEqDiff, Nat.reduceLT, Nat.reduceAdd, Nat.reduceMul, Nat.reduceLeDiff, Nat.le_refl, Int.natCast_zero, Int.toNat_natCast, Int.reduceToNat]
        (refine sCallX_io [900007] rfl ?_; simp -dsimp -implicitDefEqProofs only [go_sem, ↓reduceIte, Nat.reduceEqDiff, Nat.reduceLT, Nat.reduceAdd, Nat.reduceMul, Nat.reduceLeDiff, Nat.le_refl, Int.natCast_zero, Int.toNat_natCast, Int.reduceToNat]; refine sCallMX_one (q5 _) ?_; simp -dsimp -implicitDefEqProofs only [go_sem, ↓reduceIte, Nat.reduceEqDiff, Nat.reduceLT, Nat.reduceAdd, Nat.reduceMul, Nat.reduceLeDiff, Nat.le_refl, Int.natCast_zero, Int.toNat_natCast, Int.reduceToNat])
        ((repeat' (with_reducible refine And.intro ?_ ?_)); all_goals try (first | omega | (refine ⟨?_, ?_⟩ <;> omega) | (exact rfl)))
        (refine sCallX_io [900007] rfl ?_; simp -dsimp -implicitDefEqProofs only [go_sem, ↓reduceIte, Nat.reduceEqDiff, Nat.reduceLT, Nat.reduceAdd, Nat.reduceMul, Nat.reduceLeDiff, Nat.le_refl, Int.natCast_zero, Int.toNat_natCast, Int.reduceToNat]; refine sCallMX_one (q7 _) ?_; simp -dsimp -implicitDefEqProofs only [go_sem, ↓reduceIte, Nat.reduceEqDiff, Nat.reduceLT, Nat.reduceAdd, Nat.reduceMul, Nat.reduceLeDiff, Nat.le_refl, Int.natCast_zero, Int.toNat_natCast, Int.reduceToNat])
        ((repeat' (with_reducible refine And.intro ?_ ?_)); all_goals try (first | omega | (refine ⟨?_, ?_⟩ <;> omega) | (exact rfl)))
        refine sCallX_one q9 ?_
        simp -dsimp -implicitDefEqProofs only [go_sem, ↓reduceIte, Nat.reduceEqDiff, Nat.reduceLT, Nat.reduceAdd, Nat.reduceMul, Nat.reduceLeDiff, Nat.le_refl, Int.natCast_zero, Int.toNat_natCast, Int.reduceToNat]
        refine ⟨by exact rfl, ?_⟩
        rcases b1 : (d.2 == 0) with _ | _
        · rw [if_neg (beq_eq_false_iff_ne.1 b1)]
          simp -dsimp -implicitDefEqProofs only [go_sem, ↓reduceIte, Nat.reduceEqDiff, Nat.reduceLT, Nat.reduceAdd, Nat.reduceMul, Nat.reduceLeDiff, Nat.le_refl, Int.natCast_zero, Int.toNat_natCast, Int.reduceToNat]
          refine Later.draw mixed rfl ?_
          simp -dsimp -implicitDefEqProofs only [go_sem, ↓reduceIte, Nat.reduceEqDiff, Nat.reduceLT, Nat.reduceAdd, Nat.reduceMul, Nat.reduceLeDiff, Nat.le_refl, Int.natCast_zero, Int.toNat_natCast, Int.reduceToNat]
          (refine sCallX_io [900007] rfl ?_; simp -dsimp -implicitDefEqProofs only [go_sem, ↓reduceIte, Nat.reduceEqDiff, Nat.reduceLT, Nat.reduceAdd, Nat.reduceMul, Nat.reduceLeDiff, Nat.le_refl, Int.natCast_zero, Int.toNat_natCast, Int.reduceToNat]; refine sCallMX_one (q8 _) ?_; simp -dsimp -implicitDefEqProofs only [go_sem, ↓reduceIte, Nat.reduceEqDiff, Nat.reduceLT, Nat.reduceAdd, Nat.reduceMul, Nat.reduceLeDiff, Nat.le_refl, Int.natCast_zero, Int.toNat_natCast, Int.reduceToNat])
          ((repeat' (with_reducible refine And.intro ?_ ?_)); all_goals try (first | omega | (refine ⟨?_, ?_⟩ <;> omega) | (exact rfl)))
        · rw [if_pos (beq_iff_eq.1 b1)]
          simp -dsimp -implicitDefEqProofs only [go_sem, ↓reduceIte, Nat.reduceEqDiff, Nat.reduceLT, Nat.reduceAdd, Nat.reduceMul, Nat.reduceLeDiff, Nat.le_refl, Int.natCast_zero, Int.toNat_natCast, Int.reduceToNat]
          refine Later.draw mixed rfl ?_
          simp -dsimp -implicitDefEqProofs only [go_sem, ↓reduceIte, Nat.reduceEqDiff, Nat.reduceLT, Nat.reduceAdd, Nat.reduceMul, Nat.reduceLeDiff, Nat.le_refl, Int.natCast_zero, Int.toNat_natCast, Int.reduceToNat]
          ((repeat' (with_reducible refine And.intro ?_ ?_)); all_goals try (first | omega | (refine ⟨?_, ?_⟩ <;> omega) | (exact rfl)))
theorem c_DrawFileOnce (bs : List UInt8) (hl : bs.length ≤ 4096) : Fn Try.prog 39 [eYs bs] false (· = .tup [eMk (marksD bs (src0 bs)).1, eLk (marksD bs (src0 bs)).2.1, eIs (marksD bs (src0 bs)).2.2, eI (visD bs (src0 bs)).1]) := by
  refine Fn.of_vcS 23 [.cell 2 43, .cell 3 45, .tmp 4, .tmp 5] Try.func39 rfl rfl rfl rfl rfl (of_decide_eq_true rfl) ?_
  have q1 := c_DrawMarksOf bs hl
  simp -dsimp -implicitDefEqProofs only [go_sem, ↓reduceIte, Nat.reduceEqDiff, Nat.reduceLT, Nat.reduceAdd, Nat.reduceMul, Nat.reduceLeDiff, Nat.le_refl, Int.natCast_zero, Int.toNat_natCast, Int.reduceToNat]
  (refine sCallT_inl 900000 34 [.tmp 2] Try.func61 rfl rfl rfl rfl rfl (by exact of_decide_eq_true rfl) ?_; simp -dsimp -implicitDefEqProofs only [go_sem, ↓reduceIte, Nat.reduceEqDiff, Nat.reduceLT, Nat.reduceAdd, Nat.reduceMul, Nat.reduceLeDiff, Nat.le_refl, Int.natCast_zero, Int.toNat_natCast, Int.reduceToNat]; refine Later.up [0, 3] [10] [7] (min bs.length 64) (fun _ => True) (fun i => [(4, eI i)]) (fun i => [(7, srcB 0 bs ⟨seedAt bs i, 0⟩)]) trivial ?_ rfl (fun i hi _ => ?_) (fun _ => ?_))
  · simp -dsimp -implicitDefEqProofs only [go_sem, ↓reduceIte, Nat.reduceEqDiff, Nat.reduceLT, Nat.reduceAdd, Nat.reduceMul, Nat.reduceLeDiff, Nat.le_refl, Int.natCast_zero, Int.toNat_natCast, Int.reduceToNat]
    simp [seedAt]
  · ((have h1 : i < bs.length := by omega); (have h2 : i < 64 := by omega); (have hs := seedAt_ok bs i); (have hb := (bs[i]).toNat_lt); (have d1 := lt_len h1); (have d2 : decide ((i : Int) < 64) = true := decide_eq_true (by omega)); (have g1 := get_some h1); (have e1 := seedAt_succ h1); simp -dsimp -implicitDefEqProofs only [pick_nil, pick_cons, look_nil, look_cons, dropB_nil, dropB_cons, inD_nil, inD_cons, inE_nil, inE_cons, or_t_l, or_f_l, Nat.reduceBEq, Nat.reduceDiv, Nat.reduceAdd, beq_self_eq_true, Bool.false_eq_true, Bool.or_false, ↓reduceIte, Nat.reduceEqDiff, List.cons_append, List.nil_append]; rw [e1]; generalize bs[i] = b at *; generalize seedAt bs i = z at *; simp -dsimp -implicitDefEqProofs only [go_sem, ↓reduceIte, Nat.reduceEqDiff, Nat.reduceLT, Nat.reduceAdd, Nat.reduceMul, Nat.reduceLeDiff, Nat.le_refl, Int.natCast_zero, Int.toNat_natCast, Int.reduceToNat, d1, d2]; refine Later.draw mixed rfl ?_; simp -dsimp -implicitDefEqProofs only [go_sem, ↓reduceIte, Nat.reduceEqDiff, Nat.reduceLT, Nat.reduceAdd, Nat.reduceMul, Nat.reduceLeDiff, Nat.le_refl, Int.natCast_zero, Int.toNat_natCast, Int.reduceToNat, g1]; (repeat' (with_reducible refine And.intro ?_ ?_)); all_goals (first | omega | (refine ⟨?_, ?_⟩ <;> omega) | (exact rfl) | (simp; done) | trace_state))
  (have hs := src0_ok bs); (have hq : (⟨seedAt bs (min bs.length 64), 0⟩ : Src) = src0 bs := rfl); rw [hq]; clear hq; generalize src0 bs = s at *; (have d64 : decide (((64 : Nat) : Int) < 64) = false := rfl)
  have q2 := fun v => c_l33DrawVisible v bs s hs hl
  generalize marksD bs s = p at *
  generalize visD bs s = n at *
  rcases Nat.lt_or_ge 64 bs.length with h64 | h64
  case' inl => (rw [Nat.min_eq_right (Nat.le_of_lt h64)]; simp -dsimp -implicitDefEqProofs only [pick_nil, pick_cons, look_nil, look_cons, dropB_nil, dropB_cons, inD_nil, inD_cons, inE_nil, inE_cons, or_t_l, or_f_l, Nat.reduceBEq, Nat.reduceDiv, Nat.reduceAdd, beq_self_eq_true, Bool.false_eq_true, Bool.or_false, ↓reduceIte, Nat.reduceEqDiff, List.cons_append, List.nil_append]; simp -dsimp -implicitDefEqProofs only [go_sem, ↓reduceIte, Nat.reduceEqDiff, Nat.reduceLT, Nat.reduceAdd, Nat.reduceMul, Nat.reduceLeDiff, Nat.le_refl, Int.natCast_zero, Int.toNat_natCast, Int.reduceToNat, lt_len h64, d64])
  case' inr => (rw [Nat.min_eq_left h64]; simp -dsimp -implicitDefEqProofs only [pick_nil, pick_cons, look_nil, look_cons, dropB_nil, dropB_cons, inD_nil, inD_cons, inE_nil, inE_cons, or_t_l, or_f_l, Nat.reduceBEq, Nat.reduceDiv, Nat.reduceAdd, beq_self_eq_true, Bool.false_eq_true, Bool.or_false, ↓reduceIte, Nat.reduceEqDiff, List.cons_append, List.nil_append]; simp -dsimp -implicitDefEqProofs only [go_sem, ↓reduceIte, Nat.reduceEqDiff, Nat.reduceLT, Nat.reduceAdd, Nat.reduceMul, Nat.reduceLeDiff, Nat.le_refl, Int.natCast_zero, Int.toNat_natCast, Int.reduceToNat, nlt_len])
  all_goals
    refine sCallS_one q1 (by simp [noLabs, labs, isClo]) ?_
    simp -dsimp -implicitDefEqProofs only [go_sem, ↓reduceIte, Nat.reduceEqDiff, Nat.reduceLT, Nat.reduceAdd, Nat.reduceMul, Nat.reduceLeDiff, Nat.le_refl, Int.natCast_zero, Int.toNat_natCast, Int.reduceToNat]
    refine Later.draw mixed rfl ?_
    simp -dsimp -implicitDefEqProofs only [go_sem, ↓reduceIte, Nat.reduceEqDiff, Nat.reduceLT, Nat.reduceAdd, Nat.reduceMul, Nat.reduceLeDiff, Nat.le_refl, Int.natCast_zero, Int.toNat_natCast, Int.reduceToNat]
    (refine sCallX_io [900007] rfl ?_; simp -dsimp -implicitDefEqProofs only [go_sem, ↓reduceIte, Nat.reduceEqDiff, Nat.reduceLT, Nat.reduceAdd, Nat.reduceMul, Nat.reduceLeDiff, Nat.le_refl, Int.natCast_zero, Int.toNat_natCast, Int.reduceToNat]; refine sCallMX_one (q2 _) ?_; simp -dsimp -implicitDefEqProofs only [go_sem, ↓reduceIte, Nat.reduceEqDiff, Nat.reduceLT, Nat.reduceAdd, Nat.reduceMul, Nat.reduceLeDiff, Nat.le_refl, Int.natCast_zero, Int.toNat_natCast, Int.reduceToNat])
    ((repeat' (with_reducible refine And.intro ?_ ?_)); all_goals try (first | omega | (refine ⟨?_, ?_⟩ <;> omega) | (exact rfl)))
theorem c_DrawTurnsNeeded (bs : List UInt8) (hl : bs.length ≤ 4096) : Fn Try.prog 21 [eYs bs] false (· = .tup [eMk (lkD bs (src0 bs)).1, eLk (lkD bs (src0 bs)).2.1, eI (visD bs (lkD bs (src0 bs)).2.2).1]) := by
  refine Fn.of_vcS 19 [.cell 2 43, .cell 3 45, .tmp 4] Try.func21 rfl rfl rfl rfl rfl (of_decide_eq_true rfl) ?_
  simp -dsimp -implicitDefEqProofs only [go_sem, ↓reduceIte, Nat.reduceEqDiff, Nat.reduceLT, Nat.reduceAdd, Nat.reduceMul, Nat.reduceLeDiff, Nat.le_refl, Int.natCast_zero, Int.toNat_natCast, Int.reduceToNat]
  (refine sCallT_inl 900000 34 [.tmp 2] Try.func61 rfl rfl rfl rfl rfl (by exact of_decide_eq_true rfl) ?_; simp -dsimp -implicitDefEqProofs only [go_sem, ↓reduceIte, Nat.reduceEqDiff, Nat.reduceLT, Nat.reduceAdd, Nat.reduceMul, Nat.reduceLeDiff, Nat.le_refl, Int.natCast_zero, Int.toNat_natCast, Int.reduceToNat]; refine Later.up [0, 3] [10] [7] (min bs.length 64) (fun _ => True) (fun i => [(4, eI i)]) (fun i => [(7, srcB 0 bs ⟨seedAt bs i, 0⟩)]) trivial ?_ rfl (fun i hi _ => ?_) (fun _ => ?_))
  · simp -dsimp -implicitDefEqProofs only [go_sem, ↓reduceIte, Nat.reduceEqDiff, Nat.reduceLT, Nat.reduceAdd, Nat.reduceMul, Nat.reduceLeDiff, Nat.le_refl, Int.natCast_zero, Int.toNat_natCast, Int.reduceToNat]
    simp [seedAt]
  · ((have h1 : i < bs.length := by omega); (have h2 : i < 64 := by omega); (have hs := seedAt_ok bs i); (have hb := (bs[i]).toNat_lt); (have d1 := lt_len h1); (have d2 : decide ((i : Int) < 64) = true := decide_eq_true (by omega)); (have g1 := get_some h1); (have e1 := seedAt_succ h1); simp -dsimp -implicitDefEqProofs only [pick_nil, pick_cons, look_nil, look_cons, dropB_nil, dropB_cons, inD_nil, inD_cons, inE_nil, inE_cons, or_t_l, or_f_l, Nat.reduceBEq, Nat.reduceDiv, Nat.reduceAdd, beq_self_eq_true, Bool.false_eq_true, Bool.or_false, ↓reduceIte, Nat.reduceEqDiff, List.cons_append, List.nil_append]; rw [e1]; generalize bs[i] = b at *; generalize seedAt bs i = z at *; simp -dsimp -implicitDefEqProofs only [go_sem, ↓reduceIte, Nat.reduceEqDiff, Nat.reduceLT, Nat.reduceAdd, Nat.reduceMul, Nat.reduceLeDiff, Nat.le_refl, Int.natCast_zero, Int.toNat_natCast, Int.reduceToNat, d1, d2]; refine Later.draw mixed rfl ?_; simp -dsimp -implicitDefEqProofs only [go_sem, ↓reduceIte, Nat.reduceEqDiff, Nat.reduceLT, Nat.reduceAdd, Nat.reduceMul, Nat.reduceLeDiff, Nat.le_refl, Int.natCast_zero, Int.toNat_natCast, Int.reduceToNat, g1]; (repeat' (with_reducible refine And.intro ?_ ?_)); all_goals (first | omega | (refine ⟨?_, ?_⟩ <;> omega) | (exact rfl) | (simp; done) | trace_state))
  (have hs := src0_ok bs); (have hq : (⟨seedAt bs (min bs.length 64), 0⟩ : Src) = src0 bs := rfl); rw [hq]; clear hq; generalize src0 bs = s at *; (have d64 : decide (((64 : Nat) : Int) < 64) = false := rfl)
  have k1 := (lkD_ok (bs := bs) hs).1
  have q1 := fun v => c_l04Draw v bs s hs hl
  generalize lkD bs s = p at *
  have q2 := fun v => c_l33DrawVisible v bs _ k1 hl
  generalize visD bs p.2.2 = n at *
  rcases Nat.lt_or_ge 64 bs.length with h64 | h64
  case' inl => (rw [Nat.min_eq_right (Nat.le_of_lt h64)]; simp -dsimp -implicitDefEqProofs only [pick_nil, pick_cons, look_nil, look_cons, dropB_nil, dropB_cons, inD_nil, inD_cons, inE_nil, inE_cons, or_t_l, or_f_l, Nat.reduceBEq, Nat.reduceDiv, Nat.reduceAdd, beq_self_eq_true, Bool.false_eq_true, Bool.or_false, ↓reduceIte, Nat.reduceEqDiff, List.cons_append, List.nil_append]; simp -dsimp -implicitDefEqProofs only [go_sem, ↓reduceIte, Nat.reduceEqDiff, Nat.reduceLT, Nat.reduceAdd, Nat.reduceMul, Nat.reduceLeDiff, Nat.le_refl, Int.natCast_zero, Int.toNat_natCast, Int.reduceToNat, lt_len h64, d64])
  case' inr => (rw [Nat.min_eq_left h64]; simp -dsimp -implicitDefEqProofs only [pick_nil, pick_cons, look_nil, look_cons, dropB_nil, dropB_cons, inD_nil, inD_cons, inE_nil, inE_cons, or_t_l, or_f_l, Nat.reduceBEq, Nat.reduceDiv, Nat.reduceAdd, beq_self_eq_true, Bool.false_eq_true, Bool.or_false, ↓reduceIte, Nat.reduceEqDiff, List.cons_append, List.nil_append]; simp -dsimp -implicitDefEqProofs only [go_sem, ↓reduceIte, Nat.reduceEqDiff, Nat.reduceLT, Nat.reduceAdd, Nat.reduceMul, Nat.reduceLeDiff, Nat.le_refl, Int.natCast_zero, Int.toNat_natCast, Int.reduceToNat, nlt_len])
  all_goals
    refine sCallT_ioR [900007] ?_
    simp -dsimp -implicitDefEqProofs only [go_sem, ↓reduceIte, Nat.reduceEqDiff, Nat.reduceLT, Nat.reduceAdd, Nat.reduceMul, Nat.reduceLeDiff, Nat.le_refl, Int.natCast_zero, Int.toNat_natCast, Int.reduceToNat]
    refine sCallMR_any (q1 _) ?_
    rintro _ _ ⟨rfl, rfl⟩
    simp -dsimp -implicitDefEqProofs only [go_sem, ↓reduceIte, Nat.reduceEqDiff, Nat.reduceLT, Nat.reduceAdd, Nat.reduceMul, Nat.reduceLeDiff, Nat.le_refl, Int.natCast_zero, Int.toNat_natCast, Int.reduceToNat]
    refine Later.draw mixed rfl ?_
    simp -dsimp -implicitDefEqProofs only [go_sem, ↓reduceIte, Nat.reduceEqDiff, Nat.reduceLT, Nat.reduceAdd, Nat.reduceMul, Nat.reduceLeDiff, Nat.le_refl, Int.natCast_zero, Int.toNat_natCast, Int.reduceToNat]
    (refine sCallX_io [900007] rfl ?_; simp -dsimp -implicitDefEqProofs only [go_sem, ↓reduceIte, Nat.reduceEqDiff, Nat.reduceLT, Nat.reduceAdd, Nat.reduceMul, Nat.reduceLeDiff, Nat.le_refl, Int.natCast_zero, Int.toNat_natCast, Int.reduceToNat]; refine sCallMX_one (q2 _) ?_; simp -dsimp -implicitDefEqProofs only [go_sem, ↓reduceIte, Nat.reduceEqDiff, Nat.reduceLT, Nat.reduceAdd, Nat.reduceMul, Nat.reduceLeDiff, Nat.le_refl, Int.natCast_zero, Int.toNat_natCast, Int.reduceToNat])
    ((repeat' (with_reducible refine And.intro ?_ ?_)); all_goals try (first | omega | (refine ⟨?_, ?_⟩ <;> omega) | (exact rfl)))
theorem c_DrawBlankAfter (bs : List UInt8) (hl : bs.length ≤ 4096) : Fn Try.prog 28 [eYs bs] false (· = .tup [eMk (lkD bs (src0 bs)).1, eLk (lkD bs (src0 bs)).2.1, eI (visD bs (lkD bs (src0 bs)).2.2).1, eI (pk bs [0, 1, 2, 3, 5, 9, 100, 101, -1] (visD bs (lkD bs (src0 bs)).2.2).2).1]) := by
  refine Fn.of_vcS 25 [.cell 2 43, .cell 3 45, .tmp 4, .tmp 5] Try.func28 rfl rfl rfl rfl rfl (of_decide_eq_true rfl) ?_
  simp -dsimp -implicitDefEqProofs only [go_sem, ↓reduceIte, Nat.reduceEqDiff, Nat.reduceLT, Nat.reduceAdd, Nat.reduceMul, Nat.reduceLeDiff, Nat.le_refl, Int.natCast_zero, Int.toNat_natCast, Int.reduceToNat]
  (refine sCallT_inl 900000 34 [.tmp 2] Try.func61 rfl rfl rfl rfl rfl (by exact of_decide_eq_true rfl) ?_; simp -dsimp -implicitDefEqProofs only [go_sem, ↓reduceIte, Nat.reduceEqDiff, Nat.reduceLT, Nat.reduceAdd, Nat.reduceMul, Nat.reduceLeDiff, Nat.le_refl, Int.natCast_zero, Int.toNat_natCast, Int.reduceToNat]; refine Later.up [0, 3] [10] [7] (min bs.length 64) (fun _ => True) (fun i => [(4, eI i)]) (fun i => [(7, srcB 0 bs ⟨seedAt bs i, 0⟩)]) trivial ?_ rfl (fun i hi _ => ?_) (fun _ => ?_))
  · simp -dsimp -implicitDefEqProofs only [go_sem, ↓reduceIte, Nat.reduceEqDiff, Nat.reduceLT, Nat.reduceAdd, Nat.reduceMul, Nat.reduceLeDiff, Nat.le_refl, Int.natCast_zero, Int.toNat_natCast, Int.reduceToNat]
    simp [seedAt]
  · ((have h1 : i < bs.length := by omega); (have h2 : i < 64 := by omega); (have hs := seedAt_ok bs i); (have hb := (bs[i]).toNat_lt); (have d1 := lt_len h1); (have d2 : decide ((i : Int) < 64) = true := decide_eq_true (by omega)); (have g1 := get_some h1); (have e1 := seedAt_succ h1); simp -dsimp -implicitDefEqProofs only [pick_nil, pick_cons, look_nil, look_cons, dropB_nil, dropB_cons, inD_nil, inD_cons, inE_nil, inE_cons, or_t_l, or_f_l, Nat.reduceBEq, Nat.reduceDiv, Nat.reduceAdd, beq_self_eq_true, Bool.false_eq_true, Bool.or_false, ↓reduceIte, Nat.reduceEqDiff, List.cons_append, List.nil_append]; rw [e1]; generalize bs[i] = b at *; generalize seedAt bs i = z at *; simp -dsimp -implicitDefEqProofs only [go_sem, ↓reduceIte, Nat.reduceEqDiff, Nat.reduceLT, Nat.reduceAdd, Nat.reduceMul, Nat.reduceLeDiff, Nat.le_refl, Int.natCast_zero, Int.toNat_natCast, Int.reduceToNat, d1, d2]; refine Later.draw mixed rfl ?_; simp -dsimp -implicitDefEqProofs only [go_sem, ↓reduceIte, Nat.reduceEqDiff, Nat.reduceLT, Nat.reduceAdd, Nat.reduceMul, Nat.reduceLeDiff, Nat.le_refl, Int.natCast_zero, Int.toNat_natCast, Int.reduceToNat, g1]; (repeat' (with_reducible refine And.intro ?_ ?_)); all_goals (first | omega | (refine ⟨?_, ?_⟩ <;> omega) | (exact rfl) | (simp; done) | trace_state))
  (have hs := src0_ok bs); (have hq : (⟨seedAt bs (min bs.length 64), 0⟩ : Src) = src0 bs := rfl); rw [hq]; clear hq; generalize src0 bs = s at *; (have d64 : decide (((64 : Nat) : Int) < 64) = false := rfl)
  have k1 := (lkD_ok (bs := bs) hs).1
  have q1 := fun v => c_l04Draw v bs s hs hl
  generalize lkD bs s = p at *
  have q2 := fun v => c_l33DrawVisible v bs _ k1 hl
  have k2 := (visD_ok bs k1).1
  generalize visD bs p.2.2 = n at *
  have q3 := fun v v2 => c_l01Pick v v2 true bs [0, 1, 2, 3, 5, 9, 100, 101, -1] _ n.2 rfl (by simp) (by simp) k2 hl
  generalize pk bs [0, 1, 2, 3, 5, 9, 100, 101, -1] n.2 = w at *
  rcases Nat.lt_or_ge 64 bs.length with h64 | h64
  case' inl => (rw [Nat.min_eq_right (Nat.le_of_lt h64)]; simp -dsimp -implicitDefEqProofs only [pick_nil, pick_cons, look_nil, look_cons, dropB_nil, dropB_cons, inD_nil, inD_cons, inE_nil, inE_cons, or_t_l, or_f_l, Nat.reduceBEq, Nat.reduceDiv, Nat.reduceAdd, beq_self_eq_true, Bool.false_eq_true, Bool.or_false, ↓reduceIte, Nat.reduceEqDiff, List.cons_append, List.nil_append]; simp -dsimp -implicitDefEqProofs only [go_sem, ↓reduceIte, Nat.reduceEqDiff, Nat.reduceLT, Nat.reduceAdd, Nat.reduceMul, Nat.reduceLeDiff, Nat.le_refl, Int.natCast_zero, Int.toNat_natCast, Int.reduceToNat, lt_len h64, d64])
  case' inr => (rw [Nat.min_eq_left h64]; simp -dsimp -implicitDefEqProofs only [pick_nil, pick_cons, look_nil, look_cons, dropB_nil, dropB_cons, inD_nil, inD_cons, inE_nil, inE_cons, or_t_l, or_f_l, Nat.reduceBEq, Nat.reduceDiv, Nat.reduceAdd, beq_self_eq_true, Bool.false_eq_true, Bool.or_false, ↓reduceIte, Nat.reduceEqDiff, List.cons_append, List.nil_append]; simp -dsimp -implicitDefEqProofs only [go_sem, ↓reduceIte, Nat.reduceEqDiff, Nat.reduceLT, Nat.reduceAdd, Nat.reduceMul, Nat.reduceLeDiff, Nat.le_refl, Int.natCast_zero, Int.toNat_natCast, Int.reduceToNat, nlt_len])
  all_goals
    refine sCallT_ioR [900007] ?_
    simp -dsimp -implicitDefEqProofs only [go_sem, ↓reduceIte, Nat.reduceEqDiff, Nat.reduceLT, Nat.reduceAdd, Nat.reduceMul, Nat.reduceLeDiff, Nat.le_refl, Int.natCast_zero, Int.toNat_natCast, Int.reduceToNat]
    refine sCallMR_any (q1 _) ?_
    rintro _ _ ⟨rfl, rfl⟩
    simp -dsimp -implicitDefEqProofs only [go_sem, ↓reduceIte, Nat.reduceEqDiff, Nat.reduceLT, Nat.reduceAdd, Nat.reduceMul, Nat.reduceLeDiff, Nat.le_refl, Int.natCast_zero, Int.toNat_natCast, Int.reduceToNat]
    (refine sCallT_io [900007] ?_; simp -dsimp -implicitDefEqProofs only [go_sem, ↓reduceIte, Nat.reduceEqDiff, Nat.reduceLT, Nat.reduceAdd, Nat.reduceMul, Nat.reduceLeDiff, Nat.le_refl, Int.natCast_zero, Int.toNat_natCast, Int.reduceToNat]; refine sCallM_one (q2 _) ?_; simp -dsimp -implicitDefEqProofs only [go_sem, ↓reduceIte, Nat.reduceEqDiff, Nat.reduceLT, Nat.reduceAdd, Nat.reduceMul, Nat.reduceLeDiff, Nat.le_refl, Int.natCast_zero, Int.toNat_natCast, Int.reduceToNat])
    refine Later.draw mixed rfl ?_
    simp -dsimp -implicitDefEqProofs only [go_sem, ↓reduceIte, Nat.reduceEqDiff, Nat.reduceLT, Nat.reduceAdd, Nat.reduceMul, Nat.reduceLeDiff, Nat.le_refl, Int.natCast_zero, Int.toNat_natCast, Int.reduceToNat]
    refine sCallX_io [900007, 23] rfl ?_
    simp -dsimp -implicitDefEqProofs only [go_sem, ↓reduceIte, Nat.reduceEqDiff, Nat.reduceLT, Nat.reduceAdd, Nat.reduceMul, Nat.reduceLeDiff, Nat.le_refl, Int.natCast_zero, Int.toNat_natCast, Int.reduceToNat]
    refine sCallMX_one (q3 _ _) ?_
    simp -dsimp -implicitDefEqProofs only [go_sem, ↓reduceIte, Nat.reduceEqDiff, Nat.reduceLT, Nat.reduceAdd, Nat.reduceMul, Nat.reduceLeDiff, Nat.le_refl, Int.natCast_zero, Int.toNat_natCast, Int.reduceToNat]
    ((repeat' (with_reducible refine And.intro ?_ ?_)); all_goals try (first | omega | (refine ⟨?_, ?_⟩ <;> omega) | (exact rfl)))
end Go.Vc

/-
  Impressions: plain facts on filing and turns.
-/
set_option linter.unusedVariables false
set_option linter.unusedSimpArgs false
set_option linter.unnecessarySimpa false
namespace Go.Vc
set_option maxRecDepth 100000
theorem mem_flt {p : Nat → Bool} {n : Nat} {x : Int} : x ∈ flt p n ↔ ∃ j : Nat, j < n ∧ x = j ∧ p j = true := by
  refine ⟨flt_mem, ?_⟩
  rintro ⟨j, h1, rfl, h2⟩
  rw [flt, List.mem_map]
  exact ⟨j, List.mem_filter.2 ⟨List.mem_range.2 h1, h2⟩, rfl⟩
theorem flt_length (p : Nat → Bool) (n : Nat) : (flt p n).length = (List.range n).countP p := by
  rw [flt, List.length_map, List.countP_eq_length_filter]
theorem countP_succ (p : Nat → Bool) (n : Nat) : (List.range (n + 1)).countP p = (List.range n).countP p + (if p n then 1 else 0) := by
  rw [List.range_succ, List.countP_append]; simp [List.countP_cons]
theorem mem_flt_take {p : Nat → Bool} {k j : Nat} : ∀ n, ((j : Int) ∈ (flt p n).take k ↔ j < n ∧ p j = true ∧ (List.range j).countP p < k)
  | 0 => by simp [flt_zero]
  | n + 1 => by
    have ih := mem_flt_take (p := p) (k := k) (j := j) n
    have hl := flt_length p n
    rw [flt_succ]
    by_cases hp : p n = true
    · rw [if_pos hp, List.take_append, List.mem_append, ih]
      by_cases e : j = n
      · subst e
        constructor
        · rintro (h | h)
          · exact absurd h.1 (Nat.lt_irrefl _)
          · refine ⟨Nat.lt_succ_self _, hp, ?_⟩
            rcases Nat.eq_zero_or_pos (k - (flt p j).length) with h0 | h0
            · rw [h0] at h; simp at h
            · omega
        · rintro ⟨_, _, h⟩
          refine .inr ?_
          obtain ⟨q, hq⟩ : ∃ q, k - (flt p j).length = q + 1 := ⟨k - (flt p j).length - 1, by omega⟩
          rw [hq]; simp
      · constructor
        · rintro (h | h)
          · exact ⟨by omega, h.2⟩
          · have := List.mem_of_mem_take h
            simp at this; omega
        · rintro ⟨h1, h2⟩
          exact .inl ⟨by omega, h2⟩
    · rw [if_neg hp, ih]
      constructor
      · rintro ⟨h1, h2⟩; exact ⟨by omega, h2⟩
      · rintro ⟨h1, h2⟩
        by_cases e : j = n
        · subst e; exact absurd h2.1 hp
        · exact ⟨by omega, h2⟩
theorem fileN_get {ms d : List Int} (hn : ms.Nodup) (hr : ∀ i (h : i < ms.length), 0 ≤ ms[i] ∧ ms[i] < d.length) : ∀ k, k ≤ ms.length → ∀ j : Nat, (fileN ms d k).getD j 0 = d.getD j 0 + if (j : Int) ∈ ms.take k then 1 else 0
  | 0, _, j => by rw [fileN_zero]; simp
  | k + 1, hk, j => by
    have ih := fileN_get hn hr k (by omega)
    have hk1 : k < ms.length := by omega
    have hlen := fileN_len ms d k
    have h1 := hr k hk1
    rw [fileN_succ _ _ _ hk1, List.take_succ_eq_append_getElem hk1]
    have hnm : ms[k] ∉ ms.take k := by
      intro hm
      obtain ⟨i, hi, e⟩ := List.getElem_of_mem hm
      rw [List.getElem_take] at e
      have := (List.getElem_inj hn).1 e
      simp at hi; omega
    by_cases e : ms[k].toNat = j
    · subst e
      have e2 : ((ms[k].toNat : Nat) : Int) = ms[k] := by omega
      rw [List.getD_eq_getElem?_getD, List.getElem?_set_self (by omega), Option.getD_some, ih, e2, if_neg hnm, if_pos (List.mem_append.2 (.inr (List.mem_singleton.2 rfl)))]
      omega
    · rw [List.getD_eq_getElem?_getD, List.getElem?_set_ne e, ← List.getD_eq_getElem?_getD, ih]
      have : ((j : Int) ∈ ms.take k ++ [ms[k]]) ↔ (j : Int) ∈ ms.take k := by
        rw [List.mem_append]
        constructor
        · rintro (h | h)
          · exact h
          · simp at h; omega
        · exact .inl
      simp only [this]
theorem take_seen (ms : List Int) (v : Int) : ms.take (seen ms v) = ms.take v.toNat := by
  unfold seen
  rcases Nat.le_total ms.length v.toNat with h | h
  · rw [Nat.min_eq_left h, List.take_length, List.take_of_length_le h]
  · rw [Nat.min_eq_right h]
/-- a chamber is filed -/
def filed (l : List (List Int)) (d : List Int) (v : Int) (j : Nat) : Prop := j < d.length ∧ marksAt l d j = true ∧ (List.range j).countP (marksAt l d) < v.toNat
theorem file_get (l : List (List Int)) (d : List Int) (v : Int) (j : Nat) [Decidable (filed l d v j)] : (file l d v).getD j 0 = d.getD j 0 + if filed l d v j then 1 else 0 := by
  have hr : ∀ i (h : i < (marks l d).length), 0 ≤ (marks l d)[i] ∧ (marks l d)[i] < d.length := marks_at l d
  rw [file, fileN_get (by rw [marks]; exact flt_nodup _ _) hr (seen (marks l d) v) (Nat.min_le_left _ _), take_seen]
  have : (j : Int) ∈ (marks l d).take v.toNat ↔ filed l d v j := mem_flt_take d.length
  simp only [this]
theorem countP_mem_le : ∀ (T : List Int) (n : Nat), ((List.range n).countP fun j : Nat => decide ((j : Int) ∈ T)) ≤ T.length
  | [], n => by
    have : (List.range n).countP (fun j : Nat => decide ((j : Int) ∈ ([] : List Int))) = 0 := List.countP_eq_zero.2 fun j _ => by simp
    rw [this]; exact Nat.le_refl _
  | x :: T, n => by
    have ih := countP_mem_le T
    have key : ∀ n, ((List.range n).countP fun j : Nat => decide ((j : Int) ∈ x :: T)) + (if (n : Int) ≤ x then 1 else 0) ≤ ((List.range n).countP fun j : Nat => decide ((j : Int) ∈ T)) + 1 := by
      intro n
      induction n with
      | zero => simp; split <;> omega
      | succ n ihn =>
        rw [countP_succ, countP_succ]
        generalize (List.range n).countP (fun j : Nat => decide ((j : Int) ∈ x :: T)) = A at *
        generalize (List.range n).countP (fun j : Nat => decide ((j : Int) ∈ T)) = B at *
        by_cases h1 : (n : Int) ∈ T
        · have h2 : (n : Int) ∈ x :: T := List.mem_cons_of_mem _ h1
          simp only [h1, h2, decide_true, if_true]
          split at ihn <;> split <;> omega
        · by_cases h2 : (n : Int) = x
          · have h3 : (n : Int) ∈ x :: T := by rw [h2]; exact List.mem_cons_self ..
            simp only [h1, h3, decide_true, decide_false, if_true]
            rw [if_pos (by omega)] at ihn
            rw [if_neg (by omega)]
            simp; omega
          · have h3 : (n : Int) ∉ x :: T := by simp [h1, h2]
            rw [decide_eq_false h1, decide_eq_false h3]
            simp only [Bool.false_eq_true, if_false, Nat.add_zero]
            by_cases h4 : (n : Int) ≤ x
            · rw [if_pos h4] at ihn
              rw [if_pos (by omega)]; omega
            · rw [if_neg h4] at ihn
              rw [if_neg (by omega)]; omega
    have := key n
    have := ih n
    simp only [List.length_cons]
    split at * <;> omega
/-- how many depths have changed among the first i -/
def chg (d z : List Int) (i : Nat) : Nat := (List.range i).countP fun j => d.getD j 0 != z.getD j 0
theorem chg_zero (d z : List Int) : chg d z 0 = 0 := rfl
theorem chg_succ (d z : List Int) (i : Nat) : chg d z (i + 1) = chg d z i + if (d.getD i 0 != z.getD i 0) = true then 1 else 0 := countP_succ _ _
theorem chg_le (d z : List Int) : ∀ i, chg d z i ≤ i := fun i => by
  have := List.countP_le_length (p := fun j => d.getD j 0 != z.getD j 0) (l := List.range i)
  simpa [chg] using this
theorem file_chg (l : List (List Int)) (d : List Int) (v : Int) (n : Nat) : chg (file l d v) d n ≤ v.toNat := by
  have e : ∀ j : Nat, ((file l d v).getD j 0 != d.getD j 0) = decide ((j : Int) ∈ (marks l d).take v.toNat) := by
    intro j
    have hr : ∀ i (h : i < (marks l d).length), 0 ≤ (marks l d)[i] ∧ (marks l d)[i] < d.length := marks_at l d
    rw [file, fileN_get (by rw [marks]; exact flt_nodup _ _) hr (seen (marks l d) v) (Nat.min_le_left _ _), take_seen]
    by_cases h : (j : Int) ∈ (marks l d).take v.toNat
    · simp [h]; omega
    · simp [h]
  unfold chg
  have : (List.range n).countP (fun j => (file l d v).getD j 0 != d.getD j 0) = (List.range n).countP (fun j : Nat => decide ((j : Int) ∈ (marks l d).take v.toNat)) := by
    congr 1
    funext j
    exact e j
  rw [this]
  refine Nat.le_trans (countP_mem_le _ n) ?_
  rw [List.length_take]; omega
theorem file_step (l : List (List Int)) (d : List Int) (v : Int) (j : Nat) : d.getD j 0 ≤ (file l d v).getD j 0 ∧ (file l d v).getD j 0 ≤ d.getD j 0 + 1 := by
  have : Decidable (filed l d v j) := Classical.propDecidable _
  rw [file_get]
  split <;> omega
theorem has_mem (xs : List Int) (x : Int) : has xs x = true ↔ x ∈ xs := by
  simp [has]
/- ---- blanks -/
theorem blank_get {l : List (List Int)} {j : Nat} (h : j < l.length) : (blank l).getD j 0 = l[j].getD 0 0 := by
  simp [blank, List.getD_eq_getElem?_getD, h]
theorem has_false {xs : List Int} {x : Int} (h : ∀ y ∈ xs, y ≠ x) : has xs x = false := by
  rw [has, Bool.not_eq_false', List.all_eq_true]
  intro y hy
  simpa using h y hy
theorem way_mark {m : MkM} {l : List (List Int)} {d : List Int} (hl : isLk m l = true) (w : Way l d) {j : Nat} (h : j < d.length) : marksAt l d j = decide (d.getD j 0 < (blank l).getD j 0) := by
  have hj : j < l.length := by rw [← w.len]; exact h
  obtain ⟨h1, h2⟩ := isLk_set hl hj
  have hb := w.bnd j h
  have e1 : d.getD j 0 = d[j] := by simp [List.getD_eq_getElem?_getD, h]
  have e2 : l.getD j [] = l[j] := by simp [List.getD_eq_getElem?_getD, hj]
  unfold marksAt
  rw [e1, e2]
  by_cases hlt : d[j] < (blank l).getD j 0
  · rw [decide_eq_true hlt, has_false]
    · rfl
    intro y hy
    obtain ⟨i, hi, rfl⟩ := List.getElem_of_mem hy
    have key : ∀ i (hi : i < l[j].length), l[j].getD 0 0 ≤ l[j][i] := by
      intro i
      induction i with
      | zero => intro hi; simp [List.getD_eq_getElem?_getD, hi]
      | succ i ih =>
        intro hi
        have := ih (by omega)
        have h3 := (rises_at h2 hi).2.2 (by omega)
        have e3 : l[j].getD (i + 1 - 1) 0 = l[j][i]'(by omega) := by simp [List.getD_eq_getElem?_getD, show i < l[j].length by omega]
        rw [e3] at h3
        omega
    have := key i hi
    rw [blank_get hj] at hlt
    omega
  · have e3 : d[j] = l[j].getD 0 0 := by rw [← blank_get hj]; omega
    rw [decide_eq_false hlt, e3, has_self h1]
    rfl
theorem way_done {m : MkM} {l : List (List Int)} {d : List Int} (hl : isLk m l = true) (w : Way l d) (h : (marks l d).length = 0) : d = blank l := by
  have hbl : (blank l).length = l.length := by simp [blank]
  refine List.ext_getElem (by rw [w.len, hbl]) fun j h1 h2 => ?_
  have hm := way_mark hl w h1
  have hb := w.bnd j h1
  have e1 : d.getD j 0 = d[j] := by simp [List.getD_eq_getElem?_getD, h1]
  have e2 : (blank l).getD j 0 = (blank l)[j] := by simp [List.getD_eq_getElem?_getD, h2]
  have hno : ¬ marksAt l d j = true := by
    intro ht
    have : (j : Int) ∈ marks l d := mem_flt.2 ⟨j, h1, rfl, ht⟩
    rw [List.eq_nil_of_length_eq_zero h] at this
    cases this
  rw [hm] at hno
  simp only [decide_eq_true_eq] at hno
  omega
theorem way_blank {m : MkM} {l : List (List Int)} (hl : isLk m l = true) : Way l (blank l) := by
  refine ⟨by simp [blank], fun c hc => ?_⟩
  have hc2 : c < l.length := by simpa [blank] using hc
  have e : (blank l)[c] = (blank l).getD c 0 := by simp [List.getD_eq_getElem?_getD, hc]
  have h2 := isLk_set hl hc2
  have h3 := rises_at h2.2 (j := 0) h2.1
  rw [e]
  refine ⟨?_, Int.le_refl _⟩
  rw [blank_get hc2]
  have : l[c].getD 0 0 = l[c][0] := by simp [List.getD_eq_getElem?_getD, h2.1]
  omega
theorem marks_blank {m : MkM} {l : List (List Int)} (hl : isLk m l = true) : marks l (blank l) = [] := by
  refine List.eq_nil_iff_forall_not_mem.2 fun x hx => ?_
  obtain ⟨j, h1, _, h2⟩ := flt_mem hx
  rw [way_mark hl (way_blank hl) h1] at h2
  simp at h2
theorem file_none {l : List (List Int)} {d : List Int} (h : marks l d = []) (v : Int) : file l d v = d := by
  rw [file, h]
  have : seen [] v = 0 := by simp [seen]
  rw [this, fileN_zero]
theorem turn_ex {m : MkM} {l : List (List Int)} (hl : isLk m l = true) {v : Int} (hv : 1 ≤ v) : ∃ k, Turn l v k ∧ (marks l (itF l v k)).length = 0 := by
  have key : ∀ n k, 43 - k ≤ n → Turn l v k → ∃ k, Turn l v k ∧ (marks l (itF l v k)).length = 0 := by
    intro n
    induction n with
    | zero => intro k hk t; have := t.le hl; omega
    | succ n ih =>
      intro k hk t
      by_cases h : (marks l (itF l v k)).length = 0
      · exact ⟨k, t, h⟩
      · exact ih (k + 1) (by omega) (t.next hl hv h)
  exact key 43 0 (by omega) (Turn.zero l v)
theorem turns_out {m : MkM} {l : List (List Int)} (hl : isLk m l = true) {v : Int} (hv : 1 ≤ v) : itF l v (turnsOf l v) = blank l ∧ turnsOf l v ≤ 42 ∧ (turnsOf l v : Int) ≤ (blank l).sum := by
  obtain ⟨k, t, hk⟩ := turn_ex hl hv
  have e := t.done hl hk
  have h1 := way_done hl (itF_way hl v k) hk
  have h2 := t.le hl
  have h3 := t.sum
  rw [e]
  exact ⟨h1, h2, h1 ▸ h3⟩
theorem tk_le {l : List (List Int)} {v : Int} {k : Nat} (h : (marks l (itF l v k)).length = 0) : ∀ f j, j ≤ k → k < j + f → tk l v f j ≤ k
  | 0, j, h1, h2 => by omega
  | f + 1, j, h1, h2 => by
    rw [tk]
    split
    · exact h1
    · rename_i hn
      by_cases e : j = k
      · subst e; exact absurd h hn
      · exact tk_le h f (j + 1) (by omega) (by omega)
theorem itF_mono {m : MkM} {l : List (List Int)} (hl : isLk m l = true) (v : Int) (hv : 1 ≤ v) : ∀ k j, (itF l v k).getD j 0 ≤ (itF l (v + 1) k).getD j 0
  | 0, j => by simp [itF]
  | k + 1, j => by
    have ih := itF_mono hl v hv k
    rw [itF_succ, itF_succ]
    have wa := itF_way hl v k
    have wb := itF_way hl (v + 1) k
    generalize itF l v k = a at *
    generalize itF l (v + 1) k = b at *
    have hjj := ih j
    have : Decidable (filed l a v j) := Classical.propDecidable _
    have : Decidable (filed l b (v + 1) j) := Classical.propDecidable _
    rw [file_get, file_get]
    by_cases hlt : a.getD j 0 < b.getD j 0
    · split <;> split <;> omega
    · have he : a.getD j 0 = b.getD j 0 := by omega
      by_cases hf : filed l a v j
      · obtain ⟨f1, f2, f3⟩ := hf
        have hjb : j < b.length := by rw [wb.len, ← wa.len]; exact f1
        have hfb : filed l b (v + 1) j := by
          refine ⟨hjb, ?_, ?_⟩
          · rw [way_mark hl wb hjb]
            rw [way_mark hl wa f1] at f2
            rw [← he]; exact f2
          · have : (List.range j).countP (marksAt l b) ≤ (List.range j).countP (marksAt l a) := by
              refine List.countP_mono_left fun i hi hb => ?_
              have hi := List.mem_range.1 hi
              rw [way_mark hl wb (by omega)] at hb
              rw [way_mark hl wa (by omega)]
              have := ih i
              simp only [decide_eq_true_eq] at hb ⊢
              omega
            omega
        rw [if_pos ⟨f1, f2, f3⟩, if_pos hfb]; omega
      · rw [if_neg hf]
        split <;> omega
theorem turns_mono {m : MkM} {l : List (List Int)} (hl : isLk m l = true) {v : Int} (hv : 1 ≤ v) : turnsOf l (v + 1) ≤ turnsOf l v := by
  obtain ⟨h1, h2, _⟩ := turns_out hl hv
  have hm := itF_mono hl v hv (turnsOf l v)
  rw [h1] at hm
  have w := itF_way hl (v + 1) (turnsOf l v)
  have e : turnsOf l (v + 1) = tk l (v + 1) 60 0 := by rw [turnsOf]
  rw [e]
  refine tk_le (k := turnsOf l v) ?_ 60 0 (by omega) (by omega)
  have : marks l (itF l (v + 1) (turnsOf l v)) = [] := by
    refine List.eq_nil_iff_forall_not_mem.2 fun x hx => ?_
    obtain ⟨j, q1, _, q2⟩ := flt_mem hx
    rw [way_mark hl w q1] at q2
    have := hm j
    simp only [decide_eq_true_eq] at q2
    omega
  rw [this]; rfl
theorem blank_cuts {m : MkM} {l : List (List Int)} (hl : isLk m l = true) : isCuts m (blank l) = true := by
  have h1 := isLk_len hl
  have hd := isLk_dep hl
  simp only [isCuts, Bool.and_eq_true, beq_iff_eq, List.all_eq_true]
  refine ⟨by rw [show (blank l).length = l.length by simp [blank]]; exact h1.1, fun x hx => ?_⟩
  simp only [blank, List.mem_map] at hx
  obtain ⟨s, hs, rfl⟩ := hx
  obtain ⟨i, hi, rfl⟩ := List.getElem_of_mem hs
  obtain ⟨h2, h3⟩ := isLk_set hl hi
  have := rises_at h3 (j := 0) h2
  have e : l[i].getD 0 0 = l[i][0] := by simp [List.getD_eq_getElem?_getD, h2]
  rw [e]
  simp [isIn]; omega
theorem spoilt_mark {m : MkM} {l : List (List Int)} {d : List Int} (hl : isLk m l = true) {j : Nat} (h : j < l.length) (hs : spoiltAt l d j = true) : marksAt l d j = true := by
  obtain ⟨h1, h2⟩ := isLk_set hl h
  have e2 : l.getD j [] = l[j] := by simp [List.getD_eq_getElem?_getD, h]
  simp only [spoiltAt, e2, decide_eq_true_eq] at hs
  unfold marksAt
  rw [e2]
  rw [has_false]
  · rfl
  intro y hy
  obtain ⟨i, hi, rfl⟩ := List.getElem_of_mem hy
  have key : ∀ q i (hi : i + q < l[j].length), l[j][i] ≤ l[j][i + q] := by
    intro q
    induction q with
    | zero => intro i hi; exact Int.le_refl _
    | succ q ih =>
      intro i hi
      have := ih i (by omega)
      have h3 := (rises_at h2 (j := i + q + 1) (by omega)).2.2 (by omega)
      have e3 : l[j].getD (i + q + 1 - 1) 0 = l[j][i + q]'(by omega) := by simp [List.getD_eq_getElem?_getD, show i + q < l[j].length by omega]
      rw [e3] at h3
      have e4 : l[j][i + (q + 1)] = l[j][i + q + 1]'(by omega) := rfl
      omega
  have h5 := key (l[j].length - 1 - i) i (by omega)
  have e5 : l[j].getD (l[j].length - 1) 0 = l[j][i + (l[j].length - 1 - i)]'(by omega) := by
    rw [List.getD_eq_getElem?_getD, List.getElem?_eq_getElem (by omega)]
    simp only [Option.getD_some]
    congr 1; omega
  rw [e5] at hs
  omega
end Go.Vc

/-
  Contracts of the helpers of laws that draw: lists alike, elements.
-/
set_option linter.unusedVariables false
set_option linter.unusedSimpArgs false
set_option linter.unnecessarySimpa false
namespace Go.Vc
open Go.Proofs
set_option maxRecDepth 100000
theorem c_likeIntsE (xs : List Int) (h : xs.length ≤ 9223372036854775807) : Fn Try.prog 15 [eIs xs, eIs xs] true (· = eB true) := by
  have := c_likeInts xs xs h
  simpa using this
theorem zeroNe : ((0 : Int) != 0) = false := rfl
theorem bTF : (true == false) = false := rfl
theorem bFT : (false == true) = false := rfl
theorem zeroEq : ((0 : Int) == 0) = true := rfl
theorem c_hasInt (xs : List Int) (x : Int) (h : xs.length ≤ 1048576) : Fn Try.prog 18 [eIs xs, eI x] true (· = eB (has xs x)) := by
  refine Fn.of_vcN 18 [.tmp 4] Try.func18 rfl rfl rfl rfl rfl (of_decide_eq_true rfl) ?_
  simp -dsimp -implicitDefEqProofs only [go_sem, ↓reduceIte, Nat.reduceEqDiff, Nat.reduceLT, Nat.reduceAdd, Nat.reduceMul, Nat.reduceLeDiff, Nat.le_refl, Int.natCast_zero, Int.toNat_natCast, Int.reduceToNat]
  refine Later.up [0, 1] [8] [] xs.length (fun i => (xs.take i).all (fun y => !(y == x))) (fun i => [(5, eI i)]) (fun _ => []) (by simp) ?_ rfl (fun i hi hI => ?_) (fun hI => ?_)
  · simp -dsimp -implicitDefEqProofs only [go_sem, ↓reduceIte, Nat.reduceEqDiff, Nat.reduceLT, Nat.reduceAdd, Nat.reduceMul, Nat.reduceLeDiff, Nat.le_refl, Int.natCast_zero, Int.toNat_natCast, Int.reduceToNat]
  · simp -dsimp -implicitDefEqProofs only [pick_nil, pick_cons, look_nil, look_cons, dropB_nil, dropB_cons, inD_nil, inD_cons, inE_nil, inE_cons, or_t_l, or_f_l, Nat.reduceBEq, Nat.reduceDiv, Nat.reduceAdd, beq_self_eq_true, Bool.false_eq_true, Bool.or_false, ↓reduceIte, Nat.reduceEqDiff, List.cons_append, List.nil_append]
    have gi := get_some hi
    have li := lt_len hi
    have no : (!(xs[i] == x)) = false → (xs.all fun y => !(y == x)) = false := fun h => by simp [has, all_no (p := fun y => !(y == x)) hi h]
    have yes : (!(xs[i] == x)) = true → ((xs.take (i + 1)).all (fun y => !(y == x))) = true := fun h => by rw [all_take _ _ _ hi, hI]; simpa using h
    simp -dsimp -implicitDefEqProofs only [go_sem, ↓reduceIte, Nat.reduceEqDiff, Nat.reduceLT, Nat.reduceAdd, Nat.reduceMul, Nat.reduceLeDiff, Nat.le_refl, Int.natCast_zero, Int.toNat_natCast, Int.reduceToNat, li, gi]
    repeat' first
      | (refine Br.intro (fun _ => ?_) (fun _ => ?_) <;> try simp -dsimp -implicitDefEqProofs only [go_sem, ↓reduceIte, Nat.reduceEqDiff, Nat.reduceLT, Nat.reduceAdd, Nat.reduceMul, Nat.reduceLeDiff, Nat.le_refl, Int.natCast_zero, Int.toNat_natCast, Int.reduceToNat, *])
      | (with_reducible refine And.intro ?_ ?_)
      | (refine Later.draw mixed rfl ?_; try simp -dsimp -implicitDefEqProofs only [go_sem, ↓reduceIte, Nat.reduceEqDiff, Nat.reduceLT, Nat.reduceAdd, Nat.reduceMul, Nat.reduceLeDiff, Nat.le_refl, Int.natCast_zero, Int.toNat_natCast, Int.reduceToNat, *])
    all_goals first
      | omega
      | (refine ⟨?_, ?_⟩ <;> omega)
      | (simp; done)
      | rfl
      | (rw [has, no (by rw [‹(xs[i] == x) = true›]; rfl)]; rfl) | (refine yes ?_; clear no yes; simp_all; done)
      | trace_state
  · simp -dsimp -implicitDefEqProofs only [pick_nil, pick_cons, look_nil, look_cons, dropB_nil, dropB_cons, inD_nil, inD_cons, inE_nil, inE_cons, or_t_l, or_f_l, Nat.reduceBEq, Nat.reduceDiv, Nat.reduceAdd, beq_self_eq_true, Bool.false_eq_true, Bool.or_false, ↓reduceIte, Nat.reduceEqDiff, List.cons_append, List.nil_append]
    simp -dsimp -implicitDefEqProofs only [go_sem, ↓reduceIte, Nat.reduceEqDiff, Nat.reduceLT, Nat.reduceAdd, Nat.reduceMul, Nat.reduceLeDiff, Nat.le_refl, Int.natCast_zero, Int.toNat_natCast, Int.reduceToNat, nlt_len]
    rw [List.take_length] at hI
    first
      | (simp_all [has]; done)
      | trace_state
end Go.Vc

/-
  The contracts of the laws on impressions that are drawn.
-/
set_option linter.unusedVariables false
set_option linter.unusedSimpArgs false
set_option linter.unnecessarySimpa false
namespace Go.Vc
open Go.Proofs
set_option maxRecDepth 100000
set_option maxHeartbeats 8000000 in
theorem c_FnImpressions (bs : List UInt8) (h : bs.length ≤ 9223372036854775807) : Fn Try.prog 4 [eYs bs] true (· = eB true) := by
  refine Fn.of_vcN 203 [.tmp 2] Try.func4 rfl rfl rfl rfl rfl (of_decide_eq_true rfl) ?_
  simp -dsimp -implicitDefEqProofs only [go_sem, ↓reduceIte, Nat.reduceEqDiff, Nat.reduceLT, Nat.reduceAdd, Nat.reduceMul, Nat.reduceLeDiff, Nat.le_refl, Int.natCast_zero, Int.toNat_natCast, Int.reduceToNat]
  refine sCallT_one (c_big bs h) ?_
  rcases hb : decide ((bs.length : Int) > 4096) with _ | _
  rotate_left
  · simp -dsimp -implicitDefEqProofs only [go_sem, ↓reduceIte, Nat.reduceEqDiff, Nat.reduceLT, Nat.reduceAdd, Nat.reduceMul, Nat.reduceLeDiff, Nat.le_refl, Int.natCast_zero, Int.toNat_natCast, Int.reduceToNat, hb]
  have hl : bs.length ≤ 4096 := by have := of_decide_eq_false hb; omega
  have d1 := c_DrawTurnsNeeded bs hl
  have d2 := c_DrawBlankAfter bs hl
  obtain ⟨k1, k2, k3⟩ := lkD_ok (bs := bs) (src0_ok bs)
  generalize hp : lkD bs (src0 bs) = p at *
  obtain ⟨m, l, s1⟩ := p
  dsimp only at *
  have k4 := (visD_ok bs k1).2
  generalize (visD bs s1).1 = v at *
  generalize (pk bs [0, 1, 2, 3, 5, 9, 100, 101, -1] (visD bs s1).2).1 = t at *
  have h1 : l.length ≤ 1048576 := by omega
  have h2 : ∀ x ∈ l, x.length ≤ 1048576 := fun x hx => by have := k3 x hx; omega
  have q1 := c_iTurnsNeeded m l v h1 h2
  have q2 := c_sTurnsNeeded m l v h1 h2
  have q3 := c_iFiledBlank m l h1 h2
  have q4 := c_sFiledBlank m l h1 h2
  have q5 := c_iCutsMade m l h1 h2
  have q6 := c_sCutsMade m l h1 h2
  have q7 := c_iBlankAfter m l v t h1 h2
  have q8 := c_sBlankAfter m l v t h1 h2
  have hbl := blankAfter_len m l v t
  have hfl : (filedBlank m l).1.length ≤ l.length := by unfold filedBlank; split <;> simp [blank]
  have r1 := c_likeIntsE (filedBlank m l).1 (by omega)
  have r2 := c_likeIntsE (blankAfter m l v t).1 (by omega)
  by_cases hok : isLk m l = true ∧ isIn v 1 6 = true
  · obtain ⟨hk, hv⟩ := hok
    have hv2 : 1 ≤ v ∧ v ≤ 6 := by simpa [isIn] using hv
    obtain ⟨t1, t2, t3⟩ := turns_out hk hv2.1
    have hmo := turns_mono hk hv2.1
    have e1 : turnsNeeded m l v = (1 + (turnsOf l v : Int), 0) := by rw [turnsNeeded, if_pos hk, if_pos hv]
    have e2 : filedBlank m l = (blank l, 0) := by rw [filedBlank, if_pos hk]
    have e3 : cutsMade m l = ((blank l).sum, 0) := by rw [cutsMade, if_pos hk]
    have hbll : (blank l).length ≤ 6 := by simp [blank]; omega
    have q9 := c_iIsFinished m l (blank l) h1 h2 (by omega)
    have q10 := c_iBlankAfter m l v (1 + (turnsOf l v : Int)) h1 h2
    have q11 := c_iTurnsNeeded m l (v + 1) h1 h2
    have e4 : isFinished m l (blank l) = (true, 0) := by
      have : impCode m l (blank l) = 0 := by rw [impCode, if_pos hk, if_pos (blank_cuts hk)]
      rw [isFinished, if_pos this, marks_blank hk]; rfl
    have e5 : blankAfter m l v (1 + (turnsOf l v : Int)) = (blank l, 0) := by
      have hin : (isIn v 1 6 && isIn (1 + (turnsOf l v : Int)) 0 100) = true := by rw [hv]; simp [isIn]; omega
      rw [blankAfter, if_pos hk, if_pos hin, show (1 + (turnsOf l v : Int)).toNat = turnsOf l v + 1 by omega, itF_succ, t1, file_none (marks_blank hk)]
    have r3 := c_likeIntsE (blank l) (by omega)
    have hbe : ∀ x ∈ blank l, -1000000 ≤ x ∧ x ≤ 1000000 := fun x hx => by have := (blank_ok hk).2.2 x hx; omega
    have r4 := c_sum (blank l) (by omega) hbe
    have hsum := way_sum hk (way_blank hk)
    rw [e1] at q1 q2
    rw [e2] at q3 q4 r1
    rw [e3] at q5 q6
    rw [e4] at q9
    rw [e5] at q10
    dsimp only at *
    have hgt : decide (1 + (turnsOf l v : Int) > (blank l).sum + 1) = false := decide_eq_false (by omega)
    generalize blankAfter m l v t = w at *
    generalize hz : (blank l).sum = z at *
    generalize blank l = bl at *
    have e6 : (v == 6) = false → turnsNeeded m l (v + 1) = (1 + (turnsOf l (v + 1) : Int), 0) := fun hv6 => by
      have : ¬ v = 6 := beq_eq_false_iff_ne.1 hv6
      have hin : isIn (v + 1) 1 6 = true := by simp [isIn]; omega
      rw [turnsNeeded, if_pos hk, if_pos hin]
    have e7 : decide (1 + (turnsOf l (v + 1) : Int) ≤ 1 + (turnsOf l v : Int)) = true := decide_eq_true (by omega)
    generalize turnsOf l v = tn at *
    generalize turnsOf l (v + 1) = tn1 at *
    simp -dsimp -implicitDefEqProofs only [go_sem, ↓reduceIte, Nat.reduceEqDiff, Nat.reduceLT, Nat.reduceAdd, Nat.reduceMul, Nat.reduceLeDiff, Nat.le_refl, Int.natCast_zero, Int.toNat_natCast, Int.reduceToNat, hb]
    (refine sCallS_one (d1) (by simp [noLabs, labs, isClo]) ?_; simp -dsimp -implicitDefEqProofs only [go_sem, ↓reduceIte, Nat.reduceEqDiff, Nat.reduceLT, Nat.reduceAdd, Nat.reduceMul, Nat.reduceLeDiff, Nat.le_refl, Int.natCast_zero, Int.toNat_natCast, Int.reduceToNat])
    (refine sCallT_one (q1) ?_; simp -dsimp -implicitDefEqProofs only [go_sem, ↓reduceIte, Nat.reduceEqDiff, Nat.reduceLT, Nat.reduceAdd, Nat.reduceMul, Nat.reduceLeDiff, Nat.le_refl, Int.natCast_zero, Int.toNat_natCast, Int.reduceToNat])
    (refine sCallT_one (q2) ?_; simp -dsimp -implicitDefEqProofs only [go_sem, ↓reduceIte, Nat.reduceEqDiff, Nat.reduceLT, Nat.reduceAdd, Nat.reduceMul, Nat.reduceLeDiff, Nat.le_refl, Int.natCast_zero, Int.toNat_natCast, Int.reduceToNat])
    (refine sCallT_one (q3) ?_; simp -dsimp -implicitDefEqProofs only [go_sem, ↓reduceIte, Nat.reduceEqDiff, Nat.reduceLT, Nat.reduceAdd, Nat.reduceMul, Nat.reduceLeDiff, Nat.le_refl, Int.natCast_zero, Int.toNat_natCast, Int.reduceToNat])
    (refine sCallT_one (q4) ?_; simp -dsimp -implicitDefEqProofs only [go_sem, ↓reduceIte, Nat.reduceEqDiff, Nat.reduceLT, Nat.reduceAdd, Nat.reduceMul, Nat.reduceLeDiff, Nat.le_refl, Int.natCast_zero, Int.toNat_natCast, Int.reduceToNat])
    (refine sCallT_one (q5) ?_; simp -dsimp -implicitDefEqProofs only [go_sem, ↓reduceIte, Nat.reduceEqDiff, Nat.reduceLT, Nat.reduceAdd, Nat.reduceMul, Nat.reduceLeDiff, Nat.le_refl, Int.natCast_zero, Int.toNat_natCast, Int.reduceToNat])
    (refine sCallT_one (q6) ?_; simp -dsimp -implicitDefEqProofs only [go_sem, ↓reduceIte, Nat.reduceEqDiff, Nat.reduceLT, Nat.reduceAdd, Nat.reduceMul, Nat.reduceLeDiff, Nat.le_refl, Int.natCast_zero, Int.toNat_natCast, Int.reduceToNat])
    (refine sCallS_one (d2) (by simp [noLabs, labs, isClo]) ?_; simp -dsimp -implicitDefEqProofs only [go_sem, ↓reduceIte, Nat.reduceEqDiff, Nat.reduceLT, Nat.reduceAdd, Nat.reduceMul, Nat.reduceLeDiff, Nat.le_refl, Int.natCast_zero, Int.toNat_natCast, Int.reduceToNat])
    (refine sCallT_one (q7) ?_; simp -dsimp -implicitDefEqProofs only [go_sem, ↓reduceIte, Nat.reduceEqDiff, Nat.reduceLT, Nat.reduceAdd, Nat.reduceMul, Nat.reduceLeDiff, Nat.le_refl, Int.natCast_zero, Int.toNat_natCast, Int.reduceToNat])
    (refine sCallT_one (q8) ?_; simp -dsimp -implicitDefEqProofs only [go_sem, ↓reduceIte, Nat.reduceEqDiff, Nat.reduceLT, Nat.reduceAdd, Nat.reduceMul, Nat.reduceLeDiff, Nat.le_refl, Int.natCast_zero, Int.toNat_natCast, Int.reduceToNat])
    (refine sCallT_one (r1) ?_; simp -dsimp -implicitDefEqProofs only [go_sem, ↓reduceIte, Nat.reduceEqDiff, Nat.reduceLT, Nat.reduceAdd, Nat.reduceMul, Nat.reduceLeDiff, Nat.le_refl, Int.natCast_zero, Int.toNat_natCast, Int.reduceToNat])
    (refine sCallT_one (r2) ?_; simp -dsimp -implicitDefEqProofs only [go_sem, ↓reduceIte, Nat.reduceEqDiff, Nat.reduceLT, Nat.reduceAdd, Nat.reduceMul, Nat.reduceLeDiff, Nat.le_refl, Int.natCast_zero, Int.toNat_natCast, Int.reduceToNat])
    (refine sCallT_one (q9) ?_; simp -dsimp -implicitDefEqProofs only [go_sem, ↓reduceIte, Nat.reduceEqDiff, Nat.reduceLT, Nat.reduceAdd, Nat.reduceMul, Nat.reduceLeDiff, Nat.le_refl, Int.natCast_zero, Int.toNat_natCast, Int.reduceToNat])
    (refine sCallT_one (q10) ?_; simp -dsimp -implicitDefEqProofs only [go_sem, ↓reduceIte, Nat.reduceEqDiff, Nat.reduceLT, Nat.reduceAdd, Nat.reduceMul, Nat.reduceLeDiff, Nat.le_refl, Int.natCast_zero, Int.toNat_natCast, Int.reduceToNat])
    (refine sCallT_one (r3) ?_; simp -dsimp -implicitDefEqProofs only [go_sem, ↓reduceIte, Nat.reduceEqDiff, Nat.reduceLT, Nat.reduceAdd, Nat.reduceMul, Nat.reduceLeDiff, Nat.le_refl, Int.natCast_zero, Int.toNat_natCast, Int.reduceToNat])
    (refine sCallT_one (r4) ?_; simp -dsimp -implicitDefEqProofs only [go_sem, ↓reduceIte, Nat.reduceEqDiff, Nat.reduceLT, Nat.reduceAdd, Nat.reduceMul, Nat.reduceLeDiff, Nat.le_refl, Int.natCast_zero, Int.toNat_natCast, Int.reduceToNat])
    refine ⟨⟨by omega, by omega⟩, ?_⟩
    simp -dsimp -implicitDefEqProofs only [go_sem, ↓reduceIte, Nat.reduceEqDiff, Nat.reduceLT, Nat.reduceAdd, Nat.reduceMul, Nat.reduceLeDiff, Nat.le_refl, Int.natCast_zero, Int.toNat_natCast, Int.reduceToNat, hgt]
    rcases hv6 : (v == 6) with _ | _
    · rw [e6 hv6] at q11
      dsimp only at q11
      simp -dsimp -implicitDefEqProofs only [go_sem, ↓reduceIte, Nat.reduceEqDiff, Nat.reduceLT, Nat.reduceAdd, Nat.reduceMul, Nat.reduceLeDiff, Nat.le_refl, Int.natCast_zero, Int.toNat_natCast, Int.reduceToNat, hv6]
      ((repeat' (with_reducible refine And.intro ?_ ?_)); all_goals try (first | omega | (refine ⟨?_, ?_⟩ <;> omega) | (exact rfl)))
      (refine sCallT_one (q11) ?_; simp -dsimp -implicitDefEqProofs only [go_sem, ↓reduceIte, Nat.reduceEqDiff, Nat.reduceLT, Nat.reduceAdd, Nat.reduceMul, Nat.reduceLeDiff, Nat.le_refl, Int.natCast_zero, Int.toNat_natCast, Int.reduceToNat])
      simp -dsimp -implicitDefEqProofs only [go_sem, ↓reduceIte, Nat.reduceEqDiff, Nat.reduceLT, Nat.reduceAdd, Nat.reduceMul, Nat.reduceLeDiff, Nat.le_refl, Int.natCast_zero, Int.toNat_natCast, Int.reduceToNat, e7]
    · simp -dsimp -implicitDefEqProofs only [go_sem, ↓reduceIte, Nat.reduceEqDiff, Nat.reduceLT, Nat.reduceAdd, Nat.reduceMul, Nat.reduceLeDiff, Nat.le_refl, Int.natCast_zero, Int.toNat_natCast, Int.reduceToNat, hv6]
  · have hne : ((turnsNeeded m l v).2 != 0) = true := by
      unfold turnsNeeded
      cases hk : isLk m l
      · rfl
      · cases hv : isIn v 1 6
        · rfl
        · exact absurd ⟨hk, hv⟩ hok
    generalize turnsNeeded m l v = z at *
    generalize blankAfter m l v t = w at *
    generalize filedBlank m l = bl at *
    generalize cutsMade m l = cu at *
    simp -dsimp -implicitDefEqProofs only [go_sem, ↓reduceIte, Nat.reduceEqDiff, Nat.reduceLT, Nat.reduceAdd, Nat.reduceMul, Nat.reduceLeDiff, Nat.le_refl, Int.natCast_zero, Int.toNat_natCast, Int.reduceToNat, hb]
    (refine sCallS_one (d1) (by simp [noLabs, labs, isClo]) ?_; simp -dsimp -implicitDefEqProofs only [go_sem, ↓reduceIte, Nat.reduceEqDiff, Nat.reduceLT, Nat.reduceAdd, Nat.reduceMul, Nat.reduceLeDiff, Nat.le_refl, Int.natCast_zero, Int.toNat_natCast, Int.reduceToNat])
    (refine sCallT_one (q1) ?_; simp -dsimp -implicitDefEqProofs only [go_sem, ↓reduceIte, Nat.reduceEqDiff, Nat.reduceLT, Nat.reduceAdd, Nat.reduceMul, Nat.reduceLeDiff, Nat.le_refl, Int.natCast_zero, Int.toNat_natCast, Int.reduceToNat])
    (refine sCallT_one (q2) ?_; simp -dsimp -implicitDefEqProofs only [go_sem, ↓reduceIte, Nat.reduceEqDiff, Nat.reduceLT, Nat.reduceAdd, Nat.reduceMul, Nat.reduceLeDiff, Nat.le_refl, Int.natCast_zero, Int.toNat_natCast, Int.reduceToNat])
    (refine sCallT_one (q3) ?_; simp -dsimp -implicitDefEqProofs only [go_sem, ↓reduceIte, Nat.reduceEqDiff, Nat.reduceLT, Nat.reduceAdd, Nat.reduceMul, Nat.reduceLeDiff, Nat.le_refl, Int.natCast_zero, Int.toNat_natCast, Int.reduceToNat])
    (refine sCallT_one (q4) ?_; simp -dsimp -implicitDefEqProofs only [go_sem, ↓reduceIte, Nat.reduceEqDiff, Nat.reduceLT, Nat.reduceAdd, Nat.reduceMul, Nat.reduceLeDiff, Nat.le_refl, Int.natCast_zero, Int.toNat_natCast, Int.reduceToNat])
    (refine sCallT_one (q5) ?_; simp -dsimp -implicitDefEqProofs only [go_sem, ↓reduceIte, Nat.reduceEqDiff, Nat.reduceLT, Nat.reduceAdd, Nat.reduceMul, Nat.reduceLeDiff, Nat.le_refl, Int.natCast_zero, Int.toNat_natCast, Int.reduceToNat])
    (refine sCallT_one (q6) ?_; simp -dsimp -implicitDefEqProofs only [go_sem, ↓reduceIte, Nat.reduceEqDiff, Nat.reduceLT, Nat.reduceAdd, Nat.reduceMul, Nat.reduceLeDiff, Nat.le_refl, Int.natCast_zero, Int.toNat_natCast, Int.reduceToNat])
    (refine sCallS_one (d2) (by simp [noLabs, labs, isClo]) ?_; simp -dsimp -implicitDefEqProofs only [go_sem, ↓reduceIte, Nat.reduceEqDiff, Nat.reduceLT, Nat.reduceAdd, Nat.reduceMul, Nat.reduceLeDiff, Nat.le_refl, Int.natCast_zero, Int.toNat_natCast, Int.reduceToNat])
    (refine sCallT_one (q7) ?_; simp -dsimp -implicitDefEqProofs only [go_sem, ↓reduceIte, Nat.reduceEqDiff, Nat.reduceLT, Nat.reduceAdd, Nat.reduceMul, Nat.reduceLeDiff, Nat.le_refl, Int.natCast_zero, Int.toNat_natCast, Int.reduceToNat])
    (refine sCallT_one (q8) ?_; simp -dsimp -implicitDefEqProofs only [go_sem, ↓reduceIte, Nat.reduceEqDiff, Nat.reduceLT, Nat.reduceAdd, Nat.reduceMul, Nat.reduceLeDiff, Nat.le_refl, Int.natCast_zero, Int.toNat_natCast, Int.reduceToNat])
    (refine sCallT_one (r1) ?_; simp -dsimp -implicitDefEqProofs only [go_sem, ↓reduceIte, Nat.reduceEqDiff, Nat.reduceLT, Nat.reduceAdd, Nat.reduceMul, Nat.reduceLeDiff, Nat.le_refl, Int.natCast_zero, Int.toNat_natCast, Int.reduceToNat])
    (refine sCallT_one (r2) ?_; simp -dsimp -implicitDefEqProofs only [go_sem, ↓reduceIte, Nat.reduceEqDiff, Nat.reduceLT, Nat.reduceAdd, Nat.reduceMul, Nat.reduceLeDiff, Nat.le_refl, Int.natCast_zero, Int.toNat_natCast, Int.reduceToNat])
    simp -dsimp -implicitDefEqProofs only [go_sem, ↓reduceIte, Nat.reduceEqDiff, Nat.reduceLT, Nat.reduceAdd, Nat.reduceMul, Nat.reduceLeDiff, Nat.le_refl, Int.natCast_zero, Int.toNat_natCast, Int.reduceToNat, hne]
set_option maxHeartbeats 8000000 in
theorem c_FnMarks (bs : List UInt8) (h : bs.length ≤ 9223372036854775807) : Fn Try.prog 5 [eYs bs] true (· = eB true) := by
  refine Fn.of_vcN 224 [.tmp 2] Try.func5 rfl rfl rfl rfl rfl (of_decide_eq_true rfl) ?_
  simp -dsimp -implicitDefEqProofs only [go_sem, ↓reduceIte, Nat.reduceEqDiff, Nat.reduceLT, Nat.reduceAdd, Nat.reduceMul, Nat.reduceLeDiff, Nat.le_refl, Int.natCast_zero, Int.toNat_natCast, Int.reduceToNat]
  refine sCallT_one (c_big bs h) ?_
  rcases hb : decide ((bs.length : Int) > 4096) with _ | _
  rotate_left
  · simp -dsimp -implicitDefEqProofs only [go_sem, ↓reduceIte, Nat.reduceEqDiff, Nat.reduceLT, Nat.reduceAdd, Nat.reduceMul, Nat.reduceLeDiff, Nat.le_refl, Int.natCast_zero, Int.toNat_natCast, Int.reduceToNat, hb]
  have hl : bs.length ≤ 4096 := by have := of_decide_eq_false hb; omega
  have d1 := c_DrawMarksOf bs hl
  have d2 := c_DrawFileOnce bs hl
  obtain ⟨k4, k2, k3, k5⟩ := marksD_ok (bs := bs) (src0_ok bs)
  have k6 := (visD_ok bs (src0_ok bs)).2
  generalize hp : marksD bs (src0 bs) = p at *
  generalize (visD bs (src0 bs)).1 = v at *
  obtain ⟨m, l, d⟩ := p
  dsimp only at *
  have h1 : l.length ≤ 1048576 := by omega
  have h2 : ∀ x ∈ l, x.length ≤ 1048576 := fun x hx => by have := k3 x hx; omega
  have q1 := c_iMarksOf m l d h1 h2 (by omega)
  have q2 := c_sMarksOf m l d h1 h2 (by omega)
  have q3 := c_iSpoiltChambers m l d h1 h2 (by omega)
  have q4 := c_sSpoiltChambers m l d h1 h2 (by omega)
  have q5 := c_iIsFinished m l d h1 h2 (by omega)
  have q6 := c_sIsFinished m l d h1 h2 (by omega)
  have q7 := c_iFileOnce m l d v h1 h2 (by omega)
  have q8 := c_sFileOnce m l d v h1 h2 (by omega)
  have hml : (marksOf m l d).1.length ≤ d.length := by
    unfold marksOf
    split
    · exact marks_len l d
    · exact Nat.zero_le _
  have hsl : (spoiltChambers m l d).1.length ≤ d.length := by
    unfold spoiltChambers
    split
    · exact flt_len _ _
    · exact Nat.zero_le _
  have hfl : (fileOnce m l d v).1.length ≤ d.length := by
    unfold fileOnce
    split
    · split
      · split
        · rw [file_len]; omega
        · simp
      · simp
    · simp
  have r1 := c_likeIntsE (marksOf m l d).1 (by omega)
  have r2 := c_likeIntsE (spoiltChambers m l d).1 (by omega)
  have r3 := c_likeIntsE (fileOnce m l d v).1 (by omega)
  by_cases hic : impCode m l d = 0
  rotate_left
  · have e1 : ((marksOf m l d).2 != 0) = true := by rw [marksOf, if_neg hic]; simpa using hic
    have e2 : ((fileOnce m l d v).2 == 0) = false := by rw [fileOnce, if_neg hic]; simpa using hic
    generalize marksOf m l d = z1 at *
    generalize spoiltChambers m l d = z2 at *
    generalize isFinished m l d = z3 at *
    generalize fileOnce m l d v = z4 at *
    simp -dsimp -implicitDefEqProofs only [go_sem, ↓reduceIte, Nat.reduceEqDiff, Nat.reduceLT, Nat.reduceAdd, Nat.reduceMul, Nat.reduceLeDiff, Nat.le_refl, Int.natCast_zero, Int.toNat_natCast, Int.reduceToNat, hb]
    (refine sCallS_one (d1) (by simp [noLabs, labs, isClo]) ?_; simp -dsimp -implicitDefEqProofs only [go_sem, ↓reduceIte, Nat.reduceEqDiff, Nat.reduceLT, Nat.reduceAdd, Nat.reduceMul, Nat.reduceLeDiff, Nat.le_refl, Int.natCast_zero, Int.toNat_natCast, Int.reduceToNat])
    (refine sCallT_one (q1) ?_; simp -dsimp -implicitDefEqProofs only [go_sem, ↓reduceIte, Nat.reduceEqDiff, Nat.reduceLT, Nat.reduceAdd, Nat.reduceMul, Nat.reduceLeDiff, Nat.le_refl, Int.natCast_zero, Int.toNat_natCast, Int.reduceToNat])
    (refine sCallT_one (q2) ?_; simp -dsimp -implicitDefEqProofs only [go_sem, ↓reduceIte, Nat.reduceEqDiff, Nat.reduceLT, Nat.reduceAdd, Nat.reduceMul, Nat.reduceLeDiff, Nat.le_refl, Int.natCast_zero, Int.toNat_natCast, Int.reduceToNat])
    (refine sCallT_one (q3) ?_; simp -dsimp -implicitDefEqProofs only [go_sem, ↓reduceIte, Nat.reduceEqDiff, Nat.reduceLT, Nat.reduceAdd, Nat.reduceMul, Nat.reduceLeDiff, Nat.le_refl, Int.natCast_zero, Int.toNat_natCast, Int.reduceToNat])
    (refine sCallT_one (q4) ?_; simp -dsimp -implicitDefEqProofs only [go_sem, ↓reduceIte, Nat.reduceEqDiff, Nat.reduceLT, Nat.reduceAdd, Nat.reduceMul, Nat.reduceLeDiff, Nat.le_refl, Int.natCast_zero, Int.toNat_natCast, Int.reduceToNat])
    (refine sCallT_one (q5) ?_; simp -dsimp -implicitDefEqProofs only [go_sem, ↓reduceIte, Nat.reduceEqDiff, Nat.reduceLT, Nat.reduceAdd, Nat.reduceMul, Nat.reduceLeDiff, Nat.le_refl, Int.natCast_zero, Int.toNat_natCast, Int.reduceToNat])
    (refine sCallT_one (q6) ?_; simp -dsimp -implicitDefEqProofs only [go_sem, ↓reduceIte, Nat.reduceEqDiff, Nat.reduceLT, Nat.reduceAdd, Nat.reduceMul, Nat.reduceLeDiff, Nat.le_refl, Int.natCast_zero, Int.toNat_natCast, Int.reduceToNat])
    (refine sCallS_one (d2) (by simp [noLabs, labs, isClo]) ?_; simp -dsimp -implicitDefEqProofs only [go_sem, ↓reduceIte, Nat.reduceEqDiff, Nat.reduceLT, Nat.reduceAdd, Nat.reduceMul, Nat.reduceLeDiff, Nat.le_refl, Int.natCast_zero, Int.toNat_natCast, Int.reduceToNat])
    (refine sCallT_one (q7) ?_; simp -dsimp -implicitDefEqProofs only [go_sem, ↓reduceIte, Nat.reduceEqDiff, Nat.reduceLT, Nat.reduceAdd, Nat.reduceMul, Nat.reduceLeDiff, Nat.le_refl, Int.natCast_zero, Int.toNat_natCast, Int.reduceToNat])
    (refine sCallT_one (q8) ?_; simp -dsimp -implicitDefEqProofs only [go_sem, ↓reduceIte, Nat.reduceEqDiff, Nat.reduceLT, Nat.reduceAdd, Nat.reduceMul, Nat.reduceLeDiff, Nat.le_refl, Int.natCast_zero, Int.toNat_natCast, Int.reduceToNat])
    (refine sCallT_one (r1) ?_; simp -dsimp -implicitDefEqProofs only [go_sem, ↓reduceIte, Nat.reduceEqDiff, Nat.reduceLT, Nat.reduceAdd, Nat.reduceMul, Nat.reduceLeDiff, Nat.le_refl, Int.natCast_zero, Int.toNat_natCast, Int.reduceToNat])
    (refine sCallT_one (r2) ?_; simp -dsimp -implicitDefEqProofs only [go_sem, ↓reduceIte, Nat.reduceEqDiff, Nat.reduceLT, Nat.reduceAdd, Nat.reduceMul, Nat.reduceLeDiff, Nat.le_refl, Int.natCast_zero, Int.toNat_natCast, Int.reduceToNat])
    (refine sCallT_one (r3) ?_; simp -dsimp -implicitDefEqProofs only [go_sem, ↓reduceIte, Nat.reduceEqDiff, Nat.reduceLT, Nat.reduceAdd, Nat.reduceMul, Nat.reduceLeDiff, Nat.le_refl, Int.natCast_zero, Int.toNat_natCast, Int.reduceToNat])
    simp -dsimp -implicitDefEqProofs only [go_sem, ↓reduceIte, Nat.reduceEqDiff, Nat.reduceLT, Nat.reduceAdd, Nat.reduceMul, Nat.reduceLeDiff, Nat.le_refl, Int.natCast_zero, Int.toNat_natCast, Int.reduceToNat, e1, e2]
  obtain ⟨hk, hcu, hdl⟩ := impCode_zero hic
  have hln := isLk_len hk
  have hdl2 := isCuts_len hk hcu
  have e1 : marksOf m l d = (marks l d, 0) := by rw [marksOf, if_pos hic]
  have e2 : spoiltChambers m l d = (spoilt l d, 0) := by rw [spoiltChambers, if_pos hic]
  have e3 : isFinished m l d = (((marks l d).length : Int) == 0, 0) := by rw [isFinished, if_pos hic]
  rw [e1] at q1 q2 r1
  rw [e2] at q3 q4 r2
  rw [e3] at q5 q6
  dsimp only at *
  have hm1 : ∀ c : Nat, c < d.length → has (marks l d) c = marksAt l d c := fun c hc => by
    rw [Bool.eq_iff_iff, has_mem]
    constructor
    · intro hh
      obtain ⟨j, _, g1, g2⟩ := flt_mem hh
      have : j = c := by omega
      subst this; exact g2
    · exact fun hh => mem_flt.2 ⟨c, hc, rfl, hh⟩
  have hm2 : ∀ c : Nat, c < d.length → has (spoilt l d) c = true → marksAt l d c = true := fun c hc hh => by
    rw [has_mem] at hh
    obtain ⟨j, _, g1, g2⟩ := flt_mem hh
    have : j = c := by omega
    subst this
    exact spoilt_mark hk (by omega) g2
  have hml : (marks l d).length ≤ d.length := marks_len l d
  have hsl : (spoilt l d).length ≤ d.length := flt_len _ _
  have hmA : ∀ c (hc : c < d.length) (hc2 : c < l.length), marksAt l d c = !has l[c] d[c] := fun c hc hc2 => by simp [marksAt, List.getD_eq_getElem?_getD, hc, hc2]
  generalize marks l d = ms at *
  generalize spoilt l d = sp at *
  simp -dsimp -implicitDefEqProofs only [go_sem, ↓reduceIte, Nat.reduceEqDiff, Nat.reduceLT, Nat.reduceAdd, Nat.reduceMul, Nat.reduceLeDiff, Nat.le_refl, Int.natCast_zero, Int.toNat_natCast, Int.reduceToNat, hb]
  (refine sCallS_one (d1) (by simp [noLabs, labs, isClo]) ?_; simp -dsimp -implicitDefEqProofs only [go_sem, ↓reduceIte, Nat.reduceEqDiff, Nat.reduceLT, Nat.reduceAdd, Nat.reduceMul, Nat.reduceLeDiff, Nat.le_refl, Int.natCast_zero, Int.toNat_natCast, Int.reduceToNat])
  (refine sCallT_one (q1) ?_; simp -dsimp -implicitDefEqProofs only [go_sem, ↓reduceIte, Nat.reduceEqDiff, Nat.reduceLT, Nat.reduceAdd, Nat.reduceMul, Nat.reduceLeDiff, Nat.le_refl, Int.natCast_zero, Int.toNat_natCast, Int.reduceToNat])
  (refine sCallT_one (q2) ?_; simp -dsimp -implicitDefEqProofs only [go_sem, ↓reduceIte, Nat.reduceEqDiff, Nat.reduceLT, Nat.reduceAdd, Nat.reduceMul, Nat.reduceLeDiff, Nat.le_refl, Int.natCast_zero, Int.toNat_natCast, Int.reduceToNat])
  (refine sCallT_one (q3) ?_; simp -dsimp -implicitDefEqProofs only [go_sem, ↓reduceIte, Nat.reduceEqDiff, Nat.reduceLT, Nat.reduceAdd, Nat.reduceMul, Nat.reduceLeDiff, Nat.le_refl, Int.natCast_zero, Int.toNat_natCast, Int.reduceToNat])
  (refine sCallT_one (q4) ?_; simp -dsimp -implicitDefEqProofs only [go_sem, ↓reduceIte, Nat.reduceEqDiff, Nat.reduceLT, Nat.reduceAdd, Nat.reduceMul, Nat.reduceLeDiff, Nat.le_refl, Int.natCast_zero, Int.toNat_natCast, Int.reduceToNat])
  (refine sCallT_one (q5) ?_; simp -dsimp -implicitDefEqProofs only [go_sem, ↓reduceIte, Nat.reduceEqDiff, Nat.reduceLT, Nat.reduceAdd, Nat.reduceMul, Nat.reduceLeDiff, Nat.le_refl, Int.natCast_zero, Int.toNat_natCast, Int.reduceToNat])
  (refine sCallT_one (q6) ?_; simp -dsimp -implicitDefEqProofs only [go_sem, ↓reduceIte, Nat.reduceEqDiff, Nat.reduceLT, Nat.reduceAdd, Nat.reduceMul, Nat.reduceLeDiff, Nat.le_refl, Int.natCast_zero, Int.toNat_natCast, Int.reduceToNat])
  (refine sCallS_one (d2) (by simp [noLabs, labs, isClo]) ?_; simp -dsimp -implicitDefEqProofs only [go_sem, ↓reduceIte, Nat.reduceEqDiff, Nat.reduceLT, Nat.reduceAdd, Nat.reduceMul, Nat.reduceLeDiff, Nat.le_refl, Int.natCast_zero, Int.toNat_natCast, Int.reduceToNat])
  (refine sCallT_one (q7) ?_; simp -dsimp -implicitDefEqProofs only [go_sem, ↓reduceIte, Nat.reduceEqDiff, Nat.reduceLT, Nat.reduceAdd, Nat.reduceMul, Nat.reduceLeDiff, Nat.le_refl, Int.natCast_zero, Int.toNat_natCast, Int.reduceToNat])
  (refine sCallT_one (q8) ?_; simp -dsimp -implicitDefEqProofs only [go_sem, ↓reduceIte, Nat.reduceEqDiff, Nat.reduceLT, Nat.reduceAdd, Nat.reduceMul, Nat.reduceLeDiff, Nat.le_refl, Int.natCast_zero, Int.toNat_natCast, Int.reduceToNat])
  (refine sCallT_one (r1) ?_; simp -dsimp -implicitDefEqProofs only [go_sem, ↓reduceIte, Nat.reduceEqDiff, Nat.reduceLT, Nat.reduceAdd, Nat.reduceMul, Nat.reduceLeDiff, Nat.le_refl, Int.natCast_zero, Int.toNat_natCast, Int.reduceToNat])
  (refine sCallT_one (r2) ?_; simp -dsimp -implicitDefEqProofs only [go_sem, ↓reduceIte, Nat.reduceEqDiff, Nat.reduceLT, Nat.reduceAdd, Nat.reduceMul, Nat.reduceLeDiff, Nat.le_refl, Int.natCast_zero, Int.toNat_natCast, Int.reduceToNat])
  by_cases hfo : isIn v 1 6 = true ∧ (spoilt l d).length = 0
  rotate_left
  · have e4 : ((fileOnce m l d v).2 == 0) = false := by
      rw [fileOnce, if_pos hic]
      split
      · rw [if_neg (fun h => hfo ⟨by assumption, h⟩)]; rfl
      · rfl
    generalize fileOnce m l d v = fo at *
    (refine sCallT_one (r3) ?_; simp -dsimp -implicitDefEqProofs only [go_sem, ↓reduceIte, Nat.reduceEqDiff, Nat.reduceLT, Nat.reduceAdd, Nat.reduceMul, Nat.reduceLeDiff, Nat.le_refl, Int.natCast_zero, Int.toNat_natCast, Int.reduceToNat])
    simp -dsimp -implicitDefEqProofs only [go_sem, ↓reduceIte, Nat.reduceEqDiff, Nat.reduceLT, Nat.reduceAdd, Nat.reduceMul, Nat.reduceLeDiff, Nat.le_refl, Int.natCast_zero, Int.toNat_natCast, Int.reduceToNat, e4]
    refine Later.up [3, 4, 5, 6, 10, 14] [196, 206, 211, 215] [] d.length (fun _ => True) (fun i => [(28, eI i)]) (fun _ => []) trivial ?_ rfl (fun i hi _ => ?_) (fun _ => ?_)
    · simp -dsimp -implicitDefEqProofs only [go_sem, ↓reduceIte, Nat.reduceEqDiff, Nat.reduceLT, Nat.reduceAdd, Nat.reduceMul, Nat.reduceLeDiff, Nat.le_refl, Int.natCast_zero, Int.toNat_natCast, Int.reduceToNat]
    · have hi2 : i < l.length := by omega
      have gl := get_some hi2
      have gd := get_some hi
      have lc : decide ((i : Int) < m.chambers) = true := decide_eq_true (by omega)
      have x1 := hm1 i hi
      have x2 := hm2 i hi
      have x3 := hmA i hi hi2
      have x4 := k3 _ (List.getElem_mem hi2)
      have y1 := c_hasInt ms (i : Int) (by omega)
      have y2 := c_hasInt l[i] d[i] (by omega)
      have y3 := c_hasInt sp (i : Int) (by omega)
      generalize has ms (i : Int) = b1 at *
      generalize has sp (i : Int) = b3 at *
      generalize l[i] = sl at *
      generalize d[i] = sd at *
      generalize has sl sd = b2 at *
      generalize marksAt l d i = b4 at *
      subst x1
      simp -dsimp -implicitDefEqProofs only [pick_nil, pick_cons, look_nil, look_cons, dropB_nil, dropB_cons, inD_nil, inD_cons, inE_nil, inE_cons, or_t_l, or_f_l, Nat.reduceBEq, Nat.reduceDiv, Nat.reduceAdd, beq_self_eq_true, Bool.false_eq_true, Bool.or_false, ↓reduceIte, Nat.reduceEqDiff, List.cons_append, List.nil_append]
      simp -dsimp -implicitDefEqProofs only [go_sem, ↓reduceIte, Nat.reduceEqDiff, Nat.reduceLT, Nat.reduceAdd, Nat.reduceMul, Nat.reduceLeDiff, Nat.le_refl, Int.natCast_zero, Int.toNat_natCast, Int.reduceToNat, lc]
      refine Later.draw mixed rfl ?_
      simp -dsimp -implicitDefEqProofs only [go_sem, ↓reduceIte, Nat.reduceEqDiff, Nat.reduceLT, Nat.reduceAdd, Nat.reduceMul, Nat.reduceLeDiff, Nat.le_refl, Int.natCast_zero, Int.toNat_natCast, Int.reduceToNat]
      refine sCallX_one y1 ?_
      simp -dsimp -implicitDefEqProofs only [go_sem, ↓reduceIte, Nat.reduceEqDiff, Nat.reduceLT, Nat.reduceAdd, Nat.reduceMul, Nat.reduceLeDiff, Nat.le_refl, Int.natCast_zero, Int.toNat_natCast, Int.reduceToNat, gl, gd]
      ((repeat' (with_reducible refine And.intro ?_ ?_)); all_goals try (first | omega | (refine ⟨?_, ?_⟩ <;> omega) | (exact rfl)))
      refine sCallX_one y2 ?_
      subst x3
      cases b2
      · simp -dsimp -implicitDefEqProofs only [go_sem, ↓reduceIte, Nat.reduceEqDiff, Nat.reduceLT, Nat.reduceAdd, Nat.reduceMul, Nat.reduceLeDiff, Nat.le_refl, Int.natCast_zero, Int.toNat_natCast, Int.reduceToNat, bTF]
        refine sCallX_one y3 ?_
        cases b3
        · simp -dsimp -implicitDefEqProofs only [go_sem, ↓reduceIte, Nat.reduceEqDiff, Nat.reduceLT, Nat.reduceAdd, Nat.reduceMul, Nat.reduceLeDiff, Nat.le_refl, Int.natCast_zero, Int.toNat_natCast, Int.reduceToNat]
          ((repeat' (with_reducible refine And.intro ?_ ?_)); all_goals try (first | omega | (refine ⟨?_, ?_⟩ <;> omega) | (exact rfl)))
        · simp -dsimp -implicitDefEqProofs only [go_sem, ↓reduceIte, Nat.reduceEqDiff, Nat.reduceLT, Nat.reduceAdd, Nat.reduceMul, Nat.reduceLeDiff, Nat.le_refl, Int.natCast_zero, Int.toNat_natCast, Int.reduceToNat]
          refine sCallX_one y1 ?_
          simp -dsimp -implicitDefEqProofs only [go_sem, ↓reduceIte, Nat.reduceEqDiff, Nat.reduceLT, Nat.reduceAdd, Nat.reduceMul, Nat.reduceLeDiff, Nat.le_refl, Int.natCast_zero, Int.toNat_natCast, Int.reduceToNat]
          ((repeat' (with_reducible refine And.intro ?_ ?_)); all_goals try (first | omega | (refine ⟨?_, ?_⟩ <;> omega) | (exact rfl)))
      · simp -dsimp -implicitDefEqProofs only [go_sem, ↓reduceIte, Nat.reduceEqDiff, Nat.reduceLT, Nat.reduceAdd, Nat.reduceMul, Nat.reduceLeDiff, Nat.le_refl, Int.natCast_zero, Int.toNat_natCast, Int.reduceToNat, bFT]
        refine sCallX_one y3 ?_
        cases b3
        · simp -dsimp -implicitDefEqProofs only [go_sem, ↓reduceIte, Nat.reduceEqDiff, Nat.reduceLT, Nat.reduceAdd, Nat.reduceMul, Nat.reduceLeDiff, Nat.le_refl, Int.natCast_zero, Int.toNat_natCast, Int.reduceToNat]
          ((repeat' (with_reducible refine And.intro ?_ ?_)); all_goals try (first | omega | (refine ⟨?_, ?_⟩ <;> omega) | (exact rfl)))
        · exact absurd (x2 rfl) (by simp)
    · have lc : decide ((d.length : Int) < m.chambers) = false := decide_eq_false (by omega)
      simp -dsimp -implicitDefEqProofs only [pick_nil, pick_cons, look_nil, look_cons, dropB_nil, dropB_cons, inD_nil, inD_cons, inE_nil, inE_cons, or_t_l, or_f_l, Nat.reduceBEq, Nat.reduceDiv, Nat.reduceAdd, beq_self_eq_true, Bool.false_eq_true, Bool.or_false, ↓reduceIte, Nat.reduceEqDiff, List.cons_append, List.nil_append]
      simp -dsimp -implicitDefEqProofs only [go_sem, ↓reduceIte, Nat.reduceEqDiff, Nat.reduceLT, Nat.reduceAdd, Nat.reduceMul, Nat.reduceLeDiff, Nat.le_refl, Int.natCast_zero, Int.toNat_natCast, Int.reduceToNat, lc]
  obtain ⟨f1, f2⟩ := hfo
  have hv : 1 ≤ v ∧ v ≤ 6 := by simpa [isIn] using f1
  have e4 : fileOnce m l d v = (file l d v, 0) := by rw [fileOnce, if_pos hic, if_pos f1, if_pos f2]
  have g1 := file_len l d v
  have g2 := file_step l d v
  have g3 := file_chg l d v
  rw [e4] at r3 ⊢
  clear e4
  generalize file l d v = fl at *
  (refine sCallT_one (r3) ?_; simp -dsimp -implicitDefEqProofs only [go_sem, ↓reduceIte, Nat.reduceEqDiff, Nat.reduceLT, Nat.reduceAdd, Nat.reduceMul, Nat.reduceLeDiff, Nat.le_refl, Int.natCast_zero, Int.toNat_natCast, Int.reduceToNat])
  refine Later.up [3, 4, 5, 6, 7, 10, 14, 20, 21, 22] [147] [] fl.length (fun _ => True) (fun i => [(27, eI i), (26, eI (chg fl d i))]) (fun _ => []) trivial ?_ rfl (fun i hi _ => ?_) (fun _ => ?_)
  · simp -dsimp -implicitDefEqProofs only [go_sem, ↓reduceIte, Nat.reduceEqDiff, Nat.reduceLT, Nat.reduceAdd, Nat.reduceMul, Nat.reduceLeDiff, Nat.le_refl, Int.natCast_zero, Int.toNat_natCast, Int.reduceToNat, chg_zero]
  · have hi2 : i < d.length := by omega
    have gx := get_some hi
    have gd := get_some hi2
    have hbb := (cuts_bnd hk hcu).2 _ (List.getElem_mem hi2)
    have e5 : fl.getD i 0 = fl[i] := by simp [List.getD_eq_getElem?_getD, hi]
    have e6 : d.getD i 0 = d[i] := by simp [List.getD_eq_getElem?_getD, hi2]
    have hst := g2 i
    have hch := chg_le fl d i
    rw [chg_succ]
    rw [e5, e6] at *
    have lx := lt_len hi
    generalize fl[i] = a at *
    generalize d[i] = b at *
    generalize chg fl d i = cc at *
    have c1 : decide (a < b) = false := decide_eq_false (by omega)
    have c2 : decide (a > b + 1) = false := decide_eq_false (by omega)
    simp -dsimp -implicitDefEqProofs only [pick_nil, pick_cons, look_nil, look_cons, dropB_nil, dropB_cons, inD_nil, inD_cons, inE_nil, inE_cons, or_t_l, or_f_l, Nat.reduceBEq, Nat.reduceDiv, Nat.reduceAdd, beq_self_eq_true, Bool.false_eq_true, Bool.or_false, ↓reduceIte, Nat.reduceEqDiff, List.cons_append, List.nil_append]
    simp -dsimp -implicitDefEqProofs only [go_sem, ↓reduceIte, Nat.reduceEqDiff, Nat.reduceLT, Nat.reduceAdd, Nat.reduceMul, Nat.reduceLeDiff, Nat.le_refl, Int.natCast_zero, Int.toNat_natCast, Int.reduceToNat, lx]
    refine Later.draw mixed rfl ?_
    simp -dsimp -implicitDefEqProofs only [go_sem, ↓reduceIte, Nat.reduceEqDiff, Nat.reduceLT, Nat.reduceAdd, Nat.reduceMul, Nat.reduceLeDiff, Nat.le_refl, Int.natCast_zero, Int.toNat_natCast, Int.reduceToNat, gx, gd]
    ((repeat' (with_reducible refine And.intro ?_ ?_)); all_goals try (first | omega | (refine ⟨?_, ?_⟩ <;> omega) | (exact rfl)))
    rcases hab : (a != b) with _ | _
    · rw [if_neg (by simp)]
      simp -dsimp -implicitDefEqProofs only [go_sem, ↓reduceIte, Nat.reduceEqDiff, Nat.reduceLT, Nat.reduceAdd, Nat.reduceMul, Nat.reduceLeDiff, Nat.le_refl, Int.natCast_zero, Int.toNat_natCast, Int.reduceToNat, hab]
      refine Later.draw mixed rfl ?_
      simp -dsimp -implicitDefEqProofs only [go_sem, ↓reduceIte, Nat.reduceEqDiff, Nat.reduceLT, Nat.reduceAdd, Nat.reduceMul, Nat.reduceLeDiff, Nat.le_refl, Int.natCast_zero, Int.toNat_natCast, Int.reduceToNat, gx, gd, c1, c2]
      ((repeat' (with_reducible refine And.intro ?_ ?_)); all_goals try (first | omega | (refine ⟨?_, ?_⟩ <;> omega) | (exact rfl)))
    · rw [if_pos rfl]
      simp -dsimp -implicitDefEqProofs only [go_sem, ↓reduceIte, Nat.reduceEqDiff, Nat.reduceLT, Nat.reduceAdd, Nat.reduceMul, Nat.reduceLeDiff, Nat.le_refl, Int.natCast_zero, Int.toNat_natCast, Int.reduceToNat, hab]
      ((repeat' (with_reducible refine And.intro ?_ ?_)); all_goals try (first | omega | (refine ⟨?_, ?_⟩ <;> omega) | (exact rfl)))
      refine Later.draw mixed rfl ?_
      simp -dsimp -implicitDefEqProofs only [go_sem, ↓reduceIte, Nat.reduceEqDiff, Nat.reduceLT, Nat.reduceAdd, Nat.reduceMul, Nat.reduceLeDiff, Nat.le_refl, Int.natCast_zero, Int.toNat_natCast, Int.reduceToNat, gx, gd, c1, c2]
      ((repeat' (with_reducible refine And.intro ?_ ?_)); all_goals try (first | omega | (refine ⟨?_, ?_⟩ <;> omega) | (exact rfl)))
  · have hcv := g3 fl.length
    have c1 : decide (((chg fl d fl.length : Nat) : Int) > v) = false := decide_eq_false (by omega)
    generalize chg fl d fl.length = cc at *
    simp -dsimp -implicitDefEqProofs only [pick_nil, pick_cons, look_nil, look_cons, dropB_nil, dropB_cons, inD_nil, inD_cons, inE_nil, inE_cons, or_t_l, or_f_l, Nat.reduceBEq, Nat.reduceDiv, Nat.reduceAdd, beq_self_eq_true, Bool.false_eq_true, Bool.or_false, ↓reduceIte, Nat.reduceEqDiff, List.cons_append, List.nil_append]
    simp -dsimp -implicitDefEqProofs only [go_sem, ↓reduceIte, Nat.reduceEqDiff, Nat.reduceLT, Nat.reduceAdd, Nat.reduceMul, Nat.reduceLeDiff, Nat.le_refl, Int.natCast_zero, Int.toNat_natCast, Int.reduceToNat, nlt_len, c1]
    refine Later.up [3, 4, 5, 6, 10, 14] [196, 206, 211, 215] [] d.length (fun _ => True) (fun i => [(28, eI i)]) (fun _ => []) trivial ?_ rfl (fun i hi _ => ?_) (fun _ => ?_)
    · simp -dsimp -implicitDefEqProofs only [go_sem, ↓reduceIte, Nat.reduceEqDiff, Nat.reduceLT, Nat.reduceAdd, Nat.reduceMul, Nat.reduceLeDiff, Nat.le_refl, Int.natCast_zero, Int.toNat_natCast, Int.reduceToNat]
    · have hi2 : i < l.length := by omega
      have gl := get_some hi2
      have gd := get_some hi
      have lc : decide ((i : Int) < m.chambers) = true := decide_eq_true (by omega)
      have x1 := hm1 i hi
      have x2 := hm2 i hi
      have x3 := hmA i hi hi2
      have x4 := k3 _ (List.getElem_mem hi2)
      have y1 := c_hasInt ms (i : Int) (by omega)
      have y2 := c_hasInt l[i] d[i] (by omega)
      have y3 := c_hasInt sp (i : Int) (by omega)
      generalize has ms (i : Int) = b1 at *
      generalize has sp (i : Int) = b3 at *
      generalize l[i] = sl at *
      generalize d[i] = sd at *
      generalize has sl sd = b2 at *
      generalize marksAt l d i = b4 at *
      subst x1
      simp -dsimp -implicitDefEqProofs only [pick_nil, pick_cons, look_nil, look_cons, dropB_nil, dropB_cons, inD_nil, inD_cons, inE_nil, inE_cons, or_t_l, or_f_l, Nat.reduceBEq, Nat.reduceDiv, Nat.reduceAdd, beq_self_eq_true, Bool.false_eq_true, Bool.or_false, ↓reduceIte, Nat.reduceEqDiff, List.cons_append, List.nil_append]
      simp -dsimp -implicitDefEqProofs only [go_sem, ↓reduceIte, Nat.reduceEqDiff, Nat.reduceLT, Nat.reduceAdd, Nat.reduceMul, Nat.reduceLeDiff, Nat.le_refl, Int.natCast_zero, Int.toNat_natCast, Int.reduceToNat, lc]
      refine Later.draw mixed rfl ?_
      simp -dsimp -implicitDefEqProofs only [go_sem, ↓reduceIte, Nat.reduceEqDiff, Nat.reduceLT, Nat.reduceAdd, Nat.reduceMul, Nat.reduceLeDiff, Nat.le_refl, Int.natCast_zero, Int.toNat_natCast, Int.reduceToNat]
      refine sCallX_one y1 ?_
      simp -dsimp -implicitDefEqProofs only [go_sem, ↓reduceIte, Nat.reduceEqDiff, Nat.reduceLT, Nat.reduceAdd, Nat.reduceMul, Nat.reduceLeDiff, Nat.le_refl, Int.natCast_zero, Int.toNat_natCast, Int.reduceToNat, gl, gd]
      ((repeat' (with_reducible refine And.intro ?_ ?_)); all_goals try (first | omega | (refine ⟨?_, ?_⟩ <;> omega) | (exact rfl)))
      refine sCallX_one y2 ?_
      subst x3
      cases b2
      · simp -dsimp -implicitDefEqProofs only [go_sem, ↓reduceIte, Nat.reduceEqDiff, Nat.reduceLT, Nat.reduceAdd, Nat.reduceMul, Nat.reduceLeDiff, Nat.le_refl, Int.natCast_zero, Int.toNat_natCast, Int.reduceToNat, bTF]
        refine sCallX_one y3 ?_
        cases b3
        · simp -dsimp -implicitDefEqProofs only [go_sem, ↓reduceIte, Nat.reduceEqDiff, Nat.reduceLT, Nat.reduceAdd, Nat.reduceMul, Nat.reduceLeDiff, Nat.le_refl, Int.natCast_zero, Int.toNat_natCast, Int.reduceToNat]
          ((repeat' (with_reducible refine And.intro ?_ ?_)); all_goals try (first | omega | (refine ⟨?_, ?_⟩ <;> omega) | (exact rfl)))
        · simp -dsimp -implicitDefEqProofs only [go_sem, ↓reduceIte, Nat.reduceEqDiff, Nat.reduceLT, Nat.reduceAdd, Nat.reduceMul, Nat.reduceLeDiff, Nat.le_refl, Int.natCast_zero, Int.toNat_natCast, Int.reduceToNat]
          refine sCallX_one y1 ?_
          simp -dsimp -implicitDefEqProofs only [go_sem, ↓reduceIte, Nat.reduceEqDiff, Nat.reduceLT, Nat.reduceAdd, Nat.reduceMul, Nat.reduceLeDiff, Nat.le_refl, Int.natCast_zero, Int.toNat_natCast, Int.reduceToNat]
          ((repeat' (with_reducible refine And.intro ?_ ?_)); all_goals try (first | omega | (refine ⟨?_, ?_⟩ <;> omega) | (exact rfl)))
      · simp -dsimp -implicitDefEqProofs only [go_sem, ↓reduceIte, Nat.reduceEqDiff, Nat.reduceLT, Nat.reduceAdd, Nat.reduceMul, Nat.reduceLeDiff, Nat.le_refl, Int.natCast_zero, Int.toNat_natCast, Int.reduceToNat, bFT]
        refine sCallX_one y3 ?_
        cases b3
        · simp -dsimp -implicitDefEqProofs only [go_sem, ↓reduceIte, Nat.reduceEqDiff, Nat.reduceLT, Nat.reduceAdd, Nat.reduceMul, Nat.reduceLeDiff, Nat.le_refl, Int.natCast_zero, Int.toNat_natCast, Int.reduceToNat]
          ((repeat' (with_reducible refine And.intro ?_ ?_)); all_goals try (first | omega | (refine ⟨?_, ?_⟩ <;> omega) | (exact rfl)))
        · exact absurd (x2 rfl) (by simp)
    · have lc : decide ((d.length : Int) < m.chambers) = false := decide_eq_false (by omega)
      simp -dsimp -implicitDefEqProofs only [pick_nil, pick_cons, look_nil, look_cons, dropB_nil, dropB_cons, inD_nil, inD_cons, inE_nil, inE_cons, or_t_l, or_f_l, Nat.reduceBEq, Nat.reduceDiv, Nat.reduceAdd, beq_self_eq_true, Bool.false_eq_true, Bool.or_false, ↓reduceIte, Nat.reduceEqDiff, List.cons_append, List.nil_append]
      simp -dsimp -implicitDefEqProofs only [go_sem, ↓reduceIte, Nat.reduceEqDiff, Nat.reduceLT, Nat.reduceAdd, Nat.reduceMul, Nat.reduceLeDiff, Nat.le_refl, Int.natCast_zero, Int.toNat_natCast, Int.reduceToNat, lc]
end Go.Vc

