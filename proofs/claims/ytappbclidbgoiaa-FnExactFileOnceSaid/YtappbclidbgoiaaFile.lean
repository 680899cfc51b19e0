/-
  Contracts of the functions on filing.
-/
import Derived.Test.YtappbclidbgoiaaImp
set_option linter.unusedVariables false
set_option linter.unusedSimpArgs false
set_option linter.unnecessarySimpa false
namespace Go.Vc
open Go.Proofs
set_option maxRecDepth 100000
def fileSt (o : List Int) (c : Int) : List Int := o.set c.toNat (o.getD c.toNat 0 + 1)
def fileN (ms d : List Int) (k : Nat) : List Int := (ms.take k).foldl fileSt d
theorem fileN_zero (ms d : List Int) : fileN ms d 0 = d := by simp [fileN]
theorem fileN_succ (ms d : List Int) (i : Nat) (h : i < ms.length) : fileN ms d (i + 1) = (fileN ms d i).set ms[i].toNat ((fileN ms d i).getD ms[i].toNat 0 + 1) := by
  rw [fileN, List.take_succ_eq_append_getElem h, List.foldl_append]; rfl
theorem foldl_len (ms : List Int) : ∀ d : List Int, (ms.foldl fileSt d).length = d.length := by
  induction ms with
  | nil => intro d; rfl
  | cons x r ih => intro d; rw [List.foldl_cons, ih]; simp [fileSt]
theorem foldl_bnd (ms : List Int) : ∀ (d : List Int) (B : Int), (∀ x ∈ d, 0 ≤ x ∧ x ≤ B) → ∀ x ∈ ms.foldl fileSt d, 0 ≤ x ∧ x ≤ B + ms.length := by
  induction ms with
  | nil => intro d B h x hx; have := h x hx; simp; omega
  | cons c r ih =>
    intro d B h x hx
    rw [List.foldl_cons] at hx
    have := ih (fileSt d c) (B + 1) (fun y hy => by
      by_cases hc : c.toNat < d.length
      · rcases List.mem_or_eq_of_mem_set hy with hy | rfl
        · have := h y hy; omega
        · have := h _ (List.getElem_mem hc)
          simp [List.getD_eq_getElem?_getD, hc]; omega
      · have e : fileSt d c = d := by rw [fileSt, List.set_eq_of_length_le (by omega)]
        rw [e] at hy
        have := h y hy; omega) x hx
    simp only [List.length_cons]; omega
theorem fileN_len (ms d : List Int) (k : Nat) : (fileN ms d k).length = d.length := foldl_len _ _
theorem fileN_bnd (ms d : List Int) (k : Nat) (B : Int) (h : ∀ x ∈ d, 0 ≤ x ∧ x ≤ B) : ∀ x ∈ fileN ms d k, 0 ≤ x ∧ x ≤ B + k := by
  intro x hx
  have := foldl_bnd (ms.take k) d B h x hx
  rw [List.length_take] at this
  omega
attribute [irreducible] fileN
def seen (ms : List Int) (v : Int) : Nat := min ms.length v.toNat
def file (l : List (List Int)) (d : List Int) (v : Int) : List Int := fileN (marks l d) d (seen (marks l d) v)
theorem file_len (l : List (List Int)) (d : List Int) (v : Int) : (file l d v).length = d.length := fileN_len _ _ _
theorem marks_len (l : List (List Int)) (d : List Int) : (marks l d).length ≤ d.length := flt_len _ _
theorem file_bnd (l : List (List Int)) (d : List Int) (v : Int) (B : Int) (h : ∀ x ∈ d, 0 ≤ x ∧ x ≤ B) : ∀ x ∈ file l d v, 0 ≤ x ∧ x ≤ B + d.length := by
  intro x hx
  have := fileN_bnd _ _ _ B h x hx
  have h2 := marks_len l d
  have h3 : seen (marks l d) v ≤ (marks l d).length := Nat.min_le_left _ _
  omega
theorem marks_at (l : List (List Int)) (d : List Int) (i : Nat) (h : i < (marks l d).length) : 0 ≤ (marks l d)[i] ∧ (marks l d)[i] < d.length := by
  obtain ⟨j, h1, h2, _⟩ := flt_mem (List.getElem_mem h)
  omega
theorem c_l33File (l : List (List Int)) (d : List Int) (v : Int) (hl : d.length ≤ l.length) (hd : d.length ≤ 1000) (h2 : ∀ x ∈ l, x.length ≤ 1048576) (hv : 1 ≤ v ∧ v ≤ 6) (hb : ∀ x ∈ d, 0 ≤ x ∧ x ≤ 1000000) : Fn Try.prog 63 [eLk l, eIs d, eI v] true (· = eIs (file l d v)) := by
  refine Fn.of_vcN 36 [.tmp 6] Try.func63 rfl rfl rfl rfl rfl (of_decide_eq_true rfl) ?_
  simp -dsimp -implicitDefEqProofs only [go_sem, ↓reduceIte, Nat.reduceEqDiff, Nat.reduceLT, Nat.reduceAdd, Nat.reduceMul, Nat.reduceLeDiff, Nat.le_refl, Int.natCast_zero, Int.toNat_natCast, Int.reduceToNat]
  repeat' first
    | (with_reducible refine And.intro ?_ ?_)
    | (refine sCallT_one (c_l01Own d (by omega)) ?_; try simp -dsimp -implicitDefEqProofs only [go_sem, ↓reduceIte, Nat.reduceEqDiff, Nat.reduceLT, Nat.reduceAdd, Nat.reduceMul, Nat.reduceLeDiff, Nat.le_refl, Int.natCast_zero, Int.toNat_natCast, Int.reduceToNat, *])
    | (refine sCallT_one (c_l33Marks l d hl (by omega) h2) ?_; try simp -dsimp -implicitDefEqProofs only [go_sem, ↓reduceIte, Nat.reduceEqDiff, Nat.reduceLT, Nat.reduceAdd, Nat.reduceMul, Nat.reduceLeDiff, Nat.le_refl, Int.natCast_zero, Int.toNat_natCast, Int.reduceToNat, *])
  all_goals try omega
  have hml := marks_len l d
  refine Later.up [2, 7, 8] [17] [12000] (seen (marks l d) v) (fun _ => True) (fun i => [(9, eI i)]) (fun i => [(12000, .row 0 ⟨1, false⟩ true ((fileN (marks l d) d i).map eI))]) trivial ?_ rfl (fun i hi _ => ?_) (fun _ => ?_)
  · simp -dsimp -implicitDefEqProofs only [go_sem, ↓reduceIte, Nat.reduceEqDiff, Nat.reduceLT, Nat.reduceAdd, Nat.reduceMul, Nat.reduceLeDiff, Nat.le_refl, Int.natCast_zero, Int.toNat_natCast, Int.reduceToNat, fileN_zero]
    try simp
  · have hk : i < (marks l d).length := by unfold seen at hi; omega
    have hm := marks_at l d i hk
    have gm := get_some hk
    have hsucc := fileN_succ (marks l d) d i hk
    have hlen := fileN_len (marks l d) d i
    have hj : (marks l d)[i].toNat < (fileN (marks l d) d i).length := by omega
    have gj : (fileN (marks l d) d i)[(marks l d)[i].toNat]? = some ((fileN (marks l d) d i).getD (marks l d)[i].toNat 0) := by
      rw [List.getD_eq_getElem?_getD, List.getElem?_eq_getElem hj]; rfl
    have hbb := fileN_bnd (marks l d) d i 1000000 hb _ (List.mem_of_getElem? gj)
    have hml := marks_len l d
    have q1 : decide ((i : Int) < (marks l d).length) = true := decide_eq_true (by omega)
    have q2 : decide ((i : Int) < v) = true := decide_eq_true (by unfold seen at hi; omega)
    simp -dsimp -implicitDefEqProofs only [pick_nil, pick_cons, look_nil, look_cons, dropB_nil, dropB_cons, inD_nil, inD_cons, inE_nil, inE_cons, or_t_l, or_f_l, Nat.reduceBEq, Nat.reduceDiv, Nat.reduceAdd, beq_self_eq_true, Bool.false_eq_true, Bool.or_false, ↓reduceIte, Nat.reduceEqDiff, List.cons_append, List.nil_append]
    simp -dsimp -implicitDefEqProofs only [go_sem, ↓reduceIte, Nat.reduceEqDiff, Nat.reduceLT, Nat.reduceAdd, Nat.reduceMul, Nat.reduceLeDiff, Nat.le_refl, Int.natCast_zero, Int.toNat_natCast, Int.reduceToNat, q1, q2, gm, gj]
    repeat' first
      | (refine Br.intro (fun _ => ?_) (fun _ => ?_) <;> try simp -dsimp -implicitDefEqProofs only [go_sem, ↓reduceIte, Nat.reduceEqDiff, Nat.reduceLT, Nat.reduceAdd, Nat.reduceMul, Nat.reduceLeDiff, Nat.le_refl, Int.natCast_zero, Int.toNat_natCast, Int.reduceToNat, *])
      | (with_reducible refine And.intro ?_ ?_)
      | (refine Later.draw mixed rfl ?_; try simp -dsimp -implicitDefEqProofs only [go_sem, ↓reduceIte, Nat.reduceEqDiff, Nat.reduceLT, Nat.reduceAdd, Nat.reduceMul, Nat.reduceLeDiff, Nat.le_refl, Int.natCast_zero, Int.toNat_natCast, Int.reduceToNat, *])
    all_goals first
      | omega | (refine ⟨?_, ?_⟩ <;> omega) | (simp; done) | (simp; omega)
      | rfl
      | (rw [List.length_map, hlen]; omega)
      | (rw [hsucc, List.map_set])
      | trace_state
  · have hlen := fileN_len (marks l d) d (seen (marks l d) v)
    by_cases hc : (marks l d).length ≤ v.toNat
    · have e : seen (marks l d) v = (marks l d).length := Nat.min_eq_left hc
      have q1 : decide ((seen (marks l d) v : Int) < (marks l d).length) = false := decide_eq_false (by omega)
      simp -dsimp -implicitDefEqProofs only [pick_nil, pick_cons, look_nil, look_cons, dropB_nil, dropB_cons, inD_nil, inD_cons, inE_nil, inE_cons, or_t_l, or_f_l, Nat.reduceBEq, Nat.reduceDiv, Nat.reduceAdd, beq_self_eq_true, Bool.false_eq_true, Bool.or_false, ↓reduceIte, Nat.reduceEqDiff, List.cons_append, List.nil_append]
      simp -dsimp -implicitDefEqProofs only [go_sem, ↓reduceIte, Nat.reduceEqDiff, Nat.reduceLT, Nat.reduceAdd, Nat.reduceMul, Nat.reduceLeDiff, Nat.le_refl, Int.natCast_zero, Int.toNat_natCast, Int.reduceToNat, q1]
      repeat' (with_reducible refine And.intro ?_ ?_)
      all_goals first
        | omega | (refine ⟨?_, ?_⟩ <;> omega) | (simp; done) | (simp; omega)
        | rfl
        | (rw [List.length_map, hlen]; omega)
        | (rw [file, List.take_of_length_le (by simp [hlen])]; done)
        | trace_state
    · have e : seen (marks l d) v = v.toNat := Nat.min_eq_right (by omega)
      have q1 : decide ((seen (marks l d) v : Int) < (marks l d).length) = true := decide_eq_true (by omega)
      have q2 : decide ((seen (marks l d) v : Int) < v) = false := decide_eq_false (by omega)
      simp -dsimp -implicitDefEqProofs only [pick_nil, pick_cons, look_nil, look_cons, dropB_nil, dropB_cons, inD_nil, inD_cons, inE_nil, inE_cons, or_t_l, or_f_l, Nat.reduceBEq, Nat.reduceDiv, Nat.reduceAdd, beq_self_eq_true, Bool.false_eq_true, Bool.or_false, ↓reduceIte, Nat.reduceEqDiff, List.cons_append, List.nil_append]
      simp -dsimp -implicitDefEqProofs only [go_sem, ↓reduceIte, Nat.reduceEqDiff, Nat.reduceLT, Nat.reduceAdd, Nat.reduceMul, Nat.reduceLeDiff, Nat.le_refl, Int.natCast_zero, Int.toNat_natCast, Int.reduceToNat, q1, q2]
      repeat' (with_reducible refine And.intro ?_ ?_)
      all_goals first
        | omega | (refine ⟨?_, ?_⟩ <;> omega) | (simp; done) | (simp; omega)
        | rfl
        | (rw [List.length_map, hlen]; omega)
        | (rw [file, List.take_of_length_le (by simp [hlen])]; done)
        | trace_state
theorem c_file (l : List (List Int)) (d : List Int) (v : Int) (hl : d.length ≤ l.length) (hd : d.length ≤ 1000) (h2 : ∀ x ∈ l, x.length ≤ 1048576) (hv : 1 ≤ v ∧ v ≤ 6) (hb : ∀ x ∈ d, 0 ≤ x ∧ x ≤ 1000000) : Fn Try.prog 65 [eLk l, eIs d, eI v] true (· = eIs (file l d v)) := by
  refine Fn.of_vcN 35 [.tmp 6] Try.func65 rfl rfl rfl rfl rfl (of_decide_eq_true rfl) ?_
  have hml := marks_len l d
  have hse : (if v < ((marks l d).length : Int) then v else ((marks l d).length : Int)) = ((seen (marks l d) v : Nat) : Int) := by unfold seen; split <;> omega
  have hse2 : (if ((marks l d).length : Int) < v then ((marks l d).length : Int) else v) = ((seen (marks l d) v : Nat) : Int) := by unfold seen; split <;> omega
  have hs3 : seen (marks l d) v ≤ (marks l d).length := Nat.min_le_left _ _
  simp -dsimp -implicitDefEqProofs only [go_sem, ↓reduceIte, Nat.reduceEqDiff, Nat.reduceLT, Nat.reduceAdd, Nat.reduceMul, Nat.reduceLeDiff, Nat.le_refl, Int.natCast_zero, Int.toNat_natCast, Int.reduceToNat]
  repeat' first
    | (with_reducible refine And.intro ?_ ?_)
    | (refine Br.intro (fun _ => ?_) (fun _ => ?_) <;> try simp -dsimp -implicitDefEqProofs only [go_sem, ↓reduceIte, Nat.reduceEqDiff, Nat.reduceLT, Nat.reduceAdd, Nat.reduceMul, Nat.reduceLeDiff, Nat.le_refl, Int.natCast_zero, Int.toNat_natCast, Int.reduceToNat, *])
    | (refine Later.draw mixed rfl ?_; simp -dsimp -implicitDefEqProofs only [go_sem, ↓reduceIte, Nat.reduceEqDiff, Nat.reduceLT, Nat.reduceAdd, Nat.reduceMul, Nat.reduceLeDiff, Nat.le_refl, Int.natCast_zero, Int.toNat_natCast, Int.reduceToNat])
    | (refine sCallX_one (c_CloneI d (by omega)) ?_; try simp -dsimp -implicitDefEqProofs only [go_sem, ↓reduceIte, Nat.reduceEqDiff, Nat.reduceLT, Nat.reduceAdd, Nat.reduceMul, Nat.reduceLeDiff, Nat.le_refl, Int.natCast_zero, Int.toNat_natCast, Int.reduceToNat])
    | (refine sCallX_one (c_marksOf l d hl (by omega) h2) ?_; try simp -dsimp -implicitDefEqProofs only [go_sem, ↓reduceIte, Nat.reduceEqDiff, Nat.reduceLT, Nat.reduceAdd, Nat.reduceMul, Nat.reduceLeDiff, Nat.le_refl, Int.natCast_zero, Int.toNat_natCast, Int.reduceToNat])
    | (refine sCallT_one (c_CloneI d (by omega)) ?_; try simp -dsimp -implicitDefEqProofs only [go_sem, ↓reduceIte, Nat.reduceEqDiff, Nat.reduceLT, Nat.reduceAdd, Nat.reduceMul, Nat.reduceLeDiff, Nat.le_refl, Int.natCast_zero, Int.toNat_natCast, Int.reduceToNat])
    | (refine sCallT_one (c_marksOf l d hl (by omega) h2) ?_; try simp -dsimp -implicitDefEqProofs only [go_sem, ↓reduceIte, Nat.reduceEqDiff, Nat.reduceLT, Nat.reduceAdd, Nat.reduceMul, Nat.reduceLeDiff, Nat.le_refl, Int.natCast_zero, Int.toNat_natCast, Int.reduceToNat])
  all_goals try rfl
  all_goals try simp -dsimp -implicitDefEqProofs only [go_sem, ↓reduceIte, Nat.reduceEqDiff, Nat.reduceLT, Nat.reduceAdd, Nat.reduceMul, Nat.reduceLeDiff, Nat.le_refl, Int.natCast_zero, Int.toNat_natCast, Int.reduceToNat, hse, hse2, Option.map_none, Option.map_some, Nat.sub_zero]
  repeat' (with_reducible refine And.intro ?_ ?_)
  all_goals try omega
  refine Later.up [7, 21, 22] [] [13000] (seen (marks l d) v) (fun _ => True) (fun i => [(23, eI i)]) (fun i => [(13000, .row 0 ⟨1, false⟩ true ((fileN (marks l d) d i).map eI))]) trivial ?_ rfl (fun i hi _ => ?_) (fun _ => ?_)
  · simp -dsimp -implicitDefEqProofs only [go_sem, ↓reduceIte, Nat.reduceEqDiff, Nat.reduceLT, Nat.reduceAdd, Nat.reduceMul, Nat.reduceLeDiff, Nat.le_refl, Int.natCast_zero, Int.toNat_natCast, Int.reduceToNat, fileN_zero]
    try (simp; done)
  · have hk : i < (marks l d).length := by unfold seen at hi; omega
    have hm := marks_at l d i hk
    have gm := get_some hk
    have hsucc := fileN_succ (marks l d) d i hk
    have hlen := fileN_len (marks l d) d i
    have hj : (marks l d)[i].toNat < (fileN (marks l d) d i).length := by omega
    have gj : (fileN (marks l d) d i)[(marks l d)[i].toNat]? = some ((fileN (marks l d) d i).getD (marks l d)[i].toNat 0) := by
      rw [List.getD_eq_getElem?_getD, List.getElem?_eq_getElem hj]; rfl
    have hbb := fileN_bnd (marks l d) d i 1000000 hb _ (List.mem_of_getElem? gj)
    have hml := marks_len l d
    have q1 : decide ((i : Int) < (seen (marks l d) v : Int)) = true := decide_eq_true (by omega)
    simp -dsimp -implicitDefEqProofs only [pick_nil, pick_cons, look_nil, look_cons, dropB_nil, dropB_cons, inD_nil, inD_cons, inE_nil, inE_cons, or_t_l, or_f_l, Nat.reduceBEq, Nat.reduceDiv, Nat.reduceAdd, beq_self_eq_true, Bool.false_eq_true, Bool.or_false, ↓reduceIte, Nat.reduceEqDiff, List.cons_append, List.nil_append]
    simp -dsimp -implicitDefEqProofs only [go_sem, ↓reduceIte, Nat.reduceEqDiff, Nat.reduceLT, Nat.reduceAdd, Nat.reduceMul, Nat.reduceLeDiff, Nat.le_refl, Int.natCast_zero, Int.toNat_natCast, Int.reduceToNat, q1, gm, gj, Nat.sub_zero]
    repeat' first
      | (refine Br.intro (fun _ => ?_) (fun _ => ?_) <;> try simp -dsimp -implicitDefEqProofs only [go_sem, ↓reduceIte, Nat.reduceEqDiff, Nat.reduceLT, Nat.reduceAdd, Nat.reduceMul, Nat.reduceLeDiff, Nat.le_refl, Int.natCast_zero, Int.toNat_natCast, Int.reduceToNat, *])
      | (with_reducible refine And.intro ?_ ?_)
      | (refine Later.draw mixed rfl ?_; try simp -dsimp -implicitDefEqProofs only [go_sem, ↓reduceIte, Nat.reduceEqDiff, Nat.reduceLT, Nat.reduceAdd, Nat.reduceMul, Nat.reduceLeDiff, Nat.le_refl, Int.natCast_zero, Int.toNat_natCast, Int.reduceToNat, *])
    all_goals first
      | omega | (refine ⟨?_, ?_⟩ <;> omega) | (simp; done) | (simp; omega)
      | rfl
      | (rw [List.length_map, hlen]; omega)
      | (rw [hsucc, List.map_set])
      | trace_state
  · have hlen := fileN_len (marks l d) d (seen (marks l d) v)
    have q1 : decide ((seen (marks l d) v : Int) < (seen (marks l d) v : Int)) = false := decide_eq_false (by omega)
    simp -dsimp -implicitDefEqProofs only [pick_nil, pick_cons, look_nil, look_cons, dropB_nil, dropB_cons, inD_nil, inD_cons, inE_nil, inE_cons, or_t_l, or_f_l, Nat.reduceBEq, Nat.reduceDiv, Nat.reduceAdd, beq_self_eq_true, Bool.false_eq_true, Bool.or_false, ↓reduceIte, Nat.reduceEqDiff, List.cons_append, List.nil_append]
    simp -dsimp -implicitDefEqProofs only [go_sem, ↓reduceIte, Nat.reduceEqDiff, Nat.reduceLT, Nat.reduceAdd, Nat.reduceMul, Nat.reduceLeDiff, Nat.le_refl, Int.natCast_zero, Int.toNat_natCast, Int.reduceToNat, q1, Nat.sub_zero]
    repeat' (with_reducible refine And.intro ?_ ?_)
    all_goals first
      | omega | (refine ⟨?_, ?_⟩ <;> omega) | (simp; done) | (simp; omega)
      | rfl
      | (rw [List.length_map, hlen]; omega)
      | (rw [file, List.take_of_length_le (by simp [hlen])]; done)
      | trace_state
theorem sum_set_succ : ∀ (o : List Int) (i : Nat), i < o.length → (o.set i (o.getD i 0 + 1)).sum = o.sum + 1
  | x :: r, 0, _ => by simp; omega
  | x :: r, i + 1, h => by
    have := sum_set_succ r i (by simpa using h)
    simp only [List.set_cons_succ, List.getD_cons_succ, List.sum_cons, this]; omega
theorem flt_at {p : Nat → Bool} {n i : Nat} (h : i < (flt p n).length) : ∃ j : Nat, j < n ∧ (flt p n)[i] = j ∧ p j = true := flt_mem (List.getElem_mem h)
/-- depths on the way of a blank -/
structure Way (l : List (List Int)) (d : List Int) : Prop where
  len : d.length = l.length
  bnd : ∀ (c : Nat) (h : c < d.length), 0 ≤ d[c] ∧ d[c] ≤ (blank l).getD c 0
theorem has_self {xs : List Int} (h : 0 < xs.length) : has xs (xs.getD 0 0) = true := by
  have e : xs.getD 0 0 = xs[0] := by simp [List.getD_eq_getElem?_getD, h]
  rw [e, has, all_no (p := fun y => !(y == xs[0])) h (by simp)]; rfl
theorem fileN_way {l : List (List Int)} {d : List Int} (hs : ∀ x ∈ l, 0 < x.length) (w : Way l d) : ∀ k, k ≤ (marks l d).length →
    Way l (fileN (marks l d) d k) ∧ (fileN (marks l d) d k).sum = d.sum + k ∧ ∀ i (h : i < (marks l d).length), k ≤ i → ∀ j : Nat, (marks l d)[i] = j → (fileN (marks l d) d k).getD j 0 = d.getD j 0
  | 0, _ => by rw [fileN_zero]; exact ⟨w, by simp, fun _ _ _ _ _ => rfl⟩
  | k + 1, hk => by
    obtain ⟨w1, h1, h2⟩ := fileN_way hs w k (by omega)
    have hk1 : k < (marks l d).length := by omega
    obtain ⟨j, j1, j2, j3⟩ := flt_at (p := marksAt l d) (n := d.length) (i := k) hk1
    have j2 : (marks l d)[k] = (j : Int) := j2
    have hl := fileN_len (marks l d) d k
    have hjl : j < (fileN (marks l d) d k).length := by omega
    have hv := h2 k hk1 (Nat.le_refl _) j j2
    rw [fileN_succ _ _ _ hk1, j2, Int.toNat_natCast]
    have hjd : d[j] < (blank l).getD j 0 := by
      have hb := (w.bnd j j1).2
      by_cases e : d[j] = (blank l).getD j 0
      · exfalso
        have hjl2 : j < l.length := by rw [← w.len]; exact j1
        have e2 : (blank l).getD j 0 = (l[j]).getD 0 0 := by simp [blank, List.getD_eq_getElem?_getD, hjl2]
        have := has_self (hs l[j] (List.getElem_mem hjl2))
        simp only [marksAt, Bool.not_eq_true', List.getD_eq_getElem?_getD, List.getElem?_eq_getElem hjl2, List.getElem?_eq_getElem j1, Option.getD_some] at j3
        rw [e, e2, this] at j3; cases j3
      · omega
    have hg : (fileN (marks l d) d k).getD j 0 = d[j] := by rw [hv, List.getD_eq_getElem?_getD, List.getElem?_eq_getElem j1]; rfl
    refine ⟨⟨by rw [List.length_set]; exact w1.len, fun c hc => ?_⟩, ?_, fun i hi hki q hq => ?_⟩
    · have hc' : c < (fileN (marks l d) d k).length := by simpa using hc
      rw [List.getElem_set]
      split
      · rename_i e; subst e
        rw [hg]
        have := (w.bnd j j1).1
        omega
      · exact w1.bnd c hc'
    · rw [sum_set_succ _ _ hjl, h1]; omega
    · have hne : j ≠ q := by
        intro e
        subst e
        have hnd : (marks l d).Nodup := by
          rw [marks]
          exact flt_nodup _ _
        have : k = i := (List.getElem_inj hnd).1 (j2.trans hq.symm)
        omega
      rw [List.getD_eq_getElem?_getD, List.getElem?_set_ne hne, ← List.getD_eq_getElem?_getD]
      exact h2 i hi (by omega) q hq
theorem way_sum {m : MkM} {l : List (List Int)} {d : List Int} (hl : isLk m l = true) (w : Way l d) : d.sum ≤ 42 := by
  have hb : ∀ x ∈ d, x ≤ 7 := by
    intro x hx
    obtain ⟨c, hc, rfl⟩ := List.getElem_of_mem hx
    have h1 := (w.bnd c hc).2
    have hc2 : c < l.length := by rw [← w.len]; exact hc
    have h2 := isLk_set hl hc2
    have h3 := rises_at h2.2 (j := 0) h2.1
    have h4 := isLk_dep hl
    have e2 : (blank l).getD c 0 = l[c][0] := by simp [blank, List.getD_eq_getElem?_getD, hc2, h2.1]
    omega
  have key : ∀ d : List Int, (∀ x ∈ d, x ≤ 7) → d.sum ≤ 7 * d.length := by
    intro d
    induction d with
    | nil => intro _; simp
    | cons x r ih =>
      intro h
      have := ih fun y hy => h y (List.mem_cons_of_mem _ hy)
      have := h x (List.mem_cons_self ..)
      simp only [List.sum_cons, List.length_cons]; omega
  have := key d hb
  have := (isLk_len hl).2
  have := w.len
  omega
def itF (l : List (List Int)) (v : Int) : Nat → List Int
  | 0 => List.replicate l.length 0
  | k + 1 => file l (itF l v k) v
theorem itF_way {m : MkM} {l : List (List Int)} (hl : isLk m l = true) (v : Int) : ∀ k, Way l (itF l v k)
  | 0 => by
    refine ⟨by simp [itF], fun c hc => ?_⟩
    have hc2 : c < l.length := by simpa [itF] using hc
    have h2 := isLk_set hl hc2
    have h3 := rises_at h2.2 (j := 0) h2.1
    have e2 : (blank l).getD c 0 = l[c][0] := by simp [blank, List.getD_eq_getElem?_getD, hc2, h2.1]
    rw [e2]
    simp [itF]; omega
  | k + 1 => (fileN_way (fun x hx => by obtain ⟨i, hi, rfl⟩ := List.getElem_of_mem hx; exact (isLk_set hl hi).1) (itF_way hl v k) _ (Nat.min_le_left _ _)).1
theorem itF_sum {m : MkM} {l : List (List Int)} (hl : isLk m l = true) {v : Int} (hv : 1 ≤ v) (k : Nat) (hm : (marks l (itF l v k)).length ≠ 0) : (itF l v k).sum + 1 ≤ (itF l v (k + 1)).sum := by
  have := (fileN_way (fun x hx => by obtain ⟨i, hi, rfl⟩ := List.getElem_of_mem hx; exact (isLk_set hl hi).1) (itF_way hl v k) (seen (marks l (itF l v k)) v) (Nat.min_le_left _ _)).2.1
  rw [itF, file, this]
  have : 1 ≤ seen (marks l (itF l v k)) v := by unfold seen; omega
  omega
/-- the first turn from k on, of f turns, at which there are no marks -/
def tk (l : List (List Int)) (v : Int) : Nat → Nat → Nat
  | 0, k => k
  | f + 1, k => if (marks l (itF l v k)).length = 0 then k else tk l v f (k + 1)
def turnsOf (l : List (List Int)) (v : Int) : Nat := tk l v 60 0
/-- what holds at the head of the loop over the turns -/
structure Turn (l : List (List Int)) (v : Int) (k : Nat) : Prop where
  sum : (k : Int) ≤ (itF l v k).sum
  rest : tk l v (60 - k) k = turnsOf l v
theorem Turn.zero (l : List (List Int)) (v : Int) : Turn l v 0 := ⟨by simp [itF], rfl⟩
theorem Turn.le {m : MkM} {l : List (List Int)} (hl : isLk m l = true) {v : Int} {k : Nat} (h : Turn l v k) : k ≤ 42 := by
  have := way_sum hl (itF_way hl v k)
  have := h.sum
  omega
theorem Turn.next {m : MkM} {l : List (List Int)} (hl : isLk m l = true) {v : Int} (hv : 1 ≤ v) {k : Nat} (h : Turn l v k) (hm : (marks l (itF l v k)).length ≠ 0) : Turn l v (k + 1) := by
  have h1 := itF_sum hl hv k hm
  have h2 := h.sum
  have h3 := h.le hl
  refine ⟨by omega, ?_⟩
  have h4 := h.rest
  rw [show 60 - k = (60 - (k + 1)) + 1 by omega, tk, if_neg hm] at h4
  exact h4
theorem Turn.done {m : MkM} {l : List (List Int)} (hl : isLk m l = true) {v : Int} {k : Nat} (h : Turn l v k) (hm : (marks l (itF l v k)).length = 0) : turnsOf l v = k := by
  have h3 := h.le hl
  have h4 := h.rest
  rw [show 60 - k = (60 - (k + 1)) + 1 by omega, tk, if_pos hm] at h4
  exact h4.symm
def fileOnce (m : MkM) (l : List (List Int)) (d : List Int) (v : Int) : List Int × Int :=
  if impCode m l d = 0 then (if isIn v 1 6 then (if (spoilt l d).length = 0 then (file l d v, 0) else ([], 5)) else ([], 2)) else ([], impCode m l d)
theorem depCode_eq (m : MkM) (l : List (List Int)) (d : List Int) (v : Int) : depCode m l d v = if impCode m l d = 0 then (if isIn v 1 6 then 0 else 2) else impCode m l d := by
  unfold depCode impCode
  cases isLk m l <;> cases isCuts m d <;> cases isIn v 1 6 <;> simp
theorem cuts_bnd {m : MkM} {l : List (List Int)} {d : List Int} (hl : isLk m l = true) (hc : isCuts m d = true) : d.length ≤ 1000 ∧ ∀ x ∈ d, 0 ≤ x ∧ x ≤ 1000000 := by
  have h1 := isCuts_len hl hc
  have h2 := (isLk_len hl).2
  have h3 := isLk_dep hl
  refine ⟨by omega, fun x hx => ?_⟩
  simp only [isCuts, Bool.and_eq_true] at hc
  have := List.all_eq_true.1 hc.2 x hx
  simp [isIn] at this
  omega
theorem c_l33Visible (v : Int) : Fn Try.prog 67 [eI v] true (· = eB (isIn v 1 6)) := by
  refine Fn.of_vcN 5 [.tmp 2] Try.func67 rfl rfl rfl rfl rfl (of_decide_eq_true rfl) ?_
  simp -dsimp -implicitDefEqProofs only [go_sem, ↓reduceIte, Nat.reduceEqDiff, Nat.reduceLT, Nat.reduceAdd, Nat.reduceMul, Nat.reduceLeDiff, Nat.le_refl, Int.natCast_zero, Int.toNat_natCast, Int.reduceToNat]
  repeat' first
    | (refine Br.intro (fun _ => ?_) (fun _ => ?_) <;> try simp -dsimp -implicitDefEqProofs only [go_sem, ↓reduceIte, Nat.reduceEqDiff, Nat.reduceLT, Nat.reduceAdd, Nat.reduceMul, Nat.reduceLeDiff, Nat.le_refl, Int.natCast_zero, Int.toNat_natCast, Int.reduceToNat, *])
    | (refine sCallT_one (c_l01In _ _ _) ?_; try simp -dsimp -implicitDefEqProofs only [go_sem, ↓reduceIte, Nat.reduceEqDiff, Nat.reduceLT, Nat.reduceAdd, Nat.reduceMul, Nat.reduceLeDiff, Nat.le_refl, Int.natCast_zero, Int.toNat_natCast, Int.reduceToNat, *])
theorem c_sFileOnce (m : MkM) (l : List (List Int)) (d : List Int) (v : Int) (h : l.length ≤ 1048576) (h2 : ∀ x ∈ l, x.length ≤ 1048576) (hd : d.length ≤ 1048576) : Fn Try.prog 36 [eMk m, eLk l, eIs d, eI v] true (· = .tup [eIs (fileOnce m l d v).1, eI (fileOnce m l d v).2]) := by
  refine Fn.of_vcN 38 [.tmp 8, .tmp 9] Try.func36 rfl rfl rfl rfl rfl (of_decide_eq_true rfl) ?_
  have hdc := depCode_eq m l d v
  by_cases hb : impCode m l d = 0
  · obtain ⟨k1, k2, k3⟩ := impCode_zero hb
    obtain ⟨q1, q2, q3⟩ := blank_ok k1
    obtain ⟨d1, d2⟩ := cuts_bnd k1 k2
    rw [if_pos hb] at hdc
    by_cases hv : isIn v 1 6 = true
    · have hv6 : 1 ≤ v ∧ v ≤ 6 := by simp [isIn] at hv; omega
      rw [if_pos hv] at hdc
      simp -dsimp -implicitDefEqProofs only [go_sem, ↓reduceIte, Nat.reduceEqDiff, Nat.reduceLT, Nat.reduceAdd, Nat.reduceMul, Nat.reduceLeDiff, Nat.le_refl, Int.natCast_zero, Int.toNat_natCast, Int.reduceToNat]
      repeat' first
      | (refine Br.intro (fun _ => ?_) (fun _ => ?_) <;> try simp -dsimp -implicitDefEqProofs only [go_sem, ↓reduceIte, Nat.reduceEqDiff, Nat.reduceLT, Nat.reduceAdd, Nat.reduceMul, Nat.reduceLeDiff, Nat.le_refl, Int.natCast_zero, Int.toNat_natCast, Int.reduceToNat, *])
      | (with_reducible refine And.intro ?_ ?_)
      | (refine sCallT_one (c_l33Code m l d h h2 hd) ?_; try simp -dsimp -implicitDefEqProofs only [go_sem, ↓reduceIte, Nat.reduceEqDiff, Nat.reduceLT, Nat.reduceAdd, Nat.reduceMul, Nat.reduceLeDiff, Nat.le_refl, Int.natCast_zero, Int.toNat_natCast, Int.reduceToNat, *])
      | (refine sCallT_one (c_l33Visible v) ?_; try simp -dsimp -implicitDefEqProofs only [go_sem, ↓reduceIte, Nat.reduceEqDiff, Nat.reduceLT, Nat.reduceAdd, Nat.reduceMul, Nat.reduceLeDiff, Nat.le_refl, Int.natCast_zero, Int.toNat_natCast, Int.reduceToNat, *])
      | (refine sCallT_one (c_l33Spoilt l d k3 hd h2 q1) ?_; try simp -dsimp -implicitDefEqProofs only [go_sem, ↓reduceIte, Nat.reduceEqDiff, Nat.reduceLT, Nat.reduceAdd, Nat.reduceMul, Nat.reduceLeDiff, Nat.le_refl, Int.natCast_zero, Int.toNat_natCast, Int.reduceToNat, *])
      | (refine sCallT_one (c_l33File l d v k3 d1 h2 hv6 d2) ?_; try simp -dsimp -implicitDefEqProofs only [go_sem, ↓reduceIte, Nat.reduceEqDiff, Nat.reduceLT, Nat.reduceAdd, Nat.reduceMul, Nat.reduceLeDiff, Nat.le_refl, Int.natCast_zero, Int.toNat_natCast, Int.reduceToNat, *])
      | (refine sCallX_one (c_l33Code m l d h h2 hd) ?_; try simp -dsimp -implicitDefEqProofs only [go_sem, ↓reduceIte, Nat.reduceEqDiff, Nat.reduceLT, Nat.reduceAdd, Nat.reduceMul, Nat.reduceLeDiff, Nat.le_refl, Int.natCast_zero, Int.toNat_natCast, Int.reduceToNat, *])
      | (refine sCallX_one (c_l33Visible v) ?_; try simp -dsimp -implicitDefEqProofs only [go_sem, ↓reduceIte, Nat.reduceEqDiff, Nat.reduceLT, Nat.reduceAdd, Nat.reduceMul, Nat.reduceLeDiff, Nat.le_refl, Int.natCast_zero, Int.toNat_natCast, Int.reduceToNat, *])
      | (refine sCallX_one (c_l33Spoilt l d k3 hd h2 q1) ?_; try simp -dsimp -implicitDefEqProofs only [go_sem, ↓reduceIte, Nat.reduceEqDiff, Nat.reduceLT, Nat.reduceAdd, Nat.reduceMul, Nat.reduceLeDiff, Nat.le_refl, Int.natCast_zero, Int.toNat_natCast, Int.reduceToNat, *])
      | (refine sCallX_one (c_l33File l d v k3 d1 h2 hv6 d2) ?_; try simp -dsimp -implicitDefEqProofs only [go_sem, ↓reduceIte, Nat.reduceEqDiff, Nat.reduceLT, Nat.reduceAdd, Nat.reduceMul, Nat.reduceLeDiff, Nat.le_refl, Int.natCast_zero, Int.toNat_natCast, Int.reduceToNat, *])
      | (refine Later.draw mixed rfl ?_; try simp -dsimp -implicitDefEqProofs only [go_sem, ↓reduceIte, Nat.reduceEqDiff, Nat.reduceLT, Nat.reduceAdd, Nat.reduceMul, Nat.reduceLeDiff, Nat.le_refl, Int.natCast_zero, Int.toNat_natCast, Int.reduceToNat, *])
      all_goals first
        | omega | (refine ⟨?_, ?_⟩ <;> omega) | (simp; done) | (simp; omega)
        | rfl
        | (have hne := of_decide_eq_true ‹decide (((spoilt l d).length : Int) > 0) = true›
           have h0 : ¬ (spoilt l d).length = 0 := by omega
           simp [fileOnce, hb, hv, h0]; done)
        | (have hne := of_decide_eq_false ‹decide (((spoilt l d).length : Int) > 0) = false›
           have h0 : (spoilt l d).length = 0 := by omega
           simp [fileOnce, hb, hv, h0]; done)
        | (simp_all [fileOnce]; done)
        | trace_state
    · rw [if_neg hv] at hdc
      simp -dsimp -implicitDefEqProofs only [go_sem, ↓reduceIte, Nat.reduceEqDiff, Nat.reduceLT, Nat.reduceAdd, Nat.reduceMul, Nat.reduceLeDiff, Nat.le_refl, Int.natCast_zero, Int.toNat_natCast, Int.reduceToNat]
      repeat' first
      | (refine Br.intro (fun _ => ?_) (fun _ => ?_) <;> try simp -dsimp -implicitDefEqProofs only [go_sem, ↓reduceIte, Nat.reduceEqDiff, Nat.reduceLT, Nat.reduceAdd, Nat.reduceMul, Nat.reduceLeDiff, Nat.le_refl, Int.natCast_zero, Int.toNat_natCast, Int.reduceToNat, *])
      | (with_reducible refine And.intro ?_ ?_)
      | (refine sCallT_one (c_l33Code m l d h h2 hd) ?_; try simp -dsimp -implicitDefEqProofs only [go_sem, ↓reduceIte, Nat.reduceEqDiff, Nat.reduceLT, Nat.reduceAdd, Nat.reduceMul, Nat.reduceLeDiff, Nat.le_refl, Int.natCast_zero, Int.toNat_natCast, Int.reduceToNat, *])
      | (refine sCallT_one (c_l33Visible v) ?_; try simp -dsimp -implicitDefEqProofs only [go_sem, ↓reduceIte, Nat.reduceEqDiff, Nat.reduceLT, Nat.reduceAdd, Nat.reduceMul, Nat.reduceLeDiff, Nat.le_refl, Int.natCast_zero, Int.toNat_natCast, Int.reduceToNat, *])
      | (refine sCallT_one (c_l33Spoilt l d k3 hd h2 q1) ?_; try simp -dsimp -implicitDefEqProofs only [go_sem, ↓reduceIte, Nat.reduceEqDiff, Nat.reduceLT, Nat.reduceAdd, Nat.reduceMul, Nat.reduceLeDiff, Nat.le_refl, Int.natCast_zero, Int.toNat_natCast, Int.reduceToNat, *])
      all_goals first
        | omega | (refine ⟨?_, ?_⟩ <;> omega) | (simp; done) | (simp; omega)
        | rfl
        | (simp_all [fileOnce]; done)
        | trace_state
  · rw [if_neg hb] at hdc
    simp -dsimp -implicitDefEqProofs only [go_sem, ↓reduceIte, Nat.reduceEqDiff, Nat.reduceLT, Nat.reduceAdd, Nat.reduceMul, Nat.reduceLeDiff, Nat.le_refl, Int.natCast_zero, Int.toNat_natCast, Int.reduceToNat]
    repeat' first
    | (refine Br.intro (fun _ => ?_) (fun _ => ?_) <;> try simp -dsimp -implicitDefEqProofs only [go_sem, ↓reduceIte, Nat.reduceEqDiff, Nat.reduceLT, Nat.reduceAdd, Nat.reduceMul, Nat.reduceLeDiff, Nat.le_refl, Int.natCast_zero, Int.toNat_natCast, Int.reduceToNat, *])
    | (with_reducible refine And.intro ?_ ?_)
    | (refine sCallT_one (c_l33Code m l d h h2 hd) ?_; try simp -dsimp -implicitDefEqProofs only [go_sem, ↓reduceIte, Nat.reduceEqDiff, Nat.reduceLT, Nat.reduceAdd, Nat.reduceMul, Nat.reduceLeDiff, Nat.le_refl, Int.natCast_zero, Int.toNat_natCast, Int.reduceToNat, *])
    all_goals first
      | omega | (refine ⟨?_, ?_⟩ <;> omega) | (simp; done) | (simp; omega)
      | rfl
      | (simp_all [fileOnce]; done)
      | trace_state
theorem c_iFileOnce (m : MkM) (l : List (List Int)) (d : List Int) (v : Int) (h : l.length ≤ 1048576) (h2 : ∀ x ∈ l, x.length ≤ 1048576) (hd : d.length ≤ 1048576) : Fn Try.prog 37 [eMk m, eLk l, eIs d, eI v] true (· = .tup [eIs (fileOnce m l d v).1, eI (fileOnce m l d v).2]) := by
  refine Fn.of_vcN 28 [.tmp 8, .tmp 9] Try.func37 rfl rfl rfl rfl rfl (of_decide_eq_true rfl) ?_
  have hdc := depCode_eq m l d v
  by_cases hb : impCode m l d = 0
  · obtain ⟨k1, k2, k3⟩ := impCode_zero hb
    obtain ⟨q1, q2, q3⟩ := blank_ok k1
    obtain ⟨d1, d2⟩ := cuts_bnd k1 k2
    rw [if_pos hb] at hdc
    by_cases hv : isIn v 1 6 = true
    · have hv6 : 1 ≤ v ∧ v ≤ 6 := by simp [isIn] at hv; omega
      rw [if_pos hv] at hdc
      simp -dsimp -implicitDefEqProofs only [go_sem, ↓reduceIte, Nat.reduceEqDiff, Nat.reduceLT, Nat.reduceAdd, Nat.reduceMul, Nat.reduceLeDiff, Nat.le_refl, Int.natCast_zero, Int.toNat_natCast, Int.reduceToNat]
      repeat' first
      | (refine Br.intro (fun _ => ?_) (fun _ => ?_) <;> try simp -dsimp -implicitDefEqProofs only [go_sem, ↓reduceIte, Nat.reduceEqDiff, Nat.reduceLT, Nat.reduceAdd, Nat.reduceMul, Nat.reduceLeDiff, Nat.le_refl, Int.natCast_zero, Int.toNat_natCast, Int.reduceToNat, *])
      | (with_reducible refine And.intro ?_ ?_)
      | (refine sCallT_one (c_depthsCode m l d v h h2 hd) ?_; rw [hdc]; try simp -dsimp -implicitDefEqProofs only [go_sem, ↓reduceIte, Nat.reduceEqDiff, Nat.reduceLT, Nat.reduceAdd, Nat.reduceMul, Nat.reduceLeDiff, Nat.le_refl, Int.natCast_zero, Int.toNat_natCast, Int.reduceToNat])
      | (refine sCallT_one (c_spoilt l d k3 hd h2 q1) ?_; try simp -dsimp -implicitDefEqProofs only [go_sem, ↓reduceIte, Nat.reduceEqDiff, Nat.reduceLT, Nat.reduceAdd, Nat.reduceMul, Nat.reduceLeDiff, Nat.le_refl, Int.natCast_zero, Int.toNat_natCast, Int.reduceToNat, *])
      | (refine sCallT_one (c_file l d v k3 d1 h2 hv6 d2) ?_; try simp -dsimp -implicitDefEqProofs only [go_sem, ↓reduceIte, Nat.reduceEqDiff, Nat.reduceLT, Nat.reduceAdd, Nat.reduceMul, Nat.reduceLeDiff, Nat.le_refl, Int.natCast_zero, Int.toNat_natCast, Int.reduceToNat, *])
      | (refine sCallX_one (c_spoilt l d k3 hd h2 q1) ?_; try simp -dsimp -implicitDefEqProofs only [go_sem, ↓reduceIte, Nat.reduceEqDiff, Nat.reduceLT, Nat.reduceAdd, Nat.reduceMul, Nat.reduceLeDiff, Nat.le_refl, Int.natCast_zero, Int.toNat_natCast, Int.reduceToNat, *])
      | (refine sCallX_one (c_file l d v k3 d1 h2 hv6 d2) ?_; try simp -dsimp -implicitDefEqProofs only [go_sem, ↓reduceIte, Nat.reduceEqDiff, Nat.reduceLT, Nat.reduceAdd, Nat.reduceMul, Nat.reduceLeDiff, Nat.le_refl, Int.natCast_zero, Int.toNat_natCast, Int.reduceToNat, *])
      | (refine Later.draw mixed rfl ?_; try simp -dsimp -implicitDefEqProofs only [go_sem, ↓reduceIte, Nat.reduceEqDiff, Nat.reduceLT, Nat.reduceAdd, Nat.reduceMul, Nat.reduceLeDiff, Nat.le_refl, Int.natCast_zero, Int.toNat_natCast, Int.reduceToNat, *])
      all_goals first
        | omega | (refine ⟨?_, ?_⟩ <;> omega) | (simp; done) | (simp; omega)
        | rfl
        | (have hne := of_decide_eq_true ‹decide (((spoilt l d).length : Int) > 0) = true›
           have h0 : ¬ (spoilt l d).length = 0 := by omega
           simp [fileOnce, hb, hv, h0]; done)
        | (have hne := of_decide_eq_false ‹decide (((spoilt l d).length : Int) > 0) = false›
           have h0 : (spoilt l d).length = 0 := by omega
           simp [fileOnce, hb, hv, h0]; done)
        | (simp_all [fileOnce]; done)
        | trace_state
    · rw [if_neg hv] at hdc
      simp -dsimp -implicitDefEqProofs only [go_sem, ↓reduceIte, Nat.reduceEqDiff, Nat.reduceLT, Nat.reduceAdd, Nat.reduceMul, Nat.reduceLeDiff, Nat.le_refl, Int.natCast_zero, Int.toNat_natCast, Int.reduceToNat]
      repeat' first
      | (refine Br.intro (fun _ => ?_) (fun _ => ?_) <;> try simp -dsimp -implicitDefEqProofs only [go_sem, ↓reduceIte, Nat.reduceEqDiff, Nat.reduceLT, Nat.reduceAdd, Nat.reduceMul, Nat.reduceLeDiff, Nat.le_refl, Int.natCast_zero, Int.toNat_natCast, Int.reduceToNat, *])
      | (with_reducible refine And.intro ?_ ?_)
      | (refine sCallT_one (c_depthsCode m l d v h h2 hd) ?_; rw [hdc]; try simp -dsimp -implicitDefEqProofs only [go_sem, ↓reduceIte, Nat.reduceEqDiff, Nat.reduceLT, Nat.reduceAdd, Nat.reduceMul, Nat.reduceLeDiff, Nat.le_refl, Int.natCast_zero, Int.toNat_natCast, Int.reduceToNat])
      | (refine sCallT_one (c_spoilt l d k3 hd h2 q1) ?_; try simp -dsimp -implicitDefEqProofs only [go_sem, ↓reduceIte, Nat.reduceEqDiff, Nat.reduceLT, Nat.reduceAdd, Nat.reduceMul, Nat.reduceLeDiff, Nat.le_refl, Int.natCast_zero, Int.toNat_natCast, Int.reduceToNat, *])
      all_goals first
        | omega | (refine ⟨?_, ?_⟩ <;> omega) | (simp; done) | (simp; omega)
        | rfl
        | (simp_all [fileOnce]; done)
        | trace_state
  · rw [if_neg hb] at hdc
    simp -dsimp -implicitDefEqProofs only [go_sem, ↓reduceIte, Nat.reduceEqDiff, Nat.reduceLT, Nat.reduceAdd, Nat.reduceMul, Nat.reduceLeDiff, Nat.le_refl, Int.natCast_zero, Int.toNat_natCast, Int.reduceToNat]
    repeat' first
    | (refine Br.intro (fun _ => ?_) (fun _ => ?_) <;> try simp -dsimp -implicitDefEqProofs only [go_sem, ↓reduceIte, Nat.reduceEqDiff, Nat.reduceLT, Nat.reduceAdd, Nat.reduceMul, Nat.reduceLeDiff, Nat.le_refl, Int.natCast_zero, Int.toNat_natCast, Int.reduceToNat, *])
    | (with_reducible refine And.intro ?_ ?_)
    | (refine sCallT_one (c_depthsCode m l d v h h2 hd) ?_; rw [hdc]; try simp -dsimp -implicitDefEqProofs only [go_sem, ↓reduceIte, Nat.reduceEqDiff, Nat.reduceLT, Nat.reduceAdd, Nat.reduceMul, Nat.reduceLeDiff, Nat.le_refl, Int.natCast_zero, Int.toNat_natCast, Int.reduceToNat])
    all_goals first
      | omega | (refine ⟨?_, ?_⟩ <;> omega) | (simp; done) | (simp; omega)
      | rfl
      | (simp_all [fileOnce]; done)
      | trace_state
theorem way_bnd {m : MkM} {l : List (List Int)} {d : List Int} (hl : isLk m l = true) (w : Way l d) : d.length ≤ 1000 ∧ ∀ x ∈ d, 0 ≤ x ∧ x ≤ 1000000 := by
  refine ⟨by have := (isLk_len hl).2; have := w.len; omega, fun x hx => ?_⟩
  obtain ⟨c, hc, rfl⟩ := List.getElem_of_mem hx
  have h1 := w.bnd c hc
  have hc2 : c < l.length := by rw [← w.len]; exact hc
  have h2 := isLk_set hl hc2
  have h3 := rises_at h2.2 (j := 0) h2.1
  have h4 := isLk_dep hl
  have e2 : (blank l).getD c 0 = l[c][0] := by simp [blank, List.getD_eq_getElem?_getD, hc2, h2.1]
  omega
attribute [irreducible] file turnsOf tk
def lkV (m : MkM) (l : List (List Int)) (v : Int) : Int := if isLk m l then (if isIn v 1 6 then 0 else 2) else 1
theorem c_l33Lock (m : MkM) (l : List (List Int)) (v : Int) (h : l.length ≤ 1048576) (h2 : ∀ x ∈ l, x.length ≤ 1048576) : Fn Try.prog 62 [eMk m, eLk l, eI v] true (· = eI (lkV m l v)) := by
  refine Fn.of_vcN 14 [.tmp 6] Try.func62 rfl rfl rfl rfl rfl (of_decide_eq_true rfl) ?_
  simp -dsimp -implicitDefEqProofs only [go_sem, ↓reduceIte, Nat.reduceEqDiff, Nat.reduceLT, Nat.reduceAdd, Nat.reduceMul, Nat.reduceLeDiff, Nat.le_refl, Int.natCast_zero, Int.toNat_natCast, Int.reduceToNat]
  repeat' first
    | (refine Br.intro (fun _ => ?_) (fun _ => ?_) <;> try simp -dsimp -implicitDefEqProofs only [go_sem, ↓reduceIte, Nat.reduceEqDiff, Nat.reduceLT, Nat.reduceAdd, Nat.reduceMul, Nat.reduceLeDiff, Nat.le_refl, Int.natCast_zero, Int.toNat_natCast, Int.reduceToNat, *])
    | (with_reducible refine And.intro ?_ ?_)
    | (refine sCallT_one (c_sIsLock m l h h2) ?_; try simp -dsimp -implicitDefEqProofs only [go_sem, ↓reduceIte, Nat.reduceEqDiff, Nat.reduceLT, Nat.reduceAdd, Nat.reduceMul, Nat.reduceLeDiff, Nat.le_refl, Int.natCast_zero, Int.toNat_natCast, Int.reduceToNat, *])
    | (refine sCallT_one (c_l33Visible v) ?_; try simp -dsimp -implicitDefEqProofs only [go_sem, ↓reduceIte, Nat.reduceEqDiff, Nat.reduceLT, Nat.reduceAdd, Nat.reduceMul, Nat.reduceLeDiff, Nat.le_refl, Int.natCast_zero, Int.toNat_natCast, Int.reduceToNat, *])
  all_goals first
    | omega | (refine ⟨?_, ?_⟩ <;> omega) | (simp; done) | (simp; omega)
    | (simp_all [lkV]; done)
    | trace_state
def blankAfter (m : MkM) (l : List (List Int)) (v t : Int) : List Int × Int := if isLk m l then (if isIn v 1 6 && isIn t 0 100 then (itF l v t.toNat, 0) else ([], 2)) else ([], 1)
def turnsNeeded (m : MkM) (l : List (List Int)) (v : Int) : Int × Int := if isLk m l then (if isIn v 1 6 then (1 + (turnsOf l v : Int), 0) else (0, 2)) else (0, 1)
theorem itF_succ (l : List (List Int)) (v : Int) (k : Nat) : itF l v (k + 1) = file l (itF l v k) v := rfl
theorem itF_zero (l : List (List Int)) (v : Int) : (itF l v 0).map eI = List.replicate l.length (eI 0) := by simp [itF]
theorem c_sBlankAfter (m : MkM) (l : List (List Int)) (v t : Int) (h : l.length ≤ 1048576) (h2 : ∀ x ∈ l, x.length ≤ 1048576) : Fn Try.prog 34 [eMk m, eLk l, eI v, eI t] true (· = .tup [eIs (blankAfter m l v t).1, eI (blankAfter m l v t).2]) := by
  refine Fn.of_vcN 38 [.tmp 8, .tmp 9] Try.func34 rfl rfl rfl rfl rfl (of_decide_eq_true rfl) ?_
  rcases hb : isLk m l with _ | _
  · have hk : lkV m l v = 1 := by simp [lkV, hb]
    have hk2 : lkCode m l = 1 := by simp [lkCode, hb]
    simp -dsimp -implicitDefEqProofs only [go_sem, ↓reduceIte, Nat.reduceEqDiff, Nat.reduceLT, Nat.reduceAdd, Nat.reduceMul, Nat.reduceLeDiff, Nat.le_refl, Int.natCast_zero, Int.toNat_natCast, Int.reduceToNat]
    repeat' first
    | (refine Br.intro (fun _ => ?_) (fun _ => ?_) <;> try simp -dsimp -implicitDefEqProofs only [go_sem, ↓reduceIte, Nat.reduceEqDiff, Nat.reduceLT, Nat.reduceAdd, Nat.reduceMul, Nat.reduceLeDiff, Nat.le_refl, Int.natCast_zero, Int.toNat_natCast, Int.reduceToNat, *])
    | (with_reducible refine And.intro ?_ ?_)
    | (refine sCallT_one (c_l33Lock m l v h h2) ?_; try simp -dsimp -implicitDefEqProofs only [go_sem, ↓reduceIte, Nat.reduceEqDiff, Nat.reduceLT, Nat.reduceAdd, Nat.reduceMul, Nat.reduceLeDiff, Nat.le_refl, Int.natCast_zero, Int.toNat_natCast, Int.reduceToNat, *])
    | (refine sCallT_one (c_l01In _ _ _) ?_; try simp -dsimp -implicitDefEqProofs only [go_sem, ↓reduceIte, Nat.reduceEqDiff, Nat.reduceLT, Nat.reduceAdd, Nat.reduceMul, Nat.reduceLeDiff, Nat.le_refl, Int.natCast_zero, Int.toNat_natCast, Int.reduceToNat, *])
    | (refine sCallX_one (c_l33Lock m l v h h2) ?_; try simp -dsimp -implicitDefEqProofs only [go_sem, ↓reduceIte, Nat.reduceEqDiff, Nat.reduceLT, Nat.reduceAdd, Nat.reduceMul, Nat.reduceLeDiff, Nat.le_refl, Int.natCast_zero, Int.toNat_natCast, Int.reduceToNat, *])
    | (refine sCallX_one (c_l01In _ _ _) ?_; try simp -dsimp -implicitDefEqProofs only [go_sem, ↓reduceIte, Nat.reduceEqDiff, Nat.reduceLT, Nat.reduceAdd, Nat.reduceMul, Nat.reduceLeDiff, Nat.le_refl, Int.natCast_zero, Int.toNat_natCast, Int.reduceToNat, *])
    | (refine Later.draw mixed rfl ?_; try simp -dsimp -implicitDefEqProofs only [go_sem, ↓reduceIte, Nat.reduceEqDiff, Nat.reduceLT, Nat.reduceAdd, Nat.reduceMul, Nat.reduceLeDiff, Nat.le_refl, Int.natCast_zero, Int.toNat_natCast, Int.reduceToNat, *])
    all_goals first
      | omega | (refine ⟨?_, ?_⟩ <;> omega) | (simp; done) | (simp; omega)
      | rfl
      | (simp_all [blankAfter]; done)
      | trace_state
  have hk2 : lkCode m l = 0 := by simp [lkCode, hb]
  have hn := isLk_len hb
  have hch : m.chambers = (l.length : Int) := hn.1.symm
  have hn6 := hn.2
  clear hn
  by_cases hv : (isIn v 1 6 && isIn t 0 100) = true
  rotate_left
  · have hk : lkV m l v = if isIn v 1 6 then 0 else 2 := by simp [lkV, hb]
    rcases hv1 : isIn v 1 6 with _ | _
    all_goals
      simp only [hv1] at hk hv
      simp -dsimp -implicitDefEqProofs only [go_sem, ↓reduceIte, Nat.reduceEqDiff, Nat.reduceLT, Nat.reduceAdd, Nat.reduceMul, Nat.reduceLeDiff, Nat.le_refl, Int.natCast_zero, Int.toNat_natCast, Int.reduceToNat]
      repeat' first
      | (refine Br.intro (fun _ => ?_) (fun _ => ?_) <;> try simp -dsimp -implicitDefEqProofs only [go_sem, ↓reduceIte, Nat.reduceEqDiff, Nat.reduceLT, Nat.reduceAdd, Nat.reduceMul, Nat.reduceLeDiff, Nat.le_refl, Int.natCast_zero, Int.toNat_natCast, Int.reduceToNat, *])
      | (with_reducible refine And.intro ?_ ?_)
      | (refine sCallT_one (c_l33Lock m l v h h2) ?_; try simp -dsimp -implicitDefEqProofs only [go_sem, ↓reduceIte, Nat.reduceEqDiff, Nat.reduceLT, Nat.reduceAdd, Nat.reduceMul, Nat.reduceLeDiff, Nat.le_refl, Int.natCast_zero, Int.toNat_natCast, Int.reduceToNat, *])
      | (refine sCallT_one (c_l01In _ _ _) ?_; try simp -dsimp -implicitDefEqProofs only [go_sem, ↓reduceIte, Nat.reduceEqDiff, Nat.reduceLT, Nat.reduceAdd, Nat.reduceMul, Nat.reduceLeDiff, Nat.le_refl, Int.natCast_zero, Int.toNat_natCast, Int.reduceToNat, *])
      | (refine sCallX_one (c_l33Lock m l v h h2) ?_; try simp -dsimp -implicitDefEqProofs only [go_sem, ↓reduceIte, Nat.reduceEqDiff, Nat.reduceLT, Nat.reduceAdd, Nat.reduceMul, Nat.reduceLeDiff, Nat.le_refl, Int.natCast_zero, Int.toNat_natCast, Int.reduceToNat, *])
      | (refine sCallX_one (c_l01In _ _ _) ?_; try simp -dsimp -implicitDefEqProofs only [go_sem, ↓reduceIte, Nat.reduceEqDiff, Nat.reduceLT, Nat.reduceAdd, Nat.reduceMul, Nat.reduceLeDiff, Nat.le_refl, Int.natCast_zero, Int.toNat_natCast, Int.reduceToNat, *])
      | (refine Later.draw mixed rfl ?_; try simp -dsimp -implicitDefEqProofs only [go_sem, ↓reduceIte, Nat.reduceEqDiff, Nat.reduceLT, Nat.reduceAdd, Nat.reduceMul, Nat.reduceLeDiff, Nat.le_refl, Int.natCast_zero, Int.toNat_natCast, Int.reduceToNat, *])
      all_goals first
        | omega | (refine ⟨?_, ?_⟩ <;> omega) | (simp; done) | (simp; omega)
        | rfl
        | (simp_all [blankAfter]; done)
        | trace_state
  have hv1 : isIn v 1 6 = true := by simp at hv; exact hv.1
  have ht : isIn t 0 100 = true := by simp at hv; exact hv.2
  have hv6 : 1 ≤ v ∧ v ≤ 6 := by simp [isIn] at hv1; omega
  have ht6 : 0 ≤ t ∧ t ≤ 100 := by simp [isIn] at ht; omega
  have hk : lkV m l v = 0 := by simp [lkV, hb, hv1]
  simp -dsimp -implicitDefEqProofs only [go_sem, ↓reduceIte, Nat.reduceEqDiff, Nat.reduceLT, Nat.reduceAdd, Nat.reduceMul, Nat.reduceLeDiff, Nat.le_refl, Int.natCast_zero, Int.toNat_natCast, Int.reduceToNat]
  repeat' first
    | (refine Br.intro (fun _ => ?_) (fun _ => ?_) <;> try simp -dsimp -implicitDefEqProofs only [go_sem, ↓reduceIte, Nat.reduceEqDiff, Nat.reduceLT, Nat.reduceAdd, Nat.reduceMul, Nat.reduceLeDiff, Nat.le_refl, Int.natCast_zero, Int.toNat_natCast, Int.reduceToNat, *])
    | (with_reducible refine And.intro ?_ ?_)
    | (refine sCallT_one (c_l33Lock m l v h h2) ?_; try simp -dsimp -implicitDefEqProofs only [go_sem, ↓reduceIte, Nat.reduceEqDiff, Nat.reduceLT, Nat.reduceAdd, Nat.reduceMul, Nat.reduceLeDiff, Nat.le_refl, Int.natCast_zero, Int.toNat_natCast, Int.reduceToNat, *])
    | (refine sCallT_one (c_l01In _ _ _) ?_; try simp -dsimp -implicitDefEqProofs only [go_sem, ↓reduceIte, Nat.reduceEqDiff, Nat.reduceLT, Nat.reduceAdd, Nat.reduceMul, Nat.reduceLeDiff, Nat.le_refl, Int.natCast_zero, Int.toNat_natCast, Int.reduceToNat, *])
    | (refine Later.draw mixed rfl ?_; try simp -dsimp -implicitDefEqProofs only [go_sem, ↓reduceIte, Nat.reduceEqDiff, Nat.reduceLT, Nat.reduceAdd, Nat.reduceMul, Nat.reduceLeDiff, Nat.le_refl, Int.natCast_zero, Int.toNat_natCast, Int.reduceToNat, *])
  all_goals try (first | omega | (refine ⟨?_, ?_⟩ <;> omega) | rfl | (simp; done))
  refine Later.upR [2, 5] [36] [28] t.toNat (fun _ => True) (fun i => [(3, eI (t - i)), (11, .ref 28 0 0 l.length)]) (fun i => [(28, .row 0 ⟨1, false⟩ true ((itF l v i).map eI))]) trivial (.here ?_) rfl (fun i hi _ => ?_) (fun _ => ?_)
  · simp -dsimp -implicitDefEqProofs only [go_sem, ↓reduceIte, Nat.reduceEqDiff, Nat.reduceLT, Nat.reduceAdd, Nat.reduceMul, Nat.reduceLeDiff, Nat.le_refl, Int.natCast_zero, Int.toNat_natCast, Int.reduceToNat, itF_zero]
    try (simp; done)
  · have w := itF_way hb v i
    obtain ⟨w1, w2⟩ := way_bnd hb w
    have w0 := w.len
    have ht2 : ((itF l v i).map eI).take l.length = (itF l v i).map eI := List.take_of_length_le (by simp [w0])
    have hfl : (file l (itF l v i) v).length = l.length := by rw [file_len, w0]
    have hi1 := itF_succ l v i
    have q1 : decide (t - ((i : Nat) : Int) > 0) = true := decide_eq_true (by omega)
    simp -dsimp -implicitDefEqProofs only [pick_nil, pick_cons, look_nil, look_cons, dropB_nil, dropB_cons, inD_nil, inD_cons, inE_nil, inE_cons, or_t_l, or_f_l, Nat.reduceBEq, Nat.reduceDiv, Nat.reduceAdd, beq_self_eq_true, Bool.false_eq_true, Bool.or_false, ↓reduceIte, Nat.reduceEqDiff, List.cons_append, List.nil_append]
    simp -dsimp -implicitDefEqProofs only [go_sem, ↓reduceIte, Nat.reduceEqDiff, Nat.reduceLT, Nat.reduceAdd, Nat.reduceMul, Nat.reduceLeDiff, Nat.le_refl, Int.natCast_zero, Int.toNat_natCast, Int.reduceToNat, q1, ht2]
    repeat' first
      | (refine Br.intro (fun _ => ?_) (fun _ => ?_) <;> try simp -dsimp -implicitDefEqProofs only [go_sem, ↓reduceIte, Nat.reduceEqDiff, Nat.reduceLT, Nat.reduceAdd, Nat.reduceMul, Nat.reduceLeDiff, Nat.le_refl, Int.natCast_zero, Int.toNat_natCast, Int.reduceToNat, *])
      | (with_reducible refine And.intro ?_ ?_)
      | (refine sCallT_one (c_l33File l (itF l v i) v (by omega) (by omega) h2 hv6 w2) ?_; try simp -dsimp -implicitDefEqProofs only [go_sem, ↓reduceIte, Nat.reduceEqDiff, Nat.reduceLT, Nat.reduceAdd, Nat.reduceMul, Nat.reduceLeDiff, Nat.le_refl, Int.natCast_zero, Int.toNat_natCast, Int.reduceToNat, *])
    all_goals first
      | omega | (refine ⟨?_, ?_⟩ <;> omega) | (simp; done) | (simp; omega)
      | rfl
      | (refine .one 37000 28 (by decide) (by decide) ?_; simp -dsimp -implicitDefEqProofs only [go_sem, ↓reduceIte, Nat.reduceEqDiff, Nat.reduceLT, Nat.reduceAdd, Nat.reduceMul, Nat.reduceLeDiff, Nat.le_refl, Int.natCast_zero, Int.toNat_natCast, Int.reduceToNat, hfl, hi1]; repeat' (with_reducible refine And.intro ?_ ?_)
         all_goals first | omega | rfl | (simp; done) | (simp only [Value.int.injEq, true_and]; omega))
      | trace_state
  · have w := itF_way hb v t.toNat
    obtain ⟨w1, w2⟩ := way_bnd hb w
    have w0 := w.len
    have ht2 : ((itF l v t.toNat).map eI).take l.length = (itF l v t.toNat).map eI := List.take_of_length_le (by simp [w0])
    have hfl : (file l (itF l v t.toNat) v).length = l.length := by rw [file_len, w0]
    have hi1 := itF_succ l v t.toNat
    have q1 : decide (t - ((t.toNat : Nat) : Int) > 0) = false := decide_eq_false (by omega)
    simp -dsimp -implicitDefEqProofs only [pick_nil, pick_cons, look_nil, look_cons, dropB_nil, dropB_cons, inD_nil, inD_cons, inE_nil, inE_cons, or_t_l, or_f_l, Nat.reduceBEq, Nat.reduceDiv, Nat.reduceAdd, beq_self_eq_true, Bool.false_eq_true, Bool.or_false, ↓reduceIte, Nat.reduceEqDiff, List.cons_append, List.nil_append]
    simp -dsimp -implicitDefEqProofs only [go_sem, ↓reduceIte, Nat.reduceEqDiff, Nat.reduceLT, Nat.reduceAdd, Nat.reduceMul, Nat.reduceLeDiff, Nat.le_refl, Int.natCast_zero, Int.toNat_natCast, Int.reduceToNat, q1, ht2]
    repeat' (with_reducible refine And.intro ?_ ?_)
    all_goals first
      | omega | (refine ⟨?_, ?_⟩ <;> omega) | (simp; done) | (simp; omega)
      | rfl
      | (simp_all [blankAfter]; done)
      | trace_state
theorem c_iBlankAfter (m : MkM) (l : List (List Int)) (v t : Int) (h : l.length ≤ 1048576) (h2 : ∀ x ∈ l, x.length ≤ 1048576) : Fn Try.prog 35 [eMk m, eLk l, eI v, eI t] true (· = .tup [eIs (blankAfter m l v t).1, eI (blankAfter m l v t).2]) := by
  refine Fn.of_vcN 39 [.tmp 8, .tmp 9] Try.func35 rfl rfl rfl rfl rfl (of_decide_eq_true rfl) ?_
  rcases hb : isLk m l with _ | _
  · have hk : lkV m l v = 1 := by simp [lkV, hb]
    have hk2 : lkCode m l = 1 := by simp [lkCode, hb]
    simp -dsimp -implicitDefEqProofs only [go_sem, ↓reduceIte, Nat.reduceEqDiff, Nat.reduceLT, Nat.reduceAdd, Nat.reduceMul, Nat.reduceLeDiff, Nat.le_refl, Int.natCast_zero, Int.toNat_natCast, Int.reduceToNat]
    repeat' first
    | (refine Br.intro (fun _ => ?_) (fun _ => ?_) <;> try simp -dsimp -implicitDefEqProofs only [go_sem, ↓reduceIte, Nat.reduceEqDiff, Nat.reduceLT, Nat.reduceAdd, Nat.reduceMul, Nat.reduceLeDiff, Nat.le_refl, Int.natCast_zero, Int.toNat_natCast, Int.reduceToNat, *])
    | (with_reducible refine And.intro ?_ ?_)
    | (refine sCallT_one (c_locksCode1 m l h h2) ?_; try simp -dsimp -implicitDefEqProofs only [go_sem, ↓reduceIte, Nat.reduceEqDiff, Nat.reduceLT, Nat.reduceAdd, Nat.reduceMul, Nat.reduceLeDiff, Nat.le_refl, Int.natCast_zero, Int.toNat_natCast, Int.reduceToNat, *])
    | (refine sCallT_one (c_within _ _ _) ?_; try simp -dsimp -implicitDefEqProofs only [go_sem, ↓reduceIte, Nat.reduceEqDiff, Nat.reduceLT, Nat.reduceAdd, Nat.reduceMul, Nat.reduceLeDiff, Nat.le_refl, Int.natCast_zero, Int.toNat_natCast, Int.reduceToNat, *])
    | (refine sCallX_one (c_locksCode1 m l h h2) ?_; try simp -dsimp -implicitDefEqProofs only [go_sem, ↓reduceIte, Nat.reduceEqDiff, Nat.reduceLT, Nat.reduceAdd, Nat.reduceMul, Nat.reduceLeDiff, Nat.le_refl, Int.natCast_zero, Int.toNat_natCast, Int.reduceToNat, *])
    | (refine sCallX_one (c_within _ _ _) ?_; try simp -dsimp -implicitDefEqProofs only [go_sem, ↓reduceIte, Nat.reduceEqDiff, Nat.reduceLT, Nat.reduceAdd, Nat.reduceMul, Nat.reduceLeDiff, Nat.le_refl, Int.natCast_zero, Int.toNat_natCast, Int.reduceToNat, *])
    | (refine Later.draw mixed rfl ?_; try simp -dsimp -implicitDefEqProofs only [go_sem, ↓reduceIte, Nat.reduceEqDiff, Nat.reduceLT, Nat.reduceAdd, Nat.reduceMul, Nat.reduceLeDiff, Nat.le_refl, Int.natCast_zero, Int.toNat_natCast, Int.reduceToNat, *])
    all_goals first
      | omega | (refine ⟨?_, ?_⟩ <;> omega) | (simp; done) | (simp; omega)
      | rfl
      | (simp_all [blankAfter]; done)
      | trace_state
  have hk2 : lkCode m l = 0 := by simp [lkCode, hb]
  have hn := isLk_len hb
  have hch : m.chambers = (l.length : Int) := hn.1.symm
  have hn6 := hn.2
  clear hn
  by_cases hv : (isIn v 1 6 && isIn t 0 100) = true
  rotate_left
  · have hk : lkV m l v = if isIn v 1 6 then 0 else 2 := by simp [lkV, hb]
    rcases hv1 : isIn v 1 6 with _ | _
    all_goals
      simp only [hv1] at hk hv
      simp -dsimp -implicitDefEqProofs only [go_sem, ↓reduceIte, Nat.reduceEqDiff, Nat.reduceLT, Nat.reduceAdd, Nat.reduceMul, Nat.reduceLeDiff, Nat.le_refl, Int.natCast_zero, Int.toNat_natCast, Int.reduceToNat]
      repeat' first
      | (refine Br.intro (fun _ => ?_) (fun _ => ?_) <;> try simp -dsimp -implicitDefEqProofs only [go_sem, ↓reduceIte, Nat.reduceEqDiff, Nat.reduceLT, Nat.reduceAdd, Nat.reduceMul, Nat.reduceLeDiff, Nat.le_refl, Int.natCast_zero, Int.toNat_natCast, Int.reduceToNat, *])
      | (with_reducible refine And.intro ?_ ?_)
      | (refine sCallT_one (c_locksCode1 m l h h2) ?_; try simp -dsimp -implicitDefEqProofs only [go_sem, ↓reduceIte, Nat.reduceEqDiff, Nat.reduceLT, Nat.reduceAdd, Nat.reduceMul, Nat.reduceLeDiff, Nat.le_refl, Int.natCast_zero, Int.toNat_natCast, Int.reduceToNat, *])
      | (refine sCallT_one (c_within _ _ _) ?_; try simp -dsimp -implicitDefEqProofs only [go_sem, ↓reduceIte, Nat.reduceEqDiff, Nat.reduceLT, Nat.reduceAdd, Nat.reduceMul, Nat.reduceLeDiff, Nat.le_refl, Int.natCast_zero, Int.toNat_natCast, Int.reduceToNat, *])
      | (refine sCallX_one (c_locksCode1 m l h h2) ?_; try simp -dsimp -implicitDefEqProofs only [go_sem, ↓reduceIte, Nat.reduceEqDiff, Nat.reduceLT, Nat.reduceAdd, Nat.reduceMul, Nat.reduceLeDiff, Nat.le_refl, Int.natCast_zero, Int.toNat_natCast, Int.reduceToNat, *])
      | (refine sCallX_one (c_within _ _ _) ?_; try simp -dsimp -implicitDefEqProofs only [go_sem, ↓reduceIte, Nat.reduceEqDiff, Nat.reduceLT, Nat.reduceAdd, Nat.reduceMul, Nat.reduceLeDiff, Nat.le_refl, Int.natCast_zero, Int.toNat_natCast, Int.reduceToNat, *])
      | (refine Later.draw mixed rfl ?_; try simp -dsimp -implicitDefEqProofs only [go_sem, ↓reduceIte, Nat.reduceEqDiff, Nat.reduceLT, Nat.reduceAdd, Nat.reduceMul, Nat.reduceLeDiff, Nat.le_refl, Int.natCast_zero, Int.toNat_natCast, Int.reduceToNat, *])
      all_goals first
        | omega | (refine ⟨?_, ?_⟩ <;> omega) | (simp; done) | (simp; omega)
        | rfl
        | (simp_all [blankAfter]; done)
        | trace_state
  have hv1 : isIn v 1 6 = true := by simp at hv; exact hv.1
  have ht : isIn t 0 100 = true := by simp at hv; exact hv.2
  have hv6 : 1 ≤ v ∧ v ≤ 6 := by simp [isIn] at hv1; omega
  have ht6 : 0 ≤ t ∧ t ≤ 100 := by simp [isIn] at ht; omega
  have hk : lkV m l v = 0 := by simp [lkV, hb, hv1]
  simp -dsimp -implicitDefEqProofs only [go_sem, ↓reduceIte, Nat.reduceEqDiff, Nat.reduceLT, Nat.reduceAdd, Nat.reduceMul, Nat.reduceLeDiff, Nat.le_refl, Int.natCast_zero, Int.toNat_natCast, Int.reduceToNat]
  repeat' first
    | (refine Br.intro (fun _ => ?_) (fun _ => ?_) <;> try simp -dsimp -implicitDefEqProofs only [go_sem, ↓reduceIte, Nat.reduceEqDiff, Nat.reduceLT, Nat.reduceAdd, Nat.reduceMul, Nat.reduceLeDiff, Nat.le_refl, Int.natCast_zero, Int.toNat_natCast, Int.reduceToNat, *])
    | (with_reducible refine And.intro ?_ ?_)
    | (refine sCallT_one (c_locksCode1 m l h h2) ?_; try simp -dsimp -implicitDefEqProofs only [go_sem, ↓reduceIte, Nat.reduceEqDiff, Nat.reduceLT, Nat.reduceAdd, Nat.reduceMul, Nat.reduceLeDiff, Nat.le_refl, Int.natCast_zero, Int.toNat_natCast, Int.reduceToNat, *])
    | (refine sCallT_one (c_within _ _ _) ?_; try simp -dsimp -implicitDefEqProofs only [go_sem, ↓reduceIte, Nat.reduceEqDiff, Nat.reduceLT, Nat.reduceAdd, Nat.reduceMul, Nat.reduceLeDiff, Nat.le_refl, Int.natCast_zero, Int.toNat_natCast, Int.reduceToNat, *])
    | (refine Later.draw mixed rfl ?_; try simp -dsimp -implicitDefEqProofs only [go_sem, ↓reduceIte, Nat.reduceEqDiff, Nat.reduceLT, Nat.reduceAdd, Nat.reduceMul, Nat.reduceLeDiff, Nat.le_refl, Int.natCast_zero, Int.toNat_natCast, Int.reduceToNat, *])
  all_goals try (first | omega | (refine ⟨?_, ?_⟩ <;> omega) | rfl | (simp; done))
  refine Later.upR [2, 5, 30] [36] [29] t.toNat (fun _ => True) (fun i => [(31, eI i), (11, .ref 29 0 0 l.length)]) (fun i => [(29, .row 0 ⟨1, false⟩ true ((itF l v i).map eI))]) trivial (.here ?_) rfl (fun i hi _ => ?_) (fun _ => ?_)
  · simp -dsimp -implicitDefEqProofs only [go_sem, ↓reduceIte, Nat.reduceEqDiff, Nat.reduceLT, Nat.reduceAdd, Nat.reduceMul, Nat.reduceLeDiff, Nat.le_refl, Int.natCast_zero, Int.toNat_natCast, Int.reduceToNat, itF_zero]
    try (simp; done)
  · have w := itF_way hb v i
    obtain ⟨w1, w2⟩ := way_bnd hb w
    have w0 := w.len
    have ht2 : ((itF l v i).map eI).take l.length = (itF l v i).map eI := List.take_of_length_le (by simp [w0])
    have hfl : (file l (itF l v i) v).length = l.length := by rw [file_len, w0]
    have hi1 := itF_succ l v i
    have q1 : decide (((i : Nat) : Int) < t) = true := decide_eq_true (by omega)
    simp -dsimp -implicitDefEqProofs only [pick_nil, pick_cons, look_nil, look_cons, dropB_nil, dropB_cons, inD_nil, inD_cons, inE_nil, inE_cons, or_t_l, or_f_l, Nat.reduceBEq, Nat.reduceDiv, Nat.reduceAdd, beq_self_eq_true, Bool.false_eq_true, Bool.or_false, ↓reduceIte, Nat.reduceEqDiff, List.cons_append, List.nil_append]
    simp -dsimp -implicitDefEqProofs only [go_sem, ↓reduceIte, Nat.reduceEqDiff, Nat.reduceLT, Nat.reduceAdd, Nat.reduceMul, Nat.reduceLeDiff, Nat.le_refl, Int.natCast_zero, Int.toNat_natCast, Int.reduceToNat, q1, ht2]
    repeat' first
      | (refine Br.intro (fun _ => ?_) (fun _ => ?_) <;> try simp -dsimp -implicitDefEqProofs only [go_sem, ↓reduceIte, Nat.reduceEqDiff, Nat.reduceLT, Nat.reduceAdd, Nat.reduceMul, Nat.reduceLeDiff, Nat.le_refl, Int.natCast_zero, Int.toNat_natCast, Int.reduceToNat, *])
      | (with_reducible refine And.intro ?_ ?_)
      | (refine sCallT_one (c_file l (itF l v i) v (by omega) (by omega) h2 hv6 w2) ?_; try simp -dsimp -implicitDefEqProofs only [go_sem, ↓reduceIte, Nat.reduceEqDiff, Nat.reduceLT, Nat.reduceAdd, Nat.reduceMul, Nat.reduceLeDiff, Nat.le_refl, Int.natCast_zero, Int.toNat_natCast, Int.reduceToNat, *])
    all_goals first
      | omega | (refine ⟨?_, ?_⟩ <;> omega) | (simp; done) | (simp; omega)
      | rfl
      | (refine .one 37000 29 (by decide) (by decide) ?_; simp -dsimp -implicitDefEqProofs only [go_sem, ↓reduceIte, Nat.reduceEqDiff, Nat.reduceLT, Nat.reduceAdd, Nat.reduceMul, Nat.reduceLeDiff, Nat.le_refl, Int.natCast_zero, Int.toNat_natCast, Int.reduceToNat, hfl, hi1]; repeat' (with_reducible refine And.intro ?_ ?_)
         all_goals first | omega | rfl | (simp; done) | (simp only [Value.int.injEq, true_and]; omega))
      | trace_state
  · have w := itF_way hb v t.toNat
    obtain ⟨w1, w2⟩ := way_bnd hb w
    have w0 := w.len
    have ht2 : ((itF l v t.toNat).map eI).take l.length = (itF l v t.toNat).map eI := List.take_of_length_le (by simp [w0])
    have hfl : (file l (itF l v t.toNat) v).length = l.length := by rw [file_len, w0]
    have hi1 := itF_succ l v t.toNat
    have q1 : decide (((t.toNat : Nat) : Int) < t) = false := decide_eq_false (by omega)
    simp -dsimp -implicitDefEqProofs only [pick_nil, pick_cons, look_nil, look_cons, dropB_nil, dropB_cons, inD_nil, inD_cons, inE_nil, inE_cons, or_t_l, or_f_l, Nat.reduceBEq, Nat.reduceDiv, Nat.reduceAdd, beq_self_eq_true, Bool.false_eq_true, Bool.or_false, ↓reduceIte, Nat.reduceEqDiff, List.cons_append, List.nil_append]
    simp -dsimp -implicitDefEqProofs only [go_sem, ↓reduceIte, Nat.reduceEqDiff, Nat.reduceLT, Nat.reduceAdd, Nat.reduceMul, Nat.reduceLeDiff, Nat.le_refl, Int.natCast_zero, Int.toNat_natCast, Int.reduceToNat, q1, ht2]
    repeat' (with_reducible refine And.intro ?_ ?_)
    all_goals first
      | omega | (refine ⟨?_, ?_⟩ <;> omega) | (simp; done) | (simp; omega)
      | rfl
      | (simp_all [blankAfter]; done)
      | trace_state
theorem c_sTurnsNeeded (m : MkM) (l : List (List Int)) (v : Int) (h : l.length ≤ 1048576) (h2 : ∀ x ∈ l, x.length ≤ 1048576) : Fn Try.prog 30 [eMk m, eLk l, eI v] true (· = .tup [eI (turnsNeeded m l v).1, eI (turnsNeeded m l v).2]) := by
  refine Fn.of_vcN 33 [.tmp 6, .tmp 7] Try.func30 rfl rfl rfl rfl rfl (of_decide_eq_true rfl) ?_
  rcases hb : isLk m l with _ | _
  · have hk : lkV m l v = 1 := by simp [lkV, hb]
    have hk2 : lkCode m l = 1 := by simp [lkCode, hb]
    simp -dsimp -implicitDefEqProofs only [go_sem, ↓reduceIte, Nat.reduceEqDiff, Nat.reduceLT, Nat.reduceAdd, Nat.reduceMul, Nat.reduceLeDiff, Nat.le_refl, Int.natCast_zero, Int.toNat_natCast, Int.reduceToNat]
    repeat' first
    | (refine Br.intro (fun _ => ?_) (fun _ => ?_) <;> try simp -dsimp -implicitDefEqProofs only [go_sem, ↓reduceIte, Nat.reduceEqDiff, Nat.reduceLT, Nat.reduceAdd, Nat.reduceMul, Nat.reduceLeDiff, Nat.le_refl, Int.natCast_zero, Int.toNat_natCast, Int.reduceToNat, *])
    | (with_reducible refine And.intro ?_ ?_)
    | (refine sCallT_one (c_l33Lock m l v h h2) ?_; try simp -dsimp -implicitDefEqProofs only [go_sem, ↓reduceIte, Nat.reduceEqDiff, Nat.reduceLT, Nat.reduceAdd, Nat.reduceMul, Nat.reduceLeDiff, Nat.le_refl, Int.natCast_zero, Int.toNat_natCast, Int.reduceToNat, *])
    | (refine sCallX_one (c_l33Lock m l v h h2) ?_; try simp -dsimp -implicitDefEqProofs only [go_sem, ↓reduceIte, Nat.reduceEqDiff, Nat.reduceLT, Nat.reduceAdd, Nat.reduceMul, Nat.reduceLeDiff, Nat.le_refl, Int.natCast_zero, Int.toNat_natCast, Int.reduceToNat, *])
    | (refine Later.draw mixed rfl ?_; try simp -dsimp -implicitDefEqProofs only [go_sem, ↓reduceIte, Nat.reduceEqDiff, Nat.reduceLT, Nat.reduceAdd, Nat.reduceMul, Nat.reduceLeDiff, Nat.le_refl, Int.natCast_zero, Int.toNat_natCast, Int.reduceToNat, *])
    all_goals first
      | omega | (refine ⟨?_, ?_⟩ <;> omega) | (simp; done) | (simp; omega)
      | rfl
      | (simp_all [turnsNeeded]; done)
      | trace_state
  have hk2 : lkCode m l = 0 := by simp [lkCode, hb]
  have hn := isLk_len hb
  have hch : m.chambers = (l.length : Int) := hn.1.symm
  have hn6 := hn.2
  clear hn
  by_cases hv : (isIn v 1 6) = true
  rotate_left
  · have hk : lkV m l v = if isIn v 1 6 then 0 else 2 := by simp [lkV, hb]
    rcases hv1 : isIn v 1 6 with _ | _
    all_goals
      simp only [hv1] at hk hv
      simp -dsimp -implicitDefEqProofs only [go_sem, ↓reduceIte, Nat.reduceEqDiff, Nat.reduceLT, Nat.reduceAdd, Nat.reduceMul, Nat.reduceLeDiff, Nat.le_refl, Int.natCast_zero, Int.toNat_natCast, Int.reduceToNat]
      repeat' first
      | (refine Br.intro (fun _ => ?_) (fun _ => ?_) <;> try simp -dsimp -implicitDefEqProofs only [go_sem, ↓reduceIte, Nat.reduceEqDiff, Nat.reduceLT, Nat.reduceAdd, Nat.reduceMul, Nat.reduceLeDiff, Nat.le_refl, Int.natCast_zero, Int.toNat_natCast, Int.reduceToNat, *])
      | (with_reducible refine And.intro ?_ ?_)
      | (refine sCallT_one (c_l33Lock m l v h h2) ?_; try simp -dsimp -implicitDefEqProofs only [go_sem, ↓reduceIte, Nat.reduceEqDiff, Nat.reduceLT, Nat.reduceAdd, Nat.reduceMul, Nat.reduceLeDiff, Nat.le_refl, Int.natCast_zero, Int.toNat_natCast, Int.reduceToNat, *])
      | (refine sCallX_one (c_l33Lock m l v h h2) ?_; try simp -dsimp -implicitDefEqProofs only [go_sem, ↓reduceIte, Nat.reduceEqDiff, Nat.reduceLT, Nat.reduceAdd, Nat.reduceMul, Nat.reduceLeDiff, Nat.le_refl, Int.natCast_zero, Int.toNat_natCast, Int.reduceToNat, *])
      | (refine Later.draw mixed rfl ?_; try simp -dsimp -implicitDefEqProofs only [go_sem, ↓reduceIte, Nat.reduceEqDiff, Nat.reduceLT, Nat.reduceAdd, Nat.reduceMul, Nat.reduceLeDiff, Nat.le_refl, Int.natCast_zero, Int.toNat_natCast, Int.reduceToNat, *])
      all_goals first
        | omega | (refine ⟨?_, ?_⟩ <;> omega) | (simp; done) | (simp; omega)
        | rfl
        | (simp_all [turnsNeeded]; done)
        | trace_state
  have hv6 : 1 ≤ v ∧ v ≤ 6 := by simp [isIn] at hv; omega
  have hk : lkV m l v = 0 := by simp [lkV, hb, hv]
  simp -dsimp -implicitDefEqProofs only [go_sem, ↓reduceIte, Nat.reduceEqDiff, Nat.reduceLT, Nat.reduceAdd, Nat.reduceMul, Nat.reduceLeDiff, Nat.le_refl, Int.natCast_zero, Int.toNat_natCast, Int.reduceToNat]
  repeat' first
    | (refine Br.intro (fun _ => ?_) (fun _ => ?_) <;> try simp -dsimp -implicitDefEqProofs only [go_sem, ↓reduceIte, Nat.reduceEqDiff, Nat.reduceLT, Nat.reduceAdd, Nat.reduceMul, Nat.reduceLeDiff, Nat.le_refl, Int.natCast_zero, Int.toNat_natCast, Int.reduceToNat, *])
    | (with_reducible refine And.intro ?_ ?_)
    | (refine sCallT_one (c_l33Lock m l v h h2) ?_; try simp -dsimp -implicitDefEqProofs only [go_sem, ↓reduceIte, Nat.reduceEqDiff, Nat.reduceLT, Nat.reduceAdd, Nat.reduceMul, Nat.reduceLeDiff, Nat.le_refl, Int.natCast_zero, Int.toNat_natCast, Int.reduceToNat, *])
    | (refine Later.draw mixed rfl ?_; try simp -dsimp -implicitDefEqProofs only [go_sem, ↓reduceIte, Nat.reduceEqDiff, Nat.reduceLT, Nat.reduceAdd, Nat.reduceMul, Nat.reduceLeDiff, Nat.le_refl, Int.natCast_zero, Int.toNat_natCast, Int.reduceToNat, *])
  all_goals try (first | omega | (refine ⟨?_, ?_⟩ <;> omega) | rfl | (simp; done))
  refine Later.lpR [2, 4] [23, 24, 29] [20] (fun k => Turn l v k) (fun k => [(9, .ref 20 0 0 l.length), (10, eI (1 + (k : Int)))]) (fun k => [(20, .row 0 ⟨1, false⟩ true ((itF l v k).map eI))]) (fun k => 50 - k) 0 (Turn.zero l v) (.here ?_) rfl (fun k hT => ?_)
  · simp -dsimp -implicitDefEqProofs only [go_sem, ↓reduceIte, Nat.reduceEqDiff, Nat.reduceLT, Nat.reduceAdd, Nat.reduceMul, Nat.reduceLeDiff, Nat.le_refl, Int.natCast_zero, Int.toNat_natCast, Int.reduceToNat, itF_zero]
    try (simp; done)
  · have w := itF_way hb v k
    obtain ⟨w1, w2⟩ := way_bnd hb w
    have w0 := w.len
    have ht2 : ((itF l v k).map eI).take l.length = (itF l v k).map eI := List.take_of_length_le (by simp [w0])
    have hfl : (file l (itF l v k) v).length = l.length := by rw [file_len, w0]
    have hi1 := itF_succ l v k
    have h42 := hT.le hb
    simp -dsimp -implicitDefEqProofs only [pick_nil, pick_cons, look_nil, look_cons, dropB_nil, dropB_cons, inD_nil, inD_cons, inE_nil, inE_cons, or_t_l, or_f_l, Nat.reduceBEq, Nat.reduceDiv, Nat.reduceAdd, beq_self_eq_true, Bool.false_eq_true, Bool.or_false, ↓reduceIte, Nat.reduceEqDiff, List.cons_append, List.nil_append]
    simp -dsimp -implicitDefEqProofs only [go_sem, ↓reduceIte, Nat.reduceEqDiff, Nat.reduceLT, Nat.reduceAdd, Nat.reduceMul, Nat.reduceLeDiff, Nat.le_refl, Int.natCast_zero, Int.toNat_natCast, Int.reduceToNat, ht2]
    repeat' first
      | (refine Br.intro (fun _ => ?_) (fun _ => ?_) <;> try simp -dsimp -implicitDefEqProofs only [go_sem, ↓reduceIte, Nat.reduceEqDiff, Nat.reduceLT, Nat.reduceAdd, Nat.reduceMul, Nat.reduceLeDiff, Nat.le_refl, Int.natCast_zero, Int.toNat_natCast, Int.reduceToNat, *])
      | (with_reducible refine And.intro ?_ ?_)
      | (refine sCallT_one (c_l33Marks l (itF l v k) (by omega) (by omega) h2) ?_; try simp -dsimp -implicitDefEqProofs only [go_sem, ↓reduceIte, Nat.reduceEqDiff, Nat.reduceLT, Nat.reduceAdd, Nat.reduceMul, Nat.reduceLeDiff, Nat.le_refl, Int.natCast_zero, Int.toNat_natCast, Int.reduceToNat, *])
      | (refine sCallT_one (c_l33File l (itF l v k) v (by omega) (by omega) h2 hv6 w2) ?_; try simp -dsimp -implicitDefEqProofs only [go_sem, ↓reduceIte, Nat.reduceEqDiff, Nat.reduceLT, Nat.reduceAdd, Nat.reduceMul, Nat.reduceLeDiff, Nat.le_refl, Int.natCast_zero, Int.toNat_natCast, Int.reduceToNat, *])
    all_goals first
      | omega | (refine ⟨?_, ?_⟩ <;> omega) | (simp; done) | (simp; omega)
      | rfl
      | (have hne := of_decide_eq_true ‹decide (((marks l (itF l v k)).length : Int) > 0) = true›
         refine ⟨k + 1, hT.next hb hv6.1 (by omega), by omega, ?_⟩
         refine .one 30000 20 (by decide) (by decide) ?_; simp -dsimp -implicitDefEqProofs only [go_sem, ↓reduceIte, Nat.reduceEqDiff, Nat.reduceLT, Nat.reduceAdd, Nat.reduceMul, Nat.reduceLeDiff, Nat.le_refl, Int.natCast_zero, Int.toNat_natCast, Int.reduceToNat, hfl, hi1]; repeat' (with_reducible refine And.intro ?_ ?_)
         all_goals first | omega | rfl | (simp; done) | (simp only [Value.int.injEq, true_and]; omega))
      | (have hne := of_decide_eq_false ‹decide (((marks l (itF l v k)).length : Int) > 0) = false›
         have hd := hT.done hb (by omega)
         simp [turnsNeeded, hb, hv, hd]; done)
      | trace_state
theorem c_iTurnsNeeded (m : MkM) (l : List (List Int)) (v : Int) (h : l.length ≤ 1048576) (h2 : ∀ x ∈ l, x.length ≤ 1048576) : Fn Try.prog 31 [eMk m, eLk l, eI v] true (· = .tup [eI (turnsNeeded m l v).1, eI (turnsNeeded m l v).2]) := by
  refine Fn.of_vcN 36 [.tmp 6, .tmp 7] Try.func31 rfl rfl rfl rfl rfl (of_decide_eq_true rfl) ?_
  rcases hb : isLk m l with _ | _
  · have hk : lkV m l v = 1 := by simp [lkV, hb]
    have hk2 : lkCode m l = 1 := by simp [lkCode, hb]
    simp -dsimp -implicitDefEqProofs only [go_sem, ↓reduceIte, Nat.reduceEqDiff, Nat.reduceLT, Nat.reduceAdd, Nat.reduceMul, Nat.reduceLeDiff, Nat.le_refl, Int.natCast_zero, Int.toNat_natCast, Int.reduceToNat]
    repeat' first
    | (refine Br.intro (fun _ => ?_) (fun _ => ?_) <;> try simp -dsimp -implicitDefEqProofs only [go_sem, ↓reduceIte, Nat.reduceEqDiff, Nat.reduceLT, Nat.reduceAdd, Nat.reduceMul, Nat.reduceLeDiff, Nat.le_refl, Int.natCast_zero, Int.toNat_natCast, Int.reduceToNat, *])
    | (with_reducible refine And.intro ?_ ?_)
    | (refine sCallT_one (c_locksCode1 m l h h2) ?_; try simp -dsimp -implicitDefEqProofs only [go_sem, ↓reduceIte, Nat.reduceEqDiff, Nat.reduceLT, Nat.reduceAdd, Nat.reduceMul, Nat.reduceLeDiff, Nat.le_refl, Int.natCast_zero, Int.toNat_natCast, Int.reduceToNat, *])
    | (refine sCallT_one (c_within _ _ _) ?_; try simp -dsimp -implicitDefEqProofs only [go_sem, ↓reduceIte, Nat.reduceEqDiff, Nat.reduceLT, Nat.reduceAdd, Nat.reduceMul, Nat.reduceLeDiff, Nat.le_refl, Int.natCast_zero, Int.toNat_natCast, Int.reduceToNat, *])
    | (refine sCallX_one (c_locksCode1 m l h h2) ?_; try simp -dsimp -implicitDefEqProofs only [go_sem, ↓reduceIte, Nat.reduceEqDiff, Nat.reduceLT, Nat.reduceAdd, Nat.reduceMul, Nat.reduceLeDiff, Nat.le_refl, Int.natCast_zero, Int.toNat_natCast, Int.reduceToNat, *])
    | (refine sCallX_one (c_within _ _ _) ?_; try simp -dsimp -implicitDefEqProofs only [go_sem, ↓reduceIte, Nat.reduceEqDiff, Nat.reduceLT, Nat.reduceAdd, Nat.reduceMul, Nat.reduceLeDiff, Nat.le_refl, Int.natCast_zero, Int.toNat_natCast, Int.reduceToNat, *])
    | (refine Later.draw mixed rfl ?_; try simp -dsimp -implicitDefEqProofs only [go_sem, ↓reduceIte, Nat.reduceEqDiff, Nat.reduceLT, Nat.reduceAdd, Nat.reduceMul, Nat.reduceLeDiff, Nat.le_refl, Int.natCast_zero, Int.toNat_natCast, Int.reduceToNat, *])
    all_goals first
      | omega | (refine ⟨?_, ?_⟩ <;> omega) | (simp; done) | (simp; omega)
      | rfl
      | (simp_all [turnsNeeded]; done)
      | trace_state
  have hk2 : lkCode m l = 0 := by simp [lkCode, hb]
  have hn := isLk_len hb
  have hch : m.chambers = (l.length : Int) := hn.1.symm
  have hn6 := hn.2
  clear hn
  by_cases hv : (isIn v 1 6) = true
  rotate_left
  · have hk : lkV m l v = if isIn v 1 6 then 0 else 2 := by simp [lkV, hb]
    rcases hv1 : isIn v 1 6 with _ | _
    all_goals
      simp only [hv1] at hk hv
      simp -dsimp -implicitDefEqProofs only [go_sem, ↓reduceIte, Nat.reduceEqDiff, Nat.reduceLT, Nat.reduceAdd, Nat.reduceMul, Nat.reduceLeDiff, Nat.le_refl, Int.natCast_zero, Int.toNat_natCast, Int.reduceToNat]
      repeat' first
      | (refine Br.intro (fun _ => ?_) (fun _ => ?_) <;> try simp -dsimp -implicitDefEqProofs only [go_sem, ↓reduceIte, Nat.reduceEqDiff, Nat.reduceLT, Nat.reduceAdd, Nat.reduceMul, Nat.reduceLeDiff, Nat.le_refl, Int.natCast_zero, Int.toNat_natCast, Int.reduceToNat, *])
      | (with_reducible refine And.intro ?_ ?_)
      | (refine sCallT_one (c_locksCode1 m l h h2) ?_; try simp -dsimp -implicitDefEqProofs only [go_sem, ↓reduceIte, Nat.reduceEqDiff, Nat.reduceLT, Nat.reduceAdd, Nat.reduceMul, Nat.reduceLeDiff, Nat.le_refl, Int.natCast_zero, Int.toNat_natCast, Int.reduceToNat, *])
      | (refine sCallT_one (c_within _ _ _) ?_; try simp -dsimp -implicitDefEqProofs only [go_sem, ↓reduceIte, Nat.reduceEqDiff, Nat.reduceLT, Nat.reduceAdd, Nat.reduceMul, Nat.reduceLeDiff, Nat.le_refl, Int.natCast_zero, Int.toNat_natCast, Int.reduceToNat, *])
      | (refine sCallX_one (c_locksCode1 m l h h2) ?_; try simp -dsimp -implicitDefEqProofs only [go_sem, ↓reduceIte, Nat.reduceEqDiff, Nat.reduceLT, Nat.reduceAdd, Nat.reduceMul, Nat.reduceLeDiff, Nat.le_refl, Int.natCast_zero, Int.toNat_natCast, Int.reduceToNat, *])
      | (refine sCallX_one (c_within _ _ _) ?_; try simp -dsimp -implicitDefEqProofs only [go_sem, ↓reduceIte, Nat.reduceEqDiff, Nat.reduceLT, Nat.reduceAdd, Nat.reduceMul, Nat.reduceLeDiff, Nat.le_refl, Int.natCast_zero, Int.toNat_natCast, Int.reduceToNat, *])
      | (refine Later.draw mixed rfl ?_; try simp -dsimp -implicitDefEqProofs only [go_sem, ↓reduceIte, Nat.reduceEqDiff, Nat.reduceLT, Nat.reduceAdd, Nat.reduceMul, Nat.reduceLeDiff, Nat.le_refl, Int.natCast_zero, Int.toNat_natCast, Int.reduceToNat, *])
      all_goals first
        | omega | (refine ⟨?_, ?_⟩ <;> omega) | (simp; done) | (simp; omega)
        | rfl
        | (simp_all [turnsNeeded]; done)
        | trace_state
  have hv6 : 1 ≤ v ∧ v ≤ 6 := by simp [isIn] at hv; omega
  have hk : lkV m l v = 0 := by simp [lkV, hb, hv]
  simp -dsimp -implicitDefEqProofs only [go_sem, ↓reduceIte, Nat.reduceEqDiff, Nat.reduceLT, Nat.reduceAdd, Nat.reduceMul, Nat.reduceLeDiff, Nat.le_refl, Int.natCast_zero, Int.toNat_natCast, Int.reduceToNat]
  repeat' first
    | (refine Br.intro (fun _ => ?_) (fun _ => ?_) <;> try simp -dsimp -implicitDefEqProofs only [go_sem, ↓reduceIte, Nat.reduceEqDiff, Nat.reduceLT, Nat.reduceAdd, Nat.reduceMul, Nat.reduceLeDiff, Nat.le_refl, Int.natCast_zero, Int.toNat_natCast, Int.reduceToNat, *])
    | (with_reducible refine And.intro ?_ ?_)
    | (refine sCallT_one (c_locksCode1 m l h h2) ?_; try simp -dsimp -implicitDefEqProofs only [go_sem, ↓reduceIte, Nat.reduceEqDiff, Nat.reduceLT, Nat.reduceAdd, Nat.reduceMul, Nat.reduceLeDiff, Nat.le_refl, Int.natCast_zero, Int.toNat_natCast, Int.reduceToNat, *])
    | (refine sCallT_one (c_within _ _ _) ?_; try simp -dsimp -implicitDefEqProofs only [go_sem, ↓reduceIte, Nat.reduceEqDiff, Nat.reduceLT, Nat.reduceAdd, Nat.reduceMul, Nat.reduceLeDiff, Nat.le_refl, Int.natCast_zero, Int.toNat_natCast, Int.reduceToNat, *])
    | (refine Later.draw mixed rfl ?_; try simp -dsimp -implicitDefEqProofs only [go_sem, ↓reduceIte, Nat.reduceEqDiff, Nat.reduceLT, Nat.reduceAdd, Nat.reduceMul, Nat.reduceLeDiff, Nat.le_refl, Int.natCast_zero, Int.toNat_natCast, Int.reduceToNat, *])
  all_goals try (first | omega | (refine ⟨?_, ?_⟩ <;> omega) | rfl | (simp; done))
  refine Later.lpR [2, 4] [26, 27, 32] [23] (fun k => Turn l v k) (fun k => [(10, .ref 23 0 0 l.length), (9, eI (1 + (k : Int)))]) (fun k => [(23, .row 0 ⟨1, false⟩ true ((itF l v k).map eI))]) (fun k => 50 - k) 0 (Turn.zero l v) (.here ?_) rfl (fun k hT => ?_)
  · simp -dsimp -implicitDefEqProofs only [go_sem, ↓reduceIte, Nat.reduceEqDiff, Nat.reduceLT, Nat.reduceAdd, Nat.reduceMul, Nat.reduceLeDiff, Nat.le_refl, Int.natCast_zero, Int.toNat_natCast, Int.reduceToNat, itF_zero]
    try (simp; done)
  · have w := itF_way hb v k
    obtain ⟨w1, w2⟩ := way_bnd hb w
    have w0 := w.len
    have ht2 : ((itF l v k).map eI).take l.length = (itF l v k).map eI := List.take_of_length_le (by simp [w0])
    have hfl : (file l (itF l v k) v).length = l.length := by rw [file_len, w0]
    have hi1 := itF_succ l v k
    have h42 := hT.le hb
    simp -dsimp -implicitDefEqProofs only [pick_nil, pick_cons, look_nil, look_cons, dropB_nil, dropB_cons, inD_nil, inD_cons, inE_nil, inE_cons, or_t_l, or_f_l, Nat.reduceBEq, Nat.reduceDiv, Nat.reduceAdd, beq_self_eq_true, Bool.false_eq_true, Bool.or_false, ↓reduceIte, Nat.reduceEqDiff, List.cons_append, List.nil_append]
    simp -dsimp -implicitDefEqProofs only [go_sem, ↓reduceIte, Nat.reduceEqDiff, Nat.reduceLT, Nat.reduceAdd, Nat.reduceMul, Nat.reduceLeDiff, Nat.le_refl, Int.natCast_zero, Int.toNat_natCast, Int.reduceToNat, ht2]
    repeat' first
      | (refine Br.intro (fun _ => ?_) (fun _ => ?_) <;> try simp -dsimp -implicitDefEqProofs only [go_sem, ↓reduceIte, Nat.reduceEqDiff, Nat.reduceLT, Nat.reduceAdd, Nat.reduceMul, Nat.reduceLeDiff, Nat.le_refl, Int.natCast_zero, Int.toNat_natCast, Int.reduceToNat, *])
      | (with_reducible refine And.intro ?_ ?_)
      | (refine sCallT_one (c_marksOf l (itF l v k) (by omega) (by omega) h2) ?_; try simp -dsimp -implicitDefEqProofs only [go_sem, ↓reduceIte, Nat.reduceEqDiff, Nat.reduceLT, Nat.reduceAdd, Nat.reduceMul, Nat.reduceLeDiff, Nat.le_refl, Int.natCast_zero, Int.toNat_natCast, Int.reduceToNat, *])
      | (refine sCallT_one (c_file l (itF l v k) v (by omega) (by omega) h2 hv6 w2) ?_; try simp -dsimp -implicitDefEqProofs only [go_sem, ↓reduceIte, Nat.reduceEqDiff, Nat.reduceLT, Nat.reduceAdd, Nat.reduceMul, Nat.reduceLeDiff, Nat.le_refl, Int.natCast_zero, Int.toNat_natCast, Int.reduceToNat, *])
    all_goals first
      | omega | (refine ⟨?_, ?_⟩ <;> omega) | (simp; done) | (simp; omega)
      | rfl
      | (have hne := of_decide_eq_true ‹decide (((marks l (itF l v k)).length : Int) > 0) = true›
         refine ⟨k + 1, hT.next hb hv6.1 (by omega), by omega, ?_⟩
         refine .one 33000 23 (by decide) (by decide) ?_; simp -dsimp -implicitDefEqProofs only [go_sem, ↓reduceIte, Nat.reduceEqDiff, Nat.reduceLT, Nat.reduceAdd, Nat.reduceMul, Nat.reduceLeDiff, Nat.le_refl, Int.natCast_zero, Int.toNat_natCast, Int.reduceToNat, hfl, hi1]; repeat' (with_reducible refine And.intro ?_ ?_)
         all_goals first | omega | rfl | (simp; done) | (simp only [Value.int.injEq, true_and]; omega))
      | (have hne := of_decide_eq_false ‹decide (((marks l (itF l v k)).length : Int) > 0) = false›
         have hd := hT.done hb (by omega)
         simp [turnsNeeded, hb, hv, hd]; done)
      | trace_state
end Go.Vc
