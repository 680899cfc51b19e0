import Derived.Test.YtgdjpnahpanaoaaPkLawHoldersE
/-
  What is told of a register: tags with a person, states counted.
-/
set_option linter.unusedVariables false
set_option linter.unusedSimpArgs false
set_option linter.unnecessarySimpa false
namespace Go.Vc
open Go.Proofs
set_option maxRecDepth 100000
def cntStep (c : List Int) (t : TagM) : List Int := c.set t.state.toNat (c.getD t.state.toNat 0 + 1)
def cntS (ts : List TagM) : List Int := ts.foldl cntStep [0, 0, 0, 0]
theorem cntS_take (ts : List TagM) (i : Nat) (h : i < ts.length) : cntS (ts.take (i + 1)) = cntStep (cntS (ts.take i)) ts[i] := by
  rw [List.take_succ_eq_append_getElem h, cntS, List.foldl_append]; rfl
theorem cntS_inv (ts : List TagM) (i : Nat) (h : i ≤ ts.length) : (cntS (ts.take i)).length = 4 ∧ ∀ x ∈ cntS (ts.take i), 0 ≤ x ∧ x ≤ i := by
  induction i with
  | zero => simp [cntS]
  | succ i ih =>
    obtain ⟨h1, h2⟩ := ih (by omega)
    rw [cntS_take ts i (by omega), cntStep]
    refine ⟨by simp [h1], fun x hx => ?_⟩
    have hg : ∀ j, 0 ≤ (cntS (ts.take i)).getD j 0 ∧ (cntS (ts.take i)).getD j 0 ≤ i := by
      intro j
      by_cases hj : j < (cntS (ts.take i)).length
      · have := h2 _ (List.getElem_mem hj)
        simpa [List.getD_eq_getElem?_getD, hj] using this
      · rw [List.getD_eq_getElem?_getD, List.getElem?_eq_none (by omega)]; simp
    rcases List.mem_or_eq_of_mem_set hx with hx | hx
    · have := h2 x hx; omega
    · have := hg ts[i].state.toNat; omega
theorem cntS_nil : cntS [] = [0, 0, 0, 0] := rfl
attribute [irreducible] cntS
def countStates (r : RegM) : List Int × Int := if isReg r then (cntS r.tags, 0) else ([], 1)
theorem tag_state {r : RegM} (h : isReg r = true) {i : Nat} (hi : i < r.tags.length) : 0 ≤ r.tags[i].state ∧ r.tags[i].state ≤ 3 := by
  simp only [isReg, Bool.and_eq_true, List.all_eq_true] at h
  have := h.2 _ (List.getElem_mem hi)
  simp only [isTag, Bool.and_eq_true] at this
  have := this.2
  split at this
  · omega
  · split at this
    · omega
    · cases this
theorem c_sCountStates (r : RegM) : Fn Try.prog 16 [eReg r] true (· = .tup [eIs (countStates r).1, eI (countStates r).2]) := by
  refine Fn.of_vcN 29 [.tmp 2, .tmp 3] Try.func16 rfl rfl rfl rfl rfl (of_decide_eq_true rfl) ?_
  simp -dsimp -implicitDefEqProofs only [go_sem, ↓reduceIte, Nat.reduceEqDiff, Nat.reduceLT, Nat.reduceAdd, Nat.reduceMul, Nat.reduceLeDiff, Nat.le_refl, Int.natCast_zero, Int.toNat_natCast, Int.reduceToNat]
  repeat' first
    | (refine Br.intro (fun _ => ?_) (fun _ => ?_) <;> try simp -dsimp -implicitDefEqProofs only [go_sem, ↓reduceIte, Nat.reduceEqDiff, Nat.reduceLT, Nat.reduceAdd, Nat.reduceMul, Nat.reduceLeDiff, Nat.le_refl, Int.natCast_zero, Int.toNat_natCast, Int.reduceToNat, *])
    | (with_reducible refine And.intro ?_ ?_)
    | (refine sCallT_one (c_sIsRegister _) ?_; try simp -dsimp -implicitDefEqProofs only [go_sem, ↓reduceIte, Nat.reduceEqDiff, Nat.reduceLT, Nat.reduceAdd, Nat.reduceMul, Nat.reduceLeDiff, Nat.le_refl, Int.natCast_zero, Int.toNat_natCast, Int.reduceToNat, *])
  all_goals try (first | omega | (simp_all [countStates]; done))
  have hr : isReg r = true := by simp_all
  have h20 : r.tags.length ≤ 20 := by simp [isReg] at hr; omega
  refine Later.up [1, 4] [13] [9] r.tags.length (fun _ => True) (fun i => [(5, eI i)]) (fun i => [(9, .row 0 ⟨1, false⟩ true ((cntS (r.tags.take i)).map eI))]) trivial ?_ rfl (fun i hi _ => ?_) (fun _ => ?_)
  · simp -dsimp -implicitDefEqProofs only [go_sem, ↓reduceIte, Nat.reduceEqDiff, Nat.reduceLT, Nat.reduceAdd, Nat.reduceMul, Nat.reduceLeDiff, Nat.le_refl, Int.natCast_zero, Int.toNat_natCast, Int.reduceToNat]
    simp [cntS_nil]
  · have hs := tag_state hr hi
    obtain ⟨hl, hb⟩ := cntS_inv r.tags i (by omega)
    have hs2 := cntS_take r.tags i hi
    have hgi := get_some hi
    have hj : r.tags[i].state.toNat < (cntS (r.tags.take i)).length := by omega
    have hg : (cntS (r.tags.take i))[r.tags[i].state.toNat]? = some ((cntS (r.tags.take i)).getD r.tags[i].state.toNat 0) := by
      rw [List.getD_eq_getElem?_getD, List.getElem?_eq_getElem hj]; rfl
    have hb2 := hb _ (List.mem_of_getElem? hg)
    simp -dsimp -implicitDefEqProofs only [pick_nil, pick_cons, look_nil, look_cons, dropB_nil, dropB_cons, inD_nil, inD_cons, inE_nil, inE_cons, or_t_l, or_f_l, Nat.reduceBEq, Nat.reduceDiv, Nat.reduceAdd, beq_self_eq_true, Bool.false_eq_true, Bool.or_false, ↓reduceIte, Nat.reduceEqDiff, List.cons_append, List.nil_append]
    rw [hs2]
    simp -dsimp -implicitDefEqProofs only [go_sem, ↓reduceIte, Nat.reduceEqDiff, Nat.reduceLT, Nat.reduceAdd, Nat.reduceMul, Nat.reduceLeDiff, Nat.le_refl, Int.natCast_zero, Int.toNat_natCast, Int.reduceToNat, lt_len hi, get_some hi, hg]
    repeat' first
      | (refine Br.intro (fun _ => ?_) (fun _ => ?_) <;> try simp -dsimp -implicitDefEqProofs only [go_sem, ↓reduceIte, Nat.reduceEqDiff, Nat.reduceLT, Nat.reduceAdd, Nat.reduceMul, Nat.reduceLeDiff, Nat.le_refl, Int.natCast_zero, Int.toNat_natCast, Int.reduceToNat, *])
      | (with_reducible refine And.intro ?_ ?_)
    all_goals first | omega | (refine ⟨?_, ?_⟩ <;> omega) | rfl | (simp; done) | (rw [hl]; omega) | (rw [List.length_map, hl]; omega) | (rw [cntStep, List.map_set]; done) | trace_state
  · obtain ⟨hl, hb⟩ := cntS_inv r.tags r.tags.length (by omega)
    rw [List.take_length] at hl
    have ht : ((cntS r.tags).map eI).take 4 = (cntS r.tags).map eI := by rw [← hl, take_map_len]
    simp -dsimp -implicitDefEqProofs only [pick_nil, pick_cons, look_nil, look_cons, dropB_nil, dropB_cons, inD_nil, inD_cons, inE_nil, inE_cons, or_t_l, or_f_l, Nat.reduceBEq, Nat.reduceDiv, Nat.reduceAdd, beq_self_eq_true, Bool.false_eq_true, Bool.or_false, ↓reduceIte, Nat.reduceEqDiff, List.cons_append, List.nil_append]
    simp -dsimp -implicitDefEqProofs only [go_sem, ↓reduceIte, Nat.reduceEqDiff, Nat.reduceLT, Nat.reduceAdd, Nat.reduceMul, Nat.reduceLeDiff, Nat.le_refl, Int.natCast_zero, Int.toNat_natCast, Int.reduceToNat, nlt_len, List.take_length, ht]
    repeat' (with_reducible refine And.intro ?_ ?_)
    all_goals first | omega | (refine ⟨?_, ?_⟩ <;> omega) | rfl | (simp; done) | (simp_all [countStates]; done) | (simp_all [countStates]; omega) | (simp_all [countStates]; split <;> simp_all <;> omega) | trace_state
theorem c_iCountStates (r : RegM) (h1 : r.tags.length ≤ 1048576) (h2 : r.roles.length ≤ 1048576) : Fn Try.prog 15 [eReg r] true (· = .tup [eIs (countStates r).1, eI (countStates r).2]) := by
  refine Fn.of_vcN 27 [.tmp 2, .tmp 3] Try.func15 rfl rfl rfl rfl rfl (of_decide_eq_true rfl) ?_
  simp -dsimp -implicitDefEqProofs only [go_sem, ↓reduceIte, Nat.reduceEqDiff, Nat.reduceLT, Nat.reduceAdd, Nat.reduceMul, Nat.reduceLeDiff, Nat.le_refl, Int.natCast_zero, Int.toNat_natCast, Int.reduceToNat]
  repeat' first
    | (refine Br.intro (fun _ => ?_) (fun _ => ?_) <;> try simp -dsimp -implicitDefEqProofs only [go_sem, ↓reduceIte, Nat.reduceEqDiff, Nat.reduceLT, Nat.reduceAdd, Nat.reduceMul, Nat.reduceLeDiff, Nat.le_refl, Int.natCast_zero, Int.toNat_natCast, Int.reduceToNat, *])
    | (with_reducible refine And.intro ?_ ?_)
    | (refine sCallT_one (c_iIsRegister _ h1 h2) ?_; try simp -dsimp -implicitDefEqProofs only [go_sem, ↓reduceIte, Nat.reduceEqDiff, Nat.reduceLT, Nat.reduceAdd, Nat.reduceMul, Nat.reduceLeDiff, Nat.le_refl, Int.natCast_zero, Int.toNat_natCast, Int.reduceToNat, *])
  all_goals try (first | omega | (simp_all [countStates]; done))
  have hr : isReg r = true := by simp_all
  have h20 : r.tags.length ≤ 20 := by simp [isReg] at hr; omega
  refine Later.up [4, 12, 13] [6] [10] r.tags.length (fun _ => True) (fun i => [(14, eI i)]) (fun i => [(10, .row 0 ⟨1, false⟩ true ((cntS (r.tags.take i)).map eI))]) trivial ?_ rfl (fun i hi _ => ?_) (fun _ => ?_)
  · simp -dsimp -implicitDefEqProofs only [go_sem, ↓reduceIte, Nat.reduceEqDiff, Nat.reduceLT, Nat.reduceAdd, Nat.reduceMul, Nat.reduceLeDiff, Nat.le_refl, Int.natCast_zero, Int.toNat_natCast, Int.reduceToNat]
    simp [cntS_nil]
  · have hs := tag_state hr hi
    obtain ⟨hl, hb⟩ := cntS_inv r.tags i (by omega)
    have hs2 := cntS_take r.tags i hi
    have hgi := get_some hi
    have hj : r.tags[i].state.toNat < (cntS (r.tags.take i)).length := by omega
    have hg : (cntS (r.tags.take i))[r.tags[i].state.toNat]? = some ((cntS (r.tags.take i)).getD r.tags[i].state.toNat 0) := by
      rw [List.getD_eq_getElem?_getD, List.getElem?_eq_getElem hj]; rfl
    have hb2 := hb _ (List.mem_of_getElem? hg)
    simp -dsimp -implicitDefEqProofs only [pick_nil, pick_cons, look_nil, look_cons, dropB_nil, dropB_cons, inD_nil, inD_cons, inE_nil, inE_cons, or_t_l, or_f_l, Nat.reduceBEq, Nat.reduceDiv, Nat.reduceAdd, beq_self_eq_true, Bool.false_eq_true, Bool.or_false, ↓reduceIte, Nat.reduceEqDiff, List.cons_append, List.nil_append]
    rw [hs2]
    simp -dsimp -implicitDefEqProofs only [go_sem, ↓reduceIte, Nat.reduceEqDiff, Nat.reduceLT, Nat.reduceAdd, Nat.reduceMul, Nat.reduceLeDiff, Nat.le_refl, Int.natCast_zero, Int.toNat_natCast, Int.reduceToNat, lt_len hi, get_some hi, hg]
    repeat' first
      | (refine Br.intro (fun _ => ?_) (fun _ => ?_) <;> try simp -dsimp -implicitDefEqProofs only [go_sem, ↓reduceIte, Nat.reduceEqDiff, Nat.reduceLT, Nat.reduceAdd, Nat.reduceMul, Nat.reduceLeDiff, Nat.le_refl, Int.natCast_zero, Int.toNat_natCast, Int.reduceToNat, *])
      | (with_reducible refine And.intro ?_ ?_)
    all_goals first | omega | (refine ⟨?_, ?_⟩ <;> omega) | rfl | (simp; done) | (rw [hl]; omega) | (rw [List.length_map, hl]; omega) | (rw [cntStep, List.map_set]; done) | trace_state
  · obtain ⟨hl, hb⟩ := cntS_inv r.tags r.tags.length (by omega)
    rw [List.take_length] at hl
    have ht : ((cntS r.tags).map eI).take 4 = (cntS r.tags).map eI := by rw [← hl, take_map_len]
    simp -dsimp -implicitDefEqProofs only [pick_nil, pick_cons, look_nil, look_cons, dropB_nil, dropB_cons, inD_nil, inD_cons, inE_nil, inE_cons, or_t_l, or_f_l, Nat.reduceBEq, Nat.reduceDiv, Nat.reduceAdd, beq_self_eq_true, Bool.false_eq_true, Bool.or_false, ↓reduceIte, Nat.reduceEqDiff, List.cons_append, List.nil_append]
    simp -dsimp -implicitDefEqProofs only [go_sem, ↓reduceIte, Nat.reduceEqDiff, Nat.reduceLT, Nat.reduceAdd, Nat.reduceMul, Nat.reduceLeDiff, Nat.le_refl, Int.natCast_zero, Int.toNat_natCast, Int.reduceToNat, nlt_len, List.take_length, ht]
    repeat' (with_reducible refine And.intro ?_ ?_)
    all_goals first | omega | (refine ⟨?_, ?_⟩ <;> omega) | rfl | (simp; done) | (simp_all [countStates]; done) | (simp_all [countStates]; omega) | (simp_all [countStates]; split <;> simp_all <;> omega) | trace_state
end Go.Vc


/-
  Plain facts for the law on holders.
-/
set_option linter.unusedVariables false
set_option linter.unusedSimpArgs false
set_option linter.unnecessarySimpa false
namespace Go.Vc
open Go.Proofs
theorem tagsWith_zero {r : RegM} {p : Int} (h : (tagsWith r p).2 = 0) : isReg r = true ∧ tagsWith r p = (tw r.tags p r.tags.length, 0) := by
  unfold tagsWith at *
  split
  · rename_i hr
    split
    · exact ⟨hr, rfl⟩
    · rename_i hp; rw [if_pos hr, if_neg hp] at h; exact absurd h (by decide)
  · rename_i hr; rw [if_neg hr] at h; exact absurd h (by decide)
theorem tagsWith_at {r : RegM} (h : isReg r = true) {k : Nat} (hk : k < r.roles.length) : tagsWith r (k : Int) = (tw r.tags (k : Int) r.tags.length, 0) := by
  rw [tagsWith, if_pos h, if_pos]
  simp only [isIn, Bool.and_eq_true, decide_eq_true_eq]
  omega
theorem has_mem {xs : List Int} {x : Int} (h : x ∈ xs) : has xs x = true := by
  simp only [has, Bool.not_eq_true', List.all_eq_false]
  exact ⟨x, h, by simp⟩
theorem pd_facts {r : RegM} {t : List (List Int)} {p : Int} (h : (personDoors r t p).2 = 0) : tagsWith r p = (tw r.tags p r.tags.length, 0) ∧
    ∀ x ∈ heldRows r p, (openFor t [x]).2 = 0 ∧ ∀ d ∈ (openFor t [x]).1, has (personDoors r t p).1 d = true := by
  unfold personDoors at *
  by_cases hb : isTb t = true
  rotate_left
  · rw [if_neg hb] at h; exact absurd h (by decide)
  by_cases hr : isReg r = true
  rotate_left
  · rw [if_pos hb, if_neg hr] at h; exact absurd h (by decide)
  by_cases hp : isIn p 0 (r.roles.length - 1) = true
  rotate_left
  · rw [if_pos hb, if_pos hr, if_neg hp] at h; exact absurd h (by decide)
  rw [if_pos hb, if_pos hr, if_pos hp] at *
  refine ⟨by rw [tagsWith, if_pos hr, if_pos hp], fun x hx => ?_⟩
  have hxm := (rowsL_mem (heldRows r p) x).2 hx
  generalize rowsL (heldRows r p) = R at *
  unfold openFor at *
  by_cases hri : rises R t.length = true
  rotate_left
  · rw [if_pos hb, if_neg hri] at h; exact absurd h (by decide)
  rw [if_pos hb, if_pos hri]
  have hxr : rises [x] t.length = true := by
    rw [rises_iff]
    obtain ⟨i, hi, e⟩ := List.getElem_of_mem hxm
    have := ((rises_iff _ _).1 hri).1 i hi
    rw [e] at this
    refine ⟨fun j hj => ?_, fun j hj => by simp at hj⟩
    have : j = 0 := by simpa using hj
    subst this
    simpa using ‹0 ≤ x ∧ x < t.length›
  rw [if_pos hb, if_pos hxr]
  refine ⟨rfl, fun d hd => has_mem ?_⟩
  obtain ⟨j, hj, rfl, hp2⟩ := flt_mem hd
  have : openAt t R j = true := List.any_eq_true.2 ⟨x, hxm, by simpa [openAt] using hp2⟩
  have key : ∀ n, j < n → (j : Int) ∈ flt (openAt t R) n := by
    intro n
    induction n with
    | zero => intro h; omega
    | succ n ih =>
      intro h
      rw [flt_succ]
      by_cases e : j = n
      · subst e; rw [if_pos this]; simp
      · have := ih (by omega)
        split
        · exact List.mem_append_left _ this
        · exact this
  exact key _ hj
/-- the tags with the first K persons, counted -/
def wsum (ts : List TagM) (n : Nat) : Nat → Nat
  | 0 => 0
  | k + 1 => wsum ts n k + (tw ts (k : Int) n).length
theorem wsum_succ (ts : List TagM) (n k : Nat) : wsum ts n (k + 1) = wsum ts n k + (tw ts (k : Int) n).length := rfl
theorem wsum_le (ts : List TagM) (n : Nat) : ∀ k, wsum ts n k ≤ k * n
  | 0 => Nat.zero_le _
  | k + 1 => by
    have := wsum_le ts n k
    have := tw_len ts (k : Int) n
    rw [wsum_succ, Nat.succ_mul]; omega
def wone (t : TagM) : Nat → Nat
  | 0 => 0
  | k + 1 => wone t k + (if isW t (k : Int) then 1 else 0)
theorem wone_eq (t : TagM) : ∀ K : Nat, wone t K = if t.state = 1 ∧ 0 ≤ t.person ∧ t.person < K then 1 else 0
  | 0 => by rw [if_neg (by omega)]; rfl
  | k + 1 => by
    show wone t k + _ = _
    rw [wone_eq t k]
    simp only [isW, Bool.and_eq_true, beq_iff_eq]
    split <;> split <;> split <;> omega
theorem wsum_step (ts : List TagM) {n : Nat} (hn : n < ts.length) : ∀ K, wsum ts (n + 1) K = wsum ts n K + wone ts[n] K
  | 0 => rfl
  | k + 1 => by
    show wsum ts (n + 1) k + _ = wsum ts n k + _ + (wone ts[n] k + _)
    rw [wsum_step ts hn k, tw_succ ts (k : Int) n hn]
    split <;> simp_all <;> omega
theorem wsum_cnt {r : RegM} (h : isReg r = true) : ∀ n, n ≤ r.tags.length → ((wsum r.tags n r.roles.length : Nat) : Int) = (cntS (r.tags.take n)).getD 1 0
  | 0, _ => by
    have : ∀ K, wsum r.tags 0 K = 0 := fun K => by have := wsum_le r.tags 0 K; omega
    rw [this, List.take_zero, cntS_nil]; rfl
  | n + 1, hn => by
    have ih := wsum_cnt h n (by omega)
    have hl := (cntS_inv r.tags n (by omega)).1
    have hs := tag_state h (i := n) (by omega)
    rw [wsum_step _ (by omega), cntS_take _ _ (by omega), wone_eq]
    have ht : isTag r.tags[n] r.roles.length = true := by
      simp only [isReg, Bool.and_eq_true, List.all_eq_true] at h
      exact h.2 _ (List.getElem_mem _)
    generalize r.tags[n] = t at *
    generalize cntS (r.tags.take n) = c at *
    simp only [isTag, Bool.and_eq_true] at ht
    have ht := ht.2
    have hset : ∀ v : Int, (c.set t.state.toNat v).getD 1 0 = if t.state = 1 then v else c.getD 1 0 := fun v => by
      rw [List.getD_eq_getElem?_getD, List.getElem?_set, List.getD_eq_getElem?_getD]
      by_cases e : t.state = 1
      · rw [e, if_pos (by decide), if_pos (by simp; omega), if_pos rfl]; rfl
      · rw [if_neg (by omega), if_neg e]
    rw [cntStep, hset]
    by_cases e : t.state = 1
    · rw [if_neg (by omega), if_pos (by omega)] at ht
      simp only [isIn, Bool.and_eq_true, decide_eq_true_eq] at ht
      rw [if_pos (by omega), if_pos e, e]
      simp only [Int.toNat_one]
      omega
    · rw [if_neg (fun h => e h.1), if_neg e]; omega
theorem wsum_states {r : RegM} (h : isReg r = true) : countStates r = (cntS r.tags, 0) ∧ (cntS r.tags).length = 4 ∧ (cntS r.tags)[1]? = some ((wsum r.tags r.tags.length r.roles.length : Nat) : Int) := by
  have h1 := wsum_cnt h r.tags.length (Nat.le_refl _)
  have h2 := (cntS_inv r.tags r.tags.length (Nat.le_refl _)).1
  rw [List.take_length] at h1 h2
  refine ⟨by rw [countStates, if_pos h], h2, ?_⟩
  rw [h1, List.getD_eq_getElem?_getD, List.getElem?_eq_getElem (by omega)]; rfl
end Go.Vc


/-
  The contract of the law on holders.
-/
set_option linter.unusedVariables false
set_option linter.unusedSimpArgs false
set_option linter.unnecessarySimpa false
namespace Go.Vc
open Go.Proofs
set_option maxRecDepth 100000
attribute [local irreducible] drawEvent drawEvents
set_option maxHeartbeats 8000000 in
theorem c_FnHolders (bs : List UInt8) (h : bs.length ≤ 9223372036854775807) : Fn Try.prog 3 [eYs bs] true (· = eB true) := by
  refine Fn.of_vcN 232 [.tmp 2] Try.func3 rfl rfl rfl rfl rfl (of_decide_eq_true rfl) ?_
  simp -dsimp -implicitDefEqProofs only [go_sem, ↓reduceIte, Nat.reduceEqDiff, Nat.reduceLT, Nat.reduceAdd, Nat.reduceMul, Nat.reduceLeDiff, Nat.le_refl, Int.natCast_zero, Int.toNat_natCast, Int.reduceToNat]
  refine sCallT_one (c_big bs h) ?_
  rcases hb : decide ((bs.length : Int) > 4096) with _ | _
  rotate_left
  · simp -dsimp -implicitDefEqProofs only [go_sem, ↓reduceIte, Nat.reduceEqDiff, Nat.reduceLT, Nat.reduceAdd, Nat.reduceMul, Nat.reduceLeDiff, Nat.le_refl, Int.natCast_zero, Int.toNat_natCast, Int.reduceToNat, hb]
  have hl : bs.length ≤ 4096 := by have := of_decide_eq_false hb; omega
  simp -dsimp -implicitDefEqProofs only [go_sem, ↓reduceIte, Nat.reduceEqDiff, Nat.reduceLT, Nat.reduceAdd, Nat.reduceMul, Nat.reduceLeDiff, Nat.le_refl, Int.natCast_zero, Int.toNat_natCast, Int.reduceToNat, hb]
  refine sCallT_any (c_DrawTagsWith bs hl) ?_
  rintro _ ⟨r, p, t1, t2, rfl⟩
  simp -dsimp -implicitDefEqProofs only [go_sem, ↓reduceIte, Nat.reduceEqDiff, Nat.reduceLT, Nat.reduceAdd, Nat.reduceMul, Nat.reduceLeDiff, Nat.le_refl, Int.natCast_zero, Int.toNat_natCast, Int.reduceToNat]
  (refine sCallT_one (c_iTagsWith r p (by omega) (by omega)) ?_; simp -dsimp -implicitDefEqProofs only [go_sem, ↓reduceIte, Nat.reduceEqDiff, Nat.reduceLT, Nat.reduceAdd, Nat.reduceMul, Nat.reduceLeDiff, Nat.le_refl, Int.natCast_zero, Int.toNat_natCast, Int.reduceToNat])
  (refine sCallT_one (c_sTagsWith r p (by omega) (by omega)) ?_; simp -dsimp -implicitDefEqProofs only [go_sem, ↓reduceIte, Nat.reduceEqDiff, Nat.reduceLT, Nat.reduceAdd, Nat.reduceMul, Nat.reduceLeDiff, Nat.le_refl, Int.natCast_zero, Int.toNat_natCast, Int.reduceToNat])
  refine sCallS_any (c_DrawPersonDoors bs hl) (by simp [noLabs, labs, isClo]) ?_
  rintro _ ⟨r2, tb, p2, u1, u2, u3, u4, rfl⟩
  simp -dsimp -implicitDefEqProofs only [go_sem, ↓reduceIte, Nat.reduceEqDiff, Nat.reduceLT, Nat.reduceAdd, Nat.reduceMul, Nat.reduceLeDiff, Nat.le_refl, Int.natCast_zero, Int.toNat_natCast, Int.reduceToNat]
  (refine sCallT_one (c_iPersonDoors r2 tb p2 (by omega) (by omega) (by omega) (fun x hx => by have := u4 x hx; omega)) ?_; simp -dsimp -implicitDefEqProofs only [go_sem, ↓reduceIte, Nat.reduceEqDiff, Nat.reduceLT, Nat.reduceAdd, Nat.reduceMul, Nat.reduceLeDiff, Nat.le_refl, Int.natCast_zero, Int.toNat_natCast, Int.reduceToNat])
  (refine sCallT_one (c_sPersonDoors r2 tb p2 (by omega) (by omega) (by omega) (fun x hx => by have := u4 x hx; omega)) ?_; simp -dsimp -implicitDefEqProofs only [go_sem, ↓reduceIte, Nat.reduceEqDiff, Nat.reduceLT, Nat.reduceAdd, Nat.reduceMul, Nat.reduceLeDiff, Nat.le_refl, Int.natCast_zero, Int.toNat_natCast, Int.reduceToNat])
  have hw := @pd_facts r2 tb p2
  have hz := @tagsWith_zero r p
  have hwl := personDoors_len r2 tb p2
  have hzl : (tagsWith r p).1.length ≤ 21 := by
    have := tw_len r.tags p r.tags.length
    unfold tagsWith
    split <;> (try split) <;> simp <;> omega
  generalize personDoors r2 tb p2 = W at *
  generalize tagsWith r p = Z at *
  have l1 := c_likeIntsE Z.1 (by omega)
  have l2 := c_likeIntsE W.1 (by omega)
  have n1 : (Z.2 != Z.2) = false := by simp
  have n2 : (W.2 != W.2) = false := by simp
  refine sCallT_one l1 ?_
  simp -dsimp -implicitDefEqProofs only [go_sem, ↓reduceIte, Nat.reduceEqDiff, Nat.reduceLT, Nat.reduceAdd, Nat.reduceMul, Nat.reduceLeDiff, Nat.le_refl, Int.natCast_zero, Int.toNat_natCast, Int.reduceToNat, n1, n2]
  refine sCallT_one l2 ?_
  simp -dsimp -implicitDefEqProofs only [go_sem, ↓reduceIte, Nat.reduceEqDiff, Nat.reduceLT, Nat.reduceAdd, Nat.reduceMul, Nat.reduceLeDiff, Nat.le_refl, Int.natCast_zero, Int.toNat_natCast, Int.reduceToNat, n1, n2]
  cases hc : (W.2 == 0)
  case' false =>
    simp -dsimp -implicitDefEqProofs only [go_sem, ↓reduceIte, Nat.reduceEqDiff, Nat.reduceLT, Nat.reduceAdd, Nat.reduceMul, Nat.reduceLeDiff, Nat.le_refl, Int.natCast_zero, Int.toNat_natCast, Int.reduceToNat, hc]
  case' true =>
    obtain ⟨hT, hD⟩ := hw (by simpa using hc)
    have m1 := c_iTagsWith r2 p2 (by omega) (by omega)
    have m2 := c_sTagsWith r2 p2 (by omega) (by omega)
    have htl := tw_len r2.tags p2 r2.tags.length
    have hget := fun i hi => rowAt_get (r := r2) (p := p2) (i := i) hi
    have hh : heldRows r2 p2 = (tw r2.tags p2 r2.tags.length).map (rowAt r2) := rfl
    rw [hT] at m1 m2
    rw [hh] at hD
    clear hT hh hw
    generalize tw r2.tags p2 r2.tags.length = T at *
    have l3 := c_likeIntsE T (by omega)
    simp -dsimp -implicitDefEqProofs only [go_sem, ↓reduceIte, Nat.reduceEqDiff, Nat.reduceLT, Nat.reduceAdd, Nat.reduceMul, Nat.reduceLeDiff, Nat.le_refl, Int.natCast_zero, Int.toNat_natCast, Int.reduceToNat, hc]
    (refine sCallT_one (m1) ?_; simp -dsimp -implicitDefEqProofs only [go_sem, ↓reduceIte, Nat.reduceEqDiff, Nat.reduceLT, Nat.reduceAdd, Nat.reduceMul, Nat.reduceLeDiff, Nat.le_refl, Int.natCast_zero, Int.toNat_natCast, Int.reduceToNat])
    (refine sCallT_one (m2) ?_; simp -dsimp -implicitDefEqProofs only [go_sem, ↓reduceIte, Nat.reduceEqDiff, Nat.reduceLT, Nat.reduceAdd, Nat.reduceMul, Nat.reduceLeDiff, Nat.le_refl, Int.natCast_zero, Int.toNat_natCast, Int.reduceToNat])
    refine sCallT_one l3 ?_
    simp -dsimp -implicitDefEqProofs only [go_sem, ↓reduceIte, Nat.reduceEqDiff, Nat.reduceLT, Nat.reduceAdd, Nat.reduceMul, Nat.reduceLeDiff, Nat.le_refl, Int.natCast_zero, Int.toNat_natCast, Int.reduceToNat]
    ((repeat' (with_reducible refine And.intro ?_ ?_)); all_goals try (first | omega | (refine ⟨?_, ?_⟩ <;> omega) | (exact rfl)))
    refine Later.up [3, 6, 9, 10, 12, 16] [120, 135, 136, 150, 151, 160, 167, 176] [] T.length (fun _ => True) (fun i => [(20, eI i)]) (fun _ => []) trivial ?_ rfl (fun i hi _ => ?_) (fun _ => ?_)
    · simp -dsimp -implicitDefEqProofs only [go_sem, ↓reduceIte, Nat.reduceEqDiff, Nat.reduceLT, Nat.reduceAdd, Nat.reduceMul, Nat.reduceLeDiff, Nat.le_refl, Int.natCast_zero, Int.toNat_natCast, Int.reduceToNat]
    · obtain ⟨e1, e2, e3⟩ := hget i hi
      have gi := get_some hi
      have li := lt_len hi
      have ga := get_some e1
      obtain ⟨hO, hd⟩ := hD _ (List.mem_map_of_mem (List.getElem_mem hi))
      rw [e3] at hO hd
      generalize r2.tags[T[i].toNat] = tg at *
      have o1 := c_iOpenFor tb [tg.row] (by omega) (fun x hx => by have := u4 x hx; omega) (by simp)
      have o2 := c_sOpenFor tb [tg.row] (by omega) (fun x hx => by have := u4 x hx; omega) (by simp)
      have hol := openFor_len tb [tg.row]
      generalize openFor tb [tg.row] = O at *
      obtain ⟨O, oc⟩ := O
      dsimp only at hO hd o1 o2 hol
      subst hO
      have l4 := c_likeIntsE O (by omega)
      generalize T[i] = ti at *
      clear hget hD
      simp -dsimp -implicitDefEqProofs only [pick_nil, pick_cons, look_nil, look_cons, dropB_nil, dropB_cons, inD_nil, inD_cons, inE_nil, inE_cons, or_t_l, or_f_l, Nat.reduceBEq, Nat.reduceDiv, Nat.reduceAdd, beq_self_eq_true, Bool.false_eq_true, Bool.or_false, ↓reduceIte, Nat.reduceEqDiff, List.cons_append, List.nil_append]
      simp -dsimp -implicitDefEqProofs only [go_sem, ↓reduceIte, Nat.reduceEqDiff, Nat.reduceLT, Nat.reduceAdd, Nat.reduceMul, Nat.reduceLeDiff, Nat.le_refl, Int.natCast_zero, Int.toNat_natCast, Int.reduceToNat, li]
      refine Later.draw mixed rfl ?_
      simp -dsimp -implicitDefEqProofs only [go_sem, ↓reduceIte, Nat.reduceEqDiff, Nat.reduceLT, Nat.reduceAdd, Nat.reduceMul, Nat.reduceLeDiff, Nat.le_refl, Int.natCast_zero, Int.toNat_natCast, Int.reduceToNat, gi, ga]
      ((repeat' (with_reducible refine And.intro ?_ ?_)); all_goals try (first | omega | (refine ⟨?_, ?_⟩ <;> omega) | (exact rfl)))
      refine sCallX_one o1 ?_
      simp -dsimp -implicitDefEqProofs only [go_sem, ↓reduceIte, Nat.reduceEqDiff, Nat.reduceLT, Nat.reduceAdd, Nat.reduceMul, Nat.reduceLeDiff, Nat.le_refl, Int.natCast_zero, Int.toNat_natCast, Int.reduceToNat]
      ((repeat' (with_reducible refine And.intro ?_ ?_)); all_goals try (first | omega | (refine ⟨?_, ?_⟩ <;> omega) | (exact rfl)))
      refine Later.draw mixed rfl ?_
      simp -dsimp -implicitDefEqProofs only [go_sem, ↓reduceIte, Nat.reduceEqDiff, Nat.reduceLT, Nat.reduceAdd, Nat.reduceMul, Nat.reduceLeDiff, Nat.le_refl, Int.natCast_zero, Int.toNat_natCast, Int.reduceToNat, gi, ga]
      ((repeat' (with_reducible refine And.intro ?_ ?_)); all_goals try (first | omega | (refine ⟨?_, ?_⟩ <;> omega) | (exact rfl)))
      refine sCallX_one o2 ?_
      simp -dsimp -implicitDefEqProofs only [go_sem, ↓reduceIte, Nat.reduceEqDiff, Nat.reduceLT, Nat.reduceAdd, Nat.reduceMul, Nat.reduceLeDiff, Nat.le_refl, Int.natCast_zero, Int.toNat_natCast, Int.reduceToNat]
      ((repeat' (with_reducible refine And.intro ?_ ?_)); all_goals try (first | omega | (refine ⟨?_, ?_⟩ <;> omega) | (exact rfl)))
      refine sCallT_one l4 ?_
      simp -dsimp -implicitDefEqProofs only [go_sem, ↓reduceIte, Nat.reduceEqDiff, Nat.reduceLT, Nat.reduceAdd, Nat.reduceMul, Nat.reduceLeDiff, Nat.le_refl, Int.natCast_zero, Int.toNat_natCast, Int.reduceToNat]
      ((repeat' (with_reducible refine And.intro ?_ ?_)); all_goals try (first | omega | (refine ⟨?_, ?_⟩ <;> omega) | (exact rfl)))
      refine Later.up [3, 6, 9, 10, 12, 16, 20, 21] [167, 176] [] O.length (fun _ => True) (fun j => [(25, eI j)]) (fun _ => []) trivial ?_ rfl (fun j hj _ => ?_) (fun _ => ?_)
      · simp -dsimp -implicitDefEqProofs only [go_sem, ↓reduceIte, Nat.reduceEqDiff, Nat.reduceLT, Nat.reduceAdd, Nat.reduceMul, Nat.reduceLeDiff, Nat.le_refl, Int.natCast_zero, Int.toNat_natCast, Int.reduceToNat]
      · have gj := get_some hj
        have lj := lt_len hj
        have hh := hd _ (List.getElem_mem hj)
        have y1 := c_hasInt W.1 O[j] (by omega)
        rw [hh] at y1
        clear hh
        generalize O[j] = oj at *
        simp -dsimp -implicitDefEqProofs only [pick_nil, pick_cons, look_nil, look_cons, dropB_nil, dropB_cons, inD_nil, inD_cons, inE_nil, inE_cons, or_t_l, or_f_l, Nat.reduceBEq, Nat.reduceDiv, Nat.reduceAdd, beq_self_eq_true, Bool.false_eq_true, Bool.or_false, ↓reduceIte, Nat.reduceEqDiff, List.cons_append, List.nil_append]
        simp -dsimp -implicitDefEqProofs only [go_sem, ↓reduceIte, Nat.reduceEqDiff, Nat.reduceLT, Nat.reduceAdd, Nat.reduceMul, Nat.reduceLeDiff, Nat.le_refl, Int.natCast_zero, Int.toNat_natCast, Int.reduceToNat, gj, lj]
        ((repeat' (with_reducible refine And.intro ?_ ?_)); all_goals try (first | omega | (refine ⟨?_, ?_⟩ <;> omega) | (exact rfl)))
        refine sCallT_one y1 ?_
        simp -dsimp -implicitDefEqProofs only [go_sem, ↓reduceIte, Nat.reduceEqDiff, Nat.reduceLT, Nat.reduceAdd, Nat.reduceMul, Nat.reduceLeDiff, Nat.le_refl, Int.natCast_zero, Int.toNat_natCast, Int.reduceToNat]
        ((repeat' (with_reducible refine And.intro ?_ ?_)); all_goals try (first | omega | (refine ⟨?_, ?_⟩ <;> omega) | (exact rfl)))
        all_goals trace_state
      · simp -dsimp -implicitDefEqProofs only [pick_nil, pick_cons, look_nil, look_cons, dropB_nil, dropB_cons, inD_nil, inD_cons, inE_nil, inE_cons, or_t_l, or_f_l, Nat.reduceBEq, Nat.reduceDiv, Nat.reduceAdd, beq_self_eq_true, Bool.false_eq_true, Bool.or_false, ↓reduceIte, Nat.reduceEqDiff, List.cons_append, List.nil_append]
        simp -dsimp -implicitDefEqProofs only [go_sem, ↓reduceIte, Nat.reduceEqDiff, Nat.reduceLT, Nat.reduceAdd, Nat.reduceMul, Nat.reduceLeDiff, Nat.le_refl, Int.natCast_zero, Int.toNat_natCast, Int.reduceToNat, nlt_len]
        ((repeat' (with_reducible refine And.intro ?_ ?_)); all_goals try (first | omega | (refine ⟨?_, ?_⟩ <;> omega) | (exact rfl)))
        all_goals trace_state
    simp -dsimp -implicitDefEqProofs only [pick_nil, pick_cons, look_nil, look_cons, dropB_nil, dropB_cons, inD_nil, inD_cons, inE_nil, inE_cons, or_t_l, or_f_l, Nat.reduceBEq, Nat.reduceDiv, Nat.reduceAdd, beq_self_eq_true, Bool.false_eq_true, Bool.or_false, ↓reduceIte, Nat.reduceEqDiff, List.cons_append, List.nil_append]
    simp -dsimp -implicitDefEqProofs only [go_sem, ↓reduceIte, Nat.reduceEqDiff, Nat.reduceLT, Nat.reduceAdd, Nat.reduceMul, Nat.reduceLeDiff, Nat.le_refl, Int.natCast_zero, Int.toNat_natCast, Int.reduceToNat, nlt_len]
  all_goals
    rcases hz0 : (Z.2 != 0) with _ | _
    rotate_left
    · simp -dsimp -implicitDefEqProofs only [go_sem, ↓reduceIte, Nat.reduceEqDiff, Nat.reduceLT, Nat.reduceAdd, Nat.reduceMul, Nat.reduceLeDiff, Nat.le_refl, Int.natCast_zero, Int.toNat_natCast, Int.reduceToNat, hz0]
    obtain ⟨hr, hT0⟩ := hz (by simpa using hz0)
    obtain ⟨s1, s2, s3⟩ := wsum_states hr
    simp -dsimp -implicitDefEqProofs only [go_sem, ↓reduceIte, Nat.reduceEqDiff, Nat.reduceLT, Nat.reduceAdd, Nat.reduceMul, Nat.reduceLeDiff, Nat.le_refl, Int.natCast_zero, Int.toNat_natCast, Int.reduceToNat, hz0]
    refine Later.up [3] [183, 190, 197] [] r.roles.length (fun _ => True) (fun k => [(27, eI k), (26, eI (wsum r.tags r.tags.length k : Nat))]) (fun _ => []) trivial ?_ rfl (fun k hk _ => ?_) (fun _ => ?_)
    · simp -dsimp -implicitDefEqProofs only [go_sem, ↓reduceIte, Nat.reduceEqDiff, Nat.reduceLT, Nat.reduceAdd, Nat.reduceMul, Nat.reduceLeDiff, Nat.le_refl, Int.natCast_zero, Int.toNat_natCast, Int.reduceToNat, wsum]
      all_goals first | (simp; done) | trace_state
    · have lk := lt_len hk
      have mm := c_iTagsWith r (k : Int) (by omega) (by omega)
      rw [tagsWith_at hr hk] at mm
      have hwk := wsum_le r.tags r.tags.length k
      have hmul : k * r.tags.length ≤ 10 * 21 := Nat.mul_le_mul (by omega) (by omega)
      have htk := tw_len r.tags (k : Int) r.tags.length
      rw [wsum_succ]
      generalize wsum r.tags r.tags.length k = ws at *
      generalize tw r.tags (k : Int) r.tags.length = tk at *
      simp -dsimp -implicitDefEqProofs only [pick_nil, pick_cons, look_nil, look_cons, dropB_nil, dropB_cons, inD_nil, inD_cons, inE_nil, inE_cons, or_t_l, or_f_l, Nat.reduceBEq, Nat.reduceDiv, Nat.reduceAdd, beq_self_eq_true, Bool.false_eq_true, Bool.or_false, ↓reduceIte, Nat.reduceEqDiff, List.cons_append, List.nil_append]
      simp -dsimp -implicitDefEqProofs only [go_sem, ↓reduceIte, Nat.reduceEqDiff, Nat.reduceLT, Nat.reduceAdd, Nat.reduceMul, Nat.reduceLeDiff, Nat.le_refl, Int.natCast_zero, Int.toNat_natCast, Int.reduceToNat, lk]
      ((repeat' (with_reducible refine And.intro ?_ ?_)); all_goals try (first | omega | (refine ⟨?_, ?_⟩ <;> omega) | (exact rfl)))
      refine sCallT_one mm ?_
      simp -dsimp -implicitDefEqProofs only [go_sem, ↓reduceIte, Nat.reduceEqDiff, Nat.reduceLT, Nat.reduceAdd, Nat.reduceMul, Nat.reduceLeDiff, Nat.le_refl, Int.natCast_zero, Int.toNat_natCast, Int.reduceToNat]
      ((repeat' (with_reducible refine And.intro ?_ ?_)); all_goals try (first | omega | (refine ⟨?_, ?_⟩ <;> omega) | (exact rfl)))
      all_goals first | (simp; done) | trace_state
    · have k1 := c_iCountStates r (by omega) (by omega)
      have k2 := c_sCountStates r
      rw [s1] at k1 k2
      have hwk := wsum_le r.tags r.tags.length r.roles.length
      have hmul : r.roles.length * r.tags.length ≤ 10 * 21 := Nat.mul_le_mul (by omega) (by omega)
      generalize wsum r.tags r.tags.length r.roles.length = ws at *
      generalize cntS r.tags = C at *
      have l5 := c_likeIntsE C (by omega)
      simp -dsimp -implicitDefEqProofs only [pick_nil, pick_cons, look_nil, look_cons, dropB_nil, dropB_cons, inD_nil, inD_cons, inE_nil, inE_cons, or_t_l, or_f_l, Nat.reduceBEq, Nat.reduceDiv, Nat.reduceAdd, beq_self_eq_true, Bool.false_eq_true, Bool.or_false, ↓reduceIte, Nat.reduceEqDiff, List.cons_append, List.nil_append]
      simp -dsimp -implicitDefEqProofs only [go_sem, ↓reduceIte, Nat.reduceEqDiff, Nat.reduceLT, Nat.reduceAdd, Nat.reduceMul, Nat.reduceLeDiff, Nat.le_refl, Int.natCast_zero, Int.toNat_natCast, Int.reduceToNat, nlt_len]
      ((repeat' (with_reducible refine And.intro ?_ ?_)); all_goals try (first | omega | (refine ⟨?_, ?_⟩ <;> omega) | (exact rfl)))
      refine sCallT_one k1 ?_
      simp -dsimp -implicitDefEqProofs only [go_sem, ↓reduceIte, Nat.reduceEqDiff, Nat.reduceLT, Nat.reduceAdd, Nat.reduceMul, Nat.reduceLeDiff, Nat.le_refl, Int.natCast_zero, Int.toNat_natCast, Int.reduceToNat]
      ((repeat' (with_reducible refine And.intro ?_ ?_)); all_goals try (first | omega | (refine ⟨?_, ?_⟩ <;> omega) | (exact rfl)))
      refine sCallT_one k2 ?_
      simp -dsimp -implicitDefEqProofs only [go_sem, ↓reduceIte, Nat.reduceEqDiff, Nat.reduceLT, Nat.reduceAdd, Nat.reduceMul, Nat.reduceLeDiff, Nat.le_refl, Int.natCast_zero, Int.toNat_natCast, Int.reduceToNat]
      ((repeat' (with_reducible refine And.intro ?_ ?_)); all_goals try (first | omega | (refine ⟨?_, ?_⟩ <;> omega) | (exact rfl)))
      refine sCallT_one l5 ?_
      have f4 : (((4 : Nat) : Int) == 4) = true := rfl
      have l4 : (C.map eI)[1]? = some (eI (ws : Int)) := by rw [List.getElem?_map, s3]; rfl
      simp -dsimp -implicitDefEqProofs only [go_sem, ↓reduceIte, Nat.reduceEqDiff, Nat.reduceLT, Nat.reduceAdd, Nat.reduceMul, Nat.reduceLeDiff, Nat.le_refl, Int.natCast_zero, Int.toNat_natCast, Int.reduceToNat, s2, s3, f4]
      ((repeat' (with_reducible refine And.intro ?_ ?_)); all_goals try (first | omega | (refine ⟨?_, ?_⟩ <;> omega) | (exact rfl)))
      all_goals first | done | (refine Br.pos rfl ?_; simp -dsimp -implicitDefEqProofs only [go_sem, ↓reduceIte, Nat.reduceEqDiff, Nat.reduceLT, Nat.reduceAdd, Nat.reduceMul, Nat.reduceLeDiff, Nat.le_refl, Int.natCast_zero, Int.toNat_natCast, Int.reduceToNat, s2, s3, l4, beq_self_eq_true]; ((repeat' (with_reducible refine And.intro ?_ ?_)); all_goals try (first | omega | (refine ⟨?_, ?_⟩ <;> omega) | (exact rfl))))
end Go.Vc


