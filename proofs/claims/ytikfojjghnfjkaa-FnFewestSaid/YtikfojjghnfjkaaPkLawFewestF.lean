import Derived.Test.YtikfojjghnfjkaaPkLawFewestE
/-
  Contracts: picking blindly.
-/
set_option linter.unusedVariables false
set_option linter.unusedSimpArgs false
set_option linter.unnecessarySimpa false
namespace Go.Vc
open Go.Proofs
set_option maxRecDepth 100000
def blind (m : MkM) (l : List (List Int)) (o : List Int) : Int × Int := if pkCode m l o [] = 0 then (blindN m l o o.length, 0) else (0, pkCode m l o [])
def zOf (l : List (List Int)) (o : List Int) (k : Nat) : Int := (cset l (o.getD k 0)).getD 0 0
theorem zOf_num {m : MkM} {l : List (List Int)} {o : List Int} (pk : Pk m l o) {k : Nat} (hk : k < o.length) : 0 ≤ zOf l o k ∧ zOf l o k < 8 := by
  have hio := pk.io k hk
  obtain ⟨hi, e⟩ := pk.cset hio.1 hio.2
  have hs := pk.st _ hi
  have h1 := ((rises_iff _ _).1 hs.2).1 0 hs.1
  have e0 : zOf l o k = (l[(o[k]).toNat])[0]'hs.1 := by rw [zOf, show o.getD k 0 = o[k] by simp [List.getD_eq_getElem?_getD, hk], e]; simp [List.getD_eq_getElem?_getD, hs.1]
  rw [e0]
  have := pk.d8
  omega
theorem blindAt_eq {m : MkM} {l : List (List Int)} {o : List Int} {k : Nat} (hk : k < o.length) : blindAt m l o[k] = zOf l o k * m.chambers + o[k] + 1 := by
  rw [blindAt, zOf, show o.getD k 0 = o[k] by simp [List.getD_eq_getElem?_getD, hk]]
theorem blind_ne {l : List (List Int)} {o : List Int} {k : Nat} (hk : k < o.length) {p : PkM} (h : o[k] ≠ p.chamber) : pickN l o k p = k ∧ hit l o k p = false := by
  have gD : o.getD k 0 = o[k] := by simp [List.getD_eq_getElem?_getD, hk]
  exact ⟨by rw [pickN, gD, if_pos (.inr h)], by rw [hit, gD, decide_eq_true (.inr h)]; rfl⟩
theorem blind_z {m : MkM} {l : List (List Int)} {o : List Int} (pk : Pk m l o) {k : Nat} (hk : k < o.length) : (∀ x ∈ cset l o[k], zOf l o k ≤ x) ∧ zOf l o k ∈ cset l o[k] ∧ lastOf (cset l o[k]) ∈ cset l o[k] := by
  have hio := pk.io k hk
  obtain ⟨hi, e⟩ := pk.cset hio.1 hio.2
  have hs := pk.st _ hi
  have hp := List.pairwise_iff_getElem.1 (rises_pair hs.2)
  have e0 : zOf l o k = (l[(o[k]).toNat])[0]'hs.1 := by rw [zOf, show o.getD k 0 = o[k] by simp [List.getD_eq_getElem?_getD, hk], e]; simp [List.getD_eq_getElem?_getD, hs.1]
  rw [e0, e]
  refine ⟨fun x hx => ?_, List.getElem_mem _, ?_⟩
  · obtain ⟨i, h1, rfl⟩ := List.getElem_of_mem hx
    rcases Nat.eq_zero_or_pos i with h2 | h2
    · subst h2; exact Int.le_refl _
    · have := hp 0 i hs.1 h1 h2; omega
  · rw [lastOf, List.getD_eq_getElem?_getD, List.getElem?_eq_getElem (by have := hs.1; omega)]
    exact List.getElem_mem _
theorem blind_low {m : MkM} {l : List (List Int)} {o : List Int} (pk : Pk m l o) {k : Nat} (hk : k < o.length) {p : PkM} (hd : p.depth < zOf l o k) : pickN l o k p = k ∧ hit l o k p = false := by
  by_cases h : o[k] = p.chamber
  rotate_left
  · exact blind_ne hk h
  have gD : o.getD k 0 = o[k] := by simp [List.getD_eq_getElem?_getD, hk]
  obtain ⟨z1, z2, z3⟩ := blind_z pk hk
  rw [h] at z1 z2 z3
  have hno : ¬ (k = o.length ∨ o[k] ≠ p.chamber) := fun h9 => h9.elim (fun h9 => by omega) (fun h9 => h9 h)
  have hh : has (cset l p.chamber) p.depth = false := by
    rcases hh : has (cset l p.chamber) p.depth with _ | _
    · rfl
    · have := z1 _ ((has_iff _ _).1 hh); omega
  have hl := z1 _ z3
  exact ⟨by rw [pickN, gD, if_neg hno, hh, if_neg (by decide), if_neg (by omega)], by rw [hit, gD, decide_eq_false hno, hh]; rfl⟩
theorem blind_eq {m : MkM} {l : List (List Int)} {o : List Int} (pk : Pk m l o) {k : Nat} (hk : k < o.length) {p : PkM} (h : o[k] = p.chamber) (hd : p.depth = zOf l o k) : pickN l o k p = k + 1 ∧ hit l o k p = true := by
  have gD : o.getD k 0 = o[k] := by simp [List.getD_eq_getElem?_getD, hk]
  obtain ⟨z1, z2, z3⟩ := blind_z pk hk
  rw [h] at z1 z2 z3
  have hno : ¬ (k = o.length ∨ o[k] ≠ p.chamber) := fun h9 => h9.elim (fun h9 => by omega) (fun h9 => h9 h)
  have hh : has (cset l p.chamber) p.depth = true := (has_iff _ _).2 (hd ▸ z2)
  exact ⟨by rw [pickN, gD, if_neg hno, if_pos hh], by rw [hit, gD, decide_eq_false hno, hh]; rfl⟩
theorem c_sBlind (m : MkM) (l : List (List Int)) (o : List Int) (h : l.length ≤ 1048576) (h2 : ∀ x ∈ l, x.length ≤ 1048576) (h3 : o.length ≤ 1048576) : Fn Try.prog 53 [eMk m, eLk l, eIs o] true (· = .tup [eI (blind m l o).1, eI (blind m l o).2]) := by
  refine Fn.of_vcN 52 [.tmp 6, .tmp 7] Try.func53 rfl rfl rfl rfl rfl (of_decide_eq_true rfl) ?_
  by_cases hb : pkCode m l o [] = 0
  rotate_left
  · simp -dsimp -implicitDefEqProofs only [go_sem, ↓reduceIte, Nat.reduceEqDiff, Nat.reduceLT, Nat.reduceAdd, Nat.reduceMul, Nat.reduceLeDiff, Nat.le_refl, Int.natCast_zero, Int.toNat_natCast, Int.reduceToNat]
    repeat' first
      | (refine Br.intro (fun _ => ?_) (fun _ => ?_) <;> try simp -dsimp -implicitDefEqProofs only [go_sem, ↓reduceIte, Nat.reduceEqDiff, Nat.reduceLT, Nat.reduceAdd, Nat.reduceMul, Nat.reduceLeDiff, Nat.le_refl, Int.natCast_zero, Int.toNat_natCast, Int.reduceToNat, *])
      | (with_reducible refine And.intro ?_ ?_)
      | (refine sCallT_one (c_sCode0 m l o h h2 h3) ?_; try simp -dsimp -implicitDefEqProofs only [go_sem, ↓reduceIte, Nat.reduceEqDiff, Nat.reduceLT, Nat.reduceAdd, Nat.reduceMul, Nat.reduceLeDiff, Nat.le_refl, Int.natCast_zero, Int.toNat_natCast, Int.reduceToNat, *])
    all_goals first
      | omega
      | (simp_all [blind]; done)
      | trace_state
  obtain ⟨k1, k2, k3⟩ := pkCode_zero hb
  have pk := Pk.of k1 k2
  have n6 := pk.n6
  have hch := pk.ch
  have hF : blind m l o = (blindN m l o o.length, 0) := by rw [blind, if_pos hb]
  rw [hF]
  clear hF k1 k2 k3
  simp -dsimp -implicitDefEqProofs only [go_sem, ↓reduceIte, Nat.reduceEqDiff, Nat.reduceLT, Nat.reduceAdd, Nat.reduceMul, Nat.reduceLeDiff, Nat.le_refl, Int.natCast_zero, Int.toNat_natCast, Int.reduceToNat]
  repeat' first
    | (refine Br.intro (fun _ => ?_) (fun _ => ?_) <;> try simp -dsimp -implicitDefEqProofs only [go_sem, ↓reduceIte, Nat.reduceEqDiff, Nat.reduceLT, Nat.reduceAdd, Nat.reduceMul, Nat.reduceLeDiff, Nat.le_refl, Int.natCast_zero, Int.toNat_natCast, Int.reduceToNat, *])
    | (with_reducible refine And.intro ?_ ?_)
    | (refine sCallT_one (c_sCode0 m l o h h2 h3) ?_; try simp -dsimp -implicitDefEqProofs only [go_sem, ↓reduceIte, Nat.reduceEqDiff, Nat.reduceLT, Nat.reduceAdd, Nat.reduceMul, Nat.reduceLeDiff, Nat.le_refl, Int.natCast_zero, Int.toNat_natCast, Int.reduceToNat, *])
  all_goals try (first | omega | (simp_all; done))
  clear hb
  refine Later.lp [2, 3, 4] [23, 43] [] (fun x : Nat × Nat => x.1 ≤ o.length ∧ (x.1 < o.length → (x.2 : Int) ≤ zOf l o x.1) ∧ (x.1 = o.length → x.2 = 0) ∧ x.2 ≤ 8) (fun x => [(9, eI x.1), (10, eI (blindN m l o x.1 + x.2 * m.chambers)), (11, eI x.2)]) (fun _ => [])
    (fun x => (o.length - x.1) * 9 + (8 - x.2)) (0, 0) ⟨Nat.zero_le _, fun h0 => (zOf_num pk h0).1, fun _ => rfl, by omega⟩ ?_ rfl (fun x ⟨hx1, hx2, hx3, hx8⟩ => ?_)
  · rw [blindN_zero]
    simp -dsimp -implicitDefEqProofs only [go_sem, ↓reduceIte, Nat.reduceEqDiff, Nat.reduceLT, Nat.reduceAdd, Nat.reduceMul, Nat.reduceLeDiff, Nat.le_refl, Int.natCast_zero, Int.toNat_natCast, Int.reduceToNat]
    all_goals simp
  · obtain ⟨k, d⟩ := x
    simp only at hx1 hx2 hx3 hx8
    have hbn := pk.blindN k hx1
    have hdc : 0 ≤ (d : Int) * m.chambers ∧ (d : Int) * m.chambers ≤ 8 * 6 := ⟨Int.mul_nonneg (by omega) (by omega), Int.mul_le_mul (by omega) (by omega) (by omega) (by omega)⟩
    rcases Nat.lt_or_ge k o.length with hk | hk
    rotate_left
    · have hko : k = o.length := by omega
      have hd0 := hx3 hko
      subst hko
      subst hd0
      simp -dsimp -implicitDefEqProofs only [pick_nil, pick_cons, look_nil, look_cons, dropB_nil, dropB_cons, inD_nil, inD_cons, inE_nil, inE_cons, or_t_l, or_f_l, Nat.reduceBEq, Nat.reduceDiv, Nat.reduceAdd, beq_self_eq_true, Bool.false_eq_true, Bool.or_false, ↓reduceIte, Nat.reduceEqDiff, List.cons_append, List.nil_append]
      simp -dsimp -implicitDefEqProofs only [go_sem, ↓reduceIte, Nat.reduceEqDiff, Nat.reduceLT, Nat.reduceAdd, Nat.reduceMul, Nat.reduceLeDiff, Nat.le_refl, Int.natCast_zero, Int.toNat_natCast, Int.reduceToNat, nlt_len]
      repeat' first
        | (refine Br.intro (fun _ => ?_) (fun _ => ?_) <;> try simp -dsimp -implicitDefEqProofs only [go_sem, ↓reduceIte, Nat.reduceEqDiff, Nat.reduceLT, Nat.reduceAdd, Nat.reduceMul, Nat.reduceLeDiff, Nat.le_refl, Int.natCast_zero, Int.toNat_natCast, Int.reduceToNat, *])
        | (with_reducible refine And.intro ?_ ?_)
      all_goals first
        | omega
        | rfl
        | (simp; done)
        | (simp_all; done)
        | trace_state
    have hz := hx2 hk
    have hzn := zOf_num pk hk
    have li := lt_len hk
    have hio := pk.io k hk
    clear hx2 hx3
    rcases Int.lt_or_eq_of_le hz with hlt | heq
    · simp -dsimp -implicitDefEqProofs only [pick_nil, pick_cons, look_nil, look_cons, dropB_nil, dropB_cons, inD_nil, inD_cons, inE_nil, inE_cons, or_t_l, or_f_l, Nat.reduceBEq, Nat.reduceDiv, Nat.reduceAdd, beq_self_eq_true, Bool.false_eq_true, Bool.or_false, ↓reduceIte, Nat.reduceEqDiff, List.cons_append, List.nil_append]
      simp -dsimp -implicitDefEqProofs only [go_sem, ↓reduceIte, Nat.reduceEqDiff, Nat.reduceLT, Nat.reduceAdd, Nat.reduceMul, Nat.reduceLeDiff, Nat.le_refl, Int.natCast_zero, Int.toNat_natCast, Int.reduceToNat, li]
      refine Later.up [2, 3, 4, 11, 12] [43] [] o.length (fun _ => True) (fun c => [(9, eI k), (10, eI (blindN m l o k + d * m.chambers + c)), (13, eI c)]) (fun _ => []) trivial ?_ rfl (fun c hc _ => ?_) (fun _ => ?_)
      · simp -dsimp -implicitDefEqProofs only [go_sem, ↓reduceIte, Nat.reduceEqDiff, Nat.reduceLT, Nat.reduceAdd, Nat.reduceMul, Nat.reduceLeDiff, Nat.le_refl, Int.natCast_zero, Int.toNat_natCast, Int.reduceToNat]
        all_goals first | (simp; done) | trace_state
      · have hcall := c_l32Once m l o k ⟨c, d⟩ pk h2 hx1 ⟨by simp, by simp; omega⟩
        rw [(blind_low pk hk (p := ⟨c, d⟩) hlt).1] at hcall
        have lc : decide ((c : Int) < m.chambers) = true := by simp; omega
        clear pk
        simp -dsimp -implicitDefEqProofs only [pick_nil, pick_cons, look_nil, look_cons, dropB_nil, dropB_cons, inD_nil, inD_cons, inE_nil, inE_cons, or_t_l, or_f_l, Nat.reduceBEq, Nat.reduceDiv, Nat.reduceAdd, beq_self_eq_true, Bool.false_eq_true, Bool.or_false, ↓reduceIte, Nat.reduceEqDiff, List.cons_append, List.nil_append]
        simp -dsimp -implicitDefEqProofs only [go_sem, ↓reduceIte, Nat.reduceEqDiff, Nat.reduceLT, Nat.reduceAdd, Nat.reduceMul, Nat.reduceLeDiff, Nat.le_refl, Int.natCast_zero, Int.toNat_natCast, Int.reduceToNat, lc, li]
        repeat' first
          | (refine Br.intro (fun _ => ?_) (fun _ => ?_) <;> try simp -dsimp -implicitDefEqProofs only [go_sem, ↓reduceIte, Nat.reduceEqDiff, Nat.reduceLT, Nat.reduceAdd, Nat.reduceMul, Nat.reduceLeDiff, Nat.le_refl, Int.natCast_zero, Int.toNat_natCast, Int.reduceToNat, *])
          | (with_reducible refine And.intro ?_ ?_)
          | (refine Later.draw mixed rfl ?_; try simp -dsimp -implicitDefEqProofs only [go_sem, ↓reduceIte, Nat.reduceEqDiff, Nat.reduceLT, Nat.reduceAdd, Nat.reduceMul, Nat.reduceLeDiff, Nat.le_refl, Int.natCast_zero, Int.toNat_natCast, Int.reduceToNat, *])
          | (refine sCallT_one (hcall) ?_; try simp -dsimp -implicitDefEqProofs only [go_sem, ↓reduceIte, Nat.reduceEqDiff, Nat.reduceLT, Nat.reduceAdd, Nat.reduceMul, Nat.reduceLeDiff, Nat.le_refl, Int.natCast_zero, Int.toNat_natCast, Int.reduceToNat, *])
          | (refine sCallX_one (hcall) ?_; try simp -dsimp -implicitDefEqProofs only [go_sem, ↓reduceIte, Nat.reduceEqDiff, Nat.reduceLT, Nat.reduceAdd, Nat.reduceMul, Nat.reduceLeDiff, Nat.le_refl, Int.natCast_zero, Int.toNat_natCast, Int.reduceToNat, *])
        all_goals first
          | omega
          | (refine ⟨?_, ?_⟩ <;> omega)
          | rfl
          | (simp; done)
          | (simp; omega)
          | (simp_all; done)
          | trace_state
      · have lc : decide ((o.length : Int) < m.chambers) = false := by simp; omega
        have lk : decide ((k : Int) > k) = false := by simp
        simp -dsimp -implicitDefEqProofs only [pick_nil, pick_cons, look_nil, look_cons, dropB_nil, dropB_cons, inD_nil, inD_cons, inE_nil, inE_cons, or_t_l, or_f_l, Nat.reduceBEq, Nat.reduceDiv, Nat.reduceAdd, beq_self_eq_true, Bool.false_eq_true, Bool.or_false, ↓reduceIte, Nat.reduceEqDiff, List.cons_append, List.nil_append]
        simp -dsimp -implicitDefEqProofs only [go_sem, ↓reduceIte, Nat.reduceEqDiff, Nat.reduceLT, Nat.reduceAdd, Nat.reduceMul, Nat.reduceLeDiff, Nat.le_refl, Int.natCast_zero, Int.toNat_natCast, Int.reduceToNat, lc, lk]
        repeat' first
          | (refine Br.intro (fun _ => ?_) (fun _ => ?_) <;> try simp -dsimp -implicitDefEqProofs only [go_sem, ↓reduceIte, Nat.reduceEqDiff, Nat.reduceLT, Nat.reduceAdd, Nat.reduceMul, Nat.reduceLeDiff, Nat.le_refl, Int.natCast_zero, Int.toNat_natCast, Int.reduceToNat, *])
          | (with_reducible refine And.intro ?_ ?_)
          | (refine Later.draw mixed rfl ?_; try simp -dsimp -implicitDefEqProofs only [go_sem, ↓reduceIte, Nat.reduceEqDiff, Nat.reduceLT, Nat.reduceAdd, Nat.reduceMul, Nat.reduceLeDiff, Nat.le_refl, Int.natCast_zero, Int.toNat_natCast, Int.reduceToNat, *])
        all_goals first
          | omega
          | (refine ⟨?_, ?_⟩ <;> omega)
          | (refine ⟨(k, d + 1), ⟨hx1, fun _ => by simp only; omega, fun h9 => by simp only at h9; omega, by simp only; omega⟩, by simp only; omega, ?_⟩
             simp -dsimp -implicitDefEqProofs only [go_sem, ↓reduceIte, Nat.reduceEqDiff, Nat.reduceLT, Nat.reduceAdd, Nat.reduceMul, Nat.reduceLeDiff, Nat.le_refl, Int.natCast_zero, Int.toNat_natCast, Int.reduceToNat]
             repeat' (with_reducible refine And.intro ?_ ?_)
             all_goals first
               | omega
               | rfl
               | (simp; done)
               | (simp only [Value.int.injEq, true_and, Int.natCast_add, Int.add_mul]; omega)
               | trace_state)
          | (simp_all; done)
          | trace_state
    · have hoc : ((o[k].toNat : Nat) : Int) = o[k] := by omega
      have hbe : ∀ c : Nat, o[k] = c → pickN l o k ⟨c, d⟩ = k + 1 := fun c hc => (blind_eq pk hk (p := ⟨c, d⟩) hc heq).1
      have hbs := blindN_succ m l o k hk
      rw [blindAt_eq hk, ← heq] at hbs
      clear heq hz hzn
      simp -dsimp -implicitDefEqProofs only [pick_nil, pick_cons, look_nil, look_cons, dropB_nil, dropB_cons, inD_nil, inD_cons, inE_nil, inE_cons, or_t_l, or_f_l, Nat.reduceBEq, Nat.reduceDiv, Nat.reduceAdd, beq_self_eq_true, Bool.false_eq_true, Bool.or_false, ↓reduceIte, Nat.reduceEqDiff, List.cons_append, List.nil_append]
      simp -dsimp -implicitDefEqProofs only [go_sem, ↓reduceIte, Nat.reduceEqDiff, Nat.reduceLT, Nat.reduceAdd, Nat.reduceMul, Nat.reduceLeDiff, Nat.le_refl, Int.natCast_zero, Int.toNat_natCast, Int.reduceToNat, li]
      refine Later.up [2, 3, 4, 11, 12] [43] [] (o[k].toNat + 1) (fun _ => True) (fun c => [(9, eI ((if c ≤ o[k].toNat then k else k + 1 : Nat) : Int)), (10, eI (blindN m l o k + d * m.chambers + c)), (13, eI c)]) (fun _ => []) trivial ?_ rfl (fun c hc _ => ?_) (fun _ => ?_)
      · rw [if_pos (Nat.zero_le _)]
        simp -dsimp -implicitDefEqProofs only [go_sem, ↓reduceIte, Nat.reduceEqDiff, Nat.reduceLT, Nat.reduceAdd, Nat.reduceMul, Nat.reduceLeDiff, Nat.le_refl, Int.natCast_zero, Int.toNat_natCast, Int.reduceToNat]
        all_goals first | (simp; done) | trace_state
      · have hco : (c : Int) < o.length := by omega
        have hcall := c_l32Once m l o k ⟨c, d⟩ pk h2 hx1 ⟨by simp, by simp; omega⟩
        have lc : decide ((c : Int) < m.chambers) = true := by simp; omega
        rw [if_pos (by omega)]
        rcases Nat.lt_or_ge c o[k].toNat with hcl | hcg
        · rw [(blind_ne hk (p := ⟨c, d⟩) (by simp only; omega)).1] at hcall
          rw [if_pos (show c + 1 ≤ o[k].toNat by omega)]
          clear pk hbe hbs
          simp -dsimp -implicitDefEqProofs only [pick_nil, pick_cons, look_nil, look_cons, dropB_nil, dropB_cons, inD_nil, inD_cons, inE_nil, inE_cons, or_t_l, or_f_l, Nat.reduceBEq, Nat.reduceDiv, Nat.reduceAdd, beq_self_eq_true, Bool.false_eq_true, Bool.or_false, ↓reduceIte, Nat.reduceEqDiff, List.cons_append, List.nil_append]
          simp -dsimp -implicitDefEqProofs only [go_sem, ↓reduceIte, Nat.reduceEqDiff, Nat.reduceLT, Nat.reduceAdd, Nat.reduceMul, Nat.reduceLeDiff, Nat.le_refl, Int.natCast_zero, Int.toNat_natCast, Int.reduceToNat, lc, li]
          repeat' first
            | (refine Br.intro (fun _ => ?_) (fun _ => ?_) <;> try simp -dsimp -implicitDefEqProofs only [go_sem, ↓reduceIte, Nat.reduceEqDiff, Nat.reduceLT, Nat.reduceAdd, Nat.reduceMul, Nat.reduceLeDiff, Nat.le_refl, Int.natCast_zero, Int.toNat_natCast, Int.reduceToNat, *])
            | (with_reducible refine And.intro ?_ ?_)
            | (refine Later.draw mixed rfl ?_; try simp -dsimp -implicitDefEqProofs only [go_sem, ↓reduceIte, Nat.reduceEqDiff, Nat.reduceLT, Nat.reduceAdd, Nat.reduceMul, Nat.reduceLeDiff, Nat.le_refl, Int.natCast_zero, Int.toNat_natCast, Int.reduceToNat, *])
            | (refine sCallT_one (hcall) ?_; try simp -dsimp -implicitDefEqProofs only [go_sem, ↓reduceIte, Nat.reduceEqDiff, Nat.reduceLT, Nat.reduceAdd, Nat.reduceMul, Nat.reduceLeDiff, Nat.le_refl, Int.natCast_zero, Int.toNat_natCast, Int.reduceToNat, *])
            | (refine sCallX_one (hcall) ?_; try simp -dsimp -implicitDefEqProofs only [go_sem, ↓reduceIte, Nat.reduceEqDiff, Nat.reduceLT, Nat.reduceAdd, Nat.reduceMul, Nat.reduceLeDiff, Nat.le_refl, Int.natCast_zero, Int.toNat_natCast, Int.reduceToNat, *])
          all_goals first
            | omega
            | (refine ⟨?_, ?_⟩ <;> omega)
            | rfl
            | (simp; done)
            | (simp; omega)
            | (simp_all; done)
            | trace_state
        · rw [hbe c (by omega)] at hcall
          rw [if_neg (show ¬ c + 1 ≤ o[k].toNat by omega)]
          clear pk hbe hbs
          simp -dsimp -implicitDefEqProofs only [pick_nil, pick_cons, look_nil, look_cons, dropB_nil, dropB_cons, inD_nil, inD_cons, inE_nil, inE_cons, or_t_l, or_f_l, Nat.reduceBEq, Nat.reduceDiv, Nat.reduceAdd, beq_self_eq_true, Bool.false_eq_true, Bool.or_false, ↓reduceIte, Nat.reduceEqDiff, List.cons_append, List.nil_append]
          simp -dsimp -implicitDefEqProofs only [go_sem, ↓reduceIte, Nat.reduceEqDiff, Nat.reduceLT, Nat.reduceAdd, Nat.reduceMul, Nat.reduceLeDiff, Nat.le_refl, Int.natCast_zero, Int.toNat_natCast, Int.reduceToNat, lc, li]
          repeat' first
            | (refine Br.intro (fun _ => ?_) (fun _ => ?_) <;> try simp -dsimp -implicitDefEqProofs only [go_sem, ↓reduceIte, Nat.reduceEqDiff, Nat.reduceLT, Nat.reduceAdd, Nat.reduceMul, Nat.reduceLeDiff, Nat.le_refl, Int.natCast_zero, Int.toNat_natCast, Int.reduceToNat, *])
            | (with_reducible refine And.intro ?_ ?_)
            | (refine Later.draw mixed rfl ?_; try simp -dsimp -implicitDefEqProofs only [go_sem, ↓reduceIte, Nat.reduceEqDiff, Nat.reduceLT, Nat.reduceAdd, Nat.reduceMul, Nat.reduceLeDiff, Nat.le_refl, Int.natCast_zero, Int.toNat_natCast, Int.reduceToNat, *])
            | (refine sCallT_one (hcall) ?_; try simp -dsimp -implicitDefEqProofs only [go_sem, ↓reduceIte, Nat.reduceEqDiff, Nat.reduceLT, Nat.reduceAdd, Nat.reduceMul, Nat.reduceLeDiff, Nat.le_refl, Int.natCast_zero, Int.toNat_natCast, Int.reduceToNat, *])
            | (refine sCallX_one (hcall) ?_; try simp -dsimp -implicitDefEqProofs only [go_sem, ↓reduceIte, Nat.reduceEqDiff, Nat.reduceLT, Nat.reduceAdd, Nat.reduceMul, Nat.reduceLeDiff, Nat.le_refl, Int.natCast_zero, Int.toNat_natCast, Int.reduceToNat, *])
          all_goals first
            | omega
            | (refine ⟨?_, ?_⟩ <;> omega)
            | rfl
            | (simp; done)
            | (simp; omega)
            | (simp_all; done)
            | trace_state
      · rw [if_neg (by omega)]
        have lk : decide (((k + 1 : Nat) : Int) > k) = true := by simp; omega
        have le : (((k + 1 : Nat) : Int) == k) = false := by simp; omega
        have hz2 : ∀ h9 : k + 1 < o.length, 0 ≤ zOf l o (k + 1) := fun h9 => (zOf_num pk h9).1
        clear pk hbe
        simp -dsimp -implicitDefEqProofs only [pick_nil, pick_cons, look_nil, look_cons, dropB_nil, dropB_cons, inD_nil, inD_cons, inE_nil, inE_cons, or_t_l, or_f_l, Nat.reduceBEq, Nat.reduceDiv, Nat.reduceAdd, beq_self_eq_true, Bool.false_eq_true, Bool.or_false, ↓reduceIte, Nat.reduceEqDiff, List.cons_append, List.nil_append]
        simp -dsimp -implicitDefEqProofs only [go_sem, ↓reduceIte, Nat.reduceEqDiff, Nat.reduceLT, Nat.reduceAdd, Nat.reduceMul, Nat.reduceLeDiff, Nat.le_refl, Int.natCast_zero, Int.toNat_natCast, Int.reduceToNat, lk, le]
        repeat' first
          | (refine Br.intro (fun _ => ?_) (fun _ => ?_) <;> try simp -dsimp -implicitDefEqProofs only [go_sem, ↓reduceIte, Nat.reduceEqDiff, Nat.reduceLT, Nat.reduceAdd, Nat.reduceMul, Nat.reduceLeDiff, Nat.le_refl, Int.natCast_zero, Int.toNat_natCast, Int.reduceToNat, *])
          | (with_reducible refine And.intro ?_ ?_)
          | (refine Later.draw mixed rfl ?_; try simp -dsimp -implicitDefEqProofs only [go_sem, ↓reduceIte, Nat.reduceEqDiff, Nat.reduceLT, Nat.reduceAdd, Nat.reduceMul, Nat.reduceLeDiff, Nat.le_refl, Int.natCast_zero, Int.toNat_natCast, Int.reduceToNat, *])
        all_goals first
          | omega
          | (refine ⟨?_, ?_⟩ <;> omega)
          | (refine ⟨(k + 1, 0), ⟨by simp only; omega, fun h9 => hz2 h9, fun _ => rfl, by simp only; omega⟩, by simp only; omega, ?_⟩
             simp -dsimp -implicitDefEqProofs only [go_sem, ↓reduceIte, Nat.reduceEqDiff, Nat.reduceLT, Nat.reduceAdd, Nat.reduceMul, Nat.reduceLeDiff, Nat.le_refl, Int.natCast_zero, Int.toNat_natCast, Int.reduceToNat]
             repeat' (with_reducible refine And.intro ?_ ?_)
             all_goals first
               | omega
               | rfl
               | (simp; done)
               | (refine congrArg (Value.int IntKind.i64) ?_; rw [hbs, Int.zero_mul]; omega)
               | trace_state)
          | (simp_all; done)
          | trace_state
set_option maxHeartbeats 4000000 in
theorem c_iBlind (m : MkM) (l : List (List Int)) (o : List Int) (h : l.length ≤ 1048576) (h2 : ∀ x ∈ l, x.length ≤ 1048576) (h3 : o.length ≤ 1048576) : Fn Try.prog 52 [eMk m, eLk l, eIs o] true (· = .tup [eI (blind m l o).1, eI (blind m l o).2]) := by
  refine Fn.of_vcN 46 [.tmp 6, .tmp 7] Try.func52 rfl rfl rfl rfl rfl (of_decide_eq_true rfl) ?_
  by_cases hb : pkCode m l o [] = 0
  rotate_left
  · simp -dsimp -implicitDefEqProofs only [go_sem, ↓reduceIte, Nat.reduceEqDiff, Nat.reduceLT, Nat.reduceAdd, Nat.reduceMul, Nat.reduceLeDiff, Nat.le_refl, Int.natCast_zero, Int.toNat_natCast, Int.reduceToNat]
    repeat' first
      | (refine Br.intro (fun _ => ?_) (fun _ => ?_) <;> try simp -dsimp -implicitDefEqProofs only [go_sem, ↓reduceIte, Nat.reduceEqDiff, Nat.reduceLT, Nat.reduceAdd, Nat.reduceMul, Nat.reduceLeDiff, Nat.le_refl, Int.natCast_zero, Int.toNat_natCast, Int.reduceToNat, *])
      | (with_reducible refine And.intro ?_ ?_)
      | (refine sCallT_one (c_iCode00 m l o h h2 h3) ?_; try simp -dsimp -implicitDefEqProofs only [go_sem, ↓reduceIte, Nat.reduceEqDiff, Nat.reduceLT, Nat.reduceAdd, Nat.reduceMul, Nat.reduceLeDiff, Nat.le_refl, Int.natCast_zero, Int.toNat_natCast, Int.reduceToNat, *])
    all_goals first
      | omega
      | (simp_all [blind]; done)
      | trace_state
  obtain ⟨k1, k2, k3⟩ := pkCode_zero hb
  have pk := Pk.of k1 k2
  have n6 := pk.n6
  have hch := pk.ch
  have hF : blind m l o = (blindN m l o o.length, 0) := by rw [blind, if_pos hb]
  have hcode := c_iCode00 m l o h h2 h3
  rw [hb] at hcode
  rw [hF]
  clear hF k1 k2 k3 hb hch
  simp -dsimp -implicitDefEqProofs only [go_sem, ↓reduceIte, Nat.reduceEqDiff, Nat.reduceLT, Nat.reduceAdd, Nat.reduceMul, Nat.reduceLeDiff, Nat.le_refl, Int.natCast_zero, Int.toNat_natCast, Int.reduceToNat]
  repeat' first
    | (refine Br.intro (fun _ => ?_) (fun _ => ?_) <;> try simp -dsimp -implicitDefEqProofs only [go_sem, ↓reduceIte, Nat.reduceEqDiff, Nat.reduceLT, Nat.reduceAdd, Nat.reduceMul, Nat.reduceLeDiff, Nat.le_refl, Int.natCast_zero, Int.toNat_natCast, Int.reduceToNat, *])
    | (with_reducible refine And.intro ?_ ?_)
    | (refine sCallT_one (hcode) ?_; try simp -dsimp -implicitDefEqProofs only [go_sem, ↓reduceIte, Nat.reduceEqDiff, Nat.reduceLT, Nat.reduceAdd, Nat.reduceMul, Nat.reduceLeDiff, Nat.le_refl, Int.natCast_zero, Int.toNat_natCast, Int.reduceToNat, *])
    | (refine Later.draw mixed rfl ?_; try simp -dsimp -implicitDefEqProofs only [go_sem, ↓reduceIte, Nat.reduceEqDiff, Nat.reduceLT, Nat.reduceAdd, Nat.reduceMul, Nat.reduceLeDiff, Nat.le_refl, Int.natCast_zero, Int.toNat_natCast, Int.reduceToNat, *])
  all_goals try (first | omega | (refine ⟨?_, ?_⟩ <;> omega) | (exact rfl) | (simp; done) | (simp_all; done))
  clear hcode
  refine Later.lp [3, 9] [28, 43] [24, 26, 500003] (fun x : Nat × Nat × List Int => x.1 ≤ o.length ∧ (x.1 < o.length → (x.2.1 : Int) ≤ zOf l o x.1) ∧ (x.1 = o.length → x.2.1 = 0) ∧ x.2.1 ≤ 8 ∧ x.2.2.length = o.length)
    (fun x => [(10, eI (blindN m l o x.1 + x.2.1 * m.chambers)), (11, eI x.2.1)]) (fun x => [(26, .box 0 [eIss l, eIs o, eI x.1, .ref 24 0 0 o.length, eI 0]), (24, .row 0 ⟨1, false⟩ true (x.2.2.map eI))])
    (fun x => (o.length - x.1) * 9 + (8 - x.2.1)) (0, 0, List.replicate o.length 0) ⟨Nat.zero_le _, fun h0 => (zOf_num pk h0).1, fun _ => rfl, Nat.zero_le _, by simp⟩ ?_ rfl (fun x ⟨hx1, hx2, hx3, hx8, hxc⟩ => ?_)
  · rw [blindN_zero]
    simp -dsimp -implicitDefEqProofs only [go_sem, ↓reduceIte, Nat.reduceEqDiff, Nat.reduceLT, Nat.reduceAdd, Nat.reduceMul, Nat.reduceLeDiff, Nat.le_refl, Int.natCast_zero, Int.toNat_natCast, Int.reduceToNat]
    all_goals first | (simp; done) | trace_state
  · obtain ⟨k, d, cuts⟩ := x
    simp only at hx1 hx2 hx3 hx8 hxc
    have hch := pk.ch
    have hbn := pk.blindN k hx1
    have hdc : 0 ≤ (d : Int) * m.chambers ∧ (d : Int) * m.chambers ≤ 8 * 6 := ⟨Int.mul_nonneg (by omega) (by omega), Int.mul_le_mul (by omega) (by omega) (by omega) (by omega)⟩
    rcases Nat.lt_or_ge k o.length with hk | hk
    rotate_left
    · have hko : k = o.length := by omega
      have hd0 := hx3 hko
      have hd : ((k : Int) == o.length) = true := by simp [hko]
      have hres : blindN m l o k + (d : Int) * m.chambers = blindN m l o o.length := by rw [hd0, hko]; simp
      clear pk hko hd0 hx3 hx2 hch
      simp -dsimp -implicitDefEqProofs only [pick_nil, pick_cons, look_nil, look_cons, dropB_nil, dropB_cons, inD_nil, inD_cons, inE_nil, inE_cons, or_t_l, or_f_l, Nat.reduceBEq, Nat.reduceDiv, Nat.reduceAdd, beq_self_eq_true, Bool.false_eq_true, Bool.or_false, ↓reduceIte, Nat.reduceEqDiff, List.cons_append, List.nil_append]
      rw [hres]
      clear hres
      simp -dsimp -implicitDefEqProofs only [go_sem, ↓reduceIte, Nat.reduceEqDiff, Nat.reduceLT, Nat.reduceAdd, Nat.reduceMul, Nat.reduceLeDiff, Nat.le_refl, Int.natCast_zero, Int.toNat_natCast, Int.reduceToNat]
      refine sCallT_inl 400000 13 [.tmp 2] Try.func107 rfl rfl rfl rfl rfl (by exact of_decide_eq_true rfl) ?_
      simp -dsimp -implicitDefEqProofs only [go_sem, ↓reduceIte, Nat.reduceEqDiff, Nat.reduceLT, Nat.reduceAdd, Nat.reduceMul, Nat.reduceLeDiff, Nat.le_refl, Int.natCast_zero, Int.toNat_natCast, Int.reduceToNat, hd]
      (repeat' (first | (refine Br.intro (fun _ => ?_) (fun _ => ?_) <;> try simp -dsimp -implicitDefEqProofs only [go_sem, ↓reduceIte, Nat.reduceEqDiff, Nat.reduceLT, Nat.reduceAdd, Nat.reduceMul, Nat.reduceLeDiff, Nat.le_refl, Int.natCast_zero, Int.toNat_natCast, Int.reduceToNat, *]) | (with_reducible refine And.intro ?_ ?_) | (refine Later.draw mixed rfl ?_; try simp -dsimp -implicitDefEqProofs only [go_sem, ↓reduceIte, Nat.reduceEqDiff, Nat.reduceLT, Nat.reduceAdd, Nat.reduceMul, Nat.reduceLeDiff, Nat.le_refl, Int.natCast_zero, Int.toNat_natCast, Int.reduceToNat, *])))
      all_goals first
        | omega
        | (exact rfl)
        | (simp; done)
        | (simp_all; done)
        | trace_state
    have hz := hx2 hk
    have hzn := zOf_num pk hk
    have li := lt_len hk
    have hio := pk.io k hk
    have hd : ((k : Int) == o.length) = false := by simp; omega
    have gn := get_some hk
    clear hx2 hx3
    have low : ∀ c : Nat, (d : Int) < zOf l o k → o[k] = (c : Int) → ∃ hc : c < l.length, has l[c] d = false ∧ 0 < l[c].length ∧ decide ((d : Int) > l[c][l[c].length - 1]!) = false := by
      intro c hlt hoc
      obtain ⟨z1, z2, z3⟩ := blind_z pk hk
      rw [hoc] at z1 z2 z3
      obtain ⟨hc, he⟩ := pk.cset (c := (c : Int)) (by omega) (by omega)
      have hc' : c < l.length := by simpa using hc
      have he' : cset l (c : Int) = l[c] := by simpa using he
      rw [he'] at z1 z2 z3
      have hst := (pk.st c hc').1
      refine ⟨hc', ?_, hst, ?_⟩
      · rcases hh : has l[c] d with _ | _
        · rfl
        · have := z1 _ ((has_iff _ _).1 hh); omega
      · refine decide_eq_false ?_
        have hl := z1 _ z3
        rw [lastOf, List.getD_eq_getElem?_getD, List.getElem?_eq_getElem (by omega)] at hl
        rw [getElem!_pos (l[c]) (l[c].length - 1) (by omega)]
        simp only [Option.getD_some] at hl
        omega
    have hiq : ∀ c : Nat, o[k] = (c : Int) → (d : Int) = zOf l o k → ∃ hc : c < l.length, has l[c] d = true := by
      intro c hoc heq
      obtain ⟨z1, z2, z3⟩ := blind_z pk hk
      rw [hoc] at z1 z2 z3
      obtain ⟨hc, he⟩ := pk.cset (c := (c : Int)) (by omega) (by omega)
      have hc' : c < l.length := by simpa using hc
      have he' : cset l (c : Int) = l[c] := by simpa using he
      rw [he'] at z2
      exact ⟨hc', (has_iff _ _).2 (heq ▸ z2)⟩
    rcases Int.lt_or_eq_of_le hz with hlt | heq
    · have low := fun c => low c hlt
      clear hiq hz
      have hlc : ∀ c : Nat, c < o.length → decide ((c : Int) < m.chambers) = true := fun c hc => decide_eq_true (by omega)
      have hlc0 : decide ((o.length : Int) < m.chambers) = false := decide_eq_false (by omega)
      have hsum : ((d + 1 : Nat) : Int) * m.chambers = (d : Int) * m.chambers + o.length := by rw [hch, Int.natCast_add, Int.add_mul]; simp
      clear pk hch
      generalize hdm : (d : Int) * m.chambers = e at *
      simp -dsimp -implicitDefEqProofs only [pick_nil, pick_cons, look_nil, look_cons, dropB_nil, dropB_cons, inD_nil, inD_cons, inE_nil, inE_cons, or_t_l, or_f_l, Nat.reduceBEq, Nat.reduceDiv, Nat.reduceAdd, beq_self_eq_true, Bool.false_eq_true, Bool.or_false, ↓reduceIte, Nat.reduceEqDiff, List.cons_append, List.nil_append]
      simp -dsimp -implicitDefEqProofs only [go_sem, ↓reduceIte, Nat.reduceEqDiff, Nat.reduceLT, Nat.reduceAdd, Nat.reduceMul, Nat.reduceLeDiff, Nat.le_refl, Int.natCast_zero, Int.toNat_natCast, Int.reduceToNat]
      refine sCallT_inl 400000 13 [.tmp 2] Try.func107 rfl rfl rfl rfl rfl (by exact of_decide_eq_true rfl) ?_
      simp -dsimp -implicitDefEqProofs only [go_sem, ↓reduceIte, Nat.reduceEqDiff, Nat.reduceLT, Nat.reduceAdd, Nat.reduceMul, Nat.reduceLeDiff, Nat.le_refl, Int.natCast_zero, Int.toNat_natCast, Int.reduceToNat, hd]
      (repeat' (first | (refine Br.intro (fun _ => ?_) (fun _ => ?_) <;> try simp -dsimp -implicitDefEqProofs only [go_sem, ↓reduceIte, Nat.reduceEqDiff, Nat.reduceLT, Nat.reduceAdd, Nat.reduceMul, Nat.reduceLeDiff, Nat.le_refl, Int.natCast_zero, Int.toNat_natCast, Int.reduceToNat, *]) | (with_reducible refine And.intro ?_ ?_) | (refine Later.draw mixed rfl ?_; try simp -dsimp -implicitDefEqProofs only [go_sem, ↓reduceIte, Nat.reduceEqDiff, Nat.reduceLT, Nat.reduceAdd, Nat.reduceMul, Nat.reduceLeDiff, Nat.le_refl, Int.natCast_zero, Int.toNat_natCast, Int.reduceToNat, *])))
      all_goals try (first | omega | (exact rfl) | (simp; done))
      refine Later.up [3, 9, 33] [43] [500003] o.length (fun _ => True) (fun c => [(34, eI c), (10, eI (blindN m l o k + e + c)), (11, eI d)]) (fun _ => []) trivial ?_ rfl (fun c hc _ => ?_) (fun _ => ?_)
      · simp -dsimp -implicitDefEqProofs only [go_sem, ↓reduceIte, Nat.reduceEqDiff, Nat.reduceLT, Nat.reduceAdd, Nat.reduceMul, Nat.reduceLeDiff, Nat.le_refl, Int.natCast_zero, Int.toNat_natCast, Int.reduceToNat]
        all_goals first | (simp; done) | trace_state
      · have lc : decide ((c : Int) < m.chambers) = true := hlc c hc
        clear hlc hlc0 hsum
        by_cases hoc : o[k] = (c : Int)
        · obtain ⟨hcl, hh, hst, hgt⟩ := low c hoc
          have hne : (o[k] != (c : Int)) = false := by simp [hoc]
          have gc := get_some hcl
          have hlt2 : l[c].length - 1 < l[c].length := by omega
          have gL : l[c][((l[c].length : Int) - 1).toNat]? = some l[c][l[c].length - 1] := by rw [pred_toNat hst]; exact get_some hlt2
          have hx := h2 _ (List.getElem_mem hcl)
          rw [getElem!_pos (l[c]) (l[c].length - 1) hlt2] at hgt
          clear low hoc
          generalize l[c] = z at *
          simp -dsimp -implicitDefEqProofs only [pick_nil, pick_cons, look_nil, look_cons, dropB_nil, dropB_cons, inD_nil, inD_cons, inE_nil, inE_cons, or_t_l, or_f_l, Nat.reduceBEq, Nat.reduceDiv, Nat.reduceAdd, beq_self_eq_true, Bool.false_eq_true, Bool.or_false, ↓reduceIte, Nat.reduceEqDiff, List.cons_append, List.nil_append]
          simp -dsimp -implicitDefEqProofs only [go_sem, ↓reduceIte, Nat.reduceEqDiff, Nat.reduceLT, Nat.reduceAdd, Nat.reduceMul, Nat.reduceLeDiff, Nat.le_refl, Int.natCast_zero, Int.toNat_natCast, Int.reduceToNat, lc]
          ((repeat' (first | (refine Br.intro (fun _ => ?_) (fun _ => ?_) <;> try simp -dsimp -implicitDefEqProofs only [go_sem, ↓reduceIte, Nat.reduceEqDiff, Nat.reduceLT, Nat.reduceAdd, Nat.reduceMul, Nat.reduceLeDiff, Nat.le_refl, Int.natCast_zero, Int.toNat_natCast, Int.reduceToNat, *]) | (with_reducible refine And.intro ?_ ?_) | (refine Later.draw mixed rfl ?_; try simp -dsimp -implicitDefEqProofs only [go_sem, ↓reduceIte, Nat.reduceEqDiff, Nat.reduceLT, Nat.reduceAdd, Nat.reduceMul, Nat.reduceLeDiff, Nat.le_refl, Int.natCast_zero, Int.toNat_natCast, Int.reduceToNat, *]))); all_goals try (first | omega | (refine ⟨?_, ?_⟩ <;> omega) | (exact rfl) | (simp; done)))
          refine sCallT_inl 500000 84 [.tmp 4] Try.func112 rfl rfl rfl rfl rfl (by exact of_decide_eq_true rfl) ?_
          simp -dsimp -implicitDefEqProofs only [go_sem, ↓reduceIte, Nat.reduceEqDiff, Nat.reduceLT, Nat.reduceAdd, Nat.reduceMul, Nat.reduceLeDiff, Nat.le_refl, Int.natCast_zero, Int.toNat_natCast, Int.reduceToNat, hd, gn, hne, gc]
          ((repeat' (first | (refine Br.intro (fun _ => ?_) (fun _ => ?_) <;> try simp -dsimp -implicitDefEqProofs only [go_sem, ↓reduceIte, Nat.reduceEqDiff, Nat.reduceLT, Nat.reduceAdd, Nat.reduceMul, Nat.reduceLeDiff, Nat.le_refl, Int.natCast_zero, Int.toNat_natCast, Int.reduceToNat, *]) | (with_reducible refine And.intro ?_ ?_) | (refine Later.draw mixed rfl ?_; try simp -dsimp -implicitDefEqProofs only [go_sem, ↓reduceIte, Nat.reduceEqDiff, Nat.reduceLT, Nat.reduceAdd, Nat.reduceMul, Nat.reduceLeDiff, Nat.le_refl, Int.natCast_zero, Int.toNat_natCast, Int.reduceToNat, *]) | (refine sCallT_one (c_Contains z d hx) ?_; try simp -dsimp -implicitDefEqProofs only [go_sem, ↓reduceIte, Nat.reduceEqDiff, Nat.reduceLT, Nat.reduceAdd, Nat.reduceMul, Nat.reduceLeDiff, Nat.le_refl, Int.natCast_zero, Int.toNat_natCast, Int.reduceToNat, *]))); all_goals try (first | omega | (refine ⟨?_, ?_⟩ <;> omega) | (exact rfl) | (simp; done) | (simp; omega) | trace_state))
        · have hne : (o[k] != (c : Int)) = true := by simp [hoc]
          clear low hoc
          simp -dsimp -implicitDefEqProofs only [pick_nil, pick_cons, look_nil, look_cons, dropB_nil, dropB_cons, inD_nil, inD_cons, inE_nil, inE_cons, or_t_l, or_f_l, Nat.reduceBEq, Nat.reduceDiv, Nat.reduceAdd, beq_self_eq_true, Bool.false_eq_true, Bool.or_false, ↓reduceIte, Nat.reduceEqDiff, List.cons_append, List.nil_append]
          simp -dsimp -implicitDefEqProofs only [go_sem, ↓reduceIte, Nat.reduceEqDiff, Nat.reduceLT, Nat.reduceAdd, Nat.reduceMul, Nat.reduceLeDiff, Nat.le_refl, Int.natCast_zero, Int.toNat_natCast, Int.reduceToNat, lc]
          ((repeat' (first | (refine Br.intro (fun _ => ?_) (fun _ => ?_) <;> try simp -dsimp -implicitDefEqProofs only [go_sem, ↓reduceIte, Nat.reduceEqDiff, Nat.reduceLT, Nat.reduceAdd, Nat.reduceMul, Nat.reduceLeDiff, Nat.le_refl, Int.natCast_zero, Int.toNat_natCast, Int.reduceToNat, *]) | (with_reducible refine And.intro ?_ ?_) | (refine Later.draw mixed rfl ?_; try simp -dsimp -implicitDefEqProofs only [go_sem, ↓reduceIte, Nat.reduceEqDiff, Nat.reduceLT, Nat.reduceAdd, Nat.reduceMul, Nat.reduceLeDiff, Nat.le_refl, Int.natCast_zero, Int.toNat_natCast, Int.reduceToNat, *]))); all_goals try (first | omega | (refine ⟨?_, ?_⟩ <;> omega) | (exact rfl) | (simp; done)))
          refine sCallT_inl 500000 84 [.tmp 4] Try.func112 rfl rfl rfl rfl rfl (by exact of_decide_eq_true rfl) ?_
          simp -dsimp -implicitDefEqProofs only [go_sem, ↓reduceIte, Nat.reduceEqDiff, Nat.reduceLT, Nat.reduceAdd, Nat.reduceMul, Nat.reduceLeDiff, Nat.le_refl, Int.natCast_zero, Int.toNat_natCast, Int.reduceToNat, hd, gn, hne]
          ((repeat' (first | (refine Br.intro (fun _ => ?_) (fun _ => ?_) <;> try simp -dsimp -implicitDefEqProofs only [go_sem, ↓reduceIte, Nat.reduceEqDiff, Nat.reduceLT, Nat.reduceAdd, Nat.reduceMul, Nat.reduceLeDiff, Nat.le_refl, Int.natCast_zero, Int.toNat_natCast, Int.reduceToNat, *]) | (with_reducible refine And.intro ?_ ?_) | (refine Later.draw mixed rfl ?_; try simp -dsimp -implicitDefEqProofs only [go_sem, ↓reduceIte, Nat.reduceEqDiff, Nat.reduceLT, Nat.reduceAdd, Nat.reduceMul, Nat.reduceLeDiff, Nat.le_refl, Int.natCast_zero, Int.toNat_natCast, Int.reduceToNat, *]))); all_goals try (first | omega | (refine ⟨?_, ?_⟩ <;> omega) | (exact rfl) | (simp; done) | (simp; omega) | trace_state))
      · clear low hlc
        simp -dsimp -implicitDefEqProofs only [pick_nil, pick_cons, look_nil, look_cons, dropB_nil, dropB_cons, inD_nil, inD_cons, inE_nil, inE_cons, or_t_l, or_f_l, Nat.reduceBEq, Nat.reduceDiv, Nat.reduceAdd, beq_self_eq_true, Bool.false_eq_true, Bool.or_false, ↓reduceIte, Nat.reduceEqDiff, List.cons_append, List.nil_append]
        simp -dsimp -implicitDefEqProofs only [go_sem, ↓reduceIte, Nat.reduceEqDiff, Nat.reduceLT, Nat.reduceAdd, Nat.reduceMul, Nat.reduceLeDiff, Nat.le_refl, Int.natCast_zero, Int.toNat_natCast, Int.reduceToNat, hlc0]
        (repeat' (first | (refine Br.intro (fun _ => ?_) (fun _ => ?_) <;> try simp -dsimp -implicitDefEqProofs only [go_sem, ↓reduceIte, Nat.reduceEqDiff, Nat.reduceLT, Nat.reduceAdd, Nat.reduceMul, Nat.reduceLeDiff, Nat.le_refl, Int.natCast_zero, Int.toNat_natCast, Int.reduceToNat, *]) | (with_reducible refine And.intro ?_ ?_)))
        all_goals first
          | omega
          | (refine ⟨?_, ?_⟩ <;> omega)
          | (refine ⟨(k, d + 1, cuts), ⟨hx1, fun _ => by simp only; omega, fun h9 => by simp only at h9; omega, by simp only; omega, hxc⟩, by simp only; omega, ?_⟩
             simp -dsimp -implicitDefEqProofs only [go_sem, ↓reduceIte, Nat.reduceEqDiff, Nat.reduceLT, Nat.reduceAdd, Nat.reduceMul, Nat.reduceLeDiff, Nat.le_refl, Int.natCast_zero, Int.toNat_natCast, Int.reduceToNat, hsum]
             repeat' (with_reducible refine And.intro ?_ ?_)
             all_goals first
               | omega
               | rfl
               | (simp; done)
               | (refine congrArg (Value.int IntKind.i64) ?_; omega)
               | trace_state)
          | trace_state
    · have hoc : ((o[k].toNat : Nat) : Int) = o[k] := by omega
      obtain ⟨hcl, hh⟩ := hiq o[k].toNat hoc.symm heq
      have hbs := blindN_succ m l o k hk
      rw [blindAt_eq hk, ← heq] at hbs
      have hz2 : ∀ h9 : k + 1 < o.length, 0 ≤ zOf l o (k + 1) := fun h9 => (zOf_num pk h9).1
      have hlc : ∀ c : Nat, c < o.length → decide ((c : Int) < m.chambers) = true := fun c hc => decide_eq_true (by omega)
      have hzero : ((0 : Nat) : Int) * m.chambers = 0 := by simp
      clear low hiq heq hz hzn pk hch
      generalize hdm : (d : Int) * m.chambers = e at *
      clear hdm
      simp -dsimp -implicitDefEqProofs only [pick_nil, pick_cons, look_nil, look_cons, dropB_nil, dropB_cons, inD_nil, inD_cons, inE_nil, inE_cons, or_t_l, or_f_l, Nat.reduceBEq, Nat.reduceDiv, Nat.reduceAdd, beq_self_eq_true, Bool.false_eq_true, Bool.or_false, ↓reduceIte, Nat.reduceEqDiff, List.cons_append, List.nil_append]
      simp -dsimp -implicitDefEqProofs only [go_sem, ↓reduceIte, Nat.reduceEqDiff, Nat.reduceLT, Nat.reduceAdd, Nat.reduceMul, Nat.reduceLeDiff, Nat.le_refl, Int.natCast_zero, Int.toNat_natCast, Int.reduceToNat]
      refine sCallT_inl 400000 13 [.tmp 2] Try.func107 rfl rfl rfl rfl rfl (by exact of_decide_eq_true rfl) ?_
      simp -dsimp -implicitDefEqProofs only [go_sem, ↓reduceIte, Nat.reduceEqDiff, Nat.reduceLT, Nat.reduceAdd, Nat.reduceMul, Nat.reduceLeDiff, Nat.le_refl, Int.natCast_zero, Int.toNat_natCast, Int.reduceToNat, hd]
      (repeat' (first | (refine Br.intro (fun _ => ?_) (fun _ => ?_) <;> try simp -dsimp -implicitDefEqProofs only [go_sem, ↓reduceIte, Nat.reduceEqDiff, Nat.reduceLT, Nat.reduceAdd, Nat.reduceMul, Nat.reduceLeDiff, Nat.le_refl, Int.natCast_zero, Int.toNat_natCast, Int.reduceToNat, *]) | (with_reducible refine And.intro ?_ ?_) | (refine Later.draw mixed rfl ?_; try simp -dsimp -implicitDefEqProofs only [go_sem, ↓reduceIte, Nat.reduceEqDiff, Nat.reduceLT, Nat.reduceAdd, Nat.reduceMul, Nat.reduceLeDiff, Nat.le_refl, Int.natCast_zero, Int.toNat_natCast, Int.reduceToNat, *])))
      all_goals try (first | omega | (exact rfl) | (simp; done))
      refine Later.up [3, 9, 33] [43] [500003] (o[k].toNat + 1) (fun c => c ≤ o[k].toNat) (fun c => [(34, eI c), (10, eI (blindN m l o k + e + c)), (11, eI d)]) (fun _ => []) (Nat.zero_le _) ?_ rfl (fun c hc hcI => ?_) (fun hcI => ?_)
      · simp -dsimp -implicitDefEqProofs only [go_sem, ↓reduceIte, Nat.reduceEqDiff, Nat.reduceLT, Nat.reduceAdd, Nat.reduceMul, Nat.reduceLeDiff, Nat.le_refl, Int.natCast_zero, Int.toNat_natCast, Int.reduceToNat]
        all_goals first | (simp; done) | trace_state
      · have lc : decide ((c : Int) < m.chambers) = true := hlc c (by omega)
        clear hlc
        rcases Nat.lt_or_ge c o[k].toNat with hcc | hcg
        · have hne : (o[k] != (c : Int)) = true := by simp; omega
          clear hoc hbs hcl hh
          simp -dsimp -implicitDefEqProofs only [pick_nil, pick_cons, look_nil, look_cons, dropB_nil, dropB_cons, inD_nil, inD_cons, inE_nil, inE_cons, or_t_l, or_f_l, Nat.reduceBEq, Nat.reduceDiv, Nat.reduceAdd, beq_self_eq_true, Bool.false_eq_true, Bool.or_false, ↓reduceIte, Nat.reduceEqDiff, List.cons_append, List.nil_append]
          simp -dsimp -implicitDefEqProofs only [go_sem, ↓reduceIte, Nat.reduceEqDiff, Nat.reduceLT, Nat.reduceAdd, Nat.reduceMul, Nat.reduceLeDiff, Nat.le_refl, Int.natCast_zero, Int.toNat_natCast, Int.reduceToNat, lc]
          ((repeat' (first | (refine Br.intro (fun _ => ?_) (fun _ => ?_) <;> try simp -dsimp -implicitDefEqProofs only [go_sem, ↓reduceIte, Nat.reduceEqDiff, Nat.reduceLT, Nat.reduceAdd, Nat.reduceMul, Nat.reduceLeDiff, Nat.le_refl, Int.natCast_zero, Int.toNat_natCast, Int.reduceToNat, *]) | (with_reducible refine And.intro ?_ ?_) | (refine Later.draw mixed rfl ?_; try simp -dsimp -implicitDefEqProofs only [go_sem, ↓reduceIte, Nat.reduceEqDiff, Nat.reduceLT, Nat.reduceAdd, Nat.reduceMul, Nat.reduceLeDiff, Nat.le_refl, Int.natCast_zero, Int.toNat_natCast, Int.reduceToNat, *]))); all_goals try (first | omega | (refine ⟨?_, ?_⟩ <;> omega) | (exact rfl) | (simp; done)))
          refine sCallT_inl 500000 84 [.tmp 4] Try.func112 rfl rfl rfl rfl rfl (by exact of_decide_eq_true rfl) ?_
          simp -dsimp -implicitDefEqProofs only [go_sem, ↓reduceIte, Nat.reduceEqDiff, Nat.reduceLT, Nat.reduceAdd, Nat.reduceMul, Nat.reduceLeDiff, Nat.le_refl, Int.natCast_zero, Int.toNat_natCast, Int.reduceToNat, hd, gn, hne]
          ((repeat' (first | (refine Br.intro (fun _ => ?_) (fun _ => ?_) <;> try simp -dsimp -implicitDefEqProofs only [go_sem, ↓reduceIte, Nat.reduceEqDiff, Nat.reduceLT, Nat.reduceAdd, Nat.reduceMul, Nat.reduceLeDiff, Nat.le_refl, Int.natCast_zero, Int.toNat_natCast, Int.reduceToNat, *]) | (with_reducible refine And.intro ?_ ?_) | (refine Later.draw mixed rfl ?_; try simp -dsimp -implicitDefEqProofs only [go_sem, ↓reduceIte, Nat.reduceEqDiff, Nat.reduceLT, Nat.reduceAdd, Nat.reduceMul, Nat.reduceLeDiff, Nat.le_refl, Int.natCast_zero, Int.toNat_natCast, Int.reduceToNat, *]))); all_goals try (first | omega | (refine ⟨?_, ?_⟩ <;> omega) | (exact rfl) | (simp; done) | (simp; omega) | trace_state))
        · have hce : c = o[k].toNat := by omega
          have hcl : c < l.length := by omega
          have hh : has l[c] d = true := by subst hce; exact hh
          have hne : (o[k] != (c : Int)) = false := by simp; omega
          have gc := get_some hcl
          have hcc : c < cuts.length := by omega
          have gr : (cuts.map eI)[c]? = some (eI cuts[c]) := by rw [List.getElem?_map, List.getElem?_eq_getElem hcc]; rfl
          have hx := h2 _ (List.getElem_mem hcl)
          have hbs : blindN m l o (k + 1) = blindN m l o k + e + c + 1 := by omega
          clear hce hoc
          generalize l[c] = z at *
          simp -dsimp -implicitDefEqProofs only [pick_nil, pick_cons, look_nil, look_cons, dropB_nil, dropB_cons, inD_nil, inD_cons, inE_nil, inE_cons, or_t_l, or_f_l, Nat.reduceBEq, Nat.reduceDiv, Nat.reduceAdd, beq_self_eq_true, Bool.false_eq_true, Bool.or_false, ↓reduceIte, Nat.reduceEqDiff, List.cons_append, List.nil_append]
          simp -dsimp -implicitDefEqProofs only [go_sem, ↓reduceIte, Nat.reduceEqDiff, Nat.reduceLT, Nat.reduceAdd, Nat.reduceMul, Nat.reduceLeDiff, Nat.le_refl, Int.natCast_zero, Int.toNat_natCast, Int.reduceToNat, lc]
          ((repeat' (first | (refine Br.intro (fun _ => ?_) (fun _ => ?_) <;> try simp -dsimp -implicitDefEqProofs only [go_sem, ↓reduceIte, Nat.reduceEqDiff, Nat.reduceLT, Nat.reduceAdd, Nat.reduceMul, Nat.reduceLeDiff, Nat.le_refl, Int.natCast_zero, Int.toNat_natCast, Int.reduceToNat, *]) | (with_reducible refine And.intro ?_ ?_) | (refine Later.draw mixed rfl ?_; try simp -dsimp -implicitDefEqProofs only [go_sem, ↓reduceIte, Nat.reduceEqDiff, Nat.reduceLT, Nat.reduceAdd, Nat.reduceMul, Nat.reduceLeDiff, Nat.le_refl, Int.natCast_zero, Int.toNat_natCast, Int.reduceToNat, *]))); all_goals try (first | omega | (refine ⟨?_, ?_⟩ <;> omega) | (exact rfl) | (simp; done)))
          refine sCallT_inl 500000 84 [.tmp 4] Try.func112 rfl rfl rfl rfl rfl (by exact of_decide_eq_true rfl) ?_
          simp -dsimp -implicitDefEqProofs only [go_sem, ↓reduceIte, Nat.reduceEqDiff, Nat.reduceLT, Nat.reduceAdd, Nat.reduceMul, Nat.reduceLeDiff, Nat.le_refl, Int.natCast_zero, Int.toNat_natCast, Int.reduceToNat, hd, gn, hne, gc]
          ((repeat' (first | (refine Br.intro (fun _ => ?_) (fun _ => ?_) <;> try simp -dsimp -implicitDefEqProofs only [go_sem, ↓reduceIte, Nat.reduceEqDiff, Nat.reduceLT, Nat.reduceAdd, Nat.reduceMul, Nat.reduceLeDiff, Nat.le_refl, Int.natCast_zero, Int.toNat_natCast, Int.reduceToNat, *]) | (with_reducible refine And.intro ?_ ?_) | (refine Later.draw mixed rfl ?_; try simp -dsimp -implicitDefEqProofs only [go_sem, ↓reduceIte, Nat.reduceEqDiff, Nat.reduceLT, Nat.reduceAdd, Nat.reduceMul, Nat.reduceLeDiff, Nat.le_refl, Int.natCast_zero, Int.toNat_natCast, Int.reduceToNat, *]) | (refine sCallT_one (c_Contains z d hx) ?_; try simp -dsimp -implicitDefEqProofs only [go_sem, ↓reduceIte, Nat.reduceEqDiff, Nat.reduceLT, Nat.reduceAdd, Nat.reduceMul, Nat.reduceLeDiff, Nat.le_refl, Int.natCast_zero, Int.toNat_natCast, Int.reduceToNat, *]))); all_goals try (first | omega | (refine ⟨?_, ?_⟩ <;> omega) | (exact rfl) | (simp; done) | (simp; omega)))
          refine ⟨(k + 1, 0, cuts.set c d), ⟨by simp only; omega, fun h9 => hz2 h9, fun _ => rfl, by simp only; omega, by simp only [List.length_set]; exact hxc⟩, by simp only; omega, ?_⟩
          simp -dsimp -implicitDefEqProofs only [go_sem, ↓reduceIte, Nat.reduceEqDiff, Nat.reduceLT, Nat.reduceAdd, Nat.reduceMul, Nat.reduceLeDiff, Nat.le_refl, Int.natCast_zero, Int.toNat_natCast, Int.reduceToNat, hzero]
          repeat' (with_reducible refine And.intro ?_ ?_)
          all_goals first
            | omega
            | rfl
            | (simp; done)
            | (refine congrArg (Value.int IntKind.i64) ?_; omega)
            | (rw [List.map_set]; done)
            | trace_state
      · omega
end Go.Vc


/-
  Picking: plain facts on runs of picks.
-/
set_option linter.unusedVariables false
set_option linter.unusedSimpArgs false
set_option linter.unnecessarySimpa false
namespace Go.Vc
set_option maxRecDepth 100000
theorem compact_strict {zs : List Int} (h : zs.Pairwise (· < ·)) : Lib.compact zs = zs := by
  unfold Lib.compact Lib.compactUpTo
  have hs := List.pairwise_iff_getElem.1 h
  have e : (List.range zs.length).filter (Lib.keeps zs.toArray) = List.range zs.length := List.filter_eq_self.2 fun j hj => by
    have hj := List.mem_range.1 hj
    by_cases h0 : j = 0
    · subst h0; simp [Lib.keeps]
    · have h1 : j - 1 < zs.length := by omega
      have := hs (j - 1) j h1 hj (by omega)
      have h2 : zs[j] ≠ zs[j - 1] := by omega
      simp [Lib.keeps, h0, hj, h1, h2]
  rw [e]
  refine List.ext_getElem (by simp) fun i h1 h2 => ?_
  simp [h2]
theorem sort_strict {xs : List Int} (h : xs.Nodup) : (xs.mergeSort fun x y => decide (x ≤ y)).Pairwise (· < ·) := by
  have hp : (xs.mergeSort fun x y => decide (x ≤ y)).Perm xs := List.mergeSort_perm _ _
  have hn : (xs.mergeSort fun x y => decide (x ≤ y)).Nodup := hp.nodup_iff.2 h
  have h1 := List.pairwise_iff_getElem.1 (sort_pair xs)
  rw [List.nodup_iff_pairwise_ne, List.pairwise_iff_getElem] at hn
  rw [List.pairwise_iff_getElem]
  intro i j hi hj hij
  have := h1 i j hi hj hij
  have := hn i j hi hj hij
  omega
theorem rowsL_nodup {xs : List Int} (h : xs.Nodup) : (rowsL xs).length = xs.length := by
  rw [rowsL_eq, compact_strict (sort_strict h), List.length_mergeSort]
theorem nodup_take' {o : List Int} (h : o.Nodup) (n : Nat) : (o.take n).Nodup := h.sublist (List.take_sublist _ _)
theorem getD_eq {xs : List Int} {i : Nat} (h : i < xs.length) : xs.getD i 0 = xs[i] := by simp [List.getD_eq_getElem?_getD, h]
/- ---- the fewest picks -/
theorem fewestL_len (l : List (List Int)) (o : List Int) : (fewestL l o).length = o.length := by simp [fewestL]
theorem few_step {m : MkM} {l : List (List Int)} {o : List Int} (pk : Pk m l o) {i : Nat} (hi : i < o.length) : pickN l o i ⟨o[i], (cset l o[i]).getD 0 0⟩ = i + 1 := by
  have h1 := pk.io i hi
  obtain ⟨hx, e⟩ := pk.cset h1.1 h1.2
  have h2 := (pk.st _ hx).1
  have hh : has (cset l o[i]) ((cset l o[i]).getD 0 0) = true := by
    rw [e]
    have e2 : (l[(o[i]).toNat]).getD 0 0 = (l[(o[i]).toNat])[0] := getD_eq h2
    rw [e2, has, all_no (p := fun y => !(y == (l[(o[i]).toNat])[0])) h2 (by simp)]; rfl
  rw [pickN, if_neg (by rw [getD_eq hi]; simp; omega), if_pos hh]
theorem few_run {m : MkM} {l : List (List Int)} {o : List Int} (pk : Pk m l o) : ∀ i, i ≤ o.length → (runS l o (fewestL l o) i).n = i
  | 0, _ => by rw [runS_zero]
  | i + 1, hi => by
    have ih := few_run pk i (by omega)
    have hi2 : i < (fewestL l o).length := by rw [fewestL_len]; omega
    rw [runS_succ _ _ _ _ hi2]
    simp only [pickS, ih]
    have e : (fewestL l o)[i] = ⟨o[i], (cset l o[i]).getD 0 0⟩ := by simp [fewestL]
    rw [e]
    exact few_step pk (by omega)
theorem few_made {m : MkM} {l : List (List Int)} {o : List Int} (pk : Pk m l o) : madeS l o (fewestL l o) = o.length := by
  refine madeS_stop l o _ o.length (by rw [fewestL_len]; exact Nat.le_refl _) (fun j hj => by rw [few_run pk j (by omega)]; omega) (fun h => by rw [fewestL_len] at h; omega)
theorem few_ok {m : MkM} {l : List (List Int)} {o : List Int} (pk : Pk m l o) {i : Nat} (hi : i < o.length) : pickOk m ⟨o[i], (cset l o[i]).getD 0 0⟩ = true := by
  have h1 := pk.io i hi
  obtain ⟨hx, e⟩ := pk.cset h1.1 h1.2
  have h2 := pk.st _ hx
  have h3 := ((rises_iff _ _).1 h2.2).1 0 h2.1
  have h4 := pk.ch
  have e2 : (cset l o[i]).getD 0 0 = (l[(o[i]).toNat])[0]'h2.1 := by rw [e]; exact getD_eq h2.1
  rw [e2]
  simp [pickOk, isIn]; omega
theorem few_all {m : MkM} {l : List (List Int)} {o : List Int} (pk : Pk m l o) : (fewestL l o).all (pickOk m) = true := by
  rw [List.all_eq_true]
  intro p hp
  simp only [fewestL, List.mem_map] at hp
  obtain ⟨c, hc, rfl⟩ := hp
  obtain ⟨i, hi, rfl⟩ := List.getElem_of_mem hc
  exact few_ok pk hi
theorem few_pickAll {m : MkM} {l : List (List Int)} {o : List Int} (h : pkCode m l o [] = 0) (pk : Pk m l o) : pickAll m l o (fewestL l o) = (rowsL o, (o.length : Int), 0) := by
  have hc : pksCode m l o [] (fewestL l o) = 0 := by
    have := pk.n6
    rw [pksCode, if_pos h, if_pos (few_all pk), if_neg (by rw [fewestL_len]; omega)]
  have hr := few_run pk o.length (Nat.le_refl _)
  rw [pickAll, if_pos hc, fewestL_len, hr, few_made pk, List.take_length, if_neg (Nat.lt_irrefl _)]
theorem set_rows {m : MkM} {l : List (List Int)} {o : List Int} (pk : Pk m l o) {i : Nat} (hi : i ≤ o.length) : setOk o (rowsL (o.take i)) = true ∧ (rowsL (o.take i)).length = i := by
  have hl : (rowsL (o.take i)).length = i := by rw [rowsL_nodup (nodup_take' pk.nd i)]; simp; omega
  refine ⟨?_, hl⟩
  unfold setOk
  rw [Bool.and_eq_true]
  constructor
  · rw [rises_iff]
    have hp := List.pairwise_iff_getElem.1 (rowsL_pair (o.take i))
    refine ⟨fun j hj => ?_, fun j hj => hp j (j + 1) (by omega) hj (by omega)⟩
    have := (rowsL_mem _ _).1 (List.getElem_mem hj)
    obtain ⟨q, hq, e⟩ := List.getElem_of_mem (List.mem_of_mem_take this)
    rw [← e]; exact pk.io q hq
  · rw [List.all_eq_true, hl]
    intro c hc
    rw [has_iff, rowsL_mem]
    exact hc
theorem few_once {m : MkM} {l : List (List Int)} {o : List Int} (h1 : isLk m l = true) (h2 : ordOk m o = true) (pk : Pk m l o) {i : Nat} (hi : i < o.length) :
    pickOnce m l o (rowsL (o.take i)) ⟨o[i], (cset l o[i]).getD 0 0⟩ = (rowsL (o.take (i + 1)), 0) := by
  obtain ⟨g1, g2⟩ := set_rows pk (Nat.le_of_lt hi)
  have hc : pksCode m l o (rowsL (o.take i)) [⟨o[i], (cset l o[i]).getD 0 0⟩] = 0 := by
    rw [pksCode_one, pkCode, if_pos h1, h2, g1, few_ok pk hi]; rfl
  rw [pickOnce, if_pos hc, g2, few_step pk hi]
theorem blind_ge {m : MkM} {l : List (List Int)} {o : List Int} (pk : Pk m l o) : ∀ k, k ≤ o.length → (k : Int) ≤ blindN m l o k
  | 0, _ => by rw [blindN_zero]; exact Int.le_refl _
  | k + 1, hk => by
    have ih := blind_ge pk k (by omega)
    rw [blindN_succ _ _ _ _ (show k < o.length by omega)]
    have h1 := pk.io k (by omega)
    obtain ⟨hx, e⟩ := pk.cset h1.1 h1.2
    have h2 := pk.st _ hx
    have h3 := ((rises_iff _ _).1 h2.2).1 0 h2.1
    have e2 : (cset l o[k]).getD 0 0 = (l[(o[k]).toNat])[0]'h2.1 := by rw [e]; exact getD_eq h2.1
    have h4 : 0 ≤ (cset l o[k]).getD 0 0 * m.chambers := Int.mul_nonneg (by rw [e2]; exact h3.1) (by have := pk.ch; omega)
    have : 1 ≤ blindAt m l o[k] := by unfold blindAt; omega
    omega
end Go.Vc


/-
  Contracts of the functions on picking: many picks, by the program.
-/
set_option linter.unusedVariables false
set_option linter.unusedSimpArgs false
set_option linter.unnecessarySimpa false
namespace Go.Vc
open Go.Proofs
set_option maxRecDepth 100000
set_option maxHeartbeats 4000000 in
theorem c_iPickAll (m : MkM) (l : List (List Int)) (o : List Int) (ps : List PkM) (h : l.length ≤ 1048576) (h2 : ∀ x ∈ l, x.length ≤ 1048576) (h3 : o.length ≤ 1048576) (h5 : ps.length ≤ 1048576) : Fn Try.prog 43 [eMk m, eLk l, eIs o, ePs ps] true (· = .tup [eIs (pickAll m l o ps).1, eI (pickAll m l o ps).2.1, eI (pickAll m l o ps).2.2]) := by
  refine Fn.of_vcN 35 [.tmp 8, .tmp 9, .tmp 10] Try.func43 rfl rfl rfl rfl rfl (of_decide_eq_true rfl) ?_
  by_cases hb : pksCode m l o [] ps = 0
  rotate_left
  · have hF : pickAll m l o ps = ([], 0, pksCode m l o [] ps) := by rw [pickAll, if_neg hb]
    rw [hF]
    clear hF
    simp -dsimp -implicitDefEqProofs only [go_sem, ↓reduceIte, Nat.reduceEqDiff, Nat.reduceLT, Nat.reduceAdd, Nat.reduceMul, Nat.reduceLeDiff, Nat.le_refl, Int.natCast_zero, Int.toNat_natCast, Int.reduceToNat]
    repeat' first
      | (refine Br.intro (fun _ => ?_) (fun _ => ?_) <;> try simp -dsimp -implicitDefEqProofs only [go_sem, ↓reduceIte, Nat.reduceEqDiff, Nat.reduceLT, Nat.reduceAdd, Nat.reduceMul, Nat.reduceLeDiff, Nat.le_refl, Int.natCast_zero, Int.toNat_natCast, Int.reduceToNat, *])
      | (with_reducible refine And.intro ?_ ?_)
      | (refine sCallT_one (c_iCodeP m l o ps h h2 h3 h5) ?_; try simp -dsimp -implicitDefEqProofs only [go_sem, ↓reduceIte, Nat.reduceEqDiff, Nat.reduceLT, Nat.reduceAdd, Nat.reduceMul, Nat.reduceLeDiff, Nat.le_refl, Int.natCast_zero, Int.toNat_natCast, Int.reduceToNat, *])
    all_goals first
      | omega
      | (simp_all; done)
      | trace_state
  obtain ⟨hb1, hp⟩ := pksCode_zero hb
  obtain ⟨k1, k2, k3⟩ := pkCode_zero hb1
  have pk := Pk.of k1 k2
  have n6 := pk.n6
  have hvc := vc_pickLock m l o ps pk h2 hp h5
  have hn := runS_n l o ps ps.length
  have hmd := madeS_le l o ps
  have hcu := runS_cuts l o ps ps.length
  have hcode := c_iCodeP m l o ps h h2 h3 h5
  rw [hb] at hcode
  have hF : pickAll m l o ps = (rowsL (o.take (runS l o ps ps.length).n), if (runS l o ps ps.length).n < o.length then -1 else (madeS l o ps : Int), 0) := by rw [pickAll, if_pos hb]
  generalize runS l o ps ps.length = R at *
  generalize madeS l o ps = M at *
  rcases Nat.lt_or_ge R.n o.length with hlt | hge
  · have hd : ((R.n : Int) == o.length) = false := by simp; omega
    rw [if_pos hlt] at hF
    rw [hF]
    clear hF
    clear hb hb1 k1 k2 k3 pk hp
    simp -dsimp -implicitDefEqProofs only [go_sem, ↓reduceIte, Nat.reduceEqDiff, Nat.reduceLT, Nat.reduceAdd, Nat.reduceMul, Nat.reduceLeDiff, Nat.le_refl, Int.natCast_zero, Int.toNat_natCast, Int.reduceToNat]
    repeat' first
      | (refine Br.intro (fun _ => ?_) (fun _ => ?_) <;> try simp -dsimp -implicitDefEqProofs only [go_sem, ↓reduceIte, Nat.reduceEqDiff, Nat.reduceLT, Nat.reduceAdd, Nat.reduceMul, Nat.reduceLeDiff, Nat.le_refl, Int.natCast_zero, Int.toNat_natCast, Int.reduceToNat, *])
      | (with_reducible refine And.intro ?_ ?_)
      | (refine sCallT_one (hcode) ?_; try simp -dsimp -implicitDefEqProofs only [go_sem, ↓reduceIte, Nat.reduceEqDiff, Nat.reduceLT, Nat.reduceAdd, Nat.reduceMul, Nat.reduceLeDiff, Nat.le_refl, Int.natCast_zero, Int.toNat_natCast, Int.reduceToNat, *])
    all_goals try (first | omega | (simp; done))
    refine sCallT_inl 700000 35 [.tmp 6, .tmp 7] Try.func106 rfl rfl rfl rfl rfl (by exact of_decide_eq_true rfl) ⟨?_, ?_⟩
    · simp -dsimp -implicitDefEqProofs only [go_sem, ↓reduceIte, Nat.reduceEqDiff, Nat.reduceLT, Nat.reduceAdd, Nat.reduceMul, Nat.reduceLeDiff, Nat.le_refl, Int.natCast_zero, Int.toNat_natCast, Int.reduceToNat]
    simp -dsimp -implicitDefEqProofs only [lowP_nil, lowP_cons, inF_nil, inF_cons, rnsM_nil, rnsM_cons, rnsL_nil, rnsL_cons, rnsA_nil, rnsA_cons, rl_eq, rnA_ref, rnA_ptr, rnA_agg, rnA_arr, rnA_val, rnA_e0, rnL_nil, rnL_cons, rnB_box, rnB_row, rnB_gone, rnM_nil, rnM_cons, Nat.reduceLT, decide_true, decide_false, Bool.true_and, Bool.not_false, Bool.not_true, Bool.and_false, Nat.reduceBEq, Bool.or_false, beq_self_eq_true, Bool.true_or, ↓reduceIte, Nat.reduceEqDiff, Nat.reduceAdd, Bool.and_true]
    refine hvc _ ?_ ?_ _ rfl
    · simp -dsimp -implicitDefEqProofs only [go_sem, ↓reduceIte, Nat.reduceEqDiff, Nat.reduceLT, Nat.reduceAdd, Nat.reduceMul, Nat.reduceLeDiff, Nat.le_refl, Int.natCast_zero, Int.toNat_natCast, Int.reduceToNat]
      refine sCallT_inl 710000 13 [.tmp 2] Try.func107 rfl rfl rfl rfl rfl (by exact of_decide_eq_true rfl) ?_
      simp -dsimp -implicitDefEqProofs only [go_sem, ↓reduceIte, Nat.reduceEqDiff, Nat.reduceLT, Nat.reduceAdd, Nat.reduceMul, Nat.reduceLeDiff, Nat.le_refl, Int.natCast_zero, Int.toNat_natCast, Int.reduceToNat, hd]
      (repeat' (first | (refine Br.intro (fun _ => ?_) (fun _ => ?_) <;> try simp -dsimp -implicitDefEqProofs only [go_sem, ↓reduceIte, Nat.reduceEqDiff, Nat.reduceLT, Nat.reduceAdd, Nat.reduceMul, Nat.reduceLeDiff, Nat.le_refl, Int.natCast_zero, Int.toNat_natCast, Int.reduceToNat, *]) | (with_reducible refine And.intro ?_ ?_) | (refine Later.draw mixed rfl ?_; try simp -dsimp -implicitDefEqProofs only [go_sem, ↓reduceIte, Nat.reduceEqDiff, Nat.reduceLT, Nat.reduceAdd, Nat.reduceMul, Nat.reduceLeDiff, Nat.le_refl, Int.natCast_zero, Int.toNat_natCast, Int.reduceToNat, *])))
      all_goals try (first | omega | (exact rfl) | (rw [← hcu, take_map_len]; done) | (simp; done) | (simp [hcu]; done))
      refine sCallT_inl 720000 13 [.tmp 2] Try.func108 rfl rfl rfl rfl rfl (by exact of_decide_eq_true rfl) ?_
      simp -dsimp -implicitDefEqProofs only [go_sem, ↓reduceIte, Nat.reduceEqDiff, Nat.reduceLT, Nat.reduceAdd, Nat.reduceMul, Nat.reduceLeDiff, Nat.le_refl, Int.natCast_zero, Int.toNat_natCast, Int.reduceToNat]
      (repeat' (first | (refine Br.intro (fun _ => ?_) (fun _ => ?_) <;> try simp -dsimp -implicitDefEqProofs only [go_sem, ↓reduceIte, Nat.reduceEqDiff, Nat.reduceLT, Nat.reduceAdd, Nat.reduceMul, Nat.reduceLeDiff, Nat.le_refl, Int.natCast_zero, Int.toNat_natCast, Int.reduceToNat, *]) | (with_reducible refine And.intro ?_ ?_) | (refine Later.draw mixed rfl ?_; try simp -dsimp -implicitDefEqProofs only [go_sem, ↓reduceIte, Nat.reduceEqDiff, Nat.reduceLT, Nat.reduceAdd, Nat.reduceMul, Nat.reduceLeDiff, Nat.le_refl, Int.natCast_zero, Int.toNat_natCast, Int.reduceToNat, *]) | (rw [← List.map_take]; refine sCallX_one (c_rowsOf (o.take R.n) (by simp; omega)) ?_; try simp -dsimp -implicitDefEqProofs only [go_sem, ↓reduceIte, Nat.reduceEqDiff, Nat.reduceLT, Nat.reduceAdd, Nat.reduceMul, Nat.reduceLeDiff, Nat.le_refl, Int.natCast_zero, Int.toNat_natCast, Int.reduceToNat, *])))
      all_goals first
        | omega
        | (exact rfl)
        | (refine ⟨?_, ?_⟩ <;> omega)
        | (rw [← hcu, take_map_len]; done)
        | (simp; done)
        | (simp_all; done)
        | trace_state
    · intro p
      simp -dsimp -implicitDefEqProofs only [go_sem, ↓reduceIte, Nat.reduceEqDiff, Nat.reduceLT, Nat.reduceAdd, Nat.reduceMul, Nat.reduceLeDiff, Nat.le_refl, Int.natCast_zero, Int.toNat_natCast, Int.reduceToNat]
      refine sCallT_inl 710000 13 [.tmp 2] Try.func107 rfl rfl rfl rfl rfl (by exact of_decide_eq_true rfl) ?_
      simp -dsimp -implicitDefEqProofs only [go_sem, ↓reduceIte, Nat.reduceEqDiff, Nat.reduceLT, Nat.reduceAdd, Nat.reduceMul, Nat.reduceLeDiff, Nat.le_refl, Int.natCast_zero, Int.toNat_natCast, Int.reduceToNat, hd]
      (repeat' (first | (refine Br.intro (fun _ => ?_) (fun _ => ?_) <;> try simp -dsimp -implicitDefEqProofs only [go_sem, ↓reduceIte, Nat.reduceEqDiff, Nat.reduceLT, Nat.reduceAdd, Nat.reduceMul, Nat.reduceLeDiff, Nat.le_refl, Int.natCast_zero, Int.toNat_natCast, Int.reduceToNat, *]) | (with_reducible refine And.intro ?_ ?_) | (refine Later.draw mixed rfl ?_; try simp -dsimp -implicitDefEqProofs only [go_sem, ↓reduceIte, Nat.reduceEqDiff, Nat.reduceLT, Nat.reduceAdd, Nat.reduceMul, Nat.reduceLeDiff, Nat.le_refl, Int.natCast_zero, Int.toNat_natCast, Int.reduceToNat, *])))
      all_goals try (first | omega | (exact rfl) | (rw [← hcu, take_map_len]; done) | (simp; done) | (simp [hcu]; done))
      refine sCallT_inl 720000 13 [.tmp 2] Try.func108 rfl rfl rfl rfl rfl (by exact of_decide_eq_true rfl) ?_
      simp -dsimp -implicitDefEqProofs only [go_sem, ↓reduceIte, Nat.reduceEqDiff, Nat.reduceLT, Nat.reduceAdd, Nat.reduceMul, Nat.reduceLeDiff, Nat.le_refl, Int.natCast_zero, Int.toNat_natCast, Int.reduceToNat]
      (repeat' (first | (refine Br.intro (fun _ => ?_) (fun _ => ?_) <;> try simp -dsimp -implicitDefEqProofs only [go_sem, ↓reduceIte, Nat.reduceEqDiff, Nat.reduceLT, Nat.reduceAdd, Nat.reduceMul, Nat.reduceLeDiff, Nat.le_refl, Int.natCast_zero, Int.toNat_natCast, Int.reduceToNat, *]) | (with_reducible refine And.intro ?_ ?_) | (refine Later.draw mixed rfl ?_; try simp -dsimp -implicitDefEqProofs only [go_sem, ↓reduceIte, Nat.reduceEqDiff, Nat.reduceLT, Nat.reduceAdd, Nat.reduceMul, Nat.reduceLeDiff, Nat.le_refl, Int.natCast_zero, Int.toNat_natCast, Int.reduceToNat, *]) | (rw [← List.map_take]; refine sCallX_one (c_rowsOf (o.take R.n) (by simp; omega)) ?_; try simp -dsimp -implicitDefEqProofs only [go_sem, ↓reduceIte, Nat.reduceEqDiff, Nat.reduceLT, Nat.reduceAdd, Nat.reduceMul, Nat.reduceLeDiff, Nat.le_refl, Int.natCast_zero, Int.toNat_natCast, Int.reduceToNat, *])))
      all_goals first
        | omega
        | (exact rfl)
        | (refine ⟨?_, ?_⟩ <;> omega)
        | (rw [← hcu, take_map_len]; done)
        | (simp; done)
        | (simp_all; done)
        | trace_state
  · have hd : ((R.n : Int) == o.length) = true := by simp; omega
    rw [if_neg (by omega)] at hF
    rw [hF]
    clear hF
    clear hb hb1 k1 k2 k3 pk hp
    simp -dsimp -implicitDefEqProofs only [go_sem, ↓reduceIte, Nat.reduceEqDiff, Nat.reduceLT, Nat.reduceAdd, Nat.reduceMul, Nat.reduceLeDiff, Nat.le_refl, Int.natCast_zero, Int.toNat_natCast, Int.reduceToNat]
    repeat' first
      | (refine Br.intro (fun _ => ?_) (fun _ => ?_) <;> try simp -dsimp -implicitDefEqProofs only [go_sem, ↓reduceIte, Nat.reduceEqDiff, Nat.reduceLT, Nat.reduceAdd, Nat.reduceMul, Nat.reduceLeDiff, Nat.le_refl, Int.natCast_zero, Int.toNat_natCast, Int.reduceToNat, *])
      | (with_reducible refine And.intro ?_ ?_)
      | (refine sCallT_one (hcode) ?_; try simp -dsimp -implicitDefEqProofs only [go_sem, ↓reduceIte, Nat.reduceEqDiff, Nat.reduceLT, Nat.reduceAdd, Nat.reduceMul, Nat.reduceLeDiff, Nat.le_refl, Int.natCast_zero, Int.toNat_natCast, Int.reduceToNat, *])
    all_goals try (first | omega | (simp; done))
    refine sCallT_inl 700000 35 [.tmp 6, .tmp 7] Try.func106 rfl rfl rfl rfl rfl (by exact of_decide_eq_true rfl) ⟨?_, ?_⟩
    · simp -dsimp -implicitDefEqProofs only [go_sem, ↓reduceIte, Nat.reduceEqDiff, Nat.reduceLT, Nat.reduceAdd, Nat.reduceMul, Nat.reduceLeDiff, Nat.le_refl, Int.natCast_zero, Int.toNat_natCast, Int.reduceToNat]
    simp -dsimp -implicitDefEqProofs only [lowP_nil, lowP_cons, inF_nil, inF_cons, rnsM_nil, rnsM_cons, rnsL_nil, rnsL_cons, rnsA_nil, rnsA_cons, rl_eq, rnA_ref, rnA_ptr, rnA_agg, rnA_arr, rnA_val, rnA_e0, rnL_nil, rnL_cons, rnB_box, rnB_row, rnB_gone, rnM_nil, rnM_cons, Nat.reduceLT, decide_true, decide_false, Bool.true_and, Bool.not_false, Bool.not_true, Bool.and_false, Nat.reduceBEq, Bool.or_false, beq_self_eq_true, Bool.true_or, ↓reduceIte, Nat.reduceEqDiff, Nat.reduceAdd, Bool.and_true]
    refine hvc _ ?_ ?_ _ rfl
    · simp -dsimp -implicitDefEqProofs only [go_sem, ↓reduceIte, Nat.reduceEqDiff, Nat.reduceLT, Nat.reduceAdd, Nat.reduceMul, Nat.reduceLeDiff, Nat.le_refl, Int.natCast_zero, Int.toNat_natCast, Int.reduceToNat]
      refine sCallT_inl 710000 13 [.tmp 2] Try.func107 rfl rfl rfl rfl rfl (by exact of_decide_eq_true rfl) ?_
      simp -dsimp -implicitDefEqProofs only [go_sem, ↓reduceIte, Nat.reduceEqDiff, Nat.reduceLT, Nat.reduceAdd, Nat.reduceMul, Nat.reduceLeDiff, Nat.le_refl, Int.natCast_zero, Int.toNat_natCast, Int.reduceToNat, hd]
      (repeat' (first | (refine Br.intro (fun _ => ?_) (fun _ => ?_) <;> try simp -dsimp -implicitDefEqProofs only [go_sem, ↓reduceIte, Nat.reduceEqDiff, Nat.reduceLT, Nat.reduceAdd, Nat.reduceMul, Nat.reduceLeDiff, Nat.le_refl, Int.natCast_zero, Int.toNat_natCast, Int.reduceToNat, *]) | (with_reducible refine And.intro ?_ ?_) | (refine Later.draw mixed rfl ?_; try simp -dsimp -implicitDefEqProofs only [go_sem, ↓reduceIte, Nat.reduceEqDiff, Nat.reduceLT, Nat.reduceAdd, Nat.reduceMul, Nat.reduceLeDiff, Nat.le_refl, Int.natCast_zero, Int.toNat_natCast, Int.reduceToNat, *])))
      all_goals try (first | omega | (exact rfl) | (rw [← hcu, take_map_len]; done) | (simp; done) | (simp [hcu]; done))
      refine sCallT_inl 720000 13 [.tmp 2] Try.func108 rfl rfl rfl rfl rfl (by exact of_decide_eq_true rfl) ?_
      simp -dsimp -implicitDefEqProofs only [go_sem, ↓reduceIte, Nat.reduceEqDiff, Nat.reduceLT, Nat.reduceAdd, Nat.reduceMul, Nat.reduceLeDiff, Nat.le_refl, Int.natCast_zero, Int.toNat_natCast, Int.reduceToNat]
      (repeat' (first | (refine Br.intro (fun _ => ?_) (fun _ => ?_) <;> try simp -dsimp -implicitDefEqProofs only [go_sem, ↓reduceIte, Nat.reduceEqDiff, Nat.reduceLT, Nat.reduceAdd, Nat.reduceMul, Nat.reduceLeDiff, Nat.le_refl, Int.natCast_zero, Int.toNat_natCast, Int.reduceToNat, *]) | (with_reducible refine And.intro ?_ ?_) | (refine Later.draw mixed rfl ?_; try simp -dsimp -implicitDefEqProofs only [go_sem, ↓reduceIte, Nat.reduceEqDiff, Nat.reduceLT, Nat.reduceAdd, Nat.reduceMul, Nat.reduceLeDiff, Nat.le_refl, Int.natCast_zero, Int.toNat_natCast, Int.reduceToNat, *]) | (rw [← List.map_take]; refine sCallX_one (c_rowsOf (o.take R.n) (by simp; omega)) ?_; try simp -dsimp -implicitDefEqProofs only [go_sem, ↓reduceIte, Nat.reduceEqDiff, Nat.reduceLT, Nat.reduceAdd, Nat.reduceMul, Nat.reduceLeDiff, Nat.le_refl, Int.natCast_zero, Int.toNat_natCast, Int.reduceToNat, *])))
      all_goals first
        | omega
        | (exact rfl)
        | (refine ⟨?_, ?_⟩ <;> omega)
        | (rw [← hcu, take_map_len]; done)
        | (simp; done)
        | (simp_all; done)
        | trace_state
    · intro p
      simp -dsimp -implicitDefEqProofs only [go_sem, ↓reduceIte, Nat.reduceEqDiff, Nat.reduceLT, Nat.reduceAdd, Nat.reduceMul, Nat.reduceLeDiff, Nat.le_refl, Int.natCast_zero, Int.toNat_natCast, Int.reduceToNat]
      refine sCallT_inl 710000 13 [.tmp 2] Try.func107 rfl rfl rfl rfl rfl (by exact of_decide_eq_true rfl) ?_
      simp -dsimp -implicitDefEqProofs only [go_sem, ↓reduceIte, Nat.reduceEqDiff, Nat.reduceLT, Nat.reduceAdd, Nat.reduceMul, Nat.reduceLeDiff, Nat.le_refl, Int.natCast_zero, Int.toNat_natCast, Int.reduceToNat, hd]
      (repeat' (first | (refine Br.intro (fun _ => ?_) (fun _ => ?_) <;> try simp -dsimp -implicitDefEqProofs only [go_sem, ↓reduceIte, Nat.reduceEqDiff, Nat.reduceLT, Nat.reduceAdd, Nat.reduceMul, Nat.reduceLeDiff, Nat.le_refl, Int.natCast_zero, Int.toNat_natCast, Int.reduceToNat, *]) | (with_reducible refine And.intro ?_ ?_) | (refine Later.draw mixed rfl ?_; try simp -dsimp -implicitDefEqProofs only [go_sem, ↓reduceIte, Nat.reduceEqDiff, Nat.reduceLT, Nat.reduceAdd, Nat.reduceMul, Nat.reduceLeDiff, Nat.le_refl, Int.natCast_zero, Int.toNat_natCast, Int.reduceToNat, *])))
      all_goals try (first | omega | (exact rfl) | (rw [← hcu, take_map_len]; done) | (simp; done) | (simp [hcu]; done))
      refine sCallT_inl 720000 13 [.tmp 2] Try.func108 rfl rfl rfl rfl rfl (by exact of_decide_eq_true rfl) ?_
      simp -dsimp -implicitDefEqProofs only [go_sem, ↓reduceIte, Nat.reduceEqDiff, Nat.reduceLT, Nat.reduceAdd, Nat.reduceMul, Nat.reduceLeDiff, Nat.le_refl, Int.natCast_zero, Int.toNat_natCast, Int.reduceToNat]
      (repeat' (first | (refine Br.intro (fun _ => ?_) (fun _ => ?_) <;> try simp -dsimp -implicitDefEqProofs only [go_sem, ↓reduceIte, Nat.reduceEqDiff, Nat.reduceLT, Nat.reduceAdd, Nat.reduceMul, Nat.reduceLeDiff, Nat.le_refl, Int.natCast_zero, Int.toNat_natCast, Int.reduceToNat, *]) | (with_reducible refine And.intro ?_ ?_) | (refine Later.draw mixed rfl ?_; try simp -dsimp -implicitDefEqProofs only [go_sem, ↓reduceIte, Nat.reduceEqDiff, Nat.reduceLT, Nat.reduceAdd, Nat.reduceMul, Nat.reduceLeDiff, Nat.le_refl, Int.natCast_zero, Int.toNat_natCast, Int.reduceToNat, *]) | (rw [← List.map_take]; refine sCallX_one (c_rowsOf (o.take R.n) (by simp; omega)) ?_; try simp -dsimp -implicitDefEqProofs only [go_sem, ↓reduceIte, Nat.reduceEqDiff, Nat.reduceLT, Nat.reduceAdd, Nat.reduceMul, Nat.reduceLeDiff, Nat.le_refl, Int.natCast_zero, Int.toNat_natCast, Int.reduceToNat, *])))
      all_goals first
        | omega
        | (exact rfl)
        | (refine ⟨?_, ?_⟩ <;> omega)
        | (rw [← hcu, take_map_len]; done)
        | (simp; done)
        | (simp_all; done)
        | trace_state

end Go.Vc


/-
  The contracts of the laws on picking that are drawn.
-/
set_option linter.unusedVariables false
set_option linter.unusedSimpArgs false
set_option linter.unnecessarySimpa false
namespace Go.Vc
open Go.Proofs
set_option maxRecDepth 100000
theorem fk_Pick : flatK Try.prog 75 = some [.int .i64, .int .i64] := by kernel_rfl
attribute [go_sem] fk_Pick
theorem beqSelfI (x : Int) : (x == x) = true := by simp
theorem c_likePicksE (xs : List PkM) (h : xs.length ≤ 9223372036854775807) : Fn Try.prog 60 [ePs xs, ePs xs] true (· = eB true) := by
  refine Fn.of_vcN 26 [.tmp 4] Try.func60 rfl rfl rfl rfl rfl (of_decide_eq_true rfl) ?_
  simp -dsimp -implicitDefEqProofs only [go_sem, ↓reduceIte, Nat.reduceEqDiff, Nat.reduceLT, Nat.reduceAdd, Nat.reduceMul, Nat.reduceLeDiff, Nat.le_refl, Int.natCast_zero, Int.toNat_natCast, Int.reduceToNat]
  refine Later.up [0, 1] [13] [] xs.length (fun _ => True) (fun i => [(5, eI i)]) (fun _ => []) trivial ?_ rfl (fun i hi _ => ?_) (fun _ => ?_)
  · simp -dsimp -implicitDefEqProofs only [go_sem, ↓reduceIte, Nat.reduceEqDiff, Nat.reduceLT, Nat.reduceAdd, Nat.reduceMul, Nat.reduceLeDiff, Nat.le_refl, Int.natCast_zero, Int.toNat_natCast, Int.reduceToNat]
  · have gx := get_some hi
    generalize xs[i] = x at *
    simp -dsimp -implicitDefEqProofs only [pick_nil, pick_cons, look_nil, look_cons, dropB_nil, dropB_cons, inD_nil, inD_cons, inE_nil, inE_cons, or_t_l, or_f_l, Nat.reduceBEq, Nat.reduceDiv, Nat.reduceAdd, beq_self_eq_true, Bool.false_eq_true, Bool.or_false, ↓reduceIte, Nat.reduceEqDiff, List.cons_append, List.nil_append]
    simp -dsimp -implicitDefEqProofs only [go_sem, ↓reduceIte, Nat.reduceEqDiff, Nat.reduceLT, Nat.reduceAdd, Nat.reduceMul, Nat.reduceLeDiff, Nat.le_refl, Int.natCast_zero, Int.toNat_natCast, Int.reduceToNat, lt_len hi]
    refine Later.draw mixed rfl ?_
    simp -dsimp -implicitDefEqProofs only [go_sem, ↓reduceIte, Nat.reduceEqDiff, Nat.reduceLT, Nat.reduceAdd, Nat.reduceMul, Nat.reduceLeDiff, Nat.le_refl, Int.natCast_zero, Int.toNat_natCast, Int.reduceToNat, gx, beqSelfI]
    ((repeat' (with_reducible refine And.intro ?_ ?_)); all_goals try (first | omega | (refine ⟨?_, ?_⟩ <;> omega) | (exact rfl)))
  · simp -dsimp -implicitDefEqProofs only [pick_nil, pick_cons, look_nil, look_cons, dropB_nil, dropB_cons, inD_nil, inD_cons, inE_nil, inE_cons, or_t_l, or_f_l, Nat.reduceBEq, Nat.reduceDiv, Nat.reduceAdd, beq_self_eq_true, Bool.false_eq_true, Bool.or_false, ↓reduceIte, Nat.reduceEqDiff, List.cons_append, List.nil_append]
    simp -dsimp -implicitDefEqProofs only [go_sem, ↓reduceIte, Nat.reduceEqDiff, Nat.reduceLT, Nat.reduceAdd, Nat.reduceMul, Nat.reduceLeDiff, Nat.le_refl, Int.natCast_zero, Int.toNat_natCast, Int.reduceToNat, nlt_len]
set_option maxHeartbeats 8000000 in
theorem c_FnFewest (bs : List UInt8) (h : bs.length ≤ 9223372036854775807) : Fn Try.prog 7 [eYs bs] true (· = eB true) := by
  refine Fn.of_vcN 228 [.tmp 2] Try.func7 rfl rfl rfl rfl rfl (of_decide_eq_true rfl) ?_
  simp -dsimp -implicitDefEqProofs only [go_sem, ↓reduceIte, Nat.reduceEqDiff, Nat.reduceLT, Nat.reduceAdd, Nat.reduceMul, Nat.reduceLeDiff, Nat.le_refl, Int.natCast_zero, Int.toNat_natCast, Int.reduceToNat]
  refine sCallT_one (c_big bs h) ?_
  rcases hb : decide ((bs.length : Int) > 4096) with _ | _
  rotate_left
  · simp -dsimp -implicitDefEqProofs only [go_sem, ↓reduceIte, Nat.reduceEqDiff, Nat.reduceLT, Nat.reduceAdd, Nat.reduceMul, Nat.reduceLeDiff, Nat.le_refl, Int.natCast_zero, Int.toNat_natCast, Int.reduceToNat, hb]
  have hl : bs.length ≤ 4096 := by have := of_decide_eq_false hb; omega
  have d1 := c_DrawFewestPicks bs hl
  have d2 := c_DrawPickOnce bs hl
  have d3 := c_DrawBindingChamber bs hl
  obtain ⟨k1, k2, k3, k4⟩ := lkD_facts (bs := bs) (src0_ok bs)
  generalize hp : lkD bs (src0 bs) = p at *
  obtain ⟨m, l, s1⟩ := p
  dsimp only at *
  obtain ⟨o1, o2, o3⟩ := ordD_ok (bs := bs) k1 k4
  generalize ordD bs m s1 = o at *
  obtain ⟨o, s2⟩ := o
  dsimp only at *
  have hsl := bindD_len (bs := bs) (o := o) (s := s2) o2
  generalize bindD bs o s2 = st at *
  generalize (pickD bs m l o st.length (src0 bs)).1 = pk0 at *
  have h1 : l.length ≤ 1048576 := by omega
  have h2 : ∀ x ∈ l, x.length ≤ 1048576 := fun x hx => by have := k3 x hx; omega
  have h3 : o.length ≤ 1048576 := by omega
  have h4 : st.length ≤ 1048576 := by omega
  have q1 := c_iFewest m l o h1 h2 h3
  have q2 := c_sFewest m l o h1 h2 h3
  have q3 := c_iBlind m l o h1 h2 h3
  have q4 := c_sBlind m l o h1 h2 h3
  have q5 := c_iPickOnce m l o st pk0 h1 h2 h3 h4
  have q6 := c_sPickOnce m l o st pk0 h1 h2 h3 h4
  have q7 := c_iBinding m l o st h1 h2 h3 h4
  have q8 := c_sBinding m l o st h1 h2 h3 h4
  have hpl : (pickOnce m l o st pk0).1.length ≤ 8 := by
    unfold pickOnce
    split
    · refine Nat.le_trans (rowsL_len _) ?_
      simp; omega
    · simp
  have r2 := c_likeIntsE (pickOnce m l o st pk0).1 (by omega)
  generalize pickOnce m l o st pk0 = w at *
  generalize binding m l o st = bi at *
  by_cases hc : pkCode m l o [] = 0
  rotate_left
  · have e1 : fewest m l o = ([], pkCode m l o []) := by rw [fewest, if_neg hc]
    have e2 : blind m l o = (0, pkCode m l o []) := by rw [blind, if_neg hc]
    have hne : (pkCode m l o [] != 0) = true := by simpa using hc
    have r1 := c_likePicksE [] (by simp)
    rw [e1] at q1 q2
    rw [e2] at q3 q4
    dsimp only at *
    generalize pkCode m l o [] = z at *
    simp -dsimp -implicitDefEqProofs only [go_sem, ↓reduceIte, Nat.reduceEqDiff, Nat.reduceLT, Nat.reduceAdd, Nat.reduceMul, Nat.reduceLeDiff, Nat.le_refl, Int.natCast_zero, Int.toNat_natCast, Int.reduceToNat, hb]
    (refine sCallS_one (d1) (by simp [noLabs, labs, isClo]) ?_; simp -dsimp -implicitDefEqProofs only [go_sem, ↓reduceIte, Nat.reduceEqDiff, Nat.reduceLT, Nat.reduceAdd, Nat.reduceMul, Nat.reduceLeDiff, Nat.le_refl, Int.natCast_zero, Int.toNat_natCast, Int.reduceToNat])
    (refine sCallT_one (q1) ?_; simp -dsimp -implicitDefEqProofs only [go_sem, ↓reduceIte, Nat.reduceEqDiff, Nat.reduceLT, Nat.reduceAdd, Nat.reduceMul, Nat.reduceLeDiff, Nat.le_refl, Int.natCast_zero, Int.toNat_natCast, Int.reduceToNat])
    (refine sCallT_one (q2) ?_; simp -dsimp -implicitDefEqProofs only [go_sem, ↓reduceIte, Nat.reduceEqDiff, Nat.reduceLT, Nat.reduceAdd, Nat.reduceMul, Nat.reduceLeDiff, Nat.le_refl, Int.natCast_zero, Int.toNat_natCast, Int.reduceToNat])
    (refine sCallT_one (q3) ?_; simp -dsimp -implicitDefEqProofs only [go_sem, ↓reduceIte, Nat.reduceEqDiff, Nat.reduceLT, Nat.reduceAdd, Nat.reduceMul, Nat.reduceLeDiff, Nat.le_refl, Int.natCast_zero, Int.toNat_natCast, Int.reduceToNat])
    (refine sCallT_one (q4) ?_; simp -dsimp -implicitDefEqProofs only [go_sem, ↓reduceIte, Nat.reduceEqDiff, Nat.reduceLT, Nat.reduceAdd, Nat.reduceMul, Nat.reduceLeDiff, Nat.le_refl, Int.natCast_zero, Int.toNat_natCast, Int.reduceToNat])
    (refine sCallS_one (d2) (by simp [noLabs, labs, isClo]) ?_; simp -dsimp -implicitDefEqProofs only [go_sem, ↓reduceIte, Nat.reduceEqDiff, Nat.reduceLT, Nat.reduceAdd, Nat.reduceMul, Nat.reduceLeDiff, Nat.le_refl, Int.natCast_zero, Int.toNat_natCast, Int.reduceToNat])
    (refine sCallT_one (q5) ?_; simp -dsimp -implicitDefEqProofs only [go_sem, ↓reduceIte, Nat.reduceEqDiff, Nat.reduceLT, Nat.reduceAdd, Nat.reduceMul, Nat.reduceLeDiff, Nat.le_refl, Int.natCast_zero, Int.toNat_natCast, Int.reduceToNat])
    (refine sCallT_one (q6) ?_; simp -dsimp -implicitDefEqProofs only [go_sem, ↓reduceIte, Nat.reduceEqDiff, Nat.reduceLT, Nat.reduceAdd, Nat.reduceMul, Nat.reduceLeDiff, Nat.le_refl, Int.natCast_zero, Int.toNat_natCast, Int.reduceToNat])
    (refine sCallS_one (d3) (by simp [noLabs, labs, isClo]) ?_; simp -dsimp -implicitDefEqProofs only [go_sem, ↓reduceIte, Nat.reduceEqDiff, Nat.reduceLT, Nat.reduceAdd, Nat.reduceMul, Nat.reduceLeDiff, Nat.le_refl, Int.natCast_zero, Int.toNat_natCast, Int.reduceToNat])
    (refine sCallT_one (q7) ?_; simp -dsimp -implicitDefEqProofs only [go_sem, ↓reduceIte, Nat.reduceEqDiff, Nat.reduceLT, Nat.reduceAdd, Nat.reduceMul, Nat.reduceLeDiff, Nat.le_refl, Int.natCast_zero, Int.toNat_natCast, Int.reduceToNat])
    (refine sCallT_one (q8) ?_; simp -dsimp -implicitDefEqProofs only [go_sem, ↓reduceIte, Nat.reduceEqDiff, Nat.reduceLT, Nat.reduceAdd, Nat.reduceMul, Nat.reduceLeDiff, Nat.le_refl, Int.natCast_zero, Int.toNat_natCast, Int.reduceToNat])
    (refine sCallT_one (r1) ?_; simp -dsimp -implicitDefEqProofs only [go_sem, ↓reduceIte, Nat.reduceEqDiff, Nat.reduceLT, Nat.reduceAdd, Nat.reduceMul, Nat.reduceLeDiff, Nat.le_refl, Int.natCast_zero, Int.toNat_natCast, Int.reduceToNat])
    (refine sCallT_one (r2) ?_; simp -dsimp -implicitDefEqProofs only [go_sem, ↓reduceIte, Nat.reduceEqDiff, Nat.reduceLT, Nat.reduceAdd, Nat.reduceMul, Nat.reduceLeDiff, Nat.le_refl, Int.natCast_zero, Int.toNat_natCast, Int.reduceToNat])
    simp -dsimp -implicitDefEqProofs only [go_sem, ↓reduceIte, Nat.reduceEqDiff, Nat.reduceLT, Nat.reduceAdd, Nat.reduceMul, Nat.reduceLeDiff, Nat.le_refl, Int.natCast_zero, Int.toNat_natCast, Int.reduceToNat, hne]
  obtain ⟨hk, ho, _⟩ := pkCode_zero hc
  have ph := Pk.of hk ho
  have n6 := ph.n6
  have hch := ph.ch
  have e1 : fewest m l o = (fewestL l o, 0) := by rw [fewest, if_pos hc]
  have e2 : blind m l o = (blindN m l o o.length, 0) := by rw [blind, if_pos hc]
  have e3 := few_pickAll hc ph
  have hfl := fewestL_len l o
  have q9 := c_iPickAll m l o (fewestL l o) h1 h2 h3 (by omega)
  have r1 := c_likePicksE (fewestL l o) (by omega)
  have hbl := blind_ge ph o.length (Nat.le_refl _)
  rw [e1] at q1 q2
  rw [e2] at q3 q4
  rw [e3] at q9
  dsimp only at *
  have hrl : (rowsL o).length = o.length := rowsL_nodup ph.nd
  have r3 := c_likeIntsE (rowsL o) (by omega)
  have hge : decide (blindN m l o o.length ≥ (o.length : Int)) = true := decide_eq_true hbl
  generalize blindN m l o o.length = bn at *
  have hon : ∀ i (hi : i < o.length), Fn Try.prog 55 [eMk m, eLk l, eIs o, eIs (rowsL (o.take i)), eP ⟨o[i], (cset l o[i]).getD 0 0⟩] true (· = .tup [eIs (rowsL (o.take (i + 1))), eI 0]) := fun i hi => by
    have := c_iPickOnce m l o (rowsL (o.take i)) ⟨o[i], (cset l o[i]).getD 0 0⟩ h1 h2 h3 (by have := rowsL_len (o.take i); simp at this; omega)
    rw [few_once hk ho ph hi] at this
    exact this
  have hrn : ∀ i, i ≤ o.length → (rowsL (o.take i)).length = i := fun i hi => (set_rows ph hi).2
  have hr0 : rowsL (o.take 0) = [] := List.eq_nil_of_length_eq_zero (hrn 0 (Nat.zero_le _))
  have f1 : ((o.length : Int) == m.chambers) = true := by simp; omega
  simp -dsimp -implicitDefEqProofs only [go_sem, ↓reduceIte, Nat.reduceEqDiff, Nat.reduceLT, Nat.reduceAdd, Nat.reduceMul, Nat.reduceLeDiff, Nat.le_refl, Int.natCast_zero, Int.toNat_natCast, Int.reduceToNat, hb]
  (refine sCallS_one (d1) (by simp [noLabs, labs, isClo]) ?_; simp -dsimp -implicitDefEqProofs only [go_sem, ↓reduceIte, Nat.reduceEqDiff, Nat.reduceLT, Nat.reduceAdd, Nat.reduceMul, Nat.reduceLeDiff, Nat.le_refl, Int.natCast_zero, Int.toNat_natCast, Int.reduceToNat])
  (refine sCallT_one (q1) ?_; simp -dsimp -implicitDefEqProofs only [go_sem, ↓reduceIte, Nat.reduceEqDiff, Nat.reduceLT, Nat.reduceAdd, Nat.reduceMul, Nat.reduceLeDiff, Nat.le_refl, Int.natCast_zero, Int.toNat_natCast, Int.reduceToNat])
  (refine sCallT_one (q2) ?_; simp -dsimp -implicitDefEqProofs only [go_sem, ↓reduceIte, Nat.reduceEqDiff, Nat.reduceLT, Nat.reduceAdd, Nat.reduceMul, Nat.reduceLeDiff, Nat.le_refl, Int.natCast_zero, Int.toNat_natCast, Int.reduceToNat])
  (refine sCallT_one (q3) ?_; simp -dsimp -implicitDefEqProofs only [go_sem, ↓reduceIte, Nat.reduceEqDiff, Nat.reduceLT, Nat.reduceAdd, Nat.reduceMul, Nat.reduceLeDiff, Nat.le_refl, Int.natCast_zero, Int.toNat_natCast, Int.reduceToNat])
  (refine sCallT_one (q4) ?_; simp -dsimp -implicitDefEqProofs only [go_sem, ↓reduceIte, Nat.reduceEqDiff, Nat.reduceLT, Nat.reduceAdd, Nat.reduceMul, Nat.reduceLeDiff, Nat.le_refl, Int.natCast_zero, Int.toNat_natCast, Int.reduceToNat])
  (refine sCallS_one (d2) (by simp [noLabs, labs, isClo]) ?_; simp -dsimp -implicitDefEqProofs only [go_sem, ↓reduceIte, Nat.reduceEqDiff, Nat.reduceLT, Nat.reduceAdd, Nat.reduceMul, Nat.reduceLeDiff, Nat.le_refl, Int.natCast_zero, Int.toNat_natCast, Int.reduceToNat])
  (refine sCallT_one (q5) ?_; simp -dsimp -implicitDefEqProofs only [go_sem, ↓reduceIte, Nat.reduceEqDiff, Nat.reduceLT, Nat.reduceAdd, Nat.reduceMul, Nat.reduceLeDiff, Nat.le_refl, Int.natCast_zero, Int.toNat_natCast, Int.reduceToNat])
  (refine sCallT_one (q6) ?_; simp -dsimp -implicitDefEqProofs only [go_sem, ↓reduceIte, Nat.reduceEqDiff, Nat.reduceLT, Nat.reduceAdd, Nat.reduceMul, Nat.reduceLeDiff, Nat.le_refl, Int.natCast_zero, Int.toNat_natCast, Int.reduceToNat])
  (refine sCallS_one (d3) (by simp [noLabs, labs, isClo]) ?_; simp -dsimp -implicitDefEqProofs only [go_sem, ↓reduceIte, Nat.reduceEqDiff, Nat.reduceLT, Nat.reduceAdd, Nat.reduceMul, Nat.reduceLeDiff, Nat.le_refl, Int.natCast_zero, Int.toNat_natCast, Int.reduceToNat])
  (refine sCallT_one (q7) ?_; simp -dsimp -implicitDefEqProofs only [go_sem, ↓reduceIte, Nat.reduceEqDiff, Nat.reduceLT, Nat.reduceAdd, Nat.reduceMul, Nat.reduceLeDiff, Nat.le_refl, Int.natCast_zero, Int.toNat_natCast, Int.reduceToNat])
  (refine sCallT_one (q8) ?_; simp -dsimp -implicitDefEqProofs only [go_sem, ↓reduceIte, Nat.reduceEqDiff, Nat.reduceLT, Nat.reduceAdd, Nat.reduceMul, Nat.reduceLeDiff, Nat.le_refl, Int.natCast_zero, Int.toNat_natCast, Int.reduceToNat])
  (refine sCallT_one (r1) ?_; simp -dsimp -implicitDefEqProofs only [go_sem, ↓reduceIte, Nat.reduceEqDiff, Nat.reduceLT, Nat.reduceAdd, Nat.reduceMul, Nat.reduceLeDiff, Nat.le_refl, Int.natCast_zero, Int.toNat_natCast, Int.reduceToNat])
  (refine sCallT_one (r2) ?_; simp -dsimp -implicitDefEqProofs only [go_sem, ↓reduceIte, Nat.reduceEqDiff, Nat.reduceLT, Nat.reduceAdd, Nat.reduceMul, Nat.reduceLeDiff, Nat.le_refl, Int.natCast_zero, Int.toNat_natCast, Int.reduceToNat])
  (refine sCallT_one (q9) ?_; simp -dsimp -implicitDefEqProofs only [go_sem, ↓reduceIte, Nat.reduceEqDiff, Nat.reduceLT, Nat.reduceAdd, Nat.reduceMul, Nat.reduceLeDiff, Nat.le_refl, Int.natCast_zero, Int.toNat_natCast, Int.reduceToNat])
  refine Later.upR [3, 4, 5, 6, 10, 31, 32, 33] [177, 190, 197] [174] o.length (fun _ => True) (fun i => [(35, eI i), (34, .ref 174 0 0 i)]) (fun i => [(174, .row 0 ⟨1, false⟩ true ((rowsL (o.take i)).map eI))]) trivial (.here ?_) rfl (fun i hi _ => ?_) (fun _ => ?_)
  · rw [hr0]
    simp -dsimp -implicitDefEqProofs only [go_sem, ↓reduceIte, Nat.reduceEqDiff, Nat.reduceLT, Nat.reduceAdd, Nat.reduceMul, Nat.reduceLeDiff, Nat.le_refl, Int.natCast_zero, Int.toNat_natCast, Int.reduceToNat]
  · have hfi : i < (fewestL l o).length := by omega
    have gf := get_some hfi
    have ef : (fewestL l o)[i] = ⟨o[i], (cset l o[i]).getD 0 0⟩ := by simp [fewestL]
    rw [ef] at gf
    have y := hon i hi
    have a1 := hrn i (by omega)
    have a2 := hrn (i + 1) hi
    clear hon hrn hr0
    generalize rowsL (o.take i) = A at *
    generalize rowsL (o.take (i + 1)) = A' at *
    generalize (cset l o[i]).getD 0 0 = dd at *
    generalize o[i] = cc at *
    have htk : List.take i (List.map eI A) = List.map eI A := List.take_of_length_le (by simp; omega)
    have lt : decide ((i : Int) < ((fewestL l o).length : Int)) = true := decide_eq_true (by omega)
    have ne : ((A'.length : Int) != (i : Int) + 1) = false := by rw [a2]; simp
    simp -dsimp -implicitDefEqProofs only [pick_nil, pick_cons, look_nil, look_cons, dropB_nil, dropB_cons, inD_nil, inD_cons, inE_nil, inE_cons, or_t_l, or_f_l, Nat.reduceBEq, Nat.reduceDiv, Nat.reduceAdd, beq_self_eq_true, Bool.false_eq_true, Bool.or_false, ↓reduceIte, Nat.reduceEqDiff, List.cons_append, List.nil_append]
    simp -dsimp -implicitDefEqProofs only [go_sem, ↓reduceIte, Nat.reduceEqDiff, Nat.reduceLT, Nat.reduceAdd, Nat.reduceMul, Nat.reduceLeDiff, Nat.le_refl, Int.natCast_zero, Int.toNat_natCast, Int.reduceToNat, lt]
    refine Later.draw mixed rfl ?_
    simp -dsimp -implicitDefEqProofs only [go_sem, ↓reduceIte, Nat.reduceEqDiff, Nat.reduceLT, Nat.reduceAdd, Nat.reduceMul, Nat.reduceLeDiff, Nat.le_refl, Int.natCast_zero, Int.toNat_natCast, Int.reduceToNat, gf, htk]
    ((repeat' (with_reducible refine And.intro ?_ ?_)); all_goals try (first | omega | (refine ⟨?_, ?_⟩ <;> omega) | (exact rfl)))
    refine sCallX_one y ?_
    simp -dsimp -implicitDefEqProofs only [go_sem, ↓reduceIte, Nat.reduceEqDiff, Nat.reduceLT, Nat.reduceAdd, Nat.reduceMul, Nat.reduceLeDiff, Nat.le_refl, Int.natCast_zero, Int.toNat_natCast, Int.reduceToNat, zeroNe]
    ((repeat' (with_reducible refine And.intro ?_ ?_)); all_goals try (first | omega | (refine ⟨?_, ?_⟩ <;> omega) | (exact rfl)))
    simp -dsimp -implicitDefEqProofs only [go_sem, ↓reduceIte, Nat.reduceEqDiff, Nat.reduceLT, Nat.reduceAdd, Nat.reduceMul, Nat.reduceLeDiff, Nat.le_refl, Int.natCast_zero, Int.toNat_natCast, Int.reduceToNat, ne]
    ((repeat' (with_reducible refine And.intro ?_ ?_)); all_goals try (first | omega | (refine ⟨?_, ?_⟩ <;> omega) | (exact rfl)))
    refine .one 191000 174 (by decide) (by decide) ?_
    simp -dsimp -implicitDefEqProofs only [go_sem, ↓reduceIte, Nat.reduceEqDiff, Nat.reduceLT, Nat.reduceAdd, Nat.reduceMul, Nat.reduceLeDiff, Nat.le_refl, Int.natCast_zero, Int.toNat_natCast, Int.reduceToNat, a2]
    exact rfl
  · have lt : decide ((o.length : Int) < ((fewestL l o).length : Int)) = false := decide_eq_false (by omega)
    have f0 : (((rowsL o).length : Int) == m.chambers) = true := by rw [hrl]; exact f1
    have htk : List.take o.length (List.map eI (rowsL o)) = List.map eI (rowsL o) := List.take_of_length_le (by simp; omega)
    rw [List.take_length]
    simp -dsimp -implicitDefEqProofs only [pick_nil, pick_cons, look_nil, look_cons, dropB_nil, dropB_cons, inD_nil, inD_cons, inE_nil, inE_cons, or_t_l, or_f_l, Nat.reduceBEq, Nat.reduceDiv, Nat.reduceAdd, beq_self_eq_true, Bool.false_eq_true, Bool.or_false, ↓reduceIte, Nat.reduceEqDiff, List.cons_append, List.nil_append]
    simp -dsimp -implicitDefEqProofs only [go_sem, ↓reduceIte, Nat.reduceEqDiff, Nat.reduceLT, Nat.reduceAdd, Nat.reduceMul, Nat.reduceLeDiff, Nat.le_refl, Int.natCast_zero, Int.toNat_natCast, Int.reduceToNat, lt, f0, f1, htk]
    refine ⟨by omega, ?_⟩
    (refine sCallT_one (r3) ?_; simp -dsimp -implicitDefEqProofs only [go_sem, ↓reduceIte, Nat.reduceEqDiff, Nat.reduceLT, Nat.reduceAdd, Nat.reduceMul, Nat.reduceLeDiff, Nat.le_refl, Int.natCast_zero, Int.toNat_natCast, Int.reduceToNat])
    simp -dsimp -implicitDefEqProofs only [go_sem, ↓reduceIte, Nat.reduceEqDiff, Nat.reduceLT, Nat.reduceAdd, Nat.reduceMul, Nat.reduceLeDiff, Nat.le_refl, Int.natCast_zero, Int.toNat_natCast, Int.reduceToNat, hge]
end Go.Vc


