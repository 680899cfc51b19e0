/-
  Contracts: picking blindly.
-/
import Derived.Test.YtponkoaomcgohaaPick3
set_option linter.unusedVariables false
set_option linter.unusedSimpArgs false
set_option linter.unnecessarySimpa false
namespace Go.Vc
open Go.Proofs
set_option maxRecDepth 100000
def blind (m : MkM) (l : List (List Int)) (o : List Int) : Int × Int := if pkCode m l o [] = 0 then (blindN m l o o.length, 0) else (0, pkCode m l o [])
def zOf (l : List (List Int)) (o : List Int) (k : Nat) : Int := (cset l (o.getD k 0)).getD 0 0
theorem zOf_num {m : MkM} {l : List (List Int)} {o : List Int} (pk : Pk m l o) {k : Nat} (hk : k < o.length) : 0 ≤ zOf l o k ∧ zOf l o k < 8 := by
  have hio := pk.io k hk
  obtain ⟨hi, e⟩ := pk.cset hio.1 hio.2
  have hs := pk.st _ hi
  have h1 := ((rises_iff _ _).1 hs.2).1 0 hs.1
  have e0 : zOf l o k = (l[(o[k]).toNat])[0]'hs.1 := by rw [zOf, show o.getD k 0 = o[k] by simp [List.getD_eq_getElem?_getD, hk], e]; simp [List.getD_eq_getElem?_getD, hs.1]
  rw [e0]
  have := pk.d8
  omega
theorem blindAt_eq {m : MkM} {l : List (List Int)} {o : List Int} {k : Nat} (hk : k < o.length) : blindAt m l o[k] = zOf l o k * m.chambers + o[k] + 1 := by
  rw [blindAt, zOf, show o.getD k 0 = o[k] by simp [List.getD_eq_getElem?_getD, hk]]
theorem blind_ne {l : List (List Int)} {o : List Int} {k : Nat} (hk : k < o.length) {p : PkM} (h : o[k] ≠ p.chamber) : pickN l o k p = k ∧ hit l o k p = false := by
  have gD : o.getD k 0 = o[k] := by simp [List.getD_eq_getElem?_getD, hk]
  exact ⟨by rw [pickN, gD, if_pos (.inr h)], by rw [hit, gD, decide_eq_true (.inr h)]; rfl⟩
theorem blind_z {m : MkM} {l : List (List Int)} {o : List Int} (pk : Pk m l o) {k : Nat} (hk : k < o.length) : (∀ x ∈ cset l o[k], zOf l o k ≤ x) ∧ zOf l o k ∈ cset l o[k] ∧ lastOf (cset l o[k]) ∈ cset l o[k] := by
  have hio := pk.io k hk
  obtain ⟨hi, e⟩ := pk.cset hio.1 hio.2
  have hs := pk.st _ hi
  have hp := List.pairwise_iff_getElem.1 (rises_pair hs.2)
  have e0 : zOf l o k = (l[(o[k]).toNat])[0]'hs.1 := by rw [zOf, show o.getD k 0 = o[k] by simp [List.getD_eq_getElem?_getD, hk], e]; simp [List.getD_eq_getElem?_getD, hs.1]
  rw [e0, e]
  refine ⟨fun x hx => ?_, List.getElem_mem _, ?_⟩
  · obtain ⟨i, h1, rfl⟩ := List.getElem_of_mem hx
    rcases Nat.eq_zero_or_pos i with h2 | h2
    · subst h2; exact Int.le_refl _
    · have := hp 0 i hs.1 h1 h2; omega
  · rw [lastOf, List.getD_eq_getElem?_getD, List.getElem?_eq_getElem (by have := hs.1; omega)]
    exact List.getElem_mem _
theorem blind_low {m : MkM} {l : List (List Int)} {o : List Int} (pk : Pk m l o) {k : Nat} (hk : k < o.length) {p : PkM} (hd : p.depth < zOf l o k) : pickN l o k p = k ∧ hit l o k p = false := by
  by_cases h : o[k] = p.chamber
  rotate_left
  · exact blind_ne hk h
  have gD : o.getD k 0 = o[k] := by simp [List.getD_eq_getElem?_getD, hk]
  obtain ⟨z1, z2, z3⟩ := blind_z pk hk
  rw [h] at z1 z2 z3
  have hno : ¬ (k = o.length ∨ o[k] ≠ p.chamber) := fun h9 => h9.elim (fun h9 => by omega) (fun h9 => h9 h)
  have hh : has (cset l p.chamber) p.depth = false := by
    rcases hh : has (cset l p.chamber) p.depth with _ | _
    · rfl
    · have := z1 _ ((has_iff _ _).1 hh); omega
  have hl := z1 _ z3
  exact ⟨by rw [pickN, gD, if_neg hno, hh, if_neg (by decide), if_neg (by omega)], by rw [hit, gD, decide_eq_false hno, hh]; rfl⟩
theorem blind_eq {m : MkM} {l : List (List Int)} {o : List Int} (pk : Pk m l o) {k : Nat} (hk : k < o.length) {p : PkM} (h : o[k] = p.chamber) (hd : p.depth = zOf l o k) : pickN l o k p = k + 1 ∧ hit l o k p = true := by
  have gD : o.getD k 0 = o[k] := by simp [List.getD_eq_getElem?_getD, hk]
  obtain ⟨z1, z2, z3⟩ := blind_z pk hk
  rw [h] at z1 z2 z3
  have hno : ¬ (k = o.length ∨ o[k] ≠ p.chamber) := fun h9 => h9.elim (fun h9 => by omega) (fun h9 => h9 h)
  have hh : has (cset l p.chamber) p.depth = true := (has_iff _ _).2 (hd ▸ z2)
  exact ⟨by rw [pickN, gD, if_neg hno, if_pos hh], by rw [hit, gD, decide_eq_false hno, hh]; rfl⟩
theorem c_sBlind (m : MkM) (l : List (List Int)) (o : List Int) (h : l.length ≤ 1048576) (h2 : ∀ x ∈ l, x.length ≤ 1048576) (h3 : o.length ≤ 1048576) : Fn Try.prog 20 [eMk m, eLk l, eIs o] true (· = .tup [eI (blind m l o).1, eI (blind m l o).2]) := by
  refine Fn.of_vcN 52 [.tmp 6, .tmp 7] Try.func20 rfl rfl rfl rfl rfl (of_decide_eq_true rfl) ?_
  by_cases hb : pkCode m l o [] = 0
  rotate_left
  · simp -dsimp -implicitDefEqProofs only [go_sem, ↓reduceIte, Nat.reduceEqDiff, Nat.reduceLT, Nat.reduceAdd, Nat.reduceMul, Nat.reduceLeDiff, Nat.le_refl, Int.natCast_zero, Int.toNat_natCast, Int.reduceToNat]
    repeat' first
      | (refine Br.intro (fun _ => ?_) (fun _ => ?_) <;> try simp -dsimp -implicitDefEqProofs only [go_sem, ↓reduceIte, Nat.reduceEqDiff, Nat.reduceLT, Nat.reduceAdd, Nat.reduceMul, Nat.reduceLeDiff, Nat.le_refl, Int.natCast_zero, Int.toNat_natCast, Int.reduceToNat, *])
      | (with_reducible refine And.intro ?_ ?_)
      | (refine sCallT_one (c_sCode0 m l o h h2 h3) ?_; try simp -dsimp -implicitDefEqProofs only [go_sem, ↓reduceIte, Nat.reduceEqDiff, Nat.reduceLT, Nat.reduceAdd, Nat.reduceMul, Nat.reduceLeDiff, Nat.le_refl, Int.natCast_zero, Int.toNat_natCast, Int.reduceToNat, *])
    all_goals first
      | omega
      | (simp_all [blind]; done)
      | trace_state
  obtain ⟨k1, k2, k3⟩ := pkCode_zero hb
  have pk := Pk.of k1 k2
  have n6 := pk.n6
  have hch := pk.ch
  have hF : blind m l o = (blindN m l o o.length, 0) := by rw [blind, if_pos hb]
  rw [hF]
  clear hF k1 k2 k3
  simp -dsimp -implicitDefEqProofs only [go_sem, ↓reduceIte, Nat.reduceEqDiff, Nat.reduceLT, Nat.reduceAdd, Nat.reduceMul, Nat.reduceLeDiff, Nat.le_refl, Int.natCast_zero, Int.toNat_natCast, Int.reduceToNat]
  repeat' first
    | (refine Br.intro (fun _ => ?_) (fun _ => ?_) <;> try simp -dsimp -implicitDefEqProofs only [go_sem, ↓reduceIte, Nat.reduceEqDiff, Nat.reduceLT, Nat.reduceAdd, Nat.reduceMul, Nat.reduceLeDiff, Nat.le_refl, Int.natCast_zero, Int.toNat_natCast, Int.reduceToNat, *])
    | (with_reducible refine And.intro ?_ ?_)
    | (refine sCallT_one (c_sCode0 m l o h h2 h3) ?_; try simp -dsimp -implicitDefEqProofs only [go_sem, ↓reduceIte, Nat.reduceEqDiff, Nat.reduceLT, Nat.reduceAdd, Nat.reduceMul, Nat.reduceLeDiff, Nat.le_refl, Int.natCast_zero, Int.toNat_natCast, Int.reduceToNat, *])
  all_goals try (first | omega | (simp_all; done))
  clear hb
  refine Later.lp [2, 3, 4] [23, 43] [] (fun x : Nat × Nat => x.1 ≤ o.length ∧ (x.1 < o.length → (x.2 : Int) ≤ zOf l o x.1) ∧ (x.1 = o.length → x.2 = 0) ∧ x.2 ≤ 8) (fun x => [(9, eI x.1), (10, eI (blindN m l o x.1 + x.2 * m.chambers)), (11, eI x.2)]) (fun _ => [])
    (fun x => (o.length - x.1) * 9 + (8 - x.2)) (0, 0) ⟨Nat.zero_le _, fun h0 => (zOf_num pk h0).1, fun _ => rfl, by omega⟩ ?_ rfl (fun x ⟨hx1, hx2, hx3, hx8⟩ => ?_)
  · rw [blindN_zero]
    simp -dsimp -implicitDefEqProofs only [go_sem, ↓reduceIte, Nat.reduceEqDiff, Nat.reduceLT, Nat.reduceAdd, Nat.reduceMul, Nat.reduceLeDiff, Nat.le_refl, Int.natCast_zero, Int.toNat_natCast, Int.reduceToNat]
    all_goals simp
  · obtain ⟨k, d⟩ := x
    simp only at hx1 hx2 hx3 hx8
    have hbn := pk.blindN k hx1
    have hdc : 0 ≤ (d : Int) * m.chambers ∧ (d : Int) * m.chambers ≤ 8 * 6 := ⟨Int.mul_nonneg (by omega) (by omega), Int.mul_le_mul (by omega) (by omega) (by omega) (by omega)⟩
    rcases Nat.lt_or_ge k o.length with hk | hk
    rotate_left
    · have hko : k = o.length := by omega
      have hd0 := hx3 hko
      subst hko
      subst hd0
      simp -dsimp -implicitDefEqProofs only [pick_nil, pick_cons, look_nil, look_cons, dropB_nil, dropB_cons, inD_nil, inD_cons, inE_nil, inE_cons, or_t_l, or_f_l, Nat.reduceBEq, Nat.reduceDiv, Nat.reduceAdd, beq_self_eq_true, Bool.false_eq_true, Bool.or_false, ↓reduceIte, Nat.reduceEqDiff, List.cons_append, List.nil_append]
      simp -dsimp -implicitDefEqProofs only [go_sem, ↓reduceIte, Nat.reduceEqDiff, Nat.reduceLT, Nat.reduceAdd, Nat.reduceMul, Nat.reduceLeDiff, Nat.le_refl, Int.natCast_zero, Int.toNat_natCast, Int.reduceToNat, nlt_len]
      repeat' first
        | (refine Br.intro (fun _ => ?_) (fun _ => ?_) <;> try simp -dsimp -implicitDefEqProofs only [go_sem, ↓reduceIte, Nat.reduceEqDiff, Nat.reduceLT, Nat.reduceAdd, Nat.reduceMul, Nat.reduceLeDiff, Nat.le_refl, Int.natCast_zero, Int.toNat_natCast, Int.reduceToNat, *])
        | (with_reducible refine And.intro ?_ ?_)
      all_goals first
        | omega
        | rfl
        | (simp; done)
        | (simp_all; done)
        | trace_state
    have hz := hx2 hk
    have hzn := zOf_num pk hk
    have li := lt_len hk
    have hio := pk.io k hk
    clear hx2 hx3
    rcases Int.lt_or_eq_of_le hz with hlt | heq
    · simp -dsimp -implicitDefEqProofs only [pick_nil, pick_cons, look_nil, look_cons, dropB_nil, dropB_cons, inD_nil, inD_cons, inE_nil, inE_cons, or_t_l, or_f_l, Nat.reduceBEq, Nat.reduceDiv, Nat.reduceAdd, beq_self_eq_true, Bool.false_eq_true, Bool.or_false, ↓reduceIte, Nat.reduceEqDiff, List.cons_append, List.nil_append]
      simp -dsimp -implicitDefEqProofs only [go_sem, ↓reduceIte, Nat.reduceEqDiff, Nat.reduceLT, Nat.reduceAdd, Nat.reduceMul, Nat.reduceLeDiff, Nat.le_refl, Int.natCast_zero, Int.toNat_natCast, Int.reduceToNat, li]
      refine Later.up [2, 3, 4, 11, 12] [43] [] o.length (fun _ => True) (fun c => [(9, eI k), (10, eI (blindN m l o k + d * m.chambers + c)), (13, eI c)]) (fun _ => []) trivial ?_ rfl (fun c hc _ => ?_) (fun _ => ?_)
      · simp -dsimp -implicitDefEqProofs only [go_sem, ↓reduceIte, Nat.reduceEqDiff, Nat.reduceLT, Nat.reduceAdd, Nat.reduceMul, Nat.reduceLeDiff, Nat.le_refl, Int.natCast_zero, Int.toNat_natCast, Int.reduceToNat]
        all_goals first | (simp; done) | trace_state
      · have hcall := c_l32Once m l o k ⟨c, d⟩ pk h2 hx1 ⟨by simp, by simp; omega⟩
        rw [(blind_low pk hk (p := ⟨c, d⟩) hlt).1] at hcall
        have lc : decide ((c : Int) < m.chambers) = true := by simp; omega
        clear pk
        simp -dsimp -implicitDefEqProofs only [pick_nil, pick_cons, look_nil, look_cons, dropB_nil, dropB_cons, inD_nil, inD_cons, inE_nil, inE_cons, or_t_l, or_f_l, Nat.reduceBEq, Nat.reduceDiv, Nat.reduceAdd, beq_self_eq_true, Bool.false_eq_true, Bool.or_false, ↓reduceIte, Nat.reduceEqDiff, List.cons_append, List.nil_append]
        simp -dsimp -implicitDefEqProofs only [go_sem, ↓reduceIte, Nat.reduceEqDiff, Nat.reduceLT, Nat.reduceAdd, Nat.reduceMul, Nat.reduceLeDiff, Nat.le_refl, Int.natCast_zero, Int.toNat_natCast, Int.reduceToNat, lc, li]
        repeat' first
          | (refine Br.intro (fun _ => ?_) (fun _ => ?_) <;> try simp -dsimp -implicitDefEqProofs only [go_sem, ↓reduceIte, Nat.reduceEqDiff, Nat.reduceLT, Nat.reduceAdd, Nat.reduceMul, Nat.reduceLeDiff, Nat.le_refl, Int.natCast_zero, Int.toNat_natCast, Int.reduceToNat, *])
          | (with_reducible refine And.intro ?_ ?_)
          | (refine Later.draw mixed rfl ?_; try simp -dsimp -implicitDefEqProofs only [go_sem, ↓reduceIte, Nat.reduceEqDiff, Nat.reduceLT, Nat.reduceAdd, Nat.reduceMul, Nat.reduceLeDiff, Nat.le_refl, Int.natCast_zero, Int.toNat_natCast, Int.reduceToNat, *])
          | (refine sCallT_one (hcall) ?_; try simp -dsimp -implicitDefEqProofs only [go_sem, ↓reduceIte, Nat.reduceEqDiff, Nat.reduceLT, Nat.reduceAdd, Nat.reduceMul, Nat.reduceLeDiff, Nat.le_refl, Int.natCast_zero, Int.toNat_natCast, Int.reduceToNat, *])
          | (refine sCallX_one (hcall) ?_; try simp -dsimp -implicitDefEqProofs only [go_sem, ↓reduceIte, Nat.reduceEqDiff, Nat.reduceLT, Nat.reduceAdd, Nat.reduceMul, Nat.reduceLeDiff, Nat.le_refl, Int.natCast_zero, Int.toNat_natCast, Int.reduceToNat, *])
        all_goals first
          | omega
          | (refine ⟨?_, ?_⟩ <;> omega)
          | rfl
          | (simp; done)
          | (simp; omega)
          | (simp_all; done)
          | trace_state
      · have lc : decide ((o.length : Int) < m.chambers) = false := by simp; omega
        have lk : decide ((k : Int) > k) = false := by simp
        simp -dsimp -implicitDefEqProofs only [pick_nil, pick_cons, look_nil, look_cons, dropB_nil, dropB_cons, inD_nil, inD_cons, inE_nil, inE_cons, or_t_l, or_f_l, Nat.reduceBEq, Nat.reduceDiv, Nat.reduceAdd, beq_self_eq_true, Bool.false_eq_true, Bool.or_false, ↓reduceIte, Nat.reduceEqDiff, List.cons_append, List.nil_append]
        simp -dsimp -implicitDefEqProofs only [go_sem, ↓reduceIte, Nat.reduceEqDiff, Nat.reduceLT, Nat.reduceAdd, Nat.reduceMul, Nat.reduceLeDiff, Nat.le_refl, Int.natCast_zero, Int.toNat_natCast, Int.reduceToNat, lc, lk]
        repeat' first
          | (refine Br.intro (fun _ => ?_) (fun _ => ?_) <;> try simp -dsimp -implicitDefEqProofs only [go_sem, ↓reduceIte, Nat.reduceEqDiff, Nat.reduceLT, Nat.reduceAdd, Nat.reduceMul, Nat.reduceLeDiff, Nat.le_refl, Int.natCast_zero, Int.toNat_natCast, Int.reduceToNat, *])
          | (with_reducible refine And.intro ?_ ?_)
          | (refine Later.draw mixed rfl ?_; try simp -dsimp -implicitDefEqProofs only [go_sem, ↓reduceIte, Nat.reduceEqDiff, Nat.reduceLT, Nat.reduceAdd, Nat.reduceMul, Nat.reduceLeDiff, Nat.le_refl, Int.natCast_zero, Int.toNat_natCast, Int.reduceToNat, *])
        all_goals first
          | omega
          | (refine ⟨?_, ?_⟩ <;> omega)
          | (refine ⟨(k, d + 1), ⟨hx1, fun _ => by simp only; omega, fun h9 => by simp only at h9; omega, by simp only; omega⟩, by simp only; omega, ?_⟩
             simp -dsimp -implicitDefEqProofs only [go_sem, ↓reduceIte, Nat.reduceEqDiff, Nat.reduceLT, Nat.reduceAdd, Nat.reduceMul, Nat.reduceLeDiff, Nat.le_refl, Int.natCast_zero, Int.toNat_natCast, Int.reduceToNat]
             repeat' (with_reducible refine And.intro ?_ ?_)
             all_goals first
               | omega
               | rfl
               | (simp; done)
               | (simp only [Value.int.injEq, true_and, Int.natCast_add, Int.add_mul]; omega)
               | trace_state)
          | (simp_all; done)
          | trace_state
    · have hoc : ((o[k].toNat : Nat) : Int) = o[k] := by omega
      have hbe : ∀ c : Nat, o[k] = c → pickN l o k ⟨c, d⟩ = k + 1 := fun c hc => (blind_eq pk hk (p := ⟨c, d⟩) hc heq).1
      have hbs := blindN_succ m l o k hk
      rw [blindAt_eq hk, ← heq] at hbs
      clear heq hz hzn
      simp -dsimp -implicitDefEqProofs only [pick_nil, pick_cons, look_nil, look_cons, dropB_nil, dropB_cons, inD_nil, inD_cons, inE_nil, inE_cons, or_t_l, or_f_l, Nat.reduceBEq, Nat.reduceDiv, Nat.reduceAdd, beq_self_eq_true, Bool.false_eq_true, Bool.or_false, ↓reduceIte, Nat.reduceEqDiff, List.cons_append, List.nil_append]
      simp -dsimp -implicitDefEqProofs only [go_sem, ↓reduceIte, Nat.reduceEqDiff, Nat.reduceLT, Nat.reduceAdd, Nat.reduceMul, Nat.reduceLeDiff, Nat.le_refl, Int.natCast_zero, Int.toNat_natCast, Int.reduceToNat, li]
      refine Later.up [2, 3, 4, 11, 12] [43] [] (o[k].toNat + 1) (fun _ => True) (fun c => [(9, eI ((if c ≤ o[k].toNat then k else k + 1 : Nat) : Int)), (10, eI (blindN m l o k + d * m.chambers + c)), (13, eI c)]) (fun _ => []) trivial ?_ rfl (fun c hc _ => ?_) (fun _ => ?_)
      · rw [if_pos (Nat.zero_le _)]
        simp -dsimp -implicitDefEqProofs only [go_sem, ↓reduceIte, Nat.reduceEqDiff, Nat.reduceLT, Nat.reduceAdd, Nat.reduceMul, Nat.reduceLeDiff, Nat.le_refl, Int.natCast_zero, Int.toNat_natCast, Int.reduceToNat]
        all_goals first | (simp; done) | trace_state
      · have hco : (c : Int) < o.length := by omega
        have hcall := c_l32Once m l o k ⟨c, d⟩ pk h2 hx1 ⟨by simp, by simp; omega⟩
        have lc : decide ((c : Int) < m.chambers) = true := by simp; omega
        rw [if_pos (by omega)]
        rcases Nat.lt_or_ge c o[k].toNat with hcl | hcg
        · rw [(blind_ne hk (p := ⟨c, d⟩) (by simp only; omega)).1] at hcall
          rw [if_pos (show c + 1 ≤ o[k].toNat by omega)]
          clear pk hbe hbs
          simp -dsimp -implicitDefEqProofs only [pick_nil, pick_cons, look_nil, look_cons, dropB_nil, dropB_cons, inD_nil, inD_cons, inE_nil, inE_cons, or_t_l, or_f_l, Nat.reduceBEq, Nat.reduceDiv, Nat.reduceAdd, beq_self_eq_true, Bool.false_eq_true, Bool.or_false, ↓reduceIte, Nat.reduceEqDiff, List.cons_append, List.nil_append]
          simp -dsimp -implicitDefEqProofs only [go_sem, ↓reduceIte, Nat.reduceEqDiff, Nat.reduceLT, Nat.reduceAdd, Nat.reduceMul, Nat.reduceLeDiff, Nat.le_refl, Int.natCast_zero, Int.toNat_natCast, Int.reduceToNat, lc, li]
          repeat' first
            | (refine Br.intro (fun _ => ?_) (fun _ => ?_) <;> try simp -dsimp -implicitDefEqProofs only [go_sem, ↓reduceIte, Nat.reduceEqDiff, Nat.reduceLT, Nat.reduceAdd, Nat.reduceMul, Nat.reduceLeDiff, Nat.le_refl, Int.natCast_zero, Int.toNat_natCast, Int.reduceToNat, *])
            | (with_reducible refine And.intro ?_ ?_)
            | (refine Later.draw mixed rfl ?_; try simp -dsimp -implicitDefEqProofs only [go_sem, ↓reduceIte, Nat.reduceEqDiff, Nat.reduceLT, Nat.reduceAdd, Nat.reduceMul, Nat.reduceLeDiff, Nat.le_refl, Int.natCast_zero, Int.toNat_natCast, Int.reduceToNat, *])
            | (refine sCallT_one (hcall) ?_; try simp -dsimp -implicitDefEqProofs only [go_sem, ↓reduceIte, Nat.reduceEqDiff, Nat.reduceLT, Nat.reduceAdd, Nat.reduceMul, Nat.reduceLeDiff, Nat.le_refl, Int.natCast_zero, Int.toNat_natCast, Int.reduceToNat, *])
            | (refine sCallX_one (hcall) ?_; try simp -dsimp -implicitDefEqProofs only [go_sem, ↓reduceIte, Nat.reduceEqDiff, Nat.reduceLT, Nat.reduceAdd, Nat.reduceMul, Nat.reduceLeDiff, Nat.le_refl, Int.natCast_zero, Int.toNat_natCast, Int.reduceToNat, *])
          all_goals first
            | omega
            | (refine ⟨?_, ?_⟩ <;> omega)
            | rfl
            | (simp; done)
            | (simp; omega)
            | (simp_all; done)
            | trace_state
        · rw [hbe c (by omega)] at hcall
          rw [if_neg (show ¬ c + 1 ≤ o[k].toNat by omega)]
          clear pk hbe hbs
          simp -dsimp -implicitDefEqProofs only [pick_nil, pick_cons, look_nil, look_cons, dropB_nil, dropB_cons, inD_nil, inD_cons, inE_nil, inE_cons, or_t_l, or_f_l, Nat.reduceBEq, Nat.reduceDiv, Nat.reduceAdd, beq_self_eq_true, Bool.false_eq_true, Bool.or_false, ↓reduceIte, Nat.reduceEqDiff, List.cons_append, List.nil_append]
          simp -dsimp -implicitDefEqProofs only [go_sem, ↓reduceIte, Nat.reduceEqDiff, Nat.reduceLT, Nat.reduceAdd, Nat.reduceMul, Nat.reduceLeDiff, Nat.le_refl, Int.natCast_zero, Int.toNat_natCast, Int.reduceToNat, lc, li]
          repeat' first
            | (refine Br.intro (fun _ => ?_) (fun _ => ?_) <;> try simp -dsimp -implicitDefEqProofs only [go_sem, ↓reduceIte, Nat.reduceEqDiff, Nat.reduceLT, Nat.reduceAdd, Nat.reduceMul, Nat.reduceLeDiff, Nat.le_refl, Int.natCast_zero, Int.toNat_natCast, Int.reduceToNat, *])
            | (with_reducible refine And.intro ?_ ?_)
            | (refine Later.draw mixed rfl ?_; try simp -dsimp -implicitDefEqProofs only [go_sem, ↓reduceIte, Nat.reduceEqDiff, Nat.reduceLT, Nat.reduceAdd, Nat.reduceMul, Nat.reduceLeDiff, Nat.le_refl, Int.natCast_zero, Int.toNat_natCast, Int.reduceToNat, *])
            | (refine sCallT_one (hcall) ?_; try simp -dsimp -implicitDefEqProofs only [go_sem, ↓reduceIte, Nat.reduceEqDiff, Nat.reduceLT, Nat.reduceAdd, Nat.reduceMul, Nat.reduceLeDiff, Nat.le_refl, Int.natCast_zero, Int.toNat_natCast, Int.reduceToNat, *])
            | (refine sCallX_one (hcall) ?_; try simp -dsimp -implicitDefEqProofs only [go_sem, ↓reduceIte, Nat.reduceEqDiff, Nat.reduceLT, Nat.reduceAdd, Nat.reduceMul, Nat.reduceLeDiff, Nat.le_refl, Int.natCast_zero, Int.toNat_natCast, Int.reduceToNat, *])
          all_goals first
            | omega
            | (refine ⟨?_, ?_⟩ <;> omega)
            | rfl
            | (simp; done)
            | (simp; omega)
            | (simp_all; done)
            | trace_state
      · rw [if_neg (by omega)]
        have lk : decide (((k + 1 : Nat) : Int) > k) = true := by simp; omega
        have le : (((k + 1 : Nat) : Int) == k) = false := by simp; omega
        have hz2 : ∀ h9 : k + 1 < o.length, 0 ≤ zOf l o (k + 1) := fun h9 => (zOf_num pk h9).1
        clear pk hbe
        simp -dsimp -implicitDefEqProofs only [pick_nil, pick_cons, look_nil, look_cons, dropB_nil, dropB_cons, inD_nil, inD_cons, inE_nil, inE_cons, or_t_l, or_f_l, Nat.reduceBEq, Nat.reduceDiv, Nat.reduceAdd, beq_self_eq_true, Bool.false_eq_true, Bool.or_false, ↓reduceIte, Nat.reduceEqDiff, List.cons_append, List.nil_append]
        simp -dsimp -implicitDefEqProofs only [go_sem, ↓reduceIte, Nat.reduceEqDiff, Nat.reduceLT, Nat.reduceAdd, Nat.reduceMul, Nat.reduceLeDiff, Nat.le_refl, Int.natCast_zero, Int.toNat_natCast, Int.reduceToNat, lk, le]
        repeat' first
          | (refine Br.intro (fun _ => ?_) (fun _ => ?_) <;> try simp -dsimp -implicitDefEqProofs only [go_sem, ↓reduceIte, Nat.reduceEqDiff, Nat.reduceLT, Nat.reduceAdd, Nat.reduceMul, Nat.reduceLeDiff, Nat.le_refl, Int.natCast_zero, Int.toNat_natCast, Int.reduceToNat, *])
          | (with_reducible refine And.intro ?_ ?_)
          | (refine Later.draw mixed rfl ?_; try simp -dsimp -implicitDefEqProofs only [go_sem, ↓reduceIte, Nat.reduceEqDiff, Nat.reduceLT, Nat.reduceAdd, Nat.reduceMul, Nat.reduceLeDiff, Nat.le_refl, Int.natCast_zero, Int.toNat_natCast, Int.reduceToNat, *])
        all_goals first
          | omega
          | (refine ⟨?_, ?_⟩ <;> omega)
          | (refine ⟨(k + 1, 0), ⟨by simp only; omega, fun h9 => hz2 h9, fun _ => rfl, by simp only; omega⟩, by simp only; omega, ?_⟩
             simp -dsimp -implicitDefEqProofs only [go_sem, ↓reduceIte, Nat.reduceEqDiff, Nat.reduceLT, Nat.reduceAdd, Nat.reduceMul, Nat.reduceLeDiff, Nat.le_refl, Int.natCast_zero, Int.toNat_natCast, Int.reduceToNat]
             repeat' (with_reducible refine And.intro ?_ ?_)
             all_goals first
               | omega
               | rfl
               | (simp; done)
               | (refine congrArg (Value.int IntKind.i64) ?_; rw [hbs, Int.zero_mul]; omega)
               | trace_state)
          | (simp_all; done)
          | trace_state
set_option maxHeartbeats 4000000 in
theorem c_iBlind (m : MkM) (l : List (List Int)) (o : List Int) (h : l.length ≤ 1048576) (h2 : ∀ x ∈ l, x.length ≤ 1048576) (h3 : o.length ≤ 1048576) : Fn Try.prog 21 [eMk m, eLk l, eIs o] true (· = .tup [eI (blind m l o).1, eI (blind m l o).2]) := by
  refine Fn.of_vcN 46 [.tmp 6, .tmp 7] Try.func21 rfl rfl rfl rfl rfl (of_decide_eq_true rfl) ?_
  by_cases hb : pkCode m l o [] = 0
  rotate_left
  · simp -dsimp -implicitDefEqProofs only [go_sem, ↓reduceIte, Nat.reduceEqDiff, Nat.reduceLT, Nat.reduceAdd, Nat.reduceMul, Nat.reduceLeDiff, Nat.le_refl, Int.natCast_zero, Int.toNat_natCast, Int.reduceToNat]
    repeat' first
      | (refine Br.intro (fun _ => ?_) (fun _ => ?_) <;> try simp -dsimp -implicitDefEqProofs only [go_sem, ↓reduceIte, Nat.reduceEqDiff, Nat.reduceLT, Nat.reduceAdd, Nat.reduceMul, Nat.reduceLeDiff, Nat.le_refl, Int.natCast_zero, Int.toNat_natCast, Int.reduceToNat, *])
      | (with_reducible refine And.intro ?_ ?_)
      | (refine sCallT_one (c_iCode00 m l o h h2 h3) ?_; try simp -dsimp -implicitDefEqProofs only [go_sem, ↓reduceIte, Nat.reduceEqDiff, Nat.reduceLT, Nat.reduceAdd, Nat.reduceMul, Nat.reduceLeDiff, Nat.le_refl, Int.natCast_zero, Int.toNat_natCast, Int.reduceToNat, *])
    all_goals first
      | omega
      | (simp_all [blind]; done)
      | trace_state
  obtain ⟨k1, k2, k3⟩ := pkCode_zero hb
  have pk := Pk.of k1 k2
  have n6 := pk.n6
  have hch := pk.ch
  have hF : blind m l o = (blindN m l o o.length, 0) := by rw [blind, if_pos hb]
  have hcode := c_iCode00 m l o h h2 h3
  rw [hb] at hcode
  rw [hF]
  clear hF k1 k2 k3 hb hch
  simp -dsimp -implicitDefEqProofs only [go_sem, ↓reduceIte, Nat.reduceEqDiff, Nat.reduceLT, Nat.reduceAdd, Nat.reduceMul, Nat.reduceLeDiff, Nat.le_refl, Int.natCast_zero, Int.toNat_natCast, Int.reduceToNat]
  repeat' first
    | (refine Br.intro (fun _ => ?_) (fun _ => ?_) <;> try simp -dsimp -implicitDefEqProofs only [go_sem, ↓reduceIte, Nat.reduceEqDiff, Nat.reduceLT, Nat.reduceAdd, Nat.reduceMul, Nat.reduceLeDiff, Nat.le_refl, Int.natCast_zero, Int.toNat_natCast, Int.reduceToNat, *])
    | (with_reducible refine And.intro ?_ ?_)
    | (refine sCallT_one (hcode) ?_; try simp -dsimp -implicitDefEqProofs only [go_sem, ↓reduceIte, Nat.reduceEqDiff, Nat.reduceLT, Nat.reduceAdd, Nat.reduceMul, Nat.reduceLeDiff, Nat.le_refl, Int.natCast_zero, Int.toNat_natCast, Int.reduceToNat, *])
    | (refine Later.draw mixed rfl ?_; try simp -dsimp -implicitDefEqProofs only [go_sem, ↓reduceIte, Nat.reduceEqDiff, Nat.reduceLT, Nat.reduceAdd, Nat.reduceMul, Nat.reduceLeDiff, Nat.le_refl, Int.natCast_zero, Int.toNat_natCast, Int.reduceToNat, *])
  all_goals try (first | omega | (refine ⟨?_, ?_⟩ <;> omega) | (exact rfl) | (simp; done) | (simp_all; done))
  clear hcode
  refine Later.lp [3, 9] [28, 43] [24, 26, 500003] (fun x : Nat × Nat × List Int => x.1 ≤ o.length ∧ (x.1 < o.length → (x.2.1 : Int) ≤ zOf l o x.1) ∧ (x.1 = o.length → x.2.1 = 0) ∧ x.2.1 ≤ 8 ∧ x.2.2.length = o.length)
    (fun x => [(10, eI (blindN m l o x.1 + x.2.1 * m.chambers)), (11, eI x.2.1)]) (fun x => [(26, .box 0 [eIss l, eIs o, eI x.1, .ref 24 0 0 o.length, eI 0]), (24, .row 0 ⟨1, false⟩ true (x.2.2.map eI))])
    (fun x => (o.length - x.1) * 9 + (8 - x.2.1)) (0, 0, List.replicate o.length 0) ⟨Nat.zero_le _, fun h0 => (zOf_num pk h0).1, fun _ => rfl, Nat.zero_le _, by simp⟩ ?_ rfl (fun x ⟨hx1, hx2, hx3, hx8, hxc⟩ => ?_)
  · rw [blindN_zero]
    simp -dsimp -implicitDefEqProofs only [go_sem, ↓reduceIte, Nat.reduceEqDiff, Nat.reduceLT, Nat.reduceAdd, Nat.reduceMul, Nat.reduceLeDiff, Nat.le_refl, Int.natCast_zero, Int.toNat_natCast, Int.reduceToNat]
    all_goals first | (simp; done) | trace_state
  · obtain ⟨k, d, cuts⟩ := x
    simp only at hx1 hx2 hx3 hx8 hxc
    have hch := pk.ch
    have hbn := pk.blindN k hx1
    have hdc : 0 ≤ (d : Int) * m.chambers ∧ (d : Int) * m.chambers ≤ 8 * 6 := ⟨Int.mul_nonneg (by omega) (by omega), Int.mul_le_mul (by omega) (by omega) (by omega) (by omega)⟩
    rcases Nat.lt_or_ge k o.length with hk | hk
    rotate_left
    · have hko : k = o.length := by omega
      have hd0 := hx3 hko
      have hd : ((k : Int) == o.length) = true := by simp [hko]
      have hres : blindN m l o k + (d : Int) * m.chambers = blindN m l o o.length := by rw [hd0, hko]; simp
      clear pk hko hd0 hx3 hx2 hch
      simp -dsimp -implicitDefEqProofs only [pick_nil, pick_cons, look_nil, look_cons, dropB_nil, dropB_cons, inD_nil, inD_cons, inE_nil, inE_cons, or_t_l, or_f_l, Nat.reduceBEq, Nat.reduceDiv, Nat.reduceAdd, beq_self_eq_true, Bool.false_eq_true, Bool.or_false, ↓reduceIte, Nat.reduceEqDiff, List.cons_append, List.nil_append]
      rw [hres]
      clear hres
      simp -dsimp -implicitDefEqProofs only [go_sem, ↓reduceIte, Nat.reduceEqDiff, Nat.reduceLT, Nat.reduceAdd, Nat.reduceMul, Nat.reduceLeDiff, Nat.le_refl, Int.natCast_zero, Int.toNat_natCast, Int.reduceToNat]
      refine sCallT_inl 400000 13 [.tmp 2] Try.func56 rfl rfl rfl rfl rfl (by exact of_decide_eq_true rfl) ?_
      simp -dsimp -implicitDefEqProofs only [go_sem, ↓reduceIte, Nat.reduceEqDiff, Nat.reduceLT, Nat.reduceAdd, Nat.reduceMul, Nat.reduceLeDiff, Nat.le_refl, Int.natCast_zero, Int.toNat_natCast, Int.reduceToNat, hd]
      (repeat' (first | (refine Br.intro (fun _ => ?_) (fun _ => ?_) <;> try simp -dsimp -implicitDefEqProofs only [go_sem, ↓reduceIte, Nat.reduceEqDiff, Nat.reduceLT, Nat.reduceAdd, Nat.reduceMul, Nat.reduceLeDiff, Nat.le_refl, Int.natCast_zero, Int.toNat_natCast, Int.reduceToNat, *]) | (with_reducible refine And.intro ?_ ?_) | (refine Later.draw mixed rfl ?_; try simp -dsimp -implicitDefEqProofs only [go_sem, ↓reduceIte, Nat.reduceEqDiff, Nat.reduceLT, Nat.reduceAdd, Nat.reduceMul, Nat.reduceLeDiff, Nat.le_refl, Int.natCast_zero, Int.toNat_natCast, Int.reduceToNat, *])))
      all_goals first
        | omega
        | (exact rfl)
        | (simp; done)
        | (simp_all; done)
        | trace_state
    have hz := hx2 hk
    have hzn := zOf_num pk hk
    have li := lt_len hk
    have hio := pk.io k hk
    have hd : ((k : Int) == o.length) = false := by simp; omega
    have gn := get_some hk
    clear hx2 hx3
    have low : ∀ c : Nat, (d : Int) < zOf l o k → o[k] = (c : Int) → ∃ hc : c < l.length, has l[c] d = false ∧ 0 < l[c].length ∧ decide ((d : Int) > l[c][l[c].length - 1]!) = false := by
      intro c hlt hoc
      obtain ⟨z1, z2, z3⟩ := blind_z pk hk
      rw [hoc] at z1 z2 z3
      obtain ⟨hc, he⟩ := pk.cset (c := (c : Int)) (by omega) (by omega)
      have hc' : c < l.length := by simpa using hc
      have he' : cset l (c : Int) = l[c] := by simpa using he
      rw [he'] at z1 z2 z3
      have hst := (pk.st c hc').1
      refine ⟨hc', ?_, hst, ?_⟩
      · rcases hh : has l[c] d with _ | _
        · rfl
        · have := z1 _ ((has_iff _ _).1 hh); omega
      · refine decide_eq_false ?_
        have hl := z1 _ z3
        rw [lastOf, List.getD_eq_getElem?_getD, List.getElem?_eq_getElem (by omega)] at hl
        rw [getElem!_pos (l[c]) (l[c].length - 1) (by omega)]
        simp only [Option.getD_some] at hl
        omega
    have hiq : ∀ c : Nat, o[k] = (c : Int) → (d : Int) = zOf l o k → ∃ hc : c < l.length, has l[c] d = true := by
      intro c hoc heq
      obtain ⟨z1, z2, z3⟩ := blind_z pk hk
      rw [hoc] at z1 z2 z3
      obtain ⟨hc, he⟩ := pk.cset (c := (c : Int)) (by omega) (by omega)
      have hc' : c < l.length := by simpa using hc
      have he' : cset l (c : Int) = l[c] := by simpa using he
      rw [he'] at z2
      exact ⟨hc', (has_iff _ _).2 (heq ▸ z2)⟩
    rcases Int.lt_or_eq_of_le hz with hlt | heq
    · have low := fun c => low c hlt
      clear hiq hz
      have hlc : ∀ c : Nat, c < o.length → decide ((c : Int) < m.chambers) = true := fun c hc => decide_eq_true (by omega)
      have hlc0 : decide ((o.length : Int) < m.chambers) = false := decide_eq_false (by omega)
      have hsum : ((d + 1 : Nat) : Int) * m.chambers = (d : Int) * m.chambers + o.length := by rw [hch, Int.natCast_add, Int.add_mul]; simp
      clear pk hch
      generalize hdm : (d : Int) * m.chambers = e at *
      simp -dsimp -implicitDefEqProofs only [pick_nil, pick_cons, look_nil, look_cons, dropB_nil, dropB_cons, inD_nil, inD_cons, inE_nil, inE_cons, or_t_l, or_f_l, Nat.reduceBEq, Nat.reduceDiv, Nat.reduceAdd, beq_self_eq_true, Bool.false_eq_true, Bool.or_false, ↓reduceIte, Nat.reduceEqDiff, List.cons_append, List.nil_append]
      simp -dsimp -implicitDefEqProofs only [go_sem, ↓reduceIte, Nat.reduceEqDiff, Nat.reduceLT, Nat.reduceAdd, Nat.reduceMul, Nat.reduceLeDiff, Nat.le_refl, Int.natCast_zero, Int.toNat_natCast, Int.reduceToNat]
      refine sCallT_inl 400000 13 [.tmp 2] Try.func56 rfl rfl rfl rfl rfl (by exact of_decide_eq_true rfl) ?_
      simp -dsimp -implicitDefEqProofs only [go_sem, ↓reduceIte, Nat.reduceEqDiff, Nat.reduceLT, Nat.reduceAdd, Nat.reduceMul, Nat.reduceLeDiff, Nat.le_refl, Int.natCast_zero, Int.toNat_natCast, Int.reduceToNat, hd]
      (repeat' (first | (refine Br.intro (fun _ => ?_) (fun _ => ?_) <;> try simp -dsimp -implicitDefEqProofs only [go_sem, ↓reduceIte, Nat.reduceEqDiff, Nat.reduceLT, Nat.reduceAdd, Nat.reduceMul, Nat.reduceLeDiff, Nat.le_refl, Int.natCast_zero, Int.toNat_natCast, Int.reduceToNat, *]) | (with_reducible refine And.intro ?_ ?_) | (refine Later.draw mixed rfl ?_; try simp -dsimp -implicitDefEqProofs only [go_sem, ↓reduceIte, Nat.reduceEqDiff, Nat.reduceLT, Nat.reduceAdd, Nat.reduceMul, Nat.reduceLeDiff, Nat.le_refl, Int.natCast_zero, Int.toNat_natCast, Int.reduceToNat, *])))
      all_goals try (first | omega | (exact rfl) | (simp; done))
      refine Later.up [3, 9, 33] [43] [500003] o.length (fun _ => True) (fun c => [(34, eI c), (10, eI (blindN m l o k + e + c)), (11, eI d)]) (fun _ => []) trivial ?_ rfl (fun c hc _ => ?_) (fun _ => ?_)
      · simp -dsimp -implicitDefEqProofs only [go_sem, ↓reduceIte, Nat.reduceEqDiff, Nat.reduceLT, Nat.reduceAdd, Nat.reduceMul, Nat.reduceLeDiff, Nat.le_refl, Int.natCast_zero, Int.toNat_natCast, Int.reduceToNat]
        all_goals first | (simp; done) | trace_state
      · have lc : decide ((c : Int) < m.chambers) = true := hlc c hc
        clear hlc hlc0 hsum
        by_cases hoc : o[k] = (c : Int)
        · obtain ⟨hcl, hh, hst, hgt⟩ := low c hoc
          have hne : (o[k] != (c : Int)) = false := by simp [hoc]
          have gc := get_some hcl
          have hlt2 : l[c].length - 1 < l[c].length := by omega
          have gL : l[c][((l[c].length : Int) - 1).toNat]? = some l[c][l[c].length - 1] := by rw [pred_toNat hst]; exact get_some hlt2
          have hx := h2 _ (List.getElem_mem hcl)
          rw [getElem!_pos (l[c]) (l[c].length - 1) hlt2] at hgt
          clear low hoc
          generalize l[c] = z at *
          simp -dsimp -implicitDefEqProofs only [pick_nil, pick_cons, look_nil, look_cons, dropB_nil, dropB_cons, inD_nil, inD_cons, inE_nil, inE_cons, or_t_l, or_f_l, Nat.reduceBEq, Nat.reduceDiv, Nat.reduceAdd, beq_self_eq_true, Bool.false_eq_true, Bool.or_false, ↓reduceIte, Nat.reduceEqDiff, List.cons_append, List.nil_append]
          simp -dsimp -implicitDefEqProofs only [go_sem, ↓reduceIte, Nat.reduceEqDiff, Nat.reduceLT, Nat.reduceAdd, Nat.reduceMul, Nat.reduceLeDiff, Nat.le_refl, Int.natCast_zero, Int.toNat_natCast, Int.reduceToNat, lc]
          ((repeat' (first | (refine Br.intro (fun _ => ?_) (fun _ => ?_) <;> try simp -dsimp -implicitDefEqProofs only [go_sem, ↓reduceIte, Nat.reduceEqDiff, Nat.reduceLT, Nat.reduceAdd, Nat.reduceMul, Nat.reduceLeDiff, Nat.le_refl, Int.natCast_zero, Int.toNat_natCast, Int.reduceToNat, *]) | (with_reducible refine And.intro ?_ ?_) | (refine Later.draw mixed rfl ?_; try simp -dsimp -implicitDefEqProofs only [go_sem, ↓reduceIte, Nat.reduceEqDiff, Nat.reduceLT, Nat.reduceAdd, Nat.reduceMul, Nat.reduceLeDiff, Nat.le_refl, Int.natCast_zero, Int.toNat_natCast, Int.reduceToNat, *]))); all_goals try (first | omega | (refine ⟨?_, ?_⟩ <;> omega) | (exact rfl) | (simp; done)))
          refine sCallT_inl 500000 84 [.tmp 4] Try.func57 rfl rfl rfl rfl rfl (by exact of_decide_eq_true rfl) ?_
          simp -dsimp -implicitDefEqProofs only [go_sem, ↓reduceIte, Nat.reduceEqDiff, Nat.reduceLT, Nat.reduceAdd, Nat.reduceMul, Nat.reduceLeDiff, Nat.le_refl, Int.natCast_zero, Int.toNat_natCast, Int.reduceToNat, hd, gn, hne, gc]
          ((repeat' (first | (refine Br.intro (fun _ => ?_) (fun _ => ?_) <;> try simp -dsimp -implicitDefEqProofs only [go_sem, ↓reduceIte, Nat.reduceEqDiff, Nat.reduceLT, Nat.reduceAdd, Nat.reduceMul, Nat.reduceLeDiff, Nat.le_refl, Int.natCast_zero, Int.toNat_natCast, Int.reduceToNat, *]) | (with_reducible refine And.intro ?_ ?_) | (refine Later.draw mixed rfl ?_; try simp -dsimp -implicitDefEqProofs only [go_sem, ↓reduceIte, Nat.reduceEqDiff, Nat.reduceLT, Nat.reduceAdd, Nat.reduceMul, Nat.reduceLeDiff, Nat.le_refl, Int.natCast_zero, Int.toNat_natCast, Int.reduceToNat, *]) | (refine sCallT_one (c_Contains z d hx) ?_; try simp -dsimp -implicitDefEqProofs only [go_sem, ↓reduceIte, Nat.reduceEqDiff, Nat.reduceLT, Nat.reduceAdd, Nat.reduceMul, Nat.reduceLeDiff, Nat.le_refl, Int.natCast_zero, Int.toNat_natCast, Int.reduceToNat, *]))); all_goals try (first | omega | (refine ⟨?_, ?_⟩ <;> omega) | (exact rfl) | (simp; done) | (simp; omega) | trace_state))
        · have hne : (o[k] != (c : Int)) = true := by simp [hoc]
          clear low hoc
          simp -dsimp -implicitDefEqProofs only [pick_nil, pick_cons, look_nil, look_cons, dropB_nil, dropB_cons, inD_nil, inD_cons, inE_nil, inE_cons, or_t_l, or_f_l, Nat.reduceBEq, Nat.reduceDiv, Nat.reduceAdd, beq_self_eq_true, Bool.false_eq_true, Bool.or_false, ↓reduceIte, Nat.reduceEqDiff, List.cons_append, List.nil_append]
          simp -dsimp -implicitDefEqProofs only [go_sem, ↓reduceIte, Nat.reduceEqDiff, Nat.reduceLT, Nat.reduceAdd, Nat.reduceMul, Nat.reduceLeDiff, Nat.le_refl, Int.natCast_zero, Int.toNat_natCast, Int.reduceToNat, lc]
          ((repeat' (first | (refine Br.intro (fun _ => ?_) (fun _ => ?_) <;> try simp -dsimp -implicitDefEqProofs only [go_sem, ↓reduceIte, Nat.reduceEqDiff, Nat.reduceLT, Nat.reduceAdd, Nat.reduceMul, Nat.reduceLeDiff, Nat.le_refl, Int.natCast_zero, Int.toNat_natCast, Int.reduceToNat, *]) | (with_reducible refine And.intro ?_ ?_) | (refine Later.draw mixed rfl ?_; try simp -dsimp -implicitDefEqProofs only [go_sem, ↓reduceIte, Nat.reduceEqDiff, Nat.reduceLT, Nat.reduceAdd, Nat.reduceMul, Nat.reduceLeDiff, Nat.le_refl, Int.natCast_zero, Int.toNat_natCast, Int.reduceToNat, *]))); all_goals try (first | omega | (refine ⟨?_, ?_⟩ <;> omega) | (exact rfl) | (simp; done)))
          refine sCallT_inl 500000 84 [.tmp 4] Try.func57 rfl rfl rfl rfl rfl (by exact of_decide_eq_true rfl) ?_
          simp -dsimp -implicitDefEqProofs only [go_sem, ↓reduceIte, Nat.reduceEqDiff, Nat.reduceLT, Nat.reduceAdd, Nat.reduceMul, Nat.reduceLeDiff, Nat.le_refl, Int.natCast_zero, Int.toNat_natCast, Int.reduceToNat, hd, gn, hne]
          ((repeat' (first | (refine Br.intro (fun _ => ?_) (fun _ => ?_) <;> try simp -dsimp -implicitDefEqProofs only [go_sem, ↓reduceIte, Nat.reduceEqDiff, Nat.reduceLT, Nat.reduceAdd, Nat.reduceMul, Nat.reduceLeDiff, Nat.le_refl, Int.natCast_zero, Int.toNat_natCast, Int.reduceToNat, *]) | (with_reducible refine And.intro ?_ ?_) | (refine Later.draw mixed rfl ?_; try simp -dsimp -implicitDefEqProofs only [go_sem, ↓reduceIte, Nat.reduceEqDiff, Nat.reduceLT, Nat.reduceAdd, Nat.reduceMul, Nat.reduceLeDiff, Nat.le_refl, Int.natCast_zero, Int.toNat_natCast, Int.reduceToNat, *]))); all_goals try (first | omega | (refine ⟨?_, ?_⟩ <;> omega) | (exact rfl) | (simp; done) | (simp; omega) | trace_state))
      · clear low hlc
        simp -dsimp -implicitDefEqProofs only [pick_nil, pick_cons, look_nil, look_cons, dropB_nil, dropB_cons, inD_nil, inD_cons, inE_nil, inE_cons, or_t_l, or_f_l, Nat.reduceBEq, Nat.reduceDiv, Nat.reduceAdd, beq_self_eq_true, Bool.false_eq_true, Bool.or_false, ↓reduceIte, Nat.reduceEqDiff, List.cons_append, List.nil_append]
        simp -dsimp -implicitDefEqProofs only [go_sem, ↓reduceIte, Nat.reduceEqDiff, Nat.reduceLT, Nat.reduceAdd, Nat.reduceMul, Nat.reduceLeDiff, Nat.le_refl, Int.natCast_zero, Int.toNat_natCast, Int.reduceToNat, hlc0]
        (repeat' (first | (refine Br.intro (fun _ => ?_) (fun _ => ?_) <;> try simp -dsimp -implicitDefEqProofs only [go_sem, ↓reduceIte, Nat.reduceEqDiff, Nat.reduceLT, Nat.reduceAdd, Nat.reduceMul, Nat.reduceLeDiff, Nat.le_refl, Int.natCast_zero, Int.toNat_natCast, Int.reduceToNat, *]) | (with_reducible refine And.intro ?_ ?_)))
        all_goals first
          | omega
          | (refine ⟨?_, ?_⟩ <;> omega)
          | (refine ⟨(k, d + 1, cuts), ⟨hx1, fun _ => by simp only; omega, fun h9 => by simp only at h9; omega, by simp only; omega, hxc⟩, by simp only; omega, ?_⟩
             simp -dsimp -implicitDefEqProofs only [go_sem, ↓reduceIte, Nat.reduceEqDiff, Nat.reduceLT, Nat.reduceAdd, Nat.reduceMul, Nat.reduceLeDiff, Nat.le_refl, Int.natCast_zero, Int.toNat_natCast, Int.reduceToNat, hsum]
             repeat' (with_reducible refine And.intro ?_ ?_)
             all_goals first
               | omega
               | rfl
               | (simp; done)
               | (refine congrArg (Value.int IntKind.i64) ?_; omega)
               | trace_state)
          | trace_state
    · have hoc : ((o[k].toNat : Nat) : Int) = o[k] := by omega
      obtain ⟨hcl, hh⟩ := hiq o[k].toNat hoc.symm heq
      have hbs := blindN_succ m l o k hk
      rw [blindAt_eq hk, ← heq] at hbs
      have hz2 : ∀ h9 : k + 1 < o.length, 0 ≤ zOf l o (k + 1) := fun h9 => (zOf_num pk h9).1
      have hlc : ∀ c : Nat, c < o.length → decide ((c : Int) < m.chambers) = true := fun c hc => decide_eq_true (by omega)
      have hzero : ((0 : Nat) : Int) * m.chambers = 0 := by simp
      clear low hiq heq hz hzn pk hch
      generalize hdm : (d : Int) * m.chambers = e at *
      clear hdm
      simp -dsimp -implicitDefEqProofs only [pick_nil, pick_cons, look_nil, look_cons, dropB_nil, dropB_cons, inD_nil, inD_cons, inE_nil, inE_cons, or_t_l, or_f_l, Nat.reduceBEq, Nat.reduceDiv, Nat.reduceAdd, beq_self_eq_true, Bool.false_eq_true, Bool.or_false, ↓reduceIte, Nat.reduceEqDiff, List.cons_append, List.nil_append]
      simp -dsimp -implicitDefEqProofs only [go_sem, ↓reduceIte, Nat.reduceEqDiff, Nat.reduceLT, Nat.reduceAdd, Nat.reduceMul, Nat.reduceLeDiff, Nat.le_refl, Int.natCast_zero, Int.toNat_natCast, Int.reduceToNat]
      refine sCallT_inl 400000 13 [.tmp 2] Try.func56 rfl rfl rfl rfl rfl (by exact of_decide_eq_true rfl) ?_
      simp -dsimp -implicitDefEqProofs only [go_sem, ↓reduceIte, Nat.reduceEqDiff, Nat.reduceLT, Nat.reduceAdd, Nat.reduceMul, Nat.reduceLeDiff, Nat.le_refl, Int.natCast_zero, Int.toNat_natCast, Int.reduceToNat, hd]
      (repeat' (first | (refine Br.intro (fun _ => ?_) (fun _ => ?_) <;> try simp -dsimp -implicitDefEqProofs only [go_sem, ↓reduceIte, Nat.reduceEqDiff, Nat.reduceLT, Nat.reduceAdd, Nat.reduceMul, Nat.reduceLeDiff, Nat.le_refl, Int.natCast_zero, Int.toNat_natCast, Int.reduceToNat, *]) | (with_reducible refine And.intro ?_ ?_) | (refine Later.draw mixed rfl ?_; try simp -dsimp -implicitDefEqProofs only [go_sem, ↓reduceIte, Nat.reduceEqDiff, Nat.reduceLT, Nat.reduceAdd, Nat.reduceMul, Nat.reduceLeDiff, Nat.le_refl, Int.natCast_zero, Int.toNat_natCast, Int.reduceToNat, *])))
      all_goals try (first | omega | (exact rfl) | (simp; done))
      refine Later.up [3, 9, 33] [43] [500003] (o[k].toNat + 1) (fun c => c ≤ o[k].toNat) (fun c => [(34, eI c), (10, eI (blindN m l o k + e + c)), (11, eI d)]) (fun _ => []) (Nat.zero_le _) ?_ rfl (fun c hc hcI => ?_) (fun hcI => ?_)
      · simp -dsimp -implicitDefEqProofs only [go_sem, ↓reduceIte, Nat.reduceEqDiff, Nat.reduceLT, Nat.reduceAdd, Nat.reduceMul, Nat.reduceLeDiff, Nat.le_refl, Int.natCast_zero, Int.toNat_natCast, Int.reduceToNat]
        all_goals first | (simp; done) | trace_state
      · have lc : decide ((c : Int) < m.chambers) = true := hlc c (by omega)
        clear hlc
        rcases Nat.lt_or_ge c o[k].toNat with hcc | hcg
        · have hne : (o[k] != (c : Int)) = true := by simp; omega
          clear hoc hbs hcl hh
          simp -dsimp -implicitDefEqProofs only [pick_nil, pick_cons, look_nil, look_cons, dropB_nil, dropB_cons, inD_nil, inD_cons, inE_nil, inE_cons, or_t_l, or_f_l, Nat.reduceBEq, Nat.reduceDiv, Nat.reduceAdd, beq_self_eq_true, Bool.false_eq_true, Bool.or_false, ↓reduceIte, Nat.reduceEqDiff, List.cons_append, List.nil_append]
          simp -dsimp -implicitDefEqProofs only [go_sem, ↓reduceIte, Nat.reduceEqDiff, Nat.reduceLT, Nat.reduceAdd, Nat.reduceMul, Nat.reduceLeDiff, Nat.le_refl, Int.natCast_zero, Int.toNat_natCast, Int.reduceToNat, lc]
          ((repeat' (first | (refine Br.intro (fun _ => ?_) (fun _ => ?_) <;> try simp -dsimp -implicitDefEqProofs only [go_sem, ↓reduceIte, Nat.reduceEqDiff, Nat.reduceLT, Nat.reduceAdd, Nat.reduceMul, Nat.reduceLeDiff, Nat.le_refl, Int.natCast_zero, Int.toNat_natCast, Int.reduceToNat, *]) | (with_reducible refine And.intro ?_ ?_) | (refine Later.draw mixed rfl ?_; try simp -dsimp -implicitDefEqProofs only [go_sem, ↓reduceIte, Nat.reduceEqDiff, Nat.reduceLT, Nat.reduceAdd, Nat.reduceMul, Nat.reduceLeDiff, Nat.le_refl, Int.natCast_zero, Int.toNat_natCast, Int.reduceToNat, *]))); all_goals try (first | omega | (refine ⟨?_, ?_⟩ <;> omega) | (exact rfl) | (simp; done)))
          refine sCallT_inl 500000 84 [.tmp 4] Try.func57 rfl rfl rfl rfl rfl (by exact of_decide_eq_true rfl) ?_
          simp -dsimp -implicitDefEqProofs only [go_sem, ↓reduceIte, Nat.reduceEqDiff, Nat.reduceLT, Nat.reduceAdd, Nat.reduceMul, Nat.reduceLeDiff, Nat.le_refl, Int.natCast_zero, Int.toNat_natCast, Int.reduceToNat, hd, gn, hne]
          ((repeat' (first | (refine Br.intro (fun _ => ?_) (fun _ => ?_) <;> try simp -dsimp -implicitDefEqProofs only [go_sem, ↓reduceIte, Nat.reduceEqDiff, Nat.reduceLT, Nat.reduceAdd, Nat.reduceMul, Nat.reduceLeDiff, Nat.le_refl, Int.natCast_zero, Int.toNat_natCast, Int.reduceToNat, *]) | (with_reducible refine And.intro ?_ ?_) | (refine Later.draw mixed rfl ?_; try simp -dsimp -implicitDefEqProofs only [go_sem, ↓reduceIte, Nat.reduceEqDiff, Nat.reduceLT, Nat.reduceAdd, Nat.reduceMul, Nat.reduceLeDiff, Nat.le_refl, Int.natCast_zero, Int.toNat_natCast, Int.reduceToNat, *]))); all_goals try (first | omega | (refine ⟨?_, ?_⟩ <;> omega) | (exact rfl) | (simp; done) | (simp; omega) | trace_state))
        · have hce : c = o[k].toNat := by omega
          have hcl : c < l.length := by omega
          have hh : has l[c] d = true := by subst hce; exact hh
          have hne : (o[k] != (c : Int)) = false := by simp; omega
          have gc := get_some hcl
          have hcc : c < cuts.length := by omega
          have gr : (cuts.map eI)[c]? = some (eI cuts[c]) := by rw [List.getElem?_map, List.getElem?_eq_getElem hcc]; rfl
          have hx := h2 _ (List.getElem_mem hcl)
          have hbs : blindN m l o (k + 1) = blindN m l o k + e + c + 1 := by omega
          clear hce hoc
          generalize l[c] = z at *
          simp -dsimp -implicitDefEqProofs only [pick_nil, pick_cons, look_nil, look_cons, dropB_nil, dropB_cons, inD_nil, inD_cons, inE_nil, inE_cons, or_t_l, or_f_l, Nat.reduceBEq, Nat.reduceDiv, Nat.reduceAdd, beq_self_eq_true, Bool.false_eq_true, Bool.or_false, ↓reduceIte, Nat.reduceEqDiff, List.cons_append, List.nil_append]
          simp -dsimp -implicitDefEqProofs only [go_sem, ↓reduceIte, Nat.reduceEqDiff, Nat.reduceLT, Nat.reduceAdd, Nat.reduceMul, Nat.reduceLeDiff, Nat.le_refl, Int.natCast_zero, Int.toNat_natCast, Int.reduceToNat, lc]
          ((repeat' (first | (refine Br.intro (fun _ => ?_) (fun _ => ?_) <;> try simp -dsimp -implicitDefEqProofs only [go_sem, ↓reduceIte, Nat.reduceEqDiff, Nat.reduceLT, Nat.reduceAdd, Nat.reduceMul, Nat.reduceLeDiff, Nat.le_refl, Int.natCast_zero, Int.toNat_natCast, Int.reduceToNat, *]) | (with_reducible refine And.intro ?_ ?_) | (refine Later.draw mixed rfl ?_; try simp -dsimp -implicitDefEqProofs only [go_sem, ↓reduceIte, Nat.reduceEqDiff, Nat.reduceLT, Nat.reduceAdd, Nat.reduceMul, Nat.reduceLeDiff, Nat.le_refl, Int.natCast_zero, Int.toNat_natCast, Int.reduceToNat, *]))); all_goals try (first | omega | (refine ⟨?_, ?_⟩ <;> omega) | (exact rfl) | (simp; done)))
          refine sCallT_inl 500000 84 [.tmp 4] Try.func57 rfl rfl rfl rfl rfl (by exact of_decide_eq_true rfl) ?_
          simp -dsimp -implicitDefEqProofs only [go_sem, ↓reduceIte, Nat.reduceEqDiff, Nat.reduceLT, Nat.reduceAdd, Nat.reduceMul, Nat.reduceLeDiff, Nat.le_refl, Int.natCast_zero, Int.toNat_natCast, Int.reduceToNat, hd, gn, hne, gc]
          ((repeat' (first | (refine Br.intro (fun _ => ?_) (fun _ => ?_) <;> try simp -dsimp -implicitDefEqProofs only [go_sem, ↓reduceIte, Nat.reduceEqDiff, Nat.reduceLT, Nat.reduceAdd, Nat.reduceMul, Nat.reduceLeDiff, Nat.le_refl, Int.natCast_zero, Int.toNat_natCast, Int.reduceToNat, *]) | (with_reducible refine And.intro ?_ ?_) | (refine Later.draw mixed rfl ?_; try simp -dsimp -implicitDefEqProofs only [go_sem, ↓reduceIte, Nat.reduceEqDiff, Nat.reduceLT, Nat.reduceAdd, Nat.reduceMul, Nat.reduceLeDiff, Nat.le_refl, Int.natCast_zero, Int.toNat_natCast, Int.reduceToNat, *]) | (refine sCallT_one (c_Contains z d hx) ?_; try simp -dsimp -implicitDefEqProofs only [go_sem, ↓reduceIte, Nat.reduceEqDiff, Nat.reduceLT, Nat.reduceAdd, Nat.reduceMul, Nat.reduceLeDiff, Nat.le_refl, Int.natCast_zero, Int.toNat_natCast, Int.reduceToNat, *]))); all_goals try (first | omega | (refine ⟨?_, ?_⟩ <;> omega) | (exact rfl) | (simp; done) | (simp; omega)))
          refine ⟨(k + 1, 0, cuts.set c d), ⟨by simp only; omega, fun h9 => hz2 h9, fun _ => rfl, by simp only; omega, by simp only [List.length_set]; exact hxc⟩, by simp only; omega, ?_⟩
          simp -dsimp -implicitDefEqProofs only [go_sem, ↓reduceIte, Nat.reduceEqDiff, Nat.reduceLT, Nat.reduceAdd, Nat.reduceMul, Nat.reduceLeDiff, Nat.le_refl, Int.natCast_zero, Int.toNat_natCast, Int.reduceToNat, hzero]
          repeat' (with_reducible refine And.intro ?_ ?_)
          all_goals first
            | omega
            | rfl
            | (simp; done)
            | (refine congrArg (Value.int IntKind.i64) ?_; omega)
            | (rw [List.map_set]; done)
            | trace_state
      · omega
end Go.Vc
