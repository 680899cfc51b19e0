import Derived.Test.YtmokkcnnienkmaaGreatDoorPkLawSecretsE
/-
  Contracts: the key at a rank.
-/
set_option linter.unusedVariables false
set_option linter.unusedSimpArgs false
set_option linter.unnecessarySimpa false
namespace Go.Vc
open Go.Proofs
set_option maxRecDepth 100000
set_option maxHeartbeats 4000000
theorem visit_at : ∀ (ks : List (List Int)) (r : Nat) (o : Option (List Int)) (h : r < ks.length), visitL atF ((r : Int), o) ks = ((-1, some ks[r]), false)
  | k :: ks, 0, o, _ => by simp [visitL, atF]
  | k :: ks, r + 1, o, h => by
    have e : atF (((r + 1 : Nat) : Int), o) k = (((r : Int), o), true) := by
      have h1 : ¬ ((r + 1 : Nat) : Int) = 0 := by omega
      have h2 : ((r + 1 : Nat) : Int) - 1 = (r : Int) := by omega
      rw [atF, if_neg h1, h2, decide_eq_true (show (r : Int) ≥ 0 by omega)]
    rw [visitL, e]
    show visitL atF ((r : Int), o) ks = _
    rw [visit_at ks r o (by simpa using h)]
    rfl
theorem c_sKeyAt (m : MkM) (hm : isMk m = true) (r : Nat) (h : r < (allK m).length) : Fn Tryz.prog 62 [eMk m, eI r] true (· = .tup [eIs (allK m)[r], eI 0]) := by
  refine Fn.of_vcN 46 [.tmp 4, .tmp 5] Tryz.func62 rfl rfl rfl rfl rfl (of_decide_eq_true rfl) ?_
  have ⟨⟨hch1, hch2⟩, hd1, hd2⟩ := isMk_num hm
  obtain ⟨hk, hr⟩ := index_rank (by omega) h
  have hcn0 := c_l02Count m hm m.chambers.toNat [] (by simp; omega) (fun x hx => by cases hx)
  rw [allK_cnt] at hcn0
  have hlen8 : (allK m).length ≤ 8 ^ 6 := Nat.le_trans (keysFrom_len m hm _ _) (Nat.pow_le_pow_right (by decide) (by omega))
  have hge : decide ((r : Int) ≥ ((allK m).length : Int)) = false := decide_eq_false (by omega)
  have hlt0 : decide ((r : Int) < 0) = false := decide_eq_false (by omega)
  have hcn := hcn0.subs (args' := [eMk m, eNil]) (.cons (.refl _) (.cons (.nil _) .nil))
  clear hcn0
  generalize (allK m)[r] = K at *
  generalize (allK m).length = AL at *
  have hl := hk.len
  have hel := hk.el
  simp -dsimp -implicitDefEqProofs only [go_sem, ↓reduceIte, Nat.reduceEqDiff, Nat.reduceLT, Nat.reduceAdd, Nat.reduceMul, Nat.reduceLeDiff, Nat.le_refl, Int.natCast_zero, Int.toNat_natCast, Int.reduceToNat]
  refine sCallT_one (c_sIsMaker m) ?_
  simp -dsimp -implicitDefEqProofs only [go_sem, ↓reduceIte, Nat.reduceEqDiff, Nat.reduceLT, Nat.reduceAdd, Nat.reduceMul, Nat.reduceLeDiff, Nat.le_refl, Int.natCast_zero, Int.toNat_natCast, Int.reduceToNat, hm, hlt0]
  refine sCallT_one hcn ?_
  simp -dsimp -implicitDefEqProofs only [go_sem, ↓reduceIte, Nat.reduceEqDiff, Nat.reduceLT, Nat.reduceAdd, Nat.reduceMul, Nat.reduceLeDiff, Nat.le_refl, Int.natCast_zero, Int.toNat_natCast, Int.reduceToNat, hge]
  refine Later.up [2] [22, 28, 30, 31, 32, 43, 44] [20] K.length (fun _ => True) (fun i => [(1, eI ((r - rankTo m K i : Nat) : Int)), (6, .ref 20 0 0 i)]) (fun i => [(20, .row 0 ⟨1, false⟩ true ((K.take i).map eI))]) trivial ?_ rfl (fun i hi _ => ?_) (fun _ => ?_)
  · simp -dsimp -implicitDefEqProofs only [go_sem, ↓reduceIte, Nat.reduceEqDiff, Nat.reduceLT, Nat.reduceAdd, Nat.reduceMul, Nat.reduceLeDiff, Nat.le_refl, Int.natCast_zero, Int.toNat_natCast, Int.reduceToNat, rankTo, Nat.sub_zero, List.take_zero, List.map_nil]
  · have hlt : decide ((i : Int) < m.chambers) = true := decide_eq_true (by omega)
    obtain ⟨k1, k2, k3⟩ := rank_left hk hi
    rw [hr] at k2 k3
    have hx := hel K[i] (List.getElem_mem hi)
    have hgd : K.getD i 0 = K[i] := by simp [List.getD_eq_getElem?_getD, hi]
    have hsn := take_app hi
    rw [hgd] at k1 hsn
    have hlen : (K.take i).length = i := by simp; omega
    rw [hsn] at k3 ⊢
    have hmono := fun d E => cntTo_mono m (K.length - (i + 1)) (K.take i) d E
    have hsucc := fun d => cntTo_succ m (K.length - (i + 1)) (K.take i) d
    have hcb := fun d => cnt_le m hm (K.length - (i + 1)) (K.take i ++ [(d : Int)])
    have hp : 8 ^ (K.length - (i + 1)) ≤ 8 ^ 5 := Nat.pow_le_pow_right (by decide) (by omega)
    have hcn2 := fun (d : Nat) (hd : d ≤ 7) => c_l02Count m hm (K.length - (i + 1)) (K.take i ++ [(d : Int)]) (by simp; omega) (fun x hx2 => by
        rcases List.mem_append.1 hx2 with h | h
        · have := hel x (List.mem_of_mem_take h); omega
        · simp at h; omega)
    have hown := c_l01Own (K.take i) (by simp; omega)
    have hz0 : cntTo m (K.length - (i + 1)) (K.take i) 0 = 0 := rfl
    generalize hT : K.take i = T at *
    generalize K[i] = z at *
    generalize K.length - (i + 1) = n at *
    generalize rankTo m K (i + 1) = R1 at *
    generalize rankTo m K i = R at *
    have htl2 : List.take i (List.map eI T) = List.map eI T := List.take_of_length_le (by simp; omega)
    simp -dsimp -implicitDefEqProofs only [pick_nil, pick_cons, look_nil, look_cons, dropB_nil, dropB_cons, inD_nil, inD_cons, inE_nil, inE_cons, or_t_l, or_f_l, Nat.reduceBEq, Nat.reduceDiv, Nat.reduceAdd, beq_self_eq_true, Bool.false_eq_true, Bool.or_false, ↓reduceIte, Nat.reduceEqDiff, List.cons_append, List.nil_append]
    simp -dsimp -implicitDefEqProofs only [go_sem, ↓reduceIte, Nat.reduceEqDiff, Nat.reduceLT, Nat.reduceAdd, Nat.reduceMul, Nat.reduceLeDiff, Nat.le_refl, Int.natCast_zero, Int.toNat_natCast, Int.reduceToNat, hlt]
    refine Later.up [2, 6] [28, 30, 31, 32] [] z.toNat (fun _ => True) (fun d => [(1, eI ((r - R - cntTo m n T d : Nat) : Int)), (7, eI d)]) (fun _ => []) trivial ?_ rfl (fun d hd _ => ?_) (fun _ => ?_)
    · simp -dsimp -implicitDefEqProofs only [go_sem, ↓reduceIte, Nat.reduceEqDiff, Nat.reduceLT, Nat.reduceAdd, Nat.reduceMul, Nat.reduceLeDiff, Nat.le_refl, Int.natCast_zero, Int.toNat_natCast, Int.reduceToNat, hz0, Nat.sub_zero]
    · have q := hcn2 d (by omega)
      have e1 := hsucc d
      have e2 := hmono (d + 1) (z.toNat - (d + 1))
      rw [show d + 1 + (z.toNat - (d + 1)) = z.toNat by omega] at e2
      have e3 := hcb d
      have hmap : List.map eI T ++ [eI (d : Int)] = List.map eI (T ++ [(d : Int)]) := by simp
      have htl : List.take (T.length + 1) (List.map eI (T ++ [(d : Int)])) = List.map eI (T ++ [(d : Int)]) := List.take_of_length_le (by simp)
      have hlt2 : decide (((r - R - cntTo m n T d : Nat) : Int) < ((cnt m n (T ++ [(d : Int)]) : Nat) : Int)) = false := decide_eq_false (by omega)
      rw [e1]
      generalize cntTo m n T d = A at *
      generalize cnt m n (T ++ [(d : Int)]) = Bn at *
      simp -dsimp -implicitDefEqProofs only [pick_nil, pick_cons, look_nil, look_cons, dropB_nil, dropB_cons, inD_nil, inD_cons, inE_nil, inE_cons, or_t_l, or_f_l, Nat.reduceBEq, Nat.reduceDiv, Nat.reduceAdd, beq_self_eq_true, Bool.false_eq_true, Bool.or_false, ↓reduceIte, Nat.reduceEqDiff, List.cons_append, List.nil_append]
      simp -dsimp -implicitDefEqProofs only [go_sem, ↓reduceIte, Nat.reduceEqDiff, Nat.reduceLT, Nat.reduceAdd, Nat.reduceMul, Nat.reduceLeDiff, Nat.le_refl, Int.natCast_zero, Int.toNat_natCast, Int.reduceToNat]
      refine Later.draw mixed rfl ?_
      simp -dsimp -implicitDefEqProofs only [go_sem, ↓reduceIte, Nat.reduceEqDiff, Nat.reduceLT, Nat.reduceAdd, Nat.reduceMul, Nat.reduceLeDiff, Nat.le_refl, Int.natCast_zero, Int.toNat_natCast, Int.reduceToNat, htl2]
      ((repeat' (with_reducible refine And.intro ?_ ?_)); all_goals try (first | omega | (refine ⟨?_, ?_⟩ <;> omega) | (exact rfl)))
      refine sCallX_one hown ?_
      simp -dsimp -implicitDefEqProofs only [go_sem, ↓reduceIte, Nat.reduceEqDiff, Nat.reduceLT, Nat.reduceAdd, Nat.reduceMul, Nat.reduceLeDiff, Nat.le_refl, Int.natCast_zero, Int.toNat_natCast, Int.reduceToNat, hmap, htl]
      ((repeat' (with_reducible refine And.intro ?_ ?_)); all_goals try (first | omega | (refine ⟨?_, ?_⟩ <;> omega) | (exact rfl)))
      refine sCallX_one q ?_
      simp -dsimp -implicitDefEqProofs only [go_sem, ↓reduceIte, Nat.reduceEqDiff, Nat.reduceLT, Nat.reduceAdd, Nat.reduceMul, Nat.reduceLeDiff, Nat.le_refl, Int.natCast_zero, Int.toNat_natCast, Int.reduceToNat, hlt2]
      ((repeat' (with_reducible refine And.intro ?_ ?_)); all_goals try (first | omega | (refine ⟨?_, ?_⟩ <;> omega) | (exact rfl)))
      all_goals (congr 1; omega)
    · have q := hcn2 z.toNat (by omega)
      have e3 := hcb z.toNat
      have hmap : List.map eI T ++ [eI (z.toNat : Int)] = List.map eI (T ++ [(z.toNat : Int)]) := by simp
      have htl : List.take (T.length + 1) (List.map eI (T ++ [(z.toNat : Int)])) = List.map eI (T ++ [(z.toNat : Int)]) := List.take_of_length_le (by simp)
      have hz1 : ((z.toNat : Nat) : Int) = z := by omega
      rw [hz1] at q e3 hmap htl
      have hlt2 : decide (((r - R - cntTo m n T z.toNat : Nat) : Int) < ((cnt m n (T ++ [z]) : Nat) : Int)) = true := decide_eq_true (by omega)
      simp -dsimp -implicitDefEqProofs only [pick_nil, pick_cons, look_nil, look_cons, dropB_nil, dropB_cons, inD_nil, inD_cons, inE_nil, inE_cons, or_t_l, or_f_l, Nat.reduceBEq, Nat.reduceDiv, Nat.reduceAdd, beq_self_eq_true, Bool.false_eq_true, Bool.or_false, ↓reduceIte, Nat.reduceEqDiff, List.cons_append, List.nil_append]
      simp -dsimp -implicitDefEqProofs only [go_sem, ↓reduceIte, Nat.reduceEqDiff, Nat.reduceLT, Nat.reduceAdd, Nat.reduceMul, Nat.reduceLeDiff, Nat.le_refl, Int.natCast_zero, Int.toNat_natCast, Int.reduceToNat, hz1]
      refine Later.draw mixed rfl ?_
      simp -dsimp -implicitDefEqProofs only [go_sem, ↓reduceIte, Nat.reduceEqDiff, Nat.reduceLT, Nat.reduceAdd, Nat.reduceMul, Nat.reduceLeDiff, Nat.le_refl, Int.natCast_zero, Int.toNat_natCast, Int.reduceToNat, htl2]
      ((repeat' (with_reducible refine And.intro ?_ ?_)); all_goals try (first | omega | (refine ⟨?_, ?_⟩ <;> omega) | (exact rfl)))
      refine sCallX_one hown ?_
      simp -dsimp -implicitDefEqProofs only [go_sem, ↓reduceIte, Nat.reduceEqDiff, Nat.reduceLT, Nat.reduceAdd, Nat.reduceMul, Nat.reduceLeDiff, Nat.le_refl, Int.natCast_zero, Int.toNat_natCast, Int.reduceToNat, hmap, htl]
      ((repeat' (with_reducible refine And.intro ?_ ?_)); all_goals try (first | omega | (refine ⟨?_, ?_⟩ <;> omega) | (exact rfl)))
      refine sCallX_one q ?_
      simp -dsimp -implicitDefEqProofs only [go_sem, ↓reduceIte, Nat.reduceEqDiff, Nat.reduceLT, Nat.reduceAdd, Nat.reduceMul, Nat.reduceLeDiff, Nat.le_refl, Int.natCast_zero, Int.toNat_natCast, Int.reduceToNat, hlt2]
      ((repeat' (with_reducible refine And.intro ?_ ?_)); all_goals try (first | omega | (refine ⟨?_, ?_⟩ <;> omega) | (exact rfl)))
      · congr 1; omega
      · rw [htl2]; simp
  · have hlt : decide ((K.length : Int) < m.chambers) = false := decide_eq_false (by omega)
    simp -dsimp -implicitDefEqProofs only [pick_nil, pick_cons, look_nil, look_cons, dropB_nil, dropB_cons, inD_nil, inD_cons, inE_nil, inE_cons, or_t_l, or_f_l, Nat.reduceBEq, Nat.reduceDiv, Nat.reduceAdd, beq_self_eq_true, Bool.false_eq_true, Bool.or_false, ↓reduceIte, Nat.reduceEqDiff, List.cons_append, List.nil_append]
    simp -dsimp -implicitDefEqProofs only [go_sem, ↓reduceIte, Nat.reduceEqDiff, Nat.reduceLT, Nat.reduceAdd, Nat.reduceMul, Nat.reduceLeDiff, Nat.le_refl, Int.natCast_zero, Int.toNat_natCast, Int.reduceToNat, hlt]
    all_goals simp
end Go.Vc


/-
  Contracts: impl's key at a rank; the key with a number.
-/
set_option linter.unusedVariables false
set_option linter.unusedSimpArgs false
set_option linter.unnecessarySimpa false
namespace Go.Vc
open Go.Proofs
set_option maxRecDepth 100000
set_option maxHeartbeats 4000000
theorem keyok_pos {m : MkM} (hm : isMk m = true) {k : List Int} (h : KeyOk m k) : k ≠ [] := by
  have ⟨⟨hch1, hch2⟩, hd1, hd2⟩ := isMk_num hm
  have := h.len
  intro hk
  rw [hk] at this
  simp at this
  omega
theorem allK_len8 {m : MkM} (hm : isMk m = true) : (allK m).length ≤ 262144 := by
  have ⟨⟨hch1, hch2⟩, hd1, hd2⟩ := isMk_num hm
  have : (allK m).length ≤ 8 ^ 6 := Nat.le_trans (keysFrom_len m hm _ _) (Nat.pow_le_pow_right (by decide) (by omega))
  omega
theorem c_iKeyAt (m : MkM) (hm : isMk m = true) (r : Nat) (h : r < (allK m).length) : Fn Tryz.prog 108 [eMk m, eI r] false (· = .tup [eIs (allK m)[r], eI 0]) := by
  refine Fn.of_vcS 16 [.tmp 4, .tmp 5] Tryz.func108 rfl rfl rfl rfl rfl (of_decide_eq_true rfl) ?_
  have ⟨⟨hch1, hch2⟩, hd1, hd2⟩ := isMk_num hm
  have hlen := allK_len8 hm
  obtain ⟨hk, hr⟩ := index_rank (by omega) h
  have hne := keyok_pos hm hk
  have hcut := cut_K m hm m.chambers.toNat [] ⟨0, [], ((r : Int), none)⟩ (by simp; omega) (fun x hx => by cases hx) ⟨rfl, Nat.le_refl _⟩ ⟨by show (0 : Int) ≤ (r : Int); omega, by show (r : Int) ≤ 1000000; omega⟩
  have hsp := cutF_spec m atF m.chambers.toNat [] ⟨0, [], ((r : Int), none)⟩ ⟨rfl, Nat.le_refl _⟩
  have hv : visitL atF ((r : Int), none) (keysFrom m m.chambers.toNat []) = ((-1, some (allK m)[r]), false) := visit_at _ r none h
  rw [hv] at hsp
  obtain ⟨-, hs1, hs2⟩ := hsp
  rw [hs1, hs2] at hcut
  clear hs1 hs2 hv
  generalize (allK m)[r] = K at *
  generalize cutF m atF m.chambers.toNat [] ⟨0, [], ((r : Int), none)⟩ = w at *
  simp only [List.length_nil, List.map_nil, fAV] at hcut
  have hmk := c_iIsMaker m
  rw [hm] at hmk
  clear hm
  simp -dsimp -implicitDefEqProofs only [go_sem, ↓reduceIte, Nat.reduceEqDiff, Nat.reduceLT, Nat.reduceAdd, Nat.reduceMul, Nat.reduceLeDiff, Nat.le_refl, Int.natCast_zero, Int.toNat_natCast, Int.reduceToNat]
  refine sCallT_one hmk ?_
  simp -dsimp -implicitDefEqProofs only [go_sem, ↓reduceIte, Nat.reduceEqDiff, Nat.reduceLT, Nat.reduceAdd, Nat.reduceMul, Nat.reduceLeDiff, Nat.le_refl, Int.natCast_zero, Int.toNat_natCast, Int.reduceToNat]
  refine sCallT_inl 900000 16 [] Tryz.func96 rfl rfl rfl rfl rfl (by exact of_decide_eq_true rfl) ?_
  simp -dsimp -implicitDefEqProofs only [go_sem, ↓reduceIte, Nat.reduceEqDiff, Nat.reduceLT, Nat.reduceAdd, Nat.reduceMul, Nat.reduceLeDiff, Nat.le_refl, Int.natCast_zero, Int.toNat_natCast, Int.reduceToNat]
  refine sCallT_HR 1700000000 hcut ⟨?_, ?_⟩ ⟨⟨?_, ?_⟩, ?_, ?_⟩ ?_
  · simp -dsimp -implicitDefEqProofs only [go_sem, ↓reduceIte, Nat.reduceEqDiff, Nat.reduceLT, Nat.reduceAdd, Nat.reduceMul, Nat.reduceLeDiff, Nat.le_refl, Int.natCast_zero, Int.toNat_natCast, Int.reduceToNat]
  · simp -dsimp -implicitDefEqProofs only [go_sem, ↓reduceIte, Nat.reduceEqDiff, Nat.reduceLT, Nat.reduceAdd, Nat.reduceMul, Nat.reduceLeDiff, Nat.le_refl, Int.natCast_zero, Int.toNat_natCast, Int.reduceToNat]
  · simp -dsimp -implicitDefEqProofs only [go_sem, ↓reduceIte, Nat.reduceEqDiff, Nat.reduceLT, Nat.reduceAdd, Nat.reduceMul, Nat.reduceLeDiff, Nat.le_refl, Int.natCast_zero, Int.toNat_natCast, Int.reduceToNat]
  · simp -dsimp -implicitDefEqProofs only [go_sem, ↓reduceIte, Nat.reduceEqDiff, Nat.reduceLT, Nat.reduceAdd, Nat.reduceMul, Nat.reduceLeDiff, Nat.le_refl, Int.natCast_zero, Int.toNat_natCast, Int.reduceToNat]
    simp [labs, labsL, inLs]
  · simp -dsimp -implicitDefEqProofs only [go_sem, ↓reduceIte, Nat.reduceEqDiff, Nat.reduceLT, Nat.reduceAdd, Nat.reduceMul, Nat.reduceLeDiff, Nat.le_refl, Int.natCast_zero, Int.toNat_natCast, Int.reduceToNat]
  · simp -dsimp -implicitDefEqProofs only [go_sem, ↓reduceIte, Nat.reduceEqDiff, Nat.reduceLT, Nat.reduceAdd, Nat.reduceMul, Nat.reduceLeDiff, Nat.le_refl, Int.natCast_zero, Int.toNat_natCast, Int.reduceToNat]
    simp [labs, labsL, inLs]
  · rintro r m' ⟨hr, hm'⟩
    rw [hr, hm']
    simp -dsimp -implicitDefEqProofs only [go_sem, ↓reduceIte, Nat.reduceEqDiff, Nat.reduceLT, Nat.reduceAdd, Nat.reduceMul, Nat.reduceLeDiff, Nat.le_refl, Int.natCast_zero, Int.toNat_natCast, Int.reduceToNat]
    intro c hc
    obtain rfl : c = false := by
      cases c with
      | false => rfl
      | true => exact absurd (hc rfl) (by simpa using hne)
    simp -dsimp -implicitDefEqProofs only [go_sem, ↓reduceIte, Nat.reduceEqDiff, Nat.reduceLT, Nat.reduceAdd, Nat.reduceMul, Nat.reduceLeDiff, Nat.le_refl, Int.natCast_zero, Int.toNat_natCast, Int.reduceToNat]
theorem c_keyWith (m : MkM) (hm : isMk m = true) (n sec : Int) (hn : 0 ≤ n ∧ n < allN m) (hs : 0 ≤ sec ∧ sec < allN m) (h : ((n + allN m - sec).tmod (allN m)).toNat < (allK m).length) :
    Fn Tryz.prog 60 [eMk m, eI (allN m), eI n, eI sec] false (· = eIs (allK m)[((n + allN m - sec).tmod (allN m)).toNat]) := by
  refine Fn.of_vcS 24 [.tmp 8] Tryz.func60 rfl rfl rfl rfl rfl (of_decide_eq_true rfl) ?_
  have q := c_iKeyAt m hm _ h
  have hlen := allK_len8 hm
  have hN : allN m = (allK m).length := by unfold allN; rw [allK_cnt]
  generalize (allK m)[((n + allN m - sec).tmod (allN m)).toNat] = K at *
  have hnn : 0 ≤ (n + allN m - sec).tmod (allN m) := Int.tmod_nonneg _ (by omega)
  have e1 : n - sec + allN m = n + allN m - sec := by omega
  rw [Int.toNat_of_nonneg hnn] at q
  generalize allN m = N at *
  have hNz : (N == 0) = false := beq_eq_false_iff_ne.2 (by omega)
  generalize (allK m).length = L at *
  simp -dsimp -implicitDefEqProofs only [go_sem, ↓reduceIte, Nat.reduceEqDiff, Nat.reduceLT, Nat.reduceAdd, Nat.reduceMul, Nat.reduceLeDiff, Nat.le_refl, Int.natCast_zero, Int.toNat_natCast, Int.reduceToNat, e1]
  refine Later.draw mixed rfl ?_
  simp -dsimp -implicitDefEqProofs only [go_sem, ↓reduceIte, Nat.reduceEqDiff, Nat.reduceLT, Nat.reduceAdd, Nat.reduceMul, Nat.reduceLeDiff, Nat.le_refl, Int.natCast_zero, Int.toNat_natCast, Int.reduceToNat, e1, hNz]
  ((repeat' (with_reducible refine And.intro ?_ ?_)); all_goals try (first | omega | (refine ⟨?_, ?_⟩ <;> omega) | (exact rfl)))
  refine sCallXS_one q (by simp [noLabs, labs, labsL, isClo]) ?_
  simp -dsimp -implicitDefEqProofs only [go_sem, ↓reduceIte, Nat.reduceEqDiff, Nat.reduceLT, Nat.reduceAdd, Nat.reduceMul, Nat.reduceLeDiff, Nat.le_refl, Int.natCast_zero, Int.toNat_natCast, Int.reduceToNat]
  exact rfl
end Go.Vc


/-
  Contracts: stamps made, read, moved.
-/
set_option linter.unusedVariables false
set_option linter.unusedSimpArgs false
set_option linter.unnecessarySimpa false
namespace Go.Vc
open Go.Proofs Go.Lib
set_option maxRecDepth 100000
set_option maxHeartbeats 4000000
def codeO (m : MkM) (se sec : Int) : Int := if isMk m = true then if isIn se 0 25 = true ∧ isIn sec 0 (allN m - 1) = true then 0 else 2 else 1
def atK (m : MkM) (i : Int) : List Int := (allK m).getD i.toNat []
def readO (m : MkM) (s : List UInt8) (sec : Int) : List Int × Int × Int :=
  if codeO m 0 sec = 0 then if (readS (allN m) s).2.2 = true then (atK m (((readS (allN m) s).2.1 + allN m - sec).tmod (allN m)), (readS (allN m) s).1, 0) else ([], 0, 6) else ([], 0, codeO m 0 sec)
def stampO (m : MkM) (key : List Int) (se sec : Int) : List UInt8 × Int :=
  if codeO m se sec = 0 then if fault m key = 0 then (stampS (itoa (allN m)).length se ((rankTo m key key.length + sec).tmod (allN m)), 0) else ([], 2) else ([], codeO m se sec)
def moveO (m : MkM) (s : List UInt8) (a b : Int) : List UInt8 × Int :=
  if codeO m 0 a = 0 then if codeO m 0 b = 0 then if (readS (allN m) s).2.2 = true then (stampS (itoa (allN m)).length (readS (allN m) s).1 (((readS (allN m) s).2.1 - a + b + allN m).tmod (allN m)), 0) else ([], 6) else ([], codeO m 0 b) else ([], codeO m 0 a)
theorem allN_len (m : MkM) : allN m = (allK m).length := by unfold allN; rw [allK_cnt]
theorem allN_bound {m : MkM} (hm : isMk m = true) : 0 ≤ allN m ∧ allN m ≤ 262144 := by
  have := allK_len8 hm
  rw [allN_len]; omega
theorem codeO_ok {m : MkM} {se sec : Int} (h : codeO m se sec = 0) : isMk m = true ∧ (0 ≤ se ∧ se ≤ 25) ∧ 0 ≤ sec ∧ sec < allN m := by
  unfold codeO at h
  split at h
  · rename_i hm
    split at h
    · rename_i hi
      simp only [isIn, Bool.and_eq_true, decide_eq_true_eq] at hi
      exact ⟨hm, by omega, by omega, by omega⟩
    · omega
  · omega
theorem codeO_iff {m : MkM} {se sec : Int} : codeO m se sec = 0 ↔ isMk m = true ∧ (0 ≤ se ∧ se ≤ 25) ∧ 0 ≤ sec ∧ sec < allN m := by
  refine ⟨codeO_ok, fun ⟨h1, h2, h3⟩ => ?_⟩
  unfold codeO
  rw [if_pos h1, if_pos]
  simp only [isIn, Bool.and_eq_true, decide_eq_true_eq]
  omega
theorem codeO_no {m : MkM} (h : isMk m = false) (se sec : Int) : codeO m se sec = 1 := by rw [codeO, if_neg (by rw [h]; exact fun h => by cases h)]
theorem readS_1 {K : Int} {s : List UInt8} (h : (readS K s).2.2 = true) : 0 ≤ (readS K s).1 ∧ (readS K s).1 ≤ 25 := by
  unfold readS at h ⊢
  split
  · dsimp only; omega
  · simp
theorem readI_1 {K : Int} {s : List UInt8} (h : (readI K s).2.2 = true) : (readI K s).1 = (readS K s).1 := by
  have h2 := (read_same K s).1
  rw [h] at h2
  unfold readI at h ⊢
  unfold readS at h2 ⊢
  split at h
  · rename_i q
    split at h
    · rename_i q2
      rw [if_pos q, if_pos q2]
      split at h2
      · rename_i q3; rw [if_pos q3]
      · cases h2
    · cases h
  · cases h
theorem c_l28Code (m : MkM) (se sec : Int) : Fn Tryz.prog 52 [eMk m, eI se, eI sec] true (· = eI (codeO m se sec)) := by
  refine Fn.of_vcN 21 [.tmp 6] Tryz.func52 rfl rfl rfl rfl rfl (of_decide_eq_true rfl) ?_
  have hmk := c_sIsMaker m
  unfold codeO
  rcases hm : isMk m with _ | _
  · rw [hm] at hmk
    simp only [Bool.false_eq_true, if_false]
    clear hm
    simp -dsimp -implicitDefEqProofs only [go_sem, ↓reduceIte, Nat.reduceEqDiff, Nat.reduceLT, Nat.reduceAdd, Nat.reduceMul, Nat.reduceLeDiff, Nat.le_refl, Int.natCast_zero, Int.toNat_natCast, Int.reduceToNat]
    repeat' (refine sCallT_one (hmk) ?_; try simp -dsimp -implicitDefEqProofs only [go_sem, ↓reduceIte, Nat.reduceEqDiff, Nat.reduceLT, Nat.reduceAdd, Nat.reduceMul, Nat.reduceLeDiff, Nat.le_refl, Int.natCast_zero, Int.toNat_natCast, Int.reduceToNat, *])
  · have hcn := c_l02Count0 m hm
    have hb := allN_bound hm
    have e : allN m = (cnt m m.chambers.toNat [] : Nat) := rfl
    rw [e] at hb ⊢
    rw [hm] at hmk
    clear hm e
    generalize cnt m m.chambers.toNat [] = N at *
    have i1 := c_l01In se 0 25
    have i2 := c_l01In sec 0 ((N : Int) - 1)
    simp only [if_true]
    generalize isIn se 0 25 = x at *
    generalize isIn sec 0 ((N : Int) - 1) = y at *
    cases x
    · simp only [Bool.false_eq_true, false_and, if_false]
      simp -dsimp -implicitDefEqProofs only [go_sem, ↓reduceIte, Nat.reduceEqDiff, Nat.reduceLT, Nat.reduceAdd, Nat.reduceMul, Nat.reduceLeDiff, Nat.le_refl, Int.natCast_zero, Int.toNat_natCast, Int.reduceToNat]
      repeat' (refine sCallT_one (hmk) ?_; try simp -dsimp -implicitDefEqProofs only [go_sem, ↓reduceIte, Nat.reduceEqDiff, Nat.reduceLT, Nat.reduceAdd, Nat.reduceMul, Nat.reduceLeDiff, Nat.le_refl, Int.natCast_zero, Int.toNat_natCast, Int.reduceToNat, *])
      repeat' (refine sCallT_one (i1) ?_; try simp -dsimp -implicitDefEqProofs only [go_sem, ↓reduceIte, Nat.reduceEqDiff, Nat.reduceLT, Nat.reduceAdd, Nat.reduceMul, Nat.reduceLeDiff, Nat.le_refl, Int.natCast_zero, Int.toNat_natCast, Int.reduceToNat, *])
    · cases y
      · simp only [Bool.false_eq_true, and_false, if_false]
        simp -dsimp -implicitDefEqProofs only [go_sem, ↓reduceIte, Nat.reduceEqDiff, Nat.reduceLT, Nat.reduceAdd, Nat.reduceMul, Nat.reduceLeDiff, Nat.le_refl, Int.natCast_zero, Int.toNat_natCast, Int.reduceToNat]
        repeat' (refine sCallT_one (hmk) ?_; try simp -dsimp -implicitDefEqProofs only [go_sem, ↓reduceIte, Nat.reduceEqDiff, Nat.reduceLT, Nat.reduceAdd, Nat.reduceMul, Nat.reduceLeDiff, Nat.le_refl, Int.natCast_zero, Int.toNat_natCast, Int.reduceToNat, *])
        repeat' (refine sCallT_one (i1) ?_; try simp -dsimp -implicitDefEqProofs only [go_sem, ↓reduceIte, Nat.reduceEqDiff, Nat.reduceLT, Nat.reduceAdd, Nat.reduceMul, Nat.reduceLeDiff, Nat.le_refl, Int.natCast_zero, Int.toNat_natCast, Int.reduceToNat, *])
        repeat' (refine sCallT_one (hcn) ?_; try simp -dsimp -implicitDefEqProofs only [go_sem, ↓reduceIte, Nat.reduceEqDiff, Nat.reduceLT, Nat.reduceAdd, Nat.reduceMul, Nat.reduceLeDiff, Nat.le_refl, Int.natCast_zero, Int.toNat_natCast, Int.reduceToNat, *])
        ((repeat' (with_reducible refine And.intro ?_ ?_)); all_goals try (first | omega | (refine ⟨?_, ?_⟩ <;> omega) | (exact rfl)))
        repeat' (refine sCallT_one (i2) ?_; try simp -dsimp -implicitDefEqProofs only [go_sem, ↓reduceIte, Nat.reduceEqDiff, Nat.reduceLT, Nat.reduceAdd, Nat.reduceMul, Nat.reduceLeDiff, Nat.le_refl, Int.natCast_zero, Int.toNat_natCast, Int.reduceToNat, *])
      · simp only [and_self, if_true]
        simp -dsimp -implicitDefEqProofs only [go_sem, ↓reduceIte, Nat.reduceEqDiff, Nat.reduceLT, Nat.reduceAdd, Nat.reduceMul, Nat.reduceLeDiff, Nat.le_refl, Int.natCast_zero, Int.toNat_natCast, Int.reduceToNat]
        repeat' (refine sCallT_one (hmk) ?_; try simp -dsimp -implicitDefEqProofs only [go_sem, ↓reduceIte, Nat.reduceEqDiff, Nat.reduceLT, Nat.reduceAdd, Nat.reduceMul, Nat.reduceLeDiff, Nat.le_refl, Int.natCast_zero, Int.toNat_natCast, Int.reduceToNat, *])
        repeat' (refine sCallT_one (i1) ?_; try simp -dsimp -implicitDefEqProofs only [go_sem, ↓reduceIte, Nat.reduceEqDiff, Nat.reduceLT, Nat.reduceAdd, Nat.reduceMul, Nat.reduceLeDiff, Nat.le_refl, Int.natCast_zero, Int.toNat_natCast, Int.reduceToNat, *])
        repeat' (refine sCallT_one (hcn) ?_; try simp -dsimp -implicitDefEqProofs only [go_sem, ↓reduceIte, Nat.reduceEqDiff, Nat.reduceLT, Nat.reduceAdd, Nat.reduceMul, Nat.reduceLeDiff, Nat.le_refl, Int.natCast_zero, Int.toNat_natCast, Int.reduceToNat, *])
        ((repeat' (with_reducible refine And.intro ?_ ?_)); all_goals try (first | omega | (refine ⟨?_, ?_⟩ <;> omega) | (exact rfl)))
        repeat' (refine sCallT_one (i2) ?_; try simp -dsimp -implicitDefEqProofs only [go_sem, ↓reduceIte, Nat.reduceEqDiff, Nat.reduceLT, Nat.reduceAdd, Nat.reduceMul, Nat.reduceLeDiff, Nat.le_refl, Int.natCast_zero, Int.toNat_natCast, Int.reduceToNat, *])
theorem c_CountKeys (m : MkM) : Fn Tryz.prog 58 [eMk m] true (· = .tup [eI (if isMk m = true then allN m else 0), eI (if isMk m = true then 0 else 1)]) := by
  refine Fn.of_vcN 9 [.tmp 2, .tmp 3] Tryz.func58 rfl rfl rfl rfl rfl (of_decide_eq_true rfl) ?_
  have hmk := c_iIsMaker m
  rcases hm : isMk m with _ | _
  · rw [hm] at hmk
    simp only [Bool.false_eq_true, if_false]
    clear hm
    simp -dsimp -implicitDefEqProofs only [go_sem, ↓reduceIte, Nat.reduceEqDiff, Nat.reduceLT, Nat.reduceAdd, Nat.reduceMul, Nat.reduceLeDiff, Nat.le_refl, Int.natCast_zero, Int.toNat_natCast, Int.reduceToNat]
    repeat' (refine sCallT_one (hmk) ?_; try simp -dsimp -implicitDefEqProofs only [go_sem, ↓reduceIte, Nat.reduceEqDiff, Nat.reduceLT, Nat.reduceAdd, Nat.reduceMul, Nat.reduceLeDiff, Nat.le_refl, Int.natCast_zero, Int.toNat_natCast, Int.reduceToNat, *])
  · have hcn := c_countKeys m hm
    rw [hm] at hmk
    simp only [if_true]
    clear hm
    simp -dsimp -implicitDefEqProofs only [go_sem, ↓reduceIte, Nat.reduceEqDiff, Nat.reduceLT, Nat.reduceAdd, Nat.reduceMul, Nat.reduceLeDiff, Nat.le_refl, Int.natCast_zero, Int.toNat_natCast, Int.reduceToNat]
    repeat' (refine sCallT_one (hmk) ?_; try simp -dsimp -implicitDefEqProofs only [go_sem, ↓reduceIte, Nat.reduceEqDiff, Nat.reduceLT, Nat.reduceAdd, Nat.reduceMul, Nat.reduceLeDiff, Nat.le_refl, Int.natCast_zero, Int.toNat_natCast, Int.reduceToNat, *])
    repeat' (refine sCallT_one (hcn) ?_; try simp -dsimp -implicitDefEqProofs only [go_sem, ↓reduceIte, Nat.reduceEqDiff, Nat.reduceLT, Nat.reduceAdd, Nat.reduceMul, Nat.reduceLeDiff, Nat.le_refl, Int.natCast_zero, Int.toNat_natCast, Int.reduceToNat, *])
    all_goals first | rfl | trace_state
theorem c_iStampWidth (m : MkM) : Fn Tryz.prog 14 [eMk m] true (· = .tup [eI (if isMk m = true then ((itoa (allN m)).length : Int) + 4 else 0), eI (if isMk m = true then 0 else 1)]) := by
  refine Fn.of_vcN 18 [.tmp 2, .tmp 3] Tryz.func14 rfl rfl rfl rfl rfl (of_decide_eq_true rfl) ?_
  have hmk := c_CountKeys m
  have h10 : ((1 : Int) != 0) = true := rfl
  rcases hm : isMk m with _ | _
  · rw [hm] at hmk
    simp only [Bool.false_eq_true, if_false] at hmk ⊢
    clear hm
    simp -dsimp -implicitDefEqProofs only [go_sem, ↓reduceIte, Nat.reduceEqDiff, Nat.reduceLT, Nat.reduceAdd, Nat.reduceMul, Nat.reduceLeDiff, Nat.le_refl, Int.natCast_zero, Int.toNat_natCast, Int.reduceToNat]
    repeat' (refine sCallT_one (hmk) ?_; try simp -dsimp -implicitDefEqProofs only [go_sem, ↓reduceIte, Nat.reduceEqDiff, Nat.reduceLT, Nat.reduceAdd, Nat.reduceMul, Nat.reduceLeDiff, Nat.le_refl, Int.natCast_zero, Int.toNat_natCast, Int.reduceToNat, *])
  · rw [hm] at hmk
    have hb := allN_bound hm
    simp only [if_true] at hmk ⊢
    clear hm
    have ht := c_text (n := allN m) (by unfold I64; omega)
    have hl : (itoa (allN m)).length ≤ 6 := by rw [itoa_of_nonneg (by omega)]; exact dec_len_le 5 _ (by omega)
    generalize allN m = N at *
    generalize itoa N = A at *
    simp -dsimp -implicitDefEqProofs only [go_sem, ↓reduceIte, Nat.reduceEqDiff, Nat.reduceLT, Nat.reduceAdd, Nat.reduceMul, Nat.reduceLeDiff, Nat.le_refl, Int.natCast_zero, Int.toNat_natCast, Int.reduceToNat]
    repeat' (refine sCallT_one (hmk) ?_; try simp -dsimp -implicitDefEqProofs only [go_sem, ↓reduceIte, Nat.reduceEqDiff, Nat.reduceLT, Nat.reduceAdd, Nat.reduceMul, Nat.reduceLeDiff, Nat.le_refl, Int.natCast_zero, Int.toNat_natCast, Int.reduceToNat, *])
    repeat' (refine sCallT_one (ht) ?_; try simp -dsimp -implicitDefEqProofs only [go_sem, ↓reduceIte, Nat.reduceEqDiff, Nat.reduceLT, Nat.reduceAdd, Nat.reduceMul, Nat.reduceLeDiff, Nat.le_refl, Int.natCast_zero, Int.toNat_natCast, Int.reduceToNat, *])
    ((repeat' (with_reducible refine And.intro ?_ ?_)); all_goals try (first | omega | (refine ⟨?_, ?_⟩ <;> omega) | (exact rfl)))
    all_goals trace_state
theorem c_sStampWidth (m : MkM) : Fn Tryz.prog 28 [eMk m] true (· = .tup [eI (if isMk m = true then ((itoa (allN m)).length : Int) + 4 else 0), eI (if isMk m = true then 0 else 1)]) := by
  refine Fn.of_vcN 10 [.tmp 2, .tmp 3] Tryz.func28 rfl rfl rfl rfl rfl (of_decide_eq_true rfl) ?_
  have hmk := c_sIsMaker m
  rcases hm : isMk m with _ | _
  · rw [hm] at hmk
    simp only [Bool.false_eq_true, if_false] at hmk ⊢
    clear hm
    simp -dsimp -implicitDefEqProofs only [go_sem, ↓reduceIte, Nat.reduceEqDiff, Nat.reduceLT, Nat.reduceAdd, Nat.reduceMul, Nat.reduceLeDiff, Nat.le_refl, Int.natCast_zero, Int.toNat_natCast, Int.reduceToNat]
    repeat' (refine sCallT_one (hmk) ?_; try simp -dsimp -implicitDefEqProofs only [go_sem, ↓reduceIte, Nat.reduceEqDiff, Nat.reduceLT, Nat.reduceAdd, Nat.reduceMul, Nat.reduceLeDiff, Nat.le_refl, Int.natCast_zero, Int.toNat_natCast, Int.reduceToNat, *])
  · rw [hm] at hmk
    have hb := allN_bound hm
    have hdg := c_l28Digits m hm
    simp only [if_true] at hmk ⊢
    clear hm
    have hl : (itoa (allN m)).length ≤ 6 := by rw [itoa_of_nonneg (by omega)]; exact dec_len_le 5 _ (by omega)
    have e : allN m = (cnt m m.chambers.toNat [] : Nat) := rfl
    rw [e] at hl ⊢
    generalize itoa _ = A at *
    clear e hb
    simp -dsimp -implicitDefEqProofs only [go_sem, ↓reduceIte, Nat.reduceEqDiff, Nat.reduceLT, Nat.reduceAdd, Nat.reduceMul, Nat.reduceLeDiff, Nat.le_refl, Int.natCast_zero, Int.toNat_natCast, Int.reduceToNat]
    repeat' (refine sCallT_one (hmk) ?_; try simp -dsimp -implicitDefEqProofs only [go_sem, ↓reduceIte, Nat.reduceEqDiff, Nat.reduceLT, Nat.reduceAdd, Nat.reduceMul, Nat.reduceLeDiff, Nat.le_refl, Int.natCast_zero, Int.toNat_natCast, Int.reduceToNat, *])
    repeat' (refine sCallT_one (hdg) ?_; try simp -dsimp -implicitDefEqProofs only [go_sem, ↓reduceIte, Nat.reduceEqDiff, Nat.reduceLT, Nat.reduceAdd, Nat.reduceMul, Nat.reduceLeDiff, Nat.le_refl, Int.natCast_zero, Int.toNat_natCast, Int.reduceToNat, *])
    ((repeat' (with_reducible refine And.intro ?_ ?_)); all_goals try (first | omega | (refine ⟨?_, ?_⟩ <;> omega) | (exact rfl)))
    all_goals trace_state
theorem c_iIsStamp (m : MkM) (s : List UInt8) (hs : s.length ≤ 1048576) : Fn Tryz.prog 15 [eMk m, eS s] true (· = eB (isMk m && (readS (allN m) s).2.2)) := by
  refine Fn.of_vcN 25 [.tmp 4] Tryz.func15 rfl rfl rfl rfl rfl (of_decide_eq_true rfl) ?_
  have hmk := c_CountKeys m
  have h10 : ((1 : Int) != 0) = true := rfl
  rcases hm : isMk m with _ | _
  · rw [hm] at hmk
    simp only [Bool.false_eq_true, if_false, Bool.false_and] at hmk ⊢
    clear hm
    simp -dsimp -implicitDefEqProofs only [go_sem, ↓reduceIte, Nat.reduceEqDiff, Nat.reduceLT, Nat.reduceAdd, Nat.reduceMul, Nat.reduceLeDiff, Nat.le_refl, Int.natCast_zero, Int.toNat_natCast, Int.reduceToNat]
    repeat' (refine sCallT_one (hmk) ?_; try simp -dsimp -implicitDefEqProofs only [go_sem, ↓reduceIte, Nat.reduceEqDiff, Nat.reduceLT, Nat.reduceAdd, Nat.reduceMul, Nat.reduceLeDiff, Nat.le_refl, Int.natCast_zero, Int.toNat_natCast, Int.reduceToNat, *])
  · rw [hm] at hmk
    have hb := allN_bound hm
    simp only [if_true, Bool.true_and] at hmk ⊢
    clear hm
    have hrd := c_readStamp (allN m) s (by omega) hs
    rw [← (read_same (allN m) s).1]
    generalize allN m = N at *
    generalize readI N s = R at *
    simp -dsimp -implicitDefEqProofs only [go_sem, ↓reduceIte, Nat.reduceEqDiff, Nat.reduceLT, Nat.reduceAdd, Nat.reduceMul, Nat.reduceLeDiff, Nat.le_refl, Int.natCast_zero, Int.toNat_natCast, Int.reduceToNat]
    repeat' (refine sCallT_one (hmk) ?_; try simp -dsimp -implicitDefEqProofs only [go_sem, ↓reduceIte, Nat.reduceEqDiff, Nat.reduceLT, Nat.reduceAdd, Nat.reduceMul, Nat.reduceLeDiff, Nat.le_refl, Int.natCast_zero, Int.toNat_natCast, Int.reduceToNat, *])
    repeat' (refine sCallT_one (hrd) ?_; try simp -dsimp -implicitDefEqProofs only [go_sem, ↓reduceIte, Nat.reduceEqDiff, Nat.reduceLT, Nat.reduceAdd, Nat.reduceMul, Nat.reduceLeDiff, Nat.le_refl, Int.natCast_zero, Int.toNat_natCast, Int.reduceToNat, *])
    all_goals trace_state
theorem c_sIsStamp (m : MkM) (s : List UInt8) (hs : s.length ≤ 1048576) : Fn Tryz.prog 30 [eMk m, eS s] true (· = eB (isMk m && (readS (allN m) s).2.2)) := by
  refine Fn.of_vcN 19 [.tmp 4] Tryz.func30 rfl rfl rfl rfl rfl (of_decide_eq_true rfl) ?_
  have hmk := c_sIsMaker m
  rcases hm : isMk m with _ | _
  · rw [hm] at hmk
    simp only [Bool.false_and]
    clear hm
    simp -dsimp -implicitDefEqProofs only [go_sem, ↓reduceIte, Nat.reduceEqDiff, Nat.reduceLT, Nat.reduceAdd, Nat.reduceMul, Nat.reduceLeDiff, Nat.le_refl, Int.natCast_zero, Int.toNat_natCast, Int.reduceToNat]
    repeat' (refine sCallT_one (hmk) ?_; try simp -dsimp -implicitDefEqProofs only [go_sem, ↓reduceIte, Nat.reduceEqDiff, Nat.reduceLT, Nat.reduceAdd, Nat.reduceMul, Nat.reduceLeDiff, Nat.le_refl, Int.natCast_zero, Int.toNat_natCast, Int.reduceToNat, *])
  · rw [hm] at hmk
    have hrd := c_l28Read m hm s hs
    simp only [Bool.true_and]
    clear hm
    have e : allN m = (cnt m m.chambers.toNat [] : Nat) := rfl
    rw [e]
    generalize readS _ s = R at *
    clear e
    simp -dsimp -implicitDefEqProofs only [go_sem, ↓reduceIte, Nat.reduceEqDiff, Nat.reduceLT, Nat.reduceAdd, Nat.reduceMul, Nat.reduceLeDiff, Nat.le_refl, Int.natCast_zero, Int.toNat_natCast, Int.reduceToNat]
    repeat' (refine sCallT_one (hmk) ?_; try simp -dsimp -implicitDefEqProofs only [go_sem, ↓reduceIte, Nat.reduceEqDiff, Nat.reduceLT, Nat.reduceAdd, Nat.reduceMul, Nat.reduceLeDiff, Nat.le_refl, Int.natCast_zero, Int.toNat_natCast, Int.reduceToNat, *])
    repeat' (refine sCallT_one (hrd) ?_; try simp -dsimp -implicitDefEqProofs only [go_sem, ↓reduceIte, Nat.reduceEqDiff, Nat.reduceLT, Nat.reduceAdd, Nat.reduceMul, Nat.reduceLeDiff, Nat.le_refl, Int.natCast_zero, Int.toNat_natCast, Int.reduceToNat, *])
    all_goals trace_state
theorem c_sStampOf (m : MkM) (key : List Int) (se sec : Int) (hk : key.length ≤ 1048576) : Fn Tryz.prog 9 [eMk m, eIs key, eI se, eI sec] true (· = .tup [eS (stampO m key se sec).1, eI (stampO m key se sec).2]) := by
  refine Fn.of_vcN 37 [.tmp 8, .tmp 9] Tryz.func9 rfl rfl rfl rfl rfl (of_decide_eq_true rfl) ?_
  have hcode := c_l28Code m se sec
  have h10 : ((1 : Int) != 0) = true := rfl
  have h20 : ((2 : Int) != 0) = true := rfl
  have h00 : ((0 : Int) != 0) = false := rfl
  unfold stampO
  by_cases hc : codeO m se sec = 0
  · obtain ⟨hm, hse, hsec⟩ := codeO_ok hc
    rw [hc] at hcode
    rw [if_pos hc]
    have hfa := c_l02Fault m key hm hk
    have hcn := c_l02Count0 m hm
    by_cases hf : fault m key = 0
    · rw [hf] at hfa
      rw [if_pos hf]
      have hlt := (rank_of hf).2
      have hb := cnt_nil_bound m hm
      have hrk := c_l03Rank m key hm hf
      have e : allN m = (cnt m m.chambers.toNat [] : Nat) := rfl
      rw [e] at hsec ⊢
      have hbn : 0 ≤ (rankTo m key key.length + sec).tmod (cnt m m.chambers.toNat [] : Nat) ∧ (rankTo m key key.length + sec).tmod (cnt m m.chambers.toNat [] : Nat) ≤ 1000000 := ⟨Int.tmod_nonneg _ (by omega), by
        have := Int.tmod_lt_of_pos (rankTo m key key.length + sec) (show 0 < ((cnt m m.chambers.toNat [] : Nat) : Int) by omega)
        omega⟩
      have hst := c_l28Text m hm se _ hse hbn
      generalize cnt m m.chambers.toNat [] = N at *
      generalize rankTo m key key.length = r at *
      have hN0 : ((N : Int) == 0) = false := beq_eq_false_iff_ne.2 (by omega)
      clear hm hf e hc
      generalize itoa (N : Int) = A at *
      simp -dsimp -implicitDefEqProofs only [go_sem, ↓reduceIte, Nat.reduceEqDiff, Nat.reduceLT, Nat.reduceAdd, Nat.reduceMul, Nat.reduceLeDiff, Nat.le_refl, Int.natCast_zero, Int.toNat_natCast, Int.reduceToNat]
      repeat' (refine sCallT_one (hcode) ?_; try simp -dsimp -implicitDefEqProofs only [go_sem, ↓reduceIte, Nat.reduceEqDiff, Nat.reduceLT, Nat.reduceAdd, Nat.reduceMul, Nat.reduceLeDiff, Nat.le_refl, Int.natCast_zero, Int.toNat_natCast, Int.reduceToNat, *])
      repeat' (refine sCallT_one (hfa) ?_; try simp -dsimp -implicitDefEqProofs only [go_sem, ↓reduceIte, Nat.reduceEqDiff, Nat.reduceLT, Nat.reduceAdd, Nat.reduceMul, Nat.reduceLeDiff, Nat.le_refl, Int.natCast_zero, Int.toNat_natCast, Int.reduceToNat, *])
      refine Later.draw mixed rfl ?_
      simp -dsimp -implicitDefEqProofs only [go_sem, ↓reduceIte, Nat.reduceEqDiff, Nat.reduceLT, Nat.reduceAdd, Nat.reduceMul, Nat.reduceLeDiff, Nat.le_refl, Int.natCast_zero, Int.toNat_natCast, Int.reduceToNat]
      (refine sCallX_one (hrk) ?_; try simp -dsimp -implicitDefEqProofs only [go_sem, ↓reduceIte, Nat.reduceEqDiff, Nat.reduceLT, Nat.reduceAdd, Nat.reduceMul, Nat.reduceLeDiff, Nat.le_refl, Int.natCast_zero, Int.toNat_natCast, Int.reduceToNat, *])
      ((repeat' (with_reducible refine And.intro ?_ ?_)); all_goals try (first | omega | (refine ⟨?_, ?_⟩ <;> omega) | (exact rfl)))
      (refine sCallX_one (hcn) ?_; try simp -dsimp -implicitDefEqProofs only [go_sem, ↓reduceIte, Nat.reduceEqDiff, Nat.reduceLT, Nat.reduceAdd, Nat.reduceMul, Nat.reduceLeDiff, Nat.le_refl, Int.natCast_zero, Int.toNat_natCast, Int.reduceToNat, *])
      ((repeat' (with_reducible refine And.intro ?_ ?_)); all_goals try (first | omega | (refine ⟨?_, ?_⟩ <;> omega) | (exact rfl)))
      (refine sCallX_one (hst) ?_; try simp -dsimp -implicitDefEqProofs only [go_sem, ↓reduceIte, Nat.reduceEqDiff, Nat.reduceLT, Nat.reduceAdd, Nat.reduceMul, Nat.reduceLeDiff, Nat.le_refl, Int.natCast_zero, Int.toNat_natCast, Int.reduceToNat, *])
      ((repeat' (with_reducible refine And.intro ?_ ?_)); all_goals try (first | omega | (refine ⟨?_, ?_⟩ <;> omega) | (exact rfl)))
      all_goals trace_state
    · rw [if_neg hf]
      have hz : (fault m key != 0) = true := bne_iff_ne.2 hf
      clear hm hf hc hcn
      generalize fault m key = F at *
      simp -dsimp -implicitDefEqProofs only [go_sem, ↓reduceIte, Nat.reduceEqDiff, Nat.reduceLT, Nat.reduceAdd, Nat.reduceMul, Nat.reduceLeDiff, Nat.le_refl, Int.natCast_zero, Int.toNat_natCast, Int.reduceToNat]
      repeat' (refine sCallT_one (hcode) ?_; try simp -dsimp -implicitDefEqProofs only [go_sem, ↓reduceIte, Nat.reduceEqDiff, Nat.reduceLT, Nat.reduceAdd, Nat.reduceMul, Nat.reduceLeDiff, Nat.le_refl, Int.natCast_zero, Int.toNat_natCast, Int.reduceToNat, *])
      repeat' (refine sCallT_one (hfa) ?_; try simp -dsimp -implicitDefEqProofs only [go_sem, ↓reduceIte, Nat.reduceEqDiff, Nat.reduceLT, Nat.reduceAdd, Nat.reduceMul, Nat.reduceLeDiff, Nat.le_refl, Int.natCast_zero, Int.toNat_natCast, Int.reduceToNat, *])
      all_goals trace_state
  · rw [if_neg hc]
    have hz : (codeO m se sec == 0) = false := beq_eq_false_iff_ne.2 hc
    have hz2 : (codeO m se sec != 0) = true := bne_iff_ne.2 hc
    clear hc
    generalize codeO m se sec = C at *
    simp -dsimp -implicitDefEqProofs only [go_sem, ↓reduceIte, Nat.reduceEqDiff, Nat.reduceLT, Nat.reduceAdd, Nat.reduceMul, Nat.reduceLeDiff, Nat.le_refl, Int.natCast_zero, Int.toNat_natCast, Int.reduceToNat]
    repeat' (refine sCallT_one (hcode) ?_; try simp -dsimp -implicitDefEqProofs only [go_sem, ↓reduceIte, Nat.reduceEqDiff, Nat.reduceLT, Nat.reduceAdd, Nat.reduceMul, Nat.reduceLeDiff, Nat.le_refl, Int.natCast_zero, Int.toNat_natCast, Int.reduceToNat, *])
    all_goals trace_state
end Go.Vc


/-
  Draws of stamps.
-/
set_option linter.unusedVariables false
set_option linter.unusedSimpArgs false
set_option linter.unnecessarySimpa false
namespace Go.Vc
open Go.Proofs Go.Lib
set_option maxRecDepth 100000
set_option maxHeartbeats 4000000
def serD (bs : List UInt8) (s : Src) : Int × Src := if (nx bs 20 s).1 = 0 then pk bs [-1, 25, 26] (nx bs 20 s).2 else nx bs 26 (nx bs 20 s).2
theorem serD_ok (bs : List UInt8) {s : Src} (h : SrcOk s) : SrcOk (serD bs s).2 ∧ -1 ≤ (serD bs s).1 ∧ (serD bs s).1 ≤ 26 := by
  have h1 := (nx_ok bs 20 h).2.2.2
  have h2 := nx_ok bs 26 h1
  unfold serD
  split
  · refine ⟨pk_ok _ _ h1, ?_⟩
    have := pk_mem bs h1 (xs := [-1, 25, 26]) (by simp)
    simp only [List.mem_cons, List.not_mem_nil, or_false] at this
    rcases this with h | h | h <;> omega
  · have := h2.2.2.1 (by omega)
    exact ⟨h2.2.2.2, by omega, by omega⟩
theorem c_l28DrawSeries (v : Nat) (bs : List UInt8) (s : Src) (h : SrcOk s) (hl : bs.length ≤ 4096) :
    FnM Tryz.prog 46 [srcB v bs s] [.ptr 1000000000 v 0 0] (fun x io => x = eI (serD bs s).1 ∧ io = [srcB v bs (serD bs s).2]) := by
  refine FnM.of_vcN 11 [.tmp 2] Tryz.func46 rfl rfl rfl rfl rfl (of_decide_eq_true rfl) ?_
  have h1 := nx_ok bs 20 h
  have q1 := fun v => c_l01Next v bs 20 _ h hl
  unfold serD
  generalize nx bs 20 s = a at *
  have h2 := nx_ok bs 26 h1.2.2.2
  have q2 := fun v => c_l01Next v bs 26 _ h1.2.2.2 hl
  have qp := fun v v2 => c_l01Pick v v2 true bs [-1, 25, 26] _ a.2 rfl (by simp) (by simp) h1.2.2.2 hl
  generalize nx bs 26 a.2 = b at *
  generalize pk bs [-1, 25, 26] a.2 = c at *
  simp -dsimp -implicitDefEqProofs only [go_sem, ↓reduceIte, Nat.reduceEqDiff, Nat.reduceLT, Nat.reduceAdd, Nat.reduceMul, Nat.reduceLeDiff, Nat.le_refl, Int.natCast_zero, Int.toNat_natCast, Int.reduceToNat]
  (refine sCallT_io [1000000000] ?_; simp -dsimp -implicitDefEqProofs only [go_sem, ↓reduceIte, Nat.reduceEqDiff, Nat.reduceLT, Nat.reduceAdd, Nat.reduceMul, Nat.reduceLeDiff, Nat.le_refl, Int.natCast_zero, Int.toNat_natCast, Int.reduceToNat]; refine sCallM_one (q1 _) ?_; simp -dsimp -implicitDefEqProofs only [go_sem, ↓reduceIte, Nat.reduceEqDiff, Nat.reduceLT, Nat.reduceAdd, Nat.reduceMul, Nat.reduceLeDiff, Nat.le_refl, Int.natCast_zero, Int.toNat_natCast, Int.reduceToNat])
  rcases b0 : (a.1 == 0) with _ | _
  · have e0 : ¬ a.1 = 0 := beq_eq_false_iff_ne.1 b0
    rw [if_neg e0]
    simp -dsimp -implicitDefEqProofs only [go_sem, ↓reduceIte, Nat.reduceEqDiff, Nat.reduceLT, Nat.reduceAdd, Nat.reduceMul, Nat.reduceLeDiff, Nat.le_refl, Int.natCast_zero, Int.toNat_natCast, Int.reduceToNat, b0]
    (refine sCallT_io [1000000000] ?_; simp -dsimp -implicitDefEqProofs only [go_sem, ↓reduceIte, Nat.reduceEqDiff, Nat.reduceLT, Nat.reduceAdd, Nat.reduceMul, Nat.reduceLeDiff, Nat.le_refl, Int.natCast_zero, Int.toNat_natCast, Int.reduceToNat]; refine sCallM_one (q2 _) ?_; simp -dsimp -implicitDefEqProofs only [go_sem, ↓reduceIte, Nat.reduceEqDiff, Nat.reduceLT, Nat.reduceAdd, Nat.reduceMul, Nat.reduceLeDiff, Nat.le_refl, Int.natCast_zero, Int.toNat_natCast, Int.reduceToNat])
  · have e0 : a.1 = 0 := beq_iff_eq.1 b0
    rw [if_pos e0]
    simp -dsimp -implicitDefEqProofs only [go_sem, ↓reduceIte, Nat.reduceEqDiff, Nat.reduceLT, Nat.reduceAdd, Nat.reduceMul, Nat.reduceLeDiff, Nat.le_refl, Int.natCast_zero, Int.toNat_natCast, Int.reduceToNat, b0]
    (refine sCallT_io [1000000000, 7] ?_; simp -dsimp -implicitDefEqProofs only [go_sem, ↓reduceIte, Nat.reduceEqDiff, Nat.reduceLT, Nat.reduceAdd, Nat.reduceMul, Nat.reduceLeDiff, Nat.le_refl, Int.natCast_zero, Int.toNat_natCast, Int.reduceToNat]; refine sCallM_one (qp _ _) ?_; simp -dsimp -implicitDefEqProofs only [go_sem, ↓reduceIte, Nat.reduceEqDiff, Nat.reduceLT, Nat.reduceAdd, Nat.reduceMul, Nat.reduceLeDiff, Nat.le_refl, Int.natCast_zero, Int.toNat_natCast, Int.reduceToNat])
def secD (bs : List UInt8) (m : MkM) (s : Src) : Int × Src :=
  if isMk m = true then (if (nx bs 20 s).1 = 0 then pk bs [-1, allN m, allN m - 1] (nx bs 20 s).2 else nx bs (allN m) (nx bs 20 s).2) else nx bs 5 s
theorem secD_ok (bs : List UInt8) (m : MkM) {s : Src} (h : SrcOk s) : SrcOk (secD bs m s).2 := by
  unfold secD
  split
  · split
    · exact pk_ok _ _ (nx_ok bs 20 h).2.2.2
    · exact (nx_ok bs _ (nx_ok bs 20 h).2.2.2).2.2.2
  · exact (nx_ok bs 5 h).2.2.2
theorem c_l28DrawSecret (v : Nat) (bs : List UInt8) (m : MkM) (s : Src) (h : SrcOk s) (hl : bs.length ≤ 4096) :
    FnM Tryz.prog 47 [srcB v bs s] [.ptr 1000000000 v 0 0, eMk m] (fun x io => x = eI (secD bs m s).1 ∧ io = [srcB v bs (secD bs m s).2]) := by
  refine FnM.of_vcN 25 [.tmp 4] Tryz.func47 rfl rfl rfl rfl rfl (of_decide_eq_true rfl) ?_
  have h1 := nx_ok bs 20 h
  have q0 := fun v => c_l01Next v bs 5 _ h hl
  have q1 := fun v => c_l01Next v bs 20 _ h hl
  have hmk := c_sIsMaker m
  unfold secD
  rcases hm : isMk m with _ | _
  · rw [hm] at hmk
    simp only [Bool.false_eq_true, if_false]
    clear hm q1
    generalize nx bs 5 s = a at *
    simp -dsimp -implicitDefEqProofs only [go_sem, ↓reduceIte, Nat.reduceEqDiff, Nat.reduceLT, Nat.reduceAdd, Nat.reduceMul, Nat.reduceLeDiff, Nat.le_refl, Int.natCast_zero, Int.toNat_natCast, Int.reduceToNat]
    repeat' (refine sCallT_one (hmk) ?_; try simp -dsimp -implicitDefEqProofs only [go_sem, ↓reduceIte, Nat.reduceEqDiff, Nat.reduceLT, Nat.reduceAdd, Nat.reduceMul, Nat.reduceLeDiff, Nat.le_refl, Int.natCast_zero, Int.toNat_natCast, Int.reduceToNat, *])
    (refine sCallT_io [1000000000] ?_; simp -dsimp -implicitDefEqProofs only [go_sem, ↓reduceIte, Nat.reduceEqDiff, Nat.reduceLT, Nat.reduceAdd, Nat.reduceMul, Nat.reduceLeDiff, Nat.le_refl, Int.natCast_zero, Int.toNat_natCast, Int.reduceToNat]; refine sCallM_one (q0 _) ?_; simp -dsimp -implicitDefEqProofs only [go_sem, ↓reduceIte, Nat.reduceEqDiff, Nat.reduceLT, Nat.reduceAdd, Nat.reduceMul, Nat.reduceLeDiff, Nat.le_refl, Int.natCast_zero, Int.toNat_natCast, Int.reduceToNat])
  · rw [hm] at hmk
    simp only [if_true]
    have hb := allN_bound hm
    have hcn := c_l02Count0 m hm
    have e : (cnt m m.chambers.toNat [] : Nat) = allN m := rfl
    rw [e] at hcn
    clear hm q0 e
    generalize allN m = N at *
    generalize nx bs 20 s = a at *
    have q2 := fun v => c_l01Next v bs N _ h1.2.2.2 hl
    have qp := fun v v2 => c_l01Pick v v2 true bs [-1, N, N - 1] _ a.2 rfl (by simp) (by simp) h1.2.2.2 hl
    generalize nx bs N a.2 = b at *
    generalize pk bs [-1, N, N - 1] a.2 = c at *
    simp -dsimp -implicitDefEqProofs only [go_sem, ↓reduceIte, Nat.reduceEqDiff, Nat.reduceLT, Nat.reduceAdd, Nat.reduceMul, Nat.reduceLeDiff, Nat.le_refl, Int.natCast_zero, Int.toNat_natCast, Int.reduceToNat]
    repeat' (refine sCallT_one (hmk) ?_; try simp -dsimp -implicitDefEqProofs only [go_sem, ↓reduceIte, Nat.reduceEqDiff, Nat.reduceLT, Nat.reduceAdd, Nat.reduceMul, Nat.reduceLeDiff, Nat.le_refl, Int.natCast_zero, Int.toNat_natCast, Int.reduceToNat, *])
    repeat' (refine sCallT_one (hcn) ?_; try simp -dsimp -implicitDefEqProofs only [go_sem, ↓reduceIte, Nat.reduceEqDiff, Nat.reduceLT, Nat.reduceAdd, Nat.reduceMul, Nat.reduceLeDiff, Nat.le_refl, Int.natCast_zero, Int.toNat_natCast, Int.reduceToNat, *])
    (refine sCallT_io [1000000000] ?_; simp -dsimp -implicitDefEqProofs only [go_sem, ↓reduceIte, Nat.reduceEqDiff, Nat.reduceLT, Nat.reduceAdd, Nat.reduceMul, Nat.reduceLeDiff, Nat.le_refl, Int.natCast_zero, Int.toNat_natCast, Int.reduceToNat]; refine sCallM_one (q1 _) ?_; simp -dsimp -implicitDefEqProofs only [go_sem, ↓reduceIte, Nat.reduceEqDiff, Nat.reduceLT, Nat.reduceAdd, Nat.reduceMul, Nat.reduceLeDiff, Nat.le_refl, Int.natCast_zero, Int.toNat_natCast, Int.reduceToNat])
    rcases b0 : (a.1 == 0) with _ | _
    · have e0 : ¬ a.1 = 0 := beq_eq_false_iff_ne.1 b0
      rw [if_neg e0]
      simp -dsimp -implicitDefEqProofs only [go_sem, ↓reduceIte, Nat.reduceEqDiff, Nat.reduceLT, Nat.reduceAdd, Nat.reduceMul, Nat.reduceLeDiff, Nat.le_refl, Int.natCast_zero, Int.toNat_natCast, Int.reduceToNat, b0]
      (refine sCallT_io [1000000000] ?_; simp -dsimp -implicitDefEqProofs only [go_sem, ↓reduceIte, Nat.reduceEqDiff, Nat.reduceLT, Nat.reduceAdd, Nat.reduceMul, Nat.reduceLeDiff, Nat.le_refl, Int.natCast_zero, Int.toNat_natCast, Int.reduceToNat]; refine sCallM_one (q2 _) ?_; simp -dsimp -implicitDefEqProofs only [go_sem, ↓reduceIte, Nat.reduceEqDiff, Nat.reduceLT, Nat.reduceAdd, Nat.reduceMul, Nat.reduceLeDiff, Nat.le_refl, Int.natCast_zero, Int.toNat_natCast, Int.reduceToNat])
    · have e0 : a.1 = 0 := beq_iff_eq.1 b0
      rw [if_pos e0]
      simp -dsimp -implicitDefEqProofs only [go_sem, ↓reduceIte, Nat.reduceEqDiff, Nat.reduceLT, Nat.reduceAdd, Nat.reduceMul, Nat.reduceLeDiff, Nat.le_refl, Int.natCast_zero, Int.toNat_natCast, Int.reduceToNat, b0]
      ((repeat' (with_reducible refine And.intro ?_ ?_)); all_goals try (first | omega | (refine ⟨?_, ?_⟩ <;> omega) | (exact rfl)))
      (refine sCallT_io [1000000000, 20] ?_; simp -dsimp -implicitDefEqProofs only [go_sem, ↓reduceIte, Nat.reduceEqDiff, Nat.reduceLT, Nat.reduceAdd, Nat.reduceMul, Nat.reduceLeDiff, Nat.le_refl, Int.natCast_zero, Int.toNat_natCast, Int.reduceToNat]; refine sCallM_one (qp _ _) ?_; simp -dsimp -implicitDefEqProofs only [go_sem, ↓reduceIte, Nat.reduceEqDiff, Nat.reduceLT, Nat.reduceAdd, Nat.reduceMul, Nat.reduceLeDiff, Nat.le_refl, Int.natCast_zero, Int.toNat_natCast, Int.reduceToNat])
def keyD (bs : List UInt8) (m : MkM) (s : Src) : List Int × Src :=
  if isMk m = true then (if (nx bs 12 (cutsD bs m s).2).1 = 0 then ((cutsD bs m s).1, (nx bs 12 (cutsD bs m s).2).2) else
    (someK m (cutsTo bs m.depths (nx bs 12 (cutsD bs m s).2).2 m.chambers.toNat).1, (cutsTo bs m.depths (nx bs 12 (cutsD bs m s).2).2 m.chambers.toNat).2)) else cutsD bs m s
theorem keyD_ok (bs : List UInt8) {m : MkM} (hb : MkB m) {s : Src} (h : SrcOk s) : SrcOk (keyD bs m s).2 ∧ (keyD bs m s).1.length ≤ 20 := by
  have hc := hb.c
  have hcl := (cutsD_ok (bs := bs) hb h).2
  have hco := (cutsD_ok (bs := bs) hb h).1
  unfold keyD
  split
  · rename_i hm
    have o1 := (nx_ok bs 12 hco).2.2.2
    split
    · exact ⟨o1, by dsimp only; omega⟩
    · have hn := isMk_num hm
      have hct := cutsTo_ok (bs := bs) (D := m.depths) o1 (by omega) m.chambers.toNat
      obtain ⟨k1, k2, k3⟩ := hct
      have := someK_ok hm (c := (cutsTo bs m.depths (nx bs 12 (cutsD bs m s).2).2 m.chambers.toNat).1) (by omega) k3
      exact ⟨k1, by dsimp only; omega⟩
  · exact ⟨hco, by omega⟩
theorem c_l02DrawKey (v : Nat) (bs : List UInt8) (m : MkM) (s : Src) (hb : MkB m) (h : SrcOk s) (hl : bs.length ≤ 4096) :
    FnMR Tryz.prog 45 [srcB v bs s] [.ptr 1000000000 v 0 0, eMk m] (fun x io => x = eIs (keyD bs m s).1 ∧ io = [srcB v bs (keyD bs m s).2]) := by
  refine FnMR.of_vc 21 [.tmp 4] Tryz.func45 rfl rfl rfl rfl rfl (of_decide_eq_true rfl) ?_
  have q1 := fun v => c_l02DrawCuts v bs m _ hb h hl
  have hco := (cutsD_ok (bs := bs) hb h).1
  have hmk := c_sIsMaker m
  unfold keyD
  generalize cutsD bs m s = a at *
  rcases hm : isMk m with _ | _
  · rw [hm] at hmk
    simp only [Bool.false_eq_true, if_false]
    clear hm
    simp -dsimp -implicitDefEqProofs only [go_sem, ↓reduceIte, Nat.reduceEqDiff, Nat.reduceLT, Nat.reduceAdd, Nat.reduceMul, Nat.reduceLeDiff, Nat.le_refl, Int.natCast_zero, Int.toNat_natCast, Int.reduceToNat]
    (refine sCallT_io [1000000000] ?_; simp -dsimp -implicitDefEqProofs only [go_sem, ↓reduceIte, Nat.reduceEqDiff, Nat.reduceLT, Nat.reduceAdd, Nat.reduceMul, Nat.reduceLeDiff, Nat.le_refl, Int.natCast_zero, Int.toNat_natCast, Int.reduceToNat]; refine sCallM_one (q1 _) ?_; simp -dsimp -implicitDefEqProofs only [go_sem, ↓reduceIte, Nat.reduceEqDiff, Nat.reduceLT, Nat.reduceAdd, Nat.reduceMul, Nat.reduceLeDiff, Nat.le_refl, Int.natCast_zero, Int.toNat_natCast, Int.reduceToNat])
    repeat' (refine sCallT_one (hmk) ?_; try simp -dsimp -implicitDefEqProofs only [go_sem, ↓reduceIte, Nat.reduceEqDiff, Nat.reduceLT, Nat.reduceAdd, Nat.reduceMul, Nat.reduceLeDiff, Nat.le_refl, Int.natCast_zero, Int.toNat_natCast, Int.reduceToNat, *])
  · have o1 := nx_ok bs 12 hco
    have q2 := fun v => c_l01Next v bs 12 _ hco hl
    generalize nx bs 12 a.2 = b at *
    have q3 := fun v => c_l02Some v bs b.2 m o1.2.2.2 hm hl
    rw [hm] at hmk
    simp only [if_true]
    generalize cutsTo bs m.depths b.2 m.chambers.toNat = c at *
    clear hm
    generalize someK m c.1 = K at *
    simp -dsimp -implicitDefEqProofs only [go_sem, ↓reduceIte, Nat.reduceEqDiff, Nat.reduceLT, Nat.reduceAdd, Nat.reduceMul, Nat.reduceLeDiff, Nat.le_refl, Int.natCast_zero, Int.toNat_natCast, Int.reduceToNat]
    (refine sCallT_io [1000000000] ?_; simp -dsimp -implicitDefEqProofs only [go_sem, ↓reduceIte, Nat.reduceEqDiff, Nat.reduceLT, Nat.reduceAdd, Nat.reduceMul, Nat.reduceLeDiff, Nat.le_refl, Int.natCast_zero, Int.toNat_natCast, Int.reduceToNat]; refine sCallM_one (q1 _) ?_; simp -dsimp -implicitDefEqProofs only [go_sem, ↓reduceIte, Nat.reduceEqDiff, Nat.reduceLT, Nat.reduceAdd, Nat.reduceMul, Nat.reduceLeDiff, Nat.le_refl, Int.natCast_zero, Int.toNat_natCast, Int.reduceToNat])
    repeat' (refine sCallT_one (hmk) ?_; try simp -dsimp -implicitDefEqProofs only [go_sem, ↓reduceIte, Nat.reduceEqDiff, Nat.reduceLT, Nat.reduceAdd, Nat.reduceMul, Nat.reduceLeDiff, Nat.le_refl, Int.natCast_zero, Int.toNat_natCast, Int.reduceToNat, *])
    rcases b0 : (b.1 == 0) with _ | _
    · have e0 : ¬ b.1 = 0 := beq_eq_false_iff_ne.1 b0
      rw [if_neg e0]
      (refine sCallT_io [1000000000] ?_; simp -dsimp -implicitDefEqProofs only [go_sem, ↓reduceIte, Nat.reduceEqDiff, Nat.reduceLT, Nat.reduceAdd, Nat.reduceMul, Nat.reduceLeDiff, Nat.le_refl, Int.natCast_zero, Int.toNat_natCast, Int.reduceToNat]; refine sCallM_one (q2 _) ?_; simp -dsimp -implicitDefEqProofs only [go_sem, ↓reduceIte, Nat.reduceEqDiff, Nat.reduceLT, Nat.reduceAdd, Nat.reduceMul, Nat.reduceLeDiff, Nat.le_refl, Int.natCast_zero, Int.toNat_natCast, Int.reduceToNat])
      simp -dsimp -implicitDefEqProofs only [go_sem, ↓reduceIte, Nat.reduceEqDiff, Nat.reduceLT, Nat.reduceAdd, Nat.reduceMul, Nat.reduceLeDiff, Nat.le_refl, Int.natCast_zero, Int.toNat_natCast, Int.reduceToNat, b0]
      refine sCallT_ioR [1000000000] ?_
      simp -dsimp -implicitDefEqProofs only [go_sem, ↓reduceIte, Nat.reduceEqDiff, Nat.reduceLT, Nat.reduceAdd, Nat.reduceMul, Nat.reduceLeDiff, Nat.le_refl, Int.natCast_zero, Int.toNat_natCast, Int.reduceToNat]
      refine sCallMR_any (q3 _) ?_
      rintro _ _ ⟨rfl, rfl⟩
      simp -dsimp -implicitDefEqProofs only [go_sem, ↓reduceIte, Nat.reduceEqDiff, Nat.reduceLT, Nat.reduceAdd, Nat.reduceMul, Nat.reduceLeDiff, Nat.le_refl, Int.natCast_zero, Int.toNat_natCast, Int.reduceToNat]
    · have e0 : b.1 = 0 := beq_iff_eq.1 b0
      rw [if_pos e0]
      (refine sCallT_io [1000000000] ?_; simp -dsimp -implicitDefEqProofs only [go_sem, ↓reduceIte, Nat.reduceEqDiff, Nat.reduceLT, Nat.reduceAdd, Nat.reduceMul, Nat.reduceLeDiff, Nat.le_refl, Int.natCast_zero, Int.toNat_natCast, Int.reduceToNat]; refine sCallM_one (q2 _) ?_; simp -dsimp -implicitDefEqProofs only [go_sem, ↓reduceIte, Nat.reduceEqDiff, Nat.reduceLT, Nat.reduceAdd, Nat.reduceMul, Nat.reduceLeDiff, Nat.le_refl, Int.natCast_zero, Int.toNat_natCast, Int.reduceToNat])
      simp -dsimp -implicitDefEqProofs only [go_sem, ↓reduceIte, Nat.reduceEqDiff, Nat.reduceLT, Nat.reduceAdd, Nat.reduceMul, Nat.reduceLeDiff, Nat.le_refl, Int.natCast_zero, Int.toNat_natCast, Int.reduceToNat, b0]
def stT (bs : List UInt8) (m : MkM) (a b c d : Int × Src) : List UInt8 × Src :=
  if d.1 = 0 then damage bs (stampS (itoa (allN m)).length a.1 c.1) d.2 else (stampS (itoa (allN m)).length a.1 c.1, d.2)
def stC (bs : List UInt8) (m : MkM) (a b : Int × Src) : List UInt8 × Src :=
  stT bs m a b (nx bs (allN m + b.1.tdiv 11) b.2) (nx bs 3 (nx bs (allN m + b.1.tdiv 11) b.2).2)
def stB (bs : List UInt8) (m : MkM) (s : Src) : List UInt8 × Src :=
  if isMk m = true then stC bs m (nx bs 26 s) (nx bs 12 (nx bs 26 s).2) else ([65, 48, 45, 48, 48], s)
def stD (bs : List UInt8) (s : Src) : MkM × List UInt8 × Src := ((mkD bs s).1, stB bs (mkD bs s).1 (mkD bs s).2)
theorem tdiv_11 {x : Int} (h : 0 ≤ x ∧ x < 12) : 0 ≤ x.tdiv 11 ∧ x.tdiv 11 ≤ 1 := by
  rw [Int.tdiv_eq_ediv_of_nonneg h.1]; omega
theorem stampS_len8 {w : Nat} {se n : Int} (hw : w ≤ 6) (hse : 0 ≤ se ∧ se ≤ 25) (hn : 0 ≤ n ∧ n ≤ 1000000) : (stampS w se n).length ≤ 1000 := by
  have h1 : (itoa n).length ≤ 7 := by rw [itoa_of_nonneg (by omega)]; exact dec_len_le 6 _ (by omega)
  have h2 : (itoa (chk se n)).length ≤ 21 := by
    have := chk_bound hse hn
    exact itoa_length_le _ (by omega) (by omega)
  simp only [stampS, padS, List.length_append, List.length_cons, List.length_nil, List.length_replicate]
  omega
theorem stB_ok (bs : List UInt8) {m : MkM} {s : Src} (h : SrcOk s) : SrcOk (stB bs m s).2 ∧ (stB bs m s).1.length ≤ 1001 := by
  unfold stB
  split
  · rename_i hm
    have hb := allN_bound hm
    have hw6 : (itoa (allN m)).length ≤ 6 := by rw [itoa_of_nonneg (by omega)]; exact dec_len_le 5 _ (by omega)
    have h1 := nx_ok bs 26 h
    generalize nx bs 26 s = a at *
    have h2 := nx_ok bs 12 h1.2.2.2
    generalize nx bs 12 a.2 = b at *
    unfold stC
    have hd := tdiv_11 (x := b.1) ⟨h2.1, h2.2.2.1 (by omega)⟩
    have h3 := nx_ok bs (allN m + b.1.tdiv 11) h2.2.2.2
    have h3' : (nx bs (allN m + b.1.tdiv 11) b.2).1 ≤ 262145 := by
      by_cases hz : allN m + b.1.tdiv 11 ≤ 1
      · rw [h3.2.1 hz]; omega
      · have := h3.2.2.1 (by omega); omega
    generalize nx bs (allN m + b.1.tdiv 11) b.2 = c at *
    have h4 := nx_ok bs 3 h3.2.2.2
    generalize nx bs 3 c.2 = d at *
    have hl := stampS_len8 (w := (itoa (allN m)).length) (se := a.1) (n := c.1) hw6 ⟨h1.1, by have := h1.2.2.1 (by omega); omega⟩ (by omega)
    unfold stT
    split
    · have := damage_ok bs (stampS (itoa (allN m)).length a.1 c.1) h4.2.2.2
      exact ⟨this.1, by omega⟩
    · exact ⟨h4.2.2.2, by dsimp only; omega⟩
  · exact ⟨h, by simp⟩
theorem c_l28Draw (v : Nat) (bs : List UInt8) (s : Src) (h : SrcOk s) (hl : bs.length ≤ 4096) :
    FnM Tryz.prog 57 [srcB v bs s] [.ptr 1000000000 v 0 0] (fun x io => x = .tup [eMk (stD bs s).1, eS (stD bs s).2.1] ∧ io = [srcB v bs (stD bs s).2.2]) := by
  refine FnM.of_vcN 33 [.cell 2 25, .tmp 3] Tryz.func57 rfl rfl rfl rfl rfl (of_decide_eq_true rfl) ?_
  have q0 := fun v => c_l02Draw v bs s h hl
  have o0 := mkD_ok bs h
  unfold stD
  generalize mkD bs s = p at *
  obtain ⟨m, s1⟩ := p
  dsimp only at o0 q0 ⊢
  have hmk := c_sIsMaker m
  unfold stB
  rcases hm : isMk m with _ | _
  · rw [hm] at hmk
    simp only [Bool.false_eq_true, if_false]
    clear hm
    simp -dsimp -implicitDefEqProofs only [go_sem, ↓reduceIte, Nat.reduceEqDiff, Nat.reduceLT, Nat.reduceAdd, Nat.reduceMul, Nat.reduceLeDiff, Nat.le_refl, Int.natCast_zero, Int.toNat_natCast, Int.reduceToNat]
    (refine sCallT_io [1000000000] ?_; simp -dsimp -implicitDefEqProofs only [go_sem, ↓reduceIte, Nat.reduceEqDiff, Nat.reduceLT, Nat.reduceAdd, Nat.reduceMul, Nat.reduceLeDiff, Nat.le_refl, Int.natCast_zero, Int.toNat_natCast, Int.reduceToNat]; refine sCallM_one (q0 _) ?_; simp -dsimp -implicitDefEqProofs only [go_sem, ↓reduceIte, Nat.reduceEqDiff, Nat.reduceLT, Nat.reduceAdd, Nat.reduceMul, Nat.reduceLeDiff, Nat.le_refl, Int.natCast_zero, Int.toNat_natCast, Int.reduceToNat])
    repeat' (refine sCallT_one (hmk) ?_; try simp -dsimp -implicitDefEqProofs only [go_sem, ↓reduceIte, Nat.reduceEqDiff, Nat.reduceLT, Nat.reduceAdd, Nat.reduceMul, Nat.reduceLeDiff, Nat.le_refl, Int.natCast_zero, Int.toNat_natCast, Int.reduceToNat, *])
  · rw [hm] at hmk
    simp only [if_true]
    have hb := allN_bound hm
    have hw6 : (itoa (allN m)).length ≤ 6 := by rw [itoa_of_nonneg (by omega)]; exact dec_len_le 5 _ (by omega)
    have h1 := nx_ok bs 26 o0
    have q1 := fun v => c_l01Next v bs 26 _ o0 hl
    generalize nx bs 26 s1 = a at *
    have h2 := nx_ok bs 12 h1.2.2.2
    have q2 := fun v => c_l01Next v bs 12 _ h1.2.2.2 hl
    generalize nx bs 12 a.2 = b at *
    unfold stC
    have hd := tdiv_11 (x := b.1) ⟨h2.1, h2.2.2.1 (by omega)⟩
    have h3 := nx_ok bs (allN m + b.1.tdiv 11) h2.2.2.2
    have q3 := fun v => c_l01Next v bs (allN m + b.1.tdiv 11) _ h2.2.2.2 hl
    have h3' : (nx bs (allN m + b.1.tdiv 11) b.2).1 ≤ 262145 := by
      by_cases hz : allN m + b.1.tdiv 11 ≤ 1
      · rw [h3.2.1 hz]; omega
      · have := h3.2.2.1 (by omega); omega
    generalize nx bs (allN m + b.1.tdiv 11) b.2 = c at *
    have h4 := nx_ok bs 3 h3.2.2.2
    have q4 := fun v => c_l01Next v bs 3 _ h3.2.2.2 hl
    generalize nx bs 3 c.2 = d at *
    have ha : 0 ≤ a.1 ∧ a.1 ≤ 25 := ⟨h1.1, by have := h1.2.2.1 (by omega); omega⟩
    have hln := stampS_len8 (w := (itoa (allN m)).length) (se := a.1) (n := c.1) hw6 ha (by omega)
    have htx := c_l28Text m hm a.1 c.1 ha (by omega)
    have hcn := c_l02Count0 m hm
    have e : (cnt m m.chambers.toNat [] : Nat) = allN m := rfl
    rw [e] at hcn htx
    have qd := fun v => c_l01Damage v bs (stampS (itoa (allN m)).length a.1 c.1) d.2 h4.2.2.2 hl (by omega)
    unfold stT
    generalize stampS (itoa (allN m)).length a.1 c.1 = T at *
    generalize damage bs T d.2 = D at *
    have hx := h2.2.2.1 (by omega)
    clear hm e hw6
    generalize allN m = N at *
    simp -dsimp -implicitDefEqProofs only [go_sem, ↓reduceIte, Nat.reduceEqDiff, Nat.reduceLT, Nat.reduceAdd, Nat.reduceMul, Nat.reduceLeDiff, Nat.le_refl, Int.natCast_zero, Int.toNat_natCast, Int.reduceToNat]
    (refine sCallT_io [1000000000] ?_; simp -dsimp -implicitDefEqProofs only [go_sem, ↓reduceIte, Nat.reduceEqDiff, Nat.reduceLT, Nat.reduceAdd, Nat.reduceMul, Nat.reduceLeDiff, Nat.le_refl, Int.natCast_zero, Int.toNat_natCast, Int.reduceToNat]; refine sCallM_one (q0 _) ?_; simp -dsimp -implicitDefEqProofs only [go_sem, ↓reduceIte, Nat.reduceEqDiff, Nat.reduceLT, Nat.reduceAdd, Nat.reduceMul, Nat.reduceLeDiff, Nat.le_refl, Int.natCast_zero, Int.toNat_natCast, Int.reduceToNat])
    repeat' (refine sCallT_one (hmk) ?_; try simp -dsimp -implicitDefEqProofs only [go_sem, ↓reduceIte, Nat.reduceEqDiff, Nat.reduceLT, Nat.reduceAdd, Nat.reduceMul, Nat.reduceLeDiff, Nat.le_refl, Int.natCast_zero, Int.toNat_natCast, Int.reduceToNat, *])
    refine Later.draw mixed rfl ?_
    simp -dsimp -implicitDefEqProofs only [go_sem, ↓reduceIte, Nat.reduceEqDiff, Nat.reduceLT, Nat.reduceAdd, Nat.reduceMul, Nat.reduceLeDiff, Nat.le_refl, Int.natCast_zero, Int.toNat_natCast, Int.reduceToNat]
    (refine sCallX_io [1000000000] rfl ?_; simp -dsimp -implicitDefEqProofs only [go_sem, ↓reduceIte, Nat.reduceEqDiff, Nat.reduceLT, Nat.reduceAdd, Nat.reduceMul, Nat.reduceLeDiff, Nat.le_refl, Int.natCast_zero, Int.toNat_natCast, Int.reduceToNat]; refine sCallMX_one (q1 _) ?_; simp -dsimp -implicitDefEqProofs only [go_sem, ↓reduceIte, Nat.reduceEqDiff, Nat.reduceLT, Nat.reduceAdd, Nat.reduceMul, Nat.reduceLeDiff, Nat.le_refl, Int.natCast_zero, Int.toNat_natCast, Int.reduceToNat])
    refine sCallX_one hcn ?_
    simp -dsimp -implicitDefEqProofs only [go_sem, ↓reduceIte, Nat.reduceEqDiff, Nat.reduceLT, Nat.reduceAdd, Nat.reduceMul, Nat.reduceLeDiff, Nat.le_refl, Int.natCast_zero, Int.toNat_natCast, Int.reduceToNat]
    (refine sCallX_io [1000000000] rfl ?_; simp -dsimp -implicitDefEqProofs only [go_sem, ↓reduceIte, Nat.reduceEqDiff, Nat.reduceLT, Nat.reduceAdd, Nat.reduceMul, Nat.reduceLeDiff, Nat.le_refl, Int.natCast_zero, Int.toNat_natCast, Int.reduceToNat]; refine sCallMX_one (q2 _) ?_; simp -dsimp -implicitDefEqProofs only [go_sem, ↓reduceIte, Nat.reduceEqDiff, Nat.reduceLT, Nat.reduceAdd, Nat.reduceMul, Nat.reduceLeDiff, Nat.le_refl, Int.natCast_zero, Int.toNat_natCast, Int.reduceToNat])
    ((repeat' (with_reducible refine And.intro ?_ ?_)); all_goals try (first | omega | (refine ⟨?_, ?_⟩ <;> omega) | (exact rfl)))
    (refine sCallX_io [1000000000] rfl ?_; simp -dsimp -implicitDefEqProofs only [go_sem, ↓reduceIte, Nat.reduceEqDiff, Nat.reduceLT, Nat.reduceAdd, Nat.reduceMul, Nat.reduceLeDiff, Nat.le_refl, Int.natCast_zero, Int.toNat_natCast, Int.reduceToNat]; refine sCallMX_one (q3 _) ?_; simp -dsimp -implicitDefEqProofs only [go_sem, ↓reduceIte, Nat.reduceEqDiff, Nat.reduceLT, Nat.reduceAdd, Nat.reduceMul, Nat.reduceLeDiff, Nat.le_refl, Int.natCast_zero, Int.toNat_natCast, Int.reduceToNat])
    ((repeat' (with_reducible refine And.intro ?_ ?_)); all_goals try (first | omega | (refine ⟨?_, ?_⟩ <;> omega) | (exact rfl)))
    refine sCallX_one htx ?_
    simp -dsimp -implicitDefEqProofs only [go_sem, ↓reduceIte, Nat.reduceEqDiff, Nat.reduceLT, Nat.reduceAdd, Nat.reduceMul, Nat.reduceLeDiff, Nat.le_refl, Int.natCast_zero, Int.toNat_natCast, Int.reduceToNat]
    ((repeat' (with_reducible refine And.intro ?_ ?_)); all_goals try (first | omega | (refine ⟨?_, ?_⟩ <;> omega) | (exact rfl)))
    (refine sCallT_io [1000000000] ?_; simp -dsimp -implicitDefEqProofs only [go_sem, ↓reduceIte, Nat.reduceEqDiff, Nat.reduceLT, Nat.reduceAdd, Nat.reduceMul, Nat.reduceLeDiff, Nat.le_refl, Int.natCast_zero, Int.toNat_natCast, Int.reduceToNat]; refine sCallM_one (q4 _) ?_; simp -dsimp -implicitDefEqProofs only [go_sem, ↓reduceIte, Nat.reduceEqDiff, Nat.reduceLT, Nat.reduceAdd, Nat.reduceMul, Nat.reduceLeDiff, Nat.le_refl, Int.natCast_zero, Int.toNat_natCast, Int.reduceToNat])
    rcases b0 : (d.1 == 0) with _ | _
    · have e0 : ¬ d.1 = 0 := beq_eq_false_iff_ne.1 b0
      rw [if_neg e0]
      simp -dsimp -implicitDefEqProofs only [go_sem, ↓reduceIte, Nat.reduceEqDiff, Nat.reduceLT, Nat.reduceAdd, Nat.reduceMul, Nat.reduceLeDiff, Nat.le_refl, Int.natCast_zero, Int.toNat_natCast, Int.reduceToNat, b0]
    · have e0 : d.1 = 0 := beq_iff_eq.1 b0
      rw [if_pos e0]
      simp -dsimp -implicitDefEqProofs only [go_sem, ↓reduceIte, Nat.reduceEqDiff, Nat.reduceLT, Nat.reduceAdd, Nat.reduceMul, Nat.reduceLeDiff, Nat.le_refl, Int.natCast_zero, Int.toNat_natCast, Int.reduceToNat, b0]
      refine Later.draw mixed rfl ?_
      simp -dsimp -implicitDefEqProofs only [go_sem, ↓reduceIte, Nat.reduceEqDiff, Nat.reduceLT, Nat.reduceAdd, Nat.reduceMul, Nat.reduceLeDiff, Nat.le_refl, Int.natCast_zero, Int.toNat_natCast, Int.reduceToNat]
      (refine sCallX_io [1000000000] rfl ?_; simp -dsimp -implicitDefEqProofs only [go_sem, ↓reduceIte, Nat.reduceEqDiff, Nat.reduceLT, Nat.reduceAdd, Nat.reduceMul, Nat.reduceLeDiff, Nat.le_refl, Int.natCast_zero, Int.toNat_natCast, Int.reduceToNat]; refine sCallMX_one (qd _) ?_; simp -dsimp -implicitDefEqProofs only [go_sem, ↓reduceIte, Nat.reduceEqDiff, Nat.reduceLT, Nat.reduceAdd, Nat.reduceMul, Nat.reduceLeDiff, Nat.le_refl, Int.natCast_zero, Int.toNat_natCast, Int.reduceToNat])
      exact rfl
end Go.Vc


/-
  Draws of the laws on stamps.
-/
set_option linter.unusedVariables false
set_option linter.unusedSimpArgs false
set_option linter.unnecessarySimpa false
namespace Go.Vc
open Go.Proofs Go.Lib
set_option maxRecDepth 100000
set_option maxHeartbeats 4000000
structure StO where
  m : MkM
  key : List Int
  se : Int
  sec : Int
structure RdO where
  m : MkM
  s : List UInt8
  sec : Int
theorem stD_ok (bs : List UInt8) {s : Src} (h : SrcOk s) : SrcOk (stD bs s).2.2 ∧ (stD bs s).2.1.length ≤ 1001 := stB_ok bs (mkD_ok bs h)
structure MvO where
  m : MkM
  s : List UInt8
  a : Int
  b : Int
def mvOD2 (bs : List UInt8) (p : MkM × List UInt8 × Src) (a : Int × Src) : MvO := ⟨p.1, p.2.1, a.1, (secD bs p.1 a.2).1⟩
def mvOD (bs : List UInt8) (s : Src) : MvO := mvOD2 bs (stD bs s) (secD bs (stD bs s).1 (stD bs s).2.2)
theorem c_DrawMoveSecret (bs : List UInt8) (hl : bs.length ≤ 4096) : Fn Tryz.prog 18 [eYs bs] false (· = .tup [eMk (mvOD bs (src0 bs)).m, eS (mvOD bs (src0 bs)).s, eI (mvOD bs (src0 bs)).a, eI (mvOD bs (src0 bs)).b]) := by
  refine Fn.of_vcS 26 [.cell 2 25, .tmp 3, .tmp 4, .tmp 5] Tryz.func18 rfl rfl rfl rfl rfl (of_decide_eq_true rfl) ?_
  simp -dsimp -implicitDefEqProofs only [go_sem, ↓reduceIte, Nat.reduceEqDiff, Nat.reduceLT, Nat.reduceAdd, Nat.reduceMul, Nat.reduceLeDiff, Nat.le_refl, Int.natCast_zero, Int.toNat_natCast, Int.reduceToNat]
  (refine sCallT_inl 900000 34 [.tmp 2] Tryz.func43 rfl rfl rfl rfl rfl (by exact of_decide_eq_true rfl) ?_; simp -dsimp -implicitDefEqProofs only [go_sem, ↓reduceIte, Nat.reduceEqDiff, Nat.reduceLT, Nat.reduceAdd, Nat.reduceMul, Nat.reduceLeDiff, Nat.le_refl, Int.natCast_zero, Int.toNat_natCast, Int.reduceToNat]; refine Later.up [0, 3] [10] [7] (min bs.length 64) (fun _ => True) (fun i => [(4, eI i)]) (fun i => [(7, srcB 0 bs ⟨seedAt bs i, 0⟩)]) trivial ?_ rfl (fun i hi _ => ?_) (fun _ => ?_))
  · simp -dsimp -implicitDefEqProofs only [go_sem, ↓reduceIte, Nat.reduceEqDiff, Nat.reduceLT, Nat.reduceAdd, Nat.reduceMul, Nat.reduceLeDiff, Nat.le_refl, Int.natCast_zero, Int.toNat_natCast, Int.reduceToNat]
    simp [seedAt]
  · ((have h1 : i < bs.length := by omega); (have h2 : i < 64 := by omega); (have hs := seedAt_ok bs i); (have hb := (bs[i]).toNat_lt); (have d1 := lt_len h1); (have d2 : decide ((i : Int) < 64) = true := decide_eq_true (by omega)); (have g1 := get_some h1); (have e1 := seedAt_succ h1); simp -dsimp -implicitDefEqProofs only [pick_nil, pick_cons, look_nil, look_cons, dropB_nil, dropB_cons, inD_nil, inD_cons, inE_nil, inE_cons, or_t_l, or_f_l, Nat.reduceBEq, Nat.reduceDiv, Nat.reduceAdd, beq_self_eq_true, Bool.false_eq_true, Bool.or_false, ↓reduceIte, Nat.reduceEqDiff, List.cons_append, List.nil_append]; rw [e1]; generalize bs[i] = b at *; generalize seedAt bs i = z at *; simp -dsimp -implicitDefEqProofs only [go_sem, ↓reduceIte, Nat.reduceEqDiff, Nat.reduceLT, Nat.reduceAdd, Nat.reduceMul, Nat.reduceLeDiff, Nat.le_refl, Int.natCast_zero, Int.toNat_natCast, Int.reduceToNat, d1, d2]; refine Later.draw mixed rfl ?_; simp -dsimp -implicitDefEqProofs only [go_sem, ↓reduceIte, Nat.reduceEqDiff, Nat.reduceLT, Nat.reduceAdd, Nat.reduceMul, Nat.reduceLeDiff, Nat.le_refl, Int.natCast_zero, Int.toNat_natCast, Int.reduceToNat, g1]; (repeat' (with_reducible refine And.intro ?_ ?_)); all_goals (first | omega | (refine ⟨?_, ?_⟩ <;> omega) | (exact rfl) | (simp; done) | trace_state))
  (have hs := src0_ok bs); (have hq : (⟨seedAt bs (min bs.length 64), 0⟩ : Src) = src0 bs := rfl); rw [hq]; clear hq; generalize src0 bs = s at *; (have d64 : decide (((64 : Nat) : Int) < 64) = false := rfl)
  have o0 := (stD_ok bs hs).1
  have q0 := fun v => c_l28Draw v bs s hs hl
  unfold mvOD
  generalize stD bs s = p at *
  have o1 := secD_ok bs p.1 o0
  have q3 := fun v => c_l28DrawSecret v bs p.1 p.2.2 o0 hl
  generalize secD bs p.1 p.2.2 = b at *
  unfold mvOD2
  have q4 := fun v => c_l28DrawSecret v bs p.1 b.2 o1 hl
  generalize secD bs p.1 b.2 = c at *
  rcases Nat.lt_or_ge 64 bs.length with h64 | h64
  case' inl => (rw [Nat.min_eq_right (Nat.le_of_lt h64)]; simp -dsimp -implicitDefEqProofs only [pick_nil, pick_cons, look_nil, look_cons, dropB_nil, dropB_cons, inD_nil, inD_cons, inE_nil, inE_cons, or_t_l, or_f_l, Nat.reduceBEq, Nat.reduceDiv, Nat.reduceAdd, beq_self_eq_true, Bool.false_eq_true, Bool.or_false, ↓reduceIte, Nat.reduceEqDiff, List.cons_append, List.nil_append]; simp -dsimp -implicitDefEqProofs only [go_sem, ↓reduceIte, Nat.reduceEqDiff, Nat.reduceLT, Nat.reduceAdd, Nat.reduceMul, Nat.reduceLeDiff, Nat.le_refl, Int.natCast_zero, Int.toNat_natCast, Int.reduceToNat, lt_len h64, d64])
  case' inr => (rw [Nat.min_eq_left h64]; simp -dsimp -implicitDefEqProofs only [pick_nil, pick_cons, look_nil, look_cons, dropB_nil, dropB_cons, inD_nil, inD_cons, inE_nil, inE_cons, or_t_l, or_f_l, Nat.reduceBEq, Nat.reduceDiv, Nat.reduceAdd, beq_self_eq_true, Bool.false_eq_true, Bool.or_false, ↓reduceIte, Nat.reduceEqDiff, List.cons_append, List.nil_append]; simp -dsimp -implicitDefEqProofs only [go_sem, ↓reduceIte, Nat.reduceEqDiff, Nat.reduceLT, Nat.reduceAdd, Nat.reduceMul, Nat.reduceLeDiff, Nat.le_refl, Int.natCast_zero, Int.toNat_natCast, Int.reduceToNat, nlt_len])
  all_goals
    (refine sCallT_io [900007] ?_; simp -dsimp -implicitDefEqProofs only [go_sem, ↓reduceIte, Nat.reduceEqDiff, Nat.reduceLT, Nat.reduceAdd, Nat.reduceMul, Nat.reduceLeDiff, Nat.le_refl, Int.natCast_zero, Int.toNat_natCast, Int.reduceToNat]; refine sCallM_one (q0 _) ?_; simp -dsimp -implicitDefEqProofs only [go_sem, ↓reduceIte, Nat.reduceEqDiff, Nat.reduceLT, Nat.reduceAdd, Nat.reduceMul, Nat.reduceLeDiff, Nat.le_refl, Int.natCast_zero, Int.toNat_natCast, Int.reduceToNat])
    (refine sCallT_io [900007] ?_; simp -dsimp -implicitDefEqProofs only [go_sem, ↓reduceIte, Nat.reduceEqDiff, Nat.reduceLT, Nat.reduceAdd, Nat.reduceMul, Nat.reduceLeDiff, Nat.le_refl, Int.natCast_zero, Int.toNat_natCast, Int.reduceToNat]; refine sCallM_one (q3 _) ?_; simp -dsimp -implicitDefEqProofs only [go_sem, ↓reduceIte, Nat.reduceEqDiff, Nat.reduceLT, Nat.reduceAdd, Nat.reduceMul, Nat.reduceLeDiff, Nat.le_refl, Int.natCast_zero, Int.toNat_natCast, Int.reduceToNat])
    refine Later.draw mixed rfl ?_
    simp -dsimp -implicitDefEqProofs only [go_sem, ↓reduceIte, Nat.reduceEqDiff, Nat.reduceLT, Nat.reduceAdd, Nat.reduceMul, Nat.reduceLeDiff, Nat.le_refl, Int.natCast_zero, Int.toNat_natCast, Int.reduceToNat]
    (refine sCallX_io [900007] rfl ?_; simp -dsimp -implicitDefEqProofs only [go_sem, ↓reduceIte, Nat.reduceEqDiff, Nat.reduceLT, Nat.reduceAdd, Nat.reduceMul, Nat.reduceLeDiff, Nat.le_refl, Int.natCast_zero, Int.toNat_natCast, Int.reduceToNat]; refine sCallMX_one (q4 _) ?_; simp -dsimp -implicitDefEqProofs only [go_sem, ↓reduceIte, Nat.reduceEqDiff, Nat.reduceLT, Nat.reduceAdd, Nat.reduceMul, Nat.reduceLeDiff, Nat.le_refl, Int.natCast_zero, Int.toNat_natCast, Int.reduceToNat])
    exact rfl
structure ScO where
  m : MkM
  s : List UInt8
  key : List Int
def scOD2 (bs : List UInt8) (p : MkM × List UInt8 × Src) : ScO := ⟨p.1, p.2.1, (keyD bs p.1 p.2.2).1⟩
def scOD (bs : List UInt8) (s : Src) : ScO := scOD2 bs (stD bs s)
theorem c_DrawSecretOf (bs : List UInt8) (hl : bs.length ≤ 4096) : Fn Tryz.prog 21 [eYs bs] false (· = .tup [eMk (scOD bs (src0 bs)).m, eS (scOD bs (src0 bs)).s, eIs (scOD bs (src0 bs)).key]) := by
  refine Fn.of_vcS 20 [.cell 2 25, .tmp 3, .tmp 4] Tryz.func21 rfl rfl rfl rfl rfl (of_decide_eq_true rfl) ?_
  simp -dsimp -implicitDefEqProofs only [go_sem, ↓reduceIte, Nat.reduceEqDiff, Nat.reduceLT, Nat.reduceAdd, Nat.reduceMul, Nat.reduceLeDiff, Nat.le_refl, Int.natCast_zero, Int.toNat_natCast, Int.reduceToNat]
  (refine sCallT_inl 900000 34 [.tmp 2] Tryz.func43 rfl rfl rfl rfl rfl (by exact of_decide_eq_true rfl) ?_; simp -dsimp -implicitDefEqProofs only [go_sem, ↓reduceIte, Nat.reduceEqDiff, Nat.reduceLT, Nat.reduceAdd, Nat.reduceMul, Nat.reduceLeDiff, Nat.le_refl, Int.natCast_zero, Int.toNat_natCast, Int.reduceToNat]; refine Later.up [0, 3] [10] [7] (min bs.length 64) (fun _ => True) (fun i => [(4, eI i)]) (fun i => [(7, srcB 0 bs ⟨seedAt bs i, 0⟩)]) trivial ?_ rfl (fun i hi _ => ?_) (fun _ => ?_))
  · simp -dsimp -implicitDefEqProofs only [go_sem, ↓reduceIte, Nat.reduceEqDiff, Nat.reduceLT, Nat.reduceAdd, Nat.reduceMul, Nat.reduceLeDiff, Nat.le_refl, Int.natCast_zero, Int.toNat_natCast, Int.reduceToNat]
    simp [seedAt]
  · ((have h1 : i < bs.length := by omega); (have h2 : i < 64 := by omega); (have hs := seedAt_ok bs i); (have hb := (bs[i]).toNat_lt); (have d1 := lt_len h1); (have d2 : decide ((i : Int) < 64) = true := decide_eq_true (by omega)); (have g1 := get_some h1); (have e1 := seedAt_succ h1); simp -dsimp -implicitDefEqProofs only [pick_nil, pick_cons, look_nil, look_cons, dropB_nil, dropB_cons, inD_nil, inD_cons, inE_nil, inE_cons, or_t_l, or_f_l, Nat.reduceBEq, Nat.reduceDiv, Nat.reduceAdd, beq_self_eq_true, Bool.false_eq_true, Bool.or_false, ↓reduceIte, Nat.reduceEqDiff, List.cons_append, List.nil_append]; rw [e1]; generalize bs[i] = b at *; generalize seedAt bs i = z at *; simp -dsimp -implicitDefEqProofs only [go_sem, ↓reduceIte, Nat.reduceEqDiff, Nat.reduceLT, Nat.reduceAdd, Nat.reduceMul, Nat.reduceLeDiff, Nat.le_refl, Int.natCast_zero, Int.toNat_natCast, Int.reduceToNat, d1, d2]; refine Later.draw mixed rfl ?_; simp -dsimp -implicitDefEqProofs only [go_sem, ↓reduceIte, Nat.reduceEqDiff, Nat.reduceLT, Nat.reduceAdd, Nat.reduceMul, Nat.reduceLeDiff, Nat.le_refl, Int.natCast_zero, Int.toNat_natCast, Int.reduceToNat, g1]; (repeat' (with_reducible refine And.intro ?_ ?_)); all_goals (first | omega | (refine ⟨?_, ?_⟩ <;> omega) | (exact rfl) | (simp; done) | trace_state))
  (have hs := src0_ok bs); (have hq : (⟨seedAt bs (min bs.length 64), 0⟩ : Src) = src0 bs := rfl); rw [hq]; clear hq; generalize src0 bs = s at *; (have d64 : decide (((64 : Nat) : Int) < 64) = false := rfl)
  have o0 := (stD_ok bs hs).1
  have q0 := fun v => c_l28Draw v bs s hs hl
  have hb := mkD_bnd bs hs
  have he : (stD bs s).1 = (mkD bs s).1 := rfl
  rw [← he] at hb
  unfold scOD
  clear he
  generalize stD bs s = p at *
  unfold scOD2
  have q3 := fun v => c_l02DrawKey v bs p.1 p.2.2 hb o0 hl
  generalize keyD bs p.1 p.2.2 = b at *
  rcases Nat.lt_or_ge 64 bs.length with h64 | h64
  case' inl => (rw [Nat.min_eq_right (Nat.le_of_lt h64)]; simp -dsimp -implicitDefEqProofs only [pick_nil, pick_cons, look_nil, look_cons, dropB_nil, dropB_cons, inD_nil, inD_cons, inE_nil, inE_cons, or_t_l, or_f_l, Nat.reduceBEq, Nat.reduceDiv, Nat.reduceAdd, beq_self_eq_true, Bool.false_eq_true, Bool.or_false, ↓reduceIte, Nat.reduceEqDiff, List.cons_append, List.nil_append]; simp -dsimp -implicitDefEqProofs only [go_sem, ↓reduceIte, Nat.reduceEqDiff, Nat.reduceLT, Nat.reduceAdd, Nat.reduceMul, Nat.reduceLeDiff, Nat.le_refl, Int.natCast_zero, Int.toNat_natCast, Int.reduceToNat, lt_len h64, d64])
  case' inr => (rw [Nat.min_eq_left h64]; simp -dsimp -implicitDefEqProofs only [pick_nil, pick_cons, look_nil, look_cons, dropB_nil, dropB_cons, inD_nil, inD_cons, inE_nil, inE_cons, or_t_l, or_f_l, Nat.reduceBEq, Nat.reduceDiv, Nat.reduceAdd, beq_self_eq_true, Bool.false_eq_true, Bool.or_false, ↓reduceIte, Nat.reduceEqDiff, List.cons_append, List.nil_append]; simp -dsimp -implicitDefEqProofs only [go_sem, ↓reduceIte, Nat.reduceEqDiff, Nat.reduceLT, Nat.reduceAdd, Nat.reduceMul, Nat.reduceLeDiff, Nat.le_refl, Int.natCast_zero, Int.toNat_natCast, Int.reduceToNat, nlt_len])
  all_goals
    (refine sCallT_io [900007] ?_; simp -dsimp -implicitDefEqProofs only [go_sem, ↓reduceIte, Nat.reduceEqDiff, Nat.reduceLT, Nat.reduceAdd, Nat.reduceMul, Nat.reduceLeDiff, Nat.le_refl, Int.natCast_zero, Int.toNat_natCast, Int.reduceToNat]; refine sCallM_one (q0 _) ?_; simp -dsimp -implicitDefEqProofs only [go_sem, ↓reduceIte, Nat.reduceEqDiff, Nat.reduceLT, Nat.reduceAdd, Nat.reduceMul, Nat.reduceLeDiff, Nat.le_refl, Int.natCast_zero, Int.toNat_natCast, Int.reduceToNat])
    refine Later.draw mixed rfl ?_
    simp -dsimp -implicitDefEqProofs only [go_sem, ↓reduceIte, Nat.reduceEqDiff, Nat.reduceLT, Nat.reduceAdd, Nat.reduceMul, Nat.reduceLeDiff, Nat.le_refl, Int.natCast_zero, Int.toNat_natCast, Int.reduceToNat]
    refine sCallX_ioR [900007] rfl ?_
    simp -dsimp -implicitDefEqProofs only [go_sem, ↓reduceIte, Nat.reduceEqDiff, Nat.reduceLT, Nat.reduceAdd, Nat.reduceMul, Nat.reduceLeDiff, Nat.le_refl, Int.natCast_zero, Int.toNat_natCast, Int.reduceToNat]
    refine sCallMRX_one (q3 _) ?_
    simp -dsimp -implicitDefEqProofs only [go_sem, ↓reduceIte, Nat.reduceEqDiff, Nat.reduceLT, Nat.reduceAdd, Nat.reduceMul, Nat.reduceLeDiff, Nat.le_refl, Int.natCast_zero, Int.toNat_natCast, Int.reduceToNat]
    exact rfl
def ckOD3 (bs : List UInt8) (a b c : Int × Src) : Int × Int := (a.1, (pk bs [0, 1, b.1, c.1, 9999999999, 10000000000, -1] c.2).1)
def ckOD2 (bs : List UInt8) (a b : Int × Src) : Int × Int := ckOD3 bs a b (nx bs 100000 b.2)
def ckOD1 (bs : List UInt8) (a : Int × Src) : Int × Int := ckOD2 bs a (nx bs 1000 a.2)
def ckOD (bs : List UInt8) (s : Src) : Int × Int := ckOD1 bs (serD bs s)
theorem c_DrawCheckOf (bs : List UInt8) (hl : bs.length ≤ 4096) : Fn Tryz.prog 24 [eYs bs] false (· = .tup [eI (ckOD bs (src0 bs)).1, eI (ckOD bs (src0 bs)).2]) := by
  refine Fn.of_vcS 18 [.tmp 2, .tmp 3] Tryz.func24 rfl rfl rfl rfl rfl (of_decide_eq_true rfl) ?_
  simp -dsimp -implicitDefEqProofs only [go_sem, ↓reduceIte, Nat.reduceEqDiff, Nat.reduceLT, Nat.reduceAdd, Nat.reduceMul, Nat.reduceLeDiff, Nat.le_refl, Int.natCast_zero, Int.toNat_natCast, Int.reduceToNat]
  (refine sCallT_inl 900000 34 [.tmp 2] Tryz.func43 rfl rfl rfl rfl rfl (by exact of_decide_eq_true rfl) ?_; simp -dsimp -implicitDefEqProofs only [go_sem, ↓reduceIte, Nat.reduceEqDiff, Nat.reduceLT, Nat.reduceAdd, Nat.reduceMul, Nat.reduceLeDiff, Nat.le_refl, Int.natCast_zero, Int.toNat_natCast, Int.reduceToNat]; refine Later.up [0, 3] [10] [7] (min bs.length 64) (fun _ => True) (fun i => [(4, eI i)]) (fun i => [(7, srcB 0 bs ⟨seedAt bs i, 0⟩)]) trivial ?_ rfl (fun i hi _ => ?_) (fun _ => ?_))
  · simp -dsimp -implicitDefEqProofs only [go_sem, ↓reduceIte, Nat.reduceEqDiff, Nat.reduceLT, Nat.reduceAdd, Nat.reduceMul, Nat.reduceLeDiff, Nat.le_refl, Int.natCast_zero, Int.toNat_natCast, Int.reduceToNat]
    simp [seedAt]
  · ((have h1 : i < bs.length := by omega); (have h2 : i < 64 := by omega); (have hs := seedAt_ok bs i); (have hb := (bs[i]).toNat_lt); (have d1 := lt_len h1); (have d2 : decide ((i : Int) < 64) = true := decide_eq_true (by omega)); (have g1 := get_some h1); (have e1 := seedAt_succ h1); simp -dsimp -implicitDefEqProofs only [pick_nil, pick_cons, look_nil, look_cons, dropB_nil, dropB_cons, inD_nil, inD_cons, inE_nil, inE_cons, or_t_l, or_f_l, Nat.reduceBEq, Nat.reduceDiv, Nat.reduceAdd, beq_self_eq_true, Bool.false_eq_true, Bool.or_false, ↓reduceIte, Nat.reduceEqDiff, List.cons_append, List.nil_append]; rw [e1]; generalize bs[i] = b at *; generalize seedAt bs i = z at *; simp -dsimp -implicitDefEqProofs only [go_sem, ↓reduceIte, Nat.reduceEqDiff, Nat.reduceLT, Nat.reduceAdd, Nat.reduceMul, Nat.reduceLeDiff, Nat.le_refl, Int.natCast_zero, Int.toNat_natCast, Int.reduceToNat, d1, d2]; refine Later.draw mixed rfl ?_; simp -dsimp -implicitDefEqProofs only [go_sem, ↓reduceIte, Nat.reduceEqDiff, Nat.reduceLT, Nat.reduceAdd, Nat.reduceMul, Nat.reduceLeDiff, Nat.le_refl, Int.natCast_zero, Int.toNat_natCast, Int.reduceToNat, g1]; (repeat' (with_reducible refine And.intro ?_ ?_)); all_goals (first | omega | (refine ⟨?_, ?_⟩ <;> omega) | (exact rfl) | (simp; done) | trace_state))
  (have hs := src0_ok bs); (have hq : (⟨seedAt bs (min bs.length 64), 0⟩ : Src) = src0 bs := rfl); rw [hq]; clear hq; generalize src0 bs = s at *; (have d64 : decide (((64 : Nat) : Int) < 64) = false := rfl)
  have o0 := (serD_ok bs hs).1
  have q0 := fun v => c_l28DrawSeries v bs s hs hl
  unfold ckOD
  generalize serD bs s = p at *
  unfold ckOD1
  have o1 := nx_ok bs 1000 o0
  have q1 := fun v => c_l01Next v bs 1000 _ o0 hl
  generalize nx bs 1000 p.2 = b at *
  unfold ckOD2
  have o2 := nx_ok bs 100000 o1.2.2.2
  have q2 := fun v => c_l01Next v bs 100000 _ o1.2.2.2 hl
  generalize nx bs 100000 b.2 = c at *
  unfold ckOD3
  have q3 := fun v v2 => c_l01Pick v v2 true bs [0, 1, b.1, c.1, 9999999999, 10000000000, -1] _ c.2 rfl (by simp) (by simp) o2.2.2.2 hl
  generalize pk bs [0, 1, b.1, c.1, 9999999999, 10000000000, -1] c.2 = d at *
  rcases Nat.lt_or_ge 64 bs.length with h64 | h64
  case' inl => (rw [Nat.min_eq_right (Nat.le_of_lt h64)]; simp -dsimp -implicitDefEqProofs only [pick_nil, pick_cons, look_nil, look_cons, dropB_nil, dropB_cons, inD_nil, inD_cons, inE_nil, inE_cons, or_t_l, or_f_l, Nat.reduceBEq, Nat.reduceDiv, Nat.reduceAdd, beq_self_eq_true, Bool.false_eq_true, Bool.or_false, ↓reduceIte, Nat.reduceEqDiff, List.cons_append, List.nil_append]; simp -dsimp -implicitDefEqProofs only [go_sem, ↓reduceIte, Nat.reduceEqDiff, Nat.reduceLT, Nat.reduceAdd, Nat.reduceMul, Nat.reduceLeDiff, Nat.le_refl, Int.natCast_zero, Int.toNat_natCast, Int.reduceToNat, lt_len h64, d64])
  case' inr => (rw [Nat.min_eq_left h64]; simp -dsimp -implicitDefEqProofs only [pick_nil, pick_cons, look_nil, look_cons, dropB_nil, dropB_cons, inD_nil, inD_cons, inE_nil, inE_cons, or_t_l, or_f_l, Nat.reduceBEq, Nat.reduceDiv, Nat.reduceAdd, beq_self_eq_true, Bool.false_eq_true, Bool.or_false, ↓reduceIte, Nat.reduceEqDiff, List.cons_append, List.nil_append]; simp -dsimp -implicitDefEqProofs only [go_sem, ↓reduceIte, Nat.reduceEqDiff, Nat.reduceLT, Nat.reduceAdd, Nat.reduceMul, Nat.reduceLeDiff, Nat.le_refl, Int.natCast_zero, Int.toNat_natCast, Int.reduceToNat, nlt_len])
  all_goals
    (refine sCallT_io [900007] ?_; simp -dsimp -implicitDefEqProofs only [go_sem, ↓reduceIte, Nat.reduceEqDiff, Nat.reduceLT, Nat.reduceAdd, Nat.reduceMul, Nat.reduceLeDiff, Nat.le_refl, Int.natCast_zero, Int.toNat_natCast, Int.reduceToNat]; refine sCallM_one (q0 _) ?_; simp -dsimp -implicitDefEqProofs only [go_sem, ↓reduceIte, Nat.reduceEqDiff, Nat.reduceLT, Nat.reduceAdd, Nat.reduceMul, Nat.reduceLeDiff, Nat.le_refl, Int.natCast_zero, Int.toNat_natCast, Int.reduceToNat])
    (refine sCallT_io [900007] ?_; simp -dsimp -implicitDefEqProofs only [go_sem, ↓reduceIte, Nat.reduceEqDiff, Nat.reduceLT, Nat.reduceAdd, Nat.reduceMul, Nat.reduceLeDiff, Nat.le_refl, Int.natCast_zero, Int.toNat_natCast, Int.reduceToNat]; refine sCallM_one (q1 _) ?_; simp -dsimp -implicitDefEqProofs only [go_sem, ↓reduceIte, Nat.reduceEqDiff, Nat.reduceLT, Nat.reduceAdd, Nat.reduceMul, Nat.reduceLeDiff, Nat.le_refl, Int.natCast_zero, Int.toNat_natCast, Int.reduceToNat])
    (refine sCallT_io [900007] ?_; simp -dsimp -implicitDefEqProofs only [go_sem, ↓reduceIte, Nat.reduceEqDiff, Nat.reduceLT, Nat.reduceAdd, Nat.reduceMul, Nat.reduceLeDiff, Nat.le_refl, Int.natCast_zero, Int.toNat_natCast, Int.reduceToNat]; refine sCallM_one (q2 _) ?_; simp -dsimp -implicitDefEqProofs only [go_sem, ↓reduceIte, Nat.reduceEqDiff, Nat.reduceLT, Nat.reduceAdd, Nat.reduceMul, Nat.reduceLeDiff, Nat.le_refl, Int.natCast_zero, Int.toNat_natCast, Int.reduceToNat])
    refine sCallT_io [900007, 16] ?_
    simp -dsimp -implicitDefEqProofs only [go_sem, ↓reduceIte, Nat.reduceEqDiff, Nat.reduceLT, Nat.reduceAdd, Nat.reduceMul, Nat.reduceLeDiff, Nat.le_refl, Int.natCast_zero, Int.toNat_natCast, Int.reduceToNat]
    refine sCallM_one (q3 _ _) ?_
    simp -dsimp -implicitDefEqProofs only [go_sem, ↓reduceIte, Nat.reduceEqDiff, Nat.reduceLT, Nat.reduceAdd, Nat.reduceMul, Nat.reduceLeDiff, Nat.le_refl, Int.natCast_zero, Int.toNat_natCast, Int.reduceToNat]
theorem c_DrawStampWidth (bs : List UInt8) (hl : bs.length ≤ 4096) : Fn Tryz.prog 27 [eYs bs] false (· = eMk (mkD bs (src0 bs)).1) := by
  refine Fn.of_vcS 6 [.cell 2 25] Tryz.func27 rfl rfl rfl rfl rfl (of_decide_eq_true rfl) ?_
  simp -dsimp -implicitDefEqProofs only [go_sem, ↓reduceIte, Nat.reduceEqDiff, Nat.reduceLT, Nat.reduceAdd, Nat.reduceMul, Nat.reduceLeDiff, Nat.le_refl, Int.natCast_zero, Int.toNat_natCast, Int.reduceToNat]
  (refine sCallT_inl 900000 34 [.tmp 2] Tryz.func43 rfl rfl rfl rfl rfl (by exact of_decide_eq_true rfl) ?_; simp -dsimp -implicitDefEqProofs only [go_sem, ↓reduceIte, Nat.reduceEqDiff, Nat.reduceLT, Nat.reduceAdd, Nat.reduceMul, Nat.reduceLeDiff, Nat.le_refl, Int.natCast_zero, Int.toNat_natCast, Int.reduceToNat]; refine Later.up [0, 3] [10] [7] (min bs.length 64) (fun _ => True) (fun i => [(4, eI i)]) (fun i => [(7, srcB 0 bs ⟨seedAt bs i, 0⟩)]) trivial ?_ rfl (fun i hi _ => ?_) (fun _ => ?_))
  · simp -dsimp -implicitDefEqProofs only [go_sem, ↓reduceIte, Nat.reduceEqDiff, Nat.reduceLT, Nat.reduceAdd, Nat.reduceMul, Nat.reduceLeDiff, Nat.le_refl, Int.natCast_zero, Int.toNat_natCast, Int.reduceToNat]
    simp [seedAt]
  · ((have h1 : i < bs.length := by omega); (have h2 : i < 64 := by omega); (have hs := seedAt_ok bs i); (have hb := (bs[i]).toNat_lt); (have d1 := lt_len h1); (have d2 : decide ((i : Int) < 64) = true := decide_eq_true (by omega)); (have g1 := get_some h1); (have e1 := seedAt_succ h1); simp -dsimp -implicitDefEqProofs only [pick_nil, pick_cons, look_nil, look_cons, dropB_nil, dropB_cons, inD_nil, inD_cons, inE_nil, inE_cons, or_t_l, or_f_l, Nat.reduceBEq, Nat.reduceDiv, Nat.reduceAdd, beq_self_eq_true, Bool.false_eq_true, Bool.or_false, ↓reduceIte, Nat.reduceEqDiff, List.cons_append, List.nil_append]; rw [e1]; generalize bs[i] = b at *; generalize seedAt bs i = z at *; simp -dsimp -implicitDefEqProofs only [go_sem, ↓reduceIte, Nat.reduceEqDiff, Nat.reduceLT, Nat.reduceAdd, Nat.reduceMul, Nat.reduceLeDiff, Nat.le_refl, Int.natCast_zero, Int.toNat_natCast, Int.reduceToNat, d1, d2]; refine Later.draw mixed rfl ?_; simp -dsimp -implicitDefEqProofs only [go_sem, ↓reduceIte, Nat.reduceEqDiff, Nat.reduceLT, Nat.reduceAdd, Nat.reduceMul, Nat.reduceLeDiff, Nat.le_refl, Int.natCast_zero, Int.toNat_natCast, Int.reduceToNat, g1]; (repeat' (with_reducible refine And.intro ?_ ?_)); all_goals (first | omega | (refine ⟨?_, ?_⟩ <;> omega) | (exact rfl) | (simp; done) | trace_state))
  (have hs := src0_ok bs); (have hq : (⟨seedAt bs (min bs.length 64), 0⟩ : Src) = src0 bs := rfl); rw [hq]; clear hq; generalize src0 bs = s at *; (have d64 : decide (((64 : Nat) : Int) < 64) = false := rfl)
  have q0 := fun v => c_l02Draw v bs s hs hl
  generalize mkD bs s = p at *
  rcases Nat.lt_or_ge 64 bs.length with h64 | h64
  case' inl => (rw [Nat.min_eq_right (Nat.le_of_lt h64)]; simp -dsimp -implicitDefEqProofs only [pick_nil, pick_cons, look_nil, look_cons, dropB_nil, dropB_cons, inD_nil, inD_cons, inE_nil, inE_cons, or_t_l, or_f_l, Nat.reduceBEq, Nat.reduceDiv, Nat.reduceAdd, beq_self_eq_true, Bool.false_eq_true, Bool.or_false, ↓reduceIte, Nat.reduceEqDiff, List.cons_append, List.nil_append]; simp -dsimp -implicitDefEqProofs only [go_sem, ↓reduceIte, Nat.reduceEqDiff, Nat.reduceLT, Nat.reduceAdd, Nat.reduceMul, Nat.reduceLeDiff, Nat.le_refl, Int.natCast_zero, Int.toNat_natCast, Int.reduceToNat, lt_len h64, d64])
  case' inr => (rw [Nat.min_eq_left h64]; simp -dsimp -implicitDefEqProofs only [pick_nil, pick_cons, look_nil, look_cons, dropB_nil, dropB_cons, inD_nil, inD_cons, inE_nil, inE_cons, or_t_l, or_f_l, Nat.reduceBEq, Nat.reduceDiv, Nat.reduceAdd, beq_self_eq_true, Bool.false_eq_true, Bool.or_false, ↓reduceIte, Nat.reduceEqDiff, List.cons_append, List.nil_append]; simp -dsimp -implicitDefEqProofs only [go_sem, ↓reduceIte, Nat.reduceEqDiff, Nat.reduceLT, Nat.reduceAdd, Nat.reduceMul, Nat.reduceLeDiff, Nat.le_refl, Int.natCast_zero, Int.toNat_natCast, Int.reduceToNat, nlt_len])
  all_goals
    (refine sCallT_io [900007] ?_; simp -dsimp -implicitDefEqProofs only [go_sem, ↓reduceIte, Nat.reduceEqDiff, Nat.reduceLT, Nat.reduceAdd, Nat.reduceMul, Nat.reduceLeDiff, Nat.le_refl, Int.natCast_zero, Int.toNat_natCast, Int.reduceToNat]; refine sCallM_one (q0 _) ?_; simp -dsimp -implicitDefEqProofs only [go_sem, ↓reduceIte, Nat.reduceEqDiff, Nat.reduceLT, Nat.reduceAdd, Nat.reduceMul, Nat.reduceLeDiff, Nat.le_refl, Int.natCast_zero, Int.toNat_natCast, Int.reduceToNat])
theorem c_DrawIsStamp (bs : List UInt8) (hl : bs.length ≤ 4096) : Fn Tryz.prog 29 [eYs bs] false (· = .tup [eMk (stD bs (src0 bs)).1, eS (stD bs (src0 bs)).2.1]) := by
  refine Fn.of_vcS 9 [.cell 2 25, .tmp 3] Tryz.func29 rfl rfl rfl rfl rfl (of_decide_eq_true rfl) ?_
  simp -dsimp -implicitDefEqProofs only [go_sem, ↓reduceIte, Nat.reduceEqDiff, Nat.reduceLT, Nat.reduceAdd, Nat.reduceMul, Nat.reduceLeDiff, Nat.le_refl, Int.natCast_zero, Int.toNat_natCast, Int.reduceToNat]
  (refine sCallT_inl 900000 34 [.tmp 2] Tryz.func43 rfl rfl rfl rfl rfl (by exact of_decide_eq_true rfl) ?_; simp -dsimp -implicitDefEqProofs only [go_sem, ↓reduceIte, Nat.reduceEqDiff, Nat.reduceLT, Nat.reduceAdd, Nat.reduceMul, Nat.reduceLeDiff, Nat.le_refl, Int.natCast_zero, Int.toNat_natCast, Int.reduceToNat]; refine Later.up [0, 3] [10] [7] (min bs.length 64) (fun _ => True) (fun i => [(4, eI i)]) (fun i => [(7, srcB 0 bs ⟨seedAt bs i, 0⟩)]) trivial ?_ rfl (fun i hi _ => ?_) (fun _ => ?_))
  · simp -dsimp -implicitDefEqProofs only [go_sem, ↓reduceIte, Nat.reduceEqDiff, Nat.reduceLT, Nat.reduceAdd, Nat.reduceMul, Nat.reduceLeDiff, Nat.le_refl, Int.natCast_zero, Int.toNat_natCast, Int.reduceToNat]
    simp [seedAt]
  · ((have h1 : i < bs.length := by omega); (have h2 : i < 64 := by omega); (have hs := seedAt_ok bs i); (have hb := (bs[i]).toNat_lt); (have d1 := lt_len h1); (have d2 : decide ((i : Int) < 64) = true := decide_eq_true (by omega)); (have g1 := get_some h1); (have e1 := seedAt_succ h1); simp -dsimp -implicitDefEqProofs only [pick_nil, pick_cons, look_nil, look_cons, dropB_nil, dropB_cons, inD_nil, inD_cons, inE_nil, inE_cons, or_t_l, or_f_l, Nat.reduceBEq, Nat.reduceDiv, Nat.reduceAdd, beq_self_eq_true, Bool.false_eq_true, Bool.or_false, ↓reduceIte, Nat.reduceEqDiff, List.cons_append, List.nil_append]; rw [e1]; generalize bs[i] = b at *; generalize seedAt bs i = z at *; simp -dsimp -implicitDefEqProofs only [go_sem, ↓reduceIte, Nat.reduceEqDiff, Nat.reduceLT, Nat.reduceAdd, Nat.reduceMul, Nat.reduceLeDiff, Nat.le_refl, Int.natCast_zero, Int.toNat_natCast, Int.reduceToNat, d1, d2]; refine Later.draw mixed rfl ?_; simp -dsimp -implicitDefEqProofs only [go_sem, ↓reduceIte, Nat.reduceEqDiff, Nat.reduceLT, Nat.reduceAdd, Nat.reduceMul, Nat.reduceLeDiff, Nat.le_refl, Int.natCast_zero, Int.toNat_natCast, Int.reduceToNat, g1]; (repeat' (with_reducible refine And.intro ?_ ?_)); all_goals (first | omega | (refine ⟨?_, ?_⟩ <;> omega) | (exact rfl) | (simp; done) | trace_state))
  (have hs := src0_ok bs); (have hq : (⟨seedAt bs (min bs.length 64), 0⟩ : Src) = src0 bs := rfl); rw [hq]; clear hq; generalize src0 bs = s at *; (have d64 : decide (((64 : Nat) : Int) < 64) = false := rfl)
  have q0 := fun v => c_l28Draw v bs s hs hl
  generalize stD bs s = p at *
  rcases Nat.lt_or_ge 64 bs.length with h64 | h64
  case' inl => (rw [Nat.min_eq_right (Nat.le_of_lt h64)]; simp -dsimp -implicitDefEqProofs only [pick_nil, pick_cons, look_nil, look_cons, dropB_nil, dropB_cons, inD_nil, inD_cons, inE_nil, inE_cons, or_t_l, or_f_l, Nat.reduceBEq, Nat.reduceDiv, Nat.reduceAdd, beq_self_eq_true, Bool.false_eq_true, Bool.or_false, ↓reduceIte, Nat.reduceEqDiff, List.cons_append, List.nil_append]; simp -dsimp -implicitDefEqProofs only [go_sem, ↓reduceIte, Nat.reduceEqDiff, Nat.reduceLT, Nat.reduceAdd, Nat.reduceMul, Nat.reduceLeDiff, Nat.le_refl, Int.natCast_zero, Int.toNat_natCast, Int.reduceToNat, lt_len h64, d64])
  case' inr => (rw [Nat.min_eq_left h64]; simp -dsimp -implicitDefEqProofs only [pick_nil, pick_cons, look_nil, look_cons, dropB_nil, dropB_cons, inD_nil, inD_cons, inE_nil, inE_cons, or_t_l, or_f_l, Nat.reduceBEq, Nat.reduceDiv, Nat.reduceAdd, beq_self_eq_true, Bool.false_eq_true, Bool.or_false, ↓reduceIte, Nat.reduceEqDiff, List.cons_append, List.nil_append]; simp -dsimp -implicitDefEqProofs only [go_sem, ↓reduceIte, Nat.reduceEqDiff, Nat.reduceLT, Nat.reduceAdd, Nat.reduceMul, Nat.reduceLeDiff, Nat.le_refl, Int.natCast_zero, Int.toNat_natCast, Int.reduceToNat, nlt_len])
  all_goals
    (refine sCallT_io [900007] ?_; simp -dsimp -implicitDefEqProofs only [go_sem, ↓reduceIte, Nat.reduceEqDiff, Nat.reduceLT, Nat.reduceAdd, Nat.reduceMul, Nat.reduceLeDiff, Nat.le_refl, Int.natCast_zero, Int.toNat_natCast, Int.reduceToNat]; refine sCallM_one (q0 _) ?_; simp -dsimp -implicitDefEqProofs only [go_sem, ↓reduceIte, Nat.reduceEqDiff, Nat.reduceLT, Nat.reduceAdd, Nat.reduceMul, Nat.reduceLeDiff, Nat.le_refl, Int.natCast_zero, Int.toNat_natCast, Int.reduceToNat])
end Go.Vc


/-
  Contracts: stamps read and moved.
-/
set_option linter.unusedVariables false
set_option linter.unusedSimpArgs false
set_option linter.unnecessarySimpa false
namespace Go.Vc
open Go.Proofs Go.Lib
set_option maxRecDepth 100000
set_option maxHeartbeats 4000000
def rdOk (m : MkM) (s : List UInt8) (sec : Int) : Bool := decide (codeO m 0 sec = 0) && (readS (allN m) s).2.2
def rdAV (m : MkM) (s : List UInt8) (sec : Int) : AV := if rdOk m s sec = true then eIs (readO m s sec).1 else .val (.slice none 0 0)
theorem rdOk_ok {m : MkM} {s : List UInt8} {sec : Int} (h : rdOk m s sec = true) : isMk m = true ∧ (0 ≤ sec ∧ sec < allN m) ∧ (readS (allN m) s).2.2 = true ∧ (0 ≤ (readS (allN m) s).1 ∧ (readS (allN m) s).1 ≤ 25) ∧ (0 ≤ (readS (allN m) s).2.1 ∧ (readS (allN m) s).2.1 < allN m) ∧
    readO m s sec = (atK m (((readS (allN m) s).2.1 + allN m - sec).tmod (allN m)), (readS (allN m) s).1, 0) := by
  unfold rdOk at h
  simp only [Bool.and_eq_true, decide_eq_true_eq] at h
  obtain ⟨h1, h2⟩ := h
  obtain ⟨a, _, c⟩ := codeO_ok h1
  exact ⟨a, c, h2, readS_1 h2, read_bound h2, by rw [readO, if_pos h1, if_pos h2]⟩
theorem at_mod {m : MkM} (hm : isMk m = true) {x : Int} (h0 : 0 ≤ x) (hN : 0 < allN m) : ∃ h : (x.tmod (allN m)).toNat < (allK m).length, atK m (x.tmod (allN m)) = (allK m)[(x.tmod (allN m)).toNat] ∧ KeyOk m (atK m (x.tmod (allN m))) ∧ (rankTo m (atK m (x.tmod (allN m))) (atK m (x.tmod (allN m))).length : Int) = x.tmod (allN m) := by
  have h1 := Int.tmod_nonneg (allN m) h0
  have h2 := Int.tmod_lt_of_pos x hN
  have e := allN_len m
  have hlt : (x.tmod (allN m)).toNat < (allK m).length := by omega
  have ha : atK m (x.tmod (allN m)) = (allK m)[(x.tmod (allN m)).toNat] := by simp [atK, List.getD_eq_getElem?_getD, hlt]
  have hm2 := isMk_num hm
  obtain ⟨k1, k2⟩ := index_rank (by omega) hlt
  refine ⟨hlt, ha, by rw [ha]; exact k1, ?_⟩
  rw [ha, k2, Int.toNat_of_nonneg h1]
theorem c_iReadStamp (m : MkM) (s : List UInt8) (sec : Int) (hs : s.length ≤ 1048576) : Fn Tryz.prog 11 [eMk m, eS s, eI sec] false (· = .tup [rdAV m s sec, eI (readO m s sec).2.1, eI (readO m s sec).2.2]) := by
  refine Fn.of_vcS 42 [.tmp 6, .tmp 7, .tmp 8] Tryz.func11 rfl rfl rfl rfl rfl (of_decide_eq_true rfl) ?_
  have hmk := c_CountKeys m
  have h10 : ((1 : Int) != 0) = true := rfl
  have h00 : ((0 : Int) != 0) = false := rfl
  rcases hm : isMk m with _ | _
  · have e1 : rdOk m s sec = false := by rw [rdOk, codeO_no hm]; rfl
    have e2 : readO m s sec = ([], 0, 1) := by rw [readO, codeO_no hm]; rfl
    have e3 : rdAV m s sec = .val (.slice none 0 0) := by rw [rdAV, if_neg (by rw [e1]; exact fun h => by cases h)]
    rw [e2, e3]
    rw [hm] at hmk
    simp only [Bool.false_eq_true, if_false] at hmk
    clear hm e1 e2 e3
    simp -dsimp -implicitDefEqProofs only [go_sem, ↓reduceIte, Nat.reduceEqDiff, Nat.reduceLT, Nat.reduceAdd, Nat.reduceMul, Nat.reduceLeDiff, Nat.le_refl, Int.natCast_zero, Int.toNat_natCast, Int.reduceToNat]
    repeat' (refine sCallT_one (hmk) ?_; try simp -dsimp -implicitDefEqProofs only [go_sem, ↓reduceIte, Nat.reduceEqDiff, Nat.reduceLT, Nat.reduceAdd, Nat.reduceMul, Nat.reduceLeDiff, Nat.le_refl, Int.natCast_zero, Int.toNat_natCast, Int.reduceToNat, *])
    all_goals trace_state
  · have hb := allN_bound hm
    rw [hm] at hmk
    simp only [if_true] at hmk
    have i2 := c_within sec 0 (allN m - 1)
    have hin : isIn sec 0 (allN m - 1) = true ↔ 0 ≤ sec ∧ sec < allN m := by simp only [isIn, Bool.and_eq_true, decide_eq_true_eq]; omega
    rcases hy : isIn sec 0 (allN m - 1) with _ | _
    · rw [hy] at hin i2
      have hc : codeO m 0 sec = 2 := by rw [codeO, if_pos hm, if_neg (by rw [hy]; simp)]
      have e1 : rdOk m s sec = false := by rw [rdOk, hc]; rfl
      have e2 : readO m s sec = ([], 0, 2) := by rw [readO, hc]; rfl
      have e3 : rdAV m s sec = .val (.slice none 0 0) := by rw [rdAV, if_neg (by rw [e1]; exact fun h => by cases h)]
      rw [e2, e3]
      clear hm e1 e2 e3 hc hin hy
      generalize allN m = N at *
      simp -dsimp -implicitDefEqProofs only [go_sem, ↓reduceIte, Nat.reduceEqDiff, Nat.reduceLT, Nat.reduceAdd, Nat.reduceMul, Nat.reduceLeDiff, Nat.le_refl, Int.natCast_zero, Int.toNat_natCast, Int.reduceToNat]
      repeat' (refine sCallT_one (hmk) ?_; try simp -dsimp -implicitDefEqProofs only [go_sem, ↓reduceIte, Nat.reduceEqDiff, Nat.reduceLT, Nat.reduceAdd, Nat.reduceMul, Nat.reduceLeDiff, Nat.le_refl, Int.natCast_zero, Int.toNat_natCast, Int.reduceToNat, *])
      repeat' (refine sCallT_one (i2) ?_; try simp -dsimp -implicitDefEqProofs only [go_sem, ↓reduceIte, Nat.reduceEqDiff, Nat.reduceLT, Nat.reduceAdd, Nat.reduceMul, Nat.reduceLeDiff, Nat.le_refl, Int.natCast_zero, Int.toNat_natCast, Int.reduceToNat, *])
      ((repeat' (with_reducible refine And.intro ?_ ?_)); all_goals try (first | omega | (refine ⟨?_, ?_⟩ <;> omega) | (exact rfl)))
      repeat' (refine sCallT_one (i2) ?_; try simp -dsimp -implicitDefEqProofs only [go_sem, ↓reduceIte, Nat.reduceEqDiff, Nat.reduceLT, Nat.reduceAdd, Nat.reduceMul, Nat.reduceLeDiff, Nat.le_refl, Int.natCast_zero, Int.toNat_natCast, Int.reduceToNat, *])
      all_goals trace_state
    · rw [hy] at i2
      have hsec := hin.1 hy
      have hc : codeO m 0 sec = 0 := codeO_iff.2 ⟨hm, by omega, hsec⟩
      have hrd := c_readStamp (allN m) s (by omega) hs
      have hsame := (read_same (allN m) s).1
      have hsame2 := (read_same (allN m) s).2
      have hs1 := readI_1 (K := allN m) (s := s)
      rcases ho : (readS (allN m) s).2.2 with _ | _
      · have e1 : rdOk m s sec = false := by rw [rdOk, hc, ho]; rfl
        have e2 : readO m s sec = ([], 0, 6) := by rw [readO, if_pos hc, if_neg (by rw [ho]; simp)]
        have e3 : rdAV m s sec = .val (.slice none 0 0) := by rw [rdAV, if_neg (by rw [e1]; exact fun h => by cases h)]
        rw [e2, e3]
        rw [ho] at hsame
        rw [hsame] at hrd
        clear hm e1 e2 e3 hc hin hy ho hsame2 hs1
        generalize allN m = N at *
        generalize readI N s = R at *
        simp -dsimp -implicitDefEqProofs only [go_sem, ↓reduceIte, Nat.reduceEqDiff, Nat.reduceLT, Nat.reduceAdd, Nat.reduceMul, Nat.reduceLeDiff, Nat.le_refl, Int.natCast_zero, Int.toNat_natCast, Int.reduceToNat]
        repeat' (refine sCallT_one (hmk) ?_; try simp -dsimp -implicitDefEqProofs only [go_sem, ↓reduceIte, Nat.reduceEqDiff, Nat.reduceLT, Nat.reduceAdd, Nat.reduceMul, Nat.reduceLeDiff, Nat.le_refl, Int.natCast_zero, Int.toNat_natCast, Int.reduceToNat, *])
        repeat' (refine sCallT_one (i2) ?_; try simp -dsimp -implicitDefEqProofs only [go_sem, ↓reduceIte, Nat.reduceEqDiff, Nat.reduceLT, Nat.reduceAdd, Nat.reduceMul, Nat.reduceLeDiff, Nat.le_refl, Int.natCast_zero, Int.toNat_natCast, Int.reduceToNat, *])
        ((repeat' (with_reducible refine And.intro ?_ ?_)); all_goals try (first | omega | (refine ⟨?_, ?_⟩ <;> omega) | (exact rfl)))
        repeat' (refine sCallT_one (i2) ?_; try simp -dsimp -implicitDefEqProofs only [go_sem, ↓reduceIte, Nat.reduceEqDiff, Nat.reduceLT, Nat.reduceAdd, Nat.reduceMul, Nat.reduceLeDiff, Nat.le_refl, Int.natCast_zero, Int.toNat_natCast, Int.reduceToNat, *])
        repeat' (refine sCallT_one (hrd) ?_; try simp -dsimp -implicitDefEqProofs only [go_sem, ↓reduceIte, Nat.reduceEqDiff, Nat.reduceLT, Nat.reduceAdd, Nat.reduceMul, Nat.reduceLeDiff, Nat.le_refl, Int.natCast_zero, Int.toNat_natCast, Int.reduceToNat, *])
        all_goals trace_state
      · have e1 : rdOk m s sec = true := by rw [rdOk, hc, ho]; rfl
        obtain ⟨-, -, -, q1, q2, q3⟩ := rdOk_ok e1
        have e3 : rdAV m s sec = eIs (readO m s sec).1 := by rw [rdAV, if_pos e1]
        rw [ho] at hsame
        rw [hsame, hs1 hsame, hsame2 hsame] at hrd
        obtain ⟨hx, hx2, -, -⟩ := at_mod hm (x := (readS (allN m) s).2.1 + allN m - sec) (by omega) (by omega)
        have hkw := c_keyWith m hm (readS (allN m) s).2.1 sec q2 hsec hx
        rw [← hx2] at hkw
        rw [e3, q3]
        clear hm e1 e3 hc hin hy ho hsame2 hs1 hx2 hx q3 hsame
        generalize atK m _ = K at *
        generalize allN m = N at *
        generalize readS N s = R at *
        simp -dsimp -implicitDefEqProofs only [go_sem, ↓reduceIte, Nat.reduceEqDiff, Nat.reduceLT, Nat.reduceAdd, Nat.reduceMul, Nat.reduceLeDiff, Nat.le_refl, Int.natCast_zero, Int.toNat_natCast, Int.reduceToNat]
        repeat' (refine sCallT_one (hmk) ?_; try simp -dsimp -implicitDefEqProofs only [go_sem, ↓reduceIte, Nat.reduceEqDiff, Nat.reduceLT, Nat.reduceAdd, Nat.reduceMul, Nat.reduceLeDiff, Nat.le_refl, Int.natCast_zero, Int.toNat_natCast, Int.reduceToNat, *])
        repeat' (refine sCallT_one (i2) ?_; try simp -dsimp -implicitDefEqProofs only [go_sem, ↓reduceIte, Nat.reduceEqDiff, Nat.reduceLT, Nat.reduceAdd, Nat.reduceMul, Nat.reduceLeDiff, Nat.le_refl, Int.natCast_zero, Int.toNat_natCast, Int.reduceToNat, *])
        ((repeat' (with_reducible refine And.intro ?_ ?_)); all_goals try (first | omega | (refine ⟨?_, ?_⟩ <;> omega) | (exact rfl)))
        repeat' (refine sCallT_one (i2) ?_; try simp -dsimp -implicitDefEqProofs only [go_sem, ↓reduceIte, Nat.reduceEqDiff, Nat.reduceLT, Nat.reduceAdd, Nat.reduceMul, Nat.reduceLeDiff, Nat.le_refl, Int.natCast_zero, Int.toNat_natCast, Int.reduceToNat, *])
        repeat' (refine sCallT_one (hrd) ?_; try simp -dsimp -implicitDefEqProofs only [go_sem, ↓reduceIte, Nat.reduceEqDiff, Nat.reduceLT, Nat.reduceAdd, Nat.reduceMul, Nat.reduceLeDiff, Nat.le_refl, Int.natCast_zero, Int.toNat_natCast, Int.reduceToNat, *])
        refine sCallS_one hkw (by simp [noLabs, labs, labsL, isClo]) ?_
        simp -dsimp -implicitDefEqProofs only [go_sem, ↓reduceIte, Nat.reduceEqDiff, Nat.reduceLT, Nat.reduceAdd, Nat.reduceMul, Nat.reduceLeDiff, Nat.le_refl, Int.natCast_zero, Int.toNat_natCast, Int.reduceToNat]
        all_goals trace_state
theorem c_sReadStamp (m : MkM) (s : List UInt8) (sec : Int) (hs : s.length ≤ 1048576) : Fn Tryz.prog 12 [eMk m, eS s, eI sec] true (· = .tup [eIs (readO m s sec).1, eI (readO m s sec).2.1, eI (readO m s sec).2.2]) := by
  refine Fn.of_vcN 47 [.tmp 6, .tmp 7, .tmp 8] Tryz.func12 rfl rfl rfl rfl rfl (of_decide_eq_true rfl) ?_
  have hcode := c_l28Code m 0 sec
  have h00 : ((0 : Int) != 0) = false := rfl
  by_cases hc : codeO m 0 sec = 0
  · obtain ⟨hm, -, hsec⟩ := codeO_ok hc
    have hrd := c_l28Read m hm s hs
    have e : (cnt m m.chambers.toNat [] : Nat) = allN m := rfl
    rw [e] at hrd
    rw [hc] at hcode
    rcases ho : (readS (allN m) s).2.2 with _ | _
    · have e2 : readO m s sec = ([], 0, 6) := by rw [readO, if_pos hc, if_neg (by rw [ho]; simp)]
      rw [e2]
      rw [ho] at hrd
      clear hm hc ho e2 e
      generalize allN m = N at *
      generalize readS N s = R at *
      simp -dsimp -implicitDefEqProofs only [go_sem, ↓reduceIte, Nat.reduceEqDiff, Nat.reduceLT, Nat.reduceAdd, Nat.reduceMul, Nat.reduceLeDiff, Nat.le_refl, Int.natCast_zero, Int.toNat_natCast, Int.reduceToNat]
      repeat' (refine sCallT_one (hcode) ?_; try simp -dsimp -implicitDefEqProofs only [go_sem, ↓reduceIte, Nat.reduceEqDiff, Nat.reduceLT, Nat.reduceAdd, Nat.reduceMul, Nat.reduceLeDiff, Nat.le_refl, Int.natCast_zero, Int.toNat_natCast, Int.reduceToNat, *])
      repeat' (refine sCallT_one (hrd) ?_; try simp -dsimp -implicitDefEqProofs only [go_sem, ↓reduceIte, Nat.reduceEqDiff, Nat.reduceLT, Nat.reduceAdd, Nat.reduceMul, Nat.reduceLeDiff, Nat.le_refl, Int.natCast_zero, Int.toNat_natCast, Int.reduceToNat, *])
      all_goals trace_state
    · have e1 : rdOk m s sec = true := by rw [rdOk, hc, ho]; rfl
      have hb := allN_bound hm
      obtain ⟨-, -, -, q1, q2, q3⟩ := rdOk_ok e1
      obtain ⟨hx, hx2, -, -⟩ := at_mod hm (x := (readS (allN m) s).2.1 + allN m - sec) (by omega) (by omega)
      have hka := c_sKeyAt m hm _ hx
      have hcn := c_l02Count0 m hm
      rw [e] at hcn
      rw [Int.toNat_of_nonneg (Int.tmod_nonneg _ (by omega)), ← hx2] at hka
      rw [ho] at hrd
      rw [q3]
      clear hm e1 hc ho hx2 hx q3 e
      generalize atK m _ = K at *
      generalize allN m = N at *
      generalize readS N s = R at *
      have hN0 : (N == 0) = false := beq_eq_false_iff_ne.2 (by omega)
      simp -dsimp -implicitDefEqProofs only [go_sem, ↓reduceIte, Nat.reduceEqDiff, Nat.reduceLT, Nat.reduceAdd, Nat.reduceMul, Nat.reduceLeDiff, Nat.le_refl, Int.natCast_zero, Int.toNat_natCast, Int.reduceToNat]
      repeat' (refine sCallT_one (hcode) ?_; try simp -dsimp -implicitDefEqProofs only [go_sem, ↓reduceIte, Nat.reduceEqDiff, Nat.reduceLT, Nat.reduceAdd, Nat.reduceMul, Nat.reduceLeDiff, Nat.le_refl, Int.natCast_zero, Int.toNat_natCast, Int.reduceToNat, *])
      repeat' (refine sCallT_one (hrd) ?_; try simp -dsimp -implicitDefEqProofs only [go_sem, ↓reduceIte, Nat.reduceEqDiff, Nat.reduceLT, Nat.reduceAdd, Nat.reduceMul, Nat.reduceLeDiff, Nat.le_refl, Int.natCast_zero, Int.toNat_natCast, Int.reduceToNat, *])
      repeat' (refine sCallT_one (hcn) ?_; try simp -dsimp -implicitDefEqProofs only [go_sem, ↓reduceIte, Nat.reduceEqDiff, Nat.reduceLT, Nat.reduceAdd, Nat.reduceMul, Nat.reduceLeDiff, Nat.le_refl, Int.natCast_zero, Int.toNat_natCast, Int.reduceToNat, *])
      refine Later.draw mixed rfl ?_
      simp -dsimp -implicitDefEqProofs only [go_sem, ↓reduceIte, Nat.reduceEqDiff, Nat.reduceLT, Nat.reduceAdd, Nat.reduceMul, Nat.reduceLeDiff, Nat.le_refl, Int.natCast_zero, Int.toNat_natCast, Int.reduceToNat, hN0]
      ((repeat' (with_reducible refine And.intro ?_ ?_)); all_goals try (first | omega | (refine ⟨?_, ?_⟩ <;> omega) | (exact rfl)))
      refine sCallX_one hka ?_
      simp -dsimp -implicitDefEqProofs only [go_sem, ↓reduceIte, Nat.reduceEqDiff, Nat.reduceLT, Nat.reduceAdd, Nat.reduceMul, Nat.reduceLeDiff, Nat.le_refl, Int.natCast_zero, Int.toNat_natCast, Int.reduceToNat]
      ((repeat' (with_reducible refine And.intro ?_ ?_)); all_goals try (first | omega | (refine ⟨?_, ?_⟩ <;> omega) | (exact rfl)))
      all_goals simp
  · have e2 : readO m s sec = ([], 0, codeO m 0 sec) := by rw [readO, if_neg hc]
    rw [e2]
    have hz2 : (codeO m 0 sec != 0) = true := bne_iff_ne.2 hc
    clear hc e2
    generalize codeO m 0 sec = C at *
    simp -dsimp -implicitDefEqProofs only [go_sem, ↓reduceIte, Nat.reduceEqDiff, Nat.reduceLT, Nat.reduceAdd, Nat.reduceMul, Nat.reduceLeDiff, Nat.le_refl, Int.natCast_zero, Int.toNat_natCast, Int.reduceToNat]
    repeat' (refine sCallT_one (hcode) ?_; try simp -dsimp -implicitDefEqProofs only [go_sem, ↓reduceIte, Nat.reduceEqDiff, Nat.reduceLT, Nat.reduceAdd, Nat.reduceMul, Nat.reduceLeDiff, Nat.le_refl, Int.natCast_zero, Int.toNat_natCast, Int.reduceToNat, *])
    all_goals trace_state
theorem mod_add_mod {x b N : Int} (hx : 0 ≤ x) (hb : 0 ≤ b) (hN : 0 < N) : (x.tmod N + b).tmod N = (x + b).tmod N := by
  have h1 := Int.tmod_nonneg N hx
  rw [Int.tmod_eq_emod_of_nonneg (show 0 ≤ x.tmod N + b by omega), Int.tmod_eq_emod_of_nonneg hx, Int.tmod_eq_emod_of_nonneg (show 0 ≤ x + b by omega), Int.emod_add_emod]
theorem move_ok {m : MkM} {s : List UInt8} {a b : Int} (h : rdOk m s a = true) (hb : codeO m 0 b = 0) :
    stampO m (readO m s a).1 (readO m s a).2.1 b = moveO m s a b ∧ moveO m s a b = (stampS (itoa (allN m)).length (readS (allN m) s).1 (((readS (allN m) s).2.1 - a + b + allN m).tmod (allN m)), 0) := by
  obtain ⟨q0, q1, q2, q3, q4, q5⟩ := rdOk_ok h
  obtain ⟨-, -, hb2⟩ := codeO_ok hb
  have hca : codeO m 0 a = 0 := codeO_iff.2 ⟨q0, by omega, q1⟩
  obtain ⟨hx, hx2, hk, hr⟩ := at_mod q0 (x := (readS (allN m) s).2.1 + allN m - a) (by omega) (by omega)
  have hmv : moveO m s a b = (stampS (itoa (allN m)).length (readS (allN m) s).1 (((readS (allN m) s).2.1 - a + b + allN m).tmod (allN m)), 0) := by rw [moveO, if_pos hca, if_pos hb, if_pos q2]
  refine ⟨?_, hmv⟩
  rw [hmv, q5]
  dsimp only
  rw [stampO, if_pos (codeO_iff.2 ⟨q0, q3, hb2⟩), if_pos hk.fault, hr, mod_add_mod (by omega) (by omega) (by omega)]
  congr 3
  omega
theorem c_iMoveSecret (m : MkM) (s : List UInt8) (a b : Int) (hs : s.length ≤ 1048576) : Fn Tryz.prog 19 [eMk m, eS s, eI a, eI b] true (· = .tup [eS (moveO m s a b).1, eI (moveO m s a b).2]) := by
  refine Fn.of_vcN 56 [.tmp 8, .tmp 9] Tryz.func19 rfl rfl rfl rfl rfl (of_decide_eq_true rfl) ?_
  have hmk := c_CountKeys m
  have h10 : ((1 : Int) != 0) = true := rfl
  have h00 : ((0 : Int) != 0) = false := rfl
  rcases hm : isMk m with _ | _
  · have e2 : moveO m s a b = ([], 1) := by rw [moveO, if_neg (by rw [codeO_no hm]; omega), codeO_no hm]
    rw [e2]
    rw [hm] at hmk
    simp only [Bool.false_eq_true, if_false] at hmk
    clear hm e2
    simp -dsimp -implicitDefEqProofs only [go_sem, ↓reduceIte, Nat.reduceEqDiff, Nat.reduceLT, Nat.reduceAdd, Nat.reduceMul, Nat.reduceLeDiff, Nat.le_refl, Int.natCast_zero, Int.toNat_natCast, Int.reduceToNat]
    repeat' (refine sCallT_one (hmk) ?_; try simp -dsimp -implicitDefEqProofs only [go_sem, ↓reduceIte, Nat.reduceEqDiff, Nat.reduceLT, Nat.reduceAdd, Nat.reduceMul, Nat.reduceLeDiff, Nat.le_refl, Int.natCast_zero, Int.toNat_natCast, Int.reduceToNat, *])
    all_goals trace_state
  · have hb := allN_bound hm
    rw [hm] at hmk
    simp only [if_true] at hmk
    have i1 := c_within a 0 (allN m - 1)
    have i2 := c_within b 0 (allN m - 1)
    have hin1 : isIn a 0 (allN m - 1) = true ↔ 0 ≤ a ∧ a < allN m := by simp only [isIn, Bool.and_eq_true, decide_eq_true_eq]; omega
    have hin2 : isIn b 0 (allN m - 1) = true ↔ 0 ≤ b ∧ b < allN m := by simp only [isIn, Bool.and_eq_true, decide_eq_true_eq]; omega
    have h0 : isIn 0 0 25 = true := rfl
    rcases hy : isIn a 0 (allN m - 1) with _ | _
    · rw [hy] at i1
      have hc : codeO m 0 a = 2 := by rw [codeO, if_pos hm, if_neg (by rw [hy]; simp)]
      have e2 : moveO m s a b = ([], 2) := by rw [moveO, if_neg (by rw [hc]; omega), hc]
      rw [e2]
      clear hm e2 hc hin1 hin2 hy
      generalize allN m = N at *
      simp -dsimp -implicitDefEqProofs only [go_sem, ↓reduceIte, Nat.reduceEqDiff, Nat.reduceLT, Nat.reduceAdd, Nat.reduceMul, Nat.reduceLeDiff, Nat.le_refl, Int.natCast_zero, Int.toNat_natCast, Int.reduceToNat]
      repeat' (refine sCallT_one (hmk) ?_; try simp -dsimp -implicitDefEqProofs only [go_sem, ↓reduceIte, Nat.reduceEqDiff, Nat.reduceLT, Nat.reduceAdd, Nat.reduceMul, Nat.reduceLeDiff, Nat.le_refl, Int.natCast_zero, Int.toNat_natCast, Int.reduceToNat, *])
      repeat' (refine sCallT_one (i1) ?_; try simp -dsimp -implicitDefEqProofs only [go_sem, ↓reduceIte, Nat.reduceEqDiff, Nat.reduceLT, Nat.reduceAdd, Nat.reduceMul, Nat.reduceLeDiff, Nat.le_refl, Int.natCast_zero, Int.toNat_natCast, Int.reduceToNat, *])
      ((repeat' (with_reducible refine And.intro ?_ ?_)); all_goals try (first | omega | (refine ⟨?_, ?_⟩ <;> omega) | (exact rfl)))
      repeat' (refine sCallT_one (i1) ?_; try simp -dsimp -implicitDefEqProofs only [go_sem, ↓reduceIte, Nat.reduceEqDiff, Nat.reduceLT, Nat.reduceAdd, Nat.reduceMul, Nat.reduceLeDiff, Nat.le_refl, Int.natCast_zero, Int.toNat_natCast, Int.reduceToNat, *])
      all_goals trace_state
    · rw [hy] at i1
      have ha := hin1.1 hy
      have hca : codeO m 0 a = 0 := codeO_iff.2 ⟨hm, by omega, ha⟩
      rcases hz : isIn b 0 (allN m - 1) with _ | _
      · rw [hz] at i2
        have hc : codeO m 0 b = 2 := by rw [codeO, if_pos hm, if_neg (by rw [hz]; simp)]
        have e2 : moveO m s a b = ([], 2) := by rw [moveO, if_pos hca, if_neg (by rw [hc]; omega), hc]
        rw [e2]
        clear hm e2 hc hin1 hin2 hy hca hz
        generalize allN m = N at *
        simp -dsimp -implicitDefEqProofs only [go_sem, ↓reduceIte, Nat.reduceEqDiff, Nat.reduceLT, Nat.reduceAdd, Nat.reduceMul, Nat.reduceLeDiff, Nat.le_refl, Int.natCast_zero, Int.toNat_natCast, Int.reduceToNat]
        repeat' (refine sCallT_one (hmk) ?_; try simp -dsimp -implicitDefEqProofs only [go_sem, ↓reduceIte, Nat.reduceEqDiff, Nat.reduceLT, Nat.reduceAdd, Nat.reduceMul, Nat.reduceLeDiff, Nat.le_refl, Int.natCast_zero, Int.toNat_natCast, Int.reduceToNat, *])
        repeat' (refine sCallT_one (i1) ?_; try simp -dsimp -implicitDefEqProofs only [go_sem, ↓reduceIte, Nat.reduceEqDiff, Nat.reduceLT, Nat.reduceAdd, Nat.reduceMul, Nat.reduceLeDiff, Nat.le_refl, Int.natCast_zero, Int.toNat_natCast, Int.reduceToNat, *])
        ((repeat' (with_reducible refine And.intro ?_ ?_)); all_goals try (first | omega | (refine ⟨?_, ?_⟩ <;> omega) | (exact rfl)))
        repeat' (refine sCallT_one (i1) ?_; try simp -dsimp -implicitDefEqProofs only [go_sem, ↓reduceIte, Nat.reduceEqDiff, Nat.reduceLT, Nat.reduceAdd, Nat.reduceMul, Nat.reduceLeDiff, Nat.le_refl, Int.natCast_zero, Int.toNat_natCast, Int.reduceToNat, *])
        ((repeat' (with_reducible refine And.intro ?_ ?_)); all_goals try (first | omega | (refine ⟨?_, ?_⟩ <;> omega) | (exact rfl)))
        repeat' (refine sCallT_one (i2) ?_; try simp -dsimp -implicitDefEqProofs only [go_sem, ↓reduceIte, Nat.reduceEqDiff, Nat.reduceLT, Nat.reduceAdd, Nat.reduceMul, Nat.reduceLeDiff, Nat.le_refl, Int.natCast_zero, Int.toNat_natCast, Int.reduceToNat, *])
        all_goals trace_state
      · rw [hz] at i2
        have hb2 := hin2.1 hz
        have hcb : codeO m 0 b = 0 := codeO_iff.2 ⟨hm, by omega, hb2⟩
        have hrd := c_readStamp (allN m) s (by omega) hs
        have hsame := (read_same (allN m) s).1
        have hsame2 := (read_same (allN m) s).2
        have hs1 := readI_1 (K := allN m) (s := s)
        rcases ho : (readS (allN m) s).2.2 with _ | _
        · have e2 : moveO m s a b = ([], 6) := by rw [moveO, if_pos hca, if_pos hcb, if_neg (by rw [ho]; simp)]
          rw [e2]
          rw [ho] at hsame
          rw [hsame] at hrd
          clear hm e2 hca hcb hin1 hin2 hy hz ho hsame2 hs1
          generalize allN m = N at *
          generalize readI N s = R at *
          simp -dsimp -implicitDefEqProofs only [go_sem, ↓reduceIte, Nat.reduceEqDiff, Nat.reduceLT, Nat.reduceAdd, Nat.reduceMul, Nat.reduceLeDiff, Nat.le_refl, Int.natCast_zero, Int.toNat_natCast, Int.reduceToNat]
          repeat' (refine sCallT_one (hmk) ?_; try simp -dsimp -implicitDefEqProofs only [go_sem, ↓reduceIte, Nat.reduceEqDiff, Nat.reduceLT, Nat.reduceAdd, Nat.reduceMul, Nat.reduceLeDiff, Nat.le_refl, Int.natCast_zero, Int.toNat_natCast, Int.reduceToNat, *])
          repeat' (refine sCallT_one (i1) ?_; try simp -dsimp -implicitDefEqProofs only [go_sem, ↓reduceIte, Nat.reduceEqDiff, Nat.reduceLT, Nat.reduceAdd, Nat.reduceMul, Nat.reduceLeDiff, Nat.le_refl, Int.natCast_zero, Int.toNat_natCast, Int.reduceToNat, *])
          ((repeat' (with_reducible refine And.intro ?_ ?_)); all_goals try (first | omega | (refine ⟨?_, ?_⟩ <;> omega) | (exact rfl)))
          repeat' (refine sCallT_one (i1) ?_; try simp -dsimp -implicitDefEqProofs only [go_sem, ↓reduceIte, Nat.reduceEqDiff, Nat.reduceLT, Nat.reduceAdd, Nat.reduceMul, Nat.reduceLeDiff, Nat.le_refl, Int.natCast_zero, Int.toNat_natCast, Int.reduceToNat, *])
          ((repeat' (with_reducible refine And.intro ?_ ?_)); all_goals try (first | omega | (refine ⟨?_, ?_⟩ <;> omega) | (exact rfl)))
          repeat' (refine sCallT_one (i2) ?_; try simp -dsimp -implicitDefEqProofs only [go_sem, ↓reduceIte, Nat.reduceEqDiff, Nat.reduceLT, Nat.reduceAdd, Nat.reduceMul, Nat.reduceLeDiff, Nat.le_refl, Int.natCast_zero, Int.toNat_natCast, Int.reduceToNat, *])
          repeat' (refine sCallT_one (hrd) ?_; try simp -dsimp -implicitDefEqProofs only [go_sem, ↓reduceIte, Nat.reduceEqDiff, Nat.reduceLT, Nat.reduceAdd, Nat.reduceMul, Nat.reduceLeDiff, Nat.le_refl, Int.natCast_zero, Int.toNat_natCast, Int.reduceToNat, *])
          all_goals trace_state
        · have e1 : rdOk m s a = true := by rw [rdOk, hca, ho]; rfl
          obtain ⟨-, -, -, q1, q2, -⟩ := rdOk_ok e1
          rw [(move_ok e1 hcb).2]
          rw [ho] at hsame
          rw [hsame, hs1 hsame, hsame2 hsame] at hrd
          have hm1 := Int.tmod_nonneg (allN m) (show 0 ≤ (readS (allN m) s).2.1 - a + b + allN m by omega)
          have hm2 := Int.tmod_lt_of_pos ((readS (allN m) s).2.1 - a + b + allN m) (show 0 < allN m by omega)
          have hst := c_stampText (allN m) (readS (allN m) s).1 (((readS (allN m) s).2.1 - a + b + allN m).tmod (allN m)) (by omega) q1 (by omega)
          have hN0 : (allN m == 0) = false := beq_eq_false_iff_ne.2 (by omega)
          clear hm e1 hca hcb hin1 hin2 hy hz ho hsame2 hs1 hsame
          generalize itoa (allN m) = A at *
          generalize allN m = N at *
          generalize readS N s = R at *
          simp -dsimp -implicitDefEqProofs only [go_sem, ↓reduceIte, Nat.reduceEqDiff, Nat.reduceLT, Nat.reduceAdd, Nat.reduceMul, Nat.reduceLeDiff, Nat.le_refl, Int.natCast_zero, Int.toNat_natCast, Int.reduceToNat]
          repeat' (refine sCallT_one (hmk) ?_; try simp -dsimp -implicitDefEqProofs only [go_sem, ↓reduceIte, Nat.reduceEqDiff, Nat.reduceLT, Nat.reduceAdd, Nat.reduceMul, Nat.reduceLeDiff, Nat.le_refl, Int.natCast_zero, Int.toNat_natCast, Int.reduceToNat, *])
          repeat' (refine sCallT_one (i1) ?_; try simp -dsimp -implicitDefEqProofs only [go_sem, ↓reduceIte, Nat.reduceEqDiff, Nat.reduceLT, Nat.reduceAdd, Nat.reduceMul, Nat.reduceLeDiff, Nat.le_refl, Int.natCast_zero, Int.toNat_natCast, Int.reduceToNat, *])
          ((repeat' (with_reducible refine And.intro ?_ ?_)); all_goals try (first | omega | (refine ⟨?_, ?_⟩ <;> omega) | (exact rfl)))
          repeat' (refine sCallT_one (i1) ?_; try simp -dsimp -implicitDefEqProofs only [go_sem, ↓reduceIte, Nat.reduceEqDiff, Nat.reduceLT, Nat.reduceAdd, Nat.reduceMul, Nat.reduceLeDiff, Nat.le_refl, Int.natCast_zero, Int.toNat_natCast, Int.reduceToNat, *])
          ((repeat' (with_reducible refine And.intro ?_ ?_)); all_goals try (first | omega | (refine ⟨?_, ?_⟩ <;> omega) | (exact rfl)))
          repeat' (refine sCallT_one (i2) ?_; try simp -dsimp -implicitDefEqProofs only [go_sem, ↓reduceIte, Nat.reduceEqDiff, Nat.reduceLT, Nat.reduceAdd, Nat.reduceMul, Nat.reduceLeDiff, Nat.le_refl, Int.natCast_zero, Int.toNat_natCast, Int.reduceToNat, *])
          repeat' (refine sCallT_one (hrd) ?_; try simp -dsimp -implicitDefEqProofs only [go_sem, ↓reduceIte, Nat.reduceEqDiff, Nat.reduceLT, Nat.reduceAdd, Nat.reduceMul, Nat.reduceLeDiff, Nat.le_refl, Int.natCast_zero, Int.toNat_natCast, Int.reduceToNat, *])
          ((repeat' (with_reducible refine And.intro ?_ ?_)); all_goals try (first | omega | (refine ⟨?_, ?_⟩ <;> omega) | (exact rfl)))
          repeat' (refine sCallT_one (hst) ?_; try simp -dsimp -implicitDefEqProofs only [go_sem, ↓reduceIte, Nat.reduceEqDiff, Nat.reduceLT, Nat.reduceAdd, Nat.reduceMul, Nat.reduceLeDiff, Nat.le_refl, Int.natCast_zero, Int.toNat_natCast, Int.reduceToNat, *])
          all_goals trace_state
theorem c_sMoveSecret (m : MkM) (s : List UInt8) (a b : Int) (hs : s.length ≤ 1048576) : Fn Tryz.prog 20 [eMk m, eS s, eI a, eI b] true (· = .tup [eS (moveO m s a b).1, eI (moveO m s a b).2]) := by
  refine Fn.of_vcN 43 [.tmp 8, .tmp 9] Tryz.func20 rfl rfl rfl rfl rfl (of_decide_eq_true rfl) ?_
  have hca := c_l28Code m 0 a
  have hcb := c_l28Code m 0 b
  have h00 : ((0 : Int) != 0) = false := rfl
  have h60 : ((6 : Int) != 0) = true := rfl
  by_cases qa : codeO m 0 a = 0
  · rw [qa] at hca
    by_cases qb : codeO m 0 b = 0
    · rw [qb] at hcb
      have hrd := c_sReadStamp m s a hs
      rcases ho : (readS (allN m) s).2.2 with _ | _
      · have e2 : moveO m s a b = ([], 6) := by rw [moveO, if_pos qa, if_pos qb, if_neg (by rw [ho]; simp)]
        have e3 : readO m s a = ([], 0, 6) := by rw [readO, if_pos qa, if_neg (by rw [ho]; simp)]
        rw [e2]
        rw [e3] at hrd
        clear qa qb ho e2 e3
        simp -dsimp -implicitDefEqProofs only [go_sem, ↓reduceIte, Nat.reduceEqDiff, Nat.reduceLT, Nat.reduceAdd, Nat.reduceMul, Nat.reduceLeDiff, Nat.le_refl, Int.natCast_zero, Int.toNat_natCast, Int.reduceToNat]
        repeat' (refine sCallT_one (hca) ?_; try simp -dsimp -implicitDefEqProofs only [go_sem, ↓reduceIte, Nat.reduceEqDiff, Nat.reduceLT, Nat.reduceAdd, Nat.reduceMul, Nat.reduceLeDiff, Nat.le_refl, Int.natCast_zero, Int.toNat_natCast, Int.reduceToNat, *])
        repeat' (refine sCallT_one (hcb) ?_; try simp -dsimp -implicitDefEqProofs only [go_sem, ↓reduceIte, Nat.reduceEqDiff, Nat.reduceLT, Nat.reduceAdd, Nat.reduceMul, Nat.reduceLeDiff, Nat.le_refl, Int.natCast_zero, Int.toNat_natCast, Int.reduceToNat, *])
        repeat' (refine sCallT_one (hrd) ?_; try simp -dsimp -implicitDefEqProofs only [go_sem, ↓reduceIte, Nat.reduceEqDiff, Nat.reduceLT, Nat.reduceAdd, Nat.reduceMul, Nat.reduceLeDiff, Nat.le_refl, Int.natCast_zero, Int.toNat_natCast, Int.reduceToNat, *])
        all_goals trace_state
      · have e1 : rdOk m s a = true := by rw [rdOk, qa, ho]; rfl
        obtain ⟨hm, -, -, -, q2, q3⟩ := rdOk_ok e1
        have hca2 := codeO_ok qa
        obtain ⟨hx, hx2, hk, hr⟩ := at_mod hm (x := (readS (allN m) s).2.1 + allN m - a) (by omega) (by omega)
        have hst := c_sStampOf m (readO m s a).1 (readO m s a).2.1 b (by
          rw [q3]
          have := hk.len
          have := isMk_num hm
          dsimp only
          omega)
        rw [(move_ok e1 qb).1] at hst
        have e0 : (readO m s a).2.2 = 0 := by rw [q3]
        rw [e0] at hrd
        clear qa qb e1 q3 hx hx2 hk hr hm ho q2 hca2 e0
        generalize readO m s a = R at *
        generalize moveO m s a b = M at *
        have htl : List.take R.1.length (List.map eI R.1) = List.map eI R.1 := List.take_of_length_le (by simp)
        simp -dsimp -implicitDefEqProofs only [go_sem, ↓reduceIte, Nat.reduceEqDiff, Nat.reduceLT, Nat.reduceAdd, Nat.reduceMul, Nat.reduceLeDiff, Nat.le_refl, Int.natCast_zero, Int.toNat_natCast, Int.reduceToNat]
        repeat' (refine sCallT_one (hca) ?_; try simp -dsimp -implicitDefEqProofs only [go_sem, ↓reduceIte, Nat.reduceEqDiff, Nat.reduceLT, Nat.reduceAdd, Nat.reduceMul, Nat.reduceLeDiff, Nat.le_refl, Int.natCast_zero, Int.toNat_natCast, Int.reduceToNat, *])
        repeat' (refine sCallT_one (hcb) ?_; try simp -dsimp -implicitDefEqProofs only [go_sem, ↓reduceIte, Nat.reduceEqDiff, Nat.reduceLT, Nat.reduceAdd, Nat.reduceMul, Nat.reduceLeDiff, Nat.le_refl, Int.natCast_zero, Int.toNat_natCast, Int.reduceToNat, *])
        repeat' (refine sCallT_one (hrd) ?_; try simp -dsimp -implicitDefEqProofs only [go_sem, ↓reduceIte, Nat.reduceEqDiff, Nat.reduceLT, Nat.reduceAdd, Nat.reduceMul, Nat.reduceLeDiff, Nat.le_refl, Int.natCast_zero, Int.toNat_natCast, Int.reduceToNat, *])
        repeat' (refine sCallT_one (hst) ?_; try simp -dsimp -implicitDefEqProofs only [go_sem, ↓reduceIte, Nat.reduceEqDiff, Nat.reduceLT, Nat.reduceAdd, Nat.reduceMul, Nat.reduceLeDiff, Nat.le_refl, Int.natCast_zero, Int.toNat_natCast, Int.reduceToNat, *])
        all_goals trace_state
    · have e2 : moveO m s a b = ([], codeO m 0 b) := by rw [moveO, if_pos qa, if_neg qb]
      rw [e2]
      have hz2 : (codeO m 0 b != 0) = true := bne_iff_ne.2 qb
      clear qa qb e2
      generalize codeO m 0 b = C at *
      simp -dsimp -implicitDefEqProofs only [go_sem, ↓reduceIte, Nat.reduceEqDiff, Nat.reduceLT, Nat.reduceAdd, Nat.reduceMul, Nat.reduceLeDiff, Nat.le_refl, Int.natCast_zero, Int.toNat_natCast, Int.reduceToNat]
      repeat' (refine sCallT_one (hca) ?_; try simp -dsimp -implicitDefEqProofs only [go_sem, ↓reduceIte, Nat.reduceEqDiff, Nat.reduceLT, Nat.reduceAdd, Nat.reduceMul, Nat.reduceLeDiff, Nat.le_refl, Int.natCast_zero, Int.toNat_natCast, Int.reduceToNat, *])
      repeat' (refine sCallT_one (hcb) ?_; try simp -dsimp -implicitDefEqProofs only [go_sem, ↓reduceIte, Nat.reduceEqDiff, Nat.reduceLT, Nat.reduceAdd, Nat.reduceMul, Nat.reduceLeDiff, Nat.le_refl, Int.natCast_zero, Int.toNat_natCast, Int.reduceToNat, *])
      all_goals trace_state
  · have e2 : moveO m s a b = ([], codeO m 0 a) := by rw [moveO, if_neg qa]
    rw [e2]
    have hz2 : (codeO m 0 a != 0) = true := bne_iff_ne.2 qa
    have hz3 : (codeO m 0 a == 0) = false := beq_eq_false_iff_ne.2 qa
    clear qa e2
    generalize codeO m 0 a = C at *
    simp -dsimp -implicitDefEqProofs only [go_sem, ↓reduceIte, Nat.reduceEqDiff, Nat.reduceLT, Nat.reduceAdd, Nat.reduceMul, Nat.reduceLeDiff, Nat.le_refl, Int.natCast_zero, Int.toNat_natCast, Int.reduceToNat]
    repeat' (refine sCallT_one (hca) ?_; try simp -dsimp -implicitDefEqProofs only [go_sem, ↓reduceIte, Nat.reduceEqDiff, Nat.reduceLT, Nat.reduceAdd, Nat.reduceMul, Nat.reduceLeDiff, Nat.le_refl, Int.natCast_zero, Int.toNat_natCast, Int.reduceToNat, *])
    all_goals trace_state
end Go.Vc


/-
  Plain facts on stamps: a stamp is read again; a stamp with one other digit is none.
-/
set_option linter.unusedVariables false
set_option linter.unusedSimpArgs false
set_option linter.unnecessarySimpa false
namespace Go.Vc
open Go.Proofs Go.Lib
set_option maxRecDepth 100000
theorem dval_zero : ∀ k acc, dval acc (List.replicate k 48) = acc * 10 ^ k
  | 0, acc => by simp [dval_nil]
  | k + 1, acc => by
    rw [List.replicate_succ, dval_cons, dval_zero k, Nat.pow_succ]
    show (acc * 10 + 0) * 10 ^ k = _
    rw [Nat.add_zero, Nat.mul_assoc, Nat.mul_comm 10]
theorem pad_val {w : Nat} {n : Int} (h : 0 ≤ n) : (dval 0 (padS w (itoa n)) : Int) = n := by
  rw [padS, dval_app, dval_zero, Nat.zero_mul, itoa_of_nonneg h, dval_dec0]
  omega
theorem dsum_val {x : UInt8} {A r : List UInt8} (hA : ∀ b ∈ A, isDg b = true) : ∀ i, i ≤ A.length → dsum ([x] ++ A ++ r) i = (dval 0 (A.take i) : Nat)
  | 0, _ => rfl
  | i + 1, hi => by
    have e : A.take (i + 1) = A.take i ++ [A[i]] := by rw [List.take_add_one]; simp [show i < A.length by omega]
    have g : ([x] ++ A ++ r).getD (i + 1) 0 = A[i] := by simp [List.getD_eq_getElem?_getD, List.getElem?_append, show i < A.length by omega]
    have hd := hA A[i] (List.getElem_mem (by omega))
    simp only [isDg, Bool.and_eq_true, decide_eq_true_eq] at hd
    rw [dsum, dsum_val hA i (by omega), g, e, dval_app, dval_cons, dval_nil]
    omega
theorem chk_len {se n : Int} (h : 0 ≤ se ∧ se ≤ 25) (hn : 0 ≤ n ∧ n ≤ 1000000) : (itoa (chk se n)).length ≤ 2 := by
  have := chk_bound h hn
  rw [itoa_of_nonneg this.1]
  exact dec_len_le 1 _ (by omega)
theorem stamp_len {N se n : Int} (h : 0 ≤ se ∧ se ≤ 25) (hn : 0 ≤ n ∧ n < N) (hN : N ≤ 262144) : (stampS (itoa N).length se n).length = (itoa N).length + 4 := by
  have h1 := (pad_dg (w := (itoa N).length) (n := n) hn.1 (itoa_mono hn.1 (by omega))).1
  have h2 := (pad_dg (w := 2) (n := chk se n) (chk_bound h (by omega)).1 (chk_len h (by omega))).1
  simp only [stampS, List.length_append, List.length_cons, List.length_nil, h1, h2]
  omega
theorem readS_stamp {N se n : Int} (h : 0 ≤ se ∧ se ≤ 25) (hn : 0 ≤ n ∧ n < N) (hN : N ≤ 262144) : readS N (stampS (itoa N).length se n) = (se, n, true) := by
  have hm := itoa_mono hn.1 (show n ≤ N by omega)
  have h1 := pad_dg (w := (itoa N).length) (n := n) hn.1 hm
  have hl := stamp_len h hn hN
  have hd := stamp_dgs (w := (itoa N).length) (se := se) hn.1 hm
  have h0 : ((stampS (itoa N).length se n).getD 0 0).toNat = 65 + se.toNat := by
    have e : (stampS (itoa N).length se n).getD 0 0 = UInt8.ofNat (65 + se).toNat := by simp [stampS]
    rw [e, UInt8.toNat_ofNat']
    omega
  have hv : dsum (stampS (itoa N).length se n) (itoa N).length = n := by
    have := dsum_val (x := UInt8.ofNat (65 + se).toNat) (r := [45] ++ padS 2 (itoa (chk se n))) h1.2 (itoa N).length (by omega)
    rw [List.take_of_length_le (by omega), pad_val hn.1] at this
    refine Eq.trans ?_ this
    simp [stampS]
  unfold readS
  rw [h0, hv, if_pos ⟨hl, by omega, by omega, hd⟩]
  have e : ((65 + se.toNat : Nat) : Int) - 65 = se := by omega
  rw [e, decide_eq_true hn.2, decide_eq_true rfl]
  rfl
theorem readS_text {N : Int} {s : List UInt8} (h : (readS N s).2.2 = true) : stampS (itoa N).length (readS N s).1 (readS N s).2.1 = s := by
  unfold readS at h ⊢
  split at h
  · rename_i q
    rw [if_pos q]
    simp only [Bool.and_eq_true, decide_eq_true_eq] at h
    exact h.2
  · cases h
end Go.Vc


/-
  Secrets: check numbers, and plain facts on stamps that are moved.
-/
set_option linter.unusedVariables false
set_option linter.unusedSimpArgs false
set_option linter.unnecessarySimpa false
namespace Go.Vc
open Go.Proofs Go.Lib
set_option maxRecDepth 100000
set_option maxHeartbeats 2000000
def checkO (se n : Int) : Int × Int := if isIn se 0 25 = true ∧ isIn n 0 9999999999 = true then (chk se n, 0) else (0, 2)
theorem c_iCheckOf (se n : Int) : Fn Tryz.prog 25 [eI se, eI n] true (· = .tup [eI (checkO se n).1, eI (checkO se n).2]) := by
  refine Fn.of_vcN 17 [.tmp 4, .tmp 5] Tryz.func25 rfl rfl rfl rfl rfl (of_decide_eq_true rfl) ?_
  have i1 := c_within se 0 25
  have i2 := c_within n 0 9999999999
  unfold checkO
  rcases h1 : isIn se 0 25 with _ | _
  · rw [h1] at i1
    clear h1
    simp only [Bool.false_eq_true, false_and, if_false]
    simp -dsimp -implicitDefEqProofs only [go_sem, ↓reduceIte, Nat.reduceEqDiff, Nat.reduceLT, Nat.reduceAdd, Nat.reduceMul, Nat.reduceLeDiff, Nat.le_refl, Int.natCast_zero, Int.toNat_natCast, Int.reduceToNat]
    repeat' (refine sCallT_one (i1) ?_; try simp -dsimp -implicitDefEqProofs only [go_sem, ↓reduceIte, Nat.reduceEqDiff, Nat.reduceLT, Nat.reduceAdd, Nat.reduceMul, Nat.reduceLeDiff, Nat.le_refl, Int.natCast_zero, Int.toNat_natCast, Int.reduceToNat, *])
  · rw [h1] at i1
    rcases h2 : isIn n 0 9999999999 with _ | _
    · rw [h2] at i2
      clear h1 h2
      simp only [Bool.false_eq_true, and_false, if_false]
      simp -dsimp -implicitDefEqProofs only [go_sem, ↓reduceIte, Nat.reduceEqDiff, Nat.reduceLT, Nat.reduceAdd, Nat.reduceMul, Nat.reduceLeDiff, Nat.le_refl, Int.natCast_zero, Int.toNat_natCast, Int.reduceToNat]
      repeat' (refine sCallT_one (i1) ?_; try simp -dsimp -implicitDefEqProofs only [go_sem, ↓reduceIte, Nat.reduceEqDiff, Nat.reduceLT, Nat.reduceAdd, Nat.reduceMul, Nat.reduceLeDiff, Nat.le_refl, Int.natCast_zero, Int.toNat_natCast, Int.reduceToNat, *])
      repeat' (refine sCallT_one (i2) ?_; try simp -dsimp -implicitDefEqProofs only [go_sem, ↓reduceIte, Nat.reduceEqDiff, Nat.reduceLT, Nat.reduceAdd, Nat.reduceMul, Nat.reduceLeDiff, Nat.le_refl, Int.natCast_zero, Int.toNat_natCast, Int.reduceToNat, *])
    · rw [h2] at i2
      have q := c_checkOf se n (by simpa [isIn] using h1) (by simpa [isIn] using h2)
      clear h1 h2
      simp only [and_self, if_true]
      simp -dsimp -implicitDefEqProofs only [go_sem, ↓reduceIte, Nat.reduceEqDiff, Nat.reduceLT, Nat.reduceAdd, Nat.reduceMul, Nat.reduceLeDiff, Nat.le_refl, Int.natCast_zero, Int.toNat_natCast, Int.reduceToNat]
      repeat' (refine sCallT_one (i1) ?_; try simp -dsimp -implicitDefEqProofs only [go_sem, ↓reduceIte, Nat.reduceEqDiff, Nat.reduceLT, Nat.reduceAdd, Nat.reduceMul, Nat.reduceLeDiff, Nat.le_refl, Int.natCast_zero, Int.toNat_natCast, Int.reduceToNat, *])
      repeat' (refine sCallT_one (i2) ?_; try simp -dsimp -implicitDefEqProofs only [go_sem, ↓reduceIte, Nat.reduceEqDiff, Nat.reduceLT, Nat.reduceAdd, Nat.reduceMul, Nat.reduceLeDiff, Nat.le_refl, Int.natCast_zero, Int.toNat_natCast, Int.reduceToNat, *])
      repeat' (refine sCallT_one (q) ?_; try simp -dsimp -implicitDefEqProofs only [go_sem, ↓reduceIte, Nat.reduceEqDiff, Nat.reduceLT, Nat.reduceAdd, Nat.reduceMul, Nat.reduceLeDiff, Nat.le_refl, Int.natCast_zero, Int.toNat_natCast, Int.reduceToNat, *])
theorem c_sCheckOf (se n : Int) : Fn Tryz.prog 26 [eI se, eI n] true (· = .tup [eI (checkO se n).1, eI (checkO se n).2]) := by
  refine Fn.of_vcN 17 [.tmp 4, .tmp 5] Tryz.func26 rfl rfl rfl rfl rfl (of_decide_eq_true rfl) ?_
  have i1 := c_l01In se 0 25
  have i2 := c_l01In n 0 9999999999
  unfold checkO
  rcases h1 : isIn se 0 25 with _ | _
  · rw [h1] at i1
    clear h1
    simp only [Bool.false_eq_true, false_and, if_false]
    simp -dsimp -implicitDefEqProofs only [go_sem, ↓reduceIte, Nat.reduceEqDiff, Nat.reduceLT, Nat.reduceAdd, Nat.reduceMul, Nat.reduceLeDiff, Nat.le_refl, Int.natCast_zero, Int.toNat_natCast, Int.reduceToNat]
    repeat' (refine sCallT_one (i1) ?_; try simp -dsimp -implicitDefEqProofs only [go_sem, ↓reduceIte, Nat.reduceEqDiff, Nat.reduceLT, Nat.reduceAdd, Nat.reduceMul, Nat.reduceLeDiff, Nat.le_refl, Int.natCast_zero, Int.toNat_natCast, Int.reduceToNat, *])
  · rw [h1] at i1
    rcases h2 : isIn n 0 9999999999 with _ | _
    · rw [h2] at i2
      clear h1 h2
      simp only [Bool.false_eq_true, and_false, if_false]
      simp -dsimp -implicitDefEqProofs only [go_sem, ↓reduceIte, Nat.reduceEqDiff, Nat.reduceLT, Nat.reduceAdd, Nat.reduceMul, Nat.reduceLeDiff, Nat.le_refl, Int.natCast_zero, Int.toNat_natCast, Int.reduceToNat]
      repeat' (refine sCallT_one (i1) ?_; try simp -dsimp -implicitDefEqProofs only [go_sem, ↓reduceIte, Nat.reduceEqDiff, Nat.reduceLT, Nat.reduceAdd, Nat.reduceMul, Nat.reduceLeDiff, Nat.le_refl, Int.natCast_zero, Int.toNat_natCast, Int.reduceToNat, *])
      repeat' (refine sCallT_one (i2) ?_; try simp -dsimp -implicitDefEqProofs only [go_sem, ↓reduceIte, Nat.reduceEqDiff, Nat.reduceLT, Nat.reduceAdd, Nat.reduceMul, Nat.reduceLeDiff, Nat.le_refl, Int.natCast_zero, Int.toNat_natCast, Int.reduceToNat, *])
    · rw [h2] at i2
      have q := c_l28Check se n (by simpa [isIn] using h1) (by simpa [isIn] using h2)
      clear h1 h2
      simp only [and_self, if_true]
      simp -dsimp -implicitDefEqProofs only [go_sem, ↓reduceIte, Nat.reduceEqDiff, Nat.reduceLT, Nat.reduceAdd, Nat.reduceMul, Nat.reduceLeDiff, Nat.le_refl, Int.natCast_zero, Int.toNat_natCast, Int.reduceToNat]
      repeat' (refine sCallT_one (i1) ?_; try simp -dsimp -implicitDefEqProofs only [go_sem, ↓reduceIte, Nat.reduceEqDiff, Nat.reduceLT, Nat.reduceAdd, Nat.reduceMul, Nat.reduceLeDiff, Nat.le_refl, Int.natCast_zero, Int.toNat_natCast, Int.reduceToNat, *])
      repeat' (refine sCallT_one (i2) ?_; try simp -dsimp -implicitDefEqProofs only [go_sem, ↓reduceIte, Nat.reduceEqDiff, Nat.reduceLT, Nat.reduceAdd, Nat.reduceMul, Nat.reduceLeDiff, Nat.le_refl, Int.natCast_zero, Int.toNat_natCast, Int.reduceToNat, *])
      repeat' (refine sCallT_one (q) ?_; try simp -dsimp -implicitDefEqProofs only [go_sem, ↓reduceIte, Nat.reduceEqDiff, Nat.reduceLT, Nat.reduceAdd, Nat.reduceMul, Nat.reduceLeDiff, Nat.le_refl, Int.natCast_zero, Int.toNat_natCast, Int.reduceToNat, *])
theorem emod_back {x y N : Int} (hx : 0 ≤ x ∧ x < N) (hy : 0 ≤ y ∧ y < N) : (x + N - (x + N - y).tmod N).tmod N = y := by
  rw [Int.tmod_eq_emod_of_nonneg (show 0 ≤ x + N - y by omega)]
  have h1 := Int.emod_nonneg (x + N - y) (show N ≠ 0 by omega)
  have h2 := Int.emod_lt_of_pos (x + N - y) (show 0 < N by omega)
  rw [Int.tmod_eq_emod_of_nonneg (by omega)]
  by_cases h : y ≤ x
  · have e : (x + N - y) % N = x - y := by rw [show x + N - y = (x - y) + N by omega, Int.add_emod_right]; exact Int.emod_eq_of_lt (by omega) (by omega)
    rw [e, show x + N - (x - y) = y + N by omega, Int.add_emod_right]
    exact Int.emod_eq_of_lt (by omega) (by omega)
  · have e : (x + N - y) % N = x + N - y := Int.emod_eq_of_lt (by omega) (by omega)
    rw [e, show x + N - (x + N - y) = y by omega]
    exact Int.emod_eq_of_lt (by omega) (by omega)
theorem sec_back {m : MkM} {s : List UInt8} {key : List Int} (h : (secN m s key).2 = 0) : rdOk m s (secN m s key).1 = true ∧ readO m s (secN m s key).1 = (key, (readS (allN m) s).1, 0) := by
  unfold secN at h ⊢
  split at h
  · rename_i hm
    split at h
    · rename_i hf
      split at h
      · rename_i hr
        rw [if_pos hm, if_pos hf, if_pos hr]
        dsimp only
        have hb := read_bound hr
        obtain ⟨hrk, hat⟩ := rank_index (KeyOk.of_fault hf)
        have hlen := allN_len m
        have hb2 := emod_back (x := (readS (allN m) s).2.1) (y := (rankTo m key key.length : Int)) hb ⟨by omega, by omega⟩
        have h1 := Int.tmod_nonneg (allN m) (show 0 ≤ (readS (allN m) s).2.1 + allN m - (rankTo m key key.length : Int) by omega)
        have h2 := Int.tmod_lt_of_pos ((readS (allN m) s).2.1 + allN m - (rankTo m key key.length : Int)) (show 0 < allN m by omega)
        have ho : rdOk m s (((readS (allN m) s).2.1 + allN m - (rankTo m key key.length : Int)).tmod (allN m)) = true := by
          rw [rdOk, hr, codeO_iff.2 ⟨hm, by omega, h1, h2⟩]; rfl
        refine ⟨ho, ?_⟩
        rw [(rdOk_ok ho).2.2.2.2.2, hb2]
        have : atK m (rankTo m key key.length : Int) = key := by
          unfold atK
          rw [Int.toNat_natCast]
          simp only [List.getD_eq_getElem?_getD, List.getElem?_eq_getElem hrk, Option.getD_some]
          exact hat
        rw [this]
      · cases h
    · cases h
  · cases h
theorem move_out {m : MkM} {s : List UInt8} {a b : Int} (h : (moveO m s a b).2 = 0) : rdOk m s a = true ∧ codeO m 0 b = 0 := by
  unfold moveO at h
  split at h
  · rename_i h1
    split at h
    · rename_i h2
      split at h
      · rename_i h3
        exact ⟨by rw [rdOk, h3, h1]; rfl, h2⟩
      · cases h
    · rename_i h2; exact absurd h h2
  · rename_i h1; exact absurd h h1
theorem move_back {m : MkM} {s : List UInt8} {a b : Int} (h : (moveO m s a b).2 = 0) : moveO m (moveO m s a b).1 b a = (s, 0) := by
  obtain ⟨h1, h2⟩ := move_out h
  obtain ⟨q0, q1, q2, q3, q4, q5⟩ := rdOk_ok h1
  obtain ⟨-, -, hb⟩ := codeO_ok h2
  have hN := allN_bound q0
  rw [(move_ok h1 h2).2]
  dsimp only
  have m1 := Int.tmod_nonneg (allN m) (show 0 ≤ (readS (allN m) s).2.1 - a + b + allN m by omega)
  have m2 := Int.tmod_lt_of_pos ((readS (allN m) s).2.1 - a + b + allN m) (show 0 < allN m by omega)
  have hS := readS_stamp q3 ⟨m1, m2⟩ hN.2
  have ho : rdOk m (stampS (itoa (allN m)).length (readS (allN m) s).1 (((readS (allN m) s).2.1 - a + b + allN m).tmod (allN m))) b = true := by
    rw [rdOk, hS, codeO_iff.2 ⟨q0, by omega, hb⟩]; rfl
  rw [(move_ok ho (codeO_iff.2 ⟨q0, by omega, q1⟩)).2, hS]
  dsimp only
  have e : ((((readS (allN m) s).2.1 - a + b + allN m).tmod (allN m)) - b + a + allN m).tmod (allN m) = (readS (allN m) s).2.1 := by
    rw [Int.tmod_eq_emod_of_nonneg (by omega), Int.tmod_eq_emod_of_nonneg (by omega)]
    generalize hx : (readS (allN m) s).2.1 = x at *
    generalize allN m = N at *
    rw [show (x - a + b + N) % N - b + a + N = (x - a + b + N) % N + (a - b + N) by omega, Int.emod_add_emod, show x - a + b + N + (a - b + N) = x + N + N by omega, Int.add_emod_right, Int.add_emod_right]
    exact Int.emod_eq_of_lt (by omega) (by omega)
  rw [e, readS_text q2]
end Go.Vc


/-
  The contract of the law on secrets.
-/
set_option linter.unusedVariables false
set_option linter.unusedSimpArgs false
set_option linter.unnecessarySimpa false
namespace Go.Vc
open Go.Proofs Go.Lib
set_option maxRecDepth 100000
set_option maxHeartbeats 16000000 in
theorem c_FnSecrets (bs : List UInt8) (h : bs.length ≤ 9223372036854775807) : Fn Tryz.prog 4 [eYs bs] true (· = eB true) := by
  refine Fn.of_vcN 197 [.tmp 2] Tryz.func4 rfl rfl rfl rfl rfl (of_decide_eq_true rfl) ?_
  simp -dsimp -implicitDefEqProofs only [go_sem, ↓reduceIte, Nat.reduceEqDiff, Nat.reduceLT, Nat.reduceAdd, Nat.reduceMul, Nat.reduceLeDiff, Nat.le_refl, Int.natCast_zero, Int.toNat_natCast, Int.reduceToNat]
  refine sCallT_one (c_big bs h) ?_
  rcases hb : decide ((bs.length : Int) > 4096) with _ | _
  rotate_left
  · simp -dsimp -implicitDefEqProofs only [go_sem, ↓reduceIte, Nat.reduceEqDiff, Nat.reduceLT, Nat.reduceAdd, Nat.reduceMul, Nat.reduceLeDiff, Nat.le_refl, Int.natCast_zero, Int.toNat_natCast, Int.reduceToNat, hb]
  have hl : bs.length ≤ 4096 := by have := of_decide_eq_false hb; omega
  have d1 := c_DrawMoveSecret bs hl
  have d2 := c_DrawSecretOf bs hl
  have d3 := c_DrawCheckOf bs hl
  have d4 := c_DrawStampWidth bs hl
  have d5 := c_DrawIsStamp bs hl
  have k1 : (mvOD bs (src0 bs)).s.length ≤ 1001 := (stD_ok bs (src0_ok bs)).2
  have k2 : (scOD bs (src0 bs)).s.length ≤ 1001 := (stD_ok bs (src0_ok bs)).2
  have k3 : (scOD bs (src0 bs)).key.length ≤ 20 := (keyD_ok bs (m := (mkD bs (src0 bs)).1) (mkD_bnd bs (src0_ok bs)) (stD_ok bs (src0_ok bs)).1).2
  have k4 := (stD_ok bs (src0_ok bs)).2
  generalize mvOD bs (src0 bs) = A at *
  generalize scOD bs (src0 bs) = B at *
  generalize ckOD bs (src0 bs) = C at *
  generalize (mkD bs (src0 bs)).1 = y at *
  generalize stD bs (src0 bs) = E at *
  obtain ⟨m, s, fr, tt⟩ := A
  obtain ⟨x, stamp, key⟩ := B
  obtain ⟨a, b⟩ := C
  obtain ⟨z, u, s3⟩ := E
  dsimp only at *
  have q1 := c_iMoveSecret m s fr tt (by omega)
  have q2 := c_sMoveSecret m s fr tt (by omega)
  have q3 := c_iSecretOf x stamp key (by omega) (by omega)
  have q4 := c_sSecretOf x stamp key (by omega) (by omega)
  have q5 := c_iCheckOf a b
  have q6 := c_sCheckOf a b
  have q7 := c_iStampWidth y
  have q8 := c_sStampWidth y
  have q9 := c_iIsStamp z u (by omega)
  have q10 := c_sIsStamp z u (by omega)
  have q11 := fun h : (secN x stamp key).2 = 0 => (sec_back h).2 ▸ (show Fn Tryz.prog 11 [eMk x, eS stamp, eI (secN x stamp key).1] false (· = AV.tup [eIs (readO x stamp (secN x stamp key).1).1, eI (readO x stamp (secN x stamp key).1).2.1, eI (readO x stamp (secN x stamp key).1).2.2]) by
    have := c_iReadStamp x stamp (secN x stamp key).1 (by omega)
    rwa [show rdAV x stamp (secN x stamp key).1 = eIs (readO x stamp (secN x stamp key).1).1 by rw [rdAV, if_pos (sec_back h).1]] at this)
  have q12 := c_likeIntsE key (by omega)
  have q13 := c_iMoveSecret m (moveO m s fr tt).1 tt fr
  have q14 := fun h => move_back (m := m) (s := s) (a := fr) (b := tt) h
  have q15 : (moveO m s fr tt).2 = 0 → (moveO m s fr tt).1.length ≤ 1048576 := fun h => by
    obtain ⟨h1, h2⟩ := move_out h
    obtain ⟨r0, r1, r2, r3, r4, r5⟩ := rdOk_ok h1
    have hN := allN_bound r0
    rw [(move_ok h1 h2).2]
    dsimp only
    have m1 := Int.tmod_nonneg (allN m) (show 0 ≤ (readS (allN m) s).2.1 - fr + tt + allN m by have := (codeO_ok h2).2.2; omega)
    have m2 := Int.tmod_lt_of_pos ((readS (allN m) s).2.1 - fr + tt + allN m) (show 0 < allN m by omega)
    rw [stamp_len r3 ⟨m1, m2⟩ hN.2]
    have : (itoa (allN m)).length ≤ 6 := by rw [itoa_of_nonneg (by omega)]; exact dec_len_le 5 _ (by omega)
    omega
  have q16 : (moveO m s fr tt).2 = 0 → Fn Tryz.prog 19 [eMk m, eS (moveO m s fr tt).1, eI tt, eI fr] true (· = .tup [eS s, eI 0]) := fun h => by
    have := q13 (q15 h)
    rwa [q14 h] at this
  clear q13 q14 q15
  generalize moveO m s fr tt = M at *
  generalize secN x stamp key = Z at *
  generalize checkO a b = K at *
  generalize (isMk z && (readS (allN z) u).2.2) = st at *
  generalize (if isMk y = true then ((itoa (allN y)).length : Int) + 4 else 0) = w1 at *
  generalize (if isMk y = true then (0 : Int) else 1) = w2 at *
  simp -dsimp -implicitDefEqProofs only [go_sem, ↓reduceIte, Nat.reduceEqDiff, Nat.reduceLT, Nat.reduceAdd, Nat.reduceMul, Nat.reduceLeDiff, Nat.le_refl, Int.natCast_zero, Int.toNat_natCast, Int.reduceToNat, hb]
  (refine sCallS_one (d1) (by simp [noLabs, labs, labsL, isClo]) ?_; simp -dsimp -implicitDefEqProofs only [go_sem, ↓reduceIte, Nat.reduceEqDiff, Nat.reduceLT, Nat.reduceAdd, Nat.reduceMul, Nat.reduceLeDiff, Nat.le_refl, Int.natCast_zero, Int.toNat_natCast, Int.reduceToNat])
  (refine sCallT_one (q1) ?_; simp -dsimp -implicitDefEqProofs only [go_sem, ↓reduceIte, Nat.reduceEqDiff, Nat.reduceLT, Nat.reduceAdd, Nat.reduceMul, Nat.reduceLeDiff, Nat.le_refl, Int.natCast_zero, Int.toNat_natCast, Int.reduceToNat])
  (refine sCallT_one (q2) ?_; simp -dsimp -implicitDefEqProofs only [go_sem, ↓reduceIte, Nat.reduceEqDiff, Nat.reduceLT, Nat.reduceAdd, Nat.reduceMul, Nat.reduceLeDiff, Nat.le_refl, Int.natCast_zero, Int.toNat_natCast, Int.reduceToNat])
  (refine sCallS_one (d2) (by simp [noLabs, labs, labsL, isClo]) ?_; simp -dsimp -implicitDefEqProofs only [go_sem, ↓reduceIte, Nat.reduceEqDiff, Nat.reduceLT, Nat.reduceAdd, Nat.reduceMul, Nat.reduceLeDiff, Nat.le_refl, Int.natCast_zero, Int.toNat_natCast, Int.reduceToNat])
  (refine sCallT_one (q3) ?_; simp -dsimp -implicitDefEqProofs only [go_sem, ↓reduceIte, Nat.reduceEqDiff, Nat.reduceLT, Nat.reduceAdd, Nat.reduceMul, Nat.reduceLeDiff, Nat.le_refl, Int.natCast_zero, Int.toNat_natCast, Int.reduceToNat])
  (refine sCallT_one (q4) ?_; simp -dsimp -implicitDefEqProofs only [go_sem, ↓reduceIte, Nat.reduceEqDiff, Nat.reduceLT, Nat.reduceAdd, Nat.reduceMul, Nat.reduceLeDiff, Nat.le_refl, Int.natCast_zero, Int.toNat_natCast, Int.reduceToNat])
  (refine sCallS_one (d3) (by simp [noLabs, labs, labsL, isClo]) ?_; simp -dsimp -implicitDefEqProofs only [go_sem, ↓reduceIte, Nat.reduceEqDiff, Nat.reduceLT, Nat.reduceAdd, Nat.reduceMul, Nat.reduceLeDiff, Nat.le_refl, Int.natCast_zero, Int.toNat_natCast, Int.reduceToNat])
  (refine sCallT_one (q5) ?_; simp -dsimp -implicitDefEqProofs only [go_sem, ↓reduceIte, Nat.reduceEqDiff, Nat.reduceLT, Nat.reduceAdd, Nat.reduceMul, Nat.reduceLeDiff, Nat.le_refl, Int.natCast_zero, Int.toNat_natCast, Int.reduceToNat])
  (refine sCallT_one (q6) ?_; simp -dsimp -implicitDefEqProofs only [go_sem, ↓reduceIte, Nat.reduceEqDiff, Nat.reduceLT, Nat.reduceAdd, Nat.reduceMul, Nat.reduceLeDiff, Nat.le_refl, Int.natCast_zero, Int.toNat_natCast, Int.reduceToNat])
  (refine sCallS_one (d4) (by simp [noLabs, labs, labsL, isClo]) ?_; simp -dsimp -implicitDefEqProofs only [go_sem, ↓reduceIte, Nat.reduceEqDiff, Nat.reduceLT, Nat.reduceAdd, Nat.reduceMul, Nat.reduceLeDiff, Nat.le_refl, Int.natCast_zero, Int.toNat_natCast, Int.reduceToNat])
  (refine sCallT_one (q7) ?_; simp -dsimp -implicitDefEqProofs only [go_sem, ↓reduceIte, Nat.reduceEqDiff, Nat.reduceLT, Nat.reduceAdd, Nat.reduceMul, Nat.reduceLeDiff, Nat.le_refl, Int.natCast_zero, Int.toNat_natCast, Int.reduceToNat])
  (refine sCallT_one (q8) ?_; simp -dsimp -implicitDefEqProofs only [go_sem, ↓reduceIte, Nat.reduceEqDiff, Nat.reduceLT, Nat.reduceAdd, Nat.reduceMul, Nat.reduceLeDiff, Nat.le_refl, Int.natCast_zero, Int.toNat_natCast, Int.reduceToNat])
  (refine sCallS_one (d5) (by simp [noLabs, labs, labsL, isClo]) ?_; simp -dsimp -implicitDefEqProofs only [go_sem, ↓reduceIte, Nat.reduceEqDiff, Nat.reduceLT, Nat.reduceAdd, Nat.reduceMul, Nat.reduceLeDiff, Nat.le_refl, Int.natCast_zero, Int.toNat_natCast, Int.reduceToNat])
  refine Later.draw mixed rfl ?_
  simp -dsimp -implicitDefEqProofs only [go_sem, ↓reduceIte, Nat.reduceEqDiff, Nat.reduceLT, Nat.reduceAdd, Nat.reduceMul, Nat.reduceLeDiff, Nat.le_refl, Int.natCast_zero, Int.toNat_natCast, Int.reduceToNat]
  refine sCallX_one q9 ?_
  simp -dsimp -implicitDefEqProofs only [go_sem, ↓reduceIte, Nat.reduceEqDiff, Nat.reduceLT, Nat.reduceAdd, Nat.reduceMul, Nat.reduceLeDiff, Nat.le_refl, Int.natCast_zero, Int.toNat_natCast, Int.reduceToNat]
  refine sCallX_one q10 ?_
  simp -dsimp -implicitDefEqProofs only [go_sem, ↓reduceIte, Nat.reduceEqDiff, Nat.reduceLT, Nat.reduceAdd, Nat.reduceMul, Nat.reduceLeDiff, Nat.le_refl, Int.natCast_zero, Int.toNat_natCast, Int.reduceToNat]
  refine ⟨by exact rfl, ?_⟩
  rcases z1 : (Z.2 == 0) with _ | _
  · simp -dsimp -implicitDefEqProofs only [go_sem, ↓reduceIte, Nat.reduceEqDiff, Nat.reduceLT, Nat.reduceAdd, Nat.reduceMul, Nat.reduceLeDiff, Nat.le_refl, Int.natCast_zero, Int.toNat_natCast, Int.reduceToNat, z1]
    rcases z2 : (M.2 != 0) with _ | _
    · have e := q16 (by simpa using z2)
      simp -dsimp -implicitDefEqProofs only [go_sem, ↓reduceIte, Nat.reduceEqDiff, Nat.reduceLT, Nat.reduceAdd, Nat.reduceMul, Nat.reduceLeDiff, Nat.le_refl, Int.natCast_zero, Int.toNat_natCast, Int.reduceToNat, z2]
      (refine sCallT_one (e) ?_; simp -dsimp -implicitDefEqProofs only [go_sem, ↓reduceIte, Nat.reduceEqDiff, Nat.reduceLT, Nat.reduceAdd, Nat.reduceMul, Nat.reduceLeDiff, Nat.le_refl, Int.natCast_zero, Int.toNat_natCast, Int.reduceToNat])
    · simp -dsimp -implicitDefEqProofs only [go_sem, ↓reduceIte, Nat.reduceEqDiff, Nat.reduceLT, Nat.reduceAdd, Nat.reduceMul, Nat.reduceLeDiff, Nat.le_refl, Int.natCast_zero, Int.toNat_natCast, Int.reduceToNat, z2]
  · have e0 := q11 (beq_iff_eq.1 z1)
    have e1 : Z.2 = 0 := beq_iff_eq.1 z1
    simp -dsimp -implicitDefEqProofs only [go_sem, ↓reduceIte, Nat.reduceEqDiff, Nat.reduceLT, Nat.reduceAdd, Nat.reduceMul, Nat.reduceLeDiff, Nat.le_refl, Int.natCast_zero, Int.toNat_natCast, Int.reduceToNat, z1]
    (refine sCallS_one (e0) (by simp [noLabs, labs, labsL, isClo]) ?_; simp -dsimp -implicitDefEqProofs only [go_sem, ↓reduceIte, Nat.reduceEqDiff, Nat.reduceLT, Nat.reduceAdd, Nat.reduceMul, Nat.reduceLeDiff, Nat.le_refl, Int.natCast_zero, Int.toNat_natCast, Int.reduceToNat])
    (refine sCallT_one (q12) ?_; simp -dsimp -implicitDefEqProofs only [go_sem, ↓reduceIte, Nat.reduceEqDiff, Nat.reduceLT, Nat.reduceAdd, Nat.reduceMul, Nat.reduceLeDiff, Nat.le_refl, Int.natCast_zero, Int.toNat_natCast, Int.reduceToNat])
    rcases z2 : (M.2 != 0) with _ | _
    · have e := q16 (by simpa using z2)
      simp -dsimp -implicitDefEqProofs only [go_sem, ↓reduceIte, Nat.reduceEqDiff, Nat.reduceLT, Nat.reduceAdd, Nat.reduceMul, Nat.reduceLeDiff, Nat.le_refl, Int.natCast_zero, Int.toNat_natCast, Int.reduceToNat, z2]
      (refine sCallT_one (e) ?_; simp -dsimp -implicitDefEqProofs only [go_sem, ↓reduceIte, Nat.reduceEqDiff, Nat.reduceLT, Nat.reduceAdd, Nat.reduceMul, Nat.reduceLeDiff, Nat.le_refl, Int.natCast_zero, Int.toNat_natCast, Int.reduceToNat])
    · simp -dsimp -implicitDefEqProofs only [go_sem, ↓reduceIte, Nat.reduceEqDiff, Nat.reduceLT, Nat.reduceAdd, Nat.reduceMul, Nat.reduceLeDiff, Nat.le_refl, Int.natCast_zero, Int.toNat_natCast, Int.reduceToNat, z2]
end Go.Vc


