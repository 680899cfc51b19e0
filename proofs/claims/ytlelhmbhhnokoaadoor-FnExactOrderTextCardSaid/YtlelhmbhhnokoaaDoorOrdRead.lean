/-
  Orders, read out of a text: the two ways of reading agree.
-/
import Derived.Test.YtlelhmbhhnokoaaDoorOrdText
set_option linter.unusedVariables false
set_option linter.unusedSimpArgs false
set_option linter.unnecessarySimpa false
namespace Go.Vc
open Go.Proofs Go.Lib
set_option maxRecDepth 100000
def wordS (w : List UInt8) : Option ItM :=
  if (spl 120 w).length = 2 ∧ 2 ≤ ((spl 120 w).getD 0 []).length then
    if (valD (((spl 120 w).getD 0 []).drop 1)).2 = true ∧ (valD ((spl 120 w).getD 1 [])).2 = true then
      some ⟨((spl 120 w).getD 0 []).getD 0 0 == 107, (valD (((spl 120 w).getD 0 []).drop 1)).1, (valD ((spl 120 w).getD 1 [])).1⟩ else none
  else none
def wordI (w : List UInt8) : Option ItM :=
  if (partN 120 (w.drop (min 1 w.length))).2 = true ∧ (partN 120 (w.drop (min 1 w.length))).1.length = 2 then
    some ⟨w.getD 0 0 == 107, (partN 120 (w.drop (min 1 w.length))).1.getD 0 0, (partN 120 (w.drop (min 1 w.length))).1.getD 1 0⟩ else none
def ordOf (f : List UInt8 → Option ItM) (ws : List (List UInt8)) : List ItM := ws.map fun w => (f w).getD default
def rdOrd (f : List UInt8 → Option ItM) (m : MkM) (t : List (List Int)) (s : List UInt8) : List ItM × Int :=
  if isSy m t = true then
    if s = [] then ([], 0)
    else if ((spl 32 s).all fun w => (f w).isSome) = true then
      if isOrd t (ordOf f (spl 32 s)) = true ∧ ordText (ordOf f (spl 32 s)) = s then (ordOf f (spl 32 s), 0) else ([], 6)
    else ([], 6)
  else ([], 1)
def okW (f : List UInt8 → Option ItM) : Prop := ∀ x, ItOk x → f (ordWord x) = some x
theorem no_sp {x : ItM} : (32 : UInt8) ∉ ordWord x := by
  have h1 := no32 x.index
  have h2 := no32 x.copies
  unfold ordWord
  split <;> simp [h1, h2]
theorem spl_ordText : ∀ (os : List ItM), os ≠ [] → spl 32 (ordText os) = os.map ordWord
  | [], h => absurd rfl h
  | [x], _ => by
    have : ordText [x] = ordWord x := by simp [ordText, join_one]
    rw [this, spl_none no_sp]; rfl
  | x :: y :: r, _ => by
    have h : ordText (x :: y :: r) = ordWord x ++ 32 :: ordText (y :: r) := by
      simp [ordText, join_cons, joinTail]
    rw [h, spl_app _ no_sp, spl_ordText (y :: r) (by simp)]; rfl
theorem rdOrd_go {f g : List UInt8 → Option ItM} (hg : okW g) {m : MkM} {t : List (List Int)} {s : List UInt8} (hsy : isSy m t = true) (hs : s ≠ []) (h1 : ((spl 32 s).all fun w => (f w).isSome) = true)
    (h2 : isOrd t (ordOf f (spl 32 s)) = true) (h3 : ordText (ordOf f (spl 32 s)) = s) : rdOrd g m t s = (ordOf f (spl 32 s), 0) := by
  obtain ⟨n1, n2, n3, n4, n5⟩ := isSy_num hsy
  generalize ordOf f (spl 32 s) = os at h2 h3 ⊢
  have hok := isOrd_ok h2 (by omega) (by omega)
  have hne : os ≠ [] := by
    rintro rfl
    exact hs h3.symm
  have hsp := spl_ordText os hne
  rw [h3] at hsp
  have e1 : ((spl 32 s).all fun w => (g w).isSome) = true := by
    rw [hsp, List.all_eq_true]
    intro w hw
    obtain ⟨x, hx, rfl⟩ := List.mem_map.1 hw
    rw [hg x (hok x hx)]; rfl
  have e2 : ordOf g (spl 32 s) = os := by
    rw [hsp, ordOf, List.map_map]
    apply List.ext_getElem (by simp)
    intro i q1 q2
    rw [List.getElem_map]
    show (g (ordWord os[i])).getD default = os[i]
    rw [hg _ (hok _ (List.getElem_mem q2))]; rfl
  rw [rdOrd, if_pos hsy, if_neg hs, if_pos e1, e2, if_pos ⟨h2, h3⟩]
theorem rdOrd_eq {f g : List UInt8 → Option ItM} (hf : okW f) (hg : okW g) (m : MkM) (t : List (List Int)) (s : List UInt8) : rdOrd f m t s = rdOrd g m t s := by
  by_cases hsy : isSy m t = true
  · by_cases hs : s = []
    · simp [rdOrd, hsy, hs]
    · by_cases a1 : ((spl 32 s).all fun w => (f w).isSome) = true ∧ isOrd t (ordOf f (spl 32 s)) = true ∧ ordText (ordOf f (spl 32 s)) = s
      · obtain ⟨a1, a2, a3⟩ := a1
        rw [rdOrd_go hg hsy hs a1 a2 a3, rdOrd, if_pos hsy, if_neg hs, if_pos a1, if_pos ⟨a2, a3⟩]
      · by_cases b1 : ((spl 32 s).all fun w => (g w).isSome) = true ∧ isOrd t (ordOf g (spl 32 s)) = true ∧ ordText (ordOf g (spl 32 s)) = s
        · obtain ⟨b1, b2, b3⟩ := b1
          rw [rdOrd_go hf hsy hs b1 b2 b3, rdOrd, if_pos hsy, if_neg hs, if_pos b1, if_pos ⟨b2, b3⟩]
        · have key : ∀ f : List UInt8 → Option ItM, ¬ (((spl 32 s).all fun w => (f w).isSome) = true ∧ isOrd t (ordOf f (spl 32 s)) = true ∧ ordText (ordOf f (spl 32 s)) = s) → rdOrd f m t s = ([], 6) := by
            intro f hn
            rw [rdOrd, if_pos hsy, if_neg hs]
            split
            · rename_i h1
              rw [if_neg fun q => hn ⟨h1, q.1, q.2⟩]
            · rfl
          rw [key f a1, key g b1]
  · simp [rdOrd, hsy]
theorem itoa_ne (v : Int) : itoa v ≠ [] := by
  unfold itoa
  split
  · simp
  · exact dec_ne _
theorem spl_word (x : ItM) : spl 120 (ordWord x) = [(if x.key then 107 else 99) :: itoa x.index, itoa x.copies] := by
  have h1 : (120 : UInt8) ∉ itoa x.index := itoa_no (by decide) (by decide) _
  have h2 : (120 : UInt8) ∉ itoa x.copies := itoa_no (by decide) (by decide) _
  have h3 : ordWord x = ((if x.key then 107 else 99) :: itoa x.index) ++ 120 :: itoa x.copies := by
    unfold ordWord
    split <;> simp
  rw [h3, spl_app, spl_none h2]
  split <;> simp [h1]
theorem nd_ok {n : Nat} (h : n ≤ 1000000) : nDigits n ≤ 13 := by
  rcases Nat.lt_or_ge 13 (nDigits n) with h1 | h1
  · exfalso
    have h2 : ∀ k u, k ≤ nDigits u → 1 ≤ k → 10 ^ (k - 1) ≤ u ∨ u = 0 := by
      intro k
      induction k with
      | zero => intro u _ h; omega
      | succ k ih =>
        intro u hk _
        by_cases hu : u < 10
        · rw [nDigits_small hu] at hk
          have : k = 0 := by omega
          subst this
          by_cases h0 : u = 0
          · exact .inr h0
          · exact .inl (by simp; omega)
        · rw [nDigits_big hu] at hk
          rcases Nat.eq_zero_or_pos k with rfl | hk0
          · exact .inl (by simp; omega)
          · rcases ih (u / 10) (by omega) hk0 with h | h
            · left
              have e : k + 1 - 1 = (k - 1) + 1 := by omega
              rw [e, Nat.pow_succ]
              omega
            · omega
    rcases h2 14 n (by omega) (by omega) with h | h
    · have : (10 : Nat) ^ (14 - 1) = 10000000000000 := by decide
      omega
    · subst h; rw [nDigits_small (by omega)] at h1; omega
  · exact h1
theorem valD_itoa {v : Int} (h : 0 ≤ v ∧ v ≤ 1000000) : valD (itoa v) = (v, true) := by
  rw [itoa_of_nonneg h.1, valD_dec (nd_ok (by omega))]
  rw [show ((v.toNat : Nat) : Int) = v by omega]
theorem wordS_ok : okW wordS := by
  intro x hx
  obtain ⟨hi, hc⟩ := hx
  have hne := itoa_ne x.index
  have hl : 1 ≤ (itoa x.index).length := List.length_pos_iff.2 hne
  unfold wordS
  simp only [spl_word, List.getD_cons_zero, List.getD_cons_succ, List.length_cons, List.length_nil, List.drop_succ_cons, List.drop_zero, valD_itoa hi, valD_itoa hc]
  rw [if_pos (by first | (simp; done) | (simp; omega)), if_pos (by simp)]
  congr 1
  cases x with
  | mk k i c => cases k <;> rfl
theorem wordI_ok : okW wordI := by
  intro x hx
  have h64 := hx.i64
  have h1 : (120 : UInt8) ∉ itoa x.index := itoa_no (by decide) (by decide) _
  have h2 : (120 : UInt8) ∉ itoa x.copies := itoa_no (by decide) (by decide) _
  have hp : (ordWord x).drop (min 1 (ordWord x).length) = itoa x.index ++ 120 :: itoa x.copies := by
    have : 1 ≤ (ordWord x).length := by unfold ordWord; split <;> simp <;> omega
    rw [Nat.min_eq_left this]
    unfold ordWord
    split <;> simp
  have hpn : partN 120 (itoa x.index ++ 120 :: itoa x.copies) = ([x.index, x.copies], true) := by
    rw [partN, spl_app _ h1, spl_none h2]
    simp [numI_itoa h64.1, numI_itoa h64.2]
  unfold wordI
  rw [hp, hpn, if_pos ⟨rfl, rfl⟩]
  congr 1
  cases x with
  | mk k i c => cases k <;> rfl
theorem rdOrd_SI (m : MkM) (t : List (List Int)) (s : List UInt8) : rdOrd wordS m t s = rdOrd wordI m t s := rdOrd_eq wordS_ok wordI_ok m t s
theorem rdOrd_len (m : MkM) (t : List (List Int)) (s : List UInt8) (f : List UInt8 → Option ItM) : (rdOrd f m t s).1.length ≤ 20 := by
  unfold rdOrd
  split
  · split
    · simp
    · split
      · split
        · rename_i h
          have := h.1
          simp only [isOrd, Bool.and_eq_true, decide_eq_true_eq] at this
          exact this.2
        · simp
      · simp
  · simp
end Go.Vc
