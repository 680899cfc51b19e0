/-
  Contracts of the functions on picking: one pick.
-/
import Derived.Test.YtponkoaomcgohaaPick2
set_option linter.unusedVariables false
set_option linter.unusedSimpArgs false
set_option linter.unnecessarySimpa false
namespace Go.Vc
open Go.Proofs
set_option maxRecDepth 100000
theorem pickOk_num {m : MkM} {o : List Int} {p : PkM} (hch : (o.length : Int) = m.chambers) (h : pickOk m p = true) : 0 ≤ p.chamber ∧ p.chamber < o.length := by
  simp [pickOk, isIn] at h; omega
theorem Pk.set {m : MkM} {l : List (List Int)} {o : List Int} (pk : Pk m l o) {c : Int} (h0 : 0 ≤ c) (h1 : c < o.length) :
    ∃ hc : c.toNat < l.length, Go.Vc.cset l c = l[c.toNat] ∧ 0 < l[c.toNat].length ∧ lastOf (Go.Vc.cset l c) = l[c.toNat][l[c.toNat].length - 1]! := by
  obtain ⟨hc, he⟩ := pk.cset h0 h1
  have hst := (pk.st _ hc).1
  refine ⟨hc, he, hst, ?_⟩
  rw [he, lastOf, getElem!_pos _ _ (by omega)]
  simp [List.getD_eq_getElem?_getD, show l[c.toNat].length - 1 < l[c.toNat].length by omega]
theorem pick_cases {m : MkM} {l : List (List Int)} {o : List Int} {n : Nat} {p : PkM} (pk : Pk m l o) (hn : n ≤ o.length) (hp : 0 ≤ p.chamber ∧ p.chamber < o.length) :
    (n = o.length ∧ pickN l o n p = n ∧ hit l o n p = false) ∨ (∃ hlt : n < o.length, o[n] ≠ p.chamber ∧ pickN l o n p = n ∧ hit l o n p = false) ∨
    ∃ hlt : n < o.length, o[n] = p.chamber ∧ ∃ hc : p.chamber.toNat < l.length, 0 < l[p.chamber.toNat].length ∧
      ((has l[p.chamber.toNat] p.depth = true ∧ pickN l o n p = n + 1 ∧ hit l o n p = true) ∨
       (has l[p.chamber.toNat] p.depth = false ∧ p.depth > l[p.chamber.toNat][l[p.chamber.toNat].length - 1]! ∧ pickN l o n p = 0 ∧ hit l o n p = false) ∨
       (has l[p.chamber.toNat] p.depth = false ∧ ¬ p.depth > l[p.chamber.toNat][l[p.chamber.toNat].length - 1]! ∧ pickN l o n p = n ∧ hit l o n p = false)) := by
  rcases Nat.lt_or_ge n o.length with hlt | hge
  rotate_left
  · have : n = o.length := by omega
    exact .inl ⟨this, by simp [pickN, this], by simp [hit, this]⟩
  have gD : o.getD n 0 = o[n] := by simp [List.getD_eq_getElem?_getD, hlt]
  have hne : n ≠ o.length := by omega
  by_cases hc : o[n] = p.chamber
  rotate_left
  · exact .inr (.inl ⟨hlt, hc, by rw [pickN, gD, if_pos (.inr hc)], by rw [hit, gD, decide_eq_true (.inr hc)]; rfl⟩)
  obtain ⟨hcl, hce, hst, hla⟩ := pk.set hp.1 hp.2
  refine .inr (.inr ⟨hlt, hc, hcl, hst, ?_⟩)
  have hno : ¬ (n = o.length ∨ o[n] ≠ p.chamber) := by rintro (h | h) <;> contradiction
  have e1 : pickN l o n p = if has l[p.chamber.toNat] p.depth then n + 1 else if p.depth > l[p.chamber.toNat][l[p.chamber.toNat].length - 1]! then 0 else n := by
    rw [pickN, gD, if_neg hno, hla, hce]
  have e2 : hit l o n p = has l[p.chamber.toNat] p.depth := by rw [hit, gD, decide_eq_false hno, hce]; rfl
  rw [e1, e2]
  rcases has l[p.chamber.toNat] p.depth with _ | _
  · by_cases h3 : p.depth > l[p.chamber.toNat][l[p.chamber.toNat].length - 1]!
    · exact .inr (.inl ⟨rfl, h3, by rw [if_neg (by decide), if_pos h3], rfl⟩)
    · exact .inr (.inr ⟨rfl, h3, by rw [if_neg (by decide), if_neg h3], rfl⟩)
  · exact .inl ⟨rfl, rfl, rfl⟩
theorem c_l32Once (m : MkM) (l : List (List Int)) (o : List Int) (n : Nat) (p : PkM) (pk : Pk m l o) (h2 : ∀ x ∈ l, x.length ≤ 1048576) (hn : n ≤ o.length) (hp : 0 ≤ p.chamber ∧ p.chamber < o.length) :
    Fn Try.prog 55 [eLk l, eIs o, eI n, eP p] true (· = eI (pickN l o n p)) := by
  refine Fn.of_vcN 48 [.tmp 8] Try.func55 rfl rfl rfl rfl rfl (of_decide_eq_true rfl) ?_
  have n6 := pk.n6
  rcases Nat.lt_or_ge n o.length with hlt | hge
  rotate_left
  · have : n = o.length := by omega
    subst this
    have hN : pickN l o o.length p = o.length := by simp [pickN]
    rw [hN]
    clear hN pk
    simp -dsimp -implicitDefEqProofs only [go_sem, ↓reduceIte, Nat.reduceEqDiff, Nat.reduceLT, Nat.reduceAdd, Nat.reduceMul, Nat.reduceLeDiff, Nat.le_refl, Int.natCast_zero, Int.toNat_natCast, Int.reduceToNat]
    repeat' first
      | (refine Br.intro (fun _ => ?_) (fun _ => ?_) <;> try simp -dsimp -implicitDefEqProofs only [go_sem, ↓reduceIte, Nat.reduceEqDiff, Nat.reduceLT, Nat.reduceAdd, Nat.reduceMul, Nat.reduceLeDiff, Nat.le_refl, Int.natCast_zero, Int.toNat_natCast, Int.reduceToNat, *])
      | (with_reducible refine And.intro ?_ ?_)
      | (refine Later.draw mixed rfl ?_; try simp -dsimp -implicitDefEqProofs only [go_sem, ↓reduceIte, Nat.reduceEqDiff, Nat.reduceLT, Nat.reduceAdd, Nat.reduceMul, Nat.reduceLeDiff, Nat.le_refl, Int.natCast_zero, Int.toNat_natCast, Int.reduceToNat, *])
    all_goals first
      | omega
      | rfl
      | (simp_all; done)
      | trace_state
  have hd : ((n : Int) == o.length) = false := by simp; omega
  have gn := get_some hlt
  have gD : o.getD n 0 = o[n] := by simp [List.getD_eq_getElem?_getD, hlt]
  by_cases hc : o[n] = p.chamber
  rotate_left
  · have hN : pickN l o n p = n := by
      rw [pickN, if_pos (.inr (by rw [gD]; exact hc))]
    have hne : (o[n] != p.chamber) = true := by simp [hc]
    rw [hN]
    clear hN pk
    simp -dsimp -implicitDefEqProofs only [go_sem, ↓reduceIte, Nat.reduceEqDiff, Nat.reduceLT, Nat.reduceAdd, Nat.reduceMul, Nat.reduceLeDiff, Nat.le_refl, Int.natCast_zero, Int.toNat_natCast, Int.reduceToNat, hd, gn, hne]
    repeat' first
      | (refine Br.intro (fun _ => ?_) (fun _ => ?_) <;> try simp -dsimp -implicitDefEqProofs only [go_sem, ↓reduceIte, Nat.reduceEqDiff, Nat.reduceLT, Nat.reduceAdd, Nat.reduceMul, Nat.reduceLeDiff, Nat.le_refl, Int.natCast_zero, Int.toNat_natCast, Int.reduceToNat, *])
      | (with_reducible refine And.intro ?_ ?_)
      | (refine Later.draw mixed rfl ?_; try simp -dsimp -implicitDefEqProofs only [go_sem, ↓reduceIte, Nat.reduceEqDiff, Nat.reduceLT, Nat.reduceAdd, Nat.reduceMul, Nat.reduceLeDiff, Nat.le_refl, Int.natCast_zero, Int.toNat_natCast, Int.reduceToNat, *])
    all_goals first
      | omega
      | rfl
      | (simp_all; done)
      | trace_state
  obtain ⟨hcl, hce, hst, hla⟩ := pk.set hp.1 hp.2
  have hne : (o[n] != p.chamber) = false := by simp [hc]
  have gc := get_some hcl
  have hlt2 : l[p.chamber.toNat].length - 1 < l[p.chamber.toNat].length := by omega
  have gL : l[p.chamber.toNat][((l[p.chamber.toNat].length : Int) - 1).toNat]? = some l[p.chamber.toNat][l[p.chamber.toNat].length - 1] := by rw [pred_toNat hst]; exact get_some hlt2
  have hx := h2 _ (List.getElem_mem hcl)
  have hN : pickN l o n p = if has l[p.chamber.toNat] p.depth then n + 1 else if p.depth > l[p.chamber.toNat][l[p.chamber.toNat].length - 1] then 0 else n := by
    rw [pickN, if_neg (by rw [gD]; simp [hc]; omega), hla, hce, getElem!_pos (l[p.chamber.toNat]) (l[p.chamber.toNat].length - 1) hlt2]
  clear hla hce pk
  generalize l[p.chamber.toNat] = z at *
  rw [hN]
  clear hN
  simp -dsimp -implicitDefEqProofs only [go_sem, ↓reduceIte, Nat.reduceEqDiff, Nat.reduceLT, Nat.reduceAdd, Nat.reduceMul, Nat.reduceLeDiff, Nat.le_refl, Int.natCast_zero, Int.toNat_natCast, Int.reduceToNat, hd, gn, hne, gc, gL]
  repeat' first
    | (refine Br.intro (fun _ => ?_) (fun _ => ?_) <;> try simp -dsimp -implicitDefEqProofs only [go_sem, ↓reduceIte, Nat.reduceEqDiff, Nat.reduceLT, Nat.reduceAdd, Nat.reduceMul, Nat.reduceLeDiff, Nat.le_refl, Int.natCast_zero, Int.toNat_natCast, Int.reduceToNat, *])
    | (with_reducible refine And.intro ?_ ?_)
    | (refine Later.draw mixed rfl ?_; try simp -dsimp -implicitDefEqProofs only [go_sem, ↓reduceIte, Nat.reduceEqDiff, Nat.reduceLT, Nat.reduceAdd, Nat.reduceMul, Nat.reduceLeDiff, Nat.le_refl, Int.natCast_zero, Int.toNat_natCast, Int.reduceToNat, *])
    | (refine sCallT_one (c_l01Has z p.depth hx) ?_; try simp -dsimp -implicitDefEqProofs only [go_sem, ↓reduceIte, Nat.reduceEqDiff, Nat.reduceLT, Nat.reduceAdd, Nat.reduceMul, Nat.reduceLeDiff, Nat.le_refl, Int.natCast_zero, Int.toNat_natCast, Int.reduceToNat, *])
    | (refine sCallX_one (c_l01Has z p.depth hx) ?_; try simp -dsimp -implicitDefEqProofs only [go_sem, ↓reduceIte, Nat.reduceEqDiff, Nat.reduceLT, Nat.reduceAdd, Nat.reduceMul, Nat.reduceLeDiff, Nat.le_refl, Int.natCast_zero, Int.toNat_natCast, Int.reduceToNat, *])
  all_goals first
    | omega
    | rfl
    | (refine ⟨?_, ?_⟩ <;> omega)
    | (rename_i hx1; rw [if_neg (of_decide_eq_false hx1)]; done)
    | (rename_i hx1; rw [if_pos (of_decide_eq_true hx1)]; done)
    | (simp_all; done)
    | (simp_all; omega)
    | trace_state
def pickOnce (m : MkM) (l : List (List Int)) (o s : List Int) (p : PkM) : List Int × Int := if pksCode m l o s [p] = 0 then (rowsL (o.take (pickN l o s.length p)), 0) else ([], pksCode m l o s [p])
theorem pksCode_one (m : MkM) (l : List (List Int)) (o s : List Int) (p : PkM) : pksCode m l o s [p] = if pkCode m l o s = 0 then (if pickOk m p then 0 else 2) else pkCode m l o s := by
  unfold pksCode; simp
theorem Pk.nn {m : MkM} {l : List (List Int)} {o : List Int} (pk : Pk m l o) (n : Nat) : ∀ x ∈ o.take n, 0 ≤ x := by
  intro x hx
  obtain ⟨i, hi, rfl⟩ := List.getElem_of_mem (List.mem_of_mem_take hx)
  exact (pk.io i hi).1
theorem c_sPickOnce (m : MkM) (l : List (List Int)) (o s : List Int) (p : PkM) (h : l.length ≤ 1048576) (h2 : ∀ x ∈ l, x.length ≤ 1048576) (h3 : o.length ≤ 1048576) (h4 : s.length ≤ 1048576) :
    Fn Try.prog 29 [eMk m, eLk l, eIs o, eIs s, eP p] true (· = .tup [eIs (pickOnce m l o s p).1, eI (pickOnce m l o s p).2]) := by
  refine Fn.of_vcN 38 [.tmp 10, .tmp 11] Try.func29 rfl rfl rfl rfl rfl (of_decide_eq_true rfl) ?_
  have hone := pksCode_one m l o s p
  by_cases hb : pkCode m l o s = 0
  rotate_left
  · rw [if_neg hb] at hone
    have hF : pickOnce m l o s p = ([], pkCode m l o s) := by rw [pickOnce, hone, if_neg hb]
    rw [hF]
    clear hF hone
    simp -dsimp -implicitDefEqProofs only [go_sem, ↓reduceIte, Nat.reduceEqDiff, Nat.reduceLT, Nat.reduceAdd, Nat.reduceMul, Nat.reduceLeDiff, Nat.le_refl, Int.natCast_zero, Int.toNat_natCast, Int.reduceToNat]
    repeat' first
      | (refine Br.intro (fun _ => ?_) (fun _ => ?_) <;> try simp -dsimp -implicitDefEqProofs only [go_sem, ↓reduceIte, Nat.reduceEqDiff, Nat.reduceLT, Nat.reduceAdd, Nat.reduceMul, Nat.reduceLeDiff, Nat.le_refl, Int.natCast_zero, Int.toNat_natCast, Int.reduceToNat, *])
      | (with_reducible refine And.intro ?_ ?_)
      | (refine sCallT_one (c_l32Code m l o s h h2 h3 h4) ?_; try simp -dsimp -implicitDefEqProofs only [go_sem, ↓reduceIte, Nat.reduceEqDiff, Nat.reduceLT, Nat.reduceAdd, Nat.reduceMul, Nat.reduceLeDiff, Nat.le_refl, Int.natCast_zero, Int.toNat_natCast, Int.reduceToNat, *])
    all_goals first
      | omega
      | (simp_all; done)
      | trace_state
  rw [if_pos hb] at hone
  obtain ⟨k1, k2, k3⟩ := pkCode_zero hb
  have hk := isLk_mk k1
  have pk := Pk.of k1 k2
  have n6 := pk.n6
  have hsl := setOk_len k3
  rcases hp : pickOk m p with _ | _
  · rw [hp] at hone
    have hF : pickOnce m l o s p = ([], 2) := by rw [pickOnce, hone]; rfl
    rw [hF]
    clear hF hone
    simp -dsimp -implicitDefEqProofs only [go_sem, ↓reduceIte, Nat.reduceEqDiff, Nat.reduceLT, Nat.reduceAdd, Nat.reduceMul, Nat.reduceLeDiff, Nat.le_refl, Int.natCast_zero, Int.toNat_natCast, Int.reduceToNat]
    repeat' first
      | (refine Br.intro (fun _ => ?_) (fun _ => ?_) <;> try simp -dsimp -implicitDefEqProofs only [go_sem, ↓reduceIte, Nat.reduceEqDiff, Nat.reduceLT, Nat.reduceAdd, Nat.reduceMul, Nat.reduceLeDiff, Nat.le_refl, Int.natCast_zero, Int.toNat_natCast, Int.reduceToNat, *])
      | (with_reducible refine And.intro ?_ ?_)
      | (refine sCallT_one (c_l32Code m l o s h h2 h3 h4) ?_; try simp -dsimp -implicitDefEqProofs only [go_sem, ↓reduceIte, Nat.reduceEqDiff, Nat.reduceLT, Nat.reduceAdd, Nat.reduceMul, Nat.reduceLeDiff, Nat.le_refl, Int.natCast_zero, Int.toNat_natCast, Int.reduceToNat, *])
      | (refine sCallT_one (c_l32Pick m p hk) ?_; try simp -dsimp -implicitDefEqProofs only [go_sem, ↓reduceIte, Nat.reduceEqDiff, Nat.reduceLT, Nat.reduceAdd, Nat.reduceMul, Nat.reduceLeDiff, Nat.le_refl, Int.natCast_zero, Int.toNat_natCast, Int.reduceToNat, *])
    all_goals first
      | omega
      | (simp_all; done)
      | trace_state
  rw [hp] at hone
  have hpn := pickOk_num pk.ch hp
  have hF : pickOnce m l o s p = (rowsL (o.take (pickN l o s.length p)), 0) := by rw [pickOnce, hone]; rfl
  have hN := pickN_le l o s.length p hsl
  have hnn := pk.nn (pickN l o s.length p)
  rw [hF]
  clear hF hone
  simp -dsimp -implicitDefEqProofs only [go_sem, ↓reduceIte, Nat.reduceEqDiff, Nat.reduceLT, Nat.reduceAdd, Nat.reduceMul, Nat.reduceLeDiff, Nat.le_refl, Int.natCast_zero, Int.toNat_natCast, Int.reduceToNat]
  repeat' first
    | (refine Br.intro (fun _ => ?_) (fun _ => ?_) <;> try simp -dsimp -implicitDefEqProofs only [go_sem, ↓reduceIte, Nat.reduceEqDiff, Nat.reduceLT, Nat.reduceAdd, Nat.reduceMul, Nat.reduceLeDiff, Nat.le_refl, Int.natCast_zero, Int.toNat_natCast, Int.reduceToNat, *])
    | (with_reducible refine And.intro ?_ ?_)
    | (refine sCallT_one (c_l32Code m l o s h h2 h3 h4) ?_; try simp -dsimp -implicitDefEqProofs only [go_sem, ↓reduceIte, Nat.reduceEqDiff, Nat.reduceLT, Nat.reduceAdd, Nat.reduceMul, Nat.reduceLeDiff, Nat.le_refl, Int.natCast_zero, Int.toNat_natCast, Int.reduceToNat, *])
    | (refine sCallT_one (c_l32Pick m p hk) ?_; try simp -dsimp -implicitDefEqProofs only [go_sem, ↓reduceIte, Nat.reduceEqDiff, Nat.reduceLT, Nat.reduceAdd, Nat.reduceMul, Nat.reduceLeDiff, Nat.le_refl, Int.natCast_zero, Int.toNat_natCast, Int.reduceToNat, *])
    | (refine sCallT_one (c_l32Once m l o s.length p pk h2 hsl hpn) ?_; try simp -dsimp -implicitDefEqProofs only [go_sem, ↓reduceIte, Nat.reduceEqDiff, Nat.reduceLT, Nat.reduceAdd, Nat.reduceMul, Nat.reduceLeDiff, Nat.le_refl, Int.natCast_zero, Int.toNat_natCast, Int.reduceToNat, *])
    | (rw [← List.map_take]; refine sCallT_one (c_l18Different (o.take (pickN l o s.length p)) (by simp; omega) hnn) ?_; try simp -dsimp -implicitDefEqProofs only [go_sem, ↓reduceIte, Nat.reduceEqDiff, Nat.reduceLT, Nat.reduceAdd, Nat.reduceMul, Nat.reduceLeDiff, Nat.le_refl, Int.natCast_zero, Int.toNat_natCast, Int.reduceToNat, *])
  all_goals first
    | omega
    | (refine ⟨?_, ?_⟩ <;> omega)
    | (simp_all; done)
    | trace_state
set_option maxHeartbeats 4000000 in
theorem c_iPickOnce (m : MkM) (l : List (List Int)) (o s : List Int) (p : PkM) (h : l.length ≤ 1048576) (h2 : ∀ x ∈ l, x.length ≤ 1048576) (h3 : o.length ≤ 1048576) (h4 : s.length ≤ 1048576) :
    Fn Try.prog 31 [eMk m, eLk l, eIs o, eIs s, eP p] true (· = .tup [eIs (pickOnce m l o s p).1, eI (pickOnce m l o s p).2]) := by
  refine Fn.of_vcN 38 [.tmp 10, .tmp 11] Try.func31 rfl rfl rfl rfl rfl (of_decide_eq_true rfl) ?_
  have hcode := c_pickCode m l o s [p] h h2 h3 h4 (by simp)
  by_cases hb : pksCode m l o s [p] = 0
  rotate_left
  · have hF : pickOnce m l o s p = ([], pksCode m l o s [p]) := by rw [pickOnce, if_neg hb]
    rw [hF]
    clear hF
    simp -dsimp -implicitDefEqProofs only [go_sem, ↓reduceIte, Nat.reduceEqDiff, Nat.reduceLT, Nat.reduceAdd, Nat.reduceMul, Nat.reduceLeDiff, Nat.le_refl, Int.natCast_zero, Int.toNat_natCast, Int.reduceToNat]
    repeat' first
      | (refine Br.intro (fun _ => ?_) (fun _ => ?_) <;> try simp -dsimp -implicitDefEqProofs only [go_sem, ↓reduceIte, Nat.reduceEqDiff, Nat.reduceLT, Nat.reduceAdd, Nat.reduceMul, Nat.reduceLeDiff, Nat.le_refl, Int.natCast_zero, Int.toNat_natCast, Int.reduceToNat, *])
      | (with_reducible refine And.intro ?_ ?_)
      | (refine sCallT_one (hcode) ?_; try simp -dsimp -implicitDefEqProofs only [go_sem, ↓reduceIte, Nat.reduceEqDiff, Nat.reduceLT, Nat.reduceAdd, Nat.reduceMul, Nat.reduceLeDiff, Nat.le_refl, Int.natCast_zero, Int.toNat_natCast, Int.reduceToNat, *])
    all_goals first
      | omega
      | (simp_all; done)
      | trace_state
  have hone := pksCode_one m l o s p
  have hb2 : pkCode m l o s = 0 := by
    rw [hb] at hone
    by_cases h9 : pkCode m l o s = 0
    · exact h9
    · rw [if_neg h9] at hone; omega
  rw [hb, if_pos hb2] at hone
  obtain ⟨k1, k2, k3⟩ := pkCode_zero hb2
  have hk := isLk_mk k1
  have pk := Pk.of k1 k2
  have n6 := pk.n6
  have hsl := setOk_len k3
  have hp : pickOk m p = true := by
    rcases hp : pickOk m p with _ | _
    · rw [hp] at hone; simp at hone
    · rfl
  have hpn := pickOk_num pk.ch hp
  have hF : pickOnce m l o s p = (rowsL (o.take (pickN l o s.length p)), 0) := by rw [pickOnce, if_pos hb]
  have hN := pickN_le l o s.length p hsl
  rw [hF]
  clear hF hone
  simp -dsimp -implicitDefEqProofs only [go_sem, ↓reduceIte, Nat.reduceEqDiff, Nat.reduceLT, Nat.reduceAdd, Nat.reduceMul, Nat.reduceLeDiff, Nat.le_refl, Int.natCast_zero, Int.toNat_natCast, Int.reduceToNat]
  repeat' first
    | (refine Br.intro (fun _ => ?_) (fun _ => ?_) <;> try simp -dsimp -implicitDefEqProofs only [go_sem, ↓reduceIte, Nat.reduceEqDiff, Nat.reduceLT, Nat.reduceAdd, Nat.reduceMul, Nat.reduceLeDiff, Nat.le_refl, Int.natCast_zero, Int.toNat_natCast, Int.reduceToNat, *])
    | (with_reducible refine And.intro ?_ ?_)
    | (refine sCallT_one (hcode) ?_; try simp -dsimp -implicitDefEqProofs only [go_sem, ↓reduceIte, Nat.reduceEqDiff, Nat.reduceLT, Nat.reduceAdd, Nat.reduceMul, Nat.reduceLeDiff, Nat.le_refl, Int.natCast_zero, Int.toNat_natCast, Int.reduceToNat, *])
    | (refine Later.draw mixed rfl ?_; try simp -dsimp -implicitDefEqProofs only [go_sem, ↓reduceIte, Nat.reduceEqDiff, Nat.reduceLT, Nat.reduceAdd, Nat.reduceMul, Nat.reduceLeDiff, Nat.le_refl, Int.natCast_zero, Int.toNat_natCast, Int.reduceToNat, *])
  all_goals try (first | omega | (refine ⟨?_, ?_⟩ <;> omega) | rfl | (simp_all; done))
  rcases pick_cases pk hsl hpn with ⟨q1, q2, q3⟩ | ⟨hlt, q1, q2, q3⟩ | ⟨hlt, q1, hcl, hst, q⟩
  · rw [q2]
    have hd : ((s.length : Int) == o.length) = true := by simp [q1]
    have nle : (s.length : Int) ≤ o.length := by omega
    clear q1 q2 q3 hb hb2 k1 k2 k3 pk hp hcode hN
    refine sCallT_inl 500000 84 [.tmp 4] Try.func57 rfl rfl rfl rfl rfl (by exact of_decide_eq_true rfl) ?_
    simp -dsimp -implicitDefEqProofs only [go_sem, ↓reduceIte, Nat.reduceEqDiff, Nat.reduceLT, Nat.reduceAdd, Nat.reduceMul, Nat.reduceLeDiff, Nat.le_refl, Int.natCast_zero, Int.toNat_natCast, Int.reduceToNat, hd]
    ((repeat' (first | (refine Br.intro (fun _ => ?_) (fun _ => ?_) <;> try simp -dsimp -implicitDefEqProofs only [go_sem, ↓reduceIte, Nat.reduceEqDiff, Nat.reduceLT, Nat.reduceAdd, Nat.reduceMul, Nat.reduceLeDiff, Nat.le_refl, Int.natCast_zero, Int.toNat_natCast, Int.reduceToNat, *]) | (with_reducible refine And.intro ?_ ?_) | (refine Later.draw mixed rfl ?_; try simp -dsimp -implicitDefEqProofs only [go_sem, ↓reduceIte, Nat.reduceEqDiff, Nat.reduceLT, Nat.reduceAdd, Nat.reduceMul, Nat.reduceLeDiff, Nat.le_refl, Int.natCast_zero, Int.toNat_natCast, Int.reduceToNat, *]) | (refine sCallT_one (c_Contains z p.depth hx) ?_; try simp -dsimp -implicitDefEqProofs only [go_sem, ↓reduceIte, Nat.reduceEqDiff, Nat.reduceLT, Nat.reduceAdd, Nat.reduceMul, Nat.reduceLeDiff, Nat.le_refl, Int.natCast_zero, Int.toNat_natCast, Int.reduceToNat, *]))); all_goals try (first | omega | (refine ⟨?_, ?_⟩ <;> omega) | (exact rfl) | (simp; done) | (simp; omega)))
    refine sCallT_inl 600000 13 [.tmp 2] Try.func61 rfl rfl rfl rfl rfl (by exact of_decide_eq_true rfl) ?_
    simp -dsimp -implicitDefEqProofs only [go_sem, ↓reduceIte, Nat.reduceEqDiff, Nat.reduceLT, Nat.reduceAdd, Nat.reduceMul, Nat.reduceLeDiff, Nat.le_refl, Int.natCast_zero, Int.toNat_natCast, Int.reduceToNat]
    ((repeat' (first | (refine Br.intro (fun _ => ?_) (fun _ => ?_) <;> try simp -dsimp -implicitDefEqProofs only [go_sem, ↓reduceIte, Nat.reduceEqDiff, Nat.reduceLT, Nat.reduceAdd, Nat.reduceMul, Nat.reduceLeDiff, Nat.le_refl, Int.natCast_zero, Int.toNat_natCast, Int.reduceToNat, *]) | (with_reducible refine And.intro ?_ ?_) | (refine Later.draw mixed rfl ?_; try simp -dsimp -implicitDefEqProofs only [go_sem, ↓reduceIte, Nat.reduceEqDiff, Nat.reduceLT, Nat.reduceAdd, Nat.reduceMul, Nat.reduceLeDiff, Nat.le_refl, Int.natCast_zero, Int.toNat_natCast, Int.reduceToNat, *]) | (rw [← List.map_take]; refine sCallX_one (c_rowsOf (o.take s.length) (by simp; omega)) ?_; try simp -dsimp -implicitDefEqProofs only [go_sem, ↓reduceIte, Nat.reduceEqDiff, Nat.reduceLT, Nat.reduceAdd, Nat.reduceMul, Nat.reduceLeDiff, Nat.le_refl, Int.natCast_zero, Int.toNat_natCast, Int.reduceToNat, *]) | (refine sCallX_one (c_rowsOf [] (by simp)) ?_; try simp -dsimp -implicitDefEqProofs only [go_sem, ↓reduceIte, Nat.reduceEqDiff, Nat.reduceLT, Nat.reduceAdd, Nat.reduceMul, Nat.reduceLeDiff, Nat.le_refl, Int.natCast_zero, Int.toNat_natCast, Int.reduceToNat, *]))); all_goals (first | omega | (refine ⟨?_, ?_⟩ <;> omega) | (exact rfl) | (simp; done) | (simp; omega) | trace_state))
  · rw [q2]
    have hd : ((s.length : Int) == o.length) = false := by simp; omega
    have gn := get_some hlt
    have hne : (o[s.length] != p.chamber) = true := by simp [q1]
    clear q1 q2 q3 hb hb2 k1 k2 k3 pk hp hcode hN
    refine sCallT_inl 500000 84 [.tmp 4] Try.func57 rfl rfl rfl rfl rfl (by exact of_decide_eq_true rfl) ?_
    simp -dsimp -implicitDefEqProofs only [go_sem, ↓reduceIte, Nat.reduceEqDiff, Nat.reduceLT, Nat.reduceAdd, Nat.reduceMul, Nat.reduceLeDiff, Nat.le_refl, Int.natCast_zero, Int.toNat_natCast, Int.reduceToNat, hd, gn, hne]
    ((repeat' (first | (refine Br.intro (fun _ => ?_) (fun _ => ?_) <;> try simp -dsimp -implicitDefEqProofs only [go_sem, ↓reduceIte, Nat.reduceEqDiff, Nat.reduceLT, Nat.reduceAdd, Nat.reduceMul, Nat.reduceLeDiff, Nat.le_refl, Int.natCast_zero, Int.toNat_natCast, Int.reduceToNat, *]) | (with_reducible refine And.intro ?_ ?_) | (refine Later.draw mixed rfl ?_; try simp -dsimp -implicitDefEqProofs only [go_sem, ↓reduceIte, Nat.reduceEqDiff, Nat.reduceLT, Nat.reduceAdd, Nat.reduceMul, Nat.reduceLeDiff, Nat.le_refl, Int.natCast_zero, Int.toNat_natCast, Int.reduceToNat, *]) | (refine sCallT_one (c_Contains z p.depth hx) ?_; try simp -dsimp -implicitDefEqProofs only [go_sem, ↓reduceIte, Nat.reduceEqDiff, Nat.reduceLT, Nat.reduceAdd, Nat.reduceMul, Nat.reduceLeDiff, Nat.le_refl, Int.natCast_zero, Int.toNat_natCast, Int.reduceToNat, *]))); all_goals try (first | omega | (refine ⟨?_, ?_⟩ <;> omega) | (exact rfl) | (simp; done) | (simp; omega)))
    refine sCallT_inl 600000 13 [.tmp 2] Try.func61 rfl rfl rfl rfl rfl (by exact of_decide_eq_true rfl) ?_
    simp -dsimp -implicitDefEqProofs only [go_sem, ↓reduceIte, Nat.reduceEqDiff, Nat.reduceLT, Nat.reduceAdd, Nat.reduceMul, Nat.reduceLeDiff, Nat.le_refl, Int.natCast_zero, Int.toNat_natCast, Int.reduceToNat]
    ((repeat' (first | (refine Br.intro (fun _ => ?_) (fun _ => ?_) <;> try simp -dsimp -implicitDefEqProofs only [go_sem, ↓reduceIte, Nat.reduceEqDiff, Nat.reduceLT, Nat.reduceAdd, Nat.reduceMul, Nat.reduceLeDiff, Nat.le_refl, Int.natCast_zero, Int.toNat_natCast, Int.reduceToNat, *]) | (with_reducible refine And.intro ?_ ?_) | (refine Later.draw mixed rfl ?_; try simp -dsimp -implicitDefEqProofs only [go_sem, ↓reduceIte, Nat.reduceEqDiff, Nat.reduceLT, Nat.reduceAdd, Nat.reduceMul, Nat.reduceLeDiff, Nat.le_refl, Int.natCast_zero, Int.toNat_natCast, Int.reduceToNat, *]) | (rw [← List.map_take]; refine sCallX_one (c_rowsOf (o.take s.length) (by simp; omega)) ?_; try simp -dsimp -implicitDefEqProofs only [go_sem, ↓reduceIte, Nat.reduceEqDiff, Nat.reduceLT, Nat.reduceAdd, Nat.reduceMul, Nat.reduceLeDiff, Nat.le_refl, Int.natCast_zero, Int.toNat_natCast, Int.reduceToNat, *]) | (refine sCallX_one (c_rowsOf [] (by simp)) ?_; try simp -dsimp -implicitDefEqProofs only [go_sem, ↓reduceIte, Nat.reduceEqDiff, Nat.reduceLT, Nat.reduceAdd, Nat.reduceMul, Nat.reduceLeDiff, Nat.le_refl, Int.natCast_zero, Int.toNat_natCast, Int.reduceToNat, *]))); all_goals (first | omega | (refine ⟨?_, ?_⟩ <;> omega) | (exact rfl) | (simp; done) | (simp; omega) | trace_state))
  · have hd : ((s.length : Int) == o.length) = false := by simp; omega
    have gn := get_some hlt
    have hne : (o[s.length] != p.chamber) = false := by simp [q1]
    have gc := get_some hcl
    have hlt2 : l[p.chamber.toNat].length - 1 < l[p.chamber.toNat].length := by omega
    have gL : l[p.chamber.toNat][((l[p.chamber.toNat].length : Int) - 1).toNat]? = some l[p.chamber.toNat][l[p.chamber.toNat].length - 1] := by rw [pred_toNat hst]; exact get_some hlt2
    have hx := h2 _ (List.getElem_mem hcl)
    have gr : (List.replicate o.length (AV.val (Value.int IntKind.i64 0)))[p.chamber.toNat]? = some (AV.val (Value.int IntKind.i64 0)) := by rw [List.getElem?_replicate, if_pos (by omega)]
    clear q1 hb hb2 k1 k2 k3 pk hp hcode hN
    generalize l[p.chamber.toNat] = z at *
    rcases q with ⟨q1, q2, q3⟩ | ⟨q1, q4, q2, q3⟩ | ⟨q1, q4, q2, q3⟩
    · rw [q2]
      clear q2 q3
      refine sCallT_inl 500000 84 [.tmp 4] Try.func57 rfl rfl rfl rfl rfl (by exact of_decide_eq_true rfl) ?_
      simp -dsimp -implicitDefEqProofs only [go_sem, ↓reduceIte, Nat.reduceEqDiff, Nat.reduceLT, Nat.reduceAdd, Nat.reduceMul, Nat.reduceLeDiff, Nat.le_refl, Int.natCast_zero, Int.toNat_natCast, Int.reduceToNat, hd, gn, hne, gc]
      ((repeat' (first | (refine Br.intro (fun _ => ?_) (fun _ => ?_) <;> try simp -dsimp -implicitDefEqProofs only [go_sem, ↓reduceIte, Nat.reduceEqDiff, Nat.reduceLT, Nat.reduceAdd, Nat.reduceMul, Nat.reduceLeDiff, Nat.le_refl, Int.natCast_zero, Int.toNat_natCast, Int.reduceToNat, *]) | (with_reducible refine And.intro ?_ ?_) | (refine Later.draw mixed rfl ?_; try simp -dsimp -implicitDefEqProofs only [go_sem, ↓reduceIte, Nat.reduceEqDiff, Nat.reduceLT, Nat.reduceAdd, Nat.reduceMul, Nat.reduceLeDiff, Nat.le_refl, Int.natCast_zero, Int.toNat_natCast, Int.reduceToNat, *]) | (refine sCallT_one (c_Contains z p.depth hx) ?_; try simp -dsimp -implicitDefEqProofs only [go_sem, ↓reduceIte, Nat.reduceEqDiff, Nat.reduceLT, Nat.reduceAdd, Nat.reduceMul, Nat.reduceLeDiff, Nat.le_refl, Int.natCast_zero, Int.toNat_natCast, Int.reduceToNat, *]))); all_goals try (first | omega | (refine ⟨?_, ?_⟩ <;> omega) | (exact rfl) | (simp; done) | (simp; omega)))
      refine sCallT_inl 600000 13 [.tmp 2] Try.func61 rfl rfl rfl rfl rfl (by exact of_decide_eq_true rfl) ?_
      simp -dsimp -implicitDefEqProofs only [go_sem, ↓reduceIte, Nat.reduceEqDiff, Nat.reduceLT, Nat.reduceAdd, Nat.reduceMul, Nat.reduceLeDiff, Nat.le_refl, Int.natCast_zero, Int.toNat_natCast, Int.reduceToNat]
      ((repeat' (first | (refine Br.intro (fun _ => ?_) (fun _ => ?_) <;> try simp -dsimp -implicitDefEqProofs only [go_sem, ↓reduceIte, Nat.reduceEqDiff, Nat.reduceLT, Nat.reduceAdd, Nat.reduceMul, Nat.reduceLeDiff, Nat.le_refl, Int.natCast_zero, Int.toNat_natCast, Int.reduceToNat, *]) | (with_reducible refine And.intro ?_ ?_) | (refine Later.draw mixed rfl ?_; try simp -dsimp -implicitDefEqProofs only [go_sem, ↓reduceIte, Nat.reduceEqDiff, Nat.reduceLT, Nat.reduceAdd, Nat.reduceMul, Nat.reduceLeDiff, Nat.le_refl, Int.natCast_zero, Int.toNat_natCast, Int.reduceToNat, *]) | (rw [← List.map_take]; refine sCallX_one (c_rowsOf (o.take (s.length + 1)) (by simp; omega)) ?_; try simp -dsimp -implicitDefEqProofs only [go_sem, ↓reduceIte, Nat.reduceEqDiff, Nat.reduceLT, Nat.reduceAdd, Nat.reduceMul, Nat.reduceLeDiff, Nat.le_refl, Int.natCast_zero, Int.toNat_natCast, Int.reduceToNat, *]) | (refine sCallX_one (c_rowsOf [] (by simp)) ?_; try simp -dsimp -implicitDefEqProofs only [go_sem, ↓reduceIte, Nat.reduceEqDiff, Nat.reduceLT, Nat.reduceAdd, Nat.reduceMul, Nat.reduceLeDiff, Nat.le_refl, Int.natCast_zero, Int.toNat_natCast, Int.reduceToNat, *]))); all_goals (first | omega | (refine ⟨?_, ?_⟩ <;> omega) | (exact rfl) | (simp; done) | (simp; omega) | trace_state))
    · rw [q2]
      clear q2 q3
      have hgt : decide (p.depth > z[z.length - 1]) = true := by rw [getElem!_pos z (z.length - 1) hlt2] at q4; exact decide_eq_true q4
      rcases Nat.eq_zero_or_pos s.length with hz | hz
      · have hp0 : decide ((s.length : Int) > 0) = false := by simp [hz]
        clear hz
        refine sCallT_inl 500000 84 [.tmp 4] Try.func57 rfl rfl rfl rfl rfl (by exact of_decide_eq_true rfl) ?_
        simp -dsimp -implicitDefEqProofs only [go_sem, ↓reduceIte, Nat.reduceEqDiff, Nat.reduceLT, Nat.reduceAdd, Nat.reduceMul, Nat.reduceLeDiff, Nat.le_refl, Int.natCast_zero, Int.toNat_natCast, Int.reduceToNat, hd, gn, hne, gc]
        ((repeat' (first | (refine Br.intro (fun _ => ?_) (fun _ => ?_) <;> try simp -dsimp -implicitDefEqProofs only [go_sem, ↓reduceIte, Nat.reduceEqDiff, Nat.reduceLT, Nat.reduceAdd, Nat.reduceMul, Nat.reduceLeDiff, Nat.le_refl, Int.natCast_zero, Int.toNat_natCast, Int.reduceToNat, *]) | (with_reducible refine And.intro ?_ ?_) | (refine Later.draw mixed rfl ?_; try simp -dsimp -implicitDefEqProofs only [go_sem, ↓reduceIte, Nat.reduceEqDiff, Nat.reduceLT, Nat.reduceAdd, Nat.reduceMul, Nat.reduceLeDiff, Nat.le_refl, Int.natCast_zero, Int.toNat_natCast, Int.reduceToNat, *]) | (refine sCallT_one (c_Contains z p.depth hx) ?_; try simp -dsimp -implicitDefEqProofs only [go_sem, ↓reduceIte, Nat.reduceEqDiff, Nat.reduceLT, Nat.reduceAdd, Nat.reduceMul, Nat.reduceLeDiff, Nat.le_refl, Int.natCast_zero, Int.toNat_natCast, Int.reduceToNat, *]))); all_goals try (first | omega | (refine ⟨?_, ?_⟩ <;> omega) | (exact rfl) | (simp; done) | (simp; omega)))
        refine sCallT_inl 600000 13 [.tmp 2] Try.func61 rfl rfl rfl rfl rfl (by exact of_decide_eq_true rfl) ?_
        simp -dsimp -implicitDefEqProofs only [go_sem, ↓reduceIte, Nat.reduceEqDiff, Nat.reduceLT, Nat.reduceAdd, Nat.reduceMul, Nat.reduceLeDiff, Nat.le_refl, Int.natCast_zero, Int.toNat_natCast, Int.reduceToNat]
        ((repeat' (first | (refine Br.intro (fun _ => ?_) (fun _ => ?_) <;> try simp -dsimp -implicitDefEqProofs only [go_sem, ↓reduceIte, Nat.reduceEqDiff, Nat.reduceLT, Nat.reduceAdd, Nat.reduceMul, Nat.reduceLeDiff, Nat.le_refl, Int.natCast_zero, Int.toNat_natCast, Int.reduceToNat, *]) | (with_reducible refine And.intro ?_ ?_) | (refine Later.draw mixed rfl ?_; try simp -dsimp -implicitDefEqProofs only [go_sem, ↓reduceIte, Nat.reduceEqDiff, Nat.reduceLT, Nat.reduceAdd, Nat.reduceMul, Nat.reduceLeDiff, Nat.le_refl, Int.natCast_zero, Int.toNat_natCast, Int.reduceToNat, *]) | (rw [← List.map_take]; refine sCallX_one (c_rowsOf (o.take 0) (by simp; omega)) ?_; try simp -dsimp -implicitDefEqProofs only [go_sem, ↓reduceIte, Nat.reduceEqDiff, Nat.reduceLT, Nat.reduceAdd, Nat.reduceMul, Nat.reduceLeDiff, Nat.le_refl, Int.natCast_zero, Int.toNat_natCast, Int.reduceToNat, *]) | (refine sCallX_one (c_rowsOf [] (by simp)) ?_; try simp -dsimp -implicitDefEqProofs only [go_sem, ↓reduceIte, Nat.reduceEqDiff, Nat.reduceLT, Nat.reduceAdd, Nat.reduceMul, Nat.reduceLeDiff, Nat.le_refl, Int.natCast_zero, Int.toNat_natCast, Int.reduceToNat, *]))); all_goals (first | omega | (refine ⟨?_, ?_⟩ <;> omega) | (exact rfl) | (simp; done) | (simp; omega) | trace_state))
      · have hp0 : decide ((s.length : Int) > 0) = true := by simp; omega
        clear hz
        refine sCallT_inl 500000 84 [.tmp 4] Try.func57 rfl rfl rfl rfl rfl (by exact of_decide_eq_true rfl) ?_
        simp -dsimp -implicitDefEqProofs only [go_sem, ↓reduceIte, Nat.reduceEqDiff, Nat.reduceLT, Nat.reduceAdd, Nat.reduceMul, Nat.reduceLeDiff, Nat.le_refl, Int.natCast_zero, Int.toNat_natCast, Int.reduceToNat, hd, gn, hne, gc]
        ((repeat' (first | (refine Br.intro (fun _ => ?_) (fun _ => ?_) <;> try simp -dsimp -implicitDefEqProofs only [go_sem, ↓reduceIte, Nat.reduceEqDiff, Nat.reduceLT, Nat.reduceAdd, Nat.reduceMul, Nat.reduceLeDiff, Nat.le_refl, Int.natCast_zero, Int.toNat_natCast, Int.reduceToNat, *]) | (with_reducible refine And.intro ?_ ?_) | (refine Later.draw mixed rfl ?_; try simp -dsimp -implicitDefEqProofs only [go_sem, ↓reduceIte, Nat.reduceEqDiff, Nat.reduceLT, Nat.reduceAdd, Nat.reduceMul, Nat.reduceLeDiff, Nat.le_refl, Int.natCast_zero, Int.toNat_natCast, Int.reduceToNat, *]) | (refine sCallT_one (c_Contains z p.depth hx) ?_; try simp -dsimp -implicitDefEqProofs only [go_sem, ↓reduceIte, Nat.reduceEqDiff, Nat.reduceLT, Nat.reduceAdd, Nat.reduceMul, Nat.reduceLeDiff, Nat.le_refl, Int.natCast_zero, Int.toNat_natCast, Int.reduceToNat, *]))); all_goals try (first | omega | (refine ⟨?_, ?_⟩ <;> omega) | (exact rfl) | (simp; done) | (simp; omega)))
        refine sCallT_inl 600000 13 [.tmp 2] Try.func61 rfl rfl rfl rfl rfl (by exact of_decide_eq_true rfl) ?_
        simp -dsimp -implicitDefEqProofs only [go_sem, ↓reduceIte, Nat.reduceEqDiff, Nat.reduceLT, Nat.reduceAdd, Nat.reduceMul, Nat.reduceLeDiff, Nat.le_refl, Int.natCast_zero, Int.toNat_natCast, Int.reduceToNat]
        ((repeat' (first | (refine Br.intro (fun _ => ?_) (fun _ => ?_) <;> try simp -dsimp -implicitDefEqProofs only [go_sem, ↓reduceIte, Nat.reduceEqDiff, Nat.reduceLT, Nat.reduceAdd, Nat.reduceMul, Nat.reduceLeDiff, Nat.le_refl, Int.natCast_zero, Int.toNat_natCast, Int.reduceToNat, *]) | (with_reducible refine And.intro ?_ ?_) | (refine Later.draw mixed rfl ?_; try simp -dsimp -implicitDefEqProofs only [go_sem, ↓reduceIte, Nat.reduceEqDiff, Nat.reduceLT, Nat.reduceAdd, Nat.reduceMul, Nat.reduceLeDiff, Nat.le_refl, Int.natCast_zero, Int.toNat_natCast, Int.reduceToNat, *]) | (rw [← List.map_take]; refine sCallX_one (c_rowsOf (o.take 0) (by simp; omega)) ?_; try simp -dsimp -implicitDefEqProofs only [go_sem, ↓reduceIte, Nat.reduceEqDiff, Nat.reduceLT, Nat.reduceAdd, Nat.reduceMul, Nat.reduceLeDiff, Nat.le_refl, Int.natCast_zero, Int.toNat_natCast, Int.reduceToNat, *]) | (refine sCallX_one (c_rowsOf [] (by simp)) ?_; try simp -dsimp -implicitDefEqProofs only [go_sem, ↓reduceIte, Nat.reduceEqDiff, Nat.reduceLT, Nat.reduceAdd, Nat.reduceMul, Nat.reduceLeDiff, Nat.le_refl, Int.natCast_zero, Int.toNat_natCast, Int.reduceToNat, *]))); all_goals (first | omega | (refine ⟨?_, ?_⟩ <;> omega) | (exact rfl) | (simp; done) | (simp; omega) | trace_state))
    · rw [q2]
      clear q2 q3
      have hgt : decide (p.depth > z[z.length - 1]) = false := by rw [getElem!_pos z (z.length - 1) hlt2] at q4; exact decide_eq_false q4
      refine sCallT_inl 500000 84 [.tmp 4] Try.func57 rfl rfl rfl rfl rfl (by exact of_decide_eq_true rfl) ?_
      simp -dsimp -implicitDefEqProofs only [go_sem, ↓reduceIte, Nat.reduceEqDiff, Nat.reduceLT, Nat.reduceAdd, Nat.reduceMul, Nat.reduceLeDiff, Nat.le_refl, Int.natCast_zero, Int.toNat_natCast, Int.reduceToNat, hd, gn, hne, gc]
      ((repeat' (first | (refine Br.intro (fun _ => ?_) (fun _ => ?_) <;> try simp -dsimp -implicitDefEqProofs only [go_sem, ↓reduceIte, Nat.reduceEqDiff, Nat.reduceLT, Nat.reduceAdd, Nat.reduceMul, Nat.reduceLeDiff, Nat.le_refl, Int.natCast_zero, Int.toNat_natCast, Int.reduceToNat, *]) | (with_reducible refine And.intro ?_ ?_) | (refine Later.draw mixed rfl ?_; try simp -dsimp -implicitDefEqProofs only [go_sem, ↓reduceIte, Nat.reduceEqDiff, Nat.reduceLT, Nat.reduceAdd, Nat.reduceMul, Nat.reduceLeDiff, Nat.le_refl, Int.natCast_zero, Int.toNat_natCast, Int.reduceToNat, *]) | (refine sCallT_one (c_Contains z p.depth hx) ?_; try simp -dsimp -implicitDefEqProofs only [go_sem, ↓reduceIte, Nat.reduceEqDiff, Nat.reduceLT, Nat.reduceAdd, Nat.reduceMul, Nat.reduceLeDiff, Nat.le_refl, Int.natCast_zero, Int.toNat_natCast, Int.reduceToNat, *]))); all_goals try (first | omega | (refine ⟨?_, ?_⟩ <;> omega) | (exact rfl) | (simp; done) | (simp; omega)))
      refine sCallT_inl 600000 13 [.tmp 2] Try.func61 rfl rfl rfl rfl rfl (by exact of_decide_eq_true rfl) ?_
      simp -dsimp -implicitDefEqProofs only [go_sem, ↓reduceIte, Nat.reduceEqDiff, Nat.reduceLT, Nat.reduceAdd, Nat.reduceMul, Nat.reduceLeDiff, Nat.le_refl, Int.natCast_zero, Int.toNat_natCast, Int.reduceToNat]
      ((repeat' (first | (refine Br.intro (fun _ => ?_) (fun _ => ?_) <;> try simp -dsimp -implicitDefEqProofs only [go_sem, ↓reduceIte, Nat.reduceEqDiff, Nat.reduceLT, Nat.reduceAdd, Nat.reduceMul, Nat.reduceLeDiff, Nat.le_refl, Int.natCast_zero, Int.toNat_natCast, Int.reduceToNat, *]) | (with_reducible refine And.intro ?_ ?_) | (refine Later.draw mixed rfl ?_; try simp -dsimp -implicitDefEqProofs only [go_sem, ↓reduceIte, Nat.reduceEqDiff, Nat.reduceLT, Nat.reduceAdd, Nat.reduceMul, Nat.reduceLeDiff, Nat.le_refl, Int.natCast_zero, Int.toNat_natCast, Int.reduceToNat, *]) | (rw [← List.map_take]; refine sCallX_one (c_rowsOf (o.take s.length) (by simp; omega)) ?_; try simp -dsimp -implicitDefEqProofs only [go_sem, ↓reduceIte, Nat.reduceEqDiff, Nat.reduceLT, Nat.reduceAdd, Nat.reduceMul, Nat.reduceLeDiff, Nat.le_refl, Int.natCast_zero, Int.toNat_natCast, Int.reduceToNat, *]) | (refine sCallX_one (c_rowsOf [] (by simp)) ?_; try simp -dsimp -implicitDefEqProofs only [go_sem, ↓reduceIte, Nat.reduceEqDiff, Nat.reduceLT, Nat.reduceAdd, Nat.reduceMul, Nat.reduceLeDiff, Nat.le_refl, Int.natCast_zero, Int.toNat_natCast, Int.reduceToNat, *]))); all_goals (first | omega | (refine ⟨?_, ?_⟩ <;> omega) | (exact rfl) | (simp; done) | (simp; omega) | trace_state))
end Go.Vc
