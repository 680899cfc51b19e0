/-
  Contracts: normal orders.
-/
import Derived.Test.YtlelhmbhhnokoaaNormal
set_option linter.unusedVariables false
set_option linter.unusedSimpArgs false
set_option linter.unnecessarySimpa false
namespace Go.Vc
open Go.Proofs
set_option maxRecDepth 100000
/- ---- what an order has of each thing -/
def cpyF (r i : Int) (x : ItM) : Int := if rkIt r x = i then x.copies else 0
def cpy (r i : Int) (os : List ItM) : Int := (os.map (cpyF r i)).sum
def itAt (r : Nat) (i : Nat) (c : Int) : ItM := if i < r then ⟨true, i, c⟩ else ⟨false, (i : Int) - r, c⟩
def nrm (r : Nat) (os : List ItM) : Nat → List ItM
  | 0 => []
  | n + 1 => if cpy r n os > 0 then nrm r os n ++ [itAt r n (cpy r n os)] else nrm r os n
theorem cpy_nil (r i : Int) : cpy r i [] = 0 := rfl
theorem cpy_snoc (r i : Int) (os : List ItM) (x : ItM) : cpy r i (os ++ [x]) = cpy r i os + cpyF r i x := by
  simp [cpy]
theorem cpy_cons (r i : Int) (os : List ItM) (x : ItM) : cpy r i (x :: os) = cpyF r i x + cpy r i os := by
  simp [cpy]
def okCp (x : ItM) : Prop := 1 ≤ x.copies ∧ x.copies ≤ 50
theorem cpyF_in {r i : Int} {x : ItM} (h : okCp x) : 0 ≤ cpyF r i x ∧ cpyF r i x ≤ 50 := by
  obtain ⟨h1, h2⟩ := h
  unfold cpyF
  split <;> omega
theorem cpy_in (r i : Int) : ∀ (os : List ItM), (∀ x, x ∈ os → okCp x) → 0 ≤ cpy r i os ∧ cpy r i os ≤ 50 * os.length
  | [], _ => by simp [cpy_nil]
  | x :: r', h => by
    have h1 := cpyF_in (r := r) (i := i) (h x (List.mem_cons_self ..))
    have h2 := cpy_in r i r' fun y hy => h y (List.mem_cons_of_mem _ hy)
    rw [cpy_cons, List.length_cons]
    omega
theorem cpy_no {r i : Int} : ∀ {os : List ItM}, (∀ x, x ∈ os → rkIt r x ≠ i) → cpy r i os = 0
  | [], _ => rfl
  | x :: r', h => by
    rw [cpy_cons, cpy_no fun y hy => h y (List.mem_cons_of_mem _ hy), cpyF, if_neg (h x (List.mem_cons_self ..))]; rfl
theorem nrm_congr {r : Nat} {A B : List ItM} : ∀ n, (∀ i : Nat, i < n → cpy r i A = cpy r i B) → nrm r A n = nrm r B n
  | 0, _ => rfl
  | n + 1, h => by
    rw [nrm, nrm, h n (Nat.lt_succ_self n), nrm_congr n fun i hi => h i (by omega)]
theorem nrm_more {r : Nat} {A : List ItM} {k : Nat} : ∀ n, k ≤ n → (∀ i : Nat, k ≤ i → i < n → cpy r i A = 0) → nrm r A n = nrm r A k
  | 0, h, _ => by rw [show k = 0 by omega]
  | n + 1, h, h0 => by
    by_cases e : k = n + 1
    · rw [e]
    · rw [nrm, h0 n (by omega) (by omega), if_neg (by omega)]
      exact nrm_more n (by omega) fun i h1 h2 => h0 i h1 (by omega)
theorem itAt_rk (r i : Nat) (c : Int) : rkIt r (itAt r i c) = i := by
  unfold rkIt itAt
  split
  · rfl
  · show (if false = true then _ else (r : Int) + ((i : Int) - r)) = _
    rw [if_neg (by decide)]; omega
theorem itAt_ix {r i : Nat} (c : Int) (h : i ≤ 1000) : okIx r (itAt r i c) := by
  unfold okIx itAt
  split <;> simp <;> omega
theorem itAt_of {r : Nat} {x : ItM} {i : Nat} (hx : okIx r x) (h : rkIt r x = i) : x = itAt r i x.copies := by
  obtain ⟨⟨h1, h2⟩, h3⟩ := hx
  unfold rkIt at h
  cases x with
  | mk k ix c =>
    cases k with
    | true =>
      have := h3 rfl
      simp at h this h1
      unfold itAt
      rw [if_pos (by omega), ← h]
    | false =>
      simp at h h1
      unfold itAt
      rw [if_neg (by omega)]
      have e : (i : Int) - r = ix := by omega
      rw [e]
theorem nrm_mem {r : Nat} {A : List ItM} : ∀ {n : Nat} {y : ItM}, y ∈ nrm r A n → ∃ i, i < n ∧ y = itAt r i (cpy r i A) ∧ 0 < cpy r i A
  | 0, y, h => by cases h
  | n + 1, y, h => by
    rw [nrm] at h
    split at h
    · rename_i hp
      rcases List.mem_append.1 h with h | h
      · obtain ⟨i, h1, h2⟩ := nrm_mem h
        exact ⟨i, by omega, h2⟩
      · rw [List.mem_singleton] at h
        exact ⟨n, Nat.lt_succ_self n, h, hp⟩
    · obtain ⟨i, h1, h2⟩ := nrm_mem h
      exact ⟨i, by omega, h2⟩
/- ---- merging -/
def mstep (out : List ItM) (x : ItM) : List ItM :=
  if 0 < out.length ∧ cmpIt (out.getD (out.length - 1) default) x = 0 then
    out.set (out.length - 1) ⟨(out.getD (out.length - 1) default).key, (out.getD (out.length - 1) default).index, (out.getD (out.length - 1) default).copies + x.copies⟩
  else out ++ [x]
def mrgS (D : List ItM) : Nat → List ItM
  | 0 => []
  | i + 1 => mstep (mrgS D i) (D.getD i default)
theorem mstep_len (out : List ItM) (x : ItM) : (mstep out x).length ≤ out.length + 1 := by
  unfold mstep
  split <;> simp
theorem mrgS_len (D : List ItM) : ∀ i, (mrgS D i).length ≤ i
  | 0 => Nat.le_refl _
  | i + 1 => Nat.le_trans (mstep_len _ _) (by have := mrgS_len D i; omega)
theorem mrg_step {r N : Nat} {A : List ItM} {x : ItM} {k : Nat} (hN : N ≤ 1000) (hx : okIx r x) (hc : okCp x) (hk : rkIt r x = k) (hkN : k < N) (hA : ∀ y, y ∈ A → okIx r y ∧ okCp y ∧ rkIt r y ≤ k) : mstep (nrm r A N) x = nrm r (A ++ [x]) N := by
  have hxc := hc.1
  have z1 : ∀ i : Nat, k + 1 ≤ i → i < N → cpy r i A = 0 := fun i h1 h2 => cpy_no fun y hy => by have := (hA y hy).2.2; omega
  have e1 : nrm r A N = nrm r A (k + 1) := nrm_more N (by omega) z1
  have hsame : ∀ i : Nat, i < k → cpy r i (A ++ [x]) = cpy r i A := fun i hi => by
    rw [cpy_snoc, cpyF, if_neg (by omega)]; omega
  have hkk : cpy r k (A ++ [x]) = cpy r k A + x.copies := by rw [cpy_snoc, cpyF, if_pos hk]
  have z2 : ∀ i : Nat, k + 1 ≤ i → i < N → cpy r i (A ++ [x]) = 0 := fun i h1 h2 => by
    rw [cpy_snoc, z1 i h1 h2, cpyF, if_neg (by omega)]; rfl
  have hge := (cpy_in r k A fun y hy => (hA y hy).2.1).1
  have e2 : nrm r (A ++ [x]) N = nrm r A k ++ [itAt r k (cpy r k A + x.copies)] := by
    rw [nrm_more N (show k + 1 ≤ N by omega) z2, nrm, hkk, if_pos (by omega), nrm_congr k hsame]
  rw [e1, e2, nrm]
  by_cases h0 : cpy r k A > 0
  · rw [if_pos h0]
    have hl : (nrm r A k ++ [itAt r k (cpy r k A)]).length - 1 = (nrm r A k).length := by simp
    have hg : (nrm r A k ++ [itAt r k (cpy r k A)]).getD (nrm r A k).length default = itAt r k (cpy r k A) := by
      simp [List.getD_eq_getElem?_getD]
    unfold mstep
    rw [hl, hg, if_pos ⟨by simp, (cmp_rk (itAt_ix _ (by omega)) hx).2.2 (by rw [itAt_rk, hk])⟩, List.set_append_right _ _ (Nat.le_refl _), Nat.sub_self]
    congr 1
    unfold itAt
    split <;> rfl
  · rw [if_neg h0]
    have hc0 : cpy r k A = 0 := by omega
    rw [hc0, Int.zero_add, ← itAt_of hx hk]
    unfold mstep
    rw [if_neg]
    rintro ⟨hl, hz⟩
    have hm : (nrm r A k).getD ((nrm r A k).length - 1) default ∈ nrm r A k := by
      rw [List.getD_eq_getElem?_getD, List.getElem?_eq_getElem (by omega)]
      exact List.getElem_mem _
    obtain ⟨i, h1, h2, _⟩ := nrm_mem hm
    rw [h2] at hz
    have := (cmp_rk (itAt_ix _ (by omega)) hx).2.1 hz
    rw [itAt_rk, hk] at this
    omega
theorem rk_in {r : Int} {x : ItM} (hx : okIx r x) (h : 0 ≤ r) : 0 ≤ rkIt r x := by
  obtain ⟨⟨h1, h2⟩, _⟩ := hx
  unfold rkIt
  split <;> omega
theorem mrg_all {r N : Nat} {D : List ItM} (hN : N ≤ 1000) (hD : ∀ x, x ∈ D → okIx r x ∧ okCp x ∧ rkIt r x < N) (hs : srt r D D.length) : ∀ i, i ≤ D.length → mrgS D i = nrm r (D.take i) N
  | 0, _ => by
    have : ∀ n, nrm r [] n = [] := by
      intro n
      induction n with
      | zero => rfl
      | succ n ih => rw [nrm, cpy_nil, if_neg (by omega), ih]
    simp [mrgS, this]
  | i + 1, hi => by
    have hi' : i < D.length := by omega
    have hm := hD _ (List.getElem_mem hi')
    have hr0 := rk_in hm.1 (Int.natCast_nonneg r)
    obtain ⟨k, hk⟩ : ∃ k : Nat, rkIt r D[i] = k := ⟨(rkIt r D[i]).toNat, by omega⟩
    rw [mrgS, mrg_all hN hD hs i (by omega), getD_get hi', List.take_succ_eq_append_getElem hi']
    refine mrg_step hN hm.1 hm.2.1 hk (by omega) fun y hy => ?_
    obtain ⟨p, hp, rfl⟩ := List.getElem_of_mem hy
    have hp2 : p < i := by rw [List.length_take] at hp; omega
    rw [List.getElem_take]
    have hy2 := hD _ (List.getElem_mem (show p < D.length by omega))
    refine ⟨hy2.1, hy2.2.1, ?_⟩
    have := hs p i hp2 hi'
    rw [getD_get hi', getD_get (show p < D.length by omega)] at this
    omega
/- ---- normal orders -/
def wide (t : List (List Int)) : Nat := t.length + (t.getD 0 []).length
def few (r : Nat) (os : List ItM) (n : Nat) : Bool := (List.range n).all fun i => decide (cpy r (i : Int) os ≤ 50)
def normalO (m : MkM) (t : List (List Int)) (os : List ItM) : List ItM × Int :=
  if ordCode m t os = 0 then (if few t.length os (wide t) = true then (nrm t.length os (wide t), 0) else ([], 3)) else ([], ordCode m t os)
theorem ord_facts {m : MkM} {t : List (List Int)} {os : List ItM} (h : ordCode m t os = 0) : wide t ≤ 22 ∧ os.length ≤ 20 ∧ ∀ x, x ∈ os → okIx t.length x ∧ okCp x ∧ rkIt t.length x < wide t := by
  obtain ⟨k1, k2⟩ := ordCode_zero h
  obtain ⟨n1, n2, n3, n4, n5⟩ := isSy_num k1
  have k2' := k2
  simp only [isOrd, Bool.and_eq_true, List.all_eq_true, decide_eq_true_eq] at k2'
  refine ⟨by unfold wide; omega, k2'.2, fun x hx => ?_⟩
  have hi := k2'.1 x hx
  simp only [itOk, isIn, Bool.and_eq_true, decide_eq_true_eq] at hi
  unfold okIx okCp rkIt wide
  generalize (t.getD 0 []).length = dd at *
  rcases hk : x.key with _ | _
  · rw [hk] at hi
    simp at hi ⊢
    omega
  · rw [hk] at hi
    simp at hi ⊢
    omega
theorem nrm_len {m : MkM} {t : List (List Int)} {os D : List ItM} (h : ordCode m t os = 0) (hS : Same os D) (hs : srt t.length D os.length) : mrgS D D.length = nrm t.length os (wide t) ∧ (nrm t.length os (wide t)).length ≤ 20 := by
  obtain ⟨h1, h2, h3⟩ := ord_facts h
  have hl := hS.len
  have e := mrg_all (N := wide t) (by omega) (fun x hx => h3 x (hS.mem x hx)) (by rw [hl]; exact hs) D.length (Nat.le_refl _)
  rw [List.take_length, nrm_congr (B := os) (wide t) fun i _ => hS.sum _] at e
  refine ⟨e, ?_⟩
  rw [← e]
  have := mrgS_len D D.length
  omega
theorem isOrd_nrm {m : MkM} {t : List (List Int)} {os : List ItM} (h : ordCode m t os = 0) (hl : (nrm t.length os (wide t)).length ≤ 20) : isOrd t (nrm t.length os (wide t)) = few t.length os (wide t) := by
  obtain ⟨h1, h2, h3⟩ := ord_facts h
  rw [isOrd, decide_eq_true hl, Bool.and_true]
  rcases hf : few t.length os (wide t) with _ | _
  · rw [List.all_eq_false]
    rw [few, List.all_eq_false] at hf
    obtain ⟨i, hi, hc⟩ := hf
    have hi' := List.mem_range.1 hi
    have hc' : ¬ cpy t.length i os ≤ 50 := by simpa using hc
    refine ⟨itAt t.length i (cpy t.length i os), ?_, ?_⟩
    · have key : ∀ n, i < n → itAt t.length i (cpy t.length i os) ∈ nrm t.length os n := by
        intro n
        induction n with
        | zero => intro h; omega
        | succ n ih =>
          intro hn
          rw [nrm]
          by_cases e : i = n
          · subst e
            rw [if_pos (by omega)]; simp
          · have := ih (by omega)
            split
            · exact List.mem_append_left _ this
            · exact this
      exact key _ hi'
    · simp only [itOk, isIn, Bool.and_eq_true, decide_eq_true_eq]
      unfold itAt
      split <;> simp <;> omega
  · rw [List.all_eq_true]
    rw [few, List.all_eq_true] at hf
    intro x hx
    obtain ⟨i, hi, rfl, hp⟩ := nrm_mem hx
    have hc := hf i (List.mem_range.2 hi)
    have hc' : cpy t.length i os ≤ 50 := by simpa using hc
    simp only [itOk, isIn, Bool.and_eq_true, decide_eq_true_eq]
    unfold wide at hi
    generalize cpy t.length i os = cc at *
    generalize (t.getD 0 []).length = dd at *
    unfold itAt
    split <;> simp <;> omega
end Go.Vc
