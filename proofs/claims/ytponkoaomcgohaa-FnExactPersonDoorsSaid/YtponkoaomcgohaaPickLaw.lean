/-
  Picking: what the functions on it compute; plain facts.
-/
import Derived.Test.YtponkoaomcgohaaDiff
import Derived.Test.YtponkoaomcgohaaLock
set_option linter.unusedVariables false
set_option linter.unusedSimpArgs false
set_option linter.unnecessarySimpa false
namespace Go.Vc
structure PkM where
  chamber : Int
  depth : Int
  deriving DecidableEq, Inhabited
theorem has_iff (xs : List Int) (x : Int) : has xs x = true ↔ x ∈ xs := by
  simp [has]
def ordOk (m : MkM) (o : List Int) : Bool := ((o.length : Int) == m.chambers) && ((o.all fun x => isIn x 0 (m.chambers - 1)) && decide o.Nodup)
theorem rises_iff (xs : List Int) (n : Int) : rises xs n = true ↔ (∀ i (h : i < xs.length), 0 ≤ xs[i] ∧ xs[i] < n) ∧ ∀ i (h : i + 1 < xs.length), xs[i] < xs[i + 1] := by
  have e : ∀ i (h : i < xs.length), xs.getD i 0 = xs[i] := fun i h => by simp [List.getD_eq_getElem?_getD, h]
  rw [rises, List.all_eq_true]
  constructor
  · intro h
    refine ⟨fun i hi => ?_, fun i hi => ?_⟩
    · have := h i (List.mem_range.2 hi)
      simp only [riseAt, Bool.and_eq_true, decide_eq_true_eq, e i hi] at this
      exact this.1
    · have := h (i + 1) (List.mem_range.2 hi)
      simp only [riseAt, Bool.and_eq_true, decide_eq_true_eq, e _ hi, Bool.or_eq_true, beq_iff_eq, Nat.add_sub_cancel, e i (by omega)] at this
      exact this.2.resolve_left (by omega)
  · rintro ⟨h1, h2⟩ i hi
    have hi := List.mem_range.1 hi
    simp only [riseAt, Bool.and_eq_true, decide_eq_true_eq, Bool.or_eq_true, beq_iff_eq, e i hi]
    refine ⟨h1 i hi, ?_⟩
    cases i with
    | zero => exact .inl rfl
    | succ i => exact .inr (by rw [Nat.add_sub_cancel, e i (by omega)]; exact h2 i hi)
theorem rises_pair {xs : List Int} {n : Int} (h : rises xs n = true) : xs.Pairwise (· < ·) := by
  rw [List.pairwise_iff_getElem]
  have h2 := ((rises_iff xs n).1 h).2
  intro i j hi hj hij
  induction j with
  | zero => omega
  | succ j ih =>
    have h3 := h2 j hj
    rcases Nat.lt_or_ge i j with h4 | h4
    · have := ih (by omega) h4; omega
    · have : i = j := by omega
      subst this; exact h3
theorem rises_len {xs : List Int} {n : Int} (hn : 0 ≤ n) (h : rises xs n = true) : (xs.length : Int) ≤ n := by
  obtain ⟨h1, h2⟩ := (rises_iff xs n).1 h
  have key : ∀ i (hi : i < xs.length), (i : Int) ≤ xs[i] := by
    intro i
    induction i with
    | zero => intro hi; have := h1 0 hi; omega
    | succ i ih => intro hi; have := ih (by omega); have := h2 i hi; omega
  rcases Nat.eq_zero_or_pos xs.length with h3 | h3
  · omega
  · have := key (xs.length - 1) (by omega)
    have := h1 (xs.length - 1) (by omega)
    omega
theorem rises_sort (o : List Int) (n : Int) : rises (o.mergeSort fun x y => decide (x ≤ y)) n = ((o.all fun x => isIn x 0 (n - 1)) && decide o.Nodup) := by
  have hp : (o.mergeSort fun x y => decide (x ≤ y)).Perm o := List.mergeSort_perm _ _
  have hs := List.pairwise_iff_getElem.1 (sort_pair o)
  generalize (o.mergeSort fun x y => decide (x ≤ y)) = s at hp hs
  rw [Bool.eq_iff_iff, Bool.and_eq_true, List.all_eq_true, decide_eq_true_eq]
  constructor
  · intro h
    obtain ⟨h1, h2⟩ := (rises_iff s n).1 h
    refine ⟨fun x hx => ?_, ?_⟩
    · obtain ⟨i, hi, rfl⟩ := List.getElem_of_mem (hp.mem_iff.2 hx)
      have := h1 i hi
      simp [isIn]; omega
    · rw [← hp.nodup_iff, List.nodup_iff_pairwise_ne]
      exact (rises_pair h).imp fun h => by omega
  · rintro ⟨h1, h2⟩
    rw [← hp.nodup_iff, List.nodup_iff_pairwise_ne, List.pairwise_iff_getElem] at h2
    refine (rises_iff s n).2 ⟨fun i hi => ?_, fun i hi => ?_⟩
    · have := h1 _ (hp.mem_iff.1 (List.getElem_mem hi))
      simp [isIn] at this; omega
    · have := hs i (i + 1) (by omega) hi (by omega)
      have := h2 i (i + 1) (by omega) hi (by omega)
      omega
theorem nodup_take {o : List Int} {i : Nat} (hi : i < o.length) (h1 : (o.take i).Nodup) (h2 : has (o.take i) o[i] = false) : (o.take (i + 1)).Nodup := by
  rw [List.take_succ_eq_append_getElem hi, List.nodup_append]
  refine ⟨h1, by simp, fun a ha b hb => ?_⟩
  have hb : b = o[i] := by simpa using hb
  subst hb
  rintro rfl
  rw [(has_iff _ _).2 ha] at h2; cases h2
theorem nodup_no {o : List Int} {i : Nat} (hi : i < o.length) (h : has (o.take i) o[i] = true) : ¬ o.Nodup := by
  intro hn
  have h1 : (o.take (i + 1)).Nodup := hn.sublist (List.take_sublist _ _)
  rw [List.take_succ_eq_append_getElem hi, List.nodup_append] at h1
  exact h1.2.2 _ ((has_iff _ _).1 h) _ (by simp) rfl
def setOk (o s : List Int) : Bool := rises s o.length && (o.take s.length).all fun c => has s c
def pickOk (m : MkM) (p : PkM) : Bool := isIn p.chamber 0 (m.chambers - 1) && isIn p.depth 0 (m.depths - 1)
def pkCode (m : MkM) (l : List (List Int)) (o s : List Int) : Int := if isLk m l then (if ordOk m o && setOk o s then 0 else 2) else 1
def pksCode (m : MkM) (l : List (List Int)) (o s : List Int) (ps : List PkM) : Int :=
  if pkCode m l o s = 0 then (if ps.all (pickOk m) then (if ps.length > 300 then 3 else 0) else 2) else pkCode m l o s
theorem pksCode_nil (m : MkM) (l : List (List Int)) (o s : List Int) : pksCode m l o s [] = pkCode m l o s := by
  unfold pksCode; split
  · rename_i h; simp [h]
  · rfl
theorem pkCode_zero {m : MkM} {l : List (List Int)} {o s : List Int} (h : pkCode m l o s = 0) : isLk m l = true ∧ ordOk m o = true ∧ setOk o s = true := by
  unfold pkCode at h
  split at h
  · split at h
    · rename_i h1 h2; simp only [Bool.and_eq_true] at h2; exact ⟨h1, h2⟩
    · omega
  · omega
/-- what a lock, an order and set chambers that are as described are like -/
structure Pk (m : MkM) (l : List (List Int)) (o : List Int) : Prop where
  ch : (o.length : Int) = m.chambers
  ln : l.length = o.length
  n6 : o.length ≤ 6
  n2 : 2 ≤ o.length
  d8 : 2 ≤ m.depths ∧ m.depths ≤ 8
  io : ∀ i (h : i < o.length), 0 ≤ o[i] ∧ o[i] < o.length
  nd : o.Nodup
  st : ∀ i (h : i < l.length), 0 < l[i].length ∧ rises l[i] m.depths = true
theorem Pk.of {m : MkM} {l : List (List Int)} {o : List Int} (h1 : isLk m l = true) (h2 : ordOk m o = true) : Pk m l o := by
  simp only [isLk, isLk0, Bool.and_eq_true, beq_iff_eq] at h1
  simp only [ordOk, Bool.and_eq_true, beq_iff_eq, decide_eq_true_eq, List.all_eq_true] at h2
  have h3 := isMk_num h1.1
  refine ⟨h2.1, by omega, by omega, by omega, h3.2, fun i hi => ?_, h2.2.2, fun i hi => ?_⟩
  · have := h2.2.1 _ (List.getElem_mem hi)
    simp [isIn] at this; omega
  · have := List.all_eq_true.1 h1.2.2 _ (List.getElem_mem hi)
    simp only [lockSet, Bool.and_eq_true, decide_eq_true_eq] at this
    exact ⟨by omega, this.2⟩
/-- the set of a chamber -/
def cset (l : List (List Int)) (c : Int) : List Int := l.getD c.toNat []
def lastOf (s : List Int) : Int := s.getD (s.length - 1) 0
structure PS where
  n : Nat
  cuts : List Int
  falls : Int
def pickN (l : List (List Int)) (o : List Int) (n : Nat) (p : PkM) : Nat :=
  if n = o.length ∨ o.getD n 0 ≠ p.chamber then n else if has (cset l p.chamber) p.depth then n + 1 else if p.depth > lastOf (cset l p.chamber) then 0 else n
def hit (l : List (List Int)) (o : List Int) (n : Nat) (p : PkM) : Bool := !(decide (n = o.length ∨ o.getD n 0 ≠ p.chamber)) && has (cset l p.chamber) p.depth
def pickS (l : List (List Int)) (o : List Int) (x : PS) (p : PkM) : PS :=
  ⟨pickN l o x.n p, if hit l o x.n p then x.cuts.set p.chamber.toNat p.depth else x.cuts, if pickN l o x.n p < x.n then x.falls + 1 else x.falls⟩
theorem pickN_le (l : List (List Int)) (o : List Int) (n : Nat) (p : PkM) (h : n ≤ o.length) : pickN l o n p ≤ o.length := by
  unfold pickN; split
  · exact h
  · rename_i h1; split
    · omega
    · split <;> omega
theorem pickS_done (l : List (List Int)) (o : List Int) (x : PS) (p : PkM) (h : x.n = o.length) : pickS l o x p = x := by
  have e : pickN l o x.n p = x.n := by simp [pickN, h]
  have e2 : hit l o x.n p = false := by simp [hit, h]
  simp [pickS, e, e2]
def runS (l : List (List Int)) (o : List Int) (ps : List PkM) (i : Nat) : PS := (ps.take i).foldl (pickS l o) ⟨0, List.replicate o.length 0, 0⟩
theorem runS_zero (l : List (List Int)) (o : List Int) (ps : List PkM) : runS l o ps 0 = ⟨0, List.replicate o.length 0, 0⟩ := by simp [runS]
theorem runS_succ (l : List (List Int)) (o : List Int) (ps : List PkM) (i : Nat) (h : i < ps.length) : runS l o ps (i + 1) = pickS l o (runS l o ps i) ps[i] := by
  rw [runS, List.take_succ_eq_append_getElem h, List.foldl_append]; rfl
theorem runS_n (l : List (List Int)) (o : List Int) (ps : List PkM) (i : Nat) : (runS l o ps i).n ≤ o.length := by
  have : ∀ (qs : List PkM) (x : PS), x.n ≤ o.length → (qs.foldl (pickS l o) x).n ≤ o.length := by
    intro qs
    induction qs with
    | nil => intro x h; exact h
    | cons q r ih => intro x h; exact ih _ (pickN_le l o x.n q h)
  exact this _ _ (Nat.zero_le _)
theorem runS_cuts (l : List (List Int)) (o : List Int) (ps : List PkM) (i : Nat) : (runS l o ps i).cuts.length = o.length := by
  have : ∀ (qs : List PkM) (x : PS), (qs.foldl (pickS l o) x).cuts.length = x.cuts.length := by
    intro qs
    induction qs with
    | nil => intro x; rfl
    | cons q r ih => intro x; rw [List.foldl_cons, ih]; simp only [pickS]; split <;> simp
  rw [runS, this]; simp
theorem runS_falls (l : List (List Int)) (o : List Int) (ps : List PkM) (i : Nat) : 0 ≤ (runS l o ps i).falls ∧ (runS l o ps i).falls ≤ (ps.take i).length := by
  have : ∀ (qs : List PkM) (x : PS), x.falls ≤ (qs.foldl (pickS l o) x).falls ∧ (qs.foldl (pickS l o) x).falls ≤ x.falls + qs.length := by
    intro qs
    induction qs with
    | nil => intro x; simp
    | cons q r ih =>
      intro x
      have := ih (pickS l o x q)
      simp only [List.foldl_cons, List.length_cons]
      have h2 : x.falls ≤ (pickS l o x q).falls ∧ (pickS l o x q).falls ≤ x.falls + 1 := by simp only [pickS]; split <;> omega
      omega
  have := this (ps.take i) ⟨0, List.replicate o.length 0, 0⟩
  simp only at this
  simp only [runS]
  omega
theorem runS_stop (l : List (List Int)) (o : List Int) (ps : List PkM) (i : Nat) (h : (runS l o ps i).n = o.length) : ∀ k, runS l o ps (i + k) = runS l o ps i := by
  intro k
  induction k with
  | zero => rfl
  | succ k ih =>
    rcases Nat.lt_or_ge (i + k) ps.length with h1 | h1
    · rw [← Nat.add_assoc, runS_succ _ _ _ _ h1, ih, pickS_done _ _ _ _ h]
    · have : ps.take (i + (k + 1)) = ps.take (i + k) := by rw [List.take_of_length_le (by omega), List.take_of_length_le h1]
      rw [runS, this]; exact ih
def madeS (l : List (List Int)) (o : List Int) (ps : List PkM) : Nat := ((List.range ps.length).filter fun j => decide ((runS l o ps j).n ≠ o.length)).length
theorem madeS_stop (l : List (List Int)) (o : List Int) (ps : List PkM) (i : Nat) (hi : i ≤ ps.length) (hb : ∀ j, j < i → (runS l o ps j).n ≠ o.length) (h : i < ps.length → (runS l o ps i).n = o.length) : madeS l o ps = i := by
  have key : ∀ k, i ≤ k → k ≤ ps.length → ((List.range k).filter fun j => decide ((runS l o ps j).n ≠ o.length)).length = i := by
    intro k
    induction k with
    | zero => intro h1 _; simp; omega
    | succ k ih =>
      intro h1 h2
      rw [List.range_succ, List.filter_append, List.length_append]
      rcases Nat.lt_or_ge k i with h3 | h3
      · have e : i = k + 1 := by omega
        have e2 : ((List.range k).filter fun j => decide ((runS l o ps j).n ≠ o.length)) = List.range k := List.filter_eq_self.2 fun j hj => by
          have := hb j (by have := List.mem_range.1 hj; omega)
          simp [this]
        rw [e2]
        have := hb k h3
        simp [this, e]
      · have h4 := runS_stop l o ps i (h (by omega)) (k - i)
        rw [show i + (k - i) = k by omega] at h4
        rw [ih h3 (by omega), List.filter_cons, h4, h (by omega)]
        simp
  exact key ps.length hi (Nat.le_refl _)
def blindAt (m : MkM) (l : List (List Int)) (c : Int) : Int := (cset l c).getD 0 0 * m.chambers + c + 1
def blindN (m : MkM) (l : List (List Int)) (o : List Int) (k : Nat) : Int := ((o.take k).map (blindAt m l)).sum
theorem blindN_zero (m : MkM) (l : List (List Int)) (o : List Int) : blindN m l o 0 = 0 := by simp [blindN]
theorem blindN_succ (m : MkM) (l : List (List Int)) (o : List Int) (k : Nat) (h : k < o.length) : blindN m l o (k + 1) = blindN m l o k + blindAt m l o[k] := by
  rw [blindN, List.take_succ_eq_append_getElem h, List.map_append, List.sum_append]; simp [blindN]
theorem Pk.cset {m : MkM} {l : List (List Int)} {o : List Int} (h : Pk m l o) {c : Int} (h0 : 0 ≤ c) (h1 : c < o.length) : ∃ hi : c.toNat < l.length, cset l c = l[c.toNat] := by
  have hi : c.toNat < l.length := by rw [h.ln]; omega
  exact ⟨hi, by simp [Go.Vc.cset, List.getD_eq_getElem?_getD, hi]⟩
theorem Pk.blindAt {m : MkM} {l : List (List Int)} {o : List Int} (h : Pk m l o) {k : Nat} (hk : k < o.length) : 0 ≤ blindAt m l o[k] ∧ blindAt m l o[k] ≤ 100 := by
  have hio := h.io k hk
  obtain ⟨hi, e⟩ := h.cset hio.1 hio.2
  have hs := h.st _ hi
  have h1 := ((rises_iff _ _).1 hs.2).1 0 hs.1
  have e0 : (Go.Vc.cset l o[k]).getD 0 0 = (l[(o[k]).toNat])[0]'hs.1 := by rw [e]; simp [List.getD_eq_getElem?_getD, hs.1]
  unfold Go.Vc.blindAt
  rw [e0, ← h.ch]
  have hd := h.d8
  have hn := h.n6
  generalize (l[(o[k]).toNat])[0] = z at h1
  have a1 : 0 ≤ z * (o.length : Int) := Int.mul_nonneg (by omega) (by omega)
  have a2 : z * (o.length : Int) ≤ 8 * 6 := Int.mul_le_mul (by omega) (by omega) (by omega) (by omega)
  omega
theorem Pk.blindN {m : MkM} {l : List (List Int)} {o : List Int} (h : Pk m l o) : ∀ k, k ≤ o.length → 0 ≤ blindN m l o k ∧ blindN m l o k ≤ 100 * k := by
  intro k
  induction k with
  | zero => intro _; rw [blindN_zero]; omega
  | succ k ih =>
    intro hk
    rw [blindN_succ _ _ _ _ hk]
    have := ih (by omega)
    have := h.blindAt hk
    omega
end Go.Vc
