/-
  Decimals and the parts of a text, plain.
-/
import Derived.Test.YtlelhmbhhnokoaaDoorEnc
import Derived.Lib.ItoaLen
import Derived.Lib.ItoaMem
import Derived.Lib.ParseIntB
import Derived.Lib.Split
import Derived.Lib.CountLaws
import Derived.Lib.IndexBytes
import Derived.Lib.CutLaws
import Derived.Lib.Join
set_option linter.unusedVariables false
set_option linter.unusedSimpArgs false
set_option linter.unnecessarySimpa false
namespace Go.Vc
open Go.Lib
/- texts as values -/
abbrev eS (bs : List UInt8) : AV := .val (.string ⟨bs.toArray⟩)
abbrev eSs (xs : List (List UInt8)) : AV := .arr ⟨1, false⟩ (xs.map eS)
theorem ba_append (a b : List UInt8) : (⟨a.toArray⟩ : ByteArray) ++ ⟨b.toArray⟩ = ⟨(a ++ b).toArray⟩ := by
  apply ByteArray.ext
  rw [ByteArray.data_append]
  simp
theorem ba_size (a : List UInt8) : (⟨a.toArray⟩ : ByteArray).size = a.length := by
  show a.toArray.size = _
  simp
theorem ba_data (a : List UInt8) : (⟨a.toArray⟩ : ByteArray).data.toList = a := rfl
theorem ba_list (a : List UInt8) : (⟨a.toArray⟩ : ByteArray).toList = a := by
  rw [ByteArray.toList_eq]
theorem ba_extract (a : List UInt8) (i j : Nat) : (⟨a.toArray⟩ : ByteArray).extract i j = ⟨((a.take j).drop i).toArray⟩ := by
  apply ByteArray.ext
  rw [ByteArray.data_extract]
  simp
  exact List.drop_take.symm
theorem ba_inj {a b : List UInt8} (h : (⟨a.toArray⟩ : ByteArray) = ⟨b.toArray⟩) : a = b := by
  have := congrArg (fun x : ByteArray => x.data.toList) h
  simpa using this
/- digits -/
theorem dig_all (u : Nat) : ∀ c ∈ decDigits u, 48 ≤ c.toNat ∧ c.toNat ≤ 57 := by
  induction u using Nat.strongRecOn with
  | _ u ih =>
    have one : ∀ k, k < 10 → 48 ≤ (UInt8.ofNat (48 + k)).toNat ∧ (UInt8.ofNat (48 + k)).toNat ≤ 57 := by
      intro k hk
      rw [UInt8.toNat_ofNat_of_lt' (by show 48 + k < 256; omega)]; omega
    by_cases h : u < 10
    · rw [decDigits, dif_pos h]
      intro c hc
      rw [List.mem_singleton] at hc; subst hc
      exact one u h
    · rw [decDigits, dif_neg h]
      intro c hc
      rcases List.mem_append.1 hc with hc | hc
      · exact ih (u / 10) (by omega) c hc
      · rw [List.mem_singleton] at hc; subst hc
        exact one (u % 10) (by omega)
def dval (acc : Nat) (l : List UInt8) : Nat := l.foldl (fun a c => a * 10 + (c.toNat - 48)) acc
theorem dval_nil (acc : Nat) : dval acc [] = acc := rfl
theorem dval_cons (acc : Nat) (c : UInt8) (r : List UInt8) : dval acc (c :: r) = dval (acc * 10 + (c.toNat - 48)) r := by simp only [dval, List.foldl_cons]
theorem dval_app (acc : Nat) (a b : List UInt8) : dval acc (a ++ b) = dval (dval acc a) b := List.foldl_append
theorem dval_ge : ∀ (l : List UInt8) (acc : Nat), acc ≤ dval acc l
  | [], acc => Nat.le_refl _
  | c :: r, acc => by
    rw [dval_cons]
    have := dval_ge r (acc * 10 + (c.toNat - 48))
    omega
theorem dval_lt : ∀ (l : List UInt8) (acc : Nat), (∀ c ∈ l, 48 ≤ c.toNat ∧ c.toNat ≤ 57) → dval acc l + 1 ≤ (acc + 1) * 10 ^ l.length
  | [], acc, _ => by simp [dval_nil]
  | c :: r, acc, h => by
    rw [dval_cons, List.length_cons, Nat.pow_succ]
    have h1 := h c (List.mem_cons_self ..)
    refine Nat.le_trans (dval_lt r _ fun x hx => h x (List.mem_cons_of_mem _ hx)) ?_
    rw [Nat.mul_comm (10 ^ r.length) 10, ← Nat.mul_assoc]
    exact Nat.mul_le_mul_right _ (by omega)
theorem dval_dec (u : Nat) : ∀ acc, dval acc (decDigits u) = acc * 10 ^ nDigits u + u := by
  induction u using Nat.strongRecOn with
  | _ u ih =>
    intro acc
    have one : ∀ k, k < 10 → (UInt8.ofNat (48 + k)).toNat - 48 = k := by
      intro k hk
      rw [UInt8.toNat_ofNat_of_lt' (by show 48 + k < 256; omega)]; omega
    by_cases h : u < 10
    · rw [decDigits, dif_pos h, nDigits_small h, dval_cons, dval_nil, one u h]
    · rw [decDigits, dif_neg h, nDigits_big h, dval_app, ih (u / 10) (by omega), dval_cons, dval_nil, one (u % 10) (by omega), Nat.pow_succ, Nat.add_mul, Nat.mul_assoc]
      omega
theorem dval_dec0 (u : Nat) : dval 0 (decDigits u) = u := by rw [dval_dec]; simp
theorem dec_inj {u v : Nat} (h : decDigits u = decDigits v) : u = v := by
  rw [← dval_dec0 u, h, dval_dec0]
theorem dec_ne (u : Nat) : decDigits u ≠ [] := by
  intro h
  have := decDigits_length u
  rw [h] at this
  have := nDigits_pos u
  simp at *; omega
theorem itoa_nat (u : Nat) : itoa (u : Int) = decDigits u := by unfold itoa; rw [if_neg (by omega)]; simp
theorem itoa_of_nonneg {n : Int} (h : 0 ≤ n) : itoa n = decDigits n.toNat := by unfold itoa; rw [if_neg (by omega)]
theorem parseM_ok (M : Nat) (hM : M ≤ 18446744073709551615) : ∀ (l : List UInt8) (acc : Nat), (∀ c ∈ l, 48 ≤ c.toNat ∧ c.toNat ≤ 57) → dval acc l ≤ M → parseUintM M acc l = .ok (dval acc l)
  | [], acc, _, _ => rfl
  | c :: r, acc, hd, hv => by
    have h1 := hd c (List.mem_cons_self ..)
    rw [dval_cons] at hv ⊢
    have h2 := dval_ge r (acc * 10 + (c.toNat - 48))
    rw [parseUintM, if_pos h1, if_neg (by omega), if_neg (by omega)]
    exact parseM_ok M hM r _ (fun x hx => hd x (List.mem_cons_of_mem _ hx)) hv
theorem parseB_dec (u : Nat) (h : u ≤ 18446744073709551615) : parseUintB 64 (decDigits u) = .ok u := by
  rw [parseUintB, if_neg (dec_ne u), parseM_ok _ (by decide) _ _ (dig_all u) (by rw [dval_dec0]; exact h), dval_dec0]
theorem parse_itoa {v : Int} (h : I64 v) : parseIntB 64 (itoa v) = .ok v := by
  obtain ⟨h0, h1⟩ := h
  have e63 : (2 : Nat) ^ (64 - 1) = 9223372036854775808 := by decide
  by_cases hn : v < 0
  · rw [itoa, if_pos hn]
    simp only [parseIntB]
    rw [if_pos (.inr rfl), parseB_dec _ (by omega)]
    simp only [e63]
    rw [if_neg (by rintro ⟨q, _⟩; exact q rfl), if_neg (by rintro ⟨_, q⟩; omega), if_pos (show (45 : UInt8).toNat = 45 from rfl)]
    congr 1; omega
  · rw [itoa, if_neg hn]
    have hd := dig_all v.toNat
    have hp := parseB_dec v.toNat (by omega)
    cases hl : decDigits v.toNat with
    | nil => exact absurd hl (dec_ne _)
    | cons c r =>
      rw [hl] at hd hp
      have hc := hd c (List.mem_cons_self ..)
      have n1 : ¬ c.toNat = 45 := by omega
      simp only [parseIntB, e63]
      rw [if_neg (by omega), hp]
      simp only []
      rw [if_neg (by omega), if_neg (by omega), if_neg n1]
      congr 1; omega
theorem parse_bound {l : List UInt8} {v : Int} (h : parseIntB 64 l = .ok v) : I64 v := by
  have e63 : (2 : Nat) ^ (64 - 1) = 9223372036854775808 := by decide
  unfold parseIntB at h
  cases l with
  | nil => cases h
  | cons c r =>
    simp only [e63] at h
    split at h
    · cases h
    · cases h
    · split at h
      · cases h
      · split at h
        · cases h
        · rename_i n1 n2
          injection h with h
          subst h
          unfold I64
          split <;> rename_i hc
          · have : ¬ 9223372036854775808 < _ := fun q => n2 ⟨hc, q⟩
            omega
          · have : ¬ 9223372036854775808 ≤ _ := fun q => n1 ⟨hc, q⟩
            omega
theorem itoa_inj {m n : Int} (hm : I64 m) (hn : I64 n) (h : itoa m = itoa n) : m = n := by
  have h1 := parse_itoa hm
  rw [h, parse_itoa hn] at h1
  injection h1 with h1; exact h1.symm
/-- what impl.number tells -/
def numI (s : List UInt8) : Int × Bool := match parseIntB 64 s with
  | .ok v => (v, decide (itoa v = s))
  | .range => (intSat 64 s, false)
  | _ => (0, false)
theorem numI_itoa {v : Int} (h : I64 v) : numI (itoa v) = (v, true) := by rw [numI, parse_itoa h]; simp
theorem numI_true {s : List UInt8} (h : (numI s).2 = true) : I64 (numI s).1 ∧ s = itoa (numI s).1 := by
  unfold numI at *
  split at h
  · rename_i v hv
    exact ⟨parse_bound hv, (of_decide_eq_true h).symm⟩
  · cases h
  · cases h
/-- what spec.l01Value tells -/
def valD (s : List UInt8) : Int × Bool :=
  if s.length < 1 ∨ 13 < s.length then (0, false) else
    if (s.all fun c => decide (48 ≤ c.toNat) && decide (c.toNat ≤ 57)) = true then ((dval 0 s : Nat), decide (decDigits (dval 0 s) = s)) else (0, false)
theorem valD_dec {u : Nat} (h : nDigits u ≤ 13) : valD (decDigits u) = ((u : Int), true) := by
  have h1 := nDigits_pos u
  rw [valD, if_neg (by rw [decDigits_length]; omega), if_pos, dval_dec0]
  · simp
  · rw [List.all_eq_true]
    intro c hc
    have := dig_all u c hc
    simp; omega
theorem valD_true {s : List UInt8} (h : (valD s).2 = true) : 0 ≤ (valD s).1 ∧ s = itoa (valD s).1 := by
  unfold valD at *
  split at h
  · cases h
  · split at h
    · rename_i h1 h2
      rw [if_neg h1, if_pos h2]
      exact ⟨Int.natCast_nonneg _, by rw [itoa_nat]; exact (of_decide_eq_true h).symm⟩
    · cases h
/- the parts of a text between a byte -/
def spl (c : UInt8) : List UInt8 → List (List UInt8)
  | [] => [[]]
  | b :: l => if b = c then [] :: spl c l else match spl c l with
    | h :: t => (b :: h) :: t
    | [] => [[b]]
theorem spl_ne (c : UInt8) : ∀ l, spl c l ≠ []
  | [] => by simp [spl]
  | b :: l => by
    rw [spl]
    split
    · simp
    · split <;> simp
theorem spl_none {c : UInt8} : ∀ {l : List UInt8}, c ∉ l → spl c l = [l]
  | [], _ => rfl
  | b :: l, h => by
    rw [spl, if_neg (fun e => h (by rw [e]; exact List.mem_cons_self ..)), spl_none (fun q => h (List.mem_cons_of_mem _ q))]
theorem spl_app {c : UInt8} : ∀ {a : List UInt8} (r : List UInt8), c ∉ a → spl c (a ++ c :: r) = a :: spl c r
  | [], r, _ => by rw [List.nil_append, spl, if_pos rfl]
  | b :: l, r, h => by
    rw [List.cons_append, spl, if_neg (fun e => h (by rw [e]; exact List.mem_cons_self ..)), spl_app r (fun q => h (List.mem_cons_of_mem _ q))]
theorem spl_take {c : UInt8} {l : List UInt8} {i : Nat} (hi : l[i]? = some c) (hno : ∀ k, k < i → l[k]? ≠ some c) : spl c l = l.take i :: spl c (l.drop (i + 1)) := by
  obtain ⟨hlt, he⟩ := List.getElem?_eq_some_iff.1 hi
  have e : l = l.take i ++ c :: l.drop (i + 1) := by
    rw [← he, ← List.drop_eq_getElem_cons hlt, List.take_append_drop]
  have hn : c ∉ l.take i := by
    intro hc
    obtain ⟨k, hk, hkc⟩ := List.getElem_of_mem hc
    have hk2 : k < i := by simp at hk; omega
    refine hno k hk2 ?_
    rw [List.getElem_take] at hkc
    rw [List.getElem?_eq_getElem (by omega), hkc]
  conv => lhs; rw [e]
  exact spl_app _ hn
theorem idx_one (l : List UInt8) (c : UInt8) : indexB ⟨l.toArray⟩ ⟨#[c]⟩ = indexByte l c := index_one l c
theorem splitB_spl (c : UInt8) : ∀ (k : Nat) (l : List UInt8), countB ⟨l.toArray⟩ ⟨#[c]⟩ = k → splitB ⟨#[c]⟩ 0 k ⟨l.toArray⟩ = (spl c l).map fun a => ⟨a.toArray⟩ := by
  intro k
  induction k with
  | zero =>
    intro l hl
    rcases indexB_cases ⟨l.toArray⟩ ⟨#[c]⟩ with h | ⟨i, h, _⟩
    · rw [splitB_miss _ _ _ _ h]
      rw [idx_one] at h
      have hn : c ∉ l := by
        intro hc
        obtain ⟨j, hj, e⟩ := List.getElem_of_mem hc
        exact indexByte_none h j (by rw [List.getElem?_eq_getElem hj, e])
      rw [spl_none hn]; rfl
    · rw [countB_hit _ _ i (show 1 ≤ (⟨#[c]⟩ : ByteArray).size from Nat.le_refl 1) h] at hl; omega
  | succ k ih =>
    intro l hl
    rcases indexB_cases ⟨l.toArray⟩ ⟨#[c]⟩ with h | ⟨i, h, _⟩
    · rw [countB_miss _ _ h] at hl; omega
    · rw [countB_hit _ _ i (show 1 ≤ (⟨#[c]⟩ : ByteArray).size from Nat.le_refl 1) h] at hl
      rw [splitB_hit _ _ _ _ _ h]
      rw [idx_one] at h
      obtain ⟨h1, h2⟩ := indexByte_some h
      have e1 : (⟨#[c]⟩ : ByteArray).size = 1 := rfl
      have e2 : (⟨l.toArray⟩ : ByteArray).extract (i + 1) (⟨l.toArray⟩ : ByteArray).size = ⟨(l.drop (i + 1)).toArray⟩ := by rw [ba_size, ba_extract, List.take_length]
      have e3 : (⟨l.toArray⟩ : ByteArray).extract 0 (i + 0) = ⟨(l.take i).toArray⟩ := by rw [ba_extract]; simp
      rw [e1, e2] at hl
      rw [e1, e2, e3, ih _ (by omega), spl_take h1 h2]
      simp
theorem spl_count (c : UInt8) : ∀ (k : Nat) (l : List UInt8), countB ⟨l.toArray⟩ ⟨#[c]⟩ = k → (spl c l).length = k + 1 := by
  intro k
  induction k with
  | zero =>
    intro l hl
    rcases indexB_cases ⟨l.toArray⟩ ⟨#[c]⟩ with h | ⟨i, h, _⟩
    · rw [idx_one] at h
      have hn : c ∉ l := by
        intro hc
        obtain ⟨j, hj, e⟩ := List.getElem_of_mem hc
        exact indexByte_none h j (by rw [List.getElem?_eq_getElem hj, e])
      rw [spl_none hn]; rfl
    · rw [countB_hit _ _ i (show 1 ≤ (⟨#[c]⟩ : ByteArray).size from Nat.le_refl 1) h] at hl; omega
  | succ k ih =>
    intro l hl
    rcases indexB_cases ⟨l.toArray⟩ ⟨#[c]⟩ with h | ⟨i, h, _⟩
    · rw [countB_miss _ _ h] at hl; omega
    · rw [countB_hit _ _ i (show 1 ≤ (⟨#[c]⟩ : ByteArray).size from Nat.le_refl 1) h] at hl
      rw [idx_one] at h
      obtain ⟨h1, h2⟩ := indexByte_some h
      have e1 : (⟨#[c]⟩ : ByteArray).size = 1 := rfl
      have e2 : (⟨l.toArray⟩ : ByteArray).extract (i + 1) (⟨l.toArray⟩ : ByteArray).size = ⟨(l.drop (i + 1)).toArray⟩ := by rw [ba_size, ba_extract, List.take_length]
      rw [e1, e2] at hl
      rw [spl_take h1 h2, List.length_cons, ih _ (by omega)]
theorem cut_one (l : List UInt8) (c : UInt8) : Lib.cut l [c] = (if c ∈ l then ((spl c l).headD [], l.drop (((spl c l).headD []).length + 1), true) else (l, [], false)) := by
  unfold Lib.cut
  rw [index_one]
  by_cases hc : c ∈ l
  · rw [if_pos hc]
    have hge := indexByte_ge l c
    have hne : indexByte l c ≠ -1 := by
      intro h
      obtain ⟨j, hj, e⟩ := List.getElem_of_mem hc
      exact indexByte_none h j (by rw [List.getElem?_eq_getElem hj, e])
    obtain ⟨i, hi⟩ : ∃ i : Nat, indexByte l c = i := ⟨(indexByte l c).toNat, by omega⟩
    rw [hi, if_pos (by omega), Int.toNat_natCast]
    obtain ⟨h1, h2⟩ := indexByte_some hi
    rw [spl_take h1 h2]
    have := (List.getElem?_eq_some_iff.1 h1).1
    simp [List.length_take, Nat.min_eq_left (Nat.le_of_lt this)]
  · rw [if_neg hc, if_neg]
    intro h
    obtain ⟨i, hi⟩ : ∃ i : Nat, indexByte l c = i := ⟨(indexByte l c).toNat, by omega⟩
    exact hc (List.mem_of_getElem? (indexByte_some hi).1)
theorem spl_head_none {c : UInt8} {l : List UInt8} (h : c ∉ l) : (spl c l).headD [] = l := by rw [spl_none h]; rfl
theorem cut_fst (l : List UInt8) (c : UInt8) : (Lib.cut l [c]).1 = (spl c l).headD [] := by
  rw [cut_one]
  split
  · rfl
  · rename_i h; exact (spl_head_none h).symm
end Go.Vc
