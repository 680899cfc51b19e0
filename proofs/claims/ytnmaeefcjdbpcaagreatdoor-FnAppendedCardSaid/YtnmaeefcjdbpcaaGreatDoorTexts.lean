import Derived.Test.YtnmaeefcjdbpcaaGreatDoorEnc
import Derived.Lib.ItoaLen
import Derived.Lib.ItoaMem
import Derived.Lib.ParseIntB
import Derived.Lib.Split
import Derived.Lib.CountLaws
import Derived.Lib.IndexBytes
import Derived.Lib.CutLaws
import Derived.Lib.Join
import Derived.Test.YtnmaeefcjdbpcaaGreatDoorEvM
import Derived.Test.YtnmaeefcjdbpcaaGreatDoorNum
import Derived.Test.YtnmaeefcjdbpcaaGreatDoorLay
import Derived.Sort.Grow
import Derived.Test.YtnmaeefcjdbpcaaGreatDoorVcTop
/-
  Decimals and the parts of a text, plain.
-/
set_option linter.unusedVariables false
set_option linter.unusedSimpArgs false
set_option linter.unnecessarySimpa false
namespace Go.Vc
open Go.Lib
/- texts as values -/
abbrev eS (bs : List UInt8) : AV := .val (.string ⟨bs.toArray⟩)
abbrev eSs (xs : List (List UInt8)) : AV := .arr ⟨1, false⟩ (xs.map eS)
theorem ba_append (a b : List UInt8) : (⟨a.toArray⟩ : ByteArray) ++ ⟨b.toArray⟩ = ⟨(a ++ b).toArray⟩ := by
  apply ByteArray.ext
  rw [ByteArray.data_append]
  simp
theorem ba_size (a : List UInt8) : (⟨a.toArray⟩ : ByteArray).size = a.length := by
  show a.toArray.size = _
  simp
theorem ba_data (a : List UInt8) : (⟨a.toArray⟩ : ByteArray).data.toList = a := rfl
theorem ba_list (a : List UInt8) : (⟨a.toArray⟩ : ByteArray).toList = a := by
  rw [ByteArray.toList_eq]
theorem ba_extract (a : List UInt8) (i j : Nat) : (⟨a.toArray⟩ : ByteArray).extract i j = ⟨((a.take j).drop i).toArray⟩ := by
  apply ByteArray.ext
  rw [ByteArray.data_extract]
  simp
  exact List.drop_take.symm
theorem ba_inj {a b : List UInt8} (h : (⟨a.toArray⟩ : ByteArray) = ⟨b.toArray⟩) : a = b := by
  have := congrArg (fun x : ByteArray => x.data.toList) h
  simpa using this
/- digits -/
theorem dig_all (u : Nat) : ∀ c ∈ decDigits u, 48 ≤ c.toNat ∧ c.toNat ≤ 57 := by
  induction u using Nat.strongRecOn with
  | _ u ih =>
    have one : ∀ k, k < 10 → 48 ≤ (UInt8.ofNat (48 + k)).toNat ∧ (UInt8.ofNat (48 + k)).toNat ≤ 57 := by
      intro k hk
      rw [UInt8.toNat_ofNat_of_lt' (by show 48 + k < 256; omega)]; omega
    by_cases h : u < 10
    · rw [decDigits, dif_pos h]
      intro c hc
      rw [List.mem_singleton] at hc; subst hc
      exact one u h
    · rw [decDigits, dif_neg h]
      intro c hc
      rcases List.mem_append.1 hc with hc | hc
      · exact ih (u / 10) (by omega) c hc
      · rw [List.mem_singleton] at hc; subst hc
        exact one (u % 10) (by omega)
def dval (acc : Nat) (l : List UInt8) : Nat := l.foldl (fun a c => a * 10 + (c.toNat - 48)) acc
theorem dval_nil (acc : Nat) : dval acc [] = acc := rfl
theorem dval_cons (acc : Nat) (c : UInt8) (r : List UInt8) : dval acc (c :: r) = dval (acc * 10 + (c.toNat - 48)) r := by simp only [dval, List.foldl_cons]
theorem dval_app (acc : Nat) (a b : List UInt8) : dval acc (a ++ b) = dval (dval acc a) b := List.foldl_append
theorem dval_ge : ∀ (l : List UInt8) (acc : Nat), acc ≤ dval acc l
  | [], acc => Nat.le_refl _
  | c :: r, acc => by
    rw [dval_cons]
    have := dval_ge r (acc * 10 + (c.toNat - 48))
    omega
theorem dval_lt : ∀ (l : List UInt8) (acc : Nat), (∀ c ∈ l, 48 ≤ c.toNat ∧ c.toNat ≤ 57) → dval acc l + 1 ≤ (acc + 1) * 10 ^ l.length
  | [], acc, _ => by simp [dval_nil]
  | c :: r, acc, h => by
    rw [dval_cons, List.length_cons, Nat.pow_succ]
    have h1 := h c (List.mem_cons_self ..)
    refine Nat.le_trans (dval_lt r _ fun x hx => h x (List.mem_cons_of_mem _ hx)) ?_
    rw [Nat.mul_comm (10 ^ r.length) 10, ← Nat.mul_assoc]
    exact Nat.mul_le_mul_right _ (by omega)
theorem dval_dec (u : Nat) : ∀ acc, dval acc (decDigits u) = acc * 10 ^ nDigits u + u := by
  induction u using Nat.strongRecOn with
  | _ u ih =>
    intro acc
    have one : ∀ k, k < 10 → (UInt8.ofNat (48 + k)).toNat - 48 = k := by
      intro k hk
      rw [UInt8.toNat_ofNat_of_lt' (by show 48 + k < 256; omega)]; omega
    by_cases h : u < 10
    · rw [decDigits, dif_pos h, nDigits_small h, dval_cons, dval_nil, one u h]
    · rw [decDigits, dif_neg h, nDigits_big h, dval_app, ih (u / 10) (by omega), dval_cons, dval_nil, one (u % 10) (by omega), Nat.pow_succ, Nat.add_mul, Nat.mul_assoc]
      omega
theorem dval_dec0 (u : Nat) : dval 0 (decDigits u) = u := by rw [dval_dec]; simp
theorem dec_inj {u v : Nat} (h : decDigits u = decDigits v) : u = v := by
  rw [← dval_dec0 u, h, dval_dec0]
theorem dec_ne (u : Nat) : decDigits u ≠ [] := by
  intro h
  have := decDigits_length u
  rw [h] at this
  have := nDigits_pos u
  simp at *; omega
theorem itoa_nat (u : Nat) : itoa (u : Int) = decDigits u := by unfold itoa; rw [if_neg (by omega)]; simp
theorem itoa_of_nonneg {n : Int} (h : 0 ≤ n) : itoa n = decDigits n.toNat := by unfold itoa; rw [if_neg (by omega)]
theorem parseM_ok (M : Nat) (hM : M ≤ 18446744073709551615) : ∀ (l : List UInt8) (acc : Nat), (∀ c ∈ l, 48 ≤ c.toNat ∧ c.toNat ≤ 57) → dval acc l ≤ M → parseUintM M acc l = .ok (dval acc l)
  | [], acc, _, _ => rfl
  | c :: r, acc, hd, hv => by
    have h1 := hd c (List.mem_cons_self ..)
    rw [dval_cons] at hv ⊢
    have h2 := dval_ge r (acc * 10 + (c.toNat - 48))
    rw [parseUintM, if_pos h1, if_neg (by omega), if_neg (by omega)]
    exact parseM_ok M hM r _ (fun x hx => hd x (List.mem_cons_of_mem _ hx)) hv
theorem parseB_dec (u : Nat) (h : u ≤ 18446744073709551615) : parseUintB 64 (decDigits u) = .ok u := by
  rw [parseUintB, if_neg (dec_ne u), parseM_ok _ (by decide) _ _ (dig_all u) (by rw [dval_dec0]; exact h), dval_dec0]
theorem parse_itoa {v : Int} (h : I64 v) : parseIntB 64 (itoa v) = .ok v := by
  obtain ⟨h0, h1⟩ := h
  have e63 : (2 : Nat) ^ (64 - 1) = 9223372036854775808 := by decide
  by_cases hn : v < 0
  · rw [itoa, if_pos hn]
    simp only [parseIntB]
    rw [if_pos (.inr rfl), parseB_dec _ (by omega)]
    simp only [e63]
    rw [if_neg (by rintro ⟨q, _⟩; exact q rfl), if_neg (by rintro ⟨_, q⟩; omega), if_pos (show (45 : UInt8).toNat = 45 from rfl)]
    congr 1; omega
  · rw [itoa, if_neg hn]
    have hd := dig_all v.toNat
    have hp := parseB_dec v.toNat (by omega)
    cases hl : decDigits v.toNat with
    | nil => exact absurd hl (dec_ne _)
    | cons c r =>
      rw [hl] at hd hp
      have hc := hd c (List.mem_cons_self ..)
      have n1 : ¬ c.toNat = 45 := by omega
      simp only [parseIntB, e63]
      rw [if_neg (by omega), hp]
      simp only []
      rw [if_neg (by omega), if_neg (by omega), if_neg n1]
      congr 1; omega
theorem parse_bound {l : List UInt8} {v : Int} (h : parseIntB 64 l = .ok v) : I64 v := by
  have e63 : (2 : Nat) ^ (64 - 1) = 9223372036854775808 := by decide
  unfold parseIntB at h
  cases l with
  | nil => cases h
  | cons c r =>
    simp only [e63] at h
    split at h
    · cases h
    · cases h
    · split at h
      · cases h
      · split at h
        · cases h
        · rename_i n1 n2
          injection h with h
          subst h
          unfold I64
          split <;> rename_i hc
          · have : ¬ 9223372036854775808 < _ := fun q => n2 ⟨hc, q⟩
            omega
          · have : ¬ 9223372036854775808 ≤ _ := fun q => n1 ⟨hc, q⟩
            omega
theorem itoa_inj {m n : Int} (hm : I64 m) (hn : I64 n) (h : itoa m = itoa n) : m = n := by
  have h1 := parse_itoa hm
  rw [h, parse_itoa hn] at h1
  injection h1 with h1; exact h1.symm
/-- what impl.number tells -/
def numI (s : List UInt8) : Int × Bool := match parseIntB 64 s with
  | .ok v => (v, decide (itoa v = s))
  | .range => (intSat 64 s, false)
  | _ => (0, false)
theorem numI_itoa {v : Int} (h : I64 v) : numI (itoa v) = (v, true) := by rw [numI, parse_itoa h]; simp
theorem numI_true {s : List UInt8} (h : (numI s).2 = true) : I64 (numI s).1 ∧ s = itoa (numI s).1 := by
  unfold numI at *
  split at h
  · rename_i v hv
    exact ⟨parse_bound hv, (of_decide_eq_true h).symm⟩
  · cases h
  · cases h
/-- what spec.l01Value tells -/
def valD (s : List UInt8) : Int × Bool :=
  if s.length < 1 ∨ 13 < s.length then (0, false) else
    if (s.all fun c => decide (48 ≤ c.toNat) && decide (c.toNat ≤ 57)) = true then ((dval 0 s : Nat), decide (decDigits (dval 0 s) = s)) else (0, false)
theorem valD_dec {u : Nat} (h : nDigits u ≤ 13) : valD (decDigits u) = ((u : Int), true) := by
  have h1 := nDigits_pos u
  rw [valD, if_neg (by rw [decDigits_length]; omega), if_pos, dval_dec0]
  · simp
  · rw [List.all_eq_true]
    intro c hc
    have := dig_all u c hc
    simp; omega
theorem valD_true {s : List UInt8} (h : (valD s).2 = true) : 0 ≤ (valD s).1 ∧ s = itoa (valD s).1 := by
  unfold valD at *
  split at h
  · cases h
  · split at h
    · rename_i h1 h2
      rw [if_neg h1, if_pos h2]
      exact ⟨Int.natCast_nonneg _, by rw [itoa_nat]; exact (of_decide_eq_true h).symm⟩
    · cases h
/- the parts of a text between a byte -/
def spl (c : UInt8) : List UInt8 → List (List UInt8)
  | [] => [[]]
  | b :: l => if b = c then [] :: spl c l else match spl c l with
    | h :: t => (b :: h) :: t
    | [] => [[b]]
theorem spl_ne (c : UInt8) : ∀ l, spl c l ≠ []
  | [] => by simp [spl]
  | b :: l => by
    rw [spl]
    split
    · simp
    · split <;> simp
theorem spl_none {c : UInt8} : ∀ {l : List UInt8}, c ∉ l → spl c l = [l]
  | [], _ => rfl
  | b :: l, h => by
    rw [spl, if_neg (fun e => h (by rw [e]; exact List.mem_cons_self ..)), spl_none (fun q => h (List.mem_cons_of_mem _ q))]
theorem spl_app {c : UInt8} : ∀ {a : List UInt8} (r : List UInt8), c ∉ a → spl c (a ++ c :: r) = a :: spl c r
  | [], r, _ => by rw [List.nil_append, spl, if_pos rfl]
  | b :: l, r, h => by
    rw [List.cons_append, spl, if_neg (fun e => h (by rw [e]; exact List.mem_cons_self ..)), spl_app r (fun q => h (List.mem_cons_of_mem _ q))]
theorem spl_take {c : UInt8} {l : List UInt8} {i : Nat} (hi : l[i]? = some c) (hno : ∀ k, k < i → l[k]? ≠ some c) : spl c l = l.take i :: spl c (l.drop (i + 1)) := by
  obtain ⟨hlt, he⟩ := List.getElem?_eq_some_iff.1 hi
  have e : l = l.take i ++ c :: l.drop (i + 1) := by
    rw [← he, ← List.drop_eq_getElem_cons hlt, List.take_append_drop]
  have hn : c ∉ l.take i := by
    intro hc
    obtain ⟨k, hk, hkc⟩ := List.getElem_of_mem hc
    have hk2 : k < i := by simp at hk; omega
    refine hno k hk2 ?_
    rw [List.getElem_take] at hkc
    rw [List.getElem?_eq_getElem (by omega), hkc]
  conv => lhs; rw [e]
  exact spl_app _ hn
theorem idx_one (l : List UInt8) (c : UInt8) : indexB ⟨l.toArray⟩ ⟨#[c]⟩ = indexByte l c := index_one l c
theorem splitB_spl (c : UInt8) : ∀ (k : Nat) (l : List UInt8), countB ⟨l.toArray⟩ ⟨#[c]⟩ = k → splitB ⟨#[c]⟩ 0 k ⟨l.toArray⟩ = (spl c l).map fun a => ⟨a.toArray⟩ := by
  intro k
  induction k with
  | zero =>
    intro l hl
    rcases indexB_cases ⟨l.toArray⟩ ⟨#[c]⟩ with h | ⟨i, h, _⟩
    · rw [splitB_miss _ _ _ _ h]
      rw [idx_one] at h
      have hn : c ∉ l := by
        intro hc
        obtain ⟨j, hj, e⟩ := List.getElem_of_mem hc
        exact indexByte_none h j (by rw [List.getElem?_eq_getElem hj, e])
      rw [spl_none hn]; rfl
    · rw [countB_hit _ _ i (show 1 ≤ (⟨#[c]⟩ : ByteArray).size from Nat.le_refl 1) h] at hl; omega
  | succ k ih =>
    intro l hl
    rcases indexB_cases ⟨l.toArray⟩ ⟨#[c]⟩ with h | ⟨i, h, _⟩
    · rw [countB_miss _ _ h] at hl; omega
    · rw [countB_hit _ _ i (show 1 ≤ (⟨#[c]⟩ : ByteArray).size from Nat.le_refl 1) h] at hl
      rw [splitB_hit _ _ _ _ _ h]
      rw [idx_one] at h
      obtain ⟨h1, h2⟩ := indexByte_some h
      have e1 : (⟨#[c]⟩ : ByteArray).size = 1 := rfl
      have e2 : (⟨l.toArray⟩ : ByteArray).extract (i + 1) (⟨l.toArray⟩ : ByteArray).size = ⟨(l.drop (i + 1)).toArray⟩ := by rw [ba_size, ba_extract, List.take_length]
      have e3 : (⟨l.toArray⟩ : ByteArray).extract 0 (i + 0) = ⟨(l.take i).toArray⟩ := by rw [ba_extract]; simp
      rw [e1, e2] at hl
      rw [e1, e2, e3, ih _ (by omega), spl_take h1 h2]
      simp
theorem spl_count (c : UInt8) : ∀ (k : Nat) (l : List UInt8), countB ⟨l.toArray⟩ ⟨#[c]⟩ = k → (spl c l).length = k + 1 := by
  intro k
  induction k with
  | zero =>
    intro l hl
    rcases indexB_cases ⟨l.toArray⟩ ⟨#[c]⟩ with h | ⟨i, h, _⟩
    · rw [idx_one] at h
      have hn : c ∉ l := by
        intro hc
        obtain ⟨j, hj, e⟩ := List.getElem_of_mem hc
        exact indexByte_none h j (by rw [List.getElem?_eq_getElem hj, e])
      rw [spl_none hn]; rfl
    · rw [countB_hit _ _ i (show 1 ≤ (⟨#[c]⟩ : ByteArray).size from Nat.le_refl 1) h] at hl; omega
  | succ k ih =>
    intro l hl
    rcases indexB_cases ⟨l.toArray⟩ ⟨#[c]⟩ with h | ⟨i, h, _⟩
    · rw [countB_miss _ _ h] at hl; omega
    · rw [countB_hit _ _ i (show 1 ≤ (⟨#[c]⟩ : ByteArray).size from Nat.le_refl 1) h] at hl
      rw [idx_one] at h
      obtain ⟨h1, h2⟩ := indexByte_some h
      have e1 : (⟨#[c]⟩ : ByteArray).size = 1 := rfl
      have e2 : (⟨l.toArray⟩ : ByteArray).extract (i + 1) (⟨l.toArray⟩ : ByteArray).size = ⟨(l.drop (i + 1)).toArray⟩ := by rw [ba_size, ba_extract, List.take_length]
      rw [e1, e2] at hl
      rw [spl_take h1 h2, List.length_cons, ih _ (by omega)]
theorem cut_one (l : List UInt8) (c : UInt8) : Lib.cut l [c] = (if c ∈ l then ((spl c l).headD [], l.drop (((spl c l).headD []).length + 1), true) else (l, [], false)) := by
  unfold Lib.cut
  rw [index_one]
  by_cases hc : c ∈ l
  · rw [if_pos hc]
    have hge := indexByte_ge l c
    have hne : indexByte l c ≠ -1 := by
      intro h
      obtain ⟨j, hj, e⟩ := List.getElem_of_mem hc
      exact indexByte_none h j (by rw [List.getElem?_eq_getElem hj, e])
    obtain ⟨i, hi⟩ : ∃ i : Nat, indexByte l c = i := ⟨(indexByte l c).toNat, by omega⟩
    rw [hi, if_pos (by omega), Int.toNat_natCast]
    obtain ⟨h1, h2⟩ := indexByte_some hi
    rw [spl_take h1 h2]
    have := (List.getElem?_eq_some_iff.1 h1).1
    simp [List.length_take, Nat.min_eq_left (Nat.le_of_lt this)]
  · rw [if_neg hc, if_neg]
    intro h
    obtain ⟨i, hi⟩ : ∃ i : Nat, indexByte l c = i := ⟨(indexByte l c).toNat, by omega⟩
    exact hc (List.mem_of_getElem? (indexByte_some hi).1)
theorem spl_head_none {c : UInt8} {l : List UInt8} (h : c ∉ l) : (spl c l).headD [] = l := by rw [spl_none h]; rfl
theorem cut_fst (l : List UInt8) (c : UInt8) : (Lib.cut l [c]).1 = (spl c l).headD [] := by
  rw [cut_one]
  split
  · rfl
  · rename_i h; exact (spl_head_none h).symm
end Go.Vc
/-
  Journals, plain: what the two ways of reading make of a text.
-/
set_option linter.unusedVariables false
set_option linter.unusedSimpArgs false
set_option linter.unnecessarySimpa false
namespace Go.Vc
open Go.Lib
def isJ (e : EvM) : Bool := isEvent e 20 10
theorem isJ_in {e : EvM} (h : isJ e = true) : (0 ≤ e.kind ∧ e.kind ≤ 4) ∧ (0 ≤ e.tag ∧ e.tag ≤ 19) ∧ (0 ≤ e.who ∧ e.who ≤ 9) ∧ (-1 ≤ e.person ∧ e.person ≤ 9) := by
  simp only [isJ, isEvent, isIn, Bool.and_eq_true, decide_eq_true_eq] at h
  obtain ⟨⟨⟨h1, h2⟩, h3⟩, h4⟩ := h
  split at h4
  · simp at h4; omega
  · simp at h4; omega
def jHead (k : Nat) (e : EvM) : List UInt8 := itoa k ++ 44 :: (itoa e.kind ++ 44 :: (itoa e.tag ++ 44 :: (itoa e.person ++ 44 :: itoa e.who)))
def chainOf (c : Int) (h : List UInt8) : Int := h.foldl (fun c b => (31 * c + b.toNat).tmod 9973) c
def jBody (c : Int) (k : Nat) (e : EvM) : List UInt8 := jHead k e ++ 32 :: itoa (chainOf c (jHead k e))
def jLine (c : Int) (k : Nat) (e : EvM) : List UInt8 := jBody c k e ++ [10]
def jT : Int → Nat → List EvM → List UInt8
  | _, _, [] => []
  | c, k, e :: r => jLine c k e ++ jT (chainOf c (jHead k e)) (k + 1) r
def jC : Int → Nat → List EvM → Int
  | c, _, [] => c
  | c, k, e :: r => jC (chainOf c (jHead k e)) (k + 1) r
theorem jC_snoc : ∀ (es : List EvM) (c : Int) (k : Nat) (e : EvM), jC c k (es ++ [e]) = chainOf (jC c k es) (jHead (k + es.length) e)
  | [], c, k, e => rfl
  | x :: r, c, k, e => by
    rw [List.cons_append, jC, jC_snoc r, jC, List.length_cons, show k + 1 + r.length = k + (r.length + 1) by omega]
theorem jT_snoc : ∀ (es : List EvM) (c : Int) (k : Nat) (e : EvM), jT c k (es ++ [e]) = jT c k es ++ jLine (jC c k es) (k + es.length) e
  | [], c, k, e => by simp [jT, jC]
  | x :: r, c, k, e => by
    rw [List.cons_append, jT, jT_snoc r, jT, jC, List.length_cons, show k + 1 + r.length = k + (r.length + 1) by omega, List.append_assoc]
theorem itoa_no {c : UInt8} (hc : ¬ (48 ≤ c.toNat ∧ c.toNat ≤ 57)) (h45 : c ≠ 45) (v : Int) : c ∉ itoa v := by
  unfold itoa
  split
  · intro h
    rcases List.mem_cons.1 h with h | h
    · exact h45 h
    · exact hc (dig_all _ c h)
  · intro h; exact hc (dig_all _ c h)
theorem no32 (v : Int) : (32 : UInt8) ∉ itoa v := itoa_no (by decide) (by decide) v
theorem no10 (v : Int) : (10 : UInt8) ∉ itoa v := itoa_no (by decide) (by decide) v
theorem no44 (v : Int) : (44 : UInt8) ∉ itoa v := itoa_no (by decide) (by decide) v
theorem jHead_no (k : Nat) (e : EvM) : (32 : UInt8) ∉ jHead k e ∧ (10 : UInt8) ∉ jHead k e := by
  constructor
  · simp only [jHead, List.mem_append, List.mem_cons, no32, false_or, or_false]; decide
  · simp only [jHead, List.mem_append, List.mem_cons, no10, false_or, or_false]; decide
theorem spl_jHead (k : Nat) (e : EvM) : spl 44 (jHead k e) = [itoa k, itoa e.kind, itoa e.tag, itoa e.person, itoa e.who] := by
  unfold jHead
  rw [spl_app _ (no44 _), spl_app _ (no44 _), spl_app _ (no44 _), spl_app _ (no44 _), spl_none (no44 _)]
theorem jBody_no (c : Int) (k : Nat) (e : EvM) : (10 : UInt8) ∉ jBody c k e := by
  simp only [jBody, List.mem_append, List.mem_cons, no10, (jHead_no k e).2, false_or, or_false]; decide
def lineOf (r : List UInt8) : List UInt8 := (spl 10 r).headD []
def headOf (l : List UInt8) : List UInt8 := (spl 32 l).headD []
theorem line_pre {r : List UInt8} (h : (10 : UInt8) ∈ r) : ∃ q, r = lineOf r ++ 10 :: q ∧ spl 10 r = lineOf r :: spl 10 q := by
  have hne : indexByte r 10 ≠ -1 := by
    intro h0
    obtain ⟨j, hj, e⟩ := List.getElem_of_mem h
    exact indexByte_none h0 j (by rw [List.getElem?_eq_getElem hj, e])
  have hge := indexByte_ge r 10
  obtain ⟨i, hi⟩ : ∃ i : Nat, indexByte r 10 = i := ⟨(indexByte r 10).toNat, by omega⟩
  obtain ⟨h1, h2⟩ := indexByte_some hi
  obtain ⟨hlt, he⟩ := List.getElem?_eq_some_iff.1 h1
  have hs := spl_take h1 h2
  have hl : lineOf r = r.take i := by rw [lineOf, hs]; rfl
  refine ⟨r.drop (i + 1), ?_, by rw [hl]; exact hs⟩
  rw [hl]
  conv => rhs; rw [← he]
  rw [← List.drop_eq_getElem_cons hlt, List.take_append_drop]
theorem read_pre {c : Int} {k : Nat} {e : EvM} {r : List UInt8} (h : jLine c k e <+: r) : (10 : UInt8) ∈ r ∧ lineOf r = jBody c k e ∧ headOf (lineOf r) = jHead k e := by
  obtain ⟨q, rfl⟩ := h
  have hs : lineOf (jLine c k e ++ q) = jBody c k e := by
    rw [lineOf, jLine, List.append_assoc, List.singleton_append, spl_app q (jBody_no c k e)]; rfl
  refine ⟨by simp [jLine], hs, ?_⟩
  rw [hs, headOf, jBody, spl_app _ (jHead_no k e).1]; rfl
/- impl's reading -/
def partN (c : UInt8) (s : List UInt8) : List Int × Bool := if ((spl c s).all fun w => (numI w).2) = true then ((spl c s).map fun w => (numI w).1, true) else ([], false)
def ev4 (n : List Int) : EvM := ⟨n.getD 1 0, n.getD 2 0, n.getD 3 0, n.getD 4 0⟩
def nextE (r : List UInt8) (k : Nat) (c : Int) : Option EvM :=
  if (10 : UInt8) ∈ r ∧ (partN 44 (headOf (lineOf r))).2 = true ∧ (partN 44 (headOf (lineOf r))).1.length = 5 then
    if isJ (ev4 (partN 44 (headOf (lineOf r))).1) = true ∧ jLine c k (ev4 (partN 44 (headOf (lineOf r))).1) = lineOf r ++ [10] then some (ev4 (partN 44 (headOf (lineOf r))).1) else none
  else none
theorem i64_of {n : Int} (h : -1000000 ≤ n ∧ n ≤ 1000000) : I64 n := by unfold I64; omega
theorem partN_jHead {k : Nat} {e : EvM} (hk : k ≤ 1000000) (h : isJ e = true) : partN 44 (jHead k e) = ([(k : Int), e.kind, e.tag, e.person, e.who], true) := by
  obtain ⟨h1, h2, h3, h4⟩ := isJ_in h
  rw [partN, spl_jHead, if_pos]
  · simp [numI_itoa (i64_of (n := (k : Int)) (by omega)), numI_itoa (i64_of (n := e.kind) (by omega)), numI_itoa (i64_of (n := e.tag) (by omega)), numI_itoa (i64_of (n := e.person) (by omega)), numI_itoa (i64_of (n := e.who) (by omega))]
  · simp [numI_itoa (i64_of (n := (k : Int)) (by omega)), numI_itoa (i64_of (n := e.kind) (by omega)), numI_itoa (i64_of (n := e.tag) (by omega)), numI_itoa (i64_of (n := e.person) (by omega)), numI_itoa (i64_of (n := e.who) (by omega))]
theorem nextE_iff {r : List UInt8} {k : Nat} {c : Int} {e : EvM} (hk : k ≤ 1000000) : nextE r k c = some e ↔ isJ e = true ∧ jLine c k e <+: r := by
  constructor
  · intro h
    unfold nextE at h
    split at h
    · rename_i h1
      split at h
      · rename_i h2
        injection h with h
        rw [h] at h2
        refine ⟨h2.1, ?_⟩
        obtain ⟨q, hq, _⟩ := line_pre h1.1
        rw [h2.2]
        exact ⟨q, by rw [List.append_assoc, List.singleton_append]; exact hq.symm⟩
      · cases h
    · cases h
  · rintro ⟨h1, h2⟩
    obtain ⟨g1, g2, g3⟩ := read_pre h2
    unfold nextE
    rw [g3, partN_jHead hk h1]
    have e1 : ev4 [(k : Int), e.kind, e.tag, e.person, e.who] = e := rfl
    rw [if_pos ⟨g1, rfl, rfl⟩, e1, if_pos ⟨h1, by rw [g2, jLine]⟩]
/- spec's reading -/
def valP (i : Nat) (w : List UInt8) : Int × Bool := if i = 3 ∧ w = [45, 49] then (-1, true) else valD w
def lineE (line : List UInt8) : EvM × Bool :=
  if (spl 44 (headOf line)).length = 5 ∧ (valP 1 ((spl 44 (headOf line)).getD 1 [])).2 = true ∧ (valP 2 ((spl 44 (headOf line)).getD 2 [])).2 = true ∧ (valP 3 ((spl 44 (headOf line)).getD 3 [])).2 = true ∧ (valP 4 ((spl 44 (headOf line)).getD 4 [])).2 = true then
    (⟨(valP 1 ((spl 44 (headOf line)).getD 1 [])).1, (valP 2 ((spl 44 (headOf line)).getD 2 [])).1, (valP 3 ((spl 44 (headOf line)).getD 3 [])).1, (valP 4 ((spl 44 (headOf line)).getD 4 [])).1⟩,
      isJ ⟨(valP 1 ((spl 44 (headOf line)).getD 1 [])).1, (valP 2 ((spl 44 (headOf line)).getD 2 [])).1, (valP 3 ((spl 44 (headOf line)).getD 3 [])).1, (valP 4 ((spl 44 (headOf line)).getD 4 [])).1⟩)
  else (⟨0, 0, 0, 0⟩, false)
theorem nd_small {n : Nat} (h : n < 100) : nDigits n ≤ 13 := by
  by_cases h1 : n < 10
  · rw [nDigits_small h1]; omega
  · rw [nDigits_big h1, nDigits_small (by omega)]; omega
theorem valP_itoa {i : Nat} {v : Int} (h : 0 ≤ v ∧ v < 100) : valP i (itoa v) = (v, true) := by
  have e : itoa v = decDigits v.toNat := itoa_of_nonneg h.1
  have hne : ¬ (i = 3 ∧ itoa v = [45, 49]) := by
    rintro ⟨_, h2⟩
    rw [e] at h2
    have := dig_all v.toNat 45 (by rw [h2]; simp)
    revert this; decide
  rw [valP, if_neg hne, e, valD_dec (nd_small (by omega))]
  congr 1; omega
theorem valP_neg : valP 3 (itoa (-1)) = (-1, true) := by
  have : itoa (-1) = [45, 49] := by
    rw [itoa, if_pos (by decide), show (-1 : Int).natAbs = 1 from rfl, decDigits, dif_pos (by decide)]; rfl
  rw [valP, if_pos ⟨rfl, this⟩]
theorem lineE_pre {c : Int} {k : Nat} {e : EvM} {r : List UInt8} (h1 : isJ e = true) (h : jLine c k e <+: r) : lineE (lineOf r) = (e, true) := by
  obtain ⟨_, _, g3⟩ := read_pre h
  obtain ⟨i1, i2, i3, i4⟩ := isJ_in h1
  have p1 : valP 1 (itoa e.kind) = (e.kind, true) := valP_itoa (by omega)
  have p2 : valP 2 (itoa e.tag) = (e.tag, true) := valP_itoa (by omega)
  have p4 : valP 4 (itoa e.who) = (e.who, true) := valP_itoa (by omega)
  have p3 : valP 3 (itoa e.person) = (e.person, true) := by
    by_cases hp : e.person = -1
    · rw [hp]; exact valP_neg
    · exact valP_itoa (by omega)
  unfold lineE
  rw [g3, spl_jHead]
  simp only [List.getD_cons_succ, List.getD_cons_zero, p1, p2, p3, p4, List.length_cons, List.length_nil]
  simp
  exact h1
theorem lineE_isJ {l : List UInt8} (h : (lineE l).2 = true) : isJ (lineE l).1 = true := by
  unfold lineE at *
  split at h
  · rename_i h1; rw [if_pos h1]; exact h
  · cases h
/-- What spec does at a line is what impl does. -/
theorem lineE_next {r : List UInt8} {k : Nat} {c : Int} (hk : k ≤ 1000000) : nextE r k c = (if (lineE (lineOf r)).2 = true ∧ jLine c k (lineE (lineOf r)).1 <+: r then some (lineE (lineOf r)).1 else none) := by
  split
  · rename_i h
    exact (nextE_iff hk).2 ⟨lineE_isJ h.1, h.2⟩
  · rename_i h
    cases hn : nextE r k c with
    | none => rfl
    | some e =>
      obtain ⟨h1, h2⟩ := (nextE_iff hk).1 hn
      exact absurd (by rw [lineE_pre h1 h2]; exact ⟨rfl, h2⟩) h
theorem next_none {r : List UInt8} (k : Nat) (c : Int) (h : (10 : UInt8) ∉ r) : nextE r k c = none := by
  rw [nextE, if_neg (fun q => h q.1)]
/- the whole reading -/
def recJ : Nat → List EvM → List UInt8 → Int → List EvM × List UInt8 × Int
  | 0, es, r, c => (es, r, c)
  | f + 1, es, r, c => match nextE r es.length c with
    | none => (es, r, c)
    | some e => recJ f (es ++ [e]) (r.drop (jLine c es.length e).length) (chainOf c (jHead es.length e))
def readJ (t : List UInt8) : List EvM × List UInt8 × Int := recJ 60 [] t 1
structure JInv (t : List UInt8) (es : List EvM) (r : List UInt8) (c : Int) : Prop where
  txt : t = jT 1 0 es ++ r
  ch : c = jC 1 0 es
  ok : ∀ e ∈ es, isJ e = true
theorem JInv.start (t : List UInt8) : JInv t [] t 1 := ⟨rfl, rfl, fun _ h => by cases h⟩
theorem JInv.step {t : List UInt8} {es : List EvM} {r : List UInt8} {c : Int} {e : EvM} (h : JInv t es r c) (hl : es.length ≤ 1000000) (hn : nextE r es.length c = some e) :
    JInv t (es ++ [e]) (r.drop (jLine c es.length e).length) (chainOf c (jHead es.length e)) := by
  obtain ⟨h1, q, rfl⟩ := (nextE_iff hl).1 hn
  refine ⟨?_, ?_, ?_⟩
  · rw [jT_snoc, Nat.zero_add, ← h.ch, List.drop_left, List.append_assoc]; exact h.txt
  · rw [jC_snoc, Nat.zero_add, ← h.ch]
  · intro x hx
    rcases List.mem_append.1 hx with hx | hx
    · exact h.ok x hx
    · rw [List.mem_singleton] at hx; rw [hx]; exact h1
theorem recJ_inv {t : List UInt8} : ∀ (f : Nat) (es : List EvM) (r : List UInt8) (c : Int), es.length + f ≤ 60 → JInv t es r c → JInv t (recJ f es r c).1 (recJ f es r c).2.1 (recJ f es r c).2.2 ∧ (recJ f es r c).1.length ≤ 60
  | 0, es, r, c, hl, h => ⟨h, by simpa [recJ] using hl⟩
  | f + 1, es, r, c, hl, h => by
    rw [recJ]
    cases hn : nextE r es.length c with
    | none => exact ⟨h, by show es.length ≤ 60; omega⟩
    | some e => exact recJ_inv f _ _ _ (by simp; omega) (h.step (by omega) hn)
theorem readJ_inv (t : List UInt8) : JInv t (readJ t).1 (readJ t).2.1 (readJ t).2.2 ∧ (readJ t).1.length ≤ 60 := recJ_inv 60 [] t 1 (by simp) (JInv.start t)
/- sizes -/
theorem itoa_len {v : Int} (h : I64 v) : (itoa v).length ≤ 21 := itoa_length_le v h.1 h.2
theorem chain_in : ∀ (h : List UInt8) (c : Int), 0 ≤ c ∧ c ≤ 9972 → 0 ≤ chainOf c h ∧ chainOf c h ≤ 9972
  | [], c, hc => hc
  | b :: r, c, hc => by
    have e : chainOf c (b :: r) = chainOf ((31 * c + (b.toNat : Int)).tmod 9973) r := rfl
    rw [e]
    refine chain_in r _ ?_
    have h0 : 0 ≤ 31 * c + (b.toNat : Int) := by omega
    have := Int.tmod_nonneg 9973 h0
    have := Int.tmod_lt_of_pos (31 * c + (b.toNat : Int)) (b := 9973) (by omega)
    omega
theorem jC_in : ∀ (es : List EvM) (c : Int) (k : Nat), 0 ≤ c ∧ c ≤ 9972 → 0 ≤ jC c k es ∧ jC c k es ≤ 9972
  | [], c, k, h => h
  | e :: r, c, k, h => jC_in r _ _ (chain_in _ c h)
def Ev64 (e : EvM) : Prop := I64 e.kind ∧ I64 e.tag ∧ I64 e.person ∧ I64 e.who
theorem isJ_64 {e : EvM} (h : isJ e = true) : Ev64 e := by
  obtain ⟨h1, h2, h3, h4⟩ := isJ_in h
  exact ⟨i64_of (by omega), i64_of (by omega), i64_of (by omega), i64_of (by omega)⟩
theorem jHead_len {k : Nat} {e : EvM} (hk : k ≤ 1000000) (h : Ev64 e) : (jHead k e).length ≤ 109 := by
  obtain ⟨h1, h2, h3, h4⟩ := h
  have := itoa_len (i64_of (n := (k : Int)) (by omega))
  have := itoa_len h1
  have := itoa_len h2
  have := itoa_len h3
  have := itoa_len h4
  simp [jHead]; omega
theorem jLine_len {c : Int} {k : Nat} {e : EvM} (hc : 0 ≤ c ∧ c ≤ 9972) (hk : k ≤ 1000000) (h : Ev64 e) : (jLine c k e).length ≤ 132 := by
  have h1 := jHead_len hk h
  have h2 := chain_in (jHead k e) c hc
  have h3 := itoa_len (i64_of (n := chainOf c (jHead k e)) (by omega))
  simp [jLine, jBody]; omega
theorem jT_len : ∀ (es : List EvM) (c : Int) (k : Nat), 0 ≤ c ∧ c ≤ 9972 → k + es.length ≤ 1000000 → (∀ e ∈ es, Ev64 e) → (jT c k es).length ≤ 132 * es.length
  | [], c, k, _, _, _ => by simp [jT]
  | e :: r, c, k, hc, hk, h => by
    have h1 := jLine_len (k := k) hc (by simp at hk; omega) (h e (List.mem_cons_self ..))
    have h2 := jT_len r (chainOf c (jHead k e)) (k + 1) (chain_in _ c hc) (by simp at hk; omega) fun x hx => h x (List.mem_cons_of_mem _ hx)
    simp only [jT, List.length_append, List.length_cons]; omega
/-- the lines of a text that begins with a journal -/
theorem spl_jT : ∀ (es : List EvM) (c : Int) (k : Nat) (r : List UInt8), ∃ ls : List (List UInt8), ls.length = es.length ∧ spl 10 (jT c k es ++ r) = ls ++ spl 10 r
  | [], c, k, r => ⟨[], rfl, rfl⟩
  | e :: es, c, k, r => by
    obtain ⟨ls, h1, h2⟩ := spl_jT es (chainOf c (jHead k e)) (k + 1) r
    refine ⟨jBody c k e :: ls, by simp [h1], ?_⟩
    rw [jT, jLine, List.append_assoc, List.append_assoc, List.singleton_append, spl_app _ (jBody_no c k e), h2]; rfl
theorem spl_len_no {c : UInt8} {l : List UInt8} (h : c ∉ l) : (spl c l).length = 1 := by rw [spl_none h]; rfl
theorem spl_len_yes {l : List UInt8} (h : (10 : UInt8) ∈ l) : 2 ≤ (spl 10 l).length := by
  obtain ⟨q, _, h2⟩ := line_pre h
  rw [h2]
  have := List.length_pos_iff.2 (spl_ne 10 q)
  simp; omega
theorem headD_get {l : List UInt8} : (spl 10 l)[0]? = some (lineOf l) := by
  have := spl_ne 10 l
  rw [lineOf]
  cases h : spl 10 l with
  | nil => exact absurd h this
  | cons a r => rfl
end Go.Vc
/-
  The library's functions on texts, as contracts of the layer Vc.
-/
set_option linter.unusedVariables false
set_option linter.unusedSimpArgs false
set_option linter.unnecessarySimpa false
namespace Go.Vc
open Go.Proofs Go.RowKit
set_option maxRecDepth 100000
theorem ByteArray.ext_list {s : ByteArray} : s = ⟨s.data.toList.toArray⟩ := by cases s; rfl
theorem Grown.of_below {w w' : World} (h : Below w.heap.size w w') : Grown w w' := by
  obtain ⟨h1, h2, h3, h4, h5⟩ := h
  exact ⟨h4, h5, ⟨h1, h2, h3⟩⟩
theorem Grown.of_grow (w : World) (k : Nat) (os : Array Obj) : Grown w (Sort.grow (w.drewN k) os) :=
  ⟨by simp [Sort.grow], fun b hb => Sort.heap_grow_old _ _ (by simpa using hb), ⟨rfl, rfl, rfl⟩⟩
/-- A contract on values that lie in no memory. -/
theorem Fn.plain {P : Program} {f : FuncId} (us : List Value) {r : AV} (hE : Enters P f)
    (hc : ∀ (w : World) (S : Nat → Prop), Kon w S → Calls P f us.toArray w fun e w' => ∃ v fs, e = .returned v ∧ Grown w w' ∧ Own w' (fun _ => False) r v fs ∧ fs.Nodup ∧ ∀ b, b ∈ fs → w.heap.size ≤ b) :
    Fn P f (us.map .val) true (· = r) := by
  refine ⟨hE, fun w S vs _ hk hsz hr => ?_⟩
  have e : vs = us.toArray := by
    rw [List.length_map] at hsz
    apply Array.ext
    · simpa using hsz
    · intro i h1 h2
      have h3 : i < (us.map AV.val).length := by simpa using h2
      have := hr i h3
      rw [List.getElem_map] at this
      generalize hu : vs.toList.getD i Go.undef = u at this
      cases this
      have h4 : i < us.length := by simpa using h2
      have h5 : vs.toList.getD i Go.undef = vs[i] := by simp [List.getD_eq_getElem?_getD, h1]
      rw [← h5, hu]; simp
  subst e
  refine (hc w S hk).mono ?_
  rintro e w' ⟨v, fs, rfl, hg, ho, hn, hb⟩
  exact ⟨r, v, rfl, rfl, hg, by simp only [FnRes, if_true]; exact ⟨fs, ho, hn, hb⟩⟩
theorem Fn.plainE {P : Program} {f : FuncId} (us : List Value) {post : AV → Prop} (hE : Enters P f)
    (hc : ∀ (w : World) (S : Nat → Prop), Kon w S → Calls P f us.toArray w fun e w' => ∃ r v fs, post r ∧ e = .returned v ∧ Grown w w' ∧ Own w' (fun _ => False) r v fs ∧ fs.Nodup ∧ ∀ b, b ∈ fs → w.heap.size ≤ b) :
    Fn P f (us.map .val) true post := by
  refine ⟨hE, fun w S vs _ hk hsz hr => ?_⟩
  have e : vs = us.toArray := by
    rw [List.length_map] at hsz
    apply Array.ext
    · simpa using hsz
    · intro i h1 h2
      have h3 : i < (us.map AV.val).length := by simpa using h2
      have := hr i h3
      rw [List.getElem_map] at this
      generalize hu : vs.toList.getD i Go.undef = u at this
      cases this
      have h4 : i < us.length := by simpa using h2
      have h5 : vs.toList.getD i Go.undef = vs[i] := by simp [List.getD_eq_getElem?_getD, h1]
      rw [← h5, hu]; simp
  subst e
  refine (hc w S hk).mono ?_
  rintro e w' ⟨r, v, fs, hp, rfl, hg, ho, hn, hb⟩
  exact ⟨r, v, rfl, hp, hg, by simp only [FnRes, if_true]; exact ⟨fs, ho, hn, hb⟩⟩
theorem ownVal {w : World} {v : Value} (h : v.oneCell' = true) : Own w (fun _ => False) (.val v) v [] := .rd _ _ (.val _ h)
theorem cell_of {w : World} {g : Nat} {v : Value} {e : TypeId} {fr : Nat × Nat} (h : w.heap[g]? = some (.cells #[v] e fr)) : w.cell? ⟨g, 0, none⟩ = some v := by
  simp [World.cell?, h]
theorem ownTup {w : World} (xs : List AV) (vs : List Value) (hl : vs.length = xs.length) (h : ∀ i (h : i < xs.length), Own w (fun _ => False) xs[i] (vs.getD i Go.undef) []) : Own w (fun _ => False) (.tup xs) (.tuple vs.toArray) [] := by
  have e : ([] : List Nat) = (List.replicate xs.length ([] : List Nat)).flatten := (List.flatten_eq_nil_iff.2 fun l hl => (List.mem_replicate.1 hl).2).symm
  rw [e]
  refine .tup xs _ _ (by simpa using hl) (by simp) fun i hi => ?_
  have e3 : (List.replicate xs.length ([] : List Nat)).getD i [] = [] := by simp [List.getD_eq_getElem?_getD, hi]
  rw [e3]
  exact h i hi
/- strconv.FormatInt -/
theorem kon_tab {w : World} {S : Nat → Prop} (h : Kon w S) : Lib.TabIs Tryz.prog w "internal/strconv.uint64pow10" .u64 Lib.pow10Tab := by
  obtain ⟨_, cs, e, fr, h1, h2⟩ := h 1 kTab (by simp [kons])
  unfold Lib.TabIs World.var?
  have hg : Tryz.prog.globalNamed "internal/strconv.uint64pow10" = some 1 := by kernel_rfl
  rw [hg, Option.bind_some, h1, show cs = _ from h2]
  simp [Lib.pow10Tab, Function.comp_def]
theorem c_FormatInt {n : Int} (h : I64 n) : Fn Tryz.prog 96 [eI n, eI 10] true (· = eS (Lib.itoa n)) := by
  refine Fn.plain [.int .i64 n, .int .i64 10] ⟨Tryz.f96, _, Tryz.func96, by decide, rfl⟩ fun w S hk => ?_
  refine (Any.strconv_FormatInt_10 Tryz.layFormat n h.1 h.2 w (kon_tab hk)).mono ?_
  rintro e w' ⟨rfl, k, os, rfl⟩
  exact ⟨_, [], rfl, Grown.of_grow _ _ _, ownVal rfl, List.nodup_nil, fun b hb => by cases hb⟩
/- strconv.ParseInt -/
theorem Grown.of_bytes (w : World) (e : TypeId) (s : ByteArray) : Grown w (Lib.bytesWorld w e s) := Grown.of_below (Lib.bytesWorld_below w e s)
theorem kon_err {w : World} {S : Nat → Prop} (h : Kon w S) (g : Nat) (hg : (g, kIfc) ∈ kons) : ∃ t p, w.cell? ⟨g, 0, none⟩ = some (.iface t p) := by
  obtain ⟨_, cs, e, fr, h1, t, p, rfl⟩ := h g kIfc hg
  exact ⟨t, p, cell_of h1⟩
def intEnd (s : List UInt8) : Int := match Lib.parseIntB 64 s with
  | .ok v => v
  | .range => Lib.intSat 64 s
  | _ => 0
def intOk (s : List UInt8) : Bool := match Lib.parseIntB 64 s with
  | .ok _ => true
  | _ => false
theorem c_ParseInt (s : List UInt8) (h : s.length ≤ 1048576) : Fn Tryz.prog 99 [eS s, eI 10, eI 64] true
    (fun x => ∃ e, x = .tup [eI (intEnd s), .val e] ∧ if intOk s = true then e = .nilIface else ∃ t p, e = .iface t p) := by
  refine Fn.plainE [.string ⟨s.toArray⟩, .int .i64 10, .int .i64 64] ⟨Tryz.f99, _, Tryz.func99, by decide, rfl⟩ fun w S hk => ?_
  have hsz : (⟨s.toArray⟩ : ByteArray).size = s.length := ba_size s
  have tw : ∀ (w' : World) (n : Int) (e : Value), e.oneCell' = true → Own w' (fun _ => False) (.tup [eI n, .val e]) (.tuple #[.int .i64 n, e]) [] := fun w' n e he => by
    refine ownTup [eI n, .val e] [.int .i64 n, e] rfl fun i hi => ?_
    have : i = 0 ∨ i = 1 := by simp at hi; omega
    rcases this with rfl | rfl
    · exact ownVal rfl
    · exact ownVal he
  rcases hp : Lib.parseIntB 64 s with v | _ | _
  · refine (Any.strconv_ParseInt_10_at64_ok Tryz.layParse ⟨s.toArray⟩ (by omega) v (by rw [ba_data]; exact hp) w).mono ?_
    rintro e w' ⟨rfl, hw⟩
    refine ⟨.tup [eI v, .val .nilIface], _, [], ⟨.nilIface, by simp only [intEnd, hp], by simp [intOk, hp]⟩, rfl, ?_, tw _ _ _ rfl, List.nodup_nil, fun b hb => by cases hb⟩
    rcases hw with rfl | ⟨t, rfl⟩
    · exact Grown.refl _
    · exact Grown.of_bytes _ _ _
  · obtain ⟨tp, pv, hc⟩ := kon_err hk 2 (by simp [kons])
    refine (Any.strconv_ParseInt_10_at64_syntax Tryz.layParse ⟨s.toArray⟩ (by omega) (by rw [ba_data]; exact hp) _ w hc (.inr ⟨tp, pv, rfl⟩)).mono ?_
    rintro e w' ⟨N, rfl, _, _, hb⟩
    exact ⟨.tup [eI 0, .val _], _, [], ⟨.iface (Tryz.layParse_ren.t 168) (.pointer (some ⟨N, 0, none⟩)), by simp only [intEnd, hp], by simp only [intOk, hp]; exact ⟨_, _, rfl⟩⟩, rfl, Grown.of_below hb, tw _ _ _ rfl, List.nodup_nil, fun b hb => by cases hb⟩
  · obtain ⟨tp, pv, hc⟩ := kon_err hk 3 (by simp [kons])
    refine (Any.strconv_ParseInt_10_at64_range Tryz.layParse ⟨s.toArray⟩ (by omega) (by rw [ba_data]; exact hp) _ w hc (.inr ⟨tp, pv, rfl⟩)).mono ?_
    rintro e w' ⟨N, rfl, _, _, hb⟩
    exact ⟨.tup [eI (Lib.intSat 64 s), .val _], _, [], ⟨.iface (Tryz.layParse_ren.t 168) (.pointer (some ⟨N, 0, none⟩)), by simp only [intEnd, hp], by simp only [intOk, hp]; exact ⟨_, _, rfl⟩⟩, rfl, Grown.of_below hb, tw _ _ _ rfl, List.nodup_nil, fun b hb => by cases hb⟩
theorem kon_max {w : World} {S : Nat → Prop} (h : Kon w S) (g : Nat) (hg : (g, kInt) ∈ kons) : ∃ m, w.cell? ⟨g, 0, none⟩ = some (.int .i64 m) := by
  obtain ⟨_, cs, e, fr, h1, m, rfl⟩ := h g kInt hg
  exact ⟨m, cell_of h1⟩
theorem c_Cut (s : List UInt8) (c : UInt8) (h : s.length ≤ 1048576) : Fn Tryz.prog 73 [eS s, eS [c]] true
    (· = .tup [eS ((spl c s).headD []), eS (Lib.cut s [c]).2.1, eB (decide (c ∈ s))]) := by
  refine Fn.plain [.string ⟨s.toArray⟩, .string ⟨[c].toArray⟩] ⟨Tryz.f73, _, Tryz.func73, by decide, rfl⟩ fun w S hk => ?_
  have hsz : (⟨s.toArray⟩ : ByteArray).size = s.length := ba_size s
  obtain ⟨m, hm⟩ := kon_max hk 0 (by simp [kons])
  refine (Any.strings_Cut Tryz.layCut ⟨s.toArray⟩ ⟨[c].toArray⟩ m w (by omega) hm).mono ?_
  rintro e w' ⟨rfl, n, rfl⟩
  refine ⟨_, [], rfl, ⟨by simp, fun b hb => by simp, ⟨rfl, rfl, rfl⟩⟩, ?_, List.nodup_nil, fun b hb => by cases hb⟩
  have e3 : (Lib.cut s [c]).2.2 = decide (c ∈ s) := by rw [cut_one]; split <;> simp_all
  rw [ba_data, ba_data, cut_fst, e3]
  refine ownTup [_, _, _] [_, _, _] rfl fun i hi => ?_
  have : i = 0 ∨ i = 1 ∨ i = 2 := by simp at hi; omega
  rcases this with rfl | rfl | rfl
  · exact ownVal rfl
  · exact ownVal rfl
  · exact ownVal rfl
theorem hi_split : (Tryz.prog.info? (Tryz.laySplit_ren.t 9)).map (fun i => (i.zero, i.size, i.bytes)) = some (some (.string ByteArray.empty), 1, 16) := by kernel_rfl
theorem spl_length_le (c : UInt8) : ∀ (l : List UInt8), (spl c l).length ≤ l.length + 1
  | [] => by simp [spl]
  | b :: l => by
    have := spl_length_le c l
    rw [spl]
    split
    · simp; omega
    · split
      · rename_i h t he
        rw [he] at this
        simp at this ⊢; omega
      · simp
theorem c_Split (s : List UInt8) (c : UInt8) (h : s.length ≤ 1048576) : Fn Tryz.prog 89 [eS s, eS [c]] true (· = eSs (spl c s)) := by
  refine Fn.plain [.string ⟨s.toArray⟩, .string ⟨[c].toArray⟩] ⟨Tryz.f89, _, Tryz.func89, by decide, rfl⟩ fun w S hk => ?_
  have hsz : (⟨s.toArray⟩ : ByteArray).size = s.length := ba_size s
  obtain ⟨m, hm⟩ := kon_max hk 0 (by simp [kons])
  refine (Any.strings_Split Tryz.laySplit hi_split ⟨s.toArray⟩ ⟨[c].toArray⟩ m w (by omega) hm (by show 1 ≤ 1; omega)).mono ?_
  rintro e w' ⟨rfl, rfl⟩
  have hs := splitB_spl c _ s rfl
  have hl : (spl c s).length = Lib.countB ⟨s.toArray⟩ ⟨[c].toArray⟩ + 1 := spl_count c _ s rfl
  have hle := spl_length_le c s
  refine ⟨_, [w.heap.size], rfl, ⟨by simp, fun b hb => old w _ b hb, ⟨rfl, rfl, rfl⟩⟩, ?_, by simp, fun b hb => by simp at hb; omega⟩
  rw [← hl, show (⟨#[c]⟩ : ByteArray) = ⟨[c].toArray⟩ from rfl] at *
  have e2 : [w.heap.size] = w.heap.size :: (List.replicate ((spl c s).map eS).length ([] : List Nat)).flatten := by
    congr 1
    exact (List.flatten_eq_nil_iff.2 fun l hl => (List.mem_replicate.1 hl).2).symm
  rw [e2, hs]
  have := Own.arr (w := w.alloc (.cells (((spl c s).map fun a => (⟨a.toArray⟩ : ByteArray)).map Value.string).toArray (Tryz.laySplit_ren.t 9))) (S := fun _ => False) ⟨1, false⟩ ((spl c s).map eS) w.heap.size (spl c s).length _ _ (List.replicate ((spl c s).map eS).length []) (new_at w _)
    (by simp) (by simp) (by unfold maxLen; omega) (by intro i hi; simp [fits]) (by simp) fun i hi => ?_
  · simpa using this
  · have e3 : (List.replicate ((spl c s).map eS).length ([] : List Nat)).getD i [] = [] := by rw [List.getD_eq_getElem?_getD, List.getElem?_replicate]; split <;> rfl
    have hi2 : i < (spl c s).length := by simpa using hi
    rw [e3, elemV_cell, Nat.mul_one, List.getElem_map]
    have e4 : ((((spl c s).map fun a => (⟨a.toArray⟩ : ByteArray)).map Value.string).toArray).toList.getD i Go.undef = .string ⟨((spl c s)[i]).toArray⟩ := by
      simp [List.getD_eq_getElem?_getD, hi2]
    rw [e4]
    exact ownVal rfl
/- a row of texts that a callee reads -/
theorem rd_strs {w : World} {S : Nat → Prop} {xs : List (List UInt8)} {v : Value} (h : Rd w S (eSs xs) v) :
    (xs = [] ∧ ∃ a, v = .slice a 0 0) ∨ ∃ b off cap, v = .slice (some ⟨b, off, none⟩) xs.length cap ∧ b < w.heap.size ∧ xs.length ≤ cap ∧ ∀ (j : Nat) x, xs[j]? = some x → w.cell? ⟨b, off + j, none⟩ = some (.string ⟨x.toArray⟩) := by
  unfold eSs at h
  generalize hxs : xs.map eS = ys at h
  have hlen : ys.length = xs.length := by rw [← hxs]; simp
  cases h with
  | nil sh a => exact .inl ⟨List.eq_nil_of_length_eq_zero (by rw [← hlen]; rfl), a, rfl⟩
  | arr sh ys b off cap cs e fr hS hb hcap hl hf hv =>
    refine .inr ⟨b, off, cap, by rw [hlen], (Array.getElem?_eq_some_iff.1 hb).1, by omega, fun j x hj => ?_⟩
    obtain ⟨hj1, hj2⟩ := List.getElem?_eq_some_iff.1 hj
    have hj3 : j < ys.length := by omega
    have h2 := hv j hj3
    have hx : ys[j] = eS x := by simp [← hxs, hj2]
    rw [hx] at h2
    rw [elemV_cell, Nat.mul_one] at h2
    have h4 : cs.toList.getD (off + j) Go.undef = .string ⟨x.toArray⟩ := by
      generalize cs.toList.getD (off + j) Go.undef = u at h2
      cases h2; rfl
    have h5 : off + j < cs.size := by simp only [Nat.mul_one] at hl; omega
    rw [List.getD_eq_getElem?_getD, Array.getElem?_toList, Array.getElem?_eq_getElem h5] at h4
    simp only [World.cell?, hb, Option.isSome_none, Bool.false_eq_true, ↓reduceIte, Array.getElem?_eq_getElem h5]
    exact congrArg some h4
theorem c_Join (xs : List (List UInt8)) (sep : List UInt8) (h1 : xs.length ≤ 1048576) (h2 : (Lib.join xs sep).length ≤ 140737488355328) : Fn Tryz.prog 95 [eSs xs, eS sep] true (· = eS (Lib.join xs sep)) := by
  refine ⟨⟨Tryz.f95, _, Tryz.func95, by decide, rfl⟩, fun w S vs hS hk hsz hr => ?_⟩
  obtain ⟨u, v, rfl⟩ : ∃ u v, vs = #[u, v] := by
    have : vs.size = 2 := hsz
    exact ⟨vs[0], vs[1], by apply Array.ext <;> simp_all; intro i h; have : i = 0 ∨ i = 1 := by omega
                            rcases this with rfl | rfl <;> (intro _; rfl)⟩
  have r0 : Rd w S (eSs xs) u := hr 0 (by simp)
  have r1 : Rd w S (eS sep) v := hr 1 (by simp)
  obtain rfl : v = .string ⟨sep.toArray⟩ := by cases r1; rfl
  have hm : ((xs.map fun a => (⟨a.toArray⟩ : ByteArray)).map (·.data.toList)) = xs := by simp [List.map_map, Function.comp_def]
  rcases rd_strs r0 with ⟨rfl, a, rfl⟩ | ⟨b, off, cap, rfl, hb, hcap, hc⟩
  · refine (Any.strings_Join_none Tryz.layJoin Tryz.extraJoin a 0 ⟨sep.toArray⟩ w).mono ?_
    rintro e w' ⟨rfl, rfl⟩
    exact ⟨_, _, rfl, rfl, Grown.refl _, by simp only [FnRes, if_true]; exact ⟨[], ownVal rfl, List.nodup_nil, fun b hb => by cases hb⟩⟩
  · have := Any.strings_Join Tryz.layJoin Tryz.extraJoin b off cap (xs.map fun a => (⟨a.toArray⟩ : ByteArray)) ⟨sep.toArray⟩ w (fun j x hj => by
      rw [List.getElem?_map] at hj
      obtain ⟨y, hy, rfl⟩ := Option.map_eq_some_iff.1 hj
      exact hc j y hy) hb (by simp; omega) (by simpa using hcap) (by rw [hm, ba_data]; exact h2)
    rw [hm, ba_data, List.length_map] at this
    refine this.mono ?_
    rintro e w' ⟨rfl, hbl⟩
    exact ⟨_, _, rfl, rfl, Grown.of_below hbl, by simp only [FnRes, if_true]; exact ⟨[], ownVal rfl, List.nodup_nil, fun b hb => by cases hb⟩⟩
end Go.Vc
/-
  Contracts: numbers as texts, and back; the parts of a text.
-/
set_option linter.unusedVariables false
set_option linter.unusedSimpArgs false
set_option linter.unnecessarySimpa false
namespace Go.Vc
open Go.Proofs Go.Lib
set_option maxRecDepth 100000
attribute [go_sem] Option.map_none Nat.sub_zero List.take_length List.size_toArray ba_append ba_size ba_list ba_extract ba_data
theorem str_beq (a b : List UInt8) : (a == b) = decide (a = b) := by
  by_cases h : a = b
  · simp [h]
  · simp [h]
attribute [go_sem] str_beq
theorem u8_wrap {x : Int} (h : 0 ≤ x ∧ x < 256) : IntKind.u8.wrap x = x := by
  simp [IntKind.wrap, IntKind.bits, IntKind.signed]
  omega
theorem dec_low {n : Nat} (h : n < 10) : decDigits n = [UInt8.ofNat (48 + n)] := decDigits_one h
theorem dec_high {n : Nat} (h : ¬ n < 10) : decDigits n = decDigits (n / 10) ++ [UInt8.ofNat (48 + n % 10)] := by rw [decDigits, dif_neg h]
theorem dec_length_le {n : Nat} (h : n < 18446744073709551616) : (decDigits n).length ≤ 20 := by
  rw [decDigits_length]; exact nDigits_le20 n h
theorem c_l01Dec : ∀ (n : Nat), n ≤ 1000000000000000000 → Fn Tryz.prog 75 [eI n] true (· = eS (decDigits n)) := by
  intro n
  induction n using Nat.strongRecOn with
  | _ n ih =>
    intro hn
    refine Fn.of_vcN 20 [.tmp 2] Tryz.func75 rfl rfl rfl rfl rfl (of_decide_eq_true rfl) ?_
    simp -dsimp -implicitDefEqProofs only [go_sem, ↓reduceIte, Nat.reduceEqDiff, Nat.reduceLT, Nat.reduceAdd, Nat.reduceMul, Nat.reduceLeDiff, Nat.le_refl, Int.natCast_zero, Int.toNat_natCast, Int.reduceToNat]
    by_cases h : n < 10
    · have hd : decide ((n : Int) < 10) = true := decide_eq_true (by omega)
      have hw : IntKind.u8.wrap (48 + (n : Int)) = 48 + (n : Int) := u8_wrap (by omega)
      have ht : (48 + (n : Int)).toNat = 48 + n := by omega
      rw [dec_low h]
      simp -dsimp -implicitDefEqProofs only [go_sem, ↓reduceIte, Nat.reduceEqDiff, Nat.reduceLT, Nat.reduceAdd, Nat.reduceMul, Nat.reduceLeDiff, Nat.le_refl, Int.natCast_zero, Int.toNat_natCast, Int.reduceToNat, hd, hw, ht]
      repeat' (with_reducible refine And.intro ?_ ?_)
      all_goals first | omega | (refine ⟨?_, ?_⟩ <;> omega) | (exact rfl) | (simp; done) | trace_state
    · have hd : decide ((n : Int) < 10) = false := decide_eq_false (by omega)
      have hq : (n : Int).tdiv 10 = ((n / 10 : Nat) : Int) := by rw [Int.tdiv_eq_ediv_of_nonneg (by omega)]; omega
      have hr : (n : Int).tmod 10 = ((n % 10 : Nat) : Int) := by rw [Int.tmod_eq_emod_of_nonneg (by omega)]; omega
      have hw : IntKind.u8.wrap (48 + ((n % 10 : Nat) : Int)) = 48 + ((n % 10 : Nat) : Int) := u8_wrap (by omega)
      have ht : (48 + ((n % 10 : Nat) : Int)).toNat = 48 + n % 10 := by omega
      have hl := dec_length_le (n := n / 10) (by omega)
      have hc := ih (n / 10) (by omega) (by omega)
      rw [dec_high h]
      simp -dsimp -implicitDefEqProofs only [go_sem, ↓reduceIte, Nat.reduceEqDiff, Nat.reduceLT, Nat.reduceAdd, Nat.reduceMul, Nat.reduceLeDiff, Nat.le_refl, Int.natCast_zero, Int.toNat_natCast, Int.reduceToNat, hd]
      refine Later.draw mixed rfl ?_
      simp -dsimp -implicitDefEqProofs only [go_sem, ↓reduceIte, Nat.reduceEqDiff, Nat.reduceLT, Nat.reduceAdd, Nat.reduceMul, Nat.reduceLeDiff, Nat.le_refl, Int.natCast_zero, Int.toNat_natCast, Int.reduceToNat, hq, hr]
      repeat' (with_reducible refine And.intro ?_ ?_)
      all_goals try (first | omega | (refine ⟨?_, ?_⟩ <;> omega) | (exact rfl) | (simp; done))
      refine sCallX_one hc ?_
      have hz : n % 10 < 10 := Nat.mod_lt _ (by decide)
      generalize n % 10 = z at *
      simp -dsimp -implicitDefEqProofs only [go_sem, ↓reduceIte, Nat.reduceEqDiff, Nat.reduceLT, Nat.reduceAdd, Nat.reduceMul, Nat.reduceLeDiff, Nat.le_refl, Int.natCast_zero, Int.toNat_natCast, Int.reduceToNat, hr, hw, ht]
      repeat' (with_reducible refine And.intro ?_ ?_)
      all_goals first | omega | (refine ⟨?_, ?_⟩ <;> omega) | (exact rfl) | (simp; done) | trace_state
theorem c_l01DecI (n : Int) (h : 0 ≤ n ∧ n ≤ 1000000000000000000) : Fn Tryz.prog 75 [eI n] true (· = eS (itoa n)) := by
  have := c_l01Dec n.toNat (by omega)
  rw [show ((n.toNat : Nat) : Int) = n by omega] at this
  rw [itoa_of_nonneg h.1]; exact this
theorem c_text {n : Int} (h : I64 n) : Fn Tryz.prog 87 [eI n] true (· = eS (itoa n)) := by
  refine Fn.of_vcN 5 [.tmp 2] Tryz.func87 rfl rfl rfl rfl rfl (of_decide_eq_true rfl) ?_
  simp -dsimp -implicitDefEqProofs only [go_sem, ↓reduceIte, Nat.reduceEqDiff, Nat.reduceLT, Nat.reduceAdd, Nat.reduceMul, Nat.reduceLeDiff, Nat.le_refl, Int.natCast_zero, Int.toNat_natCast, Int.reduceToNat]
  refine sCallT_one (c_FormatInt h) ?_
  simp -dsimp -implicitDefEqProofs only [go_sem, ↓reduceIte, Nat.reduceEqDiff, Nat.reduceLT, Nat.reduceAdd, Nat.reduceMul, Nat.reduceLeDiff, Nat.le_refl, Int.natCast_zero, Int.toNat_natCast, Int.reduceToNat]
theorem numI_eq (s : List UInt8) : numI s = (intEnd s, intOk s && decide (itoa (intEnd s) = s)) := by
  unfold numI intEnd intOk
  cases parseIntB 64 s <;> simp
theorem intEnd_64 (s : List UInt8) : I64 (intEnd s) := by
  unfold intEnd
  rcases hp : parseIntB 64 s with v | _ | _
  · exact parse_bound hp
  · unfold I64; simp
  · simp only [intSat]
    split <;> simp [I64]
theorem c_number (s : List UInt8) (h : s.length ≤ 1048576) : Fn Tryz.prog 90 [eS s] true (· = .tup [eI (numI s).1, eB (numI s).2]) := by
  refine Fn.of_vcN 20 [.tmp 2, .tmp 3] Tryz.func90 rfl rfl rfl rfl rfl (of_decide_eq_true rfl) ?_
  simp -dsimp -implicitDefEqProofs only [go_sem, ↓reduceIte, Nat.reduceEqDiff, Nat.reduceLT, Nat.reduceAdd, Nat.reduceMul, Nat.reduceLeDiff, Nat.le_refl, Int.natCast_zero, Int.toNat_natCast, Int.reduceToNat]
  refine sCallT_any (c_ParseInt s h) ?_
  rintro _ ⟨e, rfl, he⟩
  rw [numI_eq]
  have h64 := intEnd_64 s
  have hl := itoa_len h64
  generalize intEnd s = v at *
  rcases ho : intOk s with _ | _
  · rw [ho] at he
    simp only [Bool.false_eq_true, if_false] at he
    obtain ⟨t, p, rfl⟩ := he
    simp -dsimp -implicitDefEqProofs only [go_sem, ↓reduceIte, Nat.reduceEqDiff, Nat.reduceLT, Nat.reduceAdd, Nat.reduceMul, Nat.reduceLeDiff, Nat.le_refl, Int.natCast_zero, Int.toNat_natCast, Int.reduceToNat]
    repeat' (with_reducible refine And.intro ?_ ?_)
    all_goals first | omega | (exact rfl) | (simp; done) | trace_state
  · rw [ho] at he
    simp only [if_true] at he
    subst he
    simp -dsimp -implicitDefEqProofs only [go_sem, ↓reduceIte, Nat.reduceEqDiff, Nat.reduceLT, Nat.reduceAdd, Nat.reduceMul, Nat.reduceLeDiff, Nat.le_refl, Int.natCast_zero, Int.toNat_natCast, Int.reduceToNat]
    repeat' (with_reducible refine And.intro ?_ ?_)
    all_goals try (first | omega | (exact rfl))
    refine sCallT_one (c_text h64) ?_
    simp -dsimp -implicitDefEqProofs only [go_sem, ↓reduceIte, Nat.reduceEqDiff, Nat.reduceLT, Nat.reduceAdd, Nat.reduceMul, Nat.reduceLeDiff, Nat.le_refl, Int.natCast_zero, Int.toNat_natCast, Int.reduceToNat]
    repeat' (with_reducible refine And.intro ?_ ?_)
    all_goals first | omega | (exact rfl) | (simp; done) | trace_state
theorem partN_take (c : UInt8) (s : List UInt8) : partN c s = if ((spl c s).all fun w => (numI w).2) = true then ((spl c s).map fun w => (numI w).1, true) else ([], false) := rfl
theorem spl_part_len (c : UInt8) : ∀ (l : List UInt8), ∀ w ∈ spl c l, w.length ≤ l.length
  | [], w, hw => by simp [spl] at hw; simp [hw]
  | b :: l, w, hw => by
    have ih := spl_part_len c l
    rw [spl] at hw
    split at hw
    · rcases List.mem_cons.1 hw with rfl | hw
      · simp
      · have := ih w hw; simp; omega
    · split at hw
      · rename_i h t he
        rcases List.mem_cons.1 hw with rfl | hw
        · have := ih h (by rw [he]; exact List.mem_cons_self ..); simp; omega
        · have := ih w (by rw [he]; exact List.mem_cons_of_mem _ hw); simp; omega
      · simp at hw; simp [hw]
theorem c_parted (s : List UInt8) (c : UInt8) (h : s.length ≤ 1048575) : Fn Tryz.prog 74 [eS s, eS [c]] true (· = .tup [eIs (partN c s).1, eB (partN c s).2]) := by
  refine Fn.of_vcN 33 [.tmp 4, .tmp 5] Tryz.func74 rfl rfl rfl rfl rfl (of_decide_eq_true rfl) ?_
  have hpl := spl_part_len c s
  have hsl := spl_length_le c s
  simp -dsimp -implicitDefEqProofs only [go_sem, ↓reduceIte, Nat.reduceEqDiff, Nat.reduceLT, Nat.reduceAdd, Nat.reduceMul, Nat.reduceLeDiff, Nat.le_refl, Int.natCast_zero, Int.toNat_natCast, Int.reduceToNat]
  refine sCallT_one (c_Split s c (by omega)) ?_
  rw [partN_take]
  generalize spl c s = ws at *
  simp -dsimp -implicitDefEqProofs only [go_sem, ↓reduceIte, Nat.reduceEqDiff, Nat.reduceLT, Nat.reduceAdd, Nat.reduceMul, Nat.reduceLeDiff, Nat.le_refl, Int.natCast_zero, Int.toNat_natCast, Int.reduceToNat]
  refine Later.up [14, 15] [22, 29, 30] [11] ws.length (fun i => ((ws.take i).all fun w => (numI w).2) = true) (fun i => [(6, .ref 11 0 0 i), (16, eI i)]) (fun i => [(11, .row 0 ⟨1, false⟩ true (((ws.take i).map fun w => (numI w).1).map eI))]) rfl ?_ rfl (fun i hi hI => ?_) (fun hI => ?_)
  · simp -dsimp -implicitDefEqProofs only [go_sem, ↓reduceIte, Nat.reduceEqDiff, Nat.reduceLT, Nat.reduceAdd, Nat.reduceMul, Nat.reduceLeDiff, Nat.le_refl, Int.natCast_zero, Int.toNat_natCast, Int.reduceToNat]
  · have gi := get_some hi
    have hw := hpl ws[i] (List.getElem_mem hi)
    have hall := all_take (fun w => (numI w).2) ws i hi
    have hno := fun h => all_no (p := fun w => (numI w).2) hi h
    have htk : ws.take (i + 1) = ws.take i ++ [ws[i]] := List.take_succ_eq_append_getElem hi
    rw [htk] at hall ⊢
    generalize ws[i] = w at *
    have hcn := c_number w (by omega)
    obtain ⟨q, hq0⟩ : ∃ q, numI w = q := ⟨_, rfl⟩
    rw [hq0] at hcn hno hall
    rcases hq : q.2 with _ | _
    · have hz := hno hq
      simp -dsimp -implicitDefEqProofs only [pick_nil, pick_cons, look_nil, look_cons, dropB_nil, dropB_cons, inD_nil, inD_cons, inE_nil, inE_cons, or_t_l, or_f_l, Nat.reduceBEq, Nat.reduceDiv, Nat.reduceAdd, beq_self_eq_true, Bool.false_eq_true, Bool.or_false, ↓reduceIte, Nat.reduceEqDiff, List.cons_append, List.nil_append]
      simp -dsimp -implicitDefEqProofs only [go_sem, ↓reduceIte, Nat.reduceEqDiff, Nat.reduceLT, Nat.reduceAdd, Nat.reduceMul, Nat.reduceLeDiff, Nat.le_refl, Int.natCast_zero, Int.toNat_natCast, Int.reduceToNat, lt_len hi, gi]
      repeat' (with_reducible refine And.intro ?_ ?_)
      all_goals try (first | omega | (refine ⟨?_, ?_⟩ <;> omega))
      refine sCallT_one hcn ?_
      simp -dsimp -implicitDefEqProofs only [go_sem, ↓reduceIte, Nat.reduceEqDiff, Nat.reduceLT, Nat.reduceAdd, Nat.reduceMul, Nat.reduceLeDiff, Nat.le_refl, Int.natCast_zero, Int.toNat_natCast, Int.reduceToNat, hq]
      rw [if_neg (by rw [hz]; decide)]
      all_goals first | (exact rfl) | (simp; done) | trace_state
    · simp -dsimp -implicitDefEqProofs only [pick_nil, pick_cons, look_nil, look_cons, dropB_nil, dropB_cons, inD_nil, inD_cons, inE_nil, inE_cons, or_t_l, or_f_l, Nat.reduceBEq, Nat.reduceDiv, Nat.reduceAdd, beq_self_eq_true, Bool.false_eq_true, Bool.or_false, ↓reduceIte, Nat.reduceEqDiff, List.cons_append, List.nil_append]
      simp -dsimp -implicitDefEqProofs only [go_sem, ↓reduceIte, Nat.reduceEqDiff, Nat.reduceLT, Nat.reduceAdd, Nat.reduceMul, Nat.reduceLeDiff, Nat.le_refl, Int.natCast_zero, Int.toNat_natCast, Int.reduceToNat, lt_len hi, gi]
      repeat' (with_reducible refine And.intro ?_ ?_)
      all_goals try (first | omega | (refine ⟨?_, ?_⟩ <;> omega))
      refine sCallT_one hcn ?_
      simp -dsimp -implicitDefEqProofs only [go_sem, ↓reduceIte, Nat.reduceEqDiff, Nat.reduceLT, Nat.reduceAdd, Nat.reduceMul, Nat.reduceLeDiff, Nat.le_refl, Int.natCast_zero, Int.toNat_natCast, Int.reduceToNat, hq]
      repeat' (with_reducible refine And.intro ?_ ?_)
      all_goals first | omega | (refine ⟨?_, ?_⟩ <;> omega) | (rw [hall, hI, hq]; rfl) | (simp; done) | (simp; omega) | (simp [hq0, List.map_take]; done) | trace_state
  · rw [List.take_length] at hI
    rw [if_pos hI]
    simp -dsimp -implicitDefEqProofs only [pick_nil, pick_cons, look_nil, look_cons, dropB_nil, dropB_cons, inD_nil, inD_cons, inE_nil, inE_cons, or_t_l, or_f_l, Nat.reduceBEq, Nat.reduceDiv, Nat.reduceAdd, beq_self_eq_true, Bool.false_eq_true, Bool.or_false, ↓reduceIte, Nat.reduceEqDiff, List.cons_append, List.nil_append]
    simp -dsimp -implicitDefEqProofs only [go_sem, ↓reduceIte, Nat.reduceEqDiff, Nat.reduceLT, Nat.reduceAdd, Nat.reduceMul, Nat.reduceLeDiff, Nat.le_refl, Int.natCast_zero, Int.toNat_natCast, Int.reduceToNat, nlt_len, List.take_length]
    repeat' (with_reducible refine And.intro ?_ ?_)
    all_goals first | omega | (exact rfl) | (simp; done) | (rw [List.take_of_length_le (by simp)]; done) | trace_state
end Go.Vc
