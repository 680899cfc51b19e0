/-
  Journals, plain: what the two ways of reading make of a text.
-/
import Derived.Test.YtnmaeefcjdbpcaaDoorDecim
import Derived.Test.YtnmaeefcjdbpcaaDoorEvM
set_option linter.unusedVariables false
set_option linter.unusedSimpArgs false
set_option linter.unnecessarySimpa false
namespace Go.Vc
open Go.Lib
def isJ (e : EvM) : Bool := isEvent e 20 10
theorem isJ_in {e : EvM} (h : isJ e = true) : (0 ≤ e.kind ∧ e.kind ≤ 4) ∧ (0 ≤ e.tag ∧ e.tag ≤ 19) ∧ (0 ≤ e.who ∧ e.who ≤ 9) ∧ (-1 ≤ e.person ∧ e.person ≤ 9) := by
  simp only [isJ, isEvent, isIn, Bool.and_eq_true, decide_eq_true_eq] at h
  obtain ⟨⟨⟨h1, h2⟩, h3⟩, h4⟩ := h
  split at h4
  · simp at h4; omega
  · simp at h4; omega
def jHead (k : Nat) (e : EvM) : List UInt8 := itoa k ++ 44 :: (itoa e.kind ++ 44 :: (itoa e.tag ++ 44 :: (itoa e.person ++ 44 :: itoa e.who)))
def chainOf (c : Int) (h : List UInt8) : Int := h.foldl (fun c b => (31 * c + b.toNat).tmod 9973) c
def jBody (c : Int) (k : Nat) (e : EvM) : List UInt8 := jHead k e ++ 32 :: itoa (chainOf c (jHead k e))
def jLine (c : Int) (k : Nat) (e : EvM) : List UInt8 := jBody c k e ++ [10]
def jT : Int → Nat → List EvM → List UInt8
  | _, _, [] => []
  | c, k, e :: r => jLine c k e ++ jT (chainOf c (jHead k e)) (k + 1) r
def jC : Int → Nat → List EvM → Int
  | c, _, [] => c
  | c, k, e :: r => jC (chainOf c (jHead k e)) (k + 1) r
theorem jC_snoc : ∀ (es : List EvM) (c : Int) (k : Nat) (e : EvM), jC c k (es ++ [e]) = chainOf (jC c k es) (jHead (k + es.length) e)
  | [], c, k, e => rfl
  | x :: r, c, k, e => by
    rw [List.cons_append, jC, jC_snoc r, jC, List.length_cons, show k + 1 + r.length = k + (r.length + 1) by omega]
theorem jT_snoc : ∀ (es : List EvM) (c : Int) (k : Nat) (e : EvM), jT c k (es ++ [e]) = jT c k es ++ jLine (jC c k es) (k + es.length) e
  | [], c, k, e => by simp [jT, jC]
  | x :: r, c, k, e => by
    rw [List.cons_append, jT, jT_snoc r, jT, jC, List.length_cons, show k + 1 + r.length = k + (r.length + 1) by omega, List.append_assoc]
theorem itoa_no {c : UInt8} (hc : ¬ (48 ≤ c.toNat ∧ c.toNat ≤ 57)) (h45 : c ≠ 45) (v : Int) : c ∉ itoa v := by
  unfold itoa
  split
  · intro h
    rcases List.mem_cons.1 h with h | h
    · exact h45 h
    · exact hc (dig_all _ c h)
  · intro h; exact hc (dig_all _ c h)
theorem no32 (v : Int) : (32 : UInt8) ∉ itoa v := itoa_no (by decide) (by decide) v
theorem no10 (v : Int) : (10 : UInt8) ∉ itoa v := itoa_no (by decide) (by decide) v
theorem no44 (v : Int) : (44 : UInt8) ∉ itoa v := itoa_no (by decide) (by decide) v
theorem jHead_no (k : Nat) (e : EvM) : (32 : UInt8) ∉ jHead k e ∧ (10 : UInt8) ∉ jHead k e := by
  constructor
  · simp only [jHead, List.mem_append, List.mem_cons, no32, false_or, or_false]; decide
  · simp only [jHead, List.mem_append, List.mem_cons, no10, false_or, or_false]; decide
theorem spl_jHead (k : Nat) (e : EvM) : spl 44 (jHead k e) = [itoa k, itoa e.kind, itoa e.tag, itoa e.person, itoa e.who] := by
  unfold jHead
  rw [spl_app _ (no44 _), spl_app _ (no44 _), spl_app _ (no44 _), spl_app _ (no44 _), spl_none (no44 _)]
theorem jBody_no (c : Int) (k : Nat) (e : EvM) : (10 : UInt8) ∉ jBody c k e := by
  simp only [jBody, List.mem_append, List.mem_cons, no10, (jHead_no k e).2, false_or, or_false]; decide
def lineOf (r : List UInt8) : List UInt8 := (spl 10 r).headD []
def headOf (l : List UInt8) : List UInt8 := (spl 32 l).headD []
theorem line_pre {r : List UInt8} (h : (10 : UInt8) ∈ r) : ∃ q, r = lineOf r ++ 10 :: q ∧ spl 10 r = lineOf r :: spl 10 q := by
  have hne : indexByte r 10 ≠ -1 := by
    intro h0
    obtain ⟨j, hj, e⟩ := List.getElem_of_mem h
    exact indexByte_none h0 j (by rw [List.getElem?_eq_getElem hj, e])
  have hge := indexByte_ge r 10
  obtain ⟨i, hi⟩ : ∃ i : Nat, indexByte r 10 = i := ⟨(indexByte r 10).toNat, by omega⟩
  obtain ⟨h1, h2⟩ := indexByte_some hi
  obtain ⟨hlt, he⟩ := List.getElem?_eq_some_iff.1 h1
  have hs := spl_take h1 h2
  have hl : lineOf r = r.take i := by rw [lineOf, hs]; rfl
  refine ⟨r.drop (i + 1), ?_, by rw [hl]; exact hs⟩
  rw [hl]
  conv => rhs; rw [← he]
  rw [← List.drop_eq_getElem_cons hlt, List.take_append_drop]
theorem read_pre {c : Int} {k : Nat} {e : EvM} {r : List UInt8} (h : jLine c k e <+: r) : (10 : UInt8) ∈ r ∧ lineOf r = jBody c k e ∧ headOf (lineOf r) = jHead k e := by
  obtain ⟨q, rfl⟩ := h
  have hs : lineOf (jLine c k e ++ q) = jBody c k e := by
    rw [lineOf, jLine, List.append_assoc, List.singleton_append, spl_app q (jBody_no c k e)]; rfl
  refine ⟨by simp [jLine], hs, ?_⟩
  rw [hs, headOf, jBody, spl_app _ (jHead_no k e).1]; rfl
/- impl's reading -/
def partN (c : UInt8) (s : List UInt8) : List Int × Bool := if ((spl c s).all fun w => (numI w).2) = true then ((spl c s).map fun w => (numI w).1, true) else ([], false)
def ev4 (n : List Int) : EvM := ⟨n.getD 1 0, n.getD 2 0, n.getD 3 0, n.getD 4 0⟩
def nextE (r : List UInt8) (k : Nat) (c : Int) : Option EvM :=
  if (10 : UInt8) ∈ r ∧ (partN 44 (headOf (lineOf r))).2 = true ∧ (partN 44 (headOf (lineOf r))).1.length = 5 then
    if isJ (ev4 (partN 44 (headOf (lineOf r))).1) = true ∧ jLine c k (ev4 (partN 44 (headOf (lineOf r))).1) = lineOf r ++ [10] then some (ev4 (partN 44 (headOf (lineOf r))).1) else none
  else none
theorem i64_of {n : Int} (h : -1000000 ≤ n ∧ n ≤ 1000000) : I64 n := by unfold I64; omega
theorem partN_jHead {k : Nat} {e : EvM} (hk : k ≤ 1000000) (h : isJ e = true) : partN 44 (jHead k e) = ([(k : Int), e.kind, e.tag, e.person, e.who], true) := by
  obtain ⟨h1, h2, h3, h4⟩ := isJ_in h
  rw [partN, spl_jHead, if_pos]
  · simp [numI_itoa (i64_of (n := (k : Int)) (by omega)), numI_itoa (i64_of (n := e.kind) (by omega)), numI_itoa (i64_of (n := e.tag) (by omega)), numI_itoa (i64_of (n := e.person) (by omega)), numI_itoa (i64_of (n := e.who) (by omega))]
  · simp [numI_itoa (i64_of (n := (k : Int)) (by omega)), numI_itoa (i64_of (n := e.kind) (by omega)), numI_itoa (i64_of (n := e.tag) (by omega)), numI_itoa (i64_of (n := e.person) (by omega)), numI_itoa (i64_of (n := e.who) (by omega))]
theorem nextE_iff {r : List UInt8} {k : Nat} {c : Int} {e : EvM} (hk : k ≤ 1000000) : nextE r k c = some e ↔ isJ e = true ∧ jLine c k e <+: r := by
  constructor
  · intro h
    unfold nextE at h
    split at h
    · rename_i h1
      split at h
      · rename_i h2
        injection h with h
        rw [h] at h2
        refine ⟨h2.1, ?_⟩
        obtain ⟨q, hq, _⟩ := line_pre h1.1
        rw [h2.2]
        exact ⟨q, by rw [List.append_assoc, List.singleton_append]; exact hq.symm⟩
      · cases h
    · cases h
  · rintro ⟨h1, h2⟩
    obtain ⟨g1, g2, g3⟩ := read_pre h2
    unfold nextE
    rw [g3, partN_jHead hk h1]
    have e1 : ev4 [(k : Int), e.kind, e.tag, e.person, e.who] = e := rfl
    rw [if_pos ⟨g1, rfl, rfl⟩, e1, if_pos ⟨h1, by rw [g2, jLine]⟩]
/- spec's reading -/
def valP (i : Nat) (w : List UInt8) : Int × Bool := if i = 3 ∧ w = [45, 49] then (-1, true) else valD w
def lineE (line : List UInt8) : EvM × Bool :=
  if (spl 44 (headOf line)).length = 5 ∧ (valP 1 ((spl 44 (headOf line)).getD 1 [])).2 = true ∧ (valP 2 ((spl 44 (headOf line)).getD 2 [])).2 = true ∧ (valP 3 ((spl 44 (headOf line)).getD 3 [])).2 = true ∧ (valP 4 ((spl 44 (headOf line)).getD 4 [])).2 = true then
    (⟨(valP 1 ((spl 44 (headOf line)).getD 1 [])).1, (valP 2 ((spl 44 (headOf line)).getD 2 [])).1, (valP 3 ((spl 44 (headOf line)).getD 3 [])).1, (valP 4 ((spl 44 (headOf line)).getD 4 [])).1⟩,
      isJ ⟨(valP 1 ((spl 44 (headOf line)).getD 1 [])).1, (valP 2 ((spl 44 (headOf line)).getD 2 [])).1, (valP 3 ((spl 44 (headOf line)).getD 3 [])).1, (valP 4 ((spl 44 (headOf line)).getD 4 [])).1⟩)
  else (⟨0, 0, 0, 0⟩, false)
theorem nd_small {n : Nat} (h : n < 100) : nDigits n ≤ 13 := by
  by_cases h1 : n < 10
  · rw [nDigits_small h1]; omega
  · rw [nDigits_big h1, nDigits_small (by omega)]; omega
theorem valP_itoa {i : Nat} {v : Int} (h : 0 ≤ v ∧ v < 100) : valP i (itoa v) = (v, true) := by
  have e : itoa v = decDigits v.toNat := itoa_of_nonneg h.1
  have hne : ¬ (i = 3 ∧ itoa v = [45, 49]) := by
    rintro ⟨_, h2⟩
    rw [e] at h2
    have := dig_all v.toNat 45 (by rw [h2]; simp)
    revert this; decide
  rw [valP, if_neg hne, e, valD_dec (nd_small (by omega))]
  congr 1; omega
theorem valP_neg : valP 3 (itoa (-1)) = (-1, true) := by
  have : itoa (-1) = [45, 49] := by
    rw [itoa, if_pos (by decide), show (-1 : Int).natAbs = 1 from rfl, decDigits, dif_pos (by decide)]; rfl
  rw [valP, if_pos ⟨rfl, this⟩]
theorem lineE_pre {c : Int} {k : Nat} {e : EvM} {r : List UInt8} (h1 : isJ e = true) (h : jLine c k e <+: r) : lineE (lineOf r) = (e, true) := by
  obtain ⟨_, _, g3⟩ := read_pre h
  obtain ⟨i1, i2, i3, i4⟩ := isJ_in h1
  have p1 : valP 1 (itoa e.kind) = (e.kind, true) := valP_itoa (by omega)
  have p2 : valP 2 (itoa e.tag) = (e.tag, true) := valP_itoa (by omega)
  have p4 : valP 4 (itoa e.who) = (e.who, true) := valP_itoa (by omega)
  have p3 : valP 3 (itoa e.person) = (e.person, true) := by
    by_cases hp : e.person = -1
    · rw [hp]; exact valP_neg
    · exact valP_itoa (by omega)
  unfold lineE
  rw [g3, spl_jHead]
  simp only [List.getD_cons_succ, List.getD_cons_zero, p1, p2, p3, p4, List.length_cons, List.length_nil]
  simp
  exact h1
theorem lineE_isJ {l : List UInt8} (h : (lineE l).2 = true) : isJ (lineE l).1 = true := by
  unfold lineE at *
  split at h
  · rename_i h1; rw [if_pos h1]; exact h
  · cases h
/-- What spec does at a line is what impl does. -/
theorem lineE_next {r : List UInt8} {k : Nat} {c : Int} (hk : k ≤ 1000000) : nextE r k c = (if (lineE (lineOf r)).2 = true ∧ jLine c k (lineE (lineOf r)).1 <+: r then some (lineE (lineOf r)).1 else none) := by
  split
  · rename_i h
    exact (nextE_iff hk).2 ⟨lineE_isJ h.1, h.2⟩
  · rename_i h
    cases hn : nextE r k c with
    | none => rfl
    | some e =>
      obtain ⟨h1, h2⟩ := (nextE_iff hk).1 hn
      exact absurd (by rw [lineE_pre h1 h2]; exact ⟨rfl, h2⟩) h
theorem next_none {r : List UInt8} (k : Nat) (c : Int) (h : (10 : UInt8) ∉ r) : nextE r k c = none := by
  rw [nextE, if_neg (fun q => h q.1)]
/- the whole reading -/
def recJ : Nat → List EvM → List UInt8 → Int → List EvM × List UInt8 × Int
  | 0, es, r, c => (es, r, c)
  | f + 1, es, r, c => match nextE r es.length c with
    | none => (es, r, c)
    | some e => recJ f (es ++ [e]) (r.drop (jLine c es.length e).length) (chainOf c (jHead es.length e))
def readJ (t : List UInt8) : List EvM × List UInt8 × Int := recJ 60 [] t 1
structure JInv (t : List UInt8) (es : List EvM) (r : List UInt8) (c : Int) : Prop where
  txt : t = jT 1 0 es ++ r
  ch : c = jC 1 0 es
  ok : ∀ e ∈ es, isJ e = true
theorem JInv.start (t : List UInt8) : JInv t [] t 1 := ⟨rfl, rfl, fun _ h => by cases h⟩
theorem JInv.step {t : List UInt8} {es : List EvM} {r : List UInt8} {c : Int} {e : EvM} (h : JInv t es r c) (hl : es.length ≤ 1000000) (hn : nextE r es.length c = some e) :
    JInv t (es ++ [e]) (r.drop (jLine c es.length e).length) (chainOf c (jHead es.length e)) := by
  obtain ⟨h1, q, rfl⟩ := (nextE_iff hl).1 hn
  refine ⟨?_, ?_, ?_⟩
  · rw [jT_snoc, Nat.zero_add, ← h.ch, List.drop_left, List.append_assoc]; exact h.txt
  · rw [jC_snoc, Nat.zero_add, ← h.ch]
  · intro x hx
    rcases List.mem_append.1 hx with hx | hx
    · exact h.ok x hx
    · rw [List.mem_singleton] at hx; rw [hx]; exact h1
theorem recJ_inv {t : List UInt8} : ∀ (f : Nat) (es : List EvM) (r : List UInt8) (c : Int), es.length + f ≤ 60 → JInv t es r c → JInv t (recJ f es r c).1 (recJ f es r c).2.1 (recJ f es r c).2.2 ∧ (recJ f es r c).1.length ≤ 60
  | 0, es, r, c, hl, h => ⟨h, by simpa [recJ] using hl⟩
  | f + 1, es, r, c, hl, h => by
    rw [recJ]
    cases hn : nextE r es.length c with
    | none => exact ⟨h, by show es.length ≤ 60; omega⟩
    | some e => exact recJ_inv f _ _ _ (by simp; omega) (h.step (by omega) hn)
theorem readJ_inv (t : List UInt8) : JInv t (readJ t).1 (readJ t).2.1 (readJ t).2.2 ∧ (readJ t).1.length ≤ 60 := recJ_inv 60 [] t 1 (by simp) (JInv.start t)
/- sizes -/
theorem itoa_len {v : Int} (h : I64 v) : (itoa v).length ≤ 21 := itoa_length_le v h.1 h.2
theorem chain_in : ∀ (h : List UInt8) (c : Int), 0 ≤ c ∧ c ≤ 9972 → 0 ≤ chainOf c h ∧ chainOf c h ≤ 9972
  | [], c, hc => hc
  | b :: r, c, hc => by
    have e : chainOf c (b :: r) = chainOf ((31 * c + (b.toNat : Int)).tmod 9973) r := rfl
    rw [e]
    refine chain_in r _ ?_
    have h0 : 0 ≤ 31 * c + (b.toNat : Int) := by omega
    have := Int.tmod_nonneg 9973 h0
    have := Int.tmod_lt_of_pos (31 * c + (b.toNat : Int)) (b := 9973) (by omega)
    omega
theorem jC_in : ∀ (es : List EvM) (c : Int) (k : Nat), 0 ≤ c ∧ c ≤ 9972 → 0 ≤ jC c k es ∧ jC c k es ≤ 9972
  | [], c, k, h => h
  | e :: r, c, k, h => jC_in r _ _ (chain_in _ c h)
def Ev64 (e : EvM) : Prop := I64 e.kind ∧ I64 e.tag ∧ I64 e.person ∧ I64 e.who
theorem isJ_64 {e : EvM} (h : isJ e = true) : Ev64 e := by
  obtain ⟨h1, h2, h3, h4⟩ := isJ_in h
  exact ⟨i64_of (by omega), i64_of (by omega), i64_of (by omega), i64_of (by omega)⟩
theorem jHead_len {k : Nat} {e : EvM} (hk : k ≤ 1000000) (h : Ev64 e) : (jHead k e).length ≤ 109 := by
  obtain ⟨h1, h2, h3, h4⟩ := h
  have := itoa_len (i64_of (n := (k : Int)) (by omega))
  have := itoa_len h1
  have := itoa_len h2
  have := itoa_len h3
  have := itoa_len h4
  simp [jHead]; omega
theorem jLine_len {c : Int} {k : Nat} {e : EvM} (hc : 0 ≤ c ∧ c ≤ 9972) (hk : k ≤ 1000000) (h : Ev64 e) : (jLine c k e).length ≤ 132 := by
  have h1 := jHead_len hk h
  have h2 := chain_in (jHead k e) c hc
  have h3 := itoa_len (i64_of (n := chainOf c (jHead k e)) (by omega))
  simp [jLine, jBody]; omega
theorem jT_len : ∀ (es : List EvM) (c : Int) (k : Nat), 0 ≤ c ∧ c ≤ 9972 → k + es.length ≤ 1000000 → (∀ e ∈ es, Ev64 e) → (jT c k es).length ≤ 132 * es.length
  | [], c, k, _, _, _ => by simp [jT]
  | e :: r, c, k, hc, hk, h => by
    have h1 := jLine_len (k := k) hc (by simp at hk; omega) (h e (List.mem_cons_self ..))
    have h2 := jT_len r (chainOf c (jHead k e)) (k + 1) (chain_in _ c hc) (by simp at hk; omega) fun x hx => h x (List.mem_cons_of_mem _ hx)
    simp only [jT, List.length_append, List.length_cons]; omega
/-- the lines of a text that begins with a journal -/
theorem spl_jT : ∀ (es : List EvM) (c : Int) (k : Nat) (r : List UInt8), ∃ ls : List (List UInt8), ls.length = es.length ∧ spl 10 (jT c k es ++ r) = ls ++ spl 10 r
  | [], c, k, r => ⟨[], rfl, rfl⟩
  | e :: es, c, k, r => by
    obtain ⟨ls, h1, h2⟩ := spl_jT es (chainOf c (jHead k e)) (k + 1) r
    refine ⟨jBody c k e :: ls, by simp [h1], ?_⟩
    rw [jT, jLine, List.append_assoc, List.append_assoc, List.singleton_append, spl_app _ (jBody_no c k e), h2]; rfl
theorem spl_len_no {c : UInt8} {l : List UInt8} (h : c ∉ l) : (spl c l).length = 1 := by rw [spl_none h]; rfl
theorem spl_len_yes {l : List UInt8} (h : (10 : UInt8) ∈ l) : 2 ≤ (spl 10 l).length := by
  obtain ⟨q, _, h2⟩ := line_pre h
  rw [h2]
  have := List.length_pos_iff.2 (spl_ne 10 q)
  simp; omega
theorem headD_get {l : List UInt8} : (spl 10 l)[0]? = some (lineOf l) := by
  have := spl_ne 10 l
  rw [lineOf]
  cases h : spl 10 l with
  | nil => exact absurd h this
  | cons a r => rfl
end Go.Vc
