/-
  How plain data are written as abstract values; small facts on lists.
-/
import Derived.Test.YtlelhmbhhnokoaaDoorVcAuto
set_option linter.unusedVariables false
set_option linter.unusedSimpArgs false
set_option linter.unnecessarySimpa false
namespace Go.Vc
abbrev eI (n : Int) : AV := .val (.int .i64 n)
abbrev eB (b : Bool) : AV := .val (.bool b)
abbrev eIs (xs : List Int) : AV := .arr ⟨1, false⟩ (xs.map eI)
theorem all_take {α : Type} (p : α → Bool) (xs : List α) (i : Nat) (h : i < xs.length) : (xs.take (i + 1)).all p = ((xs.take i).all p && p xs[i]) := by
  rw [List.take_succ_eq_append_getElem h, List.all_append]; simp
theorem all_no {α : Type} {p : α → Bool} {xs : List α} {i : Nat} (h : i < xs.length) (hp : p xs[i] = false) : xs.all p = false := by
  rw [List.all_eq_false]; exact ⟨xs[i], List.getElem_mem h, by simp [hp]⟩
/-- a row of which the first i cells are filled -/
def fill {α β : Type} (f : α → β) (z : β) (xs : List α) (i : Nat) : List β := (xs.take i).map f ++ List.replicate (xs.length - i) z
theorem fill_zero {α β : Type} (f : α → β) (z : β) (xs : List α) : fill f z xs 0 = List.replicate xs.length z := by simp [fill]
theorem fill_all {α β : Type} (f : α → β) (z : β) (xs : List α) : fill f z xs xs.length = xs.map f := by simp [fill]
theorem fill_len {α β : Type} (f : α → β) (z : β) (xs : List α) (i : Nat) (h : i ≤ xs.length) : (fill f z xs i).length = xs.length := by simp [fill]; omega
theorem fill_get {α β : Type} (f : α → β) (z : β) (xs : List α) (i : Nat) (h : i < xs.length) : (fill f z xs i)[i]? = some z := by
  have hl : ((xs.take i).map f).length = i := by simp; omega
  rw [fill, List.getElem?_append_right (by omega), hl, Nat.sub_self, List.getElem?_replicate, if_pos (by omega)]
theorem fill_set {α β : Type} (f : α → β) (z : β) (xs : List α) (i : Nat) (h : i < xs.length) : (fill f z xs i).set i (f xs[i]) = fill f z xs (i + 1) := by
  have hl : ((xs.take i).map f).length = i := by simp; omega
  rw [fill, fill, List.take_succ_eq_append_getElem h, List.map_append, List.set_append_right _ _ (by omega), hl, Nat.sub_self, show xs.length - i = (xs.length - (i + 1)) + 1 by omega, List.replicate_succ]
  simp
theorem take_map_len {α β : Type} (f : α → β) (xs : List α) : (xs.map f).take xs.length = xs.map f := by rw [← List.map_take, List.take_length]
attribute [go_sem] take_map_len
theorem lt_len {i n : Nat} (h : i < n) : decide ((i : Int) < (n : Int)) = true := decide_eq_true (by omega)
theorem nlt_len (n : Nat) : decide ((n : Int) < (n : Int)) = false := decide_eq_false (by omega)
theorem get_some {α : Type} {xs : List α} {i : Nat} (h : i < xs.length) : xs[i]? = some xs[i] := List.getElem?_eq_getElem h
/-- a row of which the first i cells hold f 0, f 1, .. -/
def mk1 {β : Type} (f : Nat → β) (zs : List β) (i : Nat) : List β := (List.range i).map f ++ zs.drop i
theorem mk1_zero {β : Type} (f : Nat → β) (zs : List β) : mk1 f zs 0 = zs := by simp [mk1]
theorem mk1_all {β : Type} (f : Nat → β) (zs : List β) (n : Nat) (h : zs.length ≤ n) : mk1 f zs n = (List.range n).map f := by simp [mk1, List.drop_eq_nil_of_le h]
theorem mk1_len {β : Type} (f : Nat → β) (zs : List β) (i : Nat) (h : i ≤ zs.length) : (mk1 f zs i).length = zs.length := by simp [mk1]; omega
theorem mk1_get {β : Type} (f : Nat → β) (zs : List β) (i : Nat) (h : i < zs.length) : (mk1 f zs i)[i]? = some zs[i] := by
  rw [mk1, List.getElem?_append_right (by simp)]; simp [h]
theorem mk1_set {β : Type} (f : Nat → β) (zs : List β) (i : Nat) (h : i < zs.length) : (mk1 f zs i).set i (f i) = mk1 f zs (i + 1) := by
  rw [mk1, mk1, List.set_append_right _ _ (by simp), List.range_succ, List.map_append]
  simp only [List.length_map, List.length_range, Nat.sub_self, List.map_cons, List.map_nil, List.append_assoc]
  rw [List.drop_eq_getElem_cons h]; rfl
theorem mk1_set2 {β : Type} (f : Nat → β) (zs : List β) (i : Nat) (x : β) (h : i < zs.length) : ((mk1 f zs i).set i x)[i]? = some x := by
  rw [List.getElem?_set]; simp [mk1_len f zs i (by omega), h]
theorem isFlatL_map {α : Type} {f : α → AV} (xs : List α) (h : ∀ x, isFlat (f x) = true) : isFlatL (xs.map f) = true := by
  induction xs with
  | nil => rfl
  | cons x r ih => rw [List.map_cons, isFlatL_cons, h, ih]; rfl
theorem isFlatL_append (xs ys : List AV) : isFlatL (xs ++ ys) = (isFlatL xs && isFlatL ys) := by
  induction xs with
  | nil => simp [isFlatL]
  | cons x r ih => rw [List.cons_append, isFlatL_cons, isFlatL_cons, ih, Bool.and_assoc]
theorem isFlatL_take (xs : List AV) (n : Nat) (h : isFlatL xs = true) : isFlatL (xs.take n) = true := by
  induction xs generalizing n with
  | nil => simp [isFlatL]
  | cons x r ih =>
    cases n with
    | zero => rfl
    | succ n =>
      simp only [isFlatL_cons, Bool.and_eq_true] at h
      rw [List.take_succ_cons, isFlatL_cons, h.1, ih n h.2]; rfl
theorem isFlatL_rep (n : Nat) (z : AV) (h : isFlat z = true) : isFlatL (List.replicate n z) = true := by
  induction n with
  | zero => rfl
  | succ n ih => rw [List.replicate_succ, isFlatL_cons, h, ih]; rfl
theorem take_map_snoc {α β : Type} (f : α → β) {xs : List α} {i : Nat} (h : i < xs.length) : (xs.map f).take i ++ [f xs[i]] = (xs.map f).take (i + 1) := by
  rw [List.take_succ_eq_append_getElem (by simpa using h), List.getElem_map]
theorem take_snoc {β : Type} {xs : List β} {i : Nat} (h : i < xs.length) : xs.take i ++ [xs[i]] = xs.take (i + 1) := by
  rw [List.take_succ_eq_append_getElem h]
theorem min_lt {i n : Nat} (h : i < n) : min i n = i := by omega
theorem map_take_len {α β : Type} (f : α → β) (xs : List α) : (xs.map f).take xs.length = xs.map f := take_map_len f xs
theorem rep0 {α : Type} (z : α) : List.replicate 0 z = [] := rfl
theorem rep1 {α : Type} (z : α) : List.replicate 1 z = [z] := rfl
theorem rep2 {α : Type} (z : α) : List.replicate 2 z = [z, z] := rfl
theorem rep3 {α : Type} (z : α) : List.replicate 3 z = [z, z, z] := rfl
theorem rep4 {α : Type} (z : α) : List.replicate 4 z = [z, z, z, z] := rfl
theorem rep5 {α : Type} (z : α) : List.replicate 5 z = [z, z, z, z, z] := rfl
theorem rep6 {α : Type} (z : α) : List.replicate 6 z = [z, z, z, z, z, z] := rfl
theorem rep7 {α : Type} (z : α) : List.replicate 7 z = [z, z, z, z, z, z, z] := rfl
theorem rep8 {α : Type} (z : α) : List.replicate 8 z = [z, z, z, z, z, z, z, z] := rfl
theorem rep9 {α : Type} (z : α) : List.replicate 9 z = [z, z, z, z, z, z, z, z, z] := rfl
theorem rep10 {α : Type} (z : α) : List.replicate 10 z = [z, z, z, z, z, z, z, z, z, z] := rfl
theorem rep11 {α : Type} (z : α) : List.replicate 11 z = [z, z, z, z, z, z, z, z, z, z, z] := rfl
theorem rep12 {α : Type} (z : α) : List.replicate 12 z = [z, z, z, z, z, z, z, z, z, z, z, z] := rfl
attribute [go_sem] isFlatL_map isFlatL_append isFlatL_take isFlatL_rep List.take_take Nat.min_self List.map_take List.append_nil List.length_append List.length_take rep0 rep1 rep2 rep3 rep4 rep5 rep6 rep7 rep8 rep9 rep10 rep11 rep12
theorem ioL_eq : ioL = 1000000000 := rfl
attribute [go_sem] ne_eq not_false_eq_true ioL_eq decide_true decide_false Bool.not_true Bool.not_false bne_self_eq_false
theorem take_set_len {α β : Type} (f : α → β) (xs : List α) (i : Nat) (y : β) : ((xs.map f).set i y).take xs.length = (xs.map f).set i y := List.take_of_length_le (by simp)
attribute [go_sem] take_set_len List.length_set
theorem eq_no {α : Type} [DecidableEq α] {xs ys : List α} {i : Nat} (hi : i < xs.length) (hy : i < ys.length) (h : xs[i] ≠ ys[i]) : decide (xs = ys) = false :=
  decide_eq_false fun e => h (by subst e; rfl)
theorem eq_yes {α : Type} {xs ys : List α} {i : Nat} (hi : i < xs.length) (hy : i < ys.length) (hI : xs.take i = ys.take i) (h : xs[i] = ys[i]) : xs.take (i + 1) = ys.take (i + 1) := by
  rw [List.take_succ_eq_append_getElem hi, List.take_succ_eq_append_getElem hy, hI, h]
end Go.Vc
