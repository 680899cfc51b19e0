/-
  The abstract state of the layer Vc: temporaries and labelled blocks; what it says of a frame and a world.
-/
import Derived.Test.YtlelhmbhhnokoaaDoorVcBase
set_option linter.unusedVariables false
set_option linter.unusedSimpArgs false
set_option linter.unnecessarySimpa false
namespace Go.Vc

/-- A labelled block: given up, a variable's cells, a row of elements; 'lent': a deep row of single cells, of which the i-th is known to hold the value u. 'ver': how often the label has been laid anew; a reference of an elder version says nothing. -/
inductive Blk where
  | gone (ver : Nat)
  | box (ver : Nat) (xs : List AV)
  | row (ver : Nat) (sh : Sh) (deep : Bool) (xs : List AV)
  | lent (ver : Nat) (xs : List AV) (i : Nat) (u : Value)

def Blk.ver : Blk → Nat
  | .gone v => v
  | .box v _ => v
  | .row v _ _ _ => v
  | .lent v _ _ _ => v

abbrev Env := List (Nat × AV)
abbrev Mem := List (Nat × Blk)

def look : Env → Nat → AV
  | [], _ => .undef
  | (k, v) :: r, t => if k = t then v else look r t
def lookB : Mem → Nat → Option Blk
  | [], _ => none
  | (k, v) :: r, t => if k = t then some v else lookB r t
theorem look_nil (t : Nat) : look [] t = .undef := rfl
theorem look_cons (k : Nat) (v : AV) (r : Env) (t : Nat) : look ((k, v) :: r) t = if k = t then v else look r t := rfl
theorem lookB_nil (t : Nat) : lookB [] t = none := rfl
theorem lookB_cons (k : Nat) (v : Blk) (r : Mem) (t : Nat) : lookB ((k, v) :: r) t = if k = t then some v else lookB r t := rfl

/- the labels that occur in a value, with their versions -/
mutual
def labs : AV → List (Nat × Nat)
  | .ref l ver _ _ => [(l, ver)]
  | .ptr l ver _ _ => [(l, ver)]
  | .agg xs => labsL xs
  | .tup xs => labsL xs
  | .clo _ xs => labsL xs
  | _ => []
def labsL : List AV → List (Nat × Nat)
  | [] => []
  | x :: r => labs x ++ labsL r
end

theorem mem_labsL {xs : List AV} {l : Nat × Nat} {i : Nat} (h : i < xs.length) (hl : l ∈ labs xs[i]) : l ∈ labsL xs := by
  induction xs generalizing i with
  | nil => exact absurd h (Nat.not_lt_zero _)
  | cons x r ih =>
    simp only [labsL, List.mem_append]
    cases i with
    | zero => exact .inl hl
    | succ i => exact .inr (ih (i := i) (by simpa using h) (by simpa using hl))

theorem of_mem_labsL {xs : List AV} {l : Nat × Nat} (hl : l ∈ labsL xs) : ∃ i, ∃ h : i < xs.length, l ∈ labs xs[i] := by
  induction xs with
  | nil => exact absurd hl List.not_mem_nil
  | cons x r ih =>
    simp only [labsL, List.mem_append] at hl
    rcases hl with hl | hl
    · exact ⟨0, by simp, hl⟩
    · obtain ⟨i, hi, h⟩ := ih hl
      exact ⟨i + 1, by simpa using hi, by simpa using h⟩

/-- Where a label's block lies. -/
inductive LS where
  | dead
  | nil (ver : Nat)
  | at (b : Nat) (sh : Sh) (ver : Nat)

/-- A value reads as an abstract value that may name labels. -/
inductive RV (w : World) (S : Nat → Prop) (φ : Nat → LS) : AV → Value → Prop
  | rd (x : AV) (v : Value) (h : Rd w S x v) : RV w S φ x v
  | agg (xs : List AV) (cs : Array Value) (hl : cs.size = xs.length) (hf : ∀ i (h : i < xs.length), leaf xs[i])
      (hv : ∀ i (h : i < xs.length), RV w S φ xs[i] (cs.toList.getD i Go.undef)) : RV w S φ (.agg xs) (.agg cs)
  | tup (xs : List AV) (cs : Array Value) (hl : cs.size = xs.length)
      (hv : ∀ i (h : i < xs.length), RV w S φ xs[i] (cs.toList.getD i Go.undef)) : RV w S φ (.tup xs) (.tuple cs)
  | clo (f : FuncId) (xs : List AV) (cs : Array Value) (hl : cs.size = xs.length)
      (hv : ∀ i (h : i < xs.length), RV w S φ xs[i] (cs.toList.getD i Go.undef)) : RV w S φ (.clo f xs) (.func (.func f) #[] cs)
  | ref (l ver i n : Nat) (v : Value)
      (h1 : ∀ b sh, φ l = .at b sh ver → ∃ a cap, v = .slice a n cap ∧ n ≤ cap ∧ (cap = 0 ∨ (a = some ⟨b, i * sh.sz, none⟩ ∧ ∃ cs e, w.heap[b]? = some (.cells cs e (0, 0)) ∧ cs.size = (i + cap) * sh.sz)))
      (h2 : φ l = .nil ver → n = 0 ∧ ∃ a, v = .slice a 0 0) (h3 : v.oneCell' = true) : RV w S φ (.ref l ver i n) v
  | ptr (l ver i j : Nat) (v : Value) (h1 : ∀ b sh, φ l = .at b sh ver → v = .pointer (some ⟨b, i * sh.sz + j, none⟩)) (h2 : φ l ≠ .nil ver) (h3 : v.oneCell' = true) : RV w S φ (.ptr l ver i j) v

theorem RV.leaf_oneCell {w : World} {S : Nat → Prop} {φ : Nat → LS} {x : AV} {v : Value} (h : RV w S φ x v) (hx : leaf x) : v.oneCell' = true := by
  cases h with
  | rd _ _ h => exact h.leaf_oneCell hx
  | agg => exact hx.elim
  | tup => exact hx.elim
  | clo => rfl
  | ref _ _ _ _ _ _ _ h => exact h
  | ptr _ _ _ _ _ _ _ h => exact h

/-- The sizes of the blocks that labels name stay. -/
def Sized (φ : Nat → LS) (w w' : World) : Prop :=
  ∀ l b sh ver cs e, φ l = .at b sh ver → w.heap[b]? = some (.cells cs e (0, 0)) → ∃ cs' e', w'.heap[b]? = some (.cells cs' e' (0, 0)) ∧ cs'.size = cs.size

/-- φ' says no more than φ of a label's version. -/
def LS.le (x' x : LS) (ver : Nat) : Prop := (∀ b sh, x' = .at b sh ver → x = .at b sh ver) ∧ (x' = .nil ver → x = .nil ver)
theorem LS.le_refl (x : LS) (ver : Nat) : LS.le x x ver := ⟨fun _ _ h => h, fun h => h⟩
theorem LS.le_trans {x y z : LS} {ver : Nat} (h : LS.le x y ver) (h' : LS.le y z ver) : LS.le x z ver := ⟨fun b sh e => h'.1 b sh (h.1 b sh e), fun e => h'.2 (h.2 e)⟩
theorem LS.le_dead (x : LS) (ver : Nat) : LS.le .dead x ver := ⟨fun _ _ h => (by cases h), fun h => (by cases h)⟩
theorem LS.le_newer (x : LS) (b : Nat) (sh : Sh) (v ver : Nat) (h : ver < v) : LS.le (.at b sh v) x ver :=
  ⟨fun _ _ h' => (by cases h'; exact absurd h (Nat.lt_irrefl _)), fun h => (by cases h)⟩

theorem RV.mono {w w' : World} {S S' : Nat → Prop} {φ φ' : Nat → LS} (hw : ∀ b, S b → w'.heap[b]? = w.heap[b]?) (hS : ∀ b, S b → S' b) (hz : Sized φ w w')
    {x : AV} {v : Value} (h : RV w S φ x v) (hφ : ∀ l ver, (l, ver) ∈ labs x → LS.le (φ' l) (φ l) ver) : RV w' S' φ' x v := by
  induction h with
  | rd x v h => exact .rd x v (h.mono hw hS)
  | agg xs cs hl hf _ ih => exact .agg xs cs hl hf fun i h => ih i h fun l ver hl => hφ l ver (by simp only [labs]; exact mem_labsL h hl)
  | tup xs cs hl _ ih => exact .tup xs cs hl fun i h => ih i h fun l ver hl => hφ l ver (by simp only [labs]; exact mem_labsL h hl)
  | clo f xs cs hl _ ih => exact .clo f xs cs hl fun i h => ih i h fun l ver hl => hφ l ver (by simp only [labs]; exact mem_labsL h hl)
  | ref l ver i n v h1 h2 h3 =>
    have hp := hφ l ver (by simp [labs])
    refine .ref l ver i n v ?_ (fun h => h2 (hp.2 h)) h3
    intro b sh hb
    obtain ⟨a, cap, hv, hn, hc⟩ := h1 b sh (hp.1 _ _ hb)
    refine ⟨a, cap, hv, hn, hc.imp id ?_⟩
    rintro ⟨ha, cs, e, hh, hs⟩
    obtain ⟨cs', e', hh', hs'⟩ := hz l b sh ver cs e (hp.1 _ _ hb) hh
    exact ⟨ha, cs', e', hh', hs'.trans hs⟩
  | ptr l ver i j v h1 h2 h3 =>
    have hp := hφ l ver (by simp [labs])
    exact .ptr l ver i j v (fun b sh h => h1 b sh (hp.1 _ _ h)) (fun h => h2 (hp.2 h)) h3

/-- What a label's block says of the world. 'fs': the blocks that the label owns. -/
def BR (w : World) (S : Nat → Prop) (φ : Nat → LS) (l : Nat) (fs : List Nat) : Blk → Prop
  | .gone _ => φ l = .dead ∧ fs = []
  | .row ver sh deep xs => (φ l = .nil ver ∧ xs = [] ∧ fs = []) ∨
      ∃ b cap, φ l = .at b sh ver ∧ b ∈ fs ∧ (deep = false → fs = [b]) ∧ Own w (if deep then fun _ => False else S) (.arr sh xs) (.slice (some ⟨b, 0, none⟩) xs.length cap) fs
  | .box ver xs => ∃ b cs e sh, φ l = .at b sh ver ∧ fs = [b] ∧ w.heap[b]? = some (.cells cs e (0, 0)) ∧ cs.size = xs.length ∧ (∀ i (h : i < xs.length), leaf xs[i]) ∧
      ∀ i (h : i < xs.length), RV w S φ xs[i] (cs.toList.getD i Go.undef)
  | .lent ver xs i u => ∃ b cap cs e fr, φ l = .at b ⟨1, false⟩ ver ∧ b ∈ fs ∧ Own w (fun _ => False) (.arr ⟨1, false⟩ xs) (.slice (some ⟨b, 0, none⟩) xs.length cap) fs ∧
      w.heap[b]? = some (.cells cs e fr) ∧ i < xs.length ∧ cs.toList.getD i Go.undef = u

theorem BR.mono {w w' : World} {S S' : Nat → Prop} {φ φ' : Nat → LS} {l : Nat} {fs : List Nat} {k : Blk} (hw : ∀ b, S b → w'.heap[b]? = w.heap[b]?) (hS : ∀ b, S b → S' b)
    (hz : Sized φ w w') (h : BR w S φ l fs k) (hfs : ∀ b, b ∈ fs → w'.heap[b]? = w.heap[b]?) (hl : φ' l = φ l)
    (hφ : ∀ v xs, k = .box v xs → ∀ l ver, (l, ver) ∈ labsL xs → LS.le (φ' l) (φ l) ver) : BR w' S' φ' l fs k := by
  cases k with
  | gone => exact ⟨hl.trans h.1, h.2⟩
  | row ver sh deep xs =>
    rcases h with ⟨h1, h2, h3⟩ | ⟨b, cap, h1, h2, h4, h3⟩
    · exact .inl ⟨hl.trans h1, h2, h3⟩
    · refine .inr ⟨b, cap, hl.trans h1, h2, h4, ?_⟩
      cases deep with
      | true => exact h3.mono (fun _ h => False.elim h) (fun _ h => h) hfs
      | false => exact h3.mono hw hS hfs
  | box ver xs =>
    obtain ⟨b, cs, e, sh, h1, h2, h3, h4, h5, h6⟩ := h
    refine ⟨b, cs, e, sh, hl.trans h1, h2, (hfs b (by simp [h2])).trans h3, h4, h5, fun i hi => ?_⟩
    exact (h6 i hi).mono hw hS hz fun l' ver' hl' => hφ ver xs rfl l' ver' (mem_labsL hi hl')
  | lent ver xs i u =>
    obtain ⟨b, cap, cs, e, fr, h1, h2, h3, h4, h5, h6⟩ := h
    exact ⟨b, cap, cs, e, fr, hl.trans h1, h2, h3.mono (fun _ h => False.elim h) (fun _ h => h) hfs, (hfs b h2).trans h4, h5, h6⟩

/-- What a call begins with: the world, the caller's blocks that it may write, where they lie. -/
structure Base where
  w0 : World
  io : Nat → Nat → Prop
  ro : Nat → Prop
  φ0 : Nat → LS
  m0 : Mem

/-- Labels from here on are the caller's blocks that a call may write. -/
def ioL : Nat := 1000000000

/-- A version that a label has had. -/
def known (m : Mem) (l ver : Nat) : Prop := ∃ k, lookB m l = some k ∧ ver ≤ k.ver

/-- The abstract state (ts, m) describes the frame's temporaries and the world. -/
structure RS (B : Base) (N : Nat) (φ : Nat → LS) (fp : Nat → List Nat) (S : Nat → Prop) (ts : Env) (m : Mem) (a : Act) (w : World) : Prop where
  tm : ∀ t, RV w S φ (look ts t) (a.tmps.getD t Go.undef)
  tl : ∀ t l ver, (l, ver) ∈ labs (look ts t) → known m l ver
  mNone : ∀ l, lookB m l = none → φ l = .dead ∧ fp l = []
  mSome : ∀ l k, lookB m l = some k → BR w S φ l (fp l) k
  bl : ∀ l v xs, lookB m l = some (.box v xs) → ∀ l' ver, (l', ver) ∈ labsL xs → known m l' ver
  nod : ∀ l, (fp l).Nodup
  dis : ∀ l l' b, b ∈ fp l → b ∈ fp l' → l = l'
  notS : ∀ l b, b ∈ fp l → ¬ S b
  fpB : ∀ l b, b ∈ fp l → b < w.heap.size ∧ (B.w0.heap.size ≤ b ∨ (∃ l', B.io l' b ∧ ioL ≤ l ∧ (l' = l ∨ lookB B.m0 l = none)))
  sB : ∀ b, S b → b < w.heap.size ∧ (B.w0.heap.size ≤ b ∨ B.ro b)
  base : ∀ b, b < B.w0.heap.size → (∀ l, ¬ B.io l b) → w.heap[b]? = B.w0.heap[b]?
  out : SameOut B.w0 w
  szs : Szs B.w0 w
  kn : ∀ l ver, ioL ≤ l → known B.m0 l ver → known m l ver
  fix : ∀ l ver, ioL ≤ l → known B.m0 l ver → LS.le (φ l) (B.φ0 l) ver
  size : B.w0.heap.size ≤ w.heap.size
  defers : a.defers = []
  tsz : a.tmps.size = N
  kon : Kon w S

section
variable {B : Base} {N : Nat} {φ : Nat → LS} {fp : Nat → List Nat} {S : Nat → Prop} {ts : Env} {m : Mem} {a : Act} {w : World}

theorem RS.lookB_ne (h : RS B N φ fp S ts m a w) {l b : Nat} {sh : Sh} {ver : Nat} (hl : φ l = .at b sh ver) : ∃ k, lookB m l = some k ∧ k.ver = ver := by
  cases hk : lookB m l with
  | none => have := (h.mNone l hk).1; rw [hl] at this; cases this
  | some k =>
    refine ⟨k, rfl, ?_⟩
    have hb := h.mSome l k hk
    cases k with
    | gone => have := hb.1; rw [hl] at this; cases this
    | row ver' sh' deep xs =>
      rcases hb with ⟨h1, _, _⟩ | ⟨b', cap, h1, h2, _⟩
      · rw [hl] at h1; cases h1
      · rw [hl] at h1; cases h1; rfl
    | box ver' xs =>
      obtain ⟨b', cs, e, sh', h1, h2, _⟩ := hb
      rw [hl] at h1; cases h1; rfl
    | lent ver' xs i u =>
      obtain ⟨b', cap, cs, e, fr, h1, h2, _⟩ := hb
      rw [hl] at h1; cases h1; rfl

/-- The block that a live label names is among those that it owns. -/
theorem RS.at_mem (h : RS B N φ fp S ts m a w) {l b : Nat} {sh : Sh} {ver : Nat} (hl : φ l = .at b sh ver) : b ∈ fp l := by
  obtain ⟨k, hk, _⟩ := h.lookB_ne hl
  have hb := h.mSome l k hk
  cases k with
  | gone => have := hb.1; rw [hl] at this; cases this
  | row ver' sh' deep xs =>
    rcases hb with ⟨h1, _, _⟩ | ⟨b', cap, h1, h2, _⟩
    · rw [hl] at h1; cases h1
    · rw [hl] at h1; cases h1; exact h2
  | box ver' xs =>
    obtain ⟨b', cs, e, sh', h1, h2, _⟩ := hb
    rw [hl] at h1; cases h1; rw [h2]; simp
  | lent ver' xs i u =>
    obtain ⟨b', cap, cs, e, fr, h1, h2, _⟩ := hb
    rw [hl] at h1; cases h1; exact h2
end

theorem getD_setIfInBounds_same {α : Type} (xs : Array α) (d : Nat) (v u : α) (h : d < xs.size) : (xs.setIfInBounds d v).getD d u = v := by
  simp [Array.getD_eq_getD_getElem?, h]
theorem getD_setIfInBounds_other {α : Type} (xs : Array α) (d t : Nat) (v u : α) (h : d ≠ t) : (xs.setIfInBounds d v).getD t u = xs.getD t u := by
  simp [Array.getD_eq_getD_getElem?, h]

/-- One temporary more, the world as it is. -/
theorem RS.put {B : Base} {N : Nat} {φ : Nat → LS} {fp : Nat → List Nat} {S : Nat → Prop} {ts : Env} {m : Mem} {a : Act} {w : World}
    (h : RS B N φ fp S ts m a w) (d : Nat) (x : AV) (v : Value) (hd : d < N) (hx : RV w S φ x v) (hl : ∀ l ver, (l, ver) ∈ labs x → known m l ver) :
    RS B N φ fp S ((d, x) :: ts) m (a.put (some d) v) w := by
  refine { h with tm := ?_, tl := ?_, defers := h.defers, tsz := by simp [Act.put, h.tsz] }
  · intro t
    rw [look_cons]
    split
    · rename_i e; subst e
      simp only [Act.put]
      rw [getD_setIfInBounds_same _ _ _ _ (by rw [h.tsz]; exact hd)]
      exact hx
    · rename_i e
      simp only [Act.put]
      rw [getD_setIfInBounds_other _ _ _ _ _ e]
      exact h.tm t
  · intro t l ver hl'
    rw [look_cons] at hl'
    split at hl'
    · exact hl l ver hl'
    · exact h.tl t l ver hl'

theorem RS.skip {B : Base} {N : Nat} {φ : Nat → LS} {fp : Nat → List Nat} {S : Nat → Prop} {ts : Env} {m : Mem} {a : Act} {w : World}
    (h : RS B N φ fp S ts m a w) (v : Value) : RS B N φ fp S ts m (a.put none v) w := h

end Go.Vc
