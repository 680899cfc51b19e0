/-
  Writing memory: new variables, stores.
-/
import Derived.Test.YtlelhmbhhnokoaaDoorVcLoad
set_option linter.unusedVariables false
set_option linter.unusedSimpArgs false
set_option linter.unnecessarySimpa false
namespace Go.Vc

theorem splice_getD (l vs : List Value) (o k : Nat) (h : o + vs.length ≤ l.length) :
    (l.take o ++ vs ++ l.drop (o + vs.length)).getD k Go.undef = if o ≤ k ∧ k < o + vs.length then vs.getD (k - o) Go.undef else l.getD k Go.undef := by
  simp only [List.getD_eq_getElem?_getD, List.append_assoc, List.getElem?_append, List.length_take, List.getElem?_take, List.getElem?_drop]
  have h1 : min o l.length = o := by omega
  rw [h1]
  by_cases ha : k < o
  · simp [ha, show ¬ (o ≤ k) by omega]
  · by_cases hb : k < o + vs.length
    · simp [ha, hb, show o ≤ k by omega, show k - o < vs.length by omega]
    · simp only [ha, hb, if_false, and_false, show ¬ (k - o < vs.length) by omega]
      rw [show o + vs.length + (k - o - vs.length) = k by omega]

theorem splice_length (l vs : List Value) (o : Nat) (h : o + vs.length ≤ l.length) : (l.take o ++ vs ++ l.drop (o + vs.length)).length = l.length := by
  simp; omega

theorem setL_length (ys : List AV) : ∀ (xs : List AV) (j : Nat), (setL xs j ys).length = xs.length := by
  induction ys with
  | nil => intro xs j; rfl
  | cons y r ih => intro xs j; rw [setL_cons, ih, List.length_set]

theorem setL_getElem? (ys : List AV) : ∀ (xs : List AV) (j i : Nat), j + ys.length ≤ xs.length → (setL xs j ys)[i]? = if j ≤ i ∧ i < j + ys.length then ys[i - j]? else xs[i]? := by
  induction ys with
  | nil =>
    intro xs j i _
    rw [setL_nil, if_neg (by simp only [List.length_nil]; omega)]
  | cons y r ih =>
    intro xs j i h
    simp only [List.length_cons] at h ⊢
    rw [setL_cons, ih _ _ _ (by rw [List.length_set]; omega), List.getElem?_set]
    by_cases h1 : i = j
    · subst h1
      simp [show ¬ (i + 1 ≤ i) by omega, show i < xs.length by omega]
    · by_cases h2 : j + 1 ≤ i ∧ i < j + 1 + r.length
      · rw [if_pos h2, if_pos (by omega), show i - j = (i - (j + 1)) + 1 by omega, List.getElem?_cons_succ]
      · rw [if_neg h2, if_neg (Ne.symm h1), if_neg (by omega)]

/-- A list of cells reads as a list of leaves. -/
def RL (R : AV → Value → Prop) (xs : List AV) (cs : List Value) : Prop := cs.length = xs.length ∧ (∀ i (h : i < xs.length), leaf xs[i]) ∧ ∀ i (h : i < xs.length), R xs[i] (cs.getD i Go.undef)

theorem RL.splice {R : AV → Value → Prop} {xs ys : List AV} {cs vs : List Value} (h : RL R xs cs) (h' : RL R ys vs) (j : Nat) (hj : j + ys.length ≤ xs.length) :
    RL R (setL xs j ys) (cs.take j ++ vs ++ cs.drop (j + vs.length)) := by
  have e1 := h.1
  have e2 := h'.1
  have get : ∀ i (hi : i < (setL xs j ys).length), leaf (setL xs j ys)[i] ∧ R (setL xs j ys)[i] ((cs.take j ++ vs ++ cs.drop (j + vs.length)).getD i Go.undef) := by
    intro i hi
    rw [setL_length] at hi
    have hg := setL_getElem? ys xs j i hj
    rw [splice_getD _ _ _ _ (by omega)]
    by_cases hc : j ≤ i ∧ i < j + ys.length
    · rw [if_pos hc, List.getElem?_eq_getElem (by rw [setL_length]; exact hi), List.getElem?_eq_getElem (by omega)] at hg
      rw [if_pos (by omega), Option.some.inj hg]
      exact ⟨h'.2.1 _ _, h'.2.2 _ _⟩
    · rw [if_neg hc, List.getElem?_eq_getElem (by rw [setL_length]; exact hi), List.getElem?_eq_getElem hi] at hg
      rw [if_neg (by omega), Option.some.inj hg]
      exact ⟨h.2.1 _ _, h.2.2 _ _⟩
  refine ⟨by rw [splice_length _ _ _ (by omega), setL_length]; exact e1, fun i hi => (get i hi).1, fun i hi => (get i hi).2⟩

/-- A block with other cells. -/
theorem heap_setRow {w : World} {b : Nat} {cs : Array Value} {e : TypeId} (hb : w.heap[b]? = some (.cells cs e (0, 0))) (cs' : Array Value) : (w.setRow b cs').heap[b]? = some (.cells cs' e (0, 0)) :=
  setRow_heap w b cs cs' e (0, 0) hb
theorem heap_setRow_other {w : World} {b c : Nat} (cs' : Array Value) (h : c ≠ b) : (w.setRow b cs').heap[c]? = w.heap[c]? := setRow_other w b c cs' h

section
variable {P : Program} {B : Base} {N : Nat} {φ : Nat → LS} {fp : Nat → List Nat} {S : Nat → Prop} {ts : Env} {m : Mem} {a : Act} {w : World}

theorem cells_single {v : Value} (h : v.oneCell' = true) : v.cells = #[v] := by
  cases v <;> first | rfl | cases h

/-- The cells of a value that may be stored. -/
theorem sCells_out {R : AV → Value → Prop} (hagg : ∀ xs v, R (.agg xs) v → ∃ cs : Array Value, v = .agg cs ∧ cs.size = xs.length ∧ (∀ i (h : i < xs.length), leaf xs[i]) ∧ ∀ i (h : i < xs.length), R xs[i] (cs.toList.getD i Go.undef))
    (hleaf : ∀ x v, R x v → leaf x → v.oneCell' = true) {y : AV} {v : Value} (hy : R y v) {k : List AV → Prop} (h : sCells y k) :
    ∃ ys, k ys ∧ RL R ys v.cells.toList ∧ (∀ l, l ∈ labsL ys → l ∈ labs y) ∧ (∀ u, u ∈ v.cells.toList → u.oneCell' = true) := by
  have one : leaf y → ∃ ys, ys = [y] ∧ RL R ys v.cells.toList ∧ (∀ l, l ∈ labsL ys → l ∈ labs y) ∧ (∀ u, u ∈ v.cells.toList → u.oneCell' = true) := by
    intro hl
    have h1 := hleaf y v hy hl
    rw [cells_single h1]
    refine ⟨_, rfl, ⟨rfl, ?_, ?_⟩, ?_, ?_⟩
    · intro i hi; have : i = 0 := by simpa using hi
      subst this; exact hl
    · intro i hi; have : i = 0 := by simpa using hi
      subst this; exact hy
    · intro l hl; simpa [labsL] using hl
    · intro u hu; have : u = v := by simpa using hu
      rw [this]; exact h1
  cases y with
  | agg xs =>
    obtain ⟨cs, rfl, h1, h2, h3⟩ := hagg xs v hy
    refine ⟨xs, h, ⟨by simpa [Value.cells] using h1, h2, h3⟩, fun l hl => by simpa [labs] using hl, ?_⟩
    intro u hu
    obtain ⟨i, hi, rfl⟩ := List.getElem_of_mem hu
    simp only [Value.cells, Array.length_toList] at hi
    have := h3 i (h1 ▸ hi)
    rw [List.getD_eq_getElem?_getD, List.getElem?_eq_getElem (by simpa using hi)] at this
    exact hleaf _ _ this (h2 i (h1 ▸ hi))
  | undef => exact h.elim
  | tup xs => exact h.elim
  | _ => obtain ⟨ys, rfl, h1⟩ := one trivial; exact ⟨_, h, h1⟩

theorem RV.cells {y : AV} {v : Value} (hy : RV w S φ y v) {k : List AV → Prop} (h : sCells y k) :
    ∃ ys, k ys ∧ RL (RV w S φ) ys v.cells.toList ∧ (∀ l, l ∈ labsL ys → l ∈ labs y) ∧ (∀ u, u ∈ v.cells.toList → u.oneCell' = true) :=
  sCells_out (fun _ _ h => rv_agg h) (fun _ _ h hl => h.leaf_oneCell hl) hy h

/-- A new variable that holds a value. -/
def sBox (d : Nat) (y : AV) (m : Mem) (k : AV → Mem → Prop) : Prop := sCells y fun ys => k (.ptr d (newVer m d) 0 0) ((d, .box (newVer m d) ys) :: m)
theorem sBox_eq (d : Nat) (y : AV) (m : Mem) (k : AV → Mem → Prop) : sBox d y m k = sCells y fun ys => k (.ptr d (newVer m d) 0 0) ((d, .box (newVer m d) ys) :: m) := rfl

def verOf : Option Blk → Nat | none => 0 | some k => k.ver + 1
theorem newVer_eq (m : Mem) (l : Nat) : newVer m l = verOf (lookB m l) := by unfold newVer verOf; cases lookB m l <;> rfl
theorem verOf_none : verOf none = 0 := rfl
theorem verOf_box (v : Nat) (xs : List AV) : verOf (some (.box v xs)) = v + 1 := rfl
theorem verOf_row (v : Nat) (sh : Sh) (d : Bool) (xs : List AV) : verOf (some (.row v sh d xs)) = v + 1 := rfl
theorem verOf_gone (v : Nat) : verOf (some (.gone v)) = v + 1 := rfl

theorem run_box (h : RS B N φ fp S ts m a w) {y : AV} {v : Value} (hy : RV w S φ y v) (hyl : ∀ l ver, (l, ver) ∈ labs y → known m l ver) (t : TypeId) (d : Nat) {k : AV → Mem → Prop}
    (hk : sBox d y m k) : Runs B N a (fun x ts' m' => ts' = ts ∧ k x m') ((Instr.box t v).run P w) := by
  obtain ⟨ys, hk, hrl, hlab, hone⟩ := hy.cells hk
  have hrun : (Instr.box t v).run P w = .ok (.pointer (some ⟨w.heap.size, 0, none⟩)) (w.alloc (.cells v.cells t)) := by
    simp [Instr.box, newVar, newRow]
  refine ⟨_, _, hrun, ?_⟩
  have hRS := h.alloc d ⟨1, false⟩ (.box (newVer m d) ys) v.cells t rfl
    ⟨w.heap.size, v.cells, t, ⟨1, false⟩, upd_same _ _ _, rfl, new_at w _, by simpa using hrl.1, hrl.2.1, fun i hi => by
      have := RV.alloc h d ⟨1, false⟩ (.cells v.cells t) (hrl.2.2 i hi) fun l' ver hl => hyl l' ver (hlab _ (mem_labsL hi hl))
      exact this⟩
    (fun v xs hx l' ver hl => by cases hx; exact hyl l' ver (hlab _ hl))
  refine hRS.gives (x := .ptr d (newVer m d) 0 0) ?_ ?_ ⟨rfl, hk⟩
  · refine .ptr _ _ _ _ _ (fun b sh hb => ?_) (fun hb => ?_) rfl
    · rw [upd_same] at hb; cases hb
      simp
    · rw [upd_same] at hb; cases hb
  · intro l ver hl
    simp only [labs, List.mem_singleton, Prod.mk.injEq] at hl
    obtain ⟨rfl, rfl⟩ := hl
    exact ⟨_, by simp [lookB_cons]; rfl, Nat.le_refl _⟩

theorem run_alloc (h : RS B N φ fp S ts m a w) {t : TypeId} {ti : TI} (ht : tiOf P t = some ti) (d : Nat) {k : AV → Mem → Prop} (hk : sBox d ti.zero m k) :
    Runs B N a (fun x ts' m' => ts' = ts ∧ k x m') ((Instr.alloc t true (.tuple #[])).run P w) := by
  obtain ⟨i, dd, z, hi, hd, hz, _, _, _, hzz, _⟩ := kind_of ht
  rw [hzz] at hk
  have := run_box (P := P) h (.rd _ _ (rd_cAV z)) (fun l ver hl => by rw [labs_cAV] at hl; cases hl) t d hk
  have e : (Instr.alloc t true (.tuple #[])).run P w = (Instr.box t z).run P w := by
    simp [Instr.alloc, Instr.box, zeroValue, typeInfo, hi, hz, newVar, newRow]
  rw [e]; exact this

/-- A run that ends without a value. -/
def RunsU (B : Base) (N : Nat) (a : Act) (k : Env → Mem → Prop) (r : Result Unit) : Prop :=
  ∃ w', r = .ok () w' ∧ Done B N k a w'

theorem Sized.setRow (φ : Nat → LS) {w : World} {b : Nat} {cs : Array Value} {e : TypeId} (hb : w.heap[b]? = some (.cells cs e (0, 0))) {cs' : Array Value} (hs : cs'.size = cs.size) : Sized φ w (w.setRow b cs') := by
  intro l c sh ver cs0 e0 _ hc
  by_cases hcb : c = b
  · subst hcb
    rw [hb] at hc; cases hc
    exact ⟨cs', e, heap_setRow hb cs', hs⟩
  · exact ⟨cs0, e0, by rw [heap_setRow_other _ hcb]; exact hc, rfl⟩

theorem Szs.setRow {w : World} {b : Nat} {cs : Array Value} {e : TypeId} (hb : w.heap[b]? = some (.cells cs e (0, 0))) {cs' : Array Value} (hs : cs'.size = cs.size) : Szs w (w.setRow b cs') := by
  intro c cs0 e0 hc
  by_cases hcb : c = b
  · subst hcb
    rw [hb] at hc; cases hc
    exact ⟨cs', e, heap_setRow hb cs', hs⟩
  · exact ⟨cs0, e0, by rw [heap_setRow_other _ hcb]; exact hc, rfl⟩

/-- A label's block has other cells. -/
theorem RS.write (h : RS B N φ fp S ts m a w) {l b : Nat} {sh : Sh} {ver : Nat} (hφ : φ l = .at b sh ver) {cs : Array Value} {e : TypeId} (hb : w.heap[b]? = some (.cells cs e (0, 0))) {cs' : Array Value}
    (hs : cs'.size = cs.size) (k : Blk) (hkv : k.ver = ver) (hbr : BR (w.setRow b cs') S (upd φ l (φ l)) l (fp l) k)
    (hbl : ∀ v xs, k = .box v xs → ∀ l' ver, (l', ver) ∈ labsL xs → known m l' ver) :
    RS B N (upd φ l (φ l)) (upd fp l (fp l)) S ts ((l, k) :: m) a (w.setRow b cs') := by
  have hbl' := h.at_mem hφ
  obtain ⟨k0, hk0, hk0v⟩ := h.lookB_ne hφ
  have hkn : ∀ ver', known m l ver' → ver' ≤ k.ver := by
    rintro ver' ⟨k', h1, h2⟩
    rw [hk0] at h1; cases h1; rw [hkv, ← hk0v]; exact h2
  refine h.next l (φ l) (fp l) S k (by simp) ⟨rfl, rfl, rfl⟩ (fun c cs0 e0 hc => ?_) (fun c hc hio => heap_setRow_other _ fun e => ?_) (fun c hc => ⟨hc, heap_setRow_other _ fun e => h.notS l b hbl' (e ▸ hc)⟩) (fun c h1 h2 => absurd h1 h2) (Sized.setRow φ hb hs)
    (fun l' hl' c hc => heap_setRow_other _ fun e => hl' (h.dis l' l b (e ▸ hc) hbl')) (fun ver _ => LS.le_refl _ _) hkn hbr ?_ (h.nod l) ?_
  · by_cases hcb : c = b
    · subst hcb
      rw [hb] at hc; cases hc
      exact ⟨cs', e, heap_setRow hb cs', hs⟩
    · exact ⟨cs0, e0, by rw [heap_setRow_other _ hcb]; exact hc, rfl⟩
  · subst e
    rcases (h.fpB l c hbl').2 with hh | hh
    · exact Nat.lt_irrefl _ (Nat.lt_of_lt_of_le hc hh)
    · exact hio _ hh.choose_spec.1
  · intro v xs hx l' ver' hl'
    have := hbl v xs hx l' ver' hl'
    by_cases e : l = l'
    · subst e; exact ⟨k, by simp [lookB_cons], hkn ver' this⟩
    · obtain ⟨k', h1, h2⟩ := this
      exact ⟨k', by simp [lookB_cons, e, h1], h2⟩
  · intro c hc
    have := h.fpB l c hc
    exact ⟨h.notS l c hc, fun l' hl' hc' => hl' (h.dis l' l c hc' hc), by simpa using this.1, this.2⟩

theorem size_splice {cs : Array Value} {o : Nat} {vs : List Value} (h : o + vs.length ≤ cs.size) : (cs.toList.take o ++ vs ++ cs.toList.drop (o + vs.length)).toArray.size = cs.size := by
  rw [List.size_toArray, splice_length _ _ _ (by simpa using h)]; simp

theorem run_storeVar_at {t : TypeId} {ti : TI} (ht : tiOf P t = some ti) {b o : Nat} {cs : Array Value} {e : TypeId} (hb : w.heap[b]? = some (.cells cs e (0, 0))) {v : Value} (hn : v.cells.toList.length = ti.size)
    (ho : o + v.cells.toList.length ≤ cs.size) (hone : ∀ u, u ∈ v.cells.toList → u.oneCell' = true) :
    (Instr.storeAt t (.pointer (some ⟨b, o, none⟩)) v).run P w = .ok () (w.setRow b (cs.toList.take o ++ v.cells.toList ++ cs.toList.drop (o + v.cells.toList.length)).toArray) := by
  have h1 := run_storeCells_at P b o e v.cells.toList 0 cs w hb (by simpa using ho) hone
  simp only [Nat.add_zero] at h1
  have h2 : v.cells.size = ti.size := by simpa using hn
  simp only [Instr.storeAt, Instr.sureAddr, storeVar, pure_bind, Sem.run_bind, sizeOf_run ht, Result.andThen_ok, h2, ne_eq, not_true_eq_false, if_false, h1]

/-- Elements beside the one that is written read as before. -/
theorem elemV_splice_other {l vs : List Value} {sh : Sh} {i i' j : Nat} (hi : i' ≠ i) (hj : j + vs.length ≤ sh.sz) (hl : i * sh.sz + sh.sz ≤ l.length) (hsz : sh.ag = false → sh.sz = 1) :
    elemV (l.take (i * sh.sz + j) ++ vs ++ l.drop (i * sh.sz + j + vs.length)) (i' * sh.sz) sh = elemV l (i' * sh.sz) sh := by
  have far : ∀ c, c < sh.sz → ¬ (i * sh.sz + j ≤ i' * sh.sz + c ∧ i' * sh.sz + c < i * sh.sz + j + vs.length) := by
    intro c hc
    rcases Nat.lt_or_gt_of_ne hi with hlt | hgt
    · have := mul_le_of_lt (s := sh.sz) hlt; omega
    · have := mul_le_of_lt (s := sh.sz) hgt; omega
  cases sh with
  | mk sz ag =>
  simp only at *
  cases ag with
  | false =>
    rw [elemV_cell, elemV_cell, splice_getD _ _ _ _ (by omega)]
    have hs := hsz rfl
    subst hs
    rw [if_neg (by simpa using far 0 (by omega))]
  | true =>
    rw [elemV_agg, elemV_agg]
    congr 2
    apply List.ext_getElem
    · simp; omega
    · intro c h1 h2
      simp only [List.length_take, List.length_drop] at h1 h2
      have e1 : ∀ (l : List Value) (h : c < ((l.drop (i' * sz)).take sz).length), ((l.drop (i' * sz)).take sz)[c] = l.getD (i' * sz + c) Go.undef := by
        intro l h
        simp only [List.length_take, List.length_drop] at h
        simp only [List.getElem_take, List.getElem_drop]
        rw [List.getD_eq_getElem?_getD, List.getElem?_eq_getElem (by omega)]; rfl
      rw [e1, e1, splice_getD _ _ _ _ (by omega), if_neg (far c (by omega))]

/-- The element that is written. -/
theorem put_rd {S : Nat → Prop} {sh : Sh} {x y : AV} {l : List Value} {i j n : Nat} {v : Value} (hx : Rd w S x (elemV l (i * sh.sz) sh)) (hfx : fits sh x) (hy : Rd w S y v) (hl : i * sh.sz + sh.sz ≤ l.length)
    {k : AV → Prop} (hn : match (generalizing := false) y with | .agg ys => ys.length = n | _ => n = 1) (hk : sPut j x y k) (hfy : isFlat y = true) :
    v.cells.toList.length = n ∧ j + v.cells.toList.length ≤ sh.sz ∧ (∀ u, u ∈ v.cells.toList → u.oneCell' = true) ∧
      ∃ x', k x' ∧ fits sh x' ∧ Rd w S x' (elemV (l.take (i * sh.sz + j) ++ v.cells.toList ++ l.drop (i * sh.sz + j + v.cells.toList.length)) (i * sh.sz) sh) := by
  have hyc : leaf y ∨ ∃ ys, y = .agg ys := by cases y <;> first | exact .inl trivial | exact .inr ⟨_, rfl⟩ | cases hfy
  have cellsY : ∃ ys, RL (Rd w S) ys v.cells.toList ∧ (∀ u, u ∈ v.cells.toList → u.oneCell' = true) ∧ ((leaf y ∧ ys = [y]) ∨ y = .agg ys) := by
    rcases hyc with hleaf | ⟨ys, rfl⟩
    · have h1 := hy.leaf_oneCell hleaf
      refine ⟨[y], ?_, ?_, .inl ⟨hleaf, rfl⟩⟩
      · rw [cells_single h1]
        refine ⟨rfl, ?_, ?_⟩ <;> intro c hc <;> (have : c = 0 := by simpa using hc) <;> subst this
        · exact hleaf
        · exact hy
      · rw [cells_single h1]; intro u hu; have : u = v := by simpa using hu
        rw [this]; exact h1
    · obtain ⟨cs, rfl, h1, h2, h3⟩ := rd_agg hy
      refine ⟨ys, ⟨by simpa [Value.cells] using h1, h2, h3⟩, ?_, .inr rfl⟩
      intro u hu
      obtain ⟨c, hc, rfl⟩ := List.getElem_of_mem hu
      simp only [Value.cells, Array.length_toList] at hc
      have := h3 c (h1 ▸ hc)
      rw [List.getD_eq_getElem?_getD, List.getElem?_eq_getElem (by simpa using hc)] at this
      exact this.leaf_oneCell (h2 c (h1 ▸ hc))
  obtain ⟨ys, hrl, hone, hy'⟩ := cellsY
  have hlen : v.cells.toList.length = ys.length := hrl.1
  have hn' : ys.length = n := by
    rcases hy' with ⟨hleaf, rfl⟩ | rfl
    · cases y <;> first | exact hn.symm | exact hleaf.elim
    · exact hn
  -- an aggregate
  have agg : ∀ zs, x = .agg zs → j + ys.length ≤ zs.length → k (.agg (setL zs j ys)) →
      v.cells.toList.length = n ∧ j + v.cells.toList.length ≤ sh.sz ∧ (∀ u, u ∈ v.cells.toList → u.oneCell' = true) ∧
      ∃ x', k x' ∧ fits sh x' ∧ Rd w S x' (elemV (l.take (i * sh.sz + j) ++ v.cells.toList ++ l.drop (i * sh.sz + j + v.cells.toList.length)) (i * sh.sz) sh) := by
    intro zs hzs hjl hkk
    subst hzs
    cases sh with
    | mk sz ag =>
    obtain ⟨hag, hsz⟩ := hfx
    simp only at hag hsz hl
    subst hag
    obtain ⟨cs, hcs, h1, h2, h3⟩ := rd_agg hx
    rw [elemV_agg] at hcs
    cases hcs
    refine ⟨by omega, by show j + _ ≤ sz; omega, hone, _, hkk, ⟨rfl, by rw [setL_length]; exact hsz⟩, ?_⟩
    have h3' : RL (Rd w S) zs ((l.drop (i * sz)).take sz) := ⟨by simp; omega, h2, fun c hc => by simpa using h3 c hc⟩
    have h4 := h3'.splice hrl j hjl
    rw [elemV_agg]
    have e : (List.drop (i * sz) (l.take (i * sz + j) ++ v.cells.toList ++ l.drop (i * sz + j + v.cells.toList.length))).take sz =
        ((l.drop (i * sz)).take sz).take j ++ v.cells.toList ++ ((l.drop (i * sz)).take sz).drop (j + v.cells.toList.length) := by
      have hvl : v.cells.size = ys.length := by simpa using hlen
      have hll : ((l.drop (i * sz)).take sz).length = sz := by simp; omega
      apply List.ext_getElem
      · rw [List.length_take, List.length_drop, splice_length _ _ _ (by omega), splice_length _ _ _ (by omega), hll]
        omega
      · intro c g1 g2
        rw [splice_length _ _ _ (by omega), hll] at g2
        have q1 : ∀ (L : List Value) (h : c < L.length), L[c] = L.getD c Go.undef := fun L h => by
          rw [List.getD_eq_getElem?_getD, List.getElem?_eq_getElem h]; rfl
        rw [q1, q1, getD_drop_take _ _ _ _ (by omega), splice_getD _ _ _ _ (by omega), splice_getD _ _ _ _ (by omega), getD_drop_take _ _ _ _ (by omega)]
        by_cases hc : j ≤ c ∧ c < j + v.cells.toList.length
        · rw [if_pos (by omega), if_pos hc, show i * sz + c - (i * sz + j) = c - j by omega]
        · rw [if_neg (by omega), if_neg hc]
    rw [e]
    exact .agg _ _ (by simpa using h4.1) h4.2.1 fun c hc => by simpa using h4.2.2 c hc
  cases x with
  | agg zs =>
    rcases hy' with ⟨hleaf, rfl⟩ | rfl
    · have hk' : j < zs.length ∧ k (.agg (zs.set j y)) := by
        cases y <;> first | exact hk | exact hleaf.elim
      exact agg zs rfl (Nat.succ_le_of_lt hk'.1) hk'.2
    · exact agg zs rfl hk.1 hk.2
  | undef => exact hfx.elim
  | tup xs => exact hfx.elim
  | _ =>
    rcases hy' with ⟨hleaf, rfl⟩ | rfl
    · obtain ⟨hag, hsz⟩ := hfx
      have hk' : j = 0 ∧ k y := by cases y <;> first | exact hk | exact hleaf.elim
      obtain ⟨rfl, hkk⟩ := hk'
      cases sh with
      | mk sz ag =>
      simp only at hag hsz hl
      subst hag; subst hsz
      have hl1 : v.cells.toList.length = 1 := by simpa using hlen
      simp only [Nat.mul_one, Nat.add_zero, Nat.zero_add] at hl ⊢
      refine ⟨by simpa using hlen.trans hn', by omega, hone, y, hkk, ?_, ?_⟩
      · cases y <;> first | exact ⟨rfl, rfl⟩ | exact hleaf.elim
      · rw [elemV_cell, splice_getD _ _ _ _ (by omega), if_pos (by omega)]
        have h1 := hy.leaf_oneCell hleaf
        rw [cells_single h1]
        simpa using hy
    · exact hk.elim

theorem run_store {t : TypeId} {ti : TI} (ht : tiOf P t = some ti) (h : RS B N φ fp S ts m a w) {p y : AV} {u v : Value} (hp : RV w S φ p u) (hy : RV w S φ y v) (hyl : ∀ l ver, (l, ver) ∈ labs y → known m l ver)
    {k : Mem → Prop} (hk : sStore ti.size p y m k) : RunsU B N a (fun ts' m' => ts' = ts ∧ k m') ((Instr.storeAt t u v).run P w) := by
  unfold sStore at hk
  split at hk
  · rename_i l ver i j
    have hp1 := rv_ptr hp
    unfold sStoreB at hk
    split at hk
    · rename_i v' xs hlk
      obtain ⟨rfl, rfl, hk⟩ := hk
      obtain ⟨b, cs, e, sh, hφ, hfs, hheap, hsz, hlf, hr⟩ := h.mSome l _ hlk
      have hpv := hp1 b sh hφ
      rw [Nat.zero_mul, Nat.zero_add] at hpv
      subst hpv
      obtain ⟨ys, ⟨h1, h2, h3⟩, hrl, hlab, hone⟩ := hy.cells hk
      have hlen : v.cells.toList.length = ys.length := hrl.1
      refine ⟨_, run_storeVar_at ht hheap (by omega) (by omega) hone, ?_⟩
      have hxs : RL (RV w S φ) xs cs.toList := ⟨by simpa using hsz, hlf, hr⟩
      have hnew := hxs.splice hrl j h2
      have hsp : j + v.cells.toList.length ≤ cs.size := by omega
      have hz := Sized.setRow φ hheap (size_splice hsp)
      have hbm := h.at_mem hφ
      have hbl : ∀ l' ver, (l', ver) ∈ labsL (setL xs j ys) → known m l' ver := by
        intro l' ver hl'
        obtain ⟨i, hi, hl2⟩ := of_mem_labsL hl'
        have hg := setL_getElem? ys xs j i h2
        rw [List.getElem?_eq_getElem hi] at hg
        split at hg
        · obtain ⟨g1, g2⟩ := List.getElem?_eq_some_iff.1 hg.symm
          exact hyl l' ver (hlab _ (mem_labsL g1 (g2 ▸ hl2)))
        · obtain ⟨g1, g2⟩ := List.getElem?_eq_some_iff.1 hg.symm
          exact h.bl l v' xs hlk l' ver (mem_labsL g1 (g2 ▸ hl2))
      have hRS := h.write hφ hheap (size_splice hsp) (.box v' (setL xs j ys)) rfl
        ⟨b, _, e, sh, by rw [upd_same]; exact hφ, hfs, heap_setRow hheap _, by rw [size_splice hsp, setL_length]; exact hsz, hnew.2.1, fun i hi => by
          have := hnew.2.2 i hi
          refine (this.mono (fun c hc => heap_setRow_other (b := b) _ fun e => h.notS l b hbm (by rw [← e]; exact hc)) (fun _ h => h) hz fun l' ver _ => ?_)
          by_cases e : l' = l
          · subst e; rw [upd_same]; exact LS.le_refl _ _
          · rw [upd_other _ _ _ _ e]; exact LS.le_refl _ _⟩
        (fun v xs hx l' ver hl' => by cases hx; exact hbl l' ver hl')
      exact ⟨_, _, _, _, _, hRS, rfl, h3⟩
    · rename_i v' sh deep xs hlk
      obtain ⟨rfl, hfy, hk⟩ := hk
      cases hx : xs[i]? with
      | none => rw [hx] at hk; exact hk.elim
      | some x =>
        rw [hx] at hk
        obtain ⟨hfx, hn, hk⟩ := hk
        obtain ⟨hi1, hi2⟩ := List.getElem?_eq_some_iff.1 hx
        have hb := h.mSome l _ hlk
        rcases hb with ⟨_, hnil, _⟩ | ⟨b, cap, hφ, hbm, hdp, hown⟩
        · subst hnil; exact absurd hi1 (Nat.not_lt_zero _)
        · have hpv := hp1 b sh hφ
          subst hpv
          generalize hgf : fp l = fs at hown hbm hdp
          cases hown with
          | rd _ _ hrd => exact absurd hbm (by simp)
          | arr _ _ _ _ cs e fss hheap hcs hcap hmx hff hfl hvv =>
            have hxo := hvv i hi1
            have hxf := hff i hi1
            rw [hi2] at hxo hxf
            have hroom : i * sh.sz + sh.sz ≤ cs.toList.length := by
              have h1 := mul_le_of_lt (s := sh.sz) (Nat.lt_of_lt_of_le hi1 hcap)
              simp only [Array.length_toList]; omega
            have hy0 : Rd w (fun _ => False) y v := by
              cases hy with
              | rd _ _ hy => exact (flat_rd (fs := []) (.rd _ _ hy) hfy).1
              | agg ys cs' g1 g2 g3 =>
                have hall : ∀ (xs : List AV), isFlatL xs = true → ∀ i (h : i < xs.length), isFlat xs[i] = true := by
                  intro xs
                  induction xs with
                  | nil => intro _ i h; exact absurd h (Nat.not_lt_zero _)
                  | cons x r ih2 =>
                    intro hh i hi
                    simp only [isFlatL, Bool.and_eq_true] at hh
                    cases i with
                    | zero => exact hh.1
                    | succ i => exact ih2 hh.2 i (by simpa using hi)
                refine .agg ys cs' g1 g2 fun c hc => ?_
                have q1 := g3 c hc
                have q2 := hall ys hfy c hc
                have q3 := g2 c hc
                generalize ys[c] = z at q1 q2 q3 ⊢
                generalize cs'.toList.getD c Go.undef = u' at q1 ⊢
                cases q1 with
                | rd _ _ hz => exact (flat_rd (fs := []) (.rd _ _ hz) q2).1
                | agg => exact q3.elim
                | tup => exact q3.elim
                | clo => cases q2
                | ref => cases q2
                | ptr => cases q2
              | tup => cases hfy
              | clo => cases hfy
              | ref => cases hfy
              | ptr => cases hfy
            obtain ⟨g1, g2, g3, x', hkx, hfx', hrd'⟩ := put_rd (S := fun _ => False) (flat_rd hxo hfx).1 hxf hy0 hroom (n := ti.size) (by cases y <;> exact hn) hk hfy
            have hsp : i * sh.sz + j + v.cells.toList.length ≤ cs.size := by
              simp only [Array.length_toList] at hroom; omega
            refine ⟨_, run_storeVar_at ht hheap g1 hsp g3, ?_⟩
            have hfss : ∀ c, c ∈ fss.flatten → c ≠ b := by
              have := h.nod l
              rw [hgf] at this
              exact fun c hc e => (List.nodup_cons.1 this).1 (e ▸ hc)
            have hRS := h.write hφ hheap (size_splice hsp) (.row v' sh deep (xs.set i x')) rfl
              (.inr ⟨b, cap, by rw [upd_same]; exact hφ, by rw [hgf]; exact hbm, by rw [hgf]; exact hdp, by
                rw [hgf]
                have hmk := Own.arr (w := w.setRow b (cs.toList.take (i * sh.sz + j) ++ v.cells.toList ++ cs.toList.drop (i * sh.sz + j + v.cells.toList.length)).toArray) (S := if deep = true then fun _ => False else S)
                  sh (xs.set i x') b cap _ e fss (heap_setRow hheap _) (by rw [size_splice hsp]; exact hcs) (by rw [List.length_set]; exact hcap) hmx ?_ (by rw [List.length_set]; exact hfl) ?_
                · exact hmk
                · intro c hc
                  rw [List.length_set] at hc
                  rw [List.getElem_set]
                  split
                  · exact hfx'
                  · exact hff c hc
                · intro c hc
                  rw [List.length_set] at hc
                  rw [List.getElem_set]
                  by_cases hic : i = c
                  · subst hic
                    rw [if_pos rfl]
                    have := (flat_rd (S' := fun _ => False) hxo hfx).2
                    rw [this]
                    exact .rd _ _ (hrd'.mono (fun _ h => h.elim) (fun _ h => h.elim))
                  · rw [if_neg hic]
                    rw [elemV_splice_other (Ne.symm hic) g2 hroom (fun hag => by
                      cases x <;> first | exact hxf.2 | exact hxf.elim | (have := hxf.1; rw [hag] at this; cases this))]
                    refine (hvv c hc).mono (fun q hq => ?_) (fun _ h => h) fun q hq => heap_setRow_other _ (hfss q (mem_flatten_getD (hfl ▸ hc) hq))
                    cases deep with
                    | true => exact hq.elim
                    | false => exact heap_setRow_other _ fun e => h.notS l b (h.at_mem hφ) (e ▸ hq)⟩)
              (fun _ _ hx => by cases hx)
            exact ⟨_, _, _, _, _, hRS, rfl, hkx⟩
    · exact hk.elim
  · exact hk.elim

theorem set_flatten_perm (fs : List Nat) : ∀ (fss : List (List Nat)) (i : Nat), i < fss.length → fss.getD i [] = [] → (fss.set i fs).flatten.Perm (fs ++ fss.flatten)
  | x :: r, 0, _, h => by
    have h : x = [] := h
    subst h; simp
  | x :: r, i + 1, hi, h => by
    have ih := set_flatten_perm fs r i (by simpa using hi) (by simpa using h)
    simp only [List.set_cons_succ, List.flatten_cons]
    refine (ih.append_left x).trans ?_
    rw [← List.append_assoc, ← List.append_assoc]
    exact List.perm_append_comm.append_right _

theorem own_arr {sh : Sh} {ys : List AV} {u : Value} {fs : List Nat} (h : Own w (fun _ => False) (.arr sh ys) u fs) :
    (ys = [] ∧ fs = [] ∧ ∃ a, u = .slice a 0 0) ∨ ∃ (b cap : Nat) (cs : Array Value) (e : TypeId) (fss : List (List Nat)), u = .slice (some ⟨b, 0, none⟩) ys.length cap ∧ fs = b :: fss.flatten ∧ w.heap[b]? = some (.cells cs e (0, 0)) ∧ cs.size = cap * sh.sz ∧ ys.length ≤ cap ∧ cap ≤ maxLen ∧
      (∀ i (h : i < ys.length), fits sh ys[i]) ∧ fss.length = ys.length ∧ ∀ i (h : i < ys.length), Own w (fun _ => False) ys[i] (elemV cs.toList (i * sh.sz) sh) (fss.getD i []) := by
  cases h with
  | rd _ _ h =>
    cases h with
    | nil _ a => exact .inl ⟨rfl, rfl, a, rfl⟩
    | arr _ _ _ _ _ _ _ _ hS => exact hS.elim
  | arr _ _ b cap cs e fss hb hc hl hm hf hs hv => exact .inr ⟨b, cap, cs, e, fss, rfl, rfl, hb, hc, hl, hm, hf, hs, hv⟩

theorem own_val {u v : Value} {S0 : Nat → Prop} {fs : List Nat} (h : Own w S0 (.val u) v fs) : v = u ∧ fs = [] ∧ u.oneCell' = true := by
  cases h with
  | rd _ _ h => cases h with | val _ h => exact ⟨rfl, rfl, h⟩

theorem own_take {sh : Sh} {xs : List AV} {b cap : Nat} {fs : List Nat} {S : Nat → Prop} (h : Own w S (.arr sh xs) (.slice (some ⟨b, 0, none⟩) xs.length cap) fs) (hb : b ∈ fs) (n : Nat) (hn : n ≤ xs.length) :
    ∃ gs, Own w S (.arr sh (xs.take n)) (.slice (some ⟨b, 0, none⟩) n cap) gs ∧ gs.Sublist fs ∧ ∃ cs e, w.heap[b]? = some (.cells cs e (0, 0)) ∧ cs.size = cap * sh.sz := by
  cases h with
  | rd => cases hb
  | arr _ _ _ _ cs e fss hheap hc hl hm hf hs hv =>
    have hlen : (xs.take n).length = n := by simp; omega
    refine ⟨b :: (fss.take n).flatten, ?_, ?_, cs, e, hheap, hc⟩
    · have := Own.arr (w := w) (S := S) sh (xs.take n) b cap cs e (fss.take n) hheap hc (by omega) hm (fun i hi => by rw [List.getElem_take]; exact hf i (by omega)) (by simp; omega) (fun i hi => by
        rw [List.getElem_take, show (fss.take n).getD i [] = fss.getD i [] by
          rw [List.getD_eq_getElem?_getD, List.getD_eq_getElem?_getD, List.getElem?_take, if_pos (by omega)]]
        exact hv i (by omega))
      rwa [hlen] at this
    · refine List.Sublist.cons_cons b ?_
      conv => rhs; rw [← List.take_append_drop n fss, List.flatten_append]
      exact List.sublist_append_left _ _


theorem own_of_ref (h : RS B N φ fp S ts m a w) {l v n : Nat} {sh : Sh} {xs : List AV} {u : Value} (hlk : lookB m l = some (.row v sh true xs)) (hx : RV w S φ (.ref l v 0 n) u) (h0 : 0 < sh.sz) (hn : n ≤ xs.length) :
    ∃ fs, Own w (fun _ => False) (.arr sh (xs.take n)) u fs ∧ fs.Sublist (fp l) := by
  obtain ⟨r1, r2⟩ := rv_ref hx
  have hnil : n = 0 → (∃ ad, u = .slice ad 0 0) → ∃ fs, Own w (fun _ => False) (.arr sh (xs.take n)) u fs ∧ fs.Sublist (fp l) := by
    rintro rfl ⟨ad, rfl⟩
    exact ⟨[], by rw [List.take_zero]; exact .rd _ _ (.nil sh ad), List.nil_sublist _⟩
  rcases h.mSome l _ hlk with ⟨hφ, hxs, _⟩ | ⟨b, cap, hφ, hbm, _, hown⟩
  · exact hnil (r2 hφ).1 (r2 hφ).2
  · obtain ⟨ad, cap', rfl, hcap, hc⟩ := r1 b sh hφ
    rcases hc with rfl | ⟨rfl, cs', e', hh', hs'⟩
    · have : n = 0 := by omega
      subst this
      exact hnil rfl ⟨_, rfl⟩
    · simp only [if_true] at hown
      obtain ⟨gs, g1, g2, cs, e, g3, g4⟩ := own_take hown hbm n hn
      rw [g3] at hh'
      injection hh' with hh'; injection hh' with e1
      subst e1
      rw [g4, Nat.zero_add] at hs'
      have : cap = cap' := Nat.eq_of_mul_eq_mul_right h0 hs'
      subst this
      exact ⟨gs, by simpa using g1, g2⟩

/-- Stores; a row may go into a row. -/
theorem run_storeX {t : TypeId} {ti : TI} (ht : tiOf P t = some ti) (h : RS B N φ fp S ts m a w) {p y : AV} {u v : Value} (hp : RV w S φ p u) (hy : RV w S φ y v) (hyl : ∀ l ver, (l, ver) ∈ labs y → known m l ver)
    {k : Mem → Prop} (hk : sStoreX ti.size p y m k) : RunsU B N a (fun ts' m' => ts' = ts ∧ k m') ((Instr.storeAt t u v).run P w) := by
  unfold sStoreX at hk
  split at hk
  · rename_i l ver i j l2 v2 i2 n2
    unfold sStoreR at hk
    split at hk
    · rename_i v' xs hlk
      obtain ⟨rfl, ⟨hn, rfl, rfl, hi, hne, hio⟩, hk⟩ := hk
      unfold sMvB at hk
      split at hk
      · rename_i v2' sh2 ys hlk2
        obtain ⟨rfl, h0, hn2, hk⟩ := hk
        obtain ⟨fsY, hoY, hsub⟩ := own_of_ref h hlk2 hy h0 hn2
        rcases h.mSome l _ hlk with ⟨_, hnil, _⟩ | ⟨b, cap, hφ, hbm, _, hown⟩
        · subst hnil; exact absurd hi (Nat.not_lt_zero _)
        · have hpv := rv_ptr hp b _ hφ
          simp only [Nat.mul_one, Nat.add_zero] at hpv
          subst hpv
          simp only [if_true] at hown
          rcases own_arr hown with ⟨hx0, _⟩ | ⟨b', cap', cs, e, fss, q1, hgf, hheap, hcs, hcap, hmx, hff, hfl, hvv⟩
          · subst hx0; exact absurd hi (Nat.not_lt_zero _)
          simp only [Value.slice.injEq, Option.some.injEq, Addr.mk.injEq] at q1
          obtain ⟨⟨rfl, _⟩, _, rfl⟩ := q1
          have hv1 : v.oneCell' = true := hy.leaf_oneCell trivial
          have hvc : v.cells.toList = [v] := by rw [cells_single hv1]
          have hil : i < cs.toList.length := by
            simp only [Array.length_toList]; rw [hcs]; simp only [Nat.mul_one]; exact Nat.lt_of_lt_of_le hi hcap
          have hrun := run_storeVar_at (P := P) ht hheap (o := i) (v := v) (by rw [hvc]; exact hn.symm) (by rw [hvc]; simp at hil ⊢; omega) (by rw [hvc]; intro u hu; simp at hu; subst hu; exact hv1)
          rw [hvc] at hrun
          refine ⟨_, hrun, ?_⟩
          have hsp : (cs.toList.take i ++ [v] ++ cs.toList.drop (i + [v].length)).toArray.size = cs.size := size_splice (cs := cs) (o := i) (vs := [v]) (by simp at hil ⊢; omega)
          have hR1 := h.give l2 _ hlk2 S (fun _ h => h) (fun b h1 h2 => absurd h1 h2)
          have hnl : l ≠ l2 := Ne.symm hne
          have hφ1 : upd φ l2 .dead l = φ l := upd_other _ _ _ _ hnl
          have hY1 : ∀ c, c ∈ fsY → c ∈ fp l2 := fun c hc => hsub.subset hc
          have hYb : ∀ c, c ∈ fsY → c ≠ b := fun c hc e => hne (h.dis l2 l c (hY1 c hc) (e ▸ hbm))
          have hnodl := h.nod l
          rw [hgf] at hnodl
          have hbf : ∀ c, c ∈ fss.flatten → c ≠ b := fun c hc e => (List.nodup_cons.1 hnodl).1 (e ▸ hc)
          have hlf : i < fss.length := by omega
          have hpiece : ∀ c, c ∈ (fss.set i fsY).flatten → c ∈ fsY ∨ c ∈ fss.flatten := by
            intro c hc
            obtain ⟨q, hq, hcq⟩ := List.mem_flatten.1 hc
            rcases List.mem_or_eq_of_mem_set hq with hq | rfl
            · exact .inr (List.mem_flatten.2 ⟨q, hq, hcq⟩)
            · exact .inl hcq
          have hnodS : (fss.set i []).flatten.Nodup := by
            have hsl : ∀ (fss : List (List Nat)) (i : Nat), ((fss.set i []).flatten).Sublist fss.flatten := by
              intro fss
              induction fss with
              | nil => intro i; simp
              | cons x r ih =>
                intro i
                cases i with
                | zero => simp
                | succ i => simpa using (List.Sublist.refl x).append (ih i)
            exact (List.nodup_cons.1 hnodl).2.sublist (hsl fss i)
          have hperm : (fss.set i fsY).flatten.Perm (fsY ++ (fss.set i []).flatten) := by
            have := set_flatten_perm fsY (fss.set i []) i (by simpa using hlf) (by simp [List.getD_eq_getElem?_getD, hlf])
            rwa [List.set_set] at this
          have hpS : ∀ c, c ∈ (fss.set i []).flatten → c ∈ fss.flatten := by
            intro c hc
            obtain ⟨q, hq, hcq⟩ := List.mem_flatten.1 hc
            rcases List.mem_or_eq_of_mem_set hq with hq | rfl
            · exact List.mem_flatten.2 ⟨q, hq, hcq⟩
            · cases hcq
          have hnod2 : (b :: (fss.set i fsY).flatten).Nodup := by
            refine List.nodup_cons.2 ⟨fun hc => ?_, hperm.nodup_iff.2 (List.nodup_append.2 ⟨hsub.nodup (h.nod l2), hnodS, ?_⟩)⟩
            · rcases hpiece b hc with hc | hc
              · exact hYb b hc rfl
              · exact hbf b hc rfl
            · rintro c hc c' hc' rfl
              exact hne (h.dis l2 l c (hY1 c hc) (by rw [hgf]; exact List.mem_cons_of_mem _ (hpS c hc')))
          have hfin : ∀ c, c ∈ b :: (fss.set i fsY).flatten → c ∈ fp l ∨ c ∈ fp l2 := by
            intro c hc
            rcases List.mem_cons.1 hc with rfl | hc
            · exact .inl hbm
            · rcases hpiece c hc with hc | hc
              · exact .inr (hY1 c hc)
              · exact .inl (by rw [hgf]; exact List.mem_cons_of_mem _ hc)
          refine ⟨_, _, _, _, _, hR1.next l (φ l) (b :: (fss.set i fsY).flatten) S (.row v' ⟨1, false⟩ true (xs.set i (.arr sh2 (ys.take n2)))) (by simp) ⟨rfl, rfl, rfl⟩ (Szs.setRow hheap hsp) ?_ (fun c hc => ⟨hc, heap_setRow_other _ fun e => h.notS l b hbm (e ▸ hc)⟩) (fun c h1 h2 => absurd h1 h2)
            (Sized.setRow _ hheap hsp) ?_ (fun ver _ => by rw [hφ1]; exact LS.le_refl _ _) ?_ ?_ (fun _ _ hx => by cases hx) hnod2 ?_, rfl, hk⟩
          · intro c hc hio'
            refine heap_setRow_other _ fun e => ?_
            subst e
            rcases (h.fpB l c hbm).2 with hh | hh
            · exact Nat.lt_irrefl _ (Nat.lt_of_lt_of_le hc hh)
            · exact hio' _ hh.choose_spec.1
          · intro l' hl' c hc
            refine heap_setRow_other _ fun e => ?_
            subst e
            by_cases e2 : l' = l2
            · subst e2; rw [upd_same] at hc; cases hc
            · rw [upd_other _ _ _ _ e2] at hc; exact hl' (h.dis l' l c hc hbm)
          · rintro ver ⟨k', h1, h2⟩
            rw [lookB_cons, if_neg hne, hlk] at h1; cases h1; exact h2
          · refine .inr ⟨b, cap, by rw [upd_same]; exact hφ, List.mem_cons_self .., fun h => (by cases h), ?_⟩
            refine .arr ⟨1, false⟩ _ b cap _ e (fss.set i fsY) (heap_setRow hheap _) (by rw [hsp]; exact hcs) (by rw [List.length_set]; exact hcap) hmx (fun c hc => ?_) (by simpa using hfl) (fun c hc => ?_)
            · rw [List.getElem_set]
              split
              · exact ⟨rfl, rfl⟩
              · exact hff c (by simpa using hc)
            · have hc' : c < xs.length := by simpa using hc
              by_cases hic : i = c
              · subst hic
                rw [List.getElem_set_self]
                have e1 : (fss.set i fsY).getD i [] = fsY := by simp [List.getD_eq_getElem?_getD, hlf]
                have hlt : (cs.toList.take i).length = i := by simp only [List.length_take]; omega
                have e2 : elemV (cs.toList.take i ++ [v] ++ cs.toList.drop (i + [v].length)) (i * 1) ⟨1, false⟩ = v := by
                  rw [elemV_cell, Nat.mul_one, List.getD_eq_getElem?_getD, List.getElem?_append_left (by rw [List.length_append, hlt]; simp), List.getElem?_append_right (by omega), hlt]; simp
                rw [e1]
                show Own _ _ _ (elemV (cs.toList.take i ++ [v] ++ cs.toList.drop (i + [v].length)) (i * 1) ⟨1, false⟩) _
                rw [e2]
                exact hoY.mono (fun _ h => h.elim) (fun _ h => h) fun c hc => heap_setRow_other _ (hYb c hc)
              · rw [List.getElem_set_ne hic]
                have e1 : (fss.set i fsY).getD c [] = fss.getD c [] := by simp [List.getD_eq_getElem?_getD, List.getElem?_set, hic]
                have e2 := elemV_splice_other (l := cs.toList) (vs := [v]) (sh := ⟨1, false⟩) (i := i) (i' := c) (j := 0) (Ne.symm hic) (by simp) (by simp at hil ⊢; omega) (fun _ => rfl)
                simp only [Nat.mul_one, Nat.add_zero] at e2
                rw [e1]
                show Own _ _ _ (elemV (cs.toList.take i ++ [v] ++ cs.toList.drop (i + [v].length)) (c * 1) ⟨1, false⟩) _
                rw [Nat.mul_one, e2]
                have := hvv c hc'
                rw [Nat.mul_one] at this
                exact this.mono (fun _ h => h.elim) (fun _ h => h) fun q hq => heap_setRow_other _ (hbf q (mem_flatten_getD (hfl ▸ hc') hq))
          · intro c hc
            have hw : (w.setRow b (cs.toList.take i ++ [v] ++ cs.toList.drop (i + [v].length)).toArray).heap.size = w.heap.size := by simp
            rcases hfin c hc with hcl | hcl
            · have := h.fpB l c hcl
              refine ⟨h.notS l c hcl, fun l' hl' hc' => ?_, by rw [hw]; exact this.1, this.2⟩
              by_cases e2 : l' = l2
              · subst e2; rw [upd_same] at hc'; cases hc'
              · rw [upd_other _ _ _ _ e2] at hc'; exact hl' (h.dis l' l c hc' hcl)
            · have := h.fpB l2 c hcl
              refine ⟨h.notS l2 c hcl, fun l' hl' hc' => ?_, by rw [hw]; exact this.1, .inl (this.2.resolve_right fun hh => Nat.lt_irrefl _ (Nat.lt_of_lt_of_le hio hh.choose_spec.2.1))⟩
              by_cases e2 : l' = l2
              · subst e2; rw [upd_same] at hc'; cases hc'
              · rw [upd_other _ _ _ _ e2] at hc'; exact e2 (h.dis l' l2 c hc' hcl)
      · exact hk.elim
    · exact run_store ht h hp hy hyl hk
  · exact run_store ht h hp hy hyl hk

end
end Go.Vc
