import Derived.Laws.IdiomStrings
import Derived.Deep.LoopGhost
import Derived.Test.YthdheoafaakbbaaGreatPkLawOrderKeysA
set_option linter.unusedVariables false
set_option linter.unusedSimpArgs false
set_option linter.unnecessarySimpa false
namespace Go.Vc

def setV (cs : List Value) (j : Nat) : List Value → List Value
  | [] => cs
  | v :: vs => setV (cs.set j v) (j + 1) vs
theorem setV_length (vs : List Value) : ∀ (cs : List Value) (j : Nat), (setV cs j vs).length = cs.length := by
  induction vs with
  | nil => intro cs j; rfl
  | cons v r ih => intro cs j; simp only [setV]; rw [ih, List.length_set]
theorem RL.set {R : AV → Value → Prop} {xs : List AV} {cs : List Value} (h : RL R xs cs) (j : Nat) {y : AV} {v : Value} (hy : leaf y) (hv : R y v) : RL R (xs.set j y) (cs.set j v) := by
  refine ⟨by rw [List.length_set, List.length_set]; exact h.1, fun i hi => ?_, fun i hi => ?_⟩
  · rw [List.length_set] at hi
    rw [List.getElem_set]
    split
    · exact hy
    · exact h.2.1 i hi
  · rw [List.length_set] at hi
    have hi' : i < cs.length := by rw [h.1]; exact hi
    rw [List.getElem_set, List.getD_eq_getElem?_getD, List.getElem?_set]
    split
    · rename_i e; subst e; simpa [hi'] using hv
    · simpa [List.getD_eq_getElem?_getD] using h.2.2 i hi
theorem RL.setV {R : AV → Value → Prop} : ∀ (ys : List AV) (vs : List Value) (xs : List AV) (cs : List Value) (j : Nat), RL R xs cs → RL R ys vs → RL R (setL xs j ys) (Vc.setV cs j vs)
  | [], vs, xs, cs, j, h, h' => by
    have : vs = [] := List.eq_nil_of_length_eq_zero h'.1
    subst this; exact h
  | y :: ys, vs, xs, cs, j, h, h' => by
    cases vs with
    | nil => have := h'.1; simp at this
    | cons v vs =>
      refine RL.setV ys vs _ _ (j + 1) (h.set j (h'.2.1 0 (by simp)) (by have := h'.2.2 0 (by simp); exact this)) ⟨by simpa using h'.1, fun i hi => ?_, fun i hi => ?_⟩
      · have := h'.2.1 (i + 1) (by simpa using hi); exact this
      · have := h'.2.2 (i + 1) (by simpa using hi); exact this

theorem fold_set (l : List Value) (off : Nat) : ∀ (k : Nat) (cs : Array Value), ((l.zipIdx k).foldl (fun cs (c, j) => cs.setIfInBounds (off + j) c) cs).toList = setV cs.toList (off + k) l := by
  induction l with
  | nil => intro k cs; rfl
  | cons v r ih =>
    intro k cs
    simp only [List.zipIdx_cons, List.foldl_cons, setV]
    rw [ih, Array.toList_setIfInBounds, Nat.add_assoc]

theorem fold_setA (vs cs : Array Value) (off : Nat) : (vs.zipIdx.foldl (fun cs (c, j) => cs.setIfInBounds (off + j) c) cs).toList = setV cs.toList off vs.toList := by
  have := fold_set vs.toList off 0 cs
  rw [← Array.foldl_toList, Array.toList_zipIdx]
  simpa using this

def sFill (fs : List (Nat × Nat × Bool)) (cells : List AV) (k : List AV → Prop) : List (Nat × AV) → Prop
  | [] => k cells
  | (i, x) :: r => sFld fs[i]? fun fd => sCells x fun ys => ys.length = fd.2.1 ∧ fd.1 + ys.length ≤ cells.length ∧ sFill fs (setL cells fd.1 ys) k r
theorem sFill_nil (fs : List (Nat × Nat × Bool)) (cells : List AV) (k : List AV → Prop) : sFill fs cells k [] = k cells := rfl
theorem sFill_cons (fs : List (Nat × Nat × Bool)) (cells : List AV) (k : List AV → Prop) (i : Nat) (x : AV) (r : List (Nat × AV)) :
    sFill fs cells k ((i, x) :: r) = sFld fs[i]? fun fd => sCells x fun ys => ys.length = fd.2.1 ∧ fd.1 + ys.length ≤ cells.length ∧ sFill fs (setL cells fd.1 ys) k r := rfl
def sBuild (ti : TI) (parts : List (Nat × AV)) (k : AV → Prop) : Prop := sCells ti.zero fun zs => sFill ti.fields zs (fun cs => k (.agg cs)) parts
theorem sBuild_eq (ti : TI) (parts : List (Nat × AV)) (k : AV → Prop) : sBuild ti parts k = sCells ti.zero fun zs => sFill ti.fields zs (fun cs => k (.agg cs)) parts := rfl

def sFillR (sh : Sh) (xs : List AV) (k : List AV → Prop) : List (Nat × AV) → Prop
  | [] => k xs
  | (i, x) :: r => i < xs.length ∧ fits sh x ∧ labs x = [] ∧ sFillR sh (xs.set i x) k r
theorem sFillR_nil (sh : Sh) (xs : List AV) (k : List AV → Prop) : sFillR sh xs k [] = k xs := rfl
theorem sFillR_cons (sh : Sh) (xs : List AV) (k : List AV → Prop) (i : Nat) (x : AV) (r : List (Nat × AV)) : sFillR sh xs k ((i, x) :: r) = (i < xs.length ∧ fits sh x ∧ labs x = [] ∧ sFillR sh (xs.set i x) k r) := rfl
def sBuildSlice (ti : TI) (d n : Nat) (parts : List (Nat × AV)) (m : Mem) (k : AV → Mem → Prop) : Prop :=
  (n * ti.size ≤ 16777216 ∧ n ≤ 16777216 ∧ fits ti.sh ti.zero) ∧ sFillR ti.sh (List.replicate n ti.zero) (fun xs => k (.ref d (newVer m d) 0 n) ((d, .row (newVer m d) ti.sh (isFlatL xs) xs) :: m)) parts
theorem sBuildSlice_eq (ti : TI) (d n : Nat) (parts : List (Nat × AV)) (m : Mem) (k : AV → Mem → Prop) : sBuildSlice ti d n parts m k =
  ((n * ti.size ≤ 16777216 ∧ n ≤ 16777216 ∧ fits ti.sh ti.zero) ∧ sFillR ti.sh (List.replicate n ti.zero) (fun xs => k (.ref d (newVer m d) 0 n) ((d, .row (newVer m d) ti.sh (isFlatL xs) xs) :: m)) parts) := rfl

theorem labs_val (v : Value) : labs (.val v) = [] := rfl
theorem labs_arr (sh : Sh) (xs : List AV) : labs (.arr sh xs) = [] := rfl
theorem labs_agg (xs : List AV) : labs (.agg xs) = labsL xs := rfl
theorem labsL_nil : labsL [] = [] := rfl
theorem labsL_cons (x : AV) (r : List AV) : labsL (x :: r) = labs x ++ labsL r := rfl

section
variable {P : Program} {B : Base} {N : Nat} {φ : Nat → LS} {fp : Nat → List Nat} {S : Nat → Prop} {ts : Env} {m : Mem} {a : Act} {w : World}

theorem labs_nil_get {xs : List AV} (h : labsL xs = []) : ∀ i (hi : i < xs.length), labs xs[i] = [] := by
  intro i hi
  apply List.eq_nil_iff_forall_not_mem.2
  intro l hl
  have := mem_labsL hi hl
  rw [h] at this; cases this

theorem rd_of_rv {x : AV} {v : Value} (h : RV w S φ x v) (hl : labs x = []) : Rd w S x v := by
  induction h with
  | rd x v h => exact h
  | agg xs cs h1 h2 _ ih => exact .agg xs cs h1 h2 fun i hi => ih i hi (labs_nil_get (by simpa [labs] using hl) i hi)
  | tup xs cs h1 _ ih => exact .tup xs cs h1 fun i hi => ih i hi (labs_nil_get (by simpa [labs] using hl) i hi)
  | clo f xs cs h1 _ ih => exact .clo f xs cs h1 fun i hi => ih i hi (labs_nil_get (by simpa [labs] using hl) i hi)
  | ref => simp [labs] at hl
  | ptr => simp [labs] at hl

def PR (R : AV → Value → Prop) : List (Nat × AV) → List (Nat × Value) → Prop
  | [], [] => True
  | (i, x) :: r, (j, v) :: s => i = j ∧ R x v ∧ PR R r s
  | _, _ => False

theorem PR_map (h : RS B N φ fp S ts m a w) (l : List (Nat × Operand)) : PR (RV w S φ) (l.map fun p => (p.1, Vc.ev ts p.2)) (l.map fun p => (p.1, a.eval p.2)) := by
  induction l with
  | nil => trivial
  | cons p r ih => exact ⟨rfl, h.ev p.2, ih⟩

theorem sFill_out {fs : List Field} {Q : List AV → Prop} : ∀ (parts : List (Nat × AV)) (vparts : List (Nat × Value)) (cells : List AV) (cs : Array Value), PR (RV w S φ) parts vparts → RL (RV w S φ) cells cs.toList →
    (∀ l, l ∈ labsL cells → known m l.1 l.2) → (∀ p, p ∈ parts → ∀ l, l ∈ labs p.2 → known m l.1 l.2) →
    sFill (fs.map fun f => (f.offset, sizeOf' P f.type, aggOf P f.type)) cells Q parts →
    ∃ cells' cs', Q cells' ∧ Instr.fill ((fs.map fun f => (f.offset, sizeOf' P f.type)).toArray[·]?) cs vparts = some cs' ∧ RL (RV w S φ) cells' cs'.toList ∧ ∀ l, l ∈ labsL cells' → known m l.1 l.2
  | [], vparts, cells, cs, hp, hr, hl, _, hk => by
    cases vparts with
    | nil => exact ⟨cells, cs, hk, rfl, hr, hl⟩
    | cons => exact hp.elim
  | (i, x) :: r, vparts, cells, cs, hp, hr, hl, hpl, hk => by
    cases vparts with
    | nil => exact hp.elim
    | cons q s =>
      obtain ⟨j, v⟩ := q
      obtain ⟨rfl, hx, hp⟩ := hp
      simp only [sFill, List.getElem?_map] at hk
      cases hf : fs[i]? with
      | none => rw [hf] at hk; exact hk.elim
      | some f =>
        rw [hf] at hk
        simp only [Option.map_some, sFld] at hk
        obtain ⟨ys, ⟨h1, h2, hk⟩, hrl, hlab, hone⟩ := hx.cells hk
        have hsp := RL.setV ys v.cells.toList cells cs.toList f.offset hr hrl
        have hnew : ∀ l, l ∈ labsL (setL cells f.offset ys) → known m l.1 l.2 := by
          intro l hl'
          obtain ⟨q, hq, hl2⟩ := of_mem_labsL hl'
          have hg := setL_getElem? ys cells f.offset q h2
          rw [List.getElem?_eq_getElem hq] at hg
          split at hg
          · obtain ⟨g1, g2⟩ := List.getElem?_eq_some_iff.1 hg.symm
            exact hpl (i, x) (List.mem_cons_self ..) l (hlab _ (mem_labsL g1 (g2 ▸ hl2)))
          · obtain ⟨g1, g2⟩ := List.getElem?_eq_some_iff.1 hg.symm
            exact hl l (mem_labsL g1 (g2 ▸ hl2))
        have hvl : v.cells.size = ys.length := by simpa using hrl.1
        obtain ⟨cells', cs', g1, g2, g3, g4⟩ := sFill_out r s _ (v.cells.zipIdx.foldl (fun cs (c, j) => cs.setIfInBounds (f.offset + j) c) cs) hp (by rw [fold_setA]; exact hsp) hnew (fun p hp => hpl p (List.mem_cons_of_mem _ hp)) hk
        refine ⟨cells', cs', g1, ?_, g3, g4⟩
        have hcl : cs.size = cells.length := by simpa using hr.1
        have e1 : (fs.map fun f => (f.offset, sizeOf' P f.type)).toArray[i]? = some (f.offset, sizeOf' P f.type) := by simp [hf]
        simp only [Instr.fill, e1]
        rw [if_neg (by simp; omega)]
        exact g2

theorem places_of {fs : List Field} (h : ∀ f, f ∈ fs → (P.info? f.type).isSome) : fs.mapM (fun f => (P.info? f.type).map fun i => (f.offset, i.size)) = some (fs.map fun f => (f.offset, sizeOf' P f.type)) := by
  induction fs with
  | nil => rfl
  | cons f r ih =>
    have h1 := h f (List.mem_cons_self ..)
    obtain ⟨i, hi⟩ := Option.isSome_iff_exists.1 h1
    simp [List.mapM_cons, hi, ih fun f hf => h f (List.mem_cons_of_mem _ hf), sizeOf']

def fieldsOk (P : Program) (t : TypeId) : Prop := ∀ fs, P.underlying t = some (.struct fs) → ∀ f, f ∈ fs.toList → (P.info? f.type).isSome

theorem run_build' {t : TypeId} {ti : TI} (ht : tiOf P t = some ti) (hks : ti.kind = .struct) (hfo : fieldsOk P t) (h : RS B N φ fp S ts m a w) {parts : List (Nat × AV)} {vparts : List (Nat × Value)} (hp : PR (RV w S φ) parts vparts)
    (hpl : ∀ p, p ∈ parts → ∀ l, l ∈ labs p.2 → known m l.1 l.2) {k : AV → Prop} (hk : sBuild ti parts k) :
    Runs B N a (fun x ts' m' => ts' = ts ∧ m' = m ∧ k x) ((Instr.build t vparts.toArray).run P w) := by
  obtain ⟨inf, dd, z, hi, hd, hz, hag, hsz, hby, hzz, hff, _, hkk⟩ := kind_of ht
  rw [hks] at hkk
  obtain ⟨fs, rfl⟩ : ∃ fs, dd = .struct fs := by cases dd <;> simp at hkk <;> exact ⟨_, rfl⟩
  simp only at hff
  unfold sBuild at hk
  rw [hzz, hff] at hk
  obtain ⟨zs, hk, hrl, hlab, hone⟩ := RV.cells (φ := φ) (S := S) (w := w) (.rd _ _ (rd_cAV z)) hk
  obtain ⟨cells', cs', g1, g2, g3, g4⟩ := sFill_out (P := P) parts vparts zs z.cells hp hrl (fun l hl => by have := hlab l hl; rw [labs_cAV] at this; cases this) hpl hk
  have hb : P.built t vparts = some cs' := by
    unfold Program.built
    simp only [hi, hd, hz, places_of (hfo fs hd), g2]
  refine ⟨_, w, run_build w t vparts.toArray cs' (by simpa using hb), h.gives (x := .agg cells') (.agg _ _ (by simpa using g3.1) g3.2.1 g3.2.2) (fun l ver hl => g4 (l, ver) (by simpa [labs] using hl)) ⟨rfl, rfl, g1⟩⟩

theorem fill_row {sh : Sh} {Q : List AV → Prop} : ∀ (parts : List (Nat × AV)) (vparts : List (Nat × Value)) (xs : List AV) (cs : Array Value), PR (RV w S φ) parts vparts → cs.size = xs.length * sh.sz →
    (∀ i (hi : i < xs.length), fits sh xs[i]) → (∀ i (hi : i < xs.length), Rd w S xs[i] (elemV cs.toList (i * sh.sz) sh)) → sFillR sh xs Q parts →
    ∃ xs' cs', Q xs' ∧ Instr.fill (fun i => some (i * sh.sz, sh.sz)) cs vparts = some cs' ∧ cs'.size = xs'.length * sh.sz ∧ xs'.length = xs.length ∧ (∀ i (hi : i < xs'.length), fits sh xs'[i]) ∧
      (∀ i (hi : i < xs'.length), Rd w S xs'[i] (elemV cs'.toList (i * sh.sz) sh))
  | [], vparts, xs, cs, hp, hs, hf, hr, hk => by
    cases vparts with
    | nil => exact ⟨xs, cs, hk, rfl, hs, rfl, hf, hr⟩
    | cons => exact hp.elim
  | (i, x) :: r, vparts, xs, cs, hp, hs, hf, hr, hk => by
    cases vparts with
    | nil => exact hp.elim
    | cons q s =>
      obtain ⟨j, v⟩ := q
      obtain ⟨rfl, hx, hp⟩ := hp
      obtain ⟨hi, hfx, hlx, hk⟩ := hk
      have hrx := rd_of_rv hx hlx
      have hroom := mul_le_of_lt (s := sh.sz) hi
      -- the cells of the part
      have hvc : v.cells.toList.length = sh.sz ∧ ∀ l : List Value, i * sh.sz + sh.sz ≤ l.length → elemV (setV l (i * sh.sz) v.cells.toList) (i * sh.sz) sh = v ∧ ∀ i', i' ≠ i → i' * sh.sz + sh.sz ≤ l.length → elemV (setV l (i * sh.sz) v.cells.toList) (i' * sh.sz) sh = elemV l (i' * sh.sz) sh := by
        have sget : ∀ (vs l : List Value) (o k : Nat), o + vs.length ≤ l.length → (setV l o vs).getD k Go.undef = if o ≤ k ∧ k < o + vs.length then vs.getD (k - o) Go.undef else l.getD k Go.undef := by
          intro vs
          induction vs with
          | nil => intro l o k _; simp only [setV, List.length_nil]; rw [if_neg (by omega)]
          | cons u us ih =>
            intro l o k h
            simp only [List.length_cons] at h ⊢
            simp only [setV]
            rw [ih _ _ _ (by rw [List.length_set]; omega)]
            by_cases hk : k = o
            · subst hk
              rw [if_neg (by omega), if_pos (by omega), Nat.sub_self]
              simp [List.getD_eq_getElem?_getD, show k < l.length by omega]
            · by_cases hk2 : o + 1 ≤ k ∧ k < o + 1 + us.length
              · rw [if_pos hk2, if_pos (by omega), show k - o = (k - (o + 1)) + 1 by omega]; simp [List.getD_eq_getElem?_getD]
              · rw [if_neg hk2, if_neg (by omega)]
                simp [List.getD_eq_getElem?_getD, Ne.symm hk]
        have hsz1 := fits_sz hfx
        have main : v.cells.toList.length = sh.sz → (∀ l : List Value, l = v.cells.toList → elemV l 0 sh = v) → v.cells.toList.length = sh.sz ∧ ∀ l : List Value, i * sh.sz + sh.sz ≤ l.length → elemV (setV l (i * sh.sz) v.cells.toList) (i * sh.sz) sh = v ∧ ∀ i', i' ≠ i → i' * sh.sz + sh.sz ≤ l.length → elemV (setV l (i * sh.sz) v.cells.toList) (i' * sh.sz) sh = elemV l (i' * sh.sz) sh := by
          intro hl hv
          refine ⟨hl, fun l hll => ⟨?_, fun i' hi' hll' => ?_⟩⟩
          · refine (elemV_ext (l' := v.cells.toList) (o' := 0) (by rw [setV_length]; exact hll) (by omega) hsz1 fun c hc => ?_).trans (hv _ rfl)
            rw [sget _ _ _ _ (by omega), if_pos (by omega)]
            congr 1; omega
          · refine elemV_ext (by rw [setV_length]; exact hll') hll' hsz1 fun c hc => ?_
            rw [sget _ _ _ _ (by omega), if_neg]
            rcases Nat.lt_or_gt_of_ne hi' with hlt | hgt
            · have := mul_le_of_lt (s := sh.sz) hlt; omega
            · have := mul_le_of_lt (s := sh.sz) hgt; omega
        have one : leaf x → sh.ag = false ∧ sh.sz = 1 → v.cells.toList.length = sh.sz ∧ ∀ l : List Value, i * sh.sz + sh.sz ≤ l.length → elemV (setV l (i * sh.sz) v.cells.toList) (i * sh.sz) sh = v ∧ ∀ i', i' ≠ i → i' * sh.sz + sh.sz ≤ l.length → elemV (setV l (i * sh.sz) v.cells.toList) (i' * sh.sz) sh = elemV l (i' * sh.sz) sh := by
          rintro hlf ⟨hag, hs1⟩
          have h1 := hrx.leaf_oneCell hlf
          have hc1 := cells_single h1
          exact main (by rw [hc1, hs1]; rfl) fun l hl => by rw [hl, hc1]; simp only [elemV, hag, Bool.false_eq_true, if_false]; rfl
        cases x with
        | agg zs =>
          obtain ⟨hag, hzl⟩ := hfx
          obtain ⟨cz, rfl, h1, h2, h3⟩ := rd_agg hrx
          have hlen : (Value.agg cz).cells.toList.length = sh.sz := by simpa [Value.cells] using h1.trans hzl
          refine main hlen fun l hl => ?_
          rw [hl]
          simp only [elemV, hag, if_true, List.drop_zero, Value.cells]
          rw [List.take_of_length_le (by simp only [Value.cells] at hlen; omega)]
        | undef => exact hfx.elim
        | tup xs => exact hfx.elim
        | _ => exact one trivial hfx
      have hcl : i * sh.sz + sh.sz ≤ cs.toList.length := by simp only [Array.length_toList, hs]; exact hroom
      obtain ⟨hv1, hv2⟩ := hvc.2 cs.toList hcl
      have e0 : (v.cells.zipIdx.foldl (fun cs (c, j) => cs.setIfInBounds (i * sh.sz + j) c) cs).toList = setV cs.toList (i * sh.sz) v.cells.toList := fold_setA _ _ _
      obtain ⟨xs', cs', g1, g2, g3, g4, g5, g6⟩ := fill_row r s (xs.set i x) (v.cells.zipIdx.foldl (fun cs (c, j) => cs.setIfInBounds (i * sh.sz + j) c) cs) hp
        (by rw [List.length_set, ← hs, ← Array.length_toList, e0, setV_length, Array.length_toList])
        (fun q hq => by
          rw [List.length_set] at hq; rw [List.getElem_set]
          split
          · exact hfx
          · exact hf q hq)
        (fun q hq => by
          rw [List.length_set] at hq; rw [List.getElem_set, e0]
          by_cases hqi : i = q
          · subst hqi; rw [if_pos rfl, hv1]; exact hrx
          · rw [if_neg hqi, hv2 q (Ne.symm hqi) (by simp only [Array.length_toList, hs]; exact mul_le_of_lt hq)]; exact hr q hq) hk
      refine ⟨xs', cs', g1, ?_, g3, by rw [g4, List.length_set], g5, g6⟩
      have hsz : v.cells.size = sh.sz := by simpa using hvc.1
      simp only [Instr.fill]
      rw [if_neg (by simp; omega)]
      exact g2

theorem run_buildSlice' {t : TypeId} {tt ti : TI} (htt : tiOf P t = some tt) (hks : tt.kind = .slice) (ht : tiOf P tt.elem = some ti) (h : RS B N φ fp S ts m a w) {parts : List (Nat × AV)} {vparts : List (Nat × Value)} (hp : PR (RV w S φ) parts vparts) (d n : Nat)
    {k : AV → Mem → Prop} (hk : sBuildSlice ti d n parts m k) : Runs B N a (fun x ts' m' => ts' = ts ∧ k x m') ((Instr.buildSlice t n vparts.toArray).run P w) := by
  obtain ⟨⟨hlim, hnl, hzf⟩, hk⟩ := hk
  obtain ⟨inf, dd, z, hi, hd, hz, hag, hsz, hby, hzz, _⟩ := kind_of ht
  obtain ⟨hzs, hzr, hzfl⟩ := zero_cells hzz hzf
  have hsl := kind_slice htt hks
  obtain ⟨xs', cs', g1, g2, g3, g4, g5, g6⟩ := fill_row (w := w) (S := S) (φ := φ) parts vparts (List.replicate n ti.zero) (madeCells z.cells (n * ti.size)) hp (by rw [size_madeCells, List.length_replicate]; rfl)
    (fun i hi => by simp only [List.getElem_replicate]; exact hzf)
    (fun i hi => by
      simp only [List.length_replicate] at hi
      simp only [List.getElem_replicate]
      have e2 : elemV (madeCells z.cells (n * ti.size)).toList (i * ti.sh.sz) ti.sh = elemV z.cells.toList 0 ti.sh := by
        refine elemV_ext ?_ ?_ (fits_sz hzf) fun cc hcc => ?_
        · simp only [Array.length_toList, size_madeCells]; exact mul_le_of_lt (s := ti.size) hi
        · simp only [Array.length_toList, hzs]; show 0 + ti.size ≤ ti.size; omega
        · rw [Nat.zero_add]; exact madeCells_getD z.cells n i cc ti.size hzs hcc hi
      rw [e2]; exact hzr _ _) hk
  rw [List.length_replicate] at g4
  have hrun : (Instr.buildSlice t n vparts.toArray).run P w = .ok (.slice (some ⟨w.heap.size, 0, none⟩) n n) (w.alloc (.cells cs' tt.elem)) := by
    have h1 : ¬ (n * inf.size > 2 ^ 24) := by rw [← hsz]; omega
    have g2' : Instr.fill (fun i => some (i * inf.size, inf.size)) (madeCells z.cells (n * ti.size)) vparts = some cs' := by rw [← hsz]; exact g2
    rw [hsz] at g2'
    by_cases h0 : n * inf.size = 0
    · have e0 : madeCells z.cells (n * inf.size) = #[] := by rw [h0]; simp [madeCells]
      rw [e0] at g2'
      have er : (Array.range 0).map (fun _ => (default : Value)) = #[] := by simp
      simp [Instr.buildSlice, run_underlying hsl, sizeOf, typeInfo, hi, h0, newRow]
      rw [er, g2']
      simp
    · have e0 : (Array.range (n * inf.size)).map (fun x => z.cells[x % z.cells.size]!) = madeCells z.cells (n * inf.size) := rfl
      simp [Instr.buildSlice, run_underlying hsl, sizeOf, typeInfo, hi, h0, newRow, zeroValue, hz, e0, g2']
      omega
  refine ⟨_, _, hrun, ?_⟩
  have hRS := h.alloc d ti.sh (.row (newVer m d) ti.sh (isFlatL xs') xs') cs' tt.elem rfl
    (.inr ⟨w.heap.size, n, upd_same _ _ _, by simp, fun _ => rfl, by
      have e : [w.heap.size] = w.heap.size :: (List.replicate xs'.length ([] : List Nat)).flatten := by
        congr 1
        exact (List.flatten_eq_nil_iff.2 fun l hl => (List.mem_replicate.1 hl).2).symm
      rw [e]
      have hnm : n ≤ maxLen := by unfold maxLen; omega
      refine .arr _ _ _ _ cs' (tt.elem, false) _ (new_cel w _ _) (by rw [g3, g4]) (by omega) hnm g5 (by simp) fun q hq => ?_
      have e1 : (List.replicate xs'.length ([] : List Nat)).getD q [] = [] := by simp [List.getD_eq_getElem?_getD, hq]
      rw [e1]
      have hq6 := (g6 q hq).mono (w' := w.alloc (.cells cs' tt.elem)) (fun c hc => old w _ c (h.sB c hc).1) (fun _ h => h)
      cases hfl : isFlatL xs' with
      | true => exact .rd _ _ (flat_rd (fs := []) (.rd _ _ hq6) (isFlatL_get hfl q hq)).1
      | false => exact .rd _ _ hq6⟩)
    (fun _ _ hx => by cases hx)
  refine hRS.gives (x := .ref d (newVer m d) 0 n) ?_ ?_ ⟨rfl, g1⟩
  · refine .ref _ _ _ _ _ (fun b sh hb => ?_) (fun hb => ?_) rfl
    · rw [upd_same] at hb; cases hb
      refine ⟨_, n, rfl, Nat.le_refl _, .inr ⟨by simp, _, _, new_cel w _ _, by rw [g3, g4, Nat.zero_add]⟩⟩
    · rw [upd_same] at hb; cases hb
  · intro l' ver hl
    simp only [labs, List.mem_singleton, Prod.mk.injEq] at hl
    obtain ⟨rfl, rfl⟩ := hl
    exact ⟨_, by simp [lookB_cons]; rfl, Nat.le_refl _⟩

end
end Go.Vc


set_option linter.unusedVariables false
set_option linter.unusedSimpArgs false
set_option linter.unnecessarySimpa false
namespace Go.Vc

def FnRes (w w' : World) (S : Nat → Prop) (own : Bool) (r : AV) (v : Value) : Prop :=
  if own then ∃ fs, Own w' (fun _ => False) r v fs ∧ fs.Nodup ∧ ∀ b, b ∈ fs → w.heap.size ≤ b
  else Rd w' (fun b => S b ∨ (w.heap.size ≤ b ∧ b < w'.heap.size)) r v

def Enters (P : Program) (f : FuncId) : Prop := ∃ fn c, P.funcs[f]? = some fn ∧ (fn.name == "runtime.NumGoroutine") = false ∧ fn.body = some c

def Fn (P : Program) (f : FuncId) (args : List AV) (own : Bool) (post : AV → Prop) : Prop :=
  Enters P f ∧ ∀ (w : World) (S : Nat → Prop) (vs : Array Value), (∀ b, S b → b < w.heap.size) → Kon w S → vs.size = args.length → (∀ i (h : i < args.length), Rd w S args[i] (vs.toList.getD i Go.undef)) →
    Calls P f vs w fun e w' => ∃ r v, e = .returned v ∧ post r ∧ Grown w w' ∧ FnRes w w' S own r v

theorem Fn.mono {P : Program} {f : FuncId} {args : List AV} {own : Bool} {post post' : AV → Prop} (h : Fn P f args own post) (hp : ∀ r, post r → post' r) : Fn P f args own post' :=
  ⟨h.1, fun w S vs h1 hk h2 h3 => (h.2 w S vs h1 hk h2 h3).mono fun _ _ ⟨r, v, g1, g2, g3⟩ => ⟨r, v, g1, hp r g2, g3⟩⟩

def sRowT (v i n : Nat) (b : Option Blk) (k : AV → Prop) : Prop := match b with
  | some (.row v' sh _ xs) => v' = v ∧ i + n ≤ xs.length ∧ k (.arr sh ((xs.drop i).take n))
  | _ => False
@[congr] theorem sRowT_congr {v i n : Nat} {b b' : Option Blk} {k : AV → Prop} (h : b = b') : sRowT v i n b k = sRowT v i n b' k := by rw [h]
theorem sRowT_row (v i n : Nat) (sh : Sh) (d : Bool) (xs : List AV) (k : AV → Prop) : sRowT v i n (some (.row v sh d xs)) k = (i + n ≤ xs.length ∧ k (.arr sh ((xs.drop i).take n))) := by simp [sRowT]
def sLeafT (m : Mem) (x : AV) (k : AV → Prop) : Prop := match x with
  | .ref l v i n => sRowT v i n (lookB m l) k
  | .val v => k (.val v)
  | .e0 => k .e0
  | .arr sh xs => k (.arr sh xs)
  | .eptr sh xs i j => k (.eptr sh xs i j)
  | _ => False
@[congr] theorem sLeafT_congr {m : Mem} {x x' : AV} {k : AV → Prop} (h : x = x') : sLeafT m x k = sLeafT m x' k := by rw [h]
theorem sLeafT_ref (m : Mem) (l v i n : Nat) (k : AV → Prop) : sLeafT m (.ref l v i n) k = sRowT v i n (lookB m l) k := rfl
theorem sLeafT_val (m : Mem) (v : Value) (k : AV → Prop) : sLeafT m (.val v) k = k (.val v) := rfl
theorem sLeafT_arr (m : Mem) (sh : Sh) (xs : List AV) (k : AV → Prop) : sLeafT m (.arr sh xs) k = k (.arr sh xs) := rfl
def sLeavesT (m : Mem) (k : List AV → Prop) : List AV → List AV → Prop
  | acc, [] => k acc.reverse
  | acc, x :: r => sLeafT m x fun y => sLeavesT m k (y :: acc) r
theorem sLeavesT_nil (m : Mem) (k : List AV → Prop) (acc : List AV) : sLeavesT m k acc [] = k acc.reverse := rfl
theorem sLeavesT_cons (m : Mem) (k : List AV → Prop) (acc : List AV) (x : AV) (r : List AV) : sLeavesT m k acc (x :: r) = sLeafT m x fun y => sLeavesT m k (y :: acc) r := rfl
def sTree (m : Mem) (x : AV) (k : AV → Prop) : Prop := match x with
  | .agg xs => sLeavesT m (fun ys => k (.agg ys)) [] xs
  | .ptr _ _ _ _ => k .undef
  | .clo _ _ => k .undef
  | x => sLeafT m x k
theorem sTree_clo (m : Mem) (f : FuncId) (xs : List AV) (k : AV → Prop) : sTree m (.clo f xs) k = k .undef := rfl
theorem sTree_ptr (m : Mem) (l v i j : Nat) (k : AV → Prop) : sTree m (.ptr l v i j) k = k .undef := rfl
@[congr] theorem sTree_congr {m : Mem} {x x' : AV} {k : AV → Prop} (h : x = x') : sTree m x k = sTree m x' k := by rw [h]
theorem sTree_agg (m : Mem) (xs : List AV) (k : AV → Prop) : sTree m (.agg xs) k = sLeavesT m (fun ys => k (.agg ys)) [] xs := rfl
theorem sTree_ref (m : Mem) (l v i n : Nat) (k : AV → Prop) : sTree m (.ref l v i n) k = sRowT v i n (lookB m l) k := rfl
theorem sTree_val (m : Mem) (v : Value) (k : AV → Prop) : sTree m (.val v) k = k (.val v) := rfl
theorem sTree_arr (m : Mem) (sh : Sh) (xs : List AV) (k : AV → Prop) : sTree m (.arr sh xs) k = k (.arr sh xs) := rfl
def sTrees (m : Mem) (k : List AV → Prop) : List AV → List AV → Prop
  | acc, [] => k acc.reverse
  | acc, x :: r => sTree m x fun y => sTrees m k (y :: acc) r
theorem sTrees_nil (m : Mem) (k : List AV → Prop) (acc : List AV) : sTrees m k acc [] = k acc.reverse := rfl
theorem sTrees_cons (m : Mem) (k : List AV → Prop) (acc : List AV) (x : AV) (r : List AV) : sTrees m k acc (x :: r) = sTree m x fun y => sTrees m k (y :: acc) r := rfl

def sMatL (l : Nat) (x : AV) (m : Mem) (k : AV → Mem → Prop) : Prop := match x with
  | .arr sh xs => k (.ref l (newVer m l) 0 xs.length) ((l, .row (newVer m l) sh true xs) :: m)
  | x => k x m
@[congr] theorem sMatL_congr {l : Nat} {x x' : AV} {m : Mem} {k : AV → Mem → Prop} (h : x = x') : sMatL l x m k = sMatL l x' m k := by rw [h]
theorem sMatL_arr (l : Nat) (sh : Sh) (xs : List AV) (m : Mem) (k : AV → Mem → Prop) : sMatL l (.arr sh xs) m k = k (.ref l (newVer m l) 0 xs.length) ((l, .row (newVer m l) sh true xs) :: m) := rfl
theorem sMatL_val (l : Nat) (v : Value) (m : Mem) (k : AV → Mem → Prop) : sMatL l (.val v) m k = k (.val v) m := rfl
def sMats (k : List AV → Mem → Prop) : Nat → List AV → Mem → List AV → Prop
  | _, acc, m, [] => k acc.reverse m
  | l, acc, m, x :: r => sMatL l x m fun y m' => sMats k (l + 1) (y :: acc) m' r
theorem sMats_nil (k : List AV → Mem → Prop) (l : Nat) (acc : List AV) (m : Mem) : sMats k l acc m [] = k acc.reverse m := rfl
theorem sMats_cons (k : List AV → Mem → Prop) (l : Nat) (acc : List AV) (m : Mem) (x : AV) (r : List AV) : sMats k l acc m (x :: r) = sMatL l x m fun y m' => sMats k (l + 1) (y :: acc) m' r := rfl
def sMatA (l : Nat) (x : AV) (m : Mem) (k : AV → Mem → Prop) : Prop := match x with
  | .agg xs => sMats (fun ys m' => k (.agg ys) m') l [] m xs
  | .tup _ => False
  | x => sMatL l x m k
@[congr] theorem sMatA_congr {l : Nat} {x x' : AV} {m : Mem} {k : AV → Mem → Prop} (h : x = x') : sMatA l x m k = sMatA l x' m k := by rw [h]
theorem sMatA_arr (l : Nat) (sh : Sh) (xs : List AV) (m : Mem) (k : AV → Mem → Prop) : sMatA l (.arr sh xs) m k = k (.ref l (newVer m l) 0 xs.length) ((l, .row (newVer m l) sh true xs) :: m) := rfl
theorem sMatA_val (l : Nat) (v : Value) (m : Mem) (k : AV → Mem → Prop) : sMatA l (.val v) m k = k (.val v) m := rfl
def sMatTs (k : List AV → Mem → Prop) : Nat → List AV → Mem → List AV → Prop
  | _, acc, m, [] => k acc.reverse m
  | l, acc, m, x :: r => sMatA l x m fun y m' => sMatTs k (l + 16) (y :: acc) m' r
theorem sMatTs_nil (k : List AV → Mem → Prop) (l : Nat) (acc : List AV) (m : Mem) : sMatTs k l acc m [] = k acc.reverse m := rfl
theorem sMatTs_cons (k : List AV → Mem → Prop) (l : Nat) (acc : List AV) (m : Mem) (x : AV) (r : List AV) : sMatTs k l acc m (x :: r) = sMatA l x m fun y m' => sMatTs k (l + 16) (y :: acc) m' r := rfl
def sMat (l : Nat) (x : AV) (m : Mem) (k : AV → Mem → Prop) : Prop := match x with
  | .tup xs => sMatTs (fun ys m' => k (.tup ys) m') l [] m xs
  | x => sMatA l x m k
@[congr] theorem sMat_congr {l : Nat} {x x' : AV} {m : Mem} {k : AV → Mem → Prop} (h : x = x') : sMat l x m k = sMat l x' m k := by rw [h]
theorem sMat_tup (l : Nat) (xs : List AV) (m : Mem) (k : AV → Mem → Prop) : sMat l (.tup xs) m k = sMatTs (fun ys m' => k (.tup ys) m') l [] m xs := rfl
theorem sMat_agg (l : Nat) (xs : List AV) (m : Mem) (k : AV → Mem → Prop) : sMat l (.agg xs) m k = sMats (fun ys m' => k (.agg ys) m') l [] m xs := rfl
theorem sMat_arr (l : Nat) (sh : Sh) (xs : List AV) (m : Mem) (k : AV → Mem → Prop) : sMat l (.arr sh xs) m k = k (.ref l (newVer m l) 0 xs.length) ((l, .row (newVer m l) sh true xs) :: m) := rfl
theorem sMat_val (l : Nat) (v : Value) (m : Mem) (k : AV → Mem → Prop) : sMat l (.val v) m k = k (.val v) m := rfl
def isClo : AV → Bool | .clo _ _ => true | _ => false
def noLabs : List AV → Prop | [] => True | x :: r => (labs x = [] ∧ isClo x = false) ∧ noLabs r
def sRes (own : Bool) (d : Nat) (m : Mem) (r : AV) (k : AV → Mem → Prop) : Prop := if own then sMat (1000 * (d + 1)) r m k else k r m
structure Pack {α : Type} (k : α) : Type where
def sCallIo (P : Program) (f : FuncId) (xs : List AV) (m : Mem) (k : AV → Mem → Prop) : Prop :=
  ∀ (B : Base) (N : Nat) (φ : Nat → LS) (fp : Nat → List Nat) (S : Nat → Prop) (ts : Env) (a : Act) (w : World) (vs : Array Value), RS B N φ fp S ts m a w → vs.size = xs.length →
    (∀ i (h : i < xs.length), RV w S φ xs[i] (vs.toList.getD i Go.undef)) → (∀ i (h : i < xs.length) l ver, (l, ver) ∈ labs xs[i] → known m l ver) →
    Enters P f ∧ Calls P f vs w fun e w' => ∃ v, e = .returned v ∧ Gives B N a (fun x ts' m' => ts' = ts ∧ k x m') v w'
def sCallT (P : Program) (f : FuncId) (d : Nat) (xs ts : List AV) (m : Mem) (k : AV → Mem → Prop) (_ : Pack k) : Prop := sCallIo P f xs m k ∨ ∃ own post, Fn P f ts own post ∧ (own = false → noLabs xs) ∧ ∀ r, post r → sRes own d m r k
def sCall (P : Program) (f : FuncId) (d : Nat) (xs : List AV) (m : Mem) (k : AV → Mem → Prop) : Prop := sTrees m (fun ts => sCallT P f d xs ts m k ⟨⟩) [] xs
@[congr] theorem sCall_congr {P : Program} {f : FuncId} {d : Nat} {xs xs' : List AV} {m : Mem} {k : AV → Mem → Prop} (h : xs = xs') : sCall P f d xs m k = sCall P f d xs' m k := by rw [h]
theorem sCall_eq (P : Program) (f : FuncId) (d : Nat) (x : AV) (xs : List AV) (m : Mem) (k : AV → Mem → Prop) : sCall P f d (x :: xs) m k = sTrees m (fun ts => sCallT P f d (x :: xs) ts m k ⟨⟩) [] (x :: xs) := rfl
@[congr] theorem sCallT_congr {P : Program} {f : FuncId} {d : Nat} {xs ts ts' : List AV} {m : Mem} {k : AV → Mem → Prop} {q : Pack k} (h : ts = ts') : sCallT P f d xs ts m k q = sCallT P f d xs ts' m k q := by rw [h]

theorem sCallT_one {P : Program} {f : FuncId} {d : Nat} {xs ts : List AV} {m : Mem} {k : AV → Mem → Prop} {r : AV} (h : Fn P f ts true (· = r)) (hk : sMat (1000 * (d + 1)) r m k) {q : Pack k} : sCallT P f d xs ts m k q :=
  .inr ⟨true, _, h, fun h => (by cases h), fun _ e => e ▸ hk⟩
theorem sCallT_any {P : Program} {f : FuncId} {d : Nat} {xs ts : List AV} {m : Mem} {k : AV → Mem → Prop} {post : AV → Prop} (h : Fn P f ts true post) (hk : ∀ r, post r → sMat (1000 * (d + 1)) r m k) {q : Pack k} : sCallT P f d xs ts m k q :=
  .inr ⟨true, _, h, fun h => (by cases h), hk⟩
theorem sCallS_one {P : Program} {f : FuncId} {d : Nat} {xs ts : List AV} {m : Mem} {k : AV → Mem → Prop} {r : AV} (h : Fn P f ts false (· = r)) (hl : noLabs xs) (hk : k r m) {q : Pack k} : sCallT P f d xs ts m k q :=
  .inr ⟨false, _, h, fun _ => hl, fun _ e => e ▸ hk⟩

section
variable {P : Program} {B : Base} {N : Nat} {φ : Nat → LS} {fp : Nat → List Nat} {S : Nat → Prop} {ts : Env} {m : Mem} {a : Act} {w : World}

def Now (w : World) : Nat → Prop := fun b => b < w.heap.size

theorem Own.now {S : Nat → Prop} {x : AV} {v : Value} {fs : List Nat} (h : Own w S x v fs) (hS : ∀ b, S b → b < w.heap.size) : Rd w (Now w) x v := h.rd_of hS fun b hb => h.lt b hb

theorem leafT_out (h : RS B N φ fp S ts m a w) {x : AV} {v : Value} (hx : RV w S φ x v) {k : AV → Prop} (hk : sLeafT m x k) : ∃ y, k y ∧ Rd w (Now w) y v ∧ leaf y ∧ (labs x = [] → Rd w S y v) := by
  have hS : ∀ b, S b → Now w b := fun b hb => (h.sB b hb).1
  unfold sLeafT at hk
  split at hk
  · rename_i l ver i n
    have hr := rv_ref hx
    unfold sRowT at hk
    split at hk
    · rename_i v' sh deep xs hlk
      obtain ⟨rfl, hin, hk⟩ := hk
      refine ⟨_, hk, ?_, trivial, fun hl => by simp [labs] at hl⟩
      have hlen : ((xs.drop i).take n).length = n := by simp; omega
      rcases h.mSome l _ hlk with ⟨h1, h2, h3⟩ | ⟨b, cap, hφ, hbm, hdp, hown⟩
      · obtain ⟨rfl, ad, rfl⟩ := hr.2 h1
        rw [List.take_zero]; exact .nil _ _
      · obtain ⟨ad, cp, rfl, hnc, hcp⟩ := hr.1 b sh hφ
        obtain ⟨cs, e, fss, hgf, hheap, hcs, hcap, hmx, hff, hfl, hvv⟩ := row_inv hown hbm
        by_cases hc0 : cp = 0
        · have : n = 0 := by omega
          subst this; subst hc0
          rw [List.take_zero]; exact .nil _ _
        · obtain ⟨rfl, cs', e', g1, g2⟩ := hcp.resolve_left hc0
          obtain rfl := celO_inj (hheap.symm.trans g1)
          have hroom : i * sh.sz + n * sh.sz ≤ cs.size := by
            rw [g2, ← Nat.add_mul]; exact Nat.mul_le_mul_right _ (by omega)
          have hb : Now w b := (h.fpB l b hbm).1
          have := Rd.arr (w := w) (S := Now w) sh ((xs.drop i).take n) b (i * sh.sz) cp cs e.1 (frOf e cs.size) hb hheap (by rw [hlen]; exact hnc) (by rw [hlen]; exact hroom)
            (fun q hq => by rw [hlen] at hq; simp only [List.getElem_take, List.getElem_drop]; exact hff _ (by omega))
            (fun q hq => by
              rw [hlen] at hq
              simp only [List.getElem_take, List.getElem_drop]
              have := (hvv (i + q) (by omega)).now (fun c hc => by
                cases deep with
                | true => exact hc.elim
                | false => exact (h.sB c hc).1)
              rwa [Nat.add_mul] at this)
          rw [hlen] at this
          exact this
    · exact hk.elim
  · obtain ⟨rfl, h1⟩ := rv_val hx
    exact ⟨_, hk, .val _ h1, trivial, fun _ => .val _ h1⟩
  · obtain ⟨ad, rfl⟩ := rv_e0 hx
    exact ⟨_, hk, .e0 _, trivial, fun _ => .e0 _⟩
  · exact ⟨_, hk, (rv_arr hx).mono (fun _ _ => rfl) hS, trivial, fun _ => rv_arr hx⟩
  · exact ⟨_, hk, (rv_eptr hx).mono (fun _ _ => rfl) hS, trivial, fun _ => rv_eptr hx⟩
  · exact hk.elim

def RdL (R : AV → Value → Prop) (xs : List AV) (vs : List Value) : Prop := vs.length = xs.length ∧ ∀ i (h : i < xs.length), R xs[i] (vs.getD i Go.undef)
theorem RdL.snoc {R : AV → Value → Prop} {xs : List AV} {vs : List Value} (h : RdL R xs vs) {x : AV} {v : Value} (hx : R x v) : RdL R (xs ++ [x]) (vs ++ [v]) := by
  refine ⟨by simp [h.1], fun i hi => ?_⟩
  simp only [List.length_append, List.length_singleton] at hi
  rw [List.getElem_append]
  split
  · rename_i hlt
    have := h.2 i hlt
    rwa [List.getD_eq_getElem?_getD, List.getElem?_append_left (by rw [h.1]; exact hlt), ← List.getD_eq_getElem?_getD]
  · rename_i hge
    have e : i = xs.length := by omega
    subst e
    simp [List.getD_eq_getElem?_getD, ← h.1, hx]

theorem leavesT_out (h : RS B N φ fp S ts m a w) {Q : List AV → Prop} : ∀ (xs : List AV) (vs : List Value) (acc : List AV) (va : List Value), RdL (RV w S φ) xs vs → RdL (fun x v => Rd w (Now w) x v ∧ leaf x) acc.reverse va →
    sLeavesT m Q acc xs → ∃ ys, Q ys ∧ RdL (fun x v => Rd w (Now w) x v ∧ leaf x) ys (va ++ vs)
  | [], vs, acc, va, hx, ha, hk => by
    have : vs = [] := List.eq_nil_of_length_eq_zero hx.1
    subst this
    exact ⟨_, hk, by simpa using ha⟩
  | x :: xs, vs, acc, va, hx, ha, hk => by
    cases vs with
    | nil => have := hx.1; simp at this
    | cons v vs =>
      have hx0 := hx.2 0 (by simp)
      obtain ⟨y, hk, h1, h2, _⟩ := leafT_out h (show RV w S φ x v from hx0) hk
      obtain ⟨ys, g1, g2⟩ := leavesT_out h xs vs (y :: acc) (va ++ [v]) ⟨by simpa using hx.1, fun i hi => by have := hx.2 (i + 1) (by simpa using hi); exact this⟩ (by
        rw [List.reverse_cons]; exact ha.snoc ⟨h1, h2⟩) hk
      exact ⟨ys, g1, by simpa using g2⟩

theorem tree_out (h : RS B N φ fp S ts m a w) {x : AV} {v : Value} (hx : RV w S φ x v) {k : AV → Prop} (hk : sTree m x k) : ∃ y, k y ∧ Rd w (Now w) y v := by
  unfold sTree at hk
  split at hk
  · rename_i xs
    obtain ⟨cs, rfl, h1, h2, h3⟩ := rv_agg hx
    obtain ⟨ys, g1, g2⟩ := leavesT_out h xs cs.toList [] [] ⟨by simpa using h1, h3⟩ ⟨rfl, fun i hi => absurd hi (Nat.not_lt_zero _)⟩ hk
    refine ⟨_, g1, .agg ys cs (by simpa using g2.1) (fun i hi => (g2.2 i hi).2) fun i hi => (g2.2 i hi).1⟩
  · exact ⟨_, hk, .undef _⟩
  · exact ⟨_, hk, .undef _⟩
  · obtain ⟨y, h1, h2, _⟩ := leafT_out h hx hk
    exact ⟨y, h1, h2⟩

theorem trees_out (h : RS B N φ fp S ts m a w) {Q : List AV → Prop} : ∀ (xs : List AV) (vs : List Value) (acc : List AV) (va : List Value), RdL (RV w S φ) xs vs → RdL (Rd w (Now w)) acc.reverse va →
    sTrees m Q acc xs → ∃ ys, Q ys ∧ RdL (Rd w (Now w)) ys (va ++ vs)
  | [], vs, acc, va, hx, ha, hk => by
    have : vs = [] := List.eq_nil_of_length_eq_zero hx.1
    subst this
    exact ⟨_, hk, by simpa using ha⟩
  | x :: xs, vs, acc, va, hx, ha, hk => by
    cases vs with
    | nil => have := hx.1; simp at this
    | cons v vs =>
      have hx0 := hx.2 0 (by simp)
      obtain ⟨y, hk, h1⟩ := tree_out h (show RV w S φ x v from hx0) hk
      obtain ⟨ys, g1, g2⟩ := trees_out h xs vs (y :: acc) (va ++ [v]) ⟨by simpa using hx.1, fun i hi => by have := hx.2 (i + 1) (by simpa using hi); exact this⟩ (by
        rw [List.reverse_cons]; exact ha.snoc h1) hk
      exact ⟨ys, g1, by simpa using g2⟩

theorem leaves_S {Q : List AV → Prop} : ∀ (xs acc : List AV), (∀ i (hi : i < xs.length), labs xs[i] = []) → sLeavesT m Q acc xs → Q (acc.reverse ++ xs)
  | [], acc, _, hk => by simpa [sLeavesT] using hk
  | x :: xs, acc, hl, hk => by
    have h0 : labs x = [] := hl 0 (by simp)
    have : sLeavesT m Q (x :: acc) xs := by
      simp only [sLeavesT] at hk
      unfold sLeafT at hk
      split at hk <;> first | exact hk | (simp [labs] at h0; done) | exact hk.elim
    have := leaves_S xs (x :: acc) (fun i hi => by have := hl (i + 1) (by simpa using hi); exact this) this
    simpa using this
theorem trees_S {Q : List AV → Prop} : ∀ (xs acc : List AV), noLabs xs → sTrees m Q acc xs → Q (acc.reverse ++ xs)
  | [], acc, _, hk => by simpa [sTrees] using hk
  | x :: xs, acc, hl, hk => by
    have h0 : labs x = [] := hl.1.1
    have h0' : isClo x = false := hl.1.2
    have : sTrees m Q (x :: acc) xs := by
      simp only [sTrees] at hk
      unfold sTree at hk
      split at hk
      · rename_i zs
        have := leaves_S zs [] (labs_nil_get (by simpa [labs] using h0)) hk
        simpa using this
      · simp [labs] at h0
      · cases h0'
      · unfold sLeafT at hk
        split at hk <;> first | exact hk | (simp [labs] at h0; done) | exact hk.elim
    have := trees_S xs (x :: acc) hl.2 this
    simpa using this

theorem RS.grown (h : RS B N φ fp S ts m a w) {w' : World} (hg : Grown w w') : RS B N φ fp S ts m a w' := by
  have hs : ∀ l b, b ∈ fp l → w'.heap[b]? = w.heap[b]? := fun l b hb => hg.same b (h.fpB l b hb).1
  have hS : ∀ b, S b → w'.heap[b]? = w.heap[b]? := fun b hb => hg.same b (h.sB b hb).1
  have hz : Sized φ w w' := fun l b sh ver cs e hl hb => ⟨cs, e, (hs l b (h.at_mem hl)).trans hb, rfl⟩
  exact { h with
    tm := fun t => (h.tm t).mono hS (fun _ h => h) hz fun l ver _ => LS.le_refl _ _
    mSome := fun l k hk => (h.mSome l k hk).mono hS (fun _ h => h) hz (hs l) rfl fun _ _ _ _ _ _ => LS.le_refl _ _
    fpB := fun l b hb => ⟨Nat.lt_of_lt_of_le (h.fpB l b hb).1 hg.size, (h.fpB l b hb).2⟩
    sB := fun b hb => ⟨Nat.lt_of_lt_of_le (h.sB b hb).1 hg.size, (h.sB b hb).2⟩
    base := fun b hb hio => (hg.same b (Nat.lt_of_lt_of_le hb h.size)).trans (h.base b hb hio)
    out := h.out.trans hg.out
    szs := h.szs.trans (Szs.of_same hg.same)
    kon := h.kon.mono hS fun _ h => h
    size := Nat.le_trans h.size hg.size }

theorem RS.hold (h : RS B N φ fp S ts m a w) (T : Nat → Prop) (hT : ∀ b, T b → b < w.heap.size ∧ B.w0.heap.size ≤ b ∧ ∀ l, b ∉ fp l) : RS B N φ fp (fun b => S b ∨ T b) ts m a w := by
  have hz : Sized φ w w := fun l b sh ver cs e _ hb => ⟨cs, e, hb, rfl⟩
  exact { h with
    tm := fun t => (h.tm t).mono (fun _ _ => rfl) (fun _ h => .inl h) hz fun l ver _ => LS.le_refl _ _
    mSome := fun l k hk => (h.mSome l k hk).mono (fun _ _ => rfl) (fun _ h => .inl h) hz (fun _ _ => rfl) rfl fun _ _ _ _ _ _ => LS.le_refl _ _
    notS := fun l b hb hs => hs.elim (h.notS l b hb) fun ht => (hT b ht).2.2 l hb
    sB := fun b hb => hb.elim (h.sB b) fun ht => ⟨(hT b ht).1, .inl (hT b ht).2.1⟩
    kon := h.kon.mono (fun _ _ => rfl) fun _ h => .inl h
    }


structure MatOk (B : Base) (N : Nat) (φ φ' : Nat → LS) (fp fp' : Nat → List Nat) (S : Nat → Prop) (ts : Env) (m m' : Mem) (a : Act) (w : World) (fs : List Nat) : Prop where
  rs : RS B N φ' fp' S ts m' a w
  fps : ∀ l b, b ∈ fp' l → b ∈ fp l ∨ b ∈ fs
  rv : ∀ z u, RV w S φ z u → (∀ l ver, (l, ver) ∈ labs z → known m l ver) → RV w S φ' z u
  kn : ∀ l ver, known m l ver → known m' l ver

theorem MatOk.refl (h : RS B N φ fp S ts m a w) (fs : List Nat) : MatOk B N φ φ fp fp S ts m m a w fs := ⟨h, fun _ _ h => .inl h, fun _ _ h _ => h, fun _ _ h => h⟩

theorem matL_out (h : RS B N φ fp S ts m a w) {x : AV} {v : Value} {fs : List Nat} (hx : Own w (fun _ => False) x v fs) (hlf : leaf x) (hnd : fs.Nodup) (hfr : ∀ b, b ∈ fs → B.w0.heap.size ≤ b ∧ ¬ S b ∧ ∀ l, b ∉ fp l)
    (l : Nat) {k : AV → Mem → Prop} (hk : sMatL l x m k) :
    ∃ φ' fp' y m', MatOk B N φ φ' fp fp' S ts m m' a w fs ∧ k y m' ∧ leaf y ∧ RV w S φ' y v ∧ ∀ l ver, (l, ver) ∈ labs y → known m' l ver := by
  have other : (∀ sh xs, x ≠ .arr sh xs) → k x m → ∃ φ' fp' y m', MatOk B N φ φ' fp fp' S ts m m' a w fs ∧ k y m' ∧ leaf y ∧ RV w S φ' y v ∧ ∀ l ver, (l, ver) ∈ labs y → known m' l ver := by
    intro hna hk
    have hrd : Rd w (fun _ => False) x v := by
      cases hx with
      | rd _ _ h => exact h
      | arr => exact absurd rfl (hna _ _)
      | agg => exact hlf.elim
      | tup => exact hlf.elim
    exact ⟨φ, fp, x, m, MatOk.refl h fs, hk, hlf, .rd _ _ (hrd.mono (fun _ _ => rfl) fun _ h => h.elim), fun l ver hl => by rw [labs_rd hrd] at hl; cases hl⟩
  cases x with
  | arr sh xs =>
    have hres : ∀ (x' : LS) (fs' : List Nat), (∀ b, b ∈ fs' → b ∈ fs) → (∀ ver, known m l ver → LS.le x' (φ l) ver) → fs'.Nodup →
        BR w S (upd φ l x') l fs' (.row (newVer m l) sh true xs) → RV w S (upd φ l x') (.ref l (newVer m l) 0 xs.length) v →
        ∃ φ' fp' y m', MatOk B N φ φ' fp fp' S ts m m' a w fs ∧ k y m' ∧ leaf y ∧ RV w S φ' y v ∧ ∀ l ver, (l, ver) ∈ labs y → known m' l ver := by
      intro x' fs' hsub hle hnd' hbr hrv
      have hRS := h.next l x' fs' S (.row (newVer m l) sh true xs) (Nat.le_refl _) (SameOut.refl _) (Szs.refl _) (fun _ _ _ => rfl) (fun b hb => ⟨hb, rfl⟩) (fun b h1 h2 => absurd h1 h2) (fun l b sh ver cs e _ hb => ⟨cs, e, hb, rfl⟩) (fun _ _ _ _ => rfl)
        hle (fun ver hv => Nat.le_of_lt (known_lt hv)) hbr (fun _ _ hx => by cases hx) hnd' (fun b hb => ⟨(hfr b (hsub b hb)).2.1, fun l' _ => (hfr b (hsub b hb)).2.2 l', hx.lt b (hsub b hb), .inl (hfr b (hsub b hb)).1⟩)
      have hkn : ∀ l' ver, known m l' ver → known ((l, .row (newVer m l) sh true xs) :: m) l' ver := by
        intro l' ver hkk
        by_cases e : l = l'
        · subst e; exact ⟨.row (newVer m l) sh true xs, by simp [lookB_cons], Nat.le_of_lt (known_lt hkk)⟩
        · obtain ⟨k', h1, h2⟩ := hkk
          exact ⟨k', by simp [lookB_cons, e, h1], h2⟩
      refine ⟨_, _, .ref l (newVer m l) 0 xs.length, _, ⟨hRS, ?_, ?_, hkn⟩, hk, trivial, hrv, ?_⟩
      · intro l' b hb
        by_cases e : l' = l
        · subst e; rw [upd_same] at hb; exact .inr (hsub b hb)
        · rw [upd_other _ _ _ _ e] at hb; exact .inl hb
      · intro z u hz hl
        refine hz.mono (fun _ _ => rfl) (fun _ h => h) (fun l b sh ver cs e _ hb => ⟨cs, e, hb, rfl⟩) fun l' ver hl' => ?_
        by_cases e : l' = l
        · subst e; rw [upd_same]; exact hle ver (hl _ ver hl')
        · rw [upd_other _ _ _ _ e]; exact LS.le_refl _ _
      · intro l' ver hl
        simp only [labs, List.mem_singleton, Prod.mk.injEq] at hl
        obtain ⟨rfl, rfl⟩ := hl
        exact ⟨_, by simp [lookB_cons]; rfl, Nat.le_refl _⟩
    cases hx with
    | rd _ _ hrd =>
      cases hrd with
      | nil _ ad =>
        refine hres (.nil (newVer m l)) [] (by simp) (fun ver hv => ⟨fun _ _ h => (by cases h), fun hh => ?_⟩) (by simp) (.inl ⟨upd_same _ _ _, rfl, rfl⟩) ?_
        · injection hh with hh; exact absurd (known_lt hv) (by omega)
        · refine .ref _ _ _ _ _ (fun b' sh' hb' => ?_) (fun _ => ⟨rfl, ad, rfl⟩) rfl
          rw [upd_same] at hb'; cases hb'
      | arr _ _ b off cap cs e fr hS => exact hS.elim
    | arr _ _ b cap cs e fss hb hc hl hm hf hs hv =>
      refine hres (.at b sh (newVer m l)) (b :: fss.flatten) (fun _ h => h) (fun ver hkk => LS.le_newer _ _ _ _ _ (known_lt hkk)) hnd (.inr ⟨b, cap, upd_same _ _ _, List.mem_cons_self .., by simp, .arr sh xs b cap cs e fss hb hc hl hm hf hs hv⟩) ?_
      refine .ref _ _ _ _ _ (fun b' sh' hb' => ?_) (fun hb' => ?_) rfl
      · rw [upd_same] at hb'; cases hb'
        exact ⟨_, cap, rfl, hl, .inr ⟨by simp, cs, e, hb, by rw [hc, Nat.zero_add]⟩⟩
      · rw [upd_same] at hb'; cases hb'
  | _ => exact other (fun _ _ e => by cases e) hk

theorem fss_cons {fss : List (List Nat)} {f : List Nat} (h : (f :: fss).flatten.Nodup) : f.Nodup ∧ fss.flatten.Nodup ∧ ∀ b, b ∈ f → b ∉ fss.flatten := by
  rw [List.flatten_cons] at h
  exact ⟨(List.nodup_append.1 h).1, (List.nodup_append.1 h).2.1, fun b h1 h2 => (List.nodup_append.1 h).2.2 b h1 b h2 rfl⟩

theorem mats_gen {one : Nat → AV → Mem → (AV → Mem → Prop) → Prop} {ok : AV → Prop} {step : Nat}
    (hone : ∀ (φ : Nat → LS) (fp : Nat → List Nat) (m : Mem), RS B N φ fp S ts m a w → ∀ (x : AV) (v : Value) (fs : List Nat), Own w (fun _ => False) x v fs → ok x → fs.Nodup → (∀ b, b ∈ fs → B.w0.heap.size ≤ b ∧ ¬ S b ∧ ∀ l, b ∉ fp l) →
      ∀ (l : Nat) (k : AV → Mem → Prop), one l x m k → ∃ φ' fp' y m', MatOk B N φ φ' fp fp' S ts m m' a w fs ∧ k y m' ∧ ok y ∧ RV w S φ' y v ∧ ∀ l ver, (l, ver) ∈ labs y → known m' l ver)
    {Q : List AV → Mem → Prop} {many : Nat → List AV → Mem → List AV → Prop} (hnil : ∀ l acc m, many l acc m [] → Q acc.reverse m) (hcons : ∀ l acc m x r, many l acc m (x :: r) → one l x m fun y m' => many (l + step) (y :: acc) m' r) :
    ∀ (xs : List AV) (vs : List Value) (fss : List (List Nat)) (l : Nat) (acc : List AV) (va : List Value) (φ : Nat → LS) (fp : Nat → List Nat) (m : Mem), RS B N φ fp S ts m a w →
      vs.length = xs.length → fss.length = xs.length → (∀ i (h : i < xs.length), Own w (fun _ => False) xs[i] (vs.getD i Go.undef) (fss.getD i [])) → (∀ i (h : i < xs.length), ok xs[i]) →
      fss.flatten.Nodup → (∀ b, b ∈ fss.flatten → B.w0.heap.size ≤ b ∧ ¬ S b ∧ ∀ l, b ∉ fp l) →
      RdL (fun x v => ok x ∧ RV w S φ x v ∧ ∀ l ver, (l, ver) ∈ labs x → known m l ver) acc.reverse va → many l acc m xs →
      ∃ φ' fp' m' ys, RS B N φ' fp' S ts m' a w ∧ (∀ l b, b ∈ fp' l → b ∈ fp l ∨ b ∈ fss.flatten) ∧ (∀ z u, RV w S φ z u → (∀ l ver, (l, ver) ∈ labs z → known m l ver) → RV w S φ' z u) ∧ (∀ l ver, known m l ver → known m' l ver) ∧
        Q ys m' ∧ RdL (fun x v => ok x ∧ RV w S φ' x v ∧ ∀ l ver, (l, ver) ∈ labs x → known m' l ver) ys (va ++ vs)
  | [], vs, fss, l, acc, va, φ, fp, m, h, hv, _, _, _, _, _, ha, hk => by
    have : vs = [] := List.eq_nil_of_length_eq_zero hv
    subst this
    exact ⟨φ, fp, m, _, h, fun _ _ h => .inl h, fun _ _ h _ => h, fun _ _ h => h, hnil l acc m hk, by simpa using ha⟩
  | x :: xs, vs, fss, l, acc, va, φ, fp, m, h, hv, hf, ho, hok, hnd, hfr, ha, hk => by
    cases vs with
    | nil => simp at hv
    | cons v vs =>
      cases fss with
      | nil => simp at hf
      | cons f fss =>
        obtain ⟨n1, n2, n3⟩ := fss_cons hnd
        have ho0 := ho 0 (by simp)
        obtain ⟨φ1, fp1, y, m1, hm, hk1, hy1, hy2, hy3⟩ := hone φ fp m h x v f ho0 (hok 0 (by simp)) n1 (fun b hb => hfr b (by simp [hb])) l _ (hcons l acc m x xs hk)
        have ha1 : RdL (fun x v => ok x ∧ RV w S φ1 x v ∧ ∀ l ver, (l, ver) ∈ labs x → known m1 l ver) (y :: acc).reverse (va ++ [v]) := by
          rw [List.reverse_cons]
          refine RdL.snoc ⟨ha.1, fun i hi => ?_⟩ ⟨hy1, hy2, hy3⟩
          obtain ⟨q1, q2, q3⟩ := ha.2 i hi
          exact ⟨q1, hm.rv _ _ q2 q3, fun l ver hl => hm.kn l ver (q3 l ver hl)⟩
        obtain ⟨φ2, fp2, m2, ys, g1, g2, g3, g4, g5, g6⟩ := mats_gen hone hnil hcons xs vs fss (l + step) (y :: acc) (va ++ [v]) φ1 fp1 m1 hm.rs (by simpa using hv) (by simpa using hf)
          (fun i hi => by have := ho (i + 1) (by simpa using hi); exact this) (fun i hi => by have := hok (i + 1) (by simpa using hi); exact this) n2
          (fun b hb => by
            obtain ⟨q1, q2, q3⟩ := hfr b (by simp only [List.flatten_cons, List.mem_append]; exact .inr hb)
            refine ⟨q1, q2, fun l hl => ?_⟩
            rcases hm.fps l b hl with hh | hh
            · exact q3 l hh
            · exact n3 b hh hb) ha1 hk1
        refine ⟨φ2, fp2, m2, ys, g1, fun l b hb => ?_, fun z u hz hl => g3 z u (hm.rv z u hz hl) fun l ver h => hm.kn l ver (hl l ver h), fun l ver h => g4 l ver (hm.kn l ver h), g5, by simpa using g6⟩
        rcases g2 l b hb with hh | hh
        · rcases hm.fps l b hh with h3 | h3
          · exact .inl h3
          · exact .inr (by simp [h3])
        · exact .inr (by simp only [List.flatten_cons, List.mem_append]; exact .inr hh)

theorem own_agg {S : Nat → Prop} {xs : List AV} {v : Value} {fs : List Nat} (h : Own w S (.agg xs) v fs) : ∃ (cs : Array Value) (fss : List (List Nat)), v = .agg cs ∧ fs = fss.flatten ∧ cs.size = xs.length ∧ (∀ i (h : i < xs.length), leaf xs[i]) ∧ fss.length = xs.length ∧
    ∀ i (h : i < xs.length), Own w S xs[i] (cs.toList.getD i Go.undef) (fss.getD i []) := by
  cases h with
  | rd _ _ h =>
    obtain ⟨cs, rfl, h1, h2, h3⟩ := rd_agg h
    refine ⟨cs, List.replicate xs.length [], rfl, (List.flatten_eq_nil_iff.2 fun l hl => (List.mem_replicate.1 hl).2).symm, h1, h2, by simp, fun i hi => ?_⟩
    rw [show (List.replicate xs.length ([] : List Nat)).getD i [] = [] by simp [List.getD_eq_getElem?_getD, hi]]
    exact .rd _ _ (h3 i hi)
  | agg _ cs fss h1 h2 h3 h4 => exact ⟨cs, fss, rfl, rfl, h1, h2, h3, h4⟩
theorem own_tup {S : Nat → Prop} {xs : List AV} {v : Value} {fs : List Nat} (h : Own w S (.tup xs) v fs) : ∃ (cs : Array Value) (fss : List (List Nat)), v = .tuple cs ∧ fs = fss.flatten ∧ cs.size = xs.length ∧ fss.length = xs.length ∧
    ∀ i (h : i < xs.length), Own w S xs[i] (cs.toList.getD i Go.undef) (fss.getD i []) := by
  cases h with
  | rd _ _ h =>
    cases h with
    | tup _ cs h1 h3 =>
    refine ⟨cs, List.replicate xs.length [], rfl, (List.flatten_eq_nil_iff.2 fun l hl => (List.mem_replicate.1 hl).2).symm, h1, by simp, fun i hi => ?_⟩
    rw [show (List.replicate xs.length ([] : List Nat)).getD i [] = [] by simp [List.getD_eq_getElem?_getD, hi]]
    exact .rd _ _ (h3 i hi)
  | tup _ cs fss h1 h3 h4 => exact ⟨cs, fss, rfl, rfl, h1, h3, h4⟩

theorem matA_out (h : RS B N φ fp S ts m a w) {x : AV} {v : Value} {fs : List Nat} (hx : Own w (fun _ => False) x v fs) (hnd : fs.Nodup) (hfr : ∀ b, b ∈ fs → B.w0.heap.size ≤ b ∧ ¬ S b ∧ ∀ l, b ∉ fp l)
    (l : Nat) {k : AV → Mem → Prop} (hk : sMatA l x m k) (hnt : ∀ xs, x ≠ .tup xs) :
    ∃ φ' fp' y m', MatOk B N φ φ' fp fp' S ts m m' a w fs ∧ k y m' ∧ RV w S φ' y v ∧ ∀ l ver, (l, ver) ∈ labs y → known m' l ver := by
  have fin : leaf x → sMatL l x m k → ∃ φ' fp' y m', MatOk B N φ φ' fp fp' S ts m m' a w fs ∧ k y m' ∧ RV w S φ' y v ∧ ∀ l ver, (l, ver) ∈ labs y → known m' l ver := by
    intro hlf hk
    obtain ⟨φ', fp', y, m', g1, g2, _, g3, g4⟩ := matL_out h hx hlf hnd hfr l hk
    exact ⟨φ', fp', y, m', g1, g2, g3, g4⟩
  cases x with
  | agg xs =>
    obtain ⟨cs, fss, rfl, rfl, h1, h2, h3, h4⟩ := own_agg hx
    obtain ⟨φ', fp', m', ys, g1, g2, g3, g4, g5, g6⟩ := mats_gen (one := sMatL) (ok := leaf) (step := 1) (Q := fun ys m' => k (.agg ys) m') (many := fun l acc m xs => sMats (fun ys m' => k (.agg ys) m') l acc m xs)
      (fun φ fp m hRS x v fs ho hlf hn hf l k hk => matL_out hRS ho hlf hn hf l hk) (fun _ _ _ h => h) (fun _ _ _ _ _ h => h) xs cs.toList fss l [] [] φ fp m h (by simpa using h1) h3 h4 h2 hnd hfr ⟨rfl, fun i hi => absurd hi (Nat.not_lt_zero _)⟩ hk
    refine ⟨φ', fp', .agg ys, m', ⟨g1, g2, g3, g4⟩, g5, .agg ys cs (by simpa using g6.1) (fun i hi => (g6.2 i hi).1) (fun i hi => (g6.2 i hi).2.1), ?_⟩
    intro l ver hl
    obtain ⟨i, hi, hl'⟩ := of_mem_labsL (by simpa [labs] using hl)
    exact (g6.2 i hi).2.2 l ver hl'
  | tup xs => exact absurd rfl (hnt xs)
  | undef =>
    cases hx with
    | rd _ _ hr => exact ⟨φ, fp, .undef, m, MatOk.refl h _, hk, .rd _ _ (.undef _), fun _ _ hl => by cases hl⟩
  | _ => exact fin trivial hk

theorem mat_out (h : RS B N φ fp S ts m a w) {x : AV} {v : Value} {fs : List Nat} (hx : Own w (fun _ => False) x v fs) (hnd : fs.Nodup) (hfr : ∀ b, b ∈ fs → B.w0.heap.size ≤ b ∧ ¬ S b ∧ ∀ l, b ∉ fp l)
    (l : Nat) {k : AV → Mem → Prop} (hk : sMat l x m k) :
    ∃ φ' fp' y m', MatOk B N φ φ' fp fp' S ts m m' a w fs ∧ k y m' ∧ RV w S φ' y v ∧ ∀ l ver, (l, ver) ∈ labs y → known m' l ver := by
  cases x with
  | tup xs =>
    obtain ⟨cs, fss, rfl, rfl, h1, h3, h4⟩ := own_tup hx
    simp only [sMat] at hk
    obtain ⟨φ', fp', m', ys, g1, g2, g3, g4, g5, g6⟩ := mats_gen (one := sMatA) (ok := fun _ => True) (step := 16) (Q := fun ys m' => k (.tup ys) m') (many := fun l acc m xs => sMatTs (fun ys m' => k (.tup ys) m') l acc m xs)
      (fun φ fp m hRS x v fs ho _ hn hf l k hk => by
        by_cases hnt : ∃ zs, x = .tup zs
        · obtain ⟨zs, rfl⟩ := hnt
          exact hk.elim
        · obtain ⟨φ', fp', y, m', q1, q2, q3, q4⟩ := matA_out hRS ho hn hf l hk fun zs e => hnt ⟨zs, e⟩
          exact ⟨φ', fp', y, m', q1, q2, trivial, q3, q4⟩) (fun _ _ _ h => h) (fun _ _ _ _ _ h => h) xs cs.toList fss l [] [] φ fp m h (by simpa using h1) h3 h4 (fun _ _ => trivial) hnd hfr ⟨rfl, fun i hi => absurd hi (Nat.not_lt_zero _)⟩ hk
    refine ⟨φ', fp', .tup ys, m', ⟨g1, g2, g3, g4⟩, g5, .tup ys cs (by simpa using g6.1) (fun i hi => (g6.2 i hi).2.1), ?_⟩
    intro l ver hl
    obtain ⟨i, hi, hl'⟩ := of_mem_labsL (by simpa [labs] using hl)
    exact (g6.2 i hi).2.2 l ver hl'
  | _ => exact matA_out h hx hnd hfr l hk (fun _ e => by cases e)

end
end Go.Vc


set_option linter.unusedVariables false
set_option linter.unusedSimpArgs false
set_option linter.unnecessarySimpa false
namespace Go.Vc

section
variable {P : Program} {B : Base} {N : Nat} {φ : Nat → LS} {fp : Nat → List Nat} {S : Nat → Prop} {ts : Env} {m : Mem} {a : Act} {w : World}

def offφ (l : Nat) (φ : Nat → LS) (k : Nat) : LS := if k = l then .dead else φ k
def offF (l : Nat) (fp : Nat → List Nat) (k : Nat) : List Nat := if k = l then [] else fp k
theorem offφ_ne {l k : Nat} {φ : Nat → LS} (h : k ≠ l) : offφ l φ k = φ k := if_neg h
theorem offF_ne {l k : Nat} {fp : Nat → List Nat} (h : k ≠ l) : offF l fp k = fp k := if_neg h
theorem mem_offF {l k b : Nat} {fp : Nat → List Nat} (h : b ∈ offF l fp k) : k ≠ l ∧ b ∈ fp k := by
  unfold offF at h
  split at h
  · cases h
  · exact ⟨‹_›, h⟩

theorem RS.frz (h : RS B N φ fp S ts m a w) {l v : Nat} {b0 : Blk} (hl : l < ioL) (hm : lookB m l = some b0) (hv : b0.ver = v) :
    RS B N (offφ l φ) (offF l fp) (fun b => S b ∨ b ∈ fp l) ts ((l, .gone v) :: m) a w := by
  have hz : Sized φ w w := fun l b sh ver cs e _ hb => ⟨cs, e, hb, rfl⟩
  have hle : ∀ k ver, LS.le (offφ l φ k) (φ k) ver := fun k ver => by
    unfold offφ; split
    · exact LS.le_dead _ _
    · exact LS.le_refl _ _
  have hkn : ∀ k ver, known m k ver → known ((l, .gone v) :: m) k ver := by
    rintro k ver ⟨b, h1, h2⟩
    by_cases e : k = l
    · subst e
      rw [hm] at h1; injection h1 with h1; subst h1
      exact ⟨.gone v, by rw [lookB_cons, if_pos rfl], by show ver ≤ v; omega⟩
    · exact ⟨b, by rw [lookB_cons, if_neg (Ne.symm e)]; exact h1, h2⟩
  refine { tm := fun t => (h.tm t).mono (fun _ _ => rfl) (fun _ h => .inl h) hz fun k ver _ => hle k ver, tl := fun t k ver hk => hkn k ver (h.tl t k ver hk), mNone := fun k hk => ?_, mSome := fun k b hb => ?_, bl := fun k v' xs hb k' ver hk => ?_,
           nod := fun k => ?_, dis := fun k k' b h1 h2 => h.dis k k' b (mem_offF h1).2 (mem_offF h2).2, notS := fun k b hb => ?_, fpB := fun k b hb => h.fpB k b (mem_offF hb).2, sB := fun b hb => ?_, base := h.base, out := h.out, szs := h.szs,
           kn := fun k ver hk hk2 => hkn k ver (h.kn k ver hk hk2), fix := fun k ver hk hk2 => LS.le_trans (hle k ver) (h.fix k ver hk hk2), size := h.size, defers := h.defers, tsz := h.tsz, kon := h.kon.mono (fun _ _ => rfl) fun _ h => .inl h }
  · rw [lookB_cons] at hk
    split at hk
    · cases hk
    · rename_i e
      rw [offφ_ne (Ne.symm e), offF_ne (Ne.symm e)]; exact h.mNone k hk
  · rw [lookB_cons] at hb
    split at hb
    · rename_i e
      subst e
      injection hb with hb
      subst hb
      exact ⟨by unfold offφ; rw [if_pos rfl], by unfold offF; rw [if_pos rfl]⟩
    · rename_i e
      rw [offF_ne (Ne.symm e)]
      exact (h.mSome k b hb).mono (fun _ _ => rfl) (fun _ h => .inl h) hz (fun _ _ => rfl) (offφ_ne (Ne.symm e)) fun v' xs _ k' ver _ => hle k' ver
  · rw [lookB_cons] at hb
    split at hb
    · cases hb
    · exact hkn k' ver (h.bl k v' xs hb k' ver hk)
  · unfold offF; split
    · exact List.nodup_nil
    · exact h.nod k
  · obtain ⟨h1, h2⟩ := mem_offF hb
    rintro (hs | hs)
    · exact h.notS k b h2 hs
    · exact h1 (h.dis k l b h2 hs)
  · rcases hb with hb | hb
    · exact h.sB b hb
    · refine ⟨(h.fpB l b hb).1, ?_⟩
      rcases (h.fpB l b hb).2 with hh | ⟨_, _, hh, _⟩
      · exact .inl hh
      · exact absurd hl (Nat.not_lt.2 hh)

theorem frz_rd (h : RS B N φ fp S ts m a w) {l v i n : Nat} {sh : Sh} {d : Bool} {xs : List AV} {u : Value} (hl : l < ioL) (hm : lookB m l = some (.row v sh d xs)) (hn : i + n ≤ xs.length) (hu : RV w S φ (.ref l v i n) u) :
    Rd w (fun b => S b ∨ b ∈ fp l) (.arr sh ((xs.drop i).take n)) u := by
  have hr := rv_ref hu
  have hlen : ((xs.drop i).take n).length = n := by simp; omega
  rcases h.mSome l _ hm with ⟨h1, h2, h3⟩ | ⟨b, cap, hφ, hbm, hdp, hown⟩
  · obtain ⟨rfl, ad, rfl⟩ := hr.2 h1
    rw [List.take_zero]; exact .nil _ _
  · obtain ⟨ad, cp, rfl, hnc, hcp⟩ := hr.1 b sh hφ
    obtain ⟨cs, e, fss, hgf, hheap, hcs, hcap, hmx, hff, hfl, hvv⟩ := row_inv hown hbm
    by_cases hc0 : cp = 0
    · have : n = 0 := by omega
      subst this; subst hc0
      rw [List.take_zero]; exact .nil _ _
    · obtain ⟨rfl, cs', e', g1, g2⟩ := hcp.resolve_left hc0
      obtain rfl := celO_inj (hheap.symm.trans g1)
      have hroom : i * sh.sz + n * sh.sz ≤ cs.size := by
        rw [g2, ← Nat.add_mul]; exact Nat.mul_le_mul_right _ (by omega)
      have := Rd.arr (w := w) (S := fun b => S b ∨ b ∈ fp l) sh ((xs.drop i).take n) b (i * sh.sz) cp cs e.1 (frOf e cs.size) (.inr hbm) hheap (by rw [hlen]; exact hnc) (by rw [hlen]; exact hroom)
        (fun q hq => by rw [hlen] at hq; simp only [List.getElem_take, List.getElem_drop]; exact hff _ (by omega))
        (fun q hq => by
          rw [hlen] at hq
          simp only [List.getElem_take, List.getElem_drop]
          have := (hvv (i + q) (by omega)).rd_of (S' := fun b => S b ∨ b ∈ fp l) (fun c hc => by
            cases d with
            | true => exact hc.elim
            | false => exact .inl hc) (fun c hc => .inr (by rw [hgf]; exact List.mem_cons_of_mem _ (mem_flatten_getD (by omega) hc)))
          rwa [Nat.add_mul] at this)
      rw [hlen] at this
      exact this

end

def sGivB (l v i n : Nat) (b : Option Blk) (m : Mem) (k : AV → Mem → Prop) : Prop := match b with
  | some (.row v' sh _ ys) => v' = v ∧ l < ioL ∧ i + n ≤ ys.length ∧ k (.arr sh ((ys.drop i).take n)) ((l, .gone v) :: m)
  | _ => False
@[congr] theorem sGivB_congr {l v i n : Nat} {b b' : Option Blk} {m : Mem} {k : AV → Mem → Prop} (h : b = b') : sGivB l v i n b m k = sGivB l v i n b' m k := by rw [h]
theorem sGivB_row (l v i n : Nat) (sh : Sh) (d : Bool) (ys : List AV) (m : Mem) (k : AV → Mem → Prop) : sGivB l v i n (some (.row v sh d ys)) m k = (l < 1000000000 ∧ i + n ≤ ys.length ∧ k (.arr sh ((ys.drop i).take n)) ((l, .gone v) :: m)) := by simp [sGivB, ioL]
def sGivL (x : AV) (m : Mem) (k : AV → Mem → Prop) : Prop := match x with
  | .ref l v i n => sGivB l v i n (lookB m l) m k
  | x => k x m
@[congr] theorem sGivL_congr {x x' : AV} {m : Mem} {k : AV → Mem → Prop} (h : x = x') : sGivL x m k = sGivL x' m k := by rw [h]
theorem sGivL_ref (l v i n : Nat) (m : Mem) (k : AV → Mem → Prop) : sGivL (.ref l v i n) m k = sGivB l v i n (lookB m l) m k := rfl
theorem sGivL_arr (sh : Sh) (xs : List AV) (m : Mem) (k : AV → Mem → Prop) : sGivL (.arr sh xs) m k = k (.arr sh xs) m := rfl
def sGivLs (k : List AV → Mem → Prop) : List AV → Mem → List AV → Prop
  | acc, m, [] => k acc.reverse m
  | acc, m, x :: r => sGivL x m fun y m' => sGivLs k (y :: acc) m' r
theorem sGivLs_nil (k : List AV → Mem → Prop) (acc : List AV) (m : Mem) : sGivLs k acc m [] = k acc.reverse m := rfl
theorem sGivLs_cons (k : List AV → Mem → Prop) (acc : List AV) (m : Mem) (x : AV) (r : List AV) : sGivLs k acc m (x :: r) = sGivL x m fun y m' => sGivLs k (y :: acc) m' r := rfl
def sGivA (x : AV) (m : Mem) (k : AV → Mem → Prop) : Prop := match x with
  | .agg xs => sGivLs (fun ys m' => k (.agg ys) m') [] m xs
  | x => sGivL x m k
@[congr] theorem sGivA_congr {x x' : AV} {m : Mem} {k : AV → Mem → Prop} (h : x = x') : sGivA x m k = sGivA x' m k := by rw [h]
theorem sGivA_agg (xs : List AV) (m : Mem) (k : AV → Mem → Prop) : sGivA (.agg xs) m k = sGivLs (fun ys m' => k (.agg ys) m') [] m xs := rfl
theorem sGivA_ref (l v i n : Nat) (m : Mem) (k : AV → Mem → Prop) : sGivA (.ref l v i n) m k = sGivB l v i n (lookB m l) m k := rfl
theorem sGivA_val (v : Value) (m : Mem) (k : AV → Mem → Prop) : sGivA (.val v) m k = k (.val v) m := rfl
theorem sGivA_arr (sh : Sh) (xs : List AV) (m : Mem) (k : AV → Mem → Prop) : sGivA (.arr sh xs) m k = k (.arr sh xs) m := rfl
def sGivs (k : List (Nat × AV) → Mem → Prop) : List (Nat × AV) → Mem → List (Nat × AV) → Prop
  | acc, m, [] => k acc.reverse m
  | acc, m, (i, x) :: r => sGivA x m fun y m' => sGivs k ((i, y) :: acc) m' r
theorem sGivs_nil (k : List (Nat × AV) → Mem → Prop) (acc : List (Nat × AV)) (m : Mem) : sGivs k acc m [] = k acc.reverse m := rfl
theorem sGivs_cons (k : List (Nat × AV) → Mem → Prop) (acc : List (Nat × AV)) (m : Mem) (i : Nat) (x : AV) (r : List (Nat × AV)) : sGivs k acc m ((i, x) :: r) = sGivA x m fun y m' => sGivs k ((i, y) :: acc) m' r := rfl
def sGivAs (k : List AV → Mem → Prop) : List AV → Mem → List AV → Prop
  | acc, m, [] => k acc.reverse m
  | acc, m, x :: r => sGivA x m fun y m' => sGivAs k (y :: acc) m' r
theorem sGivAs_nil (k : List AV → Mem → Prop) (acc : List AV) (m : Mem) : sGivAs k acc m [] = k acc.reverse m := rfl
theorem sGivAs_cons (k : List AV → Mem → Prop) (acc : List AV) (m : Mem) (x : AV) (r : List AV) : sGivAs k acc m (x :: r) = sGivA x m fun y m' => sGivAs k (y :: acc) m' r := rfl
def sBuildSliceX (ti : TI) (d n : Nat) (parts : List (Nat × AV)) (m : Mem) (k : AV → Mem → Prop) : Prop := sGivs (fun ps m' => sBuildSlice ti d n ps m' k) [] m parts
theorem sBuildSliceX_eq (ti : TI) (d n : Nat) (parts : List (Nat × AV)) (m : Mem) (k : AV → Mem → Prop) : sBuildSliceX ti d n parts m k = sGivs (fun ps m' => sBuildSlice ti d n ps m' k) [] m parts := rfl

section
variable {P : Program} {B : Base} {N : Nat} {φ : Nat → LS} {fp : Nat → List Nat} {S : Nat → Prop} {ts : Env} {m : Mem} {a : Act} {w : World}
structure GivOk (B : Base) (N : Nat) (φ φ' : Nat → LS) (S S' : Nat → Prop) (fp' : Nat → List Nat) (ts : Env) (m' : Mem) (a : Act) (w : World) : Prop where
  rs : RS B N φ' fp' S' ts m' a w
  rv : ∀ z u, RV w S φ z u → RV w S' φ' z u
theorem givL_out (h : RS B N φ fp S ts m a w) {x : AV} {u : Value} (hu : RV w S φ x u) {k : AV → Mem → Prop} (hk : sGivL x m k) : ∃ φ' fp' S' m' y, GivOk B N φ φ' S S' fp' ts m' a w ∧ RV w S' φ' y u ∧ (leaf x → leaf y) ∧ k y m' := by
  unfold sGivL at hk
  split at hk
  · rename_i l v i n
    unfold sGivB at hk
    split at hk
    · rename_i v' sh d ys hlk
      obtain ⟨rfl, hl, hn, hk⟩ := hk
      refine ⟨_, _, _, _, _, ⟨h.frz hl hlk (v := v') rfl, fun z u hz => hz.mono (fun _ _ => rfl) (fun _ h => .inl h) (fun l b sh ver cs e _ hb => ⟨cs, e, hb, rfl⟩) fun k ver _ => ?_⟩, .rd _ _ (frz_rd h hl hlk hn hu), fun _ => trivial, hk⟩
      unfold offφ; split
      · exact LS.le_dead _ _
      · exact LS.le_refl _ _
    · exact hk.elim
  · exact ⟨φ, fp, S, m, x, ⟨h, fun _ _ h => h⟩, hu, id, hk⟩
theorem givLs_out {Q : List AV → Mem → Prop} : ∀ (xs : List AV) (vs : List Value) (acc : List AV) (va : List Value) {φ : Nat → LS} {fp : Nat → List Nat} {S : Nat → Prop} {m : Mem}, RS B N φ fp S ts m a w → vs.length = xs.length → (∀ i (h : i < xs.length), leaf xs[i] ∧ RV w S φ xs[i] (vs.getD i Go.undef)) →
    RdL (fun x v => RV w S φ x v ∧ leaf x) acc.reverse va → sGivLs Q acc m xs → ∃ φ' fp' S' m' ys, GivOk B N φ φ' S S' fp' ts m' a w ∧ RdL (fun x v => RV w S' φ' x v ∧ leaf x) ys (va ++ vs) ∧ Q ys m'
  | [], vs, acc, va, φ, fp, S, m, h, hl, _, ha, hk => by
    have : vs = [] := List.eq_nil_of_length_eq_zero hl
    subst this
    exact ⟨φ, fp, S, m, _, ⟨h, fun _ _ h => h⟩, by simpa using ha, hk⟩
  | x :: xs, vs, acc, va, φ, fp, S, m, h, hl, hx, ha, hk => by
    cases vs with
    | nil => simp at hl
    | cons v vs =>
      obtain ⟨hx1, hx2⟩ := hx 0 (by simp)
      obtain ⟨φ1, fp1, S1, m1, y, g1, g2, g3, g4⟩ := givL_out h (show RV w S φ x v from hx2) hk
      obtain ⟨φ2, fp2, S2, m2, ys, q1, q2, q3⟩ := givLs_out xs vs (y :: acc) (va ++ [v]) g1.rs (by simpa using hl) (fun i hi => by
        have := hx (i + 1) (by simpa using hi)
        exact ⟨this.1, g1.rv _ _ this.2⟩) (by
        rw [List.reverse_cons]
        exact RdL.snoc ⟨ha.1, fun i hi => ⟨g1.rv _ _ (ha.2 i hi).1, (ha.2 i hi).2⟩⟩ ⟨g2, g3 hx1⟩) g4
      exact ⟨φ2, fp2, S2, m2, ys, ⟨q1.rs, fun z u hz => q1.rv _ _ (g1.rv _ _ hz)⟩, by simpa using q2, q3⟩
theorem givA_out (h : RS B N φ fp S ts m a w) {x : AV} {u : Value} (hu : RV w S φ x u) {k : AV → Mem → Prop} (hk : sGivA x m k) : ∃ φ' fp' S' m' y, GivOk B N φ φ' S S' fp' ts m' a w ∧ RV w S' φ' y u ∧ k y m' := by
  unfold sGivA at hk
  split at hk
  · rename_i xs
    obtain ⟨cs, rfl, h1, h2, h3⟩ := rv_agg hu
    obtain ⟨φ', fp', S', m', ys, g1, g2, g3⟩ := givLs_out xs cs.toList [] [] h (by simpa using h1) (fun i hi => ⟨h2 i hi, h3 i hi⟩) ⟨rfl, fun i hi => absurd hi (Nat.not_lt_zero _)⟩ hk
    refine ⟨φ', fp', S', m', _, g1, .agg ys cs (by simpa using g2.1) (fun i hi => (g2.2 i hi).2) (fun i hi => (g2.2 i hi).1), g3⟩
  · obtain ⟨φ', fp', S', m', y, g1, g2, _, g3⟩ := givL_out h hu hk
    exact ⟨φ', fp', S', m', y, g1, g2, g3⟩
theorem givAs_out {Q : List AV → Mem → Prop} : ∀ (xs : List AV) (vs : List Value) (acc : List AV) (va : List Value) {φ : Nat → LS} {fp : Nat → List Nat} {S : Nat → Prop} {m : Mem}, RS B N φ fp S ts m a w → RdL (RV w S φ) xs vs →
    RdL (RV w S φ) acc.reverse va → sGivAs Q acc m xs → ∃ φ' fp' S' m' ys, GivOk B N φ φ' S S' fp' ts m' a w ∧ RdL (RV w S' φ') ys (va ++ vs) ∧ Q ys m'
  | [], vs, acc, va, φ, fp, S, m, h, hx, ha, hk => by
    have : vs = [] := List.eq_nil_of_length_eq_zero hx.1
    subst this
    exact ⟨φ, fp, S, m, _, ⟨h, fun _ _ h => h⟩, by simpa using ha, hk⟩
  | x :: xs, vs, acc, va, φ, fp, S, m, h, hx, ha, hk => by
    cases vs with
    | nil => have := hx.1; simp at this
    | cons v vs =>
      have hx2 := hx.2 0 (by simp)
      obtain ⟨φ1, fp1, S1, m1, y, g1, g2, g4⟩ := givA_out h (show RV w S φ x v from hx2) hk
      obtain ⟨φ2, fp2, S2, m2, ys, q1, q2, q3⟩ := givAs_out xs vs (y :: acc) (va ++ [v]) g1.rs ⟨by simpa using hx.1, fun i hi => by
        have := hx.2 (i + 1) (by simpa using hi)
        exact g1.rv _ _ this⟩ (by
        rw [List.reverse_cons]
        exact RdL.snoc ⟨ha.1, fun i hi => g1.rv _ _ (ha.2 i hi)⟩ g2) g4
      exact ⟨φ2, fp2, S2, m2, ys, ⟨q1.rs, fun z u hz => q1.rv _ _ (g1.rv _ _ hz)⟩, by simpa using q2, q3⟩
theorem PR_snoc {R : AV → Value → Prop} {i : Nat} {x : AV} {v : Value} (hx : R x v) : ∀ (ps : List (Nat × AV)) (vs : List (Nat × Value)), PR R ps vs → PR R (ps ++ [(i, x)]) (vs ++ [(i, v)])
  | [], [], _ => ⟨rfl, hx, trivial⟩
  | (j, y) :: r, (j', u) :: s, ⟨h1, h2, h3⟩ => ⟨h1, h2, PR_snoc hx r s h3⟩
  | [], _ :: _, h => h.elim
  | _ :: _, [], h => h.elim
theorem PR_mono {R R' : AV → Value → Prop} (hR : ∀ x v, R x v → R' x v) : ∀ (ps : List (Nat × AV)) (vs : List (Nat × Value)), PR R ps vs → PR R' ps vs
  | [], [], _ => trivial
  | (j, y) :: r, (j', u) :: s, ⟨h1, h2, h3⟩ => ⟨h1, hR _ _ h2, PR_mono hR r s h3⟩
  | [], _ :: _, h => h.elim
  | _ :: _, [], h => h.elim
theorem givs_out {Q : List (Nat × AV) → Mem → Prop} : ∀ (ps : List (Nat × AV)) (vs : List (Nat × Value)) (acc : List (Nat × AV)) (va : List (Nat × Value)) {φ : Nat → LS} {fp : Nat → List Nat} {S : Nat → Prop} {m : Mem}, RS B N φ fp S ts m a w → PR (RV w S φ) ps vs →
    PR (RV w S φ) acc.reverse va → sGivs Q acc m ps → ∃ φ' fp' S' m' qs, GivOk B N φ φ' S S' fp' ts m' a w ∧ PR (RV w S' φ') qs (va ++ vs) ∧ Q qs m'
  | [], [], acc, va, φ, fp, S, m, h, _, ha, hk => ⟨φ, fp, S, m, _, ⟨h, fun _ _ h => h⟩, by simpa using ha, hk⟩
  | (i, x) :: r, (j, v) :: s, acc, va, φ, fp, S, m, h, ⟨e, hx, hr⟩, ha, hk => by
    subst e
    obtain ⟨φ1, fp1, S1, m1, y, g1, g2, g4⟩ := givA_out h hx hk
    obtain ⟨φ2, fp2, S2, m2, qs, q1, q2, q3⟩ := givs_out r s ((i, y) :: acc) (va ++ [(i, v)]) g1.rs (PR_mono g1.rv _ _ hr) (by
      rw [List.reverse_cons]
      exact PR_snoc g2 _ _ (PR_mono g1.rv _ _ ha)) g4
    exact ⟨φ2, fp2, S2, m2, qs, ⟨q1.rs, fun z u hz => q1.rv _ _ (g1.rv _ _ hz)⟩, by simpa using q2, q3⟩
  | [], _ :: _, _, _, _, _, _, _, _, h, _, _ => h.elim
  | _ :: _, [], _, _, _, _, _, _, _, h, _, _ => h.elim
theorem run_buildSliceX {t : TypeId} {tt ti : TI} (htt : tiOf P t = some tt) (hks : tt.kind = .slice) (ht : tiOf P tt.elem = some ti) (h : RS B N φ fp S ts m a w) {parts : List (Nat × AV)} {vparts : List (Nat × Value)} (hp : PR (RV w S φ) parts vparts) (d n : Nat)
    {k : AV → Mem → Prop} (hk : sBuildSliceX ti d n parts m k) : Runs B N a (fun x ts' m' => ts' = ts ∧ k x m') ((Instr.buildSlice t n vparts.toArray).run P w) := by
  obtain ⟨φ', fp', S', m', qs, g1, g2, g3⟩ := givs_out parts vparts [] [] h hp trivial hk
  exact run_buildSlice' htt hks ht g1.rs g2 d n g3
end
end Go.Vc


set_option linter.unusedVariables false
set_option linter.unusedSimpArgs false
set_option linter.unnecessarySimpa false
namespace Go.Vc
section
variable {P : Program} {B : Base} {N : Nat} {φ : Nat → LS} {fp : Nat → List Nat} {S : Nat → Prop} {ts : Env} {m : Mem} {a : Act} {w : World}
def sConvB (d : Nat) (x : AV) (m : Mem) (k : AV → Mem → Prop) : Prop := match x with
  | .val (.string s) => s.data.size ≤ 1048576 ∧ k (.ref d (newVer m d) 0 s.data.size) ((d, .row (newVer m d) ⟨1, false⟩ true (s.data.toList.map fun b => .val (.int .u8 b.toNat))) :: m)
  | _ => False
@[congr] theorem sConvB_congr {d : Nat} {x x' : AV} {m : Mem} {k : AV → Mem → Prop} (h : x = x') : sConvB d x m k = sConvB d x' m k := by rw [h]
theorem run_convB (h : RS B N φ fp S ts m a w) {src t e : TypeId} (hs : P.underlying src = some .string) (hd : P.underlying t = some (.slice e)) (he : P.underlying e = some (.int .u8)) {s : ByteArray} (hl : s.data.size ≤ 1048576) (d : Nat)
    {k : AV → Mem → Prop} (hk : k (.ref d (newVer m d) 0 s.data.size) ((d, .row (newVer m d) ⟨1, false⟩ true (s.data.toList.map fun b => .val (.int .u8 b.toNat))) :: m)) :
    Runs B N a (fun x ts' m' => ts' = ts ∧ k x m') ((convert src t (.string s)).run P w) := by
  refine ⟨_, _, run_bytes_of_string w src t e s hs hd he, ?_⟩
  have hsz : s.size = s.data.size := rfl
  have hge := grownCap_ge w s.size 0 e
  have hle : grownCap w s.size 0 e ≤ maxLen := grownCap_le_maxLen w _ _ _ (by unfold maxLen; omega)
  generalize grownCap w s.size 0 e = gc at hge hle ⊢
  have hC : (bytesRow s gc).size = gc := by simp [bytesRow]; omega
  have hg : ∀ i (hi : i < s.data.size), (bytesRow s gc).toList.getD i Go.undef = .int .u8 (s.data.toList[i]'(by simpa using hi)).toNat := by
    intro i hi
    rw [List.getD_eq_getElem?_getD, Array.getElem?_toList]
    unfold bytesRow
    rw [Array.getElem?_append_left (by simpa using hi)]
    have hi2 : i < s.data.size := hi
    simp only [Array.getElem?_map, Array.getElem?_eq_getElem hi2, Option.map_some, Option.getD_some, Array.getElem_toList]
  have hnew : (w.drew.alloc (.cells (bytesRow s gc) e ((bytesRow s gc).size, (bytesRow s gc).size + 1))).heap[w.heap.size]? = some (celO (bytesRow s gc) (e, true)) := new_at w.drew _
  have hold : ∀ b, b < w.heap.size → (w.drew.alloc (.cells (bytesRow s gc) e ((bytesRow s gc).size, (bytesRow s gc).size + 1))).heap[b]? = w.heap[b]? := fun b hb => old w.drew _ b hb
  have hws : (w.drew.alloc (.cells (bytesRow s gc) e ((bytesRow s gc).size, (bytesRow s gc).size + 1))).heap.size = w.heap.size + 1 := by simp
  have hso : SameOut w (w.drew.alloc (.cells (bytesRow s gc) e ((bytesRow s gc).size, (bytesRow s gc).size + 1))) := ⟨rfl, rfl, rfl⟩
  generalize w.drew.alloc (.cells (bytesRow s gc) e ((bytesRow s gc).size, (bytesRow s gc).size + 1)) = w' at hnew hold hws hso ⊢
  generalize bytesRow s gc = C at hnew hC hg
  have hlen : (s.data.toList.map fun b => AV.val (.int .u8 b.toNat)).length = s.data.size := by simp
  have hown : Own w' (if true = true then fun _ => False else S) (.arr ⟨1, false⟩ (s.data.toList.map fun b => AV.val (.int .u8 b.toNat))) (.slice (some ⟨w.heap.size, 0, none⟩) (s.data.toList.map fun b => AV.val (.int .u8 b.toNat)).length gc) [w.heap.size] := by
    have e1 : [w.heap.size] = w.heap.size :: (List.replicate (s.data.toList.map fun b => AV.val (.int .u8 b.toNat)).length ([] : List Nat)).flatten := by
      congr 1
      exact (List.flatten_eq_nil_iff.2 fun l hl => (List.mem_replicate.1 hl).2).symm
    rw [e1]
    refine .arr ⟨1, false⟩ _ w.heap.size gc C (e, true) _ hnew (by rw [hC, Nat.mul_one]) (by rw [hlen]; omega) hle (fun i hi => ?_) (by simp) fun i hi => ?_
    · rw [List.getElem_map]; exact ⟨rfl, rfl⟩
    · rw [hlen] at hi
      rw [elemV_cell, Nat.mul_one, hg i hi, List.getElem_map]
      have e2 : (List.replicate (s.data.toList.map fun b => AV.val (.int .u8 b.toNat)).length ([] : List Nat)).getD i [] = [] := by
        rw [List.getD_eq_getElem?_getD, List.getElem?_replicate]; split <;> rfl
      rw [e2]
      exact .rd _ _ (.val _ rfl)
  refine h.rowNext (b := w.heap.size) (cap := gc) (by omega) hso (Szs.of_same hold) (fun c _ hc => hold c hc) (fun l b sh ver cs e hl hb => ⟨cs, e, by rw [hold b (h.fpB l b (h.at_mem hl)).1]; exact hb, rfl⟩) (.inr ⟨rfl, by omega⟩) (fun ver hv => known_lt hv)
    (fun c hc => .inl (List.mem_singleton.1 hc)) (List.mem_singleton.2 rfl) (fun h => by cases h) (List.nodup_cons.2 ⟨List.not_mem_nil, List.nodup_nil⟩) hown ?_ ⟨rfl, hk⟩
  exact ⟨_, gc, by rw [hsz], by omega, .inr ⟨rfl, _, _, hnew, by rw [hC, Nat.mul_one]⟩⟩
end
end Go.Vc


set_option linter.unusedVariables false
set_option linter.unusedSimpArgs false
set_option linter.unnecessarySimpa false
namespace Go.Vc

def sSl (kd : TK) (k : Prop) : Prop := match kd with | .slice => k | _ => False
theorem sSl_slice (k : Prop) : sSl .slice k = k := rfl
def sSt (kd : TK) (k : Prop) : Prop := match kd with | .struct => k | _ => False
theorem sSt_struct (k : Prop) : sSt .struct k = k := rfl

def sNil (m : Mem) (x : AV) (k : AV → Prop) : Prop := match x with
  | .ptr l v i j => sLive v (lookB m l) (k (.ptr l v i j))
  | .eptr sh xs i j => k (.eptr sh xs i j)
  | .clo f xs => k (.clo f xs)
  | _ => False
@[congr] theorem sNil_congr {m : Mem} {x x' : AV} {k : AV → Prop} (h : x = x') : sNil m x k = sNil m x' k := by rw [h]
def sSlK (P : Program) (tt : TI) (x : AV) (lo hi : Option AV) (m : Mem) (k : AV → Prop) : Prop := match tt.kind with
  | .string => (match x with | .val (.string _) => True | _ => False) ∧ sSlice ⟨0, false⟩ x lo hi m k
  | .slice => (match x with | .arr _ _ => True | .ref _ _ _ _ => True | _ => False) ∧ sTI (tiOf P tt.elem) fun ti => sSlice ti.sh x lo hi m k
  | _ => False
@[congr] theorem sSlK_congr {P : Program} {tt : TI} {x x' : AV} {lo hi lo' hi' : Option AV} {m : Mem} {k : AV → Prop} (h : x = x') (h1 : lo = lo') (h2 : hi = hi') : sSlK P tt x lo hi m k = sSlK P tt x' lo' hi' m k := by rw [h, h1, h2]
theorem sSlK_arr (P : Program) (ag : Bool) (s b : Nat) (z : AV) (f : List (Nat × Nat × Bool)) (e : Nat) (sh : Sh) (xs : List AV) (lo hi : Option AV) (m : Mem) (k : AV → Prop) :
    sSlK P ⟨ag, s, b, z, f, e, .slice⟩ (.arr sh xs) lo hi m k = sTI (tiOf P e) fun ti => sSlice ti.sh (.arr sh xs) lo hi m k := by simp [sSlK]
def sIdxB (sh : Sh) (l v i0 n : Nat) (i : Int) (b : Option Blk) (k : AV → Prop) : Prop := match b with
  | some (.row v' sh' _ _) => v' = v ∧ sh' = sh ∧ ((0 ≤ i ∧ i < n) ∧ k (.ptr l v (i0 + i.toNat) 0))
  | some (.box v' _) => v' = v ∧ i0 = 0 ∧ sh.sz = 1 ∧ ((0 ≤ i ∧ i < n) ∧ k (.ptr l v 0 i.toNat))
  | _ => False
@[congr] theorem sIdxB_congr {sh : Sh} {l v i0 n : Nat} {i : Int} {b b' : Option Blk} {k : AV → Prop} (h : b = b') : sIdxB sh l v i0 n i b k = sIdxB sh l v i0 n i b' k := by rw [h]
theorem sIdxB_row (sh : Sh) (l v i0 n : Nat) (i : Int) (d : Bool) (xs : List AV) (k : AV → Prop) : sIdxB sh l v i0 n i (some (.row v sh d xs)) k = ((0 ≤ i ∧ i < n) ∧ k (.ptr l v (i0 + i.toNat) 0)) := by simp [sIdxB]
def sIdx (sh : Sh) (m : Mem) (x i : AV) (k : AV → Prop) : Prop := match x, i with
  | .arr sh' xs, .val (.int _ i) => sh' = sh ∧ (0 ≤ i ∧ i < xs.length) ∧ k (.eptr sh xs i.toNat 0)
  | .ref l v i0 n, .val (.int _ i) => sIdxB sh l v i0 n i (lookB m l) k
  | _, _ => False
@[congr] theorem sIdx_congr {sh : Sh} {m : Mem} {x x' i i' : AV} {k : AV → Prop} (h : x = x') (h' : i = i') : sIdx sh m x i k = sIdx sh m x' i' k := by rw [h, h']
theorem sIdx_arr (sh : Sh) (m : Mem) (xs : List AV) (j : IntKind) (i : Int) (k : AV → Prop) : sIdx sh m (.arr sh xs) (.val (.int j i)) k = ((0 ≤ i ∧ i < xs.length) ∧ k (.eptr sh xs i.toNat 0)) := by simp [sIdx]
theorem sIdx_ref (sh : Sh) (m : Mem) (l v i0 n : Nat) (j : IntKind) (i : Int) (k : AV → Prop) : sIdx sh m (.ref l v i0 n) (.val (.int j i)) k = sIdxB sh l v i0 n i (lookB m l) k := rfl

def sSubI (sh : Sh) (u : Value) (i : AV) (m0 : Mem) (k : AV → Prop) : Mem → Prop
  | [] => False
  | (l, .sub v sh' xs u') :: _ => (lookB m0 l = some (.sub v sh' xs u') ∧ u' = u ∧ sh' = sh) ∧ (match i with | .val (.int _ n) => (0 ≤ n ∧ n < xs.length) ∧ k (.ptr l v n.toNat 0) | _ => False)
  | _ :: r => sSubI sh u i m0 k r
section
variable (sh : Sh) (u : Value) (j : IntKind) (n : Int) (m0 : Mem) (k : AV → Prop) (l : Nat) (r : Mem)
end
def sIdxX (sh : Sh) (m : Mem) (x i : AV) (k : AV → Prop) : Prop := match x with
  | .val u => sSubI sh u i m k m
  | x => sIdx sh m x i k
@[congr] theorem sIdxX_congr {sh : Sh} {m : Mem} {x x' i i' : AV} {k : AV → Prop} (h : x = x') (h' : i = i') : sIdxX sh m x i k = sIdxX sh m x' i' k := by rw [h, h']
theorem sIdxX_arr (sh : Sh) (m : Mem) (xs : List AV) (j : IntKind) (i : Int) (k : AV → Prop) : sIdxX sh m (.arr sh xs) (.val (.int j i)) k = ((0 ≤ i ∧ i < xs.length) ∧ k (.eptr sh xs i.toNat 0)) := sIdx_arr sh m xs j i k
theorem sIdxX_ref (sh : Sh) (m : Mem) (l v i0 n : Nat) (j : IntKind) (i : Int) (k : AV → Prop) : sIdxX sh m (.ref l v i0 n) (.val (.int j i)) k = sIdxB sh l v i0 n i (lookB m l) k := rfl
theorem sIdxX_of {sh : Sh} {m : Mem} {x i : AV} {k : AV → Prop} (h : sIdx sh m x i k) : sIdxX sh m x i k := by
  cases x with
  | val u => cases i <;> exact h.elim
  | _ => exact h

def sAppT (P : Program) (tys : List TypeId) (d : Nat) (x y : AV) (m : Mem) (k : AV → Mem → Prop) : Prop := match tys with
  | [t, t'] => sTI (tiOf P t) fun tt => sSl tt.kind (sTI (tiOf P t') fun tt' => sSl tt'.kind (sTI (tiOf P tt.elem) fun ti => sApp ti d x y m k))
  | _ => False
def sAppTX (P : Program) (tys : List TypeId) (d : Nat) (x y : AV) (m : Mem) (k : AV → Mem → Prop) : Prop := match tys with
  | [t, t'] => sTI (tiOf P t) fun tt => sSl tt.kind (sTI (tiOf P t') fun tt' => sSl tt'.kind (sTI (tiOf P tt.elem) fun ti => sAppX ti d x y m k))
  | _ => False
theorem sAppTX_eq (P : Program) (t t' : TypeId) (d : Nat) (x y : AV) (m : Mem) (k : AV → Mem → Prop) :
    sAppTX P [t, t'] d x y m k = sTI (tiOf P t) fun tt => sSl tt.kind (sTI (tiOf P t') fun tt' => sSl tt'.kind (sTI (tiOf P tt.elem) fun ti => sAppX ti d x y m k)) := rfl
theorem sApp_eq (ti : TI) (d : Nat) (x y : AV) (m : Mem) (k : AV → Mem → Prop) :
    sApp ti d x y m k = (ti.bytes ≤ 65536 ∧ 0 < ti.size ∧ fits ti.sh ti.zero ∧ sSrc ti.sh y m fun ys => isFlatL ys = true ∧ sApp1 ti d x ys m k) := rfl

def is0 : Option Operand → Bool
  | some (.const (.int _ n)) => n == 0
  | _ => false

def sPartA (ag : Bool) (n j : Nat) (x : AV) (k : AV → Prop) : Prop := match x with | .agg ys => sPart ag n j (.agg ys) k | _ => False
@[congr] theorem sPartA_congr {ag : Bool} {n j : Nat} {x x' : AV} {k : AV → Prop} (h : x = x') : sPartA ag n j x k = sPartA ag n j x' k := by rw [h]
def sNilB (a : AV) (m : Mem) (k : Bool → Prop) : Prop := match a with
  | .arr _ xs => ∀ c, (c = true → xs = []) → k c
  | .ref l v _ n => sLive v (lookB m l) (∀ c, (c = true → n = 0) → k c)
  | .e0 => ∀ c, k c
  | .val (.slice none 0 0) => k true
  | _ => False
@[congr] theorem sNilB_congr {a a' : AV} {m : Mem} {k : Bool → Prop} (h : a = a') : sNilB a m k = sNilB a' m k := by rw [h]
theorem sNilB_arr (sh : Sh) (xs : List AV) (m : Mem) (k : Bool → Prop) : sNilB (.arr sh xs) m k = ∀ c, (c = true → xs = []) → k c := rfl
def cst : Operand → Bool | .const _ => true | _ => false
theorem cst_const (v : Value) : cst (.const v) = true := rfl
theorem cst_tmp (t : Nat) : cst (.tmp t) = false := rfl
def sIfc (op : BinOp) (a : AV) (c : Bool) (k : AV → Prop) : Prop := match op, a with
  | .eql, .val .nilIface => c = true ∧ k (.val (.bool true))
  | .neq, .val .nilIface => c = true ∧ k (.val (.bool false))
  | .eql, .val (.iface _ _) => k (.val (.bool false))
  | .neq, .val (.iface _ _) => k (.val (.bool true))
  | _, _ => False
@[congr] theorem sIfc_congr {op : BinOp} {a a' : AV} {c : Bool} {k : AV → Prop} (h : a = a') : sIfc op a c k = sIfc op a' c k := by rw [h]
def sBinN (op : BinOp) (kd : TK) (a b : AV) (c : Bool) (m : Mem) (k : AV → Prop) : Prop := match kd, op, b with
  | .slice, .eql, .val (.slice none 0 0) => sNilB a m fun c => k (.val (.bool c))
  | .slice, .neq, .val (.slice none 0 0) => sNilB a m fun c => k (.val (.bool (!c)))
  | .iface, op, .val .nilIface => sIfc op a c k
  | kd, op, b => sBin op kd a b k
@[congr] theorem sBinN_congr {op : BinOp} {kd : TK} {a b a' b' : AV} {c : Bool} {m : Mem} {k : AV → Prop} (h : a = a') (h' : b = b') : sBinN op kd a b c m k = sBinN op kd a' b' c m k := by rw [h, h']
theorem sBinN_eql (a : AV) (c : Bool) (m : Mem) (k : AV → Prop) : sBinN .eql .slice a (.val (.slice none 0 0)) c m k = sNilB a m fun c => k (.val (.bool c)) := rfl
theorem sBinN_int (op : BinOp) (i : IntKind) (a b : AV) (c : Bool) (m : Mem) (k : AV → Prop) : sBinN op (.int i) a b c m k = sBin op (.int i) a b k := rfl
theorem sBinN_bool (op : BinOp) (a b : AV) (c : Bool) (m : Mem) (k : AV → Prop) : sBinN op .bool a b c m k = sBin op .bool a b k := rfl
theorem sBinN_of {op : BinOp} {kd : TK} {a b : AV} {c : Bool} {m : Mem} {k : AV → Prop} (h : sBin op kd a b k) : sBinN op kd a b c m k := by
  unfold sBinN
  split
  · unfold sBin at h; split at h <;> first | exact h.elim | (rename_i e; cases e)
  · unfold sBin at h; split at h <;> first | exact h.elim | (rename_i e; cases e)
  · unfold sBin at h; split at h <;> first | exact h.elim | (rename_i e; cases e)
  · exact h

def sCallV (P : Program) (c : AV) (d : Nat) (xs : List AV) (m : Mem) (k : AV → Mem → Prop) : Prop := match c with
  | .clo f ys => sCall P f d (xs ++ ys) m k
  | _ => False
@[congr] theorem sCallV_congr {P : Program} {c c' : AV} {d : Nat} {xs xs' : List AV} {m : Mem} {k : AV → Mem → Prop} (h : c = c') (h' : xs = xs') : sCallV P c d xs m k = sCallV P c' d xs' m k := by rw [h, h']
theorem sCallV_clo (P : Program) (f : FuncId) (ys : List AV) (d : Nat) (xs : List AV) (m : Mem) (k : AV → Mem → Prop) : sCallV P (.clo f ys) d xs m k = sCall P f d (xs ++ ys) m k := rfl
def sBytesL (k : AV → Prop) : List UInt8 → List AV → Prop
  | acc, [] => k (.val (.string ⟨acc.reverse.toArray⟩))
  | acc, .val (.int .u8 z) :: r => (0 ≤ z ∧ z < 256) ∧ sBytesL k (UInt8.ofNat z.toNat :: acc) r
  | _, _ => False
theorem sBytesL_nil (k : AV → Prop) (acc : List UInt8) : sBytesL k acc [] = k (.val (.string ⟨acc.reverse.toArray⟩)) := rfl
theorem sBytesL_out {k : AV → Prop} : ∀ {xs : List AV} {acc : List UInt8}, sBytesL k acc xs → ∃ bs : List UInt8, xs = bs.map (fun b => .val (.int .u8 b.toNat)) ∧ k (.val (.string ⟨(acc.reverse ++ bs).toArray⟩))
  | [], acc, h => ⟨[], rfl, by rw [sBytesL_nil] at h; simpa using h⟩
  | .val (.int .u8 z) :: r, acc, h => by
    obtain ⟨⟨h0, h1⟩, h⟩ := h
    obtain ⟨bs, rfl, hk⟩ := sBytesL_out h
    refine ⟨UInt8.ofNat z.toNat :: bs, ?_, by simpa using hk⟩
    have : ((UInt8.ofNat z.toNat).toNat : Int) = z := by
      rw [UInt8.toNat_ofNat_of_lt' (by show z.toNat < 256; omega)]; omega
    rw [List.map_cons, this]
def sBytes (y : AV) (k : AV → Prop) : Prop := match y with | .arr _ xs => sBytesL k [] xs | _ => False
@[congr] theorem sBytes_congr {y y' : AV} {k : AV → Prop} (h : y = y') : sBytes y k = sBytes y' k := by rw [h]
def isU8 (kd : TK) (k : Prop) : Prop := match kd with | .int .u8 => k | _ => False
def sChr (x : AV) (k : AV → Prop) : Prop := match x with | .val (.int _ n) => (0 ≤ n ∧ n < 128) ∧ k (.val (.string ⟨#[UInt8.ofNat n.toNat]⟩)) | _ => False
@[congr] theorem sChr_congr {y y' : AV} {k : AV → Prop} (h : y = y') : sChr y k = sChr y' k := by rw [h]
def sConvX (P : Program) (si ti : TI) (x : AV) (m : Mem) (k : AV → Prop) : Prop := match si.kind, ti.kind with
  | .slice, .string => sTI (tiOf P si.elem) fun ei => isU8 ei.kind (sLeafT m x fun y => sBytes y k)
  | .int _, .string => sChr x k
  | _, d => sConv d x k
@[congr] theorem sConvX_congr {P : Program} {si ti : TI} {x x' : AV} {m : Mem} {k : AV → Prop} (h : x = x') : sConvX P si ti x m k = sConvX P si ti x' m k := by rw [h]
section
variable (P : Program) (ag ag' : Bool) (s b s' b' : Nat) (z z' : AV) (f f' : List (Nat × Nat × Bool)) (e e' : Nat) (x : AV) (m : Mem) (k : AV → Prop)
theorem sConvX_int (kd : TK) (i : IntKind) : sConvX P ⟨ag, s, b, z, f, e, kd⟩ ⟨ag', s', b', z', f', e', .int i⟩ x m k = sConv (.int i) x k := by cases kd <;> rfl
end
def sConvY (P : Program) (si ti : TI) (d : Nat) (x : AV) (m : Mem) (k : AV → Mem → Prop) : Prop := match si.kind, ti.kind with
  | .string, .slice => sTI (tiOf P ti.elem) fun ei => isU8 ei.kind (sConvB d x m k)
  | _, _ => sConvX P si ti x m fun v => k v m
@[congr] theorem sConvY_congr {P : Program} {si ti : TI} {d : Nat} {x x' : AV} {m : Mem} {k : AV → Mem → Prop} (h : x = x') : sConvY P si ti d x m k = sConvY P si ti d x' m k := by rw [h]
section
variable (P : Program) (ag ag' : Bool) (s b s' b' : Nat) (z z' : AV) (f f' : List (Nat × Nat × Bool)) (e e' d : Nat) (x : AV) (m : Mem) (k : AV → Mem → Prop)
theorem sConvY_int (kd : TK) (i : IntKind) : sConvY P ⟨ag, s, b, z, f, e, kd⟩ ⟨ag', s', b', z', f', e', .int i⟩ d x m k = sConvX P ⟨ag, s, b, z, f, e, kd⟩ ⟨ag', s', b', z', f', e', .int i⟩ x m fun v => k v m := by cases kd <;> rfl
end
def sOp (P : Program) (d : Nat) (op : Op) (ts : Env) (m : Mem) (k : AV → Mem → Prop) : Prop :=
  match op with
  | .move x => k (ev ts x) m
  | .assign x => k (ev ts x) m
  | .pick c a b => sPick (ev ts c) (ev ts a) (ev ts b) fun v => k v m
  | .alloc t => sTI (tiOf P t) fun ti => sBox d ti.zero m k
  | .box _ x => sBox d (ev ts x) m k
  | .build t parts => sTI (tiOf P t) fun ti => sSt ti.kind (sBuild ti (parts.toList.map fun p => (p.1, ev ts p.2)) fun v => k v m)
  | .buildSlice t n parts => sTI (tiOf P t) fun tt => sSl tt.kind (sTI (tiOf P tt.elem) fun ti => sBuildSliceX ti d n (parts.toList.map fun p => (p.1, ev ts p.2)) m k)
  | .load t x => sTI (tiOf P t) fun ti => sLoadX ti.agg ti.size (ev ts x) m k
  | .store t p y => sTI (tiOf P t) fun ti => sStoreY ti.size (ev ts p) (ev ts y) m fun m' => k .undef m'
  | .nilCheck x => sNil m (ev ts x) fun v => k v m
  | .binOp op t x y _ => sTI (tiOf P t) fun ti => sBinS P t op (ev ts x) (ev ts y) (fun v => k v m) (sBinN op ti.kind (ev ts x) (ev ts y) (cst y) m fun v => k v m)
  | .unOp .not _ x => sNot (ev ts x) fun v => k v m
  | .unOp .neg _ x => sNeg (ev ts x) fun v => k v m
  | .convert s t x => sTI (tiOf P s) fun si => sTI (tiOf P t) fun ti => sConvY P si ti d (ev ts x) m k
  | .makeSlice t l c => sTI (tiOf P t) fun tt => sSl tt.kind (sTI (tiOf P tt.elem) fun ti => sMake ti d (ev ts l) (ev ts c) m k)
  | .slice t x lo hi none => sTI (tiOf P t) fun tt => sSlK P tt (ev ts x) (lo.map (ev ts)) (hi.map (ev ts)) m fun v => k v m
  | .slice t x none hi mx => (is0 hi = true ∧ is0 mx = true) ∧ sTI (tiOf P t) fun tt => sSl tt.kind (sTI (tiOf P tt.elem) fun _ => sSlice0 m (ev ts x) fun v => k v m)
  | .fieldAddr t x f => sTI (tiOf P t) fun ti => sFld ti.fields[f]? fun fd => 0 < fd.2.1 ∧ sField fd.1 m (ev ts x) fun v => k v m
  | .field t x f => sTI (tiOf P t) fun ti => sFld ti.fields[f]? fun fd => sPartA fd.2.2 fd.2.1 fd.1 (ev ts x) fun v => k v m
  | .indexAddr t x i => sTI (tiOf P t) fun tt => sSl tt.kind (sTI (tiOf P tt.elem) fun ti => sIdxX ti.sh m (ev ts x) (ev ts i) fun v => k v m)
  | .index t x i => sTI (tiOf P t) fun tt => (match tt.kind with | .string => True | _ => False) ∧ sIndex (ev ts x) (ev ts i) fun v => k v m
  | .extract x i => sTup i (ev ts x) fun v => k v m
  | .call c => match c.callee, c.args.toList with
    | .builtin .len, [x] => match c.argTypes.toList with | t :: _ => sTI (tiOf P t) fun ti => sLen ti.kind m (ev ts x) fun v => k v m | [] => False
    | .builtin .max, [x, y] => sMax (ev ts x) (ev ts y) fun v => k v m
    | .builtin .min, [x, y] => sMin (ev ts x) (ev ts y) fun v => k v m
    | .builtin .min, [x, y, z] => sMin (ev ts x) (ev ts y) fun u => sMin u (ev ts z) fun v => k v m
    | .builtin .append, [x, y] => sAppTX P c.argTypes.toList d (ev ts x) (ev ts y) m k
    | .value (.func f), xs => sCall P f d (xs.map (ev ts)) m k
    | .value (.tmp t), xs => sCallV P (look ts t) d (xs.map (ev ts)) m k
    | _, _ => False
  | .makeFunc (.func f) first caps => first.toList = [] ∧ k (.clo f (caps.toList.map (ev ts))) m
  | _ => False


section
variable {P : Program} {B : Base} {N : Nat} {φ : Nat → LS} {fp : Nat → List Nat} {S : Nat → Prop} {ts : Env} {m : Mem} {a : Act} {w : World}

theorem sTI_out {x : Option TI} {k : TI → Prop} (h : sTI x k) : ∃ t, x = some t ∧ k t := by
  cases x with
  | none => exact h.elim
  | some t => exact ⟨t, rfl, h⟩
theorem sSl_out {kd : TK} {k : Prop} (h : sSl kd k) : kd = .slice ∧ k := by cases kd <;> first | exact h.elim | exact ⟨rfl, h⟩
theorem sSt_out {kd : TK} {k : Prop} (h : sSt kd k) : kd = .struct ∧ k := by cases kd <;> first | exact h.elim | exact ⟨rfl, h⟩
theorem sFld_out {f : Option (Nat × Nat × Bool)} {k : Nat × Nat × Bool → Prop} (h : sFld f k) : ∃ fd, f = some fd ∧ k fd := by
  cases f with
  | none => exact h.elim
  | some t => exact ⟨t, rfl, h⟩

theorem field_of {t : TypeId} {ti : TI} (ht : tiOf P t = some ti) {f : Nat} {fd : Nat × Nat × Bool} (hf : ti.fields[f]? = some fd) :
    ∃ fs g, P.underlying t = some (.struct fs) ∧ fs[f]? = some g ∧ fd = (g.offset, sizeOf' P g.type, aggOf P g.type) ∧ ∃ i d, P.info? g.type = some i ∧ P.underlying g.type = some d := by
  obtain ⟨i, d, z, hi, hd, hz, _, _, _, _, hff, _⟩ := kind_of ht
  rw [hff] at hf
  cases d with
  | struct fs =>
    simp only [List.getElem?_map] at hf
    cases hg : fs.toList[f]? with
    | none => rw [hg] at hf; cases hf
    | some g =>
      rw [hg] at hf
      simp only [Option.map_some, Option.some.injEq] at hf
      obtain ⟨i', hi'⟩ := Option.isSome_iff_exists.1 (fields_of ht fs hd g (List.mem_of_getElem? hg)).1
      obtain ⟨d', hd'⟩ := Option.isSome_iff_exists.1 (fields_of ht fs hd g (List.mem_of_getElem? hg)).2
      exact ⟨fs, g, hd, by simpa using hg, hf.symm, i', d', hi', hd'⟩
  | _ => simp at hf

theorem live_out (h : RS B N φ fp S ts m a w) {l v : Nat} (hn : φ l ≠ .nil v) {k : Prop} (hk : sLive v (lookB m l) k) : (∃ b sh, φ l = .at b sh v) ∧ k := by
  unfold sLive at hk
  split at hk
  · rename_i v' xs hlk
    obtain ⟨rfl, hk⟩ := hk
    obtain ⟨b, cs, e, sh, hφ, _⟩ := h.mSome l _ hlk
    exact ⟨⟨b, sh, hφ⟩, hk⟩
  · rename_i v' sh d xs hlk
    obtain ⟨rfl, hk⟩ := hk
    rcases h.mSome l _ hlk with ⟨h1, _⟩ | ⟨b, cap, hφ, _⟩
    · exact absurd h1 hn
    · exact ⟨⟨b, sh, hφ⟩, hk⟩
  · exact hk.elim

theorem run_field {t : TypeId} {ti : TI} (ht : tiOf P t = some ti) (h : RS B N φ fp S ts m a w) {p : AV} {v : Value} (hp : RV w S φ p v) (hpl : ∀ l ver, (l, ver) ∈ labs p → known m l ver) {f : Nat} {fd : Nat × Nat × Bool} (hf : ti.fields[f]? = some fd) (hsz : 0 < fd.2.1)
    {k : AV → Prop} (hk : sField fd.1 m p k) : Runs B N a (fun x ts' m' => ts' = ts ∧ m' = m ∧ k x) ((Instr.fieldAt t v f).run P w) := by
  obtain ⟨fs, g, hu, hg, rfl, i, d, hi, hd⟩ := field_of ht hf
  simp only at hsz
  have hs : sizeOf' P g.type = i.size := by simp [sizeOf', hi]
  have hrun : ∀ b o, (Instr.fieldAt t (.pointer (some ⟨b, o, none⟩)) f).run P w = .ok (.pointer (some ⟨b, o + g.offset, none⟩)) w := by
    intro b o
    have h0 : i.size ≠ 0 := by omega
    simp [Instr.fieldAt, run_underlying hu, hg, Instr.sureAddr, fieldPlace, sizeOf, typeInfo, hi, h0, Addr.add_none]
  unfold sField at hk
  split at hk
  · rename_i l ver i' j'
    obtain ⟨⟨b, sh, hφ⟩, hk⟩ := live_out h (rv_ptr2 hp).1 hk
    have hv := rv_ptr hp b sh hφ
    subst hv
    refine ⟨_, w, hrun _ _, h.gives (x := .ptr l ver i' (j' + g.offset)) ?_ (fun l' ver' hl => hpl l' ver' (by simpa [labs] using hl)) ⟨rfl, rfl, hk⟩⟩
    refine .ptr _ _ _ _ _ (fun b' sh' hb' => ?_) (rv_ptr2 hp).1 rfl
    rw [hφ] at hb'; cases hb'
    rw [Nat.add_assoc]
  · rename_i sh xs i' j'
    cases rv_eptr hp with
    | eptr _ _ _ _ b off cs e fr hS hb hl hff hv =>
      refine ⟨_, w, hrun _ _, h.gives ?_ (fun l' ver' hl => by cases hl) ⟨rfl, rfl, hk⟩⟩
      have := Rd.eptr (w := w) (S := S) sh xs i' (j' + g.offset) b off cs e fr hS hb hl hff hv
      rw [← Nat.add_assoc] at this
      exact .rd _ _ this
  · exact hk.elim


theorem run_idx {t : TypeId} {tt ti : TI} (htt : tiOf P t = some tt) (hks : tt.kind = .slice) (ht : tiOf P tt.elem = some ti) (h : RS B N φ fp S ts m a w) {x i : AV} {u v : Value} (hx : RV w S φ x u) (hxl : ∀ l ver, (l, ver) ∈ labs x → known m l ver) (hi : RV w S φ i v)
    {k : AV → Prop} (hk : sIdx ti.sh m x i k) : Runs B N a (fun x ts' m' => ts' = ts ∧ m' = m ∧ k x) ((Instr.indexAt t u v).run P w) := by
  have hsl := kind_slice htt hks
  have hs := sizeOf_run ht w
  have hrun : ∀ (b o len cap : Nat) (q : IntKind) (n : Int), 0 ≤ n → n < len → (Instr.indexAt t (.slice (some ⟨b, o, none⟩) len cap) (.int q n)).run P w = .ok (.pointer (some ⟨b, o + n.toNat * ti.size, none⟩)) w := by
    intro b o len cap q n h0 h1
    simp [Instr.indexAt, asIntOf, run_underlying hsl, h0, h1, hs, Addr.add_none]
  unfold sIdx at hk
  split at hk
  · rename_i sh' xs q n
    obtain ⟨rfl, ⟨h0, h1⟩, hk⟩ := hk
    obtain ⟨rfl, _⟩ := rv_val hi
    cases rv_arr hx with
    | nil => simp at h1; omega
    | arr _ _ b off cap cs e fr hS hb hcap hl hf hv =>
      refine ⟨_, w, hrun b off _ cap q n h0 h1, h.gives ?_ (fun l' ver' hl => by cases hl) ⟨rfl, rfl, hk⟩⟩
      have := Rd.eptr (w := w) (S := S) ti.sh xs n.toNat 0 b off cs e fr hS hb hl hf hv
      exact .rd _ _ this
  · rename_i l ver i0 n0 q n
    unfold sIdxB at hk
    split at hk
    · rename_i v' sh' deep xs hlk
      obtain ⟨rfl, rfl, ⟨h0, h1⟩, hk⟩ := hk
      obtain ⟨rfl, _⟩ := rv_val hi
      have hr := rv_ref hx
      have hkn := hxl l v' (by simp [labs])
      rcases h.mSome l _ hlk with ⟨g1, g2, g3⟩ | ⟨b, cap0, hφ, hbm, hdp, hown⟩
      · have := (hr.2 g1).1; omega
      · obtain ⟨ad, cap, rfl, hnc, hcp⟩ := hr.1 b _ hφ
        obtain ⟨rfl, cs, e, q1, q2⟩ := hcp.resolve_left (by omega)
        refine ⟨_, w, hrun b _ _ cap q n h0 h1, h.gives (x := .ptr l v' (i0 + n.toNat) 0) ?_ (fun l' ver' hl => ?_) ⟨rfl, rfl, hk⟩⟩
        · refine .ptr _ _ _ _ _ (fun b' sh' hb' => ?_) (fun hb' => by rw [hφ] at hb'; cases hb') rfl
          rw [hφ] at hb'; cases hb'
          rw [Nat.add_zero, Nat.add_mul]; rfl
        · simp only [labs, List.mem_singleton, Prod.mk.injEq] at hl
          obtain ⟨rfl, rfl⟩ := hl
          exact hkn
    · rename_i v' xs hlk
      obtain ⟨rfl, rfl, hsz1, ⟨h0, h1⟩, hk⟩ := hk
      obtain ⟨rfl, _⟩ := rv_val hi
      have hr := rv_ref hx
      have hkn := hxl l v' (by simp [labs])
      obtain ⟨b, cs, e, sh2, hφ, _⟩ := h.mSome l _ hlk
      obtain ⟨ad, cap, rfl, hnc, hcp⟩ := hr.1 b _ hφ
      obtain ⟨rfl, cs, e, q1, q2⟩ := hcp.resolve_left (by omega)
      refine ⟨_, w, hrun b _ _ cap q n h0 h1, h.gives (x := .ptr l v' 0 n.toNat) ?_ (fun l' ver' hl => ?_) ⟨rfl, rfl, hk⟩⟩
      · refine .ptr _ _ _ _ _ (fun b' sh' hb' => ?_) (fun hb' => by rw [hφ] at hb'; cases hb') rfl
        rw [hφ] at hb'; cases hb'
        have : ti.size = 1 := hsz1
        rw [this, Nat.mul_one]
      · simp only [labs, List.mem_singleton, Prod.mk.injEq] at hl
        obtain ⟨rfl, rfl⟩ := hl
        exact hkn
    · exact hk.elim
  · exact hk.elim

theorem sSubI_out {sh : Sh} {u : Value} {i : AV} {m0 : Mem} {k : AV → Prop} : ∀ {r : Mem}, sSubI sh u i m0 k r → ∃ l v xs j n, lookB m0 l = some (.sub v sh xs u) ∧ i = .val (.int j n) ∧ (0 ≤ n ∧ n < xs.length) ∧ k (.ptr l v n.toNat 0)
  | (l, .sub v sh' xs u') :: r, h => by
    obtain ⟨⟨h1, rfl, rfl⟩, h2⟩ := h
    split at h2
    · rename_i j n; exact ⟨l, v, xs, j, n, h1, rfl, h2.1, h2.2⟩
    · exact h2.elim
  | (l, .row v sh' d xs) :: r, h => sSubI_out (r := r) h
  | (l, .box v xs) :: r, h => sSubI_out (r := r) h
  | (l, .gone v) :: r, h => sSubI_out (r := r) h
  | (l, .lent v xs i0 u0) :: r, h => sSubI_out (r := r) h
theorem run_idxX {t : TypeId} {tt ti : TI} (htt : tiOf P t = some tt) (hks : tt.kind = .slice) (ht : tiOf P tt.elem = some ti) (h : RS B N φ fp S ts m a w) {x i : AV} {u v : Value} (hx : RV w S φ x u) (hxl : ∀ l ver, (l, ver) ∈ labs x → known m l ver) (hi : RV w S φ i v)
    {k : AV → Prop} (hk : sIdxX ti.sh m x i k) : Runs B N a (fun x ts' m' => ts' = ts ∧ m' = m ∧ k x) ((Instr.indexAt t u v).run P w) := by
  cases x with
  | val u0 =>
    obtain ⟨l, v', xs, j, n, hlk, rfl, ⟨h0, h1⟩, hk'⟩ := sSubI_out hk
    obtain ⟨rfl, _⟩ := rv_val hx
    obtain ⟨rfl, _⟩ := rv_val hi
    obtain ⟨b, cap, hφ, hbm, rfl, hown⟩ := h.mSome l _ hlk
    have hsl := kind_slice htt hks
    have hs := sizeOf_run ht w
    have hrun : (Instr.indexAt t (.slice (some ⟨b, 0, none⟩) xs.length cap) (.int j n)).run P w = .ok (.pointer (some ⟨b, 0 + n.toNat * ti.size, none⟩)) w := by
      simp [Instr.indexAt, asIntOf, run_underlying hsl, h0, h1, hs, Addr.add_none]
    refine ⟨_, w, hrun, h.gives (x := .ptr l v' n.toNat 0) ?_ (fun l' ver' hl => ?_) ⟨rfl, rfl, hk'⟩⟩
    · refine .ptr _ _ _ _ _ (fun b' sh' hb' => ?_) (fun hb' => by rw [hφ] at hb'; cases hb') rfl
      rw [hφ] at hb'; cases hb'
      rw [Nat.add_zero, Nat.zero_add]; rfl
    · simp only [labs, List.mem_singleton, Prod.mk.injEq] at hl
      obtain ⟨rfl, rfl⟩ := hl
      exact ⟨_, hlk, Nat.le_refl _⟩
  | _ => exact run_idx htt hks ht h hx hxl hi hk

theorem run_index {t : TypeId} (ht : P.underlying t = some .string) (h : RS B N φ fp S ts m a w) {x i : AV} {u v : Value} (hx : RV w S φ x u) (hi : RV w S φ i v)
    {k : AV → Prop} (hk : sIndex x i k) : Runs B N a (fun x ts' m' => ts' = ts ∧ m' = m ∧ k x) ((Instr.index t u v).run P w) := by
  unfold sIndex at hk
  split at hk
  · rename_i s q n
    obtain ⟨⟨h0, h1⟩, hk⟩ := hk
    obtain ⟨rfl, _⟩ := rv_val hx
    obtain ⟨rfl, _⟩ := rv_val hi
    have hlt : n.toNat < s.size := by omega
    have hlt' : n.toNat < s.data.toList.length := by simpa using hlt
    have e : s[n.toNat]? = some (s.data.toList.getD n.toNat 0) := by
      rw [List.getD_eq_getElem?_getD, List.getElem?_eq_getElem hlt', getElem?_pos s n.toNat hlt]
      rfl
    refine ⟨.int .u8 (s.data.toList.getD n.toNat 0).toNat, w, ?_, h.givesV rfl ⟨rfl, rfl, hk⟩⟩
    simp only [Instr.index, asIntOf, pure_bind, Sem.run_bind, run_underlying ht, Result.andThen_ok, h0, if_true, e]
    rfl
  · exact hk.elim

theorem run_len {t ty : TypeId} {ti : TI} (ht : tiOf P t = some ti) (h : RS B N φ fp S ts m a w) {x : AV} {u : Value} (hx : RV w S φ x u)
    {k : AV → Prop} (hk : sLen ti.kind m x k) : Runs B N a (fun x ts' m' => ts' = ts ∧ m' = m ∧ k x) ((Builtin.len_ #[t] ty #[u]).run P w) := by
  unfold sLen at hk
  have sl : ∀ (ad : Option Addr) (n c : Nat), ti.kind = .slice → (Builtin.len_ #[t] ty #[.slice ad n c]).run P w = .ok (.int .i64 n) w := by
    intro ad n c hkd
    simp [Builtin.len_, run_underlying (kind_slice ht hkd), goInt]
  split at hk
  · rename_i sh xs hkd
    cases rv_arr hx with
    | nil _ ad => exact ⟨_, w, sl ad 0 0 hkd, h.givesV rfl ⟨rfl, rfl, hk⟩⟩
    | arr _ _ b off cap cs e fr hS hb hcap hl hf hv => exact ⟨_, w, sl _ _ _ hkd, h.givesV rfl ⟨rfl, rfl, hk⟩⟩
  · rename_i l v i n hkd
    have hr := rv_ref hx
    unfold sLive at hk
    split at hk
    · rename_i v' xs hlk
      obtain ⟨rfl, hk⟩ := hk
      obtain ⟨b, cs, e, sh, hφ, _⟩ := h.mSome l _ hlk
      obtain ⟨ad, c, rfl, _⟩ := hr.1 b sh hφ
      exact ⟨_, w, sl _ _ _ hkd, h.givesV rfl ⟨rfl, rfl, hk⟩⟩
    · rename_i v' sh d xs hlk
      obtain ⟨rfl, hk⟩ := hk
      rcases h.mSome l _ hlk with ⟨h1, _⟩ | ⟨b, cap, hφ, _⟩
      · obtain ⟨rfl, ad, rfl⟩ := hr.2 h1
        exact ⟨_, w, sl _ _ _ hkd, h.givesV rfl ⟨rfl, rfl, hk⟩⟩
      · obtain ⟨ad, c, rfl, _⟩ := hr.1 b sh hφ
        exact ⟨_, w, sl _ _ _ hkd, h.givesV rfl ⟨rfl, rfl, hk⟩⟩
    · exact hk.elim
  · rename_i hkd
    obtain ⟨ad, rfl⟩ := rv_e0 hx
    exact ⟨_, w, sl ad 0 0 hkd, h.givesV rfl ⟨rfl, rfl, hk⟩⟩
  · rename_i ad n c hkd
    obtain ⟨rfl, _⟩ := rv_val hx
    exact ⟨_, w, sl ad n c hkd, h.givesV rfl ⟨rfl, rfl, hk⟩⟩
  · rename_i s hkd
    obtain ⟨rfl, _⟩ := rv_val hx
    refine ⟨.int .i64 s.size, w, ?_, h.givesV rfl ⟨rfl, rfl, hk⟩⟩
    simp [Builtin.len_, run_underlying (kind_string ht hkd), goInt]
  · exact hk.elim

theorem run_fieldV (h : RS B N φ fp S ts m a w) {x : AV} {u : Value} (hx : RV w S φ x u) (hxl : ∀ l ver, (l, ver) ∈ labs x → known m l ver) {t : TypeId} {ti : TI} (ht : tiOf P t = some ti) {f : Nat} {fd : Nat × Nat × Bool} (hf : ti.fields[f]? = some fd)
    {k : AV → Prop} (hk : sPart fd.2.2 fd.2.1 fd.1 x k) (hagg : ∃ xs, x = .agg xs) : Runs B N a (fun x ts' m' => ts' = ts ∧ m' = m ∧ k x) ((Instr.field t u f).run P w) := by
  obtain ⟨xs, rfl⟩ := hagg
  obtain ⟨fs, g, hu, hg, rfl, i, d, hi, hd⟩ := field_of ht hf
  obtain ⟨cs, rfl, h1, h2, h3⟩ := rv_agg hx
  have hs : sizeOf' P g.type = i.size := by simp [sizeOf', hi]
  have hag : (isAgg g.type).run P w = .ok (aggOf P g.type) w := by
    unfold isAgg aggOf
    simp only [Sem.run_bind, run_underlying hd, Result.andThen_ok, hd]
    cases d <;> rfl
  simp only at hk
  rw [hs] at hk
  cases hb : aggOf P g.type with
  | true =>
    rw [hb] at hk hag
    obtain ⟨hlen, hk⟩ := hk
    refine ⟨.agg (cs.extract g.offset (g.offset + i.size)), w, ?_, h.gives (x := .agg ((xs.drop g.offset).take i.size)) (.agg _ _ (by simp; omega) (fun q hq => ?_) fun q hq => ?_) (fun l ver hl => ?_) ⟨rfl, rfl, hk⟩⟩
    · simp [Instr.field, run_underlying hu, hg, asAgg, part, hag, sizeOf, typeInfo, hi]
    · simp only [List.length_take, List.length_drop] at hq
      simp only [List.getElem_take, List.getElem_drop]
      exact h2 _ (by omega)
    · simp only [List.length_take, List.length_drop] at hq
      simp only [List.getElem_take, List.getElem_drop]
      have := h3 (g.offset + q) (by omega)
      have e : (cs.extract g.offset (g.offset + i.size)).toList.getD q Go.undef = cs.toList.getD (g.offset + q) Go.undef := by
        simp only [List.getD_eq_getElem?_getD, Array.getElem?_toList, Array.getElem?_extract]
        rw [if_pos (by omega)]
      rw [e]; exact this
    · simp only [labs] at hl
      obtain ⟨q, hq, hl2⟩ := of_mem_labsL hl
      simp only [List.length_take, List.length_drop] at hq
      simp only [List.getElem_take, List.getElem_drop] at hl2
      exact hxl l ver (by simp only [labs]; exact mem_labsL (by omega) hl2)
  | false =>
    rw [hb] at hk hag
    simp only [sPart] at hk
    cases hj : xs[g.offset]? with
    | none => rw [hj] at hk; exact hk.elim
    | some y =>
      rw [hj] at hk
      obtain ⟨hj1, hj2⟩ := List.getElem?_eq_some_iff.1 hj
      have hlt : g.offset < cs.size := by omega
      refine ⟨cs.toList.getD g.offset Go.undef, w, ?_, h.gives (x := y) ?_ (fun l ver hl => ?_) ⟨rfl, rfl, hk⟩⟩
      · have e : cs[g.offset]? = some (cs.toList.getD g.offset Go.undef) := by
          rw [List.getD_eq_getElem?_getD, Array.getElem?_toList, Array.getElem?_eq_getElem hlt]; rfl
        simp only [Instr.field, run_underlying hu, Sem.run_bind, Result.andThen_ok, hg, asAgg, pure_bind, part, hag, e, Bool.false_eq_true, if_false]
        rfl
      · have := h3 g.offset hj1
        rwa [hj2] at this
      · exact hxl l ver (by simp only [labs]; exact mem_labsL hj1 (by rw [hj2]; exact hl))

end
end Go.Vc


set_option linter.unusedVariables false
set_option linter.unusedSimpArgs false
set_option linter.unnecessarySimpa false
namespace Go.Vc

section
variable {P : Program} {B : Base} {N : Nat} {φ : Nat → LS} {fp : Nat → List Nat} {S : Nat → Prop} {ts : Env} {m : Mem} {a : Act} {w : World}

theorem Gives.mono {k k' : AV → Env → Mem → Prop} {v : Value} {w : World} (h : Gives B N a k v w) (hk : ∀ x ts m, k x ts m → k' x ts m) : Gives B N a k' v w := by
  obtain ⟨φ, fp, S, ts, m, x, h1, h2, h3, h4⟩ := h
  exact ⟨φ, fp, S, ts, m, x, h1, h2, h3, hk _ _ _ h4⟩
theorem Runs.mono {k k' : AV → Env → Mem → Prop} {r : Result Value} (h : Runs B N a k r) (hk : ∀ x ts m, k x ts m → k' x ts m) : Runs B N a k' r := by
  obtain ⟨v, w', h1, h2⟩ := h
  exact ⟨v, w', h1, h2.mono hk⟩

theorem known_evs (h : RS B N φ fp S ts m a w) (l : List (Nat × Operand)) : ∀ p, p ∈ l.map (fun p => (p.1, Vc.ev ts p.2)) → ∀ q, q ∈ labs p.2 → known m q.1 q.2 := by
  intro p hp q hq
  obtain ⟨p0, _, rfl⟩ := List.mem_map.1 hp
  exact h.evL p0.2 q.1 q.2 hq

theorem call_sound {f : FuncId} {d : Nat} {xs : List AV} {vs : Array Value} (h : RS B N φ fp S ts m a w) (hxs : RdL (RV w S φ) xs vs.toList) (hxl : ∀ i (hi : i < xs.length) l ver, (l, ver) ∈ labs xs[i] → known m l ver) {k : AV → Mem → Prop} (hk : sCall P f d xs m k) :
    Enters P f ∧ Calls P f vs w fun e w' => ∃ v, e = .returned v ∧ Gives B N a (fun x ts' m' => ts' = ts ∧ k x m') v w' := by
  have hk' : sTrees m (fun ts => sCallT P f d xs ts m k ⟨⟩) [] xs := by
    cases xs with
    | nil => exact hk
    | cons x r => exact hk
  have owned : ∀ (trs : List AV) (post : AV → Prop), RdL (Rd w (Now w)) trs vs.toList → Fn P f trs true post → (∀ r, post r → sMat (1000 * (d + 1)) r m k) →
      Calls P f vs w fun e w' => ∃ v, e = .returned v ∧ Gives B N a (fun x ts' m' => ts' = ts ∧ k x m') v w' := by
    intro trs post hrd hfn hpost
    refine (hfn.2 w (Now w) vs (fun b hb => hb) (h.kon.mono (fun _ _ => rfl) fun b hb => (h.sB b hb).1) (by simpa using hrd.1) hrd.2).mono ?_
    rintro e w' ⟨r, v, rfl, hr, hg, hres⟩
    simp only [FnRes, if_true] at hres
    obtain ⟨fs, hown, hnd, hfr⟩ := hres
    have hRS := h.grown hg
    obtain ⟨φ', fp', y, m', g1, g2, g3, g4⟩ := mat_out hRS hown hnd (fun b hb => ⟨Nat.le_trans h.size (hfr b hb), fun hs => by have := (h.sB b hs).1; have := hfr b hb; omega, fun l hl => by have := (h.fpB l b hl).1; have := hfr b hb; omega⟩) _ (hpost r hr)
    exact ⟨v, rfl, φ', fp', S, ts, m', y, g1.rs, g3, g4, rfl, g2⟩
  have io : sCallIo P f xs m k → Enters P f ∧ Calls P f vs w fun e w' => ∃ v, e = .returned v ∧ Gives B N a (fun x ts' m' => ts' = ts ∧ k x m') v w' :=
    fun hi => hi B N φ fp S ts a w vs h (by simpa using hxs.1) hxs.2 hxl
  by_cases hlab : noLabs xs
  · have hct := trees_S xs [] hlab hk'
    rcases hct with hct | hct
    · exact io hct
    obtain ⟨own, post, hfn, hshare, hpost⟩ := hct
    rw [List.reverse_nil, List.nil_append] at hfn
    have lab : ∀ (xs : List AV), noLabs xs → ∀ i (hi : i < xs.length), labs xs[i] = [] := by
      intro xs
      induction xs with
      | nil => intro _ i hi; exact absurd hi (Nat.not_lt_zero _)
      | cons x r ih =>
        intro hl i hi
        cases i with
        | zero => exact hl.1.1
        | succ i => exact ih hl.2 i (by simpa using hi)
    have hrd : ∀ i (hi : i < xs.length), Rd w S xs[i] (vs.toList.getD i Go.undef) := fun i hi => rd_of_rv (hxs.2 i hi) (lab xs hlab i hi)
    refine ⟨hfn.1, ?_⟩
    cases own with
    | true => exact owned xs post ⟨hxs.1, fun i hi => (hrd i hi).mono (fun _ _ => rfl) fun b hb => (h.sB b hb).1⟩ hfn hpost
    | false =>
      refine (hfn.2 w S vs (fun b hb => (h.sB b hb).1) h.kon (by simpa using hxs.1) hrd).mono ?_
      rintro e w' ⟨r, v, rfl, hr, hg, hres⟩
      simp only [FnRes, Bool.false_eq_true, if_false] at hres
      have hRS := (h.grown hg).hold (fun b => w.heap.size ≤ b ∧ b < w'.heap.size) (fun b hb => ⟨hb.2, Nat.le_trans h.size hb.1, fun l hl => by have := (h.fpB l b hl).1; omega⟩)
      exact ⟨v, rfl, φ, fp, _, ts, m, r, hRS, .rd _ _ hres, fun l ver hl => (by rw [labs_rd hres] at hl; cases hl), rfl, hpost r hr⟩
  · obtain ⟨trs, hct, hrd⟩ := trees_out h xs vs.toList [] [] hxs ⟨rfl, fun i hi => absurd hi (Nat.not_lt_zero _)⟩ hk'
    rw [List.nil_append] at hrd
    rcases hct with hct | hct
    · exact io hct
    obtain ⟨own, post, hfn, hshare, hpost⟩ := hct
    refine ⟨hfn.1, ?_⟩
    cases own with
    | true => exact owned trs post hrd hfn hpost
    | false => exact absurd (hshare rfl) hlab

theorem evs_RdL (h : RS B N φ fp S ts m a w) (l : List Operand) : RdL (RV w S φ) (l.map (Vc.ev ts)) (l.map a.eval) := by
  refine ⟨by simp, fun i hi => ?_⟩
  simp only [List.length_map] at hi
  simp only [List.getElem_map, List.getD_eq_getElem?_getD, List.getElem?_map, List.getElem?_eq_getElem hi, Option.map_some, Option.getD_some]
  exact h.ev _

theorem parts_toArray (l : Array (Nat × Operand)) (a : Act) : (l.map fun (i, x) => (i, a.eval x)) = ((l.toList.map fun p => (p.1, a.eval p.2)).toArray) := by
  apply Array.ext'; simp

theorem run_nil {t : TypeId} {ti : TI} (ht : tiOf P t = some ti) (hks : ti.kind = .slice) (a : Option Addr) (n c : Nat) (w : World) : (Op.equal t (.slice a n c) (.slice none 0 0)).run P w = .ok a.isNone w := by
  have hu := kind_slice ht hks
  show (Op.equalIn (9999 + 1) t (.slice a n c) (.slice none 0 0)).run P w = _
  have : (underlying t).run P w = .ok (.slice ti.elem) w := by simp [underlying, hu]
  rw [Op.equalIn, Sem.run_bind, this]
  cases a <;> rfl
theorem nilB_out (h : RS B N φ fp S ts m a w) {x : AV} {u : Value} (hx : RV w S φ x u) {k : Bool → Prop} (hk : sNilB x m k) : ∃ ad n c, u = .slice ad n c ∧ k ad.isNone := by
  unfold sNilB at hk
  split at hk
  · rename_i sh xs
    cases hx with
    | rd _ _ hr => cases hr with
      | nil _ ad => exact ⟨ad, 0, 0, rfl, hk _ fun _ => rfl⟩
      | arr _ _ b off cap cs e fr _ _ _ _ _ _ => exact ⟨_, _, _, rfl, hk _ fun e => by simp at e⟩
  · rename_i l v i n
    obtain ⟨r1, r2⟩ := rv_ref hx
    unfold sLive at hk
    split at hk
    · rename_i v' xs hlk
      obtain ⟨rfl, hk⟩ := hk
      obtain ⟨b, cs, e, sh, hφ, _⟩ := h.mSome l _ hlk
      obtain ⟨ad, cap, rfl, hn, hc⟩ := r1 b sh hφ
      refine ⟨ad, n, cap, rfl, hk _ fun e => ?_⟩
      rcases hc with rfl | ⟨rfl, _⟩
      · omega
      · simp at e
    · rename_i v' sh d xs hlk
      obtain ⟨rfl, hk⟩ := hk
      rcases h.mSome l _ hlk with ⟨h1, _⟩ | ⟨b, cap, hφ, _⟩
      · obtain ⟨rfl, ad, rfl⟩ := r2 h1
        exact ⟨ad, 0, 0, rfl, hk _ fun _ => rfl⟩
      · obtain ⟨ad, cap, rfl, hn, hc⟩ := r1 b sh hφ
        refine ⟨ad, n, cap, rfl, hk _ fun e => ?_⟩
        rcases hc with rfl | ⟨rfl, _⟩
        · omega
        · simp at e
    · exact hk.elim
  · cases hx with
    | rd _ _ hr => cases hr with
      | e0 ad => exact ⟨ad, 0, 0, rfl, hk _⟩
  · obtain ⟨rfl, _⟩ := rv_val hx
    exact ⟨none, 0, 0, rfl, hk⟩
  · exact hk.elim
theorem run_binN {op : BinOp} {t : TypeId} {ti : TI} (h : RS B N φ fp S ts m a w) (ht : tiOf P t = some ti) {x y : AV} {u v : Value} (hx : RV w S φ x u) (hy : RV w S φ y v) {ox oy : Operand} {k : AV → Prop}
    (hk : sBinN op ti.kind x y (cst oy) m k) : ∃ r, (do eqGuard op t ox oy u v; binOp op t u v : Sem Value).run P w = .ok r w ∧ Scal k r := by
  unfold sBinN at hk
  split at hk
  · rename_i hks
    obtain ⟨ad, n, c, rfl, hk⟩ := nilB_out h hx hk
    obtain ⟨rfl, _⟩ := rv_val hy
    refine ⟨.bool ad.isNone, ?_, rfl, hk⟩
    have : (binOp .eql t (.slice ad n c) (.slice none 0 0)).run P w = .ok (.bool ad.isNone) w := by
      simp only [binOp, Sem.run_bind, run_nil ht hks]; rfl
    simp only [Sem.run_bind]
    have hg : (eqGuard .eql t ox oy (.slice ad n c) (.slice none 0 0)).run P w = .ok () w := by simp [eqGuard]
    rw [hg]; exact this
  · rename_i hks
    obtain ⟨ad, n, c, rfl, hk⟩ := nilB_out h hx hk
    obtain ⟨rfl, _⟩ := rv_val hy
    refine ⟨.bool (!ad.isNone), ?_, rfl, hk⟩
    have : (binOp .neq t (.slice ad n c) (.slice none 0 0)).run P w = .ok (.bool (!ad.isNone)) w := by
      simp only [binOp, Sem.run_bind, run_nil ht hks]; rfl
    simp only [Sem.run_bind]
    have hg : (eqGuard .neq t ox oy (.slice ad n c) (.slice none 0 0)).run P w = .ok () w := by simp [eqGuard]
    rw [hg]; exact this
  · rename_i hks
    obtain ⟨ms, hu⟩ := kind_iface ht hks
    obtain ⟨rfl, _⟩ := rv_val hy
    have e1 : ∀ (d : Nat) u x, (Op.equalIn (d + 1) t (.iface u x) .nilIface).run P w = .ok false w := fun d u x => by rw [Op.equalIn]; simp [run_underlying hu]
    have e2 : ∀ (d : Nat), (Op.equalIn (d + 1) t .nilIface .nilIface).run P w = .ok true w := fun d => by rw [Op.equalIn]; simp [run_underlying hu]
    have g1 : ∀ op u x, (eqGuard op t ox oy (.iface u x) .nilIface).run P w = .ok () w := fun op u x => by cases op <;> simp [eqGuard]
    have g2 : ∀ op, cst oy = true → (eqGuard op t ox oy .nilIface .nilIface).run P w = .ok () w := fun op hc => by
      cases oy <;> simp [cst] at hc
      cases op <;> simp [eqGuard]
    unfold sIfc at hk
    split at hk
    · obtain ⟨rfl, _⟩ := rv_val hx
      exact ⟨_, (by simp only [Sem.run_bind, g2 _ hk.1, Result.andThen_ok, binOp, Op.equal, Op.maxDepth]; simp [e2]), rfl, hk.2⟩
    · obtain ⟨rfl, _⟩ := rv_val hx
      exact ⟨_, (by simp only [Sem.run_bind, g2 _ hk.1, Result.andThen_ok, binOp, Op.equal, Op.maxDepth]; simp [e2]), rfl, hk.2⟩
    · obtain ⟨rfl, _⟩ := rv_val hx
      exact ⟨_, (by simp only [Sem.run_bind, g1, Result.andThen_ok, binOp, Op.equal, Op.maxDepth]; simp [e1]), rfl, hk⟩
    · obtain ⟨rfl, _⟩ := rv_val hx
      exact ⟨_, (by simp only [Sem.run_bind, g1, Result.andThen_ok, binOp, Op.equal, Op.maxDepth]; simp [e1]), rfl, hk⟩
    · exact hk.elim
  · exact run_bin ht hx hy hk

theorem run_conv_bytes {src t e : TypeId} {sh : Sh} {bs : List UInt8} {v : Value} (hs : P.underlying src = some (.slice e)) (he : P.underlying e = some (.int .u8)) (ht : P.underlying t = some .string)
    (h : Rd w (Now w) (.arr sh (bs.map fun b => .val (.int .u8 b.toNat))) v) : (convert src t v).run P w = .ok (.string ⟨bs.toArray⟩) w := by
  have hnil : ∀ (ad : Option Addr), (convert src t (.slice ad 0 0)).run P w = .ok (.string ⟨#[]⟩) w := by
    intro ad
    cases ad with
    | none => simp only [convert, Sem.run_bind, run_underlying hs, run_underlying ht, run_underlying he, Result.andThen_ok]; rfl
    | some ad =>
      have := run_convert_bytes_back (P := P) w src t e ad 0 [] hs he ht (fun j hj => absurd hj (Nat.not_lt_zero _))
      simpa using this
  generalize hxs : bs.map (fun b => AV.val (.int .u8 b.toNat)) = xs at h
  have hlen : xs.length = bs.length := by rw [← hxs]; simp
  cases h with
  | nil sh ad =>
    have : bs = [] := List.eq_nil_of_length_eq_zero (by rw [← hlen]; rfl)
    subst this
    exact hnil ad
  | arr sh xs b off cap cs e2 fr hS hb hcap hl hf hv =>
    rw [hlen]
    refine run_convert_bytes_back (P := P) w src t e ⟨b, off, none⟩ cap bs hs he ht fun j hj => ?_
    have hj2 : j < xs.length := by omega
    have h1 := hf j hj2
    have h2 := hv j hj2
    have hx : xs[j] = .val (.int .u8 bs[j].toNat) := by simp [← hxs]
    rw [hx] at h1 h2
    obtain ⟨ha, hz⟩ := h1
    have e1 : sh = ⟨1, false⟩ := by cases sh; simp_all
    subst e1
    have h4 : elemV cs.toList (off + j * 1) ⟨1, false⟩ = .int .u8 bs[j].toNat := by
      generalize elemV cs.toList (off + j * 1) ⟨1, false⟩ = u at h2
      cases h2; rfl
    rw [elemV_cell, Nat.mul_one] at h4
    have h5 : off + j < cs.size := by simp only [Nat.mul_one] at hl; omega
    rw [List.getD_eq_getElem?_getD, Array.getElem?_toList, Array.getElem?_eq_getElem h5] at h4
    have e3 : (⟨b, off, none⟩ : Addr).add j = ⟨b, off + j, none⟩ := by unfold Addr.add; split <;> simp_all
    rw [e3]
    simp only [World.cell?, hb, Option.isSome_none, Bool.false_eq_true, ↓reduceIte, Array.getElem?_eq_getElem h5]
    exact congrArg some h4
theorem run_chr {n : Int} (h0 : 0 ≤ n) (h1 : n < 128) : (Conv.intToString n).run P w = .ok (.string ⟨#[UInt8.ofNat n.toNat]⟩) w := by
  have hv : Utf8.valid n = true := by
    unfold Utf8.valid
    simp; omega
  have : Utf8.encode n = ⟨#[UInt8.ofNat n.toNat]⟩ := by
    unfold Utf8.encode
    simp only [hv, if_true]
    rw [if_pos (by omega)]
  simp only [Conv.intToString, this]; rfl
theorem op_sound {o : Oper} {next : Act → World → Prop} {Q : Exit → Act → World → Prop} (h : RS B N φ fp S ts m a w) {k : AV → Mem → Prop} (hk : sOp P (o.dst.getD 0) o.op ts m k)
    (hnext : ∀ v w', Gives B N a (fun x ts' m' => ts' = ts ∧ k x m') v w' → next (a.put o.dst v) w') : o.wp P a w next Q := by
  have V : ∀ s : Sem Value, execOp a.eval o = (do pure (.value (← s)) : Sem Next) → Runs B N a (fun x ts' m' => ts' = ts ∧ k x m') (s.run P w) → o.wp P a w next Q := by
    intro s hs ⟨v, w', h1, h2⟩
    unfold Oper.wp
    rw [hs]
    simp only [Sem.run_bind, h1, Result.andThen_ok, Sem.run_pure]
    exact hnext v w' h2
  have Vm : ∀ s : Sem Value, ∀ k' : AV → Prop, execOp a.eval o = (do pure (.value (← s)) : Sem Next) → Runs B N a (fun x ts' m' => ts' = ts ∧ m' = m ∧ k' x) (s.run P w) → (∀ x, k' x → k x m) → o.wp P a w next Q := by
    intro s k' hs hr hkk
    exact V s hs (hr.mono fun x ts m ⟨h1, h2, h3⟩ => ⟨h1, by rw [h2]; exact hkk x h3⟩)
  have V0 : ∀ (x : AV) (v : Value), execOp a.eval o = (pure (.value v) : Sem Next) → RV w S φ x v → (∀ l ver, (l, ver) ∈ labs x → known m l ver) → k x m → o.wp P a w next Q := by
    intro x v hs hx hl hkx
    unfold Oper.wp
    rw [hs]
    exact hnext v w (h.gives hx hl ⟨rfl, hkx⟩)
  cases hop : o.op with
  | move x =>
    rw [hop] at hk
    exact V0 _ (a.eval x) (by simp only [execOp, hop]) (h.ev x) (h.evL x) hk
  | assign x =>
    rw [hop] at hk
    exact V0 _ (a.eval x) (by simp only [execOp, hop]) (h.ev x) (h.evL x) hk
  | pick c x y =>
    rw [hop] at hk
    have hk : sPick (Vc.ev ts c) (Vc.ev ts x) (Vc.ev ts y) fun v => k v m := hk
    have hc := h.ev c
    unfold sPick at hk
    split at hk
    · rename_i cb hcv
      rw [hcv] at hc
      obtain ⟨hcc, _⟩ := rv_val hc
      cases cb with
      | true => exact V0 _ (a.eval x) (by simp [execOp, hop, ← hcc, asBool]) (h.ev x) (h.evL x) (hk.1 rfl)
      | false => exact V0 _ (a.eval y) (by simp [execOp, hop, ← hcc, asBool]) (h.ev y) (h.evL y) (hk.2 rfl)
    · exact hk.elim
  | alloc t =>
    rw [hop] at hk
    obtain ⟨ti, ht, hk⟩ := sTI_out hk
    exact V _ (by simp only [execOp, hop]) (run_alloc h ht _ hk)
  | box t x =>
    rw [hop] at hk
    exact V _ (by simp only [execOp, hop]) (run_box h (h.ev x) (h.evL x) t _ hk)
  | build t parts =>
    rw [hop] at hk
    obtain ⟨ti, ht, hk⟩ := sTI_out hk
    obtain ⟨hks, hk⟩ := sSt_out hk
    refine Vm (Instr.build t ((parts.toList.map fun p => (p.1, a.eval p.2)).toArray)) (fun x => k x m) (by simp only [execOp, hop, parts_toArray]) ?_ (fun _ h => h)
    exact run_build' ht hks (fun fs hfs f hf => (fields_of ht fs hfs f hf).1) h (PR_map h parts.toList) (known_evs h parts.toList) hk
  | buildSlice t n parts =>
    rw [hop] at hk
    obtain ⟨tt, htt, hk⟩ := sTI_out hk
    obtain ⟨hks, hk⟩ := sSl_out hk
    obtain ⟨ti, ht, hk⟩ := sTI_out hk
    refine V (Instr.buildSlice t n ((parts.toList.map fun p => (p.1, a.eval p.2)).toArray)) (by simp only [execOp, hop, parts_toArray]) ?_
    exact run_buildSliceX htt hks ht h (PR_map h parts.toList) _ n hk
  | load t x =>
    rw [hop] at hk
    obtain ⟨ti, ht, hk⟩ := sTI_out hk
    exact V _ (by simp only [execOp, hop]) (run_loadX ht h (h.ev x) (h.evL x) hk)
  | store t p y =>
    rw [hop] at hk
    obtain ⟨ti, ht, hk⟩ := sTI_out hk
    obtain ⟨w', hr, φ', fp', S', ts', m', hRS, rfl, hkk⟩ := run_storeY ht h (h.ev p) (h.ev y) (h.evL y) hk
    unfold Oper.wp
    simp only [execOp, hop, Sem.run_bind, hr, Result.andThen_ok, Sem.run_pure]
    exact hnext _ w' (hRS.gives (x := .undef) (.rd _ _ (.undef _)) (fun _ _ hl => by cases hl) ⟨rfl, hkk⟩)
  | nilCheck x =>
    rw [hop] at hk
    have hk : sNil m (Vc.ev ts x) fun v => k v m := hk
    have hx := h.ev x
    have hxl := h.evL x
    unfold sNil at hk
    split at hk
    · rename_i l v i j hv
      rw [hv] at hx hxl
      obtain ⟨⟨b, sh, hφ⟩, hk⟩ := live_out h (rv_ptr2 hx).1 hk
      have := rv_ptr hx b sh hφ
      exact V0 _ (a.eval x) (by simp only [execOp, hop, this]) hx hxl hk
    · rename_i sh xs i j hv
      rw [hv] at hx hxl
      have hx' := rv_eptr hx
      cases hq : a.eval x with
      | pointer ad =>
        rw [hq] at hx'
        cases hx'
        exact V0 _ _ (by simp only [execOp, hop, hq]) (hq ▸ hx) hxl hk
      | _ => rw [hq] at hx'; cases hx'
    · rename_i f xs hv
      rw [hv] at hx hxl
      obtain ⟨cs, hcs, _⟩ := rv_clo hx
      exact V0 _ (a.eval x) (by simp only [execOp, hop, hcs]) hx hxl hk
    · exact hk.elim
  | binOp op t x y ty =>
    rw [hop] at hk
    obtain ⟨ti, ht, hk⟩ := sTI_out hk
    obtain ⟨r, hr, h1, h2⟩ := run_binS (h.ev x) (h.ev y) (ox := x) (oy := y) hk fun hk => run_binN h ht (h.ev x) (h.ev y) (ox := x) (oy := y) hk
    exact V _ (by simp only [execOp, hop]) ⟨r, w, hr, h.givesV h1 ⟨rfl, h2⟩⟩
  | unOp op t x =>
    rw [hop] at hk
    have hx := h.ev x
    cases op with
    | not =>
      have hk : sNot (Vc.ev ts x) fun v => k v m := hk
      unfold sNot at hk
      split at hk
      · rename_i b hv
        rw [hv] at hx
        obtain ⟨hb, _⟩ := rv_val hx
        exact V (Op.unary .not (a.eval x)) (by simp only [execOp, hop]) ⟨.bool (!b), w, by rw [← hb]; rfl, h.givesV rfl ⟨rfl, hk⟩⟩
      · exact hk.elim
    | neg =>
      have hk : sNeg (Vc.ev ts x) fun v => k v m := hk
      unfold sNeg at hk
      split at hk
      · rename_i i n hv
        rw [hv] at hx
        obtain ⟨hb, _⟩ := rv_val hx
        exact V (Op.unary .neg (a.eval x)) (by simp only [execOp, hop]) ⟨.int i (i.wrap (0 - n)), w, by rw [← hb]; rfl, h.givesV rfl ⟨rfl, sWrap_out (c := fun v => k v m) hk⟩⟩
      · exact hk.elim
    | _ => exact hk.elim
  | convert src t x =>
    rw [hop] at hk
    obtain ⟨si, hsi, hk⟩ := sTI_out hk
    obtain ⟨ti, ht, hk⟩ := sTI_out hk
    have hx := h.ev x
    obtain ⟨_, sd, _, _, hsd, _⟩ := kind_of hsi
    unfold sConvY at hk
    split at hk
    · rename_i hks hkd
      obtain ⟨ei, hei, hk⟩ := sTI_out hk
      unfold isU8 at hk
      split at hk
      · rename_i hke
        unfold sConvB at hk
        split at hk
        · rename_i s hv
          rw [hv] at hx
          obtain ⟨hb, _⟩ := rv_val hx
          obtain ⟨hl, hk⟩ := hk
          refine V (convert src t (a.eval x)) (by simp only [execOp, hop]) ?_
          rw [← hb]
          exact run_convB h (kind_string hsi hks) (kind_slice ht hkd) (kind_int hei hke) hl _ hk
        · exact hk.elim
      · exact hk.elim
    unfold sConvX at hk
    split at hk
    · rename_i hks hkd
      obtain ⟨ei, hei, hk⟩ := sTI_out hk
      unfold isU8 at hk
      split at hk
      · rename_i hke
        obtain ⟨y, hk, hrd, _, _⟩ := leafT_out h hx hk
        unfold sBytes at hk
        split at hk
        · rename_i sh xs
          obtain ⟨bs, rfl, hk2⟩ := sBytesL_out hk
          refine V (convert src t (a.eval x)) (by simp only [execOp, hop]) ⟨.string ⟨bs.toArray⟩, w, ?_, h.givesV rfl ⟨rfl, hk2⟩⟩
          exact run_conv_bytes (kind_slice hsi hks) (kind_int hei hke) (kind_string ht hkd) hrd
        · exact hk.elim
      · exact hk.elim
    · rename_i i hks hkd
      unfold sChr at hk
      split at hk
      · rename_i j n hv
        rw [hv] at hx
        obtain ⟨hb, _⟩ := rv_val hx
        obtain ⟨⟨h0, h1⟩, hk⟩ := hk
        refine V (convert src t (a.eval x)) (by simp only [execOp, hop]) ⟨.string ⟨#[UInt8.ofNat n.toNat]⟩, w, ?_, h.givesV rfl ⟨rfl, hk⟩⟩
        rw [← hb]
        simp only [convert, Sem.run_bind, run_underlying (kind_int hsi hks), run_underlying (kind_string ht hkd), Result.andThen_ok]
        exact run_chr h0 h1
      · exact hk.elim
    unfold sConv at hk
    split at hk
    · rename_i i j n hkd hv
      rw [hv] at hx
      obtain ⟨hb, _⟩ := rv_val hx
      refine V (convert src t (a.eval x)) (by simp only [execOp, hop]) ⟨.int i (i.wrap n), w, ?_, h.givesV rfl ⟨rfl, sWrap_out (c := fun v => k v m) hk⟩⟩
      rw [← hb]
      simp only [convert, Sem.run_bind, run_underlying hsd, run_underlying (kind_int ht hkd), Result.andThen_ok]
      cases sd <;> rfl
    · rename_i s hkd hv
      rw [hv] at hx
      obtain ⟨hb, _⟩ := rv_val hx
      refine V (convert src t (a.eval x)) (by simp only [execOp, hop]) ⟨.string s, w, ?_, h.givesV rfl ⟨rfl, hk⟩⟩
      rw [← hb]
      simp only [convert, Sem.run_bind, run_underlying hsd, run_underlying (kind_string ht hkd), Result.andThen_ok]
      cases sd <;> rfl
    · exact hk.elim
  | makeSlice t l c =>
    rw [hop] at hk
    obtain ⟨tt, htt, hk⟩ := sTI_out hk
    obtain ⟨hks, hk⟩ := sSl_out hk
    obtain ⟨ti, ht, hk⟩ := sTI_out hk
    exact V _ (by simp only [execOp, hop]) (run_make' htt hks ht h (h.ev l) (h.ev c) _ hk)
  | slice t x lo hi mx =>
    rw [hop] at hk
    have BVm : ∀ q : Option Operand, BV w S φ (q.map (Vc.ev ts)) (q.map a.eval) := by
      intro q
      cases q with
      | none => trivial
      | some q => exact h.ev q
    cases mx with
    | none =>
      have hk : sTI (tiOf P t) fun tt => sSlK P tt (Vc.ev ts x) (lo.map (Vc.ev ts)) (hi.map (Vc.ev ts)) m fun v => k v m := by
        cases lo <;> exact hk
      obtain ⟨tt, htt, hk⟩ := sTI_out hk
      have hx := h.ev x
      have hxl := h.evL x
      generalize Vc.ev ts x = xv at hx hxl hk
      unfold sSlK at hk
      split at hk
      · rename_i hkd
        obtain ⟨hs, hk⟩ := hk
        refine Vm (Instr.sliceAt t (a.eval x) (lo.map a.eval) (hi.map a.eval) none) (fun x => k x m) (by simp only [execOp, hop]; rfl) ?_ (fun _ h => h)
        refine run_slice' htt ⟨0, false⟩ (fun hc => by rw [hkd] at hc; cases hc) (.inr hkd) h hx hxl (BVm lo) (BVm hi) ⟨fun hc => (by rw [hkd] at hc; cases hc), fun hc => ?_⟩ hk
        split at hs
        · exact absurd rfl (hc _)
        · exact hs.elim
      · rename_i hkd
        obtain ⟨hs, hk⟩ := hk
        obtain ⟨ti, ht, hk⟩ := sTI_out hk
        refine Vm (Instr.sliceAt t (a.eval x) (lo.map a.eval) (hi.map a.eval) none) (fun x => k x m) (by simp only [execOp, hop]; rfl) ?_ (fun _ h => h)
        refine run_slice' htt ti.sh (fun _ => ⟨ti, ht, rfl⟩) (.inl hkd) h hx hxl (BVm lo) (BVm hi) ⟨fun _ s hc => ?_, fun _ => hkd⟩ hk
        rw [hc] at hs; exact hs
      · exact hk.elim
    | some mv =>
      cases lo with
      | some lv => exact hk.elim
      | none =>
        obtain ⟨⟨h0, hm0⟩, hk⟩ := hk
        obtain ⟨tt, htt, hk⟩ := sTI_out hk
        obtain ⟨hks, hk⟩ := sSl_out hk
        obtain ⟨ti, ht, hk⟩ := sTI_out hk
        have hx := h.ev x
        have hsl : (∃ ad n c, a.eval x = .slice ad n c) ∧ k .e0 m := by
          generalize a.eval x = u at hx
          generalize Vc.ev ts x = xv at hx hk
          unfold sSlice0 at hk
          split at hk
          · cases rv_arr hx with
            | nil _ ad => exact ⟨⟨_, _, _, rfl⟩, hk⟩
            | arr => exact ⟨⟨_, _, _, rfl⟩, hk⟩
          · rename_i l v i n
            have hr := rv_ref hx
            unfold sLive at hk
            split at hk
            · rename_i v' xs hlk
              obtain ⟨rfl, hk⟩ := hk
              obtain ⟨b, cs, e, sh, hφ, _⟩ := h.mSome l _ hlk
              obtain ⟨ad, c, rfl, _⟩ := hr.1 b sh hφ
              exact ⟨⟨_, _, _, rfl⟩, hk⟩
            · rename_i v' sh d xs hlk
              obtain ⟨rfl, hk⟩ := hk
              rcases h.mSome l _ hlk with ⟨h1, _⟩ | ⟨b, cap, hφ, _⟩
              · obtain ⟨rfl, ad, rfl⟩ := hr.2 h1
                exact ⟨⟨_, _, _, rfl⟩, hk⟩
              · obtain ⟨ad, c, rfl, _⟩ := hr.1 b sh hφ
                exact ⟨⟨_, _, _, rfl⟩, hk⟩
            · exact hk.elim
          · obtain ⟨h1, hk⟩ := hk
            unfold isNil at h1
            split at h1
            · obtain ⟨ad, rfl⟩ := rv_e0 hx; exact ⟨⟨_, _, _, rfl⟩, hk⟩
            · obtain ⟨rfl, _⟩ := rv_val hx; exact ⟨⟨_, _, _, rfl⟩, hk⟩
            · cases h1
        obtain ⟨⟨ad, n, c, hu⟩, hk⟩ := hsl
        have z0 : ∀ q : Option Operand, is0 q = true → ∃ j, q.map a.eval = some (.int j 0) := by
          intro q hq
          unfold is0 at hq
          split at hq
          · rename_i j n
            have : n = 0 := by simpa using hq
            subst this; exact ⟨j, rfl⟩
          · cases hq
        obtain ⟨jh, ejh⟩ := z0 hi h0
        obtain ⟨jm, ejm⟩ := z0 (some mv) hm0
        refine V (Instr.sliceAt t (a.eval x) none (hi.map a.eval) ((some mv).map a.eval)) (by simp only [execOp, hop, Option.map_none]) ⟨.slice ad 0 0, w, ?_, h.gives (x := .e0) (.rd _ _ (.e0 _)) (fun _ _ hl => by cases hl) ⟨rfl, hk⟩⟩
        rw [hu, ejh, ejm]
        have hund := kind_slice htt hks
        unfold Instr.sliceAt
        simp [run_underlying hund, Instr.slice, Instr.sliceBounds, run_sliceBound, sizeOf_run ht]
  | fieldAddr t x f =>
    rw [hop] at hk
    obtain ⟨ti, ht, hk⟩ := sTI_out hk
    obtain ⟨fd, hf, hsz, hk⟩ := sFld_out hk
    exact Vm _ (fun x => k x m) (by simp only [execOp, hop]) (run_field ht h (h.ev x) (h.evL x) hf hsz hk) (fun _ h => h)
  | field t x f =>
    rw [hop] at hk
    obtain ⟨ti, ht, hk⟩ := sTI_out hk
    obtain ⟨fd, hf, hk⟩ := sFld_out hk
    have hx := h.ev x
    have hxl := h.evL x
    unfold sPartA at hk
    split at hk
    · rename_i ys hv
      rw [hv] at hx hxl
      exact Vm _ (fun x => k x m) (by simp only [execOp, hop]) (run_fieldV h hx hxl ht hf hk ⟨_, rfl⟩) (fun _ h => h)
    · exact hk.elim
  | indexAddr t x i =>
    rw [hop] at hk
    obtain ⟨tt, htt, hk⟩ := sTI_out hk
    obtain ⟨hks, hk⟩ := sSl_out hk
    obtain ⟨ti, ht, hk⟩ := sTI_out hk
    exact Vm _ (fun x => k x m) (by simp only [execOp, hop]) (run_idxX htt hks ht h (h.ev x) (h.evL x) (h.ev i) hk) (fun _ h => h)
  | index t x i =>
    rw [hop] at hk
    obtain ⟨tt, htt, hkd, hk⟩ := sTI_out hk
    have hks : tt.kind = .string := by
      generalize tt.kind = kk at hkd
      cases kk <;> first | rfl | exact hkd.elim
    exact Vm _ (fun x => k x m) (by simp only [execOp, hop]) (run_index (kind_string htt hks) h (h.ev x) (h.ev i) hk) (fun _ h => h)
  | extract x i =>
    rw [hop] at hk
    have hk : sTup i (Vc.ev ts x) fun v => k v m := hk
    have hx := h.ev x
    have hxl := h.evL x
    unfold sTup at hk
    split at hk
    · rename_i xs hv
      rw [hv] at hx hxl
      cases hi : xs[i]? with
      | none => rw [hi] at hk; exact hk.elim
      | some y =>
        rw [hi] at hk
        obtain ⟨hi1, hi2⟩ := List.getElem?_eq_some_iff.1 hi
        obtain ⟨cs, hcs, h1, h2⟩ := rv_tup hx
        have hlt : i < cs.size := by omega
        have e : cs[i]? = some (cs.toList.getD i Go.undef) := by
          rw [List.getD_eq_getElem?_getD, Array.getElem?_toList, Array.getElem?_eq_getElem hlt]; rfl
        refine V (Instr.extract (a.eval x) i) (by simp only [execOp, hop]) ⟨cs.toList.getD i Go.undef, w, ?_, h.gives (x := y) ?_ (fun l ver hl => ?_) ⟨rfl, hk⟩⟩
        · rw [hcs]; simp only [Instr.extract, e, Sem.run_pure]
        · have := h2 i hi1
          rwa [hi2] at this
        · exact hxl l ver (by simp only [labs]; exact mem_labsL hi1 (by rw [hi2]; exact hl))
    · exact hk.elim
  | call c =>
    rw [hop] at hk
    have BI : ∀ (b : Builtin) (s : Sem Value), c.callee = .builtin b → (∀ cs, builtin b c.argTypes o.type cs (c.args.map a.eval) = (do pure (.value (← s)) : Sem Next)) → Runs B N a (fun x ts' m' => ts' = ts ∧ k x m') (s.run P w) → o.wp P a w next Q := by
      intro b s hc hb hr
      refine V s ?_ hr
      simp only [execOp, hop, resolve, hc, pure_bind, invoke, hb]
    have ha : ∀ l, c.args.toList = l → c.args.map a.eval = (l.map a.eval).toArray := by
      intro l hl
      apply Array.ext'; simp [← hl]
    have hk : (match c.callee, c.args.toList with
      | .builtin .len, [x] => match c.argTypes.toList with | t :: _ => sTI (tiOf P t) fun ti => sLen ti.kind m (Vc.ev ts x) fun v => k v m | [] => False
      | .builtin .max, [x, y] => sMax (Vc.ev ts x) (Vc.ev ts y) fun v => k v m
      | .builtin .min, [x, y] => sMin (Vc.ev ts x) (Vc.ev ts y) fun v => k v m
      | .builtin .min, [x, y, z] => sMin (Vc.ev ts x) (Vc.ev ts y) fun u => sMin u (Vc.ev ts z) fun v => k v m
      | .builtin .append, [x, y] => sAppTX P c.argTypes.toList (o.dst.getD 0) (Vc.ev ts x) (Vc.ev ts y) m k
      | .value (.func f), xs => sCall P f (o.dst.getD 0) (xs.map (Vc.ev ts)) m k
      | .value (.tmp t), xs => sCallV P (look ts t) (o.dst.getD 0) (xs.map (Vc.ev ts)) m k
      | _, _ => False) := hk
    split at hk
    · rename_i x hc hx
      split at hk
      · rename_i t r hty
        obtain ⟨ti, ht, hk⟩ := sTI_out hk
        have hr := run_len (ty := o.type) ht h (h.ev x) hk
        refine BI _ (Builtin.len_ c.argTypes o.type (c.args.map a.eval)) hc (fun _ => rfl) ?_
        have e0 : c.argTypes = (t :: r).toArray := by apply Array.ext'; simpa using hty
        have el : (Builtin.len_ c.argTypes o.type (c.args.map a.eval)).run P w = (Builtin.len_ #[t] o.type #[a.eval x]).run P w := by
          rw [ha _ hx, e0]
          simp [Builtin.len_]
        rw [el]
        exact hr.mono fun x ts m ⟨h1, h2, h3⟩ => ⟨h1, by rw [h2]; exact h3⟩
      · exact hk.elim
    · rename_i x y hc hx
      have h1 := h.ev x
      have h2 := h.ev y
      unfold sMax at hk
      split at hk
      · rename_i i p j q e1 e2
        rw [e1] at h1; rw [e2] at h2
        obtain ⟨g1, _⟩ := rv_val h1
        obtain ⟨g2, _⟩ := rv_val h2
        refine BI _ (Builtin.max_ c.argTypes o.type (c.args.map a.eval)) hc (fun _ => rfl) ⟨_, w, ?_, h.givesV rfl ⟨rfl, hk⟩⟩
        rw [ha _ hx]
        simp [Builtin.max_, ← g1, ← g2, Builtin.max2]
      · exact hk.elim
    · rename_i x y hc hx
      have h1 := h.ev x
      have h2 := h.ev y
      unfold sMin at hk
      split at hk
      · rename_i i p j q e1 e2
        rw [e1] at h1; rw [e2] at h2
        obtain ⟨g1, _⟩ := rv_val h1
        obtain ⟨g2, _⟩ := rv_val h2
        refine BI _ (Builtin.min_ c.argTypes o.type (c.args.map a.eval)) hc (fun _ => rfl) ⟨_, w, ?_, h.givesV rfl ⟨rfl, hk⟩⟩
        rw [ha _ hx]
        simp [Builtin.min_, ← g1, ← g2, Builtin.min2]
      · exact hk.elim
    · rename_i x y z hc hx
      have h1 := h.ev x
      have h2 := h.ev y
      have h3 := h.ev z
      have hk : sMin (Vc.ev ts x) (Vc.ev ts y) fun u => sMin u (Vc.ev ts z) fun v => k v m := hk
      generalize e1 : Vc.ev ts x = X at hk h1
      generalize e2 : Vc.ev ts y = Y at hk h2
      generalize e3 : Vc.ev ts z = Z at hk h3
      cases X with
      | val X =>
        cases X with
        | int i p =>
          cases Y with
          | val Y =>
            cases Y with
            | int j q =>
              cases Z with
              | val Z =>
                cases Z with
                | int j2 r =>
                  obtain ⟨g1, _⟩ := rv_val h1
                  obtain ⟨g2, _⟩ := rv_val h2
                  obtain ⟨g3, _⟩ := rv_val h3
                  refine BI _ (Builtin.min_ c.argTypes o.type (c.args.map a.eval)) hc (fun _ => rfl) ⟨_, w, ?_, h.givesV rfl ⟨rfl, hk⟩⟩
                  rw [ha _ hx]
                  simp [Builtin.min_, ← g1, ← g2, ← g3, Builtin.min2]
                | _ => exact hk.elim
              | _ => exact hk.elim
            | _ => exact hk.elim
          | _ => exact hk.elim
        | _ => exact hk.elim
      | _ => exact hk.elim
    · rename_i x y hc hx
      unfold sAppTX at hk
      split at hk
      · rename_i t t' htys
        obtain ⟨tt, htt, hk⟩ := sTI_out hk
        obtain ⟨hks, hk⟩ := sSl_out hk
        obtain ⟨tt', htt', hk⟩ := sTI_out hk
        obtain ⟨hks', hk⟩ := sSl_out hk
        obtain ⟨ti, ht, hk⟩ := sTI_out hk
        have et : c.argTypes = #[t, t'] := by apply Array.ext'; simpa using htys
        refine BI _ (Builtin.append_ c.argTypes o.type (c.args.map a.eval)) hc (fun _ => rfl) ?_
        rw [ha _ hx, et]
        exact run_appX htt hks htt' hks' ht h (h.ev x) (h.ev y) (h.evL x) _ hk
      · exact hk.elim
    · rename_i f hc
      obtain ⟨⟨fn, cd, hf, hnm, hbd⟩, hcalls⟩ := call_sound (vs := c.args.map a.eval) h (by simpa using evs_RdL h c.args.toList) (fun i hi l ver hl => by
        rw [List.getElem_map] at hl; exact h.evL _ l ver hl) hk
      have hex : (execOp a.eval o).run P w = .ok (.enter f (c.args.map a.eval)) w := by
        have hnm' : ¬ fn.name = "runtime.NumGoroutine" := by simpa using hnm
        simp [execOp, hop, resolve, hc, Act.eval, Deferred.ofValue, invoke, callFunc, hf, hnm', hbd]
      unfold Oper.wp
      rw [hex, Oper.upon_enter]
      refine hcalls.mono ?_
      rintro e w' ⟨v, rfl, hg⟩
      exact hnext v w' hg
    · rename_i t hc
      unfold sCallV at hk
      split at hk
      · rename_i f ys hf0
        have hx := h.tm t
        rw [hf0] at hx
        obtain ⟨cs, hcs, hl, hy⟩ := rv_clo hx
        have hap : RdL (RV w S φ) (c.args.toList.map (Vc.ev ts) ++ ys) (c.args.map a.eval ++ cs).toList := by
          have h1 := evs_RdL h c.args.toList
          refine ⟨by simp [hl], fun i hi => ?_⟩
          rw [Array.toList_append, Array.toList_map, List.getElem_append]
          split
          · rename_i hi1
            have := h1.2 i hi1
            rw [List.getD_eq_getElem?_getD] at this ⊢
            rw [List.getElem?_append_left (by simpa using hi1)]
            exact this
          · rename_i hi1
            have hi2 : i - (c.args.toList.map (Vc.ev ts)).length < ys.length := by rw [List.length_append] at hi; omega
            have := hy _ hi2
            rw [List.getD_eq_getElem?_getD] at this ⊢
            rw [List.getElem?_append_right (by simpa using hi1)]
            simpa using this
        obtain ⟨⟨fn, cd, hf, hnm, hbd⟩, hcalls⟩ := call_sound (vs := c.args.map a.eval ++ cs) h hap (fun i hi l ver hl => by
          rw [List.getElem_append] at hl
          split at hl
          · rw [List.getElem_map] at hl; exact h.evL _ l ver hl
          · exact h.tl t l ver (by rw [hf0]; simp only [labs]; exact mem_labsL (by rw [List.length_append] at hi; omega) hl)) hk
        have hex : (execOp a.eval o).run P w = .ok (.enter f (c.args.map a.eval ++ cs)) w := by
          have hnm' : ¬ fn.name = "runtime.NumGoroutine" := by simpa using hnm
          have hcs' : a.tmps.getD t Go.undef = .func (.func f) #[] cs := hcs
          simp [execOp, hop, resolve, hc, Act.eval, hcs', Deferred.ofValue, invoke, callFunc, hf, hnm', hbd]
        unfold Oper.wp
        rw [hex, Oper.upon_enter]
        refine hcalls.mono ?_
        rintro e w' ⟨v, rfl, hg⟩
        exact hnext v w' hg
      · exact hk.elim
    · exact hk.elim
  | makeFunc fn first caps =>
    rw [hop] at hk
    cases fn with
    | func f =>
      obtain ⟨h1, hk⟩ : first.toList = [] ∧ k (.clo f (caps.toList.map (Vc.ev ts))) m := hk
      have h1' : first = #[] := by apply Array.ext'; simpa using h1
      subst h1'
      have hr := evs_RdL h caps.toList
      refine V (Instr.makeFunc (.func f) (Array.map a.eval #[]) (caps.map a.eval)) (by simp only [execOp, hop]) ⟨.func (.func f) #[] (caps.map a.eval), w, by simp [Instr.makeFunc], h.gives (x := .clo f (caps.toList.map (Vc.ev ts))) ?_ (fun l ver hl => ?_) ⟨rfl, hk⟩⟩
      · exact .clo f _ _ (by simp) (by simpa using hr.2)
      · simp only [labs] at hl
        obtain ⟨i, hi, hl2⟩ := of_mem_labsL hl
        rw [List.getElem_map] at hl2
        exact h.evL _ l ver hl2
    | _ => exact False.elim hk
  | _ => rw [hop] at hk; exact hk.elim

end
end Go.Vc


set_option linter.unusedVariables false
set_option linter.unusedSimpArgs false
set_option linter.unnecessarySimpa false
namespace Go.Vc

abbrev St := Env → Mem → Prop
abbrev Post := Exit → Env → Mem → Prop

def sGuard (want : Bool) (y : AV) (a b : Prop) : Prop := match y with
  | .val (.bool c) => (c = want → a) ∧ (c ≠ want → b)
  | .tup [] => b
  | _ => False
@[congr] theorem sGuard_congr {w : Bool} {y y' : AV} {a b : Prop} (h : y = y') : sGuard w y a b = sGuard w y' a b := by rw [h]
theorem sGuard_u (w : Bool) (a b : Prop) : sGuard w (.tup []) a b = b := rfl
theorem sGuard_f (c : Bool) (a b : Prop) : sGuard false (.val (.bool c)) a b = ((c = false → a) ∧ (c = true → b)) := by simp [sGuard]

def dstOf (ops : List Oper) (j : Nat) : Nat := match (ops[j]?).bind (·.dst) with | some d => d | none => 0
def putE (d : Option Nat) (x : AV) (ts : Env) : Env := match d with | some d => (d, x) :: ts | none => ts
def sL (P : Program) (ops : List Oper) : List Oper → Env → Mem → St → Prop
  | [], ts, m, k => k ts m
  | o :: r, ts, m, k => match o.guard with
    | none => sOp P (o.dst.getD 0) o.op ts m fun x m' => sL P ops r (putE o.dst x ts) m' k
    | some (j, want) => sGuard want (look ts (dstOf ops j)) (sOp P (o.dst.getD 0) o.op ts m fun x m' => sL P ops r (putE o.dst x ts) m' k) (sL P ops r (putE o.dst (.tup []) ts) m k)
theorem dstOf_cons (o : Oper) (l : List Oper) (j : Nat) : dstOf (o :: l) (j + 1) = dstOf l j := rfl
theorem dstOf_zero (d : Nat) (op : Op) (ty : TypeId) (p : String) (e : Array Edge) (g : Option (Nat × Bool)) (l : List Oper) : dstOf (⟨some d, op, ty, p, e, g⟩ :: l) 0 = d := rfl

section
variable {P : Program} {B : Base} {N : Nat} {φ : Nat → LS} {fp : Nat → List Nat} {S : Nat → Prop} {ts : Env} {m : Mem} {a : Act} {w : World}

def opsOk (N : Nat) (ops : List Oper) : Bool := ops.all fun o => match o.dst with | some d => decide (d < N) | none => true

theorem step_done {o : Oper} (hd : ∀ d, o.dst = some d → d < N) {k : AV → Mem → Prop} {v : Value} (hg : Gives B N a (fun x ts' m' => ts' = ts ∧ k x m') v w) {K : St} (hK : ∀ x m', k x m' → K (putE o.dst x ts) m') : Done B N K (a.put o.dst v) w := by
  cases hdst : o.dst with
  | none =>
    refine hg.skip fun x ts' m' ⟨h1, h2⟩ => ?_
    have := hK x m' h2
    rw [hdst] at this
    rw [h1]; exact this
  | some d =>
    refine hg.done (hd d hdst) fun x ts' m' ⟨h1, h2⟩ => ?_
    have := hK x m' h2
    rw [hdst] at this
    rw [h1]; exact this

theorem yield_of (h : RS B N φ fp S ts m a w) {ops : List Oper} {j : Nat} {c : Bool} (hl : look ts (dstOf ops j) = .val (.bool c)) (hj : ∃ d, ((ops[j]?).bind (·.dst)) = some d ∧ d < N) : yielded ops.toArray a.tmps j = some c := by
  obtain ⟨d, hd, hdN⟩ := hj
  have h0 : dstOf ops j = d := by unfold dstOf; rw [hd]
  rw [h0] at hl
  have ht := h.tm d
  rw [hl] at ht
  obtain ⟨hv, _⟩ := rv_val ht
  have hsz : d < a.tmps.size := by rw [h.tsz]; exact hdN
  have e1 : a.tmps[d]? = some (.bool c) := by
    rw [hv]
    simp [Array.getD_eq_getD_getElem?, Array.getElem?_eq_getElem hsz]
  unfold yielded
  simp only [List.getElem?_toArray, hd, Option.bind_some, e1]
theorem yield_none (h : RS B N φ fp S ts m a w) {ops : List Oper} {j : Nat} (hl : look ts (dstOf ops j) = .tup []) (hj : ∃ d, ((ops[j]?).bind (·.dst)) = some d ∧ d < N) : yielded ops.toArray a.tmps j = none := by
  obtain ⟨d, hd, hdN⟩ := hj
  have h0 : dstOf ops j = d := by unfold dstOf; rw [hd]
  rw [h0] at hl
  have ht := h.tm d
  rw [hl] at ht
  have hsz : d < a.tmps.size := by rw [h.tsz]; exact hdN
  have hv : a.tmps.getD d Go.undef = .tuple #[] := by
    generalize a.tmps.getD d Go.undef = v at ht
    cases ht with
    | rd _ _ h => cases h with
      | tup _ cs hl _ => rw [Array.eq_empty_of_size_eq_zero hl]
    | tup _ cs hl _ => rw [Array.eq_empty_of_size_eq_zero hl]
  have e1 : a.tmps[d]? = some (.tuple #[]) := by
    rw [← hv]
    simp [Array.getD_eq_getD_getElem?, Array.getElem?_eq_getElem hsz]
  unfold yielded
  simp only [List.getElem?_toArray, hd, Option.bind_some, e1]


def guardsOk (N : Nat) (ops : List Oper) : Bool := ops.all fun o => match o.guard with
  | none => true
  | some (j, _) => match (ops[j]?).bind (·.dst) with | some d => decide (d < N) | none => false

theorem region_sound {ops : List Oper} (hok : opsOk N ops = true) (hgs : guardsOk N ops = true) {Q : Exit → Act → World → Prop} {K : St} (hQ : ∀ a w, Done B N K a w → Q .normal a w) :
    ∀ (l : List Oper) (i : Nat), ops.drop i = l → ∀ (φ : Nat → LS) (fp : Nat → List Nat) (S : Nat → Prop) (ts : Env) (m : Mem) (a : Act) (w : World), RS B N φ fp S ts m a w → sL P ops l ts m K →
      wpOps P ops.toArray Q ((List.range (ops.length - i)).map (· + i)) a w
  | [], i, hl, φ, fp, S, ts, m, a, w, h, hk => by
    have : ops.length - i = 0 := by
      have := congrArg List.length hl; simpa using this
    rw [this]
    exact hQ a w ⟨φ, fp, S, ts, m, h, hk⟩
  | o :: r, i, hl, φ, fp, S, ts, m, a, w, h, hk => by
    have hi : i < ops.length := by
      have := congrArg List.length hl; simp at this; omega
    have hoi : ops[i]? = some o := by
      have := congrArg (·[0]?) hl
      simpa using this
    have hr : ops.drop (i + 1) = r := by
      have := congrArg List.tail hl
      simpa using this
    have e : (List.range (ops.length - i)).map (· + i) = i :: (List.range (ops.length - (i + 1))).map (· + (i + 1)) := by
      rw [show ops.length - i = (ops.length - (i + 1)) + 1 by omega, List.range_succ_eq_map]
      simp [List.map_map, Function.comp_def]; intro q hq; omega
    rw [e]
    have hoo : ops.toArray[i]? = some o := by simpa using hoi
    simp only [wpOps, hoo]
    have hdo : ∀ d, o.dst = some d → d < N := by
      intro d hd
      have := List.all_eq_true.1 hok o (List.mem_of_getElem? hoi)
      rw [hd] at this; simpa using this
    have run : sOp P (o.dst.getD 0) o.op ts m (fun x m' => sL P ops r (putE o.dst x ts) m' K) → o.wp P a w (wpOps P ops.toArray Q ((List.range (ops.length - (i + 1))).map (· + (i + 1)))) Q := by
      intro hk
      refine op_sound h hk fun v w' hg => ?_
      obtain ⟨φ', fp', S', ts', m', h1, h2⟩ := step_done (o := o) (K := fun ts m => sL P ops r ts m K) hdo hg (fun x m' h => h)
      exact region_sound hok hgs hQ r (i + 1) hr φ' fp' S' ts' m' _ w' h1 h2
    have skip : sL P ops r (putE o.dst (.tup []) ts) m K → wpOps P ops.toArray Q ((List.range (ops.length - (i + 1))).map (· + (i + 1))) (a.put o.dst Go.undef) w := by
      intro hk
      obtain ⟨φ', fp', S', ts', m', h1, h2⟩ := step_done (o := o) (a := a) (w := w) (v := Go.undef) (K := fun ts m => sL P ops r ts m K) (k := fun x m' => x = .tup [] ∧ m' = m) hdo
        (h.gives (x := .tup []) (.rd _ _ (.tup [] #[] rfl fun i hi => absurd hi (Nat.not_lt_zero _))) (fun _ _ hl => by cases hl) ⟨rfl, rfl, rfl⟩) (fun x m' ⟨h1, h2⟩ => by rw [h1, h2]; exact hk)
      exact region_sound hok hgs hQ r (i + 1) hr φ' fp' S' ts' m' _ w h1 h2
    cases hg : o.guard with
    | none =>
      simp only [sL, hg] at hk
      simp only [Region.wanted, hg, if_true]
      exact .inl (run hk)
    | some jw =>
      obtain ⟨j, want⟩ := jw
      simp only [sL, hg] at hk
      have hgo := List.all_eq_true.1 hgs o (List.mem_of_getElem? hoi)
      rw [hg] at hgo
      unfold sGuard at hk
      split at hk
      · rename_i c hy
        have hj : ∃ d, ((ops[j]?).bind (·.dst)) = some d ∧ d < N := by
          simp only at hgo
          split at hgo
          · rename_i d hd; exact ⟨d, hd, by simpa using hgo⟩
          · cases hgo
        have hyy := yield_of h hy hj
        simp only [Region.wanted, hg, hyy]
        by_cases hc : c = want
        · subst hc
          simp only [beq_self_eq_true, if_true]
          exact .inl (run (hk.1 rfl))
        · have : (some c == some want) = false := by simpa using hc
          simp only [this, Bool.false_eq_true, if_false]
          exact skip (hk.2 hc)
      · rename_i hy
        have hj : ∃ d, ((ops[j]?).bind (·.dst)) = some d ∧ d < N := by
          simp only at hgo
          split at hgo
          · rename_i d hd; exact ⟨d, hd, by simpa using hgo⟩
          · cases hgo
        have hyy := yield_none h hy hj
        simp only [Region.wanted, hg, hyy]
        have : ((none : Option Bool) == some want) = false := by simp
        simp only [this, Bool.false_eq_true, if_false]
        exact skip hk
      · exact hk.elim

def Ok (P : Program) (N : Nat) (c : Code) (ts : Env) (m : Mem) (Q : Post) : Prop :=
  ∀ (B : Base) (φ : Nat → LS) (fp : Nat → List Nat) (S : Nat → Prop) (a : Act) (w : World), RS B N φ fp S ts m a w → c.wp P (fun e a' w' => Done B N (Q e) a' w') a w

structure Later (P : Program) (N : Nat) (c : Code) (ts : Env) (m : Mem) (Q : Post) (_ : Pack (c, Q)) : Prop where
  ok : Ok P N c ts m Q
def thn (Q : Post) (n : St) : Post
  | .normal => n
  | .exit i => Q (.exit i)
  | .ret => Q .ret
  | e => Q e
theorem thn_normal (Q : Post) (n : St) : thn Q n .normal = n := rfl
theorem thn_ret (Q : Post) (n : St) : thn Q n .ret = Q .ret := rfl
theorem thn_exit (Q : Post) (n : St) (i : Nat) : thn Q n (.exit i) = Q (.exit i) := rfl
def blk (Q : Post) (id : Nat) : Post
  | .exit j => if j = id then Q .normal else Q (.exit j)
  | .normal => Q .normal
  | .ret => Q .ret
  | e => Q e
theorem blk_normal (Q : Post) (i : Nat) : blk Q i .normal = Q .normal := rfl
theorem blk_ret (Q : Post) (i : Nat) : blk Q i .ret = Q .ret := rfl
theorem blk_exit (Q : Post) (i j : Nat) : blk Q i (.exit j) = if j = i then Q .normal else Q (.exit j) := rfl

def vc (P : Program) (N : Nat) : Code → Env → Mem → Post → Prop
  | .skip, ts, m, Q => Q .normal ts m
  | .region i ops false, ts, m, Q => sL P ops.toList ops.toList ts m (Q .normal)
  | .region i ops true, ts, m, Q => Ok P N (.region i ops true) ts m Q
  | .seq a b, ts, m, Q => vc P N a ts m (thn Q fun ts' m' => vc P N b ts' m' Q)
  | .cond c a b, ts, m, Q => sIf (ev ts c) (vc P N a ts m Q) (vc P N b ts m Q)
  | .block id b, ts, m, Q => vc P N b ts m (blk Q id)
  | .loop b, ts, m, Q => Ok P N (.loop b) ts m Q
  | .exit id, ts, m, Q => Q (.exit id) ts m
  | .ret, ts, m, Q => Q .ret ts m
  | _, _, _, _ => False
theorem vc_skip (N : Nat) (ts : Env) (m : Mem) (Q : Post) : vc P N .skip ts m Q = Q .normal ts m := rfl
theorem vc_region (N i : Nat) (l : List Oper) (ts : Env) (m : Mem) (Q : Post) : vc P N (.region i ⟨l⟩ false) ts m Q = sL P l l ts m (Q .normal) := rfl
theorem vc_draw (N i : Nat) (l : List Oper) (ts : Env) (m : Mem) (Q : Post) : vc P N (.region i ⟨l⟩ true) ts m Q = Later P N (.region i ⟨l⟩ true) ts m Q ⟨⟩ := propext ⟨fun h => ⟨h⟩, fun h => h.ok⟩
theorem vc_seq (N : Nat) (a b : Code) (ts : Env) (m : Mem) (Q : Post) : vc P N (.seq a b) ts m Q = vc P N a ts m (thn Q fun ts' m' => vc P N b ts' m' Q) := rfl
theorem vc_cond (N : Nat) (c : Operand) (a b : Code) (ts : Env) (m : Mem) (Q : Post) : vc P N (.cond c a b) ts m Q = sIf (ev ts c) (vc P N a ts m Q) (vc P N b ts m Q) := rfl
theorem vc_block (N i : Nat) (b : Code) (ts : Env) (m : Mem) (Q : Post) : vc P N (.block i b) ts m Q = vc P N b ts m (blk Q i) := rfl
theorem vc_loop (N : Nat) (b : Code) (ts : Env) (m : Mem) (Q : Post) : vc P N (.loop b) ts m Q = Later P N (.loop b) ts m Q ⟨⟩ := propext ⟨fun h => ⟨h⟩, fun h => h.ok⟩
theorem vc_exit (N i : Nat) (ts : Env) (m : Mem) (Q : Post) : vc P N (.exit i) ts m Q = Q (.exit i) ts m := rfl
theorem vc_ret (N : Nat) (ts : Env) (m : Mem) (Q : Post) : vc P N .ret ts m Q = Q .ret ts m := rfl

def codeOk (N : Nat) : Code → Bool
  | .region _ ops false => opsOk N ops.toList && guardsOk N ops.toList
  | .seq a b => codeOk N a && codeOk N b
  | .cond _ a b => codeOk N a && codeOk N b
  | .block _ b => codeOk N b
  | _ => true

theorem vc_sound : ∀ (c : Code) (ts : Env) (m : Mem) (Q : Post), codeOk N c = true → vc P N c ts m Q → Ok P N c ts m Q
  | .skip, ts, m, Q, _, h => fun B φ fp S a w hRS => wp_skip ⟨φ, fp, S, ts, m, hRS, h⟩
  | .region i ops false, ts, m, Q, hok, h => fun B φ fp S a w hRS => by
    simp only [codeOk, Bool.and_eq_true] at hok
    refine wp_region ?_
    have := region_sound (P := P) (B := B) (Q := fun e a' w' => Done B N (Q e) a' w') hok.1 hok.2 (K := Q .normal) (fun a w h => h) ops.toList 0 (by simp) φ fp S ts m a w hRS h
    simpa using this
  | .region i ops true, ts, m, Q, _, h => h
  | .seq a b, ts, m, Q, hok, h => fun B φ fp S ac w hRS => by
    simp only [codeOk, Bool.and_eq_true] at hok
    refine wp_seq (wp_mono (vc_sound a ts m _ hok.1 h B φ fp S ac w hRS) fun e a' w' hq => ?_)
    obtain ⟨φ', fp', S', ts', m', h1, h2⟩ := hq
    cases e with
    | normal => exact vc_sound b ts' m' Q hok.2 h2 B φ' fp' S' a' w' h1
    | _ => exact ⟨φ', fp', S', ts', m', h1, h2⟩
  | .cond c x y, ts, m, Q, hok, h => fun B φ fp S ac w hRS => by
    simp only [codeOk, Bool.and_eq_true] at hok
    have h : sIf (ev ts c) (vc P N x ts m Q) (vc P N y ts m Q) := h
    have hc := hRS.ev c
    unfold sIf at h
    split at h
    · rename_i b hv
      rw [hv] at hc
      obtain ⟨hb, _⟩ := rv_val hc
      refine wp_cond_split hb.symm (fun ht => vc_sound x ts m Q hok.1 (h.1 ht) B φ fp S ac w hRS) (fun hf => vc_sound y ts m Q hok.2 (h.2 hf) B φ fp S ac w hRS)
    · exact h.elim
  | .block id b, ts, m, Q, hok, h => fun B φ fp S ac w hRS => by
    refine wp_block (wp_mono (vc_sound b ts m _ hok h B φ fp S ac w hRS) fun e a' w' hq => ?_)
    obtain ⟨φ', fp', S', ts', m', h1, h2⟩ := hq
    cases e with
    | exit j =>
      simp only [blk] at h2
      simp only [Exit.inBlock]
      split
      · rename_i hj; rw [if_pos hj] at h2; exact ⟨φ', fp', S', ts', m', h1, h2⟩
      · rename_i hj; rw [if_neg hj] at h2; exact ⟨φ', fp', S', ts', m', h1, h2⟩
    | _ => exact ⟨φ', fp', S', ts', m', h1, h2⟩
  | .loop b, ts, m, Q, _, h => h
  | .exit id, ts, m, Q, _, h => fun B φ fp S a w hRS => wp_exit ⟨φ, fp, S, ts, m, hRS, h⟩
  | .ret, ts, m, Q, _, h => fun B φ fp S a w hRS => wp_ret ⟨φ, fp, S, ts, m, hRS, h⟩
  | .rangeFunc .., _, _, _, _, h => h.elim
  | .scope .., _, _, _, _, h => h.elim
  | .label .., _, _, _, _, h => h.elim
  | .goto .., _, _, _, _, h => h.elim
  | .refuse .., _, _, _, _, h => h.elim

end
end Go.Vc


set_option linter.unusedVariables false
set_option linter.unusedSimpArgs false
set_option linter.unnecessarySimpa false
namespace Go.Vc

def verIs (b : Option Blk) (v : Nat) : Prop := match b with | some (.gone _) => False | some k => k.ver = v | none => False
theorem verIs_row (u v : Nat) (sh : Sh) (d : Bool) (xs : List AV) : verIs (some (.row u sh d xs)) v = (u = v) := rfl
theorem verIs_box (u v : Nat) (xs : List AV) : verIs (some (.box u xs)) v = (u = v) := rfl
def noBlk (b : Option Blk) : Prop := match b with | none => True | some (.gone _) => True | _ => False
theorem noBlk_none : noBlk none = True := rfl
def refArr (b b2 : Option Blk) (l ver i n : Nat) (sh : Sh) (ys : List AV) : Prop := match b, b2 with
  | some (.row v sh' _ xs), none => v = ver ∧ sh' = sh ∧ i + n ≤ xs.length ∧ (xs.drop i).take n = ys ∧ l < ioL
  | _, _ => False
def refV (m m2 : Mem) : AV → AV → Prop
  | _, .undef => True
  | .val u, .val v => u = v
  | .e0, .e0 => True
  | .arr sh xs, .arr sh' ys => sh = sh' ∧ xs = ys
  | .ref l ver i n, .arr sh ys => refArr (lookB m l) (lookB m2 l) l ver i n sh ys
  | .e0, .arr _ ys => ys = []
  | .val (.slice none 0 0), .arr _ ys => ys = []
  | .ref l ver i n, .ref l' ver' i' n' => (l = l' ∧ i = i' ∧ n = n') ∧ verIs (lookB m l) ver ∧ verIs (lookB m2 l) ver'
  | .e0, .ref l' ver' i' n' => (i' = 0 ∧ n' = 0) ∧ noBlk (lookB m l') ∧ verIs (lookB m2 l') ver'
  | .val (.slice none 0 0), .ref l' ver' i' n' => (i' = 0 ∧ n' = 0) ∧ noBlk (lookB m l') ∧ verIs (lookB m2 l') ver'
  | .ptr l ver i j, .ptr l' ver' i' j' => (l = l' ∧ i = i' ∧ j = j') ∧ verIs (lookB m l) ver ∧ verIs (lookB m2 l) ver'
  | .eptr sh xs i j, .eptr sh' ys i' j' => sh = sh' ∧ xs = ys ∧ i = i' ∧ j = j'
  | _, _ => False
section
variable (m m2 : Mem)
theorem refV_val (u v : Value) : refV m m2 (.val u) (.val v) = (u = v) := by cases u <;> rfl
theorem refV_arr (sh : Sh) (xs ys : List AV) : refV m m2 (.arr sh xs) (.arr sh ys) = (xs = ys) := by simp [refV]
theorem refV_ref (l ver i n ver' i' n' : Nat) : refV m m2 (.ref l ver i n) (.ref l ver' i' n') = ((i = i' ∧ n = n') ∧ verIs (lookB m l) ver ∧ verIs (lookB m2 l) ver') := by simp [refV]
theorem refV_nilRef (l' ver' i' n' : Nat) : refV m m2 (.val (.slice none 0 0)) (.ref l' ver' i' n') = ((i' = 0 ∧ n' = 0) ∧ noBlk (lookB m l') ∧ verIs (lookB m2 l') ver') := rfl
theorem refV_ptr (l ver i j ver' i' j' : Nat) : refV m m2 (.ptr l ver i j) (.ptr l ver' i' j') = ((i = i' ∧ j = j') ∧ verIs (lookB m l) ver ∧ verIs (lookB m2 l) ver') := by simp [refV]
end

def refC (m m2 : Mem) : List AV → List AV → Prop
  | [], [] => True
  | x :: xs, y :: ys => (refV m m2 x y ∧ leaf y) ∧ refC m m2 xs ys
  | _, _ => False
theorem refC_nil (m m2 : Mem) : refC m m2 [] [] = True := rfl
theorem refC_cons (m m2 : Mem) (x y : AV) (xs ys : List AV) : refC m m2 (x :: xs) (y :: ys) = ((refV m m2 x y ∧ leaf y) ∧ refC m m2 xs ys) := rfl
def refV1 (m m2 : Mem) : AV → AV → Prop
  | .clo f xs, .clo g ys => f = g ∧ refC m m2 xs ys
  | x, y => refV m m2 x y
theorem refV1_val (m m2 : Mem) (x : AV) (v : Value) : refV1 m m2 x (.val v) = refV m m2 x (.val v) := by cases x <;> rfl
theorem refV1_arr (m m2 : Mem) (x : AV) (sh : Sh) (ys : List AV) : refV1 m m2 x (.arr sh ys) = refV m m2 x (.arr sh ys) := by cases x <;> rfl
theorem refV1_ref (m m2 : Mem) (x : AV) (l v i n : Nat) : refV1 m m2 x (.ref l v i n) = refV m m2 x (.ref l v i n) := by cases x <;> rfl
def refL (m m2 : Mem) : List AV → List AV → Prop
  | [], [] => True
  | x :: xs, y :: ys => (refV1 m m2 x y ∧ leaf y) ∧ refL m m2 xs ys
  | _, _ => False
theorem refL_nil (m m2 : Mem) : refL m m2 [] [] = True := rfl
theorem refL_cons (m m2 : Mem) (x y : AV) (xs ys : List AV) : refL m m2 (x :: xs) (y :: ys) = ((refV1 m m2 x y ∧ leaf y) ∧ refL m m2 xs ys) := rfl
theorem leaf_val (v : Value) : leaf (.val v) = True := rfl
theorem leaf_arr (sh : Sh) (xs : List AV) : leaf (.arr sh xs) = True := rfl
theorem leaf_ref (l v i n : Nat) : leaf (.ref l v i n) = True := rfl
theorem leaf_ptr (l v i n : Nat) : leaf (.ptr l v i n) = True := rfl

def refA (m m2 : Mem) : AV → AV → Prop
  | .agg xs, .agg ys => refL m m2 xs ys
  | .clo f xs, .clo g ys => f = g ∧ refC m m2 xs ys
  | x, y => refV m m2 x y
theorem refA_clo (m m2 : Mem) (f g : FuncId) (xs ys : List AV) : refA m m2 (.clo f xs) (.clo g ys) = (f = g ∧ refC m m2 xs ys) := rfl
theorem refA_undef (m m2 : Mem) (x : AV) : refA m m2 x .undef = True := by cases x <;> rfl
theorem refA_val (m m2 : Mem) (x : AV) (v : Value) : refA m m2 x (.val v) = refV m m2 x (.val v) := by cases x <;> rfl
theorem refA_arr (m m2 : Mem) (x : AV) (sh : Sh) (ys : List AV) : refA m m2 x (.arr sh ys) = refV m m2 x (.arr sh ys) := by cases x <;> rfl
theorem refA_ref (m m2 : Mem) (x : AV) (l v i n : Nat) : refA m m2 x (.ref l v i n) = refV m m2 x (.ref l v i n) := by cases x <;> rfl
theorem refA_ptr (m m2 : Mem) (x : AV) (l v i n : Nat) : refA m m2 x (.ptr l v i n) = refV m m2 x (.ptr l v i n) := by cases x <;> rfl

def refE (ts : Env) (m m2 : Mem) : Env → Prop
  | [] => True
  | (t, v) :: r => refA m m2 (look ts t) v ∧ refE ts m m2 r
theorem refE_nil (ts : Env) (m m2 : Mem) : refE ts m m2 [] = True := rfl
theorem refE_cons (ts : Env) (m m2 : Mem) (t : Nat) (v : AV) (r : Env) : refE ts m m2 ((t, v) :: r) = (refA m m2 (look ts t) v ∧ refE ts m m2 r) := rfl

def refB (m m2 : Mem) (b : Option Blk) (b2 : Blk) : Prop := match b, b2 with
  | some (.row _ sh d xs), .row _ sh2 d2 xs2 => sh = sh2 ∧ d = d2 ∧ xs = xs2
  | some (.box _ xs), .box _ ys => refL m m2 xs ys
  | none, .row _ _ _ xs => xs = []
  | some (.gone _), .row _ _ _ xs => xs = []
  | _, _ => False
section
variable (m m2 : Mem)
theorem refB_row (v v2 : Nat) (sh : Sh) (d : Bool) (xs xs2 : List AV) : refB m m2 (some (.row v sh d xs)) (.row v2 sh d xs2) = (xs = xs2) := by simp [refB]
theorem refB_box (v v2 : Nat) (xs xs2 : List AV) : refB m m2 (some (.box v xs)) (.box v2 xs2) = refL m m2 xs xs2 := rfl
theorem refB_none (v2 : Nat) (sh : Sh) (d : Bool) (xs2 : List AV) : refB m m2 none (.row v2 sh d xs2) = (xs2 = []) := rfl
end
def refM (m m2 : Mem) : Mem → Prop
  | [] => True
  | (l, b) :: r => refB m m2 (lookB m l) b ∧ refM m m2 r
theorem refM_nil (m m2 : Mem) : refM m m2 [] = True := rfl
theorem refM_cons (m m2 : Mem) (l : Nat) (b : Blk) (r : Mem) : refM m m2 ((l, b) :: r) = (refB m m2 (lookB m l) b ∧ refM m m2 r) := rfl

def sameVer (b b2 : Option Blk) : Prop := match b, b2 with
  | some (.row v _ _ _), some (.row v2 _ _ _) => v = v2
  | some (.box v _), some (.box v2 _) => v = v2
  | _, _ => False
theorem sameVer_rr (v v2 : Nat) (sh sh2 : Sh) (d d2 : Bool) (xs xs2 : List AV) : sameVer (some (.row v sh d xs)) (some (.row v2 sh2 d2 xs2)) = (v = v2) := rfl
theorem sameVer_bb (v v2 : Nat) (xs xs2 : List AV) : sameVer (some (.box v xs)) (some (.box v2 xs2)) = (v = v2) := rfl
def keepIo (l : Nat) (b b2 : Option Blk) : Prop := l < ioL ∨ sameVer b b2
theorem keepIo_eq (l : Nat) (b b2 : Option Blk) : keepIo l b b2 = (l < 1000000000 ∨ sameVer b b2) := rfl
def refK (m m2 : Mem) : Mem → Prop
  | [] => True
  | (l, _) :: r => keepIo l (lookB m l) (lookB m2 l) ∧ refK m m2 r
theorem refK_nil (m m2 : Mem) : refK m m2 [] = True := rfl
theorem refK_cons (m m2 : Mem) (l : Nat) (b : Blk) (r : Mem) : refK m m2 ((l, b) :: r) = (keepIo l (lookB m l) (lookB m2 l) ∧ refK m m2 r) := rfl
theorem refK_get {m m2 : Mem} : ∀ {r : Mem}, refK m m2 r → ∀ {l : Nat} {b : Blk}, lookB r l = some b → keepIo l (lookB m l) (lookB m2 l)
  | [], _, l, b, hb => by rw [lookB_nil] at hb; cases hb
  | (l0, b0) :: r, h, l, b, hb => by
    rw [lookB_cons] at hb
    split at hb
    · rename_i e; subst e; exact h.1
    · exact refK_get h.2 hb

def refS (ts : Env) (m : Mem) (ts2 : Env) (m2 : Mem) : Prop := refE ts m m2 ts2 ∧ refM m m2 m2 ∧ refK m m2 m
theorem refS_eq (ts : Env) (m : Mem) (ts2 : Env) (m2 : Mem) : refS ts m ts2 m2 = (refE ts m m2 ts2 ∧ refM m m2 m2 ∧ refK m m2 m) := rfl

section
variable {P : Program} {B : Base} {N : Nat} {φ : Nat → LS} {fp : Nat → List Nat} {S : Nat → Prop} {ts : Env} {m : Mem} {a : Act} {w : World}

theorem refM_get {m m2 : Mem} : ∀ {r : Mem}, refM m m2 r → ∀ {l : Nat} {b : Blk}, lookB r l = some b → refB m m2 (lookB m l) b
  | [], _, l, b, h => by cases h
  | (l0, b0) :: r, h, l, b, hb => by
    rw [lookB_cons] at hb
    split at hb
    · rename_i e; subst e; cases hb; exact h.1
    · exact refM_get h.2 hb
theorem refE_get {ts : Env} {m m2 : Mem} : ∀ {r : Env}, refE ts m m2 r → ∀ t, refA m m2 (look ts t) (look r t)
  | [], _, t => by rw [look_nil, refA_undef]; trivial
  | (t0, v) :: r, h, t => by
    rw [look_cons]
    split
    · rename_i e; subst e; exact h.1
    · exact refE_get h.2 t

def newφ (φ : Nat → LS) (m2 : Mem) : Nat → LS := fun l => match lookB m2 l with
  | none => .dead
  | some k => match φ l with
    | .at b sh _ => .at b sh k.ver
    | _ => .nil k.ver
def newfp (fp : Nat → List Nat) (m2 : Mem) : Nat → List Nat := fun l => match lookB m2 l with | none => [] | some _ => fp l
def newS (S : Nat → Prop) (fp : Nat → List Nat) (m2 : Mem) : Nat → Prop := fun b => S b ∨ ∃ l, lookB m2 l = none ∧ l < ioL ∧ b ∈ fp l

theorem known_of_verIs {m2 : Mem} {l v : Nat} (h : verIs (lookB m2 l) v) : known m2 l v := by
  unfold verIs at h
  split at h
  · exact h.elim
  · rename_i k hn hk; exact ⟨k, hk, Nat.le_of_eq h.symm⟩
  · exact h.elim

theorem refV_out (h : RS B N φ fp S ts m a w) {m2 : Mem} {x y : AV} {v : Value} (hx : RV w S φ x v) (hr : refV m m2 x y) :
    RV w (newS S fp m2) (newφ φ m2) y v ∧ ∀ l ver, (l, ver) ∈ labs y → known m2 l ver := by
  have hS : ∀ b, S b → newS S fp m2 b := fun b hb => .inl hb
  have nolab : ∀ {y : AV} {v : Value}, Rd w S y v → RV w (newS S fp m2) (newφ φ m2) y v ∧ ∀ l ver, (l, ver) ∈ labs y → known m2 l ver := by
    intro y v hy
    exact ⟨.rd _ _ (hy.mono (fun _ _ => rfl) hS), fun l ver hl => by rw [labs_rd hy] at hl; cases hl⟩
  have nilref : ∀ {v : Value} {l' ver' i' n' : Nat}, (∃ ad, v = .slice ad 0 0) → (i' = 0 ∧ n' = 0) ∧ noBlk (lookB m l') ∧ verIs (lookB m2 l') ver' →
      RV w (newS S fp m2) (newφ φ m2) (.ref l' ver' i' n') v ∧ ∀ l ver, (l, ver) ∈ labs (.ref l' ver' i' n') → known m2 l ver := by
    rintro v l' ver' i' n' ⟨ad, rfl⟩ ⟨⟨rfl, rfl⟩, hnb, hv⟩
    refine ⟨.ref _ _ _ _ _ (fun b sh hb => ?_) (fun _ => ⟨rfl, ad, rfl⟩) rfl, fun l ver hl => ?_⟩
    · have hd : φ l' = .dead := by
        unfold noBlk at hnb
        split at hnb
        · rename_i hk; exact (h.mNone l' hk).1
        · rename_i v hk; exact (h.mSome l' _ hk).1
        · exact hnb.elim
      unfold newφ at hb
      split at hb
      · cases hb
      · rw [hd] at hb; cases hb
    · simp only [labs, List.mem_singleton, Prod.mk.injEq] at hl
      obtain ⟨rfl, rfl⟩ := hl
      exact known_of_verIs hv
  unfold refV at hr
  split at hr
  · exact ⟨.rd _ _ (.undef _), fun _ _ hl => by cases hl⟩
  · subst hr
    obtain ⟨rfl, h1⟩ := rv_val hx
    exact nolab (.val _ h1)
  · obtain ⟨ad, rfl⟩ := rv_e0 hx
    exact nolab (.e0 _)
  · obtain ⟨rfl, rfl⟩ := hr
    exact nolab (rv_arr hx)
  · rename_i l ver i n sh ys
    unfold refArr at hr
    split at hr
    · rename_i v' sh' d xs hlk hlk2
      obtain ⟨rfl, rfl, hin, rfl, hio⟩ := hr
      refine ⟨.rd _ _ ?_, fun _ _ hl => by cases hl⟩
      have hlen : ((xs.drop i).take n).length = n := by simp; omega
      have hrr := rv_ref hx
      rcases h.mSome l _ hlk with ⟨h1, h2, h3⟩ | ⟨b, cap, hφ, hbm, hdp, hown⟩
      · obtain ⟨rfl, ad, rfl⟩ := hrr.2 h1
        rw [List.take_zero]; exact .nil _ _
      · obtain ⟨ad, cp, rfl, hnc, hcp⟩ := hrr.1 b sh' hφ
        obtain ⟨cs, e, fss, hgf, hheap, hcs, hcap, hmx, hff, hfl, hvv⟩ := row_inv hown hbm
        by_cases hc0 : cp = 0
        · have : n = 0 := by omega
          subst this; subst hc0
          rw [List.take_zero]; exact .nil _ _
        · obtain ⟨rfl, cs', e', g1, g2⟩ := hcp.resolve_left hc0
          obtain rfl := celO_inj (hheap.symm.trans g1)
          have hroom : i * sh'.sz + n * sh'.sz ≤ cs.size := by
            rw [g2, ← Nat.add_mul]; exact Nat.mul_le_mul_right _ (by omega)
          have hin2 : ∀ c, c ∈ fp l → newS S fp m2 c := fun c hc => .inr ⟨l, hlk2, hio, hc⟩
          have := Rd.arr (w := w) (S := newS S fp m2) sh' ((xs.drop i).take n) b (i * sh'.sz) cp cs e.1 (frOf e cs.size) (hin2 b hbm) hheap (by rw [hlen]; exact hnc) (by rw [hlen]; exact hroom)
            (fun q hq => by rw [hlen] at hq; simp only [List.getElem_take, List.getElem_drop]; exact hff _ (by omega))
            (fun q hq => by
              rw [hlen] at hq
              simp only [List.getElem_take, List.getElem_drop]
              have := (hvv (i + q) (by omega)).rd_of (S' := newS S fp m2) (fun c hc => by
                cases d with
                | true => exact hc.elim
                | false => exact hS c hc) (fun c hc => hin2 c (by rw [hgf]; exact List.mem_cons_of_mem _ (mem_flatten_getD (by omega) hc)))
              rwa [Nat.add_mul] at this)
          rw [hlen] at this
          exact this
    · exact hr.elim
  · obtain ⟨ad, rfl⟩ := rv_e0 hx
    subst hr
    exact nolab (.nil _ _)
  · obtain ⟨rfl, _⟩ := rv_val hx
    subst hr
    exact nolab (.nil _ _)
  · rename_i l ver i n l' ver' i' n'
    obtain ⟨⟨rfl, rfl, rfl⟩, hv1, hv2⟩ := hr
    have hrr := rv_ref hx
    have hlab : ∀ l' v', (l', v') ∈ labs (.ref l ver' i n) → known m2 l' v' := by
      intro l' v' hl
      simp only [labs, List.mem_singleton, Prod.mk.injEq] at hl
      obtain ⟨rfl, rfl⟩ := hl
      exact known_of_verIs hv2
    have hone : v.oneCell' = true := hx.leaf_oneCell trivial
    refine ⟨.ref _ _ _ _ _ (fun b sh hb => ?_) (fun hb => ?_) hone, hlab⟩
    · unfold newφ at hb
      split at hb
      · cases hb
      · rename_i k hk
        split at hb
        · rename_i b' sh' v' hφ
          cases hb
          -- the version of the block that lies there
          obtain ⟨k0, hk0, hk0v⟩ := h.lookB_ne hφ
          have hvv : v' = ver := by
            rw [hk0] at hv1
            cases k0 <;> first | exact hv1.elim | exact hk0v.symm.trans hv1
          subst hvv
          exact hrr.1 _ _ hφ
        · cases hb
    · unfold newφ at hb
      split at hb
      · cases hb
      · rename_i k hk
        split at hb
        · cases hb
        · rename_i hne
          -- no block lies there: the label is nil
          unfold verIs at hv1
          split at hv1
          · exact hv1.elim
          · rename_i k0 hng hk0
            have hb0 := h.mSome l k0 hk0
            cases k0 with
            | gone => exact absurd rfl (hng _)
            | row v0 sh d xs =>
              rcases hb0 with ⟨h1, _⟩ | ⟨b, cap, hφ, _⟩
              · have hv1 : v0 = ver := hv1
                subst hv1
                exact hrr.2 h1
              · exact absurd hφ (hne _ _ _)
            | box v0 xs => obtain ⟨b, cs, e, sh, hφ, _⟩ := hb0; exact absurd hφ (hne _ _ _)
            | lent v0 xs i0 u0 => obtain ⟨b, cap, cs, e, fr, hφ, _⟩ := hb0; exact absurd hφ (hne _ _ _)
            | sub v0 sh xs u0 => obtain ⟨b, cap, hφ, _⟩ := hb0; exact absurd hφ (hne _ _ _)
          · exact hv1.elim
  · exact nilref (rv_e0 hx) hr
  · obtain ⟨rfl, _⟩ := rv_val hx
    exact nilref ⟨_, rfl⟩ hr
  · rename_i l ver i j l' ver' i' j'
    obtain ⟨⟨rfl, rfl, rfl⟩, hv1, hv2⟩ := hr
    have hrr := rv_ptr hx
    have hr2 := rv_ptr2 hx
    refine ⟨.ptr _ _ _ _ _ (fun b sh hb => ?_) (fun hb => ?_) hr2.2, fun l' v' hl => ?_⟩
    · unfold newφ at hb
      split at hb
      · cases hb
      · split at hb
        · rename_i b' sh' v' hφ
          cases hb
          obtain ⟨k0, hk0, hk0v⟩ := h.lookB_ne hφ
          have hvv : v' = ver := by
            rw [hk0] at hv1
            cases k0 <;> first | exact hv1.elim | exact hk0v.symm.trans hv1
          subst hvv
          exact hrr _ _ hφ
        · cases hb
    · unfold newφ at hb
      split at hb
      · cases hb
      · split at hb
        · cases hb
        · rename_i hne
          unfold verIs at hv1
          split at hv1
          · exact hv1.elim
          · rename_i k0 hng hk0
            have hb0 := h.mSome l k0 hk0
            cases k0 with
            | gone => exact absurd rfl (hng _)
            | row v0 sh d xs =>
              rcases hb0 with ⟨h1, _⟩ | ⟨b, cap, hφ, _⟩
              · have hv1 : v0 = ver := hv1
                subst hv1
                exact hr2.1 h1
              · exact absurd hφ (hne _ _ _)
            | box v0 xs => obtain ⟨b, cs, e, sh, hφ, _⟩ := hb0; exact absurd hφ (hne _ _ _)
            | lent v0 xs i0 u0 => obtain ⟨b, cap, cs, e, fr, hφ, _⟩ := hb0; exact absurd hφ (hne _ _ _)
            | sub v0 sh xs u0 => obtain ⟨b, cap, hφ, _⟩ := hb0; exact absurd hφ (hne _ _ _)
          · exact hv1.elim
    · simp only [labs, List.mem_singleton, Prod.mk.injEq] at hl
      obtain ⟨rfl, rfl⟩ := hl
      exact known_of_verIs hv2
  · obtain ⟨rfl, rfl, rfl, rfl⟩ := hr
    exact nolab (rv_eptr hx)
  · exact hr.elim

theorem getD_takeV {l : List Value} {n i : Nat} (h : i < n) : (l.take n).getD i Go.undef = l.getD i Go.undef := by simp [List.getD_eq_getElem?_getD, List.getElem?_take, h]
theorem refC_out (h : RS B N φ fp S ts m a w) {m2 : Mem} : ∀ (xs ys : List AV) (vs : List Value), refC m m2 xs ys → vs.length = xs.length → (∀ i (hi : i < xs.length), RV w S φ xs[i] (vs.getD i Go.undef)) →
    ys.length = xs.length ∧ (∀ i (hi : i < ys.length), leaf ys[i]) ∧ (∀ i (hi : i < ys.length), RV w (newS S fp m2) (newφ φ m2) ys[i] (vs.getD i Go.undef)) ∧ ∀ l ver, (l, ver) ∈ labsL ys → known m2 l ver
  | [], [], vs, _, _, _ => ⟨rfl, fun i hi => absurd hi (Nat.not_lt_zero _), fun i hi => absurd hi (Nat.not_lt_zero _), fun _ _ hl => by cases hl⟩
  | x :: xs, y :: ys, vs, hr, hv, hx => by
    cases vs with
    | nil => simp at hv
    | cons v vs =>
      obtain ⟨⟨h1, h2⟩, h3⟩ := hr
      obtain ⟨g1, g2⟩ := refV_out h (hx 0 (by simp)) h1
      obtain ⟨q1, q2, q3, q4⟩ := refC_out h xs ys vs h3 (by simpa using hv) (fun i hi => by have := hx (i + 1) (by simpa using hi); exact this)
      refine ⟨by simp [q1], fun i hi => ?_, fun i hi => ?_, fun l ver hl => ?_⟩
      · cases i with
        | zero => exact h2
        | succ i => exact q2 i (by simpa using hi)
      · cases i with
        | zero => exact g1
        | succ i => exact q3 i (by simpa using hi)
      · simp only [labsL, List.mem_append] at hl
        rcases hl with hl | hl
        · exact g2 l ver hl
        · exact q4 l ver hl
  | [], _ :: _, _, hr, _, _ => hr.elim
  | _ :: _, [], _, hr, _, _ => hr.elim

theorem refV1_out (h : RS B N φ fp S ts m a w) {m2 : Mem} {x y : AV} {v : Value} (hx : RV w S φ x v) (hr : refV1 m m2 x y) :
    RV w (newS S fp m2) (newφ φ m2) y v ∧ ∀ l ver, (l, ver) ∈ labs y → known m2 l ver := by
  unfold refV1 at hr
  split at hr
  · rename_i f xs g ys
    obtain ⟨rfl, hr⟩ := hr
    obtain ⟨cs, rfl, h1, h3⟩ := rv_clo hx
    obtain ⟨q1, q2, q3, q4⟩ := refC_out h xs ys cs.toList hr (by simpa using h1) h3
    exact ⟨.clo _ _ _ (by omega) q3, fun l ver hl => q4 l ver (by simpa [labs] using hl)⟩
  · exact refV_out h hx hr

theorem refL_out (h : RS B N φ fp S ts m a w) {m2 : Mem} : ∀ (xs ys : List AV) (vs : List Value), refL m m2 xs ys → vs.length = xs.length → (∀ i (hi : i < xs.length), RV w S φ xs[i] (vs.getD i Go.undef)) →
    ys.length = xs.length ∧ (∀ i (hi : i < ys.length), leaf ys[i]) ∧ (∀ i (hi : i < ys.length), RV w (newS S fp m2) (newφ φ m2) ys[i] (vs.getD i Go.undef)) ∧ ∀ l ver, (l, ver) ∈ labsL ys → known m2 l ver
  | [], [], vs, _, _, _ => ⟨rfl, fun i hi => absurd hi (Nat.not_lt_zero _), fun i hi => absurd hi (Nat.not_lt_zero _), fun _ _ hl => by cases hl⟩
  | x :: xs, y :: ys, vs, hr, hv, hx => by
    cases vs with
    | nil => simp at hv
    | cons v vs =>
      obtain ⟨⟨h1, h2⟩, h3⟩ := hr
      obtain ⟨g1, g2⟩ := refV1_out h (hx 0 (by simp)) h1
      obtain ⟨q1, q2, q3, q4⟩ := refL_out h xs ys vs h3 (by simpa using hv) (fun i hi => by have := hx (i + 1) (by simpa using hi); exact this)
      refine ⟨by simp [q1], fun i hi => ?_, fun i hi => ?_, fun l ver hl => ?_⟩
      · cases i with
        | zero => exact h2
        | succ i => exact q2 i (by simpa using hi)
      · cases i with
        | zero => exact g1
        | succ i => exact q3 i (by simpa using hi)
      · simp only [labsL, List.mem_append] at hl
        rcases hl with hl | hl
        · exact g2 l ver hl
        · exact q4 l ver hl
  | [], _ :: _, _, hr, _, _ => hr.elim
  | _ :: _, [], _, hr, _, _ => hr.elim

theorem refA_out (h : RS B N φ fp S ts m a w) {m2 : Mem} {x y : AV} {v : Value} (hx : RV w S φ x v) (hr : refA m m2 x y) :
    RV w (newS S fp m2) (newφ φ m2) y v ∧ ∀ l ver, (l, ver) ∈ labs y → known m2 l ver := by
  unfold refA at hr
  split at hr
  · rename_i xs ys
    obtain ⟨cs, rfl, h1, h2, h3⟩ := rv_agg hx
    obtain ⟨q1, q2, q3, q4⟩ := refL_out h xs ys cs.toList hr (by simpa using h1) h3
    exact ⟨.agg _ _ (by omega) q2 q3, fun l ver hl => q4 l ver (by simpa [labs] using hl)⟩
  · rename_i f xs g ys
    obtain ⟨rfl, hr⟩ := hr
    obtain ⟨cs, rfl, h1, h3⟩ := rv_clo hx
    obtain ⟨q1, q2, q3, q4⟩ := refC_out h xs ys cs.toList hr (by simpa using h1) h3
    exact ⟨.clo _ _ _ (by omega) q3, fun l ver hl => q4 l ver (by simpa [labs] using hl)⟩
  · exact refV_out h hx hr

theorem RS.refine (h : RS B N φ fp S ts m a w) {ts2 : Env} {m2 : Mem} (hr : refS ts m ts2 m2) : RS B N (newφ φ m2) (newfp fp m2) (newS S fp m2) ts2 m2 a w := by
  obtain ⟨hE, hM, hK⟩ := hr
  have keeps : ∀ l ver, ioL ≤ l → known m l ver → ∃ k k2, lookB m l = some k ∧ lookB m2 l = some k2 ∧ k.ver = k2.ver ∧ ver ≤ k.ver ∧ ∀ v, k ≠ .gone v := by
    rintro l ver hl ⟨k, hk, hv⟩
    rcases refK_get hK hk with hh | hh
    · exact absurd hh (Nat.not_lt.2 hl)
    · rw [hk] at hh
      unfold sameVer at hh
      split at hh
      · rename_i h1 h2; cases h1; exact ⟨_, _, hk, h2, hh, hv, fun _ e => by cases e⟩
      · rename_i h1 h2; cases h1; exact ⟨_, _, hk, h2, hh, hv, fun _ e => by cases e⟩
      · exact hh.elim
  have fps : ∀ l b, b ∈ newfp fp m2 l → b ∈ fp l ∧ ∃ k, lookB m2 l = some k := by
    intro l b hb
    unfold newfp at hb
    split at hb
    · cases hb
    · rename_i k hk; exact ⟨hb, k, hk⟩
  refine ⟨fun t => (refA_out h (h.tm t) (refE_get hE t)).1, fun t => (refA_out h (h.tm t) (refE_get hE t)).2, ?_, ?_, ?_, ?_, ?_, ?_, ?_, ?_, h.base, h.out, h.szs, ?_, ?_, h.size, h.defers, h.tsz, h.kon.mono (fun _ _ => rfl) fun b hb => .inl hb⟩
  · intro l hl
    simp [newφ, newfp, hl]
  · intro l k hk
    have hb := refM_get hM hk
    have hfp : newfp fp m2 l = fp l := by simp [newfp, hk]
    have hnoblk : (lookB m l = none ∨ ∃ v, lookB m l = some (.gone v)) → φ l = .dead ∧ fp l = [] := by
      rintro (hl | ⟨v, hl⟩)
      · exact h.mNone l hl
      · exact h.mSome l _ hl
    rw [hfp]
    unfold refB at hb
    split at hb
    · rename_i v sh d xs v2 sh2 d2 xs2 hlk
      obtain ⟨rfl, rfl, rfl⟩ := hb
      rcases h.mSome l _ hlk with ⟨h1, h2, h3⟩ | ⟨b, cap, hφ, hbm, hdp, hown⟩
      · exact .inl ⟨by simp [newφ, hk, h1, Blk.ver], h2, h3⟩
      · refine .inr ⟨b, cap, by simp [newφ, hk, hφ, Blk.ver], hbm, hdp, ?_⟩
        cases d with
        | true => exact hown
        | false => exact hown.mono (fun _ _ => rfl) (fun _ h => .inl h) (fun _ _ => rfl)
    · rename_i v xs v2 ys hlk
      obtain ⟨b, cs, e, sh, hφ, hfs, hheap, hsz, hlf, hrv⟩ := h.mSome l _ hlk
      obtain ⟨q1, q2, q3, q4⟩ := refL_out h xs ys (cs.toList.take xs.length) hb (by simp; omega) (fun i hi => by rw [getD_takeV hi]; exact hrv i hi)
      exact ⟨b, cs, e, sh, by simp [newφ, hk, hφ, Blk.ver], hfs, hheap, by omega, q2, fun i hi => by have := q3 i hi; rwa [getD_takeV (by omega)] at this⟩
    · rename_i v2 sh2 d2 xs2 hlk
      obtain ⟨h1, h2⟩ := hnoblk (.inl hlk)
      exact .inl ⟨by simp [newφ, hk, h1, Blk.ver], hb, h2⟩
    · rename_i v v2 sh2 d2 xs2 hlk
      obtain ⟨h1, h2⟩ := hnoblk (.inr ⟨v, hlk⟩)
      exact .inl ⟨by simp [newφ, hk, h1, Blk.ver], hb, h2⟩
    · exact hb.elim
  · intro l v xs hk l' ver hl
    have hb := refM_get hM hk
    unfold refB at hb
    split at hb
    · cases ‹Blk.box v xs = _›
    · rename_i v' xs' v2 ys hlk hbx
      cases hbx
      obtain ⟨b, cs, e, sh, hφ, hfs, hheap, hsz, hlf, hrv⟩ := h.mSome l _ hlk
      exact (refL_out h xs' xs (cs.toList.take xs'.length) hb (by simp; omega) (fun i hi => by rw [getD_takeV hi]; exact hrv i hi)).2.2.2 l' ver hl
    · cases ‹Blk.box v xs = _›
    · cases ‹Blk.box v xs = _›
    · exact hb.elim
  · intro l
    unfold newfp
    split
    · simp
    · exact h.nod l
  · intro l l' b h1 h2
    exact h.dis l l' b (fps l b h1).1 (fps l' b h2).1
  · intro l b hb hs
    obtain ⟨h1, k, hk⟩ := fps l b hb
    rcases hs with hs | ⟨l', hl', _, hb'⟩
    · exact h.notS l b h1 hs
    · have := h.dis l l' b h1 hb'
      subst this
      rw [hk] at hl'; cases hl'
  · intro l b hb
    exact h.fpB l b (fps l b hb).1
  · intro b hb
    rcases hb with hb | ⟨l, _, hio, hb⟩
    · exact h.sB b hb
    · have := h.fpB l b hb
      exact ⟨this.1, .inl (this.2.resolve_right fun hh => Nat.lt_irrefl _ (Nat.lt_of_lt_of_le hio hh.choose_spec.2.1))⟩
  · intro l ver hl hk
    obtain ⟨k, k2, h1, h2, h3, h4, _⟩ := keeps l ver hl (h.kn l ver hl hk)
    exact ⟨k2, h2, h3 ▸ h4⟩
  · intro l ver hl hk
    obtain ⟨k, k2, h1, h2, h3, h4, hng⟩ := keeps l ver hl (h.kn l ver hl hk)
    have hle := h.fix l ver hl hk
    have hb := h.mSome l k h1
    have hx2 : newφ φ m2 l = match φ l with | .at b sh _ => .at b sh k2.ver | _ => .nil k2.ver := by unfold newφ; rw [h2]
    have e : newφ φ m2 l = φ l := by
      rw [hx2]
      cases k with
      | gone v => exact absurd rfl (hng v)
      | row v sh d xs =>
        rcases hb with ⟨q1, _, _⟩ | ⟨b, cap, q1, _⟩
        · rw [q1, ← h3]; rfl
        · rw [q1, ← h3]; rfl
      | box v xs =>
        obtain ⟨b, cs, e, sh, q1, _⟩ := hb
        rw [q1, ← h3]; rfl
      | lent v xs i u =>
        obtain ⟨b, cap, cs, e, fr, q1, _⟩ := hb
        rw [q1, ← h3]; rfl
      | sub v sh xs u =>
        obtain ⟨b, cap, q1, _⟩ := hb
        rw [q1, ← h3]; rfl
    rw [e]; exact hle

theorem Ok.mono {c : Code} {Q Q' : Post} (h : Ok P N c ts m Q) (hq : ∀ e ts m, Q e ts m → Q' e ts m) : Ok P N c ts m Q' := fun B φ fp S a w hRS =>
  wp_mono (h B φ fp S a w hRS) fun e _ _ ⟨φ', fp', S', ts', m', h1, h2⟩ => ⟨φ', fp', S', ts', m', h1, hq e ts' m' h2⟩

theorem Ok.loop {body : Code} {ι : Type} (I : ι → Prop) (σ : ι → Env × Mem) (μ : ι → Nat) {Q : Post} (x0 : ι) (h0 : I x0) (hr : refS ts m (σ x0).1 (σ x0).2)
    (step : ∀ x, I x → Ok P N body (σ x).1 (σ x).2 (thn Q fun ts' m' => ∃ y, I y ∧ μ y < μ x ∧ refS ts' m' (σ y).1 (σ y).2)) : Ok P N (.loop body) ts m Q := by
  intro B φ fp S a w hRS
  refine wp_loop_ghost (fun n a w => ∃ x φ fp S, I x ∧ μ x = n ∧ RS B N φ fp S (σ x).1 (σ x).2 a w) (μ x0) ⟨x0, _, _, _, h0, rfl, hRS.refine hr⟩ ?_
  rintro n a w ⟨x, φ, fp, S, hx, rfl, hRS⟩
  refine wp_mono (step x hx B φ fp S a w hRS) fun e a' w' hq => ?_
  obtain ⟨φ', fp', S', ts', m', h1, h2⟩ := hq
  cases e with
  | normal =>
    obtain ⟨y, hy, hlt, href⟩ := h2
    exact ⟨μ y, hlt, y, _, _, _, hy, rfl, h1.refine href⟩
  | _ => exact ⟨φ', fp', S', ts', m', h1, h2⟩

theorem Later.loop {body : Code} {ι : Type} (I : ι → Prop) (σ : ι → Env × Mem) (μ : ι → Nat) {Q : Post} {q : Pack (Code.loop body, Q)} (x0 : ι) (h0 : I x0) (hr : refS ts m (σ x0).1 (σ x0).2) (hok : codeOk N body = true)
    (step : ∀ x, I x → vc P N body (σ x).1 (σ x).2 (thn Q fun ts' m' => ∃ y, I y ∧ μ y < μ x ∧ refS ts' m' (σ y).1 (σ y).2)) : Later P N (.loop body) ts m Q q :=
  ⟨Ok.loop I σ μ x0 h0 hr fun x hx => vc_sound body _ _ _ hok (step x hx)⟩

theorem Later.upto {body : Code} (n : Nat) (I : Nat → Prop) (σ : Nat → Env × Mem) {Q : Post} {q : Pack (Code.loop body, Q)} (h0 : I 0) (hr : refS ts m (σ 0).1 (σ 0).2) (hok : codeOk N body = true)
    (step : ∀ i, i < n → I i → vc P N body (σ i).1 (σ i).2 (thn Q fun ts' m' => I (i + 1) ∧ refS ts' m' (σ (i + 1)).1 (σ (i + 1)).2))
    (stop : I n → vc P N body (σ n).1 (σ n).2 (thn Q fun _ _ => False)) : Later P N (.loop body) ts m Q q := by
  refine ⟨Ok.loop (fun i => i ≤ n ∧ I i) σ (fun i => n - i) 0 ⟨Nat.zero_le _, h0⟩ hr fun i ⟨hi, hI⟩ => ?_⟩
  rcases Nat.lt_or_ge i n with h | h
  · refine (vc_sound body _ _ _ hok (step i h hI)).mono fun e ts' m' hq => ?_
    cases e with
    | normal => exact ⟨i + 1, ⟨h, hq.1⟩, by omega, hq.2⟩
    | _ => exact hq
  · have e : i = n := Nat.le_antisymm hi h
    subst e
    refine (vc_sound body _ _ _ hok (stop hI)).mono fun e ts' m' hq => ?_
    cases e with
    | normal => exact hq.elim
    | _ => exact hq

end
end Go.Vc


set_option linter.unusedVariables false
set_option linter.unusedSimpArgs false
set_option linter.unnecessarySimpa false
namespace Go.Vc

def sCellRB (ag : Bool) (n j v : Nat) (b : Option Blk) (k : AV → Prop) : Prop := match b with
  | some (.box v' xs) => v' = v ∧ (if ag then j + n ≤ xs.length ∧ k (.agg ((xs.drop j).take n)) else sOpt xs[j]? k)
  | _ => False
@[congr] theorem sCellRB_congr {ag : Bool} {n j v : Nat} {b b' : Option Blk} {k : AV → Prop} (h : b = b') : sCellRB ag n j v b k = sCellRB ag n j v b' k := by rw [h]
theorem sCellRB_agg (n j v : Nat) (xs : List AV) (k : AV → Prop) : sCellRB true n j v (some (.box v xs)) k = (j + n ≤ xs.length ∧ k (.agg ((xs.drop j).take n))) := by simp [sCellRB]
def sCellR (ag : Bool) (n : Nat) (p : AV) (m : Mem) (k : AV → Prop) : Prop := match p with
  | .ptr l v i j => i = 0 ∧ sCellRB ag n j v (lookB m l) k
  | _ => False
@[congr] theorem sCellR_congr {ag : Bool} {n : Nat} {p p' : AV} {m : Mem} {k : AV → Prop} (h : p = p') : sCellR ag n p m k = sCellR ag n p' m k := by rw [h]
theorem sCellR_ptr (ag : Bool) (n l v j : Nat) (m : Mem) (k : AV → Prop) : sCellR ag n (.ptr l v 0 j) m k = sCellRB ag n j v (lookB m l) k := by simp [sCellR]
def sResults (P : Program) (k : List AV → Prop) : List ResultVar → Env → Mem → List AV → Prop
  | [], _, _, acc => k acc.reverse
  | .tmp t :: r, ts, m, acc => sResults P k r ts m (look ts t :: acc)
  | .cell p t :: r, ts, m, acc => sTI (tiOf P t) fun ti => sCellR ti.agg ti.size (look ts p) m fun y => sResults P k r ts m (y :: acc)
section
variable (P : Program) (k : List AV → Prop) (r : List ResultVar) (ts : Env) (m : Mem) (acc : List AV)
theorem sResults_nil : sResults P k [] ts m acc = k acc.reverse := rfl
theorem sResults_tmp (t : Nat) : sResults P k (.tmp t :: r) ts m acc = sResults P k r ts m (look ts t :: acc) := rfl
theorem sResults_cell (p t : Nat) : sResults P k (.cell p t :: r) ts m acc = sTI (tiOf P t) fun ti => sCellR ti.agg ti.size (look ts p) m fun y => sResults P k r ts m (y :: acc) := rfl
end

def sOwnB (l v i n : Nat) (used : List Nat) (b : Option Blk) (k : AV → List Nat → Prop) : Prop := match b with
  | some (.row v' sh deep xs) => v' = v ∧ deep = true ∧ i = 0 ∧ (0 < sh.sz ∧ n ≤ xs.length ∧ l < ioL ∧ l ∉ used) ∧ k (.arr sh (xs.take n)) (l :: used)
  | _ => False
@[congr] theorem sOwnB_congr {l v i n : Nat} {used : List Nat} {b b' : Option Blk} {k : AV → List Nat → Prop} (h : b = b') : sOwnB l v i n used b k = sOwnB l v i n used b' k := by rw [h]
theorem sOwnB_row (l v n : Nat) (used : List Nat) (sh : Sh) (xs : List AV) (k : AV → List Nat → Prop) :
    sOwnB l v 0 n used (some (.row v sh true xs)) k = ((0 < sh.sz ∧ n ≤ xs.length ∧ l < ioL ∧ l ∉ used) ∧ k (.arr sh (xs.take n)) (l :: used)) := by simp [sOwnB]
def sOwnL (m : Mem) (used : List Nat) (x : AV) (k : AV → List Nat → Prop) : Prop := match x with
  | .val v => k (.val v) used
  | .e0 => k .e0 used
  | .ref l v i n => sOwnB l v i n used (lookB m l) k
  | _ => False
@[congr] theorem sOwnL_congr {m : Mem} {used : List Nat} {x x' : AV} {k : AV → List Nat → Prop} (h : x = x') : sOwnL m used x k = sOwnL m used x' k := by rw [h]
theorem sOwnL_val (m : Mem) (used : List Nat) (v : Value) (k : AV → List Nat → Prop) : sOwnL m used (.val v) k = k (.val v) used := rfl
theorem sOwnL_ref (m : Mem) (used : List Nat) (l v i n : Nat) (k : AV → List Nat → Prop) : sOwnL m used (.ref l v i n) k = sOwnB l v i n used (lookB m l) k := rfl
def sOwnLs (m : Mem) (k : List AV → List Nat → Prop) : List Nat → List AV → List AV → Prop
  | used, acc, [] => k acc.reverse used
  | used, acc, x :: r => sOwnL m used x fun y used' => sOwnLs m k used' (y :: acc) r
theorem sOwnLs_nil (m : Mem) (k : List AV → List Nat → Prop) (used : List Nat) (acc : List AV) : sOwnLs m k used acc [] = k acc.reverse used := rfl
theorem sOwnLs_cons (m : Mem) (k : List AV → List Nat → Prop) (used : List Nat) (acc : List AV) (x : AV) (r : List AV) : sOwnLs m k used acc (x :: r) = sOwnL m used x fun y used' => sOwnLs m k used' (y :: acc) r := rfl
def sOwnA (m : Mem) (used : List Nat) (x : AV) (k : AV → List Nat → Prop) : Prop := match x with
  | .agg xs => sOwnLs m (fun ys u => k (.agg ys) u) used [] xs
  | x => sOwnL m used x k
@[congr] theorem sOwnA_congr {m : Mem} {used : List Nat} {x x' : AV} {k : AV → List Nat → Prop} (h : x = x') : sOwnA m used x k = sOwnA m used x' k := by rw [h]
theorem sOwnA_agg (m : Mem) (used : List Nat) (xs : List AV) (k : AV → List Nat → Prop) : sOwnA m used (.agg xs) k = sOwnLs m (fun ys u => k (.agg ys) u) used [] xs := rfl
theorem sOwnA_val (m : Mem) (used : List Nat) (v : Value) (k : AV → List Nat → Prop) : sOwnA m used (.val v) k = k (.val v) used := rfl
theorem sOwnA_ref (m : Mem) (used : List Nat) (l v i n : Nat) (k : AV → List Nat → Prop) : sOwnA m used (.ref l v i n) k = sOwnB l v i n used (lookB m l) k := rfl
def sOwnAs (m : Mem) (k : List AV → Prop) : List Nat → List AV → List AV → Prop
  | _, acc, [] => k acc.reverse
  | used, acc, x :: r => sOwnA m used x fun y used' => sOwnAs m k used' (y :: acc) r
theorem sOwnAs_nil (m : Mem) (k : List AV → Prop) (used : List Nat) (acc : List AV) : sOwnAs m k used acc [] = k acc.reverse := rfl
theorem sOwnAs_cons (m : Mem) (k : List AV → Prop) (used : List Nat) (acc : List AV) (x : AV) (r : List AV) : sOwnAs m k used acc (x :: r) = sOwnA m used x fun y used' => sOwnAs m k used' (y :: acc) r := rfl

def mkRes : List AV → AV | [x] => x | xs => .tup xs
theorem mkRes_one (x : AV) : mkRes [x] = x := rfl
theorem mkRes_two (x y : AV) (r : List AV) : mkRes (x :: y :: r) = .tup (x :: y :: r) := rfl

def fin (P : Program) (rs : List ResultVar) (post : AV → Prop) : Post
  | .normal => fun ts m => sResults P (fun xs => sOwnAs m (fun ys => post (mkRes ys)) [] [] xs) rs ts m []
  | .ret => fun ts m => sResults P (fun xs => sOwnAs m (fun ys => post (mkRes ys)) [] [] xs) rs ts m []
  | _ => fun _ _ => False
theorem fin_ret (P : Program) (rs : List ResultVar) (post : AV → Prop) (ts : Env) (m : Mem) : fin P rs post .ret ts m = sResults P (fun xs => sOwnAs m (fun ys => post (mkRes ys)) [] [] xs) rs ts m [] := rfl

def argsE : Nat → List AV → Env
  | _, [] => []
  | i, x :: r => (i, x) :: argsE (i + 1) r
theorem argsE_nil (i : Nat) : argsE i [] = [] := rfl
theorem argsE_cons (i : Nat) (x : AV) (r : List AV) : argsE i (x :: r) = (i, x) :: argsE (i + 1) r := rfl

section
variable {P : Program} {B : Base} {N : Nat} {φ : Nat → LS} {fp : Nat → List Nat} {S : Nat → Prop} {ts : Env} {m : Mem} {a : Act} {w : World}

theorem run_cellR {t : TypeId} {ti : TI} (ht : tiOf P t = some ti) (h : RS B N φ fp S ts m a w) {p : AV} {v : Value} (hp : RV w S φ p v) {k : AV → Prop} (hk : sCellR ti.agg ti.size p m k) :
    ∃ ad u y, v = .pointer (some ad) ∧ (loadVar t ad).run P w = .ok u w ∧ RV w S φ y u ∧ (∀ l ver, (l, ver) ∈ labs y → known m l ver) ∧ k y := by
  unfold sCellR at hk
  split at hk
  · rename_i l ver i j
    obtain ⟨rfl, hk⟩ := hk
    have hp1 := rv_ptr hp
    unfold sCellRB at hk
    split at hk
    · rename_i v' xs hlk
      obtain ⟨rfl, hk⟩ := hk
      obtain ⟨b, cs, e, sh, hφ, hfs, hheap, hsz, hlf, hr⟩ := h.mSome l _ hlk
      have hpv := hp1 b sh hφ
      rw [Nat.zero_mul, Nat.zero_add] at hpv
      subst hpv
      cases hag : ti.agg with
      | true =>
        simp only [hag, if_true] at hk
        obtain ⟨hlen, hk⟩ := hk
        refine ⟨_, _, .agg ((xs.drop j).take ti.size), rfl, run_loadVar_at ht hheap j (fun _ => by omega) (fun h => by rw [hag] at h; cases h), ?_, ?_, hk⟩
        · rw [show ti.sh = ⟨ti.size, true⟩ by simp [TI.sh, hag], elemV_agg]
          refine .agg _ _ (by simp; omega) (fun i hi => ?_) fun i hi => ?_
          · simp only [List.length_take, List.length_drop] at hi
            simp only [List.getElem_take, List.getElem_drop]
            exact hlf _ (by omega)
          · simp only [List.length_take, List.length_drop] at hi
            simp only [List.getElem_take, List.getElem_drop]
            rw [getD_drop_take _ _ _ _ (by omega)]
            exact hr (j + i) (by omega)
        · intro l' ver' hl'
          simp only [labs] at hl'
          obtain ⟨i, hi, hl2⟩ := of_mem_labsL hl'
          simp only [List.length_take, List.length_drop] at hi
          simp only [List.getElem_take, List.getElem_drop] at hl2
          exact h.bl l v' xs hlk l' ver' (mem_labsL (by omega) hl2)
      | false =>
        simp only [hag, if_false, Bool.false_eq_true] at hk
        cases hj : xs[j]? with
        | none => rw [hj] at hk; exact hk.elim
        | some y =>
          rw [hj] at hk
          obtain ⟨hj1, hj2⟩ := List.getElem?_eq_some_iff.1 hj
          refine ⟨_, _, y, rfl, run_loadVar_at ht hheap j (fun h => by rw [hag] at h; cases h) (fun _ => by omega), ?_, ?_, hk⟩
          · rw [show ti.sh = ⟨ti.size, false⟩ by simp [TI.sh, hag], elemV_cell]
            have := hr j hj1
            rwa [hj2] at this
          · intro l' ver' hl'
            exact h.bl l v' xs hlk l' ver' (mem_labsL hj1 (by rw [hj2]; exact hl'))
    · exact hk.elim
  · exact hk.elim

def resOne (tmps : Array Value) : ResultVar → Sem Value
  | .tmp t => pure (tmps.getD t Go.undef)
  | .cell p t => do loadVar t (← asAddr (tmps.getD p Go.undef))

theorem results_out (h : RS B N φ fp S ts m a w) {Q : List AV → Prop} : ∀ (rs : List ResultVar) (acc : List AV) (va : List Value), RdL (RV w S φ) acc.reverse va → sResults P Q rs ts m acc →
    ∃ xs vs, Q xs ∧ (rs.mapM (resOne a.tmps)).run P w = .ok vs w ∧ RdL (RV w S φ) xs (va ++ vs) ∧ vs.length = rs.length
  | [], acc, va, ha, hk => ⟨_, [], hk, by simp, by simpa using ha, rfl⟩
  | .tmp t :: r, acc, va, ha, hk => by
    obtain ⟨xs, vs, h1, h2, h3, h4⟩ := results_out h r (look ts t :: acc) (va ++ [a.tmps.getD t Go.undef]) (by rw [List.reverse_cons]; exact ha.snoc (h.tm t)) hk
    refine ⟨xs, a.tmps.getD t Go.undef :: vs, h1, ?_, by simpa using h3, by simp [h4]⟩
    rw [List.mapM_cons]
    simp only [resOne, Sem.run_bind, Sem.run_pure, Result.andThen_ok, h2]
  | .cell p t :: r, acc, va, ha, hk => by
    obtain ⟨ti, ht, hk⟩ := sTI_out hk
    obtain ⟨ad, u, y, hv, hr, hy, _, hk⟩ := run_cellR ht h (h.tm p) hk
    obtain ⟨xs, vs, h1, h2, h3, h4⟩ := results_out h r (y :: acc) (va ++ [u]) (by rw [List.reverse_cons]; exact ha.snoc hy) hk
    refine ⟨xs, u :: vs, h1, ?_, by simpa using h3, by simp [h4]⟩
    rw [List.mapM_cons]
    simp only [resOne, hv, asAddr, Sem.run_bind, Sem.run_pure, Result.andThen_ok, hr, h2]

structure Taken (fp : Nat → List Nat) (used used' : List Nat) (fs : List Nat) : Prop where
  nod : fs.Nodup
  mem : ∀ b, b ∈ fs → ∃ l, l ∈ used' ∧ b ∈ fp l
  dis : ∀ b, b ∈ fs → ∀ l, l ∈ used → b ∉ fp l
  sub : ∀ l, l ∈ used → l ∈ used'
  lo : ∀ l, l ∈ used' → l ∈ used ∨ l < ioL

theorem Taken.nil (used : List Nat) : Taken fp used used [] := ⟨List.nodup_nil, fun _ h => (by cases h), fun _ h => (by cases h), fun _ h => h, fun _ h => .inl h⟩
theorem Taken.app {u1 u2 u3 fs gs : List Nat} (h : Taken fp u1 u2 fs) (g : Taken fp u2 u3 gs) : Taken fp u1 u3 (fs ++ gs) := by
  refine ⟨List.nodup_append.2 ⟨h.nod, g.nod, ?_⟩, ?_, ?_, fun l hl => g.sub l (h.sub l hl), ?_⟩
  · rintro b hb c hc rfl
    obtain ⟨l, hl, hbl⟩ := h.mem b hb
    exact g.dis b hc l hl hbl
  · intro b hb
    rcases List.mem_append.1 hb with hb | hb
    · obtain ⟨l, hl, hbl⟩ := h.mem b hb
      exact ⟨l, g.sub l hl, hbl⟩
    · exact g.mem b hb
  · intro b hb l hl
    rcases List.mem_append.1 hb with hb | hb
    · exact h.dis b hb l hl
    · exact g.dis b hb l (h.sub l hl)
  · intro l hl
    rcases g.lo l hl with hl | hl
    · exact h.lo l hl
    · exact .inr hl

theorem ownL_out (h : RS B N φ fp S ts m a w) {used : List Nat} {x : AV} {v : Value} (hx : RV w S φ x v) {k : AV → List Nat → Prop} (hk : sOwnL m used x k) :
    ∃ y used' fs, k y used' ∧ leaf y ∧ Own w (fun _ => False) y v fs ∧ Taken fp used used' fs := by
  unfold sOwnL at hk
  split at hk
  · rename_i u
    have := rv_val hx
    obtain ⟨rfl, hu⟩ := this
    exact ⟨_, _, [], hk, trivial, .rd _ _ (.val _ hu), Taken.nil used⟩
  · cases hx with
    | rd _ _ hr => cases hr with
      | e0 ad => exact ⟨_, _, [], hk, trivial, .rd _ _ (.e0 ad), Taken.nil used⟩
  · rename_i l ver i n
    obtain ⟨r1, r2⟩ := rv_ref hx
    unfold sOwnB at hk
    split at hk
    · rename_i v' sh deep xs hlk
      obtain ⟨rfl, rfl, rfl, ⟨h0, hn, hio, hnu⟩, hk⟩ := hk
      have hnil : n = 0 → (∃ ad, v = .slice ad 0 0) → ∃ y used' fs, k y used' ∧ leaf y ∧ Own w (fun _ => False) y v fs ∧ Taken fp used used' fs := by
        rintro rfl ⟨ad, rfl⟩
        exact ⟨_, _, [], hk, trivial, by rw [List.take_zero]; exact .rd _ _ (.nil sh ad), List.nodup_nil, fun _ hh => (by cases hh), fun _ hh => (by cases hh), fun _ hh => List.mem_cons_of_mem _ hh, fun l' hl' => by
          rcases List.mem_cons.1 hl' with rfl | hl'
          · exact .inr hio
          · exact .inl hl'⟩
      rcases h.mSome l _ hlk with ⟨hφ, hxs, _⟩ | ⟨b, cap, hφ, hbm, _, hown⟩
      · exact hnil (r2 hφ).1 (r2 hφ).2
      · obtain ⟨ad, cap', rfl, hcap, hc⟩ := r1 b sh hφ
        rcases hc with rfl | ⟨rfl, cs', e', hh', hs'⟩
        · have : n = 0 := by omega
          subst this
          exact hnil rfl ⟨_, rfl⟩
        · simp only [if_true] at hown
          obtain ⟨gs, g1, g2, cs, e, g3, g4⟩ := own_take hown hbm n hn
          rw [g3] at hh'
          injection hh' with hh'; injection hh' with e1
          subst e1
          rw [g4, Nat.zero_add] at hs'
          have : cap = cap' := Nat.eq_of_mul_eq_mul_right h0 hs'
          subst this
          refine ⟨_, _, gs, hk, trivial, by simpa using g1, g2.nodup (h.nod l), fun c hc => ⟨l, List.mem_cons_self .., g2.subset hc⟩, fun c hc l' hl' hcl => ?_, fun _ hh => List.mem_cons_of_mem _ hh, fun l' hl' => ?_⟩
          · have := h.dis l l' c (g2.subset hc) hcl
            subst this
            exact hnu hl'
          · rcases List.mem_cons.1 hl' with rfl | hl'
            · exact .inr hio
            · exact .inl hl'
    · exact hk.elim
  · exact hk.elim

theorem owns_gen {one : List Nat → AV → (AV → List Nat → Prop) → Prop} {ok : AV → Prop}
    (hone : ∀ (used : List Nat) (x : AV) (v : Value) (k : AV → List Nat → Prop), RV w S φ x v → one used x k → ∃ y used' fs, k y used' ∧ ok y ∧ Own w (fun _ => False) y v fs ∧ Taken fp used used' fs)
    {Q : List AV → List Nat → Prop} {many : List Nat → List AV → List AV → Prop} (hnil : ∀ used acc, many used acc [] → Q acc.reverse used) (hcons : ∀ used acc x r, many used acc (x :: r) → one used x fun y used' => many used' (y :: acc) r) :
    ∀ (xs : List AV) (vs : List Value) (used : List Nat) (acc : List AV), vs.length = xs.length → (∀ i (h : i < xs.length), RV w S φ xs[i] (vs.getD i Go.undef)) → many used acc xs →
      ∃ (ys : List AV) (used' : List Nat) (fss : List (List Nat)), Q (acc.reverse ++ ys) used' ∧ ys.length = xs.length ∧ fss.length = ys.length ∧ (∀ i (h : i < ys.length), ok ys[i] ∧ Own w (fun _ => False) ys[i] (vs.getD i Go.undef) (fss.getD i [])) ∧ Taken fp used used' fss.flatten
  | [], vs, used, acc, hv, _, hk => ⟨[], used, [], by simpa using hnil _ _ hk, rfl, rfl, fun i hi => absurd hi (Nat.not_lt_zero _), Taken.nil used⟩
  | x :: xs, vs, used, acc, hv, hr, hk => by
    cases vs with
    | nil => simp at hv
    | cons v vs =>
      obtain ⟨y, used1, fs, h1, h2, h3, h4⟩ := hone used x v _ (hr 0 (by simp)) (hcons _ _ _ _ hk)
      obtain ⟨ys, used2, fss, g1, g2, g3, g4, g5⟩ := owns_gen hone hnil hcons xs vs used1 (y :: acc) (by simpa using hv) (fun i hi => by have := hr (i + 1) (by simpa using hi); exact this) h1
      refine ⟨y :: ys, used2, fs :: fss, by simpa using g1, by simp [g2], by simp [g3], fun i hi => ?_, ?_⟩
      · cases i with
        | zero => exact ⟨h2, h3⟩
        | succ i => exact g4 i (by simpa using hi)
      · rw [List.flatten_cons]; exact h4.app g5

theorem ownA_out (h : RS B N φ fp S ts m a w) {used : List Nat} {x : AV} {v : Value} (hx : RV w S φ x v) {k : AV → List Nat → Prop} (hk : sOwnA m used x k) :
    ∃ y used' fs, k y used' ∧ True ∧ Own w (fun _ => False) y v fs ∧ Taken fp used used' fs := by
  cases x with
  | agg xs =>
    obtain ⟨cs, rfl, h1, h2, h3⟩ := rv_agg hx
    obtain ⟨ys, used', fss, g1, g2, g3, g4, g5⟩ := owns_gen (one := fun used x k => sOwnL m used x k) (ok := leaf) (Q := fun ys u => k (.agg ys) u) (many := fun used acc xs => sOwnLs m (fun ys u => k (.agg ys) u) used acc xs)
      (fun used x v k hx hk => ownL_out h hx hk) (fun _ _ h => h) (fun _ _ _ _ h => h) xs cs.toList used [] (by simpa using h1) h3 hk
    exact ⟨.agg ys, used', fss.flatten, by simpa using g1, trivial, .agg ys cs fss (h1.trans g2.symm) (fun i hi => (g4 i hi).1) g3 (fun i hi => (g4 i hi).2), g5⟩
  | _ =>
    obtain ⟨y, used', fs, g1, _, g3, g4⟩ := ownL_out h hx hk
    exact ⟨y, used', fs, g1, trivial, g3, g4⟩

theorem ownAs_out (h : RS B N φ fp S ts m a w) {xs : List AV} {vs : List Value} (hl : vs.length = xs.length) (hx : ∀ i (h : i < xs.length), RV w S φ xs[i] (vs.getD i Go.undef)) {k : List AV → Prop} (hk : sOwnAs m k [] [] xs) :
    ∃ (ys : List AV) (fss : List (List Nat)), k ys ∧ ys.length = xs.length ∧ fss.length = ys.length ∧ (∀ i (h : i < ys.length), Own w (fun _ => False) ys[i] (vs.getD i Go.undef) (fss.getD i [])) ∧ fss.flatten.Nodup ∧ ∀ b, b ∈ fss.flatten → ∃ l, l < ioL ∧ b ∈ fp l := by
  obtain ⟨ys, used', fss, g1, g2, g3, g4, g5⟩ := owns_gen (one := fun used x k => sOwnA m used x k) (ok := fun _ => True) (Q := fun ys _ => k ys) (many := fun used acc xs => sOwnAs m k used acc xs)
      (fun used x v k hx hk => ownA_out h hx hk) (fun _ _ h => h) (fun _ _ _ _ h => h) xs vs [] [] hl hx hk
  refine ⟨ys, fss, by simpa using g1, g2, g3, fun i hi => (g4 i hi).2, g5.nod, fun b hb => ?_⟩
  obtain ⟨l, hl, hbl⟩ := g5.mem b hb
  rcases g5.lo l hl with hh | hh
  · cases hh
  · exact ⟨l, hh, hbl⟩

theorem mkRes_out {ys : List AV} {vs : List Value} {fss : List (List Nat)} (hl : vs.length = ys.length) (hf : fss.length = ys.length) (hv : ∀ i (h : i < ys.length), Own w (fun _ => False) ys[i] (vs.getD i Go.undef) (fss.getD i [])) :
    Own w (fun _ => False) (mkRes ys) (if h : vs.toArray.size = 1 then vs.toArray[0] else .tuple vs.toArray) fss.flatten := by
  match ys, vs, fss, hl, hf, hv with
  | [], [], [], _, _, _ => exact .rd _ _ (.tup [] #[] rfl fun i hi => absurd hi (Nat.not_lt_zero _))
  | [y], [v], [f], _, _, hv => simpa [mkRes] using hv 0 (by simp)
  | y :: y' :: r, v :: v' :: r', f :: f' :: r'', hl, hf, hv =>
    have : ¬ ((v :: v' :: r').toArray.size = 1) := by simp
    rw [dif_neg this]
    exact .tup _ _ _ (by simpa using hl) hf (by simpa using hv)

theorem look_argsE : ∀ (xs : List AV) (i t : Nat), look (argsE i xs) t = if i ≤ t then (xs[t - i]?).getD .undef else .undef
  | [], i, t => by simp [argsE, look]
  | x :: r, i, t => by
    rw [argsE, look_cons, look_argsE r (i + 1) t]
    by_cases h : i = t
    · subst h; simp
    · by_cases h2 : i ≤ t
      · have h3 : i + 1 ≤ t := by omega
        rw [if_neg h, if_pos h3, if_pos h2, show t - i = (t - (i + 1)) + 1 by omega, List.getElem?_cons_succ]
      · rw [if_neg h, if_neg (by omega), if_neg h2]
end

theorem Fn.of_vc' {P : Program} {f : FuncId} {fn : Func} {c : Code} {args : List AV} {post : AV → Prop} (hf : P.funcs[f]? = some fn) (hn : (fn.name == "runtime.NumGoroutine") = false) (hb : fn.body = some c)
    (hok : codeOk fn.ntmps c = true) (ha : args.length ≤ fn.ntmps) (hv : vc P fn.ntmps c (argsE 0 args) [] (fin P fn.results.toList post)) : Fn P f args true post := by
  refine ⟨⟨fn, c, hf, hn, hb⟩, fun w S vs hS hkon hsz hrd => ?_⟩
  refine calls_of_wp hf hb ?_
  have hRS : RS ⟨w, fun _ _ => False, fun _ => True, fun _ => .dead, []⟩ fn.ntmps (fun _ => .dead) (fun _ => []) (fun b => b < w.heap.size) (argsE 0 args) [] { tmps := vs ++ Array.replicate (fn.ntmps - vs.size) undef, defers := [] } w := by
    have hx : ∀ i (h : i < args.length), Rd w (fun b => b < w.heap.size) args[i] (vs.toList.getD i Go.undef) := fun i h => (hrd i h).mono (fun _ _ => rfl) hS
    have hlook : ∀ t, (look (argsE 0 args) t = .undef ∨ ∃ h : t < args.length, look (argsE 0 args) t = args[t]) := by
      intro t
      rw [look_argsE]
      by_cases h : t < args.length
      · exact .inr ⟨h, by simp [h]⟩
      · exact .inl (by simp [h])
    refine { tm := fun t => ?_, tl := fun t l ver hl => ?_, mNone := fun _ _ => ⟨rfl, rfl⟩, mSome := fun l k hk => (by cases hk), bl := fun l v xs hk => (by cases hk), nod := fun _ => List.nodup_nil,
             dis := fun _ _ _ h => (by cases h), notS := fun _ _ h => (by cases h), fpB := fun _ _ h => (by cases h), sB := fun b hb => ⟨hb, .inr trivial⟩, base := fun b hb _ => rfl, out := SameOut.refl _, szs := Szs.refl _, kn := fun _ _ _ hk => hk, fix := fun _ _ _ _ => LS.le_refl _ _,
             size := Nat.le_refl _, defers := rfl, tsz := by simp; omega, kon := hkon.mono (fun _ _ => rfl) hS }
    · rcases hlook t with e | ⟨h, e⟩
      · rw [e]; exact .rd _ _ (.undef _)
      · rw [e]
        have h1 := hx t h
        have : vs.toList.getD t Go.undef = (vs ++ Array.replicate (fn.ntmps - vs.size) undef).getD t Go.undef := by
          have h2 : t < vs.size := by omega
          simp only [Array.getD_eq_getD_getElem?, List.getD_eq_getElem?_getD, Array.getElem?_toList]
          rw [Array.getElem?_append_left h2]
        rw [← this]
        exact .rd _ _ h1
    · rcases hlook t with e | ⟨h, e⟩
      · rw [e] at hl; cases hl
      · rw [e, labs_rd (hx t h)] at hl; cases hl
  have hend : ∀ a' w', Done ⟨w, fun _ _ => False, fun _ => True, fun _ => .dead, []⟩ fn.ntmps (fun ts m => sResults P (fun xs => sOwnAs m (fun ys => post (mkRes ys)) [] [] xs) fn.results.toList ts m []) a' w' →
      a'.defers = [] ∧ ∃ v, (results fn a'.tmps).run P w' = .ok v w' ∧ ∃ r v', Ending.returned v = .returned v' ∧ post r ∧ Grown w w' ∧ FnRes w w' S true r v' := by
    rintro a' w' ⟨φ', fp', S', ts', m', h', hk⟩
    refine ⟨h'.defers, ?_⟩
    obtain ⟨xs, us, h1, h2, h3, _⟩ := results_out h' fn.results.toList [] [] ⟨rfl, fun i hi => absurd hi (Nat.not_lt_zero _)⟩ hk
    obtain ⟨h3a, h3b⟩ := h3
    simp only [List.nil_append] at h3a h3b
    obtain ⟨ys, fss, g1, g2, g3, g4, g5, g6⟩ := ownAs_out h' h3a h3b h1
    refine ⟨if h : us.toArray.size = 1 then us.toArray[0] else .tuple us.toArray, ?_, mkRes ys, _, rfl, g1, ⟨h'.size, fun b hb => h'.base b hb (fun _ h => h), h'.out⟩, ?_⟩
    · have hm : results fn a'.tmps = (do let vs ← fn.results.mapM (resOne a'.tmps); pure (if h : vs.size = 1 then vs[0] else .tuple vs)) := by
        unfold results
        congr 1
      rw [hm, Sem.run_bind, Array.mapM_eq_mapM_toList]
      have : (List.toArray <$> fn.results.toList.mapM (resOne a'.tmps) : Sem (Array Value)).run P w' = .ok us.toArray w' := by
        rw [map_eq_pure_bind, Sem.run_bind, h2]; rfl
      rw [this]; rfl
    · refine ⟨fss.flatten, mkRes_out (h3a.trans g2.symm) g3 g4, g5, fun b hb => ?_⟩
      obtain ⟨l, hl, hbl⟩ := g6 b hb
      rcases (h'.fpB l b hbl).2 with hh | ⟨_, hh, _⟩
      · exact hh
      · exact hh.elim
  refine wp_mono (vc_sound c _ _ _ hok hv _ _ _ _ _ _ hRS) ?_
  intro e a' w' hq
  cases e with
  | normal => exact hend a' w' hq
  | ret => exact hend a' w' hq
  | _ => obtain ⟨_, _, _, _, _, _, hh⟩ := hq; exact hh.elim
theorem Fn.of_vc {P : Program} {f : FuncId} {fn : Func} {c : Code} {args : List AV} {post : AV → Prop} (N : Nat) (rs : List ResultVar) (hf : P.funcs[f]? = some fn) (hN : fn.ntmps = N) (hr : fn.results.toList = rs) (hn : (fn.name == "runtime.NumGoroutine") = false)
    (hb : fn.body = some c) (hok : codeOk N c = true) (ha : args.length ≤ N) (hv : vc P N c (argsE 0 args) [] (fin P rs post)) : Fn P f args true post := by
  subst hN; subst hr; exact Fn.of_vc' hf hn hb hok ha hv
end Go.Vc


