/-
  Structs and slices that are built; addresses; small operations.
-/
import Derived.Test.YtlelhmbhhnokoaaDoorVcMisc
set_option linter.unusedVariables false
set_option linter.unusedSimpArgs false
set_option linter.unnecessarySimpa false
namespace Go.Vc

def setV (cs : List Value) (j : Nat) : List Value → List Value
  | [] => cs
  | v :: vs => setV (cs.set j v) (j + 1) vs
theorem setV_length (vs : List Value) : ∀ (cs : List Value) (j : Nat), (setV cs j vs).length = cs.length := by
  induction vs with
  | nil => intro cs j; rfl
  | cons v r ih => intro cs j; simp only [setV]; rw [ih, List.length_set]
theorem RL.set {R : AV → Value → Prop} {xs : List AV} {cs : List Value} (h : RL R xs cs) (j : Nat) {y : AV} {v : Value} (hy : leaf y) (hv : R y v) : RL R (xs.set j y) (cs.set j v) := by
  refine ⟨by rw [List.length_set, List.length_set]; exact h.1, fun i hi => ?_, fun i hi => ?_⟩
  · rw [List.length_set] at hi
    rw [List.getElem_set]
    split
    · exact hy
    · exact h.2.1 i hi
  · rw [List.length_set] at hi
    have hi' : i < cs.length := by rw [h.1]; exact hi
    rw [List.getElem_set, List.getD_eq_getElem?_getD, List.getElem?_set]
    split
    · rename_i e; subst e; simpa [hi'] using hv
    · simpa [List.getD_eq_getElem?_getD] using h.2.2 i hi
theorem RL.setV {R : AV → Value → Prop} : ∀ (ys : List AV) (vs : List Value) (xs : List AV) (cs : List Value) (j : Nat), RL R xs cs → RL R ys vs → RL R (setL xs j ys) (Vc.setV cs j vs)
  | [], vs, xs, cs, j, h, h' => by
    have : vs = [] := List.eq_nil_of_length_eq_zero h'.1
    subst this; exact h
  | y :: ys, vs, xs, cs, j, h, h' => by
    cases vs with
    | nil => have := h'.1; simp at this
    | cons v vs =>
      refine RL.setV ys vs _ _ (j + 1) (h.set j (h'.2.1 0 (by simp)) (by have := h'.2.2 0 (by simp); exact this)) ⟨by simpa using h'.1, fun i hi => ?_, fun i hi => ?_⟩
      · have := h'.2.1 (i + 1) (by simpa using hi); exact this
      · have := h'.2.2 (i + 1) (by simpa using hi); exact this

theorem fold_set (l : List Value) (off : Nat) : ∀ (k : Nat) (cs : Array Value), ((l.zipIdx k).foldl (fun cs (c, j) => cs.setIfInBounds (off + j) c) cs).toList = setV cs.toList (off + k) l := by
  induction l with
  | nil => intro k cs; rfl
  | cons v r ih =>
    intro k cs
    simp only [List.zipIdx_cons, List.foldl_cons, setV]
    rw [ih, Array.toList_setIfInBounds, Nat.add_assoc]

theorem fold_setA (vs cs : Array Value) (off : Nat) : (vs.zipIdx.foldl (fun cs (c, j) => cs.setIfInBounds (off + j) c) cs).toList = setV cs.toList off vs.toList := by
  have := fold_set vs.toList off 0 cs
  rw [← Array.foldl_toList, Array.toList_zipIdx]
  simpa using this

/-- the cells of a struct with parts laid -/
def sFill (fs : List (Nat × Nat × Bool)) (cells : List AV) (k : List AV → Prop) : List (Nat × AV) → Prop
  | [] => k cells
  | (i, x) :: r => sFld fs[i]? fun fd => sCells x fun ys => ys.length = fd.2.1 ∧ fd.1 + ys.length ≤ cells.length ∧ sFill fs (setL cells fd.1 ys) k r
theorem sFill_nil (fs : List (Nat × Nat × Bool)) (cells : List AV) (k : List AV → Prop) : sFill fs cells k [] = k cells := rfl
theorem sFill_cons (fs : List (Nat × Nat × Bool)) (cells : List AV) (k : List AV → Prop) (i : Nat) (x : AV) (r : List (Nat × AV)) :
    sFill fs cells k ((i, x) :: r) = sFld fs[i]? fun fd => sCells x fun ys => ys.length = fd.2.1 ∧ fd.1 + ys.length ≤ cells.length ∧ sFill fs (setL cells fd.1 ys) k r := rfl
def sBuild (ti : TI) (parts : List (Nat × AV)) (k : AV → Prop) : Prop := sCells ti.zero fun zs => sFill ti.fields zs (fun cs => k (.agg cs)) parts
theorem sBuild_eq (ti : TI) (parts : List (Nat × AV)) (k : AV → Prop) : sBuild ti parts k = sCells ti.zero fun zs => sFill ti.fields zs (fun cs => k (.agg cs)) parts := rfl

/-- the elements of a slice literal -/
def sFillR (sh : Sh) (xs : List AV) (k : List AV → Prop) : List (Nat × AV) → Prop
  | [] => k xs
  | (i, x) :: r => i < xs.length ∧ fits sh x ∧ labs x = [] ∧ sFillR sh (xs.set i x) k r
theorem sFillR_nil (sh : Sh) (xs : List AV) (k : List AV → Prop) : sFillR sh xs k [] = k xs := rfl
theorem sFillR_cons (sh : Sh) (xs : List AV) (k : List AV → Prop) (i : Nat) (x : AV) (r : List (Nat × AV)) : sFillR sh xs k ((i, x) :: r) = (i < xs.length ∧ fits sh x ∧ labs x = [] ∧ sFillR sh (xs.set i x) k r) := rfl
def sBuildSlice (ti : TI) (d n : Nat) (parts : List (Nat × AV)) (m : Mem) (k : AV → Mem → Prop) : Prop :=
  (n * ti.size ≤ 16777216 ∧ n ≤ 16777216 ∧ fits ti.sh ti.zero) ∧ sFillR ti.sh (List.replicate n ti.zero) (fun xs => k (.ref d (newVer m d) 0 n) ((d, .row (newVer m d) ti.sh (isFlatL xs) xs) :: m)) parts
theorem sBuildSlice_eq (ti : TI) (d n : Nat) (parts : List (Nat × AV)) (m : Mem) (k : AV → Mem → Prop) : sBuildSlice ti d n parts m k =
  ((n * ti.size ≤ 16777216 ∧ n ≤ 16777216 ∧ fits ti.sh ti.zero) ∧ sFillR ti.sh (List.replicate n ti.zero) (fun xs => k (.ref d (newVer m d) 0 n) ((d, .row (newVer m d) ti.sh (isFlatL xs) xs) :: m)) parts) := rfl

theorem labs_val (v : Value) : labs (.val v) = [] := rfl
theorem labs_e0 : labs .e0 = [] := rfl
theorem labs_arr (sh : Sh) (xs : List AV) : labs (.arr sh xs) = [] := rfl
theorem labs_eptr (sh : Sh) (xs : List AV) (i j : Nat) : labs (.eptr sh xs i j) = [] := rfl
theorem labs_agg (xs : List AV) : labs (.agg xs) = labsL xs := rfl
theorem labs_ref (l v i n : Nat) : labs (.ref l v i n) = [(l, v)] := rfl
theorem labs_ptr (l v i n : Nat) : labs (.ptr l v i n) = [(l, v)] := rfl
theorem labsL_nil : labsL [] = [] := rfl
theorem labsL_cons (x : AV) (r : List AV) : labsL (x :: r) = labs x ++ labsL r := rfl

section
variable {P : Program} {B : Base} {N : Nat} {φ : Nat → LS} {fp : Nat → List Nat} {S : Nat → Prop} {ts : Env} {m : Mem} {a : Act} {w : World}

theorem labs_nil_get {xs : List AV} (h : labsL xs = []) : ∀ i (hi : i < xs.length), labs xs[i] = [] := by
  intro i hi
  apply List.eq_nil_iff_forall_not_mem.2
  intro l hl
  have := mem_labsL hi hl
  rw [h] at this; cases this

theorem rd_of_rv {x : AV} {v : Value} (h : RV w S φ x v) (hl : labs x = []) : Rd w S x v := by
  induction h with
  | rd x v h => exact h
  | agg xs cs h1 h2 _ ih => exact .agg xs cs h1 h2 fun i hi => ih i hi (labs_nil_get (by simpa [labs] using hl) i hi)
  | tup xs cs h1 _ ih => exact .tup xs cs h1 fun i hi => ih i hi (labs_nil_get (by simpa [labs] using hl) i hi)
  | clo f xs cs h1 _ ih => exact .clo f xs cs h1 fun i hi => ih i hi (labs_nil_get (by simpa [labs] using hl) i hi)
  | ref => simp [labs] at hl
  | ptr => simp [labs] at hl

/-- Parts and their abstract values. -/
def PR (R : AV → Value → Prop) : List (Nat × AV) → List (Nat × Value) → Prop
  | [], [] => True
  | (i, x) :: r, (j, v) :: s => i = j ∧ R x v ∧ PR R r s
  | _, _ => False

theorem PR_map (h : RS B N φ fp S ts m a w) (l : List (Nat × Operand)) : PR (RV w S φ) (l.map fun p => (p.1, Vc.ev ts p.2)) (l.map fun p => (p.1, a.eval p.2)) := by
  induction l with
  | nil => trivial
  | cons p r ih => exact ⟨rfl, h.ev p.2, ih⟩

theorem sFill_out {fs : List Field} {Q : List AV → Prop} : ∀ (parts : List (Nat × AV)) (vparts : List (Nat × Value)) (cells : List AV) (cs : Array Value), PR (RV w S φ) parts vparts → RL (RV w S φ) cells cs.toList →
    (∀ l, l ∈ labsL cells → known m l.1 l.2) → (∀ p, p ∈ parts → ∀ l, l ∈ labs p.2 → known m l.1 l.2) →
    sFill (fs.map fun f => (f.offset, sizeOf' P f.type, aggOf P f.type)) cells Q parts →
    ∃ cells' cs', Q cells' ∧ Instr.fill ((fs.map fun f => (f.offset, sizeOf' P f.type)).toArray[·]?) cs vparts = some cs' ∧ RL (RV w S φ) cells' cs'.toList ∧ ∀ l, l ∈ labsL cells' → known m l.1 l.2
  | [], vparts, cells, cs, hp, hr, hl, _, hk => by
    cases vparts with
    | nil => exact ⟨cells, cs, hk, rfl, hr, hl⟩
    | cons => exact hp.elim
  | (i, x) :: r, vparts, cells, cs, hp, hr, hl, hpl, hk => by
    cases vparts with
    | nil => exact hp.elim
    | cons q s =>
      obtain ⟨j, v⟩ := q
      obtain ⟨rfl, hx, hp⟩ := hp
      simp only [sFill, List.getElem?_map] at hk
      cases hf : fs[i]? with
      | none => rw [hf] at hk; exact hk.elim
      | some f =>
        rw [hf] at hk
        simp only [Option.map_some, sFld] at hk
        obtain ⟨ys, ⟨h1, h2, hk⟩, hrl, hlab, hone⟩ := hx.cells hk
        have hsp := RL.setV ys v.cells.toList cells cs.toList f.offset hr hrl
        have hnew : ∀ l, l ∈ labsL (setL cells f.offset ys) → known m l.1 l.2 := by
          intro l hl'
          obtain ⟨q, hq, hl2⟩ := of_mem_labsL hl'
          have hg := setL_getElem? ys cells f.offset q h2
          rw [List.getElem?_eq_getElem hq] at hg
          split at hg
          · obtain ⟨g1, g2⟩ := List.getElem?_eq_some_iff.1 hg.symm
            exact hpl (i, x) (List.mem_cons_self ..) l (hlab _ (mem_labsL g1 (g2 ▸ hl2)))
          · obtain ⟨g1, g2⟩ := List.getElem?_eq_some_iff.1 hg.symm
            exact hl l (mem_labsL g1 (g2 ▸ hl2))
        have hvl : v.cells.size = ys.length := by simpa using hrl.1
        obtain ⟨cells', cs', g1, g2, g3, g4⟩ := sFill_out r s _ (v.cells.zipIdx.foldl (fun cs (c, j) => cs.setIfInBounds (f.offset + j) c) cs) hp (by rw [fold_setA]; exact hsp) hnew (fun p hp => hpl p (List.mem_cons_of_mem _ hp)) hk
        refine ⟨cells', cs', g1, ?_, g3, g4⟩
        have hcl : cs.size = cells.length := by simpa using hr.1
        have e1 : (fs.map fun f => (f.offset, sizeOf' P f.type)).toArray[i]? = some (f.offset, sizeOf' P f.type) := by simp [hf]
        simp only [Instr.fill, e1]
        rw [if_neg (by simp; omega)]
        exact g2

theorem places_of {fs : List Field} (h : ∀ f, f ∈ fs → (P.info? f.type).isSome) : fs.mapM (fun f => (P.info? f.type).map fun i => (f.offset, i.size)) = some (fs.map fun f => (f.offset, sizeOf' P f.type)) := by
  induction fs with
  | nil => rfl
  | cons f r ih =>
    have h1 := h f (List.mem_cons_self ..)
    obtain ⟨i, hi⟩ := Option.isSome_iff_exists.1 h1
    simp [List.mapM_cons, hi, ih fun f hf => h f (List.mem_cons_of_mem _ hf), sizeOf']

/-- All field types of a struct are known. -/
def fieldsOk (P : Program) (t : TypeId) : Prop := ∀ fs, P.underlying t = some (.struct fs) → ∀ f, f ∈ fs.toList → (P.info? f.type).isSome

theorem run_build' {t : TypeId} {ti : TI} (ht : tiOf P t = some ti) (hks : ti.kind = .struct) (hfo : fieldsOk P t) (h : RS B N φ fp S ts m a w) {parts : List (Nat × AV)} {vparts : List (Nat × Value)} (hp : PR (RV w S φ) parts vparts)
    (hpl : ∀ p, p ∈ parts → ∀ l, l ∈ labs p.2 → known m l.1 l.2) {k : AV → Prop} (hk : sBuild ti parts k) :
    Runs B N a (fun x ts' m' => ts' = ts ∧ m' = m ∧ k x) ((Instr.build t vparts.toArray).run P w) := by
  obtain ⟨inf, dd, z, hi, hd, hz, hag, hsz, hby, hzz, hff, _, hkk⟩ := kind_of ht
  rw [hks] at hkk
  obtain ⟨fs, rfl⟩ : ∃ fs, dd = .struct fs := by cases dd <;> simp at hkk <;> exact ⟨_, rfl⟩
  simp only at hff
  unfold sBuild at hk
  rw [hzz, hff] at hk
  obtain ⟨zs, hk, hrl, hlab, hone⟩ := RV.cells (φ := φ) (S := S) (w := w) (.rd _ _ (rd_cAV z)) hk
  obtain ⟨cells', cs', g1, g2, g3, g4⟩ := sFill_out (P := P) parts vparts zs z.cells hp hrl (fun l hl => by have := hlab l hl; rw [labs_cAV] at this; cases this) hpl hk
  have hb : P.built t vparts = some cs' := by
    unfold Program.built
    simp only [hi, hd, hz, places_of (hfo fs hd), g2]
  refine ⟨_, w, run_build w t vparts.toArray cs' (by simpa using hb), h.gives (x := .agg cells') (.agg _ _ (by simpa using g3.1) g3.2.1 g3.2.2) (fun l ver hl => g4 (l, ver) (by simpa [labs] using hl)) ⟨rfl, rfl, g1⟩⟩

theorem fill_row {sh : Sh} {Q : List AV → Prop} : ∀ (parts : List (Nat × AV)) (vparts : List (Nat × Value)) (xs : List AV) (cs : Array Value), PR (RV w S φ) parts vparts → cs.size = xs.length * sh.sz →
    (∀ i (hi : i < xs.length), fits sh xs[i]) → (∀ i (hi : i < xs.length), Rd w S xs[i] (elemV cs.toList (i * sh.sz) sh)) → sFillR sh xs Q parts →
    ∃ xs' cs', Q xs' ∧ Instr.fill (fun i => some (i * sh.sz, sh.sz)) cs vparts = some cs' ∧ cs'.size = xs'.length * sh.sz ∧ xs'.length = xs.length ∧ (∀ i (hi : i < xs'.length), fits sh xs'[i]) ∧
      (∀ i (hi : i < xs'.length), Rd w S xs'[i] (elemV cs'.toList (i * sh.sz) sh))
  | [], vparts, xs, cs, hp, hs, hf, hr, hk => by
    cases vparts with
    | nil => exact ⟨xs, cs, hk, rfl, hs, rfl, hf, hr⟩
    | cons => exact hp.elim
  | (i, x) :: r, vparts, xs, cs, hp, hs, hf, hr, hk => by
    cases vparts with
    | nil => exact hp.elim
    | cons q s =>
      obtain ⟨j, v⟩ := q
      obtain ⟨rfl, hx, hp⟩ := hp
      obtain ⟨hi, hfx, hlx, hk⟩ := hk
      have hrx := rd_of_rv hx hlx
      have hroom := mul_le_of_lt (s := sh.sz) hi
      -- the cells of the part
      have hvc : v.cells.toList.length = sh.sz ∧ ∀ l : List Value, i * sh.sz + sh.sz ≤ l.length → elemV (setV l (i * sh.sz) v.cells.toList) (i * sh.sz) sh = v ∧ ∀ i', i' ≠ i → i' * sh.sz + sh.sz ≤ l.length → elemV (setV l (i * sh.sz) v.cells.toList) (i' * sh.sz) sh = elemV l (i' * sh.sz) sh := by
        have sget : ∀ (vs l : List Value) (o k : Nat), o + vs.length ≤ l.length → (setV l o vs).getD k Go.undef = if o ≤ k ∧ k < o + vs.length then vs.getD (k - o) Go.undef else l.getD k Go.undef := by
          intro vs
          induction vs with
          | nil => intro l o k _; simp only [setV, List.length_nil]; rw [if_neg (by omega)]
          | cons u us ih =>
            intro l o k h
            simp only [List.length_cons] at h ⊢
            simp only [setV]
            rw [ih _ _ _ (by rw [List.length_set]; omega)]
            by_cases hk : k = o
            · subst hk
              rw [if_neg (by omega), if_pos (by omega), Nat.sub_self]
              simp [List.getD_eq_getElem?_getD, show k < l.length by omega]
            · by_cases hk2 : o + 1 ≤ k ∧ k < o + 1 + us.length
              · rw [if_pos hk2, if_pos (by omega), show k - o = (k - (o + 1)) + 1 by omega]; simp [List.getD_eq_getElem?_getD]
              · rw [if_neg hk2, if_neg (by omega)]
                simp [List.getD_eq_getElem?_getD, Ne.symm hk]
        have hsz1 := fits_sz hfx
        have main : v.cells.toList.length = sh.sz → (∀ l : List Value, l = v.cells.toList → elemV l 0 sh = v) → v.cells.toList.length = sh.sz ∧ ∀ l : List Value, i * sh.sz + sh.sz ≤ l.length → elemV (setV l (i * sh.sz) v.cells.toList) (i * sh.sz) sh = v ∧ ∀ i', i' ≠ i → i' * sh.sz + sh.sz ≤ l.length → elemV (setV l (i * sh.sz) v.cells.toList) (i' * sh.sz) sh = elemV l (i' * sh.sz) sh := by
          intro hl hv
          refine ⟨hl, fun l hll => ⟨?_, fun i' hi' hll' => ?_⟩⟩
          · refine (elemV_ext (l' := v.cells.toList) (o' := 0) (by rw [setV_length]; exact hll) (by omega) hsz1 fun c hc => ?_).trans (hv _ rfl)
            rw [sget _ _ _ _ (by omega), if_pos (by omega)]
            congr 1; omega
          · refine elemV_ext (by rw [setV_length]; exact hll') hll' hsz1 fun c hc => ?_
            rw [sget _ _ _ _ (by omega), if_neg]
            rcases Nat.lt_or_gt_of_ne hi' with hlt | hgt
            · have := mul_le_of_lt (s := sh.sz) hlt; omega
            · have := mul_le_of_lt (s := sh.sz) hgt; omega
        have one : leaf x → sh.ag = false ∧ sh.sz = 1 → v.cells.toList.length = sh.sz ∧ ∀ l : List Value, i * sh.sz + sh.sz ≤ l.length → elemV (setV l (i * sh.sz) v.cells.toList) (i * sh.sz) sh = v ∧ ∀ i', i' ≠ i → i' * sh.sz + sh.sz ≤ l.length → elemV (setV l (i * sh.sz) v.cells.toList) (i' * sh.sz) sh = elemV l (i' * sh.sz) sh := by
          rintro hlf ⟨hag, hs1⟩
          have h1 := hrx.leaf_oneCell hlf
          have hc1 := cells_single h1
          exact main (by rw [hc1, hs1]; rfl) fun l hl => by rw [hl, hc1]; simp only [elemV, hag, Bool.false_eq_true, if_false]; rfl
        cases x with
        | agg zs =>
          obtain ⟨hag, hzl⟩ := hfx
          obtain ⟨cz, rfl, h1, h2, h3⟩ := rd_agg hrx
          have hlen : (Value.agg cz).cells.toList.length = sh.sz := by simpa [Value.cells] using h1.trans hzl
          refine main hlen fun l hl => ?_
          rw [hl]
          simp only [elemV, hag, if_true, List.drop_zero, Value.cells]
          rw [List.take_of_length_le (by simp only [Value.cells] at hlen; omega)]
        | undef => exact hfx.elim
        | tup xs => exact hfx.elim
        | _ => exact one trivial hfx
      have hcl : i * sh.sz + sh.sz ≤ cs.toList.length := by simp only [Array.length_toList, hs]; exact hroom
      obtain ⟨hv1, hv2⟩ := hvc.2 cs.toList hcl
      have e0 : (v.cells.zipIdx.foldl (fun cs (c, j) => cs.setIfInBounds (i * sh.sz + j) c) cs).toList = setV cs.toList (i * sh.sz) v.cells.toList := fold_setA _ _ _
      obtain ⟨xs', cs', g1, g2, g3, g4, g5, g6⟩ := fill_row r s (xs.set i x) (v.cells.zipIdx.foldl (fun cs (c, j) => cs.setIfInBounds (i * sh.sz + j) c) cs) hp
        (by rw [List.length_set, ← hs, ← Array.length_toList, e0, setV_length, Array.length_toList])
        (fun q hq => by
          rw [List.length_set] at hq; rw [List.getElem_set]
          split
          · exact hfx
          · exact hf q hq)
        (fun q hq => by
          rw [List.length_set] at hq; rw [List.getElem_set, e0]
          by_cases hqi : i = q
          · subst hqi; rw [if_pos rfl, hv1]; exact hrx
          · rw [if_neg hqi, hv2 q (Ne.symm hqi) (by simp only [Array.length_toList, hs]; exact mul_le_of_lt hq)]; exact hr q hq) hk
      refine ⟨xs', cs', g1, ?_, g3, by rw [g4, List.length_set], g5, g6⟩
      have hsz : v.cells.size = sh.sz := by simpa using hvc.1
      simp only [Instr.fill]
      rw [if_neg (by simp; omega)]
      exact g2

theorem run_buildSlice' {t : TypeId} {tt ti : TI} (htt : tiOf P t = some tt) (hks : tt.kind = .slice) (ht : tiOf P tt.elem = some ti) (h : RS B N φ fp S ts m a w) {parts : List (Nat × AV)} {vparts : List (Nat × Value)} (hp : PR (RV w S φ) parts vparts) (d n : Nat)
    {k : AV → Mem → Prop} (hk : sBuildSlice ti d n parts m k) : Runs B N a (fun x ts' m' => ts' = ts ∧ k x m') ((Instr.buildSlice t n vparts.toArray).run P w) := by
  obtain ⟨⟨hlim, hnl, hzf⟩, hk⟩ := hk
  obtain ⟨inf, dd, z, hi, hd, hz, hag, hsz, hby, hzz, _⟩ := kind_of ht
  obtain ⟨hzs, hzr, hzfl⟩ := zero_cells hzz hzf
  have hsl := kind_slice htt hks
  obtain ⟨xs', cs', g1, g2, g3, g4, g5, g6⟩ := fill_row (w := w) (S := S) (φ := φ) parts vparts (List.replicate n ti.zero) (madeCells z.cells (n * ti.size)) hp (by rw [size_madeCells, List.length_replicate]; rfl)
    (fun i hi => by simp only [List.getElem_replicate]; exact hzf)
    (fun i hi => by
      simp only [List.length_replicate] at hi
      simp only [List.getElem_replicate]
      have e2 : elemV (madeCells z.cells (n * ti.size)).toList (i * ti.sh.sz) ti.sh = elemV z.cells.toList 0 ti.sh := by
        refine elemV_ext ?_ ?_ (fits_sz hzf) fun cc hcc => ?_
        · simp only [Array.length_toList, size_madeCells]; exact mul_le_of_lt (s := ti.size) hi
        · simp only [Array.length_toList, hzs]; show 0 + ti.size ≤ ti.size; omega
        · rw [Nat.zero_add]; exact madeCells_getD z.cells n i cc ti.size hzs hcc hi
      rw [e2]; exact hzr _ _) hk
  rw [List.length_replicate] at g4
  have hrun : (Instr.buildSlice t n vparts.toArray).run P w = .ok (.slice (some ⟨w.heap.size, 0, none⟩) n n) (w.alloc (.cells cs' tt.elem)) := by
    have h1 : ¬ (n * inf.size > 2 ^ 24) := by rw [← hsz]; omega
    have g2' : Instr.fill (fun i => some (i * inf.size, inf.size)) (madeCells z.cells (n * ti.size)) vparts = some cs' := by rw [← hsz]; exact g2
    rw [hsz] at g2'
    by_cases h0 : n * inf.size = 0
    · have e0 : madeCells z.cells (n * inf.size) = #[] := by rw [h0]; simp [madeCells]
      rw [e0] at g2'
      have er : (Array.range 0).map (fun _ => (default : Value)) = #[] := by simp
      simp [Instr.buildSlice, run_underlying hsl, sizeOf, typeInfo, hi, h0, newRow]
      rw [er, g2']
      simp
    · have e0 : (Array.range (n * inf.size)).map (fun x => z.cells[x % z.cells.size]!) = madeCells z.cells (n * inf.size) := rfl
      simp [Instr.buildSlice, run_underlying hsl, sizeOf, typeInfo, hi, h0, newRow, zeroValue, hz, e0, g2']
      omega
  refine ⟨_, _, hrun, ?_⟩
  have hRS := h.alloc d ti.sh (.row (newVer m d) ti.sh (isFlatL xs') xs') cs' tt.elem rfl
    (.inr ⟨w.heap.size, n, upd_same _ _ _, by simp, fun _ => rfl, by
      have e : [w.heap.size] = w.heap.size :: (List.replicate xs'.length ([] : List Nat)).flatten := by
        congr 1
        exact (List.flatten_eq_nil_iff.2 fun l hl => (List.mem_replicate.1 hl).2).symm
      rw [e]
      have hnm : n ≤ maxLen := by unfold maxLen; omega
      refine .arr _ _ _ _ cs' tt.elem _ (new_at w _) (by rw [g3, g4]) (by omega) hnm g5 (by simp) fun q hq => ?_
      have e1 : (List.replicate xs'.length ([] : List Nat)).getD q [] = [] := by simp [List.getD_eq_getElem?_getD, hq]
      rw [e1]
      have hq6 := (g6 q hq).mono (w' := w.alloc (.cells cs' tt.elem)) (fun c hc => old w _ c (h.sB c hc).1) (fun _ h => h)
      cases hfl : isFlatL xs' with
      | true => exact .rd _ _ (flat_rd (fs := []) (.rd _ _ hq6) (isFlatL_get hfl q hq)).1
      | false => exact .rd _ _ hq6⟩)
    (fun _ _ hx => by cases hx)
  refine hRS.gives (x := .ref d (newVer m d) 0 n) ?_ ?_ ⟨rfl, g1⟩
  · refine .ref _ _ _ _ _ (fun b sh hb => ?_) (fun hb => ?_) rfl
    · rw [upd_same] at hb; cases hb
      refine ⟨_, n, rfl, Nat.le_refl _, .inr ⟨by simp, _, _, new_at w _, by rw [g3, g4, Nat.zero_add]⟩⟩
    · rw [upd_same] at hb; cases hb
  · intro l' ver hl
    simp only [labs, List.mem_singleton, Prod.mk.injEq] at hl
    obtain ⟨rfl, rfl⟩ := hl
    exact ⟨_, by simp [lookB_cons]; rfl, Nat.le_refl _⟩

end
end Go.Vc
