/-
  make and append.
-/
import Derived.Test.YtlelhmbhhnokoaaDoorVcStore
set_option linter.unusedVariables false
set_option linter.unusedSimpArgs false
set_option linter.unnecessarySimpa false
namespace Go.Vc

def zlen : AV → Nat | .agg ys => ys.length | _ => 1
theorem zlen_agg (ys : List AV) : zlen (.agg ys) = ys.length := rfl
theorem zlen_val (v : Value) : zlen (.val v) = 1 := rfl
theorem fits_agg (n : Nat) (ag : Bool) (ys : List AV) : fits ⟨n, ag⟩ (.agg ys) = (ag = true ∧ ys.length = n) := rfl
theorem fits_val (n : Nat) (ag : Bool) (v : Value) : fits ⟨n, ag⟩ (.val v) = (ag = false ∧ n = 1) := rfl
theorem fits_arr (n : Nat) (ag : Bool) (sh : Sh) (xs : List AV) : fits ⟨n, ag⟩ (.arr sh xs) = (ag = false ∧ n = 1) := rfl

/-- make([]T, l, c) -/
def sMake (ti : TI) (d : Nat) (x y : AV) (m : Mem) (k : AV → Mem → Prop) : Prop := match x, y with
  | .val (.int _ l), .val (.int _ c) => (0 ≤ l ∧ l ≤ c ∧ c ≤ 1073741824) ∧ ti.bytes ≤ 65536 ∧ fits ti.sh ti.zero ∧
      k (.ref d (newVer m d) 0 l.toNat) ((d, .row (newVer m d) ti.sh true (List.replicate l.toNat ti.zero)) :: m)
  | _, _ => False
@[congr] theorem sMake_congr {ti : TI} {d : Nat} {x x' y y' : AV} {m : Mem} {k : AV → Mem → Prop} (h : x = x') (h' : y = y') : sMake ti d x y m k = sMake ti d x' y' m k := by rw [h, h']
theorem sMake_eq (ti : TI) (d : Nat) (i j : IntKind) (l c : Int) (m : Mem) (k : AV → Mem → Prop) : sMake ti d (.val (.int i l)) (.val (.int j c)) m k = ((0 ≤ l ∧ l ≤ c ∧ c ≤ 1073741824) ∧ ti.bytes ≤ 65536 ∧ fits ti.sh ti.zero ∧
      k (.ref d (newVer m d) 0 l.toNat) ((d, .row (newVer m d) ti.sh true (List.replicate l.toNat ti.zero)) :: m)) := rfl

section
variable {P : Program} {B : Base} {N : Nat} {φ : Nat → LS} {fp : Nat → List Nat} {S : Nat → Prop} {ts : Env} {m : Mem} {a : Act} {w : World}

/-- The cells of a type's zero value. -/
theorem zero_cells {ti : TI} {z : Value} (hz : ti.zero = cAV z) (hf : fits ti.sh ti.zero) : z.cells.size = ti.size ∧ (∀ (w : World) (S : Nat → Prop), Rd w S ti.zero (elemV z.cells.toList 0 ti.sh)) ∧ isFlat ti.zero = true := by
  rw [hz] at hf ⊢
  have one : ∀ v : Value, v.oneCell' = true → fits ti.sh (.val v) → v.cells.size = ti.size ∧ (∀ (w : World) (S : Nat → Prop), Rd w S (.val v) (elemV v.cells.toList 0 ti.sh)) ∧ isFlat (.val v) = true := by
    intro v hv hf
    obtain ⟨h1, h2⟩ := hf
    rw [cells_single hv]
    refine ⟨h2.symm, fun w S => ?_, rfl⟩
    simp only [elemV, h1, Bool.false_eq_true, if_false]
    exact .val v hv
  cases z with
  | agg cs =>
    simp only [cAV] at hf ⊢
    split at hf
    · rename_i hall
      rw [if_pos hall]
      obtain ⟨h1, h2⟩ := hf
      have h3 : cs.size = ti.size := by
        show cs.size = ti.sh.sz
        simpa using h2
      refine ⟨h3, fun w S => ?_, ?_⟩
      · have h4 := rd_cAV (w := w) (S := S) (.agg cs)
        simp only [cAV, if_pos hall] at h4
        simp only [elemV, h1, if_true, List.drop_zero, Value.cells]
        rw [show ti.sh.sz = cs.toList.length by simpa [TI.sh] using h3.symm, List.take_length]
        exact h4
      · simp only [isFlat]
        generalize cs.toList = l
        induction l with
        | nil => rfl
        | cons x r ih => simpa [isFlatL, isFlat] using ih
    · exact hf.elim
  | tuple vs => exact hf.elim
  | _ => exact one _ rfl hf

theorem madeCells_getD (z : Array Value) (n k c s : Nat) (hs : z.size = s) (hc : c < s) (hk : k < n) : (madeCells z (n * s)).toList.getD (k * s + c) Go.undef = z.toList.getD c Go.undef := by
  have h1 : k * s + c < n * s := by have := mul_le_of_lt (s := s) hk; omega
  have h2 : (k * s + c) % s = c := by rw [Nat.mul_comm, Nat.mul_add_mod]; exact Nat.mod_eq_of_lt hc
  simp only [List.getD_eq_getElem?_getD, Array.getElem?_toList, madeCells, Array.getElem?_map, Array.getElem?_range, h1, if_true, Option.map_some, Option.getD_some, hs, h2]
  rw [getElem!_pos z c (by omega), Array.getElem?_eq_getElem (by omega)]
  rfl

theorem elemV_ext {l l' : List Value} {o o' : Nat} {sh : Sh} (h1 : o + sh.sz ≤ l.length) (h2 : o' + sh.sz ≤ l'.length) (h0 : sh.ag = false → sh.sz = 1)
    (h : ∀ c, c < sh.sz → l.getD (o + c) Go.undef = l'.getD (o' + c) Go.undef) : elemV l o sh = elemV l' o' sh := by
  cases sh with
  | mk sz ag =>
  simp only at *
  cases ag with
  | false => have := h0 rfl; subst this; rw [elemV_cell, elemV_cell]; simpa using h 0 (by omega)
  | true =>
    rw [elemV_agg, elemV_agg]
    congr 2
    apply List.ext_getElem
    · simp; omega
    · intro c h3 h4
      simp only [List.length_take, List.length_drop] at h3
      have e : ∀ (l : List Value) (o : Nat) (h : c < ((l.drop o).take sz).length), ((l.drop o).take sz)[c] = l.getD (o + c) Go.undef := by
        intro l o h
        simp only [List.length_take, List.length_drop] at h
        simp only [List.getElem_take, List.getElem_drop]
        rw [List.getD_eq_getElem?_getD, List.getElem?_eq_getElem (by omega)]; rfl
      rw [e, e]; exact h c (by omega)

theorem fits_sz {sh : Sh} {x : AV} (h : fits sh x) (hag : sh.ag = false) : sh.sz = 1 := by
  cases x <;> first | exact h.2 | exact h.elim | (have := h.1; rw [hag] at this; cases this)

theorem run_make' {t : TypeId} {tt ti : TI} (htt : tiOf P t = some tt) (hks : tt.kind = .slice) (ht : tiOf P tt.elem = some ti) (h : RS B N φ fp S ts m a w) {x y : AV} {u v : Value} (hx : RV w S φ x u) (hy : RV w S φ y v) (d : Nat)
    {k : AV → Mem → Prop} (hk : sMake ti d x y m k) : Runs B N a (fun x ts' m' => ts' = ts ∧ k x m') ((Instr.makeSlice t u v).run P w) := by
  unfold sMake at hk
  split at hk
  · rename_i i l j c
    obtain ⟨rfl, _⟩ := rv_val hx
    obtain ⟨rfl, _⟩ := rv_val hy
    obtain ⟨⟨h0, hlc, hc⟩, hb, hf, hk⟩ := hk
    obtain ⟨inf, dd, z, hi, hd, hz, hag, hsz, hby, hzz, _⟩ := kind_of ht
    obtain ⟨hzs, hzr, hzf⟩ := zero_cells hzz hf
    have hsl := kind_slice htt hks
    have hbytes : (inf.bytes : Int) * c ≤ 281474976710656 := by
      rw [← hby]
      have h1 : (ti.bytes : Int) ≤ 65536 := by omega
      have h2 : (ti.bytes : Int) * c ≤ 65536 * c := Int.mul_le_mul_of_nonneg_right h1 (by omega)
      omega
    have hrun := run_make (P := P) w t tt.elem inf z hsl hi hz i j l c h0 hlc hbytes (by omega)
    refine ⟨_, _, hrun, ?_⟩
    rw [← hsz]
    have hcc : l.toNat ≤ c.toNat := by omega
    have hRS := h.alloc d ti.sh (.row (newVer m d) ti.sh true (List.replicate l.toNat ti.zero)) (madeCells z.cells (c.toNat * ti.size)) tt.elem rfl
      (.inr ⟨w.heap.size, c.toNat, upd_same _ _ _, by simp, by simp, by
        have e : [w.heap.size] = w.heap.size :: (List.replicate (List.replicate l.toNat ti.zero).length ([] : List Nat)).flatten := by
          congr 1
          exact (List.flatten_eq_nil_iff.2 fun l hl => (List.mem_replicate.1 hl).2).symm
        rw [e]
        refine .arr _ _ _ _ (madeCells z.cells (c.toNat * ti.size)) tt.elem _ (new_at w _) (by rw [size_madeCells]; rfl) (by simpa using hcc) (by unfold maxLen; omega) ?_ (by simp) ?_
        · intro q hq; simp only [List.getElem_replicate]; exact hf
        · intro q hq
          simp only [List.length_replicate] at hq
          simp only [List.getElem_replicate]
          have e1 : (List.replicate (List.replicate l.toNat ti.zero).length ([] : List Nat)).getD q [] = [] := by simp [List.getD_eq_getElem?_getD, hq]
          rw [e1]
          have e2 : elemV (madeCells z.cells (c.toNat * ti.size)).toList (q * ti.sh.sz) ti.sh = elemV z.cells.toList 0 ti.sh := by
            have hq' : q < c.toNat := by omega
            refine elemV_ext ?_ ?_ (fits_sz hf) fun cc hcc => ?_
            · simp only [Array.length_toList, size_madeCells]; exact mul_le_of_lt (s := ti.size) hq'
            · simp only [Array.length_toList, hzs]; show 0 + ti.size ≤ ti.size; omega
            · rw [Nat.zero_add]; exact madeCells_getD z.cells c.toNat q cc ti.size hzs hcc hq'
          rw [e2]
          exact .rd _ _ (hzr _ _)⟩)
      (fun _ _ hx => by cases hx)
    refine hRS.gives (x := .ref d (newVer m d) 0 l.toNat) ?_ ?_ ⟨rfl, hk⟩
    · refine .ref _ _ _ _ _ (fun b sh hb => ?_) (fun hb => ?_) rfl
      · rw [upd_same] at hb; cases hb
        refine ⟨_, c.toNat, rfl, by omega, .inr ⟨by simp, _, _, new_at w _, by rw [size_madeCells, Nat.zero_add]; rfl⟩⟩
      · rw [upd_same] at hb; cases hb
    · intro l' ver hl
      simp only [labs, List.mem_singleton, Prod.mk.injEq] at hl
      obtain ⟨rfl, rfl⟩ := hl
      exact ⟨_, by simp [lookB_cons]; rfl, Nat.le_refl _⟩
  · exact hk.elim


def isNil : AV → Bool
  | .e0 => true
  | .val (.slice none 0 0) => true
  | _ => false

def sSrcB (sh : Sh) (v i n : Nat) (b : Option Blk) (k : List AV → Prop) : Prop := match b with
  | some (.row v' sh' _ xs) => v' = v ∧ sh' = sh ∧ i + n ≤ xs.length ∧ k ((xs.drop i).take n)
  | _ => False
@[congr] theorem sSrcB_congr {sh : Sh} {v i n : Nat} {b b' : Option Blk} {k : List AV → Prop} (h : b = b') : sSrcB sh v i n b k = sSrcB sh v i n b' k := by rw [h]
theorem sSrcB_row (sh : Sh) (v i n : Nat) (d : Bool) (xs : List AV) (k : List AV → Prop) : sSrcB sh v i n (some (.row v sh d xs)) k = (i + n ≤ xs.length ∧ k ((xs.drop i).take n)) := by simp [sSrcB]
/-- the elements that are appended -/
def sSrc (sh : Sh) (y : AV) (m : Mem) (k : List AV → Prop) : Prop := match y with
  | .arr sh' ys => sh' = sh ∧ k ys
  | .ref l v i n => sSrcB sh v i n (lookB m l) k
  | y => isNil y = true ∧ k []
@[congr] theorem sSrc_congr {sh : Sh} {y y' : AV} {m : Mem} {k : List AV → Prop} (h : y = y') : sSrc sh y m k = sSrc sh y' m k := by rw [h]
theorem sSrc_arr (sh : Sh) (ys : List AV) (m : Mem) (k : List AV → Prop) : sSrc sh (.arr sh ys) m k = k ys := by simp [sSrc]
theorem sSrc_ref (sh : Sh) (l v i n : Nat) (m : Mem) (k : List AV → Prop) : sSrc sh (.ref l v i n) m k = sSrcB sh v i n (lookB m l) k := rfl
theorem sSrc_e0 (sh : Sh) (m : Mem) (k : List AV → Prop) : sSrc sh .e0 m k = k [] := by simp [sSrc, isNil]
theorem sSrc_nil (sh : Sh) (m : Mem) (k : List AV → Prop) : sSrc sh (.val (.slice none 0 0)) m k = k [] := by simp [sSrc, isNil]

def sAppB (ti : TI) (l v i n : Nat) (b : Option Blk) (ys : List AV) (m : Mem) (k : AV → Mem → Prop) : Prop := match b with
  | some (.row v' sh' deep xs) => v' = v ∧ i = 0 ∧ sh' = ti.sh ∧ n ≤ xs.length ∧ n + ys.length ≤ 1073741824 ∧ k (.ref l (v + 1) 0 (n + ys.length)) ((l, .row (v + 1) ti.sh deep (xs.take n ++ ys)) :: m)
  | _ => False
@[congr] theorem sAppB_congr {ti : TI} {l v i n : Nat} {b b' : Option Blk} {ys : List AV} {m : Mem} {k : AV → Mem → Prop} (h : b = b') : sAppB ti l v i n b ys m k = sAppB ti l v i n b' ys m k := by rw [h]
theorem sAppB_row (ag : Bool) (sz by' : Nat) (z : AV) (f : List (Nat × Nat × Bool)) (e : Nat) (kd : TK) (l v n : Nat) (deep : Bool) (xs ys : List AV) (m : Mem) (k : AV → Mem → Prop) :
    sAppB ⟨ag, sz, by', z, f, e, kd⟩ l v 0 n (some (.row v ⟨sz, ag⟩ deep xs)) ys m k =
      (n ≤ xs.length ∧ n + ys.length ≤ 1073741824 ∧ k (.ref l (v + 1) 0 (n + ys.length)) ((l, .row (v + 1) ⟨sz, ag⟩ deep (xs.take n ++ ys)) :: m)) := by simp [sAppB, TI.sh]
def sApp1 (ti : TI) (d : Nat) (x : AV) (ys : List AV) (m : Mem) (k : AV → Mem → Prop) : Prop := match x with
  | .ref l v i n => sAppB ti l v i n (lookB m l) ys m k
  | x => isNil x = true ∧ ys.length ≤ 1073741824 ∧ k (.ref d (newVer m d) 0 ys.length) ((d, .row (newVer m d) ti.sh true ys) :: m)
@[congr] theorem sApp1_congr {ti : TI} {d : Nat} {x x' : AV} {ys : List AV} {m : Mem} {k : AV → Mem → Prop} (h : x = x') : sApp1 ti d x ys m k = sApp1 ti d x' ys m k := by rw [h]
theorem sApp1_ref (ti : TI) (d l v i n : Nat) (ys : List AV) (m : Mem) (k : AV → Mem → Prop) : sApp1 ti d (.ref l v i n) ys m k = sAppB ti l v i n (lookB m l) ys m k := rfl
theorem sApp1_e0 (ti : TI) (d : Nat) (ys : List AV) (m : Mem) (k : AV → Mem → Prop) : sApp1 ti d .e0 ys m k = (ys.length ≤ 1073741824 ∧ k (.ref d (newVer m d) 0 ys.length) ((d, .row (newVer m d) ti.sh true ys) :: m)) := by simp [sApp1, isNil]
theorem sApp1_nil (ti : TI) (d : Nat) (ys : List AV) (m : Mem) (k : AV → Mem → Prop) : sApp1 ti d (.val (.slice none 0 0)) ys m k = (ys.length ≤ 1073741824 ∧ k (.ref d (newVer m d) 0 ys.length) ((d, .row (newVer m d) ti.sh true ys) :: m)) := by simp [sApp1, isNil]
/-- append(x, y...) of flat elements -/
def sApp (ti : TI) (d : Nat) (x y : AV) (m : Mem) (k : AV → Mem → Prop) : Prop :=
  ti.bytes ≤ 65536 ∧ 0 < ti.size ∧ fits ti.sh ti.zero ∧ sSrc ti.sh y m fun ys => isFlatL ys = true ∧ sApp1 ti d x ys m k

theorem isFlatL_get {xs : List AV} (h : isFlatL xs = true) : ∀ i (hi : i < xs.length), isFlat xs[i] = true := by
  induction xs with
  | nil => intro i hi; exact absurd hi (Nat.not_lt_zero _)
  | cons x r ih =>
    intro i hi
    simp only [isFlatL, Bool.and_eq_true] at h
    cases i with
    | zero => exact h.1
    | succ i => exact ih h.2 i (by simpa using hi)

/-- The cells of a slice that is read: the first so many. -/
def FC (P : Program) (w : World) (sz n : Nat) (v : Value) (l : List Value) : Prop := l.length = n * sz ∧ ∀ w' : World, w'.heap = w.heap → (Builtin.firstCells sz n v).run P w' = .ok l.toArray w'

theorem fc_zero (sz : Nat) (a : Option Addr) (n c : Nat) : FC P w sz 0 (.slice a n c) [] := by
  refine ⟨by simp, fun w' _ => ?_⟩
  cases a <;> simp [Builtin.firstCells, loadCells, loadCellsFrom]
theorem fc_at {b off n' c sz n : Nat} {cs : Array Value} {e : TypeId} {fr : Nat × Nat} (hb : w.heap[b]? = some (.cells cs e fr)) (h : off + n * sz ≤ cs.size) :
    FC P w sz n (.slice (some ⟨b, off, none⟩) n' c) ((cs.toList.drop off).take (n * sz)) := by
  refine ⟨by simp; omega, fun w' hw => ?_⟩
  simp only [Builtin.firstCells]
  exact run_loadCells_at (by rw [hw]; exact hb) off (n * sz) h

theorem elemV_seg {l : List Value} {off n i : Nat} {sh : Sh} (hi : i < n) (h : off + n * sh.sz ≤ l.length) (h0 : sh.ag = false → sh.sz = 1) :
    elemV ((l.drop off).take (n * sh.sz)) (i * sh.sz) sh = elemV l (off + i * sh.sz) sh := by
  have h1 := mul_le_of_lt (s := sh.sz) hi
  refine elemV_ext (by simp; omega) (by omega) h0 fun c hc => ?_
  rw [getD_drop_take _ _ _ _ (by omega), Nat.add_assoc]

theorem elemV_left {l l' : List Value} {o : Nat} {sh : Sh} (h : o + sh.sz ≤ l.length) (h0 : sh.ag = false → sh.sz = 1) : elemV (l ++ l') o sh = elemV l o sh := by
  refine elemV_ext (by simp; omega) h h0 fun c hc => ?_
  simp only [List.getD_eq_getElem?_getD]
  rw [List.getElem?_append_left (by omega)]
theorem elemV_right {l l' : List Value} {o : Nat} {sh : Sh} (h : o + sh.sz ≤ l'.length) (h0 : sh.ag = false → sh.sz = 1) : elemV (l ++ l') (l.length + o) sh = elemV l' o sh := by
  refine elemV_ext (by simp; omega) h h0 fun c hc => ?_
  simp only [List.getD_eq_getElem?_getD]
  rw [List.getElem?_append_right (by omega)]
  congr 2; omega

theorem row_inv {S : Nat → Prop} {sh : Sh} {xs : List AV} {b n cap : Nat} {fs : List Nat} (h : Own w S (.arr sh xs) (.slice (some ⟨b, 0, none⟩) n cap) fs) (hb : b ∈ fs) :
    ∃ (cs : Array Value) (e : TypeId) (fss : List (List Nat)), fs = b :: fss.flatten ∧ w.heap[b]? = some (.cells cs e (0, 0)) ∧ cs.size = cap * sh.sz ∧ xs.length ≤ cap ∧ cap ≤ maxLen ∧ (∀ i (h : i < xs.length), fits sh xs[i]) ∧ fss.length = xs.length ∧
      ∀ i (h : i < xs.length), Own w S xs[i] (elemV cs.toList (i * sh.sz) sh) (fss.getD i []) := by
  cases h with
  | rd _ _ h => cases hb
  | arr _ _ _ _ cs e fss h1 h2 h3 h4 h5 h6 h7 => exact ⟨cs, e, fss, rfl, h1, h2, h3, h4, h5, h6, h7⟩

/-- What is appended, as cells. -/
theorem sSrc_out (h : RS B N φ fp S ts m a w) {sh : Sh} {y : AV} {v : Value} (hy : RV w S φ y v) {k : List AV → Prop} (hk : sSrc sh y m k) :
    ∃ ys, k ys ∧ ∃ ad c l, v = .slice ad ys.length c ∧ FC P w sh.sz ys.length v l ∧ (∀ i (hi : i < ys.length), fits sh ys[i]) ∧
      (isFlatL ys = true → ∀ i (hi : i < ys.length), Rd w (fun _ => False) ys[i] (elemV l (i * sh.sz) sh)) := by
  have nil : ∀ v : Value, (∃ ad, v = .slice ad 0 0) → k [] → ∃ ys, k ys ∧ ∃ ad c l, v = .slice ad ys.length c ∧ FC P w sh.sz ys.length v l ∧ (∀ i (hi : i < ys.length), fits sh ys[i]) ∧
      (isFlatL ys = true → ∀ i (hi : i < ys.length), Rd w (fun _ => False) ys[i] (elemV l (i * sh.sz) sh)) := by
    rintro v ⟨ad, rfl⟩ hk
    exact ⟨[], hk, ad, 0, [], rfl, fc_zero _ _ _ _, fun i hi => absurd hi (Nat.not_lt_zero _), fun _ i hi => absurd hi (Nat.not_lt_zero _)⟩
  cases y with
  | arr sh' ys =>
    obtain ⟨rfl, hk⟩ := hk
    cases rv_arr hy with
    | nil _ ad => exact nil _ ⟨ad, rfl⟩ hk
    | arr _ _ b off cap cs e fr hS hb hcap hl hf hv =>
      refine ⟨ys, hk, _, cap, _, rfl, fc_at hb hl, hf, fun hfl i hi => ?_⟩
      rw [elemV_seg hi (by simpa using hl) (fits_sz (hf i hi))]
      exact (flat_rd (fs := []) (.rd _ _ (hv i hi)) (isFlatL_get hfl i hi)).1
  | ref l ver i n =>
    have hr := rv_ref hy
    simp only [sSrc] at hk
    unfold sSrcB at hk
    split at hk
    · rename_i v' sh' deep xs hlk
      obtain ⟨rfl, rfl, hin, hk⟩ := hk
      have hlen : ((xs.drop i).take n).length = n := by simp; omega
      rcases h.mSome l _ hlk with ⟨h1, h2, h3⟩ | ⟨b, cap, hφ, hbm, hdp, hown⟩
      · obtain ⟨rfl, ad, rfl⟩ := hr.2 h1
        simp only [List.take_zero] at hk
        exact nil _ ⟨ad, rfl⟩ hk
      · obtain ⟨ad, cp, rfl, hnc, hcp⟩ := hr.1 b sh' hφ
        by_cases hn0 : n = 0
        · subst hn0
          simp only [List.take_zero] at hk
          exact ⟨[], hk, ad, cp, [], rfl, fc_zero _ _ _ _, fun i hi => absurd hi (Nat.not_lt_zero _), fun _ i hi => absurd hi (Nat.not_lt_zero _)⟩
        · obtain ⟨rfl, _⟩ := hcp.resolve_left (by omega)
          obtain ⟨cs, e, fss, hgf, hheap, hcs, hcap, hmx, hff, hfl, hvv⟩ := row_inv hown hbm
          have hroom : i * sh'.sz + n * sh'.sz ≤ cs.size := by
            rw [hcs, ← Nat.add_mul]; exact Nat.mul_le_mul_right _ (by omega)
          refine ⟨_, hk, _, cp, _, by rw [hlen], by rw [hlen]; exact fc_at hheap hroom, fun q hq => ?_, fun hfl q hq => ?_⟩
          · rw [hlen] at hq
            simp only [List.getElem_take, List.getElem_drop]
            exact hff _ (by omega)
          · have hfq := isFlatL_get hfl q hq
            rw [hlen] at hq
            simp only [List.getElem_take, List.getElem_drop] at hfq ⊢
            have hq2 : i + q < xs.length := by omega
            rw [elemV_seg hq (by simpa using hroom) (fits_sz (hff (i + q) hq2)), ← Nat.add_mul]
            exact (flat_rd (hvv (i + q) hq2) hfq).1
    · exact hk.elim
  | e0 => obtain ⟨ad, rfl⟩ := rv_e0 hy; exact nil _ ⟨ad, rfl⟩ hk.2
  | val u =>
    obtain ⟨h1, hk⟩ := hk
    obtain ⟨rfl, _⟩ := rv_val hy
    refine nil _ ?_ hk
    unfold isNil at h1
    split at h1
    · rename_i he; cases he
    · rename_i he; cases he; exact ⟨_, rfl⟩
    · cases h1
  | undef => exact absurd hk.1 (by simp [isNil])
  | agg xs => exact absurd hk.1 (by simp [isNil])
  | tup xs => exact absurd hk.1 (by simp [isNil])
  | ptr l v i j => exact absurd hk.1 (by simp [isNil])
  | eptr sh xs i j => exact absurd hk.1 (by simp [isNil])
  | clo f xs => exact absurd hk.1 (by simp [isNil])


theorem app_grow {t t' ty e e2 : TypeId} {i : TypeInfo} {z : Value} (ht : P.underlying t = some (.slice e)) (ht' : P.underlying t' = some (.slice e2)) (hi : P.info? e = some i) (hz : i.zero = some z)
    {ad ad' : Option Addr} {n cap n' c : Nat} {olds news : List Value} (ho : FC P w i.size n (.slice ad n cap) olds) (hn : FC P w i.size n' (.slice ad' n' c) news)
    (hg : cap < n + n') (h63 : n + n' ≤ 1073741824) (hb : i.bytes ≤ 65536) :
    (Builtin.append_ #[t, t'] ty #[.slice ad n cap, .slice ad' n' c]).run P w =
      .ok (.slice (some ⟨w.heap.size, 0, none⟩) (n + n') (grownCap w (n + n') cap e)) (w.drew.alloc (.cells (olds ++ news ++ (Builtin.zeroCells z.cells (grownCap w (n + n') cap e - (n + n'))).toList).toArray e)) := by
  have h1 : ¬ (n + n' ≤ cap) := by omega
  have h63' : ¬ (9223372036854775807 < ((n : Int) + (n' : Int))) := by omega
  have hfit : Builtin.nextslicecap (n + n') cap * i.bytes ≤ 281474976710656 := by
    refine growslice_fits hg ?_
    calc (n + n') * i.bytes ≤ 1073741824 * 65536 := Nat.mul_le_mul h63 hb
      _ ≤ 140737488355328 := by decide
  have h48' : ¬ (281474976710656 < Builtin.nextslicecap (n + n') cap * i.bytes) := by omega
  have hfo := ho.2 w.drew rfl
  have hfn := hn.2 w.drew rfl
  simp [Builtin.append_, run_underlying ht, run_underlying ht', sizeOf, typeInfo, zeroValue, hi, hz, Builtin.lenOf, h1, h63', h48', Question.forced, hfo, hfn, newRow, grownCap]
  congr 2
  apply Array.ext'
  simp

theorem app_room {t t' ty e e2 e' : TypeId} {i : TypeInfo} (ht : P.underlying t = some (.slice e)) (ht' : P.underlying t' = some (.slice e2)) (hi : P.info? e = some i)
    {g n cap n' c : Nat} {ad' : Option Addr} {news : List Value} {cur : Array Value} (hg : w.heap[g]? = some (.cells cur e' (0, 0))) (hn : FC P w i.size n' (.slice ad' n' c) news)
    (h1 : ∀ u, u ∈ news → u.oneCell' = true) (hroom : n + n' ≤ cap) (hfit : n * i.size + news.length ≤ cur.size) :
    (Builtin.append_ #[t, t'] ty #[.slice (some ⟨g, 0, none⟩) n cap, .slice ad' n' c]).run P w =
      .ok (.slice (some ⟨g, 0, none⟩) (n + n') cap) (w.setRow g (cur.toList.take (n * i.size) ++ news ++ cur.toList.drop (n * i.size + news.length)).toArray) := by
  have hf := hn.2 w rfl
  have hst := run_storeCells_at P g (n * i.size) e' news 0 cur w hg (by simpa using hfit) h1
  simp only [Nat.add_zero] at hst
  simp [Builtin.append_, run_underlying ht, run_underlying ht', sizeOf, typeInfo, hi, Builtin.lenOf, hroom, hf, Addr.add_none, hst]

theorem app_same {t t' ty e e2 : TypeId} {i : TypeInfo} (ht : P.underlying t = some (.slice e)) (ht' : P.underlying t' = some (.slice e2)) (hi : P.info? e = some i) {n cap c : Nat} {ad ad' : Option Addr} (hn : n ≤ cap) :
    (Builtin.append_ #[t, t'] ty #[.slice ad n cap, .slice ad' 0 c]).run P w = .ok (.slice ad n cap) w := by
  have hf := (fc_zero (P := P) (w := w) i.size ad' 0 c).2 w rfl
  cases ad <;> simp [Builtin.append_, run_underlying ht, run_underlying ht', sizeOf, typeInfo, hi, Builtin.lenOf, hn, hf, storeCells]

theorem rd_oneCells {sh : Sh} {ys : List AV} {l : List Value} (hl : l.length = ys.length * sh.sz) (hf : ∀ i (hi : i < ys.length), fits sh ys[i])
    (h : ∀ i (hi : i < ys.length), Rd w (fun _ => False) ys[i] (elemV l (i * sh.sz) sh)) (hsz : 0 < sh.sz) : ∀ u, u ∈ l → u.oneCell' = true := by
  intro u hu
  obtain ⟨k, hk, rfl⟩ := List.getElem_of_mem hu
  have hk' : k / sh.sz < ys.length := by rw [Nat.div_lt_iff_lt_mul hsz]; omega
  have hr := h (k / sh.sz) hk'
  have hft := hf (k / sh.sz) hk'
  have hdm := Nat.div_add_mod k sh.sz
  have hmod := Nat.mod_lt k hsz
  have hle := mul_le_of_lt (s := sh.sz) hk'
  generalize ys[k / sh.sz] = x at hr hft
  cases sh with
  | mk sz ag =>
  simp only at *
  have one : leaf x → ag = false ∧ sz = 1 → l[k].oneCell' = true := by
    rintro hlf ⟨rfl, rfl⟩
    have := hr.leaf_oneCell hlf
    rw [elemV_cell, List.getD_eq_getElem?_getD, List.getElem?_eq_getElem (by omega)] at this
    simpa using this
  cases x with
  | agg zs =>
    obtain ⟨rfl, hzl⟩ := hft
    obtain ⟨cs, hcs, h1, h2, h3⟩ := rd_agg hr
    rw [elemV_agg] at hcs
    cases hcs
    have h4 := h3 (k % sz) (by rw [hzl]; exact hmod)
    have h5 := h4.leaf_oneCell (h2 _ (by rw [hzl]; exact hmod))
    rw [show (((l.drop (k / sz * sz)).take sz).toArray.toList) = (l.drop (k / sz * sz)).take sz from rfl, getD_drop_take _ _ _ _ hmod] at h5
    rw [show k / sz * sz + k % sz = k by rw [Nat.mul_comm]; omega, List.getD_eq_getElem?_getD, List.getElem?_eq_getElem hk] at h5
    simpa using h5
  | undef => exact hft.elim
  | tup xs => exact hft.elim
  | _ => exact one trivial hft

theorem zeroCells_length (z : Array Value) (n : Nat) : (Builtin.zeroCells z n).toList.length = n * z.size := by simp [Builtin.zeroCells]

theorem fcs (xs ys : List AV) (fss : List (List Nat)) (n : Nat) (hn : n ≤ xs.length) (hfl : fss.length = xs.length) :
    ((fss.take n ++ List.replicate ys.length ([] : List Nat)).length = (xs.take n ++ ys).length) ∧ (fss.take n ++ List.replicate ys.length ([] : List Nat)).flatten = (fss.take n).flatten ∧
    (∀ i, i < n → (fss.take n ++ List.replicate ys.length ([] : List Nat)).getD i [] = fss.getD i []) ∧ (∀ i, n ≤ i → (fss.take n ++ List.replicate ys.length ([] : List Nat)).getD i [] = []) := by
  refine ⟨by simp; omega, ?_, fun i hi => ?_, fun i hi => ?_⟩
  · rw [List.flatten_append, (List.flatten_eq_nil_iff (L := List.replicate ys.length [])).2 fun l hl => (List.mem_replicate.1 hl).2, List.append_nil]
  · simp only [List.getD_eq_getElem?_getD]
    rw [List.getElem?_append_left (by simp; omega), List.getElem?_take, if_pos hi]
  · simp only [List.getD_eq_getElem?_getD]
    rw [List.getElem?_append_right (by simp; omega), List.getElem?_replicate]
    split <;> rfl

/-- The elements of a row that was appended to. -/
theorem app_own {S : Nat → Prop} {sh : Sh} {xs ys : List AV} {b cap n : Nat} {w' : World} {cs' : Array Value} {e' : TypeId} {fss : List (List Nat)} {lo ln lr : List Value} (hb : w'.heap[b]? = some (.cells cs' e' (0, 0))) (hcs : cs'.size = cap * sh.sz)
    (hn : n ≤ xs.length) (hcap : n + ys.length ≤ cap) (hmx : cap ≤ maxLen) (hfl : fss.length = xs.length) (hff : ∀ i (h : i < xs.length), fits sh xs[i]) (hfy : ∀ i (h : i < ys.length), fits sh ys[i])
    (hl : cs'.toList = lo ++ ln ++ lr) (hlo : lo.length = n * sh.sz) (hln : ln.length = ys.length * sh.sz)
    (hx : ∀ i (h : i < xs.length), i < n → Own w' S xs[i] (elemV lo (i * sh.sz) sh) (fss.getD i []))
    (hy : ∀ i (h : i < ys.length), Rd w' S ys[i] (elemV ln (i * sh.sz) sh)) :
    Own w' S (.arr sh (xs.take n ++ ys)) (.slice (some ⟨b, 0, none⟩) (n + ys.length) cap) (b :: (fss.take n).flatten) := by
  obtain ⟨f1, f2, f3, f4⟩ := fcs xs ys fss n hn hfl
  have hlen : (xs.take n ++ ys).length = n + ys.length := by simp; omega
  rw [← f2, ← hlen]
  refine .arr sh _ b cap cs' e' _ hb hcs (by omega) hmx ?_ f1 ?_
  · intro i hi
    rw [List.getElem_append]
    split
    · simp only [List.getElem_take]; exact hff _ _
    · exact hfy _ _
  · intro i hi
    rw [hlen] at hi
    rw [List.getElem_append, hl]
    by_cases hin : i < n
    · have h1 := mul_le_of_lt (s := sh.sz) hin
      have hg : i < (xs.take n).length := by simp; omega
      rw [dif_pos hg, f3 i hin, List.append_assoc, elemV_left (by omega) (fits_sz (hff i (by omega)))]
      simp only [List.getElem_take]
      exact hx i (by omega) hin
    · have hg : ¬ i < (xs.take n).length := by simp; omega
      have hq : i - n < ys.length := by omega
      have h1 := mul_le_of_lt (s := sh.sz) hq
      have e1 : i * sh.sz = lo.length + (i - n) * sh.sz := by rw [hlo, ← Nat.add_mul]; congr 1; omega
      rw [dif_neg hg, f4 i (by omega), elemV_left (by rw [List.length_append]; omega) (fits_sz (hfy (i - n) hq)), e1, elemV_right (by omega) (fits_sz (hfy (i - n) hq))]
      have e2 : (xs.take n).length = n := by simp; omega
      have hq' : i - (xs.take n).length < ys.length := by omega
      have e3 : ys[i - (xs.take n).length] = ys[i - n] := by congr 1; omega
      rw [e3]
      exact .rd _ _ (hy (i - n) hq)




/-- A row laid anew under its label's next version. -/
theorem RS.rowNext (h : RS B N φ fp S ts m a w) {w' : World} {l0 nv b cap n : Nat} {sh : Sh} {deep : Bool} {xs : List AV} {fs : List Nat} {v : Value} {k : AV → Env → Mem → Prop}
    (hsize : w.heap.size ≤ w'.heap.size) (hout : SameOut w w') (hszs : Szs w w') (hold : ∀ c, c ≠ b → c < w.heap.size → w'.heap[c]? = w.heap[c]?) (hz : Sized φ w w') (hb : b ∈ fp l0 ∨ b = w.heap.size ∧ b < w'.heap.size)
    (hver : ∀ ver, known m l0 ver → ver < nv) (hin : ∀ c, c ∈ fs → c = b ∨ c ∈ fp l0) (hbm : b ∈ fs) (hdp : deep = false → fs = [b]) (hnd : fs.Nodup)
    (hown : Own w' (if deep then fun _ => False else S) (.arr sh xs) (.slice (some ⟨b, 0, none⟩) xs.length cap) fs)
    (hv : ∃ ad c, v = .slice ad n c ∧ n ≤ c ∧ (c = 0 ∨ (ad = some ⟨b, 0, none⟩ ∧ ∃ cs e, w'.heap[b]? = some (.cells cs e (0, 0)) ∧ cs.size = c * sh.sz)))
    (hk : k (.ref l0 nv 0 n) ts ((l0, .row nv sh deep xs) :: m)) : Gives B N a k v w' := by
  have hbS : ¬ S b := by
    rcases hb with hb | ⟨hb, _⟩
    · exact h.notS l0 b hb
    · intro hs; have := (h.sB b hs).1; omega
  have hbo : ∀ l', l' ≠ l0 → b ∉ fp l' := by
    intro l' hl' hc
    rcases hb with hb | ⟨hb, _⟩
    · exact hl' (h.dis l' l0 b hc hb)
    · have := (h.fpB l' b hc).1; omega
  have hRS := h.next l0 (.at b sh nv) fs S (.row nv sh deep xs) hsize hout hszs (fun c hc hio => hold c (fun e => by
      subst e
      rcases hb with hb | hb
      · rcases (h.fpB l0 c hb).2 with hh | hh
        · exact Nat.lt_irrefl _ (Nat.lt_of_lt_of_le hc hh)
        · exact hio _ hh.choose_spec.1
      · rw [hb.1] at hc; exact Nat.lt_irrefl _ (Nat.lt_of_lt_of_le hc h.size)) (Nat.lt_of_lt_of_le hc h.size)) (fun c hc => ⟨hc, hold c (fun e => hbS (e ▸ hc)) (h.sB c hc).1⟩) (fun c h1 h2 => absurd h1 h2) hz
    (fun l' hl' c hc => hold c (fun e => hbo l' hl' (e ▸ hc)) (h.fpB l' c hc).1) (fun ver hk => LS.le_newer _ _ _ _ _ (hver ver hk)) (fun ver hk => Nat.le_of_lt (hver ver hk))
    (.inr ⟨b, cap, upd_same _ _ _, hbm, hdp, hown⟩) (fun _ _ hx => by cases hx) hnd (by
      intro c hc
      rcases hin c hc with rfl | hc'
      · refine ⟨hbS, hbo, ?_, ?_⟩
        · rcases hb with hb | hb
          · exact Nat.lt_of_lt_of_le (h.fpB l0 c hb).1 hsize
          · exact hb.2
        · rcases hb with hb | hb
          · exact (h.fpB l0 c hb).2
          · left; rw [hb.1]; exact h.size
      · have := h.fpB l0 c hc'
        exact ⟨h.notS l0 c hc', fun l' hl' hc2 => hl' (h.dis l' l0 c hc2 hc'), Nat.lt_of_lt_of_le this.1 hsize, this.2⟩)
  refine hRS.gives (x := .ref l0 nv 0 n) ?_ ?_ hk
  · obtain ⟨ad, c, rfl, hnc, hc⟩ := hv
    refine .ref _ _ _ _ _ (fun b' sh' hb' => ?_) (fun hb' => ?_) rfl
    · rw [upd_same] at hb'; cases hb'
      refine ⟨ad, c, rfl, hnc, hc.imp id ?_⟩
      rintro ⟨rfl, cs, e, h1, h2⟩
      exact ⟨by rw [Nat.zero_mul], cs, e, h1, by rw [Nat.zero_add]; exact h2⟩
    · rw [upd_same] at hb'; cases hb'
  · intro l' ver hl
    simp only [labs, List.mem_singleton, Prod.mk.injEq] at hl
    obtain ⟨rfl, rfl⟩ := hl
    exact ⟨_, by simp [lookB_cons]; rfl, Nat.le_refl _⟩

/-- The same, where there is no block yet. -/
theorem RS.nilNext (h : RS B N φ fp S ts m a w) {l0 nv : Nat} {sh : Sh} {deep : Bool} {ad : Option Addr} {k : AV → Env → Mem → Prop}
    (hver : ∀ ver, known m l0 ver → ver < nv) (hk : k (.ref l0 nv 0 0) ts ((l0, .row nv sh deep []) :: m)) : Gives B N a k (.slice ad 0 0) w := by
  have hRS := h.next l0 (.nil nv) [] S (.row nv sh deep []) (Nat.le_refl _) (SameOut.refl _) (Szs.refl _) (fun _ _ _ => rfl) (fun c hc => ⟨hc, rfl⟩) (fun c h1 h2 => absurd h1 h2) (fun l b sh ver cs e _ hb => ⟨cs, e, hb, rfl⟩)
    (fun _ _ _ _ => rfl) (fun ver hk => ⟨fun _ _ h => (by cases h), fun h => (by cases h; exact absurd (hver _ hk) (Nat.lt_irrefl _))⟩) (fun ver hk => Nat.le_of_lt (hver ver hk))
    (.inl ⟨upd_same _ _ _, rfl, rfl⟩) (fun _ _ hx => by cases hx) (by simp) (by simp)
  refine hRS.gives (x := .ref l0 nv 0 0) ?_ ?_ hk
  · refine .ref _ _ _ _ _ (fun b' sh' hb' => ?_) (fun hb' => ⟨rfl, ad, rfl⟩) rfl
    rw [upd_same] at hb'; cases hb'
  · intro l' ver hl
    simp only [labs, List.mem_singleton, Prod.mk.injEq] at hl
    obtain ⟨rfl, rfl⟩ := hl
    exact ⟨_, by simp [lookB_cons]; rfl, Nat.le_refl _⟩

/-- append of flat elements. -/
theorem run_app {t t' ty : TypeId} {tt tt' ti : TI} (htt : tiOf P t = some tt) (hks : tt.kind = .slice) (htt' : tiOf P t' = some tt') (hks' : tt'.kind = .slice) (ht : tiOf P tt.elem = some ti) (h : RS B N φ fp S ts m a w) {x y : AV} {u v : Value}
    (hx : RV w S φ x u) (hy : RV w S φ y v) (hxl : ∀ l ver, (l, ver) ∈ labs x → known m l ver) (d : Nat) {k : AV → Mem → Prop} (hk : sApp ti d x y m k) :
    Runs B N a (fun x ts' m' => ts' = ts ∧ k x m') ((Builtin.append_ #[t, t'] ty #[u, v]).run P w) := by
  obtain ⟨hby, hsz0, hzf, hk⟩ := hk
  obtain ⟨ys, ⟨hfl, hk⟩, ad', c', l, rfl, hfc, hfy, hry⟩ := sSrc_out (P := P) h hy hk
  have hry := hry hfl
  obtain ⟨inf, dd, z, hi, hd, hz, hag, hsz, hbb, hzz, _⟩ := kind_of ht
  obtain ⟨hzs, _, _⟩ := zero_cells hzz hzf
  have hsl := kind_slice htt hks
  have hsl' := kind_slice htt' hks'
  have hfc' : FC P w inf.size ys.length (.slice ad' ys.length c') l := by rw [← hsz]; exact hfc
  have hone := rd_oneCells hfc.1 hfy hry hsz0
  have hb' : inf.bytes ≤ 65536 := by omega
  -- a new block
  have grow : ∀ (l0 nv n cap : Nat) (ad : Option Addr) (olds : List Value) (xs : List AV) (fss : List (List Nat)) (deep : Bool),
      FC P w inf.size n (.slice ad n cap) olds → n ≤ xs.length → n + ys.length ≤ 1073741824 → cap < n + ys.length → fss.length = xs.length → (∀ i (h : i < xs.length), fits ti.sh xs[i]) →
      (∀ i (h : i < xs.length), i < n → Own w (if deep then fun _ => False else S) xs[i] (elemV olds (i * ti.sh.sz) ti.sh) (fss.getD i [])) →
      (∀ ver, known m l0 ver → ver < nv) → (∀ b, b ∈ fss.flatten → b ∈ fp l0) → (deep = false → fss.flatten = []) → (fss.flatten).Nodup →
      k (.ref l0 nv 0 (n + ys.length)) ((l0, .row nv ti.sh deep (xs.take n ++ ys)) :: m) →
      Runs B N a (fun x ts' m' => ts' = ts ∧ k x m') ((Builtin.append_ #[t, t'] ty #[.slice ad n cap, .slice ad' ys.length c']).run P w) := by
    intro l0 nv n cap ad olds xs fss deep hfo hn hlim hcap hfsl hff hown hver hfin hdp hnd hk
    refine ⟨_, _, app_grow hsl hsl' hi hz hfo hfc' hcap hlim hb', ?_⟩
    have hge := grownCap_ge w (n + ys.length) cap tt.elem
    have hle : grownCap w (n + ys.length) cap tt.elem ≤ maxLen := grownCap_le_maxLen w _ _ _ (by unfold maxLen; omega)
    generalize hgc : grownCap w (n + ys.length) cap tt.elem = gc at hge hle ⊢
    have hszc : (olds ++ l ++ (Builtin.zeroCells z.cells (gc - (n + ys.length))).toList).toArray.size = gc * ti.sh.sz := by
      rw [List.size_toArray, List.length_append, List.length_append, zeroCells_length, hfo.1, hfc'.1, hzs, ← hsz]
      show n * ti.size + ys.length * ti.size + (gc - (n + ys.length)) * ti.size = gc * ti.size
      rw [← Nat.add_mul, ← Nat.add_mul]; congr 1; omega
    have hnew := new_at w.drew (.cells (olds ++ l ++ (Builtin.zeroCells z.cells (gc - (n + ys.length))).toList).toArray tt.elem)
    rw [World.size_drew] at hnew
    have hold : ∀ b, b < w.heap.size → (w.drew.alloc (.cells (olds ++ l ++ (Builtin.zeroCells z.cells (gc - (n + ys.length))).toList).toArray tt.elem)).heap[b]? = w.heap[b]? := fun b hb => old w.drew _ b hb
    have hws : (w.drew.alloc (.cells (olds ++ l ++ (Builtin.zeroCells z.cells (gc - (n + ys.length))).toList).toArray tt.elem)).heap.size = w.heap.size + 1 := by simp
    have hso : SameOut w (w.drew.alloc (.cells (olds ++ l ++ (Builtin.zeroCells z.cells (gc - (n + ys.length))).toList).toArray tt.elem)) := ⟨rfl, rfl, rfl⟩
    generalize w.drew.alloc (.cells (olds ++ l ++ (Builtin.zeroCells z.cells (gc - (n + ys.length))).toList).toArray tt.elem) = w' at hnew hold hws hso ⊢
    have hpre : ((fss.take n).flatten).Sublist fss.flatten := by
      have : fss.flatten = (fss.take n).flatten ++ (fss.drop n).flatten := by rw [← List.flatten_append, List.take_append_drop]
      rw [this]; exact List.sublist_append_left ..
    have hlen : (xs.take n ++ ys).length = n + ys.length := by simp; omega
    have hown' := app_own (S := if deep = true then fun _ => False else S) (fss := fss) (xs := xs) (ys := ys) (n := n) (cap := gc) hnew hszc hn hge hle hfsl hff hfy rfl (by rw [hfo.1, ← hsz]; rfl) hfc.1
      (fun i hi hin => by
        refine (hown i hi hin).mono (fun c hc => ?_) (fun _ h => h) (fun c hc => hold c (h.fpB l0 c (hfin c (mem_flatten_getD (hfsl ▸ hi) hc))).1)
        cases deep with
        | true => exact hc.elim
        | false => exact hold c (h.sB c hc).1)
      (fun i hi => (hry i hi).mono (fun _ h => h.elim) (fun _ h => h.elim))
    rw [← hlen] at hown'
    refine h.rowNext (b := w.heap.size) (cap := gc) (by omega) hso (Szs.of_same hold) (fun c _ hc => hold c hc) (fun l b sh ver cs e hl hb => ⟨cs, e, by rw [hold b (h.fpB l b (h.at_mem hl)).1]; exact hb, rfl⟩) (.inr ⟨rfl, by omega⟩) hver ?_ (List.mem_cons_self ..) ?_ ?_ hown' ?_ ⟨rfl, hk⟩
    · intro c hc
      rcases List.mem_cons.1 hc with rfl | hc
      · exact .inl rfl
      · exact .inr (hfin c (hpre.subset hc))
    · intro hd
      have := hdp hd
      rw [this] at hpre
      rw [List.sublist_nil.1 hpre]
    · refine List.nodup_cons.2 ⟨fun hc => ?_, hnd.sublist hpre⟩
      have := (h.fpB l0 _ (hfin _ (hpre.subset hc))).1
      omega
    · exact ⟨_, gc, rfl, hge, .inr ⟨rfl, _, _, hnew, hszc⟩⟩
  have nilCase : ∀ ad, (u = .slice ad 0 0) → ys.length ≤ 1073741824 ∧ k (.ref d (newVer m d) 0 ys.length) ((d, .row (newVer m d) ti.sh true ys) :: m) →
      Runs B N a (fun x ts' m' => ts' = ts ∧ k x m') ((Builtin.append_ #[t, t'] ty #[u, .slice ad' ys.length c']).run P w) := by
    rintro ad rfl ⟨hlim, hk⟩
    cases ys with
    | nil => exact ⟨_, _, app_same hsl hsl' hi (Nat.le_refl _), h.nilNext (fun ver hv => known_lt hv) ⟨rfl, hk⟩⟩
    | cons y0 yr =>
      have := grow d (newVer m d) 0 0 ad [] [] [] true (fc_zero _ _ _ _) (Nat.le_refl _) (by omega) (by simp) rfl (fun i hi => absurd hi (Nat.not_lt_zero _)) (fun i hi => absurd hi (Nat.not_lt_zero _))
        (fun ver hv => known_lt hv) (by simp) (by simp) (by simp) (by simpa using hk)
      exact this
  cases x with
  | ref l0 ver i n =>
    simp only [sApp1] at hk
    unfold sAppB at hk
    split at hk
    · rename_i v' sh' deep xs hlk
      obtain ⟨rfl, rfl, rfl, hn, hlim, hk⟩ := hk
      have hr := rv_ref hx
      have hver : ∀ ver, known m l0 ver → ver < v' + 1 := by
        rintro ver ⟨k', h1, h2⟩
        rw [hlk] at h1; cases h1; exact Nat.lt_succ_of_le h2
      rcases h.mSome l0 _ hlk with ⟨h1, h2, h3⟩ | ⟨b, cap0, hφ, hbm, hdp, hown⟩
      · -- no block yet
        subst h2
        obtain ⟨hn0, ad, rfl⟩ := hr.2 h1
        subst hn0
        cases ys with
        | nil => exact ⟨_, _, app_same hsl hsl' hi (Nat.le_refl _), h.nilNext hver ⟨rfl, by simpa using hk⟩⟩
        | cons y0 yr =>
          exact grow l0 (v' + 1) 0 0 ad [] [] [] deep (fc_zero _ _ _ _) (Nat.le_refl _) (by omega) (by simp) rfl (fun i hi => absurd hi (Nat.not_lt_zero _)) (fun i hi => absurd hi (Nat.not_lt_zero _))
            hver (by simp) (by simp) (by simp) (by simpa using hk)
      · obtain ⟨ad, cap, rfl, hnc, hcp⟩ := hr.1 b ti.sh hφ
        obtain ⟨cs, e, fss, hgf, hheap, hcs, hcap, hmx, hff, hfsl, hvv⟩ := row_inv hown hbm
        have hnod := h.nod l0
        rw [hgf] at hnod
        have hnod' := List.nodup_cons.1 hnod
        have hbin : b ∈ fp l0 := hbm
        have hfin : ∀ c, c ∈ fss.flatten → c ∈ fp l0 := fun c hc => by rw [hgf]; exact List.mem_cons_of_mem _ hc
        have hdp' : deep = false → fss.flatten = [] := fun hd => by have := hdp hd; rw [hgf] at this; simpa using this
        have hpre : ((fss.take n).flatten).Sublist fss.flatten := by
          have : fss.flatten = (fss.take n).flatten ++ (fss.drop n).flatten := by rw [← List.flatten_append, List.take_append_drop]
          rw [this]; exact List.sublist_append_left ..
        have hszr : n * ti.sh.sz ≤ cs.size := by rw [hcs]; exact Nat.mul_le_mul_right _ (by omega)
        have seg : ∀ i, i < n → ∀ (hi : i < xs.length), elemV (cs.toList.take (n * ti.sh.sz)) (i * ti.sh.sz) ti.sh = elemV cs.toList (i * ti.sh.sz) ti.sh := by
          intro i hin hi
          have := elemV_seg (l := cs.toList) (off := 0) hin (by simpa using hszr) (fits_sz (hff i hi))
          simpa using this
        by_cases hroom : n + ys.length ≤ cap
        · by_cases hy0 : ys.length = 0
          · -- nothing is appended
            have hys : ys = [] := List.eq_nil_of_length_eq_zero hy0
            subst hys
            refine ⟨_, _, app_same hsl hsl' hi hnc, ?_⟩
            have hown' := app_own (w' := w) (S := if deep = true then fun _ => False else S) (fss := fss) (xs := xs) (ys := []) (n := n) (cap := cap0) (lo := cs.toList.take (n * ti.sh.sz)) (ln := []) (lr := cs.toList.drop (n * ti.sh.sz)) hheap hcs hn (by simpa using Nat.le_trans hn hcap) hmx hfsl hff (fun i hi => absurd hi (Nat.not_lt_zero _))
              (by simp) (by simp; omega) (by simp) (fun i hi hin => by rw [seg i hin hi]; exact hvv i hi) (fun i hi => absurd hi (Nat.not_lt_zero _))
            have hlen : (xs.take n ++ []).length = n + ([] : List AV).length := by simp; omega
            rw [← hlen] at hown'
            refine h.rowNext (b := b) (cap := cap0) (Nat.le_refl _) (SameOut.refl _) (Szs.refl _) (fun _ _ _ => rfl) (fun l b sh ver cs e _ hb => ⟨cs, e, hb, rfl⟩) (.inl hbin) hver ?_ (List.mem_cons_self ..) ?_ ?_ hown' ?_ ⟨rfl, hk⟩
            · intro c hc
              rcases List.mem_cons.1 hc with rfl | hc
              · exact .inl rfl
              · exact .inr (hfin c (hpre.subset hc))
            · intro hd
              rw [hdp' hd] at hpre
              rw [List.sublist_nil.1 hpre]
            · exact List.nodup_cons.2 ⟨fun hc => hnod'.1 (hpre.subset hc), hnod'.2.sublist hpre⟩
            · refine ⟨ad, cap, rfl, hnc, hcp.imp id ?_⟩
              rintro ⟨rfl, cs', e', g1, g2⟩
              exact ⟨by rw [Nat.zero_mul], cs', e', g1, by rw [Nat.zero_add] at g2; exact g2⟩
          · obtain ⟨rfl, cs', e', g1, g2⟩ := hcp.resolve_left (by omega)
            rw [hheap] at g1; cases g1
            rw [Nat.zero_add] at g2
            rw [Nat.zero_mul] at hx ⊢
            have hfit : n * inf.size + l.length ≤ cs.size := by
              rw [hfc'.1, g2, ← hsz, ← Nat.add_mul]; exact Nat.mul_le_mul_right _ hroom
            refine ⟨_, _, app_room hsl hsl' hi hheap hfc' hone hroom hfit, ?_⟩
            have hin' : n * inf.size = n * ti.sh.sz := by rw [← hsz]; rfl
            rw [hin'] at hfit ⊢
            have hsp := size_splice (cs := cs) (o := n * ti.sh.sz) (vs := l) hfit
            have hcapm : cap = cap0 := by
              have : cap * ti.sh.sz = cap0 * ti.sh.sz := by rw [← g2, hcs]
              exact Nat.eq_of_mul_eq_mul_right hsz0 this
            subst hcapm
            have hown' := app_own (w' := w.setRow b _) (S := if deep = true then fun _ => False else S) (fss := fss) (xs := xs) (ys := ys) (n := n) (cap := cap) (heap_setRow hheap (cs.toList.take (n * ti.sh.sz) ++ l ++ cs.toList.drop (n * ti.sh.sz + l.length)).toArray) (by rw [hsp]; exact hcs) hn hroom hmx hfsl hff hfy
              rfl (by simp; omega) hfc.1 (fun i hi hin => by
                rw [seg i hin hi]
                refine (hvv i hi).mono (fun c hc => ?_) (fun _ h => h) (fun c hc => heap_setRow_other (b := b) _ fun e => hnod'.1 (by rw [← e]; exact mem_flatten_getD (hfsl ▸ hi) hc))
                cases deep with
                | true => exact hc.elim
                | false => exact heap_setRow_other (b := b) _ fun e => h.notS l0 b hbin (by rw [← e]; exact hc))
              (fun i hi => (hry i hi).mono (fun _ h => h.elim) (fun _ h => h.elim))
            have hlen : (xs.take n ++ ys).length = n + ys.length := by simp; omega
            rw [← hlen] at hown'
            refine h.rowNext (b := b) (cap := cap) (by simp) ⟨rfl, rfl, rfl⟩ (Szs.setRow hheap hsp) (fun c hc _ => heap_setRow_other _ hc) (Sized.setRow φ hheap hsp) (.inl hbin) hver ?_ (List.mem_cons_self ..) ?_ ?_ hown' ?_ ⟨rfl, hk⟩
            · intro c hc
              rcases List.mem_cons.1 hc with rfl | hc
              · exact .inl rfl
              · exact .inr (hfin c (hpre.subset hc))
            · intro hd
              rw [hdp' hd] at hpre
              rw [List.sublist_nil.1 hpre]
            · exact List.nodup_cons.2 ⟨fun hc => hnod'.1 (hpre.subset hc), hnod'.2.sublist hpre⟩
            · exact ⟨_, cap, rfl, hroom, .inr ⟨rfl, _, _, heap_setRow hheap _, by rw [hsp]; exact hcs⟩⟩
        · -- it grows
          have hfo : ∃ olds, FC P w inf.size n (.slice ad n cap) olds ∧ ∀ i (h : i < xs.length), i < n → Own w (if deep then fun _ => False else S) xs[i] (elemV olds (i * ti.sh.sz) ti.sh) (fss.getD i []) := by
            by_cases hn0 : n = 0
            · subst hn0
              exact ⟨[], fc_zero _ _ _ _, fun i _ hi => absurd hi (Nat.not_lt_zero _)⟩
            · obtain ⟨rfl, cs', e', g1, g2⟩ := hcp.resolve_left (by omega)
              rw [Nat.zero_mul]
              refine ⟨_, fc_at hheap (by rw [Nat.zero_add, ← hsz]; exact hszr), fun i hi hin => ?_⟩
              rw [List.drop_zero, ← hsz]
              have := seg i hin hi
              simp only [TI.sh] at this ⊢
              rw [this]
              exact hvv i hi
          obtain ⟨olds, hfo, hoo⟩ := hfo
          exact grow l0 (v' + 1) n cap ad olds xs fss deep hfo hn hlim (by omega) hfsl hff hoo hver hfin hdp' hnod'.2 hk
    · exact hk.elim
  | e0 => obtain ⟨ad, rfl⟩ := rv_e0 hx; exact nilCase ad rfl hk.2
  | val u' =>
    obtain ⟨h1, hk2⟩ := hk
    obtain ⟨rfl, _⟩ := rv_val hx
    unfold isNil at h1
    split at h1
    · rename_i he; cases he
    · rename_i he; cases he; exact nilCase _ rfl hk2
    · cases h1
  | undef => exact absurd hk.1 (by simp [isNil])
  | arr sh xs => exact absurd hk.1 (by simp [isNil])
  | agg xs => exact absurd hk.1 (by simp [isNil])
  | tup xs => exact absurd hk.1 (by simp [isNil])
  | ptr l v i j => exact absurd hk.1 (by simp [isNil])
  | eptr sh xs i j => exact absurd hk.1 (by simp [isNil])
  | clo f xs => exact absurd hk.1 (by simp [isNil])

end
end Go.Vc
