/-
  Loops: the state at a loop's head; functions.
-/
import Derived.Test.YtlelhmbhhnokoaaDoorVcCode
import Derived.Deep.LoopGhost
set_option linter.unusedVariables false
set_option linter.unusedSimpArgs false
set_option linter.unnecessarySimpa false
namespace Go.Vc

/- what may be forgotten at a loop's head -/
def verIs (b : Option Blk) (v : Nat) : Prop := match b with | some (.gone _) => False | some k => k.ver = v | none => False
theorem verIs_row (u v : Nat) (sh : Sh) (d : Bool) (xs : List AV) : verIs (some (.row u sh d xs)) v = (u = v) := rfl
theorem verIs_box (u v : Nat) (xs : List AV) : verIs (some (.box u xs)) v = (u = v) := rfl
def noBlk (b : Option Blk) : Prop := match b with | none => True | some (.gone _) => True | _ => False
theorem noBlk_none : noBlk none = True := rfl
theorem noBlk_gone (v : Nat) : noBlk (some (.gone v)) = True := rfl

def refArr (b b2 : Option Blk) (l ver i n : Nat) (sh : Sh) (ys : List AV) : Prop := match b, b2 with
  | some (.row v sh' _ xs), none => v = ver ∧ sh' = sh ∧ i + n ≤ xs.length ∧ (xs.drop i).take n = ys ∧ l < ioL
  | _, _ => False
theorem refArr_eq (l ver i n : Nat) (sh : Sh) (d : Bool) (xs ys : List AV) : refArr (some (.row ver sh d xs)) none l ver i n sh ys = (i + n ≤ xs.length ∧ (xs.drop i).take n = ys ∧ l < ioL) := by simp [refArr]

def refV (m m2 : Mem) : AV → AV → Prop
  | _, .undef => True
  | .val u, .val v => u = v
  | .e0, .e0 => True
  | .arr sh xs, .arr sh' ys => sh = sh' ∧ xs = ys
  | .ref l ver i n, .arr sh ys => refArr (lookB m l) (lookB m2 l) l ver i n sh ys
  | .e0, .arr _ ys => ys = []
  | .val (.slice none 0 0), .arr _ ys => ys = []
  | .ref l ver i n, .ref l' ver' i' n' => (l = l' ∧ i = i' ∧ n = n') ∧ verIs (lookB m l) ver ∧ verIs (lookB m2 l) ver'
  | .e0, .ref l' ver' i' n' => (i' = 0 ∧ n' = 0) ∧ noBlk (lookB m l') ∧ verIs (lookB m2 l') ver'
  | .val (.slice none 0 0), .ref l' ver' i' n' => (i' = 0 ∧ n' = 0) ∧ noBlk (lookB m l') ∧ verIs (lookB m2 l') ver'
  | .ptr l ver i j, .ptr l' ver' i' j' => (l = l' ∧ i = i' ∧ j = j') ∧ verIs (lookB m l) ver ∧ verIs (lookB m2 l) ver'
  | .eptr sh xs i j, .eptr sh' ys i' j' => sh = sh' ∧ xs = ys ∧ i = i' ∧ j = j'
  | _, _ => False
section
variable (m m2 : Mem)
theorem refV_undef (x : AV) : refV m m2 x .undef = True := by cases x <;> rfl
theorem refV_val (u v : Value) : refV m m2 (.val u) (.val v) = (u = v) := by cases u <;> rfl
theorem refV_e0 : refV m m2 .e0 .e0 = True := rfl
theorem refV_arr (sh : Sh) (xs ys : List AV) : refV m m2 (.arr sh xs) (.arr sh ys) = (xs = ys) := by simp [refV]
theorem refV_refArr (l ver i n : Nat) (sh : Sh) (ys : List AV) : refV m m2 (.ref l ver i n) (.arr sh ys) = refArr (lookB m l) (lookB m2 l) l ver i n sh ys := rfl
theorem refV_e0Arr (sh : Sh) (ys : List AV) : refV m m2 .e0 (.arr sh ys) = (ys = []) := rfl
theorem refV_nilArr (sh : Sh) (ys : List AV) : refV m m2 (.val (.slice none 0 0)) (.arr sh ys) = (ys = []) := rfl
theorem refV_ref (l ver i n ver' i' n' : Nat) : refV m m2 (.ref l ver i n) (.ref l ver' i' n') = ((i = i' ∧ n = n') ∧ verIs (lookB m l) ver ∧ verIs (lookB m2 l) ver') := by simp [refV]
theorem refV_e0Ref (l' ver' i' n' : Nat) : refV m m2 .e0 (.ref l' ver' i' n') = ((i' = 0 ∧ n' = 0) ∧ noBlk (lookB m l') ∧ verIs (lookB m2 l') ver') := rfl
theorem refV_nilRef (l' ver' i' n' : Nat) : refV m m2 (.val (.slice none 0 0)) (.ref l' ver' i' n') = ((i' = 0 ∧ n' = 0) ∧ noBlk (lookB m l') ∧ verIs (lookB m2 l') ver') := rfl
theorem refV_ptr (l ver i j ver' i' j' : Nat) : refV m m2 (.ptr l ver i j) (.ptr l ver' i' j') = ((i = i' ∧ j = j') ∧ verIs (lookB m l) ver ∧ verIs (lookB m2 l) ver') := by simp [refV]
end

def refC (m m2 : Mem) : List AV → List AV → Prop
  | [], [] => True
  | x :: xs, y :: ys => (refV m m2 x y ∧ leaf y) ∧ refC m m2 xs ys
  | _, _ => False
theorem refC_nil (m m2 : Mem) : refC m m2 [] [] = True := rfl
theorem refC_cons (m m2 : Mem) (x y : AV) (xs ys : List AV) : refC m m2 (x :: xs) (y :: ys) = ((refV m m2 x y ∧ leaf y) ∧ refC m m2 xs ys) := rfl
def refV1 (m m2 : Mem) : AV → AV → Prop
  | .clo f xs, .clo g ys => f = g ∧ refC m m2 xs ys
  | x, y => refV m m2 x y
theorem refV1_clo (m m2 : Mem) (f g : FuncId) (xs ys : List AV) : refV1 m m2 (.clo f xs) (.clo g ys) = (f = g ∧ refC m m2 xs ys) := rfl
theorem refV1_undef (m m2 : Mem) (x : AV) : refV1 m m2 x .undef = True := by cases x <;> rfl
theorem refV1_val (m m2 : Mem) (x : AV) (v : Value) : refV1 m m2 x (.val v) = refV m m2 x (.val v) := by cases x <;> rfl
theorem refV1_e0 (m m2 : Mem) (x : AV) : refV1 m m2 x .e0 = refV m m2 x .e0 := by cases x <;> rfl
theorem refV1_arr (m m2 : Mem) (x : AV) (sh : Sh) (ys : List AV) : refV1 m m2 x (.arr sh ys) = refV m m2 x (.arr sh ys) := by cases x <;> rfl
theorem refV1_ref (m m2 : Mem) (x : AV) (l v i n : Nat) : refV1 m m2 x (.ref l v i n) = refV m m2 x (.ref l v i n) := by cases x <;> rfl
theorem refV1_ptr (m m2 : Mem) (x : AV) (l v i n : Nat) : refV1 m m2 x (.ptr l v i n) = refV m m2 x (.ptr l v i n) := by cases x <;> rfl
theorem refV1_eptr (m m2 : Mem) (x : AV) (sh : Sh) (ys : List AV) (i j : Nat) : refV1 m m2 x (.eptr sh ys i j) = refV m m2 x (.eptr sh ys i j) := by cases x <;> rfl
def refL (m m2 : Mem) : List AV → List AV → Prop
  | [], [] => True
  | x :: xs, y :: ys => (refV1 m m2 x y ∧ leaf y) ∧ refL m m2 xs ys
  | _, _ => False
theorem refL_nil (m m2 : Mem) : refL m m2 [] [] = True := rfl
theorem refL_cons (m m2 : Mem) (x y : AV) (xs ys : List AV) : refL m m2 (x :: xs) (y :: ys) = ((refV1 m m2 x y ∧ leaf y) ∧ refL m m2 xs ys) := rfl
theorem leaf_val (v : Value) : leaf (.val v) = True := rfl
theorem leaf_e0 : leaf .e0 = True := rfl
theorem leaf_arr (sh : Sh) (xs : List AV) : leaf (.arr sh xs) = True := rfl
theorem leaf_ref (l v i n : Nat) : leaf (.ref l v i n) = True := rfl
theorem leaf_clo (f : FuncId) (xs : List AV) : leaf (.clo f xs) = True := rfl
theorem leaf_ptr (l v i n : Nat) : leaf (.ptr l v i n) = True := rfl

/-- a temporary that holds a struct -/
def refA (m m2 : Mem) : AV → AV → Prop
  | .agg xs, .agg ys => refL m m2 xs ys
  | .clo f xs, .clo g ys => f = g ∧ refC m m2 xs ys
  | x, y => refV m m2 x y
theorem refA_clo (m m2 : Mem) (f g : FuncId) (xs ys : List AV) : refA m m2 (.clo f xs) (.clo g ys) = (f = g ∧ refC m m2 xs ys) := rfl
theorem refA_agg (m m2 : Mem) (xs ys : List AV) : refA m m2 (.agg xs) (.agg ys) = refL m m2 xs ys := rfl
theorem refA_undef (m m2 : Mem) (x : AV) : refA m m2 x .undef = True := by cases x <;> rfl
theorem refA_val (m m2 : Mem) (x : AV) (v : Value) : refA m m2 x (.val v) = refV m m2 x (.val v) := by cases x <;> rfl
theorem refA_e0 (m m2 : Mem) (x : AV) : refA m m2 x .e0 = refV m m2 x .e0 := by cases x <;> rfl
theorem refA_arr (m m2 : Mem) (x : AV) (sh : Sh) (ys : List AV) : refA m m2 x (.arr sh ys) = refV m m2 x (.arr sh ys) := by cases x <;> rfl
theorem refA_ref (m m2 : Mem) (x : AV) (l v i n : Nat) : refA m m2 x (.ref l v i n) = refV m m2 x (.ref l v i n) := by cases x <;> rfl
theorem refA_ptr (m m2 : Mem) (x : AV) (l v i n : Nat) : refA m m2 x (.ptr l v i n) = refV m m2 x (.ptr l v i n) := by cases x <;> rfl

def refE (ts : Env) (m m2 : Mem) : Env → Prop
  | [] => True
  | (t, v) :: r => refA m m2 (look ts t) v ∧ refE ts m m2 r
theorem refE_nil (ts : Env) (m m2 : Mem) : refE ts m m2 [] = True := rfl
theorem refE_cons (ts : Env) (m m2 : Mem) (t : Nat) (v : AV) (r : Env) : refE ts m m2 ((t, v) :: r) = (refA m m2 (look ts t) v ∧ refE ts m m2 r) := rfl

def refB (m m2 : Mem) (b : Option Blk) (b2 : Blk) : Prop := match b, b2 with
  | some (.row _ sh d xs), .row _ sh2 d2 xs2 => sh = sh2 ∧ d = d2 ∧ xs = xs2
  | some (.box _ xs), .box _ ys => refL m m2 xs ys
  | none, .row _ _ _ xs => xs = []
  | some (.gone _), .row _ _ _ xs => xs = []
  | _, _ => False
section
variable (m m2 : Mem)
theorem refB_row (v v2 : Nat) (sh : Sh) (d : Bool) (xs xs2 : List AV) : refB m m2 (some (.row v sh d xs)) (.row v2 sh d xs2) = (xs = xs2) := by simp [refB]
theorem refB_box (v v2 : Nat) (xs xs2 : List AV) : refB m m2 (some (.box v xs)) (.box v2 xs2) = refL m m2 xs xs2 := rfl
theorem refB_none (v2 : Nat) (sh : Sh) (d : Bool) (xs2 : List AV) : refB m m2 none (.row v2 sh d xs2) = (xs2 = []) := rfl
theorem refB_gone (v v2 : Nat) (sh : Sh) (d : Bool) (xs2 : List AV) : refB m m2 (some (.gone v)) (.row v2 sh d xs2) = (xs2 = []) := rfl
end
def refM (m m2 : Mem) : Mem → Prop
  | [] => True
  | (l, b) :: r => refB m m2 (lookB m l) b ∧ refM m m2 r
theorem refM_nil (m m2 : Mem) : refM m m2 [] = True := rfl
theorem refM_cons (m m2 : Mem) (l : Nat) (b : Blk) (r : Mem) : refM m m2 ((l, b) :: r) = (refB m m2 (lookB m l) b ∧ refM m m2 r) := rfl

/- the caller's blocks keep their versions -/
def sameVer (b b2 : Option Blk) : Prop := match b, b2 with
  | some (.row v _ _ _), some (.row v2 _ _ _) => v = v2
  | some (.box v _), some (.box v2 _) => v = v2
  | _, _ => False
theorem sameVer_rr (v v2 : Nat) (sh sh2 : Sh) (d d2 : Bool) (xs xs2 : List AV) : sameVer (some (.row v sh d xs)) (some (.row v2 sh2 d2 xs2)) = (v = v2) := rfl
theorem sameVer_bb (v v2 : Nat) (xs xs2 : List AV) : sameVer (some (.box v xs)) (some (.box v2 xs2)) = (v = v2) := rfl
def keepIo (l : Nat) (b b2 : Option Blk) : Prop := l < ioL ∨ sameVer b b2
theorem keepIo_eq (l : Nat) (b b2 : Option Blk) : keepIo l b b2 = (l < 1000000000 ∨ sameVer b b2) := rfl
def refK (m m2 : Mem) : Mem → Prop
  | [] => True
  | (l, _) :: r => keepIo l (lookB m l) (lookB m2 l) ∧ refK m m2 r
theorem refK_nil (m m2 : Mem) : refK m m2 [] = True := rfl
theorem refK_cons (m m2 : Mem) (l : Nat) (b : Blk) (r : Mem) : refK m m2 ((l, b) :: r) = (keepIo l (lookB m l) (lookB m2 l) ∧ refK m m2 r) := rfl
theorem refK_get {m m2 : Mem} : ∀ {r : Mem}, refK m m2 r → ∀ {l : Nat} {b : Blk}, lookB r l = some b → keepIo l (lookB m l) (lookB m2 l)
  | [], _, l, b, hb => by rw [lookB_nil] at hb; cases hb
  | (l0, b0) :: r, h, l, b, hb => by
    rw [lookB_cons] at hb
    split at hb
    · rename_i e; subst e; exact h.1
    · exact refK_get h.2 hb

/-- (ts, m) may be taken for (ts2, m2). -/
def refS (ts : Env) (m : Mem) (ts2 : Env) (m2 : Mem) : Prop := refE ts m m2 ts2 ∧ refM m m2 m2 ∧ refK m m2 m
theorem refS_eq (ts : Env) (m : Mem) (ts2 : Env) (m2 : Mem) : refS ts m ts2 m2 = (refE ts m m2 ts2 ∧ refM m m2 m2 ∧ refK m m2 m) := rfl

section
variable {P : Program} {B : Base} {N : Nat} {φ : Nat → LS} {fp : Nat → List Nat} {S : Nat → Prop} {ts : Env} {m : Mem} {a : Act} {w : World}

theorem refM_get {m m2 : Mem} : ∀ {r : Mem}, refM m m2 r → ∀ {l : Nat} {b : Blk}, lookB r l = some b → refB m m2 (lookB m l) b
  | [], _, l, b, h => by cases h
  | (l0, b0) :: r, h, l, b, hb => by
    rw [lookB_cons] at hb
    split at hb
    · rename_i e; subst e; cases hb; exact h.1
    · exact refM_get h.2 hb
theorem refE_get {ts : Env} {m m2 : Mem} : ∀ {r : Env}, refE ts m m2 r → ∀ t, refA m m2 (look ts t) (look r t)
  | [], _, t => by rw [look_nil, refA_undef]; trivial
  | (t0, v) :: r, h, t => by
    rw [look_cons]
    split
    · rename_i e; subst e; exact h.1
    · exact refE_get h.2 t

/-- how the labels lie in the state that is taken -/
def newφ (φ : Nat → LS) (m2 : Mem) : Nat → LS := fun l => match lookB m2 l with
  | none => .dead
  | some k => match φ l with
    | .at b sh _ => .at b sh k.ver
    | _ => .nil k.ver
def newfp (fp : Nat → List Nat) (m2 : Mem) : Nat → List Nat := fun l => match lookB m2 l with | none => [] | some _ => fp l
def newS (S : Nat → Prop) (fp : Nat → List Nat) (m2 : Mem) : Nat → Prop := fun b => S b ∨ ∃ l, lookB m2 l = none ∧ l < ioL ∧ b ∈ fp l

theorem known_of_verIs {m2 : Mem} {l v : Nat} (h : verIs (lookB m2 l) v) : known m2 l v := by
  unfold verIs at h
  split at h
  · exact h.elim
  · rename_i k hn hk; exact ⟨k, hk, Nat.le_of_eq h.symm⟩
  · exact h.elim

theorem refV_out (h : RS B N φ fp S ts m a w) {m2 : Mem} {x y : AV} {v : Value} (hx : RV w S φ x v) (hr : refV m m2 x y) :
    RV w (newS S fp m2) (newφ φ m2) y v ∧ ∀ l ver, (l, ver) ∈ labs y → known m2 l ver := by
  have hS : ∀ b, S b → newS S fp m2 b := fun b hb => .inl hb
  have nolab : ∀ {y : AV} {v : Value}, Rd w S y v → RV w (newS S fp m2) (newφ φ m2) y v ∧ ∀ l ver, (l, ver) ∈ labs y → known m2 l ver := by
    intro y v hy
    exact ⟨.rd _ _ (hy.mono (fun _ _ => rfl) hS), fun l ver hl => by rw [labs_rd hy] at hl; cases hl⟩
  have nilref : ∀ {v : Value} {l' ver' i' n' : Nat}, (∃ ad, v = .slice ad 0 0) → (i' = 0 ∧ n' = 0) ∧ noBlk (lookB m l') ∧ verIs (lookB m2 l') ver' →
      RV w (newS S fp m2) (newφ φ m2) (.ref l' ver' i' n') v ∧ ∀ l ver, (l, ver) ∈ labs (.ref l' ver' i' n') → known m2 l ver := by
    rintro v l' ver' i' n' ⟨ad, rfl⟩ ⟨⟨rfl, rfl⟩, hnb, hv⟩
    refine ⟨.ref _ _ _ _ _ (fun b sh hb => ?_) (fun _ => ⟨rfl, ad, rfl⟩) rfl, fun l ver hl => ?_⟩
    · have hd : φ l' = .dead := by
        unfold noBlk at hnb
        split at hnb
        · rename_i hk; exact (h.mNone l' hk).1
        · rename_i v hk; exact (h.mSome l' _ hk).1
        · exact hnb.elim
      unfold newφ at hb
      split at hb
      · cases hb
      · rw [hd] at hb; cases hb
    · simp only [labs, List.mem_singleton, Prod.mk.injEq] at hl
      obtain ⟨rfl, rfl⟩ := hl
      exact known_of_verIs hv
  unfold refV at hr
  split at hr
  · exact ⟨.rd _ _ (.undef _), fun _ _ hl => by cases hl⟩
  · subst hr
    obtain ⟨rfl, h1⟩ := rv_val hx
    exact nolab (.val _ h1)
  · obtain ⟨ad, rfl⟩ := rv_e0 hx
    exact nolab (.e0 _)
  · obtain ⟨rfl, rfl⟩ := hr
    exact nolab (rv_arr hx)
  · rename_i l ver i n sh ys
    unfold refArr at hr
    split at hr
    · rename_i v' sh' d xs hlk hlk2
      obtain ⟨rfl, rfl, hin, rfl, hio⟩ := hr
      refine ⟨.rd _ _ ?_, fun _ _ hl => by cases hl⟩
      have hlen : ((xs.drop i).take n).length = n := by simp; omega
      have hrr := rv_ref hx
      rcases h.mSome l _ hlk with ⟨h1, h2, h3⟩ | ⟨b, cap, hφ, hbm, hdp, hown⟩
      · obtain ⟨rfl, ad, rfl⟩ := hrr.2 h1
        rw [List.take_zero]; exact .nil _ _
      · obtain ⟨ad, cp, rfl, hnc, hcp⟩ := hrr.1 b sh' hφ
        obtain ⟨cs, e, fss, hgf, hheap, hcs, hcap, hmx, hff, hfl, hvv⟩ := row_inv hown hbm
        by_cases hc0 : cp = 0
        · have : n = 0 := by omega
          subst this; subst hc0
          rw [List.take_zero]; exact .nil _ _
        · obtain ⟨rfl, cs', e', g1, g2⟩ := hcp.resolve_left hc0
          rw [hheap] at g1; cases g1
          have hroom : i * sh'.sz + n * sh'.sz ≤ cs.size := by
            rw [g2, ← Nat.add_mul]; exact Nat.mul_le_mul_right _ (by omega)
          have hin2 : ∀ c, c ∈ fp l → newS S fp m2 c := fun c hc => .inr ⟨l, hlk2, hio, hc⟩
          have := Rd.arr (w := w) (S := newS S fp m2) sh' ((xs.drop i).take n) b (i * sh'.sz) cp cs e (0, 0) (hin2 b hbm) hheap (by rw [hlen]; exact hnc) (by rw [hlen]; exact hroom)
            (fun q hq => by rw [hlen] at hq; simp only [List.getElem_take, List.getElem_drop]; exact hff _ (by omega))
            (fun q hq => by
              rw [hlen] at hq
              simp only [List.getElem_take, List.getElem_drop]
              have := (hvv (i + q) (by omega)).rd_of (S' := newS S fp m2) (fun c hc => by
                cases d with
                | true => exact hc.elim
                | false => exact hS c hc) (fun c hc => hin2 c (by rw [hgf]; exact List.mem_cons_of_mem _ (mem_flatten_getD (by omega) hc)))
              rwa [Nat.add_mul] at this)
          rw [hlen] at this
          exact this
    · exact hr.elim
  · obtain ⟨ad, rfl⟩ := rv_e0 hx
    subst hr
    exact nolab (.nil _ _)
  · obtain ⟨rfl, _⟩ := rv_val hx
    subst hr
    exact nolab (.nil _ _)
  · rename_i l ver i n l' ver' i' n'
    obtain ⟨⟨rfl, rfl, rfl⟩, hv1, hv2⟩ := hr
    have hrr := rv_ref hx
    have hlab : ∀ l' v', (l', v') ∈ labs (.ref l ver' i n) → known m2 l' v' := by
      intro l' v' hl
      simp only [labs, List.mem_singleton, Prod.mk.injEq] at hl
      obtain ⟨rfl, rfl⟩ := hl
      exact known_of_verIs hv2
    have hone : v.oneCell' = true := hx.leaf_oneCell trivial
    refine ⟨.ref _ _ _ _ _ (fun b sh hb => ?_) (fun hb => ?_) hone, hlab⟩
    · unfold newφ at hb
      split at hb
      · cases hb
      · rename_i k hk
        split at hb
        · rename_i b' sh' v' hφ
          cases hb
          -- the version of the block that lies there
          obtain ⟨k0, hk0, hk0v⟩ := h.lookB_ne hφ
          have hvv : v' = ver := by
            rw [hk0] at hv1
            cases k0 <;> first | exact hv1.elim | exact hk0v.symm.trans hv1
          subst hvv
          exact hrr.1 _ _ hφ
        · cases hb
    · unfold newφ at hb
      split at hb
      · cases hb
      · rename_i k hk
        split at hb
        · cases hb
        · rename_i hne
          -- no block lies there: the label is nil
          unfold verIs at hv1
          split at hv1
          · exact hv1.elim
          · rename_i k0 hng hk0
            have hb0 := h.mSome l k0 hk0
            cases k0 with
            | gone => exact absurd rfl (hng _)
            | row v0 sh d xs =>
              rcases hb0 with ⟨h1, _⟩ | ⟨b, cap, hφ, _⟩
              · have hv1 : v0 = ver := hv1
                subst hv1
                exact hrr.2 h1
              · exact absurd hφ (hne _ _ _)
            | box v0 xs => obtain ⟨b, cs, e, sh, hφ, _⟩ := hb0; exact absurd hφ (hne _ _ _)
            | lent v0 xs i0 u0 => obtain ⟨b, cap, cs, e, fr, hφ, _⟩ := hb0; exact absurd hφ (hne _ _ _)
          · exact hv1.elim
  · exact nilref (rv_e0 hx) hr
  · obtain ⟨rfl, _⟩ := rv_val hx
    exact nilref ⟨_, rfl⟩ hr
  · rename_i l ver i j l' ver' i' j'
    obtain ⟨⟨rfl, rfl, rfl⟩, hv1, hv2⟩ := hr
    have hrr := rv_ptr hx
    have hr2 := rv_ptr2 hx
    refine ⟨.ptr _ _ _ _ _ (fun b sh hb => ?_) (fun hb => ?_) hr2.2, fun l' v' hl => ?_⟩
    · unfold newφ at hb
      split at hb
      · cases hb
      · split at hb
        · rename_i b' sh' v' hφ
          cases hb
          obtain ⟨k0, hk0, hk0v⟩ := h.lookB_ne hφ
          have hvv : v' = ver := by
            rw [hk0] at hv1
            cases k0 <;> first | exact hv1.elim | exact hk0v.symm.trans hv1
          subst hvv
          exact hrr _ _ hφ
        · cases hb
    · unfold newφ at hb
      split at hb
      · cases hb
      · split at hb
        · cases hb
        · rename_i hne
          unfold verIs at hv1
          split at hv1
          · exact hv1.elim
          · rename_i k0 hng hk0
            have hb0 := h.mSome l k0 hk0
            cases k0 with
            | gone => exact absurd rfl (hng _)
            | row v0 sh d xs =>
              rcases hb0 with ⟨h1, _⟩ | ⟨b, cap, hφ, _⟩
              · have hv1 : v0 = ver := hv1
                subst hv1
                exact hr2.1 h1
              · exact absurd hφ (hne _ _ _)
            | box v0 xs => obtain ⟨b, cs, e, sh, hφ, _⟩ := hb0; exact absurd hφ (hne _ _ _)
            | lent v0 xs i0 u0 => obtain ⟨b, cap, cs, e, fr, hφ, _⟩ := hb0; exact absurd hφ (hne _ _ _)
          · exact hv1.elim
    · simp only [labs, List.mem_singleton, Prod.mk.injEq] at hl
      obtain ⟨rfl, rfl⟩ := hl
      exact known_of_verIs hv2
  · obtain ⟨rfl, rfl, rfl, rfl⟩ := hr
    exact nolab (rv_eptr hx)
  · exact hr.elim

theorem refC_out (h : RS B N φ fp S ts m a w) {m2 : Mem} : ∀ (xs ys : List AV) (vs : List Value), refC m m2 xs ys → vs.length = xs.length → (∀ i (hi : i < xs.length), RV w S φ xs[i] (vs.getD i Go.undef)) →
    ys.length = xs.length ∧ (∀ i (hi : i < ys.length), leaf ys[i]) ∧ (∀ i (hi : i < ys.length), RV w (newS S fp m2) (newφ φ m2) ys[i] (vs.getD i Go.undef)) ∧ ∀ l ver, (l, ver) ∈ labsL ys → known m2 l ver
  | [], [], vs, _, _, _ => ⟨rfl, fun i hi => absurd hi (Nat.not_lt_zero _), fun i hi => absurd hi (Nat.not_lt_zero _), fun _ _ hl => by cases hl⟩
  | x :: xs, y :: ys, vs, hr, hv, hx => by
    cases vs with
    | nil => simp at hv
    | cons v vs =>
      obtain ⟨⟨h1, h2⟩, h3⟩ := hr
      obtain ⟨g1, g2⟩ := refV_out h (hx 0 (by simp)) h1
      obtain ⟨q1, q2, q3, q4⟩ := refC_out h xs ys vs h3 (by simpa using hv) (fun i hi => by have := hx (i + 1) (by simpa using hi); exact this)
      refine ⟨by simp [q1], fun i hi => ?_, fun i hi => ?_, fun l ver hl => ?_⟩
      · cases i with
        | zero => exact h2
        | succ i => exact q2 i (by simpa using hi)
      · cases i with
        | zero => exact g1
        | succ i => exact q3 i (by simpa using hi)
      · simp only [labsL, List.mem_append] at hl
        rcases hl with hl | hl
        · exact g2 l ver hl
        · exact q4 l ver hl
  | [], _ :: _, _, hr, _, _ => hr.elim
  | _ :: _, [], _, hr, _, _ => hr.elim

theorem refV1_out (h : RS B N φ fp S ts m a w) {m2 : Mem} {x y : AV} {v : Value} (hx : RV w S φ x v) (hr : refV1 m m2 x y) :
    RV w (newS S fp m2) (newφ φ m2) y v ∧ ∀ l ver, (l, ver) ∈ labs y → known m2 l ver := by
  unfold refV1 at hr
  split at hr
  · rename_i f xs g ys
    obtain ⟨rfl, hr⟩ := hr
    obtain ⟨cs, rfl, h1, h3⟩ := rv_clo hx
    obtain ⟨q1, q2, q3, q4⟩ := refC_out h xs ys cs.toList hr (by simpa using h1) h3
    exact ⟨.clo _ _ _ (by omega) q3, fun l ver hl => q4 l ver (by simpa [labs] using hl)⟩
  · exact refV_out h hx hr

theorem refL_out (h : RS B N φ fp S ts m a w) {m2 : Mem} : ∀ (xs ys : List AV) (vs : List Value), refL m m2 xs ys → vs.length = xs.length → (∀ i (hi : i < xs.length), RV w S φ xs[i] (vs.getD i Go.undef)) →
    ys.length = xs.length ∧ (∀ i (hi : i < ys.length), leaf ys[i]) ∧ (∀ i (hi : i < ys.length), RV w (newS S fp m2) (newφ φ m2) ys[i] (vs.getD i Go.undef)) ∧ ∀ l ver, (l, ver) ∈ labsL ys → known m2 l ver
  | [], [], vs, _, _, _ => ⟨rfl, fun i hi => absurd hi (Nat.not_lt_zero _), fun i hi => absurd hi (Nat.not_lt_zero _), fun _ _ hl => by cases hl⟩
  | x :: xs, y :: ys, vs, hr, hv, hx => by
    cases vs with
    | nil => simp at hv
    | cons v vs =>
      obtain ⟨⟨h1, h2⟩, h3⟩ := hr
      obtain ⟨g1, g2⟩ := refV1_out h (hx 0 (by simp)) h1
      obtain ⟨q1, q2, q3, q4⟩ := refL_out h xs ys vs h3 (by simpa using hv) (fun i hi => by have := hx (i + 1) (by simpa using hi); exact this)
      refine ⟨by simp [q1], fun i hi => ?_, fun i hi => ?_, fun l ver hl => ?_⟩
      · cases i with
        | zero => exact h2
        | succ i => exact q2 i (by simpa using hi)
      · cases i with
        | zero => exact g1
        | succ i => exact q3 i (by simpa using hi)
      · simp only [labsL, List.mem_append] at hl
        rcases hl with hl | hl
        · exact g2 l ver hl
        · exact q4 l ver hl
  | [], _ :: _, _, hr, _, _ => hr.elim
  | _ :: _, [], _, hr, _, _ => hr.elim

theorem refA_out (h : RS B N φ fp S ts m a w) {m2 : Mem} {x y : AV} {v : Value} (hx : RV w S φ x v) (hr : refA m m2 x y) :
    RV w (newS S fp m2) (newφ φ m2) y v ∧ ∀ l ver, (l, ver) ∈ labs y → known m2 l ver := by
  unfold refA at hr
  split at hr
  · rename_i xs ys
    obtain ⟨cs, rfl, h1, h2, h3⟩ := rv_agg hx
    obtain ⟨q1, q2, q3, q4⟩ := refL_out h xs ys cs.toList hr (by simpa using h1) h3
    exact ⟨.agg _ _ (by omega) q2 q3, fun l ver hl => q4 l ver (by simpa [labs] using hl)⟩
  · rename_i f xs g ys
    obtain ⟨rfl, hr⟩ := hr
    obtain ⟨cs, rfl, h1, h3⟩ := rv_clo hx
    obtain ⟨q1, q2, q3, q4⟩ := refC_out h xs ys cs.toList hr (by simpa using h1) h3
    exact ⟨.clo _ _ _ (by omega) q3, fun l ver hl => q4 l ver (by simpa [labs] using hl)⟩
  · exact refV_out h hx hr

theorem RS.refine (h : RS B N φ fp S ts m a w) {ts2 : Env} {m2 : Mem} (hr : refS ts m ts2 m2) : RS B N (newφ φ m2) (newfp fp m2) (newS S fp m2) ts2 m2 a w := by
  obtain ⟨hE, hM, hK⟩ := hr
  have keeps : ∀ l ver, ioL ≤ l → known m l ver → ∃ k k2, lookB m l = some k ∧ lookB m2 l = some k2 ∧ k.ver = k2.ver ∧ ver ≤ k.ver ∧ ∀ v, k ≠ .gone v := by
    rintro l ver hl ⟨k, hk, hv⟩
    rcases refK_get hK hk with hh | hh
    · exact absurd hh (Nat.not_lt.2 hl)
    · rw [hk] at hh
      unfold sameVer at hh
      split at hh
      · rename_i h1 h2; cases h1; exact ⟨_, _, hk, h2, hh, hv, fun _ e => by cases e⟩
      · rename_i h1 h2; cases h1; exact ⟨_, _, hk, h2, hh, hv, fun _ e => by cases e⟩
      · exact hh.elim
  have fps : ∀ l b, b ∈ newfp fp m2 l → b ∈ fp l ∧ ∃ k, lookB m2 l = some k := by
    intro l b hb
    unfold newfp at hb
    split at hb
    · cases hb
    · rename_i k hk; exact ⟨hb, k, hk⟩
  refine ⟨fun t => (refA_out h (h.tm t) (refE_get hE t)).1, fun t => (refA_out h (h.tm t) (refE_get hE t)).2, ?_, ?_, ?_, ?_, ?_, ?_, ?_, ?_, h.base, h.out, h.szs, ?_, ?_, h.size, h.defers, h.tsz, h.kon.mono (fun _ _ => rfl) fun b hb => .inl hb⟩
  · intro l hl
    simp [newφ, newfp, hl]
  · intro l k hk
    have hb := refM_get hM hk
    have hfp : newfp fp m2 l = fp l := by simp [newfp, hk]
    have hnoblk : (lookB m l = none ∨ ∃ v, lookB m l = some (.gone v)) → φ l = .dead ∧ fp l = [] := by
      rintro (hl | ⟨v, hl⟩)
      · exact h.mNone l hl
      · exact h.mSome l _ hl
    rw [hfp]
    unfold refB at hb
    split at hb
    · rename_i v sh d xs v2 sh2 d2 xs2 hlk
      obtain ⟨rfl, rfl, rfl⟩ := hb
      rcases h.mSome l _ hlk with ⟨h1, h2, h3⟩ | ⟨b, cap, hφ, hbm, hdp, hown⟩
      · exact .inl ⟨by simp [newφ, hk, h1, Blk.ver], h2, h3⟩
      · refine .inr ⟨b, cap, by simp [newφ, hk, hφ, Blk.ver], hbm, hdp, ?_⟩
        cases d with
        | true => exact hown
        | false => exact hown.mono (fun _ _ => rfl) (fun _ h => .inl h) (fun _ _ => rfl)
    · rename_i v xs v2 ys hlk
      obtain ⟨b, cs, e, sh, hφ, hfs, hheap, hsz, hlf, hrv⟩ := h.mSome l _ hlk
      obtain ⟨q1, q2, q3, q4⟩ := refL_out h xs ys cs.toList hb (by simpa using hsz) hrv
      exact ⟨b, cs, e, sh, by simp [newφ, hk, hφ, Blk.ver], hfs, hheap, by omega, q2, q3⟩
    · rename_i v2 sh2 d2 xs2 hlk
      obtain ⟨h1, h2⟩ := hnoblk (.inl hlk)
      exact .inl ⟨by simp [newφ, hk, h1, Blk.ver], hb, h2⟩
    · rename_i v v2 sh2 d2 xs2 hlk
      obtain ⟨h1, h2⟩ := hnoblk (.inr ⟨v, hlk⟩)
      exact .inl ⟨by simp [newφ, hk, h1, Blk.ver], hb, h2⟩
    · exact hb.elim
  · intro l v xs hk l' ver hl
    have hb := refM_get hM hk
    unfold refB at hb
    split at hb
    · cases ‹Blk.box v xs = _›
    · rename_i v' xs' v2 ys hlk hbx
      cases hbx
      obtain ⟨b, cs, e, sh, hφ, hfs, hheap, hsz, hlf, hrv⟩ := h.mSome l _ hlk
      exact (refL_out h xs' xs cs.toList hb (by simpa using hsz) hrv).2.2.2 l' ver hl
    · cases ‹Blk.box v xs = _›
    · cases ‹Blk.box v xs = _›
    · exact hb.elim
  · intro l
    unfold newfp
    split
    · simp
    · exact h.nod l
  · intro l l' b h1 h2
    exact h.dis l l' b (fps l b h1).1 (fps l' b h2).1
  · intro l b hb hs
    obtain ⟨h1, k, hk⟩ := fps l b hb
    rcases hs with hs | ⟨l', hl', _, hb'⟩
    · exact h.notS l b h1 hs
    · have := h.dis l l' b h1 hb'
      subst this
      rw [hk] at hl'; cases hl'
  · intro l b hb
    exact h.fpB l b (fps l b hb).1
  · intro b hb
    rcases hb with hb | ⟨l, _, hio, hb⟩
    · exact h.sB b hb
    · have := h.fpB l b hb
      exact ⟨this.1, .inl (this.2.resolve_right fun hh => Nat.lt_irrefl _ (Nat.lt_of_lt_of_le hio hh.choose_spec.2.1))⟩
  · intro l ver hl hk
    obtain ⟨k, k2, h1, h2, h3, h4, _⟩ := keeps l ver hl (h.kn l ver hl hk)
    exact ⟨k2, h2, h3 ▸ h4⟩
  · intro l ver hl hk
    obtain ⟨k, k2, h1, h2, h3, h4, hng⟩ := keeps l ver hl (h.kn l ver hl hk)
    have hle := h.fix l ver hl hk
    have hb := h.mSome l k h1
    have hx2 : newφ φ m2 l = match φ l with | .at b sh _ => .at b sh k2.ver | _ => .nil k2.ver := by unfold newφ; rw [h2]
    have e : newφ φ m2 l = φ l := by
      rw [hx2]
      cases k with
      | gone v => exact absurd rfl (hng v)
      | row v sh d xs =>
        rcases hb with ⟨q1, _, _⟩ | ⟨b, cap, q1, _⟩
        · rw [q1, ← h3]; rfl
        · rw [q1, ← h3]; rfl
      | box v xs =>
        obtain ⟨b, cs, e, sh, q1, _⟩ := hb
        rw [q1, ← h3]; rfl
      | lent v xs i u =>
        obtain ⟨b, cap, cs, e, fr, q1, _⟩ := hb
        rw [q1, ← h3]; rfl
    rw [e]; exact hle

theorem Ok.mono {c : Code} {Q Q' : Post} (h : Ok P N c ts m Q) (hq : ∀ e ts m, Q e ts m → Q' e ts m) : Ok P N c ts m Q' := fun B φ fp S a w hRS =>
  wp_mono (h B φ fp S a w hRS) fun e _ _ ⟨φ', fp', S', ts', m', h1, h2⟩ => ⟨φ', fp', S', ts', m', h1, hq e ts' m' h2⟩

/-- A loop, by what holds at its head: 'x' ranges over the states, 'μ' goes down with every round. -/
theorem Ok.loop {body : Code} {ι : Type} (I : ι → Prop) (σ : ι → Env × Mem) (μ : ι → Nat) {Q : Post} (x0 : ι) (h0 : I x0) (hr : refS ts m (σ x0).1 (σ x0).2)
    (step : ∀ x, I x → Ok P N body (σ x).1 (σ x).2 (thn Q fun ts' m' => ∃ y, I y ∧ μ y < μ x ∧ refS ts' m' (σ y).1 (σ y).2)) : Ok P N (.loop body) ts m Q := by
  intro B φ fp S a w hRS
  refine wp_loop_ghost (fun n a w => ∃ x φ fp S, I x ∧ μ x = n ∧ RS B N φ fp S (σ x).1 (σ x).2 a w) (μ x0) ⟨x0, _, _, _, h0, rfl, hRS.refine hr⟩ ?_
  rintro n a w ⟨x, φ, fp, S, hx, rfl, hRS⟩
  refine wp_mono (step x hx B φ fp S a w hRS) fun e a' w' hq => ?_
  obtain ⟨φ', fp', S', ts', m', h1, h2⟩ := hq
  cases e with
  | normal =>
    obtain ⟨y, hy, hlt, href⟩ := h2
    exact ⟨μ y, hlt, y, _, _, _, hy, rfl, h1.refine href⟩
  | _ => exact ⟨φ', fp', S', ts', m', h1, h2⟩

theorem Later.loop {body : Code} {ι : Type} (I : ι → Prop) (σ : ι → Env × Mem) (μ : ι → Nat) {Q : Post} {q : Pack (Code.loop body, Q)} (x0 : ι) (h0 : I x0) (hr : refS ts m (σ x0).1 (σ x0).2) (hok : codeOk N body = true)
    (step : ∀ x, I x → vc P N body (σ x).1 (σ x).2 (thn Q fun ts' m' => ∃ y, I y ∧ μ y < μ x ∧ refS ts' m' (σ y).1 (σ y).2)) : Later P N (.loop body) ts m Q q :=
  ⟨Ok.loop I σ μ x0 h0 hr fun x hx => vc_sound body _ _ _ hok (step x hx)⟩

/-- A loop that counts from 0 to n. -/
theorem Later.upto {body : Code} (n : Nat) (I : Nat → Prop) (σ : Nat → Env × Mem) {Q : Post} {q : Pack (Code.loop body, Q)} (h0 : I 0) (hr : refS ts m (σ 0).1 (σ 0).2) (hok : codeOk N body = true)
    (step : ∀ i, i < n → I i → vc P N body (σ i).1 (σ i).2 (thn Q fun ts' m' => I (i + 1) ∧ refS ts' m' (σ (i + 1)).1 (σ (i + 1)).2))
    (stop : I n → vc P N body (σ n).1 (σ n).2 (thn Q fun _ _ => False)) : Later P N (.loop body) ts m Q q := by
  refine ⟨Ok.loop (fun i => i ≤ n ∧ I i) σ (fun i => n - i) 0 ⟨Nat.zero_le _, h0⟩ hr fun i ⟨hi, hI⟩ => ?_⟩
  rcases Nat.lt_or_ge i n with h | h
  · refine (vc_sound body _ _ _ hok (step i h hI)).mono fun e ts' m' hq => ?_
    cases e with
    | normal => exact ⟨i + 1, ⟨h, hq.1⟩, by omega, hq.2⟩
    | _ => exact hq
  · have e : i = n := Nat.le_antisymm hi h
    subst e
    refine (vc_sound body _ _ _ hok (stop hI)).mono fun e ts' m' hq => ?_
    cases e with
    | normal => exact hq.elim
    | _ => exact hq

end
end Go.Vc
