/-
  A function's contract out of its body.
-/
import Derived.Test.YtlelhmbhhnokoaaDoorVcLoop
set_option linter.unusedVariables false
set_option linter.unusedSimpArgs false
set_option linter.unnecessarySimpa false
namespace Go.Vc

/- the results -/
def sCellRB (ag : Bool) (n j v : Nat) (b : Option Blk) (k : AV → Prop) : Prop := match b with
  | some (.box v' xs) => v' = v ∧ (if ag then j + n ≤ xs.length ∧ k (.agg ((xs.drop j).take n)) else sOpt xs[j]? k)
  | _ => False
@[congr] theorem sCellRB_congr {ag : Bool} {n j v : Nat} {b b' : Option Blk} {k : AV → Prop} (h : b = b') : sCellRB ag n j v b k = sCellRB ag n j v b' k := by rw [h]
theorem sCellRB_agg (n j v : Nat) (xs : List AV) (k : AV → Prop) : sCellRB true n j v (some (.box v xs)) k = (j + n ≤ xs.length ∧ k (.agg ((xs.drop j).take n))) := by simp [sCellRB]
theorem sCellRB_cell (n j v : Nat) (xs : List AV) (k : AV → Prop) : sCellRB false n j v (some (.box v xs)) k = sOpt xs[j]? k := by simp [sCellRB]
def sCellR (ag : Bool) (n : Nat) (p : AV) (m : Mem) (k : AV → Prop) : Prop := match p with
  | .ptr l v i j => i = 0 ∧ sCellRB ag n j v (lookB m l) k
  | _ => False
@[congr] theorem sCellR_congr {ag : Bool} {n : Nat} {p p' : AV} {m : Mem} {k : AV → Prop} (h : p = p') : sCellR ag n p m k = sCellR ag n p' m k := by rw [h]
theorem sCellR_ptr (ag : Bool) (n l v j : Nat) (m : Mem) (k : AV → Prop) : sCellR ag n (.ptr l v 0 j) m k = sCellRB ag n j v (lookB m l) k := by simp [sCellR]
def sResults (P : Program) (k : List AV → Prop) : List ResultVar → Env → Mem → List AV → Prop
  | [], _, _, acc => k acc.reverse
  | .tmp t :: r, ts, m, acc => sResults P k r ts m (look ts t :: acc)
  | .cell p t :: r, ts, m, acc => sTI (tiOf P t) fun ti => sCellR ti.agg ti.size (look ts p) m fun y => sResults P k r ts m (y :: acc)
section
variable (P : Program) (k : List AV → Prop) (r : List ResultVar) (ts : Env) (m : Mem) (acc : List AV)
theorem sResults_nil : sResults P k [] ts m acc = k acc.reverse := rfl
theorem sResults_tmp (t : Nat) : sResults P k (.tmp t :: r) ts m acc = sResults P k r ts m (look ts t :: acc) := rfl
theorem sResults_cell (p t : Nat) : sResults P k (.cell p t :: r) ts m acc = sTI (tiOf P t) fun ti => sCellR ti.agg ti.size (look ts p) m fun y => sResults P k r ts m (y :: acc) := rfl
end

/- an owned tree -/
def sOwnB (l v i n : Nat) (used : List Nat) (b : Option Blk) (k : AV → List Nat → Prop) : Prop := match b with
  | some (.row v' sh deep xs) => v' = v ∧ deep = true ∧ i = 0 ∧ (0 < sh.sz ∧ n ≤ xs.length ∧ l < ioL ∧ l ∉ used) ∧ k (.arr sh (xs.take n)) (l :: used)
  | _ => False
@[congr] theorem sOwnB_congr {l v i n : Nat} {used : List Nat} {b b' : Option Blk} {k : AV → List Nat → Prop} (h : b = b') : sOwnB l v i n used b k = sOwnB l v i n used b' k := by rw [h]
theorem sOwnB_row (l v n : Nat) (used : List Nat) (sh : Sh) (xs : List AV) (k : AV → List Nat → Prop) :
    sOwnB l v 0 n used (some (.row v sh true xs)) k = ((0 < sh.sz ∧ n ≤ xs.length ∧ l < ioL ∧ l ∉ used) ∧ k (.arr sh (xs.take n)) (l :: used)) := by simp [sOwnB]
def sOwnL (m : Mem) (used : List Nat) (x : AV) (k : AV → List Nat → Prop) : Prop := match x with
  | .val v => k (.val v) used
  | .e0 => k .e0 used
  | .ref l v i n => sOwnB l v i n used (lookB m l) k
  | _ => False
@[congr] theorem sOwnL_congr {m : Mem} {used : List Nat} {x x' : AV} {k : AV → List Nat → Prop} (h : x = x') : sOwnL m used x k = sOwnL m used x' k := by rw [h]
theorem sOwnL_val (m : Mem) (used : List Nat) (v : Value) (k : AV → List Nat → Prop) : sOwnL m used (.val v) k = k (.val v) used := rfl
theorem sOwnL_e0 (m : Mem) (used : List Nat) (k : AV → List Nat → Prop) : sOwnL m used .e0 k = k .e0 used := rfl
theorem sOwnL_ref (m : Mem) (used : List Nat) (l v i n : Nat) (k : AV → List Nat → Prop) : sOwnL m used (.ref l v i n) k = sOwnB l v i n used (lookB m l) k := rfl
def sOwnLs (m : Mem) (k : List AV → List Nat → Prop) : List Nat → List AV → List AV → Prop
  | used, acc, [] => k acc.reverse used
  | used, acc, x :: r => sOwnL m used x fun y used' => sOwnLs m k used' (y :: acc) r
theorem sOwnLs_nil (m : Mem) (k : List AV → List Nat → Prop) (used : List Nat) (acc : List AV) : sOwnLs m k used acc [] = k acc.reverse used := rfl
theorem sOwnLs_cons (m : Mem) (k : List AV → List Nat → Prop) (used : List Nat) (acc : List AV) (x : AV) (r : List AV) : sOwnLs m k used acc (x :: r) = sOwnL m used x fun y used' => sOwnLs m k used' (y :: acc) r := rfl
def sOwnA (m : Mem) (used : List Nat) (x : AV) (k : AV → List Nat → Prop) : Prop := match x with
  | .agg xs => sOwnLs m (fun ys u => k (.agg ys) u) used [] xs
  | x => sOwnL m used x k
@[congr] theorem sOwnA_congr {m : Mem} {used : List Nat} {x x' : AV} {k : AV → List Nat → Prop} (h : x = x') : sOwnA m used x k = sOwnA m used x' k := by rw [h]
theorem sOwnA_agg (m : Mem) (used : List Nat) (xs : List AV) (k : AV → List Nat → Prop) : sOwnA m used (.agg xs) k = sOwnLs m (fun ys u => k (.agg ys) u) used [] xs := rfl
theorem sOwnA_val (m : Mem) (used : List Nat) (v : Value) (k : AV → List Nat → Prop) : sOwnA m used (.val v) k = k (.val v) used := rfl
theorem sOwnA_e0 (m : Mem) (used : List Nat) (k : AV → List Nat → Prop) : sOwnA m used .e0 k = k .e0 used := rfl
theorem sOwnA_ref (m : Mem) (used : List Nat) (l v i n : Nat) (k : AV → List Nat → Prop) : sOwnA m used (.ref l v i n) k = sOwnB l v i n used (lookB m l) k := rfl
def sOwnAs (m : Mem) (k : List AV → Prop) : List Nat → List AV → List AV → Prop
  | _, acc, [] => k acc.reverse
  | used, acc, x :: r => sOwnA m used x fun y used' => sOwnAs m k used' (y :: acc) r
theorem sOwnAs_nil (m : Mem) (k : List AV → Prop) (used : List Nat) (acc : List AV) : sOwnAs m k used acc [] = k acc.reverse := rfl
theorem sOwnAs_cons (m : Mem) (k : List AV → Prop) (used : List Nat) (acc : List AV) (x : AV) (r : List AV) : sOwnAs m k used acc (x :: r) = sOwnA m used x fun y used' => sOwnAs m k used' (y :: acc) r := rfl

def mkRes : List AV → AV | [x] => x | xs => .tup xs
theorem mkRes_one (x : AV) : mkRes [x] = x := rfl
theorem mkRes_nil : mkRes [] = .tup [] := rfl
theorem mkRes_two (x y : AV) (r : List AV) : mkRes (x :: y :: r) = .tup (x :: y :: r) := rfl

/-- What must hold where a function's body ends. -/
def fin (P : Program) (rs : List ResultVar) (post : AV → Prop) : Post
  | .normal => fun ts m => sResults P (fun xs => sOwnAs m (fun ys => post (mkRes ys)) [] [] xs) rs ts m []
  | .ret => fun ts m => sResults P (fun xs => sOwnAs m (fun ys => post (mkRes ys)) [] [] xs) rs ts m []
  | _ => fun _ _ => False
theorem fin_normal (P : Program) (rs : List ResultVar) (post : AV → Prop) (ts : Env) (m : Mem) : fin P rs post .normal ts m = sResults P (fun xs => sOwnAs m (fun ys => post (mkRes ys)) [] [] xs) rs ts m [] := rfl
theorem fin_ret (P : Program) (rs : List ResultVar) (post : AV → Prop) (ts : Env) (m : Mem) : fin P rs post .ret ts m = sResults P (fun xs => sOwnAs m (fun ys => post (mkRes ys)) [] [] xs) rs ts m [] := rfl

/-- the temporaries at a function's entry -/
def argsE : Nat → List AV → Env
  | _, [] => []
  | i, x :: r => (i, x) :: argsE (i + 1) r
theorem argsE_nil (i : Nat) : argsE i [] = [] := rfl
theorem argsE_cons (i : Nat) (x : AV) (r : List AV) : argsE i (x :: r) = (i, x) :: argsE (i + 1) r := rfl

section
variable {P : Program} {B : Base} {N : Nat} {φ : Nat → LS} {fp : Nat → List Nat} {S : Nat → Prop} {ts : Env} {m : Mem} {a : Act} {w : World}

theorem run_cellR {t : TypeId} {ti : TI} (ht : tiOf P t = some ti) (h : RS B N φ fp S ts m a w) {p : AV} {v : Value} (hp : RV w S φ p v) {k : AV → Prop} (hk : sCellR ti.agg ti.size p m k) :
    ∃ ad u y, v = .pointer (some ad) ∧ (loadVar t ad).run P w = .ok u w ∧ RV w S φ y u ∧ (∀ l ver, (l, ver) ∈ labs y → known m l ver) ∧ k y := by
  unfold sCellR at hk
  split at hk
  · rename_i l ver i j
    obtain ⟨rfl, hk⟩ := hk
    have hp1 := rv_ptr hp
    unfold sCellRB at hk
    split at hk
    · rename_i v' xs hlk
      obtain ⟨rfl, hk⟩ := hk
      obtain ⟨b, cs, e, sh, hφ, hfs, hheap, hsz, hlf, hr⟩ := h.mSome l _ hlk
      have hpv := hp1 b sh hφ
      rw [Nat.zero_mul, Nat.zero_add] at hpv
      subst hpv
      cases hag : ti.agg with
      | true =>
        simp only [hag, if_true] at hk
        obtain ⟨hlen, hk⟩ := hk
        refine ⟨_, _, .agg ((xs.drop j).take ti.size), rfl, run_loadVar_at ht hheap j (fun _ => by omega) (fun h => by rw [hag] at h; cases h), ?_, ?_, hk⟩
        · rw [show ti.sh = ⟨ti.size, true⟩ by simp [TI.sh, hag], elemV_agg]
          refine .agg _ _ (by simp; omega) (fun i hi => ?_) fun i hi => ?_
          · simp only [List.length_take, List.length_drop] at hi
            simp only [List.getElem_take, List.getElem_drop]
            exact hlf _ (by omega)
          · simp only [List.length_take, List.length_drop] at hi
            simp only [List.getElem_take, List.getElem_drop]
            rw [getD_drop_take _ _ _ _ (by omega)]
            exact hr (j + i) (by omega)
        · intro l' ver' hl'
          simp only [labs] at hl'
          obtain ⟨i, hi, hl2⟩ := of_mem_labsL hl'
          simp only [List.length_take, List.length_drop] at hi
          simp only [List.getElem_take, List.getElem_drop] at hl2
          exact h.bl l v' xs hlk l' ver' (mem_labsL (by omega) hl2)
      | false =>
        simp only [hag, if_false, Bool.false_eq_true] at hk
        cases hj : xs[j]? with
        | none => rw [hj] at hk; exact hk.elim
        | some y =>
          rw [hj] at hk
          obtain ⟨hj1, hj2⟩ := List.getElem?_eq_some_iff.1 hj
          refine ⟨_, _, y, rfl, run_loadVar_at ht hheap j (fun h => by rw [hag] at h; cases h) (fun _ => by omega), ?_, ?_, hk⟩
          · rw [show ti.sh = ⟨ti.size, false⟩ by simp [TI.sh, hag], elemV_cell]
            have := hr j hj1
            rwa [hj2] at this
          · intro l' ver' hl'
            exact h.bl l v' xs hlk l' ver' (mem_labsL hj1 (by rw [hj2]; exact hl'))
    · exact hk.elim
  · exact hk.elim

def resOne (tmps : Array Value) : ResultVar → Sem Value
  | .tmp t => pure (tmps.getD t Go.undef)
  | .cell p t => do loadVar t (← asAddr (tmps.getD p Go.undef))

theorem results_out (h : RS B N φ fp S ts m a w) {Q : List AV → Prop} : ∀ (rs : List ResultVar) (acc : List AV) (va : List Value), RdL (RV w S φ) acc.reverse va → sResults P Q rs ts m acc →
    ∃ xs vs, Q xs ∧ (rs.mapM (resOne a.tmps)).run P w = .ok vs w ∧ RdL (RV w S φ) xs (va ++ vs) ∧ vs.length = rs.length
  | [], acc, va, ha, hk => ⟨_, [], hk, by simp, by simpa using ha, rfl⟩
  | .tmp t :: r, acc, va, ha, hk => by
    obtain ⟨xs, vs, h1, h2, h3, h4⟩ := results_out h r (look ts t :: acc) (va ++ [a.tmps.getD t Go.undef]) (by rw [List.reverse_cons]; exact ha.snoc (h.tm t)) hk
    refine ⟨xs, a.tmps.getD t Go.undef :: vs, h1, ?_, by simpa using h3, by simp [h4]⟩
    rw [List.mapM_cons]
    simp only [resOne, Sem.run_bind, Sem.run_pure, Result.andThen_ok, h2]
  | .cell p t :: r, acc, va, ha, hk => by
    obtain ⟨ti, ht, hk⟩ := sTI_out hk
    obtain ⟨ad, u, y, hv, hr, hy, _, hk⟩ := run_cellR ht h (h.tm p) hk
    obtain ⟨xs, vs, h1, h2, h3, h4⟩ := results_out h r (y :: acc) (va ++ [u]) (by rw [List.reverse_cons]; exact ha.snoc hy) hk
    refine ⟨xs, u :: vs, h1, ?_, by simpa using h3, by simp [h4]⟩
    rw [List.mapM_cons]
    simp only [resOne, hv, asAddr, Sem.run_bind, Sem.run_pure, Result.andThen_ok, hr, h2]

/-- What is taken out of the labels' blocks. -/
structure Taken (fp : Nat → List Nat) (used used' : List Nat) (fs : List Nat) : Prop where
  nod : fs.Nodup
  mem : ∀ b, b ∈ fs → ∃ l, l ∈ used' ∧ b ∈ fp l
  dis : ∀ b, b ∈ fs → ∀ l, l ∈ used → b ∉ fp l
  sub : ∀ l, l ∈ used → l ∈ used'
  lo : ∀ l, l ∈ used' → l ∈ used ∨ l < ioL

theorem Taken.nil (used : List Nat) : Taken fp used used [] := ⟨List.nodup_nil, fun _ h => (by cases h), fun _ h => (by cases h), fun _ h => h, fun _ h => .inl h⟩
theorem Taken.app {u1 u2 u3 fs gs : List Nat} (h : Taken fp u1 u2 fs) (g : Taken fp u2 u3 gs) : Taken fp u1 u3 (fs ++ gs) := by
  refine ⟨List.nodup_append.2 ⟨h.nod, g.nod, ?_⟩, ?_, ?_, fun l hl => g.sub l (h.sub l hl), ?_⟩
  · rintro b hb c hc rfl
    obtain ⟨l, hl, hbl⟩ := h.mem b hb
    exact g.dis b hc l hl hbl
  · intro b hb
    rcases List.mem_append.1 hb with hb | hb
    · obtain ⟨l, hl, hbl⟩ := h.mem b hb
      exact ⟨l, g.sub l hl, hbl⟩
    · exact g.mem b hb
  · intro b hb l hl
    rcases List.mem_append.1 hb with hb | hb
    · exact h.dis b hb l hl
    · exact g.dis b hb l (h.sub l hl)
  · intro l hl
    rcases g.lo l hl with hl | hl
    · exact h.lo l hl
    · exact .inr hl

theorem ownL_out (h : RS B N φ fp S ts m a w) {used : List Nat} {x : AV} {v : Value} (hx : RV w S φ x v) {k : AV → List Nat → Prop} (hk : sOwnL m used x k) :
    ∃ y used' fs, k y used' ∧ leaf y ∧ Own w (fun _ => False) y v fs ∧ Taken fp used used' fs := by
  unfold sOwnL at hk
  split at hk
  · rename_i u
    have := rv_val hx
    obtain ⟨rfl, hu⟩ := this
    exact ⟨_, _, [], hk, trivial, .rd _ _ (.val _ hu), Taken.nil used⟩
  · cases hx with
    | rd _ _ hr => cases hr with
      | e0 ad => exact ⟨_, _, [], hk, trivial, .rd _ _ (.e0 ad), Taken.nil used⟩
  · rename_i l ver i n
    obtain ⟨r1, r2⟩ := rv_ref hx
    unfold sOwnB at hk
    split at hk
    · rename_i v' sh deep xs hlk
      obtain ⟨rfl, rfl, rfl, ⟨h0, hn, hio, hnu⟩, hk⟩ := hk
      have hnil : n = 0 → (∃ ad, v = .slice ad 0 0) → ∃ y used' fs, k y used' ∧ leaf y ∧ Own w (fun _ => False) y v fs ∧ Taken fp used used' fs := by
        rintro rfl ⟨ad, rfl⟩
        exact ⟨_, _, [], hk, trivial, by rw [List.take_zero]; exact .rd _ _ (.nil sh ad), List.nodup_nil, fun _ hh => (by cases hh), fun _ hh => (by cases hh), fun _ hh => List.mem_cons_of_mem _ hh, fun l' hl' => by
          rcases List.mem_cons.1 hl' with rfl | hl'
          · exact .inr hio
          · exact .inl hl'⟩
      rcases h.mSome l _ hlk with ⟨hφ, hxs, _⟩ | ⟨b, cap, hφ, hbm, _, hown⟩
      · exact hnil (r2 hφ).1 (r2 hφ).2
      · obtain ⟨ad, cap', rfl, hcap, hc⟩ := r1 b sh hφ
        rcases hc with rfl | ⟨rfl, cs', e', hh', hs'⟩
        · have : n = 0 := by omega
          subst this
          exact hnil rfl ⟨_, rfl⟩
        · simp only [if_true] at hown
          obtain ⟨gs, g1, g2, cs, e, g3, g4⟩ := own_take hown hbm n hn
          rw [g3] at hh'
          injection hh' with hh'; injection hh' with e1
          subst e1
          rw [g4, Nat.zero_add] at hs'
          have : cap = cap' := Nat.eq_of_mul_eq_mul_right h0 hs'
          subst this
          refine ⟨_, _, gs, hk, trivial, by simpa using g1, g2.nodup (h.nod l), fun c hc => ⟨l, List.mem_cons_self .., g2.subset hc⟩, fun c hc l' hl' hcl => ?_, fun _ hh => List.mem_cons_of_mem _ hh, fun l' hl' => ?_⟩
          · have := h.dis l l' c (g2.subset hc) hcl
            subst this
            exact hnu hl'
          · rcases List.mem_cons.1 hl' with rfl | hl'
            · exact .inr hio
            · exact .inl hl'
    · exact hk.elim
  · exact hk.elim

theorem owns_gen {one : List Nat → AV → (AV → List Nat → Prop) → Prop} {ok : AV → Prop}
    (hone : ∀ (used : List Nat) (x : AV) (v : Value) (k : AV → List Nat → Prop), RV w S φ x v → one used x k → ∃ y used' fs, k y used' ∧ ok y ∧ Own w (fun _ => False) y v fs ∧ Taken fp used used' fs)
    {Q : List AV → List Nat → Prop} {many : List Nat → List AV → List AV → Prop} (hnil : ∀ used acc, many used acc [] → Q acc.reverse used) (hcons : ∀ used acc x r, many used acc (x :: r) → one used x fun y used' => many used' (y :: acc) r) :
    ∀ (xs : List AV) (vs : List Value) (used : List Nat) (acc : List AV), vs.length = xs.length → (∀ i (h : i < xs.length), RV w S φ xs[i] (vs.getD i Go.undef)) → many used acc xs →
      ∃ (ys : List AV) (used' : List Nat) (fss : List (List Nat)), Q (acc.reverse ++ ys) used' ∧ ys.length = xs.length ∧ fss.length = ys.length ∧ (∀ i (h : i < ys.length), ok ys[i] ∧ Own w (fun _ => False) ys[i] (vs.getD i Go.undef) (fss.getD i [])) ∧ Taken fp used used' fss.flatten
  | [], vs, used, acc, hv, _, hk => ⟨[], used, [], by simpa using hnil _ _ hk, rfl, rfl, fun i hi => absurd hi (Nat.not_lt_zero _), Taken.nil used⟩
  | x :: xs, vs, used, acc, hv, hr, hk => by
    cases vs with
    | nil => simp at hv
    | cons v vs =>
      obtain ⟨y, used1, fs, h1, h2, h3, h4⟩ := hone used x v _ (hr 0 (by simp)) (hcons _ _ _ _ hk)
      obtain ⟨ys, used2, fss, g1, g2, g3, g4, g5⟩ := owns_gen hone hnil hcons xs vs used1 (y :: acc) (by simpa using hv) (fun i hi => by have := hr (i + 1) (by simpa using hi); exact this) h1
      refine ⟨y :: ys, used2, fs :: fss, by simpa using g1, by simp [g2], by simp [g3], fun i hi => ?_, ?_⟩
      · cases i with
        | zero => exact ⟨h2, h3⟩
        | succ i => exact g4 i (by simpa using hi)
      · rw [List.flatten_cons]; exact h4.app g5

theorem ownA_out (h : RS B N φ fp S ts m a w) {used : List Nat} {x : AV} {v : Value} (hx : RV w S φ x v) {k : AV → List Nat → Prop} (hk : sOwnA m used x k) :
    ∃ y used' fs, k y used' ∧ True ∧ Own w (fun _ => False) y v fs ∧ Taken fp used used' fs := by
  cases x with
  | agg xs =>
    obtain ⟨cs, rfl, h1, h2, h3⟩ := rv_agg hx
    obtain ⟨ys, used', fss, g1, g2, g3, g4, g5⟩ := owns_gen (one := fun used x k => sOwnL m used x k) (ok := leaf) (Q := fun ys u => k (.agg ys) u) (many := fun used acc xs => sOwnLs m (fun ys u => k (.agg ys) u) used acc xs)
      (fun used x v k hx hk => ownL_out h hx hk) (fun _ _ h => h) (fun _ _ _ _ h => h) xs cs.toList used [] (by simpa using h1) h3 hk
    exact ⟨.agg ys, used', fss.flatten, by simpa using g1, trivial, .agg ys cs fss (h1.trans g2.symm) (fun i hi => (g4 i hi).1) g3 (fun i hi => (g4 i hi).2), g5⟩
  | _ =>
    obtain ⟨y, used', fs, g1, _, g3, g4⟩ := ownL_out h hx hk
    exact ⟨y, used', fs, g1, trivial, g3, g4⟩

theorem ownAs_out (h : RS B N φ fp S ts m a w) {xs : List AV} {vs : List Value} (hl : vs.length = xs.length) (hx : ∀ i (h : i < xs.length), RV w S φ xs[i] (vs.getD i Go.undef)) {k : List AV → Prop} (hk : sOwnAs m k [] [] xs) :
    ∃ (ys : List AV) (fss : List (List Nat)), k ys ∧ ys.length = xs.length ∧ fss.length = ys.length ∧ (∀ i (h : i < ys.length), Own w (fun _ => False) ys[i] (vs.getD i Go.undef) (fss.getD i [])) ∧ fss.flatten.Nodup ∧ ∀ b, b ∈ fss.flatten → ∃ l, l < ioL ∧ b ∈ fp l := by
  obtain ⟨ys, used', fss, g1, g2, g3, g4, g5⟩ := owns_gen (one := fun used x k => sOwnA m used x k) (ok := fun _ => True) (Q := fun ys _ => k ys) (many := fun used acc xs => sOwnAs m k used acc xs)
      (fun used x v k hx hk => ownA_out h hx hk) (fun _ _ h => h) (fun _ _ _ _ h => h) xs vs [] [] hl hx hk
  refine ⟨ys, fss, by simpa using g1, g2, g3, fun i hi => (g4 i hi).2, g5.nod, fun b hb => ?_⟩
  obtain ⟨l, hl, hbl⟩ := g5.mem b hb
  rcases g5.lo l hl with hh | hh
  · cases hh
  · exact ⟨l, hh, hbl⟩

theorem mkRes_out {ys : List AV} {vs : List Value} {fss : List (List Nat)} (hl : vs.length = ys.length) (hf : fss.length = ys.length) (hv : ∀ i (h : i < ys.length), Own w (fun _ => False) ys[i] (vs.getD i Go.undef) (fss.getD i [])) :
    Own w (fun _ => False) (mkRes ys) (if h : vs.toArray.size = 1 then vs.toArray[0] else .tuple vs.toArray) fss.flatten := by
  match ys, vs, fss, hl, hf, hv with
  | [], [], [], _, _, _ => exact .rd _ _ (.tup [] #[] rfl fun i hi => absurd hi (Nat.not_lt_zero _))
  | [y], [v], [f], _, _, hv => simpa [mkRes] using hv 0 (by simp)
  | y :: y' :: r, v :: v' :: r', f :: f' :: r'', hl, hf, hv =>
    have : ¬ ((v :: v' :: r').toArray.size = 1) := by simp
    rw [dif_neg this]
    exact .tup _ _ _ (by simpa using hl) hf (by simpa using hv)

theorem look_argsE : ∀ (xs : List AV) (i t : Nat), look (argsE i xs) t = if i ≤ t then (xs[t - i]?).getD .undef else .undef
  | [], i, t => by simp [argsE, look]
  | x :: r, i, t => by
    rw [argsE, look_cons, look_argsE r (i + 1) t]
    by_cases h : i = t
    · subst h; simp
    · by_cases h2 : i ≤ t
      · have h3 : i + 1 ≤ t := by omega
        rw [if_neg h, if_pos h3, if_pos h2, show t - i = (t - (i + 1)) + 1 by omega, List.getElem?_cons_succ]
      · rw [if_neg h, if_neg (by omega), if_neg h2]
end

/-- A contract out of a body. -/
theorem Fn.of_vc' {P : Program} {f : FuncId} {fn : Func} {c : Code} {args : List AV} {post : AV → Prop} (hf : P.funcs[f]? = some fn) (hn : (fn.name == "runtime.NumGoroutine") = false) (hb : fn.body = some c)
    (hok : codeOk fn.ntmps c = true) (ha : args.length ≤ fn.ntmps) (hv : vc P fn.ntmps c (argsE 0 args) [] (fin P fn.results.toList post)) : Fn P f args true post := by
  refine ⟨⟨fn, c, hf, hn, hb⟩, fun w S vs hS hkon hsz hrd => ?_⟩
  refine calls_of_wp hf hb ?_
  have hRS : RS ⟨w, fun _ _ => False, fun _ => True, fun _ => .dead, []⟩ fn.ntmps (fun _ => .dead) (fun _ => []) (fun b => b < w.heap.size) (argsE 0 args) [] { tmps := vs ++ Array.replicate (fn.ntmps - vs.size) undef, defers := [] } w := by
    have hx : ∀ i (h : i < args.length), Rd w (fun b => b < w.heap.size) args[i] (vs.toList.getD i Go.undef) := fun i h => (hrd i h).mono (fun _ _ => rfl) hS
    have hlook : ∀ t, (look (argsE 0 args) t = .undef ∨ ∃ h : t < args.length, look (argsE 0 args) t = args[t]) := by
      intro t
      rw [look_argsE]
      by_cases h : t < args.length
      · exact .inr ⟨h, by simp [h]⟩
      · exact .inl (by simp [h])
    refine { tm := fun t => ?_, tl := fun t l ver hl => ?_, mNone := fun _ _ => ⟨rfl, rfl⟩, mSome := fun l k hk => (by cases hk), bl := fun l v xs hk => (by cases hk), nod := fun _ => List.nodup_nil,
             dis := fun _ _ _ h => (by cases h), notS := fun _ _ h => (by cases h), fpB := fun _ _ h => (by cases h), sB := fun b hb => ⟨hb, .inr trivial⟩, base := fun b hb _ => rfl, out := SameOut.refl _, szs := Szs.refl _, kn := fun _ _ _ hk => hk, fix := fun _ _ _ _ => LS.le_refl _ _,
             size := Nat.le_refl _, defers := rfl, tsz := by simp; omega, kon := hkon.mono (fun _ _ => rfl) hS }
    · rcases hlook t with e | ⟨h, e⟩
      · rw [e]; exact .rd _ _ (.undef _)
      · rw [e]
        have h1 := hx t h
        have : vs.toList.getD t Go.undef = (vs ++ Array.replicate (fn.ntmps - vs.size) undef).getD t Go.undef := by
          have h2 : t < vs.size := by omega
          simp only [Array.getD_eq_getD_getElem?, List.getD_eq_getElem?_getD, Array.getElem?_toList]
          rw [Array.getElem?_append_left h2]
        rw [← this]
        exact .rd _ _ h1
    · rcases hlook t with e | ⟨h, e⟩
      · rw [e] at hl; cases hl
      · rw [e, labs_rd (hx t h)] at hl; cases hl
  have hend : ∀ a' w', Done ⟨w, fun _ _ => False, fun _ => True, fun _ => .dead, []⟩ fn.ntmps (fun ts m => sResults P (fun xs => sOwnAs m (fun ys => post (mkRes ys)) [] [] xs) fn.results.toList ts m []) a' w' →
      a'.defers = [] ∧ ∃ v, (results fn a'.tmps).run P w' = .ok v w' ∧ ∃ r v', Ending.returned v = .returned v' ∧ post r ∧ Grown w w' ∧ FnRes w w' S true r v' := by
    rintro a' w' ⟨φ', fp', S', ts', m', h', hk⟩
    refine ⟨h'.defers, ?_⟩
    obtain ⟨xs, us, h1, h2, h3, _⟩ := results_out h' fn.results.toList [] [] ⟨rfl, fun i hi => absurd hi (Nat.not_lt_zero _)⟩ hk
    obtain ⟨h3a, h3b⟩ := h3
    simp only [List.nil_append] at h3a h3b
    obtain ⟨ys, fss, g1, g2, g3, g4, g5, g6⟩ := ownAs_out h' h3a h3b h1
    refine ⟨if h : us.toArray.size = 1 then us.toArray[0] else .tuple us.toArray, ?_, mkRes ys, _, rfl, g1, ⟨h'.size, fun b hb => h'.base b hb (fun _ h => h), h'.out⟩, ?_⟩
    · have hm : results fn a'.tmps = (do let vs ← fn.results.mapM (resOne a'.tmps); pure (if h : vs.size = 1 then vs[0] else .tuple vs)) := by
        unfold results
        congr 1
      rw [hm, Sem.run_bind, Array.mapM_eq_mapM_toList]
      have : (List.toArray <$> fn.results.toList.mapM (resOne a'.tmps) : Sem (Array Value)).run P w' = .ok us.toArray w' := by
        rw [map_eq_pure_bind, Sem.run_bind, h2]; rfl
      rw [this]; rfl
    · refine ⟨fss.flatten, mkRes_out (h3a.trans g2.symm) g3 g4, g5, fun b hb => ?_⟩
      obtain ⟨l, hl, hbl⟩ := g6 b hb
      rcases (h'.fpB l b hbl).2 with hh | ⟨_, hh, _⟩
      · exact hh
      · exact hh.elim
  refine wp_mono (vc_sound c _ _ _ hok hv _ _ _ _ _ _ hRS) ?_
  intro e a' w' hq
  cases e with
  | normal => exact hend a' w' hq
  | ret => exact hend a' w' hq
  | _ => obtain ⟨_, _, _, _, _, _, hh⟩ := hq; exact hh.elim
theorem Fn.of_vc {P : Program} {f : FuncId} {fn : Func} {c : Code} {args : List AV} {post : AV → Prop} (N : Nat) (rs : List ResultVar) (hf : P.funcs[f]? = some fn) (hN : fn.ntmps = N) (hr : fn.results.toList = rs) (hn : (fn.name == "runtime.NumGoroutine") = false)
    (hb : fn.body = some c) (hok : codeOk N c = true) (ha : args.length ≤ N) (hv : vc P N c (argsE 0 args) [] (fin P rs post)) : Fn P f args true post := by
  subst hN; subst hr; exact Fn.of_vc' hf hn hb hok ha hv
end Go.Vc
