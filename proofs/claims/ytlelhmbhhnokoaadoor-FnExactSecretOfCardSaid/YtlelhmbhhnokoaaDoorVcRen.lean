/-
  Labels may be given other names.
-/
import Derived.Test.YtlelhmbhhnokoaaDoorVcLoop
set_option linter.unusedVariables false
set_option linter.unusedSimpArgs false
set_option linter.unnecessarySimpa false
namespace Go.Vc

/-- the two labels change places -/
def rl (l l' x : Nat) : Nat := if x = l then l' else if x = l' then l else x
theorem rl_rl (l l' x : Nat) : rl l l' (rl l l' x) = x := by
  unfold rl
  split
  · rename_i h; split
    · rename_i h2; omega
    · rw [if_pos rfl]; exact h.symm
  · split
    · rename_i h1 h2; rw [if_pos rfl]; exact h2.symm
    · rfl
theorem rl_inj {l l' x y : Nat} (h : rl l l' x = rl l l' y) : x = y := by rw [← rl_rl l l' x, h, rl_rl]
theorem rl_hi {l l' x : Nat} (h : l < ioL) (h' : l' < ioL) (hx : ioL ≤ x) : rl l l' x = x := by unfold rl; rw [if_neg (by omega), if_neg (by omega)]
theorem rl_lo {l l' x : Nat} (h : l < ioL) (h' : l' < ioL) (hx : x < ioL) : rl l l' x < ioL := by unfold rl; split <;> (try split) <;> omega
theorem rl_eq (l l' x : Nat) : rl l l' x = if x = l then l' else if x = l' then l else x := rfl

mutual
def rnA (l l' : Nat) : AV → AV
  | .ref k v i n => .ref (rl l l' k) v i n
  | .ptr k v i j => .ptr (rl l l' k) v i j
  | .agg xs => .agg (rnL l l' xs)
  | .tup xs => .tup (rnL l l' xs)
  | .clo f xs => .clo f (rnL l l' xs)
  | x => x
def rnL (l l' : Nat) : List AV → List AV
  | [] => []
  | x :: r => rnA l l' x :: rnL l l' r
end
theorem rnA_ref (l l' k v i n : Nat) : rnA l l' (.ref k v i n) = .ref (rl l l' k) v i n := by simp [rnA]
theorem rnA_ptr (l l' k v i j : Nat) : rnA l l' (.ptr k v i j) = .ptr (rl l l' k) v i j := by simp [rnA]
theorem rnA_agg (l l' : Nat) (xs : List AV) : rnA l l' (.agg xs) = .agg (rnL l l' xs) := by simp [rnA]
theorem rnA_tup (l l' : Nat) (xs : List AV) : rnA l l' (.tup xs) = .tup (rnL l l' xs) := by simp [rnA]
theorem rnA_clo (l l' : Nat) (f : FuncId) (xs : List AV) : rnA l l' (.clo f xs) = .clo f (rnL l l' xs) := by simp [rnA]
theorem rnA_undef (l l' : Nat) : rnA l l' .undef = .undef := by simp [rnA]
theorem rnA_val (l l' : Nat) (v : Value) : rnA l l' (.val v) = .val v := by simp [rnA]
theorem rnA_e0 (l l' : Nat) : rnA l l' .e0 = .e0 := by simp [rnA]
theorem rnA_arr (l l' : Nat) (sh : Sh) (xs : List AV) : rnA l l' (.arr sh xs) = .arr sh xs := by simp [rnA]
theorem rnA_eptr (l l' : Nat) (sh : Sh) (xs : List AV) (i j : Nat) : rnA l l' (.eptr sh xs i j) = .eptr sh xs i j := by simp [rnA]
theorem rnL_nil (l l' : Nat) : rnL l l' [] = [] := by simp [rnL]
theorem rnL_cons (l l' : Nat) (x : AV) (r : List AV) : rnL l l' (x :: r) = rnA l l' x :: rnL l l' r := by simp [rnL]
theorem rnL_length (l l' : Nat) : ∀ xs : List AV, (rnL l l' xs).length = xs.length
  | [] => rfl
  | x :: r => by rw [rnL_cons, List.length_cons, List.length_cons, rnL_length l l' r]
theorem rnL_get (l l' : Nat) : ∀ (xs : List AV) (i : Nat) (h : i < xs.length) (h' : i < (rnL l l' xs).length), (rnL l l' xs)[i] = rnA l l' xs[i]
  | x :: r, 0, _, _ => rfl
  | x :: r, i + 1, h, h' => by
    have := rnL_get l l' r i (by simpa using h) (by rw [rnL_length]; simpa using h)
    simpa [rnL] using this
theorem rnA_leaf {l l' : Nat} {x : AV} (h : leaf x) : leaf (rnA l l' x) := by
  cases x <;> first | exact h.elim | (simp [rnA]; trivial) | trivial

def rnB (l l' : Nat) : Blk → Blk
  | .box v xs => .box v (rnL l l' xs)
  | b => b
theorem rnB_box (l l' v : Nat) (xs : List AV) : rnB l l' (.box v xs) = .box v (rnL l l' xs) := rfl
theorem rnB_row (l l' v : Nat) (sh : Sh) (d : Bool) (xs : List AV) : rnB l l' (.row v sh d xs) = .row v sh d xs := rfl
theorem rnB_gone (l l' v : Nat) : rnB l l' (.gone v) = .gone v := rfl
theorem rnB_ver (l l' : Nat) (b : Blk) : (rnB l l' b).ver = b.ver := by cases b <;> rfl
def rnE (l l' : Nat) : Env → Env
  | [] => []
  | (t, x) :: r => (t, rnA l l' x) :: rnE l l' r
theorem rnE_nil (l l' : Nat) : rnE l l' [] = [] := rfl
theorem rnE_cons (l l' t : Nat) (x : AV) (r : Env) : rnE l l' ((t, x) :: r) = (t, rnA l l' x) :: rnE l l' r := rfl
def rnM (l l' : Nat) : Mem → Mem
  | [] => []
  | (k, b) :: r => (rl l l' k, rnB l l' b) :: rnM l l' r
theorem rnM_nil (l l' : Nat) : rnM l l' [] = [] := rfl
theorem rnM_cons (l l' k : Nat) (b : Blk) (r : Mem) : rnM l l' ((k, b) :: r) = (rl l l' k, rnB l l' b) :: rnM l l' r := rfl

theorem look_rnE (l l' : Nat) : ∀ (ts : Env) (t : Nat), look (rnE l l' ts) t = rnA l l' (look ts t)
  | [], t => (rnA_undef l l').symm
  | (k, x) :: r, t => by
    rw [rnE_cons, look_cons, look_cons, look_rnE l l' r t]
    split <;> rfl
theorem lookB_rnM (l l' : Nat) : ∀ (m : Mem) (k : Nat), lookB (rnM l l' m) k = (lookB m (rl l l' k)).map (rnB l l')
  | [], k => rfl
  | (k0, b) :: r, k => by
    rw [rnM_cons, lookB_cons, lookB_cons, lookB_rnM l l' r k]
    by_cases h : rl l l' k0 = k
    · have : k0 = rl l l' k := by rw [← h, rl_rl]
      rw [if_pos h, if_pos this]; rfl
    · have : k0 ≠ rl l l' k := fun e => h (by rw [e, rl_rl])
      rw [if_neg h, if_neg this]

mutual
theorem labs_rnA (l l' : Nat) : ∀ (x : AV), labs (rnA l l' x) = (labs x).map fun p => (rl l l' p.1, p.2)
  | .ref k v i n => by simp [rnA, labs]
  | .ptr k v i j => by simp [rnA, labs]
  | .agg xs => by rw [rnA_agg]; simp only [labs]; exact labs_rnL l l' xs
  | .tup xs => by rw [rnA_tup]; simp only [labs]; exact labs_rnL l l' xs
  | .clo f xs => by rw [rnA_clo]; simp only [labs]; exact labs_rnL l l' xs
  | .undef => by simp [rnA, labs]
  | .val v => by simp [rnA, labs]
  | .e0 => by simp [rnA, labs]
  | .arr sh xs => by simp [rnA, labs]
  | .eptr sh xs i j => by simp [rnA, labs]
theorem labs_rnL (l l' : Nat) : ∀ (xs : List AV), labsL (rnL l l' xs) = (labsL xs).map fun p => (rl l l' p.1, p.2)
  | [] => by simp [rnL, labsL]
  | x :: r => by rw [rnL_cons]; simp only [labsL]; rw [labs_rnA l l' x, labs_rnL l l' r, List.map_append]
end

theorem rnA_rd {w : World} {S : Nat → Prop} {x : AV} {v : Value} (l l' : Nat) (h : Rd w S x v) : rnA l l' x = x := by
  have key : ∀ (xs : List AV), (∀ i (hi : i < xs.length), rnA l l' xs[i] = xs[i]) → rnL l l' xs = xs := by
    intro xs hx
    refine List.ext_getElem (rnL_length l l' xs) fun i h1 h2 => ?_
    rw [rnL_get l l' xs i h2 h1]; exact hx i h2
  induction h with
  | undef v => exact rnA_undef _ _
  | val v h => exact rnA_val _ _ _
  | e0 a => exact rnA_e0 _ _
  | nil sh a => exact rnA_arr _ _ _ _
  | arr => exact rnA_arr _ _ _ _
  | agg xs cs hl hf hv ih => rw [rnA_agg, key xs ih]
  | tup xs cs hl hv ih => rw [rnA_tup, key xs ih]
  | eptr => exact rnA_eptr _ _ _ _ _ _
  | clo f xs cs hl hv ih => rw [rnA_clo, key xs ih]

section
variable {B : Base} {N : Nat} {φ : Nat → LS} {fp : Nat → List Nat} {S : Nat → Prop} {ts : Env} {m : Mem} {a : Act} {w : World}

theorem RV.ren (l l' : Nat) {x : AV} {v : Value} (h : RV w S φ x v) : RV w S (fun k => φ (rl l l' k)) (rnA l l' x) v := by
  induction h with
  | rd x v h => rw [rnA_rd l l' h]; exact .rd x v h
  | agg xs cs hl hf _ ih =>
    rw [rnA_agg]
    refine .agg _ cs (hl.trans (rnL_length l l' xs).symm) (fun i hi => ?_) fun i hi => ?_
    · have h' : i < xs.length := by rw [rnL_length] at hi; exact hi
      rw [rnL_get l l' xs i h' hi]; exact rnA_leaf (hf i h')
    · have h' : i < xs.length := by rw [rnL_length] at hi; exact hi
      rw [rnL_get l l' xs i h' hi]; exact ih i h'
  | tup xs cs hl _ ih =>
    rw [rnA_tup]
    refine .tup _ cs (hl.trans (rnL_length l l' xs).symm) fun i hi => ?_
    have h' : i < xs.length := by rw [rnL_length] at hi; exact hi
    rw [rnL_get l l' xs i h' hi]; exact ih i h'
  | clo f xs cs hl _ ih =>
    rw [rnA_clo]
    refine .clo f _ cs (hl.trans (rnL_length l l' xs).symm) fun i hi => ?_
    have h' : i < xs.length := by rw [rnL_length] at hi; exact hi
    rw [rnL_get l l' xs i h' hi]; exact ih i h'
  | ref k ver i n v h1 h2 h3 =>
    rw [rnA_ref]
    refine .ref _ _ _ _ _ (fun b sh hb => h1 b sh ?_) (fun hb => h2 ?_) h3
    · rwa [rl_rl] at hb
    · rwa [rl_rl] at hb
  | ptr k ver i j v h1 h2 h3 =>
    rw [rnA_ptr]
    refine .ptr _ _ _ _ _ (fun b sh hb => h1 b sh ?_) (fun hb => h2 ?_) h3
    · rwa [rl_rl] at hb
    · rwa [rl_rl] at hb

theorem RS.ren (h : RS B N φ fp S ts m a w) {l l' : Nat} (hl : l < ioL) (hl' : l' < ioL) : RS B N (fun k => φ (rl l l' k)) (fun k => fp (rl l l' k)) S (rnE l l' ts) (rnM l l' m) a w := by
  have kn : ∀ k ver, known m k ver → known (rnM l l' m) (rl l l' k) ver := by
    rintro k ver ⟨b, h1, h2⟩
    exact ⟨rnB l l' b, by rw [lookB_rnM, rl_rl, h1]; rfl, by rw [rnB_ver]; exact h2⟩
  have labs_in : ∀ (x : AV) k ver, (k, ver) ∈ labs (rnA l l' x) → ∃ k0, k = rl l l' k0 ∧ (k0, ver) ∈ labs x := by
    intro x k ver hk
    rw [labs_rnA] at hk
    obtain ⟨⟨k0, v0⟩, h1, h2⟩ := List.mem_map.1 hk
    simp only [Prod.mk.injEq] at h2
    obtain ⟨rfl, rfl⟩ := h2
    exact ⟨k0, rfl, h1⟩
  refine { tm := fun t => ?_, tl := fun t k ver hk => ?_, mNone := fun k hk => ?_, mSome := fun k b hb => ?_, bl := fun k v xs hb k' ver hk => ?_, nod := fun k => h.nod _, dis := fun k k' b h1 h2 => rl_inj (h.dis _ _ b h1 h2),
           notS := fun k b hb => h.notS _ b hb, fpB := fun k b hb => ?_, sB := h.sB, base := h.base, out := h.out, szs := h.szs, kn := fun k ver hk hv => ?_, fix := fun k ver hk hv => ?_, size := h.size, defers := h.defers, tsz := h.tsz, kon := h.kon }
  · rw [look_rnE]; exact (h.tm t).ren l l'
  · rw [look_rnE] at hk
    obtain ⟨k0, rfl, h1⟩ := labs_in _ k ver hk
    exact kn k0 ver (h.tl t k0 ver h1)
  · rw [lookB_rnM] at hk
    exact h.mNone _ (by simpa using hk)
  · rw [lookB_rnM] at hb
    obtain ⟨b0, hb0, rfl⟩ := Option.map_eq_some_iff.1 hb
    have hB := h.mSome _ b0 hb0
    cases b0 with
    | gone v => exact hB
    | row v sh d xs => exact hB
    | lent v xs i u => exact hB
    | box v xs =>
      obtain ⟨b, cs, e, sh, h1, h2, h3, h4, h5, h6⟩ := hB
      refine ⟨b, cs, e, sh, h1, h2, h3, h4.trans (rnL_length l l' xs).symm, fun i hi => ?_, fun i hi => ?_⟩
      · have h' : i < xs.length := by rw [rnL_length] at hi; exact hi
        rw [rnL_get l l' xs i h' hi]; exact rnA_leaf (h5 i h')
      · have h' : i < xs.length := by rw [rnL_length] at hi; exact hi
        rw [rnL_get l l' xs i h' hi]; exact (h6 i h').ren l l'
  · rw [lookB_rnM] at hb
    obtain ⟨b0, hb0, e⟩ := Option.map_eq_some_iff.1 hb
    cases b0 with
    | gone v => cases e
    | row v sh d xs => cases e
    | lent v xs i u => cases e
    | box v0 xs0 =>
      cases e
      rw [labs_rnL] at hk
      obtain ⟨⟨k0, v1⟩, h1, h2⟩ := List.mem_map.1 hk
      simp only [Prod.mk.injEq] at h2
      obtain ⟨rfl, rfl⟩ := h2
      exact kn k0 v1 (h.bl _ _ _ hb0 k0 v1 h1)
  · have := h.fpB _ b hb
    refine ⟨this.1, this.2.imp id fun ⟨l0, h1, h2, h3⟩ => ?_⟩
    by_cases hk : ioL ≤ k
    · rw [rl_hi hl hl' hk] at h3; exact ⟨l0, h1, hk, h3⟩
    · have := rl_lo hl hl' (Nat.lt_of_not_le hk); omega
  · have := kn k ver (h.kn k ver hk hv)
    rwa [rl_hi hl hl' hk] at this
  · show LS.le (φ (rl l l' k)) _ _
    rw [rl_hi hl hl' hk]; exact h.fix k ver hk hv

/-- (ts, m) may be taken for (ts2, m2), when labels have changed places. -/
inductive RefR : Env → Mem → Env → Mem → Prop
  | here {ts : Env} {m : Mem} {ts2 : Env} {m2 : Mem} (h : refS ts m ts2 m2) : RefR ts m ts2 m2
  | mv {ts : Env} {m : Mem} {ts2 : Env} {m2 : Mem} (l l' : Nat) (hl : l < ioL) (hl' : l' < ioL) (h : RefR (rnE l l' ts) (rnM l l' m) ts2 m2) : RefR ts m ts2 m2

theorem RS.refineR {ts2 : Env} {m2 : Mem} (hr : RefR ts m ts2 m2) : ∀ {φ : Nat → LS} {fp : Nat → List Nat}, RS B N φ fp S ts m a w → ∃ φ' fp' S', RS B N φ' fp' S' ts2 m2 a w := by
  induction hr with
  | here h => intro φ fp hR; exact ⟨_, _, _, hR.refine h⟩
  | mv l l' hl hl' _ ih => intro φ fp hR; exact ih (hR.ren hl hl')

variable {P : Program}
theorem Ok.loopR {body : Code} {ι : Type} (I : ι → Prop) (σ : ι → Env × Mem) (μ : ι → Nat) {Q : Post} (x0 : ι) (h0 : I x0) (hr : RefR ts m (σ x0).1 (σ x0).2)
    (step : ∀ x, I x → Ok P N body (σ x).1 (σ x).2 (thn Q fun ts' m' => ∃ y, I y ∧ μ y < μ x ∧ RefR ts' m' (σ y).1 (σ y).2)) : Ok P N (.loop body) ts m Q := by
  intro B φ fp S a w hRS
  obtain ⟨φ1, fp1, S1, hR1⟩ := RS.refineR hr hRS
  refine wp_loop_ghost (fun n a w => ∃ x φ fp S, I x ∧ μ x = n ∧ RS B N φ fp S (σ x).1 (σ x).2 a w) (μ x0) ⟨x0, _, _, _, h0, rfl, hR1⟩ ?_
  rintro n a w ⟨x, φ, fp, S, hx, rfl, hRS⟩
  refine wp_mono (step x hx B φ fp S a w hRS) fun e a' w' hq => ?_
  obtain ⟨φ', fp', S', ts', m', h1, h2⟩ := hq
  cases e with
  | normal =>
    obtain ⟨y, hy, hlt, href⟩ := h2
    obtain ⟨φ2, fp2, S2, hR2⟩ := RS.refineR href h1
    exact ⟨μ y, hlt, y, _, _, _, hy, rfl, hR2⟩
  | _ => exact ⟨φ', fp', S', ts', m', h1, h2⟩
end
end Go.Vc
