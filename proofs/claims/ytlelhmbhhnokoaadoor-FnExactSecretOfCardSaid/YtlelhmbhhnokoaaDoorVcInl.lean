/-
  A call by the callee's body: it is stepped through in the caller's memory.
-/
import Derived.Test.YtlelhmbhhnokoaaDoorVcIo
import Derived.Test.YtlelhmbhhnokoaaDoorVcRen
set_option linter.unusedVariables false
set_option linter.unusedSimpArgs false
set_option linter.unnecessarySimpa false
namespace Go.Vc

section
variable {P : Program} {B : Base} {N : Nat} {φ : Nat → LS} {fp : Nat → List Nat} {S : Nat → Prop} {ts : Env} {m : Mem} {a : Act} {w : World}

/-- Two labels change places; the second may be an upper one that is none of the base's. -/
theorem RS.ren3 (h : RS B N φ fp S ts m a w) {l l' : Nat} (hl : l < ioL) (h0 : lookB B.m0 l' = none) (hfp : ∀ b, b ∈ fp l' → B.w0.heap.size ≤ b) :
    RS B N (fun k => φ (rl l l' k)) (fun k => fp (rl l l' k)) S (rnE l l' ts) (rnM l l' m) a w := by
  have kn : ∀ k ver, known m k ver → known (rnM l l' m) (rl l l' k) ver := by
    rintro k ver ⟨b, h1, h2⟩
    exact ⟨rnB l l' b, by rw [lookB_rnM, rl_rl, h1]; rfl, by rw [rnB_ver]; exact h2⟩
  have labs_in : ∀ (x : AV) k ver, (k, ver) ∈ labs (rnA l l' x) → ∃ k0, k = rl l l' k0 ∧ (k0, ver) ∈ labs x := by
    intro x k ver hk
    rw [labs_rnA] at hk
    obtain ⟨⟨k0, v0⟩, h1, h2⟩ := List.mem_map.1 hk
    simp only [Prod.mk.injEq] at h2
    obtain ⟨rfl, rfl⟩ := h2
    exact ⟨k0, rfl, h1⟩
  have hi : ∀ k ver, ioL ≤ k → known B.m0 k ver → rl l l' k = k := by
    rintro k ver hk ⟨b, h1, _⟩
    unfold rl
    rw [if_neg (by omega), if_neg (fun e => by subst e; rw [h0] at h1; cases h1)]
  refine { tm := fun t => ?_, tl := fun t k ver hk => ?_, mNone := fun k hk => ?_, mSome := fun k b hb => ?_, bl := fun k v xs hb k' ver hk => ?_, nod := fun k => h.nod _, dis := fun k k' b h1 h2 => rl_inj (h.dis _ _ b h1 h2),
           notS := fun k b hb => h.notS _ b hb, fpB := fun k b hb => ?_, sB := h.sB, base := h.base, out := h.out, szs := h.szs, kn := fun k ver hk hv => ?_, fix := fun k ver hk hv => ?_, size := h.size, defers := h.defers, tsz := h.tsz, kon := h.kon }
  · rw [look_rnE]; exact (h.tm t).ren l l'
  · rw [look_rnE] at hk
    obtain ⟨k0, rfl, h1⟩ := labs_in _ k ver hk
    exact kn k0 ver (h.tl t k0 ver h1)
  · rw [lookB_rnM] at hk
    exact h.mNone _ (by simpa using hk)
  · rw [lookB_rnM] at hb
    obtain ⟨b0, hb0, rfl⟩ := Option.map_eq_some_iff.1 hb
    have hB := h.mSome _ b0 hb0
    cases b0 with
    | gone v => exact hB
    | row v sh d xs => exact hB
    | lent v xs i u => exact hB
    | box v xs =>
      obtain ⟨b, cs, e, sh, h1, h2, h3, h4, h5, h6⟩ := hB
      refine ⟨b, cs, e, sh, h1, h2, h3, h4.trans (rnL_length l l' xs).symm, fun i hi => ?_, fun i hi => ?_⟩
      · have h' : i < xs.length := by rw [rnL_length] at hi; exact hi
        rw [rnL_get l l' xs i h' hi]; exact rnA_leaf (h5 i h')
      · have h' : i < xs.length := by rw [rnL_length] at hi; exact hi
        rw [rnL_get l l' xs i h' hi]; exact (h6 i h').ren l l'
  · rw [lookB_rnM] at hb
    obtain ⟨b0, hb0, e⟩ := Option.map_eq_some_iff.1 hb
    cases b0 with
    | gone v => cases e
    | row v sh d xs => cases e
    | lent v xs i u => cases e
    | box v0 xs0 =>
      cases e
      rw [labs_rnL] at hk
      obtain ⟨⟨k0, v1⟩, h1, h2⟩ := List.mem_map.1 hk
      simp only [Prod.mk.injEq] at h2
      obtain ⟨rfl, rfl⟩ := h2
      exact kn k0 v1 (h.bl _ _ _ hb0 k0 v1 h1)
  · have hb := hb
    unfold rl at hb
    split at hb
    · refine ⟨(h.fpB _ b hb).1, .inl (hfp b hb)⟩
    · split at hb
      · refine ⟨(h.fpB _ b hb).1, ?_⟩
        rcases (h.fpB _ b hb).2 with hh | ⟨_, _, hh, _⟩
        · exact .inl hh
        · omega
      · exact h.fpB _ b hb
  · have := kn k ver (h.kn k ver hk hv)
    rwa [hi k ver hk hv] at this
  · show LS.le (φ (rl l l' k)) _ _
    rw [hi k ver hk hv]; exact h.fix k ver hk hv

/-- Back from the callee's frame. -/
theorem RS.back {N' : Nat} {φ' : Nat → LS} {fp' : Nat → List Nat} {S' : Nat → Prop} {ts' : Env} {m' : Mem} {a' : Act} {w' : World} (h : RS B N φ fp S ts m a w) (hi : ∀ l, lookB m l ≠ none → ioL ≤ l)
    (h' : RS ⟨w, fun l b => b ∈ fp l, S, φ, m⟩ N' φ' fp' S' ts' m' a' w') : RS B N φ' fp' (fun b => S b ∨ (S' b ∧ w.heap.size ≤ b)) ts m' a w' := by
  have hkn : ∀ l ver, known m l ver → ioL ≤ l := fun l ver ⟨k, h1, _⟩ => hi l (by rw [h1]; exact fun e => by cases e)
  have hS : ∀ b, S b → w'.heap[b]? = w.heap[b]? := fun b hb => h'.base b (h.sB b hb).1 fun l hl => h.notS l b hl hb
  have hz : Sized φ w w' := fun l b sh ver cs e _ hb => h'.szs b cs e hb
  have hST : ∀ b, S' b → S b ∨ (S' b ∧ w.heap.size ≤ b) := fun b hb => by
    rcases (h'.sB b hb).2 with hh | hh
    · exact .inr ⟨hb, hh⟩
    · exact .inl hh
  refine { tm := fun t => (h.tm t).mono hS (fun b hb => .inl hb) hz fun l ver hl => h'.fix l ver (hkn l ver (h.tl t l ver hl)) (h.tl t l ver hl),
           tl := fun t l ver hl => h'.kn l ver (hkn l ver (h.tl t l ver hl)) (h.tl t l ver hl), mNone := h'.mNone,
           mSome := fun l k hk => (h'.mSome l k hk).mono (fun _ _ => rfl) hST (fun l b sh ver cs e _ hb => ⟨cs, e, hb, rfl⟩) (fun _ _ => rfl) rfl (fun _ _ _ _ _ _ => LS.le_refl _ _),
           bl := h'.bl, nod := h'.nod, dis := h'.dis, notS := fun l b hb => ?_, fpB := fun l b hb => ?_, sB := fun b hb => ?_, base := fun b hb hio => ?_, out := h.out.trans h'.out, szs := h.szs.trans h'.szs,
           kn := fun l ver hl hk => h'.kn l ver hl (h.kn l ver hl hk), fix := fun l ver hl hk => LS.le_trans (h'.fix l ver hl (h.kn l ver hl hk)) (h.fix l ver hl hk), size := Nat.le_trans h.size h'.size, defers := h.defers, tsz := h.tsz, kon := h.kon.mono hS fun b hb => .inl hb }
  · rintro (hs | hs)
    · rcases (h'.fpB l b hb).2 with hh | ⟨l0, hh, _⟩
      · exact absurd (h.sB b hs).1 (Nat.not_lt.2 hh)
      · exact h.notS l0 b hh hs
    · exact h'.notS l b hb hs.1
  · refine ⟨(h'.fpB l b hb).1, ?_⟩
    rcases (h'.fpB l b hb).2 with hh | ⟨l0, hh, hl, h3⟩
    · exact .inl (Nat.le_trans h.size hh)
    · rcases (h.fpB l0 b hh).2 with h4 | ⟨l1, h4, h5, h6⟩
      · exact .inl h4
      · refine .inr ⟨l1, h4, hl, ?_⟩
        rcases h3 with h3 | h3
        · rw [h3] at h6; exact h6
        · refine .inr ?_
          cases he : lookB B.m0 l with
          | none => rfl
          | some k =>
            obtain ⟨k2, h7, _⟩ := h.kn l k.ver hl ⟨k, he, Nat.le_refl _⟩
            have h3' : lookB m l = none := h3
            rw [h3'] at h7; cases h7
  · rcases hb with hs | hs
    · exact ⟨Nat.lt_of_lt_of_le (h.sB b hs).1 h'.size, (h.sB b hs).2⟩
    · exact ⟨(h'.sB b hs.1).1, .inl (Nat.le_trans h.size hs.2)⟩
  · refine (h'.base b (Nat.lt_of_lt_of_le hb h.size) fun l hl => ?_).trans (h.base b hb hio)
    rcases (h.fpB l b hl).2 with hh | ⟨l1, hh, _⟩
    · exact absurd hb (Nat.not_lt.2 hh)
    · exact hio l1 hh
end

/-- What must hold where a body that is stepped through in place ends. -/
def finI (P : Program) (rs : List ResultVar) (k : AV → Mem → Prop) : Post
  | .normal => fun ts m => sResults P (fun xs => k (mkRes xs) m) rs ts m []
  | .ret => fun ts m => sResults P (fun xs => k (mkRes xs) m) rs ts m []
  | _ => fun _ _ => False
theorem finI_normal (P : Program) (rs : List ResultVar) (k : AV → Mem → Prop) (ts : Env) (m : Mem) : finI P rs k .normal ts m = sResults P (fun xs => k (mkRes xs) m) rs ts m [] := rfl
theorem finI_ret (P : Program) (rs : List ResultVar) (k : AV → Mem → Prop) (ts : Env) (m : Mem) : finI P rs k .ret ts m = sResults P (fun xs => k (mkRes xs) m) rs ts m [] := rfl

def allHi : Mem → Prop
  | [] => True
  | (l, _) :: r => ioL ≤ l ∧ allHi r
theorem allHi_nil : allHi [] = True := rfl
theorem allHi_cons (l : Nat) (b : Blk) (r : Mem) : allHi ((l, b) :: r) = (1000000000 ≤ l ∧ allHi r) := rfl
theorem allHi_get : ∀ {m : Mem}, allHi m → ∀ l, lookB m l ≠ none → ioL ≤ l
  | [], _, l, h => absurd rfl h
  | (k, b) :: r, ⟨h1, h2⟩, l, h => by
    rw [lookB_cons] at h
    split at h
    · rename_i e; subst e; exact h1
    · exact allHi_get h2 l h
def rnsM : List (Nat × Nat) → Mem → Mem
  | [], m => m
  | (l, l') :: r, m => rnsM r (rnM l l' m)
def rnsA : List (Nat × Nat) → AV → AV
  | [], x => x
  | (l, l') :: r, x => rnsA r (rnA l l' x)
def rnsL (ρ : List (Nat × Nat)) (xs : List AV) : List AV := xs.map (rnsA ρ)
def rnsMb : List (Nat × Nat) → Mem → Mem
  | [], m => m
  | (l, l') :: r, m => rnM l l' (rnsMb r m)
def rnsAb : List (Nat × Nat) → AV → AV
  | [], x => x
  | (l, l') :: r, x => rnA l l' (rnsAb r x)
def hasB (b : Option Blk) : Prop := b ≠ none
theorem hasB_some (b : Blk) : hasB (some b) = True := by simp [hasB]
def freeB (b : Option Blk) : Prop := b = none
theorem freeB_none : freeB none = True := by simp [freeB]
def renOk : List (Nat × Nat) → Mem → Prop
  | [], _ => True
  | (l, l') :: r, m => ((l < ioL ∧ ioL ≤ l') ∧ hasB (lookB m l) ∧ freeB (lookB m l')) ∧ renOk r (rnM l l' m)
theorem rnsM_nil (m : Mem) : rnsM [] m = m := rfl
theorem rnsM_cons (l l' : Nat) (r : List (Nat × Nat)) (m : Mem) : rnsM ((l, l') :: r) m = rnsM r (rnM l l' m) := rfl
theorem rnsA_nil (x : AV) : rnsA [] x = x := rfl
theorem rnsA_cons (l l' : Nat) (r : List (Nat × Nat)) (x : AV) : rnsA ((l, l') :: r) x = rnsA r (rnA l l' x) := rfl
theorem rnsL_nil (ρ : List (Nat × Nat)) : rnsL ρ [] = [] := rfl
theorem rnsL_cons (ρ : List (Nat × Nat)) (x : AV) (r : List AV) : rnsL ρ (x :: r) = rnsA ρ x :: rnsL ρ r := rfl
theorem rnsMb_nil (m : Mem) : rnsMb [] m = m := rfl
theorem rnsMb_cons (l l' : Nat) (r : List (Nat × Nat)) (m : Mem) : rnsMb ((l, l') :: r) m = rnM l l' (rnsMb r m) := rfl
theorem rnsAb_nil (x : AV) : rnsAb [] x = x := rfl
theorem rnsAb_cons (l l' : Nat) (r : List (Nat × Nat)) (x : AV) : rnsAb ((l, l') :: r) x = rnA l l' (rnsAb r x) := rfl
theorem renOk_nil (m : Mem) : renOk [] m = True := rfl
theorem renOk_cons (l l' : Nat) (r : List (Nat × Nat)) (m : Mem) : renOk ((l, l') :: r) m = (((l < 1000000000 ∧ 1000000000 ≤ l') ∧ hasB (lookB m l) ∧ freeB (lookB m l')) ∧ renOk r (rnM l l' m)) := rfl

def lowOk : List (Nat × Nat) → Prop
  | [] => True
  | (l, l') :: r => (l < ioL ∧ l' < ioL) ∧ lowOk r
theorem lowOk_nil : lowOk [] = True := rfl
theorem lowOk_cons (l l' : Nat) (r : List (Nat × Nat)) : lowOk ((l, l') :: r) = ((l < 1000000000 ∧ l' < 1000000000) ∧ lowOk r) := rfl
def inF : List Nat → Nat → Bool
  | [], _ => false
  | d :: D, l => l == d || inF D l
theorem inF_nil (l : Nat) : inF [] l = false := rfl
theorem inF_cons (d : Nat) (D : List Nat) (l : Nat) : inF (d :: D) l = (l == d || inF D l) := rfl
/-- the lower labels of a memory, with the names that they take meanwhile -/
def lowP (J : Nat) : List Nat → Mem → List (Nat × Nat)
  | _, [] => []
  | E, (l, _) :: r => if (decide (l < 1000000000) && !inF E l) = true then (l, l + J) :: lowP J (l :: E) r else lowP J E r
theorem lowP_nil (J : Nat) (E : List Nat) : lowP J E [] = [] := rfl
theorem lowP_cons (J : Nat) (E : List Nat) (l : Nat) (b : Blk) (r : Mem) : lowP J E ((l, b) :: r) = if (decide (l < 1000000000) && !inF E l) = true then (l, l + J) :: lowP J (l :: E) r else lowP J E r := rfl
theorem rnsM_low (l l' : Nat) (r : List (Nat × Nat)) (m : Mem) : rnsM ((l, l') :: r) m = rnsM r (rnM l l' m) := rfl

mutual
theorem rnA_rnA (l l' : Nat) : ∀ x : AV, rnA l l' (rnA l l' x) = x
  | .ref k v i n => by simp [rnA, rl_rl]
  | .ptr k v i j => by simp [rnA, rl_rl]
  | .agg xs => by rw [rnA_agg, rnA_agg, rnL_rnL l l' xs]
  | .tup xs => by rw [rnA_tup, rnA_tup, rnL_rnL l l' xs]
  | .clo f xs => by rw [rnA_clo, rnA_clo, rnL_rnL l l' xs]
  | .undef => by simp [rnA]
  | .val v => by simp [rnA]
  | .e0 => by simp [rnA]
  | .arr sh xs => by simp [rnA]
  | .eptr sh xs i j => by simp [rnA]
theorem rnL_rnL (l l' : Nat) : ∀ xs : List AV, rnL l l' (rnL l l' xs) = xs
  | [] => by simp [rnL]
  | x :: r => by rw [rnL_cons, rnL_cons, rnA_rnA l l' x, rnL_rnL l l' r]
end

section
variable {P : Program} {B : Base} {N : Nat} {φ : Nat → LS} {fp : Nat → List Nat} {S : Nat → Prop} {ts : Env} {m : Mem} {a : Act} {w : World}

theorem known_snoc {m : Mem} {acc : List AV} {x : AV} (h : ∀ i (h : i < acc.reverse.length) l ver, (l, ver) ∈ labs acc.reverse[i] → known m l ver) (hx : ∀ l ver, (l, ver) ∈ labs x → known m l ver) :
    ∀ i (h : i < (x :: acc).reverse.length) l ver, (l, ver) ∈ labs (x :: acc).reverse[i] → known m l ver := by
  intro i hi l ver hl
  simp only [List.reverse_cons] at hi hl
  rw [List.getElem_append] at hl
  split at hl
  · exact h i _ l ver hl
  · simp at hl; exact hx l ver hl
theorem results_out' (h : RS B N φ fp S ts m a w) {Q : List AV → Prop} : ∀ (rs : List ResultVar) (acc : List AV) (va : List Value), RdL (RV w S φ) acc.reverse va → (∀ i (h : i < acc.reverse.length) l ver, (l, ver) ∈ labs acc.reverse[i] → known m l ver) → sResults P Q rs ts m acc →
    ∃ xs vs, Q xs ∧ (rs.mapM (resOne a.tmps)).run P w = .ok vs w ∧ RdL (RV w S φ) xs (va ++ vs) ∧ ∀ i (h : i < xs.length) l ver, (l, ver) ∈ labs xs[i] → known m l ver
  | [], acc, va, ha, hl, hk => ⟨_, [], hk, by simp, by simpa using ha, hl⟩
  | .tmp t :: r, acc, va, ha, hl, hk => by
    obtain ⟨xs, vs, h1, h2, h3, h4⟩ := results_out' h r (look ts t :: acc) (va ++ [a.tmps.getD t Go.undef]) (by rw [List.reverse_cons]; exact ha.snoc (h.tm t)) (known_snoc hl (fun l ver hl' => h.tl t l ver hl')) hk
    refine ⟨xs, a.tmps.getD t Go.undef :: vs, h1, ?_, by simpa using h3, h4⟩
    rw [List.mapM_cons]
    simp only [resOne, Sem.run_bind, Sem.run_pure, Result.andThen_ok, h2]
  | .cell p t :: r, acc, va, ha, hl, hk => by
    obtain ⟨ti, ht, hk⟩ := sTI_out hk
    obtain ⟨ad, u, y, hv, hr, hy, hyl, hk⟩ := run_cellR ht h (h.tm p) hk
    obtain ⟨xs, vs, h1, h2, h3, h4⟩ := results_out' h r (y :: acc) (va ++ [u]) (by rw [List.reverse_cons]; exact ha.snoc hy) (known_snoc hl hyl) hk
    refine ⟨xs, u :: vs, h1, ?_, by simpa using h3, h4⟩
    rw [List.mapM_cons]
    simp only [resOne, hv, asAddr, Sem.run_bind, Sem.run_pure, Result.andThen_ok, hr, h2]

theorem mkRes_rv {ys : List AV} {vs : List Value} (hl : vs.length = ys.length) (hv : ∀ i (h : i < ys.length), RV w S φ ys[i] (vs.getD i Go.undef)) :
    RV w S φ (mkRes ys) (if h : vs.toArray.size = 1 then vs.toArray[0] else .tuple vs.toArray) := by
  match ys, vs, hl, hv with
  | [], [], _, _ => exact .rd _ _ (.tup [] #[] rfl fun i hi => absurd hi (Nat.not_lt_zero _))
  | [y], [v], _, hv => simpa [mkRes] using hv 0 (by simp)
  | y :: y' :: r, v :: v' :: r', hl, hv =>
    have : ¬ ((v :: v' :: r').toArray.size = 1) := by simp
    rw [dif_neg this]
    exact .tup _ _ (by simpa using hl) (by simpa using hv)
theorem mkRes_labs {ys : List AV} (h : ∀ i (h : i < ys.length) l ver, (l, ver) ∈ labs ys[i] → known m l ver) : ∀ l ver, (l, ver) ∈ labs (mkRes ys) → known m l ver := by
  intro l ver hl
  match ys, h, hl with
  | [], _, hl => simp [mkRes, labs, labsL] at hl
  | [y], h, hl => exact h 0 (by simp) l ver (by simpa [mkRes] using hl)
  | y :: y' :: r, h, hl =>
    rw [mkRes_two] at hl
    simp only [labs] at hl
    obtain ⟨i, hi, hl2⟩ := of_mem_labsL hl
    exact h i hi l ver hl2

theorem RS.renLow : ∀ (σ : List (Nat × Nat)) {φ : Nat → LS} {fp : Nat → List Nat} {ts : Env} {m : Mem}, lowOk σ → RS B N φ fp S ts m a w → ∃ φ' fp' ts', RS B N φ' fp' S ts' (rnsM σ m) a w ∧ (∀ x v, RV w S φ x v → RV w S φ' (rnsA σ x) v) ∧
    (∀ x, (∀ l ver, (l, ver) ∈ labs x → known m l ver) → ∀ l ver, (l, ver) ∈ labs (rnsA σ x) → known (rnsM σ m) l ver) ∧ ∀ l, ioL ≤ l → fp' l = fp l
  | [], φ, fp, ts, m, _, h => ⟨φ, fp, ts, h, fun _ _ h => h, fun _ h => h, fun _ _ => rfl⟩
  | (l, l') :: r, φ, fp, ts, m, ⟨⟨h1, h2⟩, h3⟩, h => by
    obtain ⟨φ', fp', ts', g1, g2, g3, g4⟩ := RS.renLow r h3 (h.ren h1 h2)
    refine ⟨φ', fp', ts', g1, fun x v hx => g2 _ _ (hx.ren l l'), fun x hx => g3 _ fun k ver hk => ?_, fun k hk => ?_⟩
    · rw [labs_rnA] at hk
      obtain ⟨⟨k0, v0⟩, q1, q2⟩ := List.mem_map.1 hk
      simp only [Prod.mk.injEq] at q2
      obtain ⟨rfl, rfl⟩ := q2
      obtain ⟨b0, q3, q4⟩ := hx k0 v0 q1
      exact ⟨rnB l l' b0, by rw [lookB_rnM, rl_rl, q3]; rfl, by rw [rnB_ver]; exact q4⟩
    · rw [g4 k hk]
      show fp (rl l l' k) = fp k
      rw [rl_hi h1 h2 hk]

theorem inl_sound (J : Nat) {f : FuncId} {fn : Func} {c : Code} (hf : P.funcs[f]? = some fn) (hb : fn.body = some c) (hok : codeOk fn.ntmps c = true) :
    ∀ (ρ : List (Nat × Nat)) {φ : Nat → LS} {fp : Nat → List Nat} {ts : Env} {m : Mem} {xs : List AV} {vs : Array Value} {k : AV → Mem → Prop}, RS B N φ fp S ts m a w → renOk ρ m → allHi (rnsM ρ m) → xs.length ≤ fn.ntmps →
      vs.size = xs.length → (∀ i (h : i < xs.length), RV w S φ xs[i] (vs.toList.getD i Go.undef)) → (∀ i (h : i < xs.length) l ver, (l, ver) ∈ labs xs[i] → known m l ver) →
      vc P fn.ntmps c (argsE 0 (rnsL ρ xs)) (rnsM ρ m) (finI P fn.results.toList fun x m' => lowOk (lowP J [] m') ∧ k (rnsAb ρ (rnsA (lowP J [] m') x)) (rnsMb ρ (rnsM (lowP J [] m') m'))) →
      Calls P f vs w fun e w' => ∃ v, e = .returned v ∧ ∃ φ' fp' S' m' x, RS B N φ' fp' S' ts m' a w' ∧ RV w' S' φ' x v ∧ (∀ l ver, (l, ver) ∈ labs x → known m' l ver) ∧ k x m' ∧
        ∀ l, lookB m l ≠ none → ioL ≤ l → ∀ b, b ∈ fp' l → w.heap.size ≤ b ∨ b ∈ fp l
  | [], φ, fp, ts, m, xs, vs, k, h, _, hhi, ha, hsz, hx, hxl, hv => by
    have hhi := allHi_get hhi
    simp only [rnsM, rnsL] at hhi hv
    rw [show xs.map (rnsA []) = xs from by rw [show rnsA [] = id from rfl, List.map_id]] at hv
    refine calls_of_wp hf hb ?_
    have hRS : RS ⟨w, fun l b => b ∈ fp l, S, φ, m⟩ fn.ntmps φ fp S (argsE 0 xs) m { tmps := vs ++ Array.replicate (fn.ntmps - vs.size) undef, defers := [] } w := by
      refine { tm := fun t => ?_, tl := fun t l ver hl => ?_, mNone := h.mNone, mSome := h.mSome, bl := h.bl, nod := h.nod, dis := h.dis, notS := h.notS, fpB := fun l b hb => ⟨(h.fpB l b hb).1, .inr ⟨l, hb, ?_, .inl rfl⟩⟩,
               sB := fun b hb => ⟨(h.sB b hb).1, .inr hb⟩, base := fun b hb _ => rfl, out := SameOut.refl _, szs := Szs.refl _, kn := fun _ _ _ hk => hk, fix := fun _ _ _ _ => LS.le_refl _ _, size := Nat.le_refl _, defers := rfl, tsz := by simp; omega, kon := h.kon }
      · rw [look_argsE]
        by_cases ht : t < xs.length
        · have h1 := hx t ht
          have e1 : vs.toList.getD t Go.undef = (vs ++ Array.replicate (fn.ntmps - vs.size) undef).getD t Go.undef := by
            have h2 : t < vs.size := by omega
            simp only [Array.getD_eq_getD_getElem?, List.getD_eq_getElem?_getD, Array.getElem?_toList]
            rw [Array.getElem?_append_left h2]
          rw [← e1]
          simpa [ht] using h1
        · have : (if 0 ≤ t then (xs[t - 0]?).getD AV.undef else .undef) = .undef := by simp [List.getElem?_eq_none (show xs.length ≤ t by omega)]
          rw [this]; exact .rd _ _ (.undef _)
      · rw [look_argsE] at hl
        by_cases ht : t < xs.length
        · exact hxl t ht l ver (by simpa [ht] using hl)
        · have : (if 0 ≤ t then (xs[t - 0]?).getD AV.undef else .undef) = .undef := by simp [List.getElem?_eq_none (show xs.length ≤ t by omega)]
          rw [this] at hl; cases hl
      · refine hhi l fun e => ?_
        rw [(h.mNone l e).2] at hb; cases hb
    have hend : ∀ a' w', Done ⟨w, fun l b => b ∈ fp l, S, φ, m⟩ fn.ntmps (fun ts m' => sResults P (fun xs => lowOk (lowP J [] m') ∧ k (rnsA (lowP J [] m') (mkRes xs)) (rnsM (lowP J [] m') m')) fn.results.toList ts m' []) a' w' →
        a'.defers = [] ∧ ∃ v, (results fn a'.tmps).run P w' = .ok v w' ∧ ∃ v', Ending.returned v = .returned v' ∧ ∃ φ' fp' S' m' x, RS B N φ' fp' S' ts m' a w' ∧ RV w' S' φ' x v' ∧ (∀ l ver, (l, ver) ∈ labs x → known m' l ver) ∧ k x m' ∧
          ∀ l, lookB m l ≠ none → ioL ≤ l → ∀ b, b ∈ fp' l → w.heap.size ≤ b ∨ b ∈ fp l := by
      rintro a' w' ⟨φ', fp', S', ts', m', h', hk⟩
      refine ⟨h'.defers, ?_⟩
      obtain ⟨ys, us, ⟨hlow, h1⟩, h2, h3, h4⟩ := results_out' h' fn.results.toList [] [] ⟨rfl, fun i hi => absurd hi (Nat.not_lt_zero _)⟩ (fun i hi => absurd hi (Nat.not_lt_zero _)) hk
      obtain ⟨h3a, h3b⟩ := h3
      simp only [List.nil_append] at h3a h3b
      obtain ⟨φ2, fp2, ts2, r1, r2, r3, r4⟩ := RS.renLow (lowP J [] m') hlow h'
      have hback := h.back hhi r1
      have hST : ∀ b, S' b → S b ∨ (S' b ∧ w.heap.size ≤ b) := fun b hb => by
        rcases (h'.sB b hb).2 with hh | hh
        · exact .inr ⟨hb, hh⟩
        · exact .inl hh
      refine ⟨if h : us.toArray.size = 1 then us.toArray[0] else .tuple us.toArray, ?_, _, rfl, φ2, fp2, _, _, _, hback, ?_, ?_, h1, fun l hl hl2 b hb => ?_⟩
      · have hm : results fn a'.tmps = (do let vs ← fn.results.mapM (resOne a'.tmps); pure (if h : vs.size = 1 then vs[0] else .tuple vs)) := by
          unfold results
          congr 1
        rw [hm, Sem.run_bind, Array.mapM_eq_mapM_toList]
        have : (List.toArray <$> fn.results.toList.mapM (resOne a'.tmps) : Sem (Array Value)).run P w' = .ok us.toArray w' := by
          rw [map_eq_pure_bind, Sem.run_bind, h2]; rfl
        rw [this]; rfl
      · refine (r2 _ _ (mkRes_rv h3a h3b)).mono (fun _ _ => rfl) hST (fun l b sh ver cs e _ hb => ⟨cs, e, hb, rfl⟩) fun _ _ _ => LS.le_refl _ _
      · exact r3 _ (mkRes_labs h4)
      · rw [r4 l hl2] at hb
        rcases (h'.fpB l b hb).2 with hh | ⟨l0, hh, _, h5⟩
        · exact .inl hh
        · rcases h5 with h5 | h5
          · subst h5; exact .inr hh
          · exact absurd h5 hl
    refine wp_mono (vc_sound c _ _ _ hok hv _ _ _ _ _ _ hRS) ?_
    intro e a' w' hq
    cases e with
    | normal => exact hend a' w' hq
    | ret => exact hend a' w' hq
    | _ => obtain ⟨_, _, _, _, _, _, hh⟩ := hq; exact hh.elim
  | (l, l') :: r, φ, fp, ts, m, xs, vs, k, h, ⟨⟨⟨hl, hio⟩, hh, hl'⟩, hok2⟩, hhi, ha, hsz, hx, hxl, hv => by
    have hm0 : lookB B.m0 l' = none := by
      cases he : lookB B.m0 l' with
      | none => rfl
      | some k0 =>
        obtain ⟨k2, h7, _⟩ := h.kn l' k0.ver hio ⟨k0, he, Nat.le_refl _⟩
        rw [show lookB m l' = none from hl'] at h7; cases h7
    have hfp0 : fp l' = [] := (h.mNone l' hl').2
    have h1 := h.ren3 hl hm0 (fun b hb => by rw [hfp0] at hb; cases hb)
    have hne : l ≠ l' := by unfold ioL at *; omega
    have e1 : rl l l' l = l' := by simp [rl]
    have e2 : rl l l' l' = l := by unfold rl; rw [if_neg (Ne.symm hne), if_pos rfl]
    have hlk : ∀ x, lookB (rnM l l' m) x ≠ none ↔ lookB m (rl l l' x) ≠ none := fun x => by rw [lookB_rnM]; cases lookB m (rl l l' x) <;> simp
    have hlen : (rnL l l' xs).length = xs.length := rnL_length l l' xs
    have := inl_sound J hf hb hok r (k := fun x m' => k (rnA l l' x) (rnM l l' m')) (xs := rnL l l' xs) (vs := vs) h1 hok2 hhi (by rw [hlen]; exact ha) (by rw [hlen]; exact hsz) (fun i hi => ?_) (fun i hi l0 ver hl0 => ?_) ?_
    · refine this.mono ?_
      rintro e w' ⟨v, rfl, φ', fp', S', m', x, g1, g2, g3, g4, g5⟩
      have hb5 : ∀ b, b ∈ fp' l' → B.w0.heap.size ≤ b := by
        intro b hb'
        rcases g5 l' ((hlk l').2 (by rw [e2]; exact hh)) hio b hb' with h5 | h5
        · exact Nat.le_trans h.size h5
        · have h5 : b ∈ fp (rl l l' l') := h5
          rw [e2] at h5
          rcases (h.fpB l b h5).2 with h6 | ⟨_, _, h6, _⟩
          · exact h6
          · exact absurd hl (Nat.not_lt.2 h6)
      have g6 := g1.ren3 hl hm0 hb5
      refine ⟨v, rfl, fun k => φ' (rl l l' k), fun k => fp' (rl l l' k), S', rnM l l' m', rnA l l' x, ?_, g2.ren l l', fun l0 ver hl0 => ?_, g4, fun l0 h0 h2 b hb' => ?_⟩
      · have ets : ∀ t, look (rnE l l' (rnE l l' ts)) t = look ts t := fun t => by rw [look_rnE, look_rnE, rnA_rnA]
        exact { g6 with tm := fun t => by rw [← ets]; exact g6.tm t, tl := fun t l ver hl => g6.tl t l ver (by rw [ets]; exact hl) }
      · rw [labs_rnA] at hl0
        obtain ⟨⟨k0, v0⟩, q1, q2⟩ := List.mem_map.1 hl0
        simp only [Prod.mk.injEq] at q2
        obtain ⟨rfl, rfl⟩ := q2
        obtain ⟨b0, q3, q4⟩ := g3 k0 v0 q1
        exact ⟨rnB l l' b0, by rw [lookB_rnM, rl_rl, q3]; rfl, by rw [rnB_ver]; exact q4⟩
      · have n1 : l0 ≠ l := fun e => by subst e; exact absurd hl (Nat.not_lt.2 h2)
        have n2 : l0 ≠ l' := fun e => by subst e; exact h0 hl'
        have e3 : rl l l' l0 = l0 := by unfold rl; rw [if_neg n1, if_neg n2]
        have hb' : b ∈ fp' (rl l l' l0) := hb'
        rw [e3] at hb'
        have := g5 l0 ((hlk l0).2 (by rw [e3]; exact h0)) h2 b hb'
        rcases this with h5 | h5
        · exact .inl h5
        · have h5 : b ∈ fp (rl l l' l0) := h5
          rw [e3] at h5; exact .inr h5
    · have h' : i < xs.length := by rw [hlen] at hi; exact hi
      rw [rnL_get l l' xs i h' hi]; exact (hx i h').ren l l'
    · have h' : i < xs.length := by rw [hlen] at hi; exact hi
      rw [rnL_get l l' xs i h' hi, labs_rnA] at hl0
      obtain ⟨⟨k0, v0⟩, q1, q2⟩ := List.mem_map.1 hl0
      simp only [Prod.mk.injEq] at q2
      obtain ⟨rfl, rfl⟩ := q2
      obtain ⟨b0, q3, q4⟩ := hxl i h' k0 v0 q1
      exact ⟨rnB l l' b0, by rw [lookB_rnM, rl_rl, q3]; rfl, by rw [rnB_ver]; exact q4⟩
    · have : rnsL r (rnL l l' xs) = rnsL ((l, l') :: r) xs := by
        refine List.ext_getElem (by simp [rnsL, hlen]) fun i h1 h2 => ?_
        simp only [rnsL, List.getElem_map]
        rw [rnL_get l l' xs i (by simpa [rnsL] using h2)]; rfl
      rw [this]; exact hv

/-- A call, stepped through in place: our lower labels take other names meanwhile; the callee's take names J higher at its end. -/
theorem sCallT_inl {f : FuncId} {d : Nat} {xs xt : List AV} {m : Mem} {k : AV → Mem → Prop} {q : Pack k} {fn : Func} {c : Code} (J : Nat) (N : Nat) (rs : List ResultVar) (hf : P.funcs[f]? = some fn) (hN : fn.ntmps = N) (hr : fn.results.toList = rs)
    (hn : (fn.name == "runtime.NumGoroutine") = false) (hb : fn.body = some c) (hok : codeOk N c = true) (ha : xs.length ≤ N)
    (hv : (renOk (lowP 1500000000 [] m) m ∧ allHi (rnsM (lowP 1500000000 [] m) m)) ∧ vc P N c (argsE 0 (rnsL (lowP 1500000000 [] m) xs)) (rnsM (lowP 1500000000 [] m) m)
      (finI P rs fun x m' => lowOk (lowP J [] m') ∧ k (rnsAb (lowP 1500000000 [] m) (rnsA (lowP J [] m') x)) (rnsMb (lowP 1500000000 [] m) (rnsM (lowP J [] m') m')))) : sCallT P f d xs xt m k q := by
  subst hN; subst hr
  refine .inl fun B N φ fp S ts a w vs hRS hsz hx hxl => ⟨⟨fn, c, hf, hn, hb⟩, ?_⟩
  refine (inl_sound J hf hb hok _ hRS hv.1.1 hv.1.2 ha hsz hx hxl hv.2).mono ?_
  rintro e w' ⟨v, rfl, φ', fp', S', m', x, g1, g2, g3, g4, _⟩
  exact ⟨v, rfl, φ', fp', S', ts, m', x, g1, g2, g3, rfl, g4⟩
end
end Go.Vc
