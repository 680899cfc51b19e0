import Derived.Sort.Grow
import Derived.Shelf.SlGeneric
import Derived.Ground.SlgnProg
import Derived.Shelf.SortG.Plain
import Derived.Shelf.SlicesG.CompactI
import Derived.Shelf.SortG.SortNone
import Derived.Test.YtikfojjghnfjkaaProg
import Derived.Lib.SlicesCompact
import Derived.Test.YtikfojjghnfjkaaPkLawFewestC
/-
  Calls of functions that write blocks of their caller's which name each other (boxes that hold labels): contracts that keep the labels, for recursion by closures.
-/
set_option linter.unusedVariables false
set_option linter.unusedSimpArgs false
set_option linter.unnecessarySimpa false
namespace Go.Vc

def keys (m : Mem) : List Nat := m.map (·.1)
theorem keys_nil : keys [] = [] := rfl
theorem keys_cons (l : Nat) (b : Blk) (r : Mem) : keys ((l, b) :: r) = l :: keys r := rfl
theorem in_keys {m : Mem} {l : Nat} (h : lookB m l ≠ none) : l ∈ keys m := by
  induction m with
  | nil => exact absurd rfl h
  | cons p r ih =>
    obtain ⟨k, v⟩ := p
    rw [lookB_cons] at h
    by_cases e : k = l
    · simp [keys, e]
    · rw [if_neg e] at h
      exact List.mem_cons_of_mem _ (ih h)
theorem of_keys {m : Mem} {l : Nat} (h : l ∈ keys m) : lookB m l ≠ none := by
  induction m with
  | nil => cases h
  | cons p r ih =>
    obtain ⟨k, v⟩ := p
    rw [lookB_cons]
    by_cases e : k = l
    · rw [if_pos e]; exact fun h => by cases h
    · rw [if_neg e]
      refine ih ?_
      rcases List.mem_cons.1 h with h | h
      · exact absurd h.symm e
      · exact h
/-- the labels that a memory's boxes hold are among these -/
def okM (L : List Nat) (m : Mem) : Prop := (∀ l, lookB m l ≠ none → l ∈ L) ∧ ∀ l v xs, lookB m l = some (.box v xs) → ∀ p, p ∈ labsL xs → p.1 ∈ L
def keepsM (L : List Nat) (m m' : Mem) : Prop := (∀ l, l ∈ L → lookB m' l = lookB m l) ∧ okM L m'

def resφ (L : List Nat) (φ : Nat → LS) (l : Nat) : LS := if l ∈ L then φ l else .dead
def resF (L : List Nat) (fp : Nat → List Nat) (l : Nat) : List Nat := if l ∈ L then fp l else []
theorem resφ_in {L : List Nat} {φ : Nat → LS} {l : Nat} (h : l ∈ L) : resφ L φ l = φ l := if_pos h
theorem resF_in {L : List Nat} {fp : Nat → List Nat} {l : Nat} (h : l ∈ L) : resF L fp l = fp l := if_pos h
theorem mem_resF {L : List Nat} {fp : Nat → List Nat} {l b : Nat} (h : b ∈ resF L fp l) : l ∈ L ∧ b ∈ fp l := by
  unfold resF at h
  split at h
  · exact ⟨‹_›, h⟩
  · cases h

section
variable {P : Program} {B : Base} {N : Nat} {φ : Nat → LS} {fp : Nat → List Nat} {S : Nat → Prop} {ts : Env} {m : Mem} {a : Act} {w : World}

theorem RS.sub (h : RS B N φ fp S ts m a w) {L : List Nat} {m' : Mem} (hk : keepsM L m m') (hb : ∀ l, lookB B.m0 l ≠ none → l ∈ L) :
    RS B 0 (resφ L φ) (resF L fp) S [] m' { tmps := #[], defers := [] } w := by
  obtain ⟨k1, k2, k3⟩ := hk
  refine { tm := fun t => by rw [look_nil]; exact .rd _ _ (.undef _), tl := fun t l ver hl => (by rw [look_nil] at hl; cases hl), mNone := fun l hl => ?_, mSome := fun l b hb => ?_, bl := fun l v xs hb l' ver hl => ?_,
           nod := fun l => ?_, dis := fun l l' b h1 h2 => h.dis l l' b (mem_resF h1).2 (mem_resF h2).2, notS := fun l b hb => h.notS l b (mem_resF hb).2, fpB := fun l b hb => h.fpB l b (mem_resF hb).2,
           sB := h.sB, base := h.base, out := h.out, szs := h.szs, kn := fun l ver hl hk => ?_, fix := fun l ver hl hk => ?_, size := h.size, defers := rfl, tsz := rfl, kon := h.kon }
  · by_cases hm : l ∈ L
    · rw [resφ_in hm, resF_in hm]
      rw [k1 l hm] at hl
      exact h.mNone l hl
    · unfold resφ resF
      rw [if_neg hm, if_neg hm]; exact ⟨rfl, rfl⟩
  · have hm := k2 l (by rw [hb]; exact fun e => by cases e)
    have hb2 := hb
    rw [k1 l hm] at hb2
    rw [resF_in hm]
    refine (h.mSome l b hb2).mono (fun _ _ => rfl) (fun _ h => h) (fun l b sh ver cs e _ hb => ⟨cs, e, hb, rfl⟩) (fun _ _ => rfl) (resφ_in hm) fun v xs e l' ver hl' => ?_
    subst e
    rw [resφ_in (k3 l v xs hb _ hl')]
    exact LS.le_refl _ _
  · have hm := k2 l (by rw [hb]; exact fun e => by cases e)
    have hb2 := hb
    rw [k1 l hm] at hb2
    obtain ⟨k, h1, h2⟩ := h.bl l v xs hb2 l' ver hl
    exact ⟨k, (k1 l' (k3 l v xs hb _ hl)).trans h1, h2⟩
  · unfold resF; split
    · exact h.nod l
    · exact List.nodup_nil
  · obtain ⟨k, h1, h2⟩ := h.kn l ver hl hk
    obtain ⟨k0, h3, _⟩ := hk
    exact ⟨k, (k1 l (hb l (by rw [h3]; exact fun e => by cases e))).trans h1, h2⟩
  · obtain ⟨k0, h3, h4⟩ := hk
    rw [resφ_in (hb l (by rw [h3]; exact fun e => by cases e))]
    exact h.fix l ver hl ⟨k0, h3, h4⟩
end

def baseH (w : World) (φ : Nat → LS) (fp : Nat → List Nat) (S : Nat → Prop) (m0 : Mem) : Base := ⟨w, fun l b => b ∈ fp l, S, φ, m0⟩

/-- A contract over the memory m0: called there with xs, it returns a value without labels, and leaves a memory with the same labels. -/
def FnH (P : Program) (f : FuncId) (m0 : Mem) (xs : List AV) (post : AV → Mem → Prop) : Prop :=
  Enters P f ∧ ∀ (w : World) (φ : Nat → LS) (fp : Nat → List Nat) (S : Nat → Prop) (vs : Array Value), vs.size = xs.length →
    RS (baseH w φ fp S m0) vs.size φ fp S (argsE 0 xs) m0 { tmps := vs, defers := [] } w →
    Calls P f vs w fun e w' => ∃ x v m' φ' fp' S', e = .returned v ∧ post x m' ∧ RV w' S' φ' x v ∧ labs x = [] ∧ okM (keys m0) m' ∧ RS (baseH w φ fp S m0) 0 φ' fp' S' [] m' { tmps := #[], defers := [] } w'

theorem FnH.mono {P : Program} {f : FuncId} {m0 : Mem} {xs : List AV} {post post' : AV → Mem → Prop} (h : FnH P f m0 xs post) (hp : ∀ r m', post r m' → post' r m') : FnH P f m0 xs post' :=
  ⟨h.1, fun w φ fp S vs h1 h2 => (h.2 w φ fp S vs h1 h2).mono fun _ _ ⟨x, v, m', φ', fp', S', g1, g2, g3⟩ => ⟨x, v, m', φ', fp', S', g1, hp _ _ g2, g3⟩⟩

def finH (P : Program) (rs : List ResultVar) (L : List Nat) (post : AV → Mem → Prop) : Post
  | .normal => fun ts m => sResults P (fun ys => labsL ys = [] ∧ ∃ m', post (mkRes ys) m' ∧ keepsM L m m') rs ts m []
  | .ret => fun ts m => sResults P (fun ys => labsL ys = [] ∧ ∃ m', post (mkRes ys) m' ∧ keepsM L m m') rs ts m []
  | _ => fun _ _ => False
theorem finH_normal (P : Program) (rs : List ResultVar) (L : List Nat) (post : AV → Mem → Prop) (ts : Env) (m : Mem) :
    finH P rs L post .normal ts m = sResults P (fun ys => labsL ys = [] ∧ ∃ m', post (mkRes ys) m' ∧ keepsM L m m') rs ts m [] := rfl
theorem finH_ret (P : Program) (rs : List ResultVar) (L : List Nat) (post : AV → Mem → Prop) (ts : Env) (m : Mem) :
    finH P rs L post .ret ts m = sResults P (fun ys => labsL ys = [] ∧ ∃ m', post (mkRes ys) m' ∧ keepsM L m m') rs ts m [] := rfl

theorem labs_mkRes {ys : List AV} (h : labsL ys = []) : labs (mkRes ys) = [] := by
  match ys, h with
  | [], _ => simp [mkRes, labs, labsL]
  | [y], h => simpa [mkRes, labsL] using h
  | y :: y' :: r, h => rw [mkRes_two]; simpa [labs] using h

theorem FnH.of_vc' {P : Program} {f : FuncId} {fn : Func} {c : Code} {m0 : Mem} {xs : List AV} {post : AV → Mem → Prop} (hf : P.funcs[f]? = some fn) (hn : (fn.name == "runtime.NumGoroutine") = false) (hb : fn.body = some c)
    (hok : codeOk fn.ntmps c = true) (ha : xs.length ≤ fn.ntmps) (hv : vc P fn.ntmps c (argsE 0 xs) m0 (finH P fn.results.toList (keys m0) post)) : FnH P f m0 xs post := by
  refine ⟨⟨fn, c, hf, hn, hb⟩, fun w φ fp S vs hsz hR0 => ?_⟩
  refine calls_of_wp hf hb ?_
  have hRS : RS (baseH w φ fp S m0) fn.ntmps φ fp S (argsE 0 xs) m0 { tmps := vs ++ Array.replicate (fn.ntmps - vs.size) undef, defers := [] } w := by
    refine { hR0 with tm := fun t => ?_, defers := rfl, tsz := by simp; omega }
    by_cases h : t < xs.length
    · have h1 := hR0.tm t
      have : vs.getD t Go.undef = (vs ++ Array.replicate (fn.ntmps - vs.size) undef).getD t Go.undef := by
        have h2 : t < vs.size := by omega
        simp only [Array.getD_eq_getD_getElem?]
        rw [Array.getElem?_append_left h2]
      rw [← this]; exact h1
    · rw [look_argsE]
      have : (if 0 ≤ t then (xs[t - 0]?).getD AV.undef else .undef) = .undef := by simp [List.getElem?_eq_none (show xs.length ≤ t by omega)]
      rw [this]; exact .rd _ _ (.undef _)
  have hend : ∀ a' w', Done (baseH w φ fp S m0) fn.ntmps (fun ts m => sResults P (fun ys => labsL ys = [] ∧ ∃ m', post (mkRes ys) m' ∧ keepsM (keys m0) m m') fn.results.toList ts m []) a' w' →
      a'.defers = [] ∧ ∃ v, (results fn a'.tmps).run P w' = .ok v w' ∧ ∃ x v' m' φ' fp' S', Ending.returned v = .returned v' ∧ post x m' ∧ RV w' S' φ' x v' ∧ labs x = [] ∧ okM (keys m0) m' ∧ RS (baseH w φ fp S m0) 0 φ' fp' S' [] m' { tmps := #[], defers := [] } w' := by
    rintro a' w' ⟨φ', fp', S', ts', m', h', hk⟩
    refine ⟨h'.defers, ?_⟩
    obtain ⟨ys, us, ⟨hlab, m2, hpost, hkeep⟩, h2, h3, h4⟩ := results_out' h' fn.results.toList [] [] ⟨rfl, fun i hi => absurd hi (Nat.not_lt_zero _)⟩ (fun i hi => absurd hi (Nat.not_lt_zero _)) hk
    obtain ⟨h3a, h3b⟩ := h3
    simp only [List.nil_append] at h3a h3b
    refine ⟨if h : us.toArray.size = 1 then us.toArray[0] else .tuple us.toArray, ?_, mkRes ys, _, m2, resφ (keys m0) φ', resF (keys m0) fp', S', rfl, hpost, ?_, labs_mkRes hlab, hkeep.2, h'.sub hkeep fun l hl => in_keys hl⟩
    · have hm : results fn a'.tmps = (do let vs ← fn.results.mapM (resOne a'.tmps); pure (if h : vs.size = 1 then vs[0] else .tuple vs)) := by
        unfold results
        congr 1
      rw [hm, Sem.run_bind, Array.mapM_eq_mapM_toList]
      have : (List.toArray <$> fn.results.toList.mapM (resOne a'.tmps) : Sem (Array Value)).run P w' = .ok us.toArray w' := by
        rw [map_eq_pure_bind, Sem.run_bind, h2]; rfl
      rw [this]; rfl
    · refine (mkRes_rv h3a h3b).mono (fun _ _ => rfl) (fun _ h => h) (fun l b sh ver cs e _ hb => ⟨cs, e, hb, rfl⟩) fun l ver hl => ?_
      rw [labs_mkRes hlab] at hl; cases hl
  refine wp_mono (vc_sound c _ _ _ hok hv _ _ _ _ _ _ hRS) ?_
  intro e a' w' hq
  cases e with
  | normal => exact hend a' w' hq
  | ret => exact hend a' w' hq
  | _ => obtain ⟨_, _, _, _, _, _, hh⟩ := hq; exact hh.elim

theorem FnH.of_vc {P : Program} {f : FuncId} {fn : Func} {c : Code} {m0 : Mem} {xs : List AV} {post : AV → Mem → Prop} (N : Nat) (rs : List ResultVar) (hf : P.funcs[f]? = some fn) (hN : fn.ntmps = N) (hr : fn.results.toList = rs)
    (hn : (fn.name == "runtime.NumGoroutine") = false) (hb : fn.body = some c) (hok : codeOk N c = true) (ha : xs.length ≤ N) (hv : vc P N c (argsE 0 xs) m0 (finH P rs (keys m0) post)) : FnH P f m0 xs post := by
  subst hN; subst hr; exact FnH.of_vc' hf hn hb hok ha hv

theorem lookB_appL {m' m : Mem} {l : Nat} {b : Blk} (h : lookB m' l = some b) : lookB (m' ++ m) l = some b := by
  induction m' with
  | nil => cases h
  | cons p r ih =>
    obtain ⟨k, v⟩ := p
    rw [List.cons_append, lookB_cons]
    rw [lookB_cons] at h
    by_cases e : k = l
    · rw [if_pos e] at h ⊢; exact h
    · rw [if_neg e] at h ⊢; exact ih h
theorem lookB_appR {m' m : Mem} {l : Nat} (h : lookB m' l = none) : lookB (m' ++ m) l = lookB m l := by
  induction m' with
  | nil => rfl
  | cons p r ih =>
    obtain ⟨k, v⟩ := p
    rw [List.cons_append, lookB_cons]
    rw [lookB_cons] at h
    by_cases e : k = l
    · rw [if_pos e] at h; cases h
    · rw [if_neg e] at h ⊢; exact ih h

/-- A call, with what the caller's upper blocks may share afterwards. -/
def sCallF (P : Program) (f : FuncId) (xs : List AV) (m : Mem) (k : AV → Mem → Prop) : Prop :=
  Enters P f ∧ ∀ (B : Base) (N : Nat) (φ : Nat → LS) (fp : Nat → List Nat) (S : Nat → Prop) (ts : Env) (a : Act) (w : World) (vs : Array Value), RS B N φ fp S ts m a w → vs.size = xs.length →
    (∀ i (h : i < xs.length), RV w S φ xs[i] (vs.toList.getD i Go.undef)) → (∀ i (h : i < xs.length) l ver, (l, ver) ∈ labs xs[i] → known m l ver) →
    Calls P f vs w fun e w' => ∃ v, e = .returned v ∧ ∃ φ' fp' S' m' x, RS B N φ' fp' S' ts m' a w' ∧ RV w' S' φ' x v ∧ (∀ l ver, (l, ver) ∈ labs x → known m' l ver) ∧ k x m' ∧
        ∀ l, lookB m l ≠ none → ioL ≤ l → ∀ b, b ∈ fp' l → w.heap.size ≤ b ∨ b ∈ fp l

theorem sCallF.io {P : Program} {f : FuncId} {xs : List AV} {m : Mem} {k : AV → Mem → Prop} (h : sCallF P f xs m k) : sCallIo P f xs m k := by
  intro B N φ fp S ts a w vs hRS hsz hx hxl
  refine ⟨h.1, (h.2 B N φ fp S ts a w vs hRS hsz hx hxl).mono ?_⟩
  rintro e w' ⟨v, rfl, φ', fp', S', m', x, g1, g2, g3, g4, _⟩
  exact ⟨v, rfl, φ', fp', S', ts, m', x, g1, g2, g3, rfl, g4⟩

theorem sCallF.ren {P : Program} {f : FuncId} : ∀ (ρ : List (Nat × Nat)) {xs : List AV} {m : Mem} {k : AV → Mem → Prop}, renOk ρ m → sCallF P f (rnsL ρ xs) (rnsM ρ m) (fun x m' => k (rnsAb ρ x) (rnsMb ρ m')) → sCallF P f xs m k
  | [], xs, m, k, _, h => by
    simp only [rnsM, rnsL] at h
    rw [show xs.map (rnsA []) = xs from by rw [show rnsA [] = id from rfl, List.map_id]] at h
    exact h
  | (l, l') :: r, xs, m, k, ⟨⟨⟨hl, hio⟩, hh, hl'⟩, hok2⟩, hv => by
    have hlen : (rnL l l' xs).length = xs.length := rnL_length l l' xs
    have e9 : rnsL r (rnL l l' xs) = rnsL ((l, l') :: r) xs := by
      refine List.ext_getElem (by simp [rnsL, hlen]) fun i h1 h2 => ?_
      simp only [rnsL, List.getElem_map]
      rw [rnL_get l l' xs i (by simpa [rnsL] using h2)]; rfl
    have hrec := sCallF.ren r (k := fun x m' => k (rnA l l' x) (rnM l l' m')) (xs := rnL l l' xs) hok2 (by rw [e9]; exact hv)
    refine ⟨hrec.1, fun B N φ fp S ts a w vs h hsz hx hxl => ?_⟩
    have hm0 : lookB B.m0 l' = none := by
      cases he : lookB B.m0 l' with
      | none => rfl
      | some k0 =>
        obtain ⟨k2, h7, _⟩ := h.kn l' k0.ver hio ⟨k0, he, Nat.le_refl _⟩
        rw [show lookB m l' = none from hl'] at h7; cases h7
    have hfp0 : fp l' = [] := (h.mNone l' hl').2
    have h1 := h.ren3 hl hm0 (fun b hb => by rw [hfp0] at hb; cases hb)
    have hne : l ≠ l' := by unfold ioL at *; omega
    have e1 : rl l l' l = l' := by simp [rl]
    have e2 : rl l l' l' = l := by unfold rl; rw [if_neg (Ne.symm hne), if_pos rfl]
    have hlk : ∀ x, lookB (rnM l l' m) x ≠ none ↔ lookB m (rl l l' x) ≠ none := fun x => by rw [lookB_rnM]; cases lookB m (rl l l' x) <;> simp
    have := hrec.2 B N _ _ S _ a w vs h1 (by rw [hlen]; exact hsz) (fun i hi => by
      have h' : i < xs.length := by rw [hlen] at hi; exact hi
      rw [rnL_get l l' xs i h' hi]; exact (hx i h').ren l l') (fun i hi l0 ver hl0 => by
      have h' : i < xs.length := by rw [hlen] at hi; exact hi
      rw [rnL_get l l' xs i h' hi, labs_rnA] at hl0
      obtain ⟨⟨k0, v0⟩, q1, q2⟩ := List.mem_map.1 hl0
      simp only [Prod.mk.injEq] at q2
      obtain ⟨rfl, rfl⟩ := q2
      obtain ⟨b0, q3, q4⟩ := hxl i h' k0 v0 q1
      exact ⟨rnB l l' b0, by rw [lookB_rnM, rl_rl, q3]; rfl, by rw [rnB_ver]; exact q4⟩)
    refine this.mono ?_
    rintro e w' ⟨v, rfl, φ', fp', S', m', x, g1, g2, g3, g4, g5⟩
    have hb5 : ∀ b, b ∈ fp' l' → B.w0.heap.size ≤ b := by
      intro b hb'
      rcases g5 l' ((hlk l').2 (by rw [e2]; exact hh)) hio b hb' with h5 | h5
      · exact Nat.le_trans h.size h5
      · have h5 : b ∈ fp (rl l l' l') := h5
        rw [e2] at h5
        rcases (h.fpB l b h5).2 with h6 | ⟨_, _, h6, _⟩
        · exact h6
        · exact absurd hl (Nat.not_lt.2 h6)
    have g6 := g1.ren3 hl hm0 hb5
    refine ⟨v, rfl, fun k => φ' (rl l l' k), fun k => fp' (rl l l' k), S', rnM l l' m', rnA l l' x, ?_, g2.ren l l', fun l0 ver hl0 => ?_, g4, fun l0 h0 h2 b hb' => ?_⟩
    · have ets : ∀ t, look (rnE l l' (rnE l l' ts)) t = look ts t := fun t => by rw [look_rnE, look_rnE, rnA_rnA]
      exact { g6 with tm := fun t => by rw [← ets]; exact g6.tm t, tl := fun t l ver hl => g6.tl t l ver (by rw [ets]; exact hl) }
    · rw [labs_rnA] at hl0
      obtain ⟨⟨k0, v0⟩, q1, q2⟩ := List.mem_map.1 hl0
      simp only [Prod.mk.injEq] at q2
      obtain ⟨rfl, rfl⟩ := q2
      obtain ⟨b0, q3, q4⟩ := g3 k0 v0 q1
      exact ⟨rnB l l' b0, by rw [lookB_rnM, rl_rl, q3]; rfl, by rw [rnB_ver]; exact q4⟩
    · have n1 : l0 ≠ l := fun e => by subst e; exact absurd hl (Nat.not_lt.2 h2)
      have n2 : l0 ≠ l' := fun e => by subst e; exact h0 hl'
      have e3 : rl l l' l0 = l0 := by unfold rl; rw [if_neg n1, if_neg n2]
      have hb' : b ∈ fp' (rl l l' l0) := hb'
      rw [e3] at hb'
      have := g5 l0 ((hlk l0).2 (by rw [e3]; exact h0)) h2 b hb'
      rcases this with h5 | h5
      · exact .inl h5
      · have h5 : b ∈ fp (rl l l' l0) := h5
        rw [e3] at h5; exact .inr h5

theorem FnH.call {P : Program} {f : FuncId} {m0 : Mem} {xs : List AV} {post : AV → Mem → Prop} {m : Mem} {k : AV → Mem → Prop} (hH : FnH P f m0 xs post) (hhi : ∀ l, l ∈ keys m0 → ioL ≤ l) (hm : ∀ l, l ∈ keys m0 → lookB m l = lookB m0 l)
    (hok : okM (keys m0) m0) (hxs : ∀ p, p ∈ labsL xs → p.1 ∈ keys m0) (hk : ∀ r m', post r m' → k r (m' ++ m)) : sCallF P f xs m k := by
  refine ⟨hH.1, fun B N φ fp S ts a w vs h hsz hx hxl => ?_⟩
  have hR0 : RS (baseH w (resφ (keys m0) φ) (resF (keys m0) fp) S m0) vs.size (resφ (keys m0) φ) (resF (keys m0) fp) S (argsE 0 xs) m0 { tmps := vs, defers := [] } w := by
    refine { tm := fun t => ?_, tl := fun t l ver hl => ?_, mNone := fun l hl => ?_, mSome := fun l b hb => ?_, bl := fun l v xs hb l' ver hl => ?_, nod := fun l => ?_, dis := fun l l' b h1 h2 => h.dis l l' b (mem_resF h1).2 (mem_resF h2).2,
             notS := fun l b hb => h.notS l b (mem_resF hb).2, fpB := fun l b hb => ⟨(h.fpB l b (mem_resF hb).2).1, .inr ⟨l, hb, hhi l (mem_resF hb).1, .inl rfl⟩⟩, sB := fun b hb => ⟨(h.sB b hb).1, .inr hb⟩, base := fun b _ _ => rfl, out := SameOut.refl _, szs := Szs.refl _,
             kn := fun _ _ _ hk => hk, fix := fun _ _ _ _ => LS.le_refl _ _, size := Nat.le_refl _, defers := rfl, tsz := rfl, kon := h.kon }
    · rw [look_argsE]
      by_cases ht : t < xs.length
      · have e : (if 0 ≤ t then (xs[t - 0]?).getD AV.undef else .undef) = xs[t] := by simp [ht]
        rw [e]
        have e2 : vs.toList.getD t Go.undef = vs.getD t Go.undef := by simp [List.getD_eq_getElem?_getD, Array.getD_eq_getD_getElem?]
        rw [← e2]
        refine (hx t ht).mono (fun _ _ => rfl) (fun _ h => h) (fun l b sh ver cs e _ hb => ⟨cs, e, hb, rfl⟩) fun l ver hl => ?_
        rw [resφ_in (hxs _ (mem_labsL ht hl))]
        exact LS.le_refl _ _
      · have e : (if 0 ≤ t then (xs[t - 0]?).getD AV.undef else .undef) = .undef := by simp [List.getElem?_eq_none (show xs.length ≤ t by omega)]
        rw [e]; exact .rd _ _ (.undef _)
    · rw [look_argsE] at hl
      by_cases ht : t < xs.length
      · have e : (if 0 ≤ t then (xs[t - 0]?).getD AV.undef else .undef) = xs[t] := by simp [ht]
        rw [e] at hl
        obtain ⟨b, h1, h2⟩ := hxl t ht l ver hl
        exact ⟨b, (hm l (hxs _ (mem_labsL ht hl))).symm.trans h1, h2⟩
      · have e : (if 0 ≤ t then (xs[t - 0]?).getD AV.undef else .undef) = .undef := by simp [List.getElem?_eq_none (show xs.length ≤ t by omega)]
        rw [e] at hl; cases hl
    · have hn : l ∉ keys m0 := fun hh => of_keys hh hl
      unfold resφ resF
      rw [if_neg hn, if_neg hn]; exact ⟨rfl, rfl⟩
    · have hl : l ∈ keys m0 := in_keys (by rw [hb]; exact fun e => by cases e)
      rw [resF_in hl]
      refine (h.mSome l b ((hm l hl).trans hb)).mono (fun _ _ => rfl) (fun _ h => h) (fun l b sh ver cs e _ hb => ⟨cs, e, hb, rfl⟩) (fun _ _ => rfl) (resφ_in hl) fun v xs e l' ver hl' => ?_
      subst e
      rw [resφ_in (hok.2 l v xs hb _ hl')]
      exact LS.le_refl _ _
    · have hl0 : l ∈ keys m0 := in_keys (by rw [hb]; exact fun e => by cases e)
      obtain ⟨b, h1, h2⟩ := h.bl l v xs ((hm l hl0).trans hb) l' ver hl
      exact ⟨b, (hm l' (hok.2 l v xs hb _ hl)).symm.trans h1, h2⟩
    · unfold resF; split
      · exact h.nod l
      · exact List.nodup_nil
  refine (hH.2 w _ _ S vs hsz hR0).mono ?_
  rintro e w' ⟨x, v, m', φ', fp', S', rfl, hpost, hrv, hlab, hokm, hR⟩
  have hsame : ∀ b : Nat, b < w.heap.size → (∀ l, l ∈ keys m0 → b ∉ fp l) → w'.heap[b]? = w.heap[b]? := fun b hb hn => hR.base b hb fun l hb' => hn l (mem_resF hb').1 (mem_resF hb').2
  have hSsame : ∀ b, S b → w'.heap[b]? = w.heap[b]? := fun b hb => hsame b (h.sB b hb).1 fun l _ hb' => h.notS _ b hb' hb
  have hz : Sized φ w w' := fun l b sh ver cs e _ hb => hR.szs b cs e hb
  have hST : ∀ b, S' b → S b ∨ (S' b ∧ w.heap.size ≤ b) := fun b hb => by
    rcases (hR.sB b hb).2 with hh | hh
    · exact .inr ⟨hb, hh⟩
    · exact .inl hh
  have kno : ∀ l ver, l ∈ keys m0 → known m l ver → known m0 l ver := fun l ver hl ⟨b, h1, h2⟩ => ⟨b, (hm l hl).symm.trans h1, h2⟩
  have inm' : ∀ l, l ∈ keys m0 → ∃ b, lookB m' l = some b := by
    intro l hl
    cases hb : lookB m0 l with
    | none => exact absurd hb (of_keys hl)
    | some b =>
      obtain ⟨b', h1, _⟩ := hR.kn l b.ver (hhi l hl) ⟨b, hb, Nat.le_refl _⟩
      exact ⟨b', h1⟩
  have lkL : ∀ l, l ∈ keys m0 → lookB (m' ++ m) l = lookB m' l := fun l hl => by
    obtain ⟨b, hb⟩ := inm' l hl
    rw [hb]; exact lookB_appL hb
  have lkR : ∀ l, l ∉ keys m0 → lookB (m' ++ m) l = lookB m l := fun l hl => lookB_appR (by
    cases hb : lookB m' l with
    | none => rfl
    | some b => exact absurd (hokm.1 l (by rw [hb]; exact fun e => by cases e)) hl)
  have hkn : ∀ l ver, known m l ver → known (m' ++ m) l ver := by
    intro l ver hk
    by_cases hl : l ∈ keys m0
    · obtain ⟨b, h1, h2⟩ := hR.kn l ver (hhi l hl) (kno l ver hl hk)
      exact ⟨b, (lkL l hl).trans h1, h2⟩
    · obtain ⟨b, h1, h2⟩ := hk
      exact ⟨b, (lkR l hl).trans h1, h2⟩
  let φ2 : Nat → LS := fun l => if l ∈ keys m0 then φ' l else φ l
  let fp2 : Nat → List Nat := fun l => if l ∈ keys m0 then fp' l else fp l
  have φi : ∀ l, l ∈ keys m0 → φ2 l = φ' l := fun l hl => if_pos hl
  have φo : ∀ l, l ∉ keys m0 → φ2 l = φ l := fun l hl => if_neg hl
  have fi : ∀ l, l ∈ keys m0 → fp2 l = fp' l := fun l hl => if_pos hl
  have fo : ∀ l, l ∉ keys m0 → fp2 l = fp l := fun l hl => if_neg hl
  have hle : ∀ l ver, known m l ver → LS.le (φ2 l) (φ l) ver := by
    intro l ver hk
    by_cases hl : l ∈ keys m0
    · have := hR.fix l ver (hhi l hl) (kno l ver hl hk)
      have this : LS.le (φ' l) (resφ (keys m0) φ l) ver := this
      rw [resφ_in hl] at this
      rw [φi l hl]; exact this
    · rw [φo l hl]; exact LS.le_refl _ _
  have fpnew : ∀ l, l ∈ keys m0 → ∀ b, b ∈ fp' l → b < w'.heap.size ∧ (w.heap.size ≤ b ∨ b ∈ fp l) := by
    intro l hl b hb
    have := hR.fpB l b hb
    refine ⟨this.1, this.2.imp id ?_⟩
    rintro ⟨l', hb2, _, hl3⟩
    have hl3 : l' = l := hl3.resolve_right fun e => of_keys hl e
    subst hl3
    have hb2 : b ∈ resF (keys m0) fp l' := hb2
    exact (mem_resF hb2).2
  have hfpd : ∀ l, lookB m' l = none → fp' l = [] := fun l hl => (hR.mNone l hl).2
  have mixed : ∀ l, l ∈ keys m0 → ∀ l' b, l' ∉ keys m0 → b ∈ fp' l → b ∈ fp l' → False := by
    intro l hl l' b hl' b1 b2
    rcases (fpnew l hl b b1).2 with hh | hh
    · have := (h.fpB l' b b2).1; omega
    · exact hl' (by rw [h.dis _ _ b b2 hh]; exact hl)
  refine ⟨v, rfl, φ2, fp2, fun b => S b ∨ (S' b ∧ w.heap.size ≤ b), m' ++ m, x, ?_, ?_, fun l ver hl => (by rw [hlab] at hl; cases hl), hk x m' hpost, fun l _ _ b hb => (by
    by_cases hl : l ∈ keys m0
    · rw [fi l hl] at hb; exact (fpnew l hl b hb).2
    · rw [fo l hl] at hb; exact .inr hb)⟩
  · refine { tm := fun t => (h.tm t).mono hSsame (fun b hb => .inl hb) hz fun l ver hl => hle l ver (h.tl t l ver hl), tl := fun t l ver hl => hkn l ver (h.tl t l ver hl), mNone := fun l hl => ?_, mSome := fun l b hb => ?_,
             bl := fun l v xs hb l' ver hl => ?_, nod := fun l => ?_, dis := fun l l' b h1 h2 => ?_, notS := fun l b hb => ?_, fpB := fun l b hb => ?_, sB := fun b hb => ?_, base := fun b hb hio => ?_,
             out := h.out.trans hR.out, szs := h.szs.trans hR.szs, kn := fun l ver hl hk => hkn l ver (h.kn l ver hl hk), fix := fun l ver hl hk => LS.le_trans (hle l ver (h.kn l ver hl hk)) (h.fix l ver hl hk), size := Nat.le_trans h.size hR.size, defers := h.defers, tsz := h.tsz,
             kon := h.kon.mono hSsame fun b hb => .inl hb }
    · by_cases hm1 : l ∈ keys m0
      · obtain ⟨b, hb⟩ := inm' l hm1
        rw [lkL l hm1, hb] at hl; cases hl
      · rw [lkR l hm1] at hl
        rw [φo l hm1, fo l hm1]; exact h.mNone l hl
    · by_cases hm1 : l ∈ keys m0
      · rw [lkL l hm1] at hb
        rw [fi l hm1]
        refine (hR.mSome l b hb).mono (fun _ _ => rfl) hST (fun l b sh ver cs e _ hb => ⟨cs, e, hb, rfl⟩) (fun _ _ => rfl) (φi l hm1) fun v xs e l' ver hl' => ?_
        subst e
        rw [φi l' (hokm.2 l v xs hb _ hl')]
        exact LS.le_refl _ _
      · rw [lkR l hm1] at hb
        rw [fo l hm1]
        refine (h.mSome l b hb).mono hSsame (fun b hb => .inl hb) hz (fun c hc => hsame c (h.fpB l c hc).1 fun l' hl' hc' => hm1 (by rw [h.dis _ _ c hc hc']; exact hl')) (φo l hm1) fun v xs e l' ver hl' => ?_
        subst e
        exact hle l' ver (h.bl l v xs hb l' ver hl')
    · by_cases hm1 : l ∈ keys m0
      · rw [lkL l hm1] at hb
        obtain ⟨b, h1, h2⟩ := hR.bl l v xs hb l' ver hl
        exact ⟨b, lookB_appL h1, h2⟩
      · rw [lkR l hm1] at hb
        exact hkn l' ver (h.bl l v xs hb l' ver hl)
    · by_cases hm1 : l ∈ keys m0
      · rw [fi l hm1]; exact hR.nod l
      · rw [fo l hm1]; exact h.nod l
    · by_cases m1 : l ∈ keys m0
      · rw [fi l m1] at h1
        by_cases m2 : l' ∈ keys m0
        · rw [fi l' m2] at h2
          exact hR.dis _ _ b h1 h2
        · rw [fo l' m2] at h2
          exact (mixed l m1 l' b m2 h1 h2).elim
      · rw [fo l m1] at h1
        by_cases m2 : l' ∈ keys m0
        · rw [fi l' m2] at h2
          exact (mixed l' m2 l b m1 h2 h1).elim
        · rw [fo l' m2] at h2
          exact h.dis l l' b h1 h2
    · by_cases hm1 : l ∈ keys m0
      · rw [fi l hm1] at hb
        rintro (hs | hs)
        · rcases (fpnew l hm1 b hb).2 with hh | hh
          · have := (h.sB b hs).1; omega
          · exact h.notS _ b hh hs
        · exact hR.notS _ b hb hs.1
      · rw [fo l hm1] at hb
        rintro (hs | hs)
        · exact h.notS l b hb hs
        · have := (h.fpB l b hb).1; omega
    · by_cases hm1 : l ∈ keys m0
      · rw [fi l hm1] at hb
        have := fpnew l hm1 b hb
        refine ⟨this.1, ?_⟩
        rcases this.2 with hh | hh
        · exact .inl (Nat.le_trans h.size hh)
        · exact (h.fpB _ b hh).2
      · rw [fo l hm1] at hb
        have := h.fpB l b hb
        exact ⟨Nat.lt_of_lt_of_le this.1 hR.size, this.2⟩
    · rcases hb with hs | hs
      · have := h.sB b hs
        exact ⟨Nat.lt_of_lt_of_le this.1 hR.size, this.2⟩
      · exact ⟨(hR.sB b hs.1).1, .inl (Nat.le_trans h.size hs.2)⟩
    · refine (hsame b (Nat.lt_of_lt_of_le hb h.size) fun l hl hb' => ?_).trans (h.base b hb hio)
      rcases (h.fpB _ b hb').2 with hh | hh
      · omega
      · exact hio _ hh.choose_spec.1
  · refine hrv.mono (fun _ _ => rfl) hST (fun l b sh ver cs e _ hb => ⟨cs, e, hb, rfl⟩) fun l ver hl => ?_
    rw [hlab] at hl; cases hl

/- ---- the same, told by computation -/
def inLs (L : List Nat) : List (Nat × Nat) → Prop
  | [] => True
  | p :: r => p.1 ∈ L ∧ inLs L r
theorem inLs_nil (L : List Nat) : inLs L [] = True := rfl
theorem inLs_cons (L : List Nat) (l v : Nat) (r : List (Nat × Nat)) : inLs L ((l, v) :: r) = (l ∈ L ∧ inLs L r) := rfl
def okK (L : List Nat) (b : Blk) : Prop := match b with
  | .box _ xs => inLs L (labsL xs)
  | _ => True
theorem okK_box (L : List Nat) (v : Nat) (xs : List AV) : okK L (.box v xs) = inLs L (labsL xs) := rfl
theorem okK_row (L : List Nat) (v : Nat) (sh : Sh) (d : Bool) (xs : List AV) : okK L (.row v sh d xs) = True := rfl
theorem okK_gone (L : List Nat) (v : Nat) : okK L (.gone v) = True := rfl
def okB (L : List Nat) : Mem → Prop
  | [] => True
  | (l, b) :: r => (l ∈ L ∧ okK L b) ∧ okB L r
theorem okB_nil (L : List Nat) : okB L [] = True := rfl
theorem okB_cons (L : List Nat) (l : Nat) (b : Blk) (r : Mem) : okB L ((l, b) :: r) = ((l ∈ L ∧ okK L b) ∧ okB L r) := rfl
def sameB (m m' : Mem) : List Nat → Prop
  | [] => True
  | l :: r => lookB m l = lookB m' l ∧ sameB m m' r
theorem sameB_nil (m m' : Mem) : sameB m m' [] = True := rfl
theorem sameB_cons (m m' : Mem) (l : Nat) (r : List Nat) : sameB m m' (l :: r) = (lookB m l = lookB m' l ∧ sameB m m' r) := rfl
def hiLs : List Nat → Prop
  | [] => True
  | l :: r => 1000000000 ≤ l ∧ hiLs r
theorem hiLs_nil : hiLs [] = True := rfl
theorem hiLs_cons (l : Nat) (r : List Nat) : hiLs (l :: r) = (1000000000 ≤ l ∧ hiLs r) := rfl
attribute [go_sem] keys_nil keys_cons inLs_nil inLs_cons okK_box okK_row okK_gone okB_nil okB_cons sameB_nil sameB_cons hiLs_nil hiLs_cons finH_normal finH_ret
end Go.Vc


/-
  Rows that are given away: they stay readable for good. Contracts of functions whose result shares with what they were given.
-/
set_option linter.unusedVariables false
set_option linter.unusedSimpArgs false
set_option linter.unnecessarySimpa false
namespace Go.Vc

section
variable {P : Program} {B : Base} {N : Nat} {φ : Nat → LS} {fp : Nat → List Nat} {S : Nat → Prop} {ts : Env} {m : Mem} {a : Act} {w : World}

end

/-- arguments, of which some are slices of the row that is given away -/
def frzOk (l v : Nat) (sh : Sh) (ys : List AV) : List AV → List AV → Prop
  | [], [] => True
  | x :: xs, t :: r => ((∃ i n, x = .ref l v i n ∧ i + n ≤ ys.length ∧ t = .arr sh ((ys.drop i).take n)) ∨ (labs x = [] ∧ isClo x = false ∧ t = x)) ∧ frzOk l v sh ys xs r
  | _, _ => False
theorem frzOk_ref {l v : Nat} {sh : Sh} {ys xs r : List AV} (i n : Nat) (h : i + n ≤ ys.length) (hr : frzOk l v sh ys xs r) : frzOk l v sh ys (.ref l v i n :: xs) (.arr sh ((ys.drop i).take n) :: r) := ⟨.inl ⟨i, n, rfl, h, rfl⟩, hr⟩
theorem frzOk_no {l v : Nat} {sh : Sh} {ys xs r : List AV} {x : AV} (h : labs x = []) (h2 : isClo x = false) (hr : frzOk l v sh ys xs r) : frzOk l v sh ys (x :: xs) (x :: r) := ⟨.inr ⟨h, h2, rfl⟩, hr⟩
/-- A call that gives a row away: the result may share with it. -/
theorem sCallT_frz {P : Program} {f : FuncId} {d : Nat} {xs trs xt : List AV} {m : Mem} {k : AV → Mem → Prop} {q : Pack k} {post : AV → Prop} (l v : Nat) (sh : Sh) (dp : Bool) (ys : List AV) (hfn : Fn P f trs false post) (hl : l < ioL)
    (hm : lookB m l = some (.row v sh dp ys)) (hx : frzOk l v sh ys xs trs) (hk : ∀ r, post r → k r ((l, .gone v) :: m)) : sCallT P f d xs xt m k q := by
  refine .inl fun B N φ fp S ts a w vs h hsz hrv hxl => ⟨hfn.1, ?_⟩
  have hf := h.frz hl hm (v := v) rfl
  have hlen : ∀ (xs trs : List AV), frzOk l v sh ys xs trs → trs.length = xs.length ∧ ∀ i (h1 : i < xs.length) (h2 : i < trs.length),
      (∃ j n, xs[i] = .ref l v j n ∧ j + n ≤ ys.length ∧ trs[i] = .arr sh ((ys.drop j).take n)) ∨ (labs xs[i] = [] ∧ isClo xs[i] = false ∧ trs[i] = xs[i]) := by
    intro xs
    induction xs with
    | nil => intro trs hx; cases trs with
      | nil => exact ⟨rfl, fun i h1 => absurd h1 (Nat.not_lt_zero _)⟩
      | cons => exact hx.elim
    | cons x xs ih => intro trs hx; cases trs with
      | nil => exact hx.elim
      | cons t r =>
        obtain ⟨g1, g2⟩ := ih r hx.2
        refine ⟨by simp [g1], fun i h1 h2 => ?_⟩
        cases i with
        | zero => exact hx.1
        | succ i => exact g2 i (by simpa using h1) (by simpa using h2)
  obtain ⟨hlen, helt⟩ := hlen xs trs hx
  refine (hfn.2 w (fun b => S b ∨ b ∈ fp l) vs (fun b hb => (hf.sB b hb).1) hf.kon (hsz.trans hlen.symm) fun i hi => ?_).mono ?_
  · have hi2 : i < xs.length := by omega
    rcases helt i hi2 hi with ⟨j, n, e1, e2, e3⟩ | ⟨e1, e2, e3⟩
    · rw [e3]
      have := hrv i hi2
      rw [e1] at this
      exact frz_rd h hl hm e2 this
    · rw [e3]
      exact (rd_of_rv (hrv i hi2) e1).mono (fun _ _ => rfl) fun _ h => .inl h
  · rintro e w' ⟨r, v', rfl, hr, hg, hres⟩
    simp only [FnRes, Bool.false_eq_true, if_false] at hres
    have hRS := (hf.grown hg).hold (fun b => w.heap.size ≤ b ∧ b < w'.heap.size) (fun b hb => ⟨hb.2, Nat.le_trans hf.size hb.1, fun k hk => by have := (hf.fpB k b hk).1; omega⟩)
    exact ⟨v', rfl, _, _, _, ts, _, r, hRS, .rd _ _ hres, fun k ver hk => (by rw [labs_rd hres] at hk; cases hk), rfl, hk r hr⟩

/-- Ahead of any piece of code a row of ours may be given away: temporary t, a slice of it, is a readable list from then on. -/
theorem Later.frz {P : Program} {N : Nat} {code : Code} {ts : Env} {m : Mem} {Q : Post} {q : Pack (code, Q)} (t l v i n : Nat) (sh : Sh) (d : Bool) (ys : List AV) (hl : l < ioL) (hm : lookB m l = some (.row v sh d ys)) (ht : look ts t = .ref l v i n) (hn : i + n ≤ ys.length)
    (h : Later P N code ((t, .arr sh ((ys.drop i).take n)) :: ts) ((l, .gone v) :: m) Q q) : Later P N code ts m Q q := by
  refine ⟨fun B φ fp S a w hRS => h.ok B _ _ _ a w (?_ : RS B N (offφ l φ) (offF l fp) (fun b => S b ∨ b ∈ fp l) _ _ a w)⟩
  have hf := hRS.frz hl hm (v := v) rfl
  have hu := hRS.tm t
  rw [ht] at hu
  have hrd := frz_rd hRS hl hm hn hu
  refine { hf with tm := fun t' => ?_, tl := fun t' k ver hk => ?_ }
  · rw [look_cons]
    split
    · rename_i e; subst e; exact .rd _ _ hrd
    · exact hf.tm t'
  · rw [look_cons] at hk
    split at hk
    · cases hk
    · exact hf.tl t' k ver hk

/-- What must hold where the body of a function ends whose result is readable. -/
def finS (P : Program) (rs : List ResultVar) (post : AV → Prop) : Post
  | .normal => fun ts m => sResults P (fun xs => sGivAs (fun ys _ => labsL ys = [] ∧ post (mkRes ys)) [] m xs) rs ts m []
  | .ret => fun ts m => sResults P (fun xs => sGivAs (fun ys _ => labsL ys = [] ∧ post (mkRes ys)) [] m xs) rs ts m []
  | _ => fun _ _ => False
theorem finS_normal (P : Program) (rs : List ResultVar) (post : AV → Prop) (ts : Env) (m : Mem) : finS P rs post .normal ts m = sResults P (fun xs => sGivAs (fun ys _ => labsL ys = [] ∧ post (mkRes ys)) [] m xs) rs ts m [] := rfl
theorem finS_ret (P : Program) (rs : List ResultVar) (post : AV → Prop) (ts : Env) (m : Mem) : finS P rs post .ret ts m = sResults P (fun xs => sGivAs (fun ys _ => labsL ys = [] ∧ post (mkRes ys)) [] m xs) rs ts m [] := rfl

theorem Fn.of_vcS' {P : Program} {f : FuncId} {fn : Func} {c : Code} {args : List AV} {post : AV → Prop} (hf : P.funcs[f]? = some fn) (hn : (fn.name == "runtime.NumGoroutine") = false) (hb : fn.body = some c)
    (hok : codeOk fn.ntmps c = true) (ha : args.length ≤ fn.ntmps) (hv : vc P fn.ntmps c (argsE 0 args) [] (finS P fn.results.toList post)) : Fn P f args false post := by
  refine ⟨⟨fn, c, hf, hn, hb⟩, fun w S vs hS hkon hsz hrd => ?_⟩
  refine calls_of_wp hf hb ?_
  have hRS : RS ⟨w, fun _ _ => False, S, fun _ => .dead, []⟩ fn.ntmps (fun _ => .dead) (fun _ => []) S (argsE 0 args) [] { tmps := vs ++ Array.replicate (fn.ntmps - vs.size) undef, defers := [] } w := by
    have hlook : ∀ t, (look (argsE 0 args) t = .undef ∨ ∃ h : t < args.length, look (argsE 0 args) t = args[t]) := by
      intro t
      rw [look_argsE]
      by_cases h : t < args.length
      · exact .inr ⟨h, by simp [h]⟩
      · exact .inl (by simp [h])
    refine { tm := fun t => ?_, tl := fun t l ver hl => ?_, mNone := fun _ _ => ⟨rfl, rfl⟩, mSome := fun l k hk => (by cases hk), bl := fun l v xs hk => (by cases hk), nod := fun _ => List.nodup_nil,
             dis := fun _ _ _ h => (by cases h), notS := fun _ _ h => (by cases h), fpB := fun _ _ h => (by cases h), sB := fun b hb => ⟨hS b hb, .inr hb⟩, base := fun b hb _ => rfl, out := SameOut.refl _, szs := Szs.refl _, kn := fun _ _ _ hk => hk, fix := fun _ _ _ _ => LS.le_refl _ _,
             size := Nat.le_refl _, defers := rfl, tsz := by simp; omega, kon := hkon }
    · rcases hlook t with e | ⟨h, e⟩
      · rw [e]; exact .rd _ _ (.undef _)
      · rw [e]
        have h1 := hrd t h
        have : vs.toList.getD t Go.undef = (vs ++ Array.replicate (fn.ntmps - vs.size) undef).getD t Go.undef := by
          have h2 : t < vs.size := by omega
          simp only [Array.getD_eq_getD_getElem?, List.getD_eq_getElem?_getD, Array.getElem?_toList]
          rw [Array.getElem?_append_left h2]
        rw [← this]
        exact .rd _ _ h1
    · rcases hlook t with e | ⟨h, e⟩
      · rw [e] at hl; cases hl
      · rw [e, labs_rd (hrd t h)] at hl; cases hl
  have hend : ∀ a' w', Done ⟨w, fun _ _ => False, S, fun _ => .dead, []⟩ fn.ntmps (fun ts m => sResults P (fun xs => sGivAs (fun ys _ => labsL ys = [] ∧ post (mkRes ys)) [] m xs) fn.results.toList ts m []) a' w' →
      a'.defers = [] ∧ ∃ v, (results fn a'.tmps).run P w' = .ok v w' ∧ ∃ r v', Ending.returned v = .returned v' ∧ post r ∧ Grown w w' ∧ FnRes w w' S false r v' := by
    rintro a' w' ⟨φ0, fp0, S0, ts', m0, h0, hk⟩
    refine ⟨h0.defers, ?_⟩
    obtain ⟨ys0, us, h1, h2, h3, h4⟩ := results_out' h0 fn.results.toList [] [] ⟨rfl, fun i hi => absurd hi (Nat.not_lt_zero _)⟩ (fun i hi => absurd hi (Nat.not_lt_zero _)) hk
    obtain ⟨φ', fp', S', m', ys, hgv, h3, hlab, hpost⟩ := givAs_out ys0 us [] [] h0 (by simpa using h3) ⟨rfl, fun i hi => absurd hi (Nat.not_lt_zero _)⟩ h1
    have h' := hgv.rs
    obtain ⟨h3a, h3b⟩ := h3
    simp only [List.nil_append] at h3a h3b
    refine ⟨if h : us.toArray.size = 1 then us.toArray[0] else .tuple us.toArray, ?_, mkRes ys, _, rfl, hpost, ⟨h'.size, fun b hb => h'.base b hb (fun _ h => h), h'.out⟩, ?_⟩
    · have hm : results fn a'.tmps = (do let vs ← fn.results.mapM (resOne a'.tmps); pure (if h : vs.size = 1 then vs[0] else .tuple vs)) := by
        unfold results
        congr 1
      rw [hm, Sem.run_bind, Array.mapM_eq_mapM_toList]
      have : (List.toArray <$> fn.results.toList.mapM (resOne a'.tmps) : Sem (Array Value)).run P w' = .ok us.toArray w' := by
        rw [map_eq_pure_bind, Sem.run_bind, h2]; rfl
      rw [this]; rfl
    · show Rd w' _ _ _
      refine (rd_of_rv (mkRes_rv h3a h3b) (labs_mkRes hlab)).mono (fun _ _ => rfl) fun b hb => ?_
      rcases (h'.sB b hb).2 with hh | hh
      · exact .inr ⟨hh, (h'.sB b hb).1⟩
      · exact .inl hh
  refine wp_mono (vc_sound c _ _ _ hok hv _ _ _ _ _ _ hRS) ?_
  intro e a' w' hq
  cases e with
  | normal => exact hend a' w' hq
  | ret => exact hend a' w' hq
  | _ => obtain ⟨_, _, _, _, _, _, hh⟩ := hq; exact hh.elim
theorem Fn.of_vcS {P : Program} {f : FuncId} {fn : Func} {c : Code} {args : List AV} {post : AV → Prop} (N : Nat) (rs : List ResultVar) (hf : P.funcs[f]? = some fn) (hN : fn.ntmps = N) (hr : fn.results.toList = rs) (hn : (fn.name == "runtime.NumGoroutine") = false)
    (hb : fn.body = some c) (hok : codeOk N c = true) (ha : args.length ≤ N) (hv : vc P N c (argsE 0 args) [] (finS P rs post)) : Fn P f args false post := by
  subst hN; subst hr; exact Fn.of_vcS' hf hn hb hok ha hv
attribute [go_sem] finS_normal finS_ret labs_val labs_e0 labs_arr labsL_nil labsL_cons
end Go.Vc


/-
  Contracts of functions that write blocks of their caller's and whose result is readable.
-/
set_option linter.unusedVariables false
set_option linter.unusedSimpArgs false
set_option linter.unnecessarySimpa false
namespace Go.Vc

/-- As FnM, but the result is what may be read for good. -/
def FnMR (P : Program) (f : FuncId) (io : List Blk) (args : List AV) (post : AV → List Blk → Prop) : Prop :=
  Enters P f ∧ ∀ (w : World) (φ : Nat → LS) (fp : Nat → List Nat) (S : Nat → Prop) (vs : Array Value), vs.size = args.length →
    RS (ioB w φ fp S io) vs.size φ fp S (argsE 0 args) (ioM 0 io) { tmps := vs, defers := [] } w →
    Calls P f vs w fun e w' => ∃ r v io' φ' fp' S' m', e = .returned v ∧ post r io' ∧ RS (ioB w φ fp S io) 0 φ' fp' S' [] m' { tmps := #[], defers := [] } w' ∧ IoOk io io' m' ∧ Rd w' S' r v

def finMR (P : Program) (rs : List ResultVar) (vers : List Nat) (post : AV → List Blk → Prop) : Post
  | .normal => fun ts m => sResults P (fun xs => sGivAs (fun ys m' => labsL ys = [] ∧ sIoB m' (fun io' => post (mkRes ys) io') 0 vers []) [] m xs) rs ts m []
  | .ret => fun ts m => sResults P (fun xs => sGivAs (fun ys m' => labsL ys = [] ∧ sIoB m' (fun io' => post (mkRes ys) io') 0 vers []) [] m xs) rs ts m []
  | _ => fun _ _ => False
theorem finMR_normal (P : Program) (rs : List ResultVar) (vers : List Nat) (post : AV → List Blk → Prop) (ts : Env) (m : Mem) :
    finMR P rs vers post .normal ts m = sResults P (fun xs => sGivAs (fun ys m' => labsL ys = [] ∧ sIoB m' (fun io' => post (mkRes ys) io') 0 vers []) [] m xs) rs ts m [] := rfl
theorem finMR_ret (P : Program) (rs : List ResultVar) (vers : List Nat) (post : AV → List Blk → Prop) (ts : Env) (m : Mem) :
    finMR P rs vers post .ret ts m = sResults P (fun xs => sGivAs (fun ys m' => labsL ys = [] ∧ sIoB m' (fun io' => post (mkRes ys) io') 0 vers []) [] m xs) rs ts m [] := rfl

theorem FnMR.of_vc' {P : Program} {f : FuncId} {fn : Func} {c : Code} {io : List Blk} {args : List AV} {post : AV → List Blk → Prop} (hf : P.funcs[f]? = some fn) (hn : (fn.name == "runtime.NumGoroutine") = false) (hb : fn.body = some c)
    (hok : codeOk fn.ntmps c = true) (ha : args.length ≤ fn.ntmps) (hv : vc P fn.ntmps c (argsE 0 args) (ioM 0 io) (finMR P fn.results.toList (io.map Blk.ver) post)) : FnMR P f io args post := by
  refine ⟨⟨fn, c, hf, hn, hb⟩, fun w φ fp S vs hsz hR0 => ?_⟩
  refine calls_of_wp hf hb ?_
  have hRS : RS (ioB w φ fp S io) fn.ntmps φ fp S (argsE 0 args) (ioM 0 io) { tmps := vs ++ Array.replicate (fn.ntmps - vs.size) undef, defers := [] } w := by
    refine { hR0 with tm := fun t => ?_, defers := rfl, tsz := by simp; omega }
    by_cases h : t < args.length
    · have h1 := hR0.tm t
      have : vs.getD t Go.undef = (vs ++ Array.replicate (fn.ntmps - vs.size) undef).getD t Go.undef := by
        have h2 : t < vs.size := by omega
        simp only [Array.getD_eq_getD_getElem?]
        rw [Array.getElem?_append_left h2]
      rw [← this]; exact h1
    · rw [look_argsE]
      have : (if 0 ≤ t then (args[t - 0]?).getD AV.undef else .undef) = .undef := by simp [List.getElem?_eq_none (show args.length ≤ t by omega)]
      rw [this]; exact .rd _ _ (.undef _)
  have hend : ∀ a' w', Done (ioB w φ fp S io) fn.ntmps (fun ts m => sResults P (fun xs => sGivAs (fun ys m' => labsL ys = [] ∧ sIoB m' (fun io' => post (mkRes ys) io') 0 (io.map Blk.ver) []) [] m xs) fn.results.toList ts m []) a' w' →
      a'.defers = [] ∧ ∃ v, (results fn a'.tmps).run P w' = .ok v w' ∧ ∃ r v' io' φ' fp' S' m', Ending.returned v = .returned v' ∧ post r io' ∧ RS (ioB w φ fp S io) 0 φ' fp' S' [] m' { tmps := #[], defers := [] } w' ∧ IoOk io io' m' ∧
        Rd w' S' r v' := by
    rintro a' w' ⟨φ0, fp0, S0, ts', m0, h0, hk⟩
    refine ⟨h0.defers, ?_⟩
    obtain ⟨ys0, us, h1, h2, h3, h4⟩ := results_out' h0 fn.results.toList [] [] ⟨rfl, fun i hi => absurd hi (Nat.not_lt_zero _)⟩ (fun i hi => absurd hi (Nat.not_lt_zero _)) hk
    obtain ⟨φ', fp', S', m', ys, hgv, h3, hlab, h1⟩ := givAs_out ys0 us [] [] h0 (by simpa using h3) ⟨rfl, fun i hi => absurd hi (Nat.not_lt_zero _)⟩ h1
    have h' := hgv.rs
    obtain ⟨h3a, h3b⟩ := h3
    simp only [List.nil_append] at h3a h3b
    obtain ⟨io', q1, q2, q3⟩ := sIo_out _ _ _ h1
    rw [List.reverse_nil, List.nil_append] at q1
    refine ⟨if h : us.toArray.size = 1 then us.toArray[0] else .tuple us.toArray, ?_, mkRes ys, _, io', φ', fp', S', m', rfl, q1, ?_, ⟨by simpa using q2, fun k hk hk' => ?_⟩, rd_of_rv (mkRes_rv h3a h3b) (labs_mkRes hlab)⟩
    · have hm : results fn a'.tmps = (do let vs ← fn.results.mapM (resOne a'.tmps); pure (if h : vs.size = 1 then vs[0] else .tuple vs)) := by
        unfold results
        congr 1
      rw [hm, Sem.run_bind, Array.mapM_eq_mapM_toList]
      have : (List.toArray <$> fn.results.toList.mapM (resOne a'.tmps) : Sem (Array Value)).run P w' = .ok us.toArray w' := by
        rw [map_eq_pure_bind, Sem.run_bind, h2]; rfl
      rw [this]; rfl
    · exact { h' with tm := fun t => by rw [look_nil]; exact .rd _ _ (.undef _), tl := fun t l ver hl => (by rw [look_nil] at hl; cases hl), defers := rfl, tsz := rfl }
    · have := q3 k hk (by simpa using hk')
      rw [Nat.zero_add] at this
      refine ⟨this.1, ?_, this.2.2⟩
      rw [this.2.1, List.getElem_map]
  refine wp_mono (vc_sound c _ _ _ hok hv _ _ _ _ _ _ hRS) ?_
  intro e a' w' hq
  cases e with
  | normal => exact hend a' w' hq
  | ret => exact hend a' w' hq
  | _ => obtain ⟨_, _, _, _, _, _, hh⟩ := hq; exact hh.elim
theorem FnMR.of_vc {P : Program} {f : FuncId} {fn : Func} {c : Code} {io : List Blk} {args : List AV} {post : AV → List Blk → Prop} (N : Nat) (rs : List ResultVar) (hf : P.funcs[f]? = some fn) (hN : fn.ntmps = N) (hr : fn.results.toList = rs)
    (hn : (fn.name == "runtime.NumGoroutine") = false) (hb : fn.body = some c) (hok : codeOk N c = true) (ha : args.length ≤ N) (hv : vc P N c (argsE 0 args) (ioM 0 io) (finMR P rs (io.map Blk.ver) post)) : FnMR P f io args post := by
  subst hN; subst hr; exact FnMR.of_vc' hf hn hb hok ha hv

section
variable {P : Program} {B : Base} {N : Nat} {φ : Nat → LS} {fp : Nat → List Nat} {S : Nat → Prop} {ts : Env} {m : Mem} {a : Act} {w : World}
theorem callMR_core {f : FuncId} {ρ : List Nat} {io : List Blk} {args xs : List AV} (hnd : ρ.Nodup) (hio : io.length = ρ.length)
    (hlk : ∀ j (h : j < ρ.length) (h' : j < io.length), lookB m ρ[j] = some io[j] ∧ labFree io[j]) {vs : Array Value} (h : RS B N φ fp S ts m a w) (hvl : vs.size = args.length)
    (hx : ∀ i (h : i < args.length), RV w S (φio φ ρ) args[i] (vs.toList.getD i Go.undef) ∧ ∀ l ver, (l, ver) ∈ labs args[i] → known (ioM 0 io) l ver) {post : AV → List Blk → Prop} (hf : FnMR P f io args post) :
    Calls P f vs w fun e w' => ∃ v r io' fp2 T, e = .returned v ∧ post r io' ∧ RS B N φ fp2 T ts (putIo ρ io' m) a w' ∧ Rd w' T r v := by
  have inj : ∀ i j (hi : i < ρ.length) (hj : j < ρ.length), ρ[i] = ρ[j] → i = j := fun i j hi hj e => (List.getElem_inj hnd).1 e
  have look0 : ∀ l, lookB (ioM 0 io) l = if ioL ≤ l then io[l - ioL]? else none := fun l => by rw [lookB_ioM]; rfl
  have at_ : ∀ l b, lookB (ioM 0 io) l = some b → ∃ j, ∃ hj : j < ρ.length, ∃ hj' : j < io.length, l = ioL + j ∧ b = io[j] := by
    intro l b hb
    rw [look0] at hb
    split at hb
    · rename_i hl
      obtain ⟨hj, e⟩ := List.getElem?_eq_some_iff.1 hb
      exact ⟨l - ioL, by omega, hj, by omega, e.symm⟩
    · cases hb
  have hR0 : RS (ioB w (φio φ ρ) (fpio fp ρ) S io) vs.size (φio φ ρ) (fpio fp ρ) S (argsE 0 args) (ioM 0 io) { tmps := vs, defers := [] } w := by
    refine { tm := fun t => ?_, tl := fun t l ver hl => ?_, mNone := fun l hl => ?_, mSome := fun l b hb => ?_, bl := fun l v xs hb l' ver hl => ?_, nod := fun l => ?_, dis := fun l l' b h1 h2 => ?_,
             notS := fun l b hb => ?_, fpB := fun l b hb => ?_, sB := fun b hb => ⟨(h.sB b hb).1, .inr hb⟩, base := fun b _ _ => rfl, out := SameOut.refl _, szs := Szs.refl _, kn := fun _ _ _ hk => hk, fix := fun _ _ _ _ => LS.le_refl _ _,
             size := Nat.le_refl _, defers := rfl, tsz := rfl, kon := h.kon }
    · rw [look_argsE]
      by_cases ht : t < args.length
      · have e : (if 0 ≤ t then (args[t - 0]?).getD AV.undef else .undef) = args[t] := by simp [ht]
        rw [e]
        have := (hx t ht).1
        have e2 : vs.toList.getD t Go.undef = vs.getD t Go.undef := by
          simp [List.getD_eq_getElem?_getD, Array.getD_eq_getD_getElem?]
        rw [← e2]; exact this
      · have e : (if 0 ≤ t then (args[t - 0]?).getD AV.undef else .undef) = .undef := by simp [List.getElem?_eq_none (show args.length ≤ t by omega)]
        rw [e]; exact .rd _ _ (.undef _)
    · rw [look_argsE] at hl
      by_cases ht : t < args.length
      · have e : (if 0 ≤ t then (args[t - 0]?).getD AV.undef else .undef) = args[t] := by simp [ht]
        rw [e] at hl
        exact (hx t ht).2 l ver hl
      · have e : (if 0 ≤ t then (args[t - 0]?).getD AV.undef else .undef) = .undef := by simp [List.getElem?_eq_none (show args.length ≤ t by omega)]
        rw [e] at hl; cases hl
    · rw [look0] at hl
      unfold φio fpio
      split at hl
      · rename_i hl'
        have : ρ[l - ioL]? = none := List.getElem?_eq_none (by have := List.getElem?_eq_none_iff.1 hl; omega)
        rw [if_pos hl', if_pos hl', this]; exact ⟨rfl, rfl⟩
      · rename_i hl'
        rw [if_neg hl', if_neg hl']; exact ⟨rfl, rfl⟩
    · obtain ⟨j, hj, hj', rfl, rfl⟩ := at_ l b hb
      have hb0 := h.mSome ρ[j] _ (hlk j hj hj').1
      have hfr := (hlk j hj hj').2
      rw [fpio_at fp hj]
      generalize io[j] = b at hb0 hfr
      cases b with
      | gone v => exact ⟨by rw [φio_at φ hj]; exact hb0.1, hb0.2⟩
      | row v sh dp xs =>
        rcases hb0 with ⟨q1, q2, q3⟩ | ⟨b, cap, q1, q2⟩
        · exact .inl ⟨by rw [φio_at φ hj]; exact q1, q2, q3⟩
        · exact .inr ⟨b, cap, by rw [φio_at φ hj]; exact q1, q2⟩
      | lent v xs i u => exact hfr.elim
      | box v xs =>
        obtain ⟨b, cs, e, sh, q1, q2, q3, q4, q5, q6⟩ := hb0
        exact ⟨b, cs, e, sh, by rw [φio_at φ hj]; exact q1, q2, q3, q4, q5, fun i hi => .rd _ _ (rd_of_rv (q6 i hi) (labs_nil_get hfr i hi))⟩
    · obtain ⟨j, hj, hj', rfl, e⟩ := at_ l _ hb
      have hfr := (hlk j hj hj').2
      rw [← e] at hfr
      have hfr : labsL xs = [] := hfr
      rw [hfr] at hl; cases hl
    · unfold fpio
      split
      · split
        · exact h.nod _
        · exact List.nodup_nil
      · exact List.nodup_nil
    · obtain ⟨i, hi, rfl, b1⟩ := fpio_mem h1
      obtain ⟨j, hj, rfl, b2⟩ := fpio_mem h2
      have := inj i j hi hj (h.dis _ _ b b1 b2)
      subst this; rfl
    · obtain ⟨i, hi, rfl, b1⟩ := fpio_mem hb
      exact h.notS _ b b1
    · obtain ⟨i, hi, rfl, b1⟩ := fpio_mem hb
      exact ⟨(h.fpB _ b b1).1, .inr ⟨_, hb, by omega, .inl rfl⟩⟩
  refine (hf.2 w (φio φ ρ) (fpio fp ρ) S vs hvl hR0).mono ?_
  rintro e w' ⟨r, v, io', φ', fp', S', m', rfl, hpost, hR, ⟨hl', hok⟩, hrd⟩
  have hl2 : io'.length = ρ.length := hl'.trans hio
  have hsame : ∀ b : Nat, b < w.heap.size → (∀ j (hj : j < ρ.length), b ∉ fp ρ[j]) → w'.heap[b]? = w.heap[b]? := fun b hb hn => hR.base b hb fun l hb' => by
    obtain ⟨j, hj, rfl, hb2⟩ := fpio_mem hb'
    exact hn j hj hb2
  have hSsame : ∀ b, S b → w'.heap[b]? = w.heap[b]? := fun b hb => hsame b (h.sB b hb).1 fun j hj hb' => h.notS _ b hb' hb
  have hz : Sized φ w w' := fun l b sh ver cs e _ hb => hR.szs b cs e hb
  have hm2 := fun l => lookB_putIo (m := m) ρ io' hl2 hnd l
  have hkn : ∀ l ver, known m l ver → known (putIo ρ io' m) l ver := by
    rintro l ver ⟨k', h1, h2⟩
    by_cases hl : l ∈ ρ
    · obtain ⟨j, hj, rfl⟩ := List.getElem_of_mem hl
      have e := (hm2 ρ[j]).1 j hj rfl
      rw [List.getElem?_eq_getElem (by omega)] at e
      rw [(hlk j hj (by omega)).1] at h1
      have h1 := Option.some.inj h1
      exact ⟨_, e, by rw [(hok j (by omega) (by omega)).2.1, h1]; exact h2⟩
    · exact ⟨k', ((hm2 l).2 hl).trans h1, h2⟩
  let T : Nat → Prop := fun b => S b ∨ (S' b ∧ w.heap.size ≤ b)
  have hST : ∀ b, S' b → T b := fun b hb => by
    rcases (hR.sB b hb).2 with hh | hh
    · exact .inr ⟨hb, hh⟩
    · exact .inl hh
  let fp2 : Nat → List Nat := fun l => match ρ.idxOf? l with | some j => fp' (ioL + j) | none => fp l
  have fp2in : ∀ j (hj : j < ρ.length), fp2 ρ[j] = fp' (ioL + j) := by
    intro j hj
    have : ρ.idxOf? ρ[j] = some j := by
      rw [List.idxOf?, List.findIdx?_eq_some_iff_getElem]
      refine ⟨hj, by simp, fun i hi => ?_⟩
      simp only [beq_iff_eq, Bool.not_eq_true, beq_eq_false_iff_ne, ne_eq]
      intro e2
      have := inj i j (by omega) hj e2
      omega
    show (match ρ.idxOf? ρ[j] with | some j => fp' (ioL + j) | none => fp ρ[j]) = _
    rw [this]
  have fp2out : ∀ l, l ∉ ρ → fp2 l = fp l := by
    intro l hl
    have : ρ.idxOf? l = none := by simpa [List.idxOf?_eq_none_iff] using hl
    show (match ρ.idxOf? l with | some j => fp' (ioL + j) | none => fp l) = _
    rw [this]
  have fpnew : ∀ j (hj : j < ρ.length) b, b ∈ fp' (ioL + j) → b < w'.heap.size ∧ (w.heap.size ≤ b ∨ b ∈ fp ρ[j]) := by
    intro j hj b hb
    have := hR.fpB _ b hb
    refine ⟨this.1, this.2.imp id fun hh => ?_⟩
    obtain ⟨l', hb2, _, hl3⟩ := hh
    have hl3 : l' = ioL + j := hl3.resolve_right fun e => by
      have e : lookB (ioM 0 io) (ioL + j) = none := e
      rw [look0, if_pos (by omega), List.getElem?_eq_none_iff] at e; omega
    subst hl3
    have hh : b ∈ fpio fp ρ (ioL + j) := hb2
    rwa [fpio_at fp hj] at hh
  have hRS : RS B N φ fp2 T ts (putIo ρ io' m) a w' := by
    refine { tm := fun t => (h.tm t).mono hSsame (fun b hb => .inl hb) hz fun l ver _ => LS.le_refl _ _, tl := fun t l ver hl => hkn l ver (h.tl t l ver hl), mNone := fun l hl => ?_, mSome := fun l b hb => ?_,
             bl := fun l v xs hb l' ver hl => ?_, nod := fun l => ?_, dis := fun l l' b h1 h2 => ?_, notS := fun l b hb => ?_, fpB := fun l b hb => ?_, sB := fun b hb => ?_, base := fun b hb hio => ?_,
             out := h.out.trans hR.out, szs := h.szs.trans hR.szs, kn := fun l ver hl hk => hkn l ver (h.kn l ver hl hk), fix := h.fix, size := Nat.le_trans h.size hR.size, defers := h.defers, tsz := h.tsz, kon := h.kon.mono hSsame fun b hb => .inl hb }
    · by_cases hm : l ∈ ρ
      · obtain ⟨j, hj, rfl⟩ := List.getElem_of_mem hm
        rw [(hm2 ρ[j]).1 j hj rfl, List.getElem?_eq_getElem (by omega)] at hl; cases hl
      · rw [(hm2 l).2 hm] at hl
        rw [fp2out l hm]; exact h.mNone l hl
    · by_cases hm : l ∈ ρ
      · obtain ⟨j, hj, rfl⟩ := List.getElem_of_mem hm
        rw [(hm2 ρ[j]).1 j hj rfl, List.getElem?_eq_getElem (by omega)] at hb
        have hb := Option.some.inj hb
        subst hb
        obtain ⟨g1, g2, g3⟩ := hok j (by omega) (by omega)
        have hB := hR.mSome _ _ g1
        have hkn0 : known (ioM 0 io) (ioL + j) (io[j]'(by omega)).ver := ⟨io[j]'(by omega), by rw [look0, if_pos (by omega)]; simp <;> omega, Nat.le_refl _⟩
        have hfix := hR.fix (ioL + j) _ (by omega) hkn0
        have hfix : LS.le (φ' (ioL + j)) (φ ρ[j]) (io[j]'(by omega)).ver := by rw [← φio_at φ hj]; exact hfix
        rw [fp2in j hj]
        rw [← g2] at hfix
        generalize io'[j] = b at hB hfix g3
        cases b with
        | gone v => exact g3.elim
        | row v sh dp xs =>
          rcases hB with ⟨q1, q2, q3⟩ | ⟨b, cap, q1, q2, q3, q4⟩
          · exact .inl ⟨hfix.2 q1, q2, q3⟩
          · refine .inr ⟨b, cap, hfix.1 _ _ q1, q2, q3, ?_⟩
            cases dp with
            | true => exact q4
            | false => exact q4.mono (fun _ _ => rfl) hST (fun _ _ => rfl)
        | lent v xs i u => exact g3.elim
        | box v xs =>
          obtain ⟨b, cs, e, sh, q1, q2, q3, q4, q5, q6⟩ := hB
          exact ⟨b, cs, e, sh, hfix.1 _ _ q1, q2, q3, q4, q5, fun i hi => .rd _ _ ((rd_of_rv (q6 i hi) (labs_nil_get g3 i hi)).mono (fun _ _ => rfl) hST)⟩
      · rw [(hm2 l).2 hm] at hb
        rw [fp2out l hm]
        refine (h.mSome l b hb).mono hSsame (fun b hb => .inl hb) hz (fun c hc => hsame c (h.fpB l c hc).1 fun j hj hc' => hm ?_) rfl fun _ _ _ _ _ _ => LS.le_refl _ _
        rw [h.dis _ _ c hc hc']; exact List.getElem_mem hj
    · by_cases hm : l ∈ ρ
      · obtain ⟨j, hj, rfl⟩ := List.getElem_of_mem hm
        rw [(hm2 ρ[j]).1 j hj rfl, List.getElem?_eq_getElem (by omega)] at hb
        have hb := Option.some.inj hb
        have g3 := (hok j (by omega) (by omega)).2.2
        rw [hb] at g3
        have g3 : labsL xs = [] := g3
        rw [g3] at hl; cases hl
      · rw [(hm2 l).2 hm] at hb
        exact hkn l' ver (h.bl l v xs hb l' ver hl)
    · by_cases hm : l ∈ ρ
      · obtain ⟨j, hj, rfl⟩ := List.getElem_of_mem hm
        rw [fp2in j hj]; exact hR.nod _
      · rw [fp2out l hm]; exact h.nod l
    · have mixed : ∀ j (hj : j < ρ.length) l, l ∉ ρ → b ∈ fp' (ioL + j) → b ∈ fp l → False := by
        intro j hj l hm b1 b2
        rcases (fpnew j hj b b1).2 with hh | hh
        · have := (h.fpB l b b2).1; omega
        · exact hm (by rw [h.dis _ _ b b2 hh]; exact List.getElem_mem hj)
      by_cases m1 : l ∈ ρ
      · obtain ⟨j, hj, rfl⟩ := List.getElem_of_mem m1
        rw [fp2in j hj] at h1
        by_cases m2 : l' ∈ ρ
        · obtain ⟨j', hj', rfl⟩ := List.getElem_of_mem m2
          rw [fp2in j' hj'] at h2
          have := hR.dis _ _ b h1 h2
          have : j = j' := by omega
          subst this; rfl
        · rw [fp2out l' m2] at h2
          exact (mixed j hj l' m2 h1 h2).elim
      · rw [fp2out l m1] at h1
        by_cases m2 : l' ∈ ρ
        · obtain ⟨j', hj', rfl⟩ := List.getElem_of_mem m2
          rw [fp2in j' hj'] at h2
          exact (mixed j' hj' l m1 h2 h1).elim
        · rw [fp2out l' m2] at h2
          exact h.dis l l' b h1 h2
    · by_cases hm : l ∈ ρ
      · obtain ⟨j, hj, rfl⟩ := List.getElem_of_mem hm
        rw [fp2in j hj] at hb
        rintro (hs | hs)
        · rcases (fpnew j hj b hb).2 with hh | hh
          · have := (h.sB b hs).1; omega
          · exact h.notS _ b hh hs
        · exact hR.notS _ b hb hs.1
      · rw [fp2out l hm] at hb
        rintro (hs | hs)
        · exact h.notS l b hb hs
        · have := (h.fpB l b hb).1; omega
    · by_cases hm : l ∈ ρ
      · obtain ⟨j, hj, rfl⟩ := List.getElem_of_mem hm
        rw [fp2in j hj] at hb
        have := fpnew j hj b hb
        refine ⟨this.1, ?_⟩
        rcases this.2 with hh | hh
        · exact .inl (Nat.le_trans h.size hh)
        · exact (h.fpB _ b hh).2
      · rw [fp2out l hm] at hb
        have := h.fpB l b hb
        exact ⟨Nat.lt_of_lt_of_le this.1 hR.size, this.2⟩
    · rcases hb with hs | hs
      · have := h.sB b hs
        exact ⟨Nat.lt_of_lt_of_le this.1 hR.size, this.2⟩
      · exact ⟨(hR.sB b hs.1).1, .inl (Nat.le_trans h.size hs.2)⟩
    · refine (hsame b (Nat.lt_of_lt_of_le hb h.size) fun j hj hb' => ?_).trans (h.base b hb hio)
      rcases (h.fpB _ b hb').2 with hh | hh
      · omega
      · exact hio _ hh.choose_spec.1
  exact ⟨v, r, io', fp2, T, rfl, hpost, hRS, hrd.mono (fun _ _ => rfl) hST⟩

end
def sCallMR (P : Program) (f : FuncId) (ρ : List Nat) (io : List Blk) (args : List AV) (m : Mem) (k : AV → Mem → Prop) (_ : Pack k) : Prop :=
  ∃ post, FnMR P f io args post ∧ ∀ r io', post r io' → k r (putIo ρ io' m)
@[congr] theorem sCallMR_congr {P : Program} {f : FuncId} {ρ : List Nat} {io io' : List Blk} {args args' : List AV} {m : Mem} {k : AV → Mem → Prop} {q : Pack k} (h : io = io') (h' : args = args') : sCallMR P f ρ io args m k q = sCallMR P f ρ io' args' m k q := by rw [h, h']
theorem sCallMR_any {P : Program} {f : FuncId} {ρ : List Nat} {io : List Blk} {args : List AV} {post : AV → List Blk → Prop} {m : Mem} {k : AV → Mem → Prop} (h : FnMR P f io args post) (hk : ∀ r io', post r io' → k r (putIo ρ io' m)) {q : Pack k} : sCallMR P f ρ io args m k q :=
  ⟨_, h, hk⟩
/-- A call with blocks of ours whose result is readable. -/
theorem sCallT_ioR {P : Program} {f : FuncId} {d : Nat} {xs ts : List AV} {m : Mem} {k : AV → Mem → Prop} (ρ : List Nat) (h : sSel m (fun io => sRens ρ (fun args => sCallMR P f ρ io args m k ⟨⟩) [] xs) [] ρ) {q : Pack k} : sCallT P f d xs ts m k q := by
  refine .inl fun B N φ fp S ts a w vs hRS hsz hx hxl => ?_
  obtain ⟨hnd, io, h1, h2, h3⟩ := sSel_out ρ [] h
  rw [List.reverse_nil, List.nil_append] at h1
  obtain ⟨args, g1, g2, g3⟩ := rens_out (w := w) (S := S) (φ := φ) h2 h3 xs vs.toList [] (by simpa using hsz) hx hxl h1
  rw [List.reverse_nil, List.nil_append] at g1
  obtain ⟨post, hf, hk⟩ := g1
  refine ⟨hf.1, (callMR_core hnd h2 h3 hRS (hsz.trans g2.symm) g3 hf (xs := xs)).mono ?_⟩
  rintro e w' ⟨v, r, io', fp2, T, rfl, hpost, hR, hrd⟩
  exact ⟨v, rfl, φ, fp2, T, ts, _, r, hR, .rd _ _ hrd, fun l ver hl => (by rw [labs_rd hrd] at hl; cases hl), rfl, hk r io' hpost⟩
attribute [go_sem] finMR_normal finMR_ret
end Go.Vc


/-
  Rows given away at a loop's end, and rows that a box names; calls stepped through in place, one within the other.
-/
set_option linter.unusedVariables false
set_option linter.unusedSimpArgs false
set_option linter.unnecessarySimpa false
namespace Go.Vc

section
variable {P : Program} {N : Nat} {ts : Env} {m : Mem}

theorem Ok.frz {code : Code} {Q : Post} (t l v i n : Nat) (sh : Sh) (d : Bool) (ys : List AV) (hl : l < ioL) (hm : lookB m l = some (.row v sh d ys)) (ht : look ts t = .ref l v i n) (hn : i + n ≤ ys.length)
    (h : Ok P N code ((t, .arr sh ((ys.drop i).take n)) :: ts) ((l, .gone v) :: m) Q) : Ok P N code ts m Q :=
  (Later.frz (q := ⟨⟩) t l v i n sh d ys hl hm ht hn ⟨h⟩).ok

end

section
variable {P : Program} {B : Base} {N : Nat} {φ : Nat → LS} {fp : Nat → List Nat} {S : Nat → Prop} {ts : Env} {m : Mem} {a : Act} {w : World}
/-- A call, stepped through in place: our lower labels take names K higher meanwhile; the callee's take names J higher at its end. -/
theorem sCallT_inlK {f : FuncId} {d : Nat} {xs xt : List AV} {m : Mem} {k : AV → Mem → Prop} {q : Pack k} {fn : Func} {c : Code} (K J : Nat) (N : Nat) (rs : List ResultVar) (hf : P.funcs[f]? = some fn) (hN : fn.ntmps = N) (hr : fn.results.toList = rs)
    (hn : (fn.name == "runtime.NumGoroutine") = false) (hb : fn.body = some c) (hok : codeOk N c = true) (ha : xs.length ≤ N)
    (hv : (renOk (lowP K [] m) m ∧ allHi (rnsM (lowP K [] m) m)) ∧ vc P N c (argsE 0 (rnsL (lowP K [] m) xs)) (rnsM (lowP K [] m) m)
      (finI P rs fun x m' => lowOk (lowP J [] m') ∧ k (rnsAb (lowP K [] m) (rnsA (lowP J [] m') x)) (rnsMb (lowP K [] m) (rnsM (lowP J [] m') m')))) : sCallT P f d xs xt m k q := by
  subst hN; subst hr
  refine .inl fun B N φ fp S ts a w vs hRS hsz hx hxl => ⟨⟨fn, c, hf, hn, hb⟩, ?_⟩
  refine (inl_sound J hf hb hok _ hRS hv.1.1 hv.1.2 ha hsz hx hxl hv.2).mono ?_
  rintro e w' ⟨v, rfl, φ', fp', S', m', x, g1, g2, g3, g4, _⟩
  exact ⟨v, rfl, φ', fp', S', ts, m', x, g1, g2, g3, rfl, g4⟩
end

/-- A row of ours that a box names is given away, or none. -/
inductive GivB (m : Mem) : Mem → Prop
  | refl : GivB m m
  | box (lb vb j l v i n : Nat) (sh : Sh) (d : Bool) (xs ys : List AV) (hl : l < ioL) (hb : lookB m lb = some (.box vb xs)) (hx : xs[j]? = some (.ref l v i n)) (hm : lookB m l = some (.row v sh d ys)) (hn : i + n ≤ ys.length) :
      GivB m ((lb, .box vb (xs.set j (.arr sh ((ys.drop i).take n)))) :: (l, .gone v) :: m)
def finHZ (P : Program) (rs : List ResultVar) (L : List Nat) (post : AV → Mem → Prop) : Post
  | .normal => fun ts m => sResults P (fun ys => labsL ys = [] ∧ ∃ mz m', GivB m mz ∧ post (mkRes ys) m' ∧ keepsM L mz m') rs ts m []
  | .ret => fun ts m => sResults P (fun ys => labsL ys = [] ∧ ∃ mz m', GivB m mz ∧ post (mkRes ys) m' ∧ keepsM L mz m') rs ts m []
  | _ => fun _ _ => False
theorem finHZ_normal (P : Program) (rs : List ResultVar) (L : List Nat) (post : AV → Mem → Prop) (ts : Env) (m : Mem) :
    finHZ P rs L post .normal ts m = sResults P (fun ys => labsL ys = [] ∧ ∃ mz m', GivB m mz ∧ post (mkRes ys) m' ∧ keepsM L mz m') rs ts m [] := rfl
theorem finHZ_ret (P : Program) (rs : List ResultVar) (L : List Nat) (post : AV → Mem → Prop) (ts : Env) (m : Mem) :
    finHZ P rs L post .ret ts m = sResults P (fun ys => labsL ys = [] ∧ ∃ mz m', GivB m mz ∧ post (mkRes ys) m' ∧ keepsM L mz m') rs ts m [] := rfl
attribute [go_sem] finHZ_normal finHZ_ret
end Go.Vc


/-
  A callee that writes one row of its caller's, by a contract that speaks of cells: as the layer Vc's contract.
-/
set_option linter.unusedVariables false
set_option linter.unusedSimpArgs false
set_option linter.unnecessarySimpa false
namespace Go.Vc
theorem FnM.row {P : Program} {f : FuncId} (v : Nat) (xs ys : List AV) (hlen : ys.length = xs.length) (hflat : isFlatL xs = true) (hfy : ∀ i (h : i < ys.length), fits ⟨1, false⟩ ys[i]) (hE : Enters P f)
    (hc : ∀ (w : World) (b cap : Nat) (cs : Array Value) (e : TypeId), w.heap[b]? = some (.cells cs e (0, 0)) → cs.size = cap → xs.length ≤ cap → (∀ i (h : i < xs.length), Rd w (fun _ => False) xs[i] (cs.toList.getD i Go.undef)) →
      Calls P f #[.slice (some ⟨b, 0, none⟩) xs.length cap] w fun e' w' => e' = .returned (.tuple #[]) ∧ ∃ cs' : Array Value, cs'.size = cs.size ∧ (∀ i (h : i < ys.length), Rd w' (fun _ => False) ys[i] (cs'.toList.getD i Go.undef)) ∧
        w'.heap[b]? = some (.cells cs' e (0, 0)) ∧ (∀ c : Nat, c ≠ b → c < w.heap.size → w'.heap[c]? = w.heap[c]?) ∧ w.heap.size ≤ w'.heap.size ∧ SameOut w w')
    (h0 : xs = [] → ∀ (a : Option Addr) (w : World), Calls P f #[.slice a 0 0] w fun e' w' => e' = .returned (.tuple #[]) ∧ Grown w w') :
    FnM P f [.row v ⟨1, false⟩ true xs] [.ref 1000000000 v 0 xs.length] (fun r io => r = .tup [] ∧ io = [.row v ⟨1, false⟩ true ys]) := by
  refine ⟨hE, fun w φ fp S vs hsz hR => ?_⟩
  have hv0 := hR.tm 0
  have hlk : lookB (ioM 0 [Blk.row v ⟨1, false⟩ true xs]) ioL = some (.row v ⟨1, false⟩ true xs) := rfl
  obtain ⟨u, rfl⟩ : ∃ u, vs = #[u] := by
    have : vs.size = 1 := hsz
    exact ⟨vs[0], by apply Array.ext <;> simp_all⟩
  have hx : RV w S φ (.ref 1000000000 v 0 xs.length) u := hv0
  obtain ⟨r1, r2⟩ := rv_ref hx
  have fin : ∀ (w' : World) (fp' : Nat → List Nat) (k : Blk), k = .row v ⟨1, false⟩ true ys → RS (ioB w φ fp S [.row v ⟨1, false⟩ true xs]) (#[u] : Array Value).size φ fp' S (argsE 0 [.ref 1000000000 v 0 xs.length]) ((ioL, k) :: ioM 0 [.row v ⟨1, false⟩ true xs]) { tmps := #[u], defers := [] } w' →
      ∃ r v' io' φ' fp' S' m', Ending.returned (Value.tuple #[]) = .returned v' ∧ (r = .tup [] ∧ io' = [Blk.row v ⟨1, false⟩ true ys]) ∧ RS (ioB w φ fp S [.row v ⟨1, false⟩ true xs]) 0 φ' fp' S' [] m' { tmps := #[], defers := [] } w' ∧ IoOk [.row v ⟨1, false⟩ true xs] io' m' ∧
        ∃ fs, Own w' (fun _ => False) r v' fs ∧ fs.Nodup ∧ ∀ b, b ∈ fs → w.heap.size ≤ b ∧ ¬ S' b ∧ ∀ l, ioL ≤ l → b ∉ fp' l := by
    rintro w' fp' k rfl h
    refine ⟨.tup [], .tuple #[], _, φ, fp', S, _, rfl, ⟨rfl, rfl⟩, { h with tm := fun t => by rw [look_nil]; exact .rd _ _ (.undef _), tl := fun t l ver hl => (by rw [look_nil] at hl; cases hl), defers := rfl, tsz := rfl }, ⟨rfl, fun j hj hj' => ?_⟩, [], .rd _ _ (.tup [] #[] rfl fun i hi => absurd hi (Nat.not_lt_zero _)), List.nodup_nil, fun b hb => by cases hb⟩
    have : j = 0 := by simpa using hj
    subst this
    exact ⟨by simp [lookB_cons], rfl, trivial⟩
  have nilCase : xs = [] → (∃ a, u = .slice a 0 0) → Calls P f #[u] w fun e' w' => ∃ r v' io' φ' fp' S' m', e' = .returned v' ∧ (r = .tup [] ∧ io' = [Blk.row v ⟨1, false⟩ true ys]) ∧ RS (ioB w φ fp S [.row v ⟨1, false⟩ true xs]) 0 φ' fp' S' [] m' { tmps := #[], defers := [] } w' ∧ IoOk [.row v ⟨1, false⟩ true xs] io' m' ∧
        ∃ fs, Own w' (fun _ => False) r v' fs ∧ fs.Nodup ∧ ∀ b, b ∈ fs → w.heap.size ≤ b ∧ ¬ S' b ∧ ∀ l, ioL ≤ l → b ∉ fp' l := by
    rintro h1 ⟨a, rfl⟩
    have hy : ys = [] := List.eq_nil_of_length_eq_zero (by rw [hlen, h1]; rfl)
    refine (h0 h1 a w).mono ?_
    rintro e' w' ⟨rfl, hg⟩
    have hR2 := hR.grown hg
    refine fin w' fp (.row v ⟨1, false⟩ true ys) rfl ?_
    have e1 : lookB (ioM 0 [Blk.row v ⟨1, false⟩ true xs]) = lookB ((ioL, .row v ⟨1, false⟩ true ys) :: ioM 0 [.row v ⟨1, false⟩ true xs]) := by
      funext l
      rw [lookB_cons]
      split
      · rename_i e; subst e; rw [hlk, h1, hy]
      · rfl
    have kn : ∀ l ver, known (ioM 0 [Blk.row v ⟨1, false⟩ true xs]) l ver → known ((ioL, .row v ⟨1, false⟩ true ys) :: ioM 0 [.row v ⟨1, false⟩ true xs]) l ver := by
      rintro l ver ⟨k', q1, q2⟩
      exact ⟨k', by rw [← e1]; exact q1, q2⟩
    exact { hR2 with tl := fun t l ver hl => kn l ver (hR2.tl t l ver hl), mNone := fun l hl => hR2.mNone l (by rw [e1]; exact hl), mSome := fun l k hk => hR2.mSome l k (by rw [e1]; exact hk), bl := fun l v xs hb l' ver hl => kn l' ver (hR2.bl l v xs (by rw [e1]; exact hb) l' ver hl), kn := fun l ver h1 h2 => kn l ver (hR2.kn l ver h1 h2) }
  rcases hR.mSome ioL _ hlk with ⟨hφ, hxs, _⟩ | ⟨b, cap, hφ, hbm, _, hown⟩
  · exact nilCase hxs (r2 hφ).2
  · simp only [if_true] at hown
    obtain ⟨a, cap', rfl, hn, hcp⟩ := r1 b _ hφ
    rcases hcp with rfl | ⟨rfl, cs0, e0, hh0, hs0⟩
    · have hx0 : xs = [] := List.eq_nil_of_length_eq_zero (by omega)
      exact nilCase hx0 ⟨a, by rw [hx0]; rfl⟩
    · rcases own_arr hown with ⟨hx0, hf0, _⟩ | ⟨b', cap2, cs, e, fss, q1, hgf, hheap, hcs, hcap, hmx, hff, hfl, hvv⟩
      · rw [hf0] at hbm; cases hbm
      · simp only [Value.slice.injEq, Option.some.injEq, Addr.mk.injEq] at q1
        obtain ⟨⟨rfl, _⟩, _, rfl⟩ := q1
        rw [hheap] at hh0
        simp only [Option.some.injEq, Obj.cells.injEq] at hh0
        obtain ⟨rfl, rfl, _⟩ := hh0
        simp only [Nat.mul_one, Nat.zero_add] at hs0 hcs
        have hfe : ∀ i (h : i < xs.length), Rd w (fun _ => False) xs[i] (cs.toList.getD i Go.undef) ∧ fss.getD i [] = [] := by
          intro i hi
          have := flat_rd (S' := fun _ => False) (hvv i hi) (isFlatL_get hflat i hi)
          rw [elemV_cell, Nat.mul_one] at this
          exact this
        have hfs : fss.flatten = [] := List.flatten_eq_nil_iff.2 fun l hl => by
          obtain ⟨i, hi, rfl⟩ := List.getElem_of_mem hl
          have := (hfe i (hfl ▸ hi)).2
          rwa [List.getD_eq_getElem?_getD, List.getElem?_eq_getElem hi] at this
        rw [hfs] at hgf
        refine (hc w b cap' cs e hheap hs0 hn fun i hi => (hfe i hi).1).mono ?_
        rintro e' w' ⟨rfl, cs', hs', hr', hb', hoth, hsize, hout⟩
        have hbl := (hR.fpB ioL b (by rw [hgf]; simp)).1
        have hnx := hR.next (w' := w') ioL (φ ioL) (fp ioL) S (.row v ⟨1, false⟩ true ys) hsize hout ?_ ?_ ?_ (fun c h1 h2 => absurd h1 h2) ?_ ?_ (fun ver _ => LS.le_refl _ _) ?_ ?_ (fun _ _ hk => by cases hk) (hR.nod ioL) ?_
        · have e1 : upd φ ioL (φ ioL) = φ := by funext l; by_cases e : l = ioL <;> simp [upd, e]
          rw [e1] at hnx
          exact fin w' _ _ rfl hnx
        · intro c cs2 e2 hc2
          by_cases ec : c = b
          · subst ec; rw [hheap] at hc2; cases hc2; exact ⟨cs', e, hb', hs'⟩
          · exact ⟨cs2, e2, by rw [hoth c ec (Array.getElem?_eq_some_iff.1 hc2).1]; exact hc2, rfl⟩
        · intro c hcl hio
          exact hoth c (fun ec => hio ioL (by subst ec; show c ∈ fp ioL; rw [hgf]; simp)) hcl
        · intro c hcS
          exact ⟨hcS, hoth c (fun ec => hR.notS ioL b (by rw [hgf]; simp) (ec ▸ hcS)) (hR.sB c hcS).1⟩
        · intro l c sh ver cs2 e2 _ hc2
          by_cases ec : c = b
          · subst ec; rw [hheap] at hc2; cases hc2; exact ⟨cs', e, hb', hs'⟩
          · exact ⟨cs2, e2, by rw [hoth c ec (Array.getElem?_eq_some_iff.1 hc2).1]; exact hc2, rfl⟩
        · intro l' hl' c hcl
          exact hoth c (fun ec => hl' (hR.dis l' ioL c hcl (by rw [ec, hgf]; simp))) (hR.fpB l' c hcl).1
        · rintro ver ⟨k', q1, q2⟩
          rw [hlk] at q1; cases q1; exact q2
        · refine .inr ⟨b, cap, by rw [upd_same]; exact hφ, by rw [hgf]; simp, fun h => (by cases h), ?_⟩
          rw [hgf]
          have e2 : [b] = b :: (List.replicate ys.length ([] : List Nat)).flatten := by
            congr 1
            exact (List.flatten_eq_nil_iff.2 fun l hl => (List.mem_replicate.1 hl).2).symm
          show Own w' (fun _ => False) _ _ [b]
          rw [e2]
          refine .arr ⟨1, false⟩ ys b cap cs' e _ hb' (by rw [hs', hcs]; simp) (by omega) hmx hfy (by simp) fun i hi => ?_
          have e3 : (List.replicate ys.length ([] : List Nat)).getD i [] = [] := by simp [List.getD_eq_getElem?_getD, hi]
          rw [e3, elemV_cell, Nat.mul_one]
          exact .rd _ _ (hr' i hi)
        · intro c hc2
          have := hR.fpB ioL c hc2
          exact ⟨hR.notS ioL c hc2, fun l' hl' hc' => hl' (hR.dis l' ioL c hc' hc2), Nat.lt_of_lt_of_le this.1 hsize, this.2⟩
end Go.Vc


/-
  A contract of the kit's that sorts a row of numbers: as the layer Vc's contract.
-/
set_option linter.unusedVariables false
set_option linter.unusedSimpArgs false
set_option linter.unnecessarySimpa false
namespace Go.Vc
open Go.Sort
theorem flatInts : ∀ zs : List Int, isFlatL (zs.map fun n => AV.val (.int .i64 n)) = true
  | [] => rfl
  | _ :: r => by rw [List.map_cons, isFlatL_cons, flatInts r]; rfl
theorem holds_rd {w : World} {b : Nat} {cs : Array Value} {e : TypeId} {zs : List Int} (hb : w.heap[b]? = some (.cells cs e (0, 0))) (hcap : zs.length ≤ cs.size)
    (hrd : ∀ i (h : i < (zs.map fun n => AV.val (.int .i64 n)).length), Rd w (fun _ => False) (zs.map fun n => AV.val (.int .i64 n))[i] (cs.toList.getD i Go.undef)) : Holds (Value.int .i64) w b 0 zs.toArray := by
  intro j hj
  have hj' : j < zs.length := by simpa using hj
  have h1 := hrd j (by simpa using hj')
  rw [List.getElem_map] at h1
  have h2 : cs.toList.getD j Go.undef = .int .i64 zs[j] := by generalize cs.toList.getD j Go.undef = u at h1; cases h1; rfl
  have h3 : j < cs.size := by omega
  have h5 : cs[j]? = some (.int .i64 zs[j]) := by
    rw [List.getD_eq_getElem?_getD, Array.getElem?_toList, Array.getElem?_eq_getElem h3] at h2
    rw [Array.getElem?_eq_getElem h3]
    exact congrArg some h2
  have h6 : zs.toArray[j]! = zs[j] := by rw [getElem!_pos zs.toArray j hj]; simp
  refine ⟨?_, ?_⟩
  · simp only [World.cell?, hb, Nat.zero_add, Option.isSome_none, Bool.false_eq_true, ↓reduceIte, h5, h6]
  · simp [World.frozen?, hb]
theorem put_facts {w : World} {b n : Nat} {cs : Array Value} {e : TypeId} {ys : List Int} {os : Array Obj} (hb : w.heap[b]? = some (.cells cs e (0, 0))) (hcs : ys.length ≤ cs.size) :
    ∃ cs' : Array Value, cs'.size = cs.size ∧ (∀ i (h : i < (ys.map fun n => AV.val (.int .i64 n)).length), Rd (grow (putRow (Value.int .i64) (Sort.ahead w n) b 0 ys.toArray) os) (fun _ => False) (ys.map fun n => AV.val (.int .i64 n))[i] (cs'.toList.getD i Go.undef)) ∧
      (grow (putRow (Value.int .i64) (Sort.ahead w n) b 0 ys.toArray) os).heap[b]? = some (.cells cs' e (0, 0)) ∧ (∀ c : Nat, c ≠ b → c < w.heap.size → (grow (putRow (Value.int .i64) (Sort.ahead w n) b 0 ys.toArray) os).heap[c]? = w.heap[c]?) ∧
      w.heap.size ≤ (grow (putRow (Value.int .i64) (Sort.ahead w n) b 0 ys.toArray) os).heap.size ∧ SameOut w (grow (putRow (Value.int .i64) (Sort.ahead w n) b 0 ys.toArray) os) := by
  have hbl : b < w.heap.size := (Array.getElem?_eq_some_iff.1 hb).1
  have hheap : ∀ c : Nat, c < w.heap.size → (grow (putRow (Value.int .i64) (Sort.ahead w n) b 0 ys.toArray) os).heap[c]? = if b = c then w.heap[c]?.map (onCells (putCells (Value.int .i64) 0 ys.toArray)) else w.heap[c]? := by
    intro c hc
    rw [heap_grow_old _ _ (by simpa using hc)]
    simp only [putRow, mapBlock, Sort.heap_ahead, Array.getElem?_modify]
  refine ⟨putCells (Value.int .i64) 0 ys.toArray cs, by simp [putCells], ?_, ?_, ?_, ?_, ⟨rfl, rfl, rfl⟩⟩
  · intro i hi
    have hi' : i < ys.length := by simpa using hi
    have hi2 : i < cs.size := by omega
    have e1 : (putCells (Value.int .i64) 0 ys.toArray cs).toList.getD i Go.undef = .int .i64 ys[i] := by
      rw [List.getD_eq_getElem?_getD, Array.getElem?_toList]
      simp [putCells, hi2, hi']
    rw [e1, List.getElem_map]
    exact .val _ rfl
  · rw [hheap b hbl, if_pos rfl, hb]; rfl
  · intro c hcb hc
    rw [hheap c hc, if_neg (Ne.symm hcb)]
  · simp
theorem FnM.sortRow {P : Program} {f : FuncId} (hE : Enters P f) (g : List Int → List Int) (hg : ∀ zs, (g zs).length = zs.length)
    (hs : ∀ (blk cap : Nat) (zs : List Int) (w : World), Holds (Value.int .i64) w blk 0 zs.toArray → blk < w.heap.size → zs.length < 4611686018427387904 →
      Calls P f #[.slice (some ⟨blk, 0, none⟩) zs.length cap] w fun e w' => e = .returned (.tuple #[]) ∧ ∃ n os, w' = grow (putRow (Value.int .i64) (Sort.ahead w n) blk 0 (g zs).toArray) os)
    (h0 : ∀ (a : Option Addr) (w : World), Calls P f #[.slice a 0 0] w fun e w' => e = .returned (.tuple #[]) ∧ w' = w)
    (v : Nat) (zs : List Int) (hz : zs.length ≤ 1048576) :
    FnM P f [.row v ⟨1, false⟩ true (zs.map fun n => .val (.int .i64 n))] [.ref 1000000000 v 0 zs.length] (fun r io => r = .tup [] ∧ io = [.row v ⟨1, false⟩ true ((g zs).map fun n => .val (.int .i64 n))]) := by
  have := FnM.row (P := P) (f := f) v (zs.map fun n => AV.val (.int .i64 n)) ((g zs).map fun n => AV.val (.int .i64 n)) (by simp [hg])
    (flatInts zs) (by intro i hi; simp [fits]) hE ?_ ?_
  · simpa using this
  · intro w b cap cs e hb hcs hcap hrd
    have h4 : (zs.map fun n => AV.val (.int .i64 n)).length = zs.length := List.length_map _
    have h1 := hs b cap zs w (holds_rd hb (by omega) hrd) (Array.getElem?_eq_some_iff.1 hb).1 (by omega)
    rw [List.length_map]
    refine h1.mono ?_
    rintro e' w' ⟨rfl, n, os, rfl⟩
    exact ⟨rfl, put_facts hb (by rw [hg]; omega)⟩
  · intro hx a w
    refine (h0 a w).mono ?_
    rintro e' w' ⟨rfl, rfl⟩
    exact ⟨rfl, Grown.refl _⟩

section
variable {P : Program} {m : Mem}
/-- A call that turns a row of ours and hands back its beginning. -/
theorem sCallT_row {f : FuncId} {d l ver j : Nat} {xs ys xt : List AV} {k : AV → Mem → Prop} {q : Pack k} (hE : Enters P f) (hlk : lookB m l = some (.row ver ⟨1, false⟩ true xs)) (hflat : isFlatL xs = true) (hlen : ys.length = xs.length) (hj : j ≤ xs.length)
    (hfy : ∀ i (h : i < ys.length), fits ⟨1, false⟩ ys[i])
    (hc : ∀ (w : World) (b cap : Nat) (cs : Array Value) (e : TypeId), w.heap[b]? = some (.cells cs e (0, 0)) → cs.size = cap → xs.length ≤ cap → (∀ i (h : i < xs.length), Rd w (fun _ => False) xs[i] (cs.toList.getD i Go.undef)) →
      Calls P f #[.slice (some ⟨b, 0, none⟩) xs.length cap] w fun e' w' => e' = .returned (.slice (some ⟨b, 0, none⟩) j cap) ∧ ∃ cs' : Array Value, cs'.size = cs.size ∧ (∀ i (h : i < ys.length), Rd w' (fun _ => False) ys[i] (cs'.toList.getD i Go.undef)) ∧
        w'.heap[b]? = some (.cells cs' e (0, 0)) ∧ (∀ c : Nat, c ≠ b → c < w.heap.size → w'.heap[c]? = w.heap[c]?) ∧ w.heap.size ≤ w'.heap.size ∧ SameOut w w')
    (h0 : xs = [] → ∀ (a : Option Addr) (w : World), Calls P f #[.slice a 0 0] w fun e' w' => e' = .returned (.slice a 0 0) ∧ Grown w w')
    (hk : k (.ref l (ver + 1) 0 j) ((l, .row (ver + 1) ⟨1, false⟩ true ys) :: m)) : sCallT P f d [.ref l ver 0 xs.length] xt m k q := by
  refine .inl fun B N φ fp S ts a w vs hR hsz hx hxl => ⟨hE, ?_⟩
  obtain ⟨u, rfl⟩ : ∃ u, vs = #[u] := by
    have : vs.size = 1 := hsz
    exact ⟨vs[0], by apply Array.ext <;> simp_all⟩
  have hx0 : RV w S φ (.ref l ver 0 xs.length) u := hx 0 (by simp)
  obtain ⟨r1, r2⟩ := rv_ref hx0
  have hver : ∀ v', known m l v' → v' < ver + 1 := by
    rintro v' ⟨k', h1, h2⟩
    rw [hlk] at h1; cases h1; exact Nat.lt_succ_of_le h2
  have nilCase : xs = [] → (∃ a', u = .slice a' 0 0) → Calls P f #[u] w fun e' w' => ∃ v, e' = .returned v ∧ Gives B N a (fun x ts' m' => ts' = ts ∧ k x m') v w' := by
    rintro h1 ⟨a', rfl⟩
    have hy : ys = [] := List.eq_nil_of_length_eq_zero (by rw [hlen, h1]; rfl)
    have hj0 : j = 0 := by rw [h1] at hj; simpa using hj
    refine (h0 h1 a' w).mono ?_
    rintro e' w' ⟨rfl, hg⟩
    refine ⟨_, rfl, (hR.grown hg).nilNext hver (nv := ver + 1) (sh := ⟨1, false⟩) (deep := true) ⟨rfl, ?_⟩⟩
    rw [hy, hj0] at hk; exact hk
  rcases hR.mSome l _ hlk with ⟨hφ, hxs, _⟩ | ⟨b, cap, hφ, hbm, _, hown⟩
  · exact nilCase hxs (r2 hφ).2
  · simp only [if_true] at hown
    obtain ⟨ad, cap', rfl, hn, hcp⟩ := r1 b _ hφ
    rcases hcp with rfl | ⟨rfl, cs0, e0, hh0, hs0⟩
    · have hx1 : xs = [] := List.eq_nil_of_length_eq_zero (by omega)
      exact nilCase hx1 ⟨ad, by rw [hx1]; rfl⟩
    · rcases own_arr hown with ⟨hx1, hf0, _⟩ | ⟨b', cap2, cs, e, fss, q1, hgf, hheap, hcs, hcap, hmx, hff, hfl, hvv⟩
      · rw [hf0] at hbm; cases hbm
      · simp only [Value.slice.injEq, Option.some.injEq, Addr.mk.injEq] at q1
        obtain ⟨⟨rfl, _⟩, _, rfl⟩ := q1
        rw [hheap] at hh0
        simp only [Option.some.injEq, Obj.cells.injEq] at hh0
        obtain ⟨rfl, rfl, _⟩ := hh0
        simp only [Nat.mul_one, Nat.zero_add] at hs0 hcs
        have hfe : ∀ i (h : i < xs.length), Rd w (fun _ => False) xs[i] (cs.toList.getD i Go.undef) ∧ fss.getD i [] = [] := by
          intro i hi
          have := flat_rd (S' := fun _ => False) (hvv i hi) (isFlatL_get hflat i hi)
          rw [elemV_cell, Nat.mul_one] at this
          exact this
        have hfs : fss.flatten = [] := List.flatten_eq_nil_iff.2 fun l hl => by
          obtain ⟨i, hi, rfl⟩ := List.getElem_of_mem hl
          have := (hfe i (hfl ▸ hi)).2
          rwa [List.getD_eq_getElem?_getD, List.getElem?_eq_getElem hi] at this
        rw [hfs] at hgf
        rw [show (0 : Nat) * (1 : Nat) = 0 from rfl]
        refine (hc w b cap' cs e hheap hs0 hn fun i hi => (hfe i hi).1).mono ?_
        rintro e' w' ⟨rfl, cs', hs', hr', hb', hoth, hsize, hout⟩
        have hbl : b < w.heap.size := (Array.getElem?_eq_some_iff.1 hheap).1
        have hszs : Szs w w' := by
          intro c cs2 e2 hc2
          by_cases ec : c = b
          · subst ec; rw [hheap] at hc2; cases hc2; exact ⟨cs', e, hb', hs'⟩
          · exact ⟨cs2, e2, by rw [hoth c ec (Array.getElem?_eq_some_iff.1 hc2).1]; exact hc2, rfl⟩
        refine ⟨_, rfl, hR.rowNext (b := b) (cap := cap) (n := j) (nv := ver + 1) (sh := ⟨1, false⟩) (deep := true) (xs := ys) (fs := [b]) hsize hout hszs hoth
          (fun l b sh ver cs e _ hb => hszs b cs e hb) (.inl hbm) hver (fun c hc => .inl (by simpa using hc)) (by simp) (fun h => (by cases h)) (by simp) ?_ ?_ ⟨rfl, hk⟩⟩
        · have e2 : [b] = b :: (List.replicate ys.length ([] : List Nat)).flatten := by
            congr 1
            exact (List.flatten_eq_nil_iff.2 fun l hl => (List.mem_replicate.1 hl).2).symm
          show Own w' (fun _ => False) _ _ [b]
          rw [e2]
          refine .arr ⟨1, false⟩ ys b cap cs' e _ hb' (by rw [hs', hcs]; simp) (by omega) hmx hfy (by simp) fun i hi => ?_
          have e3 : (List.replicate ys.length ([] : List Nat)).getD i [] = [] := by simp [List.getD_eq_getElem?_getD, hi]
          rw [e3, elemV_cell, Nat.mul_one]
          exact .rd _ _ (hr' i hi)
        · exact ⟨some ⟨b, 0, none⟩, cap', rfl, by omega, .inr ⟨rfl, cs', e, hb', by rw [hs', hs0]; simp⟩⟩
/-- The same, of numbers. -/
theorem sCallT_ints {f : FuncId} {d l ver n : Nat} {zs ys : List Int} {xt : List AV} {k : AV → Mem → Prop} {q : Pack k} (j : Nat) (hE : Enters P f) (hlk : lookB m l = some (.row ver ⟨1, false⟩ true (zs.map fun n => .val (.int .i64 n)))) (hn : n = zs.length) (hlen : ys.length = zs.length) (hj : j ≤ zs.length)
    (hz : zs.length ≤ 1048576)
    (hc : ∀ (blk cap : Nat) (w : World), Holds (Value.int .i64) w blk 0 zs.toArray → zs.length ≤ cap →
      Calls P f #[.slice (some ⟨blk, 0, none⟩) zs.length cap] w fun e' w' => e' = .returned (.slice (some ⟨blk, 0, none⟩) j cap) ∧ ∃ q, w' = putRow (Value.int .i64) (Sort.ahead w q) blk 0 ys.toArray)
    (h0 : ∀ (a : Option Addr) (w : World), Calls P f #[.slice a 0 0] w fun e' w' => e' = .returned (.slice a 0 0) ∧ w' = w)
    (hk : k (.ref l (ver + 1) 0 j) ((l, .row (ver + 1) ⟨1, false⟩ true (ys.map fun n => .val (.int .i64 n))) :: m)) : sCallT P f d [.ref l ver 0 n] xt m k q := by
  have h4 : (zs.map fun n => AV.val (.int .i64 n)).length = zs.length := List.length_map _
  rw [hn, ← h4]
  refine sCallT_row hE hlk (flatInts zs) (ys := ys.map fun n => .val (.int .i64 n)) (j := j) (by simp [hlen]) (by omega) (by intro i hi; simp [fits]) ?_ ?_ hk
  · intro w b cap cs e hb hcs hcap hrd
    have h1 := hc b cap w (holds_rd hb (by omega) hrd) (by omega)
    rw [h4]
    refine h1.mono ?_
    rintro e' w' ⟨rfl, n, rfl⟩
    refine ⟨rfl, ?_⟩
    have := put_facts (os := #[]) (n := n) (ys := ys) hb (by omega)
    simpa only [grow_empty] using this
  · intro hx a w
    refine (h0 a w).mono ?_
    rintro e' w' ⟨rfl, rfl⟩
    exact ⟨rfl, Grown.refl _⟩
end
end Go.Vc


/-
  DERIVED: THE SHELF's CONTRACTS AT THIS DUMP, IN PLAIN WORDS (tools/lay-plain.mjs out of 'YtikfojjghnfjkaaLay0.lean', which tools/lay-shelf.mjs wrote): THE SAME DECLARATIONS UNDER THE SAME NAMES: 'import', 'namespace', 'open', 'def', 'theorem' AND NOTHING ELSE: no command of the shelf's: FOR A HAND-IN. Each laying: the table of numbers ('.._ren') and one theorem, a field a fact of the dump's own or the kernel's comparison; each contract: ONE APPLICATION.
-/
set_option linter.unusedVariables false
set_option linter.unusedSimpArgs false
set_option linter.unnecessarySimpa false
namespace Go.Proofs
open Go.Shelf
def Try.laySort_ren : Go.Shelf.Ren := ⟨fun | 53 => 120 | 64 => 144 | 63 => 143 | 78 => 166 | 79 => 167 | 70 => 157 | 71 => 158 | 72 => 159 | 73 => 160 | 74 => 161 | 75 => 162 | 59 => 163 | 76 => 164 | 77 => 165 | 88 => 171 | 89 => 172 | 90 => 173 | 91 => 174 | 92 => 175 | 68 => 176 | 96 => 179 | n => n, fun | 22 => 25 | 23 => 2 | 3 => 3 | 51 => 157 | 0 => 0 | 67 => 175 | 69 => 177 | 4 => 4 | 61 => 167 | 60 => 166 | 44 => 172 | 5 => 5 | 9 => 9 | 75 => 181 | 79 => 185 | 83 => 187 | 84 => 188 | n => n, fun | n => n⟩
theorem Try.laySort : Go.Proofs.SlLaysN.n53 Try.prog Try.laySort_ren := {
  mixed := by kernel_rfl
  f53 := ⟨Try.f120.name, by decide, Try.func120.trans (congrArg some (by kernel_rfl))⟩
  f59 := ⟨Try.f163.name, by decide, Try.func163.trans (congrArg some (by kernel_rfl))⟩
  f63 := ⟨Try.f143.name, by decide, Try.func143.trans (congrArg some (by kernel_rfl))⟩
  f64 := Try.func144.trans (congrArg some (by kernel_rfl))
  f68 := ⟨Try.f176.name, by decide, Try.func176.trans (congrArg some (by kernel_rfl))⟩
  f70 := ⟨Try.f157.name, by decide, Try.func157.trans (congrArg some (by kernel_rfl))⟩
  f71 := ⟨Try.f158.name, by decide, Try.func158.trans (congrArg some (by kernel_rfl))⟩
  f72 := ⟨Try.f159.name, by decide, Try.func159.trans (congrArg some (by kernel_rfl))⟩
  f73 := ⟨Try.f160.name, by decide, Try.func160.trans (congrArg some (by kernel_rfl))⟩
  f74 := ⟨Try.f161.name, by decide, Try.func161.trans (congrArg some (by kernel_rfl))⟩
  f75 := ⟨Try.f162.name, by decide, Try.func162.trans (congrArg some (by kernel_rfl))⟩
  f76 := ⟨Try.f164.name, by decide, Try.func164.trans (congrArg some (by kernel_rfl))⟩
  f77 := ⟨Try.f165.name, by decide, Try.func165.trans (congrArg some (by kernel_rfl))⟩
  f78 := Try.func166.trans (congrArg some (by kernel_rfl))
  f79 := Try.func167.trans (congrArg some (by kernel_rfl))
  f88 := ⟨Try.f171.name, by decide, Try.func171.trans (congrArg some (by kernel_rfl))⟩
  f89 := Try.func172.trans (congrArg some (by kernel_rfl))
  f90 := Try.func173.trans (congrArg some (by kernel_rfl))
  f91 := ⟨Try.f174.name, by decide, Try.func174.trans (congrArg some (by kernel_rfl))⟩
  f92 := ⟨Try.f175.name, by decide, Try.func175.trans (congrArg some (by kernel_rfl))⟩
  f96 := ⟨Try.f179.name, by decide, Try.func179.trans (congrArg some (by kernel_rfl))⟩
  t0 := Try.underlying0
  a0 := Try.isAgg0
  z0 := Try.sizeOf0
  v0 := Try.zeroValue0
  t3 := Try.underlying3
  a3 := Try.isAgg3
  z3 := Try.sizeOf3
  v3 := Try.zeroValue3
  t4 := Try.underlying4
  a4 := Try.isAgg4
  z4 := Try.sizeOf4
  v4 := Try.zeroValue4
  t5 := Try.underlying5
  a5 := Try.isAgg5
  z5 := Try.sizeOf5
  v5 := Try.zeroValue5
  t9 := Try.underlying9
  a9 := Try.isAgg9
  z9 := Try.sizeOf9
  v9 := Try.zeroValue9
  t22 := Try.underlying25
  a22 := Try.isAgg25
  z22 := Try.sizeOf25
  v22 := Try.zeroValue25
  t23 := Try.underlying2
  a23 := Try.isAgg2
  z23 := Try.sizeOf2
  v23 := Try.zeroValue2
  t44 := Try.underlying172
  a44 := Try.isAgg172
  z44 := Try.sizeOf172
  v44 := Try.zeroValue172
  t51 := Try.underlying157
  a51 := Try.isAgg157
  z51 := Try.sizeOf157
  v51 := Try.zeroValue157
  t60 := Try.underlying166
  a60 := Try.isAgg166
  z60 := Try.sizeOf166
  v60 := Try.zeroValue166
  t61 := Try.underlying167
  a61 := Try.isAgg167
  z61 := Try.sizeOf167
  v61 := Try.zeroValue167
  t67 := Try.underlying175
  a67 := Try.isAgg175
  z67 := Try.sizeOf175
  v67 := Try.zeroValue175
  t69 := Try.underlying177
  a69 := Try.isAgg177
  z69 := Try.sizeOf177
  v69 := Try.zeroValue177
  t75 := Try.underlying181
  a75 := Try.isAgg181
  z75 := Try.sizeOf181
  v75 := Try.zeroValue181
  t79 := Try.underlying185
  a79 := Try.isAgg185
  z79 := Try.sizeOf185
  v79 := Try.zeroValue185
  t83 := Try.underlying187
  a83 := Try.isAgg187
  z83 := Try.sizeOf187
  v83 := Try.zeroValue187
  t84 := Try.underlying188
  a84 := Try.isAgg188
  z84 := Try.sizeOf188
  v84 := Try.zeroValue188 }
def Try.layCompact_ren : Go.Shelf.Ren := ⟨fun | 43 => 121 | n => n, fun | 22 => 25 | 23 => 2 | 3 => 3 | 4 => 4 | 0 => 0 | n => n, fun | n => n⟩
theorem Try.layCompact : Go.Proofs.SlLaysN.n43 Try.prog Try.layCompact_ren := {
  mixed := by kernel_rfl
  f43 := ⟨Try.f121.name, by decide, Try.func121.trans (congrArg some (by kernel_rfl))⟩
  t0 := Try.underlying0
  a0 := Try.isAgg0
  z0 := Try.sizeOf0
  v0 := Try.zeroValue0
  t3 := Try.underlying3
  a3 := Try.isAgg3
  z3 := Try.sizeOf3
  v3 := Try.zeroValue3
  t4 := Try.underlying4
  a4 := Try.isAgg4
  z4 := Try.sizeOf4
  v4 := Try.zeroValue4
  t22 := Try.underlying25
  a22 := Try.isAgg25
  z22 := Try.sizeOf25
  v22 := Try.zeroValue25
  t23 := Try.underlying2
  a23 := Try.isAgg2
  z23 := Try.sizeOf2
  v23 := Try.zeroValue2
  i23 := by kernel_rfl }
end Go.Proofs


/-
  How plain data are written as abstract values; small facts on lists.
-/
set_option linter.unusedVariables false
set_option linter.unusedSimpArgs false
set_option linter.unnecessarySimpa false
namespace Go.Vc
abbrev eI (n : Int) : AV := .val (.int .i64 n)
abbrev eB (b : Bool) : AV := .val (.bool b)
abbrev eIs (xs : List Int) : AV := .arr ⟨1, false⟩ (xs.map eI)
theorem all_take {α : Type} (p : α → Bool) (xs : List α) (i : Nat) (h : i < xs.length) : (xs.take (i + 1)).all p = ((xs.take i).all p && p xs[i]) := by
  rw [List.take_succ_eq_append_getElem h, List.all_append]; simp
theorem all_no {α : Type} {p : α → Bool} {xs : List α} {i : Nat} (h : i < xs.length) (hp : p xs[i] = false) : xs.all p = false := by
  rw [List.all_eq_false]; exact ⟨xs[i], List.getElem_mem h, by simp [hp]⟩
/-- a row of which the first i cells are filled -/
def fill {α β : Type} (f : α → β) (z : β) (xs : List α) (i : Nat) : List β := (xs.take i).map f ++ List.replicate (xs.length - i) z
theorem take_map_len {α β : Type} (f : α → β) (xs : List α) : (xs.map f).take xs.length = xs.map f := by rw [← List.map_take, List.take_length]
attribute [go_sem] take_map_len
theorem lt_len {i n : Nat} (h : i < n) : decide ((i : Int) < (n : Int)) = true := decide_eq_true (by omega)
theorem nlt_len (n : Nat) : decide ((n : Int) < (n : Int)) = false := decide_eq_false (by omega)
theorem get_some {α : Type} {xs : List α} {i : Nat} (h : i < xs.length) : xs[i]? = some xs[i] := List.getElem?_eq_getElem h
theorem isFlatL_map {α : Type} {f : α → AV} (xs : List α) (h : ∀ x, isFlat (f x) = true) : isFlatL (xs.map f) = true := by
  induction xs with
  | nil => rfl
  | cons x r ih => rw [List.map_cons, isFlatL_cons, h, ih]; rfl
theorem isFlatL_append (xs ys : List AV) : isFlatL (xs ++ ys) = (isFlatL xs && isFlatL ys) := by
  induction xs with
  | nil => simp [isFlatL]
  | cons x r ih => rw [List.cons_append, isFlatL_cons, isFlatL_cons, ih, Bool.and_assoc]
theorem isFlatL_take (xs : List AV) (n : Nat) (h : isFlatL xs = true) : isFlatL (xs.take n) = true := by
  induction xs generalizing n with
  | nil => simp [isFlatL]
  | cons x r ih =>
    cases n with
    | zero => rfl
    | succ n =>
      simp only [isFlatL_cons, Bool.and_eq_true] at h
      rw [List.take_succ_cons, isFlatL_cons, h.1, ih n h.2]; rfl
theorem isFlatL_rep (n : Nat) (z : AV) (h : isFlat z = true) : isFlatL (List.replicate n z) = true := by
  induction n with
  | zero => rfl
  | succ n ih => rw [List.replicate_succ, isFlatL_cons, h, ih]; rfl
theorem take_map_snoc {α β : Type} (f : α → β) {xs : List α} {i : Nat} (h : i < xs.length) : (xs.map f).take i ++ [f xs[i]] = (xs.map f).take (i + 1) := by
  rw [List.take_succ_eq_append_getElem (by simpa using h), List.getElem_map]
theorem rep0 {α : Type} (z : α) : List.replicate 0 z = [] := rfl
theorem rep1 {α : Type} (z : α) : List.replicate 1 z = [z] := rfl
theorem rep2 {α : Type} (z : α) : List.replicate 2 z = [z, z] := rfl
theorem rep3 {α : Type} (z : α) : List.replicate 3 z = [z, z, z] := rfl
theorem rep4 {α : Type} (z : α) : List.replicate 4 z = [z, z, z, z] := rfl
theorem rep5 {α : Type} (z : α) : List.replicate 5 z = [z, z, z, z, z] := rfl
theorem rep6 {α : Type} (z : α) : List.replicate 6 z = [z, z, z, z, z, z] := rfl
theorem rep7 {α : Type} (z : α) : List.replicate 7 z = [z, z, z, z, z, z, z] := rfl
theorem rep8 {α : Type} (z : α) : List.replicate 8 z = [z, z, z, z, z, z, z, z] := rfl
theorem rep9 {α : Type} (z : α) : List.replicate 9 z = [z, z, z, z, z, z, z, z, z] := rfl
theorem rep10 {α : Type} (z : α) : List.replicate 10 z = [z, z, z, z, z, z, z, z, z, z] := rfl
theorem rep11 {α : Type} (z : α) : List.replicate 11 z = [z, z, z, z, z, z, z, z, z, z, z] := rfl
theorem rep12 {α : Type} (z : α) : List.replicate 12 z = [z, z, z, z, z, z, z, z, z, z, z, z] := rfl
attribute [go_sem] isFlatL_map isFlatL_append isFlatL_take isFlatL_rep List.take_take Nat.min_self List.map_take List.append_nil List.length_append List.length_take rep0 rep1 rep2 rep3 rep4 rep5 rep6 rep7 rep8 rep9 rep10 rep11 rep12
theorem ioL_eq : ioL = 1000000000 := rfl
attribute [go_sem] ne_eq not_false_eq_true ioL_eq decide_true decide_false Bool.not_true Bool.not_false bne_self_eq_false
theorem take_set_len {α β : Type} (f : α → β) (xs : List α) (i : Nat) (y : β) : ((xs.map f).set i y).take xs.length = (xs.map f).set i y := List.take_of_length_le (by simp)
attribute [go_sem] take_set_len List.length_set
theorem eq_no {α : Type} [DecidableEq α] {xs ys : List α} {i : Nat} (hi : i < xs.length) (hy : i < ys.length) (h : xs[i] ≠ ys[i]) : decide (xs = ys) = false :=
  decide_eq_false fun e => h (by subst e; rfl)
theorem eq_yes {α : Type} {xs ys : List α} {i : Nat} (hi : i < xs.length) (hy : i < ys.length) (hI : xs.take i = ys.take i) (h : xs[i] = ys[i]) : xs.take (i + 1) = ys.take (i + 1) := by
  rw [List.take_succ_eq_append_getElem hi, List.take_succ_eq_append_getElem hy, hI, h]
end Go.Vc


/-
  What the program's types are, for the layer Vc.
-/
set_option linter.unusedVariables false
set_option linter.unusedSimpArgs false
set_option linter.unnecessarySimpa false
namespace Go.Vc
open Go.Proofs

theorem ti0 : tiOf Try.prog 0 = some ⟨false, 1, 0, .undef, [], 0, .other⟩ := by kernel_rfl
theorem ti1 : tiOf Try.prog 1 = some ⟨false, 1, 8, .val .nilFunc, [], 0, .other⟩ := by kernel_rfl
theorem ti2 : tiOf Try.prog 2 = some ⟨false, 1, 8, .val (.int .i64 0), [], 0, .int .i64⟩ := by kernel_rfl
theorem ti3 : tiOf Try.prog 3 = some ⟨false, 1, 8, .val (.int .i64 0), [], 0, .int .i64⟩ := by kernel_rfl
theorem ti4 : tiOf Try.prog 4 = some ⟨false, 1, 1, .val (.bool false), [], 0, .bool⟩ := by kernel_rfl
theorem ti5 : tiOf Try.prog 5 = some ⟨false, 1, 1, .val (.int .u8 0), [], 0, .int .u8⟩ := by kernel_rfl
theorem ti6 : tiOf Try.prog 6 = some ⟨false, 1, 1, .val (.int .u8 0), [], 0, .int .u8⟩ := by kernel_rfl
theorem ti7 : tiOf Try.prog 7 = some ⟨true, 4, 24, .agg [.val (.int .i64 0), .val (.int .i64 0), .val (.bool false), .val (.int .u8 0)], [(0, 1, false), (1, 1, false), (2, 1, false), (3, 1, false)], 0, .struct⟩ := by kernel_rfl
theorem ti8 : tiOf Try.prog 8 = some ⟨true, 4, 24, .agg [.val (.int .i64 0), .val (.int .i64 0), .val (.bool false), .val (.int .u8 0)], [(0, 1, false), (1, 1, false), (2, 1, false), (3, 1, false)], 0, .struct⟩ := by kernel_rfl
theorem ti9 : tiOf Try.prog 9 = some ⟨false, 1, 16, .val (.string ⟨#[]⟩), [], 0, .string⟩ := by kernel_rfl
theorem ti10 : tiOf Try.prog 10 = some ⟨false, 1, 16, .val (.string ⟨#[]⟩), [], 0, .string⟩ := by kernel_rfl
theorem ti11 : tiOf Try.prog 11 = some ⟨false, 1, 16, .val (.string ⟨#[]⟩), [], 0, .string⟩ := by kernel_rfl
theorem ti12 : tiOf Try.prog 12 = some ⟨false, 1, 8, .val (.int .u64 0), [], 0, .int .u64⟩ := by kernel_rfl
theorem ti13 : tiOf Try.prog 13 = some ⟨true, 2, 24, .agg [.val (.string ⟨#[]⟩), .val (.int .u64 0)], [(0, 1, false), (1, 1, false)], 0, .struct⟩ := by kernel_rfl
theorem ti14 : tiOf Try.prog 14 = some ⟨true, 2, 24, .agg [.val (.string ⟨#[]⟩), .val (.int .u64 0)], [(0, 1, false), (1, 1, false)], 0, .struct⟩ := by kernel_rfl
theorem ti15 : tiOf Try.prog 15 = some ⟨false, 1, 8, .val (.pointer none), [], 0, .other⟩ := by kernel_rfl
theorem ti16 : tiOf Try.prog 16 = some ⟨false, 1, 8, .val (.pointer none), [], 0, .other⟩ := by kernel_rfl
theorem ti17 : tiOf Try.prog 17 = some ⟨false, 1, 8, .val (.pointer none), [], 0, .other⟩ := by kernel_rfl
theorem ti18 : tiOf Try.prog 18 = some ⟨true, 1, 8, .agg [.val (.pointer none)], [(0, 1, false)], 0, .struct⟩ := by kernel_rfl
theorem ti19 : tiOf Try.prog 19 = some ⟨true, 1, 8, .agg [.val (.pointer none)], [(0, 1, false)], 0, .struct⟩ := by kernel_rfl
theorem ti20 : tiOf Try.prog 20 = some ⟨false, 1, 16, .val .nilIface, [], 0, .iface⟩ := by kernel_rfl
theorem ti21 : tiOf Try.prog 21 = some ⟨false, 1, 4, .val (.int .i32 0), [], 0, .int .i32⟩ := by kernel_rfl
theorem ti22 : tiOf Try.prog 22 = some ⟨false, 1, 24, .val (.slice none 0 0), [], 5, .slice⟩ := by kernel_rfl
theorem ti23 : tiOf Try.prog 23 = some ⟨false, 1, 8, .val .nilFunc, [], 0, .other⟩ := by kernel_rfl
theorem ti24 : tiOf Try.prog 24 = some ⟨false, 1, 24, .val (.slice none 0 0), [], 39, .slice⟩ := by kernel_rfl
theorem ti25 : tiOf Try.prog 25 = some ⟨false, 1, 24, .val (.slice none 0 0), [], 2, .slice⟩ := by kernel_rfl
theorem ti26 : tiOf Try.prog 26 = some ⟨true, 2, 48, .agg [.val (.slice none 0 0), .val (.slice none 0 0)], [(0, 1, false), (1, 1, false)], 0, .struct⟩ := by kernel_rfl
theorem ti27 : tiOf Try.prog 27 = some ⟨true, 2, 48, .agg [.val (.slice none 0 0), .val (.slice none 0 0)], [(0, 1, false), (1, 1, false)], 0, .struct⟩ := by kernel_rfl
theorem ti28 : tiOf Try.prog 28 = some ⟨false, 1, 0, .undef, [], 0, .other⟩ := by kernel_rfl
theorem ti29 : tiOf Try.prog 29 = some ⟨false, 1, 8, .val .nilFunc, [], 0, .other⟩ := by kernel_rfl
theorem ti30 : tiOf Try.prog 30 = some ⟨false, 1, 0, .undef, [], 0, .other⟩ := by kernel_rfl
theorem ti31 : tiOf Try.prog 31 = some ⟨false, 1, 8, .val .nilFunc, [], 0, .other⟩ := by kernel_rfl
theorem ti32 : tiOf Try.prog 32 = some ⟨false, 1, 24, .val (.slice none 0 0), [], 25, .slice⟩ := by kernel_rfl
theorem ti33 : tiOf Try.prog 33 = some ⟨false, 1, 0, .undef, [], 0, .other⟩ := by kernel_rfl
theorem ti34 : tiOf Try.prog 34 = some ⟨false, 1, 8, .val .nilFunc, [], 0, .other⟩ := by kernel_rfl
theorem ti35 : tiOf Try.prog 35 = some ⟨false, 1, 8, .val .nilFunc, [], 0, .other⟩ := by kernel_rfl
theorem ti36 : tiOf Try.prog 36 = some ⟨false, 1, 8, .val .nilFunc, [], 0, .other⟩ := by kernel_rfl
theorem ti37 : tiOf Try.prog 37 = some ⟨false, 1, 8, .val .nilFunc, [], 0, .other⟩ := by kernel_rfl
theorem ti38 : tiOf Try.prog 38 = some ⟨true, 3, 24, .agg [.val (.int .i64 0), .val (.int .i64 0), .val (.int .i64 0)], [(0, 1, false), (1, 1, false), (2, 1, false)], 0, .struct⟩ := by kernel_rfl
theorem ti39 : tiOf Try.prog 39 = some ⟨true, 3, 24, .agg [.val (.int .i64 0), .val (.int .i64 0), .val (.int .i64 0)], [(0, 1, false), (1, 1, false), (2, 1, false)], 0, .struct⟩ := by kernel_rfl
theorem ti40 : tiOf Try.prog 40 = some ⟨false, 1, 8, .val .nilFunc, [], 0, .other⟩ := by kernel_rfl
theorem ti41 : tiOf Try.prog 41 = some ⟨false, 1, 8, .val .nilFunc, [], 0, .other⟩ := by kernel_rfl
theorem ti42 : tiOf Try.prog 42 = some ⟨true, 5, 40, .agg [.val (.int .i64 0), .val (.int .i64 0), .val (.int .i64 0), .val (.int .i64 0), .val (.int .i64 0)], [(0, 1, false), (1, 1, false), (2, 1, false), (3, 1, false), (4, 1, false)], 0, .struct⟩ := by kernel_rfl
theorem ti43 : tiOf Try.prog 43 = some ⟨true, 5, 40, .agg [.val (.int .i64 0), .val (.int .i64 0), .val (.int .i64 0), .val (.int .i64 0), .val (.int .i64 0)], [(0, 1, false), (1, 1, false), (2, 1, false), (3, 1, false), (4, 1, false)], 0, .struct⟩ := by kernel_rfl
theorem ti44 : tiOf Try.prog 44 = some ⟨true, 1, 24, .agg [.val (.slice none 0 0)], [(0, 1, false)], 0, .struct⟩ := by kernel_rfl
theorem ti45 : tiOf Try.prog 45 = some ⟨true, 1, 24, .agg [.val (.slice none 0 0)], [(0, 1, false)], 0, .struct⟩ := by kernel_rfl
theorem ti46 : tiOf Try.prog 46 = some ⟨false, 1, 0, .undef, [], 0, .other⟩ := by kernel_rfl
theorem ti47 : tiOf Try.prog 47 = some ⟨false, 1, 8, .val .nilFunc, [], 0, .other⟩ := by kernel_rfl
theorem ti48 : tiOf Try.prog 48 = some ⟨false, 1, 0, .undef, [], 0, .other⟩ := by kernel_rfl
theorem ti49 : tiOf Try.prog 49 = some ⟨false, 1, 8, .val .nilFunc, [], 0, .other⟩ := by kernel_rfl
theorem ti50 : tiOf Try.prog 50 = some ⟨false, 1, 8, .val .nilFunc, [], 0, .other⟩ := by kernel_rfl
theorem ti51 : tiOf Try.prog 51 = some ⟨false, 1, 8, .val .nilFunc, [], 0, .other⟩ := by kernel_rfl
theorem ti52 : tiOf Try.prog 52 = some ⟨false, 1, 0, .undef, [], 0, .other⟩ := by kernel_rfl
theorem ti53 : tiOf Try.prog 53 = some ⟨false, 1, 8, .val .nilFunc, [], 0, .other⟩ := by kernel_rfl
theorem ti54 : tiOf Try.prog 54 = some ⟨false, 1, 8, .val .nilFunc, [], 0, .other⟩ := by kernel_rfl
theorem ti55 : tiOf Try.prog 55 = some ⟨false, 1, 0, .undef, [], 0, .other⟩ := by kernel_rfl
theorem ti56 : tiOf Try.prog 56 = some ⟨false, 1, 8, .val .nilFunc, [], 0, .other⟩ := by kernel_rfl
theorem ti57 : tiOf Try.prog 57 = some ⟨false, 1, 8, .val .nilFunc, [], 0, .other⟩ := by kernel_rfl
theorem ti58 : tiOf Try.prog 58 = some ⟨false, 1, 0, .undef, [], 0, .other⟩ := by kernel_rfl
theorem ti59 : tiOf Try.prog 59 = some ⟨false, 1, 8, .val .nilFunc, [], 0, .other⟩ := by kernel_rfl
theorem ti60 : tiOf Try.prog 60 = some ⟨false, 1, 8, .val .nilFunc, [], 0, .other⟩ := by kernel_rfl
theorem ti61 : tiOf Try.prog 61 = some ⟨false, 1, 0, .undef, [], 0, .other⟩ := by kernel_rfl
theorem ti62 : tiOf Try.prog 62 = some ⟨false, 1, 8, .val .nilFunc, [], 0, .other⟩ := by kernel_rfl
theorem ti63 : tiOf Try.prog 63 = some ⟨false, 1, 8, .val .nilFunc, [], 0, .other⟩ := by kernel_rfl
theorem ti64 : tiOf Try.prog 64 = some ⟨false, 1, 24, .val (.slice none 0 0), [], 75, .slice⟩ := by kernel_rfl
theorem ti65 : tiOf Try.prog 65 = some ⟨false, 1, 0, .undef, [], 0, .other⟩ := by kernel_rfl
theorem ti66 : tiOf Try.prog 66 = some ⟨false, 1, 8, .val .nilFunc, [], 0, .other⟩ := by kernel_rfl
theorem ti67 : tiOf Try.prog 67 = some ⟨false, 1, 0, .undef, [], 0, .other⟩ := by kernel_rfl
theorem ti68 : tiOf Try.prog 68 = some ⟨false, 1, 8, .val .nilFunc, [], 0, .other⟩ := by kernel_rfl
theorem ti69 : tiOf Try.prog 69 = some ⟨false, 1, 8, .val .nilFunc, [], 0, .other⟩ := by kernel_rfl
theorem ti70 : tiOf Try.prog 70 = some ⟨false, 1, 8, .val .nilFunc, [], 0, .other⟩ := by kernel_rfl
theorem ti71 : tiOf Try.prog 71 = some ⟨false, 1, 0, .undef, [], 0, .other⟩ := by kernel_rfl
theorem ti72 : tiOf Try.prog 72 = some ⟨false, 1, 8, .val .nilFunc, [], 0, .other⟩ := by kernel_rfl
theorem ti73 : tiOf Try.prog 73 = some ⟨false, 1, 8, .val .nilFunc, [], 0, .other⟩ := by kernel_rfl
theorem ti74 : tiOf Try.prog 74 = some ⟨true, 2, 16, .agg [.val (.int .i64 0), .val (.int .i64 0)], [(0, 1, false), (1, 1, false)], 0, .struct⟩ := by kernel_rfl
theorem ti75 : tiOf Try.prog 75 = some ⟨true, 2, 16, .agg [.val (.int .i64 0), .val (.int .i64 0)], [(0, 1, false), (1, 1, false)], 0, .struct⟩ := by kernel_rfl
theorem ti76 : tiOf Try.prog 76 = some ⟨false, 1, 0, .undef, [], 0, .other⟩ := by kernel_rfl
theorem ti77 : tiOf Try.prog 77 = some ⟨false, 1, 8, .val .nilFunc, [], 0, .other⟩ := by kernel_rfl
theorem ti78 : tiOf Try.prog 78 = some ⟨false, 1, 8, .val .nilFunc, [], 0, .other⟩ := by kernel_rfl
theorem ti79 : tiOf Try.prog 79 = some ⟨false, 1, 0, .undef, [], 0, .other⟩ := by kernel_rfl
theorem ti80 : tiOf Try.prog 80 = some ⟨false, 1, 8, .val .nilFunc, [], 0, .other⟩ := by kernel_rfl
theorem ti81 : tiOf Try.prog 81 = some ⟨false, 1, 8, .val .nilFunc, [], 0, .other⟩ := by kernel_rfl
theorem ti82 : tiOf Try.prog 82 = some ⟨false, 1, 8, .val .nilFunc, [], 0, .other⟩ := by kernel_rfl
theorem ti83 : tiOf Try.prog 83 = some ⟨false, 1, 8, .val (.pointer none), [], 0, .other⟩ := by kernel_rfl
theorem ti84 : tiOf Try.prog 84 = some ⟨false, 1, 8, .val .nilFunc, [], 0, .other⟩ := by kernel_rfl
theorem ti85 : tiOf Try.prog 85 = some ⟨false, 1, 8, .val .nilFunc, [], 0, .other⟩ := by kernel_rfl
theorem ti86 : tiOf Try.prog 86 = some ⟨false, 1, 8, .val .nilFunc, [], 0, .other⟩ := by kernel_rfl
theorem ti87 : tiOf Try.prog 87 = some ⟨false, 1, 8, .val .nilFunc, [], 0, .other⟩ := by kernel_rfl
theorem ti88 : tiOf Try.prog 88 = some ⟨false, 1, 8, .val .nilFunc, [], 0, .other⟩ := by kernel_rfl
theorem ti89 : tiOf Try.prog 89 = some ⟨false, 1, 8, .val .nilFunc, [], 0, .other⟩ := by kernel_rfl
theorem ti90 : tiOf Try.prog 90 = some ⟨false, 1, 8, .val .nilFunc, [], 0, .other⟩ := by kernel_rfl
theorem ti91 : tiOf Try.prog 91 = some ⟨false, 1, 8, .val .nilFunc, [], 0, .other⟩ := by kernel_rfl
theorem ti92 : tiOf Try.prog 92 = some ⟨false, 1, 8, .val .nilFunc, [], 0, .other⟩ := by kernel_rfl
theorem ti93 : tiOf Try.prog 93 = some ⟨false, 1, 8, .val .nilFunc, [], 0, .other⟩ := by kernel_rfl
theorem ti94 : tiOf Try.prog 94 = some ⟨false, 1, 8, .val .nilFunc, [], 0, .other⟩ := by kernel_rfl
theorem ti95 : tiOf Try.prog 95 = some ⟨false, 1, 8, .val .nilFunc, [], 0, .other⟩ := by kernel_rfl
theorem ti96 : tiOf Try.prog 96 = some ⟨false, 1, 8, .val .nilFunc, [], 0, .other⟩ := by kernel_rfl
theorem ti97 : tiOf Try.prog 97 = some ⟨false, 1, 0, .undef, [], 0, .other⟩ := by kernel_rfl
theorem ti98 : tiOf Try.prog 98 = some ⟨false, 1, 8, .val .nilFunc, [], 0, .other⟩ := by kernel_rfl
theorem ti99 : tiOf Try.prog 99 = some ⟨false, 1, 8, .val .nilFunc, [], 0, .other⟩ := by kernel_rfl
theorem ti100 : tiOf Try.prog 100 = some ⟨false, 1, 8, .val .nilFunc, [], 0, .other⟩ := by kernel_rfl
theorem ti101 : tiOf Try.prog 101 = some ⟨false, 1, 8, .val .nilFunc, [], 0, .other⟩ := by kernel_rfl
theorem ti102 : tiOf Try.prog 102 = some ⟨false, 1, 8, .val .nilFunc, [], 0, .other⟩ := by kernel_rfl
theorem ti103 : tiOf Try.prog 103 = some ⟨false, 1, 8, .val .nilFunc, [], 0, .other⟩ := by kernel_rfl
theorem ti104 : tiOf Try.prog 104 = some ⟨false, 1, 8, .val .nilFunc, [], 0, .other⟩ := by kernel_rfl
theorem ti105 : tiOf Try.prog 105 = some ⟨false, 1, 8, .val .nilFunc, [], 0, .other⟩ := by kernel_rfl
theorem ti106 : tiOf Try.prog 106 = some ⟨false, 1, 8, .val .nilFunc, [], 0, .other⟩ := by kernel_rfl
theorem ti107 : tiOf Try.prog 107 = some ⟨false, 1, 8, .val .nilFunc, [], 0, .other⟩ := by kernel_rfl
theorem ti108 : tiOf Try.prog 108 = some ⟨false, 1, 8, .val .nilFunc, [], 0, .other⟩ := by kernel_rfl
theorem ti109 : tiOf Try.prog 109 = some ⟨false, 1, 8, .val .nilFunc, [], 0, .other⟩ := by kernel_rfl
theorem ti110 : tiOf Try.prog 110 = some ⟨false, 1, 8, .val .nilFunc, [], 0, .other⟩ := by kernel_rfl
theorem ti111 : tiOf Try.prog 111 = some ⟨false, 1, 8, .val .nilFunc, [], 0, .other⟩ := by kernel_rfl
theorem ti112 : tiOf Try.prog 112 = some ⟨false, 1, 8, .val .nilFunc, [], 0, .other⟩ := by kernel_rfl
theorem ti113 : tiOf Try.prog 113 = some ⟨false, 1, 8, .val .nilFunc, [], 0, .other⟩ := by kernel_rfl
theorem ti114 : tiOf Try.prog 114 = some ⟨false, 1, 8, .val .nilFunc, [], 0, .other⟩ := by kernel_rfl
theorem ti115 : tiOf Try.prog 115 = some ⟨false, 1, 8, .val (.pointer none), [], 0, .other⟩ := by kernel_rfl
theorem ti116 : tiOf Try.prog 116 = some ⟨false, 1, 0, .undef, [], 0, .other⟩ := by kernel_rfl
theorem ti117 : tiOf Try.prog 117 = some ⟨false, 1, 8, .val .nilFunc, [], 0, .other⟩ := by kernel_rfl
theorem ti118 : tiOf Try.prog 118 = some ⟨false, 1, 8, .val .nilFunc, [], 0, .other⟩ := by kernel_rfl
theorem ti119 : tiOf Try.prog 119 = some ⟨false, 1, 8, .val .nilFunc, [], 0, .other⟩ := by kernel_rfl
theorem ti120 : tiOf Try.prog 120 = some ⟨false, 1, 8, .val .nilFunc, [], 0, .other⟩ := by kernel_rfl
theorem ti121 : tiOf Try.prog 121 = some ⟨false, 1, 0, .undef, [], 0, .other⟩ := by kernel_rfl
theorem ti122 : tiOf Try.prog 122 = some ⟨false, 1, 8, .val .nilFunc, [], 0, .other⟩ := by kernel_rfl
theorem ti123 : tiOf Try.prog 123 = some ⟨true, 5, 88, .agg [.val (.slice none 0 0), .val (.slice none 0 0), .val (.int .i64 0), .val (.slice none 0 0), .val (.int .i64 0)], [(0, 1, true), (1, 1, false), (2, 1, false), (3, 1, false), (4, 1, false)], 0, .struct⟩ := by kernel_rfl
theorem ti124 : tiOf Try.prog 124 = some ⟨true, 5, 88, .agg [.val (.slice none 0 0), .val (.slice none 0 0), .val (.int .i64 0), .val (.slice none 0 0), .val (.int .i64 0)], [(0, 1, true), (1, 1, false), (2, 1, false), (3, 1, false), (4, 1, false)], 0, .struct⟩ := by kernel_rfl
theorem ti125 : tiOf Try.prog 125 = some ⟨false, 1, 8, .val .nilFunc, [], 0, .other⟩ := by kernel_rfl
theorem ti126 : tiOf Try.prog 126 = some ⟨false, 1, 8, .val .nilFunc, [], 0, .other⟩ := by kernel_rfl
theorem ti127 : tiOf Try.prog 127 = some ⟨true, 3, 40, .agg [.val (.slice none 0 0), .val (.int .i64 0), .val (.int .i64 0)], [(0, 1, false), (1, 1, false), (2, 1, false)], 0, .struct⟩ := by kernel_rfl
theorem ti128 : tiOf Try.prog 128 = some ⟨true, 3, 40, .agg [.val (.slice none 0 0), .val (.int .i64 0), .val (.int .i64 0)], [(0, 1, false), (1, 1, false), (2, 1, false)], 0, .struct⟩ := by kernel_rfl
theorem ti129 : tiOf Try.prog 129 = some ⟨false, 1, 24, .val (.slice none 0 0), [], 133, .slice⟩ := by kernel_rfl
theorem ti130 : tiOf Try.prog 130 = some ⟨false, 1, 8, .val .nilFunc, [], 0, .other⟩ := by kernel_rfl
theorem ti131 : tiOf Try.prog 131 = some ⟨false, 1, 8, .val .nilFunc, [], 0, .other⟩ := by kernel_rfl
theorem ti132 : tiOf Try.prog 132 = some ⟨true, 4, 32, .agg [.val (.int .i64 0), .val (.int .i64 0), .val (.int .i64 0), .val (.int .i64 0)], [(0, 1, false), (1, 1, false), (2, 1, false), (3, 1, false)], 0, .struct⟩ := by kernel_rfl
theorem ti133 : tiOf Try.prog 133 = some ⟨true, 4, 32, .agg [.val (.int .i64 0), .val (.int .i64 0), .val (.int .i64 0), .val (.int .i64 0)], [(0, 1, false), (1, 1, false), (2, 1, false), (3, 1, false)], 0, .struct⟩ := by kernel_rfl
theorem ti134 : tiOf Try.prog 134 = some ⟨false, 1, 8, .val .nilFunc, [], 0, .other⟩ := by kernel_rfl
theorem ti135 : tiOf Try.prog 135 = some ⟨false, 1, 8, .val .nilFunc, [], 0, .other⟩ := by kernel_rfl
theorem ti136 : tiOf Try.prog 136 = some ⟨false, 1, 8, .val .nilFunc, [], 0, .other⟩ := by kernel_rfl
theorem ti137 : tiOf Try.prog 137 = some ⟨false, 1, 8, .val .nilFunc, [], 0, .other⟩ := by kernel_rfl
theorem ti138 : tiOf Try.prog 138 = some ⟨false, 1, 8, .val .nilFunc, [], 0, .other⟩ := by kernel_rfl
theorem ti139 : tiOf Try.prog 139 = some ⟨false, 1, 8, .val .nilFunc, [], 0, .other⟩ := by kernel_rfl
theorem ti140 : tiOf Try.prog 140 = some ⟨false, 1, 8, .val .nilFunc, [], 0, .other⟩ := by kernel_rfl
theorem ti141 : tiOf Try.prog 141 = some ⟨false, 1, 24, .val (.slice none 0 0), [], 45, .slice⟩ := by kernel_rfl
theorem ti142 : tiOf Try.prog 142 = some ⟨false, 1, 8, .val .nilFunc, [], 0, .other⟩ := by kernel_rfl
theorem ti143 : tiOf Try.prog 143 = some ⟨false, 1, 8, .val .nilFunc, [], 0, .other⟩ := by kernel_rfl
theorem ti144 : tiOf Try.prog 144 = some ⟨false, 1, 8, .val .nilFunc, [], 0, .other⟩ := by kernel_rfl
theorem ti145 : tiOf Try.prog 145 = some ⟨false, 1, 8, .val .nilFunc, [], 0, .other⟩ := by kernel_rfl
theorem ti146 : tiOf Try.prog 146 = some ⟨false, 1, 8, .val .nilFunc, [], 0, .other⟩ := by kernel_rfl
theorem ti147 : tiOf Try.prog 147 = some ⟨false, 1, 8, .val .nilFunc, [], 0, .other⟩ := by kernel_rfl
theorem ti148 : tiOf Try.prog 148 = some ⟨false, 1, 8, .val .nilFunc, [], 0, .other⟩ := by kernel_rfl
theorem ti149 : tiOf Try.prog 149 = some ⟨false, 1, 24, .val (.slice none 0 0), [], 4, .slice⟩ := by kernel_rfl
theorem ti150 : tiOf Try.prog 150 = some ⟨true, 2, 48, .agg [.val (.slice none 0 0), .val (.slice none 0 0)], [(0, 1, false), (1, 1, false)], 0, .struct⟩ := by kernel_rfl
theorem ti151 : tiOf Try.prog 151 = some ⟨true, 2, 48, .agg [.val (.slice none 0 0), .val (.slice none 0 0)], [(0, 1, false), (1, 1, false)], 0, .struct⟩ := by kernel_rfl
theorem ti152 : tiOf Try.prog 152 = some ⟨true, 3, 72, .agg [.val (.slice none 0 0), .val (.slice none 0 0), .val (.slice none 0 0)], [(0, 2, true), (2, 1, false)], 0, .struct⟩ := by kernel_rfl
theorem ti153 : tiOf Try.prog 153 = some ⟨true, 3, 72, .agg [.val (.slice none 0 0), .val (.slice none 0 0), .val (.slice none 0 0)], [(0, 2, true), (2, 1, false)], 0, .struct⟩ := by kernel_rfl
theorem ti154 : tiOf Try.prog 154 = some ⟨false, 1, 8, .val .nilFunc, [], 0, .other⟩ := by kernel_rfl
theorem ti155 : tiOf Try.prog 155 = some ⟨false, 1, 8, .val .nilFunc, [], 0, .other⟩ := by kernel_rfl
theorem ti156 : tiOf Try.prog 156 = some ⟨false, 1, 8, .val .nilFunc, [], 0, .other⟩ := by kernel_rfl
theorem ti157 : tiOf Try.prog 157 = some ⟨false, 1, 8, .val (.int .u64 0), [], 0, .int .u64⟩ := by kernel_rfl
theorem ti158 : tiOf Try.prog 158 = some ⟨false, 1, 8, .val .nilFunc, [], 0, .other⟩ := by kernel_rfl
theorem ti159 : tiOf Try.prog 159 = some ⟨false, 1, 8, .val .nilFunc, [], 0, .other⟩ := by kernel_rfl
theorem ti160 : tiOf Try.prog 160 = some ⟨false, 1, 8, .val .nilFunc, [], 0, .other⟩ := by kernel_rfl
theorem ti161 : tiOf Try.prog 161 = some ⟨false, 1, 8, .val .nilFunc, [], 0, .other⟩ := by kernel_rfl
theorem ti162 : tiOf Try.prog 162 = some ⟨false, 1, 8, .val .nilFunc, [], 0, .other⟩ := by kernel_rfl
theorem ti163 : tiOf Try.prog 163 = some ⟨false, 1, 8, .val .nilFunc, [], 0, .other⟩ := by kernel_rfl
theorem ti164 : tiOf Try.prog 164 = some ⟨false, 1, 8, .val .nilFunc, [], 0, .other⟩ := by kernel_rfl
theorem ti165 : tiOf Try.prog 165 = some ⟨false, 1, 8, .val .nilFunc, [], 0, .other⟩ := by kernel_rfl
theorem ti166 : tiOf Try.prog 166 = some ⟨false, 1, 8, .val (.int .i64 0), [], 0, .int .i64⟩ := by kernel_rfl
theorem ti167 : tiOf Try.prog 167 = some ⟨false, 1, 0, .undef, [], 0, .other⟩ := by kernel_rfl
theorem ti168 : tiOf Try.prog 168 = some ⟨false, 1, 8, .val .nilFunc, [], 0, .other⟩ := by kernel_rfl
theorem ti169 : tiOf Try.prog 169 = some ⟨false, 1, 8, .val .nilFunc, [], 0, .other⟩ := by kernel_rfl
theorem ti170 : tiOf Try.prog 170 = some ⟨false, 1, 8, .val .nilFunc, [], 0, .other⟩ := by kernel_rfl
theorem ti171 : tiOf Try.prog 171 = some ⟨false, 1, 8, .val .nilFunc, [], 0, .other⟩ := by kernel_rfl
theorem ti172 : tiOf Try.prog 172 = some ⟨false, 1, 0, .undef, [], 0, .other⟩ := by kernel_rfl
theorem ti173 : tiOf Try.prog 173 = some ⟨false, 1, 8, .val .nilFunc, [], 0, .other⟩ := by kernel_rfl
theorem ti174 : tiOf Try.prog 174 = some ⟨false, 1, 8, .val .nilFunc, [], 0, .other⟩ := by kernel_rfl
theorem ti175 : tiOf Try.prog 175 = some ⟨false, 1, 4, .val (.int .u32 0), [], 0, .int .u32⟩ := by kernel_rfl
theorem ti176 : tiOf Try.prog 176 = some ⟨false, 1, 8, .val .nilFunc, [], 0, .other⟩ := by kernel_rfl
theorem ti177 : tiOf Try.prog 177 = some ⟨false, 1, 8, .val (.int .u64 0), [], 0, .int .u64⟩ := by kernel_rfl
theorem ti178 : tiOf Try.prog 178 = some ⟨false, 1, 0, .undef, [], 0, .other⟩ := by kernel_rfl
theorem ti179 : tiOf Try.prog 179 = some ⟨false, 1, 8, .val .nilFunc, [], 0, .other⟩ := by kernel_rfl
theorem ti180 : tiOf Try.prog 180 = some ⟨false, 1, 8, .val .nilFunc, [], 0, .other⟩ := by kernel_rfl
theorem ti181 : tiOf Try.prog 181 = some ⟨false, 1, 8, .val (.int .u64 0), [], 0, .int .u64⟩ := by kernel_rfl
theorem ti182 : tiOf Try.prog 182 = some ⟨false, 1, 8, .val .nilFunc, [], 0, .other⟩ := by kernel_rfl
theorem ti183 : tiOf Try.prog 183 = some ⟨false, 1, 8, .val .nilFunc, [], 0, .other⟩ := by kernel_rfl
theorem ti184 : tiOf Try.prog 184 = some ⟨false, 1, 8, .val .nilFunc, [], 0, .other⟩ := by kernel_rfl
theorem ti185 : tiOf Try.prog 185 = some ⟨false, 1, 8, .val (.pointer none), [], 0, .other⟩ := by kernel_rfl
theorem ti186 : tiOf Try.prog 186 = some ⟨false, 1, 8, .val .nilFunc, [], 0, .other⟩ := by kernel_rfl
theorem ti187 : tiOf Try.prog 187 = some ⟨false, 1, 8, .val (.pointer none), [], 0, .other⟩ := by kernel_rfl
theorem ti188 : tiOf Try.prog 188 = some ⟨false, 1, 0, .undef, [], 0, .other⟩ := by kernel_rfl
theorem ti189 : tiOf Try.prog 189 = some ⟨false, 1, 8, .val .nilFunc, [], 0, .other⟩ := by kernel_rfl
theorem ti190 : tiOf Try.prog 190 = some ⟨false, 1, 8, .val .nilFunc, [], 0, .other⟩ := by kernel_rfl
theorem ti191 : tiOf Try.prog 191 = some ⟨true, 4, 40, .agg [.val (.pointer none), .val (.pointer none), .val (.pointer none), .val (.string ⟨#[]⟩)], [(0, 1, false), (1, 1, false), (2, 1, false), (3, 1, false)], 0, .struct⟩ := by kernel_rfl
theorem ti192 : tiOf Try.prog 192 = some ⟨true, 4, 40, .agg [.val (.pointer none), .val (.pointer none), .val (.pointer none), .val (.string ⟨#[]⟩)], [(0, 1, false), (1, 1, false), (2, 1, false), (3, 1, false)], 0, .struct⟩ := by kernel_rfl
theorem ti193 : tiOf Try.prog 193 = some ⟨true, 0, 0, .agg [], [], 0, .other⟩ := by kernel_rfl
theorem ti194 : tiOf Try.prog 194 = some ⟨true, 0, 0, .agg [], [(0, 0, true)], 0, .struct⟩ := by kernel_rfl
theorem ti195 : tiOf Try.prog 195 = some ⟨true, 0, 0, .agg [], [(0, 0, true)], 0, .struct⟩ := by kernel_rfl
theorem ti196 : tiOf Try.prog 196 = some ⟨false, 1, 8, .val .nilFunc, [], 0, .other⟩ := by kernel_rfl
theorem ti197 : tiOf Try.prog 197 = some ⟨false, 1, 1, .val (.int .u8 0), [], 0, .int .u8⟩ := by kernel_rfl
theorem ti198 : tiOf Try.prog 198 = some ⟨false, 1, 1, .val (.int .u8 0), [], 0, .int .u8⟩ := by kernel_rfl
theorem ti199 : tiOf Try.prog 199 = some ⟨false, 1, 8, .val .nilFunc, [], 0, .other⟩ := by kernel_rfl
theorem ti200 : tiOf Try.prog 200 = some ⟨false, 1, 8, .val (.pointer none), [], 0, .other⟩ := by kernel_rfl
theorem ti201 : tiOf Try.prog 201 = some ⟨false, 1, 4, .val (.int .i32 0), [], 0, .int .i32⟩ := by kernel_rfl
theorem ti202 : tiOf Try.prog 202 = some ⟨false, 1, 4, .val (.int .i32 0), [], 0, .int .i32⟩ := by kernel_rfl
theorem ti203 : tiOf Try.prog 203 = some ⟨true, 11, 48, .agg [.val (.int .u64 0), .val (.int .u64 0), .val (.int .u32 0), .val (.int .u8 0), .val (.int .u8 0), .val (.int .u8 0), .val (.int .u8 0), .val .nilFunc, .val (.pointer none), .val (.int .i32 0), .val (.int .i32 0)], [(0, 1, false), (1, 1, false), (2, 1, false), (3, 1, false), (4, 1, false), (5, 1, false), (6, 1, false), (7, 1, false), (8, 1, false), (9, 1, false), (10, 1, false)], 0, .struct⟩ := by kernel_rfl
theorem ti204 : tiOf Try.prog 204 = some ⟨true, 11, 48, .agg [.val (.int .u64 0), .val (.int .u64 0), .val (.int .u32 0), .val (.int .u8 0), .val (.int .u8 0), .val (.int .u8 0), .val (.int .u8 0), .val .nilFunc, .val (.pointer none), .val (.int .i32 0), .val (.int .i32 0)], [(0, 1, false), (1, 1, false), (2, 1, false), (3, 1, false), (4, 1, false), (5, 1, false), (6, 1, false), (7, 1, false), (8, 1, false), (9, 1, false), (10, 1, false)], 0, .struct⟩ := by kernel_rfl
theorem ti205 : tiOf Try.prog 205 = some ⟨false, 1, 8, .val (.pointer none), [], 0, .other⟩ := by kernel_rfl
attribute [go_sem] ti0 ti1 ti2 ti3 ti4 ti5 ti6 ti7 ti8 ti9 ti10 ti11 ti12 ti13 ti14 ti15 ti16 ti17 ti18 ti19
attribute [go_sem] ti20 ti21 ti22 ti23 ti24 ti25 ti26 ti27 ti28 ti29 ti30 ti31 ti32 ti33 ti34 ti35 ti36 ti37 ti38 ti39
attribute [go_sem] ti40 ti41 ti42 ti43 ti44 ti45 ti46 ti47 ti48 ti49 ti50 ti51 ti52 ti53 ti54 ti55 ti56 ti57 ti58 ti59
attribute [go_sem] ti60 ti61 ti62 ti63 ti64 ti65 ti66 ti67 ti68 ti69 ti70 ti71 ti72 ti73 ti74 ti75 ti76 ti77 ti78 ti79
attribute [go_sem] ti80 ti81 ti82 ti83 ti84 ti85 ti86 ti87 ti88 ti89 ti90 ti91 ti92 ti93 ti94 ti95 ti96 ti97 ti98 ti99
attribute [go_sem] ti100 ti101 ti102 ti103 ti104 ti105 ti106 ti107 ti108 ti109 ti110 ti111 ti112 ti113 ti114 ti115 ti116 ti117 ti118 ti119
attribute [go_sem] ti120 ti121 ti122 ti123 ti124 ti125 ti126 ti127 ti128 ti129 ti130 ti131 ti132 ti133 ti134 ti135 ti136 ti137 ti138 ti139
attribute [go_sem] ti140 ti141 ti142 ti143 ti144 ti145 ti146 ti147 ti148 ti149 ti150 ti151 ti152 ti153 ti154 ti155 ti156 ti157 ti158 ti159
attribute [go_sem] ti160 ti161 ti162 ti163 ti164 ti165 ti166 ti167 ti168 ti169 ti170 ti171 ti172 ti173 ti174 ti175 ti176 ti177 ti178 ti179
attribute [go_sem] ti180 ti181 ti182 ti183 ti184 ti185 ti186 ti187 ti188 ti189 ti190 ti191 ti192 ti193 ti194 ti195 ti196 ti197 ti198 ti199
attribute [go_sem] ti200 ti201 ti202 ti203 ti204 ti205
end Go.Vc


/-
  Contracts of small functions on numbers and lists, and of the laws' helpers for lists of numbers.
-/
set_option linter.unusedVariables false
set_option linter.unusedSimpArgs false
set_option linter.unnecessarySimpa false
namespace Go.Vc
open Go.Proofs
set_option maxRecDepth 100000
def isIn (a b c : Int) : Bool := decide (a ≥ b) && decide (a ≤ c)
theorem range_all_succ (p : Nat → Bool) (i : Nat) : (List.range (i + 1)).all p = ((List.range i).all p && p i) := by
  rw [List.range_succ, List.all_append]; simp
theorem range_all_no {p : Nat → Bool} {i n : Nat} (h : i < n) (hp : p i = false) : (List.range n).all p = false := by
  rw [List.all_eq_false]; exact ⟨i, List.mem_range.2 h, by simp [hp]⟩
/-- the numbers below i with a property, in order -/
def flt (p : Nat → Bool) (i : Nat) : List Int := List.map (fun j : Nat => (j : Int)) ((List.range i).filter p)
theorem flt_zero (p : Nat → Bool) : flt p 0 = [] := rfl
theorem flt_succ (p : Nat → Bool) (i : Nat) : flt p (i + 1) = if p i then flt p i ++ [(i : Int)] else flt p i := by
  simp only [flt, List.range_succ, List.filter_append, List.map_append]
  rw [List.filter_cons]
  split <;> simp
theorem flt_len (p : Nat → Bool) (i : Nat) : (flt p i).length ≤ i := by
  rw [flt, List.length_map]
  exact Nat.le_trans (List.length_filter_le _ _) (by simp)
attribute [irreducible] flt
theorem pred_toNat {i : Nat} (h : 0 < i) : ((i : Int) - 1).toNat = i - 1 := by omega
theorem c_l01In (a b c : Int) : Fn Try.prog 93 [eI a, eI b, eI c] true (· = eB (isIn a b c)) := by
  refine Fn.of_vcN 15 [.tmp 6] Try.func93 rfl rfl rfl rfl rfl (of_decide_eq_true rfl) ?_
  simp -dsimp -implicitDefEqProofs only [go_sem, ↓reduceIte, Nat.reduceEqDiff, Nat.reduceLT, Nat.reduceAdd, Nat.reduceMul, Nat.reduceLeDiff, Nat.le_refl, Int.natCast_zero, Int.toNat_natCast, Int.reduceToNat]
  repeat' (refine Br.intro (fun _ => ?_) (fun _ => ?_) <;> try simp -dsimp -implicitDefEqProofs only [go_sem, ↓reduceIte, Nat.reduceEqDiff, Nat.reduceLT, Nat.reduceAdd, Nat.reduceMul, Nat.reduceLeDiff, Nat.le_refl, Int.natCast_zero, Int.toNat_natCast, Int.reduceToNat, *])
  all_goals first
    | (simp_all [isIn]; done)
    | (simp_all [isIn]; omega)
theorem c_within (a b c : Int) : Fn Try.prog 65 [eI a, eI b, eI c] true (· = eB (isIn a b c)) := by
  refine Fn.of_vcN 15 [.tmp 6] Try.func65 rfl rfl rfl rfl rfl (of_decide_eq_true rfl) ?_
  simp -dsimp -implicitDefEqProofs only [go_sem, ↓reduceIte, Nat.reduceEqDiff, Nat.reduceLT, Nat.reduceAdd, Nat.reduceMul, Nat.reduceLeDiff, Nat.le_refl, Int.natCast_zero, Int.toNat_natCast, Int.reduceToNat]
  repeat' (refine Br.intro (fun _ => ?_) (fun _ => ?_) <;> try simp -dsimp -implicitDefEqProofs only [go_sem, ↓reduceIte, Nat.reduceEqDiff, Nat.reduceLT, Nat.reduceAdd, Nat.reduceMul, Nat.reduceLeDiff, Nat.le_refl, Int.natCast_zero, Int.toNat_natCast, Int.reduceToNat, *])
  all_goals first
    | (simp_all [isIn]; done)
    | (simp_all [isIn]; omega)
theorem mixed : Try.prog.follows .mixedOrders = true := by kernel_rfl
theorem c_l01Own (xs : List Int) (h : xs.length ≤ 1048576) : Fn Try.prog 130 [eIs xs] true (· = eIs xs) := by
  refine Fn.of_vcN 6 [.tmp 2] Try.func130 rfl rfl rfl rfl rfl (of_decide_eq_true rfl) ?_
  simp -dsimp -implicitDefEqProofs only [go_sem, ↓reduceIte, Nat.reduceEqDiff, Nat.reduceLT, Nat.reduceAdd, Nat.reduceMul, Nat.reduceLeDiff, Nat.le_refl, Int.natCast_zero, Int.toNat_natCast, Int.reduceToNat]
  repeat' (with_reducible refine And.intro ?_ ?_)
  all_goals first | omega | (refine ⟨?_, ?_⟩ <;> omega) | (simp; done) | (simp; omega) | trace_state
theorem c_CloneI (xs : List Int) (h : xs.length ≤ 1048576) : Fn Try.prog 119 [eIs xs] true (· = eIs xs) := by
  refine Fn.of_vcN 8 [.tmp 2] Try.func119 rfl rfl rfl rfl rfl (of_decide_eq_true rfl) ?_
  simp -dsimp -implicitDefEqProofs only [go_sem, ↓reduceIte, Nat.reduceEqDiff, Nat.reduceLT, Nat.reduceAdd, Nat.reduceMul, Nat.reduceLeDiff, Nat.le_refl, Int.natCast_zero, Int.toNat_natCast, Int.reduceToNat]
  intro c hc
  repeat' first
    | (refine Br.intro (fun _ => ?_) (fun _ => ?_) <;> try simp -dsimp -implicitDefEqProofs only [go_sem, ↓reduceIte, Nat.reduceEqDiff, Nat.reduceLT, Nat.reduceAdd, Nat.reduceMul, Nat.reduceLeDiff, Nat.le_refl, Int.natCast_zero, Int.toNat_natCast, Int.reduceToNat, *])
    | (with_reducible refine And.intro ?_ ?_)
  all_goals first | (simp_all; done) | omega | (refine ⟨?_, ?_⟩ <;> omega) | (simp; done) | (simp; omega) | trace_state
end Go.Vc


/-
  Contracts of the laws' helpers for lists of lists of numbers, and for locks.
-/
set_option linter.unusedVariables false
set_option linter.unusedSimpArgs false
set_option linter.unnecessarySimpa false
namespace Go.Vc
open Go.Proofs
set_option maxRecDepth 100000
abbrev eIss (xs : List (List Int)) : AV := .arr ⟨1, false⟩ (xs.map eIs)
abbrev eLk (l : List (List Int)) : AV := .agg [eIss l]
structure MkM where
  chambers : Int
  depths : Int
  step : Int
  same : Int
  least : Int
  deriving DecidableEq
abbrev eMk (m : MkM) : AV := .agg [eI m.chambers, eI m.depths, eI m.step, eI m.same, eI m.least]
end Go.Vc


/-
  Contracts of the functions on makers; rising lists; members of lists.
-/
set_option linter.unusedVariables false
set_option linter.unusedSimpArgs false
set_option linter.unnecessarySimpa false
namespace Go.Vc
open Go.Proofs
set_option maxRecDepth 100000
def isMk (m : MkM) : Bool := isIn m.chambers 2 6 && isIn m.depths 2 8 && isIn m.step 1 (m.depths - 1) && isIn m.same 1 m.chambers && isIn m.least 1 (if m.depths < m.chambers then m.depths else m.chambers)
theorem isMk_num {m : MkM} (h : isMk m = true) : (2 ≤ m.chambers ∧ m.chambers ≤ 6) ∧ 2 ≤ m.depths ∧ m.depths ≤ 8 := by
  simp [isMk, isIn] at h; omega
theorem c_sIsMaker (m : MkM) : Fn Try.prog 124 [eMk m] true (· = eB (isMk m)) := by
  refine Fn.of_vcN 36 [.tmp 2] Try.func124 rfl rfl rfl rfl rfl (of_decide_eq_true rfl) ?_
  simp -dsimp -implicitDefEqProofs only [go_sem, ↓reduceIte, Nat.reduceEqDiff, Nat.reduceLT, Nat.reduceAdd, Nat.reduceMul, Nat.reduceLeDiff, Nat.le_refl, Int.natCast_zero, Int.toNat_natCast, Int.reduceToNat]
  repeat' first
    | (refine Br.intro (fun _ => ?_) (fun _ => ?_) <;> try simp -dsimp -implicitDefEqProofs only [go_sem, ↓reduceIte, Nat.reduceEqDiff, Nat.reduceLT, Nat.reduceAdd, Nat.reduceMul, Nat.reduceLeDiff, Nat.le_refl, Int.natCast_zero, Int.toNat_natCast, Int.reduceToNat, *])
    | (with_reducible refine And.intro ?_ ?_)
    | (refine sCallT_one (c_l01In _ _ _) ?_; try simp -dsimp -implicitDefEqProofs only [go_sem, ↓reduceIte, Nat.reduceEqDiff, Nat.reduceLT, Nat.reduceAdd, Nat.reduceMul, Nat.reduceLeDiff, Nat.le_refl, Int.natCast_zero, Int.toNat_natCast, Int.reduceToNat, *])
  all_goals first
    | (simp_all [isMk, isIn, I64]; done)
    | (simp_all [isMk, isIn, I64]; omega)
    | trace_state
theorem c_iIsMaker (m : MkM) : Fn Try.prog 126 [eMk m] true (· = eB (isMk m)) := by
  refine Fn.of_vcN 36 [.tmp 2] Try.func126 rfl rfl rfl rfl rfl (of_decide_eq_true rfl) ?_
  simp -dsimp -implicitDefEqProofs only [go_sem, ↓reduceIte, Nat.reduceEqDiff, Nat.reduceLT, Nat.reduceAdd, Nat.reduceMul, Nat.reduceLeDiff, Nat.le_refl, Int.natCast_zero, Int.toNat_natCast, Int.reduceToNat]
  repeat' first
    | (refine Br.intro (fun _ => ?_) (fun _ => ?_) <;> try simp -dsimp -implicitDefEqProofs only [go_sem, ↓reduceIte, Nat.reduceEqDiff, Nat.reduceLT, Nat.reduceAdd, Nat.reduceMul, Nat.reduceLeDiff, Nat.le_refl, Int.natCast_zero, Int.toNat_natCast, Int.reduceToNat, *])
    | (with_reducible refine And.intro ?_ ?_)
    | (refine sCallT_one (c_within _ _ _) ?_; try simp -dsimp -implicitDefEqProofs only [go_sem, ↓reduceIte, Nat.reduceEqDiff, Nat.reduceLT, Nat.reduceAdd, Nat.reduceMul, Nat.reduceLeDiff, Nat.le_refl, Int.natCast_zero, Int.toNat_natCast, Int.reduceToNat, *])
  all_goals first
    | (simp_all [isMk, isIn, I64]; done)
    | (simp_all [isMk, isIn, I64]; omega)
    | trace_state
def riseAt (xs : List Int) (n : Int) (i : Nat) : Bool := decide (0 ≤ xs.getD i 0) && decide (xs.getD i 0 < n) && (i == 0 || decide (xs.getD (i - 1) 0 < xs.getD i 0))
def rises (xs : List Int) (n : Int) : Bool := (List.range xs.length).all (riseAt xs n)
theorem c_l01Rises (xs : List Int) (n : Int) (h : xs.length ≤ 9223372036854775807) : Fn Try.prog 77 [eIs xs, eI n] true (· = eB (rises xs n)) := by
  refine Fn.of_vcN 41 [.tmp 4] Try.func77 rfl rfl rfl rfl rfl (of_decide_eq_true rfl) ?_
  simp -dsimp -implicitDefEqProofs only [go_sem, ↓reduceIte, Nat.reduceEqDiff, Nat.reduceLT, Nat.reduceAdd, Nat.reduceMul, Nat.reduceLeDiff, Nat.le_refl, Int.natCast_zero, Int.toNat_natCast, Int.reduceToNat]
  refine Later.up [0, 1] [8] [] xs.length (fun i => (List.range i).all (riseAt xs n)) (fun i => [(5, eI i)]) (fun _ => []) (by simp) ?_ rfl (fun i hi hI => ?_) (fun hI => ?_)
  · simp -dsimp -implicitDefEqProofs only [go_sem, ↓reduceIte, Nat.reduceEqDiff, Nat.reduceLT, Nat.reduceAdd, Nat.reduceMul, Nat.reduceLeDiff, Nat.le_refl, Int.natCast_zero, Int.toNat_natCast, Int.reduceToNat]
  · have no : riseAt xs n i = false → rises xs n = false := range_all_no hi
    have yes : riseAt xs n i = true → (List.range (i + 1)).all (riseAt xs n) = true := fun h => by rw [range_all_succ, hI, h]; rfl
    have hi' : i - 1 < xs.length := by omega
    have gi := get_some hi
    have li := lt_len hi
    by_cases hi0 : 0 < i
    rotate_left
    · have g3 : decide ((i : Int) > 0) = false := by simp; omega
      simp -dsimp -implicitDefEqProofs only [pick_nil, pick_cons, look_nil, look_cons, dropB_nil, dropB_cons, inD_nil, inD_cons, inE_nil, inE_cons, or_t_l, or_f_l, Nat.reduceBEq, Nat.reduceDiv, Nat.reduceAdd, beq_self_eq_true, Bool.false_eq_true, Bool.or_false, ↓reduceIte, Nat.reduceEqDiff, List.cons_append, List.nil_append]
      simp -dsimp -implicitDefEqProofs only [go_sem, ↓reduceIte, Nat.reduceEqDiff, Nat.reduceLT, Nat.reduceAdd, Nat.reduceMul, Nat.reduceLeDiff, Nat.le_refl, Int.natCast_zero, Int.toNat_natCast, Int.reduceToNat, lt_len hi, get_some hi, g3]
      repeat' first
        | (refine Br.intro (fun _ => ?_) (fun _ => ?_) <;> try simp -dsimp -implicitDefEqProofs only [go_sem, ↓reduceIte, Nat.reduceEqDiff, Nat.reduceLT, Nat.reduceAdd, Nat.reduceMul, Nat.reduceLeDiff, Nat.le_refl, Int.natCast_zero, Int.toNat_natCast, Int.reduceToNat, *])
        | (with_reducible refine And.intro ?_ ?_)
        | (refine Later.draw mixed rfl ?_; simp -dsimp -implicitDefEqProofs only [go_sem, ↓reduceIte, Nat.reduceEqDiff, Nat.reduceLT, Nat.reduceAdd, Nat.reduceMul, Nat.reduceLeDiff, Nat.le_refl, Int.natCast_zero, Int.toNat_natCast, Int.reduceToNat, lt_len hi, get_some hi, g3])
      all_goals first
        | omega
        | (refine ⟨?_, ?_⟩ <;> omega)
        | (simp; done)
        | rfl
        | (rw [no]; clear no yes; simp_all [riseAt]; done) | (rw [no]; clear no yes; simp_all [riseAt]; omega) | (refine yes ?_; clear no yes; simp_all [riseAt]; done) | (refine yes ?_; clear no yes; simp_all [riseAt]; omega)
        | (rw [← List.range_succ]; refine yes ?_; clear no yes; simp_all [riseAt]; done)
        | (rw [← List.range_succ]; refine yes ?_; clear no yes; simp_all [riseAt]; omega)
        | (have e0 : i = 0 := by omega
           clear hi0; subst e0; first | (rw [no]; clear no yes; simp_all [riseAt]; done) | (rw [no]; clear no yes; simp_all [riseAt]; omega) | (refine yes ?_; clear no yes; simp_all [riseAt]; done) | (refine yes ?_; clear no yes; simp_all [riseAt]; omega))
        | trace_state
    · have g2 : xs[((i : Int) - 1).toNat]? = some xs[i - 1] := by rw [pred_toNat hi0]; exact get_some hi'
      have g3 : decide ((i : Int) > 0) = true := by simp; omega
      simp -dsimp -implicitDefEqProofs only [pick_nil, pick_cons, look_nil, look_cons, dropB_nil, dropB_cons, inD_nil, inD_cons, inE_nil, inE_cons, or_t_l, or_f_l, Nat.reduceBEq, Nat.reduceDiv, Nat.reduceAdd, beq_self_eq_true, Bool.false_eq_true, Bool.or_false, ↓reduceIte, Nat.reduceEqDiff, List.cons_append, List.nil_append]
      simp -dsimp -implicitDefEqProofs only [go_sem, ↓reduceIte, Nat.reduceEqDiff, Nat.reduceLT, Nat.reduceAdd, Nat.reduceMul, Nat.reduceLeDiff, Nat.le_refl, Int.natCast_zero, Int.toNat_natCast, Int.reduceToNat, lt_len hi, get_some hi, g2, g3]
      repeat' first
        | (refine Br.intro (fun _ => ?_) (fun _ => ?_) <;> try simp -dsimp -implicitDefEqProofs only [go_sem, ↓reduceIte, Nat.reduceEqDiff, Nat.reduceLT, Nat.reduceAdd, Nat.reduceMul, Nat.reduceLeDiff, Nat.le_refl, Int.natCast_zero, Int.toNat_natCast, Int.reduceToNat, *])
        | (with_reducible refine And.intro ?_ ?_)
        | (refine Later.draw mixed rfl ?_; simp -dsimp -implicitDefEqProofs only [go_sem, ↓reduceIte, Nat.reduceEqDiff, Nat.reduceLT, Nat.reduceAdd, Nat.reduceMul, Nat.reduceLeDiff, Nat.le_refl, Int.natCast_zero, Int.toNat_natCast, Int.reduceToNat, lt_len hi, get_some hi, g2, g3])
      all_goals first
        | omega
        | (refine ⟨?_, ?_⟩ <;> omega)
        | (simp; done)
        | rfl
        | (rw [no]; clear no yes; simp_all [riseAt]; done) | (rw [no]; clear no yes; simp_all [riseAt]; omega) | (refine yes ?_; clear no yes; simp_all [riseAt]; done) | (refine yes ?_; clear no yes; simp_all [riseAt]; omega)
        | (rw [← List.range_succ]; refine yes ?_; clear no yes; simp_all [riseAt]; done)
        | (rw [← List.range_succ]; refine yes ?_; clear no yes; simp_all [riseAt]; omega)
        | (have e0 : i = 0 := by omega
           clear hi0; subst e0; first | (rw [no]; clear no yes; simp_all [riseAt]; done) | (rw [no]; clear no yes; simp_all [riseAt]; omega) | (refine yes ?_; clear no yes; simp_all [riseAt]; done) | (refine yes ?_; clear no yes; simp_all [riseAt]; omega))
        | trace_state
  · simp -dsimp -implicitDefEqProofs only [pick_nil, pick_cons, look_nil, look_cons, dropB_nil, dropB_cons, inD_nil, inD_cons, inE_nil, inE_cons, or_t_l, or_f_l, Nat.reduceBEq, Nat.reduceDiv, Nat.reduceAdd, beq_self_eq_true, Bool.false_eq_true, Bool.or_false, ↓reduceIte, Nat.reduceEqDiff, List.cons_append, List.nil_append]
    simp -dsimp -implicitDefEqProofs only [go_sem, ↓reduceIte, Nat.reduceEqDiff, Nat.reduceLT, Nat.reduceAdd, Nat.reduceMul, Nat.reduceLeDiff, Nat.le_refl, Int.natCast_zero, Int.toNat_natCast, Int.reduceToNat, nlt_len]
    rw [rises, hI]
theorem c_IsRising (xs : List Int) (n : Int) (h : xs.length ≤ 9223372036854775807) : Fn Try.prog 74 [eIs xs, eI n] true (· = eB (rises xs n)) := by
  refine Fn.of_vcN 35 [.tmp 4] Try.func74 rfl rfl rfl rfl rfl (of_decide_eq_true rfl) ?_
  simp -dsimp -implicitDefEqProofs only [go_sem, ↓reduceIte, Nat.reduceEqDiff, Nat.reduceLT, Nat.reduceAdd, Nat.reduceMul, Nat.reduceLeDiff, Nat.le_refl, Int.natCast_zero, Int.toNat_natCast, Int.reduceToNat]
  refine Later.up [0, 1, 7, 8] [] [] xs.length (fun i => (List.range i).all (riseAt xs n)) (fun i => [(9, eI i)]) (fun _ => []) (by simp) ?_ rfl (fun i hi hI => ?_) (fun hI => ?_)
  · simp -dsimp -implicitDefEqProofs only [go_sem, ↓reduceIte, Nat.reduceEqDiff, Nat.reduceLT, Nat.reduceAdd, Nat.reduceMul, Nat.reduceLeDiff, Nat.le_refl, Int.natCast_zero, Int.toNat_natCast, Int.reduceToNat]
  · have no : riseAt xs n i = false → rises xs n = false := range_all_no hi
    have yes : riseAt xs n i = true → (List.range (i + 1)).all (riseAt xs n) = true := fun h => by rw [range_all_succ, hI, h]; rfl
    have hi' : i - 1 < xs.length := by omega
    have gi := get_some hi
    have li := lt_len hi
    by_cases hi0 : 0 < i
    rotate_left
    · have g3 : decide ((i : Int) > 0) = false := by simp; omega
      simp -dsimp -implicitDefEqProofs only [pick_nil, pick_cons, look_nil, look_cons, dropB_nil, dropB_cons, inD_nil, inD_cons, inE_nil, inE_cons, or_t_l, or_f_l, Nat.reduceBEq, Nat.reduceDiv, Nat.reduceAdd, beq_self_eq_true, Bool.false_eq_true, Bool.or_false, ↓reduceIte, Nat.reduceEqDiff, List.cons_append, List.nil_append]
      simp -dsimp -implicitDefEqProofs only [go_sem, ↓reduceIte, Nat.reduceEqDiff, Nat.reduceLT, Nat.reduceAdd, Nat.reduceMul, Nat.reduceLeDiff, Nat.le_refl, Int.natCast_zero, Int.toNat_natCast, Int.reduceToNat, lt_len hi, get_some hi, g3]
      repeat' first
        | (refine Br.intro (fun _ => ?_) (fun _ => ?_) <;> try simp -dsimp -implicitDefEqProofs only [go_sem, ↓reduceIte, Nat.reduceEqDiff, Nat.reduceLT, Nat.reduceAdd, Nat.reduceMul, Nat.reduceLeDiff, Nat.le_refl, Int.natCast_zero, Int.toNat_natCast, Int.reduceToNat, *])
        | (with_reducible refine And.intro ?_ ?_)
        | (refine Later.draw mixed rfl ?_; simp -dsimp -implicitDefEqProofs only [go_sem, ↓reduceIte, Nat.reduceEqDiff, Nat.reduceLT, Nat.reduceAdd, Nat.reduceMul, Nat.reduceLeDiff, Nat.le_refl, Int.natCast_zero, Int.toNat_natCast, Int.reduceToNat, lt_len hi, get_some hi, g3])
      all_goals first
        | omega
        | (refine ⟨?_, ?_⟩ <;> omega)
        | (simp; done)
        | rfl
        | (rw [no]; clear no yes; simp_all [riseAt]; done) | (rw [no]; clear no yes; simp_all [riseAt]; omega) | (refine yes ?_; clear no yes; simp_all [riseAt]; done) | (refine yes ?_; clear no yes; simp_all [riseAt]; omega)
        | (rw [← List.range_succ]; refine yes ?_; clear no yes; simp_all [riseAt]; done)
        | (rw [← List.range_succ]; refine yes ?_; clear no yes; simp_all [riseAt]; omega)
        | (have e0 : i = 0 := by omega
           clear hi0; subst e0; first | (rw [no]; clear no yes; simp_all [riseAt]; done) | (rw [no]; clear no yes; simp_all [riseAt]; omega) | (refine yes ?_; clear no yes; simp_all [riseAt]; done) | (refine yes ?_; clear no yes; simp_all [riseAt]; omega))
        | trace_state
    · have g2 : xs[((i : Int) - 1).toNat]? = some xs[i - 1] := by rw [pred_toNat hi0]; exact get_some hi'
      have g3 : decide ((i : Int) > 0) = true := by simp; omega
      simp -dsimp -implicitDefEqProofs only [pick_nil, pick_cons, look_nil, look_cons, dropB_nil, dropB_cons, inD_nil, inD_cons, inE_nil, inE_cons, or_t_l, or_f_l, Nat.reduceBEq, Nat.reduceDiv, Nat.reduceAdd, beq_self_eq_true, Bool.false_eq_true, Bool.or_false, ↓reduceIte, Nat.reduceEqDiff, List.cons_append, List.nil_append]
      simp -dsimp -implicitDefEqProofs only [go_sem, ↓reduceIte, Nat.reduceEqDiff, Nat.reduceLT, Nat.reduceAdd, Nat.reduceMul, Nat.reduceLeDiff, Nat.le_refl, Int.natCast_zero, Int.toNat_natCast, Int.reduceToNat, lt_len hi, get_some hi, g2, g3]
      repeat' first
        | (refine Br.intro (fun _ => ?_) (fun _ => ?_) <;> try simp -dsimp -implicitDefEqProofs only [go_sem, ↓reduceIte, Nat.reduceEqDiff, Nat.reduceLT, Nat.reduceAdd, Nat.reduceMul, Nat.reduceLeDiff, Nat.le_refl, Int.natCast_zero, Int.toNat_natCast, Int.reduceToNat, *])
        | (with_reducible refine And.intro ?_ ?_)
        | (refine Later.draw mixed rfl ?_; simp -dsimp -implicitDefEqProofs only [go_sem, ↓reduceIte, Nat.reduceEqDiff, Nat.reduceLT, Nat.reduceAdd, Nat.reduceMul, Nat.reduceLeDiff, Nat.le_refl, Int.natCast_zero, Int.toNat_natCast, Int.reduceToNat, lt_len hi, get_some hi, g2, g3])
      all_goals first
        | omega
        | (refine ⟨?_, ?_⟩ <;> omega)
        | (simp; done)
        | rfl
        | (rw [no]; clear no yes; simp_all [riseAt]; done) | (rw [no]; clear no yes; simp_all [riseAt]; omega) | (refine yes ?_; clear no yes; simp_all [riseAt]; done) | (refine yes ?_; clear no yes; simp_all [riseAt]; omega)
        | (rw [← List.range_succ]; refine yes ?_; clear no yes; simp_all [riseAt]; done)
        | (rw [← List.range_succ]; refine yes ?_; clear no yes; simp_all [riseAt]; omega)
        | (have e0 : i = 0 := by omega
           clear hi0; subst e0; first | (rw [no]; clear no yes; simp_all [riseAt]; done) | (rw [no]; clear no yes; simp_all [riseAt]; omega) | (refine yes ?_; clear no yes; simp_all [riseAt]; done) | (refine yes ?_; clear no yes; simp_all [riseAt]; omega))
        | trace_state
  · simp -dsimp -implicitDefEqProofs only [pick_nil, pick_cons, look_nil, look_cons, dropB_nil, dropB_cons, inD_nil, inD_cons, inE_nil, inE_cons, or_t_l, or_f_l, Nat.reduceBEq, Nat.reduceDiv, Nat.reduceAdd, beq_self_eq_true, Bool.false_eq_true, Bool.or_false, ↓reduceIte, Nat.reduceEqDiff, List.cons_append, List.nil_append]
    simp -dsimp -implicitDefEqProofs only [go_sem, ↓reduceIte, Nat.reduceEqDiff, Nat.reduceLT, Nat.reduceAdd, Nat.reduceMul, Nat.reduceLeDiff, Nat.le_refl, Int.natCast_zero, Int.toNat_natCast, Int.reduceToNat, nlt_len]
    rw [rises, hI]
def has (xs : List Int) (x : Int) : Bool := !(xs.all fun y => !(y == x))
theorem c_l01Has (xs : List Int) (x : Int) (h : xs.length ≤ 1048576) : Fn Try.prog 129 [eIs xs, eI x] true (· = eB (has xs x)) := by
  refine Fn.of_vcN 18 [.tmp 4] Try.func129 rfl rfl rfl rfl rfl (of_decide_eq_true rfl) ?_
  simp -dsimp -implicitDefEqProofs only [go_sem, ↓reduceIte, Nat.reduceEqDiff, Nat.reduceLT, Nat.reduceAdd, Nat.reduceMul, Nat.reduceLeDiff, Nat.le_refl, Int.natCast_zero, Int.toNat_natCast, Int.reduceToNat]
  refine Later.up [0, 1] [8] [] xs.length (fun i => (xs.take i).all (fun y => !(y == x))) (fun i => [(5, eI i)]) (fun _ => []) (by simp) ?_ rfl (fun i hi hI => ?_) (fun hI => ?_)
  · simp -dsimp -implicitDefEqProofs only [go_sem, ↓reduceIte, Nat.reduceEqDiff, Nat.reduceLT, Nat.reduceAdd, Nat.reduceMul, Nat.reduceLeDiff, Nat.le_refl, Int.natCast_zero, Int.toNat_natCast, Int.reduceToNat]
  · simp -dsimp -implicitDefEqProofs only [pick_nil, pick_cons, look_nil, look_cons, dropB_nil, dropB_cons, inD_nil, inD_cons, inE_nil, inE_cons, or_t_l, or_f_l, Nat.reduceBEq, Nat.reduceDiv, Nat.reduceAdd, beq_self_eq_true, Bool.false_eq_true, Bool.or_false, ↓reduceIte, Nat.reduceEqDiff, List.cons_append, List.nil_append]
    have gi := get_some hi
    have li := lt_len hi
    have no : (!(xs[i] == x)) = false → (xs.all fun y => !(y == x)) = false := fun h => by simp [has, all_no (p := fun y => !(y == x)) hi h]
    have yes : (!(xs[i] == x)) = true → ((xs.take (i + 1)).all (fun y => !(y == x))) = true := fun h => by rw [all_take _ _ _ hi, hI]; simpa using h
    simp -dsimp -implicitDefEqProofs only [go_sem, ↓reduceIte, Nat.reduceEqDiff, Nat.reduceLT, Nat.reduceAdd, Nat.reduceMul, Nat.reduceLeDiff, Nat.le_refl, Int.natCast_zero, Int.toNat_natCast, Int.reduceToNat, li, gi]
    repeat' first
      | (refine Br.intro (fun _ => ?_) (fun _ => ?_) <;> try simp -dsimp -implicitDefEqProofs only [go_sem, ↓reduceIte, Nat.reduceEqDiff, Nat.reduceLT, Nat.reduceAdd, Nat.reduceMul, Nat.reduceLeDiff, Nat.le_refl, Int.natCast_zero, Int.toNat_natCast, Int.reduceToNat, *])
      | (with_reducible refine And.intro ?_ ?_)
      | (refine Later.draw mixed rfl ?_; try simp -dsimp -implicitDefEqProofs only [go_sem, ↓reduceIte, Nat.reduceEqDiff, Nat.reduceLT, Nat.reduceAdd, Nat.reduceMul, Nat.reduceLeDiff, Nat.le_refl, Int.natCast_zero, Int.toNat_natCast, Int.reduceToNat, *])
    all_goals first
      | omega
      | (refine ⟨?_, ?_⟩ <;> omega)
      | (simp; done)
      | rfl
      | (rw [has, no (by rw [‹(xs[i] == x) = true›]; rfl)]; rfl) | (refine yes ?_; clear no yes; simp_all; done)
      | trace_state
  · simp -dsimp -implicitDefEqProofs only [pick_nil, pick_cons, look_nil, look_cons, dropB_nil, dropB_cons, inD_nil, inD_cons, inE_nil, inE_cons, or_t_l, or_f_l, Nat.reduceBEq, Nat.reduceDiv, Nat.reduceAdd, beq_self_eq_true, Bool.false_eq_true, Bool.or_false, ↓reduceIte, Nat.reduceEqDiff, List.cons_append, List.nil_append]
    simp -dsimp -implicitDefEqProofs only [go_sem, ↓reduceIte, Nat.reduceEqDiff, Nat.reduceLT, Nat.reduceAdd, Nat.reduceMul, Nat.reduceLeDiff, Nat.le_refl, Int.natCast_zero, Int.toNat_natCast, Int.reduceToNat, nlt_len]
    rw [List.take_length] at hI
    first
      | (simp_all [has]; done)
      | trace_state
theorem c_Index (xs : List Int) (x : Int) (h : xs.length ≤ 1048576) : Fn Try.prog 148 [eIs xs, eI x] true (fun r => ∃ n : Int, r = eI n ∧ decide (n ≥ 0) = has xs x) := by
  refine Fn.of_vc 19 [.tmp 4] Try.func148 rfl rfl rfl rfl rfl (of_decide_eq_true rfl) ?_
  simp -dsimp -implicitDefEqProofs only [go_sem, ↓reduceIte, Nat.reduceEqDiff, Nat.reduceLT, Nat.reduceAdd, Nat.reduceMul, Nat.reduceLeDiff, Nat.le_refl, Int.natCast_zero, Int.toNat_natCast, Int.reduceToNat]
  refine Later.up [0, 1, 7] [] [] xs.length (fun i => (xs.take i).all (fun y => !(y == x))) (fun i => [(8, eI i)]) (fun _ => []) (by simp) ?_ rfl (fun i hi hI => ?_) (fun hI => ?_)
  · simp -dsimp -implicitDefEqProofs only [go_sem, ↓reduceIte, Nat.reduceEqDiff, Nat.reduceLT, Nat.reduceAdd, Nat.reduceMul, Nat.reduceLeDiff, Nat.le_refl, Int.natCast_zero, Int.toNat_natCast, Int.reduceToNat]
  · simp -dsimp -implicitDefEqProofs only [pick_nil, pick_cons, look_nil, look_cons, dropB_nil, dropB_cons, inD_nil, inD_cons, inE_nil, inE_cons, or_t_l, or_f_l, Nat.reduceBEq, Nat.reduceDiv, Nat.reduceAdd, beq_self_eq_true, Bool.false_eq_true, Bool.or_false, ↓reduceIte, Nat.reduceEqDiff, List.cons_append, List.nil_append]
    have no : (!(xs[i] == x)) = false → has xs x = true := fun h => by simp [has, all_no (p := fun y => !(y == x)) hi h]
    have yes : (!(xs[i] == x)) = true → ((xs.take (i + 1)).all (fun y => !(y == x))) = true := fun h => by rw [all_take _ _ _ hi, hI]; simpa using h
    have gi := get_some hi
    simp -dsimp -implicitDefEqProofs only [go_sem, ↓reduceIte, Nat.reduceEqDiff, Nat.reduceLT, Nat.reduceAdd, Nat.reduceMul, Nat.reduceLeDiff, Nat.le_refl, Int.natCast_zero, Int.toNat_natCast, Int.reduceToNat, lt_len hi, get_some hi]
    repeat' first
      | (refine Br.intro (fun _ => ?_) (fun _ => ?_) <;> try simp -dsimp -implicitDefEqProofs only [go_sem, ↓reduceIte, Nat.reduceEqDiff, Nat.reduceLT, Nat.reduceAdd, Nat.reduceMul, Nat.reduceLeDiff, Nat.le_refl, Int.natCast_zero, Int.toNat_natCast, Int.reduceToNat, *])
      | (with_reducible refine And.intro ?_ ?_)
      | (refine Later.draw mixed rfl ?_; try simp -dsimp -implicitDefEqProofs only [go_sem, ↓reduceIte, Nat.reduceEqDiff, Nat.reduceLT, Nat.reduceAdd, Nat.reduceMul, Nat.reduceLeDiff, Nat.le_refl, Int.natCast_zero, Int.toNat_natCast, Int.reduceToNat, *])
    all_goals first
      | omega
      | (refine ⟨?_, ?_⟩ <;> omega)
      | rfl
      | (refine ⟨_, rfl, ?_⟩; rw [no]; · simp
         · clear no yes; simp_all)
      | (refine yes ?_; rw [BEq.comm, ‹(x == xs[i]) = false›]; rfl)
      | trace_state
  · simp -dsimp -implicitDefEqProofs only [pick_nil, pick_cons, look_nil, look_cons, dropB_nil, dropB_cons, inD_nil, inD_cons, inE_nil, inE_cons, or_t_l, or_f_l, Nat.reduceBEq, Nat.reduceDiv, Nat.reduceAdd, beq_self_eq_true, Bool.false_eq_true, Bool.or_false, ↓reduceIte, Nat.reduceEqDiff, List.cons_append, List.nil_append]
    simp -dsimp -implicitDefEqProofs only [go_sem, ↓reduceIte, Nat.reduceEqDiff, Nat.reduceLT, Nat.reduceAdd, Nat.reduceMul, Nat.reduceLeDiff, Nat.le_refl, Int.natCast_zero, Int.toNat_natCast, Int.reduceToNat, nlt_len]
    rw [List.take_length] at hI
    exact ⟨_, rfl, by rw [has, hI]; rfl⟩
theorem c_Contains (xs : List Int) (x : Int) (h : xs.length ≤ 1048576) : Fn Try.prog 128 [eIs xs, eI x] true (· = eB (has xs x)) := by
  refine Fn.of_vcN 9 [.tmp 4] Try.func128 rfl rfl rfl rfl rfl (of_decide_eq_true rfl) ?_
  simp -dsimp -implicitDefEqProofs only [go_sem, ↓reduceIte, Nat.reduceEqDiff, Nat.reduceLT, Nat.reduceAdd, Nat.reduceMul, Nat.reduceLeDiff, Nat.le_refl, Int.natCast_zero, Int.toNat_natCast, Int.reduceToNat]
  refine sCallT_any (c_Index xs x h) ?_
  rintro _ ⟨n, rfl, hn⟩
  simp -dsimp -implicitDefEqProofs only [go_sem, ↓reduceIte, Nat.reduceEqDiff, Nat.reduceLT, Nat.reduceAdd, Nat.reduceMul, Nat.reduceLeDiff, Nat.le_refl, Int.natCast_zero, Int.toNat_natCast, Int.reduceToNat]
  rw [← hn]
end Go.Vc


/-
  Contracts of the functions on access tables and systems.
-/
set_option linter.unusedVariables false
set_option linter.unusedSimpArgs false
set_option linter.unnecessarySimpa false
namespace Go.Vc
open Go.Proofs
set_option maxRecDepth 100000
theorem any_take {α : Type} (p : α → Bool) (xs : List α) (i : Nat) (h : i < xs.length) : (xs.take (i + 1)).any p = ((xs.take i).any p || p xs[i]) := by
  rw [List.take_succ_eq_append_getElem h, List.any_append]; simp
end Go.Vc


/-
  Values that stand for others: nil for an empty list.
-/
set_option linter.unusedVariables false
set_option linter.unusedSimpArgs false
set_option linter.unnecessarySimpa false
namespace Go.Vc
open Go.Proofs
def Sub (x y : AV) : Prop := ∀ (w : World) (S : Nat → Prop) (v : Value), Rd w S x v → Rd w S y v
inductive SubL : List AV → List AV → Prop
  | nil : SubL [] []
  | cons {x y : AV} {xs ys : List AV} (h : Sub x y) (hs : SubL xs ys) : SubL (x :: xs) (y :: ys)
theorem Sub.refl (x : AV) : Sub x x := fun _ _ _ h => h
theorem Sub.nil (sh : Sh) : Sub (.val (.slice none 0 0)) (.arr sh []) := fun _ _ _ h => by cases h; exact .nil sh none
theorem SubL.get {xs ys : List AV} (h : SubL xs ys) : xs.length = ys.length ∧ ∀ i (h1 : i < xs.length) (h2 : i < ys.length), Sub xs[i] ys[i] := by
  induction h with
  | nil => exact ⟨rfl, fun i h1 => absurd h1 (Nat.not_lt_zero _)⟩
  | cons h hs ih =>
    refine ⟨by simp [ih.1], fun i h1 h2 => ?_⟩
    cases i with
    | zero => exact h
    | succ i => exact ih.2 i (by simpa using h1) (by simpa using h2)
theorem Fn.subs {P : Program} {f : FuncId} {args args' : List AV} {own : Bool} {post : AV → Prop} (h : Fn P f args own post) (hs : SubL args' args) : Fn P f args' own post :=
  ⟨h.1, fun w S vs h1 h0 h2 h3 => h.2 w S vs h1 h0 (h2.trans hs.get.1) fun i hi => hs.get.2 i (by rw [hs.get.1]; exact hi) hi _ _ _ (h3 i _)⟩
abbrev eNil : AV := .val (.slice none 0 0)
end Go.Vc


/-
  The different numbers of a list, rising; plain facts.
-/
set_option linter.unusedVariables false
set_option linter.unusedSimpArgs false
set_option linter.unnecessarySimpa false
namespace Go.Vc
def rowsL (xs : List Int) : List Int := Lib.compact (xs.mergeSort fun x y => decide (x ≤ y))
theorem mem_compact (zs : List Int) (x : Int) : x ∈ Lib.compact zs ↔ x ∈ zs := by
  unfold Lib.compact Lib.compactUpTo
  have gi : ∀ i, i < zs.length → zs.toArray[i]! = zs.getD i 0 := fun i hi => by simp [List.getD_eq_getElem?_getD, hi]
  constructor
  · intro h
    obtain ⟨j, hj, rfl⟩ := List.mem_map.1 h
    have hj' := List.mem_range.1 (List.mem_filter.1 hj).1
    simp [hj']
  · intro h
    obtain ⟨j, hj, rfl⟩ := List.getElem_of_mem h
    induction j with
    | zero => exact List.mem_map.2 ⟨0, List.mem_filter.2 ⟨List.mem_range.2 hj, by simp [Lib.keeps]⟩, by simp [hj]⟩
    | succ j ih =>
      by_cases e : zs[j + 1] = zs[j]
      · rw [e]; exact ih (by omega) (List.getElem_mem _)
      · refine List.mem_map.2 ⟨j + 1, List.mem_filter.2 ⟨List.mem_range.2 hj, ?_⟩, by simp [hj]⟩
        have h1 : j < zs.length := by omega
        simp [Lib.keeps, hj, h1, e]
theorem compact_pair (zs : List Int) (h : zs.Pairwise (· ≤ ·)) : (Lib.compact zs).Pairwise (· < ·) := by
  unfold Lib.compact Lib.compactUpTo
  rw [List.pairwise_map]
  have hs := List.pairwise_iff_getElem.1 h
  refine List.Pairwise.imp_of_mem ?_ ((List.pairwise_lt_range (n := zs.length)).filter (Lib.keeps zs.toArray))
  intro i j hi hj hij
  have hj' := List.mem_range.1 (List.mem_filter.1 hj).1
  have hk := (List.mem_filter.1 hj).2
  have hi' : i < zs.length := by omega
  have hp : j - 1 < zs.length := by omega
  have h1 : zs[i] ≤ zs[j - 1] := by
    rcases Nat.lt_or_ge i (j - 1) with hh | hh
    · exact hs i (j - 1) _ _ hh
    · have : i = j - 1 := by omega
      subst this; exact Int.le_refl _
  have h2 := hs (j - 1) j hp hj' (by omega)
  have h3 : zs[j] ≠ zs[j - 1] := by
    have : j ≠ 0 := by omega
    simpa [Lib.keeps, this, hj', hp] using hk
  have e1 : zs.toArray[i]! = zs[i] := by simp [hi']
  have e2 : zs.toArray[j]! = zs[j] := by simp [hj']
  rw [e1, e2]; omega
theorem sort_pair (xs : List Int) : (xs.mergeSort fun x y => decide (x ≤ y)).Pairwise (· ≤ ·) := by
  have := List.pairwise_mergeSort (le := fun x y : Int => decide (x ≤ y)) (by intro a b c h1 h2; simp at *; omega) (by intro a b; simp; omega) xs
  exact this.imp fun h => by simpa using h
theorem mem_sort (xs : List Int) (x : Int) : x ∈ (xs.mergeSort fun x y => decide (x ≤ y)) ↔ x ∈ xs := List.mem_mergeSort
theorem rowsL_mem (xs : List Int) (x : Int) : x ∈ rowsL xs ↔ x ∈ xs := by rw [rowsL, mem_compact, mem_sort]
theorem rowsL_pair (xs : List Int) : (rowsL xs).Pairwise (· < ·) := compact_pair _ (sort_pair xs)
theorem rowsL_len (xs : List Int) : (rowsL xs).length ≤ xs.length := by
  have h1 : (Lib.compact (xs.mergeSort fun x y => decide (x ≤ y))).length ≤ (xs.mergeSort fun x y => decide (x ≤ y)).length := by
    unfold Lib.compact Lib.compactUpTo
    rw [List.length_map]
    exact Nat.le_trans (List.length_filter_le _ _) (by simp)
  rw [List.length_mergeSort] at h1
  exact h1
theorem rowsL_eq (xs : List Int) : rowsL xs = Lib.compact (xs.mergeSort fun x y => decide (x ≤ y)) := rfl
attribute [irreducible] rowsL
/-- the next candidate after k of the different numbers -/
def cand (R : List Int) (k : Nat) (x : Int) : Bool := k == 0 || decide (x > R.getD (k - 1) 0)
def leastSt (R : List Int) (k : Nat) (m x : Int) : Int := if cand R k x && (decide (m < 0) || decide (x < m)) then x else m
def leastN (xs : List Int) (k i : Nat) : Int := (xs.take i).foldl (leastSt (rowsL xs) k) (-1)
theorem leastN_zero (xs : List Int) (k : Nat) : leastN xs k 0 = -1 := by simp [leastN]
theorem leastN_succ (xs : List Int) (k i : Nat) (h : i < xs.length) : leastN xs k (i + 1) = leastSt (rowsL xs) k (leastN xs k i) xs[i] := by
  rw [leastN, List.take_succ_eq_append_getElem h, List.foldl_append]; rfl
theorem foldl_least (R : List Int) (k : Nat) : ∀ (xs : List Int), (∀ x ∈ xs, 0 ≤ x) → ∀ m : Int, (m = -1 ∨ 0 ≤ m) →
    let r := xs.foldl (leastSt R k) m
    (r = m ∨ (r ∈ xs ∧ cand R k r = true)) ∧ (r = -1 ∨ 0 ≤ r) ∧ (0 ≤ m → r ≤ m ∧ 0 ≤ r) ∧ ∀ x ∈ xs, cand R k x = true → 0 ≤ r ∧ r ≤ x := by
  intro xs
  induction xs with
  | nil => intro _ m hm; simp; exact hm
  | cons x t ih =>
    intro hx m hm
    have h0 := hx x (by simp)
    have hm' : leastSt R k m x = -1 ∨ 0 ≤ leastSt R k m x := by unfold leastSt; split <;> omega
    have := ih (fun y hy => hx y (by simp [hy])) (leastSt R k m x) hm'
    simp only [List.foldl_cons]
    obtain ⟨a1, a2, a3, a4⟩ := this
    refine ⟨?_, a2, ?_, ?_⟩
    · rcases a1 with a1 | a1
      · rw [a1]
        unfold leastSt
        split
        · rename_i hc
          simp only [Bool.and_eq_true] at hc
          exact .inr ⟨by simp, hc.1⟩
        · exact .inl rfl
      · exact .inr ⟨by simp [a1.1], a1.2⟩
    · intro hm0
      have h1 : 0 ≤ leastSt R k m x ∧ leastSt R k m x ≤ m := by
        unfold leastSt
        split
        · rename_i hc
          simp only [Bool.and_eq_true, Bool.or_eq_true, decide_eq_true_eq] at hc
          omega
        · omega
      have h2 := a3 h1.1
      omega
    · intro y hy hc
      rcases List.mem_cons.1 hy with rfl | hy
      · have h1 : 0 ≤ leastSt R k m y ∧ leastSt R k m y ≤ y := by
          unfold leastSt
          split
          · omega
          · rename_i hn
            simp only [hc, Bool.true_and, Bool.or_eq_true, decide_eq_true_eq, not_or] at hn
            omega
        have h2 := a3 h1.1
        omega
      · exact a4 y hy hc
theorem leastN_len (xs : List Int) (h : ∀ x ∈ xs, 0 ≤ x) (k : Nat) (hk : k ≤ (rowsL xs).length) : leastN xs k xs.length = if h : k < (rowsL xs).length then (rowsL xs)[k] else -1 := by
  have hp := List.pairwise_iff_getElem.1 (rowsL_pair xs)
  have := foldl_least (rowsL xs) k xs h (-1) (.inl rfl)
  simp only at this
  rw [leastN, List.take_length]
  generalize List.foldl (leastSt (rowsL xs) k) (-1) xs = r at this
  obtain ⟨a1, a2, _, a4⟩ := this
  have hc : ∀ i (hi : i < (rowsL xs).length), cand (rowsL xs) k (rowsL xs)[i] = true ↔ k ≤ i := by
    intro i hi
    unfold cand
    by_cases hk0 : k = 0
    · subst hk0; simp
    · have h1 : k - 1 < (rowsL xs).length := by omega
      have e : (rowsL xs).getD (k - 1) 0 = (rowsL xs)[k - 1] := by simp [List.getD_eq_getElem?_getD, h1]
      rw [e]
      simp only [Bool.or_eq_true, beq_iff_eq, hk0, false_or, decide_eq_true_eq]
      constructor
      · intro h2
        rcases Nat.lt_or_ge i k with h3 | h3
        · exfalso
          rcases Nat.lt_or_ge i (k - 1) with h4 | h4
          · have := hp i (k - 1) hi h1 h4; omega
          · have : i = k - 1 := by omega
            subst this; omega
        · exact h3
      · intro h2
        have := hp (k - 1) i h1 hi (by omega)
        omega
  split
  · rename_i hk2
    have hm := (rowsL_mem xs _).1 (List.getElem_mem hk2)
    have h1 := a4 _ hm ((hc k hk2).2 (Nat.le_refl _))
    rcases a1 with a1 | a1
    · omega
    · obtain ⟨i, hi, he⟩ := List.getElem_of_mem ((rowsL_mem xs r).2 a1.1)
      have h2 := (hc i hi).1 (by rw [he]; exact a1.2)
      rcases Nat.lt_or_ge k i with h3 | h3
      · have := hp k i hk2 hi h3; omega
      · have : i = k := by omega
        subst this; exact he.symm
  · rename_i hk2
    rcases a1 with a1 | a1
    · exact a1
    · obtain ⟨i, hi, he⟩ := List.getElem_of_mem ((rowsL_mem xs r).2 a1.1)
      have h2 := (hc i hi).1 (by rw [he]; exact a1.2)
      omega
end Go.Vc


/-
  Contracts of the functions on makers and locks.
-/
set_option linter.unusedVariables false
set_option linter.unusedSimpArgs false
set_option linter.unnecessarySimpa false
namespace Go.Vc
open Go.Proofs
set_option maxRecDepth 100000
def lockSet (m : MkM) (xs : List Int) : Bool := decide (xs.length ≠ 0) && rises xs m.depths
def isLk0 (m : MkM) (l : List (List Int)) : Bool := ((l.length : Int) == m.chambers) && l.all (lockSet m)
def isLk (m : MkM) (l : List (List Int)) : Bool := isMk m && isLk0 m l
theorem c_sIsLock (m : MkM) (l : List (List Int)) (h : l.length ≤ 1048576) (h2 : ∀ x ∈ l, x.length ≤ 1048576) : Fn Try.prog 88 [eMk m, eLk l] true (· = eB (isLk m l)) := by
  refine Fn.of_vcN 42 [.tmp 4] Try.func88 rfl rfl rfl rfl rfl (of_decide_eq_true rfl) ?_
  simp -dsimp -implicitDefEqProofs only [go_sem, ↓reduceIte, Nat.reduceEqDiff, Nat.reduceLT, Nat.reduceAdd, Nat.reduceMul, Nat.reduceLeDiff, Nat.le_refl, Int.natCast_zero, Int.toNat_natCast, Int.reduceToNat]
  repeat' first
    | (refine Br.intro (fun _ => ?_) (fun _ => ?_) <;> try simp -dsimp -implicitDefEqProofs only [go_sem, ↓reduceIte, Nat.reduceEqDiff, Nat.reduceLT, Nat.reduceAdd, Nat.reduceMul, Nat.reduceLeDiff, Nat.le_refl, Int.natCast_zero, Int.toNat_natCast, Int.reduceToNat, *])
    | (with_reducible refine And.intro ?_ ?_)
    | (refine sCallT_one (c_sIsMaker _) ?_; try simp -dsimp -implicitDefEqProofs only [go_sem, ↓reduceIte, Nat.reduceEqDiff, Nat.reduceLT, Nat.reduceAdd, Nat.reduceMul, Nat.reduceLeDiff, Nat.le_refl, Int.natCast_zero, Int.toNat_natCast, Int.reduceToNat, *])
  all_goals try (first | omega | (simp_all [isLk, isLk0]; done))
  refine Later.up [2, 3] [20, 29, 39] [] l.length (fun i => (l.take i).all (lockSet m)) (fun i => [(5, eI i)]) (fun _ => []) (by simp) ?_ rfl (fun i hi hI => ?_) (fun hI => ?_)
  · simp -dsimp -implicitDefEqProofs only [go_sem, ↓reduceIte, Nat.reduceEqDiff, Nat.reduceLT, Nat.reduceAdd, Nat.reduceMul, Nat.reduceLeDiff, Nat.le_refl, Int.natCast_zero, Int.toNat_natCast, Int.reduceToNat]
  · simp -dsimp -implicitDefEqProofs only [pick_nil, pick_cons, look_nil, look_cons, dropB_nil, dropB_cons, inD_nil, inD_cons, inE_nil, inE_cons, or_t_l, or_f_l, Nat.reduceBEq, Nat.reduceDiv, Nat.reduceAdd, beq_self_eq_true, Bool.false_eq_true, Bool.or_false, ↓reduceIte, Nat.reduceEqDiff, List.cons_append, List.nil_append]
    have gi := get_some hi
    have li := lt_len hi
    have no : lockSet m l[i] = false → isLk m l = false := fun h => by simp [isLk, isLk0, lockSet, all_no (p := lockSet m) hi h]
    have yes : lockSet m l[i] = true → ((l.take (i + 1)).all (lockSet m)) = true := fun h => by rw [all_take _ _ _ hi, hI]; simpa using h
    simp -dsimp -implicitDefEqProofs only [go_sem, ↓reduceIte, Nat.reduceEqDiff, Nat.reduceLT, Nat.reduceAdd, Nat.reduceMul, Nat.reduceLeDiff, Nat.le_refl, Int.natCast_zero, Int.toNat_natCast, Int.reduceToNat, li, gi]
    repeat' first
      | (refine Br.intro (fun _ => ?_) (fun _ => ?_) <;> try simp -dsimp -implicitDefEqProofs only [go_sem, ↓reduceIte, Nat.reduceEqDiff, Nat.reduceLT, Nat.reduceAdd, Nat.reduceMul, Nat.reduceLeDiff, Nat.le_refl, Int.natCast_zero, Int.toNat_natCast, Int.reduceToNat, *])
      | (with_reducible refine And.intro ?_ ?_)
      | (refine sCallT_one (c_l01Rises l[i] _ (by have := h2 l[i] (List.getElem_mem hi); omega)) ?_; try simp -dsimp -implicitDefEqProofs only [go_sem, ↓reduceIte, Nat.reduceEqDiff, Nat.reduceLT, Nat.reduceAdd, Nat.reduceMul, Nat.reduceLeDiff, Nat.le_refl, Int.natCast_zero, Int.toNat_natCast, Int.reduceToNat, *])
      | (refine sCallX_one (c_l01Rises l[i] _ (by have := h2 l[i] (List.getElem_mem hi); omega)) ?_; try simp -dsimp -implicitDefEqProofs only [go_sem, ↓reduceIte, Nat.reduceEqDiff, Nat.reduceLT, Nat.reduceAdd, Nat.reduceMul, Nat.reduceLeDiff, Nat.le_refl, Int.natCast_zero, Int.toNat_natCast, Int.reduceToNat, *])
      | (refine Later.draw mixed rfl ?_; try simp -dsimp -implicitDefEqProofs only [go_sem, ↓reduceIte, Nat.reduceEqDiff, Nat.reduceLT, Nat.reduceAdd, Nat.reduceMul, Nat.reduceLeDiff, Nat.le_refl, Int.natCast_zero, Int.toNat_natCast, Int.reduceToNat, *])
    all_goals first
      | omega
      | (refine ⟨?_, ?_⟩ <;> omega)
      | (simp; done)
      | rfl
      | (rw [no]; clear no yes; simp_all [isLk, isLk0, lockSet]; done) | (rw [no]; clear no yes; simp_all [isLk, isLk0, lockSet]; omega) | (refine yes ?_; clear no yes; simp_all [isLk, isLk0, lockSet]; done) | (refine yes ?_; clear no yes; simp_all [isLk, isLk0, lockSet]; omega)
      | trace_state
  · simp -dsimp -implicitDefEqProofs only [pick_nil, pick_cons, look_nil, look_cons, dropB_nil, dropB_cons, inD_nil, inD_cons, inE_nil, inE_cons, or_t_l, or_f_l, Nat.reduceBEq, Nat.reduceDiv, Nat.reduceAdd, beq_self_eq_true, Bool.false_eq_true, Bool.or_false, ↓reduceIte, Nat.reduceEqDiff, List.cons_append, List.nil_append]
    simp -dsimp -implicitDefEqProofs only [go_sem, ↓reduceIte, Nat.reduceEqDiff, Nat.reduceLT, Nat.reduceAdd, Nat.reduceMul, Nat.reduceLeDiff, Nat.le_refl, Int.natCast_zero, Int.toNat_natCast, Int.reduceToNat, nlt_len]
    rw [List.take_length] at hI
    first
      | (simp_all [isLk, isLk0]; done)
      | (simp_all [isLk, isLk0]; omega)
      | trace_state
theorem c_isLock (m : MkM) (l : List (List Int)) (h : l.length ≤ 1048576) (h2 : ∀ x ∈ l, x.length ≤ 1048576) : Fn Try.prog 127 [eMk m, eLk l] true (· = eB (isLk0 m l)) := by
  refine Fn.of_vcN 31 [.tmp 4] Try.func127 rfl rfl rfl rfl rfl (of_decide_eq_true rfl) ?_
  simp -dsimp -implicitDefEqProofs only [go_sem, ↓reduceIte, Nat.reduceEqDiff, Nat.reduceLT, Nat.reduceAdd, Nat.reduceMul, Nat.reduceLeDiff, Nat.le_refl, Int.natCast_zero, Int.toNat_natCast, Int.reduceToNat]
  refine Later.up [2, 3, 8, 9] [15, 21] [] l.length (fun i => (l.take i).all (lockSet m)) (fun i => [(10, eI i)]) (fun _ => []) (by simp) ?_ rfl (fun i hi hI => ?_) (fun hI => ?_)
  · simp -dsimp -implicitDefEqProofs only [go_sem, ↓reduceIte, Nat.reduceEqDiff, Nat.reduceLT, Nat.reduceAdd, Nat.reduceMul, Nat.reduceLeDiff, Nat.le_refl, Int.natCast_zero, Int.toNat_natCast, Int.reduceToNat]
  · simp -dsimp -implicitDefEqProofs only [pick_nil, pick_cons, look_nil, look_cons, dropB_nil, dropB_cons, inD_nil, inD_cons, inE_nil, inE_cons, or_t_l, or_f_l, Nat.reduceBEq, Nat.reduceDiv, Nat.reduceAdd, beq_self_eq_true, Bool.false_eq_true, Bool.or_false, ↓reduceIte, Nat.reduceEqDiff, List.cons_append, List.nil_append]
    have gi := get_some hi
    have li := lt_len hi
    have no : lockSet m l[i] = false → isLk0 m l = false := fun h => by simp [isLk0, lockSet, all_no (p := lockSet m) hi h]
    have yes : lockSet m l[i] = true → ((l.take (i + 1)).all (lockSet m)) = true := fun h => by rw [all_take _ _ _ hi, hI]; simpa using h
    simp -dsimp -implicitDefEqProofs only [go_sem, ↓reduceIte, Nat.reduceEqDiff, Nat.reduceLT, Nat.reduceAdd, Nat.reduceMul, Nat.reduceLeDiff, Nat.le_refl, Int.natCast_zero, Int.toNat_natCast, Int.reduceToNat, li, gi]
    repeat' first
      | (refine Br.intro (fun _ => ?_) (fun _ => ?_) <;> try simp -dsimp -implicitDefEqProofs only [go_sem, ↓reduceIte, Nat.reduceEqDiff, Nat.reduceLT, Nat.reduceAdd, Nat.reduceMul, Nat.reduceLeDiff, Nat.le_refl, Int.natCast_zero, Int.toNat_natCast, Int.reduceToNat, *])
      | (with_reducible refine And.intro ?_ ?_)
      | (refine sCallT_one (c_IsRising l[i] _ (by have := h2 l[i] (List.getElem_mem hi); omega)) ?_; try simp -dsimp -implicitDefEqProofs only [go_sem, ↓reduceIte, Nat.reduceEqDiff, Nat.reduceLT, Nat.reduceAdd, Nat.reduceMul, Nat.reduceLeDiff, Nat.le_refl, Int.natCast_zero, Int.toNat_natCast, Int.reduceToNat, *])
      | (refine sCallX_one (c_IsRising l[i] _ (by have := h2 l[i] (List.getElem_mem hi); omega)) ?_; try simp -dsimp -implicitDefEqProofs only [go_sem, ↓reduceIte, Nat.reduceEqDiff, Nat.reduceLT, Nat.reduceAdd, Nat.reduceMul, Nat.reduceLeDiff, Nat.le_refl, Int.natCast_zero, Int.toNat_natCast, Int.reduceToNat, *])
      | (refine Later.draw mixed rfl ?_; try simp -dsimp -implicitDefEqProofs only [go_sem, ↓reduceIte, Nat.reduceEqDiff, Nat.reduceLT, Nat.reduceAdd, Nat.reduceMul, Nat.reduceLeDiff, Nat.le_refl, Int.natCast_zero, Int.toNat_natCast, Int.reduceToNat, *])
    all_goals first
      | omega
      | (refine ⟨?_, ?_⟩ <;> omega)
      | (simp; done)
      | rfl
      | (rw [no]; clear no yes; simp_all [isLk0, lockSet]; done) | (rw [no]; clear no yes; simp_all [isLk0, lockSet]; omega) | (refine yes ?_; clear no yes; simp_all [isLk0, lockSet]; done) | (refine yes ?_; clear no yes; simp_all [isLk0, lockSet]; omega)
      | trace_state
  · simp -dsimp -implicitDefEqProofs only [pick_nil, pick_cons, look_nil, look_cons, dropB_nil, dropB_cons, inD_nil, inD_cons, inE_nil, inE_cons, or_t_l, or_f_l, Nat.reduceBEq, Nat.reduceDiv, Nat.reduceAdd, beq_self_eq_true, Bool.false_eq_true, Bool.or_false, ↓reduceIte, Nat.reduceEqDiff, List.cons_append, List.nil_append]
    simp -dsimp -implicitDefEqProofs only [go_sem, ↓reduceIte, Nat.reduceEqDiff, Nat.reduceLT, Nat.reduceAdd, Nat.reduceMul, Nat.reduceLeDiff, Nat.le_refl, Int.natCast_zero, Int.toNat_natCast, Int.reduceToNat, nlt_len]
    rw [List.take_length] at hI
    first
      | (simp_all [isLk, isLk0]; done)
      | (simp_all [isLk, isLk0]; omega)
      | trace_state
def lkCodes (m : MkM) (ls : List (List (List Int))) : Int := if isMk m && ls.all (isLk0 m) then 0 else 1
theorem lkCodes_no {m : MkM} {ls : List (List (List Int))} {i : Nat} (hi : i < ls.length) (h : isLk0 m ls[i] = false) : lkCodes m ls = 1 := by
  rw [lkCodes, all_no hi h]; simp
theorem lkCodes_one (m : MkM) (l : List (List Int)) : lkCodes m [l] = if isLk m l then 0 else 1 := by simp [lkCodes, isLk]
theorem c_locksCode (m : MkM) (ls : List (List (List Int))) (h0 : ls.length ≤ 1048576) (h : ∀ l ∈ ls, l.length ≤ 1048576 ∧ ∀ x ∈ l, x.length ≤ 1048576) : Fn Try.prog 81 [eMk m, .arr ⟨1, true⟩ (ls.map eLk)] true (· = eI (lkCodes m ls)) := by
  refine Fn.of_vcN 21 [.tmp 4] Try.func81 rfl rfl rfl rfl rfl (of_decide_eq_true rfl) ?_
  simp -dsimp -implicitDefEqProofs only [go_sem, ↓reduceIte, Nat.reduceEqDiff, Nat.reduceLT, Nat.reduceAdd, Nat.reduceMul, Nat.reduceLeDiff, Nat.le_refl, Int.natCast_zero, Int.toNat_natCast, Int.reduceToNat]
  repeat' first
    | (refine Br.intro (fun _ => ?_) (fun _ => ?_) <;> try simp -dsimp -implicitDefEqProofs only [go_sem, ↓reduceIte, Nat.reduceEqDiff, Nat.reduceLT, Nat.reduceAdd, Nat.reduceMul, Nat.reduceLeDiff, Nat.le_refl, Int.natCast_zero, Int.toNat_natCast, Int.reduceToNat, *])
    | (with_reducible refine And.intro ?_ ?_)
    | (refine sCallT_one (c_iIsMaker _) ?_; try simp -dsimp -implicitDefEqProofs only [go_sem, ↓reduceIte, Nat.reduceEqDiff, Nat.reduceLT, Nat.reduceAdd, Nat.reduceMul, Nat.reduceLeDiff, Nat.le_refl, Int.natCast_zero, Int.toNat_natCast, Int.reduceToNat, *])
  all_goals try (first | omega | (simp_all [lkCodes]; done))
  refine Later.up [2, 10, 11] [6, 18] [] ls.length (fun i => (ls.take i).all (isLk0 m)) (fun i => [(12, eI i)]) (fun _ => []) (by simp) ?_ rfl (fun i hi hI => ?_) (fun hI => ?_)
  · simp -dsimp -implicitDefEqProofs only [go_sem, ↓reduceIte, Nat.reduceEqDiff, Nat.reduceLT, Nat.reduceAdd, Nat.reduceMul, Nat.reduceLeDiff, Nat.le_refl, Int.natCast_zero, Int.toNat_natCast, Int.reduceToNat]
  · have hx := h ls[i] (List.getElem_mem hi)
    have no := fun h => lkCodes_no (m := m) hi h
    have yes : isLk0 m ls[i] = true → ((ls.take (i + 1)).all (isLk0 m)) = true := fun h => by rw [all_take _ _ _ hi, hI, h]; rfl
    simp -dsimp -implicitDefEqProofs only [pick_nil, pick_cons, look_nil, look_cons, dropB_nil, dropB_cons, inD_nil, inD_cons, inE_nil, inE_cons, or_t_l, or_f_l, Nat.reduceBEq, Nat.reduceDiv, Nat.reduceAdd, beq_self_eq_true, Bool.false_eq_true, Bool.or_false, ↓reduceIte, Nat.reduceEqDiff, List.cons_append, List.nil_append]
    simp -dsimp -implicitDefEqProofs only [go_sem, ↓reduceIte, Nat.reduceEqDiff, Nat.reduceLT, Nat.reduceAdd, Nat.reduceMul, Nat.reduceLeDiff, Nat.le_refl, Int.natCast_zero, Int.toNat_natCast, Int.reduceToNat, lt_len hi, get_some hi]
    repeat' first
      | (refine Br.intro (fun _ => ?_) (fun _ => ?_) <;> try simp -dsimp -implicitDefEqProofs only [go_sem, ↓reduceIte, Nat.reduceEqDiff, Nat.reduceLT, Nat.reduceAdd, Nat.reduceMul, Nat.reduceLeDiff, Nat.le_refl, Int.natCast_zero, Int.toNat_natCast, Int.reduceToNat, *])
      | (with_reducible refine And.intro ?_ ?_)
      | (refine sCallT_one (c_isLock m ls[i] hx.1 hx.2) ?_; try simp -dsimp -implicitDefEqProofs only [go_sem, ↓reduceIte, Nat.reduceEqDiff, Nat.reduceLT, Nat.reduceAdd, Nat.reduceMul, Nat.reduceLeDiff, Nat.le_refl, Int.natCast_zero, Int.toNat_natCast, Int.reduceToNat, *])
    all_goals first
      | omega
      | (refine ⟨?_, ?_⟩ <;> omega)
      | (simp; done)
      | (rw [no]; clear no yes; simp_all []; done) | (rw [no]; clear no yes; simp_all []; omega) | (refine yes ?_; clear no yes; simp_all []; done) | (refine yes ?_; clear no yes; simp_all []; omega)
      | trace_state
  · simp -dsimp -implicitDefEqProofs only [pick_nil, pick_cons, look_nil, look_cons, dropB_nil, dropB_cons, inD_nil, inD_cons, inE_nil, inE_cons, or_t_l, or_f_l, Nat.reduceBEq, Nat.reduceDiv, Nat.reduceAdd, beq_self_eq_true, Bool.false_eq_true, Bool.or_false, ↓reduceIte, Nat.reduceEqDiff, List.cons_append, List.nil_append]
    simp -dsimp -implicitDefEqProofs only [go_sem, ↓reduceIte, Nat.reduceEqDiff, Nat.reduceLT, Nat.reduceAdd, Nat.reduceMul, Nat.reduceLeDiff, Nat.le_refl, Int.natCast_zero, Int.toNat_natCast, Int.reduceToNat, nlt_len]
    rw [List.take_length] at hI
    first
      | (simp_all [lkCodes]; done)
      | trace_state
end Go.Vc


/-
  Picking: what the functions on it compute; plain facts.
-/
set_option linter.unusedVariables false
set_option linter.unusedSimpArgs false
set_option linter.unnecessarySimpa false
namespace Go.Vc
structure PkM where
  chamber : Int
  depth : Int
  deriving DecidableEq, Inhabited
theorem has_iff (xs : List Int) (x : Int) : has xs x = true ↔ x ∈ xs := by
  simp [has]
def ordOk (m : MkM) (o : List Int) : Bool := ((o.length : Int) == m.chambers) && ((o.all fun x => isIn x 0 (m.chambers - 1)) && decide o.Nodup)
theorem rises_iff (xs : List Int) (n : Int) : rises xs n = true ↔ (∀ i (h : i < xs.length), 0 ≤ xs[i] ∧ xs[i] < n) ∧ ∀ i (h : i + 1 < xs.length), xs[i] < xs[i + 1] := by
  have e : ∀ i (h : i < xs.length), xs.getD i 0 = xs[i] := fun i h => by simp [List.getD_eq_getElem?_getD, h]
  rw [rises, List.all_eq_true]
  constructor
  · intro h
    refine ⟨fun i hi => ?_, fun i hi => ?_⟩
    · have := h i (List.mem_range.2 hi)
      simp only [riseAt, Bool.and_eq_true, decide_eq_true_eq, e i hi] at this
      exact this.1
    · have := h (i + 1) (List.mem_range.2 hi)
      simp only [riseAt, Bool.and_eq_true, decide_eq_true_eq, e _ hi, Bool.or_eq_true, beq_iff_eq, Nat.add_sub_cancel, e i (by omega)] at this
      exact this.2.resolve_left (by omega)
  · rintro ⟨h1, h2⟩ i hi
    have hi := List.mem_range.1 hi
    simp only [riseAt, Bool.and_eq_true, decide_eq_true_eq, Bool.or_eq_true, beq_iff_eq, e i hi]
    refine ⟨h1 i hi, ?_⟩
    cases i with
    | zero => exact .inl rfl
    | succ i => exact .inr (by rw [Nat.add_sub_cancel, e i (by omega)]; exact h2 i hi)
theorem rises_pair {xs : List Int} {n : Int} (h : rises xs n = true) : xs.Pairwise (· < ·) := by
  rw [List.pairwise_iff_getElem]
  have h2 := ((rises_iff xs n).1 h).2
  intro i j hi hj hij
  induction j with
  | zero => omega
  | succ j ih =>
    have h3 := h2 j hj
    rcases Nat.lt_or_ge i j with h4 | h4
    · have := ih (by omega) h4; omega
    · have : i = j := by omega
      subst this; exact h3
theorem rises_len {xs : List Int} {n : Int} (hn : 0 ≤ n) (h : rises xs n = true) : (xs.length : Int) ≤ n := by
  obtain ⟨h1, h2⟩ := (rises_iff xs n).1 h
  have key : ∀ i (hi : i < xs.length), (i : Int) ≤ xs[i] := by
    intro i
    induction i with
    | zero => intro hi; have := h1 0 hi; omega
    | succ i ih => intro hi; have := ih (by omega); have := h2 i hi; omega
  rcases Nat.eq_zero_or_pos xs.length with h3 | h3
  · omega
  · have := key (xs.length - 1) (by omega)
    have := h1 (xs.length - 1) (by omega)
    omega
theorem rises_sort (o : List Int) (n : Int) : rises (o.mergeSort fun x y => decide (x ≤ y)) n = ((o.all fun x => isIn x 0 (n - 1)) && decide o.Nodup) := by
  have hp : (o.mergeSort fun x y => decide (x ≤ y)).Perm o := List.mergeSort_perm _ _
  have hs := List.pairwise_iff_getElem.1 (sort_pair o)
  generalize (o.mergeSort fun x y => decide (x ≤ y)) = s at hp hs
  rw [Bool.eq_iff_iff, Bool.and_eq_true, List.all_eq_true, decide_eq_true_eq]
  constructor
  · intro h
    obtain ⟨h1, h2⟩ := (rises_iff s n).1 h
    refine ⟨fun x hx => ?_, ?_⟩
    · obtain ⟨i, hi, rfl⟩ := List.getElem_of_mem (hp.mem_iff.2 hx)
      have := h1 i hi
      simp [isIn]; omega
    · rw [← hp.nodup_iff, List.nodup_iff_pairwise_ne]
      exact (rises_pair h).imp fun h => by omega
  · rintro ⟨h1, h2⟩
    rw [← hp.nodup_iff, List.nodup_iff_pairwise_ne, List.pairwise_iff_getElem] at h2
    refine (rises_iff s n).2 ⟨fun i hi => ?_, fun i hi => ?_⟩
    · have := h1 _ (hp.mem_iff.1 (List.getElem_mem hi))
      simp [isIn] at this; omega
    · have := hs i (i + 1) (by omega) hi (by omega)
      have := h2 i (i + 1) (by omega) hi (by omega)
      omega
theorem nodup_take {o : List Int} {i : Nat} (hi : i < o.length) (h1 : (o.take i).Nodup) (h2 : has (o.take i) o[i] = false) : (o.take (i + 1)).Nodup := by
  rw [List.take_succ_eq_append_getElem hi, List.nodup_append]
  refine ⟨h1, by simp, fun a ha b hb => ?_⟩
  have hb : b = o[i] := by simpa using hb
  subst hb
  rintro rfl
  rw [(has_iff _ _).2 ha] at h2; cases h2
theorem nodup_no {o : List Int} {i : Nat} (hi : i < o.length) (h : has (o.take i) o[i] = true) : ¬ o.Nodup := by
  intro hn
  have h1 : (o.take (i + 1)).Nodup := hn.sublist (List.take_sublist _ _)
  rw [List.take_succ_eq_append_getElem hi, List.nodup_append] at h1
  exact h1.2.2 _ ((has_iff _ _).1 h) _ (by simp) rfl
def setOk (o s : List Int) : Bool := rises s o.length && (o.take s.length).all fun c => has s c
def pickOk (m : MkM) (p : PkM) : Bool := isIn p.chamber 0 (m.chambers - 1) && isIn p.depth 0 (m.depths - 1)
def pkCode (m : MkM) (l : List (List Int)) (o s : List Int) : Int := if isLk m l then (if ordOk m o && setOk o s then 0 else 2) else 1
def pksCode (m : MkM) (l : List (List Int)) (o s : List Int) (ps : List PkM) : Int :=
  if pkCode m l o s = 0 then (if ps.all (pickOk m) then (if ps.length > 300 then 3 else 0) else 2) else pkCode m l o s
theorem pksCode_nil (m : MkM) (l : List (List Int)) (o s : List Int) : pksCode m l o s [] = pkCode m l o s := by
  unfold pksCode; split
  · rename_i h; simp [h]
  · rfl
theorem pkCode_zero {m : MkM} {l : List (List Int)} {o s : List Int} (h : pkCode m l o s = 0) : isLk m l = true ∧ ordOk m o = true ∧ setOk o s = true := by
  unfold pkCode at h
  split at h
  · split at h
    · rename_i h1 h2; simp only [Bool.and_eq_true] at h2; exact ⟨h1, h2⟩
    · omega
  · omega
/-- what a lock, an order and set chambers that are as described are like -/
structure Pk (m : MkM) (l : List (List Int)) (o : List Int) : Prop where
  ch : (o.length : Int) = m.chambers
  ln : l.length = o.length
  n6 : o.length ≤ 6
  n2 : 2 ≤ o.length
  d8 : 2 ≤ m.depths ∧ m.depths ≤ 8
  io : ∀ i (h : i < o.length), 0 ≤ o[i] ∧ o[i] < o.length
  nd : o.Nodup
  st : ∀ i (h : i < l.length), 0 < l[i].length ∧ rises l[i] m.depths = true
theorem Pk.of {m : MkM} {l : List (List Int)} {o : List Int} (h1 : isLk m l = true) (h2 : ordOk m o = true) : Pk m l o := by
  simp only [isLk, isLk0, Bool.and_eq_true, beq_iff_eq] at h1
  simp only [ordOk, Bool.and_eq_true, beq_iff_eq, decide_eq_true_eq, List.all_eq_true] at h2
  have h3 := isMk_num h1.1
  refine ⟨h2.1, by omega, by omega, by omega, h3.2, fun i hi => ?_, h2.2.2, fun i hi => ?_⟩
  · have := h2.2.1 _ (List.getElem_mem hi)
    simp [isIn] at this; omega
  · have := List.all_eq_true.1 h1.2.2 _ (List.getElem_mem hi)
    simp only [lockSet, Bool.and_eq_true, decide_eq_true_eq] at this
    exact ⟨by omega, this.2⟩
/-- the set of a chamber -/
def cset (l : List (List Int)) (c : Int) : List Int := l.getD c.toNat []
def lastOf (s : List Int) : Int := s.getD (s.length - 1) 0
structure PS where
  n : Nat
  cuts : List Int
  falls : Int
def pickN (l : List (List Int)) (o : List Int) (n : Nat) (p : PkM) : Nat :=
  if n = o.length ∨ o.getD n 0 ≠ p.chamber then n else if has (cset l p.chamber) p.depth then n + 1 else if p.depth > lastOf (cset l p.chamber) then 0 else n
def hit (l : List (List Int)) (o : List Int) (n : Nat) (p : PkM) : Bool := !(decide (n = o.length ∨ o.getD n 0 ≠ p.chamber)) && has (cset l p.chamber) p.depth
def pickS (l : List (List Int)) (o : List Int) (x : PS) (p : PkM) : PS :=
  ⟨pickN l o x.n p, if hit l o x.n p then x.cuts.set p.chamber.toNat p.depth else x.cuts, if pickN l o x.n p < x.n then x.falls + 1 else x.falls⟩
theorem pickN_le (l : List (List Int)) (o : List Int) (n : Nat) (p : PkM) (h : n ≤ o.length) : pickN l o n p ≤ o.length := by
  unfold pickN; split
  · exact h
  · rename_i h1; split
    · omega
    · split <;> omega
theorem pickS_done (l : List (List Int)) (o : List Int) (x : PS) (p : PkM) (h : x.n = o.length) : pickS l o x p = x := by
  have e : pickN l o x.n p = x.n := by simp [pickN, h]
  have e2 : hit l o x.n p = false := by simp [hit, h]
  simp [pickS, e, e2]
def runS (l : List (List Int)) (o : List Int) (ps : List PkM) (i : Nat) : PS := (ps.take i).foldl (pickS l o) ⟨0, List.replicate o.length 0, 0⟩
theorem runS_zero (l : List (List Int)) (o : List Int) (ps : List PkM) : runS l o ps 0 = ⟨0, List.replicate o.length 0, 0⟩ := by simp [runS]
theorem runS_succ (l : List (List Int)) (o : List Int) (ps : List PkM) (i : Nat) (h : i < ps.length) : runS l o ps (i + 1) = pickS l o (runS l o ps i) ps[i] := by
  rw [runS, List.take_succ_eq_append_getElem h, List.foldl_append]; rfl
theorem runS_n (l : List (List Int)) (o : List Int) (ps : List PkM) (i : Nat) : (runS l o ps i).n ≤ o.length := by
  have : ∀ (qs : List PkM) (x : PS), x.n ≤ o.length → (qs.foldl (pickS l o) x).n ≤ o.length := by
    intro qs
    induction qs with
    | nil => intro x h; exact h
    | cons q r ih => intro x h; exact ih _ (pickN_le l o x.n q h)
  exact this _ _ (Nat.zero_le _)
theorem runS_cuts (l : List (List Int)) (o : List Int) (ps : List PkM) (i : Nat) : (runS l o ps i).cuts.length = o.length := by
  have : ∀ (qs : List PkM) (x : PS), (qs.foldl (pickS l o) x).cuts.length = x.cuts.length := by
    intro qs
    induction qs with
    | nil => intro x; rfl
    | cons q r ih => intro x; rw [List.foldl_cons, ih]; simp only [pickS]; split <;> simp
  rw [runS, this]; simp
theorem runS_falls (l : List (List Int)) (o : List Int) (ps : List PkM) (i : Nat) : 0 ≤ (runS l o ps i).falls ∧ (runS l o ps i).falls ≤ (ps.take i).length := by
  have : ∀ (qs : List PkM) (x : PS), x.falls ≤ (qs.foldl (pickS l o) x).falls ∧ (qs.foldl (pickS l o) x).falls ≤ x.falls + qs.length := by
    intro qs
    induction qs with
    | nil => intro x; simp
    | cons q r ih =>
      intro x
      have := ih (pickS l o x q)
      simp only [List.foldl_cons, List.length_cons]
      have h2 : x.falls ≤ (pickS l o x q).falls ∧ (pickS l o x q).falls ≤ x.falls + 1 := by simp only [pickS]; split <;> omega
      omega
  have := this (ps.take i) ⟨0, List.replicate o.length 0, 0⟩
  simp only at this
  simp only [runS]
  omega
theorem runS_stop (l : List (List Int)) (o : List Int) (ps : List PkM) (i : Nat) (h : (runS l o ps i).n = o.length) : ∀ k, runS l o ps (i + k) = runS l o ps i := by
  intro k
  induction k with
  | zero => rfl
  | succ k ih =>
    rcases Nat.lt_or_ge (i + k) ps.length with h1 | h1
    · rw [← Nat.add_assoc, runS_succ _ _ _ _ h1, ih, pickS_done _ _ _ _ h]
    · have : ps.take (i + (k + 1)) = ps.take (i + k) := by rw [List.take_of_length_le (by omega), List.take_of_length_le h1]
      rw [runS, this]; exact ih
def madeS (l : List (List Int)) (o : List Int) (ps : List PkM) : Nat := ((List.range ps.length).filter fun j => decide ((runS l o ps j).n ≠ o.length)).length
theorem madeS_stop (l : List (List Int)) (o : List Int) (ps : List PkM) (i : Nat) (hi : i ≤ ps.length) (hb : ∀ j, j < i → (runS l o ps j).n ≠ o.length) (h : i < ps.length → (runS l o ps i).n = o.length) : madeS l o ps = i := by
  have key : ∀ k, i ≤ k → k ≤ ps.length → ((List.range k).filter fun j => decide ((runS l o ps j).n ≠ o.length)).length = i := by
    intro k
    induction k with
    | zero => intro h1 _; simp; omega
    | succ k ih =>
      intro h1 h2
      rw [List.range_succ, List.filter_append, List.length_append]
      rcases Nat.lt_or_ge k i with h3 | h3
      · have e : i = k + 1 := by omega
        have e2 : ((List.range k).filter fun j => decide ((runS l o ps j).n ≠ o.length)) = List.range k := List.filter_eq_self.2 fun j hj => by
          have := hb j (by have := List.mem_range.1 hj; omega)
          simp [this]
        rw [e2]
        have := hb k h3
        simp [this, e]
      · have h4 := runS_stop l o ps i (h (by omega)) (k - i)
        rw [show i + (k - i) = k by omega] at h4
        rw [ih h3 (by omega), List.filter_cons, h4, h (by omega)]
        simp
  exact key ps.length hi (Nat.le_refl _)
def blindAt (m : MkM) (l : List (List Int)) (c : Int) : Int := (cset l c).getD 0 0 * m.chambers + c + 1
def blindN (m : MkM) (l : List (List Int)) (o : List Int) (k : Nat) : Int := ((o.take k).map (blindAt m l)).sum
theorem blindN_zero (m : MkM) (l : List (List Int)) (o : List Int) : blindN m l o 0 = 0 := by simp [blindN]
theorem blindN_succ (m : MkM) (l : List (List Int)) (o : List Int) (k : Nat) (h : k < o.length) : blindN m l o (k + 1) = blindN m l o k + blindAt m l o[k] := by
  rw [blindN, List.take_succ_eq_append_getElem h, List.map_append, List.sum_append]; simp [blindN]
theorem Pk.cset {m : MkM} {l : List (List Int)} {o : List Int} (h : Pk m l o) {c : Int} (h0 : 0 ≤ c) (h1 : c < o.length) : ∃ hi : c.toNat < l.length, cset l c = l[c.toNat] := by
  have hi : c.toNat < l.length := by rw [h.ln]; omega
  exact ⟨hi, by simp [Go.Vc.cset, List.getD_eq_getElem?_getD, hi]⟩
theorem Pk.blindAt {m : MkM} {l : List (List Int)} {o : List Int} (h : Pk m l o) {k : Nat} (hk : k < o.length) : 0 ≤ blindAt m l o[k] ∧ blindAt m l o[k] ≤ 100 := by
  have hio := h.io k hk
  obtain ⟨hi, e⟩ := h.cset hio.1 hio.2
  have hs := h.st _ hi
  have h1 := ((rises_iff _ _).1 hs.2).1 0 hs.1
  have e0 : (Go.Vc.cset l o[k]).getD 0 0 = (l[(o[k]).toNat])[0]'hs.1 := by rw [e]; simp [List.getD_eq_getElem?_getD, hs.1]
  unfold Go.Vc.blindAt
  rw [e0, ← h.ch]
  have hd := h.d8
  have hn := h.n6
  generalize (l[(o[k]).toNat])[0] = z at h1
  have a1 : 0 ≤ z * (o.length : Int) := Int.mul_nonneg (by omega) (by omega)
  have a2 : z * (o.length : Int) ≤ 8 * 6 := Int.mul_le_mul (by omega) (by omega) (by omega) (by omega)
  omega
theorem Pk.blindN {m : MkM} {l : List (List Int)} {o : List Int} (h : Pk m l o) : ∀ k, k ≤ o.length → 0 ≤ blindN m l o k ∧ blindN m l o k ≤ 100 * k := by
  intro k
  induction k with
  | zero => intro _; rw [blindN_zero]; omega
  | succ k ih =>
    intro hk
    rw [blindN_succ _ _ _ _ hk]
    have := ih (by omega)
    have := h.blindAt hk
    omega
end Go.Vc


/-
  Contracts: numbers sorted, the different ones of them.
-/
set_option linter.unusedVariables false
set_option linter.unusedSimpArgs false
set_option linter.unnecessarySimpa false
namespace Go.Vc
open Go.Proofs
set_option maxRecDepth 100000
theorem c_SortI (v : Nat) (zs : List Int) (h : zs.length ≤ 1048576) : FnM Try.prog 120 [.row v ⟨1, false⟩ true (zs.map eI)] [.ref 1000000000 v 0 zs.length] (fun r io => r = .tup [] ∧ io = [.row v ⟨1, false⟩ true ((zs.mergeSort fun x y => decide (x ≤ y)).map eI)]) :=
  FnM.sortRow ⟨_, _, Try.func120, by rfl, rfl⟩ (fun zs => zs.mergeSort fun x y => decide (x ≤ y)) (fun zs => List.length_mergeSort zs)
    (fun blk cap zs w hH hb hs => AnyG.slices_Sort_int Try.laySort blk 0 cap zs w hH hb hs) (fun a w => AnyG.slices_Sort_int_none Try.laySort a 0 w) v zs h
theorem compact_len (zs : List Int) : (Lib.compact zs).length ≤ zs.length := by
  unfold Lib.compact Lib.compactUpTo
  rw [List.length_map]
  exact Nat.le_trans (List.length_filter_le _ _) (by simp)
theorem s_CompactI {d l ver n : Nat} {zs : List Int} {xt : List AV} {m : Mem} {k : AV → Mem → Prop} {q : Pack k} (hlk : lookB m l = some (.row ver ⟨1, false⟩ true (zs.map eI))) (hn : n = zs.length) (hz : zs.length ≤ 1048576)
    (hk : k (.ref l (ver + 1) 0 (Lib.compact zs).length) ((l, .row (ver + 1) ⟨1, false⟩ true ((Lib.compact zs ++ List.replicate (zs.length - (Lib.compact zs).length) 0).map eI)) :: m)) :
    sCallT Try.prog 121 d [.ref l ver 0 n] xt m k q :=
  sCallT_ints (Lib.compact zs).length ⟨_, _, Try.func121, by rfl, rfl⟩ hlk hn (ys := Lib.compact zs ++ List.replicate (zs.length - (Lib.compact zs).length) 0) (by have := compact_len zs; simp; omega) (compact_len zs) hz
    (fun blk cap w hH hc => AnyG.slices_Compact_int Try.layCompact blk 0 cap zs w hH (by omega) hc) (fun a w => AnyG.slices_Compact_int_empty Try.layCompact a 0 w) hk
theorem c_rowsOf (xs : List Int) (h : xs.length ≤ 1048576) : Fn Try.prog 71 [eIs xs] true (· = eIs (rowsL xs)) := by
  refine Fn.of_vcN 10 [.tmp 2] Try.func71 rfl rfl rfl rfl rfl (of_decide_eq_true rfl) ?_
  simp -dsimp -implicitDefEqProofs only [go_sem, ↓reduceIte, Nat.reduceEqDiff, Nat.reduceLT, Nat.reduceAdd, Nat.reduceMul, Nat.reduceLeDiff, Nat.le_refl, Int.natCast_zero, Int.toNat_natCast, Int.reduceToNat]
  repeat' (refine sCallT_one (c_CloneI xs h) ?_; try simp -dsimp -implicitDefEqProofs only [go_sem, ↓reduceIte, Nat.reduceEqDiff, Nat.reduceLT, Nat.reduceAdd, Nat.reduceMul, Nat.reduceLeDiff, Nat.le_refl, Int.natCast_zero, Int.toNat_natCast, Int.reduceToNat, *])
  refine sCallT_io [6000] ?_
  simp -dsimp -implicitDefEqProofs only [go_sem, ↓reduceIte, Nat.reduceEqDiff, Nat.reduceLT, Nat.reduceAdd, Nat.reduceMul, Nat.reduceLeDiff, Nat.le_refl, Int.natCast_zero, Int.toNat_natCast, Int.reduceToNat]
  refine sCallM_one (c_SortI 0 xs h) ?_
  simp -dsimp -implicitDefEqProofs only [go_sem, ↓reduceIte, Nat.reduceEqDiff, Nat.reduceLT, Nat.reduceAdd, Nat.reduceMul, Nat.reduceLeDiff, Nat.le_refl, Int.natCast_zero, Int.toNat_natCast, Int.reduceToNat]
  refine ⟨by simp, ?_⟩
  refine s_CompactI (zs := xs.mergeSort fun x y => decide (x ≤ y)) ?_ ?_ ?_ ?_
  · simp -dsimp -implicitDefEqProofs only [go_sem, ↓reduceIte, Nat.reduceEqDiff, Nat.reduceLT, Nat.reduceAdd, Nat.reduceMul, Nat.reduceLeDiff, Nat.le_refl, Int.natCast_zero, Int.toNat_natCast, Int.reduceToNat]
  · simp
  · simpa using h
  simp -dsimp -implicitDefEqProofs only [go_sem, ↓reduceIte, Nat.reduceEqDiff, Nat.reduceLT, Nat.reduceAdd, Nat.reduceMul, Nat.reduceLeDiff, Nat.le_refl, Int.natCast_zero, Int.toNat_natCast, Int.reduceToNat]
  repeat' (with_reducible refine And.intro ?_ ?_)
  all_goals first
    | omega | (refine ⟨?_, ?_⟩ <;> omega) | (simp; done) | (simp; omega)
    | (rw [rowsL_eq]; simp; done)
    | trace_state
theorem c_l18Different (xs : List Int) (h : xs.length ≤ 1048576) (h0 : ∀ x ∈ xs, 0 ≤ x) : Fn Try.prog 73 [eIs xs] true (· = eIs (rowsL xs)) := by
  refine Fn.of_vcN 52 [.tmp 2] Try.func73 rfl rfl rfl rfl rfl (of_decide_eq_true rfl) ?_
  have hlen := rowsL_len xs
  simp -dsimp -implicitDefEqProofs only [go_sem, ↓reduceIte, Nat.reduceEqDiff, Nat.reduceLT, Nat.reduceAdd, Nat.reduceMul, Nat.reduceLeDiff, Nat.le_refl, Int.natCast_zero, Int.toNat_natCast, Int.reduceToNat]
  repeat' (with_reducible refine And.intro ?_ ?_)
  all_goals try omega
  refine Later.lp [0] [9, 14, 23, 50, 51] [6] (fun k : Nat => k ≤ (rowsL xs).length) (fun k => [(3, .ref 6 0 0 k)]) (fun k => [(6, .row 0 ⟨1, false⟩ true (((rowsL xs).take k).map eI))]) (fun k => (rowsL xs).length - k) 0 (Nat.zero_le _) ?_ rfl (fun k hk => ?_)
  · simp -dsimp -implicitDefEqProofs only [go_sem, ↓reduceIte, Nat.reduceEqDiff, Nat.reduceLT, Nat.reduceAdd, Nat.reduceMul, Nat.reduceLeDiff, Nat.le_refl, Int.natCast_zero, Int.toNat_natCast, Int.reduceToNat]
    all_goals simp
  · have hm : min k (rowsL xs).length = k := by omega
    simp -dsimp -implicitDefEqProofs only [pick_nil, pick_cons, look_nil, look_cons, dropB_nil, dropB_cons, inD_nil, inD_cons, inE_nil, inE_cons, or_t_l, or_f_l, Nat.reduceBEq, Nat.reduceDiv, Nat.reduceAdd, beq_self_eq_true, Bool.false_eq_true, Bool.or_false, ↓reduceIte, Nat.reduceEqDiff, List.cons_append, List.nil_append]
    simp -dsimp -implicitDefEqProofs only [go_sem, ↓reduceIte, Nat.reduceEqDiff, Nat.reduceLT, Nat.reduceAdd, Nat.reduceMul, Nat.reduceLeDiff, Nat.le_refl, Int.natCast_zero, Int.toNat_natCast, Int.reduceToNat]
    refine Later.up [0, 3] [9, 14, 23] [] xs.length (fun _ => True) (fun i => [(5, eI i), (4, eI (leastN xs k i))]) (fun _ => []) trivial ?_ rfl (fun i hi _ => ?_) (fun _ => ?_)
    · simp -dsimp -implicitDefEqProofs only [go_sem, ↓reduceIte, Nat.reduceEqDiff, Nat.reduceLT, Nat.reduceAdd, Nat.reduceMul, Nat.reduceLeDiff, Nat.le_refl, Int.natCast_zero, Int.toNat_natCast, Int.reduceToNat, leastN_zero]
    · have gi := get_some hi
      have li := lt_len hi
      have hs := leastN_succ xs k i hi
      have hx := h0 xs[i] (List.getElem_mem hi)
      rcases Nat.eq_zero_or_pos k with hk0 | hk0
      · have hc : cand (rowsL xs) k xs[i] = true := by simp [cand, hk0]
        have hd : (((k : Nat) : Int) == 0) = true := by simp [hk0]
        rw [leastSt, hc, Bool.true_and] at hs
        clear hc
        simp -dsimp -implicitDefEqProofs only [pick_nil, pick_cons, look_nil, look_cons, dropB_nil, dropB_cons, inD_nil, inD_cons, inE_nil, inE_cons, or_t_l, or_f_l, Nat.reduceBEq, Nat.reduceDiv, Nat.reduceAdd, beq_self_eq_true, Bool.false_eq_true, Bool.or_false, ↓reduceIte, Nat.reduceEqDiff, List.cons_append, List.nil_append]
        rw [hs]
        clear hs
        simp -dsimp -implicitDefEqProofs only [go_sem, ↓reduceIte, Nat.reduceEqDiff, Nat.reduceLT, Nat.reduceAdd, Nat.reduceMul, Nat.reduceLeDiff, Nat.le_refl, Int.natCast_zero, Int.toNat_natCast, Int.reduceToNat, li, gi, hd, hm]
        repeat' first
          | (refine Br.intro (fun _ => ?_) (fun _ => ?_) <;> try simp -dsimp -implicitDefEqProofs only [go_sem, ↓reduceIte, Nat.reduceEqDiff, Nat.reduceLT, Nat.reduceAdd, Nat.reduceMul, Nat.reduceLeDiff, Nat.le_refl, Int.natCast_zero, Int.toNat_natCast, Int.reduceToNat, *])
          | (with_reducible refine And.intro ?_ ?_)
          | (refine Later.draw mixed rfl ?_; simp -dsimp -implicitDefEqProofs only [go_sem, ↓reduceIte, Nat.reduceEqDiff, Nat.reduceLT, Nat.reduceAdd, Nat.reduceMul, Nat.reduceLeDiff, Nat.le_refl, Int.natCast_zero, Int.toNat_natCast, Int.reduceToNat, li, gi, hd, hm])
        all_goals first
          | omega
          | (refine ⟨?_, ?_⟩ <;> omega)
          | rfl
          | (simp_all; done)
          | (simp_all; omega)
          | trace_state
      · have hk1 : k - 1 < (rowsL xs).length := by omega
        have gk : (((rowsL xs).map eI).take k)[((k : Int) - 1).toNat]? = some (eI (rowsL xs)[k - 1]) := by
          rw [pred_toNat hk0, List.getElem?_take_of_lt (by omega), List.getElem?_map, List.getElem?_eq_getElem hk1]; rfl
        have hc : cand (rowsL xs) k xs[i] = decide (xs[i] > (rowsL xs)[k - 1]) := by
          have : (k == 0) = false := by simp; omega
          simp [cand, this, List.getD_eq_getElem?_getD, hk1]
        have hd : (((k : Nat) : Int) == 0) = false := by simp; omega
        rw [leastSt, hc] at hs
        clear hc
        simp -dsimp -implicitDefEqProofs only [pick_nil, pick_cons, look_nil, look_cons, dropB_nil, dropB_cons, inD_nil, inD_cons, inE_nil, inE_cons, or_t_l, or_f_l, Nat.reduceBEq, Nat.reduceDiv, Nat.reduceAdd, beq_self_eq_true, Bool.false_eq_true, Bool.or_false, ↓reduceIte, Nat.reduceEqDiff, List.cons_append, List.nil_append]
        rw [hs]
        clear hs
        simp -dsimp -implicitDefEqProofs only [go_sem, ↓reduceIte, Nat.reduceEqDiff, Nat.reduceLT, Nat.reduceAdd, Nat.reduceMul, Nat.reduceLeDiff, Nat.le_refl, Int.natCast_zero, Int.toNat_natCast, Int.reduceToNat, li, gi, hd, hm, gk]
        repeat' first
          | (refine Br.intro (fun _ => ?_) (fun _ => ?_) <;> try simp -dsimp -implicitDefEqProofs only [go_sem, ↓reduceIte, Nat.reduceEqDiff, Nat.reduceLT, Nat.reduceAdd, Nat.reduceMul, Nat.reduceLeDiff, Nat.le_refl, Int.natCast_zero, Int.toNat_natCast, Int.reduceToNat, *])
          | (with_reducible refine And.intro ?_ ?_)
          | (refine Later.draw mixed rfl ?_; simp -dsimp -implicitDefEqProofs only [go_sem, ↓reduceIte, Nat.reduceEqDiff, Nat.reduceLT, Nat.reduceAdd, Nat.reduceMul, Nat.reduceLeDiff, Nat.le_refl, Int.natCast_zero, Int.toNat_natCast, Int.reduceToNat, li, gi, hd, hm, gk])
        all_goals first
          | omega
          | (refine ⟨?_, ?_⟩ <;> omega)
          | rfl
          | (simp_all; done)
          | (simp_all; omega)
          | trace_state
    · have hL := leastN_len xs h0 k hk
      rcases Nat.lt_or_ge k (rowsL xs).length with hk2 | hk2
      · rw [dif_pos hk2] at hL
        have hpos := h0 _ ((rowsL_mem xs _).1 (List.getElem_mem hk2))
        have hn : decide ((rowsL xs)[k] < 0) = false := by simp; omega
        simp -dsimp -implicitDefEqProofs only [pick_nil, pick_cons, look_nil, look_cons, dropB_nil, dropB_cons, inD_nil, inD_cons, inE_nil, inE_cons, or_t_l, or_f_l, Nat.reduceBEq, Nat.reduceDiv, Nat.reduceAdd, beq_self_eq_true, Bool.false_eq_true, Bool.or_false, ↓reduceIte, Nat.reduceEqDiff, List.cons_append, List.nil_append]
        rw [hL]
        clear hL
        simp -dsimp -implicitDefEqProofs only [go_sem, ↓reduceIte, Nat.reduceEqDiff, Nat.reduceLT, Nat.reduceAdd, Nat.reduceMul, Nat.reduceLeDiff, Nat.le_refl, Int.natCast_zero, Int.toNat_natCast, Int.reduceToNat, nlt_len, hn, hm]
        repeat' first
          | (refine Br.intro (fun _ => ?_) (fun _ => ?_) <;> try simp -dsimp -implicitDefEqProofs only [go_sem, ↓reduceIte, Nat.reduceEqDiff, Nat.reduceLT, Nat.reduceAdd, Nat.reduceMul, Nat.reduceLeDiff, Nat.le_refl, Int.natCast_zero, Int.toNat_natCast, Int.reduceToNat, *])
          | (with_reducible refine And.intro ?_ ?_)
        all_goals first
          | omega
          | rfl
          | (simp; done)
          | exact take_map_snoc eI hk2
          | (refine ⟨k + 1, by omega, by omega, ?_⟩
             simp -dsimp -implicitDefEqProofs only [go_sem, ↓reduceIte, Nat.reduceEqDiff, Nat.reduceLT, Nat.reduceAdd, Nat.reduceMul, Nat.reduceLeDiff, Nat.le_refl, Int.natCast_zero, Int.toNat_natCast, Int.reduceToNat, hm]
             repeat' (with_reducible refine And.intro ?_ ?_)
             all_goals first
               | omega
               | rfl
               | (simp; done)
               | exact take_map_snoc eI hk2
               | trace_state)
          | trace_state
      · rw [dif_neg (by omega)] at hL
        have : k = (rowsL xs).length := by omega
        subst this
        simp -dsimp -implicitDefEqProofs only [pick_nil, pick_cons, look_nil, look_cons, dropB_nil, dropB_cons, inD_nil, inD_cons, inE_nil, inE_cons, or_t_l, or_f_l, Nat.reduceBEq, Nat.reduceDiv, Nat.reduceAdd, beq_self_eq_true, Bool.false_eq_true, Bool.or_false, ↓reduceIte, Nat.reduceEqDiff, List.cons_append, List.nil_append]
        rw [hL]
        clear hL
        simp -dsimp -implicitDefEqProofs only [go_sem, ↓reduceIte, Nat.reduceEqDiff, Nat.reduceLT, Nat.reduceAdd, Nat.reduceMul, Nat.reduceLeDiff, Nat.le_refl, Int.natCast_zero, Int.toNat_natCast, Int.reduceToNat, nlt_len]
        repeat' first
          | (refine Br.intro (fun _ => ?_) (fun _ => ?_) <;> try simp -dsimp -implicitDefEqProofs only [go_sem, ↓reduceIte, Nat.reduceEqDiff, Nat.reduceLT, Nat.reduceAdd, Nat.reduceMul, Nat.reduceLeDiff, Nat.le_refl, Int.natCast_zero, Int.toNat_natCast, Int.reduceToNat, *])
          | (with_reducible refine And.intro ?_ ?_)
        all_goals first
          | omega
          | rfl
          | (simp; done)
          | (simp_all; done)
          | trace_state
end Go.Vc


/-
  Contracts: the source that hands out numbers.
-/
set_option linter.unusedVariables false
set_option linter.unusedSimpArgs false
set_option linter.unnecessarySimpa false
namespace Go.Vc
open Go.Proofs
set_option maxRecDepth 100000
attribute [go_sem] Option.map_none Nat.sub_zero
abbrev eY (b : UInt8) : AV := .val (.int .u8 b.toNat)
abbrev eYs (bs : List UInt8) : AV := .arr ⟨1, false⟩ (bs.map eY)
structure Src where
  seed : Int
  pos : Nat
def SrcOk (s : Src) : Prop := 0 ≤ s.seed ∧ s.seed < 2147483647
abbrev srcB (v : Nat) (bs : List UInt8) (s : Src) : Blk := .box v [eYs bs, eI s.pos, eI s.seed]
def nx (bs : List UInt8) (n : Int) (s : Src) : Int × Src :=
  if n ≤ 1 then (0, s) else
    if h : s.pos < bs.length then
      ((if n ≤ 256 ∧ ((s.pos : Int) + 1).tmod 2 = 0 then (bs[s.pos].toNat : Int) else ((s.seed * 48271 + 29).tmod 2147483647).tdiv 31 + (bs[s.pos].toNat : Int)).tmod n, ⟨(s.seed * 48271 + 29).tmod 2147483647, s.pos + 1⟩)
    else (((s.seed * 48271 + 29).tmod 2147483647).tdiv 31 |>.tmod n, ⟨(s.seed * 48271 + 29).tmod 2147483647, s.pos⟩)
theorem tmod_in {x n : Int} (hx : 0 ≤ x) (hn : 0 < n) : 0 ≤ x.tmod n ∧ x.tmod n < n := ⟨Int.tmod_nonneg _ hx, Int.tmod_lt_of_pos _ hn⟩
theorem nx_ok (bs : List UInt8) (n : Int) {s : Src} (h : SrcOk s) : 0 ≤ (nx bs n s).1 ∧ (n ≤ 1 → (nx bs n s).1 = 0) ∧ (1 < n → (nx bs n s).1 < n) ∧ SrcOk (nx bs n s).2 := by
  obtain ⟨h1, h2⟩ := h
  have hs := tmod_in (x := s.seed * 48271 + 29) (n := 2147483647) (by omega) (by omega)
  have hx : 0 ≤ ((s.seed * 48271 + 29).tmod 2147483647).tdiv 31 := Int.tdiv_nonneg hs.1 (by omega)
  unfold nx
  split
  · exact ⟨Int.le_refl _, fun _ => rfl, fun h => absurd h (by omega), h1, h2⟩
  · split
    · rename_i hn hp
      have hb : 0 ≤ (if n ≤ 256 ∧ ((s.pos : Int) + 1).tmod 2 = 0 then (bs[s.pos].toNat : Int) else ((s.seed * 48271 + 29).tmod 2147483647).tdiv 31 + (bs[s.pos].toNat : Int)) := by split <;> omega
      have := tmod_in (n := n) hb (by omega)
      exact ⟨this.1, fun h => absurd h hn, fun _ => this.2, hs⟩
    · rename_i hn hp
      have := tmod_in (n := n) hx (by omega)
      exact ⟨this.1, fun h => absurd h hn, fun _ => this.2, hs⟩
set_option maxHeartbeats 4000000 in
theorem c_l01Next (v : Nat) (bs : List UInt8) (n : Int) (s : Src) (h : SrcOk s) (hl : bs.length ≤ 4096) :
    FnM Try.prog 63 [srcB v bs s] [.ptr 1000000000 v 0 0, eI n] (fun x io => x = eI (nx bs n s).1 ∧ io = [srcB v bs (nx bs n s).2]) := by
  refine FnM.of_vcN 78 [.tmp 4] Try.func63 rfl rfl rfl rfl rfl (of_decide_eq_true rfl) ?_
  obtain ⟨h1, h2⟩ := h
  have hs := tmod_in (x := s.seed * 48271 + 29) (n := 2147483647) (by omega) (by omega)
  have hx : 0 ≤ ((s.seed * 48271 + 29).tmod 2147483647).tdiv 31 := Int.tdiv_nonneg hs.1 (by omega)
  have hx2 : ((s.seed * 48271 + 29).tmod 2147483647).tdiv 31 ≤ 2147483647 := by
    have : ((s.seed * 48271 + 29).tmod 2147483647).tdiv 31 ≤ (s.seed * 48271 + 29).tmod 2147483647 := Int.tdiv_le_self _ hs.1
    omega
  by_cases hn : n ≤ 1
  · have hF : nx bs n s = (0, s) := by rw [nx, if_pos hn]
    rw [hF]
    have hn' := decide_eq_true hn
    simp -dsimp -implicitDefEqProofs only [go_sem, ↓reduceIte, Nat.reduceEqDiff, Nat.reduceLT, Nat.reduceAdd, Nat.reduceMul, Nat.reduceLeDiff, Nat.le_refl, Int.natCast_zero, Int.toNat_natCast, Int.reduceToNat, hn']
    all_goals (first | omega | (refine ⟨?_, ?_⟩ <;> omega) | (simp; done) | (simp; omega) | (refine ⟨?_, ?_⟩ <;> omega) | (exact rfl) | (simp; done) | (simp_all; done) | (simp_all; omega) | (exfalso; simp_all [bne]; done) | trace_state)
  have hn' := decide_eq_false hn
  by_cases hp : s.pos < bs.length
  · have hF : nx bs n s = ((if n ≤ 256 ∧ ((s.pos : Int) + 1).tmod 2 = 0 then (bs[s.pos].toNat : Int) else ((s.seed * 48271 + 29).tmod 2147483647).tdiv 31 + (bs[s.pos].toNat : Int)).tmod n, ⟨(s.seed * 48271 + 29).tmod 2147483647, s.pos + 1⟩) := by
      rw [nx, if_neg hn, dif_pos hp]
    have hb : (bs[s.pos].toNat : Int) ≤ 255 := by have := bs[s.pos].toNat_lt; omega
    have gp := get_some hp
    have lp := lt_len hp
    have ep : ((s.pos : Int) + 1 - 1).toNat = s.pos := by omega
    rw [hF]
    clear hF
    generalize hz : bs[s.pos] = z at gp hb
    by_cases hc : n ≤ 256 ∧ ((s.pos : Int) + 1).tmod 2 = 0
    · rw [if_pos hc]
      have c1 := decide_eq_true hc.1
      have c2 : (((s.pos : Int) + 1).tmod 2 == 0) = true := beq_iff_eq.2 hc.2
      clear hc
      simp -dsimp -implicitDefEqProofs only [go_sem, ↓reduceIte, Nat.reduceEqDiff, Nat.reduceLT, Nat.reduceAdd, Nat.reduceMul, Nat.reduceLeDiff, Nat.le_refl, Int.natCast_zero, Int.toNat_natCast, Int.reduceToNat, hn']
      repeat' first
        | (refine Br.intro (fun _ => ?_) (fun _ => ?_) <;> try simp -dsimp -implicitDefEqProofs only [go_sem, ↓reduceIte, Nat.reduceEqDiff, Nat.reduceLT, Nat.reduceAdd, Nat.reduceMul, Nat.reduceLeDiff, Nat.le_refl, Int.natCast_zero, Int.toNat_natCast, Int.reduceToNat, *])
        | (with_reducible refine And.intro ?_ ?_)
        | (refine Later.draw mixed rfl ?_; try simp -dsimp -implicitDefEqProofs only [go_sem, ↓reduceIte, Nat.reduceEqDiff, Nat.reduceLT, Nat.reduceAdd, Nat.reduceMul, Nat.reduceLeDiff, Nat.le_refl, Int.natCast_zero, Int.toNat_natCast, Int.reduceToNat, lp, gp, ep])
      all_goals (first | omega | (refine ⟨?_, ?_⟩ <;> omega) | (simp; done) | (simp; omega) | (refine ⟨?_, ?_⟩ <;> omega) | (exact rfl) | (simp; done) | (simp_all; done) | (simp_all; omega) | (exfalso; simp_all [bne]; done) | trace_state)
    · rw [if_neg hc]
      have c3 : (decide (n ≤ 256) && (((s.pos : Int) + 1).tmod 2 == 0)) = false := by
        rw [Bool.eq_false_iff]; intro h; apply hc; simpa using h
      clear hc
      simp -dsimp -implicitDefEqProofs only [go_sem, ↓reduceIte, Nat.reduceEqDiff, Nat.reduceLT, Nat.reduceAdd, Nat.reduceMul, Nat.reduceLeDiff, Nat.le_refl, Int.natCast_zero, Int.toNat_natCast, Int.reduceToNat, hn']
      repeat' first
        | (refine Br.intro (fun _ => ?_) (fun _ => ?_) <;> try simp -dsimp -implicitDefEqProofs only [go_sem, ↓reduceIte, Nat.reduceEqDiff, Nat.reduceLT, Nat.reduceAdd, Nat.reduceMul, Nat.reduceLeDiff, Nat.le_refl, Int.natCast_zero, Int.toNat_natCast, Int.reduceToNat, *])
        | (with_reducible refine And.intro ?_ ?_)
        | (refine Later.draw mixed rfl ?_; try simp -dsimp -implicitDefEqProofs only [go_sem, ↓reduceIte, Nat.reduceEqDiff, Nat.reduceLT, Nat.reduceAdd, Nat.reduceMul, Nat.reduceLeDiff, Nat.le_refl, Int.natCast_zero, Int.toNat_natCast, Int.reduceToNat, lp, gp, ep])
      all_goals (first | omega | (refine ⟨?_, ?_⟩ <;> omega) | (simp; done) | (simp; omega) | (refine ⟨?_, ?_⟩ <;> omega) | (exact rfl) | (simp; done) | (simp_all; done) | (simp_all; omega) | (exfalso; simp_all [bne]; done) | trace_state)
  · have hF : nx bs n s = (((s.seed * 48271 + 29).tmod 2147483647).tdiv 31 |>.tmod n, ⟨(s.seed * 48271 + 29).tmod 2147483647, s.pos⟩) := by
      rw [nx, if_neg hn, dif_neg hp]
    have lp : decide ((s.pos : Int) < (bs.length : Int)) = false := decide_eq_false (by omega)
    rw [hF]
    clear hF
    simp -dsimp -implicitDefEqProofs only [go_sem, ↓reduceIte, Nat.reduceEqDiff, Nat.reduceLT, Nat.reduceAdd, Nat.reduceMul, Nat.reduceLeDiff, Nat.le_refl, Int.natCast_zero, Int.toNat_natCast, Int.reduceToNat, hn']
    repeat' first
      | (refine Br.intro (fun _ => ?_) (fun _ => ?_) <;> try simp -dsimp -implicitDefEqProofs only [go_sem, ↓reduceIte, Nat.reduceEqDiff, Nat.reduceLT, Nat.reduceAdd, Nat.reduceMul, Nat.reduceLeDiff, Nat.le_refl, Int.natCast_zero, Int.toNat_natCast, Int.reduceToNat, *])
      | (with_reducible refine And.intro ?_ ?_)
      | (refine Later.draw mixed rfl ?_; try simp -dsimp -implicitDefEqProofs only [go_sem, ↓reduceIte, Nat.reduceEqDiff, Nat.reduceLT, Nat.reduceAdd, Nat.reduceMul, Nat.reduceLeDiff, Nat.le_refl, Int.natCast_zero, Int.toNat_natCast, Int.reduceToNat, lp])
    all_goals (first | omega | (refine ⟨?_, ?_⟩ <;> omega) | (simp; done) | (simp; omega) | (refine ⟨?_, ?_⟩ <;> omega) | (exact rfl) | (simp; done) | (simp_all; done) | (simp_all; omega) | (exfalso; simp_all [bne]; done) | trace_state)
attribute [irreducible] nx
end Go.Vc


/-
  Codes, read as data.
-/
set_option linter.unusedVariables false
set_option linter.unusedSimpArgs false
set_option linter.unnecessarySimpa false
namespace Go.Vc
open Go.Proofs
set_option maxRecDepth 100000
theorem dec_Code : Dec Try.prog 22 (fun xs : List UInt8 => xs.length ≤ maxLen ∧ ∀ a ∈ xs, True) (fun xs => [eYs xs]) :=
  Dec.slice false 1 Try.underlying22 (by kernel_rfl) (by decide) (fun _ => rfl) (fun _ => rfl) (Dec.u8 Try.underlying5)
end Go.Vc


/-
  Contracts: picking from a list by the source; a source from a code.
-/
set_option linter.unusedVariables false
set_option linter.unusedSimpArgs false
set_option linter.unnecessarySimpa false
namespace Go.Vc
open Go.Proofs
set_option maxRecDepth 100000
def pk (bs : List UInt8) (xs : List Int) (s : Src) : Int × Src := (xs.getD (nx bs xs.length s).1.toNat 0, (nx bs xs.length s).2)
theorem pk_ok (bs : List UInt8) (xs : List Int) {s : Src} (h : SrcOk s) : SrcOk (pk bs xs s).2 := (nx_ok bs xs.length h).2.2.2
theorem pk_mem (bs : List UInt8) {xs : List Int} {s : Src} (h : SrcOk s) (h0 : xs ≠ []) : (pk bs xs s).1 ∈ xs := by
  obtain ⟨h1, h2, h3, _⟩ := nx_ok bs xs.length h
  have hl : 0 < xs.length := List.length_pos_iff.2 h0
  have : (nx bs xs.length s).1.toNat < xs.length := by
    by_cases h : (xs.length : Int) ≤ 1
    · rw [h2 h]; exact hl
    · have := h3 (by omega); omega
  show xs.getD _ 0 ∈ xs
  rw [List.getD_eq_getElem?_getD, List.getElem?_eq_getElem this]
  exact List.getElem_mem this
theorem c_l01Pick (v v2 : Nat) (d : Bool) (bs : List UInt8) (xs : List Int) (ys : List AV) (s : Src) (hy : ys = xs.map eI) (h0 : 0 < xs.length) (hx : xs.length ≤ 1000) (h : SrcOk s) (hl : bs.length ≤ 4096) :
    FnM Try.prog 92 [srcB v bs s, .row v2 ⟨1, false⟩ d ys] [.ptr 1000000000 v 0 0, .ref 1000000001 v2 0 xs.length] (fun x io => x = eI (pk bs xs s).1 ∧ io = [srcB v bs (pk bs xs s).2, .row v2 ⟨1, false⟩ d ys]) := by
  subst hy
  refine FnM.of_vcN 12 [.tmp 4] Try.func92 rfl rfl rfl rfl rfl (of_decide_eq_true rfl) ?_
  obtain ⟨h1, h2, h3, h4⟩ := nx_ok bs xs.length h
  have hc := fun v => c_l01Next v bs xs.length s h hl
  have hi : (nx bs xs.length s).1.toNat < xs.length := by
    by_cases h : (xs.length : Int) ≤ 1
    · rw [h2 h]; exact h0
    · have := h3 (by omega); omega
  have gi := get_some hi
  have hp : (pk bs xs s).1 = xs[(nx bs xs.length s).1.toNat] := by rw [pk]; simp [List.getD_eq_getElem?_getD, hi]
  have hp2 : (pk bs xs s).2 = (nx bs xs.length s).2 := rfl
  rw [hp, hp2]
  clear hp hp2
  simp -dsimp -implicitDefEqProofs only [go_sem, ↓reduceIte, Nat.reduceEqDiff, Nat.reduceLT, Nat.reduceAdd, Nat.reduceMul, Nat.reduceLeDiff, Nat.le_refl, Int.natCast_zero, Int.toNat_natCast, Int.reduceToNat]
  repeat' first
    | (with_reducible refine And.intro ?_ ?_)
    | (refine sCallT_io [1000000000] ?_; simp -dsimp -implicitDefEqProofs only [go_sem, ↓reduceIte, Nat.reduceEqDiff, Nat.reduceLT, Nat.reduceAdd, Nat.reduceMul, Nat.reduceLeDiff, Nat.le_refl, Int.natCast_zero, Int.toNat_natCast, Int.reduceToNat]; refine sCallM_one (hc _) ?_; simp -dsimp -implicitDefEqProofs only [go_sem, ↓reduceIte, Nat.reduceEqDiff, Nat.reduceLT, Nat.reduceAdd, Nat.reduceMul, Nat.reduceLeDiff, Nat.le_refl, Int.natCast_zero, Int.toNat_natCast, Int.reduceToNat, gi])
  all_goals first
    | omega
    | (refine ⟨?_, ?_⟩ <;> omega)
    | (refine ⟨?_, ?_⟩ <;> first | omega | rfl)
    | rfl
    | (simp; done)
    | trace_state
end Go.Vc


/-
  Contracts of the helpers of laws that draw: lists alike, sums; the source that follows from a code.
-/
set_option linter.unusedVariables false
set_option linter.unusedSimpArgs false
set_option linter.unnecessarySimpa false
namespace Go.Vc
open Go.Proofs
set_option maxRecDepth 100000
theorem c_big (bs : List UInt8) (h : bs.length ≤ 9223372036854775807) : Fn Try.prog 8 [eYs bs] true (· = eB (decide ((bs.length : Int) > 4096))) := by
  refine Fn.of_vcN 6 [.tmp 2] Try.func8 rfl rfl rfl rfl rfl (of_decide_eq_true rfl) ?_
  simp -dsimp -implicitDefEqProofs only [go_sem, ↓reduceIte, Nat.reduceEqDiff, Nat.reduceLT, Nat.reduceAdd, Nat.reduceMul, Nat.reduceLeDiff, Nat.le_refl, Int.natCast_zero, Int.toNat_natCast, Int.reduceToNat]
  repeat' (with_reducible refine And.intro ?_ ?_)
  all_goals first | omega | (simp; done)
theorem c_likeInts (xs ys : List Int) (h : xs.length ≤ 9223372036854775807) : Fn Try.prog 15 [eIs xs, eIs ys] true (· = eB (decide (xs = ys))) := by
  refine Fn.of_vcN 26 [.tmp 4] Try.func15 rfl rfl rfl rfl rfl (of_decide_eq_true rfl) ?_
  simp -dsimp -implicitDefEqProofs only [go_sem, ↓reduceIte, Nat.reduceEqDiff, Nat.reduceLT, Nat.reduceAdd, Nat.reduceMul, Nat.reduceLeDiff, Nat.le_refl, Int.natCast_zero, Int.toNat_natCast, Int.reduceToNat]
  repeat' (refine Br.intro (fun _ => ?_) (fun _ => ?_) <;> try simp -dsimp -implicitDefEqProofs only [go_sem, ↓reduceIte, Nat.reduceEqDiff, Nat.reduceLT, Nat.reduceAdd, Nat.reduceMul, Nat.reduceLeDiff, Nat.le_refl, Int.natCast_zero, Int.toNat_natCast, Int.reduceToNat, *])
  · rw [decide_eq_false]; intro e; subst e; simp_all
  have h1 : xs.length = ys.length := by simp_all <;> omega
  refine Later.up [0, 1] [13] [] xs.length (fun i => xs.take i = ys.take i) (fun i => [(5, eI i)]) (fun _ => []) rfl ?_ rfl (fun i hi hI => ?_) (fun hI => ?_)
  · simp -dsimp -implicitDefEqProofs only [go_sem, ↓reduceIte, Nat.reduceEqDiff, Nat.reduceLT, Nat.reduceAdd, Nat.reduceMul, Nat.reduceLeDiff, Nat.le_refl, Int.natCast_zero, Int.toNat_natCast, Int.reduceToNat]
  · simp -dsimp -implicitDefEqProofs only [pick_nil, pick_cons, look_nil, look_cons, dropB_nil, dropB_cons, inD_nil, inD_cons, inE_nil, inE_cons, or_t_l, or_f_l, Nat.reduceBEq, Nat.reduceDiv, Nat.reduceAdd, beq_self_eq_true, Bool.false_eq_true, Bool.or_false, ↓reduceIte, Nat.reduceEqDiff, List.cons_append, List.nil_append]
    have hy : i < ys.length := by omega
    have no : xs[i] ≠ ys[i] → decide (xs = ys) = false := eq_no hi hy
    have yes : xs[i] = ys[i] → xs.take (i + 1) = ys.take (i + 1) := eq_yes hi hy hI
    simp -dsimp -implicitDefEqProofs only [go_sem, ↓reduceIte, Nat.reduceEqDiff, Nat.reduceLT, Nat.reduceAdd, Nat.reduceMul, Nat.reduceLeDiff, Nat.le_refl, Int.natCast_zero, Int.toNat_natCast, Int.reduceToNat, lt_len hi, get_some hi]
    refine Later.draw mixed rfl ?_
    simp -dsimp -implicitDefEqProofs only [go_sem, ↓reduceIte, Nat.reduceEqDiff, Nat.reduceLT, Nat.reduceAdd, Nat.reduceMul, Nat.reduceLeDiff, Nat.le_refl, Int.natCast_zero, Int.toNat_natCast, Int.reduceToNat, get_some hi, get_some hy]
    repeat' first
      | (refine Br.intro (fun _ => ?_) (fun _ => ?_) <;> try simp -dsimp -implicitDefEqProofs only [go_sem, ↓reduceIte, Nat.reduceEqDiff, Nat.reduceLT, Nat.reduceAdd, Nat.reduceMul, Nat.reduceLeDiff, Nat.le_refl, Int.natCast_zero, Int.toNat_natCast, Int.reduceToNat, *])
      | (with_reducible refine And.intro ?_ ?_)
      | fail
    all_goals first
      | omega
      | (refine ⟨?_, ?_⟩ <;> omega)
      | rfl
      | (simp; done)
      | (rw [no]; clear no yes; simp_all; done)
      | (refine yes ?_; clear no yes; simp_all; done)
  · simp -dsimp -implicitDefEqProofs only [pick_nil, pick_cons, look_nil, look_cons, dropB_nil, dropB_cons, inD_nil, inD_cons, inE_nil, inE_cons, or_t_l, or_f_l, Nat.reduceBEq, Nat.reduceDiv, Nat.reduceAdd, beq_self_eq_true, Bool.false_eq_true, Bool.or_false, ↓reduceIte, Nat.reduceEqDiff, List.cons_append, List.nil_append]
    simp -dsimp -implicitDefEqProofs only [go_sem, ↓reduceIte, Nat.reduceEqDiff, Nat.reduceLT, Nat.reduceAdd, Nat.reduceMul, Nat.reduceLeDiff, Nat.le_refl, Int.natCast_zero, Int.toNat_natCast, Int.reduceToNat, nlt_len]
    have h3 : xs = ys := by rw [← List.take_length (l := xs), hI, h1, List.take_length]
    simp [h3]
def seedAt (bs : List UInt8) : Nat → Int
  | 0 => 30011
  | i + 1 => (seedAt bs i * 67 + ((bs.getD i 0).toNat : Int)).tmod 2147483647
theorem seedAt_ok (bs : List UInt8) : ∀ i, 0 ≤ seedAt bs i ∧ seedAt bs i < 2147483647
  | 0 => by simp [seedAt]
  | i + 1 => by
    have h := seedAt_ok bs i
    exact tmod_in (by have := (bs.getD i 0).toNat_lt; omega) (by omega)
def src0 (bs : List UInt8) : Src := ⟨seedAt bs (min bs.length 64), 0⟩
theorem src0_ok (bs : List UInt8) : SrcOk (src0 bs) := seedAt_ok bs _
theorem seedAt_succ {bs : List UInt8} {i : Nat} (h : i < bs.length) : seedAt bs (i + 1) = (seedAt bs i * 67 + ((bs[i]).toNat : Int)).tmod 2147483647 := by
  rw [seedAt, List.getD_eq_getElem?_getD, List.getElem?_eq_getElem h]; rfl
end Go.Vc


/-
  Contracts of the helpers of laws that draw: lists alike, elements.
-/
set_option linter.unusedVariables false
set_option linter.unusedSimpArgs false
set_option linter.unnecessarySimpa false
namespace Go.Vc
open Go.Proofs
set_option maxRecDepth 100000
theorem c_likeIntsE (xs : List Int) (h : xs.length ≤ 9223372036854775807) : Fn Try.prog 15 [eIs xs, eIs xs] true (· = eB true) := by
  have := c_likeInts xs xs h
  simpa using this
theorem zeroNe : ((0 : Int) != 0) = false := rfl
end Go.Vc


/-
  Contracts: keys of a maker; desks.
-/
set_option linter.unusedVariables false
set_option linter.unusedSimpArgs false
set_option linter.unnecessarySimpa false
namespace Go.Vc
open Go.Proofs
set_option maxRecDepth 100000
set_option maxHeartbeats 2000000
attribute [go_sem] Option.map_none Nat.sub_zero
def absN (x : Int) : Int := if x < -x then -x else x
def runAt (c : List Int) : Nat → Nat
  | 0 => 1
  | i + 1 => if c.getD (i + 1) 0 = c.getD i 0 then runAt c i + 1 else 1
theorem runAt_spec (c : List Int) (i : Nat) : 1 ≤ runAt c i ∧ runAt c i ≤ i + 1 ∧ (∀ j, j < runAt c i → c.getD (i - j) 0 = c.getD i 0) ∧ (runAt c i < i + 1 → c.getD (i - runAt c i) 0 ≠ c.getD i 0) := by
  induction i with
  | zero => exact ⟨Nat.le_refl _, Nat.le_refl _, fun j hj => by simp [runAt] at hj; subst hj; rfl, fun h => by simp [runAt] at h⟩
  | succ i ih =>
    obtain ⟨h1, h2, h3, h4⟩ := ih
    simp only [runAt]
    split
    · rename_i e
      refine ⟨by omega, by omega, fun j hj => ?_, fun hj => ?_⟩
      · rw [e]
        cases j with
        | zero => exact e
        | succ j => rw [show i + 1 - (j + 1) = i - j by omega]; exact h3 j (by omega)
      · rw [e, show i + 1 - (runAt c i + 1) = i - runAt c i by omega]; exact h4 (by omega)
    · rename_i e
      refine ⟨by omega, by omega, fun j hj => ?_, fun _ => ?_⟩
      · have : j = 0 := by omega
        subst this; rfl
      · show c.getD i 0 ≠ _
        exact fun h => e h.symm
theorem runAt_take (c : List Int) (n i : Nat) (h : i < n) : runAt (c.take n) i = runAt c i := by
  have g : ∀ j, j < n → (c.take n).getD j 0 = c.getD j 0 := fun j hj => by simp [List.getD_eq_getElem?_getD, List.getElem?_take, hj]
  induction i with
  | zero => rfl
  | succ i ih => simp only [runAt]; rw [g (i + 1) h, g i (by omega), ih (by omega)]
def runTo (c : List Int) (i : Nat) : Nat := if i = 0 then 0 else runAt c (i - 1)
def stepAt (m : MkM) (c : List Int) (i : Nat) : Bool := i == 0 || decide (absN (c.getD i 0 - c.getD (i - 1) 0) ≤ m.step)
def kindsTo (c : List Int) (n : Nat) : Nat := ((List.range n).filter fun i => !has (c.take i) (c.getD i 0)).length
theorem kindsTo_succ (c : List Int) (i : Nat) (h : i < c.length) : (kindsTo c (i + 1) : Int) = if (!has (c.take i) c[i]) = true then (kindsTo c i : Int) + 1 else kindsTo c i := by
  have g : c.getD i 0 = c[i] := by simp [List.getD_eq_getElem?_getD, h]
  rw [kindsTo, List.range_succ, List.filter_append, List.filter_cons, g]
  split <;> simp [kindsTo]
theorem kindsTo_le (c : List Int) (i : Nat) : kindsTo c i ≤ i := by
  rw [kindsTo]; exact Nat.le_trans (List.length_filter_le _ _) (by simp)
attribute [irreducible] runAt kindsTo
theorem c_l01Abs (x : Int) (h : -1000 ≤ x ∧ x ≤ 1000) : Fn Try.prog 180 [eI x] true (· = eI (absN x)) := by
  refine Fn.of_vcN 7 [.tmp 2] Try.func180 rfl rfl rfl rfl rfl (of_decide_eq_true rfl) ?_
  simp -dsimp -implicitDefEqProofs only [go_sem, ↓reduceIte, Nat.reduceEqDiff, Nat.reduceLT, Nat.reduceAdd, Nat.reduceMul, Nat.reduceLeDiff, Nat.le_refl, Int.natCast_zero, Int.toNat_natCast, Int.reduceToNat]
  repeat' first
    | (refine Br.intro (fun _ => ?_) (fun _ => ?_) <;> try simp -dsimp -implicitDefEqProofs only [go_sem, ↓reduceIte, Nat.reduceEqDiff, Nat.reduceLT, Nat.reduceAdd, Nat.reduceMul, Nat.reduceLeDiff, Nat.le_refl, Int.natCast_zero, Int.toNat_natCast, Int.reduceToNat, *])
    | (with_reducible refine And.intro ?_ ?_)
  all_goals first | omega | (refine ⟨?_, ?_⟩ <;> omega) | rfl | (simp; done) | (simp_all [absN]; done) | (simp_all [absN]; omega) | (simp_all [absN]; split <;> simp_all <;> omega) | trace_state
theorem c_l02Kinds (c : List Int) (h : c.length ≤ 1048576) : Fn Try.prog 178 [eIs c] true (· = eI (kindsTo c c.length)) := by
  refine Fn.of_vcN 23 [.tmp 2] Try.func178 rfl rfl rfl rfl rfl (of_decide_eq_true rfl) ?_
  simp -dsimp -implicitDefEqProofs only [go_sem, ↓reduceIte, Nat.reduceEqDiff, Nat.reduceLT, Nat.reduceAdd, Nat.reduceMul, Nat.reduceLeDiff, Nat.le_refl, Int.natCast_zero, Int.toNat_natCast, Int.reduceToNat]
  refine Later.up [0] [7, 18] [] c.length (fun _ => True) (fun i => [(4, eI i), (3, eI (kindsTo c i))]) (fun _ => []) trivial ?_ rfl (fun i hi _ => ?_) (fun _ => ?_)
  · simp -dsimp -implicitDefEqProofs only [go_sem, ↓reduceIte, Nat.reduceEqDiff, Nat.reduceLT, Nat.reduceAdd, Nat.reduceMul, Nat.reduceLeDiff, Nat.le_refl, Int.natCast_zero, Int.toNat_natCast, Int.reduceToNat]
    all_goals first | (simp [kindsTo]; done) | trace_state
  · have gi := get_some hi
    have li := lt_len hi
    have hs := kindsTo_succ c i hi
    have hle := kindsTo_le c i
    simp -dsimp -implicitDefEqProofs only [pick_nil, pick_cons, look_nil, look_cons, dropB_nil, dropB_cons, inD_nil, inD_cons, inE_nil, inE_cons, or_t_l, or_f_l, Nat.reduceBEq, Nat.reduceDiv, Nat.reduceAdd, beq_self_eq_true, Bool.false_eq_true, Bool.or_false, ↓reduceIte, Nat.reduceEqDiff, List.cons_append, List.nil_append]
    rw [hs]
    clear hs
    simp -dsimp -implicitDefEqProofs only [go_sem, ↓reduceIte, Nat.reduceEqDiff, Nat.reduceLT, Nat.reduceAdd, Nat.reduceMul, Nat.reduceLeDiff, Nat.le_refl, Int.natCast_zero, Int.toNat_natCast, Int.reduceToNat, li, gi]
    repeat' first
      | (refine Br.intro (fun _ => ?_) (fun _ => ?_) <;> try simp -dsimp -implicitDefEqProofs only [go_sem, ↓reduceIte, Nat.reduceEqDiff, Nat.reduceLT, Nat.reduceAdd, Nat.reduceMul, Nat.reduceLeDiff, Nat.le_refl, Int.natCast_zero, Int.toNat_natCast, Int.reduceToNat, *])
      | (with_reducible refine And.intro ?_ ?_)
      | (refine Later.draw mixed rfl ?_; try simp -dsimp -implicitDefEqProofs only [go_sem, ↓reduceIte, Nat.reduceEqDiff, Nat.reduceLT, Nat.reduceAdd, Nat.reduceMul, Nat.reduceLeDiff, Nat.le_refl, Int.natCast_zero, Int.toNat_natCast, Int.reduceToNat, *])
      | (rw [← List.map_take]; refine sCallX_one (c_l01Has (c.take i) c[i] (by simp; omega)) ?_; try simp -dsimp -implicitDefEqProofs only [go_sem, ↓reduceIte, Nat.reduceEqDiff, Nat.reduceLT, Nat.reduceAdd, Nat.reduceMul, Nat.reduceLeDiff, Nat.le_refl, Int.natCast_zero, Int.toNat_natCast, Int.reduceToNat, *])
    all_goals first
      | omega | (refine ⟨?_, ?_⟩ <;> omega) | (simp; done) | (simp; omega)
      | rfl
      | (simp_all; done)
      | (simp_all; omega)
      | trace_state
  · have hle := kindsTo_le c c.length
    simp -dsimp -implicitDefEqProofs only [pick_nil, pick_cons, look_nil, look_cons, dropB_nil, dropB_cons, inD_nil, inD_cons, inE_nil, inE_cons, or_t_l, or_f_l, Nat.reduceBEq, Nat.reduceDiv, Nat.reduceAdd, beq_self_eq_true, Bool.false_eq_true, Bool.or_false, ↓reduceIte, Nat.reduceEqDiff, List.cons_append, List.nil_append]
    simp -dsimp -implicitDefEqProofs only [go_sem, ↓reduceIte, Nat.reduceEqDiff, Nat.reduceLT, Nat.reduceAdd, Nat.reduceMul, Nat.reduceLeDiff, Nat.le_refl, Int.natCast_zero, Int.toNat_natCast, Int.reduceToNat, nlt_len]
end Go.Vc


/-
  Contracts: whether cuts are a key of a maker.
-/
set_option linter.unusedVariables false
set_option linter.unusedSimpArgs false
set_option linter.unnecessarySimpa false
namespace Go.Vc
open Go.Proofs
set_option maxRecDepth 100000
set_option maxHeartbeats 2000000
theorem isMk_same {m : MkM} (h : isMk m = true) : 1 ≤ m.same ∧ m.same ≤ 6 ∧ 1 ≤ m.least ∧ 1 ≤ m.step := by
  simp only [isMk, Bool.and_eq_true, isIn, decide_eq_true_eq] at h
  omega
end Go.Vc


/-
  All keys of a maker, in order: what visits them and what counts them, in plain Lean.
-/
set_option linter.unusedVariables false
set_option linter.unusedSimpArgs false
set_option linter.unnecessarySimpa false
namespace Go.Vc
open Go.Proofs
set_option maxRecDepth 100000
structure KS (σ : Type) where
  ver : Nat
  zs : List Int
  s : σ
def stepOk (m : MkM) (c : List Int) (d : Int) : Bool := c.isEmpty || decide (absN (d - c.getD (c.length - 1) 0) ≤ m.step)
def runOk (m : MkM) (c : List Int) (d : Int) : Bool := decide ((runAt (c ++ [d]) c.length : Int) ≤ m.same)
/-- whether cuts may begin a key -/
def okTo (m : MkM) (c : List Int) : Bool := (List.range c.length).all fun i => decide ((runAt c i : Int) ≤ m.same) && stepAt m c i
theorem stepAt_take {m : MkM} {c : List Int} {d : Int} {i : Nat} (h : i < c.length) : stepAt m (c ++ [d]) i = stepAt m c i := by
  have g : ∀ j, j < c.length → (c ++ [d]).getD j 0 = c.getD j 0 := fun j hj => by simp [List.getD_eq_getElem?_getD, List.getElem?_append_left hj]
  unfold stepAt
  rw [g i h, g (i - 1) (by omega)]
theorem runAt_app {c : List Int} {d : Int} {i : Nat} (h : i < c.length) : runAt (c ++ [d]) i = runAt c i := by
  have := runAt_take (c ++ [d]) c.length i h
  simp at this
  exact this.symm
theorem okTo_snoc (m : MkM) (c : List Int) (d : Int) : okTo m (c ++ [d]) = (okTo m c && (stepOk m c d && runOk m c d)) := by
  have h1 : (List.range c.length).all (fun i => decide ((runAt (c ++ [d]) i : Int) ≤ m.same) && stepAt m (c ++ [d]) i) = okTo m c := by
    unfold okTo
    rw [Bool.eq_iff_iff, List.all_eq_true, List.all_eq_true]
    constructor
    · intro h i hi
      have := h i hi
      rwa [runAt_app (List.mem_range.1 hi), stepAt_take (List.mem_range.1 hi)] at this
    · intro h i hi
      rw [runAt_app (List.mem_range.1 hi), stepAt_take (List.mem_range.1 hi)]
      exact h i hi
  have h2 : stepAt m (c ++ [d]) c.length = stepOk m c d := by
    unfold stepAt stepOk
    cases c with
    | nil => simp
    | cons x r =>
      have g1 : ((x :: r) ++ [d]).getD (x :: r).length 0 = d := by simp [List.getD_eq_getElem?_getD]
      have g2 : ((x :: r) ++ [d]).getD ((x :: r).length - 1) 0 = (x :: r).getD ((x :: r).length - 1) 0 := by
        simp only [List.getD_eq_getElem?_getD]
        rw [List.getElem?_append_left (by simp)]
      rw [g1, g2]
      simp
  rw [okTo, List.length_append, show c.length + [d].length = c.length + 1 by rfl, range_all_succ, h1, h2]
  unfold runOk
  cases okTo m c <;> cases stepOk m c d <;> simp
theorem take_app {key : List Int} {i : Nat} (h : i < key.length) : key.take (i + 1) = key.take i ++ [key.getD i 0] := by
  rw [List.take_add_one]
  simp [List.getD_eq_getElem?_getD, h]
theorem okTo_take {m : MkM} {key : List Int} (h : okTo m key = true) : ∀ j, okTo m (key.take (key.length - j)) = true
  | 0 => by simpa using h
  | j + 1 => by
    have ih := okTo_take h j
    by_cases e : j < key.length
    · rw [show key.length - j = key.length - (j + 1) + 1 by omega, take_app (by omega), okTo_snoc] at ih
      simp only [Bool.and_eq_true] at ih
      exact ih.1
    · rw [show key.length - (j + 1) = key.length - j by omega]; exact ih
theorem okTo_take' {m : MkM} {key : List Int} (h : okTo m key = true) {i : Nat} (hi : i ≤ key.length) : okTo m (key.take i) = true := by
  have := okTo_take h (key.length - i)
  rwa [show key.length - (key.length - i) = i by omega] at this
end Go.Vc


/-
  Contracts: what counts keys by their beginnings; codes of keys.
-/
set_option linter.unusedVariables false
set_option linter.unusedSimpArgs false
set_option linter.unnecessarySimpa false
namespace Go.Vc
open Go.Proofs
set_option maxRecDepth 100000
set_option maxHeartbeats 2000000
def okAt (m : MkM) (c : List Int) (i : Nat) : Bool := decide ((runAt c i : Int) ≤ m.same) && stepAt m c i
theorem c_l02Begins (m : MkM) (c : List Int) (hm : isMk m = true) (h : c.length ≤ 6) (hel : ∀ x ∈ c, 0 ≤ x ∧ x ≤ 7) : Fn Try.prog 177 [eMk m, eIs c] true (· = eB (okTo m c)) := by
  refine Fn.of_vcN 53 [.tmp 4] Try.func177 rfl rfl rfl rfl rfl (of_decide_eq_true rfl) ?_
  have hF : okTo m c = (List.range c.length).all (okAt m c) := rfl
  simp -dsimp -implicitDefEqProofs only [go_sem, ↓reduceIte, Nat.reduceEqDiff, Nat.reduceLT, Nat.reduceAdd, Nat.reduceMul, Nat.reduceLeDiff, Nat.le_refl, Int.natCast_zero, Int.toNat_natCast, Int.reduceToNat]
  refine Later.up [1, 2] [9, 47] [] c.length (fun i => (List.range i).all (okAt m c) = true) (fun i => [(6, eI i), (5, eI (runTo c i))]) (fun _ => []) (by simp) ?_ rfl (fun i hi hI => ?_) (fun hI => ?_)
  · rw [show runTo c 0 = 0 from rfl]
    simp -dsimp -implicitDefEqProofs only [go_sem, ↓reduceIte, Nat.reduceEqDiff, Nat.reduceLT, Nat.reduceAdd, Nat.reduceMul, Nat.reduceLeDiff, Nat.le_refl, Int.natCast_zero, Int.toNat_natCast, Int.reduceToNat]
    all_goals (first | omega | (refine ⟨?_, ?_⟩ <;> omega) | (simp; done) | (simp; omega) | (refine ⟨?_, ?_⟩ <;> omega) | rfl | (simp; done) | (simp_all; done) | (simp_all; omega) | (exfalso; simp_all [bne]; done) | trace_state)
  · have no : okAt m c i = false → okTo m c = false := fun h => by rw [hF]; exact range_all_no hi h
    have yes : okAt m c i = true → (List.range (i + 1)).all (okAt m c) = true := fun h => by rw [range_all_succ, hI, h]; rfl
    have hrb : runTo c i ≤ i ∧ runTo c (i + 1) ≤ i + 1 := by
      refine ⟨?_, (runAt_spec c i).2.1⟩
      rw [runTo]; split
      · omega
      · have := (runAt_spec c (i - 1)).2.1; omega
    have e1 := hel c[i] (List.getElem_mem hi)
    have gi := get_some hi
    have li := lt_len hi
    have hok : okAt m c i = (decide (((runTo c (i + 1) : Nat) : Int) ≤ m.same) && stepAt m c i) := rfl
    clear hF hI
    by_cases hi0 : 0 < i
    rotate_left
    · have g3 : decide ((i : Int) > 0) = false := by simp; omega
      have hR : runTo c i = 0 ∧ runTo c (i + 1) = 1 := by
        have e0 : i = 0 := by omega
        subst e0
        exact ⟨rfl, by show runAt c 0 = 1; unfold runAt; rfl⟩
      have hs : okAt m c i = true := by
        have e0 : i = 0 := by omega
        have := isMk_same hm
        rw [hok, hR.2]
        subst e0
        have : decide (((1 : Nat) : Int) ≤ m.same) = true := decide_eq_true (by omega)
        rw [this]; rfl
      have hsame : decide ((1 : Int) > m.same) = false := decide_eq_false (by have := isMk_same hm; omega)
      rw [hR.1, hR.2]
      clear hR hrb no
      have yes := yes hs
      simp -dsimp -implicitDefEqProofs only [pick_nil, pick_cons, look_nil, look_cons, dropB_nil, dropB_cons, inD_nil, inD_cons, inE_nil, inE_cons, or_t_l, or_f_l, Nat.reduceBEq, Nat.reduceDiv, Nat.reduceAdd, beq_self_eq_true, Bool.false_eq_true, Bool.or_false, ↓reduceIte, Nat.reduceEqDiff, List.cons_append, List.nil_append]
      simp -dsimp -implicitDefEqProofs only [go_sem, ↓reduceIte, Nat.reduceEqDiff, Nat.reduceLT, Nat.reduceAdd, Nat.reduceMul, Nat.reduceLeDiff, Nat.le_refl, Int.natCast_zero, Int.toNat_natCast, Int.reduceToNat, li, gi, g3]
      repeat' first
        | (refine Br.intro (fun _ => ?_) (fun _ => ?_) <;> try simp -dsimp -implicitDefEqProofs only [go_sem, ↓reduceIte, Nat.reduceEqDiff, Nat.reduceLT, Nat.reduceAdd, Nat.reduceMul, Nat.reduceLeDiff, Nat.le_refl, Int.natCast_zero, Int.toNat_natCast, Int.reduceToNat, *])
        | (with_reducible refine And.intro ?_ ?_)
        | (refine Later.draw mixed rfl ?_; try simp -dsimp -implicitDefEqProofs only [go_sem, ↓reduceIte, Nat.reduceEqDiff, Nat.reduceLT, Nat.reduceAdd, Nat.reduceMul, Nat.reduceLeDiff, Nat.le_refl, Int.natCast_zero, Int.toNat_natCast, Int.reduceToNat, li, gi, g3, hsame])
      all_goals first
        | exact yes
        | (first | omega | (refine ⟨?_, ?_⟩ <;> omega) | (simp; done) | (simp; omega) | (refine ⟨?_, ?_⟩ <;> omega) | rfl | (simp; done) | (simp_all; done) | (simp_all; omega) | (exfalso; simp_all [bne]; done) | trace_state)
    · have hi' : i - 1 < c.length := by omega
      have e2 := hel c[i - 1] (List.getElem_mem hi')
      have g2 : c[((i : Int) - 1).toNat]? = some c[i - 1] := by rw [pred_toNat hi0]; exact get_some hi'
      have g3 : decide ((i : Int) > 0) = true := by simp; omega
      have hs : stepAt m c i = !decide (absN (c[i] - c[i - 1]) > m.step) := by
        rw [stepAt, show (i == 0) = false by simp; omega]
        have q1 : c.getD i 0 = c[i] := by simp [List.getD_eq_getElem?_getD, hi]
        have q2 : c.getD (i - 1) 0 = c[i - 1] := by simp [List.getD_eq_getElem?_getD, hi']
        rw [q1, q2, Bool.false_or]
        by_cases hq : absN (c[i] - c[i - 1]) ≤ m.step
        · rw [decide_eq_true hq, decide_eq_false (by omega)]; rfl
        · rw [decide_eq_false hq, decide_eq_true (by omega)]; rfl
      have hR : ((runTo c (i + 1) : Nat) : Int) = if (c[i] == c[i - 1]) = true then (runTo c i : Int) + 1 else 0 + 1 := by
        obtain ⟨j, rfl⟩ : ∃ j, i = j + 1 := ⟨i - 1, by omega⟩
        rw [show runTo c (j + 1 + 1) = runAt c (j + 1) from rfl, show runTo c (j + 1) = runAt c j from rfl, runAt]
        simp only [Nat.add_sub_cancel]
        have q1 : c.getD (j + 1) 0 = c[j + 1] := by simp [List.getD_eq_getElem?_getD, hi]
        have q2 : c.getD j 0 = c[j] := by simp [List.getD_eq_getElem?_getD, show j < c.length by omega]
        rw [q1, q2]
        by_cases hq : c[j + 1] = c[j]
        · rw [if_pos hq, if_pos (by simpa using hq)]; simp
        · rw [if_neg hq, if_neg (by simpa using hq)]; simp
      have hok2 : okAt m c i = (!decide (((runTo c (i + 1) : Nat) : Int) > m.same) && !decide (absN (c[i] - c[i - 1]) > m.step)) := by
        rw [hok, hs]
        congr 1
        by_cases hq : ((runTo c (i + 1) : Nat) : Int) ≤ m.same
        · rw [decide_eq_true hq, decide_eq_false (by omega)]; rfl
        · rw [decide_eq_false hq, decide_eq_true (by omega)]; rfl
      clear hok hs
      rw [hok2] at no yes
      clear hok2
      have habs := c_l01Abs (c[i] - c[i - 1]) (by omega)
      rcases hq1 : (c[i] == c[i - 1]) with _ | _
      all_goals
        rw [hq1] at hR
        simp only [if_true, Bool.false_eq_true, if_false] at hR
        have hne : (c[i] != c[i - 1]) = !(c[i] == c[i - 1]) := rfl
        rw [hq1] at hne
        rw [hR] at no yes
        rcases hq2 : decide (absN (c[i] - c[i - 1]) > m.step) with _ | _
      all_goals
        first
          | (rcases hq3 : decide ((runTo c i : Int) + 1 > m.same) with _ | _)
          | skip
      all_goals
        generalize runTo c i = R at *
        generalize runTo c (i + 1) = R' at *
        simp -dsimp -implicitDefEqProofs only [pick_nil, pick_cons, look_nil, look_cons, dropB_nil, dropB_cons, inD_nil, inD_cons, inE_nil, inE_cons, or_t_l, or_f_l, Nat.reduceBEq, Nat.reduceDiv, Nat.reduceAdd, beq_self_eq_true, Bool.false_eq_true, Bool.or_false, ↓reduceIte, Nat.reduceEqDiff, List.cons_append, List.nil_append]
        try rw [hR]
        simp -dsimp -implicitDefEqProofs only [go_sem, ↓reduceIte, Nat.reduceEqDiff, Nat.reduceLT, Nat.reduceAdd, Nat.reduceMul, Nat.reduceLeDiff, Nat.le_refl, Int.natCast_zero, Int.toNat_natCast, Int.reduceToNat, li, gi, g2, g3]
        repeat' first
          | (refine Br.intro (fun _ => ?_) (fun _ => ?_) <;> try simp -dsimp -implicitDefEqProofs only [go_sem, ↓reduceIte, Nat.reduceEqDiff, Nat.reduceLT, Nat.reduceAdd, Nat.reduceMul, Nat.reduceLeDiff, Nat.le_refl, Int.natCast_zero, Int.toNat_natCast, Int.reduceToNat, *])
          | (with_reducible refine And.intro ?_ ?_)
          | (refine Later.draw mixed rfl ?_; try simp -dsimp -implicitDefEqProofs only [go_sem, ↓reduceIte, Nat.reduceEqDiff, Nat.reduceLT, Nat.reduceAdd, Nat.reduceMul, Nat.reduceLeDiff, Nat.le_refl, Int.natCast_zero, Int.toNat_natCast, Int.reduceToNat, li, gi, g2, g3])
          | (refine sCallX_one (habs) ?_; try simp -dsimp -implicitDefEqProofs only [go_sem, ↓reduceIte, Nat.reduceEqDiff, Nat.reduceLT, Nat.reduceAdd, Nat.reduceMul, Nat.reduceLeDiff, Nat.le_refl, Int.natCast_zero, Int.toNat_natCast, Int.reduceToNat, *])
        all_goals first
          | (rw [no (by simp_all)]; done)
          | (rw [← List.range_succ]; exact yes (by simp_all))
          | (first | omega | (refine ⟨?_, ?_⟩ <;> omega) | (simp; done) | (simp; omega) | (refine ⟨?_, ?_⟩ <;> omega) | rfl | (simp; done) | (simp_all; done) | (simp_all; omega) | (exfalso; simp_all [bne]; done) | trace_state)
  · rw [← hF] at hI
    rw [hI]
    simp -dsimp -implicitDefEqProofs only [pick_nil, pick_cons, look_nil, look_cons, dropB_nil, dropB_cons, inD_nil, inD_cons, inE_nil, inE_cons, or_t_l, or_f_l, Nat.reduceBEq, Nat.reduceDiv, Nat.reduceAdd, beq_self_eq_true, Bool.false_eq_true, Bool.or_false, ↓reduceIte, Nat.reduceEqDiff, List.cons_append, List.nil_append]
    simp -dsimp -implicitDefEqProofs only [go_sem, ↓reduceIte, Nat.reduceEqDiff, Nat.reduceLT, Nat.reduceAdd, Nat.reduceMul, Nat.reduceLeDiff, Nat.le_refl, Int.natCast_zero, Int.toNat_natCast, Int.reduceToNat, nlt_len]
end Go.Vc


/-
  Contracts: the first key that begins with some cuts, the next key.
-/
set_option linter.unusedVariables false
set_option linter.unusedSimpArgs false
set_option linter.unnecessarySimpa false
namespace Go.Vc
open Go.Proofs
set_option maxRecDepth 100000
set_option maxHeartbeats 2000000
/- ---- plain -/
def firstD (f : Nat → Option (List Int)) : Nat → Option (List Int)
  | 0 => none
  | d + 1 => match firstD f d with
    | some k => some k
    | none => f d
def firstK (m : MkM) : Nat → List Int → Option (List Int)
  | 0, c => if okTo m c = true ∧ m.least ≤ (kindsTo c c.length : Int) then some c else none
  | n + 1, c => if okTo m c = true then firstD (fun (d : Nat) => firstK m n (c ++ [(d : Int)])) m.depths.toNat else none
theorem firstD_out {f : Nat → Option (List Int)} {k : List Int} : ∀ {D : Nat}, firstD f D = some k → ∃ d, d < D ∧ f d = some k
  | D + 1, h => by
    simp only [firstD] at h
    cases hh : firstD f D with
    | some k' =>
      rw [hh] at h
      obtain ⟨d, h1, h2⟩ := firstD_out hh
      exact ⟨d, by omega, h2.trans h⟩
    | none => rw [hh] at h; exact ⟨D, by omega, h⟩
theorem firstD_none {f : Nat → Option (List Int)} {D : Nat} (h : firstD f D = none) : firstD f (D + 1) = f D := by simp [firstD, h]
theorem firstD_some {f : Nat → Option (List Int)} {D : Nat} {k : List Int} (h : firstD f D = some k) : ∀ E, D ≤ E → firstD f E = some k
  | 0, hE => by rw [show D = 0 by omega] at h; cases h
  | E + 1, hE => by
    by_cases e : D = E + 1
    · rw [← e]; exact h
    · simp only [firstD]; rw [firstD_some h E (by omega)]
def optR (o : Option (List Int)) : AV := match o with
  | some k => .tup [eIs k, eB true]
  | none => .tup [.val (.slice none 0 0), eB false]
/-- what l02First tells: the key; or cuts, of which it says that they are none -/
def firstR (m : MkM) (n : Nat) (c : List Int) (r : AV) : Prop := match firstK m n c with
  | some k => r = .tup [eIs k, eB true]
  | none => ∃ x, r = .tup [x, eB false] ∧ (x = .val (.slice none 0 0) ∨ x = eIs c)
theorem c_l02First (m : MkM) (hm : isMk m = true) : ∀ (n : Nat) (c : List Int), (c.length : Int) + n = m.chambers → (∀ x ∈ c, 0 ≤ x ∧ x ≤ 7) → Fn Try.prog 169 [eMk m, eIs c] false (firstR m n c) := by
  intro n
  have ⟨⟨hch1, hch2⟩, hd1, hd2⟩ := isMk_num hm
  induction n with
  | zero =>
    intro c hl hc
    refine Fn.of_vcS 42 [.tmp 4, .tmp 5] Try.func169 rfl rfl rfl rfl rfl (of_decide_eq_true rfl) ?_
    have hbe := c_l02Begins m c hm (by omega) hc
    have hk : ((c.length : Int) == m.chambers) = true := beq_iff_eq.2 (by omega)
    have hki := c_l02Kinds c (by omega)
    unfold firstR
    rcases hb : okTo m c with _ | _
    · have hcnt : firstK m 0 c = none := by rw [firstK, if_neg (by rw [hb]; exact fun h => by cases h.1)]
      rw [hb] at hbe
      rw [hcnt]
      clear hcnt hb
      simp -dsimp -implicitDefEqProofs only [go_sem, ↓reduceIte, Nat.reduceEqDiff, Nat.reduceLT, Nat.reduceAdd, Nat.reduceMul, Nat.reduceLeDiff, Nat.le_refl, Int.natCast_zero, Int.toNat_natCast, Int.reduceToNat]
      (refine sCallT_one (hbe) ?_; try simp -dsimp -implicitDefEqProofs only [go_sem, ↓reduceIte, Nat.reduceEqDiff, Nat.reduceLT, Nat.reduceAdd, Nat.reduceMul, Nat.reduceLeDiff, Nat.le_refl, Int.natCast_zero, Int.toNat_natCast, Int.reduceToNat, *])
      exact ⟨_, rfl, .inl rfl⟩
    · rw [hb] at hbe
      rcases hq : decide ((kindsTo c c.length : Int) ≥ m.least) with _ | _
      · have hcnt : firstK m 0 c = none := by rw [firstK, if_neg (fun h => by have := of_decide_eq_false hq; omega)]
        rw [hcnt]
        clear hcnt hb
        simp -dsimp -implicitDefEqProofs only [go_sem, ↓reduceIte, Nat.reduceEqDiff, Nat.reduceLT, Nat.reduceAdd, Nat.reduceMul, Nat.reduceLeDiff, Nat.le_refl, Int.natCast_zero, Int.toNat_natCast, Int.reduceToNat]
        (refine sCallT_one (hbe) ?_; try simp -dsimp -implicitDefEqProofs only [go_sem, ↓reduceIte, Nat.reduceEqDiff, Nat.reduceLT, Nat.reduceAdd, Nat.reduceMul, Nat.reduceLeDiff, Nat.le_refl, Int.natCast_zero, Int.toNat_natCast, Int.reduceToNat, *])
        refine Later.draw mixed rfl ?_
        simp -dsimp -implicitDefEqProofs only [go_sem, ↓reduceIte, Nat.reduceEqDiff, Nat.reduceLT, Nat.reduceAdd, Nat.reduceMul, Nat.reduceLeDiff, Nat.le_refl, Int.natCast_zero, Int.toNat_natCast, Int.reduceToNat]
        (refine sCallX_one (hki) ?_; try simp -dsimp -implicitDefEqProofs only [go_sem, ↓reduceIte, Nat.reduceEqDiff, Nat.reduceLT, Nat.reduceAdd, Nat.reduceMul, Nat.reduceLeDiff, Nat.le_refl, Int.natCast_zero, Int.toNat_natCast, Int.reduceToNat, *])
        exact ⟨by exact rfl, _, rfl, .inr rfl⟩
      · have hcnt : firstK m 0 c = some c := by rw [firstK, if_pos ⟨hb, by have := of_decide_eq_true hq; omega⟩]
        rw [hcnt]
        clear hcnt hb
        simp -dsimp -implicitDefEqProofs only [go_sem, ↓reduceIte, Nat.reduceEqDiff, Nat.reduceLT, Nat.reduceAdd, Nat.reduceMul, Nat.reduceLeDiff, Nat.le_refl, Int.natCast_zero, Int.toNat_natCast, Int.reduceToNat]
        (refine sCallT_one (hbe) ?_; try simp -dsimp -implicitDefEqProofs only [go_sem, ↓reduceIte, Nat.reduceEqDiff, Nat.reduceLT, Nat.reduceAdd, Nat.reduceMul, Nat.reduceLeDiff, Nat.le_refl, Int.natCast_zero, Int.toNat_natCast, Int.reduceToNat, *])
        refine Later.draw mixed rfl ?_
        simp -dsimp -implicitDefEqProofs only [go_sem, ↓reduceIte, Nat.reduceEqDiff, Nat.reduceLT, Nat.reduceAdd, Nat.reduceMul, Nat.reduceLeDiff, Nat.le_refl, Int.natCast_zero, Int.toNat_natCast, Int.reduceToNat]
        (refine sCallX_one (hki) ?_; try simp -dsimp -implicitDefEqProofs only [go_sem, ↓reduceIte, Nat.reduceEqDiff, Nat.reduceLT, Nat.reduceAdd, Nat.reduceMul, Nat.reduceLeDiff, Nat.le_refl, Int.natCast_zero, Int.toNat_natCast, Int.reduceToNat, *])
        exact rfl
  | succ n ih =>
    intro c hl hc
    refine Fn.of_vcS 42 [.tmp 4, .tmp 5] Try.func169 rfl rfl rfl rfl rfl (of_decide_eq_true rfl) ?_
    have hbe := c_l02Begins m c hm (by omega) hc
    have hk : ((c.length : Int) == m.chambers) = false := beq_eq_false_iff_ne.2 (by omega)
    unfold firstR
    rcases hb : okTo m c with _ | _
    · have hcnt : firstK m (n + 1) c = none := by rw [firstK, if_neg (by rw [hb]; exact fun h => by cases h)]
      rw [hb] at hbe
      rw [hcnt]
      clear hcnt hb
      simp -dsimp -implicitDefEqProofs only [go_sem, ↓reduceIte, Nat.reduceEqDiff, Nat.reduceLT, Nat.reduceAdd, Nat.reduceMul, Nat.reduceLeDiff, Nat.le_refl, Int.natCast_zero, Int.toNat_natCast, Int.reduceToNat]
      (refine sCallT_one (hbe) ?_; try simp -dsimp -implicitDefEqProofs only [go_sem, ↓reduceIte, Nat.reduceEqDiff, Nat.reduceLT, Nat.reduceAdd, Nat.reduceMul, Nat.reduceLeDiff, Nat.le_refl, Int.natCast_zero, Int.toNat_natCast, Int.reduceToNat, *])
      exact ⟨_, rfl, .inl rfl⟩
    · have hcnt : firstK m (n + 1) c = firstD (fun (d : Nat) => firstK m n (c ++ [(d : Int)])) m.depths.toNat := by rw [firstK, if_pos hb]
      rw [hb] at hbe
      rw [hcnt]
      clear hcnt hb
      have hown := c_l01Own c (by omega)
      simp -dsimp -implicitDefEqProofs only [go_sem, ↓reduceIte, Nat.reduceEqDiff, Nat.reduceLT, Nat.reduceAdd, Nat.reduceMul, Nat.reduceLeDiff, Nat.le_refl, Int.natCast_zero, Int.toNat_natCast, Int.reduceToNat]
      (refine sCallT_one (hbe) ?_; try simp -dsimp -implicitDefEqProofs only [go_sem, ↓reduceIte, Nat.reduceEqDiff, Nat.reduceLT, Nat.reduceAdd, Nat.reduceMul, Nat.reduceLeDiff, Nat.le_refl, Int.natCast_zero, Int.toNat_natCast, Int.reduceToNat, *])
      refine Later.up [1, 2] [33, 35, 36, 37] [] m.depths.toNat (fun i => firstD (fun (d : Nat) => firstK m n (c ++ [(d : Int)])) i = none) (fun i => [(6, eI i)]) (fun _ => []) rfl ?_ rfl (fun i hi hI => ?_) (fun hI => ?_)
      · simp -dsimp -implicitDefEqProofs only [go_sem, ↓reduceIte, Nat.reduceEqDiff, Nat.reduceLT, Nat.reduceAdd, Nat.reduceMul, Nat.reduceLeDiff, Nat.le_refl, Int.natCast_zero, Int.toNat_natCast, Int.reduceToNat]
      · have hih := ih (c ++ [(i : Int)]) (by simp; omega) (fun x hx => by
          rcases List.mem_append.1 hx with h | h
          · exact hc x h
          · simp at h; omega)
        have hlt : decide ((i : Int) < m.depths) = true := decide_eq_true (by omega)
        have hmap : List.map eI c ++ [eI (i : Int)] = List.map eI (c ++ [(i : Int)]) := by simp
        have htk : List.take c.length (List.map eI c) = List.map eI c := List.take_of_length_le (by simp)
        have htl : List.take (c.length + 1) (List.map eI (c ++ [(i : Int)])) = List.map eI (c ++ [(i : Int)]) := List.take_of_length_le (by simp)
        have hnx := firstD_none hI
        have hend : ∀ k, firstK m n (c ++ [(i : Int)]) = some k → firstD (fun (d : Nat) => firstK m n (c ++ [(d : Int)])) m.depths.toNat = some k := fun k hk => firstD_some (hnx.trans hk) _ (by omega)
        rw [hnx]
        clear ih hI hnx
        unfold firstR at hih
        generalize firstK m n (c ++ [(i : Int)]) = F at *
        simp -dsimp -implicitDefEqProofs only [pick_nil, pick_cons, look_nil, look_cons, dropB_nil, dropB_cons, inD_nil, inD_cons, inE_nil, inE_cons, or_t_l, or_f_l, Nat.reduceBEq, Nat.reduceDiv, Nat.reduceAdd, beq_self_eq_true, Bool.false_eq_true, Bool.or_false, ↓reduceIte, Nat.reduceEqDiff, List.cons_append, List.nil_append]
        simp -dsimp -implicitDefEqProofs only [go_sem, ↓reduceIte, Nat.reduceEqDiff, Nat.reduceLT, Nat.reduceAdd, Nat.reduceMul, Nat.reduceLeDiff, Nat.le_refl, Int.natCast_zero, Int.toNat_natCast, Int.reduceToNat, hlt]
        refine Later.duo 6 mixed rfl ?_
        simp -dsimp -implicitDefEqProofs only [List.take_succ_cons, List.take_zero, List.drop_succ_cons, List.drop_zero]
        simp -dsimp -implicitDefEqProofs only [go_sem, ↓reduceIte, Nat.reduceEqDiff, Nat.reduceLT, Nat.reduceAdd, Nat.reduceMul, Nat.reduceLeDiff, Nat.le_refl, Int.natCast_zero, Int.toNat_natCast, Int.reduceToNat]
        (refine sCallX_one (hown) ?_; try simp -dsimp -implicitDefEqProofs only [go_sem, ↓reduceIte, Nat.reduceEqDiff, Nat.reduceLT, Nat.reduceAdd, Nat.reduceMul, Nat.reduceLeDiff, Nat.le_refl, Int.natCast_zero, Int.toNat_natCast, Int.reduceToNat, *])
        refine ⟨by omega, ?_⟩
        refine ⟨by exact rfl, ?_⟩
        refine sCallT_frz 34000 1 ⟨1, false⟩ true (List.map eI (c ++ [(i : Int)])) hih (by decide) ?_ ?_ fun r hr => ?_
        · simp -dsimp -implicitDefEqProofs only [go_sem, ↓reduceIte, Nat.reduceEqDiff, Nat.reduceLT, Nat.reduceAdd, Nat.reduceMul, Nat.reduceLeDiff, Nat.le_refl, Int.natCast_zero, Int.toNat_natCast, Int.reduceToNat]
        · refine frzOk_no ?_ rfl ?_
          · simp -dsimp -implicitDefEqProofs only [go_sem, ↓reduceIte, Nat.reduceEqDiff, Nat.reduceLT, Nat.reduceAdd, Nat.reduceMul, Nat.reduceLeDiff, Nat.le_refl, Int.natCast_zero, Int.toNat_natCast, Int.reduceToNat]
          · have h := frzOk_ref (l := 34000) (v := 1) (sh := ⟨1, false⟩) (ys := List.map eI (c ++ [(i : Int)])) (xs := []) (r := []) 0 (c.length + 1) (by simp) trivial
            rw [List.drop_zero, htl] at h
            exact h
        · cases F with
          | some k =>
            rw [hend k rfl]
            rw [show r = .tup [eIs k, eB true] from hr]
            clear hr hend
            simp -dsimp -implicitDefEqProofs only [go_sem, ↓reduceIte, Nat.reduceEqDiff, Nat.reduceLT, Nat.reduceAdd, Nat.reduceMul, Nat.reduceLeDiff, Nat.le_refl, Int.natCast_zero, Int.toNat_natCast, Int.reduceToNat]
            exact rfl
          | none =>
            clear hend
            obtain ⟨x, rfl, hx⟩ := hr
            rcases hx with rfl | rfl
            · simp -dsimp -implicitDefEqProofs only [go_sem, ↓reduceIte, Nat.reduceEqDiff, Nat.reduceLT, Nat.reduceAdd, Nat.reduceMul, Nat.reduceLeDiff, Nat.le_refl, Int.natCast_zero, Int.toNat_natCast, Int.reduceToNat]
              exact ⟨by exact rfl, ⟨by omega, by omega⟩, by simp⟩
            · simp -dsimp -implicitDefEqProofs only [go_sem, ↓reduceIte, Nat.reduceEqDiff, Nat.reduceLT, Nat.reduceAdd, Nat.reduceMul, Nat.reduceLeDiff, Nat.le_refl, Int.natCast_zero, Int.toNat_natCast, Int.reduceToNat]
              exact ⟨by exact rfl, ⟨by omega, by omega⟩, by simp⟩
      · have hlt : decide (((m.depths.toNat : Nat) : Int) < m.depths) = false := decide_eq_false (by omega)
        rw [hI]
        clear hI
        simp -dsimp -implicitDefEqProofs only [pick_nil, pick_cons, look_nil, look_cons, dropB_nil, dropB_cons, inD_nil, inD_cons, inE_nil, inE_cons, or_t_l, or_f_l, Nat.reduceBEq, Nat.reduceDiv, Nat.reduceAdd, beq_self_eq_true, Bool.false_eq_true, Bool.or_false, ↓reduceIte, Nat.reduceEqDiff, List.cons_append, List.nil_append]
        simp -dsimp -implicitDefEqProofs only [go_sem, ↓reduceIte, Nat.reduceEqDiff, Nat.reduceLT, Nat.reduceAdd, Nat.reduceMul, Nat.reduceLeDiff, Nat.le_refl, Int.natCast_zero, Int.toNat_natCast, Int.reduceToNat, hlt]
        exact ⟨_, rfl, .inl rfl⟩
/-- the next key behind c, looked for at the last j places -/
def nextTo (m : MkM) (c : List Int) : Nat → Option (List Int)
  | 0 => none
  | j + 1 => match nextTo m c j with
    | some k => some k
    | none => firstD (fun (e : Nat) => firstK m j (c.take (c.length - 1 - j) ++ [c.getD (c.length - 1 - j) 0 + 1 + (e : Int)])) (m.depths - (c.getD (c.length - 1 - j) 0 + 1)).toNat
theorem nextTo_none {m : MkM} {c : List Int} {j : Nat} (h : nextTo m c j = none) : nextTo m c (j + 1) = firstD (fun (e : Nat) => firstK m j (c.take (c.length - 1 - j) ++ [c.getD (c.length - 1 - j) 0 + 1 + (e : Int)])) (m.depths - (c.getD (c.length - 1 - j) 0 + 1)).toNat := by simp [nextTo, h]
theorem nextTo_some {m : MkM} {c k : List Int} {j : Nat} (h : nextTo m c j = some k) : ∀ E, j ≤ E → nextTo m c E = some k
  | 0, hE => by rw [show j = 0 by omega] at h; cases h
  | E + 1, hE => by
    by_cases e : j = E + 1
    · rw [← e]; exact h
    · simp only [nextTo]; rw [nextTo_some h E (by omega)]
theorem c_l02Next (m : MkM) (c : List Int) (hm : isMk m = true) (hl : (c.length : Int) = m.chambers) (hc : ∀ x ∈ c, 0 ≤ x ∧ x < m.depths) : Fn Try.prog 168 [eMk m, eIs c] false (· = optR (nextTo m c c.length)) := by
  have ⟨⟨hch1, hch2⟩, hd1, hd2⟩ := isMk_num hm
  refine Fn.of_vcS 42 [.tmp 4, .tmp 5] Try.func168 rfl rfl rfl rfl rfl (of_decide_eq_true rfl) ?_
  simp -dsimp -implicitDefEqProofs only [go_sem, ↓reduceIte, Nat.reduceEqDiff, Nat.reduceLT, Nat.reduceAdd, Nat.reduceMul, Nat.reduceLeDiff, Nat.le_refl, Int.natCast_zero, Int.toNat_natCast, Int.reduceToNat]
  refine ⟨⟨by omega, by omega⟩, ?_⟩
  refine Later.up [1, 2] [33, 35, 36, 37] [] c.length (fun j => nextTo m c j = none) (fun j => [(6, eI ((c.length : Int) - 1 - (j : Int)))]) (fun _ => []) rfl ?_ rfl (fun j hj hJ => ?_) (fun hJ => ?_)
  · simp -dsimp -implicitDefEqProofs only [go_sem, ↓reduceIte, Nat.reduceEqDiff, Nat.reduceLT, Nat.reduceAdd, Nat.reduceMul, Nat.reduceLeDiff, Nat.le_refl, Int.natCast_zero, Int.toNat_natCast, Int.reduceToNat]
    all_goals first | (simp; done) | trace_state
  · have hlt : decide ((c.length : Int) - 1 - (j : Int) ≥ 0) = true := decide_eq_true (by omega)
    have hnx := nextTo_none hJ
    have hend : ∀ k, nextTo m c (j + 1) = some k → nextTo m c c.length = some k := fun k hk => nextTo_some hk _ (by omega)
    have hi : c.length - 1 - j < c.length := by omega
    have hcast : (c.length : Int) - 1 - (j : Int) = ((c.length - 1 - j : Nat) : Int) := by omega
    have hx := hc c[c.length - 1 - j] (List.getElem_mem hi)
    have hgd : c.getD (c.length - 1 - j) 0 = c[c.length - 1 - j] := by simp [List.getD_eq_getElem?_getD, hi]
    have gi := get_some hi
    have hneg : (c.length : Int) - 1 - ((j + 1 : Nat) : Int) = ((c.length - 1 - j : Nat) : Int) - 1 := by omega
    rw [hgd] at hnx
    rw [hcast] at hlt
    rw [hcast, hneg]
    clear hJ hcast hgd hneg
    generalize hI : c.length - 1 - j = i at *
    generalize c[i] = z at *
    rw [hnx]
    have hend' : ∀ k, firstD (fun (e : Nat) => firstK m j (c.take i ++ [z + 1 + (e : Int)])) (m.depths - (z + 1)).toNat = some k → nextTo m c c.length = some k := fun k hk => hend k (hnx.trans hk)
    clear hnx hend
    simp -dsimp -implicitDefEqProofs only [pick_nil, pick_cons, look_nil, look_cons, dropB_nil, dropB_cons, inD_nil, inD_cons, inE_nil, inE_cons, or_t_l, or_f_l, Nat.reduceBEq, Nat.reduceDiv, Nat.reduceAdd, beq_self_eq_true, Bool.false_eq_true, Bool.or_false, ↓reduceIte, Nat.reduceEqDiff, List.cons_append, List.nil_append]
    simp -dsimp -implicitDefEqProofs only [go_sem, ↓reduceIte, Nat.reduceEqDiff, Nat.reduceLT, Nat.reduceAdd, Nat.reduceMul, Nat.reduceLeDiff, Nat.le_refl, Int.natCast_zero, Int.toNat_natCast, Int.reduceToNat, hlt, gi]
    refine ⟨by omega, ⟨by omega, by omega⟩, ?_⟩
    refine Later.up [1, 2, 6] [33, 35, 36, 37] [] (m.depths - (z + 1)).toNat (fun e => firstD (fun (e : Nat) => firstK m j (c.take i ++ [z + 1 + (e : Int)])) e = none) (fun e => [(7, eI (z + 1 + (e : Int)))]) (fun _ => []) rfl ?_ rfl (fun e he hE => ?_) (fun hE => ?_)
    · simp -dsimp -implicitDefEqProofs only [go_sem, ↓reduceIte, Nat.reduceEqDiff, Nat.reduceLT, Nat.reduceAdd, Nat.reduceMul, Nat.reduceLeDiff, Nat.le_refl, Int.natCast_zero, Int.toNat_natCast, Int.reduceToNat]
      all_goals first | (simp; done) | trace_state
    · have hlt2 : decide (z + 1 + (e : Int) < m.depths) = true := decide_eq_true (by omega)
      have hlenT : (c.take i).length = i := by simp; omega
      have hih := c_l02First m hm j (c.take i ++ [z + 1 + (e : Int)]) (by simp; omega) (fun x hx2 => by
        rcases List.mem_append.1 hx2 with h | h
        · have := hc x (List.mem_of_mem_take h); omega
        · simp at h; omega)
      have hown := c_l01Own (c.take i) (by omega)
      have htk : List.take i (List.map eI c) = List.map eI (c.take i) := List.map_take.symm
      have hnx := firstD_none hE
      have hend2 : ∀ k, firstK m j (c.take i ++ [z + 1 + (e : Int)]) = some k → nextTo m c c.length = some k := fun k hk => hend' k (firstD_some (hnx.trans hk) _ (by omega))
      rw [hnx]
      clear hE hnx hend' hc
      unfold firstR at hih
      generalize c.take i = T at *
      have hmap : List.map eI T ++ [eI (z + 1 + (e : Int))] = List.map eI (T ++ [z + 1 + (e : Int)]) := by simp
      have htl : List.take (i + 1) (List.map eI (T ++ [z + 1 + (e : Int)])) = List.map eI (T ++ [z + 1 + (e : Int)]) := List.take_of_length_le (by simp; omega)
      have htl2 : List.take i (List.map eI T) = List.map eI T := List.take_of_length_le (by simp; omega)
      generalize firstK m j (T ++ [z + 1 + (e : Int)]) = F at *
      simp -dsimp -implicitDefEqProofs only [pick_nil, pick_cons, look_nil, look_cons, dropB_nil, dropB_cons, inD_nil, inD_cons, inE_nil, inE_cons, or_t_l, or_f_l, Nat.reduceBEq, Nat.reduceDiv, Nat.reduceAdd, beq_self_eq_true, Bool.false_eq_true, Bool.or_false, ↓reduceIte, Nat.reduceEqDiff, List.cons_append, List.nil_append]
      simp -dsimp -implicitDefEqProofs only [go_sem, ↓reduceIte, Nat.reduceEqDiff, Nat.reduceLT, Nat.reduceAdd, Nat.reduceMul, Nat.reduceLeDiff, Nat.le_refl, Int.natCast_zero, Int.toNat_natCast, Int.reduceToNat, hlt2]
      refine Later.duo 8 mixed rfl ?_
      simp -dsimp -implicitDefEqProofs only [List.take_succ_cons, List.take_zero, List.drop_succ_cons, List.drop_zero]
      simp -dsimp -implicitDefEqProofs only [go_sem, ↓reduceIte, Nat.reduceEqDiff, Nat.reduceLT, Nat.reduceAdd, Nat.reduceMul, Nat.reduceLeDiff, Nat.le_refl, Int.natCast_zero, Int.toNat_natCast, Int.reduceToNat, htk]
      refine ⟨by omega, ?_⟩
      (refine sCallX_one (hown) ?_; try simp -dsimp -implicitDefEqProofs only [go_sem, ↓reduceIte, Nat.reduceEqDiff, Nat.reduceLT, Nat.reduceAdd, Nat.reduceMul, Nat.reduceLeDiff, Nat.le_refl, Int.natCast_zero, Int.toNat_natCast, Int.reduceToNat, *])
      refine ⟨by omega, ?_⟩
      refine ⟨by exact rfl, ?_⟩
      refine sCallT_frz 34000 1 ⟨1, false⟩ true (List.map eI (T ++ [z + 1 + (e : Int)])) hih (by decide) ?_ ?_ fun r hr => ?_
      · simp -dsimp -implicitDefEqProofs only [go_sem, ↓reduceIte, Nat.reduceEqDiff, Nat.reduceLT, Nat.reduceAdd, Nat.reduceMul, Nat.reduceLeDiff, Nat.le_refl, Int.natCast_zero, Int.toNat_natCast, Int.reduceToNat]
      · refine frzOk_no ?_ rfl ?_
        · simp -dsimp -implicitDefEqProofs only [go_sem, ↓reduceIte, Nat.reduceEqDiff, Nat.reduceLT, Nat.reduceAdd, Nat.reduceMul, Nat.reduceLeDiff, Nat.le_refl, Int.natCast_zero, Int.toNat_natCast, Int.reduceToNat]
        · have h := frzOk_ref (l := 34000) (v := 1) (sh := ⟨1, false⟩) (ys := List.map eI (T ++ [z + 1 + (e : Int)])) (xs := []) (r := []) 0 (i + 1) (by simp; omega) trivial
          rw [List.drop_zero, htl] at h
          exact h
      · cases F with
        | some k =>
          rw [hend2 k rfl]
          rw [show r = .tup [eIs k, eB true] from hr]
          clear hr hend2
          simp -dsimp -implicitDefEqProofs only [go_sem, ↓reduceIte, Nat.reduceEqDiff, Nat.reduceLT, Nat.reduceAdd, Nat.reduceMul, Nat.reduceLeDiff, Nat.le_refl, Int.natCast_zero, Int.toNat_natCast, Int.reduceToNat, optR]
          exact rfl
        | none =>
          clear hend2
          obtain ⟨x, rfl, hx⟩ := hr
          rcases hx with rfl | rfl
          · simp -dsimp -implicitDefEqProofs only [go_sem, ↓reduceIte, Nat.reduceEqDiff, Nat.reduceLT, Nat.reduceAdd, Nat.reduceMul, Nat.reduceLeDiff, Nat.le_refl, Int.natCast_zero, Int.toNat_natCast, Int.reduceToNat]
            exact ⟨by exact rfl, ⟨by omega, by omega⟩, by simp; omega⟩
          · simp -dsimp -implicitDefEqProofs only [go_sem, ↓reduceIte, Nat.reduceEqDiff, Nat.reduceLT, Nat.reduceAdd, Nat.reduceMul, Nat.reduceLeDiff, Nat.le_refl, Int.natCast_zero, Int.toNat_natCast, Int.reduceToNat]
            exact ⟨by exact rfl, ⟨by omega, by omega⟩, by simp; omega⟩
    · have hlt2 : decide (z + 1 + (((m.depths - (z + 1)).toNat : Nat) : Int) < m.depths) = false := decide_eq_false (by omega)
      rw [hE]
      simp -dsimp -implicitDefEqProofs only [pick_nil, pick_cons, look_nil, look_cons, dropB_nil, dropB_cons, inD_nil, inD_cons, inE_nil, inE_cons, or_t_l, or_f_l, Nat.reduceBEq, Nat.reduceDiv, Nat.reduceAdd, beq_self_eq_true, Bool.false_eq_true, Bool.or_false, ↓reduceIte, Nat.reduceEqDiff, List.cons_append, List.nil_append]
      simp -dsimp -implicitDefEqProofs only [go_sem, ↓reduceIte, Nat.reduceEqDiff, Nat.reduceLT, Nat.reduceAdd, Nat.reduceMul, Nat.reduceLeDiff, Nat.le_refl, Int.natCast_zero, Int.toNat_natCast, Int.reduceToNat, hlt2]
      first | exact ⟨by omega, by omega⟩ | trace_state
  · have hlt : decide ((c.length : Int) - 1 - (c.length : Int) ≥ 0) = false := decide_eq_false (by omega)
    rw [hJ]
    clear hJ
    simp -dsimp -implicitDefEqProofs only [pick_nil, pick_cons, look_nil, look_cons, dropB_nil, dropB_cons, inD_nil, inD_cons, inE_nil, inE_cons, or_t_l, or_f_l, Nat.reduceBEq, Nat.reduceDiv, Nat.reduceAdd, beq_self_eq_true, Bool.false_eq_true, Bool.or_false, ↓reduceIte, Nat.reduceEqDiff, List.cons_append, List.nil_append]
    simp -dsimp -implicitDefEqProofs only [go_sem, ↓reduceIte, Nat.reduceEqDiff, Nat.reduceLT, Nat.reduceAdd, Nat.reduceMul, Nat.reduceLeDiff, Nat.le_refl, Int.natCast_zero, Int.toNat_natCast, Int.reduceToNat, hlt, optR]
end Go.Vc


/-
  A valid maker has a key.
-/
set_option linter.unusedVariables false
set_option linter.unusedSimpArgs false
set_option linter.unnecessarySimpa false
namespace Go.Vc
open Go.Proofs
set_option maxRecDepth 100000
set_option maxHeartbeats 4000000
theorem firstD_not {f : Nat → Option (List Int)} {d : Nat} (h : f d ≠ none) : ∀ D, d < D → firstD f D ≠ none
  | 0, hd => absurd hd (Nat.not_lt_zero _)
  | D + 1, hd => by
    simp only [firstD]
    cases hh : firstD f D with
    | some k => exact fun h => by cases h
    | none =>
      by_cases e : d = D
      · subst e; exact h
      · exact absurd hh (firstD_not h D (by omega))
theorem firstK_not {m : MkM} : ∀ (n : Nat) (c t : List Int), t.length = n → okTo m (c ++ t) = true → m.least ≤ (kindsTo (c ++ t) (c ++ t).length : Int) → (∀ x ∈ t, 0 ≤ x ∧ x < m.depths) → firstK m n c ≠ none
  | 0, c, t, hl, ho, hk, hx => by
    obtain rfl := List.eq_nil_of_length_eq_zero hl
    rw [List.append_nil] at ho hk
    rw [firstK, if_pos ⟨ho, hk⟩]
    exact fun h => by cases h
  | n + 1, c, t, hl, ho, hk, hx => by
    cases t with
    | nil => cases hl
    | cons d t =>
      have hd := hx d (List.mem_cons_self ..)
      have hoc : okTo m c = true := by
        have := okTo_take' ho (i := c.length) (by simp)
        rwa [List.take_left'] at this
        rfl
      rw [firstK, if_pos hoc]
      refine firstD_not (d := d.toNat) ?_ _ (by omega)
      have e : ((d.toNat : Nat) : Int) = d := by omega
      rw [e]
      have e2 : c ++ d :: t = (c ++ [d]) ++ t := by simp
      rw [e2] at ho hk
      exact firstK_not n (c ++ [d]) t (by simpa using hl) ho hk fun x hx2 => hx x (List.mem_cons_of_mem _ hx2)
theorem firstK_len {m : MkM} : ∀ (n : Nat) (c k : List Int), firstK m n c = some k → k.length = c.length + n ∧ okTo m k = true ∧ (m.least ≤ (kindsTo k k.length : Int)) ∧ ((∀ x ∈ c, 0 ≤ x ∧ x < m.depths) → ∀ x ∈ k, 0 ≤ x ∧ x < m.depths)
  | 0, c, k, h => by
    rw [firstK] at h
    split at h
    · rename_i hc
      injection h with h
      subst h
      exact ⟨rfl, hc.1, hc.2, fun h => h⟩
    · cases h
  | n + 1, c, k, h => by
    rw [firstK] at h
    split at h
    · obtain ⟨d, h1, h2⟩ := firstD_out h
      obtain ⟨g1, g2, g3, g4⟩ := firstK_len n _ k h2
      refine ⟨by rw [g1]; simp; omega, g2, g3, fun hc => g4 fun x hx => ?_⟩
      rcases List.mem_append.1 hx with h | h
      · exact hc x h
      · simp at h; omega
    · cases h
def zig (ch dp : Int) : List Int := (([0, 1, 2, 3, 4, 5] : List Int).map fun x => if x < dp then x else if (x - dp).tmod 2 = 0 then dp - 2 else dp - 1).take ch.toNat
def zigB (C D : Int) : Bool :=
  (zig C D).length == C.toNat && (List.range (zig C D).length).all (fun i => decide (runAt (zig C D) i ≤ 1) && (i == 0 || decide (absN ((zig C D).getD i 0 - (zig C D).getD (i - 1) 0) ≤ 1))) &&
    decide ((if D < C then D else C) ≤ (kindsTo (zig C D) (zig C D).length : Int)) && (zig C D).all fun x => decide (0 ≤ x) && decide (x < D)
theorem zigB_all : ((List.range 5).all fun c => (List.range 7).all fun d => zigB ((c : Int) + 2) ((d : Int) + 2)) = true := by decide +kernel
theorem zig_ok {m : MkM} (hm : isMk m = true) : (zig m.chambers m.depths).length = m.chambers.toNat ∧ okTo m (zig m.chambers m.depths) = true ∧ m.least ≤ (kindsTo (zig m.chambers m.depths) (zig m.chambers m.depths).length : Int) ∧ ∀ x ∈ zig m.chambers m.depths, 0 ≤ x ∧ x < m.depths := by
  have hnum := isMk_num hm
  have hs := isMk_same hm
  have hl : m.least ≤ if m.depths < m.chambers then m.depths else m.chambers := by
    simp only [isMk, isIn, Bool.and_eq_true, decide_eq_true_eq] at hm
    exact hm.2.2
  have h1 := List.all_eq_true.1 zigB_all (m.chambers.toNat - 2) (List.mem_range.2 (by omega))
  have h2 := List.all_eq_true.1 h1 (m.depths.toNat - 2) (List.mem_range.2 (by omega))
  rw [show ((m.chambers.toNat - 2 : Nat) : Int) + 2 = m.chambers by omega, show ((m.depths.toNat - 2 : Nat) : Int) + 2 = m.depths by omega] at h2
  unfold zigB at h2
  simp only [Bool.and_eq_true, beq_iff_eq, decide_eq_true_eq] at h2
  obtain ⟨⟨⟨g1, g2⟩, g3⟩, g4⟩ := h2
  generalize zig m.chambers m.depths = z at *
  refine ⟨g1, ?_, by omega, fun x hx => ?_⟩
  · unfold okTo
    rw [List.all_eq_true] at g2 ⊢
    intro i hi
    have := g2 i hi
    simp only [Bool.and_eq_true, decide_eq_true_eq, Bool.or_eq_true, beq_iff_eq] at this ⊢
    refine ⟨by omega, ?_⟩
    unfold stepAt
    rcases this.2 with h | h
    · simp [h]
    · rw [decide_eq_true (show absN (z.getD i 0 - z.getD (i - 1) 0) ≤ m.step by omega)]; simp
  · have := List.all_eq_true.1 g4 x hx
    simpa using this
theorem firstK_some {m : MkM} (hm : isMk m = true) : ∃ k, firstK m m.chambers.toNat [] = some k := by
  obtain ⟨h1, h2, h3, h4⟩ := zig_ok hm
  have := firstK_not m.chambers.toNat [] (zig m.chambers m.depths) h1 h2 h3 h4
  cases hh : firstK m m.chambers.toNat [] with
  | some k => exact ⟨k, rfl⟩
  | none => exact absurd hh this
theorem nextTo_len {m : MkM} {c k : List Int} (hl : (c.length : Int) = m.chambers) (hc : ∀ x ∈ c, 0 ≤ x ∧ x < m.depths) : ∀ j, j ≤ c.length → nextTo m c j = some k → k.length = c.length ∧ okTo m k = true ∧ m.least ≤ (kindsTo k k.length : Int) ∧ ∀ x ∈ k, 0 ≤ x ∧ x < m.depths
  | 0, _, h => by cases h
  | j + 1, hj, h => by
    cases hh : nextTo m c j with
    | some k' =>
      rw [nextTo_some hh (j + 1) (by omega)] at h
      injection h with h
      subst h
      exact nextTo_len hl hc j (by omega) hh
    | none =>
      rw [nextTo_none hh] at h
      obtain ⟨e, h1, h2⟩ := firstD_out h
      obtain ⟨g1, g2, g3, g4⟩ := firstK_len j _ k h2
      have hi : c.length - 1 - j < c.length := by omega
      have hx := hc c[c.length - 1 - j] (List.getElem_mem hi)
      have hgd : c.getD (c.length - 1 - j) 0 = c[c.length - 1 - j] := by simp [List.getD_eq_getElem?_getD, hi]
      rw [hgd] at h1 g1 g4
      refine ⟨by rw [g1]; simp; omega, g2, g3, g4 fun x hx2 => ?_⟩
      rcases List.mem_append.1 hx2 with h | h
      · exact hc x (List.mem_of_mem_take h)
      · simp at h; omega
end Go.Vc


