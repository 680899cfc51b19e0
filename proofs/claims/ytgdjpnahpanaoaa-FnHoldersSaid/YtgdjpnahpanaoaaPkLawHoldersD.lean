import Derived.Sort.Grow
import Derived.Shelf.SlGeneric
import Derived.Ground.SlgnProg
import Derived.Shelf.SortG.Plain
import Derived.Shelf.SlicesG.CompactI
import Derived.Shelf.SortG.SortNone
import Derived.Test.YtgdjpnahpanaoaaProg
import Derived.Lib.SlicesCompact
import Derived.Test.YtgdjpnahpanaoaaPkLawHoldersC
/-
  Calls of functions that write blocks of their caller's which name each other (boxes that hold labels): contracts that keep the labels, for recursion by closures.
-/
set_option linter.unusedVariables false
set_option linter.unusedSimpArgs false
set_option linter.unnecessarySimpa false
namespace Go.Vc

def keys (m : Mem) : List Nat := m.map (·.1)
theorem keys_nil : keys [] = [] := rfl
theorem keys_cons (l : Nat) (b : Blk) (r : Mem) : keys ((l, b) :: r) = l :: keys r := rfl
theorem in_keys {m : Mem} {l : Nat} (h : lookB m l ≠ none) : l ∈ keys m := by
  induction m with
  | nil => exact absurd rfl h
  | cons p r ih =>
    obtain ⟨k, v⟩ := p
    rw [lookB_cons] at h
    by_cases e : k = l
    · simp [keys, e]
    · rw [if_neg e] at h
      exact List.mem_cons_of_mem _ (ih h)
theorem of_keys {m : Mem} {l : Nat} (h : l ∈ keys m) : lookB m l ≠ none := by
  induction m with
  | nil => cases h
  | cons p r ih =>
    obtain ⟨k, v⟩ := p
    rw [lookB_cons]
    by_cases e : k = l
    · rw [if_pos e]; exact fun h => by cases h
    · rw [if_neg e]
      refine ih ?_
      rcases List.mem_cons.1 h with h | h
      · exact absurd h.symm e
      · exact h
/-- the labels that a memory's boxes hold are among these -/
def okM (L : List Nat) (m : Mem) : Prop := (∀ l, lookB m l ≠ none → l ∈ L) ∧ ∀ l v xs, lookB m l = some (.box v xs) → ∀ p, p ∈ labsL xs → p.1 ∈ L
def keepsM (L : List Nat) (m m' : Mem) : Prop := (∀ l, l ∈ L → lookB m' l = lookB m l) ∧ okM L m'

def resφ (L : List Nat) (φ : Nat → LS) (l : Nat) : LS := if l ∈ L then φ l else .dead
def resF (L : List Nat) (fp : Nat → List Nat) (l : Nat) : List Nat := if l ∈ L then fp l else []
theorem resφ_in {L : List Nat} {φ : Nat → LS} {l : Nat} (h : l ∈ L) : resφ L φ l = φ l := if_pos h
theorem resF_in {L : List Nat} {fp : Nat → List Nat} {l : Nat} (h : l ∈ L) : resF L fp l = fp l := if_pos h
theorem mem_resF {L : List Nat} {fp : Nat → List Nat} {l b : Nat} (h : b ∈ resF L fp l) : l ∈ L ∧ b ∈ fp l := by
  unfold resF at h
  split at h
  · exact ⟨‹_›, h⟩
  · cases h

section
variable {P : Program} {B : Base} {N : Nat} {φ : Nat → LS} {fp : Nat → List Nat} {S : Nat → Prop} {ts : Env} {m : Mem} {a : Act} {w : World}

theorem RS.sub (h : RS B N φ fp S ts m a w) {L : List Nat} {m' : Mem} (hk : keepsM L m m') (hb : ∀ l, lookB B.m0 l ≠ none → l ∈ L) :
    RS B 0 (resφ L φ) (resF L fp) S [] m' { tmps := #[], defers := [] } w := by
  obtain ⟨k1, k2, k3⟩ := hk
  refine { tm := fun t => by rw [look_nil]; exact .rd _ _ (.undef _), tl := fun t l ver hl => (by rw [look_nil] at hl; cases hl), mNone := fun l hl => ?_, mSome := fun l b hb => ?_, bl := fun l v xs hb l' ver hl => ?_,
           nod := fun l => ?_, dis := fun l l' b h1 h2 => h.dis l l' b (mem_resF h1).2 (mem_resF h2).2, notS := fun l b hb => h.notS l b (mem_resF hb).2, fpB := fun l b hb => h.fpB l b (mem_resF hb).2,
           sB := h.sB, base := h.base, out := h.out, szs := h.szs, kn := fun l ver hl hk => ?_, fix := fun l ver hl hk => ?_, size := h.size, defers := rfl, tsz := rfl, kon := h.kon }
  · by_cases hm : l ∈ L
    · rw [resφ_in hm, resF_in hm]
      rw [k1 l hm] at hl
      exact h.mNone l hl
    · unfold resφ resF
      rw [if_neg hm, if_neg hm]; exact ⟨rfl, rfl⟩
  · have hm := k2 l (by rw [hb]; exact fun e => by cases e)
    have hb2 := hb
    rw [k1 l hm] at hb2
    rw [resF_in hm]
    refine (h.mSome l b hb2).mono (fun _ _ => rfl) (fun _ h => h) (fun l b sh ver cs e _ hb => ⟨cs, e, hb, rfl⟩) (fun _ _ => rfl) (resφ_in hm) fun v xs e l' ver hl' => ?_
    subst e
    rw [resφ_in (k3 l v xs hb _ hl')]
    exact LS.le_refl _ _
  · have hm := k2 l (by rw [hb]; exact fun e => by cases e)
    have hb2 := hb
    rw [k1 l hm] at hb2
    obtain ⟨k, h1, h2⟩ := h.bl l v xs hb2 l' ver hl
    exact ⟨k, (k1 l' (k3 l v xs hb _ hl)).trans h1, h2⟩
  · unfold resF; split
    · exact h.nod l
    · exact List.nodup_nil
  · obtain ⟨k, h1, h2⟩ := h.kn l ver hl hk
    obtain ⟨k0, h3, _⟩ := hk
    exact ⟨k, (k1 l (hb l (by rw [h3]; exact fun e => by cases e))).trans h1, h2⟩
  · obtain ⟨k0, h3, h4⟩ := hk
    rw [resφ_in (hb l (by rw [h3]; exact fun e => by cases e))]
    exact h.fix l ver hl ⟨k0, h3, h4⟩
end

def baseH (w : World) (φ : Nat → LS) (fp : Nat → List Nat) (S : Nat → Prop) (m0 : Mem) : Base := ⟨w, fun l b => b ∈ fp l, S, φ, m0⟩

/-- A contract over the memory m0: called there with xs, it returns a value without labels, and leaves a memory with the same labels. -/
def FnH (P : Program) (f : FuncId) (m0 : Mem) (xs : List AV) (post : AV → Mem → Prop) : Prop :=
  Enters P f ∧ ∀ (w : World) (φ : Nat → LS) (fp : Nat → List Nat) (S : Nat → Prop) (vs : Array Value), vs.size = xs.length →
    RS (baseH w φ fp S m0) vs.size φ fp S (argsE 0 xs) m0 { tmps := vs, defers := [] } w →
    Calls P f vs w fun e w' => ∃ x v m' φ' fp' S', e = .returned v ∧ post x m' ∧ RV w' S' φ' x v ∧ labs x = [] ∧ okM (keys m0) m' ∧ RS (baseH w φ fp S m0) 0 φ' fp' S' [] m' { tmps := #[], defers := [] } w'

theorem FnH.mono {P : Program} {f : FuncId} {m0 : Mem} {xs : List AV} {post post' : AV → Mem → Prop} (h : FnH P f m0 xs post) (hp : ∀ r m', post r m' → post' r m') : FnH P f m0 xs post' :=
  ⟨h.1, fun w φ fp S vs h1 h2 => (h.2 w φ fp S vs h1 h2).mono fun _ _ ⟨x, v, m', φ', fp', S', g1, g2, g3⟩ => ⟨x, v, m', φ', fp', S', g1, hp _ _ g2, g3⟩⟩

def finH (P : Program) (rs : List ResultVar) (L : List Nat) (post : AV → Mem → Prop) : Post
  | .normal => fun ts m => sResults P (fun ys => labsL ys = [] ∧ ∃ m', post (mkRes ys) m' ∧ keepsM L m m') rs ts m []
  | .ret => fun ts m => sResults P (fun ys => labsL ys = [] ∧ ∃ m', post (mkRes ys) m' ∧ keepsM L m m') rs ts m []
  | _ => fun _ _ => False
theorem finH_normal (P : Program) (rs : List ResultVar) (L : List Nat) (post : AV → Mem → Prop) (ts : Env) (m : Mem) :
    finH P rs L post .normal ts m = sResults P (fun ys => labsL ys = [] ∧ ∃ m', post (mkRes ys) m' ∧ keepsM L m m') rs ts m [] := rfl
theorem finH_ret (P : Program) (rs : List ResultVar) (L : List Nat) (post : AV → Mem → Prop) (ts : Env) (m : Mem) :
    finH P rs L post .ret ts m = sResults P (fun ys => labsL ys = [] ∧ ∃ m', post (mkRes ys) m' ∧ keepsM L m m') rs ts m [] := rfl

theorem labs_mkRes {ys : List AV} (h : labsL ys = []) : labs (mkRes ys) = [] := by
  match ys, h with
  | [], _ => simp [mkRes, labs, labsL]
  | [y], h => simpa [mkRes, labsL] using h
  | y :: y' :: r, h => rw [mkRes_two]; simpa [labs] using h

theorem FnH.of_vc' {P : Program} {f : FuncId} {fn : Func} {c : Code} {m0 : Mem} {xs : List AV} {post : AV → Mem → Prop} (hf : P.funcs[f]? = some fn) (hn : (fn.name == "runtime.NumGoroutine") = false) (hb : fn.body = some c)
    (hok : codeOk fn.ntmps c = true) (ha : xs.length ≤ fn.ntmps) (hv : vc P fn.ntmps c (argsE 0 xs) m0 (finH P fn.results.toList (keys m0) post)) : FnH P f m0 xs post := by
  refine ⟨⟨fn, c, hf, hn, hb⟩, fun w φ fp S vs hsz hR0 => ?_⟩
  refine calls_of_wp hf hb ?_
  have hRS : RS (baseH w φ fp S m0) fn.ntmps φ fp S (argsE 0 xs) m0 { tmps := vs ++ Array.replicate (fn.ntmps - vs.size) undef, defers := [] } w := by
    refine { hR0 with tm := fun t => ?_, defers := rfl, tsz := by simp; omega }
    by_cases h : t < xs.length
    · have h1 := hR0.tm t
      have : vs.getD t Go.undef = (vs ++ Array.replicate (fn.ntmps - vs.size) undef).getD t Go.undef := by
        have h2 : t < vs.size := by omega
        simp only [Array.getD_eq_getD_getElem?]
        rw [Array.getElem?_append_left h2]
      rw [← this]; exact h1
    · rw [look_argsE]
      have : (if 0 ≤ t then (xs[t - 0]?).getD AV.undef else .undef) = .undef := by simp [List.getElem?_eq_none (show xs.length ≤ t by omega)]
      rw [this]; exact .rd _ _ (.undef _)
  have hend : ∀ a' w', Done (baseH w φ fp S m0) fn.ntmps (fun ts m => sResults P (fun ys => labsL ys = [] ∧ ∃ m', post (mkRes ys) m' ∧ keepsM (keys m0) m m') fn.results.toList ts m []) a' w' →
      a'.defers = [] ∧ ∃ v, (results fn a'.tmps).run P w' = .ok v w' ∧ ∃ x v' m' φ' fp' S', Ending.returned v = .returned v' ∧ post x m' ∧ RV w' S' φ' x v' ∧ labs x = [] ∧ okM (keys m0) m' ∧ RS (baseH w φ fp S m0) 0 φ' fp' S' [] m' { tmps := #[], defers := [] } w' := by
    rintro a' w' ⟨φ', fp', S', ts', m', h', hk⟩
    refine ⟨h'.defers, ?_⟩
    obtain ⟨ys, us, ⟨hlab, m2, hpost, hkeep⟩, h2, h3, h4⟩ := results_out' h' fn.results.toList [] [] ⟨rfl, fun i hi => absurd hi (Nat.not_lt_zero _)⟩ (fun i hi => absurd hi (Nat.not_lt_zero _)) hk
    obtain ⟨h3a, h3b⟩ := h3
    simp only [List.nil_append] at h3a h3b
    refine ⟨if h : us.toArray.size = 1 then us.toArray[0] else .tuple us.toArray, ?_, mkRes ys, _, m2, resφ (keys m0) φ', resF (keys m0) fp', S', rfl, hpost, ?_, labs_mkRes hlab, hkeep.2, h'.sub hkeep fun l hl => in_keys hl⟩
    · have hm : results fn a'.tmps = (do let vs ← fn.results.mapM (resOne a'.tmps); pure (if h : vs.size = 1 then vs[0] else .tuple vs)) := by
        unfold results
        congr 1
      rw [hm, Sem.run_bind, Array.mapM_eq_mapM_toList]
      have : (List.toArray <$> fn.results.toList.mapM (resOne a'.tmps) : Sem (Array Value)).run P w' = .ok us.toArray w' := by
        rw [map_eq_pure_bind, Sem.run_bind, h2]; rfl
      rw [this]; rfl
    · refine (mkRes_rv h3a h3b).mono (fun _ _ => rfl) (fun _ h => h) (fun l b sh ver cs e _ hb => ⟨cs, e, hb, rfl⟩) fun l ver hl => ?_
      rw [labs_mkRes hlab] at hl; cases hl
  refine wp_mono (vc_sound c _ _ _ hok hv _ _ _ _ _ _ hRS) ?_
  intro e a' w' hq
  cases e with
  | normal => exact hend a' w' hq
  | ret => exact hend a' w' hq
  | _ => obtain ⟨_, _, _, _, _, _, hh⟩ := hq; exact hh.elim

theorem FnH.of_vc {P : Program} {f : FuncId} {fn : Func} {c : Code} {m0 : Mem} {xs : List AV} {post : AV → Mem → Prop} (N : Nat) (rs : List ResultVar) (hf : P.funcs[f]? = some fn) (hN : fn.ntmps = N) (hr : fn.results.toList = rs)
    (hn : (fn.name == "runtime.NumGoroutine") = false) (hb : fn.body = some c) (hok : codeOk N c = true) (ha : xs.length ≤ N) (hv : vc P N c (argsE 0 xs) m0 (finH P rs (keys m0) post)) : FnH P f m0 xs post := by
  subst hN; subst hr; exact FnH.of_vc' hf hn hb hok ha hv

theorem lookB_appL {m' m : Mem} {l : Nat} {b : Blk} (h : lookB m' l = some b) : lookB (m' ++ m) l = some b := by
  induction m' with
  | nil => cases h
  | cons p r ih =>
    obtain ⟨k, v⟩ := p
    rw [List.cons_append, lookB_cons]
    rw [lookB_cons] at h
    by_cases e : k = l
    · rw [if_pos e] at h ⊢; exact h
    · rw [if_neg e] at h ⊢; exact ih h
theorem lookB_appR {m' m : Mem} {l : Nat} (h : lookB m' l = none) : lookB (m' ++ m) l = lookB m l := by
  induction m' with
  | nil => rfl
  | cons p r ih =>
    obtain ⟨k, v⟩ := p
    rw [List.cons_append, lookB_cons]
    rw [lookB_cons] at h
    by_cases e : k = l
    · rw [if_pos e] at h; cases h
    · rw [if_neg e] at h ⊢; exact ih h

/-- A call, with what the caller's upper blocks may share afterwards. -/
def sCallF (P : Program) (f : FuncId) (xs : List AV) (m : Mem) (k : AV → Mem → Prop) : Prop :=
  Enters P f ∧ ∀ (B : Base) (N : Nat) (φ : Nat → LS) (fp : Nat → List Nat) (S : Nat → Prop) (ts : Env) (a : Act) (w : World) (vs : Array Value), RS B N φ fp S ts m a w → vs.size = xs.length →
    (∀ i (h : i < xs.length), RV w S φ xs[i] (vs.toList.getD i Go.undef)) → (∀ i (h : i < xs.length) l ver, (l, ver) ∈ labs xs[i] → known m l ver) →
    Calls P f vs w fun e w' => ∃ v, e = .returned v ∧ ∃ φ' fp' S' m' x, RS B N φ' fp' S' ts m' a w' ∧ RV w' S' φ' x v ∧ (∀ l ver, (l, ver) ∈ labs x → known m' l ver) ∧ k x m' ∧
        ∀ l, lookB m l ≠ none → ioL ≤ l → ∀ b, b ∈ fp' l → w.heap.size ≤ b ∨ b ∈ fp l

theorem sCallF.io {P : Program} {f : FuncId} {xs : List AV} {m : Mem} {k : AV → Mem → Prop} (h : sCallF P f xs m k) : sCallIo P f xs m k := by
  intro B N φ fp S ts a w vs hRS hsz hx hxl
  refine ⟨h.1, (h.2 B N φ fp S ts a w vs hRS hsz hx hxl).mono ?_⟩
  rintro e w' ⟨v, rfl, φ', fp', S', m', x, g1, g2, g3, g4, _⟩
  exact ⟨v, rfl, φ', fp', S', ts, m', x, g1, g2, g3, rfl, g4⟩

theorem sCallF.ren {P : Program} {f : FuncId} : ∀ (ρ : List (Nat × Nat)) {xs : List AV} {m : Mem} {k : AV → Mem → Prop}, renOk ρ m → sCallF P f (rnsL ρ xs) (rnsM ρ m) (fun x m' => k (rnsAb ρ x) (rnsMb ρ m')) → sCallF P f xs m k
  | [], xs, m, k, _, h => by
    simp only [rnsM, rnsL] at h
    rw [show xs.map (rnsA []) = xs from by rw [show rnsA [] = id from rfl, List.map_id]] at h
    exact h
  | (l, l') :: r, xs, m, k, ⟨⟨⟨hl, hio⟩, hh, hl'⟩, hok2⟩, hv => by
    have hlen : (rnL l l' xs).length = xs.length := rnL_length l l' xs
    have e9 : rnsL r (rnL l l' xs) = rnsL ((l, l') :: r) xs := by
      refine List.ext_getElem (by simp [rnsL, hlen]) fun i h1 h2 => ?_
      simp only [rnsL, List.getElem_map]
      rw [rnL_get l l' xs i (by simpa [rnsL] using h2)]; rfl
    have hrec := sCallF.ren r (k := fun x m' => k (rnA l l' x) (rnM l l' m')) (xs := rnL l l' xs) hok2 (by rw [e9]; exact hv)
    refine ⟨hrec.1, fun B N φ fp S ts a w vs h hsz hx hxl => ?_⟩
    have hm0 : lookB B.m0 l' = none := by
      cases he : lookB B.m0 l' with
      | none => rfl
      | some k0 =>
        obtain ⟨k2, h7, _⟩ := h.kn l' k0.ver hio ⟨k0, he, Nat.le_refl _⟩
        rw [show lookB m l' = none from hl'] at h7; cases h7
    have hfp0 : fp l' = [] := (h.mNone l' hl').2
    have h1 := h.ren3 hl hm0 (fun b hb => by rw [hfp0] at hb; cases hb)
    have hne : l ≠ l' := by unfold ioL at *; omega
    have e1 : rl l l' l = l' := by simp [rl]
    have e2 : rl l l' l' = l := by unfold rl; rw [if_neg (Ne.symm hne), if_pos rfl]
    have hlk : ∀ x, lookB (rnM l l' m) x ≠ none ↔ lookB m (rl l l' x) ≠ none := fun x => by rw [lookB_rnM]; cases lookB m (rl l l' x) <;> simp
    have := hrec.2 B N _ _ S _ a w vs h1 (by rw [hlen]; exact hsz) (fun i hi => by
      have h' : i < xs.length := by rw [hlen] at hi; exact hi
      rw [rnL_get l l' xs i h' hi]; exact (hx i h').ren l l') (fun i hi l0 ver hl0 => by
      have h' : i < xs.length := by rw [hlen] at hi; exact hi
      rw [rnL_get l l' xs i h' hi, labs_rnA] at hl0
      obtain ⟨⟨k0, v0⟩, q1, q2⟩ := List.mem_map.1 hl0
      simp only [Prod.mk.injEq] at q2
      obtain ⟨rfl, rfl⟩ := q2
      obtain ⟨b0, q3, q4⟩ := hxl i h' k0 v0 q1
      exact ⟨rnB l l' b0, by rw [lookB_rnM, rl_rl, q3]; rfl, by rw [rnB_ver]; exact q4⟩)
    refine this.mono ?_
    rintro e w' ⟨v, rfl, φ', fp', S', m', x, g1, g2, g3, g4, g5⟩
    have hb5 : ∀ b, b ∈ fp' l' → B.w0.heap.size ≤ b := by
      intro b hb'
      rcases g5 l' ((hlk l').2 (by rw [e2]; exact hh)) hio b hb' with h5 | h5
      · exact Nat.le_trans h.size h5
      · have h5 : b ∈ fp (rl l l' l') := h5
        rw [e2] at h5
        rcases (h.fpB l b h5).2 with h6 | ⟨_, _, h6, _⟩
        · exact h6
        · exact absurd hl (Nat.not_lt.2 h6)
    have g6 := g1.ren3 hl hm0 hb5
    refine ⟨v, rfl, fun k => φ' (rl l l' k), fun k => fp' (rl l l' k), S', rnM l l' m', rnA l l' x, ?_, g2.ren l l', fun l0 ver hl0 => ?_, g4, fun l0 h0 h2 b hb' => ?_⟩
    · have ets : ∀ t, look (rnE l l' (rnE l l' ts)) t = look ts t := fun t => by rw [look_rnE, look_rnE, rnA_rnA]
      exact { g6 with tm := fun t => by rw [← ets]; exact g6.tm t, tl := fun t l ver hl => g6.tl t l ver (by rw [ets]; exact hl) }
    · rw [labs_rnA] at hl0
      obtain ⟨⟨k0, v0⟩, q1, q2⟩ := List.mem_map.1 hl0
      simp only [Prod.mk.injEq] at q2
      obtain ⟨rfl, rfl⟩ := q2
      obtain ⟨b0, q3, q4⟩ := g3 k0 v0 q1
      exact ⟨rnB l l' b0, by rw [lookB_rnM, rl_rl, q3]; rfl, by rw [rnB_ver]; exact q4⟩
    · have n1 : l0 ≠ l := fun e => by subst e; exact absurd hl (Nat.not_lt.2 h2)
      have n2 : l0 ≠ l' := fun e => by subst e; exact h0 hl'
      have e3 : rl l l' l0 = l0 := by unfold rl; rw [if_neg n1, if_neg n2]
      have hb' : b ∈ fp' (rl l l' l0) := hb'
      rw [e3] at hb'
      have := g5 l0 ((hlk l0).2 (by rw [e3]; exact h0)) h2 b hb'
      rcases this with h5 | h5
      · exact .inl h5
      · have h5 : b ∈ fp (rl l l' l0) := h5
        rw [e3] at h5; exact .inr h5

theorem FnH.call {P : Program} {f : FuncId} {m0 : Mem} {xs : List AV} {post : AV → Mem → Prop} {m : Mem} {k : AV → Mem → Prop} (hH : FnH P f m0 xs post) (hhi : ∀ l, l ∈ keys m0 → ioL ≤ l) (hm : ∀ l, l ∈ keys m0 → lookB m l = lookB m0 l)
    (hok : okM (keys m0) m0) (hxs : ∀ p, p ∈ labsL xs → p.1 ∈ keys m0) (hk : ∀ r m', post r m' → k r (m' ++ m)) : sCallF P f xs m k := by
  refine ⟨hH.1, fun B N φ fp S ts a w vs h hsz hx hxl => ?_⟩
  have hR0 : RS (baseH w (resφ (keys m0) φ) (resF (keys m0) fp) S m0) vs.size (resφ (keys m0) φ) (resF (keys m0) fp) S (argsE 0 xs) m0 { tmps := vs, defers := [] } w := by
    refine { tm := fun t => ?_, tl := fun t l ver hl => ?_, mNone := fun l hl => ?_, mSome := fun l b hb => ?_, bl := fun l v xs hb l' ver hl => ?_, nod := fun l => ?_, dis := fun l l' b h1 h2 => h.dis l l' b (mem_resF h1).2 (mem_resF h2).2,
             notS := fun l b hb => h.notS l b (mem_resF hb).2, fpB := fun l b hb => ⟨(h.fpB l b (mem_resF hb).2).1, .inr ⟨l, hb, hhi l (mem_resF hb).1, .inl rfl⟩⟩, sB := fun b hb => ⟨(h.sB b hb).1, .inr hb⟩, base := fun b _ _ => rfl, out := SameOut.refl _, szs := Szs.refl _,
             kn := fun _ _ _ hk => hk, fix := fun _ _ _ _ => LS.le_refl _ _, size := Nat.le_refl _, defers := rfl, tsz := rfl, kon := h.kon }
    · rw [look_argsE]
      by_cases ht : t < xs.length
      · have e : (if 0 ≤ t then (xs[t - 0]?).getD AV.undef else .undef) = xs[t] := by simp [ht]
        rw [e]
        have e2 : vs.toList.getD t Go.undef = vs.getD t Go.undef := by simp [List.getD_eq_getElem?_getD, Array.getD_eq_getD_getElem?]
        rw [← e2]
        refine (hx t ht).mono (fun _ _ => rfl) (fun _ h => h) (fun l b sh ver cs e _ hb => ⟨cs, e, hb, rfl⟩) fun l ver hl => ?_
        rw [resφ_in (hxs _ (mem_labsL ht hl))]
        exact LS.le_refl _ _
      · have e : (if 0 ≤ t then (xs[t - 0]?).getD AV.undef else .undef) = .undef := by simp [List.getElem?_eq_none (show xs.length ≤ t by omega)]
        rw [e]; exact .rd _ _ (.undef _)
    · rw [look_argsE] at hl
      by_cases ht : t < xs.length
      · have e : (if 0 ≤ t then (xs[t - 0]?).getD AV.undef else .undef) = xs[t] := by simp [ht]
        rw [e] at hl
        obtain ⟨b, h1, h2⟩ := hxl t ht l ver hl
        exact ⟨b, (hm l (hxs _ (mem_labsL ht hl))).symm.trans h1, h2⟩
      · have e : (if 0 ≤ t then (xs[t - 0]?).getD AV.undef else .undef) = .undef := by simp [List.getElem?_eq_none (show xs.length ≤ t by omega)]
        rw [e] at hl; cases hl
    · have hn : l ∉ keys m0 := fun hh => of_keys hh hl
      unfold resφ resF
      rw [if_neg hn, if_neg hn]; exact ⟨rfl, rfl⟩
    · have hl : l ∈ keys m0 := in_keys (by rw [hb]; exact fun e => by cases e)
      rw [resF_in hl]
      refine (h.mSome l b ((hm l hl).trans hb)).mono (fun _ _ => rfl) (fun _ h => h) (fun l b sh ver cs e _ hb => ⟨cs, e, hb, rfl⟩) (fun _ _ => rfl) (resφ_in hl) fun v xs e l' ver hl' => ?_
      subst e
      rw [resφ_in (hok.2 l v xs hb _ hl')]
      exact LS.le_refl _ _
    · have hl0 : l ∈ keys m0 := in_keys (by rw [hb]; exact fun e => by cases e)
      obtain ⟨b, h1, h2⟩ := h.bl l v xs ((hm l hl0).trans hb) l' ver hl
      exact ⟨b, (hm l' (hok.2 l v xs hb _ hl)).symm.trans h1, h2⟩
    · unfold resF; split
      · exact h.nod l
      · exact List.nodup_nil
  refine (hH.2 w _ _ S vs hsz hR0).mono ?_
  rintro e w' ⟨x, v, m', φ', fp', S', rfl, hpost, hrv, hlab, hokm, hR⟩
  have hsame : ∀ b : Nat, b < w.heap.size → (∀ l, l ∈ keys m0 → b ∉ fp l) → w'.heap[b]? = w.heap[b]? := fun b hb hn => hR.base b hb fun l hb' => hn l (mem_resF hb').1 (mem_resF hb').2
  have hSsame : ∀ b, S b → w'.heap[b]? = w.heap[b]? := fun b hb => hsame b (h.sB b hb).1 fun l _ hb' => h.notS _ b hb' hb
  have hz : Sized φ w w' := fun l b sh ver cs e _ hb => hR.szs b cs e hb
  have hST : ∀ b, S' b → S b ∨ (S' b ∧ w.heap.size ≤ b) := fun b hb => by
    rcases (hR.sB b hb).2 with hh | hh
    · exact .inr ⟨hb, hh⟩
    · exact .inl hh
  have kno : ∀ l ver, l ∈ keys m0 → known m l ver → known m0 l ver := fun l ver hl ⟨b, h1, h2⟩ => ⟨b, (hm l hl).symm.trans h1, h2⟩
  have inm' : ∀ l, l ∈ keys m0 → ∃ b, lookB m' l = some b := by
    intro l hl
    cases hb : lookB m0 l with
    | none => exact absurd hb (of_keys hl)
    | some b =>
      obtain ⟨b', h1, _⟩ := hR.kn l b.ver (hhi l hl) ⟨b, hb, Nat.le_refl _⟩
      exact ⟨b', h1⟩
  have lkL : ∀ l, l ∈ keys m0 → lookB (m' ++ m) l = lookB m' l := fun l hl => by
    obtain ⟨b, hb⟩ := inm' l hl
    rw [hb]; exact lookB_appL hb
  have lkR : ∀ l, l ∉ keys m0 → lookB (m' ++ m) l = lookB m l := fun l hl => lookB_appR (by
    cases hb : lookB m' l with
    | none => rfl
    | some b => exact absurd (hokm.1 l (by rw [hb]; exact fun e => by cases e)) hl)
  have hkn : ∀ l ver, known m l ver → known (m' ++ m) l ver := by
    intro l ver hk
    by_cases hl : l ∈ keys m0
    · obtain ⟨b, h1, h2⟩ := hR.kn l ver (hhi l hl) (kno l ver hl hk)
      exact ⟨b, (lkL l hl).trans h1, h2⟩
    · obtain ⟨b, h1, h2⟩ := hk
      exact ⟨b, (lkR l hl).trans h1, h2⟩
  let φ2 : Nat → LS := fun l => if l ∈ keys m0 then φ' l else φ l
  let fp2 : Nat → List Nat := fun l => if l ∈ keys m0 then fp' l else fp l
  have φi : ∀ l, l ∈ keys m0 → φ2 l = φ' l := fun l hl => if_pos hl
  have φo : ∀ l, l ∉ keys m0 → φ2 l = φ l := fun l hl => if_neg hl
  have fi : ∀ l, l ∈ keys m0 → fp2 l = fp' l := fun l hl => if_pos hl
  have fo : ∀ l, l ∉ keys m0 → fp2 l = fp l := fun l hl => if_neg hl
  have hle : ∀ l ver, known m l ver → LS.le (φ2 l) (φ l) ver := by
    intro l ver hk
    by_cases hl : l ∈ keys m0
    · have := hR.fix l ver (hhi l hl) (kno l ver hl hk)
      have this : LS.le (φ' l) (resφ (keys m0) φ l) ver := this
      rw [resφ_in hl] at this
      rw [φi l hl]; exact this
    · rw [φo l hl]; exact LS.le_refl _ _
  have fpnew : ∀ l, l ∈ keys m0 → ∀ b, b ∈ fp' l → b < w'.heap.size ∧ (w.heap.size ≤ b ∨ b ∈ fp l) := by
    intro l hl b hb
    have := hR.fpB l b hb
    refine ⟨this.1, this.2.imp id ?_⟩
    rintro ⟨l', hb2, _, hl3⟩
    have hl3 : l' = l := hl3.resolve_right fun e => of_keys hl e
    subst hl3
    have hb2 : b ∈ resF (keys m0) fp l' := hb2
    exact (mem_resF hb2).2
  have hfpd : ∀ l, lookB m' l = none → fp' l = [] := fun l hl => (hR.mNone l hl).2
  have mixed : ∀ l, l ∈ keys m0 → ∀ l' b, l' ∉ keys m0 → b ∈ fp' l → b ∈ fp l' → False := by
    intro l hl l' b hl' b1 b2
    rcases (fpnew l hl b b1).2 with hh | hh
    · have := (h.fpB l' b b2).1; omega
    · exact hl' (by rw [h.dis _ _ b b2 hh]; exact hl)
  refine ⟨v, rfl, φ2, fp2, fun b => S b ∨ (S' b ∧ w.heap.size ≤ b), m' ++ m, x, ?_, ?_, fun l ver hl => (by rw [hlab] at hl; cases hl), hk x m' hpost, fun l _ _ b hb => (by
    by_cases hl : l ∈ keys m0
    · rw [fi l hl] at hb; exact (fpnew l hl b hb).2
    · rw [fo l hl] at hb; exact .inr hb)⟩
  · refine { tm := fun t => (h.tm t).mono hSsame (fun b hb => .inl hb) hz fun l ver hl => hle l ver (h.tl t l ver hl), tl := fun t l ver hl => hkn l ver (h.tl t l ver hl), mNone := fun l hl => ?_, mSome := fun l b hb => ?_,
             bl := fun l v xs hb l' ver hl => ?_, nod := fun l => ?_, dis := fun l l' b h1 h2 => ?_, notS := fun l b hb => ?_, fpB := fun l b hb => ?_, sB := fun b hb => ?_, base := fun b hb hio => ?_,
             out := h.out.trans hR.out, szs := h.szs.trans hR.szs, kn := fun l ver hl hk => hkn l ver (h.kn l ver hl hk), fix := fun l ver hl hk => LS.le_trans (hle l ver (h.kn l ver hl hk)) (h.fix l ver hl hk), size := Nat.le_trans h.size hR.size, defers := h.defers, tsz := h.tsz,
             kon := h.kon.mono hSsame fun b hb => .inl hb }
    · by_cases hm1 : l ∈ keys m0
      · obtain ⟨b, hb⟩ := inm' l hm1
        rw [lkL l hm1, hb] at hl; cases hl
      · rw [lkR l hm1] at hl
        rw [φo l hm1, fo l hm1]; exact h.mNone l hl
    · by_cases hm1 : l ∈ keys m0
      · rw [lkL l hm1] at hb
        rw [fi l hm1]
        refine (hR.mSome l b hb).mono (fun _ _ => rfl) hST (fun l b sh ver cs e _ hb => ⟨cs, e, hb, rfl⟩) (fun _ _ => rfl) (φi l hm1) fun v xs e l' ver hl' => ?_
        subst e
        rw [φi l' (hokm.2 l v xs hb _ hl')]
        exact LS.le_refl _ _
      · rw [lkR l hm1] at hb
        rw [fo l hm1]
        refine (h.mSome l b hb).mono hSsame (fun b hb => .inl hb) hz (fun c hc => hsame c (h.fpB l c hc).1 fun l' hl' hc' => hm1 (by rw [h.dis _ _ c hc hc']; exact hl')) (φo l hm1) fun v xs e l' ver hl' => ?_
        subst e
        exact hle l' ver (h.bl l v xs hb l' ver hl')
    · by_cases hm1 : l ∈ keys m0
      · rw [lkL l hm1] at hb
        obtain ⟨b, h1, h2⟩ := hR.bl l v xs hb l' ver hl
        exact ⟨b, lookB_appL h1, h2⟩
      · rw [lkR l hm1] at hb
        exact hkn l' ver (h.bl l v xs hb l' ver hl)
    · by_cases hm1 : l ∈ keys m0
      · rw [fi l hm1]; exact hR.nod l
      · rw [fo l hm1]; exact h.nod l
    · by_cases m1 : l ∈ keys m0
      · rw [fi l m1] at h1
        by_cases m2 : l' ∈ keys m0
        · rw [fi l' m2] at h2
          exact hR.dis _ _ b h1 h2
        · rw [fo l' m2] at h2
          exact (mixed l m1 l' b m2 h1 h2).elim
      · rw [fo l m1] at h1
        by_cases m2 : l' ∈ keys m0
        · rw [fi l' m2] at h2
          exact (mixed l' m2 l b m1 h2 h1).elim
        · rw [fo l' m2] at h2
          exact h.dis l l' b h1 h2
    · by_cases hm1 : l ∈ keys m0
      · rw [fi l hm1] at hb
        rintro (hs | hs)
        · rcases (fpnew l hm1 b hb).2 with hh | hh
          · have := (h.sB b hs).1; omega
          · exact h.notS _ b hh hs
        · exact hR.notS _ b hb hs.1
      · rw [fo l hm1] at hb
        rintro (hs | hs)
        · exact h.notS l b hb hs
        · have := (h.fpB l b hb).1; omega
    · by_cases hm1 : l ∈ keys m0
      · rw [fi l hm1] at hb
        have := fpnew l hm1 b hb
        refine ⟨this.1, ?_⟩
        rcases this.2 with hh | hh
        · exact .inl (Nat.le_trans h.size hh)
        · exact (h.fpB _ b hh).2
      · rw [fo l hm1] at hb
        have := h.fpB l b hb
        exact ⟨Nat.lt_of_lt_of_le this.1 hR.size, this.2⟩
    · rcases hb with hs | hs
      · have := h.sB b hs
        exact ⟨Nat.lt_of_lt_of_le this.1 hR.size, this.2⟩
      · exact ⟨(hR.sB b hs.1).1, .inl (Nat.le_trans h.size hs.2)⟩
    · refine (hsame b (Nat.lt_of_lt_of_le hb h.size) fun l hl hb' => ?_).trans (h.base b hb hio)
      rcases (h.fpB _ b hb').2 with hh | hh
      · omega
      · exact hio _ hh.choose_spec.1
  · refine hrv.mono (fun _ _ => rfl) hST (fun l b sh ver cs e _ hb => ⟨cs, e, hb, rfl⟩) fun l ver hl => ?_
    rw [hlab] at hl; cases hl

/- ---- the same, told by computation -/
def inLs (L : List Nat) : List (Nat × Nat) → Prop
  | [] => True
  | p :: r => p.1 ∈ L ∧ inLs L r
theorem inLs_nil (L : List Nat) : inLs L [] = True := rfl
theorem inLs_cons (L : List Nat) (l v : Nat) (r : List (Nat × Nat)) : inLs L ((l, v) :: r) = (l ∈ L ∧ inLs L r) := rfl
def okK (L : List Nat) (b : Blk) : Prop := match b with
  | .box _ xs => inLs L (labsL xs)
  | _ => True
theorem okK_box (L : List Nat) (v : Nat) (xs : List AV) : okK L (.box v xs) = inLs L (labsL xs) := rfl
theorem okK_row (L : List Nat) (v : Nat) (sh : Sh) (d : Bool) (xs : List AV) : okK L (.row v sh d xs) = True := rfl
theorem okK_gone (L : List Nat) (v : Nat) : okK L (.gone v) = True := rfl
def okB (L : List Nat) : Mem → Prop
  | [] => True
  | (l, b) :: r => (l ∈ L ∧ okK L b) ∧ okB L r
theorem okB_nil (L : List Nat) : okB L [] = True := rfl
theorem okB_cons (L : List Nat) (l : Nat) (b : Blk) (r : Mem) : okB L ((l, b) :: r) = ((l ∈ L ∧ okK L b) ∧ okB L r) := rfl
def sameB (m m' : Mem) : List Nat → Prop
  | [] => True
  | l :: r => lookB m l = lookB m' l ∧ sameB m m' r
theorem sameB_nil (m m' : Mem) : sameB m m' [] = True := rfl
theorem sameB_cons (m m' : Mem) (l : Nat) (r : List Nat) : sameB m m' (l :: r) = (lookB m l = lookB m' l ∧ sameB m m' r) := rfl
def hiLs : List Nat → Prop
  | [] => True
  | l :: r => 1000000000 ≤ l ∧ hiLs r
theorem hiLs_nil : hiLs [] = True := rfl
theorem hiLs_cons (l : Nat) (r : List Nat) : hiLs (l :: r) = (1000000000 ≤ l ∧ hiLs r) := rfl
attribute [go_sem] keys_nil keys_cons inLs_nil inLs_cons okK_box okK_row okK_gone okB_nil okB_cons sameB_nil sameB_cons hiLs_nil hiLs_cons finH_normal finH_ret
end Go.Vc


/-
  Rows that are given away: they stay readable for good. Contracts of functions whose result shares with what they were given.
-/
set_option linter.unusedVariables false
set_option linter.unusedSimpArgs false
set_option linter.unnecessarySimpa false
namespace Go.Vc

section
variable {P : Program} {B : Base} {N : Nat} {φ : Nat → LS} {fp : Nat → List Nat} {S : Nat → Prop} {ts : Env} {m : Mem} {a : Act} {w : World}

end

/-- Ahead of any piece of code a row of ours may be given away: temporary t, a slice of it, is a readable list from then on. -/
theorem Later.frz {P : Program} {N : Nat} {code : Code} {ts : Env} {m : Mem} {Q : Post} {q : Pack (code, Q)} (t l v i n : Nat) (sh : Sh) (d : Bool) (ys : List AV) (hl : l < ioL) (hm : lookB m l = some (.row v sh d ys)) (ht : look ts t = .ref l v i n) (hn : i + n ≤ ys.length)
    (h : Later P N code ((t, .arr sh ((ys.drop i).take n)) :: ts) ((l, .gone v) :: m) Q q) : Later P N code ts m Q q := by
  refine ⟨fun B φ fp S a w hRS => h.ok B _ _ _ a w (?_ : RS B N (offφ l φ) (offF l fp) (fun b => S b ∨ b ∈ fp l) _ _ a w)⟩
  have hf := hRS.frz hl hm (v := v) rfl
  have hu := hRS.tm t
  rw [ht] at hu
  have hrd := frz_rd hRS hl hm hn hu
  refine { hf with tm := fun t' => ?_, tl := fun t' k ver hk => ?_ }
  · rw [look_cons]
    split
    · rename_i e; subst e; exact .rd _ _ hrd
    · exact hf.tm t'
  · rw [look_cons] at hk
    split at hk
    · cases hk
    · exact hf.tl t' k ver hk

/-- What must hold where the body of a function ends whose result is readable. -/
def finS (P : Program) (rs : List ResultVar) (post : AV → Prop) : Post
  | .normal => fun ts m => sResults P (fun xs => sGivAs (fun ys _ => labsL ys = [] ∧ post (mkRes ys)) [] m xs) rs ts m []
  | .ret => fun ts m => sResults P (fun xs => sGivAs (fun ys _ => labsL ys = [] ∧ post (mkRes ys)) [] m xs) rs ts m []
  | _ => fun _ _ => False
theorem finS_normal (P : Program) (rs : List ResultVar) (post : AV → Prop) (ts : Env) (m : Mem) : finS P rs post .normal ts m = sResults P (fun xs => sGivAs (fun ys _ => labsL ys = [] ∧ post (mkRes ys)) [] m xs) rs ts m [] := rfl
theorem finS_ret (P : Program) (rs : List ResultVar) (post : AV → Prop) (ts : Env) (m : Mem) : finS P rs post .ret ts m = sResults P (fun xs => sGivAs (fun ys _ => labsL ys = [] ∧ post (mkRes ys)) [] m xs) rs ts m [] := rfl

theorem Fn.of_vcS' {P : Program} {f : FuncId} {fn : Func} {c : Code} {args : List AV} {post : AV → Prop} (hf : P.funcs[f]? = some fn) (hn : (fn.name == "runtime.NumGoroutine") = false) (hb : fn.body = some c)
    (hok : codeOk fn.ntmps c = true) (ha : args.length ≤ fn.ntmps) (hv : vc P fn.ntmps c (argsE 0 args) [] (finS P fn.results.toList post)) : Fn P f args false post := by
  refine ⟨⟨fn, c, hf, hn, hb⟩, fun w S vs hS hkon hsz hrd => ?_⟩
  refine calls_of_wp hf hb ?_
  have hRS : RS ⟨w, fun _ _ => False, S, fun _ => .dead, []⟩ fn.ntmps (fun _ => .dead) (fun _ => []) S (argsE 0 args) [] { tmps := vs ++ Array.replicate (fn.ntmps - vs.size) undef, defers := [] } w := by
    have hlook : ∀ t, (look (argsE 0 args) t = .undef ∨ ∃ h : t < args.length, look (argsE 0 args) t = args[t]) := by
      intro t
      rw [look_argsE]
      by_cases h : t < args.length
      · exact .inr ⟨h, by simp [h]⟩
      · exact .inl (by simp [h])
    refine { tm := fun t => ?_, tl := fun t l ver hl => ?_, mNone := fun _ _ => ⟨rfl, rfl⟩, mSome := fun l k hk => (by cases hk), bl := fun l v xs hk => (by cases hk), nod := fun _ => List.nodup_nil,
             dis := fun _ _ _ h => (by cases h), notS := fun _ _ h => (by cases h), fpB := fun _ _ h => (by cases h), sB := fun b hb => ⟨hS b hb, .inr hb⟩, base := fun b hb _ => rfl, out := SameOut.refl _, szs := Szs.refl _, kn := fun _ _ _ hk => hk, fix := fun _ _ _ _ => LS.le_refl _ _,
             size := Nat.le_refl _, defers := rfl, tsz := by simp; omega, kon := hkon }
    · rcases hlook t with e | ⟨h, e⟩
      · rw [e]; exact .rd _ _ (.undef _)
      · rw [e]
        have h1 := hrd t h
        have : vs.toList.getD t Go.undef = (vs ++ Array.replicate (fn.ntmps - vs.size) undef).getD t Go.undef := by
          have h2 : t < vs.size := by omega
          simp only [Array.getD_eq_getD_getElem?, List.getD_eq_getElem?_getD, Array.getElem?_toList]
          rw [Array.getElem?_append_left h2]
        rw [← this]
        exact .rd _ _ h1
    · rcases hlook t with e | ⟨h, e⟩
      · rw [e] at hl; cases hl
      · rw [e, labs_rd (hrd t h)] at hl; cases hl
  have hend : ∀ a' w', Done ⟨w, fun _ _ => False, S, fun _ => .dead, []⟩ fn.ntmps (fun ts m => sResults P (fun xs => sGivAs (fun ys _ => labsL ys = [] ∧ post (mkRes ys)) [] m xs) fn.results.toList ts m []) a' w' →
      a'.defers = [] ∧ ∃ v, (results fn a'.tmps).run P w' = .ok v w' ∧ ∃ r v', Ending.returned v = .returned v' ∧ post r ∧ Grown w w' ∧ FnRes w w' S false r v' := by
    rintro a' w' ⟨φ0, fp0, S0, ts', m0, h0, hk⟩
    refine ⟨h0.defers, ?_⟩
    obtain ⟨ys0, us, h1, h2, h3, h4⟩ := results_out' h0 fn.results.toList [] [] ⟨rfl, fun i hi => absurd hi (Nat.not_lt_zero _)⟩ (fun i hi => absurd hi (Nat.not_lt_zero _)) hk
    obtain ⟨φ', fp', S', m', ys, hgv, h3, hlab, hpost⟩ := givAs_out ys0 us [] [] h0 (by simpa using h3) ⟨rfl, fun i hi => absurd hi (Nat.not_lt_zero _)⟩ h1
    have h' := hgv.rs
    obtain ⟨h3a, h3b⟩ := h3
    simp only [List.nil_append] at h3a h3b
    refine ⟨if h : us.toArray.size = 1 then us.toArray[0] else .tuple us.toArray, ?_, mkRes ys, _, rfl, hpost, ⟨h'.size, fun b hb => h'.base b hb (fun _ h => h), h'.out⟩, ?_⟩
    · have hm : results fn a'.tmps = (do let vs ← fn.results.mapM (resOne a'.tmps); pure (if h : vs.size = 1 then vs[0] else .tuple vs)) := by
        unfold results
        congr 1
      rw [hm, Sem.run_bind, Array.mapM_eq_mapM_toList]
      have : (List.toArray <$> fn.results.toList.mapM (resOne a'.tmps) : Sem (Array Value)).run P w' = .ok us.toArray w' := by
        rw [map_eq_pure_bind, Sem.run_bind, h2]; rfl
      rw [this]; rfl
    · show Rd w' _ _ _
      refine (rd_of_rv (mkRes_rv h3a h3b) (labs_mkRes hlab)).mono (fun _ _ => rfl) fun b hb => ?_
      rcases (h'.sB b hb).2 with hh | hh
      · exact .inr ⟨hh, (h'.sB b hb).1⟩
      · exact .inl hh
  refine wp_mono (vc_sound c _ _ _ hok hv _ _ _ _ _ _ hRS) ?_
  intro e a' w' hq
  cases e with
  | normal => exact hend a' w' hq
  | ret => exact hend a' w' hq
  | _ => obtain ⟨_, _, _, _, _, _, hh⟩ := hq; exact hh.elim
theorem Fn.of_vcS {P : Program} {f : FuncId} {fn : Func} {c : Code} {args : List AV} {post : AV → Prop} (N : Nat) (rs : List ResultVar) (hf : P.funcs[f]? = some fn) (hN : fn.ntmps = N) (hr : fn.results.toList = rs) (hn : (fn.name == "runtime.NumGoroutine") = false)
    (hb : fn.body = some c) (hok : codeOk N c = true) (ha : args.length ≤ N) (hv : vc P N c (argsE 0 args) [] (finS P rs post)) : Fn P f args false post := by
  subst hN; subst hr; exact Fn.of_vcS' hf hn hb hok ha hv
attribute [go_sem] finS_normal finS_ret labs_val labs_e0 labs_arr labsL_nil labsL_cons
end Go.Vc


/-
  Contracts of functions that write blocks of their caller's and whose result is readable.
-/
set_option linter.unusedVariables false
set_option linter.unusedSimpArgs false
set_option linter.unnecessarySimpa false
namespace Go.Vc

/-- As FnM, but the result is what may be read for good. -/
def FnMR (P : Program) (f : FuncId) (io : List Blk) (args : List AV) (post : AV → List Blk → Prop) : Prop :=
  Enters P f ∧ ∀ (w : World) (φ : Nat → LS) (fp : Nat → List Nat) (S : Nat → Prop) (vs : Array Value), vs.size = args.length →
    RS (ioB w φ fp S io) vs.size φ fp S (argsE 0 args) (ioM 0 io) { tmps := vs, defers := [] } w →
    Calls P f vs w fun e w' => ∃ r v io' φ' fp' S' m', e = .returned v ∧ post r io' ∧ RS (ioB w φ fp S io) 0 φ' fp' S' [] m' { tmps := #[], defers := [] } w' ∧ IoOk io io' m' ∧ Rd w' S' r v

def finMR (P : Program) (rs : List ResultVar) (vers : List Nat) (post : AV → List Blk → Prop) : Post
  | .normal => fun ts m => sResults P (fun xs => sGivAs (fun ys m' => labsL ys = [] ∧ sIoB m' (fun io' => post (mkRes ys) io') 0 vers []) [] m xs) rs ts m []
  | .ret => fun ts m => sResults P (fun xs => sGivAs (fun ys m' => labsL ys = [] ∧ sIoB m' (fun io' => post (mkRes ys) io') 0 vers []) [] m xs) rs ts m []
  | _ => fun _ _ => False
theorem finMR_normal (P : Program) (rs : List ResultVar) (vers : List Nat) (post : AV → List Blk → Prop) (ts : Env) (m : Mem) :
    finMR P rs vers post .normal ts m = sResults P (fun xs => sGivAs (fun ys m' => labsL ys = [] ∧ sIoB m' (fun io' => post (mkRes ys) io') 0 vers []) [] m xs) rs ts m [] := rfl
theorem finMR_ret (P : Program) (rs : List ResultVar) (vers : List Nat) (post : AV → List Blk → Prop) (ts : Env) (m : Mem) :
    finMR P rs vers post .ret ts m = sResults P (fun xs => sGivAs (fun ys m' => labsL ys = [] ∧ sIoB m' (fun io' => post (mkRes ys) io') 0 vers []) [] m xs) rs ts m [] := rfl

theorem FnMR.of_vc' {P : Program} {f : FuncId} {fn : Func} {c : Code} {io : List Blk} {args : List AV} {post : AV → List Blk → Prop} (hf : P.funcs[f]? = some fn) (hn : (fn.name == "runtime.NumGoroutine") = false) (hb : fn.body = some c)
    (hok : codeOk fn.ntmps c = true) (ha : args.length ≤ fn.ntmps) (hv : vc P fn.ntmps c (argsE 0 args) (ioM 0 io) (finMR P fn.results.toList (io.map Blk.ver) post)) : FnMR P f io args post := by
  refine ⟨⟨fn, c, hf, hn, hb⟩, fun w φ fp S vs hsz hR0 => ?_⟩
  refine calls_of_wp hf hb ?_
  have hRS : RS (ioB w φ fp S io) fn.ntmps φ fp S (argsE 0 args) (ioM 0 io) { tmps := vs ++ Array.replicate (fn.ntmps - vs.size) undef, defers := [] } w := by
    refine { hR0 with tm := fun t => ?_, defers := rfl, tsz := by simp; omega }
    by_cases h : t < args.length
    · have h1 := hR0.tm t
      have : vs.getD t Go.undef = (vs ++ Array.replicate (fn.ntmps - vs.size) undef).getD t Go.undef := by
        have h2 : t < vs.size := by omega
        simp only [Array.getD_eq_getD_getElem?]
        rw [Array.getElem?_append_left h2]
      rw [← this]; exact h1
    · rw [look_argsE]
      have : (if 0 ≤ t then (args[t - 0]?).getD AV.undef else .undef) = .undef := by simp [List.getElem?_eq_none (show args.length ≤ t by omega)]
      rw [this]; exact .rd _ _ (.undef _)
  have hend : ∀ a' w', Done (ioB w φ fp S io) fn.ntmps (fun ts m => sResults P (fun xs => sGivAs (fun ys m' => labsL ys = [] ∧ sIoB m' (fun io' => post (mkRes ys) io') 0 (io.map Blk.ver) []) [] m xs) fn.results.toList ts m []) a' w' →
      a'.defers = [] ∧ ∃ v, (results fn a'.tmps).run P w' = .ok v w' ∧ ∃ r v' io' φ' fp' S' m', Ending.returned v = .returned v' ∧ post r io' ∧ RS (ioB w φ fp S io) 0 φ' fp' S' [] m' { tmps := #[], defers := [] } w' ∧ IoOk io io' m' ∧
        Rd w' S' r v' := by
    rintro a' w' ⟨φ0, fp0, S0, ts', m0, h0, hk⟩
    refine ⟨h0.defers, ?_⟩
    obtain ⟨ys0, us, h1, h2, h3, h4⟩ := results_out' h0 fn.results.toList [] [] ⟨rfl, fun i hi => absurd hi (Nat.not_lt_zero _)⟩ (fun i hi => absurd hi (Nat.not_lt_zero _)) hk
    obtain ⟨φ', fp', S', m', ys, hgv, h3, hlab, h1⟩ := givAs_out ys0 us [] [] h0 (by simpa using h3) ⟨rfl, fun i hi => absurd hi (Nat.not_lt_zero _)⟩ h1
    have h' := hgv.rs
    obtain ⟨h3a, h3b⟩ := h3
    simp only [List.nil_append] at h3a h3b
    obtain ⟨io', q1, q2, q3⟩ := sIo_out _ _ _ h1
    rw [List.reverse_nil, List.nil_append] at q1
    refine ⟨if h : us.toArray.size = 1 then us.toArray[0] else .tuple us.toArray, ?_, mkRes ys, _, io', φ', fp', S', m', rfl, q1, ?_, ⟨by simpa using q2, fun k hk hk' => ?_⟩, rd_of_rv (mkRes_rv h3a h3b) (labs_mkRes hlab)⟩
    · have hm : results fn a'.tmps = (do let vs ← fn.results.mapM (resOne a'.tmps); pure (if h : vs.size = 1 then vs[0] else .tuple vs)) := by
        unfold results
        congr 1
      rw [hm, Sem.run_bind, Array.mapM_eq_mapM_toList]
      have : (List.toArray <$> fn.results.toList.mapM (resOne a'.tmps) : Sem (Array Value)).run P w' = .ok us.toArray w' := by
        rw [map_eq_pure_bind, Sem.run_bind, h2]; rfl
      rw [this]; rfl
    · exact { h' with tm := fun t => by rw [look_nil]; exact .rd _ _ (.undef _), tl := fun t l ver hl => (by rw [look_nil] at hl; cases hl), defers := rfl, tsz := rfl }
    · have := q3 k hk (by simpa using hk')
      rw [Nat.zero_add] at this
      refine ⟨this.1, ?_, this.2.2⟩
      rw [this.2.1, List.getElem_map]
  refine wp_mono (vc_sound c _ _ _ hok hv _ _ _ _ _ _ hRS) ?_
  intro e a' w' hq
  cases e with
  | normal => exact hend a' w' hq
  | ret => exact hend a' w' hq
  | _ => obtain ⟨_, _, _, _, _, _, hh⟩ := hq; exact hh.elim
theorem FnMR.of_vc {P : Program} {f : FuncId} {fn : Func} {c : Code} {io : List Blk} {args : List AV} {post : AV → List Blk → Prop} (N : Nat) (rs : List ResultVar) (hf : P.funcs[f]? = some fn) (hN : fn.ntmps = N) (hr : fn.results.toList = rs)
    (hn : (fn.name == "runtime.NumGoroutine") = false) (hb : fn.body = some c) (hok : codeOk N c = true) (ha : args.length ≤ N) (hv : vc P N c (argsE 0 args) (ioM 0 io) (finMR P rs (io.map Blk.ver) post)) : FnMR P f io args post := by
  subst hN; subst hr; exact FnMR.of_vc' hf hn hb hok ha hv

section
variable {P : Program} {B : Base} {N : Nat} {φ : Nat → LS} {fp : Nat → List Nat} {S : Nat → Prop} {ts : Env} {m : Mem} {a : Act} {w : World}
theorem callMR_core {f : FuncId} {ρ : List Nat} {io : List Blk} {args xs : List AV} (hnd : ρ.Nodup) (hio : io.length = ρ.length)
    (hlk : ∀ j (h : j < ρ.length) (h' : j < io.length), lookB m ρ[j] = some io[j] ∧ labFree io[j]) {vs : Array Value} (h : RS B N φ fp S ts m a w) (hvl : vs.size = args.length)
    (hx : ∀ i (h : i < args.length), RV w S (φio φ ρ) args[i] (vs.toList.getD i Go.undef) ∧ ∀ l ver, (l, ver) ∈ labs args[i] → known (ioM 0 io) l ver) {post : AV → List Blk → Prop} (hf : FnMR P f io args post) :
    Calls P f vs w fun e w' => ∃ v r io' fp2 T, e = .returned v ∧ post r io' ∧ RS B N φ fp2 T ts (putIo ρ io' m) a w' ∧ Rd w' T r v := by
  have inj : ∀ i j (hi : i < ρ.length) (hj : j < ρ.length), ρ[i] = ρ[j] → i = j := fun i j hi hj e => (List.getElem_inj hnd).1 e
  have look0 : ∀ l, lookB (ioM 0 io) l = if ioL ≤ l then io[l - ioL]? else none := fun l => by rw [lookB_ioM]; rfl
  have at_ : ∀ l b, lookB (ioM 0 io) l = some b → ∃ j, ∃ hj : j < ρ.length, ∃ hj' : j < io.length, l = ioL + j ∧ b = io[j] := by
    intro l b hb
    rw [look0] at hb
    split at hb
    · rename_i hl
      obtain ⟨hj, e⟩ := List.getElem?_eq_some_iff.1 hb
      exact ⟨l - ioL, by omega, hj, by omega, e.symm⟩
    · cases hb
  have hR0 : RS (ioB w (φio φ ρ) (fpio fp ρ) S io) vs.size (φio φ ρ) (fpio fp ρ) S (argsE 0 args) (ioM 0 io) { tmps := vs, defers := [] } w := by
    refine { tm := fun t => ?_, tl := fun t l ver hl => ?_, mNone := fun l hl => ?_, mSome := fun l b hb => ?_, bl := fun l v xs hb l' ver hl => ?_, nod := fun l => ?_, dis := fun l l' b h1 h2 => ?_,
             notS := fun l b hb => ?_, fpB := fun l b hb => ?_, sB := fun b hb => ⟨(h.sB b hb).1, .inr hb⟩, base := fun b _ _ => rfl, out := SameOut.refl _, szs := Szs.refl _, kn := fun _ _ _ hk => hk, fix := fun _ _ _ _ => LS.le_refl _ _,
             size := Nat.le_refl _, defers := rfl, tsz := rfl, kon := h.kon }
    · rw [look_argsE]
      by_cases ht : t < args.length
      · have e : (if 0 ≤ t then (args[t - 0]?).getD AV.undef else .undef) = args[t] := by simp [ht]
        rw [e]
        have := (hx t ht).1
        have e2 : vs.toList.getD t Go.undef = vs.getD t Go.undef := by
          simp [List.getD_eq_getElem?_getD, Array.getD_eq_getD_getElem?]
        rw [← e2]; exact this
      · have e : (if 0 ≤ t then (args[t - 0]?).getD AV.undef else .undef) = .undef := by simp [List.getElem?_eq_none (show args.length ≤ t by omega)]
        rw [e]; exact .rd _ _ (.undef _)
    · rw [look_argsE] at hl
      by_cases ht : t < args.length
      · have e : (if 0 ≤ t then (args[t - 0]?).getD AV.undef else .undef) = args[t] := by simp [ht]
        rw [e] at hl
        exact (hx t ht).2 l ver hl
      · have e : (if 0 ≤ t then (args[t - 0]?).getD AV.undef else .undef) = .undef := by simp [List.getElem?_eq_none (show args.length ≤ t by omega)]
        rw [e] at hl; cases hl
    · rw [look0] at hl
      unfold φio fpio
      split at hl
      · rename_i hl'
        have : ρ[l - ioL]? = none := List.getElem?_eq_none (by have := List.getElem?_eq_none_iff.1 hl; omega)
        rw [if_pos hl', if_pos hl', this]; exact ⟨rfl, rfl⟩
      · rename_i hl'
        rw [if_neg hl', if_neg hl']; exact ⟨rfl, rfl⟩
    · obtain ⟨j, hj, hj', rfl, rfl⟩ := at_ l b hb
      have hb0 := h.mSome ρ[j] _ (hlk j hj hj').1
      have hfr := (hlk j hj hj').2
      rw [fpio_at fp hj]
      generalize io[j] = b at hb0 hfr
      cases b with
      | gone v => exact ⟨by rw [φio_at φ hj]; exact hb0.1, hb0.2⟩
      | row v sh dp xs =>
        rcases hb0 with ⟨q1, q2, q3⟩ | ⟨b, cap, q1, q2⟩
        · exact .inl ⟨by rw [φio_at φ hj]; exact q1, q2, q3⟩
        · exact .inr ⟨b, cap, by rw [φio_at φ hj]; exact q1, q2⟩
      | lent v xs i u => exact hfr.elim
      | sub v sh xs u => exact hfr.elim
      | box v xs =>
        obtain ⟨b, cs, e, sh, q1, q2, q3, q4, q5, q6⟩ := hb0
        exact ⟨b, cs, e, sh, by rw [φio_at φ hj]; exact q1, q2, q3, q4, q5, fun i hi => .rd _ _ (rd_of_rv (q6 i hi) (labs_nil_get hfr i hi))⟩
    · obtain ⟨j, hj, hj', rfl, e⟩ := at_ l _ hb
      have hfr := (hlk j hj hj').2
      rw [← e] at hfr
      have hfr : labsL xs = [] := hfr
      rw [hfr] at hl; cases hl
    · unfold fpio
      split
      · split
        · exact h.nod _
        · exact List.nodup_nil
      · exact List.nodup_nil
    · obtain ⟨i, hi, rfl, b1⟩ := fpio_mem h1
      obtain ⟨j, hj, rfl, b2⟩ := fpio_mem h2
      have := inj i j hi hj (h.dis _ _ b b1 b2)
      subst this; rfl
    · obtain ⟨i, hi, rfl, b1⟩ := fpio_mem hb
      exact h.notS _ b b1
    · obtain ⟨i, hi, rfl, b1⟩ := fpio_mem hb
      exact ⟨(h.fpB _ b b1).1, .inr ⟨_, hb, by omega, .inl rfl⟩⟩
  refine (hf.2 w (φio φ ρ) (fpio fp ρ) S vs hvl hR0).mono ?_
  rintro e w' ⟨r, v, io', φ', fp', S', m', rfl, hpost, hR, ⟨hl', hok⟩, hrd⟩
  have hl2 : io'.length = ρ.length := hl'.trans hio
  have hsame : ∀ b : Nat, b < w.heap.size → (∀ j (hj : j < ρ.length), b ∉ fp ρ[j]) → w'.heap[b]? = w.heap[b]? := fun b hb hn => hR.base b hb fun l hb' => by
    obtain ⟨j, hj, rfl, hb2⟩ := fpio_mem hb'
    exact hn j hj hb2
  have hSsame : ∀ b, S b → w'.heap[b]? = w.heap[b]? := fun b hb => hsame b (h.sB b hb).1 fun j hj hb' => h.notS _ b hb' hb
  have hz : Sized φ w w' := fun l b sh ver cs e _ hb => hR.szs b cs e hb
  have hm2 := fun l => lookB_putIo (m := m) ρ io' hl2 hnd l
  have hkn : ∀ l ver, known m l ver → known (putIo ρ io' m) l ver := by
    rintro l ver ⟨k', h1, h2⟩
    by_cases hl : l ∈ ρ
    · obtain ⟨j, hj, rfl⟩ := List.getElem_of_mem hl
      have e := (hm2 ρ[j]).1 j hj rfl
      rw [List.getElem?_eq_getElem (by omega)] at e
      rw [(hlk j hj (by omega)).1] at h1
      have h1 := Option.some.inj h1
      exact ⟨_, e, by rw [(hok j (by omega) (by omega)).2.1, h1]; exact h2⟩
    · exact ⟨k', ((hm2 l).2 hl).trans h1, h2⟩
  let T : Nat → Prop := fun b => S b ∨ (S' b ∧ w.heap.size ≤ b)
  have hST : ∀ b, S' b → T b := fun b hb => by
    rcases (hR.sB b hb).2 with hh | hh
    · exact .inr ⟨hb, hh⟩
    · exact .inl hh
  let fp2 : Nat → List Nat := fun l => match ρ.idxOf? l with | some j => fp' (ioL + j) | none => fp l
  have fp2in : ∀ j (hj : j < ρ.length), fp2 ρ[j] = fp' (ioL + j) := by
    intro j hj
    have : ρ.idxOf? ρ[j] = some j := by
      rw [List.idxOf?, List.findIdx?_eq_some_iff_getElem]
      refine ⟨hj, by simp, fun i hi => ?_⟩
      simp only [beq_iff_eq, Bool.not_eq_true, beq_eq_false_iff_ne, ne_eq]
      intro e2
      have := inj i j (by omega) hj e2
      omega
    show (match ρ.idxOf? ρ[j] with | some j => fp' (ioL + j) | none => fp ρ[j]) = _
    rw [this]
  have fp2out : ∀ l, l ∉ ρ → fp2 l = fp l := by
    intro l hl
    have : ρ.idxOf? l = none := by simpa [List.idxOf?_eq_none_iff] using hl
    show (match ρ.idxOf? l with | some j => fp' (ioL + j) | none => fp l) = _
    rw [this]
  have fpnew : ∀ j (hj : j < ρ.length) b, b ∈ fp' (ioL + j) → b < w'.heap.size ∧ (w.heap.size ≤ b ∨ b ∈ fp ρ[j]) := by
    intro j hj b hb
    have := hR.fpB _ b hb
    refine ⟨this.1, this.2.imp id fun hh => ?_⟩
    obtain ⟨l', hb2, _, hl3⟩ := hh
    have hl3 : l' = ioL + j := hl3.resolve_right fun e => by
      have e : lookB (ioM 0 io) (ioL + j) = none := e
      rw [look0, if_pos (by omega), List.getElem?_eq_none_iff] at e; omega
    subst hl3
    have hh : b ∈ fpio fp ρ (ioL + j) := hb2
    rwa [fpio_at fp hj] at hh
  have hRS : RS B N φ fp2 T ts (putIo ρ io' m) a w' := by
    refine { tm := fun t => (h.tm t).mono hSsame (fun b hb => .inl hb) hz fun l ver _ => LS.le_refl _ _, tl := fun t l ver hl => hkn l ver (h.tl t l ver hl), mNone := fun l hl => ?_, mSome := fun l b hb => ?_,
             bl := fun l v xs hb l' ver hl => ?_, nod := fun l => ?_, dis := fun l l' b h1 h2 => ?_, notS := fun l b hb => ?_, fpB := fun l b hb => ?_, sB := fun b hb => ?_, base := fun b hb hio => ?_,
             out := h.out.trans hR.out, szs := h.szs.trans hR.szs, kn := fun l ver hl hk => hkn l ver (h.kn l ver hl hk), fix := h.fix, size := Nat.le_trans h.size hR.size, defers := h.defers, tsz := h.tsz, kon := h.kon.mono hSsame fun b hb => .inl hb }
    · by_cases hm : l ∈ ρ
      · obtain ⟨j, hj, rfl⟩ := List.getElem_of_mem hm
        rw [(hm2 ρ[j]).1 j hj rfl, List.getElem?_eq_getElem (by omega)] at hl; cases hl
      · rw [(hm2 l).2 hm] at hl
        rw [fp2out l hm]; exact h.mNone l hl
    · by_cases hm : l ∈ ρ
      · obtain ⟨j, hj, rfl⟩ := List.getElem_of_mem hm
        rw [(hm2 ρ[j]).1 j hj rfl, List.getElem?_eq_getElem (by omega)] at hb
        have hb := Option.some.inj hb
        subst hb
        obtain ⟨g1, g2, g3⟩ := hok j (by omega) (by omega)
        have hB := hR.mSome _ _ g1
        have hkn0 : known (ioM 0 io) (ioL + j) (io[j]'(by omega)).ver := ⟨io[j]'(by omega), by rw [look0, if_pos (by omega)]; simp <;> omega, Nat.le_refl _⟩
        have hfix := hR.fix (ioL + j) _ (by omega) hkn0
        have hfix : LS.le (φ' (ioL + j)) (φ ρ[j]) (io[j]'(by omega)).ver := by rw [← φio_at φ hj]; exact hfix
        rw [fp2in j hj]
        rw [← g2] at hfix
        generalize io'[j] = b at hB hfix g3
        cases b with
        | gone v => exact g3.elim
        | row v sh dp xs =>
          rcases hB with ⟨q1, q2, q3⟩ | ⟨b, cap, q1, q2, q3, q4⟩
          · exact .inl ⟨hfix.2 q1, q2, q3⟩
          · refine .inr ⟨b, cap, hfix.1 _ _ q1, q2, q3, ?_⟩
            cases dp with
            | true => exact q4
            | false => exact q4.mono (fun _ _ => rfl) hST (fun _ _ => rfl)
        | lent v xs i u => exact g3.elim
        | sub v sh xs u => exact g3.elim
        | box v xs =>
          obtain ⟨b, cs, e, sh, q1, q2, q3, q4, q5, q6⟩ := hB
          exact ⟨b, cs, e, sh, hfix.1 _ _ q1, q2, q3, q4, q5, fun i hi => .rd _ _ ((rd_of_rv (q6 i hi) (labs_nil_get g3 i hi)).mono (fun _ _ => rfl) hST)⟩
      · rw [(hm2 l).2 hm] at hb
        rw [fp2out l hm]
        refine (h.mSome l b hb).mono hSsame (fun b hb => .inl hb) hz (fun c hc => hsame c (h.fpB l c hc).1 fun j hj hc' => hm ?_) rfl fun _ _ _ _ _ _ => LS.le_refl _ _
        rw [h.dis _ _ c hc hc']; exact List.getElem_mem hj
    · by_cases hm : l ∈ ρ
      · obtain ⟨j, hj, rfl⟩ := List.getElem_of_mem hm
        rw [(hm2 ρ[j]).1 j hj rfl, List.getElem?_eq_getElem (by omega)] at hb
        have hb := Option.some.inj hb
        have g3 := (hok j (by omega) (by omega)).2.2
        rw [hb] at g3
        have g3 : labsL xs = [] := g3
        rw [g3] at hl; cases hl
      · rw [(hm2 l).2 hm] at hb
        exact hkn l' ver (h.bl l v xs hb l' ver hl)
    · by_cases hm : l ∈ ρ
      · obtain ⟨j, hj, rfl⟩ := List.getElem_of_mem hm
        rw [fp2in j hj]; exact hR.nod _
      · rw [fp2out l hm]; exact h.nod l
    · have mixed : ∀ j (hj : j < ρ.length) l, l ∉ ρ → b ∈ fp' (ioL + j) → b ∈ fp l → False := by
        intro j hj l hm b1 b2
        rcases (fpnew j hj b b1).2 with hh | hh
        · have := (h.fpB l b b2).1; omega
        · exact hm (by rw [h.dis _ _ b b2 hh]; exact List.getElem_mem hj)
      by_cases m1 : l ∈ ρ
      · obtain ⟨j, hj, rfl⟩ := List.getElem_of_mem m1
        rw [fp2in j hj] at h1
        by_cases m2 : l' ∈ ρ
        · obtain ⟨j', hj', rfl⟩ := List.getElem_of_mem m2
          rw [fp2in j' hj'] at h2
          have := hR.dis _ _ b h1 h2
          have : j = j' := by omega
          subst this; rfl
        · rw [fp2out l' m2] at h2
          exact (mixed j hj l' m2 h1 h2).elim
      · rw [fp2out l m1] at h1
        by_cases m2 : l' ∈ ρ
        · obtain ⟨j', hj', rfl⟩ := List.getElem_of_mem m2
          rw [fp2in j' hj'] at h2
          exact (mixed j' hj' l m1 h2 h1).elim
        · rw [fp2out l' m2] at h2
          exact h.dis l l' b h1 h2
    · by_cases hm : l ∈ ρ
      · obtain ⟨j, hj, rfl⟩ := List.getElem_of_mem hm
        rw [fp2in j hj] at hb
        rintro (hs | hs)
        · rcases (fpnew j hj b hb).2 with hh | hh
          · have := (h.sB b hs).1; omega
          · exact h.notS _ b hh hs
        · exact hR.notS _ b hb hs.1
      · rw [fp2out l hm] at hb
        rintro (hs | hs)
        · exact h.notS l b hb hs
        · have := (h.fpB l b hb).1; omega
    · by_cases hm : l ∈ ρ
      · obtain ⟨j, hj, rfl⟩ := List.getElem_of_mem hm
        rw [fp2in j hj] at hb
        have := fpnew j hj b hb
        refine ⟨this.1, ?_⟩
        rcases this.2 with hh | hh
        · exact .inl (Nat.le_trans h.size hh)
        · exact (h.fpB _ b hh).2
      · rw [fp2out l hm] at hb
        have := h.fpB l b hb
        exact ⟨Nat.lt_of_lt_of_le this.1 hR.size, this.2⟩
    · rcases hb with hs | hs
      · have := h.sB b hs
        exact ⟨Nat.lt_of_lt_of_le this.1 hR.size, this.2⟩
      · exact ⟨(hR.sB b hs.1).1, .inl (Nat.le_trans h.size hs.2)⟩
    · refine (hsame b (Nat.lt_of_lt_of_le hb h.size) fun j hj hb' => ?_).trans (h.base b hb hio)
      rcases (h.fpB _ b hb').2 with hh | hh
      · omega
      · exact hio _ hh.choose_spec.1
  exact ⟨v, r, io', fp2, T, rfl, hpost, hRS, hrd.mono (fun _ _ => rfl) hST⟩

end
def sCallMR (P : Program) (f : FuncId) (ρ : List Nat) (io : List Blk) (args : List AV) (m : Mem) (k : AV → Mem → Prop) (_ : Pack k) : Prop :=
  ∃ post, FnMR P f io args post ∧ ∀ r io', post r io' → k r (putIo ρ io' m)
@[congr] theorem sCallMR_congr {P : Program} {f : FuncId} {ρ : List Nat} {io io' : List Blk} {args args' : List AV} {m : Mem} {k : AV → Mem → Prop} {q : Pack k} (h : io = io') (h' : args = args') : sCallMR P f ρ io args m k q = sCallMR P f ρ io' args' m k q := by rw [h, h']
theorem sCallMR_any {P : Program} {f : FuncId} {ρ : List Nat} {io : List Blk} {args : List AV} {post : AV → List Blk → Prop} {m : Mem} {k : AV → Mem → Prop} (h : FnMR P f io args post) (hk : ∀ r io', post r io' → k r (putIo ρ io' m)) {q : Pack k} : sCallMR P f ρ io args m k q :=
  ⟨_, h, hk⟩
theorem sCallIo_ioR {P : Program} {f : FuncId} {xs : List AV} {m : Mem} {k : AV → Mem → Prop} (ρ : List Nat) (h : sSel m (fun io => sRens ρ (fun args => sCallMR P f ρ io args m k ⟨⟩) [] xs) [] ρ) : sCallIo P f xs m k := by
  refine fun B N φ fp S ts a w vs hRS hsz hx hxl => ?_
  obtain ⟨hnd, io, h1, h2, h3⟩ := sSel_out ρ [] h
  rw [List.reverse_nil, List.nil_append] at h1
  obtain ⟨args, g1, g2, g3⟩ := rens_out (w := w) (S := S) (φ := φ) h2 h3 xs vs.toList [] (by simpa using hsz) hx hxl h1
  rw [List.reverse_nil, List.nil_append] at g1
  obtain ⟨post, hf, hk⟩ := g1
  refine ⟨hf.1, (callMR_core hnd h2 h3 hRS (hsz.trans g2.symm) g3 hf (xs := xs)).mono ?_⟩
  rintro e w' ⟨v, r, io', fp2, T, rfl, hpost, hR, hrd⟩
  exact ⟨v, rfl, φ, fp2, T, ts, _, r, hR, .rd _ _ hrd, fun l ver hl => (by rw [labs_rd hrd] at hl; cases hl), rfl, hk r io' hpost⟩
/-- A call with blocks of ours whose result is readable. -/
theorem sCallT_ioR {P : Program} {f : FuncId} {d : Nat} {xs ts : List AV} {m : Mem} {k : AV → Mem → Prop} (ρ : List Nat) (h : sSel m (fun io => sRens ρ (fun args => sCallMR P f ρ io args m k ⟨⟩) [] xs) [] ρ) {q : Pack k} : sCallT P f d xs ts m k q :=
  .inl (sCallIo_ioR ρ h)
def sCallMRX (P : Program) (f : FuncId) (ρ : List Nat) (io : List Blk) (args : List AV) (m : Mem) (k : AV → Mem → Prop) (_ : Pack k) : Prop :=
  ∃ r io1, FnMR P f io args (fun x io' => x = r ∧ io' = io1) ∧ k r (putIo ρ io1 m)
@[congr] theorem sCallMRX_congr {P : Program} {f : FuncId} {ρ : List Nat} {io io' : List Blk} {args args' : List AV} {m : Mem} {k : AV → Mem → Prop} {q : Pack k} (h : io = io') (h' : args = args') : sCallMRX P f ρ io args m k q = sCallMRX P f ρ io' args' m k q := by rw [h, h']
theorem sCallMRX_one {P : Program} {f : FuncId} {ρ : List Nat} {io io1 : List Blk} {args : List AV} {r : AV} {m : Mem} {k : AV → Mem → Prop} (h : FnMR P f io args (fun x io' => x = r ∧ io' = io1)) (hk : k r (putIo ρ io1 m)) {q : Pack k} : sCallMRX P f ρ io args m k q :=
  ⟨_, _, h, hk⟩
/-- The same in a region that draws its order. -/
theorem sCallX_ioR {P : Program} {f : FuncId} {d : Nat} {xs ts : List AV} {m : Mem} {k : AV → Mem → Prop} {q : Pack k} (ρ : List Nat) (hρ : (ρ.all fun l => (labsL xs).any fun p => p.1 == l) = true) (h : sSel m (fun io => sRens ρ (fun args => sCallMRX P f ρ io args m k ⟨⟩) [] xs) [] ρ) : sCallX P f d xs ts m k q := by
  have hρ' : ∀ l, l ∈ ρ → ∃ x, x ∈ xs ∧ NL x l := fun l hl => by
    rw [List.all_eq_true] at hρ
    obtain ⟨p, hp, he⟩ := List.any_eq_true.1 (hρ l hl)
    obtain ⟨i, hi, hpi⟩ := of_mem_labsL hp
    rw [beq_iff_eq] at he
    subst he
    exact ⟨xs[i], List.getElem_mem hi, p.2, hpi⟩
  obtain ⟨io, h1, h2⟩ := D1.sel m ρ [] _ h
  obtain ⟨args, h3, h4⟩ := D1.rens ρ xs [] _ h1
  obtain ⟨r, io1, hF, hm⟩ := h3
  refine .inr (.inr ⟨r, putIo ρ io1 [], by rw [← putIo_app]; exact hm, fun m' a b k' hk' => sCallIo_ioR ρ ?_⟩)
  rw [like_sel _ ρ [] fun l hl => a l (hρ' l hl)]
  refine h2 _ (h4 _ ⟨_, hF, ?_⟩)
  rintro _ _ ⟨rfl, rfl⟩
  rw [putIo_app]
  exact hk'
attribute [go_sem] finMR_normal finMR_ret
end Go.Vc


/-
  Rows given away at a loop's end, and rows that a box names; calls stepped through in place, one within the other.
-/
set_option linter.unusedVariables false
set_option linter.unusedSimpArgs false
set_option linter.unnecessarySimpa false
namespace Go.Vc

section
variable {P : Program} {N : Nat} {ts : Env} {m : Mem}

theorem Ok.frz {code : Code} {Q : Post} (t l v i n : Nat) (sh : Sh) (d : Bool) (ys : List AV) (hl : l < ioL) (hm : lookB m l = some (.row v sh d ys)) (ht : look ts t = .ref l v i n) (hn : i + n ≤ ys.length)
    (h : Ok P N code ((t, .arr sh ((ys.drop i).take n)) :: ts) ((l, .gone v) :: m) Q) : Ok P N code ts m Q :=
  (Later.frz (q := ⟨⟩) t l v i n sh d ys hl hm ht hn ⟨h⟩).ok

end

section
variable {P : Program} {B : Base} {N : Nat} {φ : Nat → LS} {fp : Nat → List Nat} {S : Nat → Prop} {ts : Env} {m : Mem} {a : Act} {w : World}
end

/-- A row of ours that a box names is given away, or none. -/
inductive GivB (m : Mem) : Mem → Prop
  | refl : GivB m m
  | box (lb vb j l v i n : Nat) (sh : Sh) (d : Bool) (xs ys : List AV) (hl : l < ioL) (hb : lookB m lb = some (.box vb xs)) (hx : xs[j]? = some (.ref l v i n)) (hm : lookB m l = some (.row v sh d ys)) (hn : i + n ≤ ys.length) :
      GivB m ((lb, .box vb (xs.set j (.arr sh ((ys.drop i).take n)))) :: (l, .gone v) :: m)
def finHZ (P : Program) (rs : List ResultVar) (L : List Nat) (post : AV → Mem → Prop) : Post
  | .normal => fun ts m => sResults P (fun ys => labsL ys = [] ∧ ∃ mz m', GivB m mz ∧ post (mkRes ys) m' ∧ keepsM L mz m') rs ts m []
  | .ret => fun ts m => sResults P (fun ys => labsL ys = [] ∧ ∃ mz m', GivB m mz ∧ post (mkRes ys) m' ∧ keepsM L mz m') rs ts m []
  | _ => fun _ _ => False
theorem finHZ_normal (P : Program) (rs : List ResultVar) (L : List Nat) (post : AV → Mem → Prop) (ts : Env) (m : Mem) :
    finHZ P rs L post .normal ts m = sResults P (fun ys => labsL ys = [] ∧ ∃ mz m', GivB m mz ∧ post (mkRes ys) m' ∧ keepsM L mz m') rs ts m [] := rfl
theorem finHZ_ret (P : Program) (rs : List ResultVar) (L : List Nat) (post : AV → Mem → Prop) (ts : Env) (m : Mem) :
    finHZ P rs L post .ret ts m = sResults P (fun ys => labsL ys = [] ∧ ∃ mz m', GivB m mz ∧ post (mkRes ys) m' ∧ keepsM L mz m') rs ts m [] := rfl
attribute [go_sem] finHZ_normal finHZ_ret
end Go.Vc


/-
  A row within a deep row of ours is taken out, written, and put back; a row of ours becomes a box.
-/
set_option linter.unusedVariables false
set_option linter.unusedSimpArgs false
set_option linter.unnecessarySimpa false
namespace Go.Vc

section
variable {P : Program} {B : Base} {N : Nat} {φ : Nat → LS} {fp : Nat → List Nat} {S : Nat → Prop} {ts : Env} {m : Mem} {a : Act} {w : World}

theorem RS.takeOut (h : RS B N φ fp S ts m a w) {l v i l2 : Nat} {xs ys : List AV} {sh2 : Sh} (hl : l < ioL) (hlk : lookB m l = some (.row v ⟨1, false⟩ true xs)) (hx : xs[i]? = some (.arr sh2 ys)) (hy : 0 < ys.length) (hl2n : lookB m l2 = none) :
    ∃ φ2 fp2 u, RS B N φ2 fp2 S ts ((l2, .sub 0 sh2 ys u) :: (l, .row v ⟨1, false⟩ true (xs.set i (.val u))) :: m) a w := by
  obtain ⟨hi, hxi⟩ := List.getElem?_eq_some_iff.1 hx
  have hne : l2 ≠ l := fun e => by rw [e, hlk] at hl2n; cases hl2n
  rcases h.mSome l _ hlk with ⟨_, h0, _⟩ | ⟨b, cap, hφ, hbm, _, hown⟩
  · rw [h0] at hi; exact absurd hi (Nat.not_lt_zero _)
  simp only [if_true] at hown
  rcases own_arr hown with ⟨h0, _⟩ | ⟨b', cap', cs, e', fss, q1, hfp, hheap, hc, hl', hm, hf, hs, hv⟩
  · rw [h0] at hi; exact absurd hi (Nat.not_lt_zero _)
  simp only [Value.slice.injEq, Option.some.injEq, Addr.mk.injEq] at q1
  obtain ⟨⟨rfl, _⟩, _, rfl⟩ := q1
  have hvi := hv i hi
  rw [hxi, elemV_cell, Nat.mul_one] at hvi
  generalize hu : cs.toList.getD i Go.undef = u at hvi
  have hlf : i < fss.length := by omega
  have huo : u.oneCell' = true := hvi.leaf_oneCell trivial
  have hset : (fss.set i []).set i (fss.getD i []) = fss := by
    rw [List.set_set]
    refine List.ext_getElem (by simp) fun j h1 h2 => ?_
    rw [List.getElem_set]
    split
    · rename_i e; subst e; rw [List.getD_eq_getElem?_getD, List.getElem?_eq_getElem hlf]; rfl
    · rfl
  have hperm : fss.flatten.Perm (fss.getD i [] ++ (fss.set i []).flatten) := by
    have := set_flatten_perm (fss.getD i []) (fss.set i []) i (by simpa using hlf) (by simp [List.getD_eq_getElem?_getD, hlf])
    rwa [hset] at this
  have hpm : (fp l).Perm (fss.getD i [] ++ (b :: (fss.set i []).flatten)) := by
    rw [hfp]
    exact (hperm.cons b).trans List.perm_middle.symm
  have hnod := hpm.nodup_iff.1 (h.nod l)
  have hnod := List.nodup_append.1 hnod
  have hin : ∀ c, c ∈ b :: (fss.set i []).flatten → c ∈ fp l := fun c hc => hpm.mem_iff.2 (List.mem_append_right _ hc)
  have hin2 : ∀ c, c ∈ fss.getD i [] → c ∈ fp l := fun c hc => hpm.mem_iff.2 (List.mem_append_left _ hc)
  have R1 : RS B N (upd φ l (φ l)) (upd fp l (b :: (fss.set i []).flatten)) S ts ((l, .row v ⟨1, false⟩ true (xs.set i (.val u))) :: m) a w := by
    refine h.next l (φ l) _ S _ (Nat.le_refl _) (SameOut.refl _) (Szs.refl _) (fun _ _ _ => rfl) (fun c hc => ⟨hc, rfl⟩) (fun c h1 h2 => absurd h1 h2) (fun l b sh ver cs e _ hb => ⟨cs, e, hb, rfl⟩)
      (fun _ _ _ _ => rfl) (fun ver _ => LS.le_refl _ _) ?_ ?_ (fun _ _ hk => by cases hk) hnod.2.1 ?_
    · rintro ver ⟨k', h1, h2⟩
      rw [hlk] at h1; cases h1; exact h2
    · refine .inr ⟨b, cap, by rw [upd_same]; exact hφ, List.mem_cons_self .., fun h => (by cases h), ?_⟩
      refine .arr ⟨1, false⟩ (xs.set i (.val u)) b cap cs e' (fss.set i []) hheap hc (by simpa using hl') hm (fun j hj => ?_) (by simpa using hs) fun j hj => ?_
      · rw [List.getElem_set]
        split
        · exact ⟨rfl, rfl⟩
        · exact hf j (by simpa using hj)
      · have hj' : j < xs.length := by simpa using hj
        by_cases e : i = j
        · subst e
          have e1 : (fss.set i []).getD i [] = [] := by simp [List.getD_eq_getElem?_getD, hlf]
          rw [List.getElem_set_self, e1, elemV_cell, Nat.mul_one, hu]
          exact .rd _ _ (.val _ huo)
        · have e1 : (fss.set i []).getD j [] = fss.getD j [] := by simp [List.getD_eq_getElem?_getD, List.getElem?_set, e]
          rw [List.getElem_set_ne e, e1]; exact hv j hj'
    · intro c hc
      have := h.fpB l c (hin c hc)
      exact ⟨h.notS l c (hin c hc), fun l' hl' hc' => hl' (h.dis l' l c hc' (hin c hc)), this.1, this.2⟩
  rcases own_arr hvi with ⟨g1, g2, g3⟩ | ⟨b2, cap2, cs2, e2, fss2, g1, g2, g3, g4, g5, g6, g7, g8, g9⟩
  · rw [g1] at hy; exact absurd hy (Nat.not_lt_zero _)
  have hno : lookB ((l, Blk.row v ⟨1, false⟩ true (xs.set i (.val u))) :: m) l2 = none := by rw [lookB_cons, if_neg (Ne.symm hne)]; exact hl2n
  refine ⟨_, _, u, R1.next l2 (.at b2 sh2 0) (fss.getD i []) S _ (Nat.le_refl _) (SameOut.refl _) (Szs.refl _) (fun _ _ _ => rfl) (fun c hc => ⟨hc, rfl⟩) (fun c h1 h2 => absurd h1 h2) (fun l b sh ver cs e _ hb => ⟨cs, e, hb, rfl⟩)
    (fun _ _ _ _ => rfl) ?_ ?_ ?_ (fun _ _ hk => by cases hk) hnod.1 ?_⟩
  · rintro ver ⟨k', h1, _⟩; rw [hno] at h1; cases h1
  · rintro ver ⟨k', h1, _⟩; rw [hno] at h1; cases h1
  · exact ⟨b2, cap2, upd_same _ _ _, by rw [g2]; simp, g1, hvi⟩
  · intro c hc
    have := h.fpB l c (hin2 c hc)
    refine ⟨h.notS l c (hin2 c hc), fun l' hl' hc' => ?_, this.1, .inl (this.2.resolve_right fun hh => Nat.lt_irrefl _ (Nat.lt_of_lt_of_le hl hh.choose_spec.2.1))⟩
    by_cases e : l' = l
    · subst e
      rw [upd_same] at hc'
      exact hnod.2.2 c hc c hc' rfl
    · rw [upd_other _ _ _ _ e] at hc'
      exact e (h.dis l' l c hc' (hin2 c hc))

theorem RS.putBack (h : RS B N φ fp S ts m a w) {l v i l2 v2 : Nat} {xs ys : List AV} {sh2 : Sh} {u : Value} (hl2 : l2 < ioL) (hlk : lookB m l = some (.row v ⟨1, false⟩ true xs)) (hx : xs[i]? = some (.val u)) (hlk2 : lookB m l2 = some (.sub v2 sh2 ys u)) :
    ∃ φ2 fp2, RS B N φ2 fp2 S ts ((l, .row v ⟨1, false⟩ true (xs.set i (.arr sh2 ys))) :: (l2, .gone v2) :: m) a w := by
  obtain ⟨hi, hxi⟩ := List.getElem?_eq_some_iff.1 hx
  have hne : l2 ≠ l := fun e => by rw [e, hlk] at hlk2; cases hlk2
  rcases h.mSome l _ hlk with ⟨_, h0, _⟩ | ⟨b, cap, hφ, hbm, _, hown⟩
  · rw [h0] at hi; exact absurd hi (Nat.not_lt_zero _)
  simp only [if_true] at hown
  rcases own_arr hown with ⟨h0, _⟩ | ⟨b', cap', cs, e', fss, q1, hfp, hheap, hc, hl', hm, hf, hs, hv⟩
  · rw [h0] at hi; exact absurd hi (Nat.not_lt_zero _)
  simp only [Value.slice.injEq, Option.some.injEq, Addr.mk.injEq] at q1
  obtain ⟨⟨rfl, _⟩, _, rfl⟩ := q1
  obtain ⟨b2, cap2, hφ2, hbm2, hu2, hown2⟩ := h.mSome l2 _ hlk2
  have hlf : i < fss.length := by omega
  have hvi := hv i hi
  rw [hxi, elemV_cell, Nat.mul_one] at hvi
  obtain ⟨hu, hfe, huo⟩ := own_val hvi
  have hR1 := h.give l2 _ hlk2 S (fun _ h => h) (fun b h1 h2 => absurd h1 h2)
  have hperm := set_flatten_perm (fp l2) fss i hlf hfe
  have hpm : (b :: (fss.set i (fp l2)).flatten).Perm (fp l2 ++ fp l) := by
    rw [hfp]
    exact (hperm.cons b).trans List.perm_middle.symm
  have hmem : ∀ c, c ∈ b :: (fss.set i (fp l2)).flatten → c ∈ fp l2 ∨ c ∈ fp l := fun c hc => List.mem_append.1 (hpm.mem_iff.1 hc)
  have hnl : l ≠ l2 := Ne.symm hne
  have hφ1 : upd φ l2 .dead l = φ l := upd_other _ _ _ _ hnl
  refine ⟨_, _, hR1.next l (φ l) (b :: (fss.set i (fp l2)).flatten) S _ (Nat.le_refl _) (SameOut.refl _) (Szs.refl _) (fun _ _ _ => rfl) (fun c hc => ⟨hc, rfl⟩) (fun c h1 h2 => absurd h1 h2) (fun l b sh ver cs e _ hb => ⟨cs, e, hb, rfl⟩)
      (fun _ _ _ _ => rfl) (fun ver _ => by rw [hφ1]; exact LS.le_refl _ _) ?_ ?_ (fun _ _ hk => by cases hk) ?_ ?_⟩
  · rintro ver ⟨k', h1, h2⟩
    rw [lookB_cons, if_neg hne, hlk] at h1; cases h1; exact h2
  · refine .inr ⟨b, cap, by rw [upd_same]; exact hφ, List.mem_cons_self .., fun h => (by cases h), ?_⟩
    refine .arr ⟨1, false⟩ (xs.set i (.arr sh2 ys)) b cap cs e' (fss.set i (fp l2)) hheap hc (by simpa using hl') hm (fun j hj => ?_) (by simpa using hs) fun j hj => ?_
    · rw [List.getElem_set]
      split
      · exact ⟨rfl, rfl⟩
      · exact hf j (by simpa using hj)
    · have hj' : j < xs.length := by simpa using hj
      by_cases ej : i = j
      · subst ej
        have e1 : (fss.set i (fp l2)).getD i [] = fp l2 := by simp [List.getD_eq_getElem?_getD, hlf]
        rw [List.getElem_set_self, e1, elemV_cell, Nat.mul_one, hu]; exact hown2
      · have e1 : (fss.set i (fp l2)).getD j [] = fss.getD j [] := by simp [List.getD_eq_getElem?_getD, List.getElem?_set, ej]
        rw [List.getElem_set_ne ej, e1]; exact hv j hj'
  · refine hpm.nodup_iff.2 (List.nodup_append.2 ⟨h.nod l2, h.nod l, fun c h1 c' h2 e => ?_⟩)
    subst e
    exact hne (h.dis l2 l c h1 h2)
  · intro c hc
    have hoff : ∀ l', l' ≠ l → c ∈ upd fp l2 [] l' → c ∈ fp l' ∧ l' ≠ l2 := fun l' hl' hc' => by
      by_cases e2 : l' = l2
      · subst e2; rw [upd_same] at hc'; cases hc'
      · rw [upd_other _ _ _ _ e2] at hc'; exact ⟨hc', e2⟩
    rcases hmem c hc with hcl | hcl
    · have := h.fpB l2 c hcl
      refine ⟨h.notS l2 c hcl, fun l' hl' hc' => ?_, this.1, .inl (this.2.resolve_right fun hh => Nat.lt_irrefl _ (Nat.lt_of_lt_of_le hl2 hh.choose_spec.2.1))⟩
      obtain ⟨h1, h2⟩ := hoff l' hl' hc'
      exact h2 (h.dis l' l2 c h1 hcl)
    · have := h.fpB l c hcl
      refine ⟨h.notS l c hcl, fun l' hl' hc' => ?_, this.1, this.2⟩
      obtain ⟨h1, h2⟩ := hoff l' hl' hc'
      exact hl' (h.dis l' l c h1 hcl)

/-- Ahead of any piece of code a row of a deep row of ours may be taken out. -/
theorem Later.takeOut {code : Code} {Q : Post} {q : Pack (code, Q)} (l v i l2 : Nat) (xs ys : List AV) (sh2 : Sh) (hl : l < ioL) (hlk : lookB m l = some (.row v ⟨1, false⟩ true xs)) (hx : xs[i]? = some (.arr sh2 ys)) (hy : 0 < ys.length) (hl2n : lookB m l2 = none)
    (h : ∀ u, Later P N code ts ((l2, .sub 0 sh2 ys u) :: (l, .row v ⟨1, false⟩ true (xs.set i (.val u))) :: m) Q q) : Later P N code ts m Q q :=
  ⟨fun B φ fp S a w hRS => have ⟨_, _, u, hR⟩ := hRS.takeOut hl hlk hx hy hl2n; (h u).ok B _ _ _ a w hR⟩
/-- .. and put back. -/
theorem Later.putBack {code : Code} {Q : Post} {q : Pack (code, Q)} (l v i l2 v2 : Nat) (xs ys : List AV) (sh2 : Sh) (u : Value) (hl2 : l2 < ioL) (hlk : lookB m l = some (.row v ⟨1, false⟩ true xs)) (hx : xs[i]? = some (.val u)) (hlk2 : lookB m l2 = some (.sub v2 sh2 ys u))
    (h : Later P N code ts ((l, .row v ⟨1, false⟩ true (xs.set i (.arr sh2 ys))) :: (l2, .gone v2) :: m) Q q) : Later P N code ts m Q q :=
  ⟨fun B φ fp S a w hRS => have ⟨_, _, hR⟩ := hRS.putBack hl2 hlk hx hlk2; h.ok B _ _ _ a w hR⟩

theorem RS.known (h : RS B N φ fp S ts m a w) {t l v n : Nat} {sh : Sh} {ys : List AV} (ht : look ts t = .ref l v 0 n) (htN : t < N) (hlk : lookB m l = some (.row v sh true ys)) (hn : n = ys.length) (h0 : 0 < n) (hsz : 0 < sh.sz) :
    ∃ φ2 fp2 u, RS B N φ2 fp2 S ((t, .val u) :: ts) ((l, .sub v sh ys u) :: m) a w := by
  subst hn
  rcases h.mSome l _ hlk with ⟨_, e0, _⟩ | ⟨b, cap, hφ, hbm, _, hown⟩
  · rw [e0] at h0; exact absurd h0 (Nat.lt_irrefl _)
  simp only [if_true] at hown
  have htm := h.tm t
  rw [ht] at htm
  have hr := rv_ref htm
  obtain ⟨ad, cp, hv, hnc, hcp⟩ := hr.1 b sh hφ
  obtain ⟨rfl, cs, e, g1, g2⟩ := hcp.resolve_left (by omega)
  rw [Nat.zero_mul] at hv
  have hown0 := hown
  rcases own_arr hown with ⟨e0, _⟩ | ⟨b', cap', cs', e', fss, q1, hfp, hheap, hc, hl', hm, hf, hs, hvv⟩
  · rw [e0] at h0; exact absurd h0 (Nat.lt_irrefl _)
  simp only [Value.slice.injEq, Option.some.injEq, Addr.mk.injEq] at q1
  obtain ⟨⟨rfl, _⟩, _, rfl⟩ := q1
  obtain rfl := celO_inj (hheap.symm.trans g1)
  have hcc : cp = cap := by
    have : cp * sh.sz = cap * sh.sz := by rw [← hc, g2, Nat.zero_add]
    exact Nat.eq_of_mul_eq_mul_right hsz this
  subst hcc
  have R1 : RS B N (upd φ l (φ l)) (upd fp l (fp l)) S ts ((l, .sub v sh ys (.slice (some ⟨b, 0, none⟩) ys.length cp)) :: m) a w := by
    refine h.next l (φ l) (fp l) S _ (Nat.le_refl _) (SameOut.refl _) (Szs.refl _) (fun _ _ _ => rfl) (fun c hc => ⟨hc, rfl⟩) (fun c h1 h2 => absurd h1 h2) (fun l b sh ver cs e _ hb => ⟨cs, e, hb, rfl⟩)
      (fun _ _ _ _ => rfl) (fun ver _ => LS.le_refl _ _) ?_ ?_ (fun _ _ hk => by cases hk) (h.nod l) ?_
    · rintro ver ⟨k', h1, h2⟩
      rw [hlk] at h1; cases h1; exact h2
    · exact ⟨b, cp, by rw [upd_same]; exact hφ, hbm, rfl, hown0⟩
    · intro c hc
      have := h.fpB l c hc
      exact ⟨h.notS l c hc, fun l' hl' hc' => hl' (h.dis l' l c hc' hc), this.1, this.2⟩
  refine ⟨_, _, _, { R1 with tm := fun t' => ?_, tl := fun t' l' ver hl' => ?_ }⟩
  · rw [look_cons]
    split
    · rename_i e; subst e
      rw [hv]
      exact .rd _ _ (.val _ rfl)
    · exact R1.tm t'
  · rw [look_cons] at hl'
    split at hl'
    · cases hl'
    · exact R1.tl t' l' ver hl'
/-- Ahead of any piece of code a temporary that names a row of ours is told by its value. -/
theorem Later.known {code : Code} {Q : Post} {q : Pack (code, Q)} (t l v n : Nat) (sh : Sh) (ys : List AV) (ht : look ts t = .ref l v 0 n) (htN : t < N) (hlk : lookB m l = some (.row v sh true ys)) (hn : n = ys.length) (h0 : 0 < n) (hsz : 0 < sh.sz)
    (h : ∀ u, Later P N code ((t, .val u) :: ts) ((l, .sub v sh ys u) :: m) Q q) : Later P N code ts m Q q :=
  ⟨fun B φ fp S a w hRS => have ⟨_, _, u, hR⟩ := hRS.known ht htN hlk hn h0 hsz; (h u).ok B _ _ _ a w hR⟩
theorem Later.vc {code : Code} {Q : Post} {q : Pack (code, Q)} (hok : codeOk N code = true) (h : vc P N code ts m Q) : Later P N code ts m Q q := ⟨vc_sound code _ _ _ hok h⟩
end

section
variable {P : Program} {B : Base} {N : Nat} {φ : Nat → LS} {fp : Nat → List Nat} {S : Nat → Prop} {ts : Env} {m : Mem} {a : Act} {w : World}
theorem RS.undeepL2 (h : RS B N φ fp S ts m a w) {l v : Nat} {sh : Sh} {xs : List AV} (hio : l < ioL) (hlk : lookB m l = some (.row v sh true xs)) : ∃ fp2 S2, RS B N φ fp2 S2 ts ((l, .row v sh false xs) :: m) a w ∧ ∀ c, S c → S2 c := by
  have hφφ : upd φ l (φ l) = φ := funext fun k => by unfold upd; split <;> simp_all
  rcases h.mSome l _ hlk with ⟨h1, h2, h3⟩ | ⟨b, cap, hφ, hbm, _, hown⟩
  · have hR := h.next l (φ l) [] S (.row v sh false xs) (Nat.le_refl _) (SameOut.refl _) (Szs.refl _) (fun _ _ _ => rfl) (fun c hc => ⟨hc, rfl⟩) (fun c h1 h2 => absurd h1 h2) (fun l b sh ver cs e _ hb => ⟨cs, e, hb, rfl⟩)
      (fun _ _ _ _ => rfl) (fun ver _ => LS.le_refl _ _) (by
        rintro ver ⟨k', g1, g2⟩
        rw [hlk] at g1; cases g1; exact g2) (.inl ⟨by rw [upd_same]; exact h1, h2, rfl⟩) (fun _ _ hk => by cases hk) List.nodup_nil (fun c hc => by cases hc)
    rw [hφφ] at hR
    exact ⟨_, _, hR, fun _ h => h⟩
  simp only [if_true] at hown
  obtain ⟨cs, e, fss, hgf, hheap, hcs, hcap, hmx, hff, hfl, hvv⟩ := row_inv hown hbm
  obtain ⟨S', hR, hS, _⟩ := h.undeep hlk hφ hgf hheap hcs hcap hmx hff hfl hvv hio
  rw [hφφ] at hR
  exact ⟨_, _, hR, hS⟩
theorem RS.undeepL (h : RS B N φ fp S ts m a w) {l v : Nat} {sh : Sh} {xs : List AV} (hio : l < ioL) (hlk : lookB m l = some (.row v sh true xs)) : ∃ φ2 fp2 S2, RS B N φ2 fp2 S2 ts ((l, .row v sh false xs) :: m) a w :=
  have ⟨_, _, hR, _⟩ := h.undeepL2 hio hlk
  ⟨_, _, _, hR⟩
/-- A call with blocks of ours; ahead of it the elements of a row of ours are given away. -/
theorem sCallT_ioU {f : FuncId} {d : Nat} {xs trs : List AV} {k : AV → Mem → Prop} (l v : Nat) (sh : Sh) (ys : List AV) (hio : l < ioL) (hlk : lookB m l = some (.row v sh true ys)) (ρ : List Nat)
    (h : sSel ((l, .row v sh false ys) :: m) (fun io => sRens ρ (fun args => sCallM P f d ρ io args ((l, .row v sh false ys) :: m) k ⟨⟩) [] xs) [] ρ) {q : Pack k} : sCallT P f d xs trs m k q := by
  refine .inl fun B N φ fp S ts a w vs hRS hsz hx hxl => ?_
  obtain ⟨fp2, S2, hR2, hS⟩ := hRS.undeepL2 hio hlk
  obtain ⟨hnd, io, h1, h2, h3⟩ := sSel_out ρ [] h
  rw [List.reverse_nil, List.nil_append] at h1
  have hx2 : ∀ i (h : i < xs.length), RV w S2 φ xs[i] (vs.toList.getD i Go.undef) := fun i hi => (hx i hi).mono (fun _ _ => rfl) hS (fun l b sh ver cs e _ hh => ⟨cs, e, hh, rfl⟩) fun l ver _ => LS.le_refl _ _
  have hxl2 : ∀ i (h : i < xs.length) l' ver, (l', ver) ∈ labs xs[i] → known ((l, .row v sh false ys) :: m) l' ver := fun i hi l' ver hl => by
    obtain ⟨k', g1, g2⟩ := hxl i hi l' ver hl
    unfold known
    rw [lookB_cons]
    split
    · rename_i e; subst e
      rw [hlk] at g1; cases g1
      exact ⟨_, rfl, g2⟩
    · exact ⟨_, g1, g2⟩
  obtain ⟨args, g1, g2, g3⟩ := rens_out (w := w) (S := S2) (φ := φ) h2 h3 xs vs.toList [] (by simpa using hsz) hx2 hxl2 h1
  rw [List.reverse_nil, List.nil_append] at g1
  obtain ⟨post, hf, hk⟩ := g1
  exact ⟨hf.1, callM_sound hnd h2 h3 hR2 (hsz.trans g2.symm) g3 hf hk (xs := xs)⟩
/-- Ahead of any piece of code the elements of a row of ours may be given away. -/
theorem Later.undeep {code : Code} {Q : Post} {q : Pack (code, Q)} (l v : Nat) (sh : Sh) (xs : List AV) (hio : l < ioL) (hlk : lookB m l = some (.row v sh true xs)) (h : Later P N code ts ((l, .row v sh false xs) :: m) Q q) : Later P N code ts m Q q :=
  ⟨fun B φ fp S a w hRS => have ⟨_, _, _, hR⟩ := hRS.undeepL hio hlk; h.ok B _ _ _ a w hR⟩
end

/-- Where a piece of code ends, rows may be put back before the rest goes on. -/
def hk (P : Program) (n : St) : St := fun ts m => ∀ (B : Base) (N : Nat) (φ : Nat → LS) (fp : Nat → List Nat) (S : Nat → Prop) (a : Act) (w : World), RS B N φ fp S ts m a w → ∃ φ2 fp2 S2 ts2 m2, RS B N φ2 fp2 S2 ts2 m2 a w ∧ n ts2 m2
@[congr] theorem hk_congr {P : Program} {n : St} {ts ts' : Env} {m m' : Mem} (h : ts = ts') (h2 : m = m') : hk P n ts m = hk P n ts' m' := by rw [h, h2]
theorem hk.go {P : Program} {n : St} {ts : Env} {m : Mem} (h : n ts m) : hk P n ts m := fun _ _ _ _ _ _ _ hR => ⟨_, _, _, _, _, hR, h⟩
theorem hk.back {P : Program} {n : St} {ts : Env} {m : Mem} (l v i l2 v2 : Nat) (xs ys : List AV) (sh2 : Sh) (u : Value) (hl2 : l2 < ioL) (hlk : lookB m l = some (.row v ⟨1, false⟩ true xs)) (hx : xs[i]? = some (.val u)) (hlk2 : lookB m l2 = some (.sub v2 sh2 ys u))
    (h : hk P n ts ((l, .row v ⟨1, false⟩ true (xs.set i (.arr sh2 ys))) :: (l2, .gone v2) :: m)) : hk P n ts m := fun B N _ _ _ a w hR =>
  have ⟨_, _, hR2⟩ := hR.putBack hl2 hlk hx hlk2
  h B N _ _ _ a w hR2
theorem hk.undeep {P : Program} {n : St} {ts : Env} {m : Mem} (l v : Nat) (sh : Sh) (xs : List AV) (hio : l < ioL) (hlk : lookB m l = some (.row v sh true xs)) (h : hk P n ts ((l, .row v sh false xs) :: m)) : hk P n ts m := fun B N _ _ _ a w hR =>
  have ⟨_, _, _, hR2⟩ := hR.undeepL hio hlk
  h B N _ _ _ a w hR2
theorem Later.hook {P : Program} {N : Nat} {ts : Env} {m : Mem} {code : Code} {Q : Post} {q : Pack (code, Q)} (h : Later P N code ts m (thn Q (hk P (Q .normal))) ⟨⟩) : Later P N code ts m Q q := by
  refine ⟨fun B φ fp S a w hRS => wp_mono (h.ok B φ fp S a w hRS) fun e a' w' hq => ?_⟩
  obtain ⟨φ', fp', S', ts', m', h1, h2⟩ := hq
  cases e with
  | normal =>
    obtain ⟨φ2, fp2, S2, ts2, m2, hR, hn⟩ := h2 B N φ' fp' S' a' w' h1
    exact ⟨φ2, fp2, S2, ts2, m2, hR, hn⟩
  | _ => exact ⟨φ', fp', S', ts', m', h1, h2⟩

/-- (ts, m) may be taken for (ts2, m2), after rows have been put back and labels have been changed. -/
inductive RefP : Env → Mem → Env → Mem → Prop
  | here {ts : Env} {m : Mem} {ts2 : Env} {m2 : Mem} (h : refS ts m ts2 m2) : RefP ts m ts2 m2
  | mv {ts : Env} {m : Mem} {ts2 : Env} {m2 : Mem} (l l' : Nat) (hl : l < ioL) (hl' : l' < ioL) (h : RefP (rnE l l' ts) (rnM l l' m) ts2 m2) : RefP ts m ts2 m2
  | back {ts : Env} {m : Mem} {ts2 : Env} {m2 : Mem} (l v i l2 v2 : Nat) (xs ys : List AV) (sh2 : Sh) (u : Value) (hl2 : l2 < ioL) (hlk : lookB m l = some (.row v ⟨1, false⟩ true xs)) (hx : xs[i]? = some (.val u)) (hlk2 : lookB m l2 = some (.sub v2 sh2 ys u))
      (h : RefP ts ((l, .row v ⟨1, false⟩ true (xs.set i (.arr sh2 ys))) :: (l2, .gone v2) :: m) ts2 m2) : RefP ts m ts2 m2
section
variable {B : Base} {N : Nat} {S : Nat → Prop} {ts : Env} {m : Mem} {a : Act} {w : World} {P : Program}
theorem RS.refineP {ts2 : Env} {m2 : Mem} (hr : RefP ts m ts2 m2) : ∀ {φ : Nat → LS} {fp : Nat → List Nat}, RS B N φ fp S ts m a w → ∃ φ' fp' S', RS B N φ' fp' S' ts2 m2 a w := by
  induction hr with
  | here h => intro φ fp hR; exact ⟨_, _, _, hR.refine h⟩
  | mv l l' hl hl' _ ih => intro φ fp hR; exact ih (hR.ren hl hl')
  | back l v i l2 v2 xs ys sh2 u hl2 hlk hx hlk2 _ ih =>
    intro φ fp hR
    obtain ⟨_, _, hR2⟩ := hR.putBack hl2 hlk hx hlk2
    exact ih hR2
theorem Ok.loopP {body : Code} {ι : Type} (I : ι → Prop) (σ : ι → Env × Mem) (μ : ι → Nat) {Q : Post} (x0 : ι) (h0 : I x0) (hr : RefP ts m (σ x0).1 (σ x0).2)
    (step : ∀ x, I x → Ok P N body (σ x).1 (σ x).2 (thn Q fun ts' m' => ∃ y, I y ∧ μ y < μ x ∧ RefP ts' m' (σ y).1 (σ y).2)) : Ok P N (.loop body) ts m Q := by
  intro B φ fp S a w hRS
  obtain ⟨φ0, fp0, S0, hR0⟩ := hRS.refineP hr
  refine wp_loop_ghost (fun n a w => ∃ x φ fp S, I x ∧ μ x = n ∧ RS B N φ fp S (σ x).1 (σ x).2 a w) (μ x0) ⟨x0, _, _, _, h0, rfl, hR0⟩ ?_
  rintro n a w ⟨x, φ, fp, S, hx, rfl, hRS⟩
  refine wp_mono (step x hx B φ fp S a w hRS) fun e a' w' hq => ?_
  obtain ⟨φ', fp', S', ts', m', h1, h2⟩ := hq
  cases e with
  | normal =>
    obtain ⟨y, hy, hlt, href⟩ := h2
    obtain ⟨φ3, fp3, S3, hR3⟩ := h1.refineP href
    exact ⟨μ y, hlt, y, _, _, _, hy, rfl, hR3⟩
  | _ => exact ⟨φ', fp', S', ts', m', h1, h2⟩
/-- A loop that counts from 0 to n; ahead of each round, and of the last look, the state may be told anew. -/
theorem Later.upP {body : Code} (L D E : List Nat) (n : Nat) (I : Nat → Prop) (up : Nat → Env) (um : Nat → Mem) {Q : Post} {q : Pack (Code.loop body, Q)} (h0 : I 0)
    (hr : RefP ts m (up 0 ++ pick L ts) (um 0 ++ dropB D E m)) (hok : codeOk N body = true)
    (step : ∀ i, i < n → I i → Later P N body (up i ++ pick L ts) (um i ++ dropB D E m) (thn Q fun ts' m' => I (i + 1) ∧ RefP ts' m' (up (i + 1) ++ pick L ts) (um (i + 1) ++ dropB D E m)) ⟨⟩)
    (stop : I n → Later P N body (up n ++ pick L ts) (um n ++ dropB D E m) (thn Q fun _ _ => False) ⟨⟩) : Later P N (.loop body) ts m Q q := by
  refine ⟨Ok.loopP (fun i => i ≤ n ∧ I i) (fun i => (up i ++ pick L ts, um i ++ dropB D E m)) (fun i => n - i) 0 ⟨Nat.zero_le _, h0⟩ hr fun i ⟨hi, hI⟩ => ?_⟩
  rcases Nat.lt_or_ge i n with h | h
  · refine Ok.mono (step i h hI).ok fun e ts' m' hq => ?_
    cases e with
    | normal => exact ⟨i + 1, ⟨h, hq.1⟩, by omega, hq.2⟩
    | _ => exact hq
  · have e : i = n := Nat.le_antisymm hi h
    subst e
    refine Ok.mono (stop hI).ok fun e ts' m' hq => ?_
    cases e with
    | normal => exact hq.elim
    | _ => exact hq
end
/-- A result that is nil may be told as an empty list. -/
theorem FnMR.nil0 {P : Program} {f : FuncId} {io : List Blk} {args : List AV} {post : AV → List Blk → Prop} (h : FnMR P f io args (fun x io' => ∃ r, (x = r ∨ (x = .val (.slice none 0 0) ∧ ∃ sh, r = .arr sh [])) ∧ post r io')) : FnMR P f io args post :=
  ⟨h.1, fun w φ fp S vs h1 h2 => (h.2 w φ fp S vs h1 h2).mono fun _ _ ⟨x, v, io', φ', fp', S', m', g1, ⟨r, g2, g3⟩, g4, g5, q1⟩ =>
    ⟨r, v, io', φ', fp', S', m', g1, g3, g4, g5, by
      rcases g2 with rfl | ⟨rfl, sh, rfl⟩
      · exact q1
      · cases q1 with
        | val _ h => exact .nil _ _⟩⟩
end Go.Vc


/-
  A region that draws its order, whose last operations each wait for all before them: the first by the rule for drawn regions, the last in the order of the text.
-/
set_option linter.unusedVariables false
set_option linter.unusedSimpArgs false
set_option linter.unnecessarySimpa false
namespace Go.Vc

/-- From place n on each operation waits for all that stand before it. -/
def soloB (ops : List Oper) (n : Nat) : Bool := backB ops && (List.range ops.length).all fun j => decide (j < n) || (List.range j).all fun i => ((ancsGo ops []).getD j []).contains i

section
variable {P : Program} {B : Base} {N : Nat} {φ : Nat → LS} {fp : Nat → List Nat} {S : Nat → Prop} {ts : Env} {m : Mem} {a : Act} {w : World}
variable {os : Nat → Oper} {qs : Nat → Rec} {D D' : Nat → Bool} {ops : List Oper} {tr : List (List Nat × List Nat)}

theorem solo_out {n : Nat} (h : soloB ops n = true) (hD : Closed ops D) {j : Nat} (hj : j < ops.length) (hn : n ≤ j) (hd : D j = true) : ∀ i, i < j → D i = true := by
  intro i hi
  simp only [soloB, Bool.and_eq_true, List.all_eq_true, List.mem_range, Bool.or_eq_true, decide_eq_true_eq, List.contains_eq_mem] at h
  rcases h.2 j hj with h1 | h1
  · omega
  · exact ancsGo_closed hD ops [] rfl (fun j x hx => by simp at hx) j i (h1 i hi) hd

theorem back_of {n : Nat} (h : soloB ops n = true) : ∀ i o, ops[i]? = some o → ∀ p, p ∈ preds o → p < i := by
  intro i o ho p hp
  simp only [soloB, backB, Bool.and_eq_true, List.all_eq_true, List.mem_range] at h
  have := h.1 i (List.getElem?_eq_some_iff.1 ho).1
  rw [ho] at this
  simpa using List.all_eq_true.1 this p hp

/-- the operations below k have been listed, no others -/
def Upk (ops : List Oper) (k : Nat) (listed : Array Bool) : Prop := listed.size = ops.length ∧ ∀ i, i < ops.length → listed.getD i false = decide (i < k)

/-- The last operations, one after the other. -/
theorem tail_sound {n : Nat} (hs : soloB ops n = true) (hok : opsOk N ops = true) (hgs : guardsOk N ops = true) {Q : Exit → Act → World → Prop} {K : St} (hQ : ∀ a w, Done B N K a w → Q .normal a w) :
    ∀ (c k fuel : Nat) (listed : Array Bool) (φ : Nat → LS) (fp : Nat → List Nat) (S : Nat → Prop) (ts : Env) (m : Mem) (a : Act) (w : World), c = ops.length - k → n ≤ k → k ≤ ops.length → Upk ops k listed → ops.length - k ≤ fuel →
      RS B N φ fp S ts m a w → sL P ops (ops.drop k) ts m K → wpAny P .any ops.toArray Q fuel listed a w := by
  intro c
  induction c with
  | zero =>
    intro k fuel listed φ fp S ts m a w hc hnk hk hu hf h hsl
    have hkl : k = ops.length := by omega
    subst hkl
    rw [List.drop_length] at hsl
    have hfin : Q .normal a w := hQ a w ⟨φ, fp, S, ts, m, h, hsl⟩
    have hr : Region.ready .any ops.toArray listed = [] := by
      cases hr : Region.ready .any ops.toArray listed with
      | nil => rfl
      | cons j r =>
        have hj : j ∈ Region.ready .any ops.toArray listed := by rw [hr]; exact List.mem_cons_self ..
        obtain ⟨h0, o, ho, _⟩ := mem_ready.1 hj
        have hjn : j < ops.length := by simpa using (Array.getElem?_eq_some_iff.1 ho).1
        have := hu.2 j hjn
        rw [getD_both h0] at this
        simp at this; omega
    cases fuel with
    | zero => exact ⟨hr, hfin⟩
    | succ fuel => exact ⟨fun _ => hfin, fun i hi => by rw [hr] at hi; cases hi⟩
  | succ c ih =>
    intro k fuel listed φ fp S ts m a w hc hnk hk hu hf h hsl
    have hkl : k < ops.length := by omega
    have hok1 : ops[k]? = some ops[k] := List.getElem?_eq_getElem hkl
    rw [List.drop_eq_getElem_cons hkl] at hsl
    generalize ops[k] = o at hok1 hsl
    obtain ⟨fuel, rfl⟩ : ∃ f, fuel = f + 1 := ⟨fuel - 1, by omega⟩
    have hclosed : Closed ops (fun i => listed.getD i false) := by
      intro j oj hoj hdj i hi
      have hjn := (List.getElem?_eq_some_iff.1 hoj).1
      have h1 := hu.2 j hjn
      have h2 := back_of hs j oj hoj i hi
      have h3 := hu.2 i (by omega)
      simp only at hdj ⊢
      rw [h1] at hdj
      rw [h3]
      simp at hdj ⊢; omega
    have hready : k ∈ Region.ready .any ops.toArray listed := by
      refine mem_ready.2 ⟨?_, o, by simpa using hok1, fun e he hb => ?_⟩
      · have h5 : listed.getD k false = false := by rw [hu.2 k hkl]; exact decide_eq_false (Nat.lt_irrefl k)
        exact getD_in (by rw [hu.1]; exact hkl) h5
      · have hp : e.on ∈ preds o := List.mem_map.2 ⟨e, List.mem_filter.2 ⟨by simpa using he, hb⟩, rfl⟩
        have hlt := back_of hs k o hok1 _ hp
        rw [hu.2 e.on (by omega)]; simpa using hlt
    refine ⟨fun hr => (by rw [hr] at hready; exact absurd hready List.not_mem_nil), fun j hj => ?_⟩
    obtain ⟨h0, oj, hoj, hpre⟩ := mem_ready.1 hj
    have hdj : listed.getD j false = false := getD_both h0
    have hoj' : ops[j]? = some oj := by simpa using hoj
    have hjn : j < ops.length := (List.getElem?_eq_some_iff.1 hoj').1
    have hjk : k ≤ j := by
      have := hu.2 j hjn
      rw [hdj] at this; simp at this; omega
    have hp : ∀ i, i ∈ preds oj → listed.getD i false = true := by
      intro i hi
      obtain ⟨e, he, rfl⟩ := List.mem_map.1 hi
      obtain ⟨he1, he2⟩ := List.mem_filter.1 he
      exact hpre e (by simpa using he1) he2
    have e : j = k := by
      rcases Nat.lt_or_ge k j with hlt | hge
      · have hadd := hclosed.add hoj' hp
        have := solo_out hs hadd hjn (by omega) (by simp [addD]) k hlt
        simp only [addD, hu.2 k hkl, Bool.or_eq_true, beq_iff_eq] at this
        simp at this; omega
      · omega
    subst e
    rw [hok1] at hoj'
    injection hoj' with hoj'
    subst hoj'
    have hup : Upk ops (j + 1) (listed.setIfInBounds j true) := by
      refine ⟨by simp [hu.1], fun i hi => ?_⟩
      by_cases e : i = j
      · subst e; simp [hu.1, hi]
      · rw [getD_set_ne false (Ne.symm e), hu.2 i hi]
        simp; omega
    have hdo : ∀ d, o.dst = some d → d < N := by
      intro d hd
      have := List.all_eq_true.1 hok o (List.mem_of_getElem? hok1)
      rw [hd] at this; simpa using this
    have next : ∀ a' w', Done B N (fun ts m => sL P ops (ops.drop (j + 1)) ts m K) a' w' → wpAny P .any ops.toArray Q fuel (listed.setIfInBounds j true) a' w' := by
      rintro a' w' ⟨φ', fp', S', ts', m', h', hk'⟩
      exact ih (j + 1) fuel _ φ' fp' S' ts' m' a' w' (by omega) (by omega) (by omega) hup (by omega) h' hk'
    unfold wpOp
    have hoA : ops.toArray[j]? = some o := by simpa using hok1
    simp only [hoA]
    simp only [sL] at hsl
    cases hg : o.guard with
    | none =>
      rw [hg] at hsl
      rw [wanted_of h hgs hok1 (show want1 ops o ts = some true by simp [want1, hg])]
      simp only [if_true]
      exact .inl (op_sound h hsl fun v w' hgv => next _ _ (step_done hdo hgv fun x m' hx => hx))
    | some jw =>
      obtain ⟨g, want⟩ := jw
      rw [hg] at hsl
      simp only at hsl
      unfold sGuard at hsl
      split at hsl
      · rename_i c hy
        by_cases hcw : c = want
        · subst hcw
          rw [wanted_of h hgs hok1 (show want1 ops o ts = some true by simp [want1, hg, hy])]
          simp only [if_true]
          exact .inl (op_sound h (hsl.1 rfl) fun v w' hgv => next _ _ (step_done hdo hgv fun x m' hx => hx))
        · rw [wanted_of h hgs hok1 (show want1 ops o ts = some false by simp [want1, hg, hy, hcw])]
          simp only [Bool.false_eq_true, if_false]
          have hk2 := hsl.2 hcw
          refine next _ _ (step_done (k := fun x m' => x = .tup [] ∧ m' = m) hdo (h.gives (x := .tup []) (.rd _ _ (.tup [] #[] rfl fun i hi => absurd hi (Nat.not_lt_zero _))) (fun _ _ hl => by cases hl) ⟨rfl, rfl, rfl⟩) fun x m' ⟨h1, h2⟩ => ?_)
          rw [h1, h2]; exact hk2
      · rename_i hy
        rw [wanted_of h hgs hok1 (show want1 ops o ts = some false by simp [want1, hg, hy])]
        simp only [Bool.false_eq_true, if_false]
        refine next _ _ (step_done (k := fun x m' => x = .tup [] ∧ m' = m) hdo (h.gives (x := .tup []) (.rd _ _ (.tup [] #[] rfl fun i hi => absurd hi (Nat.not_lt_zero _))) (fun _ _ hl => by cases hl) ⟨rfl, rfl, rfl⟩) fun x m' ⟨h1, h2⟩ => ?_)
        rw [h1, h2]; exact hsl
      · exact hsl.elim

theorem count_ge {f : Nat → Bool} {n : Nat} : ∀ N, (∀ i, n ≤ i → i < N → f i = true) → N - n ≤ (List.range N).countP f
  | 0, _ => by omega
  | N + 1, h => by
    rw [List.range_succ, List.countP_append]
    have := count_ge (f := f) (n := n) N fun i h1 h2 => h i h1 (by omega)
    by_cases e : n ≤ N
    · have h1 := h N e (by omega)
      have h2 : List.countP f [N] = 1 := by simp [h1]
      omega
    · omega

theorem take_get {n i : Nat} (h : i < n) : (ops.take n)[i]? = ops[i]? := by rw [List.getElem?_take]; simp [h]
def gLow (n : Nat) (ops : List Oper) : Bool := (ops.take n).all fun o => match o.guard with | some (j, _) => decide (j < n) | none => true
theorem want1_take {n j : Nat} {o : Oper} (hg : gLow n ops = true) (ho : (ops.take n)[j]? = some o) (ts : Env) : want1 (ops.take n) o ts = want1 ops o ts := by
  have := List.all_eq_true.1 hg o (List.mem_of_getElem? ho)
  unfold want1
  cases hg : o.guard with
  | none => rfl
  | some iv =>
    obtain ⟨i, v⟩ := iv
    rw [hg] at this
    simp only [decide_eq_true_eq] at this
    simp only [dstOf]
    rw [take_get this]

theorem solo_sound {n : Nat} (hn : n ≤ ops.length) (hs : soloB ops n = true) (hgl : gLow n ops = true) {ts0 : Env} {m0 : Mem} (hR : Ran P 0 (ops.take n) os qs tr ts0 m0) (hB : drawB (ops.take n) tr = true) (hok : opsOk N ops = true) (hgs : guardsOk N ops = true) {Q : Exit → Act → World → Prop} {K : St}
    (hK : sL P ops (ops.drop n) (Stt os qs (fun _ => true) ts0 m0 n).1 (Stt os qs (fun _ => true) ts0 m0 n).2 K) (hQ : ∀ a w, Done B N K a w → Q .normal a w) :
    ∀ (fuel : Nat) (listed : Array Bool) (φ : Nat → LS) (fp : Nat → List Nat) (S : Nat → Prop) (a : Act) (w : World), listed.size = ops.length → Closed ops (fun i => listed.getD i false) → (∀ i, n ≤ i → listed.getD i false = false) → unl ops.length listed ≤ fuel →
      RS B N φ fp S (Stt os qs (fun i => listed.getD i false) ts0 m0 n).1 (Stt os qs (fun i => listed.getD i false) ts0 m0 n).2 a w → wpAny P .any ops.toArray Q fuel listed a w := by
  have hlen : (ops.take n).length = n := by simp; omega
  have hback := back_of hs
  have full : ∀ (fuel : Nat) (listed : Array Bool) (φ : Nat → LS) (fp : Nat → List Nat) (S : Nat → Prop) (a : Act) (w : World), listed.size = ops.length → (∀ i, n ≤ i → listed.getD i false = false) → unl ops.length listed ≤ fuel →
      (∀ i, i < n → listed.getD i false = true) → RS B N φ fp S (Stt os qs (fun i => listed.getD i false) ts0 m0 n).1 (Stt os qs (fun i => listed.getD i false) ts0 m0 n).2 a w → wpAny P .any ops.toArray Q fuel listed a w := by
    intro fuel listed φ fp S a w hsz hlo hf hall h
    have e : Stt os qs (fun i => listed.getD i false) ts0 m0 n = Stt os qs (fun _ => true) ts0 m0 n := Stt_prefix n (Nat.le_refl _) fun q hq => hall q hq
    rw [e] at h
    refine tail_sound hs hok hgs hQ _ n fuel listed φ fp S _ _ a w rfl (Nat.le_refl _) hn ⟨hsz, fun i _ => ?_⟩ ?_ h hK
    · by_cases hi : i < n
      · rw [hall i hi]; simp [hi]
      · rw [hlo i (by omega)]; simp [hi]
    · refine Nat.le_trans (count_ge _ fun i h1 _ => ?_) hf
      rw [hlo i h1]; rfl
  intro fuel
  induction fuel with
  | zero =>
    intro listed φ fp S a w hsz hc hlo hf h
    refine full 0 listed φ fp S a w hsz hlo hf (fun i hi => ?_) h
    cases hl : listed.getD i false with
    | true => rfl
    | false =>
      have h0 : unl ops.length listed = 0 := Nat.le_zero.1 hf
      have := List.countP_eq_zero.1 h0 i (List.mem_range.2 (by omega))
      rw [hl] at this; exact absurd rfl this
  | succ fuel ih =>
    intro listed φ fp S a w hsz hc hlo hf h
    by_cases hall : ∀ i, i < n → listed.getD i false = true
    · exact full _ listed φ fp S a w hsz hlo hf hall h
    · obtain ⟨i0, hi0⟩ := Classical.not_forall.1 hall
      obtain ⟨hi0n, hi0⟩ := Classical.not_imp.1 hi0
      have hi0 : listed.getD i0 false = false := by simpa using hi0
      refine ⟨fun hr => ?_, fun j hj => ?_⟩
      · exfalso
        have : ∀ i, i < ops.length → listed.getD i false = true := by
          intro i
          induction i using Nat.strongRecOn with
          | ind i ih =>
            intro hi
            cases hl : listed.getD i false with
            | true => rfl
            | false =>
              have ho : ops[i]? = some ops[i] := List.getElem?_eq_getElem hi
              have : i ∈ Region.ready .any ops.toArray listed := mem_ready.2 ⟨getD_in (by omega) hl, ops[i], by simpa using ho, fun e he hb => by
                have hp : e.on ∈ preds ops[i] := List.mem_map.2 ⟨e, List.mem_filter.2 ⟨by simpa using he, hb⟩, rfl⟩
                have hlt := hback i _ ho _ hp
                exact ih e.on hlt (by omega)⟩
              rw [hr] at this; cases this
        rw [this i0 (by omega)] at hi0; cases hi0
      · obtain ⟨h0, o, ho, hpre⟩ := mem_ready.1 hj
        have hdj : listed.getD j false = false := getD_both h0
        have ho' : ops[j]? = some o := by simpa using ho
        have hjn : j < ops.length := (List.getElem?_eq_some_iff.1 ho').1
        have hp : ∀ i, i ∈ preds o → listed.getD i false = true := by
          intro i hi
          obtain ⟨e, he, rfl⟩ := List.mem_map.1 hi
          obtain ⟨he1, he2⟩ := List.mem_filter.1 he
          exact hpre e (by simpa using he1) he2
        have hjn' : j < n := by
          rcases Nat.lt_or_ge j n with hlt | hge
          · exact hlt
          · have := solo_out hs (hc.add ho' hp) hjn hge (by simp [addD]) i0 (by omega)
            simp only [addD, hi0, Bool.false_or, beq_iff_eq] at this
            omega
        have hot : (ops.take n)[j]? = some o := (take_get hjn').trans ho'
        have hct : Closed (ops.take n) (fun i => listed.getD i false) := fun k ok hk => by
          have hkn := (List.getElem?_eq_some_iff.1 hk).1
          rw [hlen] at hkn
          exact hc k ok ((take_get hkn).symm.trans hk)
        obtain ⟨⟨rd, hya⟩, hlk, hlb⟩ := hR.turn (D := fun i => listed.getD i false) hB hct (fun i hi => by
          rw [hlen]
          rcases Nat.lt_or_ge i n with h' | h'
          · exact h'
          · rw [hlo i h'] at hi; cases hi) (fun i hi => absurd hi (Nat.not_lt_zero _)) hot hdj hp
        rw [hlen] at hya hlk hlb
        have hD' : (fun i => (listed.setIfInBounds j true).getD i false) = addD (fun i => listed.getD i false) j := by
          funext i
          by_cases e : i = j
          · subst e
            simp [addD, hsz, hjn]
          · have e2 : (i == j) = false := by simpa using e
            rw [getD_set_ne false (Ne.symm e)]
            simp [addD, e2]
        have hf' : unl ops.length (listed.setIfInBounds j true) ≤ fuel := by
          have : unl ops.length (listed.setIfInBounds j true) < unl ops.length listed := by
            refine countP_lt _ j (List.mem_range.2 hjn) (by simp only [hdj]; rfl) (by simp [hsz, hjn]) fun i hi => ?_
            by_cases e : i = j
            · subst e; rw [hdj]; rfl
            · rw [getD_set_ne false (Ne.symm e)] at hi; exact hi
          omega
        have next : ∀ a' w', Done B N (fun ts m => ts = putE o.dst (qs j).x (Stt os qs (fun i => listed.getD i false) ts0 m0 n).1 ∧ m = (qs j).new ++ (Stt os qs (fun i => listed.getD i false) ts0 m0 n).2) a' w' →
            wpAny P .any ops.toArray Q fuel (listed.setIfInBounds j true) a' w' := by
          rintro a' w' ⟨φ', fp', S', ts', m', h', rfl, rfl⟩
          refine ih _ φ' fp' S' a' w' (by simp [hsz]) (by rw [hD']; exact hc.add ho' hp) (fun i hi => ?_) hf' ?_
          · rw [getD_set_ne false (by omega)]; exact hlo i hi
          · rw [hD']
            exact h'.ext hlk hlb
        have hdo : ∀ d, o.dst = some d → d < N := by
          intro d hd
          have := List.all_eq_true.1 hok o (List.mem_of_getElem? ho')
          rw [hd] at this; simpa using this
        have hwt := want1_take hgl hot
        unfold wpOp
        simp only [ho]
        rcases hya with ⟨hw, _, hrun⟩ | ⟨hw, hx, hnew⟩
        · rw [hwt] at hw
          rw [wanted_of h hgs ho' hw]
          simp only [if_true]
          refine .inl (op_sound h (sOp_of_D (hrun _ (fun _ _ => rfl) (fun _ _ => rfl) (fun x m' => x = (qs j).x ∧ m' = (qs j).new ++ (Stt os qs (fun i => listed.getD i false) ts0 m0 n).2) ⟨rfl, rfl⟩)) fun v w' hg => ?_)
          exact next _ _ (step_done hdo hg fun x m' ⟨h1, h2⟩ => ⟨by rw [h1], h2⟩)
        · rw [hwt] at hw
          rw [wanted_of h hgs ho' hw]
          simp only [Bool.false_eq_true, if_false]
          refine next _ _ (step_done (k := fun x m' => x = .tup [] ∧ m' = (Stt os qs (fun i => listed.getD i false) ts0 m0 n).2) hdo (h.gives (x := .tup []) (.rd _ _ (.tup [] #[] rfl fun i hi => absurd hi (Nat.not_lt_zero _))) (fun _ _ hl => by cases hl) ⟨rfl, rfl, rfl⟩) fun x m' ⟨h1, h2⟩ => ⟨by rw [h1, hx], by rw [h2, hnew]; rfl⟩)
end

/-- A region that draws its order and whose operations from n on each wait for all before them. -/
theorem Later.solo (n : Nat) {P : Program} {N i : Nat} {ops : List Oper} {ts : Env} {m : Mem} {Q : Post} {q : Pack (Code.region i ⟨ops⟩ true, Q)} (hm : P.follows .mixedOrders = true) (hok : (opsOk N ops && guardsOk N ops && (gLow n ops && (soloB ops n && decide (n ≤ ops.length)))) = true)
    (h : sD P (ops.take n) (ops.take n) ts m [] fun ts' m' => sL P ops (ops.drop n) ts' m' (Q .normal)) : Later P N (.region i ⟨ops⟩ true) ts m Q q := by
  refine ⟨fun B φ fp S a w hRS => ?_⟩
  simp only [Bool.and_eq_true, decide_eq_true_eq] at hok
  have hlen : (ops.take n).length = n := by simp; omega
  obtain ⟨qs, tr, hR, hB, hK, _⟩ := sD_out (os := fun i => (ops[i]?).getD default) (ts0 := ts) (m0 := m) (sk := 0) (fun i o _ ho => by
    have hi := (List.getElem?_eq_some_iff.1 ho).1
    rw [hlen] at hi
    rw [take_get hi] at ho
    simp [ho]) (ops.take n) 0 (fun _ => ⟨.undef, []⟩) [] ts m rfl (Nat.le_refl _) (Nat.zero_le _) rfl rfl (fun i o _ hi => absurd hi (Nat.not_lt_zero _)) h
  rw [hlen] at hK
  refine wp_region_any hm ?_
  refine solo_sound (B := B) (N := N) hok.2.2.2 hok.2.2.1 hok.2.1 hR hB hok.1.1 hok.1.2 hK (fun a w hd => hd) _ _ φ fp S a _ (by simp) ?_ ?_ ?_ ?_
  · intro j o _ hd
    have hd : (Array.replicate (List.toArray ops).size false).getD j false = true := hd
    rw [getD_replicate_false] at hd; cases hd
  · exact fun i _ => getD_replicate_false _ _
  · exact Nat.le_trans List.countP_le_length (by simp)
  · have e : (fun i => (Array.replicate (List.toArray ops).size false).getD i false) = fun _ => false := funext fun i => getD_replicate_false _ _
    have e2 := Stt_stop (os := fun i => (ops[i]?).getD default) (qs := qs) (D := fun _ => false) (ts := ts) (m := m) (j := 0) (fun _ _ => rfl) n (Nat.zero_le _)
    show RS B N φ fp S (Stt _ qs (fun i => (Array.replicate (List.toArray ops).size false).getD i false) ts m n).1 (Stt _ qs (fun i => (Array.replicate (List.toArray ops).size false).getD i false) ts m n).2 a { w with drawn := w.drawn + 1 }
    rw [e, e2]
    exact hRS.sameHeap rfl ⟨rfl, rfl, rfl⟩
end Go.Vc


/-
  A callee that writes one row of its caller's, by a contract that speaks of cells: as the layer Vc's contract.
-/
set_option linter.unusedVariables false
set_option linter.unusedSimpArgs false
set_option linter.unnecessarySimpa false
namespace Go.Vc
theorem FnM.row {P : Program} {f : FuncId} (v : Nat) (xs ys : List AV) (hlen : ys.length = xs.length) (hflat : isFlatL xs = true) (hfy : ∀ i (h : i < ys.length), fits ⟨1, false⟩ ys[i]) (hE : Enters P f)
    (hc : ∀ (w : World) (b cap : Nat) (cs : Array Value) (e : El), w.heap[b]? = some (celO cs e) → cs.size = cap → xs.length ≤ cap → (∀ i (h : i < xs.length), Rd w (fun _ => False) xs[i] (cs.toList.getD i Go.undef)) →
      Calls P f #[.slice (some ⟨b, 0, none⟩) xs.length cap] w fun e' w' => e' = .returned (.tuple #[]) ∧ ∃ cs' : Array Value, cs'.size = cs.size ∧ (∀ i (h : i < ys.length), Rd w' (fun _ => False) ys[i] (cs'.toList.getD i Go.undef)) ∧
        w'.heap[b]? = some (celO cs' e) ∧ (∀ c : Nat, c ≠ b → c < w.heap.size → w'.heap[c]? = w.heap[c]?) ∧ w.heap.size ≤ w'.heap.size ∧ SameOut w w')
    (h0 : xs = [] → ∀ (a : Option Addr) (w : World), Calls P f #[.slice a 0 0] w fun e' w' => e' = .returned (.tuple #[]) ∧ Grown w w') :
    FnM P f [.row v ⟨1, false⟩ true xs] [.ref 1000000000 v 0 xs.length] (fun r io => r = .tup [] ∧ io = [.row v ⟨1, false⟩ true ys]) := by
  refine ⟨hE, fun w φ fp S vs hsz hR => ?_⟩
  have hv0 := hR.tm 0
  have hlk : lookB (ioM 0 [Blk.row v ⟨1, false⟩ true xs]) ioL = some (.row v ⟨1, false⟩ true xs) := rfl
  obtain ⟨u, rfl⟩ : ∃ u, vs = #[u] := by
    have : vs.size = 1 := hsz
    exact ⟨vs[0], by apply Array.ext <;> simp_all⟩
  have hx : RV w S φ (.ref 1000000000 v 0 xs.length) u := hv0
  obtain ⟨r1, r2⟩ := rv_ref hx
  have fin : ∀ (w' : World) (fp' : Nat → List Nat) (k : Blk), k = .row v ⟨1, false⟩ true ys → RS (ioB w φ fp S [.row v ⟨1, false⟩ true xs]) (#[u] : Array Value).size φ fp' S (argsE 0 [.ref 1000000000 v 0 xs.length]) ((ioL, k) :: ioM 0 [.row v ⟨1, false⟩ true xs]) { tmps := #[u], defers := [] } w' →
      ∃ r v' io' φ' fp' S' m', Ending.returned (Value.tuple #[]) = .returned v' ∧ (r = .tup [] ∧ io' = [Blk.row v ⟨1, false⟩ true ys]) ∧ RS (ioB w φ fp S [.row v ⟨1, false⟩ true xs]) 0 φ' fp' S' [] m' { tmps := #[], defers := [] } w' ∧ IoOk [.row v ⟨1, false⟩ true xs] io' m' ∧
        ∃ fs, Own w' (fun _ => False) r v' fs ∧ fs.Nodup ∧ ∀ b, b ∈ fs → w.heap.size ≤ b ∧ ¬ S' b ∧ ∀ l, ioL ≤ l → b ∉ fp' l := by
    rintro w' fp' k rfl h
    refine ⟨.tup [], .tuple #[], _, φ, fp', S, _, rfl, ⟨rfl, rfl⟩, { h with tm := fun t => by rw [look_nil]; exact .rd _ _ (.undef _), tl := fun t l ver hl => (by rw [look_nil] at hl; cases hl), defers := rfl, tsz := rfl }, ⟨rfl, fun j hj hj' => ?_⟩, [], .rd _ _ (.tup [] #[] rfl fun i hi => absurd hi (Nat.not_lt_zero _)), List.nodup_nil, fun b hb => by cases hb⟩
    have : j = 0 := by simpa using hj
    subst this
    exact ⟨by simp [lookB_cons], rfl, trivial⟩
  have nilCase : xs = [] → (∃ a, u = .slice a 0 0) → Calls P f #[u] w fun e' w' => ∃ r v' io' φ' fp' S' m', e' = .returned v' ∧ (r = .tup [] ∧ io' = [Blk.row v ⟨1, false⟩ true ys]) ∧ RS (ioB w φ fp S [.row v ⟨1, false⟩ true xs]) 0 φ' fp' S' [] m' { tmps := #[], defers := [] } w' ∧ IoOk [.row v ⟨1, false⟩ true xs] io' m' ∧
        ∃ fs, Own w' (fun _ => False) r v' fs ∧ fs.Nodup ∧ ∀ b, b ∈ fs → w.heap.size ≤ b ∧ ¬ S' b ∧ ∀ l, ioL ≤ l → b ∉ fp' l := by
    rintro h1 ⟨a, rfl⟩
    have hy : ys = [] := List.eq_nil_of_length_eq_zero (by rw [hlen, h1]; rfl)
    refine (h0 h1 a w).mono ?_
    rintro e' w' ⟨rfl, hg⟩
    have hR2 := hR.grown hg
    refine fin w' fp (.row v ⟨1, false⟩ true ys) rfl ?_
    have e1 : lookB (ioM 0 [Blk.row v ⟨1, false⟩ true xs]) = lookB ((ioL, .row v ⟨1, false⟩ true ys) :: ioM 0 [.row v ⟨1, false⟩ true xs]) := by
      funext l
      rw [lookB_cons]
      split
      · rename_i e; subst e; rw [hlk, h1, hy]
      · rfl
    have kn : ∀ l ver, known (ioM 0 [Blk.row v ⟨1, false⟩ true xs]) l ver → known ((ioL, .row v ⟨1, false⟩ true ys) :: ioM 0 [.row v ⟨1, false⟩ true xs]) l ver := by
      rintro l ver ⟨k', q1, q2⟩
      exact ⟨k', by rw [← e1]; exact q1, q2⟩
    exact { hR2 with tl := fun t l ver hl => kn l ver (hR2.tl t l ver hl), mNone := fun l hl => hR2.mNone l (by rw [e1]; exact hl), mSome := fun l k hk => hR2.mSome l k (by rw [e1]; exact hk), bl := fun l v xs hb l' ver hl => kn l' ver (hR2.bl l v xs (by rw [e1]; exact hb) l' ver hl), kn := fun l ver h1 h2 => kn l ver (hR2.kn l ver h1 h2) }
  rcases hR.mSome ioL _ hlk with ⟨hφ, hxs, _⟩ | ⟨b, cap, hφ, hbm, _, hown⟩
  · exact nilCase hxs (r2 hφ).2
  · simp only [if_true] at hown
    obtain ⟨a, cap', rfl, hn, hcp⟩ := r1 b _ hφ
    rcases hcp with rfl | ⟨rfl, cs0, e0, hh0, hs0⟩
    · have hx0 : xs = [] := List.eq_nil_of_length_eq_zero (by omega)
      exact nilCase hx0 ⟨a, by rw [hx0]; rfl⟩
    · rcases own_arr hown with ⟨hx0, hf0, _⟩ | ⟨b', cap2, cs, e, fss, q1, hgf, hheap, hcs, hcap, hmx, hff, hfl, hvv⟩
      · rw [hf0] at hbm; cases hbm
      · simp only [Value.slice.injEq, Option.some.injEq, Addr.mk.injEq] at q1
        obtain ⟨⟨rfl, _⟩, _, rfl⟩ := q1
        rw [hheap] at hh0
        simp only [Option.some.injEq, Obj.cells.injEq] at hh0
        obtain ⟨rfl, -, -⟩ := hh0
        simp only [Nat.mul_one, Nat.zero_add] at hs0 hcs
        have hfe : ∀ i (h : i < xs.length), Rd w (fun _ => False) xs[i] (cs.toList.getD i Go.undef) ∧ fss.getD i [] = [] := by
          intro i hi
          have := flat_rd (S' := fun _ => False) (hvv i hi) (isFlatL_get hflat i hi)
          rw [elemV_cell, Nat.mul_one] at this
          exact this
        have hfs : fss.flatten = [] := List.flatten_eq_nil_iff.2 fun l hl => by
          obtain ⟨i, hi, rfl⟩ := List.getElem_of_mem hl
          have := (hfe i (hfl ▸ hi)).2
          rwa [List.getD_eq_getElem?_getD, List.getElem?_eq_getElem hi] at this
        rw [hfs] at hgf
        refine (hc w b cap' cs e hheap hs0 hn fun i hi => (hfe i hi).1).mono ?_
        rintro e' w' ⟨rfl, cs', hs', hr', hb', hoth, hsize, hout⟩
        have hbl := (hR.fpB ioL b (by rw [hgf]; simp)).1
        have hnx := hR.next (w' := w') ioL (φ ioL) (fp ioL) S (.row v ⟨1, false⟩ true ys) hsize hout ?_ ?_ ?_ (fun c h1 h2 => absurd h1 h2) ?_ ?_ (fun ver _ => LS.le_refl _ _) ?_ ?_ (fun _ _ hk => by cases hk) (hR.nod ioL) ?_
        · have e1 : upd φ ioL (φ ioL) = φ := by funext l; by_cases e : l = ioL <;> simp [upd, e]
          rw [e1] at hnx
          exact fin w' _ _ rfl hnx
        · intro c cs2 e2 hc2
          by_cases ec : c = b
          · subst ec; obtain rfl := celO_inj (hheap.symm.trans hc2); exact ⟨cs', e, hb', hs'⟩
          · exact ⟨cs2, e2, by rw [hoth c ec (Array.getElem?_eq_some_iff.1 hc2).1]; exact hc2, rfl⟩
        · intro c hcl hio
          exact hoth c (fun ec => hio ioL (by subst ec; show c ∈ fp ioL; rw [hgf]; simp)) hcl
        · intro c hcS
          exact ⟨hcS, hoth c (fun ec => hR.notS ioL b (by rw [hgf]; simp) (ec ▸ hcS)) (hR.sB c hcS).1⟩
        · intro l c sh ver cs2 e2 _ hc2
          by_cases ec : c = b
          · subst ec; obtain rfl := celO_inj (hheap.symm.trans hc2); exact ⟨cs', e, hb', hs'⟩
          · exact ⟨cs2, e2, by rw [hoth c ec (Array.getElem?_eq_some_iff.1 hc2).1]; exact hc2, rfl⟩
        · intro l' hl' c hcl
          exact hoth c (fun ec => hl' (hR.dis l' ioL c hcl (by rw [ec, hgf]; simp))) (hR.fpB l' c hcl).1
        · rintro ver ⟨k', q1, q2⟩
          rw [hlk] at q1; cases q1; exact q2
        · refine .inr ⟨b, cap, by rw [upd_same]; exact hφ, by rw [hgf]; simp, fun h => (by cases h), ?_⟩
          rw [hgf]
          have e2 : [b] = b :: (List.replicate ys.length ([] : List Nat)).flatten := by
            congr 1
            exact (List.flatten_eq_nil_iff.2 fun l hl => (List.mem_replicate.1 hl).2).symm
          show Own w' (fun _ => False) _ _ [b]
          rw [e2]
          refine .arr ⟨1, false⟩ ys b cap cs' e _ hb' (by rw [hs', hcs]; simp) (by omega) hmx hfy (by simp) fun i hi => ?_
          have e3 : (List.replicate ys.length ([] : List Nat)).getD i [] = [] := by simp [List.getD_eq_getElem?_getD, hi]
          rw [e3, elemV_cell, Nat.mul_one]
          exact .rd _ _ (hr' i hi)
        · intro c hc2
          have := hR.fpB ioL c hc2
          exact ⟨hR.notS ioL c hc2, fun l' hl' hc' => hl' (hR.dis l' ioL c hc' hc2), Nat.lt_of_lt_of_le this.1 hsize, this.2⟩
end Go.Vc


/-
  A contract of the kit's that sorts a row of numbers: as the layer Vc's contract.
-/
set_option linter.unusedVariables false
set_option linter.unusedSimpArgs false
set_option linter.unnecessarySimpa false
namespace Go.Vc
open Go.Sort
theorem flatInts : ∀ zs : List Int, isFlatL (zs.map fun n => AV.val (.int .i64 n)) = true
  | [] => rfl
  | _ :: r => by rw [List.map_cons, isFlatL_cons, flatInts r]; rfl
theorem holds_rd {w : World} {b : Nat} {cs : Array Value} {e : El} {zs : List Int} (hb : w.heap[b]? = some (celO cs e)) (hcap : zs.length ≤ cs.size)
    (hrd : ∀ i (h : i < (zs.map fun n => AV.val (.int .i64 n)).length), Rd w (fun _ => False) (zs.map fun n => AV.val (.int .i64 n))[i] (cs.toList.getD i Go.undef)) : Holds (Value.int .i64) w b 0 zs.toArray := by
  intro j hj
  have hj' : j < zs.length := by simpa using hj
  have h1 := hrd j (by simpa using hj')
  rw [List.getElem_map] at h1
  have h2 : cs.toList.getD j Go.undef = .int .i64 zs[j] := by generalize cs.toList.getD j Go.undef = u at h1; cases h1; rfl
  have h3 : j < cs.size := by omega
  have h5 : cs[j]? = some (.int .i64 zs[j]) := by
    rw [List.getD_eq_getElem?_getD, Array.getElem?_toList, Array.getElem?_eq_getElem h3] at h2
    rw [Array.getElem?_eq_getElem h3]
    exact congrArg some h2
  have h6 : zs.toArray[j]! = zs[j] := by rw [getElem!_pos zs.toArray j hj]; simp
  refine ⟨?_, ?_⟩
  · simp only [World.cell?, hb, Nat.zero_add, Option.isSome_none, Bool.false_eq_true, ↓reduceIte, h5, h6]
  · have := celO_free hb h3
    simpa using this
theorem put_facts {w : World} {b n : Nat} {cs : Array Value} {e : El} {ys : List Int} {os : Array Obj} (hb : w.heap[b]? = some (celO cs e)) (hcs : ys.length ≤ cs.size) :
    ∃ cs' : Array Value, cs'.size = cs.size ∧ (∀ i (h : i < (ys.map fun n => AV.val (.int .i64 n)).length), Rd (grow (putRow (Value.int .i64) (Sort.ahead w n) b 0 ys.toArray) os) (fun _ => False) (ys.map fun n => AV.val (.int .i64 n))[i] (cs'.toList.getD i Go.undef)) ∧
      (grow (putRow (Value.int .i64) (Sort.ahead w n) b 0 ys.toArray) os).heap[b]? = some (celO cs' e) ∧ (∀ c : Nat, c ≠ b → c < w.heap.size → (grow (putRow (Value.int .i64) (Sort.ahead w n) b 0 ys.toArray) os).heap[c]? = w.heap[c]?) ∧
      w.heap.size ≤ (grow (putRow (Value.int .i64) (Sort.ahead w n) b 0 ys.toArray) os).heap.size ∧ SameOut w (grow (putRow (Value.int .i64) (Sort.ahead w n) b 0 ys.toArray) os) := by
  have hbl : b < w.heap.size := (Array.getElem?_eq_some_iff.1 hb).1
  have hheap : ∀ c : Nat, c < w.heap.size → (grow (putRow (Value.int .i64) (Sort.ahead w n) b 0 ys.toArray) os).heap[c]? = if b = c then w.heap[c]?.map (onCells (putCells (Value.int .i64) 0 ys.toArray)) else w.heap[c]? := by
    intro c hc
    rw [heap_grow_old _ _ (by simpa using hc)]
    simp only [putRow, mapBlock, Sort.heap_ahead, Array.getElem?_modify]
  refine ⟨putCells (Value.int .i64) 0 ys.toArray cs, by simp [putCells], ?_, ?_, ?_, ?_, ⟨rfl, rfl, rfl⟩⟩
  · intro i hi
    have hi' : i < ys.length := by simpa using hi
    have hi2 : i < cs.size := by omega
    have e1 : (putCells (Value.int .i64) 0 ys.toArray cs).toList.getD i Go.undef = .int .i64 ys[i] := by
      rw [List.getD_eq_getElem?_getD, Array.getElem?_toList]
      simp [putCells, hi2, hi']
    rw [e1, List.getElem_map]
    exact .val _ rfl
  · have hs : (putCells (Value.int .i64) 0 ys.toArray cs).size = cs.size := by simp [putCells]
    rw [hheap b hbl, if_pos rfl, hb]
    show some (Obj.cells (putCells (Value.int .i64) 0 ys.toArray cs) e.1 (frOf e cs.size)) = some (Obj.cells (putCells (Value.int .i64) 0 ys.toArray cs) e.1 (frOf e (putCells (Value.int .i64) 0 ys.toArray cs).size))
    rw [hs]
  · intro c hcb hc
    rw [hheap c hc, if_neg (Ne.symm hcb)]
  · simp
theorem FnM.sortRow {P : Program} {f : FuncId} (hE : Enters P f) (g : List Int → List Int) (hg : ∀ zs, (g zs).length = zs.length)
    (hs : ∀ (blk cap : Nat) (zs : List Int) (w : World), Holds (Value.int .i64) w blk 0 zs.toArray → blk < w.heap.size → zs.length < 4611686018427387904 →
      Calls P f #[.slice (some ⟨blk, 0, none⟩) zs.length cap] w fun e w' => e = .returned (.tuple #[]) ∧ ∃ n os, w' = grow (putRow (Value.int .i64) (Sort.ahead w n) blk 0 (g zs).toArray) os)
    (h0 : ∀ (a : Option Addr) (w : World), Calls P f #[.slice a 0 0] w fun e w' => e = .returned (.tuple #[]) ∧ w' = w)
    (v : Nat) (zs : List Int) (hz : zs.length ≤ 1048576) :
    FnM P f [.row v ⟨1, false⟩ true (zs.map fun n => .val (.int .i64 n))] [.ref 1000000000 v 0 zs.length] (fun r io => r = .tup [] ∧ io = [.row v ⟨1, false⟩ true ((g zs).map fun n => .val (.int .i64 n))]) := by
  have := FnM.row (P := P) (f := f) v (zs.map fun n => AV.val (.int .i64 n)) ((g zs).map fun n => AV.val (.int .i64 n)) (by simp [hg])
    (flatInts zs) (by intro i hi; simp [fits]) hE ?_ ?_
  · simpa using this
  · intro w b cap cs e hb hcs hcap hrd
    have h4 : (zs.map fun n => AV.val (.int .i64 n)).length = zs.length := List.length_map _
    have h1 := hs b cap zs w (holds_rd hb (by omega) hrd) (Array.getElem?_eq_some_iff.1 hb).1 (by omega)
    rw [List.length_map]
    refine h1.mono ?_
    rintro e' w' ⟨rfl, n, os, rfl⟩
    exact ⟨rfl, put_facts hb (by rw [hg]; omega)⟩
  · intro hx a w
    refine (h0 a w).mono ?_
    rintro e' w' ⟨rfl, rfl⟩
    exact ⟨rfl, Grown.refl _⟩

section
variable {P : Program} {m : Mem}
/-- A call that turns a row of ours and hands back its beginning. -/
theorem sCallIo_row {f : FuncId} {l ver j : Nat} {xs ys : List AV} {k : AV → Mem → Prop} (hE : Enters P f) (hlk : lookB m l = some (.row ver ⟨1, false⟩ true xs)) (hflat : isFlatL xs = true) (hlen : ys.length = xs.length) (hj : j ≤ xs.length)
    (hfy : ∀ i (h : i < ys.length), fits ⟨1, false⟩ ys[i])
    (hc : ∀ (w : World) (b cap : Nat) (cs : Array Value) (e : El), w.heap[b]? = some (celO cs e) → cs.size = cap → xs.length ≤ cap → (∀ i (h : i < xs.length), Rd w (fun _ => False) xs[i] (cs.toList.getD i Go.undef)) →
      Calls P f #[.slice (some ⟨b, 0, none⟩) xs.length cap] w fun e' w' => e' = .returned (.slice (some ⟨b, 0, none⟩) j cap) ∧ ∃ cs' : Array Value, cs'.size = cs.size ∧ (∀ i (h : i < ys.length), Rd w' (fun _ => False) ys[i] (cs'.toList.getD i Go.undef)) ∧
        w'.heap[b]? = some (celO cs' e) ∧ (∀ c : Nat, c ≠ b → c < w.heap.size → w'.heap[c]? = w.heap[c]?) ∧ w.heap.size ≤ w'.heap.size ∧ SameOut w w')
    (h0 : xs = [] → ∀ (a : Option Addr) (w : World), Calls P f #[.slice a 0 0] w fun e' w' => e' = .returned (.slice a 0 0) ∧ Grown w w')
    (hk : k (.ref l (ver + 1) 0 j) ((l, .row (ver + 1) ⟨1, false⟩ true ys) :: m)) : sCallIo P f [.ref l ver 0 xs.length] m k := by
  refine fun B N φ fp S ts a w vs hR hsz hx hxl => ⟨hE, ?_⟩
  obtain ⟨u, rfl⟩ : ∃ u, vs = #[u] := by
    have : vs.size = 1 := hsz
    exact ⟨vs[0], by apply Array.ext <;> simp_all⟩
  have hx0 : RV w S φ (.ref l ver 0 xs.length) u := hx 0 (by simp)
  obtain ⟨r1, r2⟩ := rv_ref hx0
  have hver : ∀ v', known m l v' → v' < ver + 1 := by
    rintro v' ⟨k', h1, h2⟩
    rw [hlk] at h1; cases h1; exact Nat.lt_succ_of_le h2
  have nilCase : xs = [] → (∃ a', u = .slice a' 0 0) → Calls P f #[u] w fun e' w' => ∃ v, e' = .returned v ∧ Gives B N a (fun x ts' m' => ts' = ts ∧ k x m') v w' := by
    rintro h1 ⟨a', rfl⟩
    have hy : ys = [] := List.eq_nil_of_length_eq_zero (by rw [hlen, h1]; rfl)
    have hj0 : j = 0 := by rw [h1] at hj; simpa using hj
    refine (h0 h1 a' w).mono ?_
    rintro e' w' ⟨rfl, hg⟩
    refine ⟨_, rfl, (hR.grown hg).nilNext hver (nv := ver + 1) (sh := ⟨1, false⟩) (deep := true) ⟨rfl, ?_⟩⟩
    rw [hy, hj0] at hk; exact hk
  rcases hR.mSome l _ hlk with ⟨hφ, hxs, _⟩ | ⟨b, cap, hφ, hbm, _, hown⟩
  · exact nilCase hxs (r2 hφ).2
  · simp only [if_true] at hown
    obtain ⟨ad, cap', rfl, hn, hcp⟩ := r1 b _ hφ
    rcases hcp with rfl | ⟨rfl, cs0, e0, hh0, hs0⟩
    · have hx1 : xs = [] := List.eq_nil_of_length_eq_zero (by omega)
      exact nilCase hx1 ⟨ad, by rw [hx1]; rfl⟩
    · rcases own_arr hown with ⟨hx1, hf0, _⟩ | ⟨b', cap2, cs, e, fss, q1, hgf, hheap, hcs, hcap, hmx, hff, hfl, hvv⟩
      · rw [hf0] at hbm; cases hbm
      · simp only [Value.slice.injEq, Option.some.injEq, Addr.mk.injEq] at q1
        obtain ⟨⟨rfl, _⟩, _, rfl⟩ := q1
        rw [hheap] at hh0
        simp only [Option.some.injEq, Obj.cells.injEq] at hh0
        obtain ⟨rfl, -, -⟩ := hh0
        simp only [Nat.mul_one, Nat.zero_add] at hs0 hcs
        have hfe : ∀ i (h : i < xs.length), Rd w (fun _ => False) xs[i] (cs.toList.getD i Go.undef) ∧ fss.getD i [] = [] := by
          intro i hi
          have := flat_rd (S' := fun _ => False) (hvv i hi) (isFlatL_get hflat i hi)
          rw [elemV_cell, Nat.mul_one] at this
          exact this
        have hfs : fss.flatten = [] := List.flatten_eq_nil_iff.2 fun l hl => by
          obtain ⟨i, hi, rfl⟩ := List.getElem_of_mem hl
          have := (hfe i (hfl ▸ hi)).2
          rwa [List.getD_eq_getElem?_getD, List.getElem?_eq_getElem hi] at this
        rw [hfs] at hgf
        rw [show (0 : Nat) * (1 : Nat) = 0 from rfl]
        refine (hc w b cap' cs e hheap hs0 hn fun i hi => (hfe i hi).1).mono ?_
        rintro e' w' ⟨rfl, cs', hs', hr', hb', hoth, hsize, hout⟩
        have hbl : b < w.heap.size := (Array.getElem?_eq_some_iff.1 hheap).1
        have hszs : Szs w w' := by
          intro c cs2 e2 hc2
          by_cases ec : c = b
          · subst ec; obtain rfl := celO_inj (hheap.symm.trans hc2); exact ⟨cs', e, hb', hs'⟩
          · exact ⟨cs2, e2, by rw [hoth c ec (Array.getElem?_eq_some_iff.1 hc2).1]; exact hc2, rfl⟩
        refine ⟨_, rfl, hR.rowNext (b := b) (cap := cap) (n := j) (nv := ver + 1) (sh := ⟨1, false⟩) (deep := true) (xs := ys) (fs := [b]) hsize hout hszs hoth
          (fun l b sh ver cs e _ hb => hszs b cs e hb) (.inl hbm) hver (fun c hc => .inl (by simpa using hc)) (by simp) (fun h => (by cases h)) (by simp) ?_ ?_ ⟨rfl, hk⟩⟩
        · have e2 : [b] = b :: (List.replicate ys.length ([] : List Nat)).flatten := by
            congr 1
            exact (List.flatten_eq_nil_iff.2 fun l hl => (List.mem_replicate.1 hl).2).symm
          show Own w' (fun _ => False) _ _ [b]
          rw [e2]
          refine .arr ⟨1, false⟩ ys b cap cs' e _ hb' (by rw [hs', hcs]; simp) (by omega) hmx hfy (by simp) fun i hi => ?_
          have e3 : (List.replicate ys.length ([] : List Nat)).getD i [] = [] := by simp [List.getD_eq_getElem?_getD, hi]
          rw [e3, elemV_cell, Nat.mul_one]
          exact .rd _ _ (hr' i hi)
        · exact ⟨some ⟨b, 0, none⟩, cap', rfl, by omega, .inr ⟨rfl, cs', e, hb', by rw [hs', hs0]; simp⟩⟩
/-- The same, of numbers. -/
theorem sCallIo_ints {f : FuncId} {l ver n : Nat} {zs ys : List Int} {k : AV → Mem → Prop} (j : Nat) (hE : Enters P f) (hlk : lookB m l = some (.row ver ⟨1, false⟩ true (zs.map fun n => .val (.int .i64 n)))) (hn : n = zs.length) (hlen : ys.length = zs.length) (hj : j ≤ zs.length)
    (hz : zs.length ≤ 1048576)
    (hc : ∀ (blk cap : Nat) (w : World), Holds (Value.int .i64) w blk 0 zs.toArray → zs.length ≤ cap →
      Calls P f #[.slice (some ⟨blk, 0, none⟩) zs.length cap] w fun e' w' => e' = .returned (.slice (some ⟨blk, 0, none⟩) j cap) ∧ ∃ q, w' = putRow (Value.int .i64) (Sort.ahead w q) blk 0 ys.toArray)
    (h0 : ∀ (a : Option Addr) (w : World), Calls P f #[.slice a 0 0] w fun e' w' => e' = .returned (.slice a 0 0) ∧ w' = w)
    (hk : k (.ref l (ver + 1) 0 j) ((l, .row (ver + 1) ⟨1, false⟩ true (ys.map fun n => .val (.int .i64 n))) :: m)) : sCallIo P f [.ref l ver 0 n] m k := by
  have h4 : (zs.map fun n => AV.val (.int .i64 n)).length = zs.length := List.length_map _
  rw [hn, ← h4]
  refine sCallIo_row hE hlk (flatInts zs) (ys := ys.map fun n => .val (.int .i64 n)) (j := j) (by simp [hlen]) (by omega) (by intro i hi; simp [fits]) ?_ ?_ hk
  · intro w b cap cs e hb hcs hcap hrd
    have h1 := hc b cap w (holds_rd hb (by omega) hrd) (by omega)
    rw [h4]
    refine h1.mono ?_
    rintro e' w' ⟨rfl, n, rfl⟩
    refine ⟨rfl, ?_⟩
    have := put_facts (os := #[]) (n := n) (ys := ys) hb (by omega)
    simpa only [grow_empty] using this
  · intro hx a w
    refine (h0 a w).mono ?_
    rintro e' w' ⟨rfl, rfl⟩
    exact ⟨rfl, Grown.refl _⟩
theorem sCallT_ints {f : FuncId} {d l ver n : Nat} {zs ys : List Int} {xt : List AV} {k : AV → Mem → Prop} {q : Pack k} (j : Nat) (hE : Enters P f) (hlk : lookB m l = some (.row ver ⟨1, false⟩ true (zs.map fun n => .val (.int .i64 n)))) (hn : n = zs.length) (hlen : ys.length = zs.length) (hj : j ≤ zs.length)
    (hz : zs.length ≤ 1048576)
    (hc : ∀ (blk cap : Nat) (w : World), Holds (Value.int .i64) w blk 0 zs.toArray → zs.length ≤ cap →
      Calls P f #[.slice (some ⟨blk, 0, none⟩) zs.length cap] w fun e' w' => e' = .returned (.slice (some ⟨blk, 0, none⟩) j cap) ∧ ∃ q, w' = putRow (Value.int .i64) (Sort.ahead w q) blk 0 ys.toArray)
    (h0 : ∀ (a : Option Addr) (w : World), Calls P f #[.slice a 0 0] w fun e' w' => e' = .returned (.slice a 0 0) ∧ w' = w)
    (hk : k (.ref l (ver + 1) 0 j) ((l, .row (ver + 1) ⟨1, false⟩ true (ys.map fun n => .val (.int .i64 n))) :: m)) : sCallT P f d [.ref l ver 0 n] xt m k q :=
  .inl (sCallIo_ints j hE hlk hn hlen hj hz hc h0 hk)
end
end Go.Vc


/-
  DERIVED: THE SHELF's CONTRACTS AT THIS DUMP, IN PLAIN WORDS (tools/lay-plain.mjs out of 'YtgdjpnahpanaoaaLay0.lean', which tools/lay-shelf.mjs wrote): THE SAME DECLARATIONS UNDER THE SAME NAMES: 'import', 'namespace', 'open', 'def', 'theorem' AND NOTHING ELSE: no command of the shelf's: FOR A HAND-IN. Each laying: the table of numbers ('.._ren') and one theorem, a field a fact of the dump's own or the kernel's comparison; each contract: ONE APPLICATION.
-/
set_option linter.unusedVariables false
set_option linter.unusedSimpArgs false
set_option linter.unnecessarySimpa false
namespace Go.Proofs
open Go.Shelf
def Try.laySort_ren : Go.Shelf.Ren := ⟨fun | 53 => 44 | 64 => 55 | 63 => 54 | 78 => 74 | 79 => 75 | 70 => 65 | 71 => 66 | 72 => 67 | 73 => 68 | 74 => 69 | 75 => 70 | 59 => 71 | 76 => 72 | 77 => 73 | 88 => 77 | 89 => 78 | 90 => 79 | 91 => 80 | 92 => 81 | 68 => 82 | 96 => 83 | n => n, fun | 22 => 25 | 23 => 2 | 3 => 3 | 51 => 82 | 0 => 0 | 67 => 98 | 69 => 100 | 4 => 4 | 61 => 90 | 60 => 89 | 44 => 95 | 5 => 5 | 9 => 9 | 75 => 102 | 79 => 106 | 83 => 108 | 84 => 109 | n => n, fun | n => n⟩
theorem Try.laySort : Go.Proofs.SlLaysN.n53 Try.prog Try.laySort_ren := {
  mixed := by kernel_rfl
  f53 := ⟨Try.f44.name, by decide, Try.func44.trans (congrArg some (by kernel_rfl))⟩
  f59 := ⟨Try.f71.name, by decide, Try.func71.trans (congrArg some (by kernel_rfl))⟩
  f63 := ⟨Try.f54.name, by decide, Try.func54.trans (congrArg some (by kernel_rfl))⟩
  f64 := Try.func55.trans (congrArg some (by kernel_rfl))
  f68 := ⟨Try.f82.name, by decide, Try.func82.trans (congrArg some (by kernel_rfl))⟩
  f70 := ⟨Try.f65.name, by decide, Try.func65.trans (congrArg some (by kernel_rfl))⟩
  f71 := ⟨Try.f66.name, by decide, Try.func66.trans (congrArg some (by kernel_rfl))⟩
  f72 := ⟨Try.f67.name, by decide, Try.func67.trans (congrArg some (by kernel_rfl))⟩
  f73 := ⟨Try.f68.name, by decide, Try.func68.trans (congrArg some (by kernel_rfl))⟩
  f74 := ⟨Try.f69.name, by decide, Try.func69.trans (congrArg some (by kernel_rfl))⟩
  f75 := ⟨Try.f70.name, by decide, Try.func70.trans (congrArg some (by kernel_rfl))⟩
  f76 := ⟨Try.f72.name, by decide, Try.func72.trans (congrArg some (by kernel_rfl))⟩
  f77 := ⟨Try.f73.name, by decide, Try.func73.trans (congrArg some (by kernel_rfl))⟩
  f78 := Try.func74.trans (congrArg some (by kernel_rfl))
  f79 := Try.func75.trans (congrArg some (by kernel_rfl))
  f88 := ⟨Try.f77.name, by decide, Try.func77.trans (congrArg some (by kernel_rfl))⟩
  f89 := Try.func78.trans (congrArg some (by kernel_rfl))
  f90 := Try.func79.trans (congrArg some (by kernel_rfl))
  f91 := ⟨Try.f80.name, by decide, Try.func80.trans (congrArg some (by kernel_rfl))⟩
  f92 := ⟨Try.f81.name, by decide, Try.func81.trans (congrArg some (by kernel_rfl))⟩
  f96 := ⟨Try.f83.name, by decide, Try.func83.trans (congrArg some (by kernel_rfl))⟩
  t0 := Try.underlying0
  a0 := Try.isAgg0
  z0 := Try.sizeOf0
  v0 := Try.zeroValue0
  t3 := Try.underlying3
  a3 := Try.isAgg3
  z3 := Try.sizeOf3
  v3 := Try.zeroValue3
  t4 := Try.underlying4
  a4 := Try.isAgg4
  z4 := Try.sizeOf4
  v4 := Try.zeroValue4
  t5 := Try.underlying5
  a5 := Try.isAgg5
  z5 := Try.sizeOf5
  v5 := Try.zeroValue5
  t9 := Try.underlying9
  a9 := Try.isAgg9
  z9 := Try.sizeOf9
  v9 := Try.zeroValue9
  t22 := Try.underlying25
  a22 := Try.isAgg25
  z22 := Try.sizeOf25
  v22 := Try.zeroValue25
  t23 := Try.underlying2
  a23 := Try.isAgg2
  z23 := Try.sizeOf2
  v23 := Try.zeroValue2
  t44 := Try.underlying95
  a44 := Try.isAgg95
  z44 := Try.sizeOf95
  v44 := Try.zeroValue95
  t51 := Try.underlying82
  a51 := Try.isAgg82
  z51 := Try.sizeOf82
  v51 := Try.zeroValue82
  t60 := Try.underlying89
  a60 := Try.isAgg89
  z60 := Try.sizeOf89
  v60 := Try.zeroValue89
  t61 := Try.underlying90
  a61 := Try.isAgg90
  z61 := Try.sizeOf90
  v61 := Try.zeroValue90
  t67 := Try.underlying98
  a67 := Try.isAgg98
  z67 := Try.sizeOf98
  v67 := Try.zeroValue98
  t69 := Try.underlying100
  a69 := Try.isAgg100
  z69 := Try.sizeOf100
  v69 := Try.zeroValue100
  t75 := Try.underlying102
  a75 := Try.isAgg102
  z75 := Try.sizeOf102
  v75 := Try.zeroValue102
  t79 := Try.underlying106
  a79 := Try.isAgg106
  z79 := Try.sizeOf106
  v79 := Try.zeroValue106
  t83 := Try.underlying108
  a83 := Try.isAgg108
  z83 := Try.sizeOf108
  v83 := Try.zeroValue108
  t84 := Try.underlying109
  a84 := Try.isAgg109
  z84 := Try.sizeOf109
  v84 := Try.zeroValue109 }
def Try.layCompact_ren : Go.Shelf.Ren := ⟨fun | 43 => 45 | n => n, fun | 22 => 25 | 23 => 2 | 3 => 3 | 4 => 4 | 0 => 0 | n => n, fun | n => n⟩
theorem Try.layCompact : Go.Proofs.SlLaysN.n43 Try.prog Try.layCompact_ren := {
  mixed := by kernel_rfl
  f43 := ⟨Try.f45.name, by decide, Try.func45.trans (congrArg some (by kernel_rfl))⟩
  t0 := Try.underlying0
  a0 := Try.isAgg0
  z0 := Try.sizeOf0
  v0 := Try.zeroValue0
  t3 := Try.underlying3
  a3 := Try.isAgg3
  z3 := Try.sizeOf3
  v3 := Try.zeroValue3
  t4 := Try.underlying4
  a4 := Try.isAgg4
  z4 := Try.sizeOf4
  v4 := Try.zeroValue4
  t22 := Try.underlying25
  a22 := Try.isAgg25
  z22 := Try.sizeOf25
  v22 := Try.zeroValue25
  t23 := Try.underlying2
  a23 := Try.isAgg2
  z23 := Try.sizeOf2
  v23 := Try.zeroValue2
  i23 := by kernel_rfl }
end Go.Proofs


/-
  How plain data are written as abstract values; small facts on lists.
-/
set_option linter.unusedVariables false
set_option linter.unusedSimpArgs false
set_option linter.unnecessarySimpa false
namespace Go.Vc
abbrev eI (n : Int) : AV := .val (.int .i64 n)
abbrev eB (b : Bool) : AV := .val (.bool b)
abbrev eIs (xs : List Int) : AV := .arr ⟨1, false⟩ (xs.map eI)
theorem all_take {α : Type} (p : α → Bool) (xs : List α) (i : Nat) (h : i < xs.length) : (xs.take (i + 1)).all p = ((xs.take i).all p && p xs[i]) := by
  rw [List.take_succ_eq_append_getElem h, List.all_append]; simp
theorem all_no {α : Type} {p : α → Bool} {xs : List α} {i : Nat} (h : i < xs.length) (hp : p xs[i] = false) : xs.all p = false := by
  rw [List.all_eq_false]; exact ⟨xs[i], List.getElem_mem h, by simp [hp]⟩
/-- a row of which the first i cells are filled -/
def fill {α β : Type} (f : α → β) (z : β) (xs : List α) (i : Nat) : List β := (xs.take i).map f ++ List.replicate (xs.length - i) z
theorem take_map_len {α β : Type} (f : α → β) (xs : List α) : (xs.map f).take xs.length = xs.map f := by rw [← List.map_take, List.take_length]
attribute [go_sem] take_map_len
theorem lt_len {i n : Nat} (h : i < n) : decide ((i : Int) < (n : Int)) = true := decide_eq_true (by omega)
theorem nlt_len (n : Nat) : decide ((n : Int) < (n : Int)) = false := decide_eq_false (by omega)
theorem get_some {α : Type} {xs : List α} {i : Nat} (h : i < xs.length) : xs[i]? = some xs[i] := List.getElem?_eq_getElem h
theorem isFlatL_map {α : Type} {f : α → AV} (xs : List α) (h : ∀ x, isFlat (f x) = true) : isFlatL (xs.map f) = true := by
  induction xs with
  | nil => rfl
  | cons x r ih => rw [List.map_cons, isFlatL_cons, h, ih]; rfl
theorem isFlatL_append (xs ys : List AV) : isFlatL (xs ++ ys) = (isFlatL xs && isFlatL ys) := by
  induction xs with
  | nil => simp [isFlatL]
  | cons x r ih => rw [List.cons_append, isFlatL_cons, isFlatL_cons, ih, Bool.and_assoc]
theorem isFlatL_take (xs : List AV) (n : Nat) (h : isFlatL xs = true) : isFlatL (xs.take n) = true := by
  induction xs generalizing n with
  | nil => simp [isFlatL]
  | cons x r ih =>
    cases n with
    | zero => rfl
    | succ n =>
      simp only [isFlatL_cons, Bool.and_eq_true] at h
      rw [List.take_succ_cons, isFlatL_cons, h.1, ih n h.2]; rfl
theorem isFlatL_rep (n : Nat) (z : AV) (h : isFlat z = true) : isFlatL (List.replicate n z) = true := by
  induction n with
  | zero => rfl
  | succ n ih => rw [List.replicate_succ, isFlatL_cons, h, ih]; rfl
theorem take_map_snoc {α β : Type} (f : α → β) {xs : List α} {i : Nat} (h : i < xs.length) : (xs.map f).take i ++ [f xs[i]] = (xs.map f).take (i + 1) := by
  rw [List.take_succ_eq_append_getElem (by simpa using h), List.getElem_map]
theorem min_lt {i n : Nat} (h : i < n) : min i n = i := by omega
theorem rep0 {α : Type} (z : α) : List.replicate 0 z = [] := rfl
theorem rep1 {α : Type} (z : α) : List.replicate 1 z = [z] := rfl
theorem rep2 {α : Type} (z : α) : List.replicate 2 z = [z, z] := rfl
theorem rep3 {α : Type} (z : α) : List.replicate 3 z = [z, z, z] := rfl
theorem rep4 {α : Type} (z : α) : List.replicate 4 z = [z, z, z, z] := rfl
theorem rep5 {α : Type} (z : α) : List.replicate 5 z = [z, z, z, z, z] := rfl
theorem rep6 {α : Type} (z : α) : List.replicate 6 z = [z, z, z, z, z, z] := rfl
theorem rep7 {α : Type} (z : α) : List.replicate 7 z = [z, z, z, z, z, z, z] := rfl
theorem rep8 {α : Type} (z : α) : List.replicate 8 z = [z, z, z, z, z, z, z, z] := rfl
theorem rep9 {α : Type} (z : α) : List.replicate 9 z = [z, z, z, z, z, z, z, z, z] := rfl
theorem rep10 {α : Type} (z : α) : List.replicate 10 z = [z, z, z, z, z, z, z, z, z, z] := rfl
theorem rep11 {α : Type} (z : α) : List.replicate 11 z = [z, z, z, z, z, z, z, z, z, z, z] := rfl
theorem rep12 {α : Type} (z : α) : List.replicate 12 z = [z, z, z, z, z, z, z, z, z, z, z, z] := rfl
attribute [go_sem] isFlatL_map isFlatL_append isFlatL_take isFlatL_rep List.take_take Nat.min_self List.map_take List.append_nil List.length_append List.length_take rep0 rep1 rep2 rep3 rep4 rep5 rep6 rep7 rep8 rep9 rep10 rep11 rep12
theorem ioL_eq : ioL = 1000000000 := rfl
attribute [go_sem] ne_eq not_false_eq_true ioL_eq decide_true decide_false Bool.not_true Bool.not_false bne_self_eq_false
theorem take_set_len {α β : Type} (f : α → β) (xs : List α) (i : Nat) (y : β) : ((xs.map f).set i y).take xs.length = (xs.map f).set i y := List.take_of_length_le (by simp)
attribute [go_sem] take_set_len List.length_set
theorem eq_no {α : Type} [DecidableEq α] {xs ys : List α} {i : Nat} (hi : i < xs.length) (hy : i < ys.length) (h : xs[i] ≠ ys[i]) : decide (xs = ys) = false :=
  decide_eq_false fun e => h (by subst e; rfl)
theorem eq_yes {α : Type} {xs ys : List α} {i : Nat} (hi : i < xs.length) (hy : i < ys.length) (hI : xs.take i = ys.take i) (h : xs[i] = ys[i]) : xs.take (i + 1) = ys.take (i + 1) := by
  rw [List.take_succ_eq_append_getElem hi, List.take_succ_eq_append_getElem hy, hI, h]
end Go.Vc


/-
  What the program's types are, for the layer Vc.
-/
set_option linter.unusedVariables false
set_option linter.unusedSimpArgs false
set_option linter.unnecessarySimpa false
namespace Go.Vc
open Go.Proofs

theorem ti0 : tiOf Try.prog 0 = some ⟨false, 1, 0, .undef, [], 0, .other⟩ := by kernel_rfl
theorem ti1 : tiOf Try.prog 1 = some ⟨false, 1, 8, .val .nilFunc, [], 0, .other⟩ := by kernel_rfl
theorem ti2 : tiOf Try.prog 2 = some ⟨false, 1, 8, .val (.int .i64 0), [], 0, .int .i64⟩ := by kernel_rfl
theorem ti3 : tiOf Try.prog 3 = some ⟨false, 1, 8, .val (.int .i64 0), [], 0, .int .i64⟩ := by kernel_rfl
theorem ti4 : tiOf Try.prog 4 = some ⟨false, 1, 1, .val (.bool false), [], 0, .bool⟩ := by kernel_rfl
theorem ti5 : tiOf Try.prog 5 = some ⟨false, 1, 1, .val (.int .u8 0), [], 0, .int .u8⟩ := by kernel_rfl
theorem ti6 : tiOf Try.prog 6 = some ⟨false, 1, 1, .val (.int .u8 0), [], 0, .int .u8⟩ := by kernel_rfl
theorem ti7 : tiOf Try.prog 7 = some ⟨true, 4, 24, .agg [.val (.int .i64 0), .val (.int .i64 0), .val (.bool false), .val (.int .u8 0)], [(0, 1, false), (1, 1, false), (2, 1, false), (3, 1, false)], 0, .struct⟩ := by kernel_rfl
theorem ti8 : tiOf Try.prog 8 = some ⟨true, 4, 24, .agg [.val (.int .i64 0), .val (.int .i64 0), .val (.bool false), .val (.int .u8 0)], [(0, 1, false), (1, 1, false), (2, 1, false), (3, 1, false)], 0, .struct⟩ := by kernel_rfl
theorem ti9 : tiOf Try.prog 9 = some ⟨false, 1, 16, .val (.string ⟨#[]⟩), [], 0, .string⟩ := by kernel_rfl
theorem ti10 : tiOf Try.prog 10 = some ⟨false, 1, 16, .val (.string ⟨#[]⟩), [], 0, .string⟩ := by kernel_rfl
theorem ti11 : tiOf Try.prog 11 = some ⟨false, 1, 16, .val (.string ⟨#[]⟩), [], 0, .string⟩ := by kernel_rfl
theorem ti12 : tiOf Try.prog 12 = some ⟨false, 1, 8, .val (.int .u64 0), [], 0, .int .u64⟩ := by kernel_rfl
theorem ti13 : tiOf Try.prog 13 = some ⟨true, 2, 24, .agg [.val (.string ⟨#[]⟩), .val (.int .u64 0)], [(0, 1, false), (1, 1, false)], 0, .struct⟩ := by kernel_rfl
theorem ti14 : tiOf Try.prog 14 = some ⟨true, 2, 24, .agg [.val (.string ⟨#[]⟩), .val (.int .u64 0)], [(0, 1, false), (1, 1, false)], 0, .struct⟩ := by kernel_rfl
theorem ti15 : tiOf Try.prog 15 = some ⟨false, 1, 8, .val (.pointer none), [], 0, .other⟩ := by kernel_rfl
theorem ti16 : tiOf Try.prog 16 = some ⟨false, 1, 8, .val (.pointer none), [], 0, .other⟩ := by kernel_rfl
theorem ti17 : tiOf Try.prog 17 = some ⟨false, 1, 8, .val (.pointer none), [], 0, .other⟩ := by kernel_rfl
theorem ti18 : tiOf Try.prog 18 = some ⟨true, 1, 8, .agg [.val (.pointer none)], [(0, 1, false)], 0, .struct⟩ := by kernel_rfl
theorem ti19 : tiOf Try.prog 19 = some ⟨true, 1, 8, .agg [.val (.pointer none)], [(0, 1, false)], 0, .struct⟩ := by kernel_rfl
theorem ti20 : tiOf Try.prog 20 = some ⟨false, 1, 16, .val .nilIface, [], 0, .iface⟩ := by kernel_rfl
theorem ti21 : tiOf Try.prog 21 = some ⟨false, 1, 4, .val (.int .i32 0), [], 0, .int .i32⟩ := by kernel_rfl
theorem ti22 : tiOf Try.prog 22 = some ⟨false, 1, 24, .val (.slice none 0 0), [], 5, .slice⟩ := by kernel_rfl
theorem ti23 : tiOf Try.prog 23 = some ⟨false, 1, 8, .val .nilFunc, [], 0, .other⟩ := by kernel_rfl
theorem ti24 : tiOf Try.prog 24 = some ⟨false, 1, 24, .val (.slice none 0 0), [], 39, .slice⟩ := by kernel_rfl
theorem ti25 : tiOf Try.prog 25 = some ⟨false, 1, 24, .val (.slice none 0 0), [], 2, .slice⟩ := by kernel_rfl
theorem ti26 : tiOf Try.prog 26 = some ⟨true, 2, 48, .agg [.val (.slice none 0 0), .val (.slice none 0 0)], [(0, 1, false), (1, 1, false)], 0, .struct⟩ := by kernel_rfl
theorem ti27 : tiOf Try.prog 27 = some ⟨true, 2, 48, .agg [.val (.slice none 0 0), .val (.slice none 0 0)], [(0, 1, false), (1, 1, false)], 0, .struct⟩ := by kernel_rfl
theorem ti28 : tiOf Try.prog 28 = some ⟨false, 1, 0, .undef, [], 0, .other⟩ := by kernel_rfl
theorem ti29 : tiOf Try.prog 29 = some ⟨false, 1, 8, .val .nilFunc, [], 0, .other⟩ := by kernel_rfl
theorem ti30 : tiOf Try.prog 30 = some ⟨false, 1, 0, .undef, [], 0, .other⟩ := by kernel_rfl
theorem ti31 : tiOf Try.prog 31 = some ⟨false, 1, 8, .val .nilFunc, [], 0, .other⟩ := by kernel_rfl
theorem ti32 : tiOf Try.prog 32 = some ⟨false, 1, 24, .val (.slice none 0 0), [], 25, .slice⟩ := by kernel_rfl
theorem ti33 : tiOf Try.prog 33 = some ⟨false, 1, 0, .undef, [], 0, .other⟩ := by kernel_rfl
theorem ti34 : tiOf Try.prog 34 = some ⟨false, 1, 8, .val .nilFunc, [], 0, .other⟩ := by kernel_rfl
theorem ti35 : tiOf Try.prog 35 = some ⟨false, 1, 8, .val .nilFunc, [], 0, .other⟩ := by kernel_rfl
theorem ti36 : tiOf Try.prog 36 = some ⟨false, 1, 8, .val .nilFunc, [], 0, .other⟩ := by kernel_rfl
theorem ti37 : tiOf Try.prog 37 = some ⟨false, 1, 8, .val .nilFunc, [], 0, .other⟩ := by kernel_rfl
theorem ti38 : tiOf Try.prog 38 = some ⟨true, 3, 24, .agg [.val (.int .i64 0), .val (.int .i64 0), .val (.int .i64 0)], [(0, 1, false), (1, 1, false), (2, 1, false)], 0, .struct⟩ := by kernel_rfl
theorem ti39 : tiOf Try.prog 39 = some ⟨true, 3, 24, .agg [.val (.int .i64 0), .val (.int .i64 0), .val (.int .i64 0)], [(0, 1, false), (1, 1, false), (2, 1, false)], 0, .struct⟩ := by kernel_rfl
theorem ti40 : tiOf Try.prog 40 = some ⟨false, 1, 8, .val .nilFunc, [], 0, .other⟩ := by kernel_rfl
theorem ti41 : tiOf Try.prog 41 = some ⟨false, 1, 8, .val .nilFunc, [], 0, .other⟩ := by kernel_rfl
theorem ti42 : tiOf Try.prog 42 = some ⟨false, 1, 8, .val (.pointer none), [], 0, .other⟩ := by kernel_rfl
theorem ti43 : tiOf Try.prog 43 = some ⟨false, 1, 8, .val .nilFunc, [], 0, .other⟩ := by kernel_rfl
theorem ti44 : tiOf Try.prog 44 = some ⟨false, 1, 8, .val .nilFunc, [], 0, .other⟩ := by kernel_rfl
theorem ti45 : tiOf Try.prog 45 = some ⟨false, 1, 8, .val .nilFunc, [], 0, .other⟩ := by kernel_rfl
theorem ti46 : tiOf Try.prog 46 = some ⟨false, 1, 8, .val .nilFunc, [], 0, .other⟩ := by kernel_rfl
theorem ti47 : tiOf Try.prog 47 = some ⟨false, 1, 8, .val .nilFunc, [], 0, .other⟩ := by kernel_rfl
theorem ti48 : tiOf Try.prog 48 = some ⟨false, 1, 8, .val .nilFunc, [], 0, .other⟩ := by kernel_rfl
theorem ti49 : tiOf Try.prog 49 = some ⟨false, 1, 8, .val .nilFunc, [], 0, .other⟩ := by kernel_rfl
theorem ti50 : tiOf Try.prog 50 = some ⟨false, 1, 8, .val .nilFunc, [], 0, .other⟩ := by kernel_rfl
theorem ti51 : tiOf Try.prog 51 = some ⟨false, 1, 8, .val .nilFunc, [], 0, .other⟩ := by kernel_rfl
theorem ti52 : tiOf Try.prog 52 = some ⟨false, 1, 8, .val .nilFunc, [], 0, .other⟩ := by kernel_rfl
theorem ti53 : tiOf Try.prog 53 = some ⟨false, 1, 8, .val .nilFunc, [], 0, .other⟩ := by kernel_rfl
theorem ti54 : tiOf Try.prog 54 = some ⟨false, 1, 8, .val .nilFunc, [], 0, .other⟩ := by kernel_rfl
theorem ti55 : tiOf Try.prog 55 = some ⟨false, 1, 8, .val .nilFunc, [], 0, .other⟩ := by kernel_rfl
theorem ti56 : tiOf Try.prog 56 = some ⟨true, 3, 40, .agg [.val (.slice none 0 0), .val (.int .i64 0), .val (.int .i64 0)], [(0, 1, false), (1, 1, false), (2, 1, false)], 0, .struct⟩ := by kernel_rfl
theorem ti57 : tiOf Try.prog 57 = some ⟨true, 3, 40, .agg [.val (.slice none 0 0), .val (.int .i64 0), .val (.int .i64 0)], [(0, 1, false), (1, 1, false), (2, 1, false)], 0, .struct⟩ := by kernel_rfl
theorem ti58 : tiOf Try.prog 58 = some ⟨false, 1, 24, .val (.slice none 0 0), [], 62, .slice⟩ := by kernel_rfl
theorem ti59 : tiOf Try.prog 59 = some ⟨false, 1, 8, .val .nilFunc, [], 0, .other⟩ := by kernel_rfl
theorem ti60 : tiOf Try.prog 60 = some ⟨false, 1, 8, .val .nilFunc, [], 0, .other⟩ := by kernel_rfl
theorem ti61 : tiOf Try.prog 61 = some ⟨true, 4, 32, .agg [.val (.int .i64 0), .val (.int .i64 0), .val (.int .i64 0), .val (.int .i64 0)], [(0, 1, false), (1, 1, false), (2, 1, false), (3, 1, false)], 0, .struct⟩ := by kernel_rfl
theorem ti62 : tiOf Try.prog 62 = some ⟨true, 4, 32, .agg [.val (.int .i64 0), .val (.int .i64 0), .val (.int .i64 0), .val (.int .i64 0)], [(0, 1, false), (1, 1, false), (2, 1, false), (3, 1, false)], 0, .struct⟩ := by kernel_rfl
theorem ti63 : tiOf Try.prog 63 = some ⟨false, 1, 8, .val .nilFunc, [], 0, .other⟩ := by kernel_rfl
theorem ti64 : tiOf Try.prog 64 = some ⟨false, 1, 8, .val .nilFunc, [], 0, .other⟩ := by kernel_rfl
theorem ti65 : tiOf Try.prog 65 = some ⟨false, 1, 8, .val .nilFunc, [], 0, .other⟩ := by kernel_rfl
theorem ti66 : tiOf Try.prog 66 = some ⟨false, 1, 8, .val .nilFunc, [], 0, .other⟩ := by kernel_rfl
theorem ti67 : tiOf Try.prog 67 = some ⟨false, 1, 8, .val .nilFunc, [], 0, .other⟩ := by kernel_rfl
theorem ti68 : tiOf Try.prog 68 = some ⟨false, 1, 8, .val .nilFunc, [], 0, .other⟩ := by kernel_rfl
theorem ti69 : tiOf Try.prog 69 = some ⟨false, 1, 8, .val .nilFunc, [], 0, .other⟩ := by kernel_rfl
theorem ti70 : tiOf Try.prog 70 = some ⟨false, 1, 8, .val .nilFunc, [], 0, .other⟩ := by kernel_rfl
theorem ti71 : tiOf Try.prog 71 = some ⟨false, 1, 8, .val .nilFunc, [], 0, .other⟩ := by kernel_rfl
theorem ti72 : tiOf Try.prog 72 = some ⟨false, 1, 8, .val .nilFunc, [], 0, .other⟩ := by kernel_rfl
theorem ti73 : tiOf Try.prog 73 = some ⟨false, 1, 8, .val .nilFunc, [], 0, .other⟩ := by kernel_rfl
theorem ti74 : tiOf Try.prog 74 = some ⟨false, 1, 24, .val (.slice none 0 0), [], 4, .slice⟩ := by kernel_rfl
theorem ti75 : tiOf Try.prog 75 = some ⟨true, 2, 48, .agg [.val (.slice none 0 0), .val (.slice none 0 0)], [(0, 1, false), (1, 1, false)], 0, .struct⟩ := by kernel_rfl
theorem ti76 : tiOf Try.prog 76 = some ⟨true, 2, 48, .agg [.val (.slice none 0 0), .val (.slice none 0 0)], [(0, 1, false), (1, 1, false)], 0, .struct⟩ := by kernel_rfl
theorem ti77 : tiOf Try.prog 77 = some ⟨true, 3, 72, .agg [.val (.slice none 0 0), .val (.slice none 0 0), .val (.slice none 0 0)], [(0, 2, true), (2, 1, false)], 0, .struct⟩ := by kernel_rfl
theorem ti78 : tiOf Try.prog 78 = some ⟨true, 3, 72, .agg [.val (.slice none 0 0), .val (.slice none 0 0), .val (.slice none 0 0)], [(0, 2, true), (2, 1, false)], 0, .struct⟩ := by kernel_rfl
theorem ti79 : tiOf Try.prog 79 = some ⟨false, 1, 8, .val .nilFunc, [], 0, .other⟩ := by kernel_rfl
theorem ti80 : tiOf Try.prog 80 = some ⟨false, 1, 8, .val .nilFunc, [], 0, .other⟩ := by kernel_rfl
theorem ti81 : tiOf Try.prog 81 = some ⟨false, 1, 8, .val .nilFunc, [], 0, .other⟩ := by kernel_rfl
theorem ti82 : tiOf Try.prog 82 = some ⟨false, 1, 8, .val (.int .u64 0), [], 0, .int .u64⟩ := by kernel_rfl
theorem ti83 : tiOf Try.prog 83 = some ⟨false, 1, 8, .val .nilFunc, [], 0, .other⟩ := by kernel_rfl
theorem ti84 : tiOf Try.prog 84 = some ⟨false, 1, 8, .val .nilFunc, [], 0, .other⟩ := by kernel_rfl
theorem ti85 : tiOf Try.prog 85 = some ⟨false, 1, 8, .val .nilFunc, [], 0, .other⟩ := by kernel_rfl
theorem ti86 : tiOf Try.prog 86 = some ⟨false, 1, 8, .val .nilFunc, [], 0, .other⟩ := by kernel_rfl
theorem ti87 : tiOf Try.prog 87 = some ⟨false, 1, 8, .val .nilFunc, [], 0, .other⟩ := by kernel_rfl
theorem ti88 : tiOf Try.prog 88 = some ⟨false, 1, 8, .val .nilFunc, [], 0, .other⟩ := by kernel_rfl
theorem ti89 : tiOf Try.prog 89 = some ⟨false, 1, 8, .val (.int .i64 0), [], 0, .int .i64⟩ := by kernel_rfl
theorem ti90 : tiOf Try.prog 90 = some ⟨false, 1, 0, .undef, [], 0, .other⟩ := by kernel_rfl
theorem ti91 : tiOf Try.prog 91 = some ⟨false, 1, 8, .val .nilFunc, [], 0, .other⟩ := by kernel_rfl
theorem ti92 : tiOf Try.prog 92 = some ⟨false, 1, 8, .val .nilFunc, [], 0, .other⟩ := by kernel_rfl
theorem ti93 : tiOf Try.prog 93 = some ⟨false, 1, 8, .val .nilFunc, [], 0, .other⟩ := by kernel_rfl
theorem ti94 : tiOf Try.prog 94 = some ⟨false, 1, 8, .val .nilFunc, [], 0, .other⟩ := by kernel_rfl
theorem ti95 : tiOf Try.prog 95 = some ⟨false, 1, 0, .undef, [], 0, .other⟩ := by kernel_rfl
theorem ti96 : tiOf Try.prog 96 = some ⟨false, 1, 8, .val .nilFunc, [], 0, .other⟩ := by kernel_rfl
theorem ti97 : tiOf Try.prog 97 = some ⟨false, 1, 8, .val .nilFunc, [], 0, .other⟩ := by kernel_rfl
theorem ti98 : tiOf Try.prog 98 = some ⟨false, 1, 4, .val (.int .u32 0), [], 0, .int .u32⟩ := by kernel_rfl
theorem ti99 : tiOf Try.prog 99 = some ⟨false, 1, 8, .val .nilFunc, [], 0, .other⟩ := by kernel_rfl
theorem ti100 : tiOf Try.prog 100 = some ⟨false, 1, 8, .val (.int .u64 0), [], 0, .int .u64⟩ := by kernel_rfl
theorem ti101 : tiOf Try.prog 101 = some ⟨false, 1, 8, .val .nilFunc, [], 0, .other⟩ := by kernel_rfl
theorem ti102 : tiOf Try.prog 102 = some ⟨false, 1, 8, .val (.int .u64 0), [], 0, .int .u64⟩ := by kernel_rfl
theorem ti103 : tiOf Try.prog 103 = some ⟨false, 1, 8, .val .nilFunc, [], 0, .other⟩ := by kernel_rfl
theorem ti104 : tiOf Try.prog 104 = some ⟨false, 1, 8, .val .nilFunc, [], 0, .other⟩ := by kernel_rfl
theorem ti105 : tiOf Try.prog 105 = some ⟨false, 1, 8, .val .nilFunc, [], 0, .other⟩ := by kernel_rfl
theorem ti106 : tiOf Try.prog 106 = some ⟨false, 1, 8, .val (.pointer none), [], 0, .other⟩ := by kernel_rfl
theorem ti107 : tiOf Try.prog 107 = some ⟨false, 1, 8, .val .nilFunc, [], 0, .other⟩ := by kernel_rfl
theorem ti108 : tiOf Try.prog 108 = some ⟨false, 1, 8, .val (.pointer none), [], 0, .other⟩ := by kernel_rfl
theorem ti109 : tiOf Try.prog 109 = some ⟨false, 1, 0, .undef, [], 0, .other⟩ := by kernel_rfl
theorem ti110 : tiOf Try.prog 110 = some ⟨false, 1, 8, .val .nilFunc, [], 0, .other⟩ := by kernel_rfl
theorem ti111 : tiOf Try.prog 111 = some ⟨false, 1, 8, .val .nilFunc, [], 0, .other⟩ := by kernel_rfl
theorem ti112 : tiOf Try.prog 112 = some ⟨true, 4, 40, .agg [.val (.pointer none), .val (.pointer none), .val (.pointer none), .val (.string ⟨#[]⟩)], [(0, 1, false), (1, 1, false), (2, 1, false), (3, 1, false)], 0, .struct⟩ := by kernel_rfl
theorem ti113 : tiOf Try.prog 113 = some ⟨true, 4, 40, .agg [.val (.pointer none), .val (.pointer none), .val (.pointer none), .val (.string ⟨#[]⟩)], [(0, 1, false), (1, 1, false), (2, 1, false), (3, 1, false)], 0, .struct⟩ := by kernel_rfl
theorem ti114 : tiOf Try.prog 114 = some ⟨true, 0, 0, .agg [], [], 0, .other⟩ := by kernel_rfl
theorem ti115 : tiOf Try.prog 115 = some ⟨true, 0, 0, .agg [], [(0, 0, true)], 0, .struct⟩ := by kernel_rfl
theorem ti116 : tiOf Try.prog 116 = some ⟨true, 0, 0, .agg [], [(0, 0, true)], 0, .struct⟩ := by kernel_rfl
theorem ti117 : tiOf Try.prog 117 = some ⟨false, 1, 8, .val .nilFunc, [], 0, .other⟩ := by kernel_rfl
theorem ti118 : tiOf Try.prog 118 = some ⟨false, 1, 1, .val (.int .u8 0), [], 0, .int .u8⟩ := by kernel_rfl
theorem ti119 : tiOf Try.prog 119 = some ⟨false, 1, 1, .val (.int .u8 0), [], 0, .int .u8⟩ := by kernel_rfl
theorem ti120 : tiOf Try.prog 120 = some ⟨false, 1, 8, .val .nilFunc, [], 0, .other⟩ := by kernel_rfl
theorem ti121 : tiOf Try.prog 121 = some ⟨false, 1, 8, .val (.pointer none), [], 0, .other⟩ := by kernel_rfl
theorem ti122 : tiOf Try.prog 122 = some ⟨false, 1, 4, .val (.int .i32 0), [], 0, .int .i32⟩ := by kernel_rfl
theorem ti123 : tiOf Try.prog 123 = some ⟨false, 1, 4, .val (.int .i32 0), [], 0, .int .i32⟩ := by kernel_rfl
theorem ti124 : tiOf Try.prog 124 = some ⟨true, 11, 48, .agg [.val (.int .u64 0), .val (.int .u64 0), .val (.int .u32 0), .val (.int .u8 0), .val (.int .u8 0), .val (.int .u8 0), .val (.int .u8 0), .val .nilFunc, .val (.pointer none), .val (.int .i32 0), .val (.int .i32 0)], [(0, 1, false), (1, 1, false), (2, 1, false), (3, 1, false), (4, 1, false), (5, 1, false), (6, 1, false), (7, 1, false), (8, 1, false), (9, 1, false), (10, 1, false)], 0, .struct⟩ := by kernel_rfl
theorem ti125 : tiOf Try.prog 125 = some ⟨true, 11, 48, .agg [.val (.int .u64 0), .val (.int .u64 0), .val (.int .u32 0), .val (.int .u8 0), .val (.int .u8 0), .val (.int .u8 0), .val (.int .u8 0), .val .nilFunc, .val (.pointer none), .val (.int .i32 0), .val (.int .i32 0)], [(0, 1, false), (1, 1, false), (2, 1, false), (3, 1, false), (4, 1, false), (5, 1, false), (6, 1, false), (7, 1, false), (8, 1, false), (9, 1, false), (10, 1, false)], 0, .struct⟩ := by kernel_rfl
theorem ti126 : tiOf Try.prog 126 = some ⟨false, 1, 8, .val (.pointer none), [], 0, .other⟩ := by kernel_rfl
attribute [go_sem] ti0 ti1 ti2 ti3 ti4 ti5 ti6 ti7 ti8 ti9 ti10 ti11 ti12 ti13 ti14 ti15 ti16 ti17 ti18 ti19
attribute [go_sem] ti20 ti21 ti22 ti23 ti24 ti25 ti26 ti27 ti28 ti29 ti30 ti31 ti32 ti33 ti34 ti35 ti36 ti37 ti38 ti39
attribute [go_sem] ti40 ti41 ti42 ti43 ti44 ti45 ti46 ti47 ti48 ti49 ti50 ti51 ti52 ti53 ti54 ti55 ti56 ti57 ti58 ti59
attribute [go_sem] ti60 ti61 ti62 ti63 ti64 ti65 ti66 ti67 ti68 ti69 ti70 ti71 ti72 ti73 ti74 ti75 ti76 ti77 ti78 ti79
attribute [go_sem] ti80 ti81 ti82 ti83 ti84 ti85 ti86 ti87 ti88 ti89 ti90 ti91 ti92 ti93 ti94 ti95 ti96 ti97 ti98 ti99
attribute [go_sem] ti100 ti101 ti102 ti103 ti104 ti105 ti106 ti107 ti108 ti109 ti110 ti111 ti112 ti113 ti114 ti115 ti116 ti117 ti118 ti119
attribute [go_sem] ti120 ti121 ti122 ti123 ti124 ti125 ti126
end Go.Vc


/-
  Contracts of small functions on numbers and lists, and of the laws' helpers for lists of numbers.
-/
set_option linter.unusedVariables false
set_option linter.unusedSimpArgs false
set_option linter.unnecessarySimpa false
namespace Go.Vc
open Go.Proofs
set_option maxRecDepth 100000
def isIn (a b c : Int) : Bool := decide (a ≥ b) && decide (a ≤ c)
theorem range_all_succ (p : Nat → Bool) (i : Nat) : (List.range (i + 1)).all p = ((List.range i).all p && p i) := by
  rw [List.range_succ, List.all_append]; simp
theorem range_all_no {p : Nat → Bool} {i n : Nat} (h : i < n) (hp : p i = false) : (List.range n).all p = false := by
  rw [List.all_eq_false]; exact ⟨i, List.mem_range.2 h, by simp [hp]⟩
/-- the numbers below i with a property, in order -/
def flt (p : Nat → Bool) (i : Nat) : List Int := List.map (fun j : Nat => (j : Int)) ((List.range i).filter p)
theorem flt_zero (p : Nat → Bool) : flt p 0 = [] := rfl
theorem flt_succ (p : Nat → Bool) (i : Nat) : flt p (i + 1) = if p i then flt p i ++ [(i : Int)] else flt p i := by
  simp only [flt, List.range_succ, List.filter_append, List.map_append]
  rw [List.filter_cons]
  split <;> simp
theorem flt_len (p : Nat → Bool) (i : Nat) : (flt p i).length ≤ i := by
  rw [flt, List.length_map]
  exact Nat.le_trans (List.length_filter_le _ _) (by simp)
theorem flt_mem {p : Nat → Bool} {i : Nat} {x : Int} (h : x ∈ flt p i) : ∃ j : Nat, j < i ∧ x = j ∧ p j = true := by
  simp only [flt, List.mem_map, List.mem_filter, List.mem_range] at h
  obtain ⟨j, ⟨h1, h2⟩, h3⟩ := h
  exact ⟨j, h1, h3.symm, h2⟩
attribute [irreducible] flt
theorem pred_toNat {i : Nat} (h : 0 < i) : ((i : Int) - 1).toNat = i - 1 := by omega
theorem c_l01In (a b c : Int) : Fn Try.prog 40 [eI a, eI b, eI c] true (· = eB (isIn a b c)) := by
  refine Fn.of_vcN 15 [.tmp 6] Try.func40 rfl rfl rfl rfl rfl (of_decide_eq_true rfl) ?_
  simp -dsimp -implicitDefEqProofs only [go_sem, ↓reduceIte, Nat.reduceEqDiff, Nat.reduceLT, Nat.reduceAdd, Nat.reduceMul, Nat.reduceLeDiff, Nat.le_refl, Int.natCast_zero, Int.toNat_natCast, Int.reduceToNat]
  repeat' (refine Br.intro (fun _ => ?_) (fun _ => ?_) <;> try simp -dsimp -implicitDefEqProofs only [go_sem, ↓reduceIte, Nat.reduceEqDiff, Nat.reduceLT, Nat.reduceAdd, Nat.reduceMul, Nat.reduceLeDiff, Nat.le_refl, Int.natCast_zero, Int.toNat_natCast, Int.reduceToNat, *])
  all_goals first
    | (simp_all [isIn]; done)
    | (simp_all [isIn]; omega)
theorem c_within (a b c : Int) : Fn Try.prog 21 [eI a, eI b, eI c] true (· = eB (isIn a b c)) := by
  refine Fn.of_vcN 15 [.tmp 6] Try.func21 rfl rfl rfl rfl rfl (of_decide_eq_true rfl) ?_
  simp -dsimp -implicitDefEqProofs only [go_sem, ↓reduceIte, Nat.reduceEqDiff, Nat.reduceLT, Nat.reduceAdd, Nat.reduceMul, Nat.reduceLeDiff, Nat.le_refl, Int.natCast_zero, Int.toNat_natCast, Int.reduceToNat]
  repeat' (refine Br.intro (fun _ => ?_) (fun _ => ?_) <;> try simp -dsimp -implicitDefEqProofs only [go_sem, ↓reduceIte, Nat.reduceEqDiff, Nat.reduceLT, Nat.reduceAdd, Nat.reduceMul, Nat.reduceLeDiff, Nat.le_refl, Int.natCast_zero, Int.toNat_natCast, Int.reduceToNat, *])
  all_goals first
    | (simp_all [isIn]; done)
    | (simp_all [isIn]; omega)
theorem c_allWithin (xs : List Int) (a b : Int) (h : xs.length ≤ 9223372036854775807) : Fn Try.prog 39 [eIs xs, eI a, eI b] true (· = eB (xs.all fun x => isIn x a b)) := by
  refine Fn.of_vcN 21 [.tmp 6] Try.func39 rfl rfl rfl rfl rfl (of_decide_eq_true rfl) ?_
  simp -dsimp -implicitDefEqProofs only [go_sem, ↓reduceIte, Nat.reduceEqDiff, Nat.reduceLT, Nat.reduceAdd, Nat.reduceMul, Nat.reduceLeDiff, Nat.le_refl, Int.natCast_zero, Int.toNat_natCast, Int.reduceToNat]
  refine Later.up [1, 2, 9, 10] [18] [] xs.length (fun i => (xs.take i).all fun x => isIn x a b) (fun i => [(11, eI i)]) (fun _ => []) (by simp) ?_ rfl (fun i hi hI => ?_) (fun hI => ?_)
  · simp -dsimp -implicitDefEqProofs only [go_sem, ↓reduceIte, Nat.reduceEqDiff, Nat.reduceLT, Nat.reduceAdd, Nat.reduceMul, Nat.reduceLeDiff, Nat.le_refl, Int.natCast_zero, Int.toNat_natCast, Int.reduceToNat]
  · simp -dsimp -implicitDefEqProofs only [pick_nil, pick_cons, look_nil, look_cons, dropB_nil, dropB_cons, inD_nil, inD_cons, inE_nil, inE_cons, or_t_l, or_f_l, Nat.reduceBEq, Nat.reduceDiv, Nat.reduceAdd, beq_self_eq_true, Bool.false_eq_true, Bool.or_false, ↓reduceIte, Nat.reduceEqDiff, List.cons_append, List.nil_append]
    have no : isIn xs[i] a b = false → (xs.all fun x => isIn x a b) = false := fun h => all_no (p := fun x => isIn x a b) hi h
    have yes : isIn xs[i] a b = true → ((xs.take (i + 1)).all fun x => isIn x a b) = true := fun h => by rw [all_take _ _ _ hi, hI, h]; rfl
    simp -dsimp -implicitDefEqProofs only [go_sem, ↓reduceIte, Nat.reduceEqDiff, Nat.reduceLT, Nat.reduceAdd, Nat.reduceMul, Nat.reduceLeDiff, Nat.le_refl, Int.natCast_zero, Int.toNat_natCast, Int.reduceToNat, lt_len hi, get_some hi]
    repeat' first
      | (refine Br.intro (fun _ => ?_) (fun _ => ?_) <;> try simp -dsimp -implicitDefEqProofs only [go_sem, ↓reduceIte, Nat.reduceEqDiff, Nat.reduceLT, Nat.reduceAdd, Nat.reduceMul, Nat.reduceLeDiff, Nat.le_refl, Int.natCast_zero, Int.toNat_natCast, Int.reduceToNat, *])
      | (with_reducible refine And.intro ?_ ?_)
      | (refine sCallT_one (c_within _ _ _) ?_; try simp -dsimp -implicitDefEqProofs only [go_sem, ↓reduceIte, Nat.reduceEqDiff, Nat.reduceLT, Nat.reduceAdd, Nat.reduceMul, Nat.reduceLeDiff, Nat.le_refl, Int.natCast_zero, Int.toNat_natCast, Int.reduceToNat, *])
    all_goals first | omega | (refine ⟨?_, ?_⟩ <;> omega) | (simp; done) | (rw [no]; clear no yes; simp_all []; done) | (rw [no]; clear no yes; simp_all []; omega) | (refine yes ?_; clear no yes; simp_all []; done) | (refine yes ?_; clear no yes; simp_all []; omega) | (simp_all [I64]; done) | (simp_all [I64]; omega) | trace_state
  · simp -dsimp -implicitDefEqProofs only [pick_nil, pick_cons, look_nil, look_cons, dropB_nil, dropB_cons, inD_nil, inD_cons, inE_nil, inE_cons, or_t_l, or_f_l, Nat.reduceBEq, Nat.reduceDiv, Nat.reduceAdd, beq_self_eq_true, Bool.false_eq_true, Bool.or_false, ↓reduceIte, Nat.reduceEqDiff, List.cons_append, List.nil_append]
    simp -dsimp -implicitDefEqProofs only [go_sem, ↓reduceIte, Nat.reduceEqDiff, Nat.reduceLT, Nat.reduceAdd, Nat.reduceMul, Nat.reduceLeDiff, Nat.le_refl, Int.natCast_zero, Int.toNat_natCast, Int.reduceToNat, nlt_len]
    rw [List.take_length] at hI
    rw [hI]
theorem mixed : Try.prog.follows .mixedOrders = true := by kernel_rfl
theorem c_l01Own (xs : List Int) (h : xs.length ≤ 1048576) : Fn Try.prog 56 [eIs xs] true (· = eIs xs) := by
  refine Fn.of_vcN 6 [.tmp 2] Try.func56 rfl rfl rfl rfl rfl (of_decide_eq_true rfl) ?_
  simp -dsimp -implicitDefEqProofs only [go_sem, ↓reduceIte, Nat.reduceEqDiff, Nat.reduceLT, Nat.reduceAdd, Nat.reduceMul, Nat.reduceLeDiff, Nat.le_refl, Int.natCast_zero, Int.toNat_natCast, Int.reduceToNat]
  repeat' (with_reducible refine And.intro ?_ ?_)
  all_goals first | omega | (refine ⟨?_, ?_⟩ <;> omega) | (simp; done) | (simp; omega) | trace_state
theorem c_CloneI (xs : List Int) (h : xs.length ≤ 1048576) : Fn Try.prog 43 [eIs xs] true (· = eIs xs) := by
  refine Fn.of_vcN 8 [.tmp 2] Try.func43 rfl rfl rfl rfl rfl (of_decide_eq_true rfl) ?_
  simp -dsimp -implicitDefEqProofs only [go_sem, ↓reduceIte, Nat.reduceEqDiff, Nat.reduceLT, Nat.reduceAdd, Nat.reduceMul, Nat.reduceLeDiff, Nat.le_refl, Int.natCast_zero, Int.toNat_natCast, Int.reduceToNat]
  intro c hc
  repeat' first
    | (refine Br.intro (fun _ => ?_) (fun _ => ?_) <;> try simp -dsimp -implicitDefEqProofs only [go_sem, ↓reduceIte, Nat.reduceEqDiff, Nat.reduceLT, Nat.reduceAdd, Nat.reduceMul, Nat.reduceLeDiff, Nat.le_refl, Int.natCast_zero, Int.toNat_natCast, Int.reduceToNat, *])
    | (with_reducible refine And.intro ?_ ?_)
  all_goals first | (simp_all; done) | omega | (refine ⟨?_, ?_⟩ <;> omega) | (simp; done) | (simp; omega) | trace_state
end Go.Vc


/-
  Contracts of the register functions: what they return for every register.
-/
set_option linter.unusedVariables false
set_option linter.unusedSimpArgs false
set_option linter.unnecessarySimpa false
namespace Go.Vc
open Go.Proofs
set_option maxRecDepth 100000
structure TagM where
  row : Int
  state : Int
  person : Int
  deriving DecidableEq
structure RegM where
  tags : List TagM
  roles : List Int
  deriving DecidableEq
abbrev eTag (t : TagM) : AV := .agg [eI t.row, eI t.state, eI t.person]
abbrev eTags (ts : List TagM) : AV := .arr ⟨3, true⟩ (ts.map eTag)
abbrev eReg (r : RegM) : AV := .agg [eTags r.tags, eIs r.roles]
def isTag (t : TagM) (p : Int) : Bool := isIn t.row 0 9 && (if t.state = 0 ∨ t.state = 3 then t.person == -1 else if t.state = 1 ∨ t.state = 2 then isIn t.person 0 (p - 1) else false)
theorem c_l30Tag (t : TagM) (p : Int) (hp : 0 ≤ p ∧ p < 100000) : Fn Try.prog 41 [eTag t, eI p] true (· = eB (isTag t p)) := by
  refine Fn.of_vcN 25 [.tmp 4] Try.func41 rfl rfl rfl rfl rfl (of_decide_eq_true rfl) ?_
  simp -dsimp -implicitDefEqProofs only [go_sem, ↓reduceIte, Nat.reduceEqDiff, Nat.reduceLT, Nat.reduceAdd, Nat.reduceMul, Nat.reduceLeDiff, Nat.le_refl, Int.natCast_zero, Int.toNat_natCast, Int.reduceToNat]
  repeat' first
    | (refine Br.intro (fun _ => ?_) (fun _ => ?_) <;> try simp -dsimp -implicitDefEqProofs only [go_sem, ↓reduceIte, Nat.reduceEqDiff, Nat.reduceLT, Nat.reduceAdd, Nat.reduceMul, Nat.reduceLeDiff, Nat.le_refl, Int.natCast_zero, Int.toNat_natCast, Int.reduceToNat, *])
    | (with_reducible refine And.intro ?_ ?_)
    | (refine sCallT_one (c_l01In _ _ _) ?_; try simp -dsimp -implicitDefEqProofs only [go_sem, ↓reduceIte, Nat.reduceEqDiff, Nat.reduceLT, Nat.reduceAdd, Nat.reduceMul, Nat.reduceLeDiff, Nat.le_refl, Int.natCast_zero, Int.toNat_natCast, Int.reduceToNat, *])
  all_goals first
    | omega
    | (refine ⟨?_, ?_⟩ <;> omega)
    | simp_all [isTag]
def isReg (r : RegM) : Bool := decide (r.tags.length ≤ 20) && isIn r.roles.length 1 10 && r.roles.all (fun x => isIn x 0 2) && r.tags.all fun t => isTag t r.roles.length
theorem c_sIsRegister (r : RegM) : Fn Try.prog 22 [eReg r] true (· = eB (isReg r)) := by
  refine Fn.of_vcN 47 [.tmp 2] Try.func22 rfl rfl rfl rfl rfl (of_decide_eq_true rfl) ?_
  simp -dsimp -implicitDefEqProofs only [go_sem, ↓reduceIte, Nat.reduceEqDiff, Nat.reduceLT, Nat.reduceAdd, Nat.reduceMul, Nat.reduceLeDiff, Nat.le_refl, Int.natCast_zero, Int.toNat_natCast, Int.reduceToNat]
  repeat' first
    | (refine Br.intro (fun _ => ?_) (fun _ => ?_) <;> try simp -dsimp -implicitDefEqProofs only [go_sem, ↓reduceIte, Nat.reduceEqDiff, Nat.reduceLT, Nat.reduceAdd, Nat.reduceMul, Nat.reduceLeDiff, Nat.le_refl, Int.natCast_zero, Int.toNat_natCast, Int.reduceToNat, *])
    | (with_reducible refine And.intro ?_ ?_)
    | (refine sCallT_one (c_l01In _ _ _) ?_; try simp -dsimp -implicitDefEqProofs only [go_sem, ↓reduceIte, Nat.reduceEqDiff, Nat.reduceLT, Nat.reduceAdd, Nat.reduceMul, Nat.reduceLeDiff, Nat.le_refl, Int.natCast_zero, Int.toNat_natCast, Int.reduceToNat, *])
  · simp_all [isReg]; omega
  · simp_all [isReg]
  refine Later.up [1, 3] [21, 30] [] r.roles.length (fun i => (r.roles.take i).all fun x => isIn x 0 2) (fun i => [(4, eI i)]) (fun _ => []) (by simp) ?_ rfl (fun i hi hI => ?_) (fun hI => ?_)
  · simp -dsimp -implicitDefEqProofs only [go_sem, ↓reduceIte, Nat.reduceEqDiff, Nat.reduceLT, Nat.reduceAdd, Nat.reduceMul, Nat.reduceLeDiff, Nat.le_refl, Int.natCast_zero, Int.toNat_natCast, Int.reduceToNat]
  · simp -dsimp -implicitDefEqProofs only [pick_nil, pick_cons, look_nil, look_cons, dropB_nil, dropB_cons, inD_nil, inD_cons, inE_nil, inE_cons, or_t_l, or_f_l, Nat.reduceBEq, Nat.reduceDiv, Nat.reduceAdd, beq_self_eq_true, Bool.false_eq_true, Bool.or_false, ↓reduceIte, Nat.reduceEqDiff, List.cons_append, List.nil_append]
    have no : isIn r.roles[i] 0 2 = false → isReg r = false := fun h => by simp [isReg, all_no (p := fun x => isIn x 0 2) hi h]
    have yes : isIn r.roles[i] 0 2 = true → ((r.roles.take (i + 1)).all fun x => isIn x 0 2) = true := fun h => by rw [all_take _ _ _ hi, hI, h]; rfl
    simp -dsimp -implicitDefEqProofs only [go_sem, ↓reduceIte, Nat.reduceEqDiff, Nat.reduceLT, Nat.reduceAdd, Nat.reduceMul, Nat.reduceLeDiff, Nat.le_refl, Int.natCast_zero, Int.toNat_natCast, Int.reduceToNat, lt_len hi, get_some hi]
    repeat' first
      | (refine Br.intro (fun _ => ?_) (fun _ => ?_) <;> try simp -dsimp -implicitDefEqProofs only [go_sem, ↓reduceIte, Nat.reduceEqDiff, Nat.reduceLT, Nat.reduceAdd, Nat.reduceMul, Nat.reduceLeDiff, Nat.le_refl, Int.natCast_zero, Int.toNat_natCast, Int.reduceToNat, *])
      | (with_reducible refine And.intro ?_ ?_)
      | (refine sCallT_one (c_l01In _ _ _) ?_; try simp -dsimp -implicitDefEqProofs only [go_sem, ↓reduceIte, Nat.reduceEqDiff, Nat.reduceLT, Nat.reduceAdd, Nat.reduceMul, Nat.reduceLeDiff, Nat.le_refl, Int.natCast_zero, Int.toNat_natCast, Int.reduceToNat, *])
    all_goals first | omega | (refine ⟨?_, ?_⟩ <;> omega) | (simp; done) | (rw [no]; clear no yes; simp_all [isIn]; done) | (rw [no]; clear no yes; simp_all [isIn]; omega) | (refine yes ?_; clear no yes; simp_all [isIn]; done) | (refine yes ?_; clear no yes; simp_all [isIn]; omega) | (simp_all [I64, isIn]; done) | (simp_all [I64, isIn]; omega) | trace_state
  · simp -dsimp -implicitDefEqProofs only [pick_nil, pick_cons, look_nil, look_cons, dropB_nil, dropB_cons, inD_nil, inD_cons, inE_nil, inE_cons, or_t_l, or_f_l, Nat.reduceBEq, Nat.reduceDiv, Nat.reduceAdd, beq_self_eq_true, Bool.false_eq_true, Bool.or_false, ↓reduceIte, Nat.reduceEqDiff, List.cons_append, List.nil_append]
    simp -dsimp -implicitDefEqProofs only [go_sem, ↓reduceIte, Nat.reduceEqDiff, Nat.reduceLT, Nat.reduceAdd, Nat.reduceMul, Nat.reduceLeDiff, Nat.le_refl, Int.natCast_zero, Int.toNat_natCast, Int.reduceToNat, nlt_len]
    rw [List.take_length] at hI
    refine Later.up [1, 3] [35, 45] [] r.tags.length (fun i => (r.tags.take i).all fun t => isTag t r.roles.length) (fun i => [(5, eI i)]) (fun _ => []) (by simp) ?_ rfl (fun i hi hI => ?_) (fun hI => ?_)
    · simp -dsimp -implicitDefEqProofs only [go_sem, ↓reduceIte, Nat.reduceEqDiff, Nat.reduceLT, Nat.reduceAdd, Nat.reduceMul, Nat.reduceLeDiff, Nat.le_refl, Int.natCast_zero, Int.toNat_natCast, Int.reduceToNat]
    · simp -dsimp -implicitDefEqProofs only [pick_nil, pick_cons, look_nil, look_cons, dropB_nil, dropB_cons, inD_nil, inD_cons, inE_nil, inE_cons, or_t_l, or_f_l, Nat.reduceBEq, Nat.reduceDiv, Nat.reduceAdd, beq_self_eq_true, Bool.false_eq_true, Bool.or_false, ↓reduceIte, Nat.reduceEqDiff, List.cons_append, List.nil_append]
      have no : isTag r.tags[i] r.roles.length = false → isReg r = false := fun h => by simp [isReg, all_no (p := fun t => isTag t r.roles.length) hi h]
      have yes : isTag r.tags[i] r.roles.length = true → ((r.tags.take (i + 1)).all fun t => isTag t r.roles.length) = true := fun h => by rw [all_take _ _ _ hi, hI, h]; rfl
      have hp : 0 ≤ (r.roles.length : Int) ∧ (r.roles.length : Int) < 100000 := by simp_all [isIn]; omega
      simp -dsimp -implicitDefEqProofs only [go_sem, ↓reduceIte, Nat.reduceEqDiff, Nat.reduceLT, Nat.reduceAdd, Nat.reduceMul, Nat.reduceLeDiff, Nat.le_refl, Int.natCast_zero, Int.toNat_natCast, Int.reduceToNat, lt_len hi, get_some hi]
      repeat' first
        | (refine Br.intro (fun _ => ?_) (fun _ => ?_) <;> try simp -dsimp -implicitDefEqProofs only [go_sem, ↓reduceIte, Nat.reduceEqDiff, Nat.reduceLT, Nat.reduceAdd, Nat.reduceMul, Nat.reduceLeDiff, Nat.le_refl, Int.natCast_zero, Int.toNat_natCast, Int.reduceToNat, *])
        | (with_reducible refine And.intro ?_ ?_)
        | (refine sCallT_one (c_l30Tag _ _ hp) ?_; try simp -dsimp -implicitDefEqProofs only [go_sem, ↓reduceIte, Nat.reduceEqDiff, Nat.reduceLT, Nat.reduceAdd, Nat.reduceMul, Nat.reduceLeDiff, Nat.le_refl, Int.natCast_zero, Int.toNat_natCast, Int.reduceToNat, *])
      all_goals first | omega | (refine ⟨?_, ?_⟩ <;> omega) | (simp; done) | (rw [no]; clear no yes; simp_all []; done) | (rw [no]; clear no yes; simp_all []; omega) | (refine yes ?_; clear no yes; simp_all []; done) | (refine yes ?_; clear no yes; simp_all []; omega) | (simp_all [I64]; done) | (simp_all [I64]; omega) | trace_state
    · simp -dsimp -implicitDefEqProofs only [pick_nil, pick_cons, look_nil, look_cons, dropB_nil, dropB_cons, inD_nil, inD_cons, inE_nil, inE_cons, or_t_l, or_f_l, Nat.reduceBEq, Nat.reduceDiv, Nat.reduceAdd, beq_self_eq_true, Bool.false_eq_true, Bool.or_false, ↓reduceIte, Nat.reduceEqDiff, List.cons_append, List.nil_append]
      simp -dsimp -implicitDefEqProofs only [go_sem, ↓reduceIte, Nat.reduceEqDiff, Nat.reduceLT, Nat.reduceAdd, Nat.reduceMul, Nat.reduceLeDiff, Nat.le_refl, Int.natCast_zero, Int.toNat_natCast, Int.reduceToNat, nlt_len]
      rw [List.take_length] at hI
      simp_all [isReg]; omega
theorem c_iIsRegister (r : RegM) (h1 : r.tags.length ≤ 1048576) (h2 : r.roles.length ≤ 1048576) : Fn Try.prog 20 [eReg r] true (· = eB (isReg r)) := by
  refine Fn.of_vcN 57 [.tmp 2] Try.func20 rfl rfl rfl rfl rfl (of_decide_eq_true rfl) ?_
  simp -dsimp -implicitDefEqProofs only [go_sem, ↓reduceIte, Nat.reduceEqDiff, Nat.reduceLT, Nat.reduceAdd, Nat.reduceMul, Nat.reduceLeDiff, Nat.le_refl, Int.natCast_zero, Int.toNat_natCast, Int.reduceToNat]
  refine Later.up [1, 3, 10, 11] [5, 18, 23, 38] [] r.tags.length (fun i => (r.tags.take i).all fun t => isTag t r.roles.length) (fun i => [(12, eI i)]) (fun _ => []) (by simp) ?_ rfl (fun i hi hI => ?_) (fun hI => ?_)
  · simp -dsimp -implicitDefEqProofs only [go_sem, ↓reduceIte, Nat.reduceEqDiff, Nat.reduceLT, Nat.reduceAdd, Nat.reduceMul, Nat.reduceLeDiff, Nat.le_refl, Int.natCast_zero, Int.toNat_natCast, Int.reduceToNat]
  · simp -dsimp -implicitDefEqProofs only [pick_nil, pick_cons, look_nil, look_cons, dropB_nil, dropB_cons, inD_nil, inD_cons, inE_nil, inE_cons, or_t_l, or_f_l, Nat.reduceBEq, Nat.reduceDiv, Nat.reduceAdd, beq_self_eq_true, Bool.false_eq_true, Bool.or_false, ↓reduceIte, Nat.reduceEqDiff, List.cons_append, List.nil_append]
    have no : isTag r.tags[i] r.roles.length = false → isReg r = false := fun h => by simp [isReg, all_no (p := fun t => isTag t r.roles.length) hi h]
    have yes : isTag r.tags[i] r.roles.length = true → ((r.tags.take (i + 1)).all fun t => isTag t r.roles.length) = true := fun h => by rw [all_take _ _ _ hi, hI, h]; rfl
    simp -dsimp -implicitDefEqProofs only [go_sem, ↓reduceIte, Nat.reduceEqDiff, Nat.reduceLT, Nat.reduceAdd, Nat.reduceMul, Nat.reduceLeDiff, Nat.le_refl, Int.natCast_zero, Int.toNat_natCast, Int.reduceToNat, lt_len hi, get_some hi]
    repeat' first
      | (refine Br.intro (fun _ => ?_) (fun _ => ?_) <;> try simp -dsimp -implicitDefEqProofs only [go_sem, ↓reduceIte, Nat.reduceEqDiff, Nat.reduceLT, Nat.reduceAdd, Nat.reduceMul, Nat.reduceLeDiff, Nat.le_refl, Int.natCast_zero, Int.toNat_natCast, Int.reduceToNat, *])
      | (with_reducible refine And.intro ?_ ?_)
      | (refine sCallT_one (c_within _ _ _) ?_; try simp -dsimp -implicitDefEqProofs only [go_sem, ↓reduceIte, Nat.reduceEqDiff, Nat.reduceLT, Nat.reduceAdd, Nat.reduceMul, Nat.reduceLeDiff, Nat.le_refl, Int.natCast_zero, Int.toNat_natCast, Int.reduceToNat, *])
    all_goals first
      | omega
      | (refine ⟨?_, ?_⟩ <;> omega)
      | (simp; done)
      | (rw [no]; clear no yes; simp_all [isTag]; done) | (rw [no]; clear no yes; simp_all [isTag]; omega) | (refine yes ?_; clear no yes; simp_all [isTag]; done) | (refine yes ?_; clear no yes; simp_all [isTag]; omega)
      | (rw [no]; clear no yes; simp_all [isTag, isIn]; split <;> omega)
      | (refine yes ?_; clear no yes; simp_all [isTag, isIn]; omega)
  · simp -dsimp -implicitDefEqProofs only [pick_nil, pick_cons, look_nil, look_cons, dropB_nil, dropB_cons, inD_nil, inD_cons, inE_nil, inE_cons, or_t_l, or_f_l, Nat.reduceBEq, Nat.reduceDiv, Nat.reduceAdd, beq_self_eq_true, Bool.false_eq_true, Bool.or_false, ↓reduceIte, Nat.reduceEqDiff, List.cons_append, List.nil_append]
    simp -dsimp -implicitDefEqProofs only [go_sem, ↓reduceIte, Nat.reduceEqDiff, Nat.reduceLT, Nat.reduceAdd, Nat.reduceMul, Nat.reduceLeDiff, Nat.le_refl, Int.natCast_zero, Int.toNat_natCast, Int.reduceToNat, nlt_len]
    rw [List.take_length] at hI
    repeat' first
      | (refine Br.intro (fun _ => ?_) (fun _ => ?_) <;> try simp -dsimp -implicitDefEqProofs only [go_sem, ↓reduceIte, Nat.reduceEqDiff, Nat.reduceLT, Nat.reduceAdd, Nat.reduceMul, Nat.reduceLeDiff, Nat.le_refl, Int.natCast_zero, Int.toNat_natCast, Int.reduceToNat, *])
      | (with_reducible refine And.intro ?_ ?_)
      | (refine sCallT_one (c_within _ _ _) ?_; try simp -dsimp -implicitDefEqProofs only [go_sem, ↓reduceIte, Nat.reduceEqDiff, Nat.reduceLT, Nat.reduceAdd, Nat.reduceMul, Nat.reduceLeDiff, Nat.le_refl, Int.natCast_zero, Int.toNat_natCast, Int.reduceToNat, *])
      | (refine sCallT_one (c_allWithin _ _ _ (by omega)) ?_; try simp -dsimp -implicitDefEqProofs only [go_sem, ↓reduceIte, Nat.reduceEqDiff, Nat.reduceLT, Nat.reduceAdd, Nat.reduceMul, Nat.reduceLeDiff, Nat.le_refl, Int.natCast_zero, Int.toNat_natCast, Int.reduceToNat, *])
    all_goals simp only [decide_eq_true_eq, decide_eq_false_iff_not, Int.not_le] at *
    all_goals first
      | omega
      | (have h3 : r.tags.length ≤ 20 := by omega
         simp_all [isReg]; done)
      | (have h3 : ¬ r.tags.length ≤ 20 := by omega
         simp [isReg, h3]; done)
      | trace_state
end Go.Vc


/-
  Contracts of the laws' helpers for lists and registers; the law FnExactIsRegister.
-/
set_option linter.unusedVariables false
set_option linter.unusedSimpArgs false
set_option linter.unnecessarySimpa false
namespace Go.Vc
open Go.Proofs
set_option maxRecDepth 100000
end Go.Vc


/-
  Events, as values; when one is as described.
-/
set_option linter.unusedVariables false
set_option linter.unusedSimpArgs false
set_option linter.unnecessarySimpa false
namespace Go.Vc
open Go.Proofs
set_option maxRecDepth 100000
structure EvM where
  kind : Int
  tag : Int
  person : Int
  who : Int
  deriving DecidableEq
abbrev eEv (e : EvM) : AV := .agg [eI e.kind, eI e.tag, eI e.person, eI e.who]
abbrev eEvs (es : List EvM) : AV := .arr ⟨4, true⟩ (es.map eEv)
def isEvent (e : EvM) (tags persons : Int) : Bool := isIn e.kind 0 4 && isIn e.tag 0 (tags - 1) && isIn e.who 0 (persons - 1) && (if e.kind = 0 then isIn e.person 0 (persons - 1) else e.person == -1)
end Go.Vc


/-
  Contracts of the laws' helpers for lists of lists of numbers, and for locks.
-/
set_option linter.unusedVariables false
set_option linter.unusedSimpArgs false
set_option linter.unnecessarySimpa false
namespace Go.Vc
open Go.Proofs
set_option maxRecDepth 100000
abbrev eIss (xs : List (List Int)) : AV := .arr ⟨1, false⟩ (xs.map eIs)
structure MkM where
  chambers : Int
  depths : Int
  step : Int
  same : Int
  least : Int
  deriving DecidableEq
end Go.Vc


/-
  Contracts of the functions on makers; rising lists; members of lists.
-/
set_option linter.unusedVariables false
set_option linter.unusedSimpArgs false
set_option linter.unnecessarySimpa false
namespace Go.Vc
open Go.Proofs
set_option maxRecDepth 100000
def isMk (m : MkM) : Bool := isIn m.chambers 2 6 && isIn m.depths 2 8 && isIn m.step 1 (m.depths - 1) && isIn m.same 1 m.chambers && isIn m.least 1 (if m.depths < m.chambers then m.depths else m.chambers)
theorem isMk_num {m : MkM} (h : isMk m = true) : (2 ≤ m.chambers ∧ m.chambers ≤ 6) ∧ 2 ≤ m.depths ∧ m.depths ≤ 8 := by
  simp [isMk, isIn] at h; omega
def riseAt (xs : List Int) (n : Int) (i : Nat) : Bool := decide (0 ≤ xs.getD i 0) && decide (xs.getD i 0 < n) && (i == 0 || decide (xs.getD (i - 1) 0 < xs.getD i 0))
def rises (xs : List Int) (n : Int) : Bool := (List.range xs.length).all (riseAt xs n)
theorem c_l01Rises (xs : List Int) (n : Int) (h : xs.length ≤ 9223372036854775807) : Fn Try.prog 33 [eIs xs, eI n] true (· = eB (rises xs n)) := by
  refine Fn.of_vcN 41 [.tmp 4] Try.func33 rfl rfl rfl rfl rfl (of_decide_eq_true rfl) ?_
  simp -dsimp -implicitDefEqProofs only [go_sem, ↓reduceIte, Nat.reduceEqDiff, Nat.reduceLT, Nat.reduceAdd, Nat.reduceMul, Nat.reduceLeDiff, Nat.le_refl, Int.natCast_zero, Int.toNat_natCast, Int.reduceToNat]
  refine Later.up [0, 1] [8] [] xs.length (fun i => (List.range i).all (riseAt xs n)) (fun i => [(5, eI i)]) (fun _ => []) (by simp) ?_ rfl (fun i hi hI => ?_) (fun hI => ?_)
  · simp -dsimp -implicitDefEqProofs only [go_sem, ↓reduceIte, Nat.reduceEqDiff, Nat.reduceLT, Nat.reduceAdd, Nat.reduceMul, Nat.reduceLeDiff, Nat.le_refl, Int.natCast_zero, Int.toNat_natCast, Int.reduceToNat]
  · have no : riseAt xs n i = false → rises xs n = false := range_all_no hi
    have yes : riseAt xs n i = true → (List.range (i + 1)).all (riseAt xs n) = true := fun h => by rw [range_all_succ, hI, h]; rfl
    have hi' : i - 1 < xs.length := by omega
    have gi := get_some hi
    have li := lt_len hi
    by_cases hi0 : 0 < i
    rotate_left
    · have g3 : decide ((i : Int) > 0) = false := by simp; omega
      simp -dsimp -implicitDefEqProofs only [pick_nil, pick_cons, look_nil, look_cons, dropB_nil, dropB_cons, inD_nil, inD_cons, inE_nil, inE_cons, or_t_l, or_f_l, Nat.reduceBEq, Nat.reduceDiv, Nat.reduceAdd, beq_self_eq_true, Bool.false_eq_true, Bool.or_false, ↓reduceIte, Nat.reduceEqDiff, List.cons_append, List.nil_append]
      simp -dsimp -implicitDefEqProofs only [go_sem, ↓reduceIte, Nat.reduceEqDiff, Nat.reduceLT, Nat.reduceAdd, Nat.reduceMul, Nat.reduceLeDiff, Nat.le_refl, Int.natCast_zero, Int.toNat_natCast, Int.reduceToNat, lt_len hi, get_some hi, g3]
      repeat' first
        | (refine Br.intro (fun _ => ?_) (fun _ => ?_) <;> try simp -dsimp -implicitDefEqProofs only [go_sem, ↓reduceIte, Nat.reduceEqDiff, Nat.reduceLT, Nat.reduceAdd, Nat.reduceMul, Nat.reduceLeDiff, Nat.le_refl, Int.natCast_zero, Int.toNat_natCast, Int.reduceToNat, *])
        | (with_reducible refine And.intro ?_ ?_)
        | (refine Later.draw mixed rfl ?_; simp -dsimp -implicitDefEqProofs only [go_sem, ↓reduceIte, Nat.reduceEqDiff, Nat.reduceLT, Nat.reduceAdd, Nat.reduceMul, Nat.reduceLeDiff, Nat.le_refl, Int.natCast_zero, Int.toNat_natCast, Int.reduceToNat, lt_len hi, get_some hi, g3])
      all_goals first
        | omega
        | (refine ⟨?_, ?_⟩ <;> omega)
        | (simp; done)
        | rfl
        | (rw [no]; clear no yes; simp_all [riseAt]; done) | (rw [no]; clear no yes; simp_all [riseAt]; omega) | (refine yes ?_; clear no yes; simp_all [riseAt]; done) | (refine yes ?_; clear no yes; simp_all [riseAt]; omega)
        | (rw [← List.range_succ]; refine yes ?_; clear no yes; simp_all [riseAt]; done)
        | (rw [← List.range_succ]; refine yes ?_; clear no yes; simp_all [riseAt]; omega)
        | (have e0 : i = 0 := by omega
           clear hi0; subst e0; first | (rw [no]; clear no yes; simp_all [riseAt]; done) | (rw [no]; clear no yes; simp_all [riseAt]; omega) | (refine yes ?_; clear no yes; simp_all [riseAt]; done) | (refine yes ?_; clear no yes; simp_all [riseAt]; omega))
        | trace_state
    · have g2 : xs[((i : Int) - 1).toNat]? = some xs[i - 1] := by rw [pred_toNat hi0]; exact get_some hi'
      have g3 : decide ((i : Int) > 0) = true := by simp; omega
      simp -dsimp -implicitDefEqProofs only [pick_nil, pick_cons, look_nil, look_cons, dropB_nil, dropB_cons, inD_nil, inD_cons, inE_nil, inE_cons, or_t_l, or_f_l, Nat.reduceBEq, Nat.reduceDiv, Nat.reduceAdd, beq_self_eq_true, Bool.false_eq_true, Bool.or_false, ↓reduceIte, Nat.reduceEqDiff, List.cons_append, List.nil_append]
      simp -dsimp -implicitDefEqProofs only [go_sem, ↓reduceIte, Nat.reduceEqDiff, Nat.reduceLT, Nat.reduceAdd, Nat.reduceMul, Nat.reduceLeDiff, Nat.le_refl, Int.natCast_zero, Int.toNat_natCast, Int.reduceToNat, lt_len hi, get_some hi, g2, g3]
      repeat' first
        | (refine Br.intro (fun _ => ?_) (fun _ => ?_) <;> try simp -dsimp -implicitDefEqProofs only [go_sem, ↓reduceIte, Nat.reduceEqDiff, Nat.reduceLT, Nat.reduceAdd, Nat.reduceMul, Nat.reduceLeDiff, Nat.le_refl, Int.natCast_zero, Int.toNat_natCast, Int.reduceToNat, *])
        | (with_reducible refine And.intro ?_ ?_)
        | (refine Later.draw mixed rfl ?_; simp -dsimp -implicitDefEqProofs only [go_sem, ↓reduceIte, Nat.reduceEqDiff, Nat.reduceLT, Nat.reduceAdd, Nat.reduceMul, Nat.reduceLeDiff, Nat.le_refl, Int.natCast_zero, Int.toNat_natCast, Int.reduceToNat, lt_len hi, get_some hi, g2, g3])
      all_goals first
        | omega
        | (refine ⟨?_, ?_⟩ <;> omega)
        | (simp; done)
        | rfl
        | (rw [no]; clear no yes; simp_all [riseAt]; done) | (rw [no]; clear no yes; simp_all [riseAt]; omega) | (refine yes ?_; clear no yes; simp_all [riseAt]; done) | (refine yes ?_; clear no yes; simp_all [riseAt]; omega)
        | (rw [← List.range_succ]; refine yes ?_; clear no yes; simp_all [riseAt]; done)
        | (rw [← List.range_succ]; refine yes ?_; clear no yes; simp_all [riseAt]; omega)
        | (have e0 : i = 0 := by omega
           clear hi0; subst e0; first | (rw [no]; clear no yes; simp_all [riseAt]; done) | (rw [no]; clear no yes; simp_all [riseAt]; omega) | (refine yes ?_; clear no yes; simp_all [riseAt]; done) | (refine yes ?_; clear no yes; simp_all [riseAt]; omega))
        | trace_state
  · simp -dsimp -implicitDefEqProofs only [pick_nil, pick_cons, look_nil, look_cons, dropB_nil, dropB_cons, inD_nil, inD_cons, inE_nil, inE_cons, or_t_l, or_f_l, Nat.reduceBEq, Nat.reduceDiv, Nat.reduceAdd, beq_self_eq_true, Bool.false_eq_true, Bool.or_false, ↓reduceIte, Nat.reduceEqDiff, List.cons_append, List.nil_append]
    simp -dsimp -implicitDefEqProofs only [go_sem, ↓reduceIte, Nat.reduceEqDiff, Nat.reduceLT, Nat.reduceAdd, Nat.reduceMul, Nat.reduceLeDiff, Nat.le_refl, Int.natCast_zero, Int.toNat_natCast, Int.reduceToNat, nlt_len]
    rw [rises, hI]
theorem c_IsRising (xs : List Int) (n : Int) (h : xs.length ≤ 9223372036854775807) : Fn Try.prog 30 [eIs xs, eI n] true (· = eB (rises xs n)) := by
  refine Fn.of_vcN 35 [.tmp 4] Try.func30 rfl rfl rfl rfl rfl (of_decide_eq_true rfl) ?_
  simp -dsimp -implicitDefEqProofs only [go_sem, ↓reduceIte, Nat.reduceEqDiff, Nat.reduceLT, Nat.reduceAdd, Nat.reduceMul, Nat.reduceLeDiff, Nat.le_refl, Int.natCast_zero, Int.toNat_natCast, Int.reduceToNat]
  refine Later.up [0, 1, 7, 8] [] [] xs.length (fun i => (List.range i).all (riseAt xs n)) (fun i => [(9, eI i)]) (fun _ => []) (by simp) ?_ rfl (fun i hi hI => ?_) (fun hI => ?_)
  · simp -dsimp -implicitDefEqProofs only [go_sem, ↓reduceIte, Nat.reduceEqDiff, Nat.reduceLT, Nat.reduceAdd, Nat.reduceMul, Nat.reduceLeDiff, Nat.le_refl, Int.natCast_zero, Int.toNat_natCast, Int.reduceToNat]
  · have no : riseAt xs n i = false → rises xs n = false := range_all_no hi
    have yes : riseAt xs n i = true → (List.range (i + 1)).all (riseAt xs n) = true := fun h => by rw [range_all_succ, hI, h]; rfl
    have hi' : i - 1 < xs.length := by omega
    have gi := get_some hi
    have li := lt_len hi
    by_cases hi0 : 0 < i
    rotate_left
    · have g3 : decide ((i : Int) > 0) = false := by simp; omega
      simp -dsimp -implicitDefEqProofs only [pick_nil, pick_cons, look_nil, look_cons, dropB_nil, dropB_cons, inD_nil, inD_cons, inE_nil, inE_cons, or_t_l, or_f_l, Nat.reduceBEq, Nat.reduceDiv, Nat.reduceAdd, beq_self_eq_true, Bool.false_eq_true, Bool.or_false, ↓reduceIte, Nat.reduceEqDiff, List.cons_append, List.nil_append]
      simp -dsimp -implicitDefEqProofs only [go_sem, ↓reduceIte, Nat.reduceEqDiff, Nat.reduceLT, Nat.reduceAdd, Nat.reduceMul, Nat.reduceLeDiff, Nat.le_refl, Int.natCast_zero, Int.toNat_natCast, Int.reduceToNat, lt_len hi, get_some hi, g3]
      repeat' first
        | (refine Br.intro (fun _ => ?_) (fun _ => ?_) <;> try simp -dsimp -implicitDefEqProofs only [go_sem, ↓reduceIte, Nat.reduceEqDiff, Nat.reduceLT, Nat.reduceAdd, Nat.reduceMul, Nat.reduceLeDiff, Nat.le_refl, Int.natCast_zero, Int.toNat_natCast, Int.reduceToNat, *])
        | (with_reducible refine And.intro ?_ ?_)
        | (refine Later.draw mixed rfl ?_; simp -dsimp -implicitDefEqProofs only [go_sem, ↓reduceIte, Nat.reduceEqDiff, Nat.reduceLT, Nat.reduceAdd, Nat.reduceMul, Nat.reduceLeDiff, Nat.le_refl, Int.natCast_zero, Int.toNat_natCast, Int.reduceToNat, lt_len hi, get_some hi, g3])
      all_goals first
        | omega
        | (refine ⟨?_, ?_⟩ <;> omega)
        | (simp; done)
        | rfl
        | (rw [no]; clear no yes; simp_all [riseAt]; done) | (rw [no]; clear no yes; simp_all [riseAt]; omega) | (refine yes ?_; clear no yes; simp_all [riseAt]; done) | (refine yes ?_; clear no yes; simp_all [riseAt]; omega)
        | (rw [← List.range_succ]; refine yes ?_; clear no yes; simp_all [riseAt]; done)
        | (rw [← List.range_succ]; refine yes ?_; clear no yes; simp_all [riseAt]; omega)
        | (have e0 : i = 0 := by omega
           clear hi0; subst e0; first | (rw [no]; clear no yes; simp_all [riseAt]; done) | (rw [no]; clear no yes; simp_all [riseAt]; omega) | (refine yes ?_; clear no yes; simp_all [riseAt]; done) | (refine yes ?_; clear no yes; simp_all [riseAt]; omega))
        | trace_state
    · have g2 : xs[((i : Int) - 1).toNat]? = some xs[i - 1] := by rw [pred_toNat hi0]; exact get_some hi'
      have g3 : decide ((i : Int) > 0) = true := by simp; omega
      simp -dsimp -implicitDefEqProofs only [pick_nil, pick_cons, look_nil, look_cons, dropB_nil, dropB_cons, inD_nil, inD_cons, inE_nil, inE_cons, or_t_l, or_f_l, Nat.reduceBEq, Nat.reduceDiv, Nat.reduceAdd, beq_self_eq_true, Bool.false_eq_true, Bool.or_false, ↓reduceIte, Nat.reduceEqDiff, List.cons_append, List.nil_append]
      simp -dsimp -implicitDefEqProofs only [go_sem, ↓reduceIte, Nat.reduceEqDiff, Nat.reduceLT, Nat.reduceAdd, Nat.reduceMul, Nat.reduceLeDiff, Nat.le_refl, Int.natCast_zero, Int.toNat_natCast, Int.reduceToNat, lt_len hi, get_some hi, g2, g3]
      repeat' first
        | (refine Br.intro (fun _ => ?_) (fun _ => ?_) <;> try simp -dsimp -implicitDefEqProofs only [go_sem, ↓reduceIte, Nat.reduceEqDiff, Nat.reduceLT, Nat.reduceAdd, Nat.reduceMul, Nat.reduceLeDiff, Nat.le_refl, Int.natCast_zero, Int.toNat_natCast, Int.reduceToNat, *])
        | (with_reducible refine And.intro ?_ ?_)
        | (refine Later.draw mixed rfl ?_; simp -dsimp -implicitDefEqProofs only [go_sem, ↓reduceIte, Nat.reduceEqDiff, Nat.reduceLT, Nat.reduceAdd, Nat.reduceMul, Nat.reduceLeDiff, Nat.le_refl, Int.natCast_zero, Int.toNat_natCast, Int.reduceToNat, lt_len hi, get_some hi, g2, g3])
      all_goals first
        | omega
        | (refine ⟨?_, ?_⟩ <;> omega)
        | (simp; done)
        | rfl
        | (rw [no]; clear no yes; simp_all [riseAt]; done) | (rw [no]; clear no yes; simp_all [riseAt]; omega) | (refine yes ?_; clear no yes; simp_all [riseAt]; done) | (refine yes ?_; clear no yes; simp_all [riseAt]; omega)
        | (rw [← List.range_succ]; refine yes ?_; clear no yes; simp_all [riseAt]; done)
        | (rw [← List.range_succ]; refine yes ?_; clear no yes; simp_all [riseAt]; omega)
        | (have e0 : i = 0 := by omega
           clear hi0; subst e0; first | (rw [no]; clear no yes; simp_all [riseAt]; done) | (rw [no]; clear no yes; simp_all [riseAt]; omega) | (refine yes ?_; clear no yes; simp_all [riseAt]; done) | (refine yes ?_; clear no yes; simp_all [riseAt]; omega))
        | trace_state
  · simp -dsimp -implicitDefEqProofs only [pick_nil, pick_cons, look_nil, look_cons, dropB_nil, dropB_cons, inD_nil, inD_cons, inE_nil, inE_cons, or_t_l, or_f_l, Nat.reduceBEq, Nat.reduceDiv, Nat.reduceAdd, beq_self_eq_true, Bool.false_eq_true, Bool.or_false, ↓reduceIte, Nat.reduceEqDiff, List.cons_append, List.nil_append]
    simp -dsimp -implicitDefEqProofs only [go_sem, ↓reduceIte, Nat.reduceEqDiff, Nat.reduceLT, Nat.reduceAdd, Nat.reduceMul, Nat.reduceLeDiff, Nat.le_refl, Int.natCast_zero, Int.toNat_natCast, Int.reduceToNat, nlt_len]
    rw [rises, hI]
def has (xs : List Int) (x : Int) : Bool := !(xs.all fun y => !(y == x))
end Go.Vc


/-
  The different numbers of a list, rising; plain facts.
-/
set_option linter.unusedVariables false
set_option linter.unusedSimpArgs false
set_option linter.unnecessarySimpa false
namespace Go.Vc
def rowsL (xs : List Int) : List Int := Lib.compact (xs.mergeSort fun x y => decide (x ≤ y))
theorem mem_compact (zs : List Int) (x : Int) : x ∈ Lib.compact zs ↔ x ∈ zs := by
  unfold Lib.compact Lib.compactUpTo
  have gi : ∀ i, i < zs.length → zs.toArray[i]! = zs.getD i 0 := fun i hi => by simp [List.getD_eq_getElem?_getD, hi]
  constructor
  · intro h
    obtain ⟨j, hj, rfl⟩ := List.mem_map.1 h
    have hj' := List.mem_range.1 (List.mem_filter.1 hj).1
    simp [hj']
  · intro h
    obtain ⟨j, hj, rfl⟩ := List.getElem_of_mem h
    induction j with
    | zero => exact List.mem_map.2 ⟨0, List.mem_filter.2 ⟨List.mem_range.2 hj, by simp [Lib.keeps]⟩, by simp [hj]⟩
    | succ j ih =>
      by_cases e : zs[j + 1] = zs[j]
      · rw [e]; exact ih (by omega) (List.getElem_mem _)
      · refine List.mem_map.2 ⟨j + 1, List.mem_filter.2 ⟨List.mem_range.2 hj, ?_⟩, by simp [hj]⟩
        have h1 : j < zs.length := by omega
        simp [Lib.keeps, hj, h1, e]
theorem compact_pair (zs : List Int) (h : zs.Pairwise (· ≤ ·)) : (Lib.compact zs).Pairwise (· < ·) := by
  unfold Lib.compact Lib.compactUpTo
  rw [List.pairwise_map]
  have hs := List.pairwise_iff_getElem.1 h
  refine List.Pairwise.imp_of_mem ?_ ((List.pairwise_lt_range (n := zs.length)).filter (Lib.keeps zs.toArray))
  intro i j hi hj hij
  have hj' := List.mem_range.1 (List.mem_filter.1 hj).1
  have hk := (List.mem_filter.1 hj).2
  have hi' : i < zs.length := by omega
  have hp : j - 1 < zs.length := by omega
  have h1 : zs[i] ≤ zs[j - 1] := by
    rcases Nat.lt_or_ge i (j - 1) with hh | hh
    · exact hs i (j - 1) _ _ hh
    · have : i = j - 1 := by omega
      subst this; exact Int.le_refl _
  have h2 := hs (j - 1) j hp hj' (by omega)
  have h3 : zs[j] ≠ zs[j - 1] := by
    have : j ≠ 0 := by omega
    simpa [Lib.keeps, this, hj', hp] using hk
  have e1 : zs.toArray[i]! = zs[i] := by simp [hi']
  have e2 : zs.toArray[j]! = zs[j] := by simp [hj']
  rw [e1, e2]; omega
theorem sort_pair (xs : List Int) : (xs.mergeSort fun x y => decide (x ≤ y)).Pairwise (· ≤ ·) := by
  have := List.pairwise_mergeSort (le := fun x y : Int => decide (x ≤ y)) (by intro a b c h1 h2; simp at *; omega) (by intro a b; simp; omega) xs
  exact this.imp fun h => by simpa using h
theorem mem_sort (xs : List Int) (x : Int) : x ∈ (xs.mergeSort fun x y => decide (x ≤ y)) ↔ x ∈ xs := List.mem_mergeSort
theorem rowsL_mem (xs : List Int) (x : Int) : x ∈ rowsL xs ↔ x ∈ xs := by rw [rowsL, mem_compact, mem_sort]
theorem rowsL_pair (xs : List Int) : (rowsL xs).Pairwise (· < ·) := compact_pair _ (sort_pair xs)
theorem rowsL_len (xs : List Int) : (rowsL xs).length ≤ xs.length := by
  have h1 : (Lib.compact (xs.mergeSort fun x y => decide (x ≤ y))).length ≤ (xs.mergeSort fun x y => decide (x ≤ y)).length := by
    unfold Lib.compact Lib.compactUpTo
    rw [List.length_map]
    exact Nat.le_trans (List.length_filter_le _ _) (by simp)
  rw [List.length_mergeSort] at h1
  exact h1
theorem rowsL_eq (xs : List Int) : rowsL xs = Lib.compact (xs.mergeSort fun x y => decide (x ≤ y)) := rfl
attribute [irreducible] rowsL
/-- the next candidate after k of the different numbers -/
def cand (R : List Int) (k : Nat) (x : Int) : Bool := k == 0 || decide (x > R.getD (k - 1) 0)
def leastSt (R : List Int) (k : Nat) (m x : Int) : Int := if cand R k x && (decide (m < 0) || decide (x < m)) then x else m
def leastN (xs : List Int) (k i : Nat) : Int := (xs.take i).foldl (leastSt (rowsL xs) k) (-1)
theorem leastN_zero (xs : List Int) (k : Nat) : leastN xs k 0 = -1 := by simp [leastN]
theorem leastN_succ (xs : List Int) (k i : Nat) (h : i < xs.length) : leastN xs k (i + 1) = leastSt (rowsL xs) k (leastN xs k i) xs[i] := by
  rw [leastN, List.take_succ_eq_append_getElem h, List.foldl_append]; rfl
theorem foldl_least (R : List Int) (k : Nat) : ∀ (xs : List Int), (∀ x ∈ xs, 0 ≤ x) → ∀ m : Int, (m = -1 ∨ 0 ≤ m) →
    let r := xs.foldl (leastSt R k) m
    (r = m ∨ (r ∈ xs ∧ cand R k r = true)) ∧ (r = -1 ∨ 0 ≤ r) ∧ (0 ≤ m → r ≤ m ∧ 0 ≤ r) ∧ ∀ x ∈ xs, cand R k x = true → 0 ≤ r ∧ r ≤ x := by
  intro xs
  induction xs with
  | nil => intro _ m hm; simp; exact hm
  | cons x t ih =>
    intro hx m hm
    have h0 := hx x (by simp)
    have hm' : leastSt R k m x = -1 ∨ 0 ≤ leastSt R k m x := by unfold leastSt; split <;> omega
    have := ih (fun y hy => hx y (by simp [hy])) (leastSt R k m x) hm'
    simp only [List.foldl_cons]
    obtain ⟨a1, a2, a3, a4⟩ := this
    refine ⟨?_, a2, ?_, ?_⟩
    · rcases a1 with a1 | a1
      · rw [a1]
        unfold leastSt
        split
        · rename_i hc
          simp only [Bool.and_eq_true] at hc
          exact .inr ⟨by simp, hc.1⟩
        · exact .inl rfl
      · exact .inr ⟨by simp [a1.1], a1.2⟩
    · intro hm0
      have h1 : 0 ≤ leastSt R k m x ∧ leastSt R k m x ≤ m := by
        unfold leastSt
        split
        · rename_i hc
          simp only [Bool.and_eq_true, Bool.or_eq_true, decide_eq_true_eq] at hc
          omega
        · omega
      have h2 := a3 h1.1
      omega
    · intro y hy hc
      rcases List.mem_cons.1 hy with rfl | hy
      · have h1 : 0 ≤ leastSt R k m y ∧ leastSt R k m y ≤ y := by
          unfold leastSt
          split
          · omega
          · rename_i hn
            simp only [hc, Bool.true_and, Bool.or_eq_true, decide_eq_true_eq, not_or] at hn
            omega
        have h2 := a3 h1.1
        omega
      · exact a4 y hy hc
theorem leastN_len (xs : List Int) (h : ∀ x ∈ xs, 0 ≤ x) (k : Nat) (hk : k ≤ (rowsL xs).length) : leastN xs k xs.length = if h : k < (rowsL xs).length then (rowsL xs)[k] else -1 := by
  have hp := List.pairwise_iff_getElem.1 (rowsL_pair xs)
  have := foldl_least (rowsL xs) k xs h (-1) (.inl rfl)
  simp only at this
  rw [leastN, List.take_length]
  generalize List.foldl (leastSt (rowsL xs) k) (-1) xs = r at this
  obtain ⟨a1, a2, _, a4⟩ := this
  have hc : ∀ i (hi : i < (rowsL xs).length), cand (rowsL xs) k (rowsL xs)[i] = true ↔ k ≤ i := by
    intro i hi
    unfold cand
    by_cases hk0 : k = 0
    · subst hk0; simp
    · have h1 : k - 1 < (rowsL xs).length := by omega
      have e : (rowsL xs).getD (k - 1) 0 = (rowsL xs)[k - 1] := by simp [List.getD_eq_getElem?_getD, h1]
      rw [e]
      simp only [Bool.or_eq_true, beq_iff_eq, hk0, false_or, decide_eq_true_eq]
      constructor
      · intro h2
        rcases Nat.lt_or_ge i k with h3 | h3
        · exfalso
          rcases Nat.lt_or_ge i (k - 1) with h4 | h4
          · have := hp i (k - 1) hi h1 h4; omega
          · have : i = k - 1 := by omega
            subst this; omega
        · exact h3
      · intro h2
        have := hp (k - 1) i h1 hi (by omega)
        omega
  split
  · rename_i hk2
    have hm := (rowsL_mem xs _).1 (List.getElem_mem hk2)
    have h1 := a4 _ hm ((hc k hk2).2 (Nat.le_refl _))
    rcases a1 with a1 | a1
    · omega
    · obtain ⟨i, hi, he⟩ := List.getElem_of_mem ((rowsL_mem xs r).2 a1.1)
      have h2 := (hc i hi).1 (by rw [he]; exact a1.2)
      rcases Nat.lt_or_ge k i with h3 | h3
      · have := hp k i hk2 hi h3; omega
      · have : i = k := by omega
        subst this; exact he.symm
  · rename_i hk2
    rcases a1 with a1 | a1
    · exact a1
    · obtain ⟨i, hi, he⟩ := List.getElem_of_mem ((rowsL_mem xs r).2 a1.1)
      have h2 := (hc i hi).1 (by rw [he]; exact a1.2)
      omega
end Go.Vc


/-
  Contracts: numbers sorted, the different ones of them.
-/
set_option linter.unusedVariables false
set_option linter.unusedSimpArgs false
set_option linter.unnecessarySimpa false
namespace Go.Vc
open Go.Proofs
set_option maxRecDepth 100000
theorem c_SortI (v : Nat) (zs : List Int) (h : zs.length ≤ 1048576) : FnM Try.prog 44 [.row v ⟨1, false⟩ true (zs.map eI)] [.ref 1000000000 v 0 zs.length] (fun r io => r = .tup [] ∧ io = [.row v ⟨1, false⟩ true ((zs.mergeSort fun x y => decide (x ≤ y)).map eI)]) :=
  FnM.sortRow ⟨_, _, Try.func44, by rfl, rfl⟩ (fun zs => zs.mergeSort fun x y => decide (x ≤ y)) (fun zs => List.length_mergeSort zs)
    (fun blk cap zs w hH hb hs => AnyG.slices_Sort_int Try.laySort blk 0 cap zs w hH hb hs) (fun a w => AnyG.slices_Sort_int_none Try.laySort a 0 w) v zs h
theorem compact_len (zs : List Int) : (Lib.compact zs).length ≤ zs.length := by
  unfold Lib.compact Lib.compactUpTo
  rw [List.length_map]
  exact Nat.le_trans (List.length_filter_le _ _) (by simp)
theorem s_CompactI {d l ver n : Nat} {zs : List Int} {xt : List AV} {m : Mem} {k : AV → Mem → Prop} {q : Pack k} (hlk : lookB m l = some (.row ver ⟨1, false⟩ true (zs.map eI))) (hn : n = zs.length) (hz : zs.length ≤ 1048576)
    (hk : k (.ref l (ver + 1) 0 (Lib.compact zs).length) ((l, .row (ver + 1) ⟨1, false⟩ true ((Lib.compact zs ++ List.replicate (zs.length - (Lib.compact zs).length) 0).map eI)) :: m)) :
    sCallT Try.prog 45 d [.ref l ver 0 n] xt m k q :=
  sCallT_ints (Lib.compact zs).length ⟨_, _, Try.func45, by rfl, rfl⟩ hlk hn (ys := Lib.compact zs ++ List.replicate (zs.length - (Lib.compact zs).length) 0) (by have := compact_len zs; simp; omega) (compact_len zs) hz
    (fun blk cap w hH hc => AnyG.slices_Compact_int Try.layCompact blk 0 cap zs w hH (by omega) hc) (fun a w => AnyG.slices_Compact_int_empty Try.layCompact a 0 w) hk
theorem c_rowsOf (xs : List Int) (h : xs.length ≤ 1048576) : Fn Try.prog 27 [eIs xs] true (· = eIs (rowsL xs)) := by
  refine Fn.of_vcN 10 [.tmp 2] Try.func27 rfl rfl rfl rfl rfl (of_decide_eq_true rfl) ?_
  simp -dsimp -implicitDefEqProofs only [go_sem, ↓reduceIte, Nat.reduceEqDiff, Nat.reduceLT, Nat.reduceAdd, Nat.reduceMul, Nat.reduceLeDiff, Nat.le_refl, Int.natCast_zero, Int.toNat_natCast, Int.reduceToNat]
  repeat' (refine sCallT_one (c_CloneI xs h) ?_; try simp -dsimp -implicitDefEqProofs only [go_sem, ↓reduceIte, Nat.reduceEqDiff, Nat.reduceLT, Nat.reduceAdd, Nat.reduceMul, Nat.reduceLeDiff, Nat.le_refl, Int.natCast_zero, Int.toNat_natCast, Int.reduceToNat, *])
  refine sCallT_io [6000] ?_
  simp -dsimp -implicitDefEqProofs only [go_sem, ↓reduceIte, Nat.reduceEqDiff, Nat.reduceLT, Nat.reduceAdd, Nat.reduceMul, Nat.reduceLeDiff, Nat.le_refl, Int.natCast_zero, Int.toNat_natCast, Int.reduceToNat]
  refine sCallM_one (c_SortI 0 xs h) ?_
  simp -dsimp -implicitDefEqProofs only [go_sem, ↓reduceIte, Nat.reduceEqDiff, Nat.reduceLT, Nat.reduceAdd, Nat.reduceMul, Nat.reduceLeDiff, Nat.le_refl, Int.natCast_zero, Int.toNat_natCast, Int.reduceToNat]
  refine ⟨by simp, ?_⟩
  refine s_CompactI (zs := xs.mergeSort fun x y => decide (x ≤ y)) ?_ ?_ ?_ ?_
  · simp -dsimp -implicitDefEqProofs only [go_sem, ↓reduceIte, Nat.reduceEqDiff, Nat.reduceLT, Nat.reduceAdd, Nat.reduceMul, Nat.reduceLeDiff, Nat.le_refl, Int.natCast_zero, Int.toNat_natCast, Int.reduceToNat]
  · simp
  · simpa using h
  simp -dsimp -implicitDefEqProofs only [go_sem, ↓reduceIte, Nat.reduceEqDiff, Nat.reduceLT, Nat.reduceAdd, Nat.reduceMul, Nat.reduceLeDiff, Nat.le_refl, Int.natCast_zero, Int.toNat_natCast, Int.reduceToNat]
  repeat' (with_reducible refine And.intro ?_ ?_)
  all_goals first
    | omega | (refine ⟨?_, ?_⟩ <;> omega) | (simp; done) | (simp; omega)
    | (rw [rowsL_eq]; simp; done)
    | trace_state
theorem c_l18Different (xs : List Int) (h : xs.length ≤ 1048576) (h0 : ∀ x ∈ xs, 0 ≤ x) : Fn Try.prog 29 [eIs xs] true (· = eIs (rowsL xs)) := by
  refine Fn.of_vcN 52 [.tmp 2] Try.func29 rfl rfl rfl rfl rfl (of_decide_eq_true rfl) ?_
  have hlen := rowsL_len xs
  simp -dsimp -implicitDefEqProofs only [go_sem, ↓reduceIte, Nat.reduceEqDiff, Nat.reduceLT, Nat.reduceAdd, Nat.reduceMul, Nat.reduceLeDiff, Nat.le_refl, Int.natCast_zero, Int.toNat_natCast, Int.reduceToNat]
  repeat' (with_reducible refine And.intro ?_ ?_)
  all_goals try omega
  refine Later.lp [0] [9, 14, 23, 50, 51] [6] (fun k : Nat => k ≤ (rowsL xs).length) (fun k => [(3, .ref 6 0 0 k)]) (fun k => [(6, .row 0 ⟨1, false⟩ true (((rowsL xs).take k).map eI))]) (fun k => (rowsL xs).length - k) 0 (Nat.zero_le _) ?_ rfl (fun k hk => ?_)
  · simp -dsimp -implicitDefEqProofs only [go_sem, ↓reduceIte, Nat.reduceEqDiff, Nat.reduceLT, Nat.reduceAdd, Nat.reduceMul, Nat.reduceLeDiff, Nat.le_refl, Int.natCast_zero, Int.toNat_natCast, Int.reduceToNat]
    all_goals simp
  · have hm : min k (rowsL xs).length = k := by omega
    simp -dsimp -implicitDefEqProofs only [pick_nil, pick_cons, look_nil, look_cons, dropB_nil, dropB_cons, inD_nil, inD_cons, inE_nil, inE_cons, or_t_l, or_f_l, Nat.reduceBEq, Nat.reduceDiv, Nat.reduceAdd, beq_self_eq_true, Bool.false_eq_true, Bool.or_false, ↓reduceIte, Nat.reduceEqDiff, List.cons_append, List.nil_append]
    simp -dsimp -implicitDefEqProofs only [go_sem, ↓reduceIte, Nat.reduceEqDiff, Nat.reduceLT, Nat.reduceAdd, Nat.reduceMul, Nat.reduceLeDiff, Nat.le_refl, Int.natCast_zero, Int.toNat_natCast, Int.reduceToNat]
    refine Later.up [0, 3] [9, 14, 23] [] xs.length (fun _ => True) (fun i => [(5, eI i), (4, eI (leastN xs k i))]) (fun _ => []) trivial ?_ rfl (fun i hi _ => ?_) (fun _ => ?_)
    · simp -dsimp -implicitDefEqProofs only [go_sem, ↓reduceIte, Nat.reduceEqDiff, Nat.reduceLT, Nat.reduceAdd, Nat.reduceMul, Nat.reduceLeDiff, Nat.le_refl, Int.natCast_zero, Int.toNat_natCast, Int.reduceToNat, leastN_zero]
    · have gi := get_some hi
      have li := lt_len hi
      have hs := leastN_succ xs k i hi
      have hx := h0 xs[i] (List.getElem_mem hi)
      rcases Nat.eq_zero_or_pos k with hk0 | hk0
      · have hc : cand (rowsL xs) k xs[i] = true := by simp [cand, hk0]
        have hd : (((k : Nat) : Int) == 0) = true := by simp [hk0]
        rw [leastSt, hc, Bool.true_and] at hs
        clear hc
        simp -dsimp -implicitDefEqProofs only [pick_nil, pick_cons, look_nil, look_cons, dropB_nil, dropB_cons, inD_nil, inD_cons, inE_nil, inE_cons, or_t_l, or_f_l, Nat.reduceBEq, Nat.reduceDiv, Nat.reduceAdd, beq_self_eq_true, Bool.false_eq_true, Bool.or_false, ↓reduceIte, Nat.reduceEqDiff, List.cons_append, List.nil_append]
        rw [hs]
        clear hs
        simp -dsimp -implicitDefEqProofs only [go_sem, ↓reduceIte, Nat.reduceEqDiff, Nat.reduceLT, Nat.reduceAdd, Nat.reduceMul, Nat.reduceLeDiff, Nat.le_refl, Int.natCast_zero, Int.toNat_natCast, Int.reduceToNat, li, gi, hd, hm]
        repeat' first
          | (refine Br.intro (fun _ => ?_) (fun _ => ?_) <;> try simp -dsimp -implicitDefEqProofs only [go_sem, ↓reduceIte, Nat.reduceEqDiff, Nat.reduceLT, Nat.reduceAdd, Nat.reduceMul, Nat.reduceLeDiff, Nat.le_refl, Int.natCast_zero, Int.toNat_natCast, Int.reduceToNat, *])
          | (with_reducible refine And.intro ?_ ?_)
          | (refine Later.draw mixed rfl ?_; simp -dsimp -implicitDefEqProofs only [go_sem, ↓reduceIte, Nat.reduceEqDiff, Nat.reduceLT, Nat.reduceAdd, Nat.reduceMul, Nat.reduceLeDiff, Nat.le_refl, Int.natCast_zero, Int.toNat_natCast, Int.reduceToNat, li, gi, hd, hm])
        all_goals first
          | omega
          | (refine ⟨?_, ?_⟩ <;> omega)
          | rfl
          | (simp_all; done)
          | (simp_all; omega)
          | trace_state
      · have hk1 : k - 1 < (rowsL xs).length := by omega
        have gk : (((rowsL xs).map eI).take k)[((k : Int) - 1).toNat]? = some (eI (rowsL xs)[k - 1]) := by
          rw [pred_toNat hk0, List.getElem?_take_of_lt (by omega), List.getElem?_map, List.getElem?_eq_getElem hk1]; rfl
        have hc : cand (rowsL xs) k xs[i] = decide (xs[i] > (rowsL xs)[k - 1]) := by
          have : (k == 0) = false := by simp; omega
          simp [cand, this, List.getD_eq_getElem?_getD, hk1]
        have hd : (((k : Nat) : Int) == 0) = false := by simp; omega
        rw [leastSt, hc] at hs
        clear hc
        simp -dsimp -implicitDefEqProofs only [pick_nil, pick_cons, look_nil, look_cons, dropB_nil, dropB_cons, inD_nil, inD_cons, inE_nil, inE_cons, or_t_l, or_f_l, Nat.reduceBEq, Nat.reduceDiv, Nat.reduceAdd, beq_self_eq_true, Bool.false_eq_true, Bool.or_false, ↓reduceIte, Nat.reduceEqDiff, List.cons_append, List.nil_append]
        rw [hs]
        clear hs
        simp -dsimp -implicitDefEqProofs only [go_sem, ↓reduceIte, Nat.reduceEqDiff, Nat.reduceLT, Nat.reduceAdd, Nat.reduceMul, Nat.reduceLeDiff, Nat.le_refl, Int.natCast_zero, Int.toNat_natCast, Int.reduceToNat, li, gi, hd, hm, gk]
        repeat' first
          | (refine Br.intro (fun _ => ?_) (fun _ => ?_) <;> try simp -dsimp -implicitDefEqProofs only [go_sem, ↓reduceIte, Nat.reduceEqDiff, Nat.reduceLT, Nat.reduceAdd, Nat.reduceMul, Nat.reduceLeDiff, Nat.le_refl, Int.natCast_zero, Int.toNat_natCast, Int.reduceToNat, *])
          | (with_reducible refine And.intro ?_ ?_)
          | (refine Later.draw mixed rfl ?_; simp -dsimp -implicitDefEqProofs only [go_sem, ↓reduceIte, Nat.reduceEqDiff, Nat.reduceLT, Nat.reduceAdd, Nat.reduceMul, Nat.reduceLeDiff, Nat.le_refl, Int.natCast_zero, Int.toNat_natCast, Int.reduceToNat, li, gi, hd, hm, gk])
        all_goals first
          | omega
          | (refine ⟨?_, ?_⟩ <;> omega)
          | rfl
          | (simp_all; done)
          | (simp_all; omega)
          | trace_state
    · have hL := leastN_len xs h0 k hk
      rcases Nat.lt_or_ge k (rowsL xs).length with hk2 | hk2
      · rw [dif_pos hk2] at hL
        have hpos := h0 _ ((rowsL_mem xs _).1 (List.getElem_mem hk2))
        have hn : decide ((rowsL xs)[k] < 0) = false := by simp; omega
        simp -dsimp -implicitDefEqProofs only [pick_nil, pick_cons, look_nil, look_cons, dropB_nil, dropB_cons, inD_nil, inD_cons, inE_nil, inE_cons, or_t_l, or_f_l, Nat.reduceBEq, Nat.reduceDiv, Nat.reduceAdd, beq_self_eq_true, Bool.false_eq_true, Bool.or_false, ↓reduceIte, Nat.reduceEqDiff, List.cons_append, List.nil_append]
        rw [hL]
        clear hL
        simp -dsimp -implicitDefEqProofs only [go_sem, ↓reduceIte, Nat.reduceEqDiff, Nat.reduceLT, Nat.reduceAdd, Nat.reduceMul, Nat.reduceLeDiff, Nat.le_refl, Int.natCast_zero, Int.toNat_natCast, Int.reduceToNat, nlt_len, hn, hm]
        repeat' first
          | (refine Br.intro (fun _ => ?_) (fun _ => ?_) <;> try simp -dsimp -implicitDefEqProofs only [go_sem, ↓reduceIte, Nat.reduceEqDiff, Nat.reduceLT, Nat.reduceAdd, Nat.reduceMul, Nat.reduceLeDiff, Nat.le_refl, Int.natCast_zero, Int.toNat_natCast, Int.reduceToNat, *])
          | (with_reducible refine And.intro ?_ ?_)
        all_goals first
          | omega
          | rfl
          | (simp; done)
          | exact take_map_snoc eI hk2
          | (refine ⟨k + 1, by omega, by omega, ?_⟩
             simp -dsimp -implicitDefEqProofs only [go_sem, ↓reduceIte, Nat.reduceEqDiff, Nat.reduceLT, Nat.reduceAdd, Nat.reduceMul, Nat.reduceLeDiff, Nat.le_refl, Int.natCast_zero, Int.toNat_natCast, Int.reduceToNat, hm]
             repeat' (with_reducible refine And.intro ?_ ?_)
             all_goals first
               | omega
               | rfl
               | (simp; done)
               | exact take_map_snoc eI hk2
               | trace_state)
          | trace_state
      · rw [dif_neg (by omega)] at hL
        have : k = (rowsL xs).length := by omega
        subst this
        simp -dsimp -implicitDefEqProofs only [pick_nil, pick_cons, look_nil, look_cons, dropB_nil, dropB_cons, inD_nil, inD_cons, inE_nil, inE_cons, or_t_l, or_f_l, Nat.reduceBEq, Nat.reduceDiv, Nat.reduceAdd, beq_self_eq_true, Bool.false_eq_true, Bool.or_false, ↓reduceIte, Nat.reduceEqDiff, List.cons_append, List.nil_append]
        rw [hL]
        clear hL
        simp -dsimp -implicitDefEqProofs only [go_sem, ↓reduceIte, Nat.reduceEqDiff, Nat.reduceLT, Nat.reduceAdd, Nat.reduceMul, Nat.reduceLeDiff, Nat.le_refl, Int.natCast_zero, Int.toNat_natCast, Int.reduceToNat, nlt_len]
        repeat' first
          | (refine Br.intro (fun _ => ?_) (fun _ => ?_) <;> try simp -dsimp -implicitDefEqProofs only [go_sem, ↓reduceIte, Nat.reduceEqDiff, Nat.reduceLT, Nat.reduceAdd, Nat.reduceMul, Nat.reduceLeDiff, Nat.le_refl, Int.natCast_zero, Int.toNat_natCast, Int.reduceToNat, *])
          | (with_reducible refine And.intro ?_ ?_)
        all_goals first
          | omega
          | rfl
          | (simp; done)
          | (simp_all; done)
          | trace_state
end Go.Vc


/-
  Contracts of the functions on makers and locks.
-/
set_option linter.unusedVariables false
set_option linter.unusedSimpArgs false
set_option linter.unnecessarySimpa false
namespace Go.Vc
open Go.Proofs
set_option maxRecDepth 100000
def lockSet (m : MkM) (xs : List Int) : Bool := decide (xs.length ≠ 0) && rises xs m.depths
def isLk0 (m : MkM) (l : List (List Int)) : Bool := ((l.length : Int) == m.chambers) && l.all (lockSet m)
def isLk (m : MkM) (l : List (List Int)) : Bool := isMk m && isLk0 m l
end Go.Vc


/-
  Picking: what the functions on it compute; plain facts.
-/
set_option linter.unusedVariables false
set_option linter.unusedSimpArgs false
set_option linter.unnecessarySimpa false
namespace Go.Vc
structure PkM where
  chamber : Int
  depth : Int
  deriving DecidableEq, Inhabited
def ordOk (m : MkM) (o : List Int) : Bool := ((o.length : Int) == m.chambers) && ((o.all fun x => isIn x 0 (m.chambers - 1)) && decide o.Nodup)
theorem rises_iff (xs : List Int) (n : Int) : rises xs n = true ↔ (∀ i (h : i < xs.length), 0 ≤ xs[i] ∧ xs[i] < n) ∧ ∀ i (h : i + 1 < xs.length), xs[i] < xs[i + 1] := by
  have e : ∀ i (h : i < xs.length), xs.getD i 0 = xs[i] := fun i h => by simp [List.getD_eq_getElem?_getD, h]
  rw [rises, List.all_eq_true]
  constructor
  · intro h
    refine ⟨fun i hi => ?_, fun i hi => ?_⟩
    · have := h i (List.mem_range.2 hi)
      simp only [riseAt, Bool.and_eq_true, decide_eq_true_eq, e i hi] at this
      exact this.1
    · have := h (i + 1) (List.mem_range.2 hi)
      simp only [riseAt, Bool.and_eq_true, decide_eq_true_eq, e _ hi, Bool.or_eq_true, beq_iff_eq, Nat.add_sub_cancel, e i (by omega)] at this
      exact this.2.resolve_left (by omega)
  · rintro ⟨h1, h2⟩ i hi
    have hi := List.mem_range.1 hi
    simp only [riseAt, Bool.and_eq_true, decide_eq_true_eq, Bool.or_eq_true, beq_iff_eq, e i hi]
    refine ⟨h1 i hi, ?_⟩
    cases i with
    | zero => exact .inl rfl
    | succ i => exact .inr (by rw [Nat.add_sub_cancel, e i (by omega)]; exact h2 i hi)
/-- what a lock, an order and set chambers that are as described are like -/
structure Pk (m : MkM) (l : List (List Int)) (o : List Int) : Prop where
  ch : (o.length : Int) = m.chambers
  ln : l.length = o.length
  n6 : o.length ≤ 6
  n2 : 2 ≤ o.length
  d8 : 2 ≤ m.depths ∧ m.depths ≤ 8
  io : ∀ i (h : i < o.length), 0 ≤ o[i] ∧ o[i] < o.length
  nd : o.Nodup
  st : ∀ i (h : i < l.length), 0 < l[i].length ∧ rises l[i] m.depths = true
theorem Pk.of {m : MkM} {l : List (List Int)} {o : List Int} (h1 : isLk m l = true) (h2 : ordOk m o = true) : Pk m l o := by
  simp only [isLk, isLk0, Bool.and_eq_true, beq_iff_eq] at h1
  simp only [ordOk, Bool.and_eq_true, beq_iff_eq, decide_eq_true_eq, List.all_eq_true] at h2
  have h3 := isMk_num h1.1
  refine ⟨h2.1, by omega, by omega, by omega, h3.2, fun i hi => ?_, h2.2.2, fun i hi => ?_⟩
  · have := h2.2.1 _ (List.getElem_mem hi)
    simp [isIn] at this; omega
  · have := List.all_eq_true.1 h1.2.2 _ (List.getElem_mem hi)
    simp only [lockSet, Bool.and_eq_true, decide_eq_true_eq] at this
    exact ⟨by omega, this.2⟩
structure PS where
  n : Nat
  cuts : List Int
  falls : Int
end Go.Vc


/-
  Contracts of the functions on access tables and systems.
-/
set_option linter.unusedVariables false
set_option linter.unusedSimpArgs false
set_option linter.unnecessarySimpa false
namespace Go.Vc
open Go.Proofs
set_option maxRecDepth 100000
def rowOk (n : Nat) (r : List Int) : Bool := (r.length == n) && decide (1 ≤ r.length) && decide (r.length ≤ 12) && r.all fun x => isIn x 0 1
def isTb (t : List (List Int)) : Bool := decide (1 ≤ t.length) && decide (t.length ≤ 10) && t.all (rowOk (t.getD 0 []).length)
theorem isTb_no {t : List (List Int)} {i : Nat} (hi : i < t.length) (h : rowOk (t.getD 0 []).length t[i] = false) : isTb t = false := by
  rw [isTb, all_no hi h]; simp
theorem isTb_num {t : List (List Int)} (h : isTb t = true) : 1 ≤ t.length ∧ t.length ≤ 10 ∧ 1 ≤ (t.getD 0 []).length ∧ (t.getD 0 []).length ≤ 12 ∧ ∀ i (hi : i < t.length), t[i].length = (t.getD 0 []).length := by
  simp only [isTb, Bool.and_eq_true, decide_eq_true_eq] at h
  have hr : ∀ i (hi : i < t.length), rowOk (t.getD 0 []).length t[i] = true := fun i hi => List.all_eq_true.1 h.2 _ (List.getElem_mem hi)
  have h0 := hr 0 (by omega)
  have e : t.getD 0 [] = t[0]'(by omega) := by simp [List.getD_eq_getElem?_getD, show 0 < t.length by omega]
  simp only [rowOk, Bool.and_eq_true, decide_eq_true_eq, beq_iff_eq] at h0 hr
  rw [← e] at h0
  exact ⟨h.1.1, h.1.2, h0.1.1.2, h0.1.2, fun i hi => (hr i hi).1.1.1⟩
theorem c_iIsTable (t : List (List Int)) (h : t.length ≤ 1048576) (h2 : ∀ x ∈ t, x.length ≤ 1048576) : Fn Try.prog 26 [eIss t] true (· = eB (isTb t)) := by
  refine Fn.of_vcN 42 [.tmp 2] Try.func26 rfl rfl rfl rfl rfl (of_decide_eq_true rfl) ?_
  simp -dsimp -implicitDefEqProofs only [go_sem, ↓reduceIte, Nat.reduceEqDiff, Nat.reduceLT, Nat.reduceAdd, Nat.reduceMul, Nat.reduceLeDiff, Nat.le_refl, Int.natCast_zero, Int.toNat_natCast, Int.reduceToNat]
  refine Later.up [0, 5, 6] [12, 16, 20, 25, 30] [] t.length (fun i => (t.take i).all (rowOk (t.getD 0 []).length)) (fun i => [(7, eI i)]) (fun _ => []) (by simp) ?_ rfl (fun i hi hI => ?_) (fun hI => ?_)
  · simp -dsimp -implicitDefEqProofs only [go_sem, ↓reduceIte, Nat.reduceEqDiff, Nat.reduceLT, Nat.reduceAdd, Nat.reduceMul, Nat.reduceLeDiff, Nat.le_refl, Int.natCast_zero, Int.toNat_natCast, Int.reduceToNat]
  · have h00 : 0 < t.length := by omega
    have g0 := get_some h00
    have gd : t.getD 0 [] = t[0] := by simp [List.getD_eq_getElem?_getD, h00]
    have hx := h2 t[i] (List.getElem_mem hi)
    have hx0 := h2 t[0] (List.getElem_mem h00)
    have gi := get_some hi
    have li := lt_len hi
    have no : rowOk t[0].length t[i] = false → isTb t = false := fun h => isTb_no hi (by rw [gd]; exact h)
    have yes : rowOk t[0].length t[i] = true → (t.take (i + 1)).all (rowOk (t.getD 0 []).length) = true := fun h => by rw [all_take _ _ _ hi, hI, gd, h]; rfl
    clear gd
    simp -dsimp -implicitDefEqProofs only [pick_nil, pick_cons, look_nil, look_cons, dropB_nil, dropB_cons, inD_nil, inD_cons, inE_nil, inE_cons, or_t_l, or_f_l, Nat.reduceBEq, Nat.reduceDiv, Nat.reduceAdd, beq_self_eq_true, Bool.false_eq_true, Bool.or_false, ↓reduceIte, Nat.reduceEqDiff, List.cons_append, List.nil_append]
    simp -dsimp -implicitDefEqProofs only [go_sem, ↓reduceIte, Nat.reduceEqDiff, Nat.reduceLT, Nat.reduceAdd, Nat.reduceMul, Nat.reduceLeDiff, Nat.le_refl, Int.natCast_zero, Int.toNat_natCast, Int.reduceToNat, li, gi, g0]
    repeat' first
      | (refine Br.intro (fun _ => ?_) (fun _ => ?_) <;> try simp -dsimp -implicitDefEqProofs only [go_sem, ↓reduceIte, Nat.reduceEqDiff, Nat.reduceLT, Nat.reduceAdd, Nat.reduceMul, Nat.reduceLeDiff, Nat.le_refl, Int.natCast_zero, Int.toNat_natCast, Int.reduceToNat, *])
      | (with_reducible refine And.intro ?_ ?_)
      | (refine sCallT_one (c_allWithin t[i] 0 1 (by omega)) ?_; try simp -dsimp -implicitDefEqProofs only [go_sem, ↓reduceIte, Nat.reduceEqDiff, Nat.reduceLT, Nat.reduceAdd, Nat.reduceMul, Nat.reduceLeDiff, Nat.le_refl, Int.natCast_zero, Int.toNat_natCast, Int.reduceToNat, *])
    all_goals first
      | omega
      | (refine ⟨?_, ?_⟩ <;> omega)
      | rfl
      | (simp; done)
      | (rw [no]; clear no yes; simp_all [rowOk]; done) | (rw [no]; clear no yes; simp_all [rowOk]; omega) | (refine yes ?_; clear no yes; simp_all [rowOk]; done) | (refine yes ?_; clear no yes; simp_all [rowOk]; omega)
      | trace_state
  · simp -dsimp -implicitDefEqProofs only [pick_nil, pick_cons, look_nil, look_cons, dropB_nil, dropB_cons, inD_nil, inD_cons, inE_nil, inE_cons, or_t_l, or_f_l, Nat.reduceBEq, Nat.reduceDiv, Nat.reduceAdd, beq_self_eq_true, Bool.false_eq_true, Bool.or_false, ↓reduceIte, Nat.reduceEqDiff, List.cons_append, List.nil_append]
    simp -dsimp -implicitDefEqProofs only [go_sem, ↓reduceIte, Nat.reduceEqDiff, Nat.reduceLT, Nat.reduceAdd, Nat.reduceMul, Nat.reduceLeDiff, Nat.le_refl, Int.natCast_zero, Int.toNat_natCast, Int.reduceToNat, nlt_len]
    rw [List.take_length] at hI
    repeat' first
      | (refine Br.intro (fun _ => ?_) (fun _ => ?_) <;> try simp -dsimp -implicitDefEqProofs only [go_sem, ↓reduceIte, Nat.reduceEqDiff, Nat.reduceLT, Nat.reduceAdd, Nat.reduceMul, Nat.reduceLeDiff, Nat.le_refl, Int.natCast_zero, Int.toNat_natCast, Int.reduceToNat, *])
      | (with_reducible refine And.intro ?_ ?_)
    all_goals first
      | omega
      | (simp_all [isTb]; done)
      | (rename_i hx
         have h3 : 1 ≤ t.length := by have := of_decide_eq_true hx; omega
         have h4 : decide ((t.length : Int) ≤ 10) = decide (t.length ≤ 10) := by rw [decide_eq_decide]; omega
         rw [isTb, hI, decide_eq_true h3, h4, Bool.true_and, Bool.and_true])
      | (rename_i hx
         have h3 : ¬ 1 ≤ t.length := by have := of_decide_eq_false hx; omega
         rw [isTb, decide_eq_false h3]; rfl)
      | trace_state
theorem c_sIsTable (t : List (List Int)) (h : t.length ≤ 1048576) (h2 : ∀ x ∈ t, x.length ≤ 1048576) : Fn Try.prog 28 [eIss t] true (· = eB (isTb t)) := by
  refine Fn.of_vcN 52 [.tmp 2] Try.func28 rfl rfl rfl rfl rfl (of_decide_eq_true rfl) ?_
  simp -dsimp -implicitDefEqProofs only [go_sem, ↓reduceIte, Nat.reduceEqDiff, Nat.reduceLT, Nat.reduceAdd, Nat.reduceMul, Nat.reduceLeDiff, Nat.le_refl, Int.natCast_zero, Int.toNat_natCast, Int.reduceToNat]
  repeat' first
    | (refine Br.intro (fun _ => ?_) (fun _ => ?_) <;> try simp -dsimp -implicitDefEqProofs only [go_sem, ↓reduceIte, Nat.reduceEqDiff, Nat.reduceLT, Nat.reduceAdd, Nat.reduceMul, Nat.reduceLeDiff, Nat.le_refl, Int.natCast_zero, Int.toNat_natCast, Int.reduceToNat, *])
    | (with_reducible refine And.intro ?_ ?_)
    | (refine sCallT_one (c_l01In _ _ _) ?_; try simp -dsimp -implicitDefEqProofs only [go_sem, ↓reduceIte, Nat.reduceEqDiff, Nat.reduceLT, Nat.reduceAdd, Nat.reduceMul, Nat.reduceLeDiff, Nat.le_refl, Int.natCast_zero, Int.toNat_natCast, Int.reduceToNat, *])
  all_goals try (first | omega | (simp_all [isTb, isIn]; omega))
  rename_i hl
  refine Later.up [0] [11, 19, 23, 30, 31, 39, 50] [] t.length (fun i => (t.take i).all (rowOk (t.getD 0 []).length)) (fun i => [(3, eI i)]) (fun _ => []) (by simp) ?_ rfl (fun i hi hI => ?_) (fun hI => ?_)
  · simp -dsimp -implicitDefEqProofs only [go_sem, ↓reduceIte, Nat.reduceEqDiff, Nat.reduceLT, Nat.reduceAdd, Nat.reduceMul, Nat.reduceLeDiff, Nat.le_refl, Int.natCast_zero, Int.toNat_natCast, Int.reduceToNat]
  · have h00 : 0 < t.length := by omega
    have g0 := get_some h00
    have gd : t.getD 0 [] = t[0] := by simp [List.getD_eq_getElem?_getD, h00]
    have hx := h2 t[i] (List.getElem_mem hi)
    have hx0 := h2 t[0] (List.getElem_mem h00)
    have gi := get_some hi
    have li := lt_len hi
    have no : rowOk t[0].length t[i] = false → isTb t = false := fun h => isTb_no hi (by rw [gd]; exact h)
    have yes : rowOk t[0].length t[i] = true → (t.take (i + 1)).all (rowOk (t.getD 0 []).length) = true := fun h => by rw [all_take _ _ _ hi, hI, gd, h]; rfl
    clear gd hI
    simp -dsimp -implicitDefEqProofs only [pick_nil, pick_cons, look_nil, look_cons, dropB_nil, dropB_cons, inD_nil, inD_cons, inE_nil, inE_cons, or_t_l, or_f_l, Nat.reduceBEq, Nat.reduceDiv, Nat.reduceAdd, beq_self_eq_true, Bool.false_eq_true, Bool.or_false, ↓reduceIte, Nat.reduceEqDiff, List.cons_append, List.nil_append]
    simp -dsimp -implicitDefEqProofs only [go_sem, ↓reduceIte, Nat.reduceEqDiff, Nat.reduceLT, Nat.reduceAdd, Nat.reduceMul, Nat.reduceLeDiff, Nat.le_refl, Int.natCast_zero, Int.toNat_natCast, Int.reduceToNat, li, gi, g0]
    repeat' first
      | (refine Br.intro (fun _ => ?_) (fun _ => ?_) <;> try simp -dsimp -implicitDefEqProofs only [go_sem, ↓reduceIte, Nat.reduceEqDiff, Nat.reduceLT, Nat.reduceAdd, Nat.reduceMul, Nat.reduceLeDiff, Nat.le_refl, Int.natCast_zero, Int.toNat_natCast, Int.reduceToNat, *])
      | (with_reducible refine And.intro ?_ ?_)
      | (refine Later.draw mixed rfl ?_; try simp -dsimp -implicitDefEqProofs only [go_sem, ↓reduceIte, Nat.reduceEqDiff, Nat.reduceLT, Nat.reduceAdd, Nat.reduceMul, Nat.reduceLeDiff, Nat.le_refl, Int.natCast_zero, Int.toNat_natCast, Int.reduceToNat, *])
      | (refine sCallT_one (c_l01In _ _ _) ?_; try simp -dsimp -implicitDefEqProofs only [go_sem, ↓reduceIte, Nat.reduceEqDiff, Nat.reduceLT, Nat.reduceAdd, Nat.reduceMul, Nat.reduceLeDiff, Nat.le_refl, Int.natCast_zero, Int.toNat_natCast, Int.reduceToNat, *])
      | (refine sCallX_one (c_l01In _ _ _) ?_; try simp -dsimp -implicitDefEqProofs only [go_sem, ↓reduceIte, Nat.reduceEqDiff, Nat.reduceLT, Nat.reduceAdd, Nat.reduceMul, Nat.reduceLeDiff, Nat.le_refl, Int.natCast_zero, Int.toNat_natCast, Int.reduceToNat, *])
    all_goals try (first | omega | (refine ⟨?_, ?_⟩ <;> omega) | rfl | (simp; done) | (rw [no]; clear no yes; simp_all [rowOk, isIn]; done) | (rw [no]; clear no yes; simp_all [rowOk, isIn]; omega) | (refine yes ?_; clear no yes; simp_all [rowOk, isIn]; done) | (refine yes ?_; clear no yes; simp_all [rowOk, isIn]; omega))
    refine Later.up [0, 3] [39, 50] [] t[i].length (fun j => (t[i].take j).all (fun x => isIn x 0 1)) (fun j => [(4, eI j)]) (fun _ => []) (by simp) ?_ rfl (fun j hj hJ => ?_) (fun hJ => ?_)
    · simp -dsimp -implicitDefEqProofs only [go_sem, ↓reduceIte, Nat.reduceEqDiff, Nat.reduceLT, Nat.reduceAdd, Nat.reduceMul, Nat.reduceLeDiff, Nat.le_refl, Int.natCast_zero, Int.toNat_natCast, Int.reduceToNat]
    · have gj := get_some hj
      have lj := lt_len hj
      have no1 : isIn t[i][j] 0 1 = false → isTb t = false := fun h => no (by rw [rowOk, all_no (p := fun x => isIn x 0 1) hj h]; simp)
      have yes1 : isIn t[i][j] 0 1 = true → (t[i].take (j + 1)).all (fun x => isIn x 0 1) = true := fun h => by rw [all_take _ _ _ hj, hJ, h]; rfl
      clear no yes
      simp -dsimp -implicitDefEqProofs only [pick_nil, pick_cons, look_nil, look_cons, dropB_nil, dropB_cons, inD_nil, inD_cons, inE_nil, inE_cons, or_t_l, or_f_l, Nat.reduceBEq, Nat.reduceDiv, Nat.reduceAdd, beq_self_eq_true, Bool.false_eq_true, Bool.or_false, ↓reduceIte, Nat.reduceEqDiff, List.cons_append, List.nil_append]
      simp -dsimp -implicitDefEqProofs only [go_sem, ↓reduceIte, Nat.reduceEqDiff, Nat.reduceLT, Nat.reduceAdd, Nat.reduceMul, Nat.reduceLeDiff, Nat.le_refl, Int.natCast_zero, Int.toNat_natCast, Int.reduceToNat, li, gi, gj, lj]
      repeat' first
        | (refine Br.intro (fun _ => ?_) (fun _ => ?_) <;> try simp -dsimp -implicitDefEqProofs only [go_sem, ↓reduceIte, Nat.reduceEqDiff, Nat.reduceLT, Nat.reduceAdd, Nat.reduceMul, Nat.reduceLeDiff, Nat.le_refl, Int.natCast_zero, Int.toNat_natCast, Int.reduceToNat, *])
        | (with_reducible refine And.intro ?_ ?_)
        | (refine sCallT_one (c_l01In _ _ _) ?_; try simp -dsimp -implicitDefEqProofs only [go_sem, ↓reduceIte, Nat.reduceEqDiff, Nat.reduceLT, Nat.reduceAdd, Nat.reduceMul, Nat.reduceLeDiff, Nat.le_refl, Int.natCast_zero, Int.toNat_natCast, Int.reduceToNat, *])
      all_goals first
        | omega
        | (refine ⟨?_, ?_⟩ <;> omega)
        | rfl
        | (simp; done)
        | (rw [no1]; clear no1 yes1; simp_all; done)
        | (refine yes1 ?_; clear no1 yes1; simp_all; done)
        | trace_state
    · simp -dsimp -implicitDefEqProofs only [pick_nil, pick_cons, look_nil, look_cons, dropB_nil, dropB_cons, inD_nil, inD_cons, inE_nil, inE_cons, or_t_l, or_f_l, Nat.reduceBEq, Nat.reduceDiv, Nat.reduceAdd, beq_self_eq_true, Bool.false_eq_true, Bool.or_false, ↓reduceIte, Nat.reduceEqDiff, List.cons_append, List.nil_append]
      rw [List.take_length] at hJ
      simp -dsimp -implicitDefEqProofs only [go_sem, ↓reduceIte, Nat.reduceEqDiff, Nat.reduceLT, Nat.reduceAdd, Nat.reduceMul, Nat.reduceLeDiff, Nat.le_refl, Int.natCast_zero, Int.toNat_natCast, Int.reduceToNat, li, gi, nlt_len]
      repeat' first
        | (refine Br.intro (fun _ => ?_) (fun _ => ?_) <;> try simp -dsimp -implicitDefEqProofs only [go_sem, ↓reduceIte, Nat.reduceEqDiff, Nat.reduceLT, Nat.reduceAdd, Nat.reduceMul, Nat.reduceLeDiff, Nat.le_refl, Int.natCast_zero, Int.toNat_natCast, Int.reduceToNat, *])
        | (with_reducible refine And.intro ?_ ?_)
      all_goals first
        | omega
        | (refine ⟨?_, ?_⟩ <;> omega)
        | rfl
        | (simp; done)
        | (refine yes ?_; clear no yes; simp_all [rowOk, isIn]; done)
        | (refine yes ?_; clear no yes; simp_all [rowOk, isIn]; omega)
        | trace_state
  · simp -dsimp -implicitDefEqProofs only [pick_nil, pick_cons, look_nil, look_cons, dropB_nil, dropB_cons, inD_nil, inD_cons, inE_nil, inE_cons, or_t_l, or_f_l, Nat.reduceBEq, Nat.reduceDiv, Nat.reduceAdd, beq_self_eq_true, Bool.false_eq_true, Bool.or_false, ↓reduceIte, Nat.reduceEqDiff, List.cons_append, List.nil_append]
    simp -dsimp -implicitDefEqProofs only [go_sem, ↓reduceIte, Nat.reduceEqDiff, Nat.reduceLT, Nat.reduceAdd, Nat.reduceMul, Nat.reduceLeDiff, Nat.le_refl, Int.natCast_zero, Int.toNat_natCast, Int.reduceToNat, nlt_len]
    rw [List.take_length] at hI
    first
      | (simp_all [isTb, isIn]; done)
      | (simp_all [isTb, isIn]; omega)
      | trace_state
theorem any_take {α : Type} (p : α → Bool) (xs : List α) (i : Nat) (h : i < xs.length) : (xs.take (i + 1)).any p = ((xs.take i).any p || p xs[i]) := by
  rw [List.take_succ_eq_append_getElem h, List.any_append]; simp
end Go.Vc


/-
  Contracts: the source that hands out numbers.
-/
set_option linter.unusedVariables false
set_option linter.unusedSimpArgs false
set_option linter.unnecessarySimpa false
namespace Go.Vc
open Go.Proofs
set_option maxRecDepth 100000
attribute [go_sem] Option.map_none Nat.sub_zero
abbrev eY (b : UInt8) : AV := .val (.int .u8 b.toNat)
abbrev eYs (bs : List UInt8) : AV := .arr ⟨1, false⟩ (bs.map eY)
structure Src where
  seed : Int
  pos : Nat
def SrcOk (s : Src) : Prop := 0 ≤ s.seed ∧ s.seed < 2147483647
abbrev srcB (v : Nat) (bs : List UInt8) (s : Src) : Blk := .box v [eYs bs, eI s.pos, eI s.seed]
def nx (bs : List UInt8) (n : Int) (s : Src) : Int × Src :=
  if n ≤ 1 then (0, s) else
    if h : s.pos < bs.length then
      ((if n ≤ 256 ∧ ((s.pos : Int) + 1).tmod 2 = 0 then (bs[s.pos].toNat : Int) else ((s.seed * 48271 + 29).tmod 2147483647).tdiv 31 + (bs[s.pos].toNat : Int)).tmod n, ⟨(s.seed * 48271 + 29).tmod 2147483647, s.pos + 1⟩)
    else (((s.seed * 48271 + 29).tmod 2147483647).tdiv 31 |>.tmod n, ⟨(s.seed * 48271 + 29).tmod 2147483647, s.pos⟩)
theorem tmod_in {x n : Int} (hx : 0 ≤ x) (hn : 0 < n) : 0 ≤ x.tmod n ∧ x.tmod n < n := ⟨Int.tmod_nonneg _ hx, Int.tmod_lt_of_pos _ hn⟩
theorem nx_ok (bs : List UInt8) (n : Int) {s : Src} (h : SrcOk s) : 0 ≤ (nx bs n s).1 ∧ (n ≤ 1 → (nx bs n s).1 = 0) ∧ (1 < n → (nx bs n s).1 < n) ∧ SrcOk (nx bs n s).2 := by
  obtain ⟨h1, h2⟩ := h
  have hs := tmod_in (x := s.seed * 48271 + 29) (n := 2147483647) (by omega) (by omega)
  have hx : 0 ≤ ((s.seed * 48271 + 29).tmod 2147483647).tdiv 31 := Int.tdiv_nonneg hs.1 (by omega)
  unfold nx
  split
  · exact ⟨Int.le_refl _, fun _ => rfl, fun h => absurd h (by omega), h1, h2⟩
  · split
    · rename_i hn hp
      have hb : 0 ≤ (if n ≤ 256 ∧ ((s.pos : Int) + 1).tmod 2 = 0 then (bs[s.pos].toNat : Int) else ((s.seed * 48271 + 29).tmod 2147483647).tdiv 31 + (bs[s.pos].toNat : Int)) := by split <;> omega
      have := tmod_in (n := n) hb (by omega)
      exact ⟨this.1, fun h => absurd h hn, fun _ => this.2, hs⟩
    · rename_i hn hp
      have := tmod_in (n := n) hx (by omega)
      exact ⟨this.1, fun h => absurd h hn, fun _ => this.2, hs⟩
set_option maxHeartbeats 4000000 in
theorem c_l01Next (v : Nat) (bs : List UInt8) (n : Int) (s : Src) (h : SrcOk s) (hl : bs.length ≤ 4096) :
    FnM Try.prog 19 [srcB v bs s] [.ptr 1000000000 v 0 0, eI n] (fun x io => x = eI (nx bs n s).1 ∧ io = [srcB v bs (nx bs n s).2]) := by
  refine FnM.of_vcN 78 [.tmp 4] Try.func19 rfl rfl rfl rfl rfl (of_decide_eq_true rfl) ?_
  obtain ⟨h1, h2⟩ := h
  have hs := tmod_in (x := s.seed * 48271 + 29) (n := 2147483647) (by omega) (by omega)
  have hx : 0 ≤ ((s.seed * 48271 + 29).tmod 2147483647).tdiv 31 := Int.tdiv_nonneg hs.1 (by omega)
  have hx2 : ((s.seed * 48271 + 29).tmod 2147483647).tdiv 31 ≤ 2147483647 := by
    have : ((s.seed * 48271 + 29).tmod 2147483647).tdiv 31 ≤ (s.seed * 48271 + 29).tmod 2147483647 := Int.tdiv_le_self _ hs.1
    omega
  by_cases hn : n ≤ 1
  · have hF : nx bs n s = (0, s) := by rw [nx, if_pos hn]
    rw [hF]
    have hn' := decide_eq_true hn
    simp -dsimp -implicitDefEqProofs only [go_sem, ↓reduceIte, Nat.reduceEqDiff, Nat.reduceLT, Nat.reduceAdd, Nat.reduceMul, Nat.reduceLeDiff, Nat.le_refl, Int.natCast_zero, Int.toNat_natCast, Int.reduceToNat, hn']
    all_goals (first | omega | (refine ⟨?_, ?_⟩ <;> omega) | (simp; done) | (simp; omega) | (refine ⟨?_, ?_⟩ <;> omega) | (exact rfl) | (simp; done) | (simp_all; done) | (simp_all; omega) | (exfalso; simp_all [bne]; done) | trace_state)
  have hn' := decide_eq_false hn
  by_cases hp : s.pos < bs.length
  · have hF : nx bs n s = ((if n ≤ 256 ∧ ((s.pos : Int) + 1).tmod 2 = 0 then (bs[s.pos].toNat : Int) else ((s.seed * 48271 + 29).tmod 2147483647).tdiv 31 + (bs[s.pos].toNat : Int)).tmod n, ⟨(s.seed * 48271 + 29).tmod 2147483647, s.pos + 1⟩) := by
      rw [nx, if_neg hn, dif_pos hp]
    have hb : (bs[s.pos].toNat : Int) ≤ 255 := by have := bs[s.pos].toNat_lt; omega
    have gp := get_some hp
    have lp := lt_len hp
    have ep : ((s.pos : Int) + 1 - 1).toNat = s.pos := by omega
    rw [hF]
    clear hF
    generalize hz : bs[s.pos] = z at gp hb
    by_cases hc : n ≤ 256 ∧ ((s.pos : Int) + 1).tmod 2 = 0
    · rw [if_pos hc]
      have c1 := decide_eq_true hc.1
      have c2 : (((s.pos : Int) + 1).tmod 2 == 0) = true := beq_iff_eq.2 hc.2
      clear hc
      simp -dsimp -implicitDefEqProofs only [go_sem, ↓reduceIte, Nat.reduceEqDiff, Nat.reduceLT, Nat.reduceAdd, Nat.reduceMul, Nat.reduceLeDiff, Nat.le_refl, Int.natCast_zero, Int.toNat_natCast, Int.reduceToNat, hn']
      repeat' first
        | (refine Br.intro (fun _ => ?_) (fun _ => ?_) <;> try simp -dsimp -implicitDefEqProofs only [go_sem, ↓reduceIte, Nat.reduceEqDiff, Nat.reduceLT, Nat.reduceAdd, Nat.reduceMul, Nat.reduceLeDiff, Nat.le_refl, Int.natCast_zero, Int.toNat_natCast, Int.reduceToNat, *])
        | (with_reducible refine And.intro ?_ ?_)
        | (refine Later.draw mixed rfl ?_; try simp -dsimp -implicitDefEqProofs only [go_sem, ↓reduceIte, Nat.reduceEqDiff, Nat.reduceLT, Nat.reduceAdd, Nat.reduceMul, Nat.reduceLeDiff, Nat.le_refl, Int.natCast_zero, Int.toNat_natCast, Int.reduceToNat, lp, gp, ep])
      all_goals (first | omega | (refine ⟨?_, ?_⟩ <;> omega) | (simp; done) | (simp; omega) | (refine ⟨?_, ?_⟩ <;> omega) | (exact rfl) | (simp; done) | (simp_all; done) | (simp_all; omega) | (exfalso; simp_all [bne]; done) | trace_state)
    · rw [if_neg hc]
      have c3 : (decide (n ≤ 256) && (((s.pos : Int) + 1).tmod 2 == 0)) = false := by
        rw [Bool.eq_false_iff]; intro h; apply hc; simpa using h
      clear hc
      simp -dsimp -implicitDefEqProofs only [go_sem, ↓reduceIte, Nat.reduceEqDiff, Nat.reduceLT, Nat.reduceAdd, Nat.reduceMul, Nat.reduceLeDiff, Nat.le_refl, Int.natCast_zero, Int.toNat_natCast, Int.reduceToNat, hn']
      repeat' first
        | (refine Br.intro (fun _ => ?_) (fun _ => ?_) <;> try simp -dsimp -implicitDefEqProofs only [go_sem, ↓reduceIte, Nat.reduceEqDiff, Nat.reduceLT, Nat.reduceAdd, Nat.reduceMul, Nat.reduceLeDiff, Nat.le_refl, Int.natCast_zero, Int.toNat_natCast, Int.reduceToNat, *])
        | (with_reducible refine And.intro ?_ ?_)
        | (refine Later.draw mixed rfl ?_; try simp -dsimp -implicitDefEqProofs only [go_sem, ↓reduceIte, Nat.reduceEqDiff, Nat.reduceLT, Nat.reduceAdd, Nat.reduceMul, Nat.reduceLeDiff, Nat.le_refl, Int.natCast_zero, Int.toNat_natCast, Int.reduceToNat, lp, gp, ep])
      all_goals (first | omega | (refine ⟨?_, ?_⟩ <;> omega) | (simp; done) | (simp; omega) | (refine ⟨?_, ?_⟩ <;> omega) | (exact rfl) | (simp; done) | (simp_all; done) | (simp_all; omega) | (exfalso; simp_all [bne]; done) | trace_state)
  · have hF : nx bs n s = (((s.seed * 48271 + 29).tmod 2147483647).tdiv 31 |>.tmod n, ⟨(s.seed * 48271 + 29).tmod 2147483647, s.pos⟩) := by
      rw [nx, if_neg hn, dif_neg hp]
    have lp : decide ((s.pos : Int) < (bs.length : Int)) = false := decide_eq_false (by omega)
    rw [hF]
    clear hF
    simp -dsimp -implicitDefEqProofs only [go_sem, ↓reduceIte, Nat.reduceEqDiff, Nat.reduceLT, Nat.reduceAdd, Nat.reduceMul, Nat.reduceLeDiff, Nat.le_refl, Int.natCast_zero, Int.toNat_natCast, Int.reduceToNat, hn']
    repeat' first
      | (refine Br.intro (fun _ => ?_) (fun _ => ?_) <;> try simp -dsimp -implicitDefEqProofs only [go_sem, ↓reduceIte, Nat.reduceEqDiff, Nat.reduceLT, Nat.reduceAdd, Nat.reduceMul, Nat.reduceLeDiff, Nat.le_refl, Int.natCast_zero, Int.toNat_natCast, Int.reduceToNat, *])
      | (with_reducible refine And.intro ?_ ?_)
      | (refine Later.draw mixed rfl ?_; try simp -dsimp -implicitDefEqProofs only [go_sem, ↓reduceIte, Nat.reduceEqDiff, Nat.reduceLT, Nat.reduceAdd, Nat.reduceMul, Nat.reduceLeDiff, Nat.le_refl, Int.natCast_zero, Int.toNat_natCast, Int.reduceToNat, lp])
    all_goals (first | omega | (refine ⟨?_, ?_⟩ <;> omega) | (simp; done) | (simp; omega) | (refine ⟨?_, ?_⟩ <;> omega) | (exact rfl) | (simp; done) | (simp_all; done) | (simp_all; omega) | (exfalso; simp_all [bne]; done) | trace_state)
attribute [irreducible] nx
end Go.Vc


/-
  Codes, read as data.
-/
set_option linter.unusedVariables false
set_option linter.unusedSimpArgs false
set_option linter.unnecessarySimpa false
namespace Go.Vc
open Go.Proofs
set_option maxRecDepth 100000
theorem dec_Code : Dec Try.prog 22 (fun xs : List UInt8 => xs.length ≤ maxLen ∧ ∀ a ∈ xs, True) (fun xs => [eYs xs]) :=
  Dec.slice false 1 Try.underlying22 (by kernel_rfl) (by decide) (fun _ => rfl) (fun _ => rfl) (Dec.u8 Try.underlying5)
end Go.Vc


/-
  Contracts: picking from a list by the source; a source from a code.
-/
set_option linter.unusedVariables false
set_option linter.unusedSimpArgs false
set_option linter.unnecessarySimpa false
namespace Go.Vc
open Go.Proofs
set_option maxRecDepth 100000
def pk (bs : List UInt8) (xs : List Int) (s : Src) : Int × Src := (xs.getD (nx bs xs.length s).1.toNat 0, (nx bs xs.length s).2)
theorem pk_ok (bs : List UInt8) (xs : List Int) {s : Src} (h : SrcOk s) : SrcOk (pk bs xs s).2 := (nx_ok bs xs.length h).2.2.2
theorem c_l01Pick (v v2 : Nat) (d : Bool) (bs : List UInt8) (xs : List Int) (ys : List AV) (s : Src) (hy : ys = xs.map eI) (h0 : 0 < xs.length) (hx : xs.length ≤ 1000) (h : SrcOk s) (hl : bs.length ≤ 4096) :
    FnM Try.prog 38 [srcB v bs s, .row v2 ⟨1, false⟩ d ys] [.ptr 1000000000 v 0 0, .ref 1000000001 v2 0 xs.length] (fun x io => x = eI (pk bs xs s).1 ∧ io = [srcB v bs (pk bs xs s).2, .row v2 ⟨1, false⟩ d ys]) := by
  subst hy
  refine FnM.of_vcN 12 [.tmp 4] Try.func38 rfl rfl rfl rfl rfl (of_decide_eq_true rfl) ?_
  obtain ⟨h1, h2, h3, h4⟩ := nx_ok bs xs.length h
  have hc := fun v => c_l01Next v bs xs.length s h hl
  have hi : (nx bs xs.length s).1.toNat < xs.length := by
    by_cases h : (xs.length : Int) ≤ 1
    · rw [h2 h]; exact h0
    · have := h3 (by omega); omega
  have gi := get_some hi
  have hp : (pk bs xs s).1 = xs[(nx bs xs.length s).1.toNat] := by rw [pk]; simp [List.getD_eq_getElem?_getD, hi]
  have hp2 : (pk bs xs s).2 = (nx bs xs.length s).2 := rfl
  rw [hp, hp2]
  clear hp hp2
  simp -dsimp -implicitDefEqProofs only [go_sem, ↓reduceIte, Nat.reduceEqDiff, Nat.reduceLT, Nat.reduceAdd, Nat.reduceMul, Nat.reduceLeDiff, Nat.le_refl, Int.natCast_zero, Int.toNat_natCast, Int.reduceToNat]
  repeat' first
    | (with_reducible refine And.intro ?_ ?_)
    | (refine sCallT_io [1000000000] ?_; simp -dsimp -implicitDefEqProofs only [go_sem, ↓reduceIte, Nat.reduceEqDiff, Nat.reduceLT, Nat.reduceAdd, Nat.reduceMul, Nat.reduceLeDiff, Nat.le_refl, Int.natCast_zero, Int.toNat_natCast, Int.reduceToNat]; refine sCallM_one (hc _) ?_; simp -dsimp -implicitDefEqProofs only [go_sem, ↓reduceIte, Nat.reduceEqDiff, Nat.reduceLT, Nat.reduceAdd, Nat.reduceMul, Nat.reduceLeDiff, Nat.le_refl, Int.natCast_zero, Int.toNat_natCast, Int.reduceToNat, gi])
  all_goals first
    | omega
    | (refine ⟨?_, ?_⟩ <;> omega)
    | (refine ⟨?_, ?_⟩ <;> first | omega | rfl)
    | rfl
    | (simp; done)
    | trace_state
end Go.Vc


/-
  Draws of buildings, plans and access tables: what is drawn.
-/
set_option linter.unusedVariables false
set_option linter.unusedSimpArgs false
set_option linter.unnecessarySimpa false
namespace Go.Vc
open Go.Proofs
set_option maxRecDepth 100000
structure BS where
  ps : List Int
  ds : List Bool
  gs : List Int
  src : Src
def lastB (n : Int) (i : Nat) : Bool := (i : Int) == n - 1
def doorB (bs : List UInt8) (n : Int) (i : Nat) (s : Src) : Bool := lastB n i || decide ((nx bs 3 s).1 > 0)
def bldStep (bs : List UInt8) (n : Int) (i : Nat) (z : BS) : BS :=
  ⟨z.ps ++ [z.gs.getD (nx bs z.gs.length z.src).1.toNat 0], z.ds ++ [doorB bs n i (nx bs z.gs.length z.src).2], if doorB bs n i (nx bs z.gs.length z.src).2 = true then z.gs else z.gs ++ [(i : Int)],
    if lastB n i = true then (nx bs z.gs.length z.src).2 else (nx bs 3 (nx bs z.gs.length z.src).2).2⟩
def bldTo (bs : List UInt8) (n : Int) (s : Src) : Nat → BS
  | 0 => ⟨[-1], [false], [0], s⟩
  | j + 1 => bldStep bs n (j + 1) (bldTo bs n s j)
theorem bldTo_zero (bs : List UInt8) (n : Int) (s : Src) : bldTo bs n s 0 = ⟨[-1], [false], [0], s⟩ := rfl
theorem bldTo_succ (bs : List UInt8) (n : Int) (s : Src) (j : Nat) : bldTo bs n s (j + 1) = bldStep bs n (j + 1) (bldTo bs n s j) := rfl
/-- parents come before their children -/
def okP (ps : List Int) : Prop := ∀ i, i < ps.length → -1 ≤ ps.getD i 0 ∧ ps.getD i 0 < i ∧ (0 < i → 0 ≤ ps.getD i 0)
structure bldOk (z : BS) (j : Nat) : Prop where
  src : SrcOk z.src
  lp : z.ps.length = j + 1
  ld : z.ds.length = j + 1
  lg : 1 ≤ z.gs.length ∧ z.gs.length ≤ j + 1
  gs : ∀ g ∈ z.gs, 0 ≤ g ∧ g ≤ j
  ps : okP z.ps
theorem getD_app {xs : List Int} {x : Int} {i : Nat} : (xs ++ [x]).getD i 0 = if i < xs.length then xs.getD i 0 else if i = xs.length then x else 0 := by
  rw [List.getD_eq_getElem?_getD, List.getElem?_append]
  split
  · rw [List.getD_eq_getElem?_getD]
  · split
    · rename_i h; subst h; simp
    · rename_i h1 h2
      rw [List.getElem?_eq_none (by simp; omega)]; rfl
theorem nx_lt (bs : List UInt8) {n : Nat} (hn : 1 ≤ n) {s : Src} (h : SrcOk s) : (nx bs n s).1.toNat < n ∧ 0 ≤ (nx bs n s).1 := by
  obtain ⟨h1, h2, h3, _⟩ := nx_ok bs n h
  by_cases h4 : (n : Int) ≤ 1
  · rw [h2 h4]; exact ⟨by simp; omega, by simp⟩
  · have := h3 (by omega); omega
theorem bldStep_ok {bs : List UInt8} {n : Int} {j : Nat} {z : BS} (h : bldOk z j) : bldOk (bldStep bs n (j + 1) z) (j + 1) := by
  obtain ⟨h1, h2, h3, h4, h5, h6⟩ := h
  have a := nx_ok bs z.gs.length h1
  have a2 := nx_lt bs h4.1 h1
  have b := nx_ok bs 3 a.2.2.2
  have hg := h5 _ (List.getElem_mem a2.1)
  have e : z.gs.getD (nx bs z.gs.length z.src).1.toNat 0 = z.gs[(nx bs z.gs.length z.src).1.toNat]'a2.1 := by simp [List.getD_eq_getElem?_getD, a2.1]
  refine ⟨?_, by simp [bldStep, h2], by simp [bldStep, h3], ?_, ?_, ?_⟩
  · show SrcOk (if _ then _ else _)
    split
    · exact a.2.2.2
    · exact b.2.2.2
  · have hgs : (bldStep bs n (j + 1) z).gs = if doorB bs n (j + 1) (nx bs z.gs.length z.src).2 = true then z.gs else z.gs ++ [((j + 1 : Nat) : Int)] := rfl
    rw [hgs]
    split
    · exact ⟨h4.1, by omega⟩
    · rw [List.length_append, List.length_singleton]; omega
  · intro g hgm
    change g ∈ (if _ then _ else _ : List Int) at hgm
    split at hgm
    · have := h5 g hgm; omega
    · rcases List.mem_append.1 hgm with h | h
      · have := h5 g h; omega
      · simp at h; omega
  · intro i hi
    change i < (z.ps ++ [_]).length at hi
    have hps : (bldStep bs n (j + 1) z).ps = z.ps ++ [z.gs.getD (nx bs z.gs.length z.src).1.toNat 0] := rfl
    rw [hps, getD_app, e]
    split
    · exact h6 i (by assumption)
    · rw [if_pos (by simp at hi; omega)]
      have : i = j + 1 := by simp at hi; omega
      omega
theorem bldTo_ok {bs : List UInt8} {n : Int} {s : Src} (h : SrcOk s) : ∀ j, bldOk (bldTo bs n s j) j
  | 0 => ⟨h, rfl, rfl, by simp [bldTo_zero], fun g hg => by simp [bldTo_zero] at hg; omega, fun i hi => by
      have : i = 0 := by simpa [bldTo_zero] using hi
      subst this
      simp [bldTo_zero]⟩
  | j + 1 => bldStep_ok (bldTo_ok h j)
def bldN (bs : List UInt8) (s : Src) : Int := 2 + (nx bs 9 s).1
def bldD (bs : List UInt8) (s : Src) : BS := bldTo bs (bldN bs s) (nx bs 9 s).2 (bldN bs s - 1).toNat
theorem bldN_in (bs : List UInt8) {s : Src} (h : SrcOk s) : 2 ≤ bldN bs s ∧ bldN bs s ≤ 10 := by
  have := nx_ok bs 9 h
  have h3 := this.2.2.1 (by omega)
  unfold bldN; omega
theorem bldD_ok (bs : List UInt8) {s : Src} (h : SrcOk s) : bldOk (bldD bs s) (bldN bs s - 1).toNat ∧ (bldD bs s).ds.getD (bldN bs s - 1).toNat false = true := by
  have hn := bldN_in bs h
  refine ⟨bldTo_ok (nx_ok bs 9 h).2.2.2 _, ?_⟩
  unfold bldD
  obtain ⟨j, hj⟩ : ∃ j, (bldN bs s - 1).toNat = j + 1 := ⟨(bldN bs s - 2).toNat, by omega⟩
  rw [hj, bldTo_succ]
  have hl := (bldTo_ok (bs := bs) (n := bldN bs s) (nx_ok bs 9 h).2.2.2 j).ld
  show (_ ++ [_]).getD (j + 1) false = true
  rw [List.getD_eq_getElem?_getD, List.getElem?_append_right (by omega), hl]
  have : lastB (bldN bs s) (j + 1) = true := by unfold lastB; rw [beq_iff_eq]; omega
  simp [doorB, this]
/-- is a node under another one -/
def undF (ps : List Int) : Nat → Int → Int → Bool
  | 0, _, _ => false
  | k + 1, node, other => if node < 0 then false else if (node == other) = true then true else undF ps k (ps.getD node.toNat 0) other
theorem undF_root {ps : List Int} (h : okP ps) : ∀ (k : Nat) (node : Int), 0 ≤ node → node < k → node < ps.length → undF ps k node 0 = true
  | 0, node, h0, h1, _ => by omega
  | k + 1, node, h0, h1, h2 => by
    simp only [undF]
    rw [if_neg (by omega)]
    by_cases e : node = 0
    · subst e; rfl
    · rw [if_neg (by simpa using e)]
      have hi := h node.toNat (by omega)
      exact undF_root h k _ (hi.2.2 (by omega)) (by omega) (by omega)
def doorsU (ps : List Int) (ds : List Bool) (node : Int) : List Int := flt (fun i => ds.getD i false && undF ps ps.length (i : Int) node) ds.length
def mayE (ps : List Int) (nodes : List Int) (door : Int) : Bool := nodes.any fun x => undF ps ps.length door x
/-- the nodes of a drawn key -/
def nodesTo (bs : List UInt8) (s : Src) : Nat → List Int × Src
  | 0 => ([], s)
  | i + 1 => (if ((nx bs 4 (nodesTo bs s i).2).1 == 0) = true then (nodesTo bs s i).1 ++ [(i : Int)] else (nodesTo bs s i).1, (nx bs 4 (nodesTo bs s i).2).2)
theorem nodesTo_succ (bs : List UInt8) (s : Src) (i : Nat) : nodesTo bs s (i + 1) = (if ((nx bs 4 (nodesTo bs s i).2).1 == 0) = true then (nodesTo bs s i).1 ++ [(i : Int)] else (nodesTo bs s i).1, (nx bs 4 (nodesTo bs s i).2).2) := rfl
theorem nodesTo_ok {bs : List UInt8} {s : Src} (h : SrcOk s) : ∀ i, SrcOk (nodesTo bs s i).2 ∧ (nodesTo bs s i).1.length ≤ i
  | 0 => ⟨h, Nat.le_refl _⟩
  | i + 1 => by
    obtain ⟨h1, h2⟩ := nodesTo_ok h i (bs := bs)
    rw [nodesTo_succ]
    refine ⟨(nx_ok bs 4 h1).2.2.2, ?_⟩
    simp only
    split
    · simp; omega
    · omega
def nodesD (bs : List UInt8) (n : Nat) (s : Src) : List Int × Src :=
  if ((((nodesTo bs s n).1.length : Int) == 0) = true) then ([(nx bs n (nodesTo bs s n).2).1], (nx bs n (nodesTo bs s n).2).2) else nodesTo bs s n
theorem nodesD_ok {bs : List UInt8} {s : Src} (h : SrcOk s) (n : Nat) : SrcOk (nodesD bs n s).2 ∧ (nodesD bs n s).1.length ≤ n + 1 := by
  obtain ⟨h1, h2⟩ := nodesTo_ok h n (bs := bs)
  unfold nodesD
  split
  · exact ⟨(nx_ok bs n h1).2.2.2, by simp⟩
  · exact ⟨h1, by omega⟩
def rightsTo (bs : List UInt8) (n : Nat) (s : Src) : Nat → List (List Int) × Src
  | 0 => ([], s)
  | i + 1 => ((rightsTo bs n s i).1 ++ [(nodesD bs n (rightsTo bs n s i).2).1], (nodesD bs n (rightsTo bs n s i).2).2)
theorem rightsTo_succ (bs : List UInt8) (n : Nat) (s : Src) (i : Nat) : rightsTo bs n s (i + 1) = ((rightsTo bs n s i).1 ++ [(nodesD bs n (rightsTo bs n s i).2).1], (nodesD bs n (rightsTo bs n s i).2).2) := rfl
theorem rightsTo_ok {bs : List UInt8} {s : Src} (h : SrcOk s) (n : Nat) : ∀ i, SrcOk (rightsTo bs n s i).2 ∧ (rightsTo bs n s i).1.length = i ∧ ∀ x ∈ (rightsTo bs n s i).1, x.length ≤ n + 1
  | 0 => ⟨h, rfl, fun x hx => by cases hx⟩
  | i + 1 => by
    obtain ⟨h1, h2, h3⟩ := rightsTo_ok h n i (bs := bs)
    obtain ⟨g1, g2⟩ := nodesD_ok h1 n (bs := bs)
    rw [rightsTo_succ]
    refine ⟨g1, by simp [h2], fun x hx => ?_⟩
    rcases List.mem_append.1 hx with hx | hx
    · exact h3 x hx
    · simp at hx; subst hx; exact g2
structure PlanM where
  ps : List Int
  ds : List Bool
  rights : List (List Int)
def planD (bs : List UInt8) (s : Src) : PlanM × Src :=
  (⟨(bldD bs s).ps, (bldD bs s).ds, (rightsTo bs (bldD bs s).ps.length (nx bs 4 (bldD bs s).src).2 (1 + (nx bs 4 (bldD bs s).src).1).toNat).1⟩, (rightsTo bs (bldD bs s).ps.length (nx bs 4 (bldD bs s).src).2 (1 + (nx bs 4 (bldD bs s).src).1).toNat).2)
structure planOk (p : PlanM) : Prop where
  lp : p.ps.length ≤ 10
  ld : p.ds.length = p.ps.length
  lr : 1 ≤ p.rights.length ∧ p.rights.length ≤ 4
  rs : ∀ x ∈ p.rights, x.length ≤ 11
  ps : okP p.ps
  some : 1 ≤ (doorsU p.ps p.ds 0).length
theorem planD_ok (bs : List UInt8) {s : Src} (h : SrcOk s) : SrcOk (planD bs s).2 ∧ planOk (planD bs s).1 := by
  have hn := bldN_in bs h
  obtain ⟨⟨b1, b2, b3, b4, b5, b6⟩, b7⟩ := bldD_ok bs h
  have a := nx_ok bs 4 b1
  have a3 := a.2.2.1 (by omega)
  obtain ⟨r1, r2, r3⟩ := rightsTo_ok a.2.2.2 (bldD bs s).ps.length (1 + (nx bs 4 (bldD bs s).src).1).toNat (bs := bs)
  refine ⟨r1, by show (bldD bs s).ps.length ≤ 10; omega, by show (bldD bs s).ds.length = (bldD bs s).ps.length; omega, ?_, fun x hx => ?_, b6, ?_⟩
  · show 1 ≤ (rightsTo _ _ _ _).1.length ∧ (rightsTo _ _ _ _).1.length ≤ 4
    rw [r2]; omega
  · have := r3 x hx; omega
  · show 1 ≤ (doorsU (bldD bs s).ps (bldD bs s).ds 0).length
    have hlt : (bldN bs s - 1).toNat < (bldD bs s).ds.length := by omega
    have hu := undF_root b6 (bldD bs s).ps.length ((bldN bs s - 1).toNat : Int) (by omega) (by omega) (by omega)
    have hp : ((bldD bs s).ds.getD (bldN bs s - 1).toNat false && undF (bldD bs s).ps (bldD bs s).ps.length ((bldN bs s - 1).toNat : Int) 0) = true := by rw [b7, hu]; rfl
    unfold doorsU
    generalize (bldD bs s).ps = ps at *
    generalize (bldD bs s).ds = ds at *
    generalize (bldN bs s - 1).toNat = i at *
    have key : ∀ n, i < n → 1 ≤ (flt (fun i => ds.getD i false && undF ps ps.length (i : Int) 0) n).length := by
      intro n
      induction n with
      | zero => intro h; omega
      | succ n ih =>
        intro h
        rw [flt_succ]
        by_cases e : i = n
        · subst e; rw [if_pos hp]; simp
        · have := ih (by omega)
          split
          · simp
          · exact this
    exact key _ hlt
def accRow (p : PlanM) (nodes : List Int) : List Int := (doorsU p.ps p.ds 0).map fun d => if mayE p.ps nodes d = true then 1 else 0
def accT (p : PlanM) : List (List Int) := p.rights.map (accRow p)
/-- a row of a drawn table -/
def trowTo (bs : List UInt8) (s : Src) : Nat → List Int × Src
  | 0 => ([], s)
  | k + 1 => ((trowTo bs s k).1 ++ [(pk bs [0, 1, 1] (trowTo bs s k).2).1], (pk bs [0, 1, 1] (trowTo bs s k).2).2)
theorem trowTo_succ (bs : List UInt8) (s : Src) (k : Nat) : trowTo bs s (k + 1) = ((trowTo bs s k).1 ++ [(pk bs [0, 1, 1] (trowTo bs s k).2).1], (pk bs [0, 1, 1] (trowTo bs s k).2).2) := rfl
theorem trowTo_ok {bs : List UInt8} {s : Src} (h : SrcOk s) : ∀ k, SrcOk (trowTo bs s k).2 ∧ (trowTo bs s k).1.length = k
  | 0 => ⟨h, rfl⟩
  | k + 1 => by
    obtain ⟨h1, h2⟩ := trowTo_ok h k (bs := bs)
    rw [trowTo_succ]
    exact ⟨pk_ok bs _ h1, by simp [h2]⟩
def ttabTo (bs : List UInt8) (c : Nat) (s : Src) : Nat → List (List Int) × Src
  | 0 => ([], s)
  | i + 1 => ((ttabTo bs c s i).1 ++ [(trowTo bs (ttabTo bs c s i).2 c).1], (trowTo bs (ttabTo bs c s i).2 c).2)
theorem ttabTo_succ (bs : List UInt8) (c : Nat) (s : Src) (i : Nat) : ttabTo bs c s (i + 1) = ((ttabTo bs c s i).1 ++ [(trowTo bs (ttabTo bs c s i).2 c).1], (trowTo bs (ttabTo bs c s i).2 c).2) := rfl
theorem ttabTo_ok {bs : List UInt8} {s : Src} (h : SrcOk s) (c : Nat) : ∀ i, SrcOk (ttabTo bs c s i).2 ∧ (ttabTo bs c s i).1.length = i ∧ ∀ x ∈ (ttabTo bs c s i).1, x.length = c
  | 0 => ⟨h, rfl, fun x hx => by cases hx⟩
  | i + 1 => by
    obtain ⟨h1, h2, h3⟩ := ttabTo_ok h c i (bs := bs)
    obtain ⟨g1, g2⟩ := trowTo_ok h1 c (bs := bs)
    rw [ttabTo_succ]
    refine ⟨g1, by simp [h2], fun x hx => ?_⟩
    rcases List.mem_append.1 hx with hx | hx
    · exact h3 x hx
    · simp at hx; subst hx; exact g2
def tabV (bs : List UInt8) (s : Src) : List (List Int) × Src :=
  if ((nx bs 3 s).1 == 0) = true then (accT (planD bs (nx bs 3 s).2).1, (planD bs (nx bs 3 s).2).2)
  else ttabTo bs (1 + (nx bs 5 (nx bs 4 (nx bs 3 s).2).2).1).toNat (nx bs 5 (nx bs 4 (nx bs 3 s).2).2).2 (1 + (nx bs 4 (nx bs 3 s).2).1).toNat
theorem flt_len' (p : Nat → Bool) (n : Nat) : (flt p n).length ≤ n := flt_len p n
theorem tabV_ok (bs : List UInt8) {s : Src} (h : SrcOk s) : SrcOk (tabV bs s).2 ∧ 1 ≤ (tabV bs s).1.length ∧ (tabV bs s).1.length ≤ 4 ∧ ∀ x ∈ (tabV bs s).1, 1 ≤ x.length ∧ x.length ≤ 10 := by
  have a := (nx_ok bs 3 h).2.2.2
  unfold tabV
  split
  · obtain ⟨p1, p2, p3, p4, p5, p6, p7⟩ := planD_ok bs a
    have hlen := p4
    refine ⟨p1, by simpa [accT] using p4.1, by simpa [accT] using p4.2, fun x hx => ?_⟩
    simp only [accT, List.mem_map] at hx
    obtain ⟨y, _, rfl⟩ := hx
    have hl := flt_len' (fun i => (planD bs (nx bs 3 s).2).1.ds.getD i false && undF (planD bs (nx bs 3 s).2).1.ps (planD bs (nx bs 3 s).2).1.ps.length (i : Int) 0) (planD bs (nx bs 3 s).2).1.ds.length
    simp only [accRow, List.length_map]
    unfold doorsU at p7 ⊢
    omega
  · have b := nx_ok bs 4 a
    have b3 := b.2.2.1 (by omega)
    have c := nx_ok bs 5 b.2.2.2
    have c3 := c.2.2.1 (by omega)
    obtain ⟨t1, t2, t3⟩ := ttabTo_ok c.2.2.2 (1 + (nx bs 5 (nx bs 4 (nx bs 3 s).2).2).1).toNat (1 + (nx bs 4 (nx bs 3 s).2).1).toNat (bs := bs)
    refine ⟨t1, by omega, by omega, fun x hx => ?_⟩
    have := t3 x hx
    omega
/-- rows are added until the table is long -/
def padF (bs : List UInt8) : Nat → List (List Int) → Src → List (List Int) × Src
  | 0, t, s => (t, s)
  | k + 1, t, s => if decide ((t.length : Int) < 10 + (nx bs 2 s).1) = true then padF bs k (t ++ [t.getD 0 []]) (nx bs 2 s).2 else (t, (nx bs 2 s).2)
theorem padF_ok {bs : List UInt8} : ∀ (k : Nat) (t : List (List Int)) (s : Src), SrcOk s → 1 ≤ t.length → t.length ≤ 11 → (∀ x ∈ t, x.length ≤ 10) → SrcOk (padF bs k t s).2 ∧ (padF bs k t s).1.length ≤ 11 ∧ ∀ x ∈ (padF bs k t s).1, x.length ≤ 13
  | 0, t, s, h, _, h2, h3 => ⟨h, h2, fun x hx => by have := h3 x hx; omega⟩
  | k + 1, t, s, h, h1, h2, h3 => by
    have a := nx_ok bs 2 h
    have a3 := a.2.2.1 (by omega)
    simp only [padF]
    split
    · rename_i hlt
      have hlt := of_decide_eq_true hlt
      refine padF_ok k _ _ a.2.2.2 (by simp) (by simp; omega) fun x hx => ?_
      rcases List.mem_append.1 hx with hx | hx
      · exact h3 x hx
      · simp at hx; subst hx
        rw [List.getElem?_eq_getElem (by omega)]
        exact h3 _ (List.getElem_mem _)
    · exact ⟨a.2.2.2, h2, fun x hx => by have := h3 x hx; omega⟩
def tabW (bs : List UInt8) (t : List (List Int)) (s : Src) : List (List Int) × Src :=
  if ((nx bs 30 s).1 == 0) = true then (t.set 0 ((t.getD 0 []).set 0 (pk bs [-1, 2] (nx bs 30 s).2).1), (pk bs [-1, 2] (nx bs 30 s).2).2)
  else if ((nx bs 30 s).1 == 1) = true then (t ++ [[1]], (nx bs 30 s).2)
  else if ((nx bs 30 s).1 == 2) = true then padF bs (12 - t.length) t (nx bs 30 s).2
  else if ((nx bs 30 s).1 == 3) = true then ([List.replicate (12 + (nx bs 2 (nx bs 30 s).2).1).toNat 0], (nx bs 2 (nx bs 30 s).2).2)
  else if ((nx bs 30 s).1 == 4) = true then ([], (nx bs 30 s).2)
  else (t, (nx bs 30 s).2)
def tabD (bs : List UInt8) (s : Src) : List (List Int) × Src := tabW bs (tabV bs s).1 (tabV bs s).2
theorem tabD_ok (bs : List UInt8) {s : Src} (h : SrcOk s) : SrcOk (tabD bs s).2 ∧ (tabD bs s).1.length ≤ 11 ∧ ∀ x ∈ (tabD bs s).1, x.length ≤ 13 := by
  obtain ⟨h1, h2, h3, h4⟩ := tabV_ok bs h
  unfold tabD
  generalize (tabV bs s).1 = t at *
  generalize (tabV bs s).2 = s1 at *
  have a := nx_ok bs 30 h1
  have ht : ∀ x ∈ t, x.length ≤ 13 := fun x hx => by have := h4 x hx; omega
  unfold tabW
  split
  · refine ⟨pk_ok bs _ a.2.2.2, by simp; omega, fun x hx => ?_⟩
    rcases List.mem_or_eq_of_mem_set hx with hx | rfl
    · exact ht x hx
    · rw [List.length_set, List.getD_eq_getElem?_getD, List.getElem?_eq_getElem (by omega)]
      exact ht _ (List.getElem_mem _)
  split
  · refine ⟨a.2.2.2, by simp; omega, fun x hx => ?_⟩
    rcases List.mem_append.1 hx with hx | hx
    · exact ht x hx
    · simp at hx; subst hx; simp
  split
  · exact padF_ok _ t _ a.2.2.2 h2 (by omega) fun x hx => (h4 x hx).2
  split
  · have b := nx_ok bs 2 a.2.2.2
    have b3 := b.2.2.1 (by omega)
    refine ⟨b.2.2.2, by simp, fun x hx => ?_⟩
    simp at hx; subst hx; simp; omega
  split
  · exact ⟨a.2.2.2, by simp, fun x hx => by cases hx⟩
  · exact ⟨a.2.2.2, by show t.length ≤ 11; omega, ht⟩
end Go.Vc


