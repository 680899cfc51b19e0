/-
  Calls of functions that write blocks of their caller's which name each other (boxes that hold labels): contracts that keep the labels, for recursion by closures.
-/
import Derived.Test.YtlelhmbhhnokoaaDoorVcInl
set_option linter.unusedVariables false
set_option linter.unusedSimpArgs false
set_option linter.unnecessarySimpa false
namespace Go.Vc

def keys (m : Mem) : List Nat := m.map (·.1)
theorem keys_nil : keys [] = [] := rfl
theorem keys_cons (l : Nat) (b : Blk) (r : Mem) : keys ((l, b) :: r) = l :: keys r := rfl
theorem in_keys {m : Mem} {l : Nat} (h : lookB m l ≠ none) : l ∈ keys m := by
  induction m with
  | nil => exact absurd rfl h
  | cons p r ih =>
    obtain ⟨k, v⟩ := p
    rw [lookB_cons] at h
    by_cases e : k = l
    · simp [keys, e]
    · rw [if_neg e] at h
      exact List.mem_cons_of_mem _ (ih h)
theorem of_keys {m : Mem} {l : Nat} (h : l ∈ keys m) : lookB m l ≠ none := by
  induction m with
  | nil => cases h
  | cons p r ih =>
    obtain ⟨k, v⟩ := p
    rw [lookB_cons]
    by_cases e : k = l
    · rw [if_pos e]; exact fun h => by cases h
    · rw [if_neg e]
      refine ih ?_
      rcases List.mem_cons.1 h with h | h
      · exact absurd h.symm e
      · exact h
/-- the labels that a memory's boxes hold are among these -/
def okM (L : List Nat) (m : Mem) : Prop := (∀ l, lookB m l ≠ none → l ∈ L) ∧ ∀ l v xs, lookB m l = some (.box v xs) → ∀ p, p ∈ labsL xs → p.1 ∈ L
def keepsM (L : List Nat) (m m' : Mem) : Prop := (∀ l, l ∈ L → lookB m' l = lookB m l) ∧ okM L m'

def resφ (L : List Nat) (φ : Nat → LS) (l : Nat) : LS := if l ∈ L then φ l else .dead
def resF (L : List Nat) (fp : Nat → List Nat) (l : Nat) : List Nat := if l ∈ L then fp l else []
theorem resφ_in {L : List Nat} {φ : Nat → LS} {l : Nat} (h : l ∈ L) : resφ L φ l = φ l := if_pos h
theorem resF_in {L : List Nat} {fp : Nat → List Nat} {l : Nat} (h : l ∈ L) : resF L fp l = fp l := if_pos h
theorem mem_resF {L : List Nat} {fp : Nat → List Nat} {l b : Nat} (h : b ∈ resF L fp l) : l ∈ L ∧ b ∈ fp l := by
  unfold resF at h
  split at h
  · exact ⟨‹_›, h⟩
  · cases h

section
variable {P : Program} {B : Base} {N : Nat} {φ : Nat → LS} {fp : Nat → List Nat} {S : Nat → Prop} {ts : Env} {m : Mem} {a : Act} {w : World}

theorem RS.sub (h : RS B N φ fp S ts m a w) {L : List Nat} {m' : Mem} (hk : keepsM L m m') (hb : ∀ l, lookB B.m0 l ≠ none → l ∈ L) :
    RS B 0 (resφ L φ) (resF L fp) S [] m' { tmps := #[], defers := [] } w := by
  obtain ⟨k1, k2, k3⟩ := hk
  refine { tm := fun t => by rw [look_nil]; exact .rd _ _ (.undef _), tl := fun t l ver hl => (by rw [look_nil] at hl; cases hl), mNone := fun l hl => ?_, mSome := fun l b hb => ?_, bl := fun l v xs hb l' ver hl => ?_,
           nod := fun l => ?_, dis := fun l l' b h1 h2 => h.dis l l' b (mem_resF h1).2 (mem_resF h2).2, notS := fun l b hb => h.notS l b (mem_resF hb).2, fpB := fun l b hb => h.fpB l b (mem_resF hb).2,
           sB := h.sB, base := h.base, out := h.out, szs := h.szs, kn := fun l ver hl hk => ?_, fix := fun l ver hl hk => ?_, size := h.size, defers := rfl, tsz := rfl, kon := h.kon }
  · by_cases hm : l ∈ L
    · rw [resφ_in hm, resF_in hm]
      rw [k1 l hm] at hl
      exact h.mNone l hl
    · unfold resφ resF
      rw [if_neg hm, if_neg hm]; exact ⟨rfl, rfl⟩
  · have hm := k2 l (by rw [hb]; exact fun e => by cases e)
    have hb2 := hb
    rw [k1 l hm] at hb2
    rw [resF_in hm]
    refine (h.mSome l b hb2).mono (fun _ _ => rfl) (fun _ h => h) (fun l b sh ver cs e _ hb => ⟨cs, e, hb, rfl⟩) (fun _ _ => rfl) (resφ_in hm) fun v xs e l' ver hl' => ?_
    subst e
    rw [resφ_in (k3 l v xs hb _ hl')]
    exact LS.le_refl _ _
  · have hm := k2 l (by rw [hb]; exact fun e => by cases e)
    have hb2 := hb
    rw [k1 l hm] at hb2
    obtain ⟨k, h1, h2⟩ := h.bl l v xs hb2 l' ver hl
    exact ⟨k, (k1 l' (k3 l v xs hb _ hl)).trans h1, h2⟩
  · unfold resF; split
    · exact h.nod l
    · exact List.nodup_nil
  · obtain ⟨k, h1, h2⟩ := h.kn l ver hl hk
    obtain ⟨k0, h3, _⟩ := hk
    exact ⟨k, (k1 l (hb l (by rw [h3]; exact fun e => by cases e))).trans h1, h2⟩
  · obtain ⟨k0, h3, h4⟩ := hk
    rw [resφ_in (hb l (by rw [h3]; exact fun e => by cases e))]
    exact h.fix l ver hl ⟨k0, h3, h4⟩
end

def baseH (w : World) (φ : Nat → LS) (fp : Nat → List Nat) (S : Nat → Prop) (m0 : Mem) : Base := ⟨w, fun l b => b ∈ fp l, S, φ, m0⟩

/-- A contract over the memory m0: called there with xs, it returns a value without labels, and leaves a memory with the same labels. -/
def FnH (P : Program) (f : FuncId) (m0 : Mem) (xs : List AV) (post : AV → Mem → Prop) : Prop :=
  Enters P f ∧ ∀ (w : World) (φ : Nat → LS) (fp : Nat → List Nat) (S : Nat → Prop) (vs : Array Value), vs.size = xs.length →
    RS (baseH w φ fp S m0) vs.size φ fp S (argsE 0 xs) m0 { tmps := vs, defers := [] } w →
    Calls P f vs w fun e w' => ∃ x v m' φ' fp' S', e = .returned v ∧ post x m' ∧ RV w' S' φ' x v ∧ labs x = [] ∧ okM (keys m0) m' ∧ RS (baseH w φ fp S m0) 0 φ' fp' S' [] m' { tmps := #[], defers := [] } w'

theorem FnH.mono {P : Program} {f : FuncId} {m0 : Mem} {xs : List AV} {post post' : AV → Mem → Prop} (h : FnH P f m0 xs post) (hp : ∀ r m', post r m' → post' r m') : FnH P f m0 xs post' :=
  ⟨h.1, fun w φ fp S vs h1 h2 => (h.2 w φ fp S vs h1 h2).mono fun _ _ ⟨x, v, m', φ', fp', S', g1, g2, g3⟩ => ⟨x, v, m', φ', fp', S', g1, hp _ _ g2, g3⟩⟩

def finH (P : Program) (rs : List ResultVar) (L : List Nat) (post : AV → Mem → Prop) : Post
  | .normal => fun ts m => sResults P (fun ys => labsL ys = [] ∧ ∃ m', post (mkRes ys) m' ∧ keepsM L m m') rs ts m []
  | .ret => fun ts m => sResults P (fun ys => labsL ys = [] ∧ ∃ m', post (mkRes ys) m' ∧ keepsM L m m') rs ts m []
  | _ => fun _ _ => False
theorem finH_normal (P : Program) (rs : List ResultVar) (L : List Nat) (post : AV → Mem → Prop) (ts : Env) (m : Mem) :
    finH P rs L post .normal ts m = sResults P (fun ys => labsL ys = [] ∧ ∃ m', post (mkRes ys) m' ∧ keepsM L m m') rs ts m [] := rfl
theorem finH_ret (P : Program) (rs : List ResultVar) (L : List Nat) (post : AV → Mem → Prop) (ts : Env) (m : Mem) :
    finH P rs L post .ret ts m = sResults P (fun ys => labsL ys = [] ∧ ∃ m', post (mkRes ys) m' ∧ keepsM L m m') rs ts m [] := rfl

theorem labs_mkRes {ys : List AV} (h : labsL ys = []) : labs (mkRes ys) = [] := by
  match ys, h with
  | [], _ => simp [mkRes, labs, labsL]
  | [y], h => simpa [mkRes, labsL] using h
  | y :: y' :: r, h => rw [mkRes_two]; simpa [labs] using h

theorem FnH.of_vc' {P : Program} {f : FuncId} {fn : Func} {c : Code} {m0 : Mem} {xs : List AV} {post : AV → Mem → Prop} (hf : P.funcs[f]? = some fn) (hn : (fn.name == "runtime.NumGoroutine") = false) (hb : fn.body = some c)
    (hok : codeOk fn.ntmps c = true) (ha : xs.length ≤ fn.ntmps) (hv : vc P fn.ntmps c (argsE 0 xs) m0 (finH P fn.results.toList (keys m0) post)) : FnH P f m0 xs post := by
  refine ⟨⟨fn, c, hf, hn, hb⟩, fun w φ fp S vs hsz hR0 => ?_⟩
  refine calls_of_wp hf hb ?_
  have hRS : RS (baseH w φ fp S m0) fn.ntmps φ fp S (argsE 0 xs) m0 { tmps := vs ++ Array.replicate (fn.ntmps - vs.size) undef, defers := [] } w := by
    refine { hR0 with tm := fun t => ?_, defers := rfl, tsz := by simp; omega }
    by_cases h : t < xs.length
    · have h1 := hR0.tm t
      have : vs.getD t Go.undef = (vs ++ Array.replicate (fn.ntmps - vs.size) undef).getD t Go.undef := by
        have h2 : t < vs.size := by omega
        simp only [Array.getD_eq_getD_getElem?]
        rw [Array.getElem?_append_left h2]
      rw [← this]; exact h1
    · rw [look_argsE]
      have : (if 0 ≤ t then (xs[t - 0]?).getD AV.undef else .undef) = .undef := by simp [List.getElem?_eq_none (show xs.length ≤ t by omega)]
      rw [this]; exact .rd _ _ (.undef _)
  have hend : ∀ a' w', Done (baseH w φ fp S m0) fn.ntmps (fun ts m => sResults P (fun ys => labsL ys = [] ∧ ∃ m', post (mkRes ys) m' ∧ keepsM (keys m0) m m') fn.results.toList ts m []) a' w' →
      a'.defers = [] ∧ ∃ v, (results fn a'.tmps).run P w' = .ok v w' ∧ ∃ x v' m' φ' fp' S', Ending.returned v = .returned v' ∧ post x m' ∧ RV w' S' φ' x v' ∧ labs x = [] ∧ okM (keys m0) m' ∧ RS (baseH w φ fp S m0) 0 φ' fp' S' [] m' { tmps := #[], defers := [] } w' := by
    rintro a' w' ⟨φ', fp', S', ts', m', h', hk⟩
    refine ⟨h'.defers, ?_⟩
    obtain ⟨ys, us, ⟨hlab, m2, hpost, hkeep⟩, h2, h3, h4⟩ := results_out' h' fn.results.toList [] [] ⟨rfl, fun i hi => absurd hi (Nat.not_lt_zero _)⟩ (fun i hi => absurd hi (Nat.not_lt_zero _)) hk
    obtain ⟨h3a, h3b⟩ := h3
    simp only [List.nil_append] at h3a h3b
    refine ⟨if h : us.toArray.size = 1 then us.toArray[0] else .tuple us.toArray, ?_, mkRes ys, _, m2, resφ (keys m0) φ', resF (keys m0) fp', S', rfl, hpost, ?_, labs_mkRes hlab, hkeep.2, h'.sub hkeep fun l hl => in_keys hl⟩
    · have hm : results fn a'.tmps = (do let vs ← fn.results.mapM (resOne a'.tmps); pure (if h : vs.size = 1 then vs[0] else .tuple vs)) := by
        unfold results
        congr 1
      rw [hm, Sem.run_bind, Array.mapM_eq_mapM_toList]
      have : (List.toArray <$> fn.results.toList.mapM (resOne a'.tmps) : Sem (Array Value)).run P w' = .ok us.toArray w' := by
        rw [map_eq_pure_bind, Sem.run_bind, h2]; rfl
      rw [this]; rfl
    · refine (mkRes_rv h3a h3b).mono (fun _ _ => rfl) (fun _ h => h) (fun l b sh ver cs e _ hb => ⟨cs, e, hb, rfl⟩) fun l ver hl => ?_
      rw [labs_mkRes hlab] at hl; cases hl
  refine wp_mono (vc_sound c _ _ _ hok hv _ _ _ _ _ _ hRS) ?_
  intro e a' w' hq
  cases e with
  | normal => exact hend a' w' hq
  | ret => exact hend a' w' hq
  | _ => obtain ⟨_, _, _, _, _, _, hh⟩ := hq; exact hh.elim

theorem FnH.of_vc {P : Program} {f : FuncId} {fn : Func} {c : Code} {m0 : Mem} {xs : List AV} {post : AV → Mem → Prop} (N : Nat) (rs : List ResultVar) (hf : P.funcs[f]? = some fn) (hN : fn.ntmps = N) (hr : fn.results.toList = rs)
    (hn : (fn.name == "runtime.NumGoroutine") = false) (hb : fn.body = some c) (hok : codeOk N c = true) (ha : xs.length ≤ N) (hv : vc P N c (argsE 0 xs) m0 (finH P rs (keys m0) post)) : FnH P f m0 xs post := by
  subst hN; subst hr; exact FnH.of_vc' hf hn hb hok ha hv

theorem lookB_appL {m' m : Mem} {l : Nat} {b : Blk} (h : lookB m' l = some b) : lookB (m' ++ m) l = some b := by
  induction m' with
  | nil => cases h
  | cons p r ih =>
    obtain ⟨k, v⟩ := p
    rw [List.cons_append, lookB_cons]
    rw [lookB_cons] at h
    by_cases e : k = l
    · rw [if_pos e] at h ⊢; exact h
    · rw [if_neg e] at h ⊢; exact ih h
theorem lookB_appR {m' m : Mem} {l : Nat} (h : lookB m' l = none) : lookB (m' ++ m) l = lookB m l := by
  induction m' with
  | nil => rfl
  | cons p r ih =>
    obtain ⟨k, v⟩ := p
    rw [List.cons_append, lookB_cons]
    rw [lookB_cons] at h
    by_cases e : k = l
    · rw [if_pos e] at h; cases h
    · rw [if_neg e] at h ⊢; exact ih h

/-- A call, with what the caller's upper blocks may share afterwards. -/
def sCallF (P : Program) (f : FuncId) (xs : List AV) (m : Mem) (k : AV → Mem → Prop) : Prop :=
  Enters P f ∧ ∀ (B : Base) (N : Nat) (φ : Nat → LS) (fp : Nat → List Nat) (S : Nat → Prop) (ts : Env) (a : Act) (w : World) (vs : Array Value), RS B N φ fp S ts m a w → vs.size = xs.length →
    (∀ i (h : i < xs.length), RV w S φ xs[i] (vs.toList.getD i Go.undef)) → (∀ i (h : i < xs.length) l ver, (l, ver) ∈ labs xs[i] → known m l ver) →
    Calls P f vs w fun e w' => ∃ v, e = .returned v ∧ ∃ φ' fp' S' m' x, RS B N φ' fp' S' ts m' a w' ∧ RV w' S' φ' x v ∧ (∀ l ver, (l, ver) ∈ labs x → known m' l ver) ∧ k x m' ∧
        ∀ l, lookB m l ≠ none → ioL ≤ l → ∀ b, b ∈ fp' l → w.heap.size ≤ b ∨ b ∈ fp l

theorem sCallF.io {P : Program} {f : FuncId} {xs : List AV} {m : Mem} {k : AV → Mem → Prop} (h : sCallF P f xs m k) : sCallIo P f xs m k := by
  intro B N φ fp S ts a w vs hRS hsz hx hxl
  refine ⟨h.1, (h.2 B N φ fp S ts a w vs hRS hsz hx hxl).mono ?_⟩
  rintro e w' ⟨v, rfl, φ', fp', S', m', x, g1, g2, g3, g4, _⟩
  exact ⟨v, rfl, φ', fp', S', ts, m', x, g1, g2, g3, rfl, g4⟩

theorem sCallF.ren {P : Program} {f : FuncId} : ∀ (ρ : List (Nat × Nat)) {xs : List AV} {m : Mem} {k : AV → Mem → Prop}, renOk ρ m → sCallF P f (rnsL ρ xs) (rnsM ρ m) (fun x m' => k (rnsAb ρ x) (rnsMb ρ m')) → sCallF P f xs m k
  | [], xs, m, k, _, h => by
    simp only [rnsM, rnsL] at h
    rw [show xs.map (rnsA []) = xs from by rw [show rnsA [] = id from rfl, List.map_id]] at h
    exact h
  | (l, l') :: r, xs, m, k, ⟨⟨⟨hl, hio⟩, hh, hl'⟩, hok2⟩, hv => by
    have hlen : (rnL l l' xs).length = xs.length := rnL_length l l' xs
    have e9 : rnsL r (rnL l l' xs) = rnsL ((l, l') :: r) xs := by
      refine List.ext_getElem (by simp [rnsL, hlen]) fun i h1 h2 => ?_
      simp only [rnsL, List.getElem_map]
      rw [rnL_get l l' xs i (by simpa [rnsL] using h2)]; rfl
    have hrec := sCallF.ren r (k := fun x m' => k (rnA l l' x) (rnM l l' m')) (xs := rnL l l' xs) hok2 (by rw [e9]; exact hv)
    refine ⟨hrec.1, fun B N φ fp S ts a w vs h hsz hx hxl => ?_⟩
    have hm0 : lookB B.m0 l' = none := by
      cases he : lookB B.m0 l' with
      | none => rfl
      | some k0 =>
        obtain ⟨k2, h7, _⟩ := h.kn l' k0.ver hio ⟨k0, he, Nat.le_refl _⟩
        rw [show lookB m l' = none from hl'] at h7; cases h7
    have hfp0 : fp l' = [] := (h.mNone l' hl').2
    have h1 := h.ren3 hl hm0 (fun b hb => by rw [hfp0] at hb; cases hb)
    have hne : l ≠ l' := by unfold ioL at *; omega
    have e1 : rl l l' l = l' := by simp [rl]
    have e2 : rl l l' l' = l := by unfold rl; rw [if_neg (Ne.symm hne), if_pos rfl]
    have hlk : ∀ x, lookB (rnM l l' m) x ≠ none ↔ lookB m (rl l l' x) ≠ none := fun x => by rw [lookB_rnM]; cases lookB m (rl l l' x) <;> simp
    have := hrec.2 B N _ _ S _ a w vs h1 (by rw [hlen]; exact hsz) (fun i hi => by
      have h' : i < xs.length := by rw [hlen] at hi; exact hi
      rw [rnL_get l l' xs i h' hi]; exact (hx i h').ren l l') (fun i hi l0 ver hl0 => by
      have h' : i < xs.length := by rw [hlen] at hi; exact hi
      rw [rnL_get l l' xs i h' hi, labs_rnA] at hl0
      obtain ⟨⟨k0, v0⟩, q1, q2⟩ := List.mem_map.1 hl0
      simp only [Prod.mk.injEq] at q2
      obtain ⟨rfl, rfl⟩ := q2
      obtain ⟨b0, q3, q4⟩ := hxl i h' k0 v0 q1
      exact ⟨rnB l l' b0, by rw [lookB_rnM, rl_rl, q3]; rfl, by rw [rnB_ver]; exact q4⟩)
    refine this.mono ?_
    rintro e w' ⟨v, rfl, φ', fp', S', m', x, g1, g2, g3, g4, g5⟩
    have hb5 : ∀ b, b ∈ fp' l' → B.w0.heap.size ≤ b := by
      intro b hb'
      rcases g5 l' ((hlk l').2 (by rw [e2]; exact hh)) hio b hb' with h5 | h5
      · exact Nat.le_trans h.size h5
      · have h5 : b ∈ fp (rl l l' l') := h5
        rw [e2] at h5
        rcases (h.fpB l b h5).2 with h6 | ⟨_, _, h6, _⟩
        · exact h6
        · exact absurd hl (Nat.not_lt.2 h6)
    have g6 := g1.ren3 hl hm0 hb5
    refine ⟨v, rfl, fun k => φ' (rl l l' k), fun k => fp' (rl l l' k), S', rnM l l' m', rnA l l' x, ?_, g2.ren l l', fun l0 ver hl0 => ?_, g4, fun l0 h0 h2 b hb' => ?_⟩
    · have ets : ∀ t, look (rnE l l' (rnE l l' ts)) t = look ts t := fun t => by rw [look_rnE, look_rnE, rnA_rnA]
      exact { g6 with tm := fun t => by rw [← ets]; exact g6.tm t, tl := fun t l ver hl => g6.tl t l ver (by rw [ets]; exact hl) }
    · rw [labs_rnA] at hl0
      obtain ⟨⟨k0, v0⟩, q1, q2⟩ := List.mem_map.1 hl0
      simp only [Prod.mk.injEq] at q2
      obtain ⟨rfl, rfl⟩ := q2
      obtain ⟨b0, q3, q4⟩ := g3 k0 v0 q1
      exact ⟨rnB l l' b0, by rw [lookB_rnM, rl_rl, q3]; rfl, by rw [rnB_ver]; exact q4⟩
    · have n1 : l0 ≠ l := fun e => by subst e; exact absurd hl (Nat.not_lt.2 h2)
      have n2 : l0 ≠ l' := fun e => by subst e; exact h0 hl'
      have e3 : rl l l' l0 = l0 := by unfold rl; rw [if_neg n1, if_neg n2]
      have hb' : b ∈ fp' (rl l l' l0) := hb'
      rw [e3] at hb'
      have := g5 l0 ((hlk l0).2 (by rw [e3]; exact h0)) h2 b hb'
      rcases this with h5 | h5
      · exact .inl h5
      · have h5 : b ∈ fp (rl l l' l0) := h5
        rw [e3] at h5; exact .inr h5

theorem FnH.call {P : Program} {f : FuncId} {m0 : Mem} {xs : List AV} {post : AV → Mem → Prop} {m : Mem} {k : AV → Mem → Prop} (hH : FnH P f m0 xs post) (hhi : ∀ l, l ∈ keys m0 → ioL ≤ l) (hm : ∀ l, l ∈ keys m0 → lookB m l = lookB m0 l)
    (hok : okM (keys m0) m0) (hxs : ∀ p, p ∈ labsL xs → p.1 ∈ keys m0) (hk : ∀ r m', post r m' → k r (m' ++ m)) : sCallF P f xs m k := by
  refine ⟨hH.1, fun B N φ fp S ts a w vs h hsz hx hxl => ?_⟩
  have hR0 : RS (baseH w (resφ (keys m0) φ) (resF (keys m0) fp) S m0) vs.size (resφ (keys m0) φ) (resF (keys m0) fp) S (argsE 0 xs) m0 { tmps := vs, defers := [] } w := by
    refine { tm := fun t => ?_, tl := fun t l ver hl => ?_, mNone := fun l hl => ?_, mSome := fun l b hb => ?_, bl := fun l v xs hb l' ver hl => ?_, nod := fun l => ?_, dis := fun l l' b h1 h2 => h.dis l l' b (mem_resF h1).2 (mem_resF h2).2,
             notS := fun l b hb => h.notS l b (mem_resF hb).2, fpB := fun l b hb => ⟨(h.fpB l b (mem_resF hb).2).1, .inr ⟨l, hb, hhi l (mem_resF hb).1, .inl rfl⟩⟩, sB := fun b hb => ⟨(h.sB b hb).1, .inr hb⟩, base := fun b _ _ => rfl, out := SameOut.refl _, szs := Szs.refl _,
             kn := fun _ _ _ hk => hk, fix := fun _ _ _ _ => LS.le_refl _ _, size := Nat.le_refl _, defers := rfl, tsz := rfl, kon := h.kon }
    · rw [look_argsE]
      by_cases ht : t < xs.length
      · have e : (if 0 ≤ t then (xs[t - 0]?).getD AV.undef else .undef) = xs[t] := by simp [ht]
        rw [e]
        have e2 : vs.toList.getD t Go.undef = vs.getD t Go.undef := by simp [List.getD_eq_getElem?_getD, Array.getD_eq_getD_getElem?]
        rw [← e2]
        refine (hx t ht).mono (fun _ _ => rfl) (fun _ h => h) (fun l b sh ver cs e _ hb => ⟨cs, e, hb, rfl⟩) fun l ver hl => ?_
        rw [resφ_in (hxs _ (mem_labsL ht hl))]
        exact LS.le_refl _ _
      · have e : (if 0 ≤ t then (xs[t - 0]?).getD AV.undef else .undef) = .undef := by simp [List.getElem?_eq_none (show xs.length ≤ t by omega)]
        rw [e]; exact .rd _ _ (.undef _)
    · rw [look_argsE] at hl
      by_cases ht : t < xs.length
      · have e : (if 0 ≤ t then (xs[t - 0]?).getD AV.undef else .undef) = xs[t] := by simp [ht]
        rw [e] at hl
        obtain ⟨b, h1, h2⟩ := hxl t ht l ver hl
        exact ⟨b, (hm l (hxs _ (mem_labsL ht hl))).symm.trans h1, h2⟩
      · have e : (if 0 ≤ t then (xs[t - 0]?).getD AV.undef else .undef) = .undef := by simp [List.getElem?_eq_none (show xs.length ≤ t by omega)]
        rw [e] at hl; cases hl
    · have hn : l ∉ keys m0 := fun hh => of_keys hh hl
      unfold resφ resF
      rw [if_neg hn, if_neg hn]; exact ⟨rfl, rfl⟩
    · have hl : l ∈ keys m0 := in_keys (by rw [hb]; exact fun e => by cases e)
      rw [resF_in hl]
      refine (h.mSome l b ((hm l hl).trans hb)).mono (fun _ _ => rfl) (fun _ h => h) (fun l b sh ver cs e _ hb => ⟨cs, e, hb, rfl⟩) (fun _ _ => rfl) (resφ_in hl) fun v xs e l' ver hl' => ?_
      subst e
      rw [resφ_in (hok.2 l v xs hb _ hl')]
      exact LS.le_refl _ _
    · have hl0 : l ∈ keys m0 := in_keys (by rw [hb]; exact fun e => by cases e)
      obtain ⟨b, h1, h2⟩ := h.bl l v xs ((hm l hl0).trans hb) l' ver hl
      exact ⟨b, (hm l' (hok.2 l v xs hb _ hl)).symm.trans h1, h2⟩
    · unfold resF; split
      · exact h.nod l
      · exact List.nodup_nil
  refine (hH.2 w _ _ S vs hsz hR0).mono ?_
  rintro e w' ⟨x, v, m', φ', fp', S', rfl, hpost, hrv, hlab, hokm, hR⟩
  have hsame : ∀ b : Nat, b < w.heap.size → (∀ l, l ∈ keys m0 → b ∉ fp l) → w'.heap[b]? = w.heap[b]? := fun b hb hn => hR.base b hb fun l hb' => hn l (mem_resF hb').1 (mem_resF hb').2
  have hSsame : ∀ b, S b → w'.heap[b]? = w.heap[b]? := fun b hb => hsame b (h.sB b hb).1 fun l _ hb' => h.notS _ b hb' hb
  have hz : Sized φ w w' := fun l b sh ver cs e _ hb => hR.szs b cs e hb
  have hST : ∀ b, S' b → S b ∨ (S' b ∧ w.heap.size ≤ b) := fun b hb => by
    rcases (hR.sB b hb).2 with hh | hh
    · exact .inr ⟨hb, hh⟩
    · exact .inl hh
  have kno : ∀ l ver, l ∈ keys m0 → known m l ver → known m0 l ver := fun l ver hl ⟨b, h1, h2⟩ => ⟨b, (hm l hl).symm.trans h1, h2⟩
  have inm' : ∀ l, l ∈ keys m0 → ∃ b, lookB m' l = some b := by
    intro l hl
    cases hb : lookB m0 l with
    | none => exact absurd hb (of_keys hl)
    | some b =>
      obtain ⟨b', h1, _⟩ := hR.kn l b.ver (hhi l hl) ⟨b, hb, Nat.le_refl _⟩
      exact ⟨b', h1⟩
  have lkL : ∀ l, l ∈ keys m0 → lookB (m' ++ m) l = lookB m' l := fun l hl => by
    obtain ⟨b, hb⟩ := inm' l hl
    rw [hb]; exact lookB_appL hb
  have lkR : ∀ l, l ∉ keys m0 → lookB (m' ++ m) l = lookB m l := fun l hl => lookB_appR (by
    cases hb : lookB m' l with
    | none => rfl
    | some b => exact absurd (hokm.1 l (by rw [hb]; exact fun e => by cases e)) hl)
  have hkn : ∀ l ver, known m l ver → known (m' ++ m) l ver := by
    intro l ver hk
    by_cases hl : l ∈ keys m0
    · obtain ⟨b, h1, h2⟩ := hR.kn l ver (hhi l hl) (kno l ver hl hk)
      exact ⟨b, (lkL l hl).trans h1, h2⟩
    · obtain ⟨b, h1, h2⟩ := hk
      exact ⟨b, (lkR l hl).trans h1, h2⟩
  let φ2 : Nat → LS := fun l => if l ∈ keys m0 then φ' l else φ l
  let fp2 : Nat → List Nat := fun l => if l ∈ keys m0 then fp' l else fp l
  have φi : ∀ l, l ∈ keys m0 → φ2 l = φ' l := fun l hl => if_pos hl
  have φo : ∀ l, l ∉ keys m0 → φ2 l = φ l := fun l hl => if_neg hl
  have fi : ∀ l, l ∈ keys m0 → fp2 l = fp' l := fun l hl => if_pos hl
  have fo : ∀ l, l ∉ keys m0 → fp2 l = fp l := fun l hl => if_neg hl
  have hle : ∀ l ver, known m l ver → LS.le (φ2 l) (φ l) ver := by
    intro l ver hk
    by_cases hl : l ∈ keys m0
    · have := hR.fix l ver (hhi l hl) (kno l ver hl hk)
      have this : LS.le (φ' l) (resφ (keys m0) φ l) ver := this
      rw [resφ_in hl] at this
      rw [φi l hl]; exact this
    · rw [φo l hl]; exact LS.le_refl _ _
  have fpnew : ∀ l, l ∈ keys m0 → ∀ b, b ∈ fp' l → b < w'.heap.size ∧ (w.heap.size ≤ b ∨ b ∈ fp l) := by
    intro l hl b hb
    have := hR.fpB l b hb
    refine ⟨this.1, this.2.imp id ?_⟩
    rintro ⟨l', hb2, _, hl3⟩
    have hl3 : l' = l := hl3.resolve_right fun e => of_keys hl e
    subst hl3
    have hb2 : b ∈ resF (keys m0) fp l' := hb2
    exact (mem_resF hb2).2
  have hfpd : ∀ l, lookB m' l = none → fp' l = [] := fun l hl => (hR.mNone l hl).2
  have mixed : ∀ l, l ∈ keys m0 → ∀ l' b, l' ∉ keys m0 → b ∈ fp' l → b ∈ fp l' → False := by
    intro l hl l' b hl' b1 b2
    rcases (fpnew l hl b b1).2 with hh | hh
    · have := (h.fpB l' b b2).1; omega
    · exact hl' (by rw [h.dis _ _ b b2 hh]; exact hl)
  refine ⟨v, rfl, φ2, fp2, fun b => S b ∨ (S' b ∧ w.heap.size ≤ b), m' ++ m, x, ?_, ?_, fun l ver hl => (by rw [hlab] at hl; cases hl), hk x m' hpost, fun l _ _ b hb => (by
    by_cases hl : l ∈ keys m0
    · rw [fi l hl] at hb; exact (fpnew l hl b hb).2
    · rw [fo l hl] at hb; exact .inr hb)⟩
  · refine { tm := fun t => (h.tm t).mono hSsame (fun b hb => .inl hb) hz fun l ver hl => hle l ver (h.tl t l ver hl), tl := fun t l ver hl => hkn l ver (h.tl t l ver hl), mNone := fun l hl => ?_, mSome := fun l b hb => ?_,
             bl := fun l v xs hb l' ver hl => ?_, nod := fun l => ?_, dis := fun l l' b h1 h2 => ?_, notS := fun l b hb => ?_, fpB := fun l b hb => ?_, sB := fun b hb => ?_, base := fun b hb hio => ?_,
             out := h.out.trans hR.out, szs := h.szs.trans hR.szs, kn := fun l ver hl hk => hkn l ver (h.kn l ver hl hk), fix := fun l ver hl hk => LS.le_trans (hle l ver (h.kn l ver hl hk)) (h.fix l ver hl hk), size := Nat.le_trans h.size hR.size, defers := h.defers, tsz := h.tsz,
             kon := h.kon.mono hSsame fun b hb => .inl hb }
    · by_cases hm1 : l ∈ keys m0
      · obtain ⟨b, hb⟩ := inm' l hm1
        rw [lkL l hm1, hb] at hl; cases hl
      · rw [lkR l hm1] at hl
        rw [φo l hm1, fo l hm1]; exact h.mNone l hl
    · by_cases hm1 : l ∈ keys m0
      · rw [lkL l hm1] at hb
        rw [fi l hm1]
        refine (hR.mSome l b hb).mono (fun _ _ => rfl) hST (fun l b sh ver cs e _ hb => ⟨cs, e, hb, rfl⟩) (fun _ _ => rfl) (φi l hm1) fun v xs e l' ver hl' => ?_
        subst e
        rw [φi l' (hokm.2 l v xs hb _ hl')]
        exact LS.le_refl _ _
      · rw [lkR l hm1] at hb
        rw [fo l hm1]
        refine (h.mSome l b hb).mono hSsame (fun b hb => .inl hb) hz (fun c hc => hsame c (h.fpB l c hc).1 fun l' hl' hc' => hm1 (by rw [h.dis _ _ c hc hc']; exact hl')) (φo l hm1) fun v xs e l' ver hl' => ?_
        subst e
        exact hle l' ver (h.bl l v xs hb l' ver hl')
    · by_cases hm1 : l ∈ keys m0
      · rw [lkL l hm1] at hb
        obtain ⟨b, h1, h2⟩ := hR.bl l v xs hb l' ver hl
        exact ⟨b, lookB_appL h1, h2⟩
      · rw [lkR l hm1] at hb
        exact hkn l' ver (h.bl l v xs hb l' ver hl)
    · by_cases hm1 : l ∈ keys m0
      · rw [fi l hm1]; exact hR.nod l
      · rw [fo l hm1]; exact h.nod l
    · by_cases m1 : l ∈ keys m0
      · rw [fi l m1] at h1
        by_cases m2 : l' ∈ keys m0
        · rw [fi l' m2] at h2
          exact hR.dis _ _ b h1 h2
        · rw [fo l' m2] at h2
          exact (mixed l m1 l' b m2 h1 h2).elim
      · rw [fo l m1] at h1
        by_cases m2 : l' ∈ keys m0
        · rw [fi l' m2] at h2
          exact (mixed l' m2 l b m1 h2 h1).elim
        · rw [fo l' m2] at h2
          exact h.dis l l' b h1 h2
    · by_cases hm1 : l ∈ keys m0
      · rw [fi l hm1] at hb
        rintro (hs | hs)
        · rcases (fpnew l hm1 b hb).2 with hh | hh
          · have := (h.sB b hs).1; omega
          · exact h.notS _ b hh hs
        · exact hR.notS _ b hb hs.1
      · rw [fo l hm1] at hb
        rintro (hs | hs)
        · exact h.notS l b hb hs
        · have := (h.fpB l b hb).1; omega
    · by_cases hm1 : l ∈ keys m0
      · rw [fi l hm1] at hb
        have := fpnew l hm1 b hb
        refine ⟨this.1, ?_⟩
        rcases this.2 with hh | hh
        · exact .inl (Nat.le_trans h.size hh)
        · exact (h.fpB _ b hh).2
      · rw [fo l hm1] at hb
        have := h.fpB l b hb
        exact ⟨Nat.lt_of_lt_of_le this.1 hR.size, this.2⟩
    · rcases hb with hs | hs
      · have := h.sB b hs
        exact ⟨Nat.lt_of_lt_of_le this.1 hR.size, this.2⟩
      · exact ⟨(hR.sB b hs.1).1, .inl (Nat.le_trans h.size hs.2)⟩
    · refine (hsame b (Nat.lt_of_lt_of_le hb h.size) fun l hl hb' => ?_).trans (h.base b hb hio)
      rcases (h.fpB _ b hb').2 with hh | hh
      · omega
      · exact hio _ hh.choose_spec.1
  · refine hrv.mono (fun _ _ => rfl) hST (fun l b sh ver cs e _ hb => ⟨cs, e, hb, rfl⟩) fun l ver hl => ?_
    rw [hlab] at hl; cases hl

/- ---- the same, told by computation -/
def inLs (L : List Nat) : List (Nat × Nat) → Prop
  | [] => True
  | p :: r => p.1 ∈ L ∧ inLs L r
theorem inLs_nil (L : List Nat) : inLs L [] = True := rfl
theorem inLs_cons (L : List Nat) (l v : Nat) (r : List (Nat × Nat)) : inLs L ((l, v) :: r) = (l ∈ L ∧ inLs L r) := rfl
theorem inLs_out {L : List Nat} : ∀ {r : List (Nat × Nat)}, inLs L r → ∀ p, p ∈ r → p.1 ∈ L
  | [], _, p, h => by cases h
  | _ :: _, h, p, hp => by
    rcases List.mem_cons.1 hp with e | hp
    · subst e; exact h.1
    · exact inLs_out h.2 p hp
def okK (L : List Nat) (b : Blk) : Prop := match b with
  | .box _ xs => inLs L (labsL xs)
  | _ => True
theorem okK_box (L : List Nat) (v : Nat) (xs : List AV) : okK L (.box v xs) = inLs L (labsL xs) := rfl
theorem okK_row (L : List Nat) (v : Nat) (sh : Sh) (d : Bool) (xs : List AV) : okK L (.row v sh d xs) = True := rfl
theorem okK_gone (L : List Nat) (v : Nat) : okK L (.gone v) = True := rfl
def okB (L : List Nat) : Mem → Prop
  | [] => True
  | (l, b) :: r => (l ∈ L ∧ okK L b) ∧ okB L r
theorem okB_nil (L : List Nat) : okB L [] = True := rfl
theorem okB_cons (L : List Nat) (l : Nat) (b : Blk) (r : Mem) : okB L ((l, b) :: r) = ((l ∈ L ∧ okK L b) ∧ okB L r) := rfl
theorem okM_of {L : List Nat} : ∀ {m : Mem}, okB L m → okM L m
  | [], _ => ⟨fun l h => absurd rfl h, fun l v xs h => by cases h⟩
  | (l, b) :: r, ⟨⟨h1, h2⟩, h3⟩ => by
    obtain ⟨g1, g2⟩ := okM_of h3
    refine ⟨fun l' h => ?_, fun l' v xs h => ?_⟩
    · rw [lookB_cons] at h
      split at h
      · rename_i e; subst e; exact h1
      · exact g1 l' h
    · rw [lookB_cons] at h
      split at h
      · injection h with h
        subst h
        exact inLs_out h2
      · exact g2 l' v xs h
def sameB (m m' : Mem) : List Nat → Prop
  | [] => True
  | l :: r => lookB m l = lookB m' l ∧ sameB m m' r
theorem sameB_nil (m m' : Mem) : sameB m m' [] = True := rfl
theorem sameB_cons (m m' : Mem) (l : Nat) (r : List Nat) : sameB m m' (l :: r) = (lookB m l = lookB m' l ∧ sameB m m' r) := rfl
theorem sameB_out {m m' : Mem} : ∀ {L : List Nat}, sameB m m' L → ∀ l, l ∈ L → lookB m l = lookB m' l
  | [], _, l, h => by cases h
  | _ :: _, ⟨h1, h2⟩, l, h => by
    rcases List.mem_cons.1 h with rfl | h
    · exact h1
    · exact sameB_out h2 l h
theorem keepsM_of {L : List Nat} {m m' : Mem} (h1 : sameB m' m L) (h2 : okB L m') : keepsM L m m' := ⟨sameB_out h1, okM_of h2⟩
def hiLs : List Nat → Prop
  | [] => True
  | l :: r => 1000000000 ≤ l ∧ hiLs r
theorem hiLs_nil : hiLs [] = True := rfl
theorem hiLs_cons (l : Nat) (r : List Nat) : hiLs (l :: r) = (1000000000 ≤ l ∧ hiLs r) := rfl
theorem hiLs_out : ∀ {L : List Nat}, hiLs L → ∀ l, l ∈ L → ioL ≤ l
  | [], _, l, h => by cases h
  | _ :: _, ⟨h1, h2⟩, l, h => by
    rcases List.mem_cons.1 h with rfl | h
    · exact h1
    · exact hiLs_out h2 l h

/-- A call by such a contract, all of whose labels are upper ones already. -/
theorem sCallT_H {P : Program} {f : FuncId} {m0 : Mem} {xs xt : List AV} {d : Nat} {post : AV → Mem → Prop} {m : Mem} {k : AV → Mem → Prop} {q : Pack k} (hH : FnH P f m0 xs post)
    (hc : (hiLs (keys m0) ∧ okB (keys m0) m0) ∧ sameB m m0 (keys m0) ∧ inLs (keys m0) (labsL xs)) (hk : ∀ r m', post r m' → k r (m' ++ m)) : sCallT P f d xs xt m k q :=
  .inl (FnH.call hH (hiLs_out hc.1.1) (sameB_out hc.2.1) (okM_of hc.1.2) (inLs_out hc.2.2) hk).io
/-- A call by such a contract; our lower labels take names J higher meanwhile. -/
theorem sCallT_HR (J : Nat) {P : Program} {f : FuncId} {m0 : Mem} {xs xs0 xt : List AV} {d : Nat} {post : AV → Mem → Prop} {m : Mem} {k : AV → Mem → Prop} {q : Pack k} (hH : FnH P f m0 xs0 post)
    (hr : renOk (lowP J [] m) m ∧ rnsL (lowP J [] m) xs = xs0)
    (hc : (hiLs (keys m0) ∧ okB (keys m0) m0) ∧ sameB (rnsM (lowP J [] m) m) m0 (keys m0) ∧ inLs (keys m0) (labsL xs0))
    (hk : ∀ r m', post r m' → k (rnsAb (lowP J [] m) r) (rnsMb (lowP J [] m) (m' ++ rnsM (lowP J [] m) m))) : sCallT P f d xs xt m k q :=
  .inl (sCallF.ren (lowP J [] m) hr.1 (by rw [hr.2]; exact FnH.call hH (hiLs_out hc.1.1) (sameB_out hc.2.1) (okM_of hc.1.2) (inLs_out hc.2.2) hk)).io

attribute [go_sem] keys_nil keys_cons inLs_nil inLs_cons okK_box okK_row okK_gone okB_nil okB_cons sameB_nil sameB_cons hiLs_nil hiLs_cons finH_normal finH_ret
end Go.Vc
