/-
  How the abstract state goes on: the steps of the layer Vc that change the world.
-/
import Derived.Test.YtlelhmbhhnokoaaDoorVcState
set_option linter.unusedVariables false
set_option linter.unusedSimpArgs false
set_option linter.unnecessarySimpa false
namespace Go.Vc

theorem old (w : World) (o : Obj) (b : Nat) (h : b < w.heap.size) : (w.alloc o).heap[b]? = w.heap[b]? := by
  simp only [World.alloc, Array.getElem?_push]; rw [if_neg (Nat.ne_of_lt h)]

theorem new_at (w : World) (o : Obj) : (w.alloc o).heap[w.heap.size]? = some o := by
  simp only [World.alloc, Array.getElem?_push, if_true]

def upd {α : Type} (f : Nat → α) (l : Nat) (x : α) : Nat → α := fun k => if k = l then x else f k
theorem upd_same {α : Type} (f : Nat → α) (l : Nat) (x : α) : upd f l x l = x := by simp [upd]
theorem upd_other {α : Type} (f : Nat → α) (l k : Nat) (x : α) (h : k ≠ l) : upd f l x k = f k := by simp [upd, h]

def newVer (m : Mem) (l : Nat) : Nat := match lookB m l with | none => 0 | some k => k.ver + 1

section
variable {B : Base} {N : Nat} {φ : Nat → LS} {fp : Nat → List Nat} {S : Nat → Prop} {ts : Env} {m : Mem} {a : Act} {w : World}

theorem known_lt {l ver : Nat} (h : known m l ver) : ver < newVer m l := by
  obtain ⟨k, hk, hv⟩ := h
  simp only [newVer, hk]; omega

/-- One label laid anew (or changed), the rest as it was. -/
theorem RS.next (h : RS B N φ fp S ts m a w) {w' : World} (l : Nat) (x : LS) (fs : List Nat) (S' : Nat → Prop) (k : Blk)
    (hsize : w.heap.size ≤ w'.heap.size) (hout : SameOut w w') (hszs : Szs w w') (hK : ∀ b, b < B.w0.heap.size → (∀ l, ¬ B.io l b) → w'.heap[b]? = w.heap[b]?)
    (hS : ∀ b, S b → S' b ∧ w'.heap[b]? = w.heap[b]?)
    (hS' : ∀ b, S' b → ¬ S b → b < w'.heap.size ∧ (B.w0.heap.size ≤ b ∨ B.ro b) ∧ ∀ l', l' ≠ l → b ∉ fp l')
    (hz : Sized φ w w')
    (hfp : ∀ l', l' ≠ l → ∀ b, b ∈ fp l' → w'.heap[b]? = w.heap[b]?)
    (hle : ∀ ver, known m l ver → LS.le x (φ l) ver)
    (hver : ∀ ver, known m l ver → ver ≤ k.ver)
    (hbr : BR w' S' (upd φ l x) l fs k)
    (hbl : ∀ v xs, k = .box v xs → ∀ l' ver, (l', ver) ∈ labsL xs → known ((l, k) :: m) l' ver)
    (hnod : fs.Nodup) (hdis : ∀ b, b ∈ fs → ¬ S' b ∧ (∀ l', l' ≠ l → b ∉ fp l') ∧ b < w'.heap.size ∧ (B.w0.heap.size ≤ b ∨ (∃ l', B.io l' b ∧ ioL ≤ l ∧ (l' = l ∨ lookB B.m0 l = none)))) :
    RS B N (upd φ l x) (upd fp l fs) S' ts ((l, k) :: m) a w' := by
  have hknown : ∀ l' ver, known m l' ver → known ((l, k) :: m) l' ver := by
    intro l' ver hk
    by_cases e : l = l'
    · subst e; exact ⟨k, by simp [lookB_cons], hver ver hk⟩
    · obtain ⟨k', h1, h2⟩ := hk
      exact ⟨k', by simp [lookB_cons, e, h1], h2⟩
  have hall : ∀ l' ver, known m l' ver → LS.le (upd φ l x l') (φ l') ver := by
    intro l' ver hk
    by_cases e : l' = l
    · subst e; rw [upd_same]; exact hle ver hk
    · rw [upd_other _ _ _ _ e]; exact LS.le_refl _ _
  refine ⟨?_, ?_, ?_, ?_, ?_, ?_, ?_, ?_, ?_, ?_, fun b hb hio => (hK b hb hio).trans (h.base b hb hio), h.out.trans hout, h.szs.trans hszs, fun l' ver hl hk => hknown l' ver (h.kn l' ver hl hk),
    fun l2 ver hl hk => LS.le_trans (hall l2 ver (h.kn l2 ver hl hk)) (h.fix l2 ver hl hk), Nat.le_trans h.size hsize, h.defers, h.tsz, h.kon.mono (fun b hb => (hS b hb).2) fun b hb => (hS b hb).1⟩
  · exact fun t => (h.tm t).mono (fun b hb => (hS b hb).2) (fun b hb => (hS b hb).1) hz fun l' ver hl => hall l' ver (h.tl t l' ver hl)
  · exact fun t l' ver hl => hknown l' ver (h.tl t l' ver hl)
  · intro l' hl'
    rw [lookB_cons] at hl'
    split at hl'
    · cases hl'
    · rename_i e
      rw [upd_other _ _ _ _ (Ne.symm e), upd_other _ _ _ _ (Ne.symm e)]
      exact h.mNone l' hl'
  · intro l' k' hl'
    rw [lookB_cons] at hl'
    split at hl'
    · rename_i e; subst e; cases hl'; rw [upd_same]; exact hbr
    · rename_i e
      rw [upd_other _ _ _ _ (Ne.symm e)]
      refine (h.mSome l' k' hl').mono (fun b hb => (hS b hb).2) (fun b hb => (hS b hb).1) hz (hfp l' (Ne.symm e)) (upd_other _ _ _ _ (Ne.symm e)) ?_
      intro v xs hk l2 ver hl2
      subst hk
      exact hall l2 ver (h.bl l' v xs hl' l2 ver hl2)
  · intro l' v xs hl' l2 ver hl2
    rw [lookB_cons] at hl'
    split at hl'
    · cases hl'; exact hbl v xs rfl l2 ver hl2
    · exact hknown l2 ver (h.bl l' v xs hl' l2 ver hl2)
  · intro l'
    by_cases e : l' = l
    · subst e; rw [upd_same]; exact hnod
    · rw [upd_other _ _ _ _ e]; exact h.nod l'
  · intro l1 l2 b h1 h2
    by_cases e1 : l1 = l
    · by_cases e2 : l2 = l
      · rw [e1, e2]
      · subst e1
        rw [upd_same] at h1; rw [upd_other _ _ _ _ e2] at h2
        exact absurd h2 ((hdis b h1).2.1 l2 e2)
    · rw [upd_other _ _ _ _ e1] at h1
      by_cases e2 : l2 = l
      · subst e2; rw [upd_same] at h2
        exact absurd h1 ((hdis b h2).2.1 l1 e1)
      · rw [upd_other _ _ _ _ e2] at h2
        exact h.dis l1 l2 b h1 h2
  · intro l' b hb
    by_cases e : l' = l
    · subst e; rw [upd_same] at hb; exact (hdis b hb).1
    · rw [upd_other _ _ _ _ e] at hb
      intro hs'
      by_cases hs : S b
      · exact h.notS l' b hb hs
      · exact (hS' b hs' hs).2.2 l' e hb
  · intro l' b hb
    by_cases e : l' = l
    · subst e; rw [upd_same] at hb; exact ⟨(hdis b hb).2.2.1, (hdis b hb).2.2.2⟩
    · rw [upd_other _ _ _ _ e] at hb
      have := h.fpB l' b hb
      exact ⟨Nat.lt_of_lt_of_le this.1 hsize, this.2⟩
  · intro b hb
    by_cases hs : S b
    · have := h.sB b hs
      exact ⟨Nat.lt_of_lt_of_le this.1 hsize, this.2⟩
    · exact ⟨(hS' b hb hs).1, (hS' b hb hs).2.1⟩

/-- A world with the same memory. -/
theorem RS.sameHeap (h : RS B N φ fp S ts m a w) {w' : World} (hh : w'.heap = w.heap) (ho : SameOut w w') : RS B N φ fp S ts m a w' := by
  have hz : Sized φ w w' := fun l b sh ver cs e _ hb => ⟨cs, e, by rw [hh]; exact hb, rfl⟩
  have hs : ∀ b : Nat, w'.heap[b]? = w.heap[b]? := fun b => by rw [hh]
  exact { h with
    tm := fun t => (h.tm t).mono (fun b _ => hs b) (fun _ h => h) hz fun l ver _ => LS.le_refl _ _
    mSome := fun l k hk => (h.mSome l k hk).mono (fun b _ => hs b) (fun _ h => h) hz (fun b _ => hs b) rfl fun _ _ _ _ _ _ => LS.le_refl _ _
    fpB := fun l b hb => by rw [hh]; exact h.fpB l b hb
    sB := fun b hb => by rw [hh]; exact h.sB b hb
    base := fun b hb hio => by rw [hs]; exact h.base b hb hio
    out := h.out.trans ho
    szs := h.szs.trans (Szs.of_same fun b _ => hs b)
    kon := h.kon.mono (fun b _ => hs b) fun _ h => h
    size := by rw [hh]; exact h.size }

theorem Sized.alloc (h : RS B N φ fp S ts m a w) (o : Obj) : Sized φ w (w.alloc o) := by
  intro l b sh ver cs e hl hb
  have hlt := (h.fpB l b (h.at_mem hl)).1
  exact ⟨cs, e, by rw [old w o b hlt]; exact hb, rfl⟩

/-- A new block under label l. -/
theorem RS.alloc (h : RS B N φ fp S ts m a w) (l : Nat) (sh : Sh) (k : Blk) (cs : Array Value) (e : TypeId)
    (hk : k.ver = newVer m l)
    (hbr : BR (w.alloc (.cells cs e)) S (upd φ l (.at w.heap.size sh (newVer m l))) l [w.heap.size] k)
    (hbl : ∀ v xs, k = .box v xs → ∀ l' ver, (l', ver) ∈ labsL xs → known m l' ver) :
    RS B N (upd φ l (.at w.heap.size sh (newVer m l))) (upd fp l [w.heap.size]) S ts ((l, k) :: m) a (w.alloc (.cells cs e)) := by
  have hlt : ∀ b, S b → b < w.heap.size := fun b hb => (h.sB b hb).1
  refine h.next l _ [w.heap.size] S k (by simp) ⟨rfl, rfl, rfl⟩ (Szs.of_same fun b hb => old w _ b hb) (fun b hb _ => old w _ b (Nat.lt_of_lt_of_le hb h.size)) (fun b hb => ⟨hb, old w _ b (hlt b hb)⟩) (fun b h1 h2 => absurd h1 h2) (Sized.alloc h _)
    (fun l' _ b hb => old w _ b (h.fpB l' b hb).1) (fun ver hv => LS.le_newer _ _ _ _ _ (known_lt hv)) (fun ver hv => by rw [hk]; exact Nat.le_of_lt (known_lt hv)) hbr ?_ (by simp) ?_
  · intro v xs hkx l' ver hl'
    have := hbl v xs hkx l' ver hl'
    by_cases e : l = l'
    · subst e; exact ⟨k, by simp [lookB_cons], by rw [hk]; exact Nat.le_of_lt (known_lt this)⟩
    · obtain ⟨k', h1, h2⟩ := this
      exact ⟨k', by simp [lookB_cons, e, h1], h2⟩
  · intro b hb
    have hb' : b = w.heap.size := by simpa using hb
    subst hb'
    refine ⟨fun hs => Nat.lt_irrefl _ (hlt _ hs), fun l' _ hb => Nat.lt_irrefl _ (h.fpB l' _ hb).1, by simp, .inl h.size⟩

/-- A reading over labels stays when a block is laid under a new version. -/
theorem RV.alloc (h : RS B N φ fp S ts m a w) (l : Nat) (sh : Sh) (o : Obj) {x : AV} {v : Value} (hx : RV w S φ x v) (hl : ∀ l' ver, (l', ver) ∈ labs x → known m l' ver) :
    RV (w.alloc o) S (upd φ l (.at w.heap.size sh (newVer m l))) x v := by
  refine hx.mono (fun b hb => old w _ b (h.sB b hb).1) (fun _ h => h) (Sized.alloc h o) fun l' ver hl' => ?_
  by_cases e : l' = l
  · subst e; rw [upd_same]; exact LS.le_newer _ _ _ _ _ (known_lt (hl l' ver hl'))
  · rw [upd_other _ _ _ _ e]; exact LS.le_refl _ _

/-- A label is given up; what it owned may be held for good. -/
theorem RS.give (h : RS B N φ fp S ts m a w) (l : Nat) (k : Blk) (hk : lookB m l = some k) (S' : Nat → Prop) (hS : ∀ b, S b → S' b)
    (hS' : ∀ b, S' b → ¬ S b → b ∈ fp l ∧ l < ioL) : RS B N (upd φ l .dead) (upd fp l []) S' ts ((l, .gone k.ver) :: m) a w := by
  refine h.next l .dead [] S' (.gone k.ver) (Nat.le_refl _) (SameOut.refl _) (Szs.refl _) (fun _ _ _ => rfl) (fun b hb => ⟨hS b hb, rfl⟩) ?_ (fun l b sh ver cs e _ hb => ⟨cs, e, hb, rfl⟩) (fun _ _ _ _ => rfl)
    (fun ver _ => LS.le_dead _ _) ?_ ⟨upd_same _ _ _, rfl⟩ (fun v xs hk => by cases hk) (by simp) (by simp)
  · intro b h1 h2
    obtain ⟨h3, h4⟩ := hS' b h1 h2
    have := h.fpB l b h3
    refine ⟨this.1, .inl (this.2.resolve_right fun h => Nat.lt_irrefl _ (Nat.lt_of_lt_of_le h4 h.choose_spec.2.1)), fun l' hl' hb => hl' (h.dis l' l b hb h3)⟩
  · rintro ver ⟨k', h1, h2⟩
    rw [hk] at h1; cases h1; exact h2

end
end Go.Vc
