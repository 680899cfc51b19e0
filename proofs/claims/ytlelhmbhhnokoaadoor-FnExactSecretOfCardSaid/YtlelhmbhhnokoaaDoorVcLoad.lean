/-
  Reading memory: addresses, loads.
-/
import Derived.Test.YtlelhmbhhnokoaaDoorVcPure
set_option linter.unusedVariables false
set_option linter.unusedSimpArgs false
set_option linter.unnecessarySimpa false
namespace Go.Vc

theorem Addr.add_none (b o n : Nat) : (⟨b, o, none⟩ : Addr).add n = ⟨b, o + n, none⟩ := by
  unfold Addr.add; split <;> simp_all

theorem cell_at {w : World} {b : Nat} {cs : Array Value} {e : TypeId} {fr : Nat × Nat} (hb : w.heap[b]? = some (.cells cs e fr)) (o : Nat) (ho : o < cs.size) :
    w.cell? ⟨b, o, none⟩ = some (cs.toList.getD o Go.undef) := by
  have h1 : cs[o]? = some cs[o] := Array.getElem?_eq_getElem ho
  have h2 : cs.toList.getD o Go.undef = cs[o] := by
    rw [List.getD_eq_getElem?_getD, Array.getElem?_toList, h1]; rfl
  rw [h2]
  simp [World.cell?, hb, h1]

theorem list_take_getD {l : List Value} {o n : Nat} (h : o + n ≤ l.length) : (List.range n).map (fun j => l.getD (o + j) Go.undef) = (l.drop o).take n := by
  apply List.ext_getElem
  · simp; omega
  · intro i h1 h2
    simp only [List.length_map, List.length_range] at h1
    simp only [List.getElem_map, List.getElem_range, List.getElem_take, List.getElem_drop]
    rw [List.getD_eq_getElem?_getD, List.getElem?_eq_getElem (by omega)]
    rfl

theorem run_loadCells_at {P : Program} {w : World} {b : Nat} {cs : Array Value} {e : TypeId} {fr : Nat × Nat} (hb : w.heap[b]? = some (.cells cs e fr)) (o n : Nat) (ho : o + n ≤ cs.size) :
    (loadCells ⟨b, o, none⟩ n).run P w = .ok ((cs.toList.drop o).take n).toArray w := by
  have h := run_loadCells (P := P) w ⟨b, o, none⟩ n (fun j => cs.toList.getD (o + j) Go.undef) (by
    intro j hj
    rw [Addr.add_none]
    exact cell_at hb (o + j) (by omega))
  rw [h, list_take_getD (by simpa using ho)]

theorem isAgg_run {P : Program} {t : TypeId} {ti : TI} (ht : tiOf P t = some ti) (w : World) : (isAgg t).run P w = .ok ti.agg w := by
  obtain ⟨i, d, z, hi, hd, hz, ha, _⟩ := kind_of ht
  rw [ha]
  unfold isAgg aggOf
  simp only [Sem.run_bind, run_underlying hd, Result.andThen_ok, hd]
  cases d <;> rfl
theorem sizeOf_run {P : Program} {t : TypeId} {ti : TI} (ht : tiOf P t = some ti) (w : World) : (sizeOf t).run P w = .ok ti.size w := by
  obtain ⟨i, d, z, hi, hd, hz, ha, hs, _⟩ := kind_of ht
  simp [sizeOf, typeInfo, hi, hs]

/-- What a load of type ti at an offset of a row of cells gives. -/
theorem run_loadVar_at {P : Program} {w : World} {t : TypeId} {ti : TI} (ht : tiOf P t = some ti) {b : Nat} {cs : Array Value} {e : TypeId} {fr : Nat × Nat}
    (hb : w.heap[b]? = some (.cells cs e fr)) (o : Nat) (h1 : ti.agg = true → o + ti.size ≤ cs.size) (h2 : ti.agg = false → o < cs.size) :
    (loadVar t ⟨b, o, none⟩).run P w = .ok (elemV cs.toList o ti.sh) w := by
  unfold loadVar
  simp only [Sem.run_bind, isAgg_run ht, Result.andThen_ok]
  cases hag : ti.agg with
  | true =>
    simp [sizeOf_run ht, run_loadCells_at (P := P) hb o ti.size (h1 hag), elemV, TI.sh, hag]
  | false =>
    simp [cell_at hb o (h2 hag), elemV, TI.sh, hag]

/-- What continues with a part continues with one value. -/
theorem sPart_out {ag : Bool} {n j : Nat} {x : AV} {k : AV → Prop} (h : sPart ag n j x k) : ∃ y, k y ∧ ∀ k' : AV → Prop, k' y → sPart ag n j x k' := by
  cases ag with
  | true =>
    cases x with
    | agg ys => exact ⟨_, h.2, fun k' hk => ⟨h.1, hk⟩⟩
    | _ => exact h.elim
  | false =>
    cases x with
    | agg ys =>
      simp only [sPart] at h ⊢
      cases hy : ys[j]? with
      | none => rw [hy] at h; exact h.elim
      | some y => rw [hy] at h; exact ⟨y, h, fun k' hk => hk⟩
    | undef => exact h.elim
    | tup xs => exact h.elim
    | _ => exact ⟨_, h.2, fun k' hk => ⟨h.1, hk⟩⟩

section
variable {w : World} {S : Nat → Prop} {φ : Nat → LS}

theorem elemV_agg (l : List Value) (o n : Nat) : elemV l o ⟨n, true⟩ = .agg ((l.drop o).take n).toArray := rfl
theorem elemV_cell (l : List Value) (o n : Nat) : elemV l o ⟨n, false⟩ = l.getD o Go.undef := rfl

theorem getD_drop_take (l : List Value) (o n i : Nat) (h : i < n) : ((l.drop o).take n).getD i Go.undef = l.getD (o + i) Go.undef := by
  simp only [List.getD_eq_getElem?_getD, List.getElem?_take, List.getElem?_drop, h, if_true]

/-- The part of an element that a variable of type (n, ag) at its cell j holds, read off the row's cells. -/
theorem part_rv {R : AV → Value → Prop} (hagg : ∀ xs v, R (.agg xs) v → ∃ cs : Array Value, v = .agg cs ∧ cs.size = xs.length ∧ (∀ i (h : i < xs.length), leaf xs[i]) ∧ ∀ i (h : i < xs.length), R xs[i] (cs.toList.getD i Go.undef))
    (hmk : ∀ (xs : List AV) (cs : Array Value), cs.size = xs.length → (∀ i (h : i < xs.length), leaf xs[i]) → (∀ i (h : i < xs.length), R xs[i] (cs.toList.getD i Go.undef)) → R (.agg xs) (.agg cs))
    {sh : Sh} {x : AV} {l : List Value} {o : Nat} (hx : R x (elemV l o sh)) (hf : fits sh x) (hlen : o + sh.sz ≤ l.length) {ag : Bool} {n j : Nat} {k : AV → Prop} (h : sPart ag n j x k) :
    (ag = true → o + j + n ≤ l.length) ∧ (ag = false → o + j < l.length) ∧ ∃ y, R y (elemV l (o + j) ⟨n, ag⟩) ∧ k y := by
  cases x with
  | agg ys =>
    obtain ⟨hag, hsz⟩ := hf
    cases sh with
    | mk sz ag' =>
    simp only at hag hsz hlen
    subst hag
    obtain ⟨cs, hcs, hl, hlf, hr⟩ := hagg ys _ hx
    rw [elemV_agg] at hcs
    cases hcs
    cases ag with
    | true =>
      obtain ⟨h1, h2⟩ := h
      refine ⟨fun _ => (by omega), fun h => (by cases h), _, ?_, h2⟩
      rw [elemV_agg]
      refine hmk _ _ (by simp; omega) (fun i hi => ?_) fun i hi => ?_
      · simp only [List.length_take, List.length_drop] at hi
        simp only [List.getElem_take, List.getElem_drop]
        exact hlf _ (by omega)
      · simp only [List.length_take, List.length_drop] at hi
        simp only [List.getElem_take, List.getElem_drop]
        have := hr (j + i) (by omega)
        rw [getD_drop_take _ _ _ _ (by omega), Nat.add_assoc]
        rwa [getD_drop_take _ _ _ _ (by omega)] at this
    | false =>
      simp only [sPart] at h
      cases hj : ys[j]? with
      | none => rw [hj] at h; exact h.elim
      | some y =>
        rw [hj] at h
        obtain ⟨hj1, hj2⟩ := List.getElem?_eq_some_iff.1 hj
        refine ⟨fun h => (by cases h), fun _ => (by omega), y, ?_, h⟩
        have := hr j hj1
        rw [hj2] at this
        rw [elemV_cell]
        rwa [getD_drop_take _ _ _ _ (by omega)] at this
  | undef => exact hf.elim
  | tup xs => exact hf.elim
  | _ =>
    obtain ⟨hag, hsz⟩ := hf
    cases sh with
    | mk sz ag' =>
    simp only at hag hsz hlen
    subst hag
    cases ag with
    | true => exact h.elim
    | false =>
      obtain ⟨rfl, h2⟩ := h
      exact ⟨fun h => (by cases h), fun _ => (by omega), _, hx, h2⟩

theorem rd_agg {xs : List AV} {v : Value} (h : Rd w S (.agg xs) v) : ∃ cs : Array Value, v = .agg cs ∧ cs.size = xs.length ∧ (∀ i (h : i < xs.length), leaf xs[i]) ∧ ∀ i (h : i < xs.length), Rd w S xs[i] (cs.toList.getD i Go.undef) := by
  cases h with | agg _ cs hl hf hv => exact ⟨cs, rfl, hl, hf, hv⟩

theorem part_rd {sh : Sh} {x : AV} {l : List Value} {o : Nat} (hx : Rd w S x (elemV l o sh)) (hf : fits sh x) (hlen : o + sh.sz ≤ l.length) {ag : Bool} {n j : Nat} {k : AV → Prop} (h : sPart ag n j x k) :
    (ag = true → o + j + n ≤ l.length) ∧ (ag = false → o + j < l.length) ∧ ∃ y, Rd w S y (elemV l (o + j) ⟨n, ag⟩) ∧ k y :=
  part_rv (R := Rd w S) (fun _ _ h => rd_agg h) (fun xs cs h1 h2 h3 => .agg xs cs h1 h2 h3) hx hf hlen h

theorem labs_rd {x : AV} {v : Value} (h : Rd w S x v) : labs x = [] := by
  have key : ∀ xs : List AV, (∀ i (h : i < xs.length), labs xs[i] = []) → labsL xs = [] := by
    intro xs
    induction xs with
    | nil => intro _; rfl
    | cons x r ih =>
      intro h
      simp only [labsL]
      rw [show labs x = [] from h 0 (by simp), ih fun i hi => h (i + 1) (by simpa using hi)]
      rfl
  induction h with
  | agg xs cs hl hf _ ih => simp only [labs]; exact key xs ih
  | tup xs cs hl _ ih => simp only [labs]; exact key xs ih
  | clo f xs cs hl _ ih => simp only [labs]; exact key xs ih
  | _ => rfl
end

section
variable {P : Program} {B : Base} {N : Nat} {φ : Nat → LS} {fp : Nat → List Nat} {S : Nat → Prop} {ts : Env} {m : Mem} {a : Act} {w : World}

theorem mul_le_of_lt {i n s : Nat} (h : i < n) : i * s + s ≤ n * s := by
  have := Nat.mul_le_mul_right s (show i + 1 ≤ n from h)
  rw [Nat.add_mul, Nat.one_mul] at this; exact this

/-- A flat value that is owned (or read) reads over any blocks. -/
theorem flat_rd {S S' : Nat → Prop} {x : AV} {v : Value} {fs : List Nat} (h : Own w S x v fs) (hf : isFlat x = true) : Rd w S' x v ∧ fs = [] := by
  have rdc : ∀ (x : AV) (v : Value), Rd w S x v → isFlat x = true → Rd w S' x v := by
    intro x v h
    induction h with
    | val v h => exact fun _ => .val v h
    | e0 a => exact fun _ => .e0 a
    | agg xs cs hl hf' _ ih =>
      intro hf
      have hall : ∀ (xs : List AV), isFlatL xs = true → ∀ i (h : i < xs.length), isFlat xs[i] = true := by
        intro xs
        induction xs with
        | nil => intro _ i h; exact absurd h (Nat.not_lt_zero _)
        | cons x r ih2 =>
          intro hh i hi
          simp only [isFlatL, Bool.and_eq_true] at hh
          cases i with
          | zero => exact hh.1
          | succ i => exact ih2 hh.2 i (by simpa using hi)
      exact .agg xs cs hl hf' fun i hi => ih i hi (hall xs hf i hi)
    | _ => intro hf; cases hf
  induction h with
  | rd x v h => exact ⟨rdc x v h hf, rfl⟩
  | agg xs cs fss hl hlf hs _ ih =>
    have hall : ∀ (xs : List AV), isFlatL xs = true → ∀ i (h : i < xs.length), isFlat xs[i] = true := by
      intro xs
      induction xs with
      | nil => intro _ i h; exact absurd h (Nat.not_lt_zero _)
      | cons x r ih2 =>
        intro hh i hi
        simp only [isFlatL, Bool.and_eq_true] at hh
        cases i with
        | zero => exact hh.1
        | succ i => exact ih2 hh.2 i (by simpa using hi)
    refine ⟨.agg xs cs hl hlf fun i hi => (ih i hi (hall xs hf i hi)).1, ?_⟩
    have : ∀ l, l ∈ fss → l = [] := by
      intro l hl
      obtain ⟨i, hi, rfl⟩ := List.getElem_of_mem hl
      have := (ih i (hs ▸ hi) (hall xs hf i (hs ▸ hi))).2
      rwa [List.getD_eq_getElem?_getD, List.getElem?_eq_getElem hi] at this
    exact List.flatten_eq_nil_iff.2 this
  | arr => cases hf
  | tup => cases hf

/-- A row whose nested blocks are held for good from here on. -/
theorem RS.undeep (h : RS B N φ fp S ts m a w) {l v b cap : Nat} {sh : Sh} {xs : List AV} (hlk : lookB m l = some (.row v sh true xs)) (hφ : φ l = .at b sh v) {cs : Array Value} {e : TypeId} {fss : List (List Nat)}
    (hgf : fp l = b :: fss.flatten) (hheap : w.heap[b]? = some (.cells cs e (0, 0))) (hcs : cs.size = cap * sh.sz) (hcap : xs.length ≤ cap) (hmx : cap ≤ maxLen) (hff : ∀ i (h : i < xs.length), fits sh xs[i])
    (hfl : fss.length = xs.length) (hvv : ∀ i (h : i < xs.length), Own w (fun _ => False) xs[i] (elemV cs.toList (i * sh.sz) sh) (fss.getD i [])) (hio : l < ioL) :
    ∃ S', RS B N (upd φ l (φ l)) (upd fp l [b]) S' ts ((l, .row v sh false xs) :: m) a w ∧ (∀ c, S c → S' c) ∧ ∀ c, c ∈ fss.flatten → S' c := by
  refine ⟨fun c => S c ∨ c ∈ fss.flatten, ?_, fun _ h => .inl h, fun _ h => .inr h⟩
  have hnod := h.nod l
  rw [hgf] at hnod
  have hb1 : b ∉ fss.flatten := (List.nodup_cons.1 hnod).1
  have hin : ∀ c, c ∈ fss.flatten → c ∈ fp l := fun c hc => by rw [hgf]; exact List.mem_cons_of_mem _ hc
  have hbin : b ∈ fp l := by rw [hgf]; exact List.mem_cons_self ..
  refine h.next l (φ l) [b] _ (.row v sh false xs) (Nat.le_refl _) (SameOut.refl _) (Szs.refl _) (fun _ _ _ => rfl) (fun c hc => ⟨.inl hc, rfl⟩) ?_ (fun l b sh ver cs e _ hb => ⟨cs, e, hb, rfl⟩) (fun _ _ _ _ => rfl) (fun ver _ => LS.le_refl _ _) ?_ ?_ (fun _ _ hk => by cases hk) (by simp) ?_
  · intro c h1 h2
    rcases h1 with h1 | h1
    · exact absurd h1 h2
    · have := h.fpB l c (hin c h1)
      exact ⟨this.1, .inl (this.2.resolve_right fun hh => Nat.lt_irrefl _ (Nat.lt_of_lt_of_le hio hh.choose_spec.2.1)), fun l' hl' hc => hl' (h.dis l' l c hc (hin c h1))⟩
  · rintro ver ⟨k', h1, h2⟩
    rw [hlk] at h1; cases h1; exact h2
  · refine .inr ⟨b, cap, by rw [upd_same]; exact hφ, by simp, fun _ => rfl, ?_⟩
    have : [b] = b :: (List.replicate xs.length ([] : List Nat)).flatten := by
      congr 1
      exact (List.flatten_eq_nil_iff.2 fun l hl => (List.mem_replicate.1 hl).2).symm
    rw [this]
    refine .arr sh xs b cap cs e _ hheap hcs hcap hmx hff (by simp) fun i hi => ?_
    have e1 : (List.replicate xs.length ([] : List Nat)).getD i [] = [] := by simp [List.getD_eq_getElem?_getD, hi]
    rw [e1]
    exact .rd _ _ ((hvv i hi).rd_of (fun _ h => h.elim) fun c hc => .inr (mem_flatten_getD (hfl ▸ hi) hc))
  · intro c hc
    have hcb : c = b := by simpa using hc
    subst hcb
    have := h.fpB l c hbin
    refine ⟨fun hs => ?_, fun l' hl' hc => hl' (h.dis l' l c hc hbin), this.1, this.2⟩
    rcases hs with hs | hs
    · exact h.notS l c hbin hs
    · exact hb1 hs

/-- Loads. -/
theorem run_load {t : TypeId} {ti : TI} (ht : tiOf P t = some ti) (h : RS B N φ fp S ts m a w) {p : AV} {v : Value} (hp : RV w S φ p v) (hpl : ∀ l ver, (l, ver) ∈ labs p → known m l ver) {k : AV → Mem → Prop}
    (hk : sLoad ti.agg ti.size p m k) : Runs B N a (fun x ts' m' => ts' = ts ∧ k x m') ((Instr.loadAt t v).run P w) := by
  have hsure : ∀ (b o : Nat) (r : Value), (loadVar t ⟨b, o, none⟩).run P w = .ok r w → (Instr.loadAt t (.pointer (some ⟨b, o, none⟩))).run P w = .ok r w := by
    intro b o r hr
    simp [Instr.loadAt, Instr.sureAddr, hr]
  unfold sLoad at hk
  split at hk
  · rename_i l ver i j
    have hp1 := rv_ptr hp
    unfold sLoadB at hk
    split at hk
    · rename_i v' xs hlk
      obtain ⟨rfl, rfl, hk⟩ := hk
      have hb := h.mSome l _ hlk
      obtain ⟨b, cs, e, sh, hφ, hfs, hheap, hsz, hlf, hr⟩ := hb
      have hpv := hp1 b sh hφ
      rw [Nat.zero_mul, Nat.zero_add] at hpv
      subst hpv
      cases hag : ti.agg with
      | true =>
        simp only [hag, if_true] at hk
        obtain ⟨hlen, hk⟩ := hk
        refine ⟨_, w, hsure _ _ _ (run_loadVar_at ht hheap j (fun _ => by omega) (fun h => by rw [hag] at h; cases h)), ?_⟩
        refine h.gives (x := .agg ((xs.drop j).take ti.size)) ?_ ?_ ⟨rfl, hk⟩
        · rw [show ti.sh = ⟨ti.size, true⟩ by simp [TI.sh, hag], elemV_agg]
          refine .agg _ _ (by simp; omega) (fun i hi => ?_) fun i hi => ?_
          · simp only [List.length_take, List.length_drop] at hi
            simp only [List.getElem_take, List.getElem_drop]
            exact hlf _ (by omega)
          · simp only [List.length_take, List.length_drop] at hi
            simp only [List.getElem_take, List.getElem_drop]
            rw [getD_drop_take _ _ _ _ (by omega)]
            exact hr (j + i) (by omega)
        · intro l' ver' hl'
          simp only [labs] at hl'
          obtain ⟨i, hi, hl2⟩ := of_mem_labsL hl'
          simp only [List.length_take, List.length_drop] at hi
          simp only [List.getElem_take, List.getElem_drop] at hl2
          exact h.bl l v' xs hlk l' ver' (mem_labsL (by omega) hl2)
      | false =>
        simp only [hag, if_false, Bool.false_eq_true] at hk
        cases hj : xs[j]? with
        | none => rw [hj] at hk; exact hk.elim
        | some y =>
          rw [hj] at hk
          obtain ⟨hj1, hj2⟩ := List.getElem?_eq_some_iff.1 hj
          refine ⟨_, w, hsure _ _ _ (run_loadVar_at ht hheap j (fun h => by rw [hag] at h; cases h) (fun _ => by omega)), ?_⟩
          refine h.gives (x := y) ?_ ?_ ⟨rfl, hk⟩
          · rw [show ti.sh = ⟨ti.size, false⟩ by simp [TI.sh, hag], elemV_cell]
            have := hr j hj1
            rwa [hj2] at this
          · intro l' ver' hl'
            exact h.bl l v' xs hlk l' ver' (mem_labsL hj1 (by rw [hj2]; exact hl'))
    · rename_i v' sh deep xs hlk
      obtain ⟨rfl, hk⟩ := hk
      cases hx : xs[i]? with
      | none => rw [hx] at hk; exact hk.elim
      | some x =>
        rw [hx] at hk
        obtain ⟨y0, hk0, hput⟩ := sPart_out (k := fun y => sUndeep deep (isFlat x) l (.row v' sh false xs) m fun m' => k y m') hk
        obtain ⟨hi1, hi2⟩ := List.getElem?_eq_some_iff.1 hx
        have hb := h.mSome l _ hlk
        rcases hb with ⟨_, hnil, _⟩ | ⟨b, cap, hφ, hbm, hdp, hown⟩
        · subst hnil; exact absurd hi1 (Nat.not_lt_zero _)
        · have hpv := hp1 b sh hφ
          subst hpv
          generalize hgf : fp l = fs at hown hbm hdp
          cases hown with
          | rd _ _ hrd =>
            exact absurd hbm (by simp)
          | arr _ _ _ _ cs e fss hheap hcs hcap hmx hff hfl hvv =>
            have hxo := hvv i hi1
            have hxf := hff i hi1
            rw [hi2] at hxo hxf
            have hroom : i * sh.sz + sh.sz ≤ cs.toList.length := by
              have h1 := mul_le_of_lt (s := sh.sz) (Nat.lt_of_lt_of_le hi1 hcap)
              simp only [Array.length_toList]; omega
            -- either nothing of the element lies in memory, or the row is laid open
            have main : ∀ (S' : Nat → Prop) (m' : Mem) (φ' : Nat → LS) (fp' : Nat → List Nat), RS B N φ' fp' S' ts m' a w → Rd w S' x (elemV cs.toList (i * sh.sz) sh) →
                sPart ti.agg ti.size j x (fun y => k y m') →
                Runs B N a (fun x ts' m' => ts' = ts ∧ k x m') ((Instr.loadAt t (.pointer (some ⟨b, i * sh.sz + j, none⟩))).run P w) := by
              intro S' m' φ' fp' hRS hrd hpt
              obtain ⟨g1, g2, y, hy, hky⟩ := part_rd hrd hxf hroom hpt
              refine ⟨_, w, hsure _ _ _ (run_loadVar_at ht hheap (i * sh.sz + j) (fun h => by simpa using g1 h) (fun h => by simpa using g2 h)), ?_⟩
              exact hRS.gives (x := y) (.rd _ _ hy) (fun l' ver' hl' => by rw [labs_rd hy] at hl'; cases hl') ⟨rfl, hky⟩
            cases hdeep : deep with
            | false =>
              subst hdeep
              have hfs := hdp rfl
              have hfl0 : fss.getD i [] = [] := by
                have h1 : fss.flatten = [] := by simpa using hfs
                have h2 := List.flatten_eq_nil_iff.1 h1
                rw [List.getD_eq_getElem?_getD, List.getElem?_eq_getElem (hfl ▸ hi1)]
                exact h2 _ (List.getElem_mem _)
              rw [hfl0] at hxo
              exact main S m φ fp h (hxo.rd_of (fun _ h => h) (by simp)) (hput _ (by simpa [sUndeep] using hk0))
            | true =>
              subst hdeep
              cases hflat : isFlat x with
              | true => exact main S m φ fp h (flat_rd hxo hflat).1 (hput _ (by simpa [sUndeep, hflat] using hk0))
              | false =>
                simp only [hflat, sUndeep, and_self, if_true] at hk0
                obtain ⟨S', hRS, hS1, hS2⟩ := h.undeep hlk hφ hgf hheap hcs hcap hmx hff hfl hvv hk0.1
                exact main S' _ _ _ hRS (hxo.rd_of (fun _ h => h.elim) fun c hc => hS2 c (mem_flatten_getD (hfl ▸ hi1) hc)) (hput _ hk0.2)
    · exact hk.elim
  · rename_i sh xs i j
    have hrd := rv_eptr hp
    cases hx : xs[i]? with
    | none => rw [hx] at hk; exact hk.elim
    | some x =>
      rw [hx] at hk
      obtain ⟨hi1, hi2⟩ := List.getElem?_eq_some_iff.1 hx
      cases hrd with
      | eptr _ _ _ _ b off cs e fr hSb hheap hlen hff hvv =>
        have hxo := hvv i hi1
        have hxf := hff i hi1
        rw [hi2] at hxo hxf
        have hroom : off + i * sh.sz + sh.sz ≤ cs.toList.length := by
          have h1 := mul_le_of_lt (s := sh.sz) hi1
          simp only [Array.length_toList]; omega
        obtain ⟨g1, g2, y, hy, hky⟩ := part_rd (k := fun y => k y m) hxo hxf hroom hk
        refine ⟨_, w, hsure _ _ _ (run_loadVar_at ht hheap (off + i * sh.sz + j) (fun h => by simpa using g1 h) (fun h => by simpa using g2 h)), ?_⟩
        exact h.gives (x := y) (.rd _ _ hy) (fun l' ver' hl' => by rw [labs_rd hy] at hl'; cases hl') ⟨rfl, hky⟩
  · exact hk.elim


theorem part_fits {x : AV} {sh : Sh} (hs : sh.ag = false) (hx : fits sh x) {n j : Nat} {k : AV → Prop} (hk : sPart false n j x k) : j = 0 ∧ k x := by
  cases x <;> first | exact hk | exact hx.elim | (have := hx.1; rw [hs] at this; cases this)

/-- Loads; a row in a caller's row is lent. -/
theorem run_loadX {t : TypeId} {ti : TI} (ht : tiOf P t = some ti) (h : RS B N φ fp S ts m a w) {p : AV} {v : Value} (hp : RV w S φ p v) (hpl : ∀ l ver, (l, ver) ∈ labs p → known m l ver) {k : AV → Mem → Prop}
    (hk : sLoadX ti.agg ti.size p m k) : Runs B N a (fun x ts' m' => ts' = ts ∧ k x m') ((Instr.loadAt t v).run P w) := by
  cases p with
  | eptr sh xs i j => exact run_load ht h hp hpl hk
  | ptr l ver i j =>
    have hk1 : if l < ioL then sLoadB ti.agg ti.size l ver i j (lookB m l) m k else sLoadI ti.agg ti.size l ver i j (lookB m l) m k := hk
    split at hk1
    · exact run_load ht h hp hpl hk1
    · unfold sLoadI at hk1
      split at hk1
      · rename_i v' dp xs hag hlk
        obtain ⟨rfl, hk2⟩ := hk1
        cases hx : xs[i]? with
        | none => rw [hx] at hk2; exact hk2.elim
        | some x =>
          rw [hx] at hk2
          have hk2 : sPart false ti.size j x fun y => sLend dp (isFlat x) y l v' xs i m k := hk2
          obtain ⟨hi1, hi2⟩ := List.getElem?_eq_some_iff.1 hx
          have hb := h.mSome l _ hlk
          rcases hb with ⟨_, hnil, _⟩ | ⟨b, cap, hφ, hbm, hdp, hown⟩
          · subst hnil; exact absurd hi1 (Nat.not_lt_zero _)
          · have hown0 := hown
            generalize hgf : fp l = fs at hown hbm hdp
            cases hown with
            | rd _ _ hrd => exact absurd hbm (by simp)
            | arr _ _ _ _ cs e fss hheap hcs hcap hmx hff hfl hvv =>
              have hxf := hff i hi1
              rw [hi2] at hxf
              by_cases hc : dp = true ∧ isFlat x = false
              · obtain ⟨hj0, hk3⟩ := part_fits (sh := ⟨1, false⟩) rfl hxf hk2
                subst hj0
                unfold sLend at hk3
                rw [if_pos hc] at hk3
                obtain ⟨rfl, hfl2⟩ := hc
                have hpv := rv_ptr hp b _ hφ
                simp only [Nat.mul_one, Nat.add_zero] at hpv
                subst hpv
                have hi3 : i < cs.toList.length := by
                  simp only [Array.length_toList]; rw [hcs]; simp only [Nat.mul_one]; exact Nat.lt_of_lt_of_le hi1 hcap
                have hRS : RS B N (upd φ l (φ l)) (upd fp l (fp l)) S ts ((l, .lent v' xs i (cs.toList.getD i Go.undef)) :: m) a w := by
                  refine h.next l (φ l) (fp l) S _ (Nat.le_refl _) (SameOut.refl _) (Szs.refl _) (fun _ _ _ => rfl) (fun c hc => ⟨hc, rfl⟩) (fun c h1 h2 => absurd h1 h2) (fun l b sh ver cs e _ hb => ⟨cs, e, hb, rfl⟩)
                    (fun _ _ _ _ => rfl) (fun ver _ => LS.le_refl _ _) ?_ ?_ (fun _ _ hk => by cases hk) (h.nod l) ?_
                  · rintro ver ⟨k', h1, h2⟩
                    rw [hlk] at h1; cases h1; exact h2
                  · exact ⟨b, cap, cs, e, (0, 0), by rw [upd_same]; exact hφ, by rw [hgf]; exact hbm, hown0, hheap, hi1, rfl⟩
                  · intro c hc
                    have := h.fpB l c hc
                    exact ⟨h.notS l c hc, fun l' hl' hc' => hl' (h.dis l' l c hc' hc), this.1, this.2⟩
                have hsure : ∀ (b o : Nat) (r : Value), (loadVar t ⟨b, o, none⟩).run P w = .ok r w → (Instr.loadAt t (.pointer (some ⟨b, o, none⟩))).run P w = .ok r w := by
                  intro b o r hr
                  simp [Instr.loadAt, Instr.sureAddr, hr]
                have hxo := hvv i hi1
                rw [hi2, elemV_cell] at hxo
                have e0 : (cs.toList.getD (i * 1) Go.undef) = cs.toList.getD i Go.undef := by rw [Nat.mul_one]
                rw [e0] at hxo
                have hlx : leaf x := by
                  cases x <;> first | trivial | exact hxf.elim | (have := hxf.1; cases this)
                refine ⟨_, w, hsure _ _ _ (run_loadVar_at ht hheap i (fun h => by rw [hag] at h; cases h) (fun _ => hi3)), ?_⟩
                rw [show ti.sh = ⟨ti.size, false⟩ by simp [TI.sh, hag], elemV_cell]
                exact hRS.gives (x := .val (cs.toList.getD i Go.undef)) (.rd _ _ (.val _ (hxo.leaf_oneCell hlx))) (fun l' ver' hl' => by cases hl') ⟨rfl, hk3 _⟩
              · unfold sLend at hk2
                simp only [if_neg hc] at hk2
                refine run_load ht h hp hpl (k := k) ?_
                show sLoadB ti.agg ti.size l v' i j (lookB m l) m k
                rw [hlk, hag]
                refine ⟨rfl, ?_⟩
                rw [hx]
                show sPart false ti.size j x fun y => sUndeep dp (isFlat x) l (.row v' ⟨1, false⟩ false xs) m fun m' => k y m'
                unfold sUndeep
                simp only [if_neg hc]; exact hk2
      · exact run_load ht h hp hpl hk1
  | _ => exact hk.elim

end
end Go.Vc
